/- Contract of the writer's Done. -/
import Derived.Test.YtflabbdnkoejjaaWire2
namespace Go.Proofs.Ytflabbdnkoejjaa
open Go.RowKit

/-- A call has returned a new slice of bytes. -/
structure NewBytes (bs : List UInt8) (w : World) (v : Value) (w' : World) : Prop where
  own : w'.ownsRow w.heap.size 5 1 v bs.length (B8 bs)
  fr : Fr [] w w'

set_option maxRecDepth 100000 in
set_option maxHeartbeats 2000000 in
theorem wDone (base bw : Nat) (xs : List UInt8) (w : World) (hw : WriterAt w base bw xs) (hl : xs.length ≤ 1048576) :
    Calls Try.prog 40 #[Value.pointer (some ⟨bw, 0, none⟩)] w fun e w' => ∃ v, e = .returned (.tuple #[v, Value.int .i64 0]) ∧ NewBytes xs w v w' := by
  obtain ⟨v, ha, ho⟩ := hw
  obtain ⟨A, c, rfl⟩ := ownsRow_form ho
  have h0 : w.cell? ⟨bw, 0, none⟩ = some (.slice A xs.length c) := by rw [ha.cell]; rfl
  have h1 : w.cell? ⟨bw, 1, none⟩ = some (Value.int .i64 0) := by rw [ha.cell]; rfl
  have h2 : ((xs.length : Nat) : Int) ≤ 1048576 := by omega
  have hlt := ha.lt
  have H := Lib.hid ho
  have HL := Lib.hid hl
  clear ha ho hl
  go_enter Try.func40, Try.ntmps40
  go_wp2_with (at_builtin; refine wpList_app el_u8 rfl (.tmp 19) (.tmp 23) rfl w.heap.size _ 0 [] rfl (by exact World.ownsRow_made _ #[] 0 (Nat.le_refl _) (Nat.zero_le _) rfl) A _ c (B8 xs) rfl (by rw [B8_length]; simp) (by exact CellsAt.of_own (H.out.alloc _)) (B8_one _) (by have := HL.out; omega) (by simp) ?_; intro v2 w2 hown2 hg2 hb2)
  go_ret2
  refine ⟨v2, rfl, ?_, ?_⟩
  · simpa using hown2
  · exact ((Fr.refl [] w).alloc _).grown hg2 (fun g hg => .inr (by have hg' : some w.heap.size = some g := hg; injection hg' with hg'; omega))

end Go.Proofs.Ytflabbdnkoejjaa
