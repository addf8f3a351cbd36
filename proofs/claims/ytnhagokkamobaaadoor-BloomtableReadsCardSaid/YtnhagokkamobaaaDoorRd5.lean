/- Contracts of the reader's Bool, Count and End, and of NewReader. -/
import Derived.Test.YtnhagokkamobaaaDoorRd4
namespace Go.Proofs.YtnhagokkamobaaaDoor
open Go.RowKit
variable {X : Option Addr × Nat}

/-- The error at the end. -/
def Rd.end_ (r : Rd) : Int := if r.err ≠ 0 then r.err else if r.off < r.D.length then 3 else 0

set_option maxRecDepth 100000 in
theorem rEnd (br : Nat) (r : Rd) (w : World) (hr : RdAt X w br r) (hk : r.Ok) :
    Calls Tryd.prog 65 #[Value.pointer (some ⟨br, 0, none⟩)] w fun e w' => e = .returned (.tuple #[Value.int .i64 (r.off : Int), Value.int .i64 r.end_]) ∧ Fr [] w w' := by
  obtain ⟨A, c, hX, ha, hrow⟩ := hr
  have c0 : w.cell? ⟨br, 0, none⟩ = some (.slice A r.D.length c) := by rw [ha.cell]; rfl
  have c1 : w.cell? ⟨br, 1, none⟩ = some (Value.int .i64 (r.off : Int)) := by rw [ha.cell]; rfl
  have c3 : w.cell? ⟨br, 3, none⟩ = some (Value.int .i64 r.err) := by rw [ha.cell]; rfl
  have hDI : (r.D.length : Int) ≤ 4294967296 := by have := hk.len; omega
  clear ha hrow hk
  by_cases h0 : r.err = 0
  · have hb : (r.err != 0) = false := by simpa using h0
    by_cases hl : r.off < r.D.length
    · have hlI : decide (r.off < r.D.length) = true := by simpa using hl
      have he : r.end_ = 3 := by unfold Rd.end_; rw [if_neg (by simpa using h0), if_pos hl]
      have HE := Lib.hid he
      clear h0 he
      go_enter Tryd.func65, Tryd.ntmps65
      go_wp2_with fail
      go_quiet (fail)
      go_wp2_with fail
      go_ret2
      rw [HE.out]
      exact ⟨rfl, (Fr.refl _ _).drewN _⟩
    · have hlI : decide (r.off < r.D.length) = false := by simpa using hl
      have he : r.end_ = 0 := by unfold Rd.end_; rw [if_neg (by simpa using h0), if_neg hl]
      have HE := Lib.hid he
      clear h0 he
      go_enter Tryd.func65, Tryd.ntmps65
      go_wp2_with fail
      go_quiet (fail)
      go_wp2_with fail
      go_ret2
      rw [HE.out]
      exact ⟨rfl, (Fr.refl _ _).drewN _⟩
  · have hb : (r.err != 0) = true := by simpa using h0
    have he : r.end_ = r.err := by unfold Rd.end_; rw [if_pos h0]
    have HE := Lib.hid he
    clear h0 he
    go_enter Tryd.func65, Tryd.ntmps65
    go_wp2_with fail
    go_quiet (fail)
    go_wp2_with fail
    go_ret2
    rw [HE.out]
    exact ⟨rfl, (Fr.refl _ _).drewN _⟩

set_option maxRecDepth 100000 in
theorem newReader_any (A : Option Addr) (c : Nat) (D : List UInt8) (w : World) (hD : D.length ≤ 4294967296) (hrow : RowIn w A (B8 D)) :
    Calls Tryd.prog 61 #[.slice A D.length c] w fun e w' => ∃ br A2 c2, e = .returned (Value.pointer (some ⟨br, 0, none⟩)) ∧ w.heap.size ≤ br ∧ Fr [] w w' ∧ RdAt (A2, c2) w' br ⟨D, 0, 0, 0⟩ ∧ w'.ownsRow w.heap.size 5 1 (.slice A2 D.length c2) D.length (B8 D) := by
  have H := Lib.hid (And.intro hrow hD)
  clear hrow hD
  go_enter Tryd.func61, Tryd.ntmps61
  go_wp2_with (at_builtin; refine wpList_app el_u8 rfl (.tmp 3) (.tmp 4) rfl w.heap.size _ 0 [] rfl (by exact World.ownsRow_made _ #[] 0 (Nat.le_refl _) (Nat.zero_le _) rfl) A _ c (B8 D) rfl (by rw [B8_length]; simp) (by exact CellsAt.of_row (H.out.1.fr0 ((Fr.refl _ _).alloc _))) (B8_one _) (by have := H.out.2; omega) (by simp) ?_; intro v2 w2 hown2 hg2 hb2; obtain ⟨A2, c2, rfl⟩ := ownsRow_form hown2)
  go_ret
  have hf : Fr [] w w2 := ((Fr.refl [] w).alloc _).grown hg2 (fun g hg => .inr (by have hg' : some w.heap.size = some g := hg; injection hg' with hg'; omega))
  refine ⟨w2.heap.size, A2, c2, rfl, hf.size, hf.alloc _, ⟨A2, c2, rfl, ?_, ?_⟩, ?_⟩
  · have := At.new w2 124 [.slice A2 D.length c2, Value.int .i64 0, Value.int .i64 0, Value.int .i64 0]
    simpa using this
  · have := ownsRow_base hown2 (Nat.zero_le w.heap.size)
    simpa using this.alloc _
  · simpa using hown2.alloc _

end Go.Proofs.YtnhagokkamobaaaDoor
