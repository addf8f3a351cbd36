/- Contracts of the reference's Read, next and number of layer 25. -/
import Derived.Test.YtflabbdnkoejjaaRefDc2
import Derived.Test.YtflabbdnkoejjaaDcWalk2
import Derived.Test.YtflabbdnkoejjaaRef6
import Derived.Test.YtflabbdnkoejjaaLaws2
namespace Go.Proofs.Ytflabbdnkoejjaa
open Go.RowKit

/-- Cells of a block, stored one behind the other. -/
def setL (w : World) (b : Nat) : Nat → List Value → World
  | _, [] => w
  | i, v :: l => setL (w.setCell ⟨b, i, none⟩ v) b (i + 1) l
theorem Fr.setL {S : List Nat} {a : World} {b : Nat} (hb : b ∈ S ∨ a.heap.size ≤ b) : ∀ (l : List Value) (i : Nat) (w : World), Fr S a w → Fr S a (setL w b i l)
  | [], _, _, h => h
  | _ :: l, i, _, h => Fr.setL hb l (i + 1) _ (h.setCell (by exact hb) _)
theorem At.setL {b' b : Nat} {t : TypeId} {l' : List Value} (hb : b' ≠ b) : ∀ (l : List Value) (i : Nat) (w : World), At w b' t l' → At (setL w b i l) b' t l'
  | [], _, _, h => h
  | _ :: l, i, _, h => At.setL hb l (i + 1) _ (h.far (by exact hb) _)

def RClk.step (c : RClk) (wall : Int) : Int := if c.has = true ∧ c.ref ≤ wall ∧ wall - c.ref ≤ c.leap then min (wall - c.ref) (999999 - c.day) else 0
def RClk.rd (c : RClk) (wall : Int) : RClk := { c with day := c.day + c.step wall, own := c.own + c.step wall, ref := wall, has := true }

theorem eight {w : World} {b : Nat} {t : TypeId} {v0 v1 v2 v3 v4 v5 v6 v7 : Value} (h : At w b t [v0, v1, v2, v3, v4, v5, v6, v7]) :
    (w.cell? ⟨b, 0, none⟩ = some v0 ∧ w.cell? ⟨b, 1, none⟩ = some v1 ∧ w.cell? ⟨b, 2, none⟩ = some v2 ∧ w.cell? ⟨b, 3, none⟩ = some v3 ∧ w.cell? ⟨b, 4, none⟩ = some v4 ∧ w.cell? ⟨b, 5, none⟩ = some v5 ∧ w.cell? ⟨b, 6, none⟩ = some v6 ∧ w.cell? ⟨b, 7, none⟩ = some v7) ∧
    (w.frozen? ⟨b, 0, none⟩ = false ∧ w.frozen? ⟨b, 1, none⟩ = false ∧ w.frozen? ⟨b, 2, none⟩ = false ∧ w.frozen? ⟨b, 3, none⟩ = false ∧ w.frozen? ⟨b, 4, none⟩ = false ∧ w.frozen? ⟨b, 5, none⟩ = false ∧ w.frozen? ⟨b, 6, none⟩ = false ∧ w.frozen? ⟨b, 7, none⟩ = false) :=
  ⟨⟨h.cell 0, h.cell 1, h.cell 2, h.cell 3, h.cell 4, h.cell 5, h.cell 6, h.cell 7⟩, h.frozen 0, h.frozen 1, h.frozen 2, h.frozen 3, h.frozen 4, h.frozen 5, h.frozen 6, h.frozen 7⟩

def RdRes (c : RClk) (A : Option Addr) (cp : Nat) (wall : Int) (w : World) (e : Ending) (w' : World) : Prop := e = .returned (.agg ((c.rd wall).cells A cp).toArray) ∧ Fr [] w w'

set_option maxRecDepth 100000 in
set_option maxHeartbeats 4000000 in
theorem refRead_any (c : RClk) (A : Option Addr) (cp : Nat) (w : World) (wall : Int) (hl0 : 0 ≤ c.leap) (hl1 : c.leap ≤ 1000) (hw0 : -9223372036854775808 ≤ c.ref) (hw1 : wall ≤ 9223372036854775807)
    (hd0 : 0 ≤ c.day) (hd1 : c.day ≤ 999999) (ho0 : 0 ≤ c.own) (ho1 : c.own ≤ 1000000000000) :
    Calls Try.prog 19 #[.agg (c.cells A cp).toArray, Value.int .i64 wall] w (RdRes c A cp wall w) := by
  obtain ⟨first, day, leap, quorum, own, has, ref, told⟩ := c
  simp only at hl0 hl1 hw0 hd0 hd1 ho0 ho1
  show Calls Try.prog 19 #[.agg #[Value.int .i64 first, Value.int .i64 day, Value.int .i64 leap, Value.int .i64 quorum, Value.int .i64 own, Value.bool has, Value.int .i64 ref, .slice A told.length cp], Value.int .i64 wall] w (RdRes ⟨first, day, leap, quorum, own, has, ref, told⟩ A cp wall w)
  go_enter Try.func19, Try.ntmps19
  go_wp2_with fail
  obtain ⟨W, hW⟩ : ∃ W, W = (w.alloc (.cells #[Value.int .i64 first, Value.int .i64 day, Value.int .i64 leap, Value.int .i64 quorum, Value.int .i64 own, Value.bool has, Value.int .i64 ref, .slice A told.length cp] 28)).alloc (.cells #[Value.int .i64 0, Value.int .i64 0, Value.int .i64 0, Value.int .i64 0, Value.int .i64 0, Value.bool false, Value.int .i64 0, .slice none 0 0] 28) := ⟨_, rfl⟩
  rw [← hW]
  have HW : Hid (Fr [] w W ∧ At W w.heap.size 28 [Value.int .i64 first, Value.int .i64 day, Value.int .i64 leap, Value.int .i64 quorum, Value.int .i64 own, Value.bool has, Value.int .i64 ref, .slice A told.length cp] ∧ At W (w.heap.size + 1) 28 [Value.int .i64 0, Value.int .i64 0, Value.int .i64 0, Value.int .i64 0, Value.int .i64 0, Value.bool false, Value.int .i64 0, .slice none 0 0]) := by
    rw [hW]
    obtain ⟨h0, h1⟩ := two_new w 28 28 [Value.int .i64 first, Value.int .i64 day, Value.int .i64 leap, Value.int .i64 quorum, Value.int .i64 own, Value.bool has, Value.int .i64 ref, .slice A told.length cp] [Value.int .i64 0, Value.int .i64 0, Value.int .i64 0, Value.int .i64 0, Value.int .i64 0, Value.bool false, Value.int .i64 0, .slice none 0 0] (Fr.refl [] _)
    exact ⟨((Fr.refl _ _).alloc _).alloc _, h0, h1⟩
  clear hW
  obtain ⟨⟨c0, c1, c2, c3, c4, c5, c6, c7⟩, z0, z1, z2, z3, z4, z5, z6, z7⟩ := eight HW.out.2.1
  obtain ⟨⟨d0, d1, d2, d3, d4, d5, d6, d7⟩, y0, y1, y2, y3, y4, y5, y6, y7⟩ := eight HW.out.2.2
  have HNo : ∀ n, Hid (¬ (has = true ∧ ref ≤ wall ∧ wall - ref ≤ leap) → RdRes ⟨first, day, leap, quorum, own, has, ref, told⟩ A cp wall w (.returned (.agg #[Value.int .i64 first, Value.int .i64 day, Value.int .i64 leap, Value.int .i64 quorum, Value.int .i64 own, Value.bool true, Value.int .i64 wall, .slice A told.length cp]))
      (setL (setL (W.drewN n) w.heap.size 6 [Value.int .i64 wall] |>.setCell ⟨w.heap.size, 5, none⟩ (Value.bool true)) (w.heap.size + 1) 0 [Value.int .i64 first, Value.int .i64 day, Value.int .i64 leap, Value.int .i64 quorum, Value.int .i64 own, Value.bool true, Value.int .i64 wall, .slice A told.length cp])) := by
    intro n hno
    refine ⟨?_, ?_⟩
    · have hs : RClk.step ⟨first, day, leap, quorum, own, has, ref, told⟩ wall = 0 := if_neg hno
      unfold RClk.rd
      rw [hs]
      simp only [RClk.cells, Int.add_zero]
    · exact Fr.setL (.inr (by omega)) _ _ _ (((Fr.setL (.inr (Nat.le_refl _)) _ _ _ (HW.out.1.drewN n))).setCell (.inr (Nat.le_refl _)) _)
  have HN := Lib.hid HNo
  clear HNo
  cases has
  · go_quiet (fail)
    go_wp2_with fail
    refine bodyPost_ret (v := .agg #[Value.int .i64 first, Value.int .i64 day, Value.int .i64 leap, Value.int .i64 quorum, Value.int .i64 own, Value.bool true, Value.int .i64 wall, .slice A told.length cp]) (by simp [results, Try.results19, go_sem, *]) rfl ?_
    exact (HN.out _).out (by simp)
  · by_cases hlt : wall < ref
    · go_quiet (fail)
      go_wp2_with fail
      refine bodyPost_ret (v := .agg #[Value.int .i64 first, Value.int .i64 day, Value.int .i64 leap, Value.int .i64 quorum, Value.int .i64 own, Value.bool true, Value.int .i64 wall, .slice A told.length cp]) (by simp [results, Try.results19, go_sem, *]) rfl ?_
      exact (HN.out _).out (by omega)
    · by_cases hgt : leap < wall - ref
      · have hd : decide (leap < IntKind.u64.wrap (IntKind.u64.wrap wall - IntKind.u64.wrap ref)) = true := by
          rw [u64_diff _ _ (by omega) hw1 hw0]; simpa using hgt
        go_quiet (fail)
        go_wp2_with fail
        refine bodyPost_ret (v := .agg #[Value.int .i64 first, Value.int .i64 day, Value.int .i64 leap, Value.int .i64 quorum, Value.int .i64 own, Value.bool true, Value.int .i64 wall, .slice A told.length cp]) (by simp [results, Try.results19, go_sem, *]) rfl ?_
        exact (HN.out _).out (by omega)
      · have hd : decide (leap < IntKind.u64.wrap (IntKind.u64.wrap wall - IntKind.u64.wrap ref)) = false := by
          rw [u64_diff _ _ (by omega) hw1 hw0]; simpa using hgt
        have HY : ∀ n s, Hid (s = min (wall - ref) (999999 - day) → RdRes ⟨first, day, leap, quorum, own, true, ref, told⟩ A cp wall w (.returned (.agg #[Value.int .i64 first, Value.int .i64 (day + s), Value.int .i64 leap, Value.int .i64 quorum, Value.int .i64 (own + s), Value.bool true, Value.int .i64 wall, .slice A told.length cp]))
            (setL (setL (setL (setL (W.drewN n) w.heap.size 6 [Value.int .i64 wall] |>.setCell ⟨w.heap.size, 5, none⟩ (Value.bool true)) w.heap.size 1 [Value.int .i64 (day + s)]) w.heap.size 4 [Value.int .i64 (own + s)]) (w.heap.size + 1) 0 [Value.int .i64 first, Value.int .i64 (day + s), Value.int .i64 leap, Value.int .i64 quorum, Value.int .i64 (own + s), Value.bool true, Value.int .i64 wall, .slice A told.length cp])) := by
          intro n s hs
          refine ⟨?_, ?_⟩
          · have hs' : RClk.step ⟨first, day, leap, quorum, own, true, ref, told⟩ wall = s := by rw [hs]; exact if_pos ⟨rfl, by simp only; omega, by simp only; omega⟩
            unfold RClk.rd
            rw [hs']
            simp only [RClk.cells]
          · exact Fr.setL (.inr (by omega)) _ _ _ (Fr.setL (.inr (Nat.le_refl _)) _ _ _ (Fr.setL (.inr (Nat.le_refl _)) _ _ _ (((Fr.setL (.inr (Nat.le_refl _)) _ _ _ (HW.out.1.drewN n))).setCell (.inr (Nat.le_refl _)) _)))
        have HYY := Lib.hid HY
        clear HY
        have hwr : IntKind.i64.wrap (wall - ref) = wall - ref := IntWalk.i64_in _ (by omega)
        have hb1 : 0 ≤ min (wall - ref) (999999 - day) := by omega
        have hb2 : min (wall - ref) (999999 - day) ≤ 1000 := by omega
        go_quiet (fail)
        go_wp2_with fail
        refine bodyPost_ret (v := .agg #[Value.int .i64 first, Value.int .i64 (day + min (wall - ref) (999999 - day)), Value.int .i64 leap, Value.int .i64 quorum, Value.int .i64 (own + min (wall - ref) (999999 - day)), Value.bool true, Value.int .i64 wall, .slice A told.length cp]) (by simp [results, Try.results19, go_sem, *]) rfl ?_
        exact (HYY.out _ _).out rfl

set_option maxRecDepth 100000 in
theorem refNext_any (br : Nat) (A : Option Addr) (c : Nat) (r : Rd) (w : World) (h : RR w br A c r) :
    Calls Try.prog 43 #[Value.pointer (some ⟨br, 0, none⟩)] w fun e w' => e = .returned (Value.int .i64 r.int.1) ∧ Fr [br] w w' ∧ RR w' br A c r.int.2 := by
  have H := Lib.hid h
  clear h
  go_enter Try.func43, Try.ntmps43
  go_wp2_with fail
  refine (rrInt br A c r 0 _ H.out).mono ?_
  rintro e w1 ⟨rfl, hf1, hr1⟩
  have H1 := Lib.hid (And.intro hf1 hr1)
  clear hf1 hr1
  have hfl := run_field_agg (P := Try.prog) 76 _ 2 _ [Value.int .i64 2, .int .u64 0, Value.int .i64 r.int.1, Value.bool false, .string ⟨#[]⟩, Value.int .i64 0] (Value.int .i64 r.int.1) Try.underlying76 rfl (by kernel_rfl) (fun _ => by kernel_rfl) rfl
  go_wp2_with fail
  go_ret
  exact ⟨rfl, H1.out⟩

set_option maxHeartbeats 4000000 in
theorem refNumb_any (n : Int) (w : World) : Calls Try.prog 41 #[Value.int .i64 n] w fun e w' => e = .returned (.agg #[Value.int .i64 2, .int .u64 0, Value.int .i64 n, Value.bool false, .string ⟨#[]⟩, Value.int .i64 0]) ∧ Fr [] w w' := by
  go_enter Try.func41, Try.ntmps41
  go_wp2_with fail
  exact bodyPost_ret (v := .agg #[Value.int .i64 2, .int .u64 0, Value.int .i64 n, Value.bool false, .string ⟨#[]⟩, Value.int .i64 0]) (by simp [results, Try.results41, go_sem]) rfl ⟨rfl, (Fr.refl _ _).alloc _⟩

end Go.Proofs.Ytflabbdnkoejjaa
