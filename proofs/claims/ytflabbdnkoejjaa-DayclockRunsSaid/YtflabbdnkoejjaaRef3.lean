/- Contracts of the reference's read. Printed by rrgen.py. -/
import Derived.Test.YtflabbdnkoejjaaRef2
namespace Go.Proofs.Ytflabbdnkoejjaa
open Go.RowKit

theorem two_new (w : World) (t t' : TypeId) (l l' : List Value) {w1 : World} (hf : Fr [] ((w.alloc (.cells l.toArray t)).alloc (.cells l'.toArray t')) w1) : At w1 w.heap.size t l ∧ At w1 (w.heap.size + 1) t' l' := by
  refine ⟨((At.new w t l).alloc _).fr hf (by simp), ?_⟩
  have := (At.new (w.alloc (.cells l.toArray t)) t' l').fr hf (by simp)
  simpa using this

theorem set6 (w : World) {w1 : World} (h : Fr [] w w1) (v0 v1 v2 v3 v4 v5 : Value) :
    Fr [] w ((((((w1.setCell ⟨w.heap.size, 0, none⟩ v0).setCell ⟨w.heap.size, 1, none⟩ v1).setCell ⟨w.heap.size, 2, none⟩ v2).setCell ⟨w.heap.size, 3, none⟩ v3).setCell ⟨w.heap.size, 4, none⟩ v4).setCell ⟨w.heap.size, 5, none⟩ v5) :=
  (((((h.setCell (p := ⟨w.heap.size, 0, none⟩) (.inr (Nat.le_refl _)) v0).setCell (p := ⟨w.heap.size, 1, none⟩) (.inr (Nat.le_refl _)) v1).setCell (p := ⟨w.heap.size, 2, none⟩) (.inr (Nat.le_refl _)) v2).setCell (p := ⟨w.heap.size, 3, none⟩) (.inr (Nat.le_refl _)) v3).setCell (p := ⟨w.heap.size, 4, none⟩) (.inr (Nat.le_refl _)) v4).setCell (p := ⟨w.heap.size, 5, none⟩) (.inr (Nat.le_refl _)) v5

set_option maxRecDepth 100000 in
set_option maxHeartbeats 4000000 in
theorem refread_int_none (A : Option Addr) (c : Nat) (D : List UInt8) (off : Nat) (most : Int) (w : World) (hrow : RowIn w A (B8 D)) (ho : off ≤ D.length) (hD : D.length ≤ 4294967296) (h : rdNum D off = none) :
    Calls Try.prog 60 #[.slice A D.length c, Value.int .i64 (off : Int), Value.int .i64 2, Value.int .i64 most] w fun e w' => e = .returned (.tuple #[.agg #[Value.int .i64 2, .int .u64 0, Value.int .i64 0, Value.bool false, .string ⟨#[]⟩, Value.int .i64 most], Value.int .i64 (off : Int), Value.int .i64 3]) ∧ Fr [] w w' := by
  have HR := Lib.hid (And.intro hrow (And.intro ho (And.intro hD h)))
  clear hrow ho hD h
  go_enter Try.func60, Try.ntmps60
  go_wp2_with fail
  refine (refnum_any A c D off _ (HR.out.1.fr0 (((Fr.refl _ _).alloc _).alloc _)) HR.out.2.1 HR.out.2.2.1).mono ?_
  rintro e w1 ⟨rfl, hf⟩
  have hv : refNumVal D off = .tuple #[.int .u64 0, Value.int .i64 0, Value.bool false] := by unfold refNumVal; rw [HR.out.2.2.2]
  rw [hv]
  clear hv
  obtain ⟨h0, h1⟩ := two_new w 76 76 [Value.int .i64 0, .int .u64 0, Value.int .i64 0, Value.bool false, .string ⟨#[]⟩, Value.int .i64 0] [Value.int .i64 2, .int .u64 0, Value.int .i64 0, Value.bool false, .string ⟨#[]⟩, Value.int .i64 most] hf
  have a0 : w1.cell? ⟨w.heap.size, 0, none⟩ = some (Value.int .i64 0) := by rw [h0.cell]; rfl
  have a1 : w1.cell? ⟨w.heap.size, 1, none⟩ = some (.int .u64 0) := by rw [h0.cell]; rfl
  have a2 : w1.cell? ⟨w.heap.size, 2, none⟩ = some (Value.int .i64 0) := by rw [h0.cell]; rfl
  have a3 : w1.cell? ⟨w.heap.size, 3, none⟩ = some (Value.bool false) := by rw [h0.cell]; rfl
  have a4 : w1.cell? ⟨w.heap.size, 4, none⟩ = some (.string ⟨#[]⟩) := by rw [h0.cell]; rfl
  have a5 : w1.cell? ⟨w.heap.size, 5, none⟩ = some (Value.int .i64 0) := by rw [h0.cell]; rfl
  have b0 : w1.cell? ⟨w.heap.size + 1, 0, none⟩ = some (Value.int .i64 2) := by rw [h1.cell]; rfl
  have b1 : w1.cell? ⟨w.heap.size + 1, 1, none⟩ = some (.int .u64 0) := by rw [h1.cell]; rfl
  have b2 : w1.cell? ⟨w.heap.size + 1, 2, none⟩ = some (Value.int .i64 0) := by rw [h1.cell]; rfl
  have b3 : w1.cell? ⟨w.heap.size + 1, 3, none⟩ = some (Value.bool false) := by rw [h1.cell]; rfl
  have b4 : w1.cell? ⟨w.heap.size + 1, 4, none⟩ = some (.string ⟨#[]⟩) := by rw [h1.cell]; rfl
  have b5 : w1.cell? ⟨w.heap.size + 1, 5, none⟩ = some (Value.int .i64 most) := by rw [h1.cell]; rfl
  have z0 := h0.frozen
  have z1 := h1.frozen
  have H1 := Lib.hid (And.intro hf (And.intro h0 h1))
  clear hf h0 h1
  go_wp2_with fail
  have hA := ((((((H1.out.2.1).set 0 (Value.int .i64 2)).set 1 (.int .u64 0)).set 2 (Value.int .i64 0)).set 3 (Value.bool false)).set 4 (.string ⟨#[]⟩)).set 5 (Value.int .i64 most)
  have hF : Fr [] w _ := set6 w (((Fr.refl [] w).alloc _).alloc _ |>.trans H1.out.1) (Value.int .i64 2) (.int .u64 0) (Value.int .i64 0) (Value.bool false) (.string ⟨#[]⟩) (Value.int .i64 most)
  generalize ((((((w1).setCell ⟨w.heap.size, 0, none⟩ (Value.int .i64 2)).setCell ⟨w.heap.size, 1, none⟩ (.int .u64 0)).setCell ⟨w.heap.size, 2, none⟩ (Value.int .i64 0)).setCell ⟨w.heap.size, 3, none⟩ (Value.bool false)).setCell ⟨w.heap.size, 4, none⟩ (.string ⟨#[]⟩)).setCell ⟨w.heap.size, 5, none⟩ (Value.int .i64 most) = W at hA hF ⊢
  clear a0 a1 a2 a3 a4 a5 b0 b1 b2 b3 b4 b5 z0 z1 
  have c0 : W.cell? ⟨w.heap.size, 0, none⟩ = some (Value.int .i64 2) := by rw [hA.cell]; rfl
  have c1 : W.cell? ⟨w.heap.size, 1, none⟩ = some (.int .u64 0) := by rw [hA.cell]; rfl
  have c2 : W.cell? ⟨w.heap.size, 2, none⟩ = some (Value.int .i64 0) := by rw [hA.cell]; rfl
  have c3 : W.cell? ⟨w.heap.size, 3, none⟩ = some (Value.bool false) := by rw [hA.cell]; rfl
  have c4 : W.cell? ⟨w.heap.size, 4, none⟩ = some (.string ⟨#[]⟩) := by rw [hA.cell]; rfl
  have c5 : W.cell? ⟨w.heap.size, 5, none⟩ = some (Value.int .i64 most) := by rw [hA.cell]; rfl
  exact bodyPost_ret (v := .tuple #[.agg #[Value.int .i64 2, .int .u64 0, Value.int .i64 0, Value.bool false, .string ⟨#[]⟩, Value.int .i64 most], Value.int .i64 (off : Int), Value.int .i64 3]) (by simp [results, Try.results60, go_sem, c0, c1, c2, c3, c4, c5]) rfl ⟨rfl, hF⟩

set_option maxRecDepth 100000 in
set_option maxHeartbeats 4000000 in
theorem refread_count_none (A : Option Addr) (c : Nat) (D : List UInt8) (off : Nat) (most : Int) (w : World) (hrow : RowIn w A (B8 D)) (ho : off ≤ D.length) (hD : D.length ≤ 4294967296) (h : rdNum D off = none) :
    Calls Try.prog 60 #[.slice A D.length c, Value.int .i64 (off : Int), Value.int .i64 7, Value.int .i64 most] w fun e w' => e = .returned (.tuple #[.agg #[Value.int .i64 7, .int .u64 0, Value.int .i64 0, Value.bool false, .string ⟨#[]⟩, Value.int .i64 most], Value.int .i64 (off : Int), Value.int .i64 3]) ∧ Fr [] w w' := by
  have HR := Lib.hid (And.intro hrow (And.intro ho (And.intro hD h)))
  clear hrow ho hD h
  go_enter Try.func60, Try.ntmps60
  go_wp2_with fail
  refine (refnum_any A c D off _ (HR.out.1.fr0 (((Fr.refl _ _).alloc _).alloc _)) HR.out.2.1 HR.out.2.2.1).mono ?_
  rintro e w1 ⟨rfl, hf⟩
  have hv : refNumVal D off = .tuple #[.int .u64 0, Value.int .i64 0, Value.bool false] := by unfold refNumVal; rw [HR.out.2.2.2]
  rw [hv]
  clear hv
  obtain ⟨h0, h1⟩ := two_new w 76 76 [Value.int .i64 0, .int .u64 0, Value.int .i64 0, Value.bool false, .string ⟨#[]⟩, Value.int .i64 0] [Value.int .i64 7, .int .u64 0, Value.int .i64 0, Value.bool false, .string ⟨#[]⟩, Value.int .i64 most] hf
  have a0 : w1.cell? ⟨w.heap.size, 0, none⟩ = some (Value.int .i64 0) := by rw [h0.cell]; rfl
  have a1 : w1.cell? ⟨w.heap.size, 1, none⟩ = some (.int .u64 0) := by rw [h0.cell]; rfl
  have a2 : w1.cell? ⟨w.heap.size, 2, none⟩ = some (Value.int .i64 0) := by rw [h0.cell]; rfl
  have a3 : w1.cell? ⟨w.heap.size, 3, none⟩ = some (Value.bool false) := by rw [h0.cell]; rfl
  have a4 : w1.cell? ⟨w.heap.size, 4, none⟩ = some (.string ⟨#[]⟩) := by rw [h0.cell]; rfl
  have a5 : w1.cell? ⟨w.heap.size, 5, none⟩ = some (Value.int .i64 0) := by rw [h0.cell]; rfl
  have b0 : w1.cell? ⟨w.heap.size + 1, 0, none⟩ = some (Value.int .i64 7) := by rw [h1.cell]; rfl
  have b1 : w1.cell? ⟨w.heap.size + 1, 1, none⟩ = some (.int .u64 0) := by rw [h1.cell]; rfl
  have b2 : w1.cell? ⟨w.heap.size + 1, 2, none⟩ = some (Value.int .i64 0) := by rw [h1.cell]; rfl
  have b3 : w1.cell? ⟨w.heap.size + 1, 3, none⟩ = some (Value.bool false) := by rw [h1.cell]; rfl
  have b4 : w1.cell? ⟨w.heap.size + 1, 4, none⟩ = some (.string ⟨#[]⟩) := by rw [h1.cell]; rfl
  have b5 : w1.cell? ⟨w.heap.size + 1, 5, none⟩ = some (Value.int .i64 most) := by rw [h1.cell]; rfl
  have z0 := h0.frozen
  have z1 := h1.frozen
  have H1 := Lib.hid (And.intro hf (And.intro h0 h1))
  clear hf h0 h1
  go_wp2_with fail
  have hA := ((((((H1.out.2.1).set 0 (Value.int .i64 7)).set 1 (.int .u64 0)).set 2 (Value.int .i64 0)).set 3 (Value.bool false)).set 4 (.string ⟨#[]⟩)).set 5 (Value.int .i64 most)
  have hF : Fr [] w _ := set6 w (((Fr.refl [] w).alloc _).alloc _ |>.trans H1.out.1) (Value.int .i64 7) (.int .u64 0) (Value.int .i64 0) (Value.bool false) (.string ⟨#[]⟩) (Value.int .i64 most)
  generalize ((((((w1).setCell ⟨w.heap.size, 0, none⟩ (Value.int .i64 7)).setCell ⟨w.heap.size, 1, none⟩ (.int .u64 0)).setCell ⟨w.heap.size, 2, none⟩ (Value.int .i64 0)).setCell ⟨w.heap.size, 3, none⟩ (Value.bool false)).setCell ⟨w.heap.size, 4, none⟩ (.string ⟨#[]⟩)).setCell ⟨w.heap.size, 5, none⟩ (Value.int .i64 most) = W at hA hF ⊢
  clear a0 a1 a2 a3 a4 a5 b0 b1 b2 b3 b4 b5 z0 z1 
  have c0 : W.cell? ⟨w.heap.size, 0, none⟩ = some (Value.int .i64 7) := by rw [hA.cell]; rfl
  have c1 : W.cell? ⟨w.heap.size, 1, none⟩ = some (.int .u64 0) := by rw [hA.cell]; rfl
  have c2 : W.cell? ⟨w.heap.size, 2, none⟩ = some (Value.int .i64 0) := by rw [hA.cell]; rfl
  have c3 : W.cell? ⟨w.heap.size, 3, none⟩ = some (Value.bool false) := by rw [hA.cell]; rfl
  have c4 : W.cell? ⟨w.heap.size, 4, none⟩ = some (.string ⟨#[]⟩) := by rw [hA.cell]; rfl
  have c5 : W.cell? ⟨w.heap.size, 5, none⟩ = some (Value.int .i64 most) := by rw [hA.cell]; rfl
  exact bodyPost_ret (v := .tuple #[.agg #[Value.int .i64 7, .int .u64 0, Value.int .i64 0, Value.bool false, .string ⟨#[]⟩, Value.int .i64 most], Value.int .i64 (off : Int), Value.int .i64 3]) (by simp [results, Try.results60, go_sem, c0, c1, c2, c3, c4, c5]) rfl ⟨rfl, hF⟩

set_option maxRecDepth 100000 in
set_option maxHeartbeats 4000000 in
theorem refread_int_some (A : Option Addr) (c : Nat) (D : List UInt8) (off : Nat) (most : Int) (w : World) (hrow : RowIn w A (B8 D)) (ho : off ≤ D.length) (hD : D.length ≤ 4294967296) (n m : Nat) (h : rdNum D off = some (n, m)) :
    Calls Try.prog 60 #[.slice A D.length c, Value.int .i64 (off : Int), Value.int .i64 2, Value.int .i64 most] w fun e w' => e = .returned (.tuple #[.agg #[Value.int .i64 2, .int .u64 0, Value.int .i64 (unzig n), Value.bool false, .string ⟨#[]⟩, Value.int .i64 most], Value.int .i64 (m : Int), Value.int .i64 0]) ∧ Fr [] w w' := by
  have HR := Lib.hid (And.intro hrow (And.intro ho (And.intro hD h)))
  have HU := Lib.hid (rdNum_le _ _ _ _ h).2.2
  clear hrow ho hD h
  go_enter Try.func60, Try.ntmps60
  go_wp2_with fail
  refine (refnum_any A c D off _ (HR.out.1.fr0 (((Fr.refl _ _).alloc _).alloc _)) HR.out.2.1 HR.out.2.2.1).mono ?_
  rintro e w1 ⟨rfl, hf⟩
  have hv : refNumVal D off = .tuple #[.int .u64 (n : Int), Value.int .i64 (m : Int), Value.bool true] := by unfold refNumVal; rw [HR.out.2.2.2]
  rw [hv]
  clear hv
  obtain ⟨h0, h1⟩ := two_new w 76 76 [Value.int .i64 0, .int .u64 0, Value.int .i64 0, Value.bool false, .string ⟨#[]⟩, Value.int .i64 0] [Value.int .i64 2, .int .u64 0, Value.int .i64 0, Value.bool false, .string ⟨#[]⟩, Value.int .i64 most] hf
  have a0 : w1.cell? ⟨w.heap.size, 0, none⟩ = some (Value.int .i64 0) := by rw [h0.cell]; rfl
  have a1 : w1.cell? ⟨w.heap.size, 1, none⟩ = some (.int .u64 0) := by rw [h0.cell]; rfl
  have a2 : w1.cell? ⟨w.heap.size, 2, none⟩ = some (Value.int .i64 0) := by rw [h0.cell]; rfl
  have a3 : w1.cell? ⟨w.heap.size, 3, none⟩ = some (Value.bool false) := by rw [h0.cell]; rfl
  have a4 : w1.cell? ⟨w.heap.size, 4, none⟩ = some (.string ⟨#[]⟩) := by rw [h0.cell]; rfl
  have a5 : w1.cell? ⟨w.heap.size, 5, none⟩ = some (Value.int .i64 0) := by rw [h0.cell]; rfl
  have b0 : w1.cell? ⟨w.heap.size + 1, 0, none⟩ = some (Value.int .i64 2) := by rw [h1.cell]; rfl
  have b1 : w1.cell? ⟨w.heap.size + 1, 1, none⟩ = some (.int .u64 0) := by rw [h1.cell]; rfl
  have b2 : w1.cell? ⟨w.heap.size + 1, 2, none⟩ = some (Value.int .i64 0) := by rw [h1.cell]; rfl
  have b3 : w1.cell? ⟨w.heap.size + 1, 3, none⟩ = some (Value.bool false) := by rw [h1.cell]; rfl
  have b4 : w1.cell? ⟨w.heap.size + 1, 4, none⟩ = some (.string ⟨#[]⟩) := by rw [h1.cell]; rfl
  have b5 : w1.cell? ⟨w.heap.size + 1, 5, none⟩ = some (Value.int .i64 most) := by rw [h1.cell]; rfl
  have z0 := h0.frozen
  have z1 := h1.frozen
  have H1 := Lib.hid (And.intro hf (And.intro h0 h1))
  clear hf h0 h1
  go_wp2_with fail
  refine (refUnzigzag_any n _ HU.out).mono ?_
  rintro e w' ⟨rfl, rfl⟩
  go_wp2_with fail
  have hA := ((((((H1.out.2.1.far (b := w.heap.size) (p := ⟨w.heap.size + 1, 2, none⟩) (by simp) (Value.int .i64 (unzig n))).set 0 (Value.int .i64 2)).set 1 (.int .u64 0)).set 2 (Value.int .i64 (unzig n))).set 3 (Value.bool false)).set 4 (.string ⟨#[]⟩)).set 5 (Value.int .i64 most)
  have hF : Fr [] w _ := set6 w ((Fr.trans (((Fr.refl [] w).alloc _).alloc _) H1.out.1).setCell (p := ⟨w.heap.size + 1, 2, none⟩) (.inr (Nat.le_succ _)) (Value.int .i64 (unzig n))) (Value.int .i64 2) (.int .u64 0) (Value.int .i64 (unzig n)) (Value.bool false) (.string ⟨#[]⟩) (Value.int .i64 most)
  generalize ((((((w1.setCell ⟨w.heap.size + 1, 2, none⟩ (Value.int .i64 (unzig n))).setCell ⟨w.heap.size, 0, none⟩ (Value.int .i64 2)).setCell ⟨w.heap.size, 1, none⟩ (.int .u64 0)).setCell ⟨w.heap.size, 2, none⟩ (Value.int .i64 (unzig n))).setCell ⟨w.heap.size, 3, none⟩ (Value.bool false)).setCell ⟨w.heap.size, 4, none⟩ (.string ⟨#[]⟩)).setCell ⟨w.heap.size, 5, none⟩ (Value.int .i64 most) = W at hA hF ⊢
  clear a0 a1 a2 a3 a4 a5 b0 b1 b2 b3 b4 b5 z0 z1 
  have c0 : W.cell? ⟨w.heap.size, 0, none⟩ = some (Value.int .i64 2) := by rw [hA.cell]; rfl
  have c1 : W.cell? ⟨w.heap.size, 1, none⟩ = some (.int .u64 0) := by rw [hA.cell]; rfl
  have c2 : W.cell? ⟨w.heap.size, 2, none⟩ = some (Value.int .i64 (unzig n)) := by rw [hA.cell]; rfl
  have c3 : W.cell? ⟨w.heap.size, 3, none⟩ = some (Value.bool false) := by rw [hA.cell]; rfl
  have c4 : W.cell? ⟨w.heap.size, 4, none⟩ = some (.string ⟨#[]⟩) := by rw [hA.cell]; rfl
  have c5 : W.cell? ⟨w.heap.size, 5, none⟩ = some (Value.int .i64 most) := by rw [hA.cell]; rfl
  exact bodyPost_ret (v := .tuple #[.agg #[Value.int .i64 2, .int .u64 0, Value.int .i64 (unzig n), Value.bool false, .string ⟨#[]⟩, Value.int .i64 most], Value.int .i64 (m : Int), Value.int .i64 0]) (by simp [results, Try.results60, go_sem, c0, c1, c2, c3, c4, c5]) rfl ⟨rfl, hF⟩

set_option maxRecDepth 100000 in
set_option maxHeartbeats 4000000 in
theorem refread_count_large (A : Option Addr) (c : Nat) (D : List UInt8) (off : Nat) (most : Int) (w : World) (hrow : RowIn w A (B8 D)) (ho : off ≤ D.length) (hD : D.length ≤ 4294967296) (n m : Nat) (h : rdNum D off = some (n, m)) (hm : Fit64 most) (hg : max most 0 < (n : Int)) :
    Calls Try.prog 60 #[.slice A D.length c, Value.int .i64 (off : Int), Value.int .i64 7, Value.int .i64 most] w fun e w' => e = .returned (.tuple #[.agg #[Value.int .i64 7, .int .u64 0, Value.int .i64 0, Value.bool false, .string ⟨#[]⟩, Value.int .i64 most], Value.int .i64 (off : Int), Value.int .i64 2]) ∧ Fr [] w w' := by
  have HR := Lib.hid (And.intro hrow (And.intro ho (And.intro hD h)))
  have hm0 := hm.1
  have hm1 := hm.2
  have hu := (rdNum_le _ _ _ _ h).2.2
  have hI : (n : Int) ≤ 18446744073709551615 := by unfold U64 at hu; omega
  clear hrow ho hD h hm hu
  go_enter Try.func60, Try.ntmps60
  go_wp2_with fail
  refine (refnum_any A c D off _ (HR.out.1.fr0 (((Fr.refl _ _).alloc _).alloc _)) HR.out.2.1 HR.out.2.2.1).mono ?_
  rintro e w1 ⟨rfl, hf⟩
  have hv : refNumVal D off = .tuple #[.int .u64 (n : Int), Value.int .i64 (m : Int), Value.bool true] := by unfold refNumVal; rw [HR.out.2.2.2]
  rw [hv]
  clear hv
  obtain ⟨h0, h1⟩ := two_new w 76 76 [Value.int .i64 0, .int .u64 0, Value.int .i64 0, Value.bool false, .string ⟨#[]⟩, Value.int .i64 0] [Value.int .i64 7, .int .u64 0, Value.int .i64 0, Value.bool false, .string ⟨#[]⟩, Value.int .i64 most] hf
  have a0 : w1.cell? ⟨w.heap.size, 0, none⟩ = some (Value.int .i64 0) := by rw [h0.cell]; rfl
  have a1 : w1.cell? ⟨w.heap.size, 1, none⟩ = some (.int .u64 0) := by rw [h0.cell]; rfl
  have a2 : w1.cell? ⟨w.heap.size, 2, none⟩ = some (Value.int .i64 0) := by rw [h0.cell]; rfl
  have a3 : w1.cell? ⟨w.heap.size, 3, none⟩ = some (Value.bool false) := by rw [h0.cell]; rfl
  have a4 : w1.cell? ⟨w.heap.size, 4, none⟩ = some (.string ⟨#[]⟩) := by rw [h0.cell]; rfl
  have a5 : w1.cell? ⟨w.heap.size, 5, none⟩ = some (Value.int .i64 0) := by rw [h0.cell]; rfl
  have b0 : w1.cell? ⟨w.heap.size + 1, 0, none⟩ = some (Value.int .i64 7) := by rw [h1.cell]; rfl
  have b1 : w1.cell? ⟨w.heap.size + 1, 1, none⟩ = some (.int .u64 0) := by rw [h1.cell]; rfl
  have b2 : w1.cell? ⟨w.heap.size + 1, 2, none⟩ = some (Value.int .i64 0) := by rw [h1.cell]; rfl
  have b3 : w1.cell? ⟨w.heap.size + 1, 3, none⟩ = some (Value.bool false) := by rw [h1.cell]; rfl
  have b4 : w1.cell? ⟨w.heap.size + 1, 4, none⟩ = some (.string ⟨#[]⟩) := by rw [h1.cell]; rfl
  have b5 : w1.cell? ⟨w.heap.size + 1, 5, none⟩ = some (Value.int .i64 most) := by rw [h1.cell]; rfl
  have z0 := h0.frozen
  have z1 := h1.frozen
  have H1 := Lib.hid (And.intro hf (And.intro h0 h1))
  clear hf h0 h1
  go_wp2_with fail
  all_goals
    have hA := ((((((H1.out.2.1).set 0 (Value.int .i64 7)).set 1 (.int .u64 0)).set 2 (Value.int .i64 0)).set 3 (Value.bool false)).set 4 (.string ⟨#[]⟩)).set 5 (Value.int .i64 most)
    have hF : Fr [] w _ := set6 w (((Fr.refl [] w).alloc _).alloc _ |>.trans H1.out.1) (Value.int .i64 7) (.int .u64 0) (Value.int .i64 0) (Value.bool false) (.string ⟨#[]⟩) (Value.int .i64 most)
    generalize ((((((w1).setCell ⟨w.heap.size, 0, none⟩ (Value.int .i64 7)).setCell ⟨w.heap.size, 1, none⟩ (.int .u64 0)).setCell ⟨w.heap.size, 2, none⟩ (Value.int .i64 0)).setCell ⟨w.heap.size, 3, none⟩ (Value.bool false)).setCell ⟨w.heap.size, 4, none⟩ (.string ⟨#[]⟩)).setCell ⟨w.heap.size, 5, none⟩ (Value.int .i64 most) = W at hA hF ⊢
    clear a0 a1 a2 a3 a4 a5 b0 b1 b2 b3 b4 b5 z0 z1 
    have c0 : W.cell? ⟨w.heap.size, 0, none⟩ = some (Value.int .i64 7) := by rw [hA.cell]; rfl
    have c1 : W.cell? ⟨w.heap.size, 1, none⟩ = some (.int .u64 0) := by rw [hA.cell]; rfl
    have c2 : W.cell? ⟨w.heap.size, 2, none⟩ = some (Value.int .i64 0) := by rw [hA.cell]; rfl
    have c3 : W.cell? ⟨w.heap.size, 3, none⟩ = some (Value.bool false) := by rw [hA.cell]; rfl
    have c4 : W.cell? ⟨w.heap.size, 4, none⟩ = some (.string ⟨#[]⟩) := by rw [hA.cell]; rfl
    have c5 : W.cell? ⟨w.heap.size, 5, none⟩ = some (Value.int .i64 most) := by rw [hA.cell]; rfl
    exact bodyPost_ret (v := .tuple #[.agg #[Value.int .i64 7, .int .u64 0, Value.int .i64 0, Value.bool false, .string ⟨#[]⟩, Value.int .i64 most], Value.int .i64 (off : Int), Value.int .i64 2]) (by simp [results, Try.results60, go_sem, c0, c1, c2, c3, c4, c5]) rfl ⟨rfl, hF⟩

set_option maxRecDepth 100000 in
set_option maxHeartbeats 4000000 in
theorem refread_count_some (A : Option Addr) (c : Nat) (D : List UInt8) (off : Nat) (most : Int) (w : World) (hrow : RowIn w A (B8 D)) (ho : off ≤ D.length) (hD : D.length ≤ 4294967296) (n m : Nat) (h : rdNum D off = some (n, m)) (hm : Fit64 most) (hg : ¬ max most 0 < (n : Int)) :
    Calls Try.prog 60 #[.slice A D.length c, Value.int .i64 (off : Int), Value.int .i64 7, Value.int .i64 most] w fun e w' => e = .returned (.tuple #[.agg #[Value.int .i64 7, .int .u64 0, Value.int .i64 (n : Int), Value.bool false, .string ⟨#[]⟩, Value.int .i64 most], Value.int .i64 (m : Int), Value.int .i64 0]) ∧ Fr [] w w' := by
  have HR := Lib.hid (And.intro hrow (And.intro ho (And.intro hD h)))
  have hm0 := hm.1
  have hm1 := hm.2
  have hu := (rdNum_le _ _ _ _ h).2.2
  have hI : (n : Int) ≤ 18446744073709551615 := by unfold U64 at hu; omega
  have hg' : (n : Int) ≤ max most 0 := by omega
  have hn2 : (n : Int) ≤ 9223372036854775807 := by omega
  clear hrow ho hD h hm hu hg
  go_enter Try.func60, Try.ntmps60
  go_wp2_with fail
  refine (refnum_any A c D off _ (HR.out.1.fr0 (((Fr.refl _ _).alloc _).alloc _)) HR.out.2.1 HR.out.2.2.1).mono ?_
  rintro e w1 ⟨rfl, hf⟩
  have hv : refNumVal D off = .tuple #[.int .u64 (n : Int), Value.int .i64 (m : Int), Value.bool true] := by unfold refNumVal; rw [HR.out.2.2.2]
  rw [hv]
  clear hv
  obtain ⟨h0, h1⟩ := two_new w 76 76 [Value.int .i64 0, .int .u64 0, Value.int .i64 0, Value.bool false, .string ⟨#[]⟩, Value.int .i64 0] [Value.int .i64 7, .int .u64 0, Value.int .i64 0, Value.bool false, .string ⟨#[]⟩, Value.int .i64 most] hf
  have a0 : w1.cell? ⟨w.heap.size, 0, none⟩ = some (Value.int .i64 0) := by rw [h0.cell]; rfl
  have a1 : w1.cell? ⟨w.heap.size, 1, none⟩ = some (.int .u64 0) := by rw [h0.cell]; rfl
  have a2 : w1.cell? ⟨w.heap.size, 2, none⟩ = some (Value.int .i64 0) := by rw [h0.cell]; rfl
  have a3 : w1.cell? ⟨w.heap.size, 3, none⟩ = some (Value.bool false) := by rw [h0.cell]; rfl
  have a4 : w1.cell? ⟨w.heap.size, 4, none⟩ = some (.string ⟨#[]⟩) := by rw [h0.cell]; rfl
  have a5 : w1.cell? ⟨w.heap.size, 5, none⟩ = some (Value.int .i64 0) := by rw [h0.cell]; rfl
  have b0 : w1.cell? ⟨w.heap.size + 1, 0, none⟩ = some (Value.int .i64 7) := by rw [h1.cell]; rfl
  have b1 : w1.cell? ⟨w.heap.size + 1, 1, none⟩ = some (.int .u64 0) := by rw [h1.cell]; rfl
  have b2 : w1.cell? ⟨w.heap.size + 1, 2, none⟩ = some (Value.int .i64 0) := by rw [h1.cell]; rfl
  have b3 : w1.cell? ⟨w.heap.size + 1, 3, none⟩ = some (Value.bool false) := by rw [h1.cell]; rfl
  have b4 : w1.cell? ⟨w.heap.size + 1, 4, none⟩ = some (.string ⟨#[]⟩) := by rw [h1.cell]; rfl
  have b5 : w1.cell? ⟨w.heap.size + 1, 5, none⟩ = some (Value.int .i64 most) := by rw [h1.cell]; rfl
  have z0 := h0.frozen
  have z1 := h1.frozen
  have H1 := Lib.hid (And.intro hf (And.intro h0 h1))
  clear hf h0 h1
  go_wp2_with fail
  all_goals
    have hA := ((((((H1.out.2.1.far (b := w.heap.size) (p := ⟨w.heap.size + 1, 2, none⟩) (by simp) (Value.int .i64 (n : Int))).set 0 (Value.int .i64 7)).set 1 (.int .u64 0)).set 2 (Value.int .i64 (n : Int))).set 3 (Value.bool false)).set 4 (.string ⟨#[]⟩)).set 5 (Value.int .i64 most)
    have hF : Fr [] w _ := set6 w ((Fr.trans (((Fr.refl [] w).alloc _).alloc _) H1.out.1).setCell (p := ⟨w.heap.size + 1, 2, none⟩) (.inr (Nat.le_succ _)) (Value.int .i64 (n : Int))) (Value.int .i64 7) (.int .u64 0) (Value.int .i64 (n : Int)) (Value.bool false) (.string ⟨#[]⟩) (Value.int .i64 most)
    generalize ((((((w1.setCell ⟨w.heap.size + 1, 2, none⟩ (Value.int .i64 (n : Int))).setCell ⟨w.heap.size, 0, none⟩ (Value.int .i64 7)).setCell ⟨w.heap.size, 1, none⟩ (.int .u64 0)).setCell ⟨w.heap.size, 2, none⟩ (Value.int .i64 (n : Int))).setCell ⟨w.heap.size, 3, none⟩ (Value.bool false)).setCell ⟨w.heap.size, 4, none⟩ (.string ⟨#[]⟩)).setCell ⟨w.heap.size, 5, none⟩ (Value.int .i64 most) = W at hA hF ⊢
    clear a0 a1 a2 a3 a4 a5 b0 b1 b2 b3 b4 b5 z0 z1 
    have c0 : W.cell? ⟨w.heap.size, 0, none⟩ = some (Value.int .i64 7) := by rw [hA.cell]; rfl
    have c1 : W.cell? ⟨w.heap.size, 1, none⟩ = some (.int .u64 0) := by rw [hA.cell]; rfl
    have c2 : W.cell? ⟨w.heap.size, 2, none⟩ = some (Value.int .i64 (n : Int)) := by rw [hA.cell]; rfl
    have c3 : W.cell? ⟨w.heap.size, 3, none⟩ = some (Value.bool false) := by rw [hA.cell]; rfl
    have c4 : W.cell? ⟨w.heap.size, 4, none⟩ = some (.string ⟨#[]⟩) := by rw [hA.cell]; rfl
    have c5 : W.cell? ⟨w.heap.size, 5, none⟩ = some (Value.int .i64 most) := by rw [hA.cell]; rfl
    exact bodyPost_ret (v := .tuple #[.agg #[Value.int .i64 7, .int .u64 0, Value.int .i64 (n : Int), Value.bool false, .string ⟨#[]⟩, Value.int .i64 most], Value.int .i64 (m : Int), Value.int .i64 0]) (by simp [results, Try.results60, go_sem, c0, c1, c2, c3, c4, c5]) rfl ⟨rfl, hF⟩

end Go.Proofs.Ytflabbdnkoejjaa
