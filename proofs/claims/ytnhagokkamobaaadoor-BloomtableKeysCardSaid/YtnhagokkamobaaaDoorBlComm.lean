/- The order of calls on a table does not matter, and deleting undoes inserting: in plain Lean. -/
import Derived.Test.YtnhagokkamobaaaDoorBlRun
namespace Go.Proofs.YtnhagokkamobaaaDoor
open Go.RowKit

theorem wrap_mod (x : Int) : ∃ k : Int, IntKind.i64.wrap x = x + k * 18446744073709551616 := by
  rw [IntKind.wrap_i64]
  exact ⟨((x + 9223372036854775808) % 18446744073709551616 - 9223372036854775808 - x) / 18446744073709551616, by omega⟩
theorem wrap_add_k (x k : Int) : IntKind.i64.wrap (x + k * 18446744073709551616) = IntKind.i64.wrap x := by
  rw [IntKind.wrap_i64, IntKind.wrap_i64]; omega
theorem wrap_wrap_add (x b : Int) : IntKind.i64.wrap (IntKind.i64.wrap x + b) = IntKind.i64.wrap (x + b) := by
  obtain ⟨k, hk⟩ := wrap_mod x
  rw [hk, show x + k * 18446744073709551616 + b = (x + b) + k * 18446744073709551616 by omega, wrap_add_k]

theorem xorB_comm2 : ∀ a k l : List UInt8, xorB (xorB a k) l = xorB (xorB a l) k
  | [], _, _ => by simp [xorB]
  | _ :: _, [], l => by simp [xorB]
  | _ :: _, _ :: _, [] => by simp [xorB]
  | x :: a, y :: k, z :: l => by
    have := xorB_comm2 a k l
    simp only [xorB, List.zipWith_cons_cons] at this ⊢
    rw [this]
    congr 1
    rw [UInt8.xor_assoc, UInt8.xor_comm y z, ← UInt8.xor_assoc]
theorem xorB_undo : ∀ a k : List UInt8, a.length = k.length → xorB (xorB a k) k = a
  | [], _, _ => by simp [xorB]
  | x :: a, [], h => by simp at h
  | x :: a, y :: k, h => by
    have := xorB_undo a k (by simpa using h)
    simp only [xorB, List.zipWith_cons_cons] at this ⊢
    rw [this]
    congr 1
    rw [UInt8.xor_assoc, UInt8.xor_self, UInt8.xor_zero]

theorem BC.add_comm (c : BC) (k l : List UInt8) (a b : Int) (x y : Nat) : (c.add k a x).add l b y = (c.add l b y).add k a x := by
  simp only [BC.add, BC.mk.injEq]
  refine ⟨?_, xorB_comm2 _ _ _, ?_⟩
  · rw [wrap_wrap_add, wrap_wrap_add]; congr 1; omega
  · rw [Nat.xor_assoc, Nat.xor_comm x y, ← Nat.xor_assoc]
theorem BC.add_undo {c : BC} (h : c.Ok) (k : List UInt8) (hk : k.length = 32) (a : Int) (x : Nat) : (c.add k a x).add k (-a) x = c := by
  obtain ⟨n, ks, ch⟩ := c
  simp only [BC.add, BC.mk.injEq]
  refine ⟨?_, xorB_undo _ _ (by rw [hk]; exact h.keys), ?_⟩
  · rw [wrap_wrap_add, show n + a + -a = n by omega]
    have := h.count
    unfold Fit64 at this
    rw [IntKind.wrap_i64]
    simp only at this
    omega
  · rw [Nat.xor_assoc, Nat.xor_self, Nat.xor_zero]

theorem modify_comm {α : Type} (l : List α) (i j : Nat) (f g : α → α) (h : ∀ x, f (g x) = g (f x)) : (l.modify i f).modify j g = (l.modify j g).modify i f := by
  apply List.ext_getElem?
  intro k
  simp only [List.getElem?_modify]
  by_cases h1 : i = k <;> by_cases h2 : j = k <;> simp [h1, h2] <;> (cases l[k]? <;> simp [h])

def BT.mod (t : BT) (i : Nat) (f : BC → BC) : BT := { t with cells := t.cells.modify i f }
theorem BT.at1_mod (t : BT) (key : List UInt8) (num : Int) (i : Nat) : t.at1 key num i = t.mod (bplace t.cells.length t.seed key i) fun c => c.add key num (bhash t.seed 3 key) := rfl
theorem BT.mod_len (t : BT) (i : Nat) (f : BC → BC) : (t.mod i f).cells.length = t.cells.length := by simp [BT.mod]
theorem BT.at1_comm (t : BT) (k l : List UInt8) (a b : Int) (i j : Nat) : (t.at1 k a i).at1 l b j = (t.at1 l b j).at1 k a i := by
  rw [BT.at1_mod, BT.at1_mod, BT.at1_mod, BT.at1_mod, BT.mod_len, BT.mod_len]
  show BT.mk _ _ = BT.mk _ _
  congr 1
  exact modify_comm _ _ _ _ _ (fun x => BC.add_comm x _ _ _ _ _ _)
theorem BT.change_comm (t : BT) (k l : List UInt8) (a b : Int) : (t.change k a).change l b = (t.change l b).change k a := by
  unfold BT.change
  rw [at1_comm _ k l a b 2 0, at1_comm _ k l a b 1 0, at1_comm _ k l a b 0 0, at1_comm _ k l a b 2 1, at1_comm _ k l a b 1 1, at1_comm _ k l a b 0 1, at1_comm _ k l a b 2 2, at1_comm _ k l a b 1 2, at1_comm _ k l a b 0 2]

theorem modify_undo {l : List BC} (h : ∀ c ∈ l, c.Ok) (i : Nat) (k : List UInt8) (hk : k.length = 32) (a : Int) (x : Nat) : (l.modify i fun c => c.add k a x).modify i (fun c => c.add k (-a) x) = l := by
  apply List.ext_getElem?
  intro j
  simp only [List.getElem?_modify]
  by_cases h1 : i = j
  · subst h1
    cases hq : l[i]? with
    | none => simp
    | some c => simp [BC.add_undo (h c (List.mem_of_getElem? hq)) k hk]
  · simp [h1]
theorem BT.at1_undo {t : BT} (h : t.Ok) (k : List UInt8) (hk : k.length = 32) (a : Int) (i : Nat) : (t.at1 k a i).at1 k (-a) i = t := by
  rw [BT.at1_mod, BT.at1_mod, BT.mod_len]
  show BT.mk _ _ = t
  obtain ⟨cs, s⟩ := t
  congr 1
  exact modify_undo h.cells _ k hk a _
theorem BT.change_undo {t : BT} (h : t.Ok) (k : List UInt8) (hk : k.length = 32) (a : Int) : (t.change k a).change k (-a) = t := by
  have h1 : (t.atN k a 1).Ok := BT.Ok.atN h hk a 1
  have h2 : (t.atN k a 2).Ok := BT.Ok.atN h hk a 2
  show ((((((t.at1 k a 0).at1 k a 1).at1 k a 2).at1 k (-a) 0).at1 k (-a) 1).at1 k (-a) 2) = t
  rw [BT.at1_comm _ k k (-a) (-a) 0 1, BT.at1_comm _ k k (-a) (-a) 0 2, BT.at1_comm _ k k (-a) (-a) 1 2]
  rw [BT.at1_undo (t := (t.at1 k a 0).at1 k a 1) h2 k hk a 2, BT.at1_undo (t := t.at1 k a 0) h1 k hk a 1, BT.at1_undo h k hk a 0]

theorem stepOp_comm (t : BT) (p q : BOp) : stepOp (stepOp t p) q = stepOp (stepOp t q) p := by
  unfold stepOp
  by_cases h1 : p.1.length = 32 <;> by_cases h2 : q.1.length = 32 <;> simp [h1, h2, BT.change_comm]
def invOp (o : BOp) : BOp := (o.1, !o.2)
theorem BT.Ok.step {t : BT} (h : t.Ok) (o : BOp) : (stepOp t o).Ok := by
  unfold stepOp
  split
  · rename_i hk
    exact BT.Ok.atN h hk _ 3
  · exact h
theorem BT.Ok.run {t : BT} (h : t.Ok) (ops : List BOp) : (runAll t ops).Ok := by
  induction ops generalizing t with
  | nil => exact h
  | cons o ops ih => exact ih (h.step o)
theorem stepOp_undo {t : BT} (h : t.Ok) (o : BOp) : stepOp (stepOp t o) (invOp o) = t := by
  unfold stepOp invOp
  by_cases hk : o.1.length = 32
  · cases hb : o.2
    · simpa [hk, hb] using BT.change_undo h o.1 hk 1
    · simpa [hk, hb] using BT.change_undo h o.1 hk (-1)
  · simp [hk]
theorem run_step (ops : List BOp) : ∀ (t : BT) (o : BOp), stepOp (runAll t ops) o = runAll (stepOp t o) ops := by
  induction ops with
  | nil => intro t o; rfl
  | cons p ops ih =>
    intro t o
    show stepOp (runAll (stepOp t p) ops) o = runAll (stepOp (stepOp t o) p) ops
    rw [ih, stepOp_comm]
theorem run_append (t : BT) (a b : List BOp) : runAll t (a ++ b) = runAll (runAll t a) b := by simp [runAll, List.foldl_append]
theorem run_reverse (ops : List BOp) : ∀ t : BT, runAll t ops.reverse = runAll t ops := by
  induction ops with
  | nil => intro t; rfl
  | cons o ops ih =>
    intro t
    rw [List.reverse_cons, run_append, ih]
    show stepOp (runAll t ops) o = runAll (stepOp t o) ops
    exact run_step _ _ _
theorem run_undo (ops : List BOp) : ∀ {t : BT}, t.Ok → runAll (runAll t ops) (ops.map invOp) = t := by
  induction ops with
  | nil => intro t _; rfl
  | cons o ops ih =>
    intro t h
    show runAll (stepOp (runAll (stepOp t o) ops) (invOp o)) (ops.map invOp) = t
    rw [run_step, stepOp_undo h]
    exact ih h
theorem new_empty (n seed : Nat) : (BT.new n seed).empty = true := by
  unfold BT.empty BT.new
  rw [List.all_eq_true]
  intro c hc
  rw [List.eq_of_mem_replicate hc]
  rfl
end Go.Proofs.YtnhagokkamobaaaDoor
