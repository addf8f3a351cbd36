/- The keys that are listed make the table again: in plain Lean. -/
import Derived.Test.YtnhagokkamobaaaDoorBlComm
namespace Go.Proofs.YtnhagokkamobaaaDoor
open Go.RowKit

theorem run_perm {a b : List BOp} (h : a.Perm b) : ∀ t : BT, runAll t a = runAll t b := by
  induction h with
  | nil => intro t; rfl
  | cons x _ ih => intro t; exact ih (stepOp t x)
  | swap x y l => intro t; show runAll (stepOp (stepOp t y) x) l = runAll (stepOp (stepOp t x) y) l; rw [stepOp_comm]
  | trans _ _ ih1 ih2 => intro t; rw [ih1, ih2]

def insOps (l : List (List UInt8)) : List BOp := l.map fun k => (k, false)
def delOps (l : List (List UInt8)) : List BOp := l.map fun k => (k, true)

theorem zero_of_isZero {c : BC} (h : c.isZero = true) : c = BC.zero := by
  simp only [BC.isZero, Bool.and_eq_true, decide_eq_true_eq] at h
  obtain ⟨n, k, x⟩ := c
  simp only at h
  obtain ⟨⟨rfl, rfl⟩, rfl⟩ := h
  rfl
theorem new_of_empty {t : BT} (h : t.empty = true) : t = BT.new t.cells.length t.seed := by
  obtain ⟨cs, s⟩ := t
  show BT.mk _ _ = BT.mk _ _
  congr 1
  unfold BT.empty at h
  rw [List.all_eq_true] at h
  exact List.eq_replicate_iff.2 ⟨rfl, fun c hc => zero_of_isZero (h c hc)⟩

theorem cellAt_ok {t : BT} (h : t.Ok) (i : Nat) : (t.cellAt i).Ok := by
  unfold BT.cellAt
  rw [List.getD_eq_getElem?_getD]
  cases hq : t.cells[i]? with
  | none => exact BC.Ok.zero
  | some c => exact h.cells c (List.mem_of_getElem? hq)

/-- What peeling keeps. -/
structure PInv (t0 : BT) (s : Peel) : Prop where
  ok : s.t.Ok
  len : s.t.cells.length = t0.cells.length
  seed : s.t.seed = t0.seed
  run : runAll s.t (insOps s.added ++ delOps s.removed) = t0

theorem PInv.step {t0 : BT} {s : Peel} (h : PInv t0 s) {c : BC} (hc : c.Ok) (h1 : c.count = 1 ∨ c.count = -1) : PInv t0 (s.take c) := by
  have hk := hc.keys
  refine ⟨BT.Ok.atN h.ok hk _ 3, by rw [← h.len]; exact change_len _ _ _, by rw [← h.seed]; exact change_seed _ _ _, ?_⟩
  rcases h1 with h1 | h1
  · simp only [Peel.take, h1, if_true]
    have hp : (insOps (s.added ++ [c.keys]) ++ delOps s.removed).Perm ((c.keys, false) :: (insOps s.added ++ delOps s.removed)) := by
      simp only [insOps, List.map_append, List.map_cons, List.map_nil]
      rw [List.append_assoc]
      exact List.perm_middle
    rw [run_perm hp]
    show runAll (stepOp (s.t.change c.keys (-1)) (c.keys, false)) _ = t0
    have hu := BT.change_undo h.ok c.keys hk (-1)
    have e : stepOp (s.t.change c.keys (-1)) (c.keys, false) = s.t := by
      unfold stepOp
      simpa [hk] using hu
    rw [e]
    exact h.run
  · have hne : ¬ ((-1 : Int) = 1) := by omega
    simp only [Peel.take, h1, hne, if_false]
    have hp : (insOps s.added ++ delOps (s.removed ++ [c.keys])).Perm ((c.keys, true) :: (insOps s.added ++ delOps s.removed)) := by
      simp only [delOps, List.map_append, List.map_cons, List.map_nil]
      rw [← List.append_assoc]
      have := List.perm_middle (a := ((c.keys, true) : BOp)) (l₁ := insOps s.added ++ s.removed.map fun k => (k, true)) (l₂ := [])
      simpa using this
    rw [run_perm hp]
    show runAll (stepOp (s.t.change c.keys (- -1)) (c.keys, true)) _ = t0
    have hu := BT.change_undo h.ok c.keys hk 1
    have e : stepOp (s.t.change c.keys (- -1)) (c.keys, true) = s.t := by
      unfold stepOp
      simpa [hk] using hu
    rw [e]
    exact h.run

theorem first_pure {t : BT} {i : Nat} (h : t.first = some i) : (t.cellAt i).pure t.seed = true ∧ i < t.cells.length := by
  unfold BT.first at h
  rw [List.findIdx?_eq_some_iff_getElem] at h
  obtain ⟨h1, h2, _⟩ := h
  unfold BT.cellAt
  rw [List.getD_eq_getElem?_getD, List.getElem?_eq_getElem h1]
  exact ⟨h2, h1⟩
theorem pure_count1 {seed : Nat} {c : BC} (h : c.pure seed = true) : c.count = 1 ∨ c.count = -1 := by
  simp only [BC.pure, Bool.and_eq_true, Bool.or_eq_true, decide_eq_true_eq] at h
  exact h.1
theorem peel_inv {t0 : BT} : ∀ (n : Nat) {s s' : Peel}, PInv t0 s → peel n s = some s' → PInv t0 s'
  | 0, s, s', h, e => by cases e; exact h
  | n + 1, s, s', h, e => by
    unfold peel at e
    cases hf : s.t.first with
    | none => rw [hf] at e; cases e; exact h
    | some i =>
      rw [hf] at e
      simp only at e
      split at e
      · cases e
      · exact peel_inv n (h.step (cellAt_ok h.ok i) (pure_count1 (first_pure hf).1)) e

theorem gives_back {t : BT} (h : t.Ok) {a b : List (List UInt8)} (hk : t.keys = some (a, b)) : runAll (runAll (BT.new t.cells.length t.seed) (insOps a)) (delOps b) = t := by
  unfold BT.keys BT.raw at hk
  cases hp : peel t.cells.length ⟨t, [], [], []⟩ with
  | none => rw [hp] at hk; simp at hk
  | some s =>
    rw [hp] at hk
    cases he : s.t.empty with
    | false => simp [he] at hk
    | true =>
      simp only [he, if_true, Option.map_some, Option.some.injEq, Prod.mk.injEq] at hk
      have hi : PInv t s := peel_inv _ (⟨h, rfl, rfl, rfl⟩ : PInv t ⟨t, [], [], []⟩) hp
      have hn := new_of_empty he
      rw [hi.len, hi.seed] at hn
      rw [← run_append]
      have hperm : (insOps a ++ delOps b).Perm (insOps s.added ++ delOps s.removed) := by
        rw [← hk.1, ← hk.2]
        exact ((List.mergeSort_perm _ _).map _).append ((List.mergeSort_perm _ _).map _)
      rw [run_perm hperm, ← hn]
      exact hi.run
end Go.Proofs.YtnhagokkamobaaaDoor
