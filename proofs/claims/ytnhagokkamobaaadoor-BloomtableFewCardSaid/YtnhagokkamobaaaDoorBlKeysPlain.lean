/- Sorted lists of keys, and inserting into them: in plain Lean. -/
import Derived.Test.YtnhagokkamobaaaDoorBlRun
namespace Go.Proofs.YtnhagokkamobaaaDoor
open Go.RowKit

abbrev Key8 := List UInt8
theorem k_le_trans {a b c : Key8} (h1 : a ≤ b) (h2 : b ≤ c) : a ≤ c := List.le_trans h1 h2
theorem k_le_total (a b : Key8) : a ≤ b ∨ b ≤ a := List.le_total a b
theorem k_antisymm {a b : Key8} (h1 : a ≤ b) (h2 : b ≤ a) : a = b := List.le_antisymm h1 h2
theorem k_not_lt {a b : Key8} : ¬ a < b ↔ b ≤ a := Iff.rfl
theorem k_le_of_lt {a b : Key8} (h : a < b) : a ≤ b := List.le_of_lt h

theorem sortS_sorted (l : List Key8) : (sortS l).Pairwise (· ≤ ·) := by
  have := List.pairwise_mergeSort (le := fun x y : Key8 => decide (x ≤ y)) (fun a b c h1 h2 => by simp only [decide_eq_true_eq] at *; exact k_le_trans h1 h2) (fun a b => by simp only [Bool.or_eq_true, decide_eq_true_eq]; exact k_le_total a b) l
  simpa [sortS] using this
theorem sortS_perm (l : List Key8) : (sortS l).Perm l := List.mergeSort_perm _ _
theorem sorted_eq {l r : List Key8} (h : l.Perm r) (h1 : l.Pairwise (· ≤ ·)) (h2 : r.Pairwise (· ≤ ·)) : l = r := List.Perm.eq_of_pairwise (fun _ _ _ _ => k_antisymm) h1 h2 h

/-- How many of the first are less. -/
def insPos (l : List Key8) (s : Key8) : Nat := (l.takeWhile fun x => decide (x < s)).length
def insL (l : List Key8) (s : Key8) : List Key8 := l.take (insPos l s) ++ s :: l.drop (insPos l s)
def insF (l : List Key8) (s : Key8) : Bool := decide (l[insPos l s]? = some s)

theorem insPos_le (l : List Key8) (s : Key8) : insPos l s ≤ l.length := by
  unfold insPos
  exact List.Sublist.length_le (List.takeWhile_sublist _)
theorem take_insPos (l : List Key8) (s : Key8) : l.take (insPos l s) = l.takeWhile fun x => decide (x < s) := by
  unfold insPos
  conv => lhs; arg 2; rw [← List.takeWhile_append_dropWhile (p := fun x => decide (x < s)) (l := l)]
  exact List.take_left
theorem drop_insPos (l : List Key8) (s : Key8) : l.drop (insPos l s) = l.dropWhile fun x => decide (x < s) := by
  unfold insPos
  conv => lhs; arg 2; rw [← List.takeWhile_append_dropWhile (p := fun x => decide (x < s)) (l := l)]
  exact List.drop_left
theorem insL_perm (l : List Key8) (s : Key8) : (insL l s).Perm (s :: l) := by
  unfold insL
  have := List.perm_middle (a := s) (l₁ := l.take (insPos l s)) (l₂ := l.drop (insPos l s))
  rwa [List.take_append_drop] at this
theorem mem_takeWhile_lt {l : List Key8} {s x : Key8} (h : x ∈ l.takeWhile fun x => decide (x < s)) : x < s := by
  have h1 := List.all_takeWhile (p := fun x => decide (x < s)) (l := l)
  rw [List.all_eq_true] at h1
  simpa using h1 x h
theorem drop_ge {l : List Key8} (hs : l.Pairwise (· ≤ ·)) {s x : Key8} (h : x ∈ l.dropWhile fun x => decide (x < s)) : s ≤ x := by
  induction l with
  | nil => simp at h
  | cons a l ih =>
    rw [List.dropWhile_cons] at h
    rw [List.pairwise_cons] at hs
    split at h
    · exact ih hs.2 h
    · rename_i hn
      have ha : s ≤ a := k_not_lt.1 (by simpa using hn)
      rcases List.mem_cons.1 h with rfl | h
      · exact ha
      · exact k_le_trans ha (hs.1 x h)
theorem insL_sorted {l : List Key8} (hs : l.Pairwise (· ≤ ·)) (s : Key8) : (insL l s).Pairwise (· ≤ ·) := by
  unfold insL
  rw [take_insPos, drop_insPos, List.pairwise_append, List.pairwise_cons]
  refine ⟨hs.sublist (List.takeWhile_sublist _), ⟨fun x hx => drop_ge hs hx, hs.sublist (List.dropWhile_sublist _)⟩, fun a ha b hb => ?_⟩
  have h1 := k_le_of_lt (mem_takeWhile_lt ha)
  rcases List.mem_cons.1 hb with rfl | hb
  · exact h1
  · exact k_le_trans h1 (drop_ge hs hb)
theorem ins_sort {l r : List Key8} {s : Key8} (hp : r.Perm (s :: l)) : insL (sortS l) s = sortS r :=
  sorted_eq ((insL_perm _ _).trans (((sortS_perm l).cons s).trans (hp.symm.trans (sortS_perm r).symm))) (insL_sorted (sortS_sorted l) s) (sortS_sorted r)
theorem insF_mem {l : List Key8} (hs : l.Pairwise (· ≤ ·)) (s : Key8) : insF l s = l.contains s := by
  rw [Bool.eq_iff_iff]
  simp only [insF, decide_eq_true_eq, List.contains_iff_mem]
  constructor
  · intro h
    exact List.mem_of_getElem? h
  · intro h
    have e : l = l.take (insPos l s) ++ l.drop (insPos l s) := (List.take_append_drop _ _).symm
    rw [e] at h
    rcases List.mem_append.1 h with h | h
    · rw [take_insPos] at h
      exact absurd (mem_takeWhile_lt h) (List.lt_irrefl s)
    · have hg : ∀ x ∈ l.drop (insPos l s), s ≤ x := fun x hx => by rw [drop_insPos] at hx; exact drop_ge hs hx
      have hsd : (l.drop (insPos l s)).Pairwise (· ≤ ·) := hs.sublist (List.drop_sublist _ _)
      have h0 : l[insPos l s]? = (l.drop (insPos l s))[0]? := by rw [List.getElem?_drop]; simp
      rw [h0]
      cases hd : l.drop (insPos l s) with
      | nil => rw [hd] at h; cases h
      | cons a r =>
        rw [hd] at h hg hsd
        have ha := hg a (by simp)
        rw [List.pairwise_cons] at hsd
        have hle : a ≤ s := by
          rcases List.mem_cons.1 h with h | h
          · rw [h]; exact List.le_refl _
          · exact hsd.1 s h
        simp [k_antisymm hle ha]
theorem insF_sort (l : List Key8) (s : Key8) : insF (sortS l) s = l.contains s := by
  rw [insF_mem (sortS_sorted l), Bool.eq_iff_iff]
  simp only [List.contains_iff_mem]
  exact (sortS_perm l).mem_iff

/-- What stands before the place of s is less. -/
theorem insPos_step {l : List Key8} {s : Key8} {k : Nat} {x : Key8} (hk : k ≤ insPos l s) (hx : l[k]? = some x) : (x < s ↔ k < insPos l s) := by
  constructor
  · intro h
    rcases Nat.lt_or_ge k (insPos l s) with h1 | h1
    · exact h1
    · exfalso
      have hke : k = insPos l s := by omega
      subst hke
      have h0 : (l.drop (insPos l s))[0]? = some x := by rw [List.getElem?_drop]; simpa using hx
      rw [drop_insPos] at h0
      have hne : l.dropWhile (fun x => decide (x < s)) ≠ [] := by intro e; rw [e] at h0; cases h0
      have := List.head_dropWhile_not (fun x => decide (x < s)) hne
      rw [List.head_eq_getElem] at this
      rw [List.getElem?_eq_getElem (List.length_pos_iff.2 hne)] at h0
      injection h0 with h0
      rw [h0] at this
      simp [h] at this
  · intro h
    have h1 : (l.take (insPos l s))[k]? = some x := by rw [List.getElem?_take_of_lt h]; exact hx
    rw [take_insPos] at h1
    exact mem_takeWhile_lt (List.mem_of_getElem? h1)
theorem insPos_end {l : List Key8} {s : Key8} {k : Nat} (hk : k ≤ insPos l s) (hx : l.length ≤ k) : k = insPos l s := by
  have := insPos_le l s
  omega
end Go.Proofs.YtnhagokkamobaaaDoor
