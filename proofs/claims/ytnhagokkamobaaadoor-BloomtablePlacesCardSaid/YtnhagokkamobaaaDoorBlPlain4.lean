/- Peeling in plain Lean: the list of pure cells while a key is taken. -/
import Derived.Test.YtnhagokkamobaaaDoorBlPlain3
namespace Go.Proofs.YtnhagokkamobaaaDoor

def BT.pures (t : BT) : List Bool := t.cells.map (BC.pure t.seed)
theorem BT.pures_len (t : BT) : t.pures.length = t.cells.length := by simp [BT.pures]
theorem BT.pures_get {t : BT} {i : Nat} {c : BC} (h : t.cells[i]? = some c) : t.pures[i]? = some (c.pure t.seed) := by simp [BT.pures, h]

theorem BT.first_pures (t : BT) : t.first = t.pures.findIdx? id := by
  unfold BT.first BT.pures
  rw [List.findIdx?_map]
  rfl

/-- The pure cells, of which those of the first k places of a key have been looked at anew. -/
def patch (n seed : Nat) (key : List UInt8) (old new : List Bool) : Nat → List Bool
  | 0 => old
  | k + 1 => (patch n seed key old new k).set (bplace n seed key k) (new.getD (bplace n seed key k) false)

theorem patch_len (n seed : Nat) (key : List UInt8) (old new : List Bool) : ∀ k, (patch n seed key old new k).length = old.length
  | 0 => rfl
  | k + 1 => by rw [patch, List.length_set, patch_len n seed key old new k]

theorem patch_get (n seed : Nat) (key : List UInt8) (old new : List Bool) (q : Nat) (hl : old.length = new.length) : ∀ k, (patch n seed key old new k)[q]? = if ∃ j, j < k ∧ bplace n seed key j = q then new[q]? else old[q]?
  | 0 => by simp [patch]
  | k + 1 => by
    rw [patch, List.getElem?_set, patch_get n seed key old new q hl k, patch_len]
    by_cases hq : bplace n seed key k = q
    · have hex : ∃ j, j < k + 1 ∧ bplace n seed key j = q := ⟨k, by omega, hq⟩
      rw [if_pos hq, if_pos hex, hq]
      by_cases hlt : q < old.length
      · rw [if_pos hlt, List.getD_eq_getElem?_getD]
        rw [List.getElem?_eq_getElem (by omega)]
        rfl
      · rw [if_neg hlt, List.getElem?_eq_none (by omega)]
    · rw [if_neg hq]
      by_cases h : ∃ j, j < k ∧ bplace n seed key j = q
      · obtain ⟨j, hj, e⟩ := h
        rw [if_pos ⟨j, hj, e⟩, if_pos ⟨j, by omega, e⟩]
      · rw [if_neg h, if_neg]
        rintro ⟨j, hj, e⟩
        rcases (by omega : j < k ∨ j = k) with h' | rfl
        · exact h ⟨j, h', e⟩
        · exact hq e

theorem at1_other (t : BT) (key : List UInt8) (num : Int) (i q : Nat) (h : bplace t.cells.length t.seed key i ≠ q) : (t.at1 key num i).cells[q]? = t.cells[q]? := by
  simp only [BT.at1, List.getElem?_modify, if_neg h]
  cases t.cells[q]? <;> rfl

theorem atN_other (t : BT) (key : List UInt8) (num : Int) (q : Nat) : ∀ k, (∀ j, j < k → bplace t.cells.length t.seed key j ≠ q) → (t.atN key num k).cells[q]? = t.cells[q]?
  | 0, _ => rfl
  | k + 1, h => by
    rw [BT.atN, at1_other _ _ _ _ _ (by rw [BT.atN_len, BT.atN_seed]; exact h k (by omega)), atN_other t key num q k (fun j hj => h j (by omega))]

theorem patch_all (t : BT) (key : List UInt8) (num : Int) : patch t.cells.length t.seed key t.pures (t.change key num).pures 3 = (t.change key num).pures := by
  have hl : t.pures.length = (t.change key num).pures.length := by rw [BT.pures_len, BT.pures_len, BT.change_len]
  apply List.ext_getElem?
  intro q
  rw [patch_get _ _ _ _ _ _ hl]
  split
  · rfl
  · rename_i h
    have hs : (t.change key num).seed = t.seed := BT.atN_seed t key num 3
    have := atN_other t key num q 3 (fun j hj e => h ⟨j, hj, e⟩)
    rw [BT.atN_three] at this
    unfold BT.pures
    rw [List.getElem?_map, List.getElem?_map, this, hs]

theorem peel_none (m : Nat) (s : Peel) (h : s.t.first = none) : peel m s = some s := by
  cases m with
  | zero => rfl
  | succ m => simp only [peel, h]
theorem peel_twice (m : Nat) (s : Peel) (i : Nat) (h : s.t.first = some i) (ht : s.taken.contains (s.t.cellAt i).keys = true) : peel (m + 1) s = none := by
  simp only [peel, h, ht, if_true]
theorem peel_step (m : Nat) (s : Peel) (i : Nat) (h : s.t.first = some i) (ht : s.taken.contains (s.t.cellAt i).keys = false) : peel (m + 1) s = peel m (s.take (s.t.cellAt i)) := by
  simp only [peel, h, ht, Bool.false_eq_true, if_false]

theorem first_some {t : BT} {i : Nat} (h : t.first = some i) : ∃ c, t.cells[i]? = some c ∧ c.pure t.seed = true ∧ t.cellAt i = c := by
  unfold BT.first at h
  rw [List.findIdx?_eq_some_iff_getElem] at h
  obtain ⟨h1, h2, _⟩ := h
  refine ⟨_, List.getElem?_eq_getElem h1, h2, ?_⟩
  unfold BT.cellAt
  rw [List.getD_eq_getElem?_getD, List.getElem?_eq_getElem h1]
  rfl

theorem pure_count {c : BC} {seed : Nat} (h : c.pure seed = true) : c.count = 1 ∨ c.count = -1 := by
  unfold BC.pure at h
  simp at h
  exact h.1

end Go.Proofs.YtnhagokkamobaaaDoor
