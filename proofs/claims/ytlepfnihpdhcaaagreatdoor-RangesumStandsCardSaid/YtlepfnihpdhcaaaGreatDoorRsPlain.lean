/- Plain: what the functions of rangesum and of its specification compute. No program in sight. -/
import Derived.Test.YtlepfnihpdhcaaaGreatDoorWirePlain
namespace Go.Proofs.YtlepfnihpdhcaaaGreatDoor

abbrev Bs := List UInt8
/-! ### Parameters and sets -/
def okP (fan leaf : Int) : Bool := decide (2 ≤ fan) && decide (fan ≤ 16) && decide (1 ≤ leaf) && decide (leaf ≤ 64)
def okSet (l : List Bs) : Prop := (∀ x ∈ l, x.length = 32) ∧ l.Pairwise (· < ·)
instance (l : List Bs) : Decidable (okSet l) := by unfold okSet; infer_instance
def setE (l : List Bs) : Int := if 16384 < l.length then 2 else if okSet l then 0 else 1

theorem b_lt_trans {a b c : Bs} (h1 : a < b) (h2 : b < c) : a < c := List.lt_trans h1 h2
theorem b_lt_irrefl {a : Bs} : ¬ a < a := List.lt_irrefl a
theorem b_le_iff {a b : Bs} : a ≤ b ↔ ¬ b < a := Iff.rfl
theorem b_lt_or {a b : Bs} (h : ¬ a < b) (hne : a ≠ b) : b < a := by
  rcases List.le_total a b with h1 | h1
  · exact (hne (List.le_antisymm h1 h)).elim
  · by_cases h2 : b < a
    · exact h2
    · exact (hne (List.le_antisymm h2 h)).elim
theorem setE_big {l : List Bs} (h : 16384 < l.length) : setE l = 2 := by simp [setE, h]
theorem setE_ok {l : List Bs} (h : l.length ≤ 16384) (hs : okSet l) : setE l = 0 := by unfold setE; rw [if_neg (by omega), if_pos hs]
theorem setE_bad {l : List Bs} (h : l.length ≤ 16384) (hs : ¬ okSet l) : setE l = 1 := by unfold setE; rw [if_neg (by omega), if_neg hs]
theorem okSet_nil {l : List Bs} : okSet (l.take 0) := by simp [okSet]
theorem okSet_take {l : List Bs} (i : Nat) (h : okSet l) : okSet (l.take i) := ⟨fun x hx => h.1 x (List.mem_of_mem_take hx), h.2.sublist (List.take_sublist _ _)⟩
theorem okSet_step {l : List Bs} {i : Nat} {x : Bs} (hx : l[i]? = some x) : okSet (l.take (i + 1)) ↔ okSet (l.take i) ∧ x.length = 32 ∧ ∀ j y, i = j + 1 → l[j]? = some y → y < x := by
  obtain ⟨hlt, he⟩ := List.getElem?_eq_some_iff.1 hx
  rw [List.take_succ_eq_append_getElem hlt, he]
  unfold okSet
  rw [List.pairwise_append]
  constructor
  · rintro ⟨h1, h2, _, h3⟩
    refine ⟨⟨fun y hy => h1 y (List.mem_append_left _ hy), h2⟩, h1 x (by simp), fun j y hj hy => h3 y ?_ x (by simp)⟩
    exact List.mem_of_getElem? (i := j) (by rw [List.getElem?_take_of_lt (by omega)]; exact hy)
  · rintro ⟨⟨h1, h2⟩, h3, h4⟩
    refine ⟨fun y hy => ?_, h2, by simp, fun a ha b hb => ?_⟩
    · rcases List.mem_append.1 hy with hy | hy
      · exact h1 y hy
      · rw [List.mem_singleton.1 hy]; exact h3
    · rw [List.mem_singleton.1 hb]
      obtain ⟨k, hk⟩ := List.getElem?_of_mem ha
      have hki : k < i := by
        have := (List.getElem?_eq_some_iff.1 hk).1
        rw [List.length_take] at this
        omega
      obtain ⟨j, rfl⟩ : ∃ j, i = j + 1 := ⟨i - 1, by omega⟩
      have hj : j < l.length := by omega
      have hlast := h4 j l[j] rfl (List.getElem?_eq_getElem hj)
      by_cases hkj : k = j
      · subst hkj
        rw [List.getElem?_take_of_lt (by omega), List.getElem?_eq_getElem hj] at hk
        injection hk with hk
        rw [← hk]
        exact hlast
      · refine b_lt_trans ?_ hlast
        rw [List.pairwise_iff_getElem] at h2
        obtain ⟨hk1, hk2⟩ := List.getElem?_eq_some_iff.1 hk
        have h5 : j < (l.take (j + 1)).length := by rw [List.length_take]; omega
        have := h2 k j hk1 h5 (by omega)
        rw [hk2, List.getElem_take] at this
        exact this

/-! ### Lists of items -/
theorem contains_no {l : List Bs} {i : Nat} {x y : Bs} (hy : l[i]? = some y) (h : (l.take i).contains x = false) (hne : decide (x = y) = false) : (l.take (i + 1)).contains x = false := by
  obtain ⟨hlt, he⟩ := List.getElem?_eq_some_iff.1 hy
  rw [List.take_succ_eq_append_getElem hlt, he]
  simp at h hne ⊢
  exact ⟨h, hne⟩
theorem contains_yes {l : List Bs} {i : Nat} {x y : Bs} (hy : l[i]? = some y) (h : decide (x = y) = true) : l.contains x = true := by
  simp at h
  subst h
  simpa using List.mem_of_getElem? hy
def inR (lo hi x : Bs) : Bool := (decide (lo < x) || decide (lo = x)) && (decide (hi = []) || decide (x < hi))
def inL (l : List Bs) (lo hi : Bs) : List Bs := l.filter (inR lo hi)
theorem filter_take_yes {α : Type} {p : α → Bool} {l : List α} {i : Nat} {x : α} (hx : l[i]? = some x) (h : p x = true) : (l.take i).filter p ++ [x] = (l.take (i + 1)).filter p := by
  obtain ⟨hlt, he⟩ := List.getElem?_eq_some_iff.1 hx
  rw [List.take_succ_eq_append_getElem hlt, he, List.filter_append]
  simp [h]
theorem filter_take_no {α : Type} {p : α → Bool} {l : List α} {i : Nat} {x : α} (hx : l[i]? = some x) (h : p x = false) : (l.take i).filter p = (l.take (i + 1)).filter p := by
  obtain ⟨hlt, he⟩ := List.getElem?_eq_some_iff.1 hx
  rw [List.take_succ_eq_append_getElem hlt, he, List.filter_append]
  simp [h]
theorem inL_yes {l : List Bs} {i : Nat} {x lo hi : Bs} (hx : l[i]? = some x) (h : inR lo hi x = true) : inL (l.take i) lo hi ++ [x] = inL (l.take (i + 1)) lo hi := filter_take_yes hx h
theorem inL_no {l : List Bs} {i : Nat} {x lo hi : Bs} (hx : l[i]? = some x) (h : inR lo hi x = false) : inL (l.take i) lo hi = inL (l.take (i + 1)) lo hi := filter_take_no hx h
theorem inL_len (l : List Bs) (lo hi : Bs) : (inL l lo hi).length ≤ l.length := List.length_filter_le _ _
def without (l m : List Bs) : List Bs := l.filter fun x => !m.contains x
theorem without_yes {l m : List Bs} {i : Nat} {x : Bs} (hx : l[i]? = some x) (h : m.contains x = false) : without (l.take i) m ++ [x] = without (l.take (i + 1)) m := filter_take_yes hx (by simpa using h)
theorem without_no {l m : List Bs} {i : Nat} {x : Bs} (hx : l[i]? = some x) (h : m.contains x = true) : without (l.take i) m = without (l.take (i + 1)) m := filter_take_no hx (by simpa using h)
theorem without_len (l m : List Bs) : (without l m).length ≤ l.length := List.length_filter_le _ _

theorem take_eq_step {l m : List Bs} {i : Nat} {x y : Bs} (hx : l[i]? = some x) (hy : m[i]? = some y) (h : l.take i = m.take i) (he : x = y) : l.take (i + 1) = m.take (i + 1) := by
  obtain ⟨h1, e1⟩ := List.getElem?_eq_some_iff.1 hx
  obtain ⟨h2, e2⟩ := List.getElem?_eq_some_iff.1 hy
  rw [List.take_succ_eq_append_getElem h1, List.take_succ_eq_append_getElem h2, h, e1, e2, he]
def setB (l : List Bs) : Bool := decide (l.length ≤ 40) && decide (setE l = 0)
def largeB (n : Nat) : Bool := decide (40 < n) && decide (n ≤ 16384)
def spanOk (lo hi : Bs) : Bool := decide (hi = []) || decide (lo < hi)
def boundOk (x : Bs) : Bool := decide (x = []) || decide (x.length = 32)
/-- Strictly ascending, within a range. -/
def ordOk (l : List Bs) (lo hi : Bs) : Bool := l.all (inR lo hi) && decide (l.Pairwise (· < ·))
theorem pw_step {l : List Bs} {i : Nat} {x : Bs} (hx : l[i]? = some x) : (l.take (i + 1)).Pairwise (· < ·) ↔ (l.take i).Pairwise (· < ·) ∧ ∀ j y, i = j + 1 → l[j]? = some y → y < x := by
  obtain ⟨hlt, he⟩ := List.getElem?_eq_some_iff.1 hx
  rw [List.take_succ_eq_append_getElem hlt, he, List.pairwise_append]
  constructor
  · rintro ⟨h2, _, h3⟩
    exact ⟨h2, fun j y hj hy => h3 y (List.mem_of_getElem? (i := j) (by rw [List.getElem?_take_of_lt (by omega)]; exact hy)) x (by simp)⟩
  · rintro ⟨h2, h4⟩
    refine ⟨h2, by simp, fun a ha b hb => ?_⟩
    rw [List.mem_singleton.1 hb]
    obtain ⟨k, hk⟩ := List.getElem?_of_mem ha
    have hki : k < i := by
      have := (List.getElem?_eq_some_iff.1 hk).1
      rw [List.length_take] at this
      omega
    obtain ⟨j, rfl⟩ : ∃ j, i = j + 1 := ⟨i - 1, by omega⟩
    have hj : j < l.length := by omega
    have hlast := h4 j l[j] rfl (List.getElem?_eq_getElem hj)
    by_cases hkj : k = j
    · subst hkj
      rw [List.getElem?_take_of_lt (by omega), List.getElem?_eq_getElem hj] at hk
      injection hk with hk
      rw [← hk]
      exact hlast
    · refine b_lt_trans ?_ hlast
      rw [List.pairwise_iff_getElem] at h2
      obtain ⟨hk1, hk2⟩ := List.getElem?_eq_some_iff.1 hk
      have h5 : j < (l.take (j + 1)).length := by rw [List.length_take]; omega
      have := h2 k j hk1 h5 (by omega)
      rw [hk2, List.getElem_take] at this
      exact this
theorem ordOk_step {l : List Bs} {i : Nat} {x lo hi : Bs} (hx : l[i]? = some x) : ordOk (l.take (i + 1)) lo hi = true ↔ ordOk (l.take i) lo hi = true ∧ inR lo hi x = true ∧ ∀ j y, i = j + 1 → l[j]? = some y → y < x := by
  unfold ordOk
  rw [Bool.and_eq_true, Bool.and_eq_true, decide_eq_true_eq, decide_eq_true_eq, pw_step hx]
  obtain ⟨hlt, he⟩ := List.getElem?_eq_some_iff.1 hx
  rw [List.take_succ_eq_append_getElem hlt, he, List.all_append]
  simp
  constructor
  · rintro ⟨⟨h1, h2⟩, h3, h4⟩; exact ⟨⟨h1, h3⟩, h2, h4⟩
  · rintro ⟨⟨h1, h3⟩, h2, h4⟩; exact ⟨⟨h1, h2⟩, h3, h4⟩
theorem ordOk_bad {l : List Bs} {i : Nat} {x lo hi : Bs} (hx : l[i]? = some x) (h : ¬ (inR lo hi x = true ∧ ∀ j y, i = j + 1 → l[j]? = some y → y < x)) : ordOk l lo hi = false := by
  cases ho : ordOk l lo hi with
  | false => rfl
  | true =>
    unfold ordOk at ho
    rw [Bool.and_eq_true, decide_eq_true_eq] at ho
    have : ordOk (l.take (i + 1)) lo hi = true := by
      unfold ordOk
      rw [Bool.and_eq_true, decide_eq_true_eq]
      refine ⟨?_, ho.2.sublist (List.take_sublist _ _)⟩
      rw [List.all_eq_true] at ho ⊢
      exact fun y hy => ho.1 y (List.mem_of_mem_take hy)
    exact (h ((ordOk_step hx).1 this).2).elim

theorem setE_zero {l : List Bs} (h : setE l = 0) : l.length ≤ 16384 ∧ okSet l := by
  unfold setE at h
  split at h
  · cases h
  · split at h
    · exact ⟨by omega, by assumption⟩
    · cases h
theorem okSet_flat {l : List Bs} (h : l.length ≤ 16384 ∧ okSet l) : l.flatten.length ≤ l.length * 32 := by
  have key : ∀ l : List Bs, (∀ x ∈ l, x.length = 32) → l.flatten.length = l.length * 32 := by
    intro l
    induction l with
    | nil => intro _; rfl
    | cons x l ih =>
      intro hx
      rw [List.flatten_cons, List.length_append, ih fun y hy => hx y (by simp [hy]), hx x (by simp), List.length_cons]
      omega
  exact Nat.le_of_eq (key l h.2.1)
def itemB (y : UInt8) : Bs := List.replicate 32 y
theorem flatten_take {l : List Bs} {i : Nat} {x : Bs} (hx : l[i]? = some x) : (l.take i).flatten ++ x = (l.take (i + 1)).flatten := by
  obtain ⟨hlt, he⟩ := List.getElem?_eq_some_iff.1 hx
  rw [List.take_succ_eq_append_getElem hlt, he]
  simp
theorem flatten_le {l : List Bs} {i : Nat} {x : Bs} (hx : l[i]? = some x) : (l.take i).flatten.length + x.length ≤ l.flatten.length := by
  have h := flatten_take hx
  have e : l.flatten = (l.take (i + 1)).flatten ++ (l.drop (i + 1)).flatten := by rw [← List.flatten_append, List.take_append_drop]
  rw [e, ← h]
  simp
/-! ### Bounds -/
theorem div_lt {fan m : Nat} (hf : 2 ≤ fan) (hm : 2 ≤ m) : (m + fan - 1) / fan < m := by
  rw [Nat.div_lt_iff_lt_mul (by omega)]
  have : m * 2 ≤ m * fan := Nat.mul_le_mul_left _ hf
  have h2 : 2 * fan ≤ m * fan := Nat.mul_le_mul_right _ hm
  obtain ⟨a, rfl⟩ : ∃ a, m = a + 2 := ⟨m - 2, by omega⟩
  obtain ⟨b, rfl⟩ : ∃ b, fan = b + 2 := ⟨fan - 2, by omega⟩
  have e : (a + 2) * (b + 2) = a * b + 2 * a + 2 * b + 4 := by rw [Nat.add_mul, Nat.mul_add]; omega
  omega
def depthN (fan leaf n : Nat) : Nat := if h : leaf < n ∧ 1 ≤ leaf ∧ 2 ≤ fan then depthN fan leaf ((n + fan - 1) / fan) + 1 else 0
termination_by n
decreasing_by exact div_lt h.2.2 (by omega)
theorem depthN_step {fan leaf n : Nat} (hf : 2 ≤ fan) (hl : 1 ≤ leaf) (h : leaf < n) : depthN fan leaf n = depthN fan leaf ((n + fan - 1) / fan) + 1 := by
  rw [depthN, dif_pos ⟨h, hl, hf⟩]
theorem depthN_zero {fan leaf n : Nat} (h : n ≤ leaf) : depthN fan leaf n = 0 := by
  rw [depthN, dif_neg (by omega)]

/-! ### A list with further items -/
def posB (l : List Bs) (x : Bs) : Nat := (l.takeWhile fun y => decide (y < x)).length
def insB (l : List Bs) (x : Bs) : List Bs := if l.contains x then l else (l.take (posB l x) ++ [x]) ++ l.drop (posB l x)
def withL (l m : List Bs) : List Bs := m.foldl insB l
theorem posB_le (l : List Bs) (x : Bs) : posB l x ≤ l.length := List.Sublist.length_le (List.takeWhile_sublist _)
theorem take_posB (l : List Bs) (s : Bs) : l.take (posB l s) = l.takeWhile fun x => decide (x < s) := by
  unfold posB
  conv => lhs; arg 2; rw [← List.takeWhile_append_dropWhile (p := fun x => decide (x < s)) (l := l)]
  exact List.take_left
theorem drop_posB (l : List Bs) (s : Bs) : l.drop (posB l s) = l.dropWhile fun x => decide (x < s) := by
  unfold posB
  conv => lhs; arg 2; rw [← List.takeWhile_append_dropWhile (p := fun x => decide (x < s)) (l := l)]
  exact List.drop_left
theorem posB_step {l : List Bs} {s : Bs} {k : Nat} {x : Bs} (hk : k ≤ posB l s) (hx : l[k]? = some x) : (x < s ↔ k < posB l s) := by
  constructor
  · intro h
    rcases Nat.lt_or_ge k (posB l s) with h1 | h1
    · exact h1
    · exfalso
      have hke : k = posB l s := by omega
      subst hke
      have h0 : (l.drop (posB l s))[0]? = some x := by rw [List.getElem?_drop]; simpa using hx
      rw [drop_posB] at h0
      have hne : l.dropWhile (fun x => decide (x < s)) ≠ [] := by intro e; rw [e] at h0; cases h0
      have := List.head_dropWhile_not (fun x => decide (x < s)) hne
      rw [List.head_eq_getElem] at this
      rw [List.getElem?_eq_getElem (List.length_pos_iff.2 hne)] at h0
      injection h0 with h0
      rw [h0] at this
      simp [h] at this
  · intro h
    have h1 : (l.take (posB l s))[k]? = some x := by rw [List.getElem?_take_of_lt h]; exact hx
    rw [take_posB] at h1
    have h2 := List.all_takeWhile (p := fun x => decide (x < s)) (l := l)
    rw [List.all_eq_true] at h2
    simpa using h2 x (List.mem_of_getElem? h1)
theorem posB_end {l : List Bs} {s : Bs} {k : Nat} (hk : k ≤ posB l s) (hx : l.length ≤ k) : k = posB l s := by
  have := posB_le l s
  omega
theorem insB_len (l : List Bs) (x : Bs) : (insB l x).length ≤ l.length + 1 := by
  unfold insB
  split
  · omega
  · simp only [List.length_append, List.length_take, List.length_drop, List.length_cons, List.length_nil]
    have := posB_le l x
    omega
theorem withL_len (m : List Bs) : ∀ l : List Bs, (withL l m).length ≤ l.length + m.length := by
  induction m with
  | nil => intro l; exact Nat.le_refl _
  | cons x m ih =>
    intro l
    have h1 := ih (insB l x)
    have h2 := insB_len l x
    show (withL (insB l x) m).length ≤ _
    rw [List.length_cons]
    omega
theorem withL_succ {l m : List Bs} {i : Nat} {x : Bs} (hx : m[i]? = some x) : withL l (m.take (i + 1)) = insB (withL l (m.take i)) x := by
  obtain ⟨hlt, he⟩ := List.getElem?_eq_some_iff.1 hx
  rw [List.take_succ_eq_append_getElem hlt, he]
  unfold withL
  rw [List.foldl_append]
  rfl
theorem withL_no {l m : List Bs} {i : Nat} {x : Bs} (hx : m[i]? = some x) (h : (withL l (m.take i)).contains x = true) : withL l (m.take i) = withL l (m.take (i + 1)) := by
  rw [withL_succ hx]
  unfold insB
  rw [if_pos h]
theorem withL_yes {l m : List Bs} {i k : Nat} {x : Bs} (hx : m[i]? = some x) (h : (withL l (m.take i)).contains x = false) (hk : k = posB (withL l (m.take i)) x) : (withL l (m.take i)).take k ++ [x] ++ (withL l (m.take i)).drop k = withL l (m.take (i + 1)) := by
  rw [withL_succ hx]
  unfold insB
  rw [if_neg (by rw [h]; decide), hk]

/-! ### Search by halves -/
def bsr (p : Nat → Bool) (i j : Nat) : Nat := if h : i < j then (if p ((i + j) / 2) then bsr p i ((i + j) / 2) else bsr p ((i + j) / 2 + 1) j) else i
termination_by j - i
decreasing_by all_goals omega
theorem bsr_lo {p : Nat → Bool} {i j : Nat} (h : i < j) (hp : p ((i + j) / 2) = true) : bsr p i j = bsr p i ((i + j) / 2) := by rw [bsr, dif_pos h, if_pos hp]
theorem bsr_hi {p : Nat → Bool} {i j : Nat} (h : i < j) (hp : p ((i + j) / 2) = false) : bsr p i j = bsr p ((i + j) / 2 + 1) j := by rw [bsr, dif_pos h, if_neg (by rw [hp]; decide)]
theorem bsr_end {p : Nat → Bool} {i j : Nat} (h : ¬ i < j) : bsr p i j = i := by rw [bsr, dif_neg h]
/-- The first at which p holds, where p holds from some k on. -/
theorem bsr_eq {p : Nat → Bool} {k n : Nat} (h0 : ∀ i, i < k → p i = false) (h1 : ∀ i, k ≤ i → i < n → p i = true) : ∀ (m i j : Nat), j - i ≤ m → i ≤ k → k ≤ j → j ≤ n → bsr p i j = k
  | 0, i, j, hm, hi, hj, _ => by rw [bsr_end (by omega)]; omega
  | m + 1, i, j, hm, hi, hj, hn => by
    by_cases h : i < j
    · cases hp : p ((i + j) / 2) with
      | true =>
        rw [bsr_lo h hp]
        have : k ≤ (i + j) / 2 := by
          rcases Nat.lt_or_ge ((i + j) / 2) k with h2 | h2
          · rw [h0 _ h2] at hp; cases hp
          · exact h2
        exact bsr_eq h0 h1 m i _ (by omega) hi this (by omega)
      | false =>
        rw [bsr_hi h hp]
        have : (i + j) / 2 < k := by
          rcases Nat.lt_or_ge ((i + j) / 2) k with h2 | h2
          · exact h2
          · rw [h1 _ h2 (by omega)] at hp; cases hp
        exact bsr_eq h0 h1 m _ j (by omega) (by omega) hj hn
    · rw [bsr_end h]; omega
def geP (l : List Bs) (x : Bs) (i : Nat) : Bool := !decide (l.getD i [] < x)
theorem geP_at {l : List Bs} {i : Nat} {y x : Bs} (h : l[i]? = some y) : geP l x i = !decide (y < x) := by simp [geP, List.getD_eq_getElem?_getD, h]
theorem search_pos {l : List Bs} (hs : l.Pairwise (· < ·)) (x : Bs) : bsr (geP l x) 0 l.length = posB l x := by
  refine bsr_eq (k := posB l x) (n := l.length) (fun i hi => ?_) (fun i hi hn => ?_) l.length 0 l.length (by omega) (Nat.zero_le _) (posB_le l x) (Nat.le_refl _)
  · have hlt : i < l.length := Nat.lt_of_lt_of_le hi (posB_le l x)
    rw [geP_at (List.getElem?_eq_getElem hlt)]
    simp [(posB_step (Nat.le_of_lt hi) (List.getElem?_eq_getElem hlt)).2 hi]
  · rw [geP_at (List.getElem?_eq_getElem hn)]
    have hp : posB l x < l.length := by omega
    have h1 : ¬ l[posB l x] < x := fun h => by
      have := (posB_step (Nat.le_refl _) (List.getElem?_eq_getElem hp)).1 h
      omega
    have h2 : ¬ l[i] < x := fun h => by
      rcases Nat.lt_or_ge (posB l x) i with h3 | h3
      · have := (List.pairwise_iff_getElem.1 hs) (posB l x) i hp hn h3
        exact h1 (b_lt_trans this h)
      · have : i = posB l x := by omega
        subst this
        exact h1 h
    simp [h2]
/-- What stands before the place of x is less; what stands behind is not. -/
theorem take_lt {l : List Bs} {x y : Bs} (h : y ∈ l.take (posB l x)) : y < x := by
  rw [take_posB] at h
  have h2 := List.all_takeWhile (p := fun z => decide (z < x)) (l := l)
  rw [List.all_eq_true] at h2
  simpa using h2 y h
theorem drop_ge' {l : List Bs} (hs : l.Pairwise (· < ·)) {x y : Bs} (h : y ∈ l.drop (posB l x)) : ¬ y < x := by
  obtain ⟨j, hj⟩ := List.getElem?_of_mem h
  rw [List.getElem?_drop] at hj
  intro hlt
  have hjl := (List.getElem?_eq_some_iff.1 hj).1
  have hp : posB l x < l.length := by omega
  have h1 : ¬ l[posB l x] < x := fun h => by
    have := (posB_step (Nat.le_refl _) (List.getElem?_eq_getElem hp)).1 h
    omega
  rcases Nat.eq_zero_or_pos j with h0 | h0
  · subst h0
    rw [Nat.add_zero, List.getElem?_eq_getElem hp] at hj
    injection hj with hj
    exact h1 (hj ▸ hlt)
  · have h3 := (List.pairwise_iff_getElem.1 hs) (posB l x) (posB l x + j) hp hjl (by omega)
    rw [(List.getElem?_eq_some_iff.1 hj).2] at h3
    exact h1 (b_lt_trans h3 hlt)
/-- The items of a range are a part of an ascending list. -/
theorem inL_part {l : List Bs} (hs : l.Pairwise (· < ·)) (lo hi : Bs) : (l.take (max (posB l lo) (if hi = [] then l.length else posB l hi))).drop (posB l lo) = inL l lo hi := by
  have hb : inR lo hi = fun x => !decide (x < lo) && (decide (hi = []) || decide (x < hi)) := by
    funext x
    unfold inR
    by_cases h1 : lo < x
    · have : ¬ x < lo := fun h => b_lt_irrefl (b_lt_trans h1 h)
      simp [h1, this]
    · by_cases h2 : lo = x
      · subst h2; simp [b_lt_irrefl]
      · have : x < lo := b_lt_or h1 h2
        simp [h1, h2, this]
  have hsplit : l = l.take (posB l lo) ++ l.drop (posB l lo) := (List.take_append_drop _ _).symm
  have hD : ∀ y, y ∈ l.drop (posB l lo) → ¬ y < lo := fun y h => drop_ge' hs h
  have hsD : (l.drop (posB l lo)).Pairwise (· < ·) := hs.sublist (List.drop_sublist _ _)
  have e1 : inL l lo hi = (l.drop (posB l lo)).filter fun x => decide (hi = []) || decide (x < hi) := by
    unfold inL
    rw [hb]
    conv => lhs; rw [hsplit]
    rw [List.filter_append]
    have z1 : (l.take (posB l lo)).filter (fun x => !decide (x < lo) && (decide (hi = []) || decide (x < hi))) = [] := by
      rw [List.filter_eq_nil_iff]
      intro x hx
      simp [take_lt hx]
    rw [z1, List.nil_append]
    apply List.filter_congr
    intro x hx
    simp [hD x hx]
  rw [e1, List.drop_take]
  by_cases hh : hi = []
  · subst hh
    have hle := posB_le l lo
    rw [if_pos rfl, Nat.max_eq_right hle]
    have : (l.drop (posB l lo)).filter (fun x => decide (([] : Bs) = []) || decide (x < [])) = l.drop (posB l lo) := by simp
    rw [this, List.take_of_length_le (by rw [List.length_drop]; omega)]
  · rw [if_neg hh]
    have e2 : (l.drop (posB l lo)).filter (fun x => decide (hi = []) || decide (x < hi)) = (l.drop (posB l lo)).filter fun x => decide (x < hi) := by
      apply List.filter_congr
      intro x _
      simp [hh]
    rw [e2]
    rcases Nat.lt_or_ge (posB l lo) (posB l hi) with h1 | h1
    · rw [Nat.max_eq_right (Nat.le_of_lt h1)]
      have hs2 : l.drop (posB l lo) = (l.drop (posB l lo)).take (posB l hi - posB l lo) ++ l.drop (posB l hi) := by
        have := (List.take_append_drop (posB l hi - posB l lo) (l.drop (posB l lo))).symm
        rwa [List.drop_drop, show posB l lo + (posB l hi - posB l lo) = posB l hi by omega] at this
      conv => rhs; rw [hs2]
      rw [List.filter_append]
      have z1 : ((l.drop (posB l lo)).take (posB l hi - posB l lo)).filter (fun x => decide (x < hi)) = (l.drop (posB l lo)).take (posB l hi - posB l lo) := by
        rw [List.filter_eq_self]
        intro x hx
        have : x ∈ l.take (posB l hi) := by
          rw [← List.drop_take] at hx
          exact List.mem_of_mem_drop hx
        simpa using take_lt this
      have z2 : (l.drop (posB l hi)).filter (fun x => decide (x < hi)) = [] := by
        rw [List.filter_eq_nil_iff]
        intro x hx
        simpa using drop_ge' hs hx
      rw [z1, z2, List.append_nil]
    · rw [Nat.max_eq_left h1, Nat.sub_self, List.take_zero]
      symm
      rw [List.filter_eq_nil_iff]
      intro x hx
      have : x ∈ l.drop (posB l hi) := by
        have e : l.drop (posB l lo) = (l.drop (posB l hi)).drop (posB l lo - posB l hi) := by rw [List.drop_drop]; congr 1; omega
        rw [e] at hx
        exact List.mem_of_mem_drop hx
      simpa using drop_ge' hs this
theorem has_pos {l : List Bs} (hs : l.Pairwise (· < ·)) (x : Bs) : l.contains x = decide (l[posB l x]? = some x) := by
  rw [Bool.eq_iff_iff, decide_eq_true_eq, List.contains_iff_mem]
  constructor
  · intro h
    have hm : x ∈ l.take (posB l x) ++ l.drop (posB l x) := by rw [List.take_append_drop]; exact h
    rcases List.mem_append.1 hm with h1 | h1
    · exact (b_lt_irrefl (take_lt h1)).elim
    · obtain ⟨j, hj⟩ := List.getElem?_of_mem h1
      rw [List.getElem?_drop] at hj
      have hjl := (List.getElem?_eq_some_iff.1 hj).1
      rcases Nat.eq_zero_or_pos j with h0 | h0
      · subst h0; exact hj
      · have hp : posB l x < l.length := by omega
        have h3 := (List.pairwise_iff_getElem.1 hs) (posB l x) (posB l x + j) hp hjl (by omega)
        rw [(List.getElem?_eq_some_iff.1 hj).2] at h3
        have := (posB_step (Nat.le_refl _) (List.getElem?_eq_getElem hp)).1 h3
        omega
  · intro h
    exact List.mem_of_getElem? h
theorem okSet_filter {l : List Bs} (h : okSet l) (p : Bs → Bool) : okSet (l.filter p) := ⟨fun x hx => h.1 x (List.mem_filter.1 hx).1, h.2.sublist List.filter_sublist⟩
theorem flat32 : ∀ l : List Bs, (∀ x ∈ l, x.length = 32) → l.flatten.length = l.length * 32
  | [], _ => rfl
  | x :: l, hx => by
    rw [List.flatten_cons, List.length_append, flat32 l fun y hy => hx y (by simp [hy]), hx x (by simp), List.length_cons]
    omega
theorem inL_flat {l : List Bs} (h : okSet l) (lo hi : Bs) : (inL l lo hi).flatten.length ≤ l.length * 32 := by
  have e : (inL l lo hi).flatten.length = (inL l lo hi).length * 32 := flat32 _ (okSet_filter h (inR lo hi)).1
  rw [e]
  exact Nat.mul_le_mul_right _ (inL_len l lo hi)
def keepIn (l m : List Bs) : List Bs := l.filter fun x => m.contains x
theorem keepIn_yes {l m : List Bs} {i : Nat} {x : Bs} (hx : l[i]? = some x) (h : m.contains x = true) : keepIn (l.take i) m ++ [x] = keepIn (l.take (i + 1)) m := filter_take_yes hx h
theorem keepIn_no {l m : List Bs} {i : Nat} {x : Bs} (hx : l[i]? = some x) (h : m.contains x = false) : keepIn (l.take i) m = keepIn (l.take (i + 1)) m := filter_take_no hx h
theorem keepIn_len (l m : List Bs) : (keepIn l m).length ≤ l.length := List.length_filter_le _ _
end Go.Proofs.YtlepfnihpdhcaaaGreatDoor
namespace Go.Proofs.YtlepfnihpdhcaaaGreatDoor

def fpB (l : List Bs) : Bs := sha l.flatten
/-! ### Plain -/
inductive AC where
  | sum (n : Nat) (f : Bs) | list (xs : List Bs) | ans (xs ms : List Bs)
  deriving DecidableEq
structure AP where
  (lo hi : Bs) (c : AC)
  deriving DecidableEq
def sumA (its : List Bs) (lo hi : Bs) : AP := ⟨lo, hi, .sum (inL its lo hi).length (fpB (inL its lo hi))⟩
/-- The division of a range, up to part k. -/
def divTo (its own : List Bs) (fan : Nat) (lo : Bs) : Nat → Bs × List AP
  | 0 => (lo, [])
  | k + 1 => if own.getD ((k + 1) * own.length / fan) [] = (divTo its own fan lo k).1 then divTo its own fan lo k else (own.getD ((k + 1) * own.length / fan) [], (divTo its own fan lo k).2 ++ [sumA its (divTo its own fan lo k).1 (own.getD ((k + 1) * own.length / fan) [])])
def cmpA (its : List Bs) (fan leaf : Nat) (lo hi : Bs) (n : Nat) (f : Bs) : List AP :=
  if (inL its lo hi).length = n ∧ fpB (inL its lo hi) = f then []
  else if (inL its lo hi).length ≤ leaf then [⟨lo, hi, .list (inL its lo hi)⟩]
  else (divTo its (inL its lo hi) fan lo (fan - 1)).2 ++ [sumA its (divTo its (inL its lo hi) fan lo (fan - 1)).1 hi]
def ansA (its : List Bs) (lo hi : Bs) (xs : List Bs) : List AP :=
  if 0 < (without (inL its lo hi) xs).length + (without xs its).length then [⟨lo, hi, .ans (without (inL its lo hi) xs) (without xs its)⟩] else []

theorem take_snoc {α : Type} {l : List α} {i : Nat} {x : α} (hx : l[i]? = some x) : l.take i ++ [x] = l.take (i + 1) := by rw [List.take_add_one, hx]; rfl

/-! ### Encoding -/
abbrev noB : Bs := []
def AC.enc : AC → Bs
  | .sum n f => (num 1 ++ num n) ++ f
  | .list xs => num 2 ++ (num xs.length ++ xs.flatten)
  | .ans xs ms => (num 3 ++ (num xs.length ++ xs.flatten)) ++ (num ms.length ++ ms.flatten)
def AP.enc (p : AP) : Bs := ((num p.lo.length ++ p.lo) ++ (num p.hi.length ++ p.hi)) ++ p.c.enc
def encA (ps : List AP) : Bs := if ps.length = 0 then [] else num ps.length ++ ps.flatMap AP.enc
def AC.fit : AC → Prop
  | .sum n f => n ≤ 16384 ∧ f.length = 32
  | .list xs => xs.length ≤ 16384 ∧ ∀ x ∈ xs, x.length = 32
  | .ans xs ms => (xs.length ≤ 16384 ∧ ∀ x ∈ xs, x.length = 32) ∧ ms.length ≤ 16384 ∧ ∀ x ∈ ms, x.length = 32
def AP.fit (p : AP) : Prop := p.lo.length ≤ 32 ∧ p.hi.length ≤ 32 ∧ p.c.fit
theorem enc_step {ps : List AP} {i : Nat} {p : AP} (h : ps[i]? = some p) : (ps.take i).flatMap AP.enc ++ p.enc = (ps.take (i + 1)).flatMap AP.enc := by
  rw [← take_snoc h, List.flatMap_append]
  simp
theorem enc_le {ps : List AP} {i : Nat} {p : AP} (h : ps[i]? = some p) : ((ps.take i).flatMap AP.enc).length + p.enc.length ≤ (ps.flatMap AP.enc).length := by
  have e := enc_step h
  have e2 : ps.flatMap AP.enc = (ps.take (i + 1)).flatMap AP.enc ++ (ps.drop (i + 1)).flatMap AP.enc := by rw [← List.flatMap_append, List.take_append_drop]
  rw [e2, ← e]
  simp only [List.length_append]
  omega
theorem numPos (n : Nat) : 0 < (num n).length := by
  unfold num
  split <;> simp
theorem enc_ge : ∀ ps : List AP, ps.length ≤ (ps.flatMap AP.enc).length
  | [] => Nat.zero_le _
  | p :: ps => by
    have h := enc_ge ps
    have h2 := numPos p.lo.length
    simp only [List.flatMap_cons, List.length_append, List.length_cons, AP.enc]
    omega

end Go.Proofs.YtlepfnihpdhcaaaGreatDoor
