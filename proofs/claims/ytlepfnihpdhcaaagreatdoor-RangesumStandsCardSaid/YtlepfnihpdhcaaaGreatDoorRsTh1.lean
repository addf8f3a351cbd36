/- rangesum, plain: order of byte strings, ranges, the division of a range. -/
import Derived.Test.YtlepfnihpdhcaaaGreatDoorRsPlain
namespace Go.Proofs.YtlepfnihpdhcaaaGreatDoor

/-! ### Order -/
theorem bs_le_refl (a : Bs) : ¬ a < a := b_lt_irrefl
theorem bs_lt_le {a b c : Bs} (h : a < b) (k : ¬ c < b) : a < c := by
  by_cases e : b = c
  · rw [← e]; exact h
  · exact b_lt_trans h (b_lt_or k (fun h => e h.symm))
theorem bs_le_lt {a b c : Bs} (h : ¬ b < a) (k : b < c) : a < c := by
  by_cases e : a = b
  · rw [e]; exact k
  · exact b_lt_trans (b_lt_or h (fun h => e h.symm)) k
theorem bs_le_le {a b c : Bs} (h : ¬ b < a) (k : ¬ c < b) : ¬ c < a := fun hh => h (bs_le_lt k hh)
theorem bs_le_of {a b : Bs} (h : a < b) : ¬ b < a := fun k => b_lt_irrefl (b_lt_trans h k)
theorem nil_le (a : Bs) : ¬ a < [] := List.not_lt_nil a
theorem nil_lt {a : Bs} (h : a ≠ []) : [] < a := b_lt_or (nil_le a) h

/-! ### Ranges -/
theorem inR_iff {lo hi x : Bs} : inR lo hi x = true ↔ ¬ x < lo ∧ (hi = [] ∨ x < hi) := by
  unfold inR
  rw [Bool.and_eq_true, Bool.or_eq_true, Bool.or_eq_true, decide_eq_true_eq, decide_eq_true_eq, decide_eq_true_eq, decide_eq_true_eq]
  constructor
  · rintro ⟨h, k⟩
    refine ⟨?_, k⟩
    rcases h with h | h
    · exact bs_le_of h
    · rw [h]; exact b_lt_irrefl
  · rintro ⟨h, k⟩
    refine ⟨?_, k⟩
    by_cases e : lo = x
    · exact .inr e
    · exact .inl (b_lt_or h (fun h => e h.symm))
theorem inR_false {lo hi x : Bs} : inR lo hi x = false ↔ x < lo ∨ (hi ≠ [] ∧ ¬ x < hi) := by
  rw [← Bool.not_eq_true, inR_iff]
  constructor
  · intro h
    by_cases h1 : x < lo
    · exact .inl h1
    · refine .inr ⟨fun e => h ⟨h1, .inl e⟩, fun e => h ⟨h1, .inr e⟩⟩
  · rintro (h | ⟨h1, h2⟩) ⟨k1, k2⟩
    · exact k1 h
    · exact k2.elim h1 h2
theorem mem_inL {l : List Bs} {lo hi x : Bs} : x ∈ inL l lo hi ↔ x ∈ l ∧ inR lo hi x = true := List.mem_filter
theorem mem_without {l m : List Bs} {x : Bs} : x ∈ without l m ↔ x ∈ l ∧ x ∉ m := by
  unfold without
  rw [List.mem_filter]
  simp
theorem mem_keepIn {l m : List Bs} {x : Bs} : x ∈ keepIn l m ↔ x ∈ l ∧ x ∈ m := by
  unfold keepIn
  rw [List.mem_filter]
  simp
/-- Within a range. -/
def Sub (lo hi a b : Bs) : Prop := ¬ a < lo ∧ (hi = [] ∨ (b ≠ [] ∧ ¬ hi < b))
theorem Sub.refl (lo hi : Bs) : Sub lo hi lo hi := by
  refine ⟨b_lt_irrefl, ?_⟩
  by_cases h : hi = []
  · exact .inl h
  · exact .inr ⟨h, b_lt_irrefl⟩
theorem Sub.inR {lo hi a b x : Bs} (h : Sub lo hi a b) (k : inR a b x = true) : inR lo hi x = true := by
  rw [inR_iff] at k ⊢
  refine ⟨bs_le_le h.1 k.1, ?_⟩
  rcases h.2 with h2 | ⟨h2, h3⟩
  · exact .inl h2
  · rcases k.2 with k2 | k2
    · exact absurd k2 h2
    · exact .inr (bs_lt_le k2 h3)
theorem Sub.inL {lo hi a b : Bs} (h : Sub lo hi a b) (l : List Bs) : inL (Go.Proofs.YtlepfnihpdhcaaaGreatDoor.inL l lo hi) a b = Go.Proofs.YtlepfnihpdhcaaaGreatDoor.inL l a b := by
  unfold Go.Proofs.YtlepfnihpdhcaaaGreatDoor.inL
  rw [List.filter_filter]
  apply List.filter_congr
  intro x _
  cases hx : Go.Proofs.YtlepfnihpdhcaaaGreatDoor.inR a b x with
  | false => simp
  | true => simp [h.inR hx]
abbrev cnt (l : List Bs) (lo hi : Bs) : Nat := (inL l lo hi).length
theorem cnt_sub {lo hi a b : Bs} (h : Sub lo hi a b) (l : List Bs) : cnt l a b ≤ cnt l lo hi := by
  show (inL l a b).length ≤ (inL l lo hi).length
  rw [← h.inL l]
  exact inL_len _ _ _
theorem inL_all (l : List Bs) : inL l [] [] = l := by
  unfold inL
  rw [List.filter_eq_self]
  intro x _
  rw [inR_iff]
  exact ⟨nil_le x, .inl rfl⟩
/-- A range falls into two. -/
theorem cnt_split {lo c hi : Bs} (h1 : ¬ c < lo) (h2 : c ≠ []) (h3 : hi = [] ∨ ¬ hi < c) : ∀ l : List Bs, cnt l lo c + cnt l c hi = cnt l lo hi
  | [] => rfl
  | x :: l => by
    have ih := cnt_split h1 h2 h3 l
    unfold cnt inL at ih ⊢
    rw [List.filter_cons, List.filter_cons, List.filter_cons]
    by_cases hx : x < c
    · have e1 : inR c hi x = false := inR_false.2 (.inl hx)
      have e2 : inR lo hi x = inR lo c x := by
        rw [Bool.eq_iff_iff, inR_iff, inR_iff]
        constructor
        · rintro ⟨a, _⟩; exact ⟨a, .inr hx⟩
        · rintro ⟨a, _⟩; exact ⟨a, h3.elim .inl fun h => .inr (bs_lt_le hx h)⟩
      rw [e1, e2]
      cases inR lo c x <;> simp <;> omega
    · have e1 : inR lo c x = false := inR_false.2 (.inr ⟨h2, hx⟩)
      have e2 : inR lo hi x = inR c hi x := by
        rw [Bool.eq_iff_iff, inR_iff, inR_iff]
        constructor
        · rintro ⟨_, a⟩; exact ⟨hx, a⟩
        · rintro ⟨_, a⟩; exact ⟨bs_le_le h1 hx, a⟩
      rw [e1, e2]
      cases inR c hi x <;> simp <;> omega
theorem cnt_empty {lo : Bs} (h : lo ≠ []) (l : List Bs) : cnt l lo lo = 0 := by
  unfold cnt inL
  rw [List.length_eq_zero_iff, List.filter_eq_nil_iff]
  intro x _ hx
  rw [inR_iff] at hx
  exact hx.2.elim h hx.1

/-! ### Ascending lists -/
abbrev Asc (l : List Bs) : Prop := l.Pairwise (· < ·)
theorem asc_inL {l : List Bs} (h : Asc l) (lo hi : Bs) : Asc (Go.Proofs.YtlepfnihpdhcaaaGreatDoor.inL l lo hi) := h.sublist List.filter_sublist
theorem asc_get {l : List Bs} (h : Asc l) {i j : Nat} {x y : Bs} (hx : l[i]? = some x) (hy : l[j]? = some y) (hij : i < j) : x < y := by
  obtain ⟨h1, rfl⟩ := List.getElem?_eq_some_iff.1 hx
  obtain ⟨h2, rfl⟩ := List.getElem?_eq_some_iff.1 hy
  exact List.pairwise_iff_getElem.1 h i j h1 h2 hij
theorem posB_get {l : List Bs} (h : Asc l) {i : Nat} {x : Bs} (hx : l[i]? = some x) : posB l x = i := by
  have hi := (List.getElem?_eq_some_iff.1 hx).1
  rcases Nat.lt_trichotomy (posB l x) i with h1 | h1 | h1
  · have hp : posB l x < l.length := by omega
    have h2 := asc_get h (List.getElem?_eq_getElem hp) hx h1
    have := (posB_step (Nat.le_refl _) (List.getElem?_eq_getElem hp)).1 h2
    omega
  · exact h1
  · have := (posB_step (Nat.le_of_lt h1) hx).2 h1
    exact (b_lt_irrefl this).elim
theorem posB_zero {l : List Bs} {x : Bs} (h : ∀ y ∈ l, ¬ y < x) : posB l x = 0 := by
  cases l with
  | nil => rfl
  | cons y l =>
    unfold posB
    rw [List.takeWhile_cons, if_neg (by simpa using h y List.mem_cons_self)]
    rfl
/-- Two ascending lists with the same members. -/
theorem asc_ext : ∀ {l m : List Bs}, Asc l → Asc m → (∀ x, x ∈ l ↔ x ∈ m) → l = m
  | [], [], _, _, _ => rfl
  | [], y :: m, _, _, h => by have := (h y).2 List.mem_cons_self; cases this
  | x :: l, [], _, _, h => by have := (h x).1 List.mem_cons_self; cases this
  | x :: l, y :: m, hl, hm, h => by
    obtain ⟨h1, h2⟩ := List.pairwise_cons.1 hl
    obtain ⟨k1, k2⟩ := List.pairwise_cons.1 hm
    have e : x = y := by
      rcases List.mem_cons.1 ((h x).1 List.mem_cons_self) with e | e
      · exact e
      · rcases List.mem_cons.1 ((h y).2 List.mem_cons_self) with e2 | e2
        · exact e2.symm
        · exact (b_lt_irrefl (b_lt_trans (h1 y e2) (k1 x e))).elim
    subst e
    congr 1
    refine asc_ext h2 k2 fun z => ?_
    constructor
    · intro hz
      rcases List.mem_cons.1 ((h z).1 (List.mem_cons_of_mem _ hz)) with e | e
      · rw [e] at hz; exact (b_lt_irrefl (h1 x hz)).elim
      · exact e
    · intro hz
      rcases List.mem_cons.1 ((h z).2 (List.mem_cons_of_mem _ hz)) with e | e
      · rw [e] at hz; exact (b_lt_irrefl (k1 x hz)).elim
      · exact e

/-! ### The division of a range -/
/-- p comes before q. -/
def Bef (p q : AP) : Prop := p.hi ≠ [] ∧ ¬ q.lo < p.hi
theorem divTo_cur (its own : List Bs) (fan : Nat) (lo : Bs) (k : Nat) : (divTo its own fan lo (k + 1)).1 = own.getD ((k + 1) * own.length / fan) [] := by
  rw [divTo]
  split
  · rename_i h; rw [h]
  · rfl
theorem idx_lt {N fan k : Nat} (hk : k < fan) (hN : 0 < N) : k * N / fan < N := by
  rw [Nat.div_lt_iff_lt_mul (by omega), Nat.mul_comm N]
  exact Nat.mul_lt_mul_of_pos_right hk hN
theorem idx_step (N fan k : Nat) (hf : 0 < fan) : (k + 1) * N / fan ≤ k * N / fan + (N + fan - 1) / fan := by
  have h1 := Nat.div_add_mod (k * N) fan
  have h2 := Nat.div_add_mod (N + fan - 1) fan
  have h3 := Nat.mod_lt (k * N) hf
  have h4 := Nat.mod_lt (N + fan - 1) hf
  rw [← Nat.lt_succ_iff, Nat.div_lt_iff_lt_mul hf]
  generalize k * N / fan = a at *
  generalize (N + fan - 1) / fan = b at *
  rw [Nat.add_mul, Nat.one_mul, Nat.succ_mul, Nat.add_mul, Nat.mul_comm a fan, Nat.mul_comm b fan]
  omega
theorem idx_mono (N fan k : Nat) : k * N / fan ≤ (k + 1) * N / fan := Nat.div_le_div_right (Nat.mul_le_mul_right _ (by omega))

section
variable {its : List Bs} {lo hi : Bs} {fan : Nat}
/-- Between two of the own items. -/
theorem own_mid (hs : Asc its) {own : List Bs} (ho : own = inL its lo hi) {p q : Nat} {x y : Bs} (hx : own[p]? = some x) (hy : own[q]? = some y) (hne : y ≠ []) : inL its x y = (own.take q).drop p := by
  have hA : Asc own := by rw [ho]; exact asc_inL hs lo hi
  have hx' : x ∈ own := List.mem_of_getElem? hx
  have hy' : y ∈ own := List.mem_of_getElem? hy
  have hxr : inR lo hi x = true := by rw [ho] at hx'; exact (mem_inL.1 hx').2
  have hyr : inR lo hi y = true := by rw [ho] at hy'; exact (mem_inL.1 hy').2
  have hsub : Sub lo hi x y := ⟨(inR_iff.1 hxr).1, by
    rcases (inR_iff.1 hyr).2 with h | h
    · exact .inl h
    · exact .inr ⟨hne, bs_le_of h⟩⟩
  rw [← hsub.inL its, ← ho, ← inL_part hA x y, if_neg hne, posB_get hA hx, posB_get hA hy]
  rcases Nat.le_total p q with h | h
  · rw [Nat.max_eq_right h]
  · rw [Nat.max_eq_left h, List.drop_eq_nil_of_le (by rw [List.length_take]; omega), List.drop_eq_nil_of_le (by rw [List.length_take]; omega)]
theorem own_first (hs : Asc its) {own : List Bs} (ho : own = inL its lo hi) {q : Nat} {y : Bs} (hy : own[q]? = some y) (hne : y ≠ []) : inL its lo y = own.take q := by
  have hA : Asc own := by rw [ho]; exact asc_inL hs lo hi
  have hy' : y ∈ own := List.mem_of_getElem? hy
  have hyr : inR lo hi y = true := by rw [ho] at hy'; exact (mem_inL.1 hy').2
  have hsub : Sub lo hi lo y := ⟨b_lt_irrefl, by
    rcases (inR_iff.1 hyr).2 with h | h
    · exact .inl h
    · exact .inr ⟨hne, bs_le_of h⟩⟩
  have h0 : posB own lo = 0 := posB_zero fun z hz => by rw [ho] at hz; exact (inR_iff.1 (mem_inL.1 hz).2).1
  rw [← hsub.inL its, ← ho, ← inL_part hA lo y, if_neg hne, h0, posB_get hA hy, Nat.max_eq_right (Nat.zero_le _), List.drop_zero]
theorem own_last (hs : Asc its) {own : List Bs} (ho : own = inL its lo hi) {p : Nat} {x : Bs} (hx : own[p]? = some x) : inL its x hi = own.drop p := by
  have hA : Asc own := by rw [ho]; exact asc_inL hs lo hi
  have hx' : x ∈ own := List.mem_of_getElem? hx
  have hxr : inR lo hi x = true := by rw [ho] at hx'; exact (mem_inL.1 hx').2
  have hsub : Sub lo hi x hi := ⟨(inR_iff.1 hxr).1, (Sub.refl lo hi).2⟩
  rw [← hsub.inL its, ← ho]
  have hle := posB_le own x
  have hpl := (List.getElem?_eq_some_iff.1 hx).1
  have hH : hi = [] ∨ posB own hi = own.length := by
    by_cases h : hi = []
    · exact .inl h
    · refine .inr ?_
      rcases Nat.lt_or_ge (posB own hi) own.length with h1 | h1
      · have hz := List.mem_of_getElem? (List.getElem?_eq_getElem h1)
        have hz2 : own[posB own hi] ∈ inL its lo hi := by rw [← ho]; exact hz
        have := (inR_iff.1 (mem_inL.1 hz2).2).2.resolve_left h
        have := (posB_step (Nat.le_refl _) (List.getElem?_eq_getElem h1)).1 this
        omega
      · have := posB_le own hi; omega
  rw [← inL_part hA x hi, posB_get hA hx]
  have e : (if hi = [] then own.length else posB own hi) = own.length := by
    rcases hH with h | h
    · rw [if_pos h]
    · rw [h]; simp
  rw [e, Nat.max_eq_right (by omega), List.take_length]

/-- What holds of the first k parts of a division (C: where they end). -/
structure Div (its : List Bs) (lo hi : Bs) (own : List Bs) (fan k : Nat) (C : Bs) (D : List AP) : Prop where
  cur : (k = 0 ∧ C = lo) ∨ (0 < k ∧ own[k * own.length / fan]? = some C)
  ge : ¬ C < lo
  part : ∀ p ∈ D, p = sumA its p.lo p.hi ∧ p.lo < p.hi ∧ ¬ p.lo < lo ∧ ¬ C < p.hi ∧ (p.lo = lo ∨ p.lo ∈ own) ∧ p.hi ∈ own ∧ cnt its p.lo p.hi ≤ (own.length + fan - 1) / fan
  bef : D.Pairwise Bef
  cover : ∀ x, ¬ x < lo → x < C → ∃ p ∈ D, inR p.lo p.hi x = true
  sum : ∀ l : List Bs, (D.map fun p => cnt l p.lo p.hi).sum = if C = lo then 0 else cnt l lo C
  len : D.length ≤ (if k = 0 then 0 else k * own.length / fan + 1) ∧ D.length ≤ k
theorem div_ok (hs : okSet its) {own : List Bs} (ho : own = inL its lo hi) (hN : 0 < own.length) (hf : 2 ≤ fan) : ∀ k, k < fan → Div its lo hi own fan k (divTo its own fan lo k).1 (divTo its own fan lo k).2
  | 0, _ => ⟨.inl ⟨rfl, rfl⟩, b_lt_irrefl, (fun p hp => by cases hp), List.Pairwise.nil, fun x h1 h2 => (h1 h2).elim, (fun l => by rw [divTo, if_pos rfl]; rfl), by simp [divTo]⟩
  | k + 1, hk => by
    have ih := div_ok hs ho hN hf k (by omega)
    have hA : Asc own := by rw [ho]; exact asc_inL hs.2 lo hi
    have hi1 := idx_lt hk hN
    obtain ⟨B, hB⟩ : ∃ B, own[(k + 1) * own.length / fan]? = some B := ⟨_, List.getElem?_eq_getElem hi1⟩
    have hBe : own.getD ((k + 1) * own.length / fan) [] = B := by rw [List.getD_eq_getElem?_getD, hB]; rfl
    have hBm : B ∈ own := List.mem_of_getElem? hB
    have hB2 : B ∈ inL its lo hi := by rw [← ho]; exact hBm
    have hBl : B.length = 32 := hs.1 B (mem_inL.1 hB2).1
    have hBn : B ≠ [] := by intro e; rw [e] at hBl; cases hBl
    have hBr := inR_iff.1 (mem_inL.1 hB2).2
    rw [divTo, hBe]
    generalize divTo its own fan lo k = z at ih ⊢
    obtain ⟨C, D⟩ := z
    dsimp only at ih ⊢
    by_cases hBC : B = C
    · rw [if_pos hBC]
      dsimp only
      subst hBC
      refine ⟨.inr ⟨by omega, hB⟩, ih.ge, ih.part, ih.bef, ih.cover, ih.sum, ?_, by have := ih.len.2; omega⟩
      have h1 := ih.len.1
      have h2 := idx_mono own.length fan k
      rw [if_neg (by omega)]
      generalize (k + 1) * own.length / fan = u at *
      generalize k * own.length / fan = v at *
      split at h1 <;> omega
    · rw [if_neg hBC]
      dsimp only
      -- C comes before B
      have hCB : C < B := by
        rcases ih.cur with ⟨_, rfl⟩ | ⟨h0, hC⟩
        · exact b_lt_or hBr.1 hBC
        · refine asc_get hA hC hB ?_
          have h2 := idx_mono own.length fan k
          rcases Nat.lt_or_ge (k * own.length / fan) ((k + 1) * own.length / fan) with h | h
          · exact h
          · exfalso
            have e : k * own.length / fan = (k + 1) * own.length / fan := by omega
            rw [e, hB] at hC
            injection hC with hC
            exact hBC hC
      have hlt : 0 < k → k * own.length / fan < (k + 1) * own.length / fan := fun h0 => by
        rcases ih.cur with ⟨h, _⟩ | ⟨_, hC⟩
        · omega
        · rcases Nat.lt_or_ge (k * own.length / fan) ((k + 1) * own.length / fan) with h | h
          · exact h
          · exfalso
            have e : k * own.length / fan = (k + 1) * own.length / fan := by have := idx_mono own.length fan k; omega
            rw [e, hB] at hC
            injection hC with hC
            exact hBC hC
      have hlo : ¬ B < lo := hBr.1
      refine ⟨.inr ⟨by omega, hB⟩, hlo, ?_, ?_, ?_, ?_, ?_, ?_⟩
      · intro p hp
        rcases List.mem_append.1 hp with hp | hp
        · obtain ⟨a, b, c, d, e, f, g⟩ := ih.part p hp
          exact ⟨a, b, c, bs_le_le d (bs_le_of hCB), e, f, g⟩
        · rw [List.mem_singleton.1 hp]
          refine ⟨rfl, hCB, ih.ge, b_lt_irrefl, ?_, hBm, ?_⟩
          · rcases ih.cur with ⟨_, rfl⟩ | ⟨_, hC⟩
            · exact .inl rfl
            · exact .inr (List.mem_of_getElem? hC)
          · show (inL its C B).length ≤ _
            have hst := idx_step own.length fan k (by omega)
            rcases ih.cur with ⟨h0, rfl⟩ | ⟨_, hC⟩
            · subst h0
              rw [own_first hs.2 ho hB hBn, List.length_take]
              simp only [Nat.zero_mul, Nat.zero_div, Nat.zero_add] at hst ⊢
              omega
            · rw [own_mid hs.2 ho hC hB hBn, List.length_drop, List.length_take]
              omega
      · rw [List.pairwise_append]
        refine ⟨ih.bef, List.pairwise_singleton _ _, fun p hp q hq => ?_⟩
        rw [List.mem_singleton.1 hq]
        obtain ⟨_, hb, _, hd, _, hf', _⟩ := ih.part p hp
        exact ⟨fun e => nil_le p.lo (by rw [← e]; exact hb), hd⟩
      · intro x h1 h2
        by_cases hx : x < C
        · obtain ⟨p, hp, hr⟩ := ih.cover x h1 hx
          exact ⟨p, List.mem_append_left _ hp, hr⟩
        · exact ⟨sumA its C B, List.mem_append_right _ (by simp), inR_iff.2 ⟨hx, .inr h2⟩⟩
      · intro l
        rw [List.map_append, List.sum_append, ih.sum l]
        simp only [List.map_cons, List.map_nil, List.sum_cons, List.sum_nil, Nat.add_zero]
        have e : ¬ B = lo := fun e => ih.ge (by rw [← e]; exact hCB)
        rw [if_neg e]
        by_cases hC : C = lo
        · rw [if_pos hC, hC, Nat.zero_add]; rfl
        · rw [if_neg hC]
          have hCn : C ≠ [] := fun e2 => by
            have := ih.ge
            rw [e2] at this
            have e3 : lo = [] := by
              by_cases h : lo = []
              · exact h
              · exact (this (nil_lt h)).elim
            exact hC (e2.trans e3.symm)
          exact cnt_split ih.ge hCn (.inr (bs_le_of hCB)) l
      · rw [List.length_append, List.length_singleton, if_neg (by omega)]
        have h1 := ih.len.1
        by_cases h0 : k = 0
        · rw [if_pos h0] at h1
          generalize (k + 1) * own.length / fan = u at *
          omega
        · rw [if_neg h0] at h1
          have := hlt (by omega)
          generalize (k + 1) * own.length / fan = u at *
          generalize k * own.length / fan = v at *
          omega
      · rw [List.length_append, List.length_singleton]
        have := ih.len.2
        omega

/-- A range that is divided. -/
def dividA (its : List Bs) (fan : Nat) (lo hi : Bs) : List AP := (divTo its (inL its lo hi) fan lo (fan - 1)).2 ++ [sumA its (divTo its (inL its lo hi) fan lo (fan - 1)).1 hi]
structure Divided (its : List Bs) (lo hi : Bs) (fan : Nat) (D : List AP) : Prop where
  part : ∀ p ∈ D, p = sumA its p.lo p.hi ∧ spanOk p.lo p.hi = true ∧ Sub lo hi p.lo p.hi ∧ (p.lo = lo ∨ p.lo ∈ its) ∧ (p.hi = hi ∨ p.hi ∈ its) ∧ cnt its p.lo p.hi ≤ (cnt its lo hi + fan - 1) / fan
  bef : D.Pairwise Bef
  cover : ∀ x, inR lo hi x = true → ∃ p ∈ D, inR p.lo p.hi x = true
  sum : ∀ l : List Bs, (D.map fun p => cnt l p.lo p.hi).sum = cnt l lo hi
  len : D.length ≤ cnt its lo hi + 1 ∧ D.length ≤ fan
theorem divided_ok (hs : okSet its) (hN : 0 < cnt its lo hi) (hf : 2 ≤ fan) : Divided its lo hi fan (dividA its fan lo hi) := by
  have h := div_ok (fan := fan) hs (own := inL its lo hi) rfl hN hf (fan - 1) (by omega)
  unfold dividA
  have hi1 : (fan - 1) * (inL its lo hi).length / fan < (inL its lo hi).length := idx_lt (by omega) hN
  generalize divTo its (inL its lo hi) fan lo (fan - 1) = z at h ⊢
  obtain ⟨C, D⟩ := z
  dsimp only at h ⊢
  have hC : (inL its lo hi)[(fan - 1) * (inL its lo hi).length / fan]? = some C := by
    rcases h.cur with ⟨h0, _⟩ | ⟨_, h1⟩
    · omega
    · exact h1
  have hCm : C ∈ inL its lo hi := List.mem_of_getElem? hC
  have hCr := inR_iff.1 (mem_inL.1 hCm).2
  have hCl : C.length = 32 := hs.1 C (mem_inL.1 hCm).1
  have hCn : C ≠ [] := by intro e; rw [e] at hCl; cases hCl
  have hCh : hi = [] ∨ C < hi := hCr.2
  refine ⟨?_, ?_, ?_, ?_, ?_⟩
  · intro p hp
    rcases List.mem_append.1 hp with hp | hp
    · obtain ⟨a, b, c, d, e, f, g⟩ := h.part p hp
      have f2 := mem_inL.1 f
      have hpl : p.hi.length = 32 := hs.1 _ f2.1
      have hpn : p.hi ≠ [] := by intro e; rw [e] at hpl; cases hpl
      refine ⟨a, ?_, ⟨c, ?_⟩, e.imp id fun h => (mem_inL.1 h).1, .inr f2.1, g⟩
      · unfold spanOk; simp [b]
      · rcases (inR_iff.1 f2.2).2 with h | h
        · exact .inl h
        · exact .inr ⟨hpn, bs_le_of h⟩
    · rw [List.mem_singleton.1 hp]
      refine ⟨rfl, ?_, ⟨h.ge, (Sub.refl lo hi).2⟩, .inr (mem_inL.1 hCm).1, .inl rfl, ?_⟩
      · unfold spanOk
        rcases hCh with h | h
        · simp [sumA, h]
        · simp [sumA, h]
      · show (inL its C hi).length ≤ _
        rw [own_last hs.2 rfl hC, List.length_drop]
        have h1 := idx_step (inL its lo hi).length fan (fan - 1) (by omega)
        rw [show fan - 1 + 1 = fan by omega, Nat.mul_div_cancel_left _ (by omega)] at h1
        show _ ≤ ((inL its lo hi).length + fan - 1) / fan
        omega
  · rw [List.pairwise_append]
    refine ⟨h.bef, List.pairwise_singleton _ _, fun p hp q hq => ?_⟩
    rw [List.mem_singleton.1 hq]
    obtain ⟨_, hb, _, hd, _, _, _⟩ := h.part p hp
    exact ⟨fun e => nil_le p.lo (by rw [← e]; exact hb), hd⟩
  · intro x hx
    rw [inR_iff] at hx
    by_cases h1 : x < C
    · obtain ⟨p, hp, hr⟩ := h.cover x hx.1 h1
      exact ⟨p, List.mem_append_left _ hp, hr⟩
    · exact ⟨sumA its C hi, List.mem_append_right _ (by simp), inR_iff.2 ⟨h1, hx.2⟩⟩
  · intro l
    rw [List.map_append, List.sum_append, h.sum l]
    simp only [List.map_cons, List.map_nil, List.sum_cons, List.sum_nil, Nat.add_zero]
    by_cases e : C = lo
    · rw [if_pos e, Nat.zero_add, ← e]; rfl
    · rw [if_neg e]
      exact cnt_split h.ge hCn (hCh.imp id bs_le_of) l
  · rw [List.length_append, List.length_singleton]
    obtain ⟨h1, h2⟩ := h.len
    rw [if_neg (by omega)] at h1
    show _ ≤ (inL its lo hi).length + 1 ∧ _
    omega
end

/-! ### A list with further items -/
theorem mem_insB {l : List Bs} {x y : Bs} : y ∈ insB l x ↔ y ∈ l ∨ y = x := by
  unfold insB
  by_cases h : l.contains x = true
  · rw [if_pos h]
    constructor
    · exact .inl
    · rintro (h1 | rfl)
      · exact h1
      · simpa using h
  · rw [if_neg h]
    have e : y ∈ l ↔ y ∈ l.take (posB l x) ∨ y ∈ l.drop (posB l x) := by
      rw [← List.mem_append, List.take_append_drop]
    rw [List.mem_append, List.mem_append, List.mem_singleton, e]
    constructor
    · rintro ((h1 | h1) | h1)
      · exact .inl (.inl h1)
      · exact .inr h1
      · exact .inl (.inr h1)
    · rintro ((h1 | h1) | h1)
      · exact .inl (.inl h1)
      · exact .inr h1
      · exact .inl (.inr h1)
theorem insB_asc {l : List Bs} (h : Asc l) (x : Bs) : Asc (insB l x) := by
  unfold insB
  by_cases hc : l.contains x = true
  · rw [if_pos hc]; exact h
  · rw [if_neg hc]
    have hx : x ∉ l := by simpa using hc
    have hd : ∀ y ∈ l.drop (posB l x), x < y := fun y hy => b_lt_or (drop_ge' h hy) (fun e => hx (by rw [← e]; exact List.mem_of_mem_drop hy))
    rw [Asc, List.pairwise_append, List.pairwise_append]
    refine ⟨⟨h.sublist (List.take_sublist _ _), List.pairwise_singleton _ _, ?_⟩, h.sublist (List.drop_sublist _ _), ?_⟩
    · intro a ha b hb
      rw [List.mem_singleton.1 hb]
      exact take_lt ha
    · intro a ha b hb
      rcases List.mem_append.1 ha with ha | ha
      · exact b_lt_trans (take_lt ha) (hd b hb)
      · rw [List.mem_singleton.1 ha]; exact hd b hb
theorem withL_append (l m n : List Bs) : withL l (m ++ n) = withL (withL l m) n := by unfold withL; exact List.foldl_append
theorem withL_asc : ∀ (m : List Bs) {l : List Bs}, Asc l → Asc (withL l m)
  | [], _, h => h
  | x :: m, _, h => withL_asc m (insB_asc h x)
theorem mem_withL : ∀ (m : List Bs) {l : List Bs} {x : Bs}, x ∈ withL l m ↔ x ∈ l ∨ x ∈ m
  | [], l, x => by simp [withL]
  | y :: m, l, x => by
    show x ∈ withL (insB l y) m ↔ _
    rw [mem_withL m, mem_insB, List.mem_cons, or_assoc]
theorem withL_asc0 (m : List Bs) : Asc (withL [] m) := withL_asc m List.Pairwise.nil
theorem mem_withL0 {m : List Bs} {x : Bs} : x ∈ withL [] m ↔ x ∈ m := by rw [mem_withL]; simp
end Go.Proofs.YtlepfnihpdhcaaaGreatDoor
