/- rangesum, plain: how many bytes a run has. -/
import Derived.Test.YtlepfnihpdhcaaaGreatDoorRsTh3
namespace Go.Proofs.YtlepfnihpdhcaaaGreatDoor
def potP (dl : List Bs) (leaf : Nat) (p : AP) : Nat := match p.c with
  | .sum _ _ => cnt dl p.lo p.hi * (leaf * 40 + 300)
  | .list _ => cnt dl p.lo p.hi * 101
  | .ans _ _ => 0
abbrev pot (dl : List Bs) (leaf : Nat) (m : List AP) : Nat := (m.map (potP dl leaf)).sum
theorem without_inL (r s : List Bs) (lo hi : Bs) : without (inL r lo hi) (inL s lo hi) = inL (without r s) lo hi := by
  unfold without inL
  rw [List.filter_filter, List.filter_filter]
  apply List.filter_congr
  intro x _
  cases hx : inR lo hi x with
  | false => simp
  | true => simp [hx]
theorem without_inL' (s r : List Bs) (lo hi : Bs) : without (inL s lo hi) r = inL (without s r) lo hi := by
  unfold without inL
  rw [List.filter_filter, List.filter_filter]
  apply List.filter_congr
  intro x _
  exact Bool.and_comm _ _
theorem cnt_append (l m : List Bs) (lo hi : Bs) : cnt (l ++ m) lo hi = cnt l lo hi + cnt m lo hi := by
  unfold cnt inL
  rw [List.filter_append, List.length_append]
def IsDiff (dl s r : List Bs) : Prop := dl = without s r ++ without r s ∨ dl = without r s ++ without s r
section
variable {s r dl : List Bs} {fan leaf : Nat} {lo hi : Bs}
theorem diff_len (hd : IsDiff dl s r) : (without (inL r lo hi) (inL s lo hi)).length + (without (inL s lo hi) r).length = cnt dl lo hi := by
  rw [without_inL, without_inL']
  rcases hd with rfl | rfl
  · rw [cnt_append]; exact Nat.add_comm _ _
  · rw [cnt_append]
theorem diff_zero (hs : okSet s) (hr : okSet r) (hd : IsDiff dl s r) (h0 : cnt dl lo hi = 0) : inL r lo hi = inL s lo hi := by
  have h := diff_len (lo := lo) (hi := hi) hd
  have e1 : without (inL r lo hi) (inL s lo hi) = [] := List.eq_nil_of_length_eq_zero (by omega)
  have e2 : without (inL s lo hi) r = [] := List.eq_nil_of_length_eq_zero (by omega)
  refine asc_ext (asc_inL hr.2 lo hi) (asc_inL hs.2 lo hi) fun x => ⟨fun hx => ?_, fun hx => ?_⟩
  · apply Classical.byContradiction
    intro hn
    have : x ∈ without (inL r lo hi) (inL s lo hi) := mem_without.2 ⟨hx, hn⟩
    rw [e1] at this; cases this
  · obtain ⟨h1, h2⟩ := mem_inL.1 hx
    refine mem_inL.2 ⟨?_, h2⟩
    apply Classical.byContradiction
    intro hn
    have : x ∈ without (inL s lo hi) r := mem_without.2 ⟨hx, hn⟩
    rw [e2] at this; cases this
theorem sum_mul : ∀ (l : List AP) (c : Nat), (∀ p ∈ l, ∃ n f, p.c = .sum n f) → pot dl leaf l = Wt dl l * (leaf * 40 + 300)
  | [], _, _ => by simp [pot, Wt]
  | p :: l, c, h => by
    have ih := sum_mul l c fun q hq => h q (by simp [hq])
    obtain ⟨n, f, e⟩ := h p (by simp)
    simp only [pot, Wt, List.map_cons, List.sum_cons] at ih ⊢
    rw [ih, Nat.add_mul]
    congr 1
    unfold potP
    rw [e]
theorem rep_cost (hs : okSet s) (hr : okSet r) (hr4 : r.length ≤ 40) (hf : 2 ≤ fan) (hl : 1 ≤ leaf) (hd : IsDiff dl s r) {p : AP} (hp : p.ok) (hc : Part s r p) :
    ((repA r fan leaf p).flatMap AP.enc).length + pot dl leaf (repA r fan leaf p) ≤ potP dl leaf p + cnt dl p.lo p.hi * (fan * 110) := by
  obtain ⟨⟨b1, b2, b3⟩, hcok⟩ := hp
  obtain ⟨lo, hi, c⟩ := p
  dsimp only at b1 b2 b3
  have l1 := bound_le b1
  have l2 := bound_le b2
  cases c with
  | sum n f =>
    obtain ⟨q1, q2⟩ : n = cnt s lo hi ∧ f = fpB (inL s lo hi) := hc
    subst q1 q2
    show ((cmpA r fan leaf lo hi (cnt s lo hi) (fpB (inL s lo hi))).flatMap AP.enc).length + pot dl leaf (cmpA r fan leaf lo hi (cnt s lo hi) (fpB (inL s lo hi))) ≤ cnt dl lo hi * (leaf * 40 + 300) + cnt dl lo hi * (fan * 110)
    unfold cmpA
    split
    · simp [pot]
    · rename_i hne
      have hpos : 1 ≤ cnt dl lo hi := by
        rcases Nat.eq_zero_or_pos (cnt dl lo hi) with h0 | h0
        · have e := diff_zero hs hr hd h0
          exact absurd ⟨by rw [e], by rw [e]⟩ hne
        · exact h0
      split
      · have h2 := flat_len (inL32 hr lo hi)
        have e1 := num_one (n := lo.length) (by omega)
        have e2 := num_one (n := hi.length) (by omega)
        have h3 := num_one (n := 2) (by omega)
        have hle := inL_len r lo hi
        have h4 := num_one (n := (inL r lo hi).length) (by omega)
        simp only [pot, potP, List.flatMap_cons, List.flatMap_nil, List.append_nil, AP.enc, AC.enc, List.length_append, h2, e1, e2, h3, h4, List.map_cons, List.map_nil, List.sum_cons, List.sum_nil]
        have hm : leaf * 1 ≤ leaf * cnt dl lo hi := Nat.mul_le_mul_left _ hpos
        have e : cnt dl lo hi * (leaf * 40 + 300) = 40 * (leaf * cnt dl lo hi) + 300 * cnt dl lo hi := by rw [Nat.mul_add, ← Nat.mul_assoc, Nat.mul_comm (cnt dl lo hi) leaf, Nat.mul_comm _ 40, Nat.mul_comm _ 300]
        rw [e]
        generalize leaf * cnt dl lo hi = u at *
        generalize cnt dl lo hi * (fan * 110) = v at *
        omega
      · rename_i hgt
        have hD := divided_ok (lo := lo) (hi := hi) hr (show 0 < (inL r lo hi).length by omega) hf
        change ((dividA r fan lo hi).flatMap AP.enc).length + pot dl leaf (dividA r fan lo hi) ≤ _
        have h1 : ((dividA r fan lo hi).flatMap AP.enc).length ≤ fan * 100 := flat_enc_le (fun q hq => by
          obtain ⟨a, _, _, d, e, _⟩ := hD.part q hq
          exact (sumA_ok hr4 a (bnd_mem hr l1 d) (bnd_mem hr l2 e)).2) hD.len.2
        rw [sum_mul _ 0 fun q hq => ⟨_, _, congrArg AP.c (hD.part q hq).1⟩]
        have h2 : Wt dl (dividA r fan lo hi) = cnt dl lo hi := hD.sum dl
        rw [h2]
        have h3 : 1 * (fan * 110) ≤ cnt dl lo hi * (fan * 110) := Nat.mul_le_mul_right _ hpos
        omega
  | list xs =>
    obtain rfl : xs = inL s lo hi := hc
    show ((ansA r lo hi (inL s lo hi)).flatMap AP.enc).length + pot dl leaf (ansA r lo hi (inL s lo hi)) ≤ cnt dl lo hi * 101 + cnt dl lo hi * (fan * 110)
    have hdl := diff_len (lo := lo) (hi := hi) hd
    have hall : (without (inL r lo hi) (inL s lo hi)).length ≤ 40 := Nat.le_trans (without_len _ _) (Nat.le_trans (inL_len _ _ _) hr4)
    unfold ansA
    split
    · have c1 := flat_len (without32 (m := inL s lo hi) (inL32 hr lo hi))
      have c2 := flat_len (without32 (m := r) (inL32 hs lo hi))
      have e1 := num_one (n := lo.length) (by omega)
      have e2 := num_one (n := hi.length) (by omega)
      have h3 := num_one (n := 3) (by omega)
      have h4 := num_one (n := (without (inL r lo hi) (inL s lo hi)).length) (by omega)
      have hx : (without (inL s lo hi) r).length ≤ 64 := Nat.le_trans (without_len _ _) hcok.1
      have h5 := num_one (n := (without (inL s lo hi) r).length) (by omega)
      simp only [pot, potP, List.flatMap_cons, List.flatMap_nil, List.append_nil, AP.enc, AC.enc, List.length_append, c1, c2, e1, e2, h3, h4, h5, List.map_cons, List.map_nil, List.sum_cons, List.sum_nil]
      generalize cnt dl lo hi * (fan * 110) = v at *
      omega
    · simp [pot]
  | ans xs ms => simp [repA, pot]
theorem msg_cost (hs : okSet s) (hr : okSet r) (hr4 : r.length ≤ 40) (hf : 2 ≤ fan) (hl : 1 ≤ leaf) (hd : IsDiff dl s r) : ∀ {m : List AP}, (∀ p ∈ m, p.ok ∧ Part s r p) →
    ((replyA r fan leaf m).flatMap AP.enc).length + pot dl leaf (replyA r fan leaf m) ≤ pot dl leaf m + Wt dl m * (fan * 110)
  | [], _ => by simp [replyA, pot]
  | p :: m, h => by
    have ih := msg_cost hs hr hr4 hf hl hd (m := m) fun q hq => h q (by simp [hq])
    obtain ⟨h1, h2⟩ := h p (by simp)
    have hc := rep_cost hs hr hr4 hf hl hd h1 h2
    have e : replyA r fan leaf (p :: m) = repA r fan leaf p ++ replyA r fan leaf m := List.flatMap_cons
    rw [e]
    simp only [pot, Wt, List.flatMap_append, List.length_append, List.map_append, List.sum_append, List.map_cons, List.sum_cons, Nat.add_mul] at ih hc ⊢
    omega
end
section
variable {a b : List Bs} {fan leaf : Nat}
abbrev dif (a b : List Bs) : List Bs := without a b ++ without b a
theorem first_len (h : a.length ≤ 40) : (encA [sumA a [] []]).length = 37 := by
  have e : encA [sumA a [] []] = num 1 ++ (sumA a [] []).enc := by
    unfold encA
    rw [if_neg (by simp)]
    simp
  have ho := num_one (n := 1) (by omega)
  have hz := num_one (n := 0) (by omega)
  have hn := num_one (n := (inL a [] []).length) (by have := inL_len a [] []; omega)
  rw [e]
  simp only [sumA, AP.enc, AC.enc, List.length_append, fpB_len, List.length_nil, ho, hz, hn]
theorem bytes_le (h : Sets a b fan leaf) : ∀ t, t ≤ 29 → runB a b fan leaf (t + 1) + pot (dif a b) leaf (msgA a b fan leaf t) ≤ 37 + (dif a b).length * (leaf * 40 + 300) + t * ((dif a b).length * (fan * 110) + 2)
  | 0, _ => by
    have e : runB a b fan leaf 1 = (encA [sumA a [] []]).length := by show 0 + _ = _; rw [Nat.zero_add]; rfl
    rw [e, first_len h.ha4]
    simp only [msgA, pot, potP, sumA, List.map_cons, List.map_nil, List.sum_cons, List.sum_nil, cnt, inL_all]
    omega
  | t + 1, ht => by
    have ih := bytes_le h t (by omega)
    have hi := msg_inv h t
    have hi1 := msg_inv h (t + 1)
    obtain ⟨⟨r1, r2⟩, s1, s2⟩ := h.side t
    have hd : IsDiff (dif a b) (sendOf a b t) (sideOf a b t) := by
      unfold sendOf sideOf
      split
      · exact .inl rfl
      · exact .inr rfl
    have hc := msg_cost s1 r1 r2 h.hf h.hl hd (m := msgA a b fan leaf t) fun p hp => ⟨hi.hon.ok p hp, hi.hon.con p hp⟩
    have hw := hi.wt (dif a b)
    have e1 : runB a b fan leaf (t + 1 + 1) = runB a b fan leaf (t + 1) + (runM a b fan leaf (t + 1)).length := rfl
    have e2 := (runM_enc h (t + 1) (by omega)).1
    have e3 : (encA (msgA a b fan leaf (t + 1))).length ≤ ((msgA a b fan leaf (t + 1)).flatMap AP.enc).length + 2 := by
      have hl := hi1.len
      unfold encA
      split
      · simp
      · have := num_two (n := (msgA a b fan leaf (t + 1)).length) (by omega)
        rw [List.length_append]; omega
    have em : msgA a b fan leaf (t + 1) = replyA (sideOf a b t) fan leaf (msgA a b fan leaf t) := rfl
    rw [← em] at hc
    have hm : Wt (dif a b) (msgA a b fan leaf t) * (fan * 110) ≤ (dif a b).length * (fan * 110) := Nat.mul_le_mul_right _ hw
    rw [e1, e2, Nat.add_mul]
    generalize Wt (dif a b) (msgA a b fan leaf t) * (fan * 110) = u at *
    generalize (dif a b).length * (fan * 110) = v at *
    generalize (dif a b).length * (leaf * 40 + 300) = y at *
    generalize t * (v + 2) = z at *
    omega
theorem run_bytes_le (h : Sets a b fan leaf) {K k : Nat} (hK : 1 ≤ K) (hK2 : K ≤ 30) (hk : K ≤ k) (hd : a ≠ b) : runB a b fan leaf K ≤ 100 + (dif a b).length * (k * (fan * 110 + 10) + leaf * 40 + 300) := by
  have hpos : 1 ≤ (dif a b).length := by
    rcases Nat.eq_zero_or_pos (dif a b).length with h0 | h0
    · exfalso
      apply hd
      have hz := diff_zero (lo := []) (hi := []) h.ha h.hb (dl := dif a b) (.inl rfl) (by show (inL _ [] []).length = 0; rw [inL_all]; exact h0)
      rw [inL_all, inL_all] at hz
      exact hz.symm
    · exact h0
  obtain ⟨t, rfl⟩ : ∃ t, K = t + 1 := ⟨K - 1, by omega⟩
  have hb := bytes_le h t (by omega)
  have h1 : t * ((dif a b).length * (fan * 110) + 2) ≤ k * ((dif a b).length * (fan * 110 + 10)) := Nat.mul_le_mul (by omega) (by rw [Nat.mul_add]; omega)
  have e1 : (dif a b).length * (k * (fan * 110 + 10) + leaf * 40 + 300) = k * ((dif a b).length * (fan * 110 + 10)) + (dif a b).length * (leaf * 40 + 300) := by
    rw [Nat.add_assoc, Nat.mul_add, Nat.mul_left_comm]
  rw [e1]
  omega
theorem run_same (h : Sets a b fan leaf) (he : a = b) {K : Nat} (hK : 1 ≤ K) (hj : ∀ j, j < K → msgA a b fan leaf j ≠ []) : K = 1 ∧ runB a b fan leaf K < 60 := by
  subst he
  have h1 : msgA a a fan leaf 1 = [] := by
    show replyA a fan leaf [sumA a [] []] = []
    simp only [replyA, List.flatMap_cons, List.flatMap_nil, List.append_nil]
    show cmpA a fan leaf [] [] _ _ = []
    unfold cmpA
    rw [if_pos ⟨rfl, rfl⟩]
  have hK1 : K = 1 := by
    rcases Nat.lt_or_ge 1 K with h2 | h2
    · exact absurd h1 (hj 1 h2)
    · omega
  subst hK1
  refine ⟨rfl, ?_⟩
  show 0 + (encA [sumA a [] []]).length < 60
  rw [first_len h.ha4]
  omega
end
end Go.Proofs.YtlepfnihpdhcaaaGreatDoor
