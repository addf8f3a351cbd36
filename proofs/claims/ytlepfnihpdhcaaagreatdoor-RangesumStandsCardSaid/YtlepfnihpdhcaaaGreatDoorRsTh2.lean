/- rangesum, plain: honest messages: what they are, how many parts and bytes, that a run ends. -/
import Derived.Test.YtlepfnihpdhcaaaGreatDoorRsRun
namespace Go.Proofs.YtlepfnihpdhcaaaGreatDoor

def Part (s r : List Bs) (p : AP) : Prop := match p.c with
  | .sum n f => n = cnt s p.lo p.hi ∧ f = fpB (inL s p.lo p.hi)
  | .list xs => xs = inL s p.lo p.hi
  | .ans xs ms => (∀ x, x ∈ xs ↔ (x ∈ s ∧ x ∉ r) ∧ inR p.lo p.hi x = true) ∧ (∀ x, x ∈ ms ↔ (x ∈ r ∧ x ∉ s) ∧ inR p.lo p.hi x = true)
/-- A message that s sends to r. -/
structure Hon (s r : List Bs) (m : List AP) : Prop where
  ok : ∀ p ∈ m, p.ok
  bef : m.Pairwise Bef
  con : ∀ p ∈ m, Part s r p
theorem chain_of_bef {m : List AP} (h : m.Pairwise Bef) : chain m := by
  intro k p hp
  unfold follows
  cases hl : (m.take k).getLast? with
  | none => rfl
  | some q =>
    dsimp only
    rw [List.getLast?_eq_getElem?] at hl
    obtain ⟨h1, h2⟩ := List.getElem?_eq_some_iff.1 hl
    rw [List.getElem_take] at h2
    obtain ⟨h3, h4⟩ := List.getElem?_eq_some_iff.1 hp
    have hlt : (m.take k).length - 1 < k := by rw [List.length_take] at h1 ⊢; omega
    have hb := List.pairwise_iff_getElem.1 h ((m.take k).length - 1) k (by rw [List.length_take] at h1 ⊢; omega) h3 hlt
    rw [h2, h4] at hb
    simp [hb.1, hb.2]
theorem Hon.msg {s r : List Bs} {m : List AP} (h : Hon s r m) (hne : m ≠ []) : okMsg m := ⟨hne, h.ok, chain_of_bef h.bef⟩

theorem ordOk_filter {l : List Bs} {lo hi : Bs} (p : Bs → Bool) (h : ordOk l lo hi = true) : ordOk (l.filter p) lo hi = true := by
  unfold ordOk at h ⊢
  rw [Bool.and_eq_true, decide_eq_true_eq] at h ⊢
  refine ⟨?_, h.2.sublist List.filter_sublist⟩
  rw [List.all_eq_true] at h ⊢
  exact fun x hx => h.1 x (List.mem_filter.1 hx).1
theorem ordOk_inL {l : List Bs} (h : Asc l) (lo hi : Bs) : ordOk (inL l lo hi) lo hi = true := by
  unfold ordOk
  rw [Bool.and_eq_true, decide_eq_true_eq]
  refine ⟨?_, asc_inL h lo hi⟩
  rw [List.all_eq_true]
  exact fun x hx => (mem_inL.1 hx).2
theorem bound_mem {its : List Bs} (hs : okSet its) {a x : Bs} (ha : boundOk a = true) (h : x = a ∨ x ∈ its) : boundOk x = true := by
  rcases h with rfl | h
  · exact ha
  · unfold boundOk; simp [hs.1 x h]
abbrev Wt (l : List Bs) (m : List AP) : Nat := (m.map fun p => cnt l p.lo p.hi).sum

section
variable {s r : List Bs} {fan leaf : Nat}
/-- What the reply to one part is. -/
structure RepP (s r : List Bs) (leaf : Nat) (p : AP) (l : List AP) : Prop where
  ok : ∀ q ∈ l, q.ok
  bef : l.Pairwise Bef
  con : ∀ q ∈ l, Part r s q
  sub : ∀ q ∈ l, Sub p.lo p.hi q.lo q.hi
  wt : ∀ t : List Bs, Wt t l ≤ cnt t p.lo p.hi
  len : l.length ≤ 1 + 2 * cnt r p.lo p.hi
  enc : ∀ q ∈ l, q.enc.length ≤ 100 + 32 * (cnt r q.lo q.hi + cnt s q.lo q.hi)
theorem RepP.nil (p : AP) : RepP s r leaf p [] := ⟨fun q hq => (by cases hq), List.Pairwise.nil, fun q hq => (by cases hq), fun q hq => (by cases hq), fun t => Nat.zero_le _, Nat.zero_le _, fun q hq => (by cases hq)⟩
theorem RepP.one {p q : AP} (hlo : q.lo = p.lo) (hhi : q.hi = p.hi) (h1 : q.ok) (h2 : Part r s q) (h3 : q.enc.length ≤ 100 + 32 * (cnt r q.lo q.hi + cnt s q.lo q.hi)) : RepP s r leaf p [q] := by
  refine ⟨?_, List.pairwise_singleton _ _, ?_, ?_, ?_, by simp, ?_⟩
  · intro x hx; rw [List.mem_singleton.1 hx]; exact h1
  · intro x hx; rw [List.mem_singleton.1 hx]; exact h2
  · intro x hx; rw [List.mem_singleton.1 hx, hlo, hhi]; exact Sub.refl _ _
  · intro t; simp [Wt, hlo, hhi]
  · intro x hx; rw [List.mem_singleton.1 hx]; exact h3
theorem enc_hd {p : AP} (h : p.ok) : p.enc.length ≤ 66 + p.c.enc.length := by
  have l1 := bound_le h.1.1
  have l2 := bound_le h.1.2.1
  have e1 := num_one (n := p.lo.length) (by omega)
  have e2 := num_one (n := p.hi.length) (by omega)
  simp only [AP.enc, List.length_append]
  omega
theorem repP (hs : okSet s) (hr : okSet r) (hs4 : s.length ≤ 40) (hr4 : r.length ≤ 40) (hf : 2 ≤ fan) (hl : 1 ≤ leaf) (hl2 : leaf ≤ 64) {p : AP} (hp : p.ok) (hc : Part s r p) : RepP s r leaf p (repA r fan leaf p) := by
  obtain ⟨⟨b1, b2, b3⟩, hcok⟩ := hp
  obtain ⟨lo, hi, c⟩ := p
  dsimp only at b1 b2 b3
  cases c with
  | sum n f =>
    show RepP s r leaf _ (cmpA r fan leaf lo hi n f)
    unfold cmpA
    split
    · exact RepP.nil _
    · split
      · have hle := inL_len r lo hi
        have ho : AP.ok ⟨lo, hi, .list (inL r lo hi)⟩ := ⟨⟨b1, b2, b3⟩, by omega, inL32 hr lo hi, ordOk_inL hr.2 lo hi⟩
        refine RepP.one rfl rfl ho rfl ?_
        have h1 := enc_hd ho
        have h2 := flat_len (inL32 hr lo hi)
        have h3 := num_one (n := 2) (by omega)
        have h4 := num_one (n := (inL r lo hi).length) (by omega)
        simp only [AC.enc, List.length_append, h2, h3, h4] at h1
        show _ ≤ 100 + 32 * ((inL r lo hi).length + _)
        omega
      · rename_i hgt
        have hD := divided_ok (lo := lo) (hi := hi) hr (show 0 < (inL r lo hi).length by omega) hf
        change RepP s r leaf _ (dividA r fan lo hi)
        have hq : ∀ q ∈ dividA r fan lo hi, q.ok ∧ q.enc.length ≤ 100 := fun q hq => by
          obtain ⟨a, b, _, d, e, _⟩ := hD.part q hq
          have q1 := bound_mem hr b1 d
          have q2 := bound_mem hr b2 e
          have h5 := sumA_ok hr4 a (bound_le q1) (bound_le q2)
          refine ⟨⟨⟨q1, q2, b⟩, ?_⟩, h5.2⟩
          rw [a]
          exact ⟨Nat.le_trans (inL_len _ _ _) (by omega), fpB_len _⟩
        refine ⟨fun q h => (hq q h).1, hD.bef, fun q h => ?_, fun q h => (hD.part q h).2.2.1, fun t => Nat.le_of_eq (hD.sum t), ?_, fun q h => Nat.le_trans (hq q h).2 (by omega)⟩
        · have a := (hD.part q h).1
          rw [a]
          exact ⟨rfl, rfl⟩
        · have h6 := hD.len.1
          have h7 : 1 < cnt r lo hi := by show 1 < (inL r lo hi).length; omega
          show _ ≤ 1 + 2 * cnt r lo hi
          omega
  | list xs =>
    obtain rfl : xs = inL s lo hi := hc
    show RepP s r leaf _ (ansA r lo hi (inL s lo hi))
    unfold ansA
    split
    · have o1 : ordOk (without (inL r lo hi) (inL s lo hi)) lo hi = true := ordOk_filter _ (ordOk_inL hr.2 lo hi)
      have o2 : ordOk (without (inL s lo hi) r) lo hi = true := ordOk_filter _ (ordOk_inL hs.2 lo hi)
      have a1 := without_len (inL r lo hi) (inL s lo hi)
      have a2 := without_len (inL s lo hi) r
      have a3 := inL_len r lo hi
      have a4 := inL_len s lo hi
      have c1 := without32 (m := inL s lo hi) (inL32 hr lo hi)
      have c2 := without32 (m := r) (inL32 hs lo hi)
      have ho : AP.ok ⟨lo, hi, .ans (without (inL r lo hi) (inL s lo hi)) (without (inL s lo hi) r)⟩ := ⟨⟨b1, b2, b3⟩, ⟨by omega, c1, o1⟩, by omega, c2, o2⟩
      refine RepP.one rfl rfl ho ⟨fun x => ?_, fun x => ?_⟩ ?_
      · rw [mem_without, mem_inL, mem_inL]
        constructor
        · rintro ⟨⟨h1, h2⟩, h3⟩; exact ⟨⟨h1, fun h => h3 ⟨h, h2⟩⟩, h2⟩
        · rintro ⟨⟨h1, h2⟩, h3⟩; exact ⟨⟨h1, h3⟩, fun h => h2 h.1⟩
      · rw [mem_without, mem_inL]
        constructor
        · rintro ⟨⟨h1, h2⟩, h3⟩; exact ⟨⟨h1, h3⟩, h2⟩
        · rintro ⟨⟨h1, h2⟩, h3⟩; exact ⟨⟨h1, h3⟩, h2⟩
      · have h1 := enc_hd ho
        have f1 := flat_len c1
        have f2 := flat_len c2
        have h3 := num_one (n := 3) (by omega)
        have h4 := num_one (n := (without (inL r lo hi) (inL s lo hi)).length) (by omega)
        have h5 := num_one (n := (without (inL s lo hi) r).length) (by omega)
        simp only [AC.enc, List.length_append, f1, f2, h3, h4, h5] at h1
        show _ ≤ 100 + 32 * ((inL r lo hi).length + (inL s lo hi).length)
        omega
    · exact RepP.nil _
  | ans xs ms => exact RepP.nil _
theorem sum_flat_le {f : AP → List AP} {t : List Bs} : ∀ {m : List AP}, (∀ p ∈ m, Wt t (f p) ≤ cnt t p.lo p.hi) → Wt t (m.flatMap f) ≤ Wt t m
  | [], _ => Nat.le_refl _
  | p :: m, h => by
    have ih := sum_flat_le (f := f) (t := t) (m := m) fun q hq => h q (by simp [hq])
    have h1 := h p (by simp)
    simp only [Wt, List.flatMap_cons, List.map_append, List.sum_append, List.map_cons, List.sum_cons] at ih h1 ⊢
    omega
theorem len_flat_le {f : AP → List AP} : ∀ {m : List AP}, (∀ p ∈ m, (f p).length ≤ 1 + 2 * cnt r p.lo p.hi) → (m.flatMap f).length ≤ m.length + 2 * Wt r m
  | [], _ => Nat.le_refl _
  | p :: m, h => by
    have ih := len_flat_le (f := f) (m := m) fun q hq => h q (by simp [hq])
    have h1 := h p (by simp)
    simp only [Wt, List.flatMap_cons, List.length_append, List.map_cons, List.sum_cons, List.length_cons] at ih h1 ⊢
    omega
theorem Hon.reply (hs : okSet s) (hr : okSet r) (hs4 : s.length ≤ 40) (hr4 : r.length ≤ 40) (hf : 2 ≤ fan) (hl : 1 ≤ leaf) (hl2 : leaf ≤ 64) {m : List AP} (h : Hon s r m) :
    Hon r s (replyA r fan leaf m) ∧ (∀ t, Wt t (replyA r fan leaf m) ≤ Wt t m) ∧ (replyA r fan leaf m).length ≤ m.length + 2 * Wt r m ∧ ∀ q ∈ replyA r fan leaf m, q.enc.length ≤ 100 + 32 * (cnt r q.lo q.hi + cnt s q.lo q.hi) := by
  have hR : ∀ p ∈ m, RepP s r leaf p (repA r fan leaf p) := fun p hp => repP hs hr hs4 hr4 hf hl hl2 (h.ok p hp) (h.con p hp)
  refine ⟨⟨?_, ?_, ?_⟩, fun t => sum_flat_le fun p hp => (hR p hp).wt t, len_flat_le fun p hp => (hR p hp).len, ?_⟩
  · intro q hq
    obtain ⟨p, h1, h2⟩ := List.mem_flatMap.1 hq
    exact (hR p h1).ok q h2
  · unfold replyA
    rw [List.pairwise_flatMap]
    refine ⟨fun p hp => (hR p hp).bef, h.bef.imp_of_mem fun {p p'} hp hp' hb q hq q' hq' => ?_⟩
    have s1 := (hR p hp).sub q hq
    have s2 := (hR p' hp').sub q' hq'
    have s3 := s1.2.resolve_left hb.1
    exact ⟨s3.1, bs_le_le (bs_le_le s3.2 hb.2) s2.1⟩
  · intro q hq
    obtain ⟨p, h1, h2⟩ := List.mem_flatMap.1 hq
    exact (hR p h1).con q h2
  · intro q hq
    obtain ⟨p, h1, h2⟩ := List.mem_flatMap.1 hq
    exact (hR p h1).enc q h2
end

/-! ### A run of messages -/
def sendOf (a b : List Bs) (j : Nat) : List Bs := if j % 2 = 0 then a else b
def msgA (a b : List Bs) (fan leaf : Nat) : Nat → List AP
  | 0 => [sumA a [] []]
  | j + 1 => replyA (sideOf a b j) fan leaf (msgA a b fan leaf j)
theorem send_succ (a b : List Bs) (j : Nat) : sendOf a b (j + 1) = sideOf a b j := by
  unfold sendOf sideOf
  by_cases h : j % 2 = 0
  · rw [if_neg (by omega), if_pos h]
  · rw [if_pos (by omega), if_neg h]
theorem side_succ (a b : List Bs) (j : Nat) : sideOf a b (j + 1) = sendOf a b j := by
  unfold sendOf sideOf
  by_cases h : j % 2 = 0
  · rw [if_neg (by omega), if_pos h]
  · rw [if_pos (by omega), if_neg h]
structure Sets (a b : List Bs) (fan leaf : Nat) : Prop where
  (ha : okSet a) (hb : okSet b) (ha4 : a.length ≤ 40) (hb4 : b.length ≤ 40) (hf : 2 ≤ fan) (hf2 : fan ≤ 16) (hl : 1 ≤ leaf) (hl2 : leaf ≤ 64)
structure MsgInv (a b : List Bs) (fan leaf j : Nat) (m : List AP) : Prop where
  hon : Hon (sendOf a b j) (sideOf a b j) m
  len : m.length ≤ 1 + 80 * j
  wt : ∀ t : List Bs, Wt t m ≤ t.length
  enc : ∀ q ∈ m, q.enc.length ≤ 100 + 32 * (cnt a q.lo q.hi + cnt b q.lo q.hi)
section
variable {a b : List Bs} {fan leaf : Nat}
theorem Sets.side (h : Sets a b fan leaf) (j : Nat) : (okSet (sideOf a b j) ∧ (sideOf a b j).length ≤ 40) ∧ okSet (sendOf a b j) ∧ (sendOf a b j).length ≤ 40 := by
  unfold sideOf sendOf
  split
  · exact ⟨⟨h.hb, h.hb4⟩, h.ha, h.ha4⟩
  · exact ⟨⟨h.ha, h.ha4⟩, h.hb, h.hb4⟩
theorem msg_inv (h : Sets a b fan leaf) : ∀ j, MsgInv a b fan leaf j (msgA a b fan leaf j)
  | 0 => by
    have e : msgA a b fan leaf 0 = [sumA a [] []] := rfl
    rw [e]
    have h0 := sumA_ok h.ha4 (p := sumA a [] []) rfl (by simp [sumA]) (by simp [sumA])
    refine ⟨⟨?_, List.pairwise_singleton _ _, ?_⟩, by simp, ?_, ?_⟩
    · intro p hp
      rw [List.mem_singleton.1 hp]
      have := inL_len a [] []
      have h4 := h.ha4
      exact ⟨⟨by simp [sumA, boundOk], by simp [sumA, boundOk], by simp [sumA, spanOk]⟩, by omega, fpB_len _⟩
    · intro p hp
      rw [List.mem_singleton.1 hp]
      exact ⟨rfl, rfl⟩
    · intro t
      simp only [Wt, List.map_cons, List.map_nil, List.sum_cons, List.sum_nil]
      show (inL t [] []).length + 0 ≤ _
      rw [inL_all]
      omega
    · intro q hq
      rw [List.mem_singleton.1 hq]
      exact Nat.le_trans h0.2 (by omega)
  | j + 1 => by
    have ih := msg_inv h j
    obtain ⟨⟨r1, r2⟩, s1, s2⟩ := h.side j
    obtain ⟨h1, h2, h3, h4⟩ := ih.hon.reply s1 r1 s2 r2 h.hf h.hl h.hl2
    have e : msgA a b fan leaf (j + 1) = replyA (sideOf a b j) fan leaf (msgA a b fan leaf j) := rfl
    rw [e]
    refine ⟨by rw [send_succ, side_succ]; exact h1, ?_, fun t => Nat.le_trans (h2 t) (ih.wt t), fun q hq => ?_⟩
    · have := ih.wt (sideOf a b j)
      have := ih.len
      omega
    · have h5 := h4 q hq
      have e2 : cnt (sideOf a b j) q.lo q.hi + cnt (sendOf a b j) q.lo q.hi = cnt a q.lo q.hi + cnt b q.lo q.hi := by
        unfold sideOf sendOf
        split
        · exact Nat.add_comm _ _
        · rfl
      rw [e2] at h5
      exact h5
theorem enc_sum : ∀ {m : List AP}, (∀ q ∈ m, q.enc.length ≤ 100 + 32 * (cnt a q.lo q.hi + cnt b q.lo q.hi)) → (m.flatMap AP.enc).length ≤ m.length * 100 + 32 * (Wt a m + Wt b m)
  | [], _ => Nat.zero_le _
  | p :: m, h => by
    have ih := enc_sum (m := m) fun q hq => h q (by simp [hq])
    have h1 := h p (by simp)
    simp only [Wt, List.flatMap_cons, List.length_append, List.map_cons, List.sum_cons, List.length_cons] at ih h1 ⊢
    omega
theorem enc_small (h : Sets a b fan leaf) {j : Nat} (hj : j ≤ 100) : (encA (msgA a b fan leaf j)).length ≤ 1048576 := by
  have hi := msg_inv h j
  have h1 := hi.len
  have h2 := enc_sum hi.enc
  have h3 := hi.wt a
  have h4 := hi.wt b
  have h5 := encA_le (msgA a b fan leaf j) (by omega)
  have := h.ha4
  have := h.hb4
  omega
theorem runM_enc (h : Sets a b fan leaf) : ∀ j, j ≤ 30 → runM a b fan leaf j = encA (msgA a b fan leaf j) ∧ runR a b fan leaf j = ⟨encA (msgA a b fan leaf (j + 1)), 0, (msgA a b fan leaf j).flatMap (needA (sideOf a b j)), (msgA a b fan leaf j).flatMap (offA (sideOf a b j))⟩ := by
  intro j hj
  have key : runM a b fan leaf j = encA (msgA a b fan leaf j) → runR a b fan leaf j = ⟨encA (msgA a b fan leaf (j + 1)), 0, (msgA a b fan leaf j).flatMap (needA (sideOf a b j)), (msgA a b fan leaf j).flatMap (offA (sideOf a b j))⟩ := by
    intro he
    unfold runR
    rw [he]
    have hs1 := enc_small h (j := j) (by omega)
    have hs2 := enc_small h (j := j + 1) (by omega)
    have e : msgA a b fan leaf (j + 1) = replyA (sideOf a b j) fan leaf (msgA a b fan leaf j) := rfl
    have hi := msg_inv h j
    rw [e] at hs2 ⊢
    generalize msgA a b fan leaf j = m at *
    by_cases hm : m = []
    · subst hm
      rfl
    · have hne : encA m ≠ [] := by
        unfold encA
        have hml : m.length ≠ 0 := fun e => hm (List.eq_nil_of_length_eq_zero e)
        rw [if_neg hml]
        intro e
        have e2 := congrArg List.length e
        have := numPos m.length
        rw [List.length_append, List.length_nil] at e2
        omega
      unfold stepA
      rw [if_neg hne, decA_enc (hi.hon.msg hm) (by omega)]
      dsimp only
      rw [if_neg (by omega)]
  induction j with
  | zero => exact ⟨rfl, key rfl⟩
  | succ j ih =>
    have ih' := ih (by omega) (fun he => ?_)
    · have e : runM a b fan leaf (j + 1) = encA (msgA a b fan leaf (j + 1)) := by
        show (runR a b fan leaf j).reply = _
        rw [ih'.2]
      exact ⟨e, key e⟩
    · unfold runR
      rw [he]
      have hs1 := enc_small h (j := j) (by omega)
      have hs2 := enc_small h (j := j + 1) (by omega)
      have e : msgA a b fan leaf (j + 1) = replyA (sideOf a b j) fan leaf (msgA a b fan leaf j) := rfl
      have hi := msg_inv h j
      rw [e] at hs2 ⊢
      generalize msgA a b fan leaf j = m at *
      by_cases hm : m = []
      · subst hm
        rfl
      · have hne : encA m ≠ [] := by
          unfold encA
          have hml : m.length ≠ 0 := fun e => hm (List.eq_nil_of_length_eq_zero e)
          rw [if_neg hml]
          intro e
          have e2 := congrArg List.length e
          have := numPos m.length
          rw [List.length_append, List.length_nil] at e2
          omega
        unfold stepA
        rw [if_neg hne, decA_enc (hi.hon.msg hm) (by omega)]
        dsimp only
        rw [if_neg (by omega)]
theorem encA_nil {m : List AP} : encA m = [] ↔ m = [] := by
  constructor
  · intro h
    by_cases hm : m = []
    · exact hm
    · exfalso
      have hml : m.length ≠ 0 := fun e => hm (List.eq_nil_of_length_eq_zero e)
      rw [encA, if_neg hml] at h
      have e2 := congrArg List.length h
      have := numPos m.length
      rw [List.length_append, List.length_nil] at e2
      omega
  · rintro rfl; rfl

/-! ### The end of a run -/
theorem depthN_mono {fan leaf : Nat} (hf : 2 ≤ fan) (hl : 1 ≤ leaf) : ∀ (n m : Nat), n ≤ m → depthN fan leaf n ≤ depthN fan leaf m := by
  intro n
  induction n using Nat.strongRecOn with
  | _ n ih =>
    intro m hnm
    by_cases h : leaf < n
    · rw [depthN_step hf hl h, depthN_step hf hl (show leaf < m by omega)]
      have := ih _ (div_lt hf (by omega)) ((m + fan - 1) / fan) (Nat.div_le_div_right (by omega))
      omega
    · rw [depthN_zero (by omega)]; exact Nat.zero_le _
theorem depthN_pow {fan leaf : Nat} (hf : 2 ≤ fan) (hl : 1 ≤ leaf) : ∀ (t n : Nat), n ≤ 2 ^ t → depthN fan leaf n ≤ t
  | 0, n, h => by rw [depthN_zero (by simp at h; omega)]; exact Nat.le_refl _
  | t + 1, n, h => by
    by_cases h1 : leaf < n
    · rw [depthN_step hf hl h1]
      have h2 : (n + fan - 1) / fan ≤ 2 ^ t := by
        rw [← Nat.lt_succ_iff, Nat.div_lt_iff_lt_mul (by omega)]
        have h3 : 2 ^ t * 2 ≤ 2 ^ t * fan := Nat.mul_le_mul_left _ hf
        rw [Nat.pow_succ] at h
        rw [Nat.succ_mul]
        omega
      have := depthN_pow hf hl t _ h2
      omega
    · rw [depthN_zero (by omega)]; omega
/-- Sums that are left: how often their ranges can be divided by the receiver and by the sender. -/
def Lev (r s : List Bs) (fan leaf : Nat) (m : List AP) (e1 e2 : Nat) : Prop := ∀ p ∈ m, ∀ n f, p.c = .sum n f → depthN fan leaf (cnt r p.lo p.hi) ≤ e1 ∧ depthN fan leaf (cnt s p.lo p.hi) ≤ e2
def NoSum (m : List AP) : Prop := ∀ p ∈ m, ∀ n f, p.c ≠ .sum n f
def NoList (m : List AP) : Prop := ∀ p ∈ m, (∀ n f, p.c ≠ .sum n f) ∧ ∀ xs, p.c ≠ .list xs
theorem lev_zero {r s : List Bs} (hl : 1 ≤ leaf) (hf : 2 ≤ fan) {m : List AP} {e2 : Nat} (h : Lev r s fan leaf m 0 e2) : NoSum (replyA r fan leaf m) := by
  intro q hq n f hc
  obtain ⟨p, h1, h2⟩ := List.mem_flatMap.1 hq
  obtain ⟨lo, hi, c⟩ := p
  cases c with
  | sum n' f' =>
    have hd := (h _ h1 n' f' rfl).1
    have h2' : q ∈ cmpA r fan leaf lo hi n' f' := h2
    unfold cmpA at h2'
    split at h2'
    · cases h2'
    · split at h2'
      · rw [List.mem_singleton.1 h2'] at hc; cases hc
      · rename_i hgt
        rw [depthN_step hf hl (show leaf < cnt r lo hi by show leaf < (inL r lo hi).length; omega)] at hd
        omega
  | list xs =>
    have h2' : q ∈ ansA r lo hi xs := h2
    unfold ansA at h2'
    split at h2'
    · rw [List.mem_singleton.1 h2'] at hc; cases hc
    · cases h2'
  | ans xs ms => cases h2
theorem noSum_reply {r : List Bs} {m : List AP} (h : NoSum m) : NoList (replyA r fan leaf m) := by
  intro q hq
  obtain ⟨p, h1, h2⟩ := List.mem_flatMap.1 hq
  obtain ⟨lo, hi, c⟩ := p
  cases c with
  | sum n' f' => exact absurd rfl (h _ h1 n' f')
  | list xs =>
    have h2' : q ∈ ansA r lo hi xs := h2
    unfold ansA at h2'
    split at h2'
    · rw [List.mem_singleton.1 h2']; exact ⟨fun n f e => (by cases e), fun ys e => (by cases e)⟩
    · cases h2'
  | ans xs ms => cases h2
theorem noList_reply {r : List Bs} {m : List AP} (h : NoList m) : replyA r fan leaf m = [] := by
  unfold replyA
  rw [List.flatMap_eq_nil_iff]
  intro p hp
  obtain ⟨h1, h2⟩ := h p hp
  obtain ⟨lo, hi, c⟩ := p
  cases c with
  | sum n f => exact absurd rfl (h1 n f)
  | list xs => exact absurd rfl (h2 xs)
  | ans xs ms => rfl
theorem lev_step {r s : List Bs} (hr : okSet r) (hl : 1 ≤ leaf) (hf : 2 ≤ fan) {m : List AP} {e1 e2 : Nat} (h : Lev r s fan leaf m (e1 + 1) e2) : Lev s r fan leaf (replyA r fan leaf m) e2 e1 := by
  intro q hq n f hc
  obtain ⟨p, h1, h2⟩ := List.mem_flatMap.1 hq
  obtain ⟨lo, hi, c⟩ := p
  cases c with
  | sum n' f' =>
    obtain ⟨d1, d2⟩ := h _ h1 n' f' rfl
    dsimp only at d1 d2
    have h2' : q ∈ cmpA r fan leaf lo hi n' f' := h2
    unfold cmpA at h2'
    split at h2'
    · cases h2'
    · split at h2'
      · rw [List.mem_singleton.1 h2'] at hc; cases hc
      · rename_i hgt
        have hgt' : leaf < cnt r lo hi := by show leaf < (inL r lo hi).length; omega
        have hD := divided_ok (lo := lo) (hi := hi) hr (show 0 < (inL r lo hi).length by omega) hf
        obtain ⟨_, _, hsub, _, _, hcn⟩ := hD.part q h2'
        rw [depthN_step hf hl hgt'] at d1
        exact ⟨Nat.le_trans (depthN_mono hf hl _ _ (cnt_sub hsub s)) d2, Nat.le_trans (depthN_mono hf hl _ _ hcn) (by omega)⟩
  | list xs =>
    have h2' : q ∈ ansA r lo hi xs := h2
    unfold ansA at h2'
    split at h2'
    · rw [List.mem_singleton.1 h2'] at hc; cases hc
    · cases h2'
  | ans xs ms => cases h2
/-- How many messages there can be yet. -/
def gLeft : Nat → Nat → Nat
  | 0, _ => 3
  | e1 + 1, 0 => 1 + 3 + e1 * 0
  | e1 + 1, e2 + 1 => 2 + gLeft e1 e2
theorem msg_end (h : Sets a b fan leaf) : ∀ (e j : Nat), Lev (sideOf a b j) (sendOf a b j) fan leaf (msgA a b fan leaf j) e e → msgA a b fan leaf (j + 2 * e + 3) = []
  | 0, j, hL => by
    have h1 := lev_zero h.hl h.hf hL
    have h2 := noSum_reply (fan := fan) (leaf := leaf) (r := sideOf a b (j + 1)) h1
    exact noList_reply h2
  | e + 1, j, hL => by
    have s1 := (h.side j).1.1
    have s2 := (h.side (j + 1)).1.1
    have h1 := lev_step s1 h.hl h.hf hL
    have h1' : Lev (sideOf a b (j + 1)) (sendOf a b (j + 1)) fan leaf (msgA a b fan leaf (j + 1)) (e + 1) e := by rw [side_succ, send_succ]; exact h1
    have h2 := lev_step s2 h.hl h.hf h1'
    have h2' : Lev (sideOf a b (j + 2)) (sendOf a b (j + 2)) fan leaf (msgA a b fan leaf (j + 2)) e e := by
      rw [show j + 2 = j + 1 + 1 from rfl, side_succ a b (j + 1), send_succ a b (j + 1)]; exact h2
    have := msg_end h e (j + 2) h2'
    rw [show j + 2 * (e + 1) + 3 = j + 2 + 2 * e + 3 by omega]
    exact this
theorem least_nil {f : Nat → List AP} : ∀ n, f n = [] → ∃ K, K ≤ n ∧ f K = [] ∧ ∀ j, j < K → f j ≠ []
  | 0, h => ⟨0, Nat.le_refl _, h, fun j hj => by omega⟩
  | n + 1, h => by
    by_cases h0 : ∃ m, m ≤ n ∧ f m = []
    · obtain ⟨m, hm, h1⟩ := h0
      have key : ∀ t, ∀ m, m ≤ t → f m = [] → ∃ K, K ≤ m ∧ f K = [] ∧ ∀ j, j < K → f j ≠ [] := by
        intro t
        induction t with
        | zero => intro m hm h; exact ⟨m, Nat.le_refl _, h, fun j hj => by omega⟩
        | succ t ih =>
          intro m hm h
          by_cases hx : ∃ j, j < m ∧ f j = []
          · obtain ⟨j, hj, hfj⟩ := hx
            obtain ⟨K, k1, k2, k3⟩ := ih j (by omega) hfj
            exact ⟨K, by omega, k2, k3⟩
          · exact ⟨m, Nat.le_refl _, h, fun j hj e => hx ⟨j, hj, e⟩⟩
      obtain ⟨K, k1, k2, k3⟩ := key n m hm h1
      exact ⟨K, by omega, k2, k3⟩
    · exact ⟨n + 1, Nat.le_refl _, h, fun j hj e => h0 ⟨j, by omega, e⟩⟩
theorem run_ends (h : Sets a b fan leaf) : ∃ K, RunEnds a b fan leaf K ∧ 1 ≤ K ∧ K ≤ 2 * depthN fan leaf (max a.length b.length) + 3 ∧ msgA a b fan leaf K = [] ∧ ∀ j, j < K → msgA a b fan leaf j ≠ [] := by
  have hd : depthN fan leaf (max a.length b.length) ≤ 6 := depthN_pow h.hf h.hl 6 _ (by have := h.ha4; have := h.hb4; omega)
  have hL : Lev (sideOf a b 0) (sendOf a b 0) fan leaf (msgA a b fan leaf 0) (depthN fan leaf (max a.length b.length)) (depthN fan leaf (max a.length b.length)) := by
    intro p hp n f _
    have e : msgA a b fan leaf 0 = [sumA a [] []] := rfl
    rw [e] at hp
    rw [List.mem_singleton.1 hp]
    show depthN fan leaf (inL b [] []).length ≤ _ ∧ depthN fan leaf (inL a [] []).length ≤ _
    rw [inL_all, inL_all]
    exact ⟨depthN_mono h.hf h.hl _ _ (by omega), depthN_mono h.hf h.hl _ _ (by omega)⟩
  have h1 := msg_end h _ 0 hL
  rw [Nat.zero_add] at h1
  obtain ⟨K, k1, k2, k3⟩ := least_nil _ h1
  have hK1 : 1 ≤ K := by
    rcases Nat.eq_zero_or_pos K with e | e
    · subst e; cases k2
    · exact e
  refine ⟨K, ⟨fun j hj => ?_, ?_, by omega⟩, hK1, k1, k2, k3⟩
  · obtain ⟨e1, e2⟩ := runM_enc h j (by omega)
    exact ⟨by rw [e1]; exact fun e => k3 j hj (encA_nil.1 e), by rw [e2]⟩
  · rw [(runM_enc h K (by omega)).1, k2]; rfl
end
end Go.Proofs.YtlepfnihpdhcaaaGreatDoor
namespace Go.Proofs.YtlepfnihpdhcaaaGreatDoor
abbrev awI (n : Nat) : Bs := itemB (UInt8.ofNat n)
theorem aw_sets : Sets [awI 65, awI 66, awI 67] [awI 66, awI 68] 2 1 := ⟨by decide +kernel, by decide +kernel, by decide, by decide, by decide, by decide, by decide, by decide⟩
theorem aw_m (j : Nat) (hj : j < 5) : msgA [awI 65, awI 66, awI 67] [awI 66, awI 68] 2 1 j ≠ [] := by
  intro e
  have h : (msgA [awI 65, awI 66, awI 67] [awI 66, awI 68] 2 1 j).isEmpty = true := by rw [e]; rfl
  match j, hj with
  | 0, _ => exact absurd h (by decide +kernel)
  | 1, _ => exact absurd h (by decide +kernel)
  | 2, _ => exact absurd h (by decide +kernel)
  | 3, _ => exact absurd h (by decide +kernel)
  | 4, _ => exact absurd h (by decide +kernel)
theorem aw_ends : RunEnds [awI 65, awI 66, awI 67] [awI 66, awI 68] 2 1 5 := by
  refine ⟨fun j hj => ?_, ?_, by omega⟩
  · obtain ⟨e1, e2⟩ := runM_enc aw_sets j (by omega)
    exact ⟨by rw [e1]; exact fun e => aw_m j hj (encA_nil.1 e), by rw [e2]⟩
  · rw [(runM_enc aw_sets 5 (by omega)).1, encA_nil]
    have h : (msgA [awI 65, awI 66, awI 67] [awI 66, awI 68] 2 1 5).isEmpty = true := by decide +kernel
    exact List.isEmpty_iff.1 h
theorem runN_5 (a b : List Bs) (fan leaf : Nat) : runN a b fan leaf 1 5 = (([] ++ (runR a b fan leaf 1).need) ++ (runR a b fan leaf 3).need, ([] ++ (runR a b fan leaf 1).off) ++ (runR a b fan leaf 3).off) := by simp [runN]
theorem aw_know : runN [awI 65, awI 66, awI 67] [awI 66, awI 68] 2 1 1 5 = ((msgA [awI 65, awI 66, awI 67] [awI 66, awI 68] 2 1 1).flatMap (needA [awI 65, awI 66, awI 67]) ++ (msgA [awI 65, awI 66, awI 67] [awI 66, awI 68] 2 1 3).flatMap (needA [awI 65, awI 66, awI 67]), (msgA [awI 65, awI 66, awI 67] [awI 66, awI 68] 2 1 1).flatMap (offA [awI 65, awI 66, awI 67]) ++ (msgA [awI 65, awI 66, awI 67] [awI 66, awI 68] 2 1 3).flatMap (offA [awI 65, awI 66, awI 67])) := by
  rw [runN_5, (runM_enc aw_sets 1 (by omega)).2, (runM_enc aw_sets 3 (by omega)).2]
  rfl
theorem aw_off : withL [] (runN [awI 65, awI 66, awI 67] [awI 66, awI 68] 2 1 1 5).2 = [awI 65, awI 67] := by
  rw [aw_know]
  decide +kernel
theorem aw_need : withL [] (runN [awI 65, awI 66, awI 67] [awI 66, awI 68] 2 1 1 5).1 = [awI 68] := by
  rw [aw_know]
  decide +kernel
theorem aw_bytes : 0 < runB [awI 65, awI 66, awI 67] [awI 66, awI 68] 2 1 5 := by
  have h := List.length_pos_iff.2 (aw_ends.go 4 (by omega)).1
  exact Nat.lt_of_lt_of_le h (Nat.le_add_left _ _)
theorem aw_depth : depthN 2 1 3 = 2 := by
  rw [depthN_step (by omega) (by omega) (by omega), depthN_step (by omega) (by omega) (by omega), depthN_zero (by omega)]
theorem aw_step (its : List Bs) (fan leaf : Nat) : (stepA its fan leaf [0]).err = 3 := by
  have h : decA [0] = none := by decide +kernel
  unfold stepA
  rw [if_neg (by simp), h]
theorem aw_one : okSet [awI 65] := by decide +kernel
theorem aw_first (its : List Bs) (h : its.length ≤ 40) : 0 < (encA [sumA its [] []]).length := List.length_pos_iff.2 (start_ok h).2.2
end Go.Proofs.YtlepfnihpdhcaaaGreatDoor
