/- rangesum: messages read, plain: what is decoded, and that just the encodings of messages are. -/
import Derived.Test.YtlepfnihpdhcaaaGreatDoorRsRd
namespace Go.Proofs.YtlepfnihpdhcaaaGreatDoor

/-! ### The decoder -/
def follows (ps : List AP) (p : AP) : Bool := match ps.getLast? with | none => true | some q => !(decide (q.hi = []) || decide (p.lo < q.hi))
def Rd.parts (r : Rd) : Nat → Option (List AP) × Rd
  | 0 => (some [], r)
  | k + 1 =>
    match r.parts k with
    | (none, r1) => (none, r1)
    | (some ps, r1) =>
      match r1.part with
      | (none, r2) => (none, r2)
      | (some p, r2) => if follows ps p then (some (ps ++ [p]), r2) else (none, r2)
def decA (D : Bs) : Option (List AP) :=
  if ((Rd.mk D 0 0 0).cnt D.length).1 = 0 then none
  else match ((Rd.mk D 0 0 0).cnt D.length).2.parts ((Rd.mk D 0 0 0).cnt D.length).1 with
    | (none, _) => none
    | (some ps, r2) => if r2.end_ = 0 then some ps else none
theorem Rd.parts_some {r r1 r2 : Rd} {k : Nat} {ps : List AP} {p : AP} (h : r.parts k = (some ps, r1)) (hp : r1.part = (some p, r2)) (hf : follows ps p = true) : r.parts (k + 1) = (some (ps ++ [p]), r2) := by
  rw [Rd.parts, h]; dsimp only; rw [hp]; dsimp only; rw [if_pos hf]
theorem Rd.parts_gap {r r1 r2 : Rd} {k : Nat} {ps : List AP} {p : AP} (h : r.parts k = (some ps, r1)) (hp : r1.part = (some p, r2)) (hf : follows ps p = false) : (r.parts (k + 1)).1 = none := by
  rw [Rd.parts, h]; dsimp only; rw [hp]; dsimp only; rw [if_neg (by simp [hf])]
theorem Rd.parts_none {r r1 r2 : Rd} {k : Nat} {ps : List AP} (h : r.parts k = (some ps, r1)) (hp : r1.part = (none, r2)) : (r.parts (k + 1)).1 = none := by
  rw [Rd.parts, h]; dsimp only; rw [hp]
theorem Rd.parts_stop {r : Rd} {k : Nat} (h : (r.parts k).1 = none) : ∀ j, (r.parts (k + j)).1 = none
  | 0 => h
  | j + 1 => by
    have ih := Rd.parts_stop h j
    show (r.parts (k + j + 1)).1 = none
    rw [Rd.parts]
    generalize r.parts (k + j) = z at ih ⊢
    obtain ⟨o, r1⟩ := z
    dsimp only at ih ⊢
    subst ih
    rfl
theorem Rd.parts_len {r : Rd} : ∀ {k : Nat} {ps : List AP} {r1 : Rd}, r.parts k = (some ps, r1) → ps.length = k
  | 0, ps, r1, h => by rw [Rd.parts] at h; injection h with h1 h2; injection h1 with h1; rw [← h1]; rfl
  | k + 1, ps, r1, h => by
    rw [Rd.parts] at h
    generalize hz : r.parts k = z at h
    obtain ⟨o, r2⟩ := z
    cases o with
    | none => dsimp only at h; cases h
    | some qs =>
      dsimp only at h
      have ih := Rd.parts_len hz
      generalize r2.part = y at h
      obtain ⟨q, r3⟩ := y
      cases q with
      | none => dsimp only at h; cases h
      | some p =>
        dsimp only at h
        split at h
        · injection h with h1 h2; injection h1 with h1; rw [← h1, List.length_append, ih]; rfl
        · cases h

theorem decA_zero {D : Bs} {n : Nat} {r1 : Rd} (hc : (Rd.mk D 0 0 0).cnt D.length = (n, r1)) (hn : n = 0) : decA D = none := by
  unfold decA; rw [hc]; exact if_pos hn
theorem decA_stop {D : Bs} {n i : Nat} {r1 : Rd} (hc : (Rd.mk D 0 0 0).cnt D.length = (n, r1)) (hi : i ≤ n) (h : (r1.parts i).1 = none) : decA D = none := by
  unfold decA; rw [hc]
  dsimp only
  split
  · rfl
  · have := Rd.parts_stop h (n - i)
    rw [show i + (n - i) = n by omega] at this
    generalize r1.parts n = z at this ⊢
    obtain ⟨o, r2⟩ := z
    dsimp only at this
    subst this
    rfl
theorem decA_end {D : Bs} {n : Nat} {r1 r2 : Rd} {ps : List AP} (hc : (Rd.mk D 0 0 0).cnt D.length = (n, r1)) (h : r1.parts n = (some ps, r2)) (he : ¬ r2.end_ = 0) : decA D = none := by
  unfold decA; rw [hc]
  dsimp only
  split
  · rfl
  · rw [h]; exact if_neg he
theorem decA_ok {D : Bs} {n : Nat} {r1 r2 : Rd} {ps : List AP} (hc : (Rd.mk D 0 0 0).cnt D.length = (n, r1)) (hn : ¬ n = 0) (h : r1.parts n = (some ps, r2)) (he : r2.end_ = 0) : decA D = some ps := by
  unfold decA; rw [hc]
  dsimp only
  rw [if_neg hn, h]; exact if_pos he
theorem follows_nil (p : AP) : follows [] p = true := rfl
theorem follows_at {ps : List AP} {i : Nat} {q p : AP} (h : ps[i]? = some q) (hl : ps.length = i + 1) : follows ps p = !(decide (q.hi = []) || decide (p.lo < q.hi)) := by
  unfold follows
  rw [List.getLast?_eq_getElem?, hl, Nat.add_sub_cancel, h]
theorem gtr_iff {a b : Bs} : (!(decide (a < b) || decide (a = b))) = decide (b < a) := by
  by_cases h1 : a < b
  · have : ¬ b < a := fun h => b_lt_irrefl (b_lt_trans h h1)
    simp [h1, this]
  · by_cases h2 : a = b
    · subst h2; simp [b_lt_irrefl]
    · simp [h1, h2, b_lt_or h1 h2]

/-! ### What messages are -/
def all32 (l : List Bs) : Prop := ∀ x ∈ l, x.length = 32
def AC.ok (lo hi : Bs) : AC → Prop
  | .sum n f => n ≤ 16384 ∧ f.length = 32
  | .list xs => xs.length ≤ 64 ∧ all32 xs ∧ ordOk xs lo hi = true
  | .ans xs ms => (xs.length ≤ 16384 ∧ all32 xs ∧ ordOk xs lo hi = true) ∧ ms.length ≤ 16384 ∧ all32 ms ∧ ordOk ms lo hi = true
def AP.ok (p : AP) : Prop := (boundOk p.lo = true ∧ boundOk p.hi = true ∧ spanOk p.lo p.hi = true) ∧ p.c.ok p.lo p.hi
def chain (ps : List AP) : Prop := ∀ k p, ps[k]? = some p → follows (ps.take k) p = true
def okMsg (ps : List AP) : Prop := ps ≠ [] ∧ (∀ p ∈ ps, p.ok) ∧ chain ps
theorem bound_le {x : Bs} (h : boundOk x = true) : x.length ≤ 32 := by
  unfold boundOk at h
  rw [Bool.or_eq_true, decide_eq_true_eq, decide_eq_true_eq] at h
  rcases h with rfl | h
  · simp
  · omega
theorem AP.ok_fit {p : AP} (h : p.ok) : p.fit := by
  obtain ⟨⟨h1, h2, _⟩, h3⟩ := h
  refine ⟨bound_le h1, bound_le h2, ?_⟩
  obtain ⟨lo, hi, c⟩ := p
  cases c with
  | sum n f => exact h3
  | list xs => obtain ⟨a, b, _⟩ := h3; exact ⟨by omega, b⟩
  | ans xs ms => obtain ⟨⟨a, b, _⟩, c, d, _⟩ := h3; exact ⟨⟨a, b⟩, c, d⟩
theorem chain_snoc {ps : List AP} {p : AP} (h : chain ps) (hf : follows ps p = true) : chain (ps ++ [p]) := by
  intro k q hq
  by_cases hk : k < ps.length
  · rw [List.getElem?_append_left hk] at hq
    rw [List.take_append_of_le_length (by omega)]
    exact h k q hq
  · rw [List.getElem?_append_right (by omega)] at hq
    have hk' : k - ps.length = 0 := by
      have := (List.getElem?_eq_some_iff.1 hq).1
      simp at this
      omega
    rw [hk'] at hq
    simp at hq
    subst hq
    rw [show k = ps.length by omega, List.take_left]
    exact hf

/-! ### What is decoded is an encoding -/
theorem took_text (r : Rd) (most : Nat) (h : (r.text most).2.err = 0) : Took r (r.text most).2 (num (r.text most).1.length ++ (r.text most).1) ∧ (r.text most).1.length ≤ most := by
  unfold Rd.text at h ⊢
  by_cases he : r.err = 0
  · rw [if_pos he] at h ⊢
    cases hd : rdNum r.D r.off with
    | none => rw [hd] at h; cases h
    | some p =>
      obtain ⟨n, m⟩ := p
      rw [hd] at h
      dsimp only at h ⊢
      by_cases h1 : most < n
      · rw [if_pos h1] at h; cases h
      · rw [if_neg h1] at h ⊢
        by_cases h2 : m + n ≤ r.D.length
        · rw [if_pos h2] at h ⊢
          have hl : ((r.D.drop m).take n).length = n := by rw [List.length_take, List.length_drop]; omega
          refine ⟨⟨he, rfl, ?_⟩, by dsimp only; omega⟩
          dsimp only
          rw [hl, rdNum_took _ _ _ _ hd, List.append_assoc]
          congr 1
          show _ = _ ++ r.D.drop (m + n)
          rw [← List.drop_drop, List.take_append_drop]
        · rw [if_neg h2] at h; cases h
  · rw [if_neg he] at h
    exact absurd h he
theorem took_cnt (r : Rd) (most : Nat) (h : (r.cnt most).2.err = 0) : Took r (r.cnt most).2 (num (r.cnt most).1) ∧ (r.cnt most).1 ≤ most := by
  refine ⟨?_, r.cnt_le most⟩
  unfold Rd.cnt Rd.count at h ⊢
  by_cases he : r.err = 0
  · rw [if_pos he] at h ⊢
    cases hd : rdNum r.D r.off with
    | none => rw [hd] at h; cases h
    | some p =>
      rw [hd] at h
      dsimp only at h ⊢
      split at h
      · cases h
      · rename_i h1
        rw [if_neg h1]
        exact ⟨he, rfl, rdNum_took _ _ _ _ hd⟩
  · rw [if_neg he] at h
    exact absurd h he
/-- An error stays. -/
theorem err_sum (r : Rd) (h : r.sum.2.err = 0) : r.err = 0 := (took_sum r h).1.err
theorem took_sums (r : Rd) : ∀ n, (r.sums n).2.err = 0 → r.err = 0 → Took r (r.sums n).2 (r.sums n).1.flatten ∧ all32 (r.sums n).1
  | 0, _, he => ⟨⟨he, rfl, rfl⟩, by intro x hx; cases hx⟩
  | n + 1, h, he => by
    obtain ⟨h1, h2⟩ := took_sum (r.sums n).2 h
    obtain ⟨h3, h4⟩ := took_sums r n h1.err he
    refine ⟨?_, ?_⟩
    · have := h3.trans h1
      show Took r (r.sums n).2.sum.2 ((r.sums n).1 ++ [(r.sums n).2.sum.1]).flatten
      rw [List.flatten_append]
      simpa using this
    · intro x hx
      rcases List.mem_append.1 hx with hx | hx
      · exact h4 x hx
      · rw [List.mem_singleton.1 hx]; exact h2
theorem err_sums (r : Rd) : ∀ n, (r.sums n).2.err = 0 → r.err = 0
  | 0, h => h
  | n + 1, h => err_sums r n (took_sum (r.sums n).2 h).1.err
theorem took_items (r : Rd) (most : Nat) (h : (r.items most).2.err = 0) : Took r (r.items most).2 (num (r.items most).1.length ++ (r.items most).1.flatten) ∧ all32 (r.items most).1 := by
  have h0 : (r.cnt (r.most most)).2.err = 0 := err_sums _ _ h
  obtain ⟨h1, _⟩ := took_cnt r (r.most most) h0
  obtain ⟨h2, h3⟩ := took_sums _ _ h h0
  refine ⟨?_, h3⟩
  rw [show (r.items most).1.length = (r.cnt (r.most most)).1 from Rd.sums_len _ _]
  exact h1.trans h2
theorem took_body (r : Rd) (lo hi : Bs) (p : AP) (h : (r.body lo hi).2.err = 0) (hp : (r.body lo hi).1 = some p) (hok : boundOk lo = true ∧ boundOk hi = true ∧ spanOk lo hi = true) : Took r (r.body lo hi).2 p.c.enc ∧ p.ok ∧ p.lo = lo ∧ p.hi = hi := by
  unfold Rd.body at h hp ⊢
  by_cases h1 : r.uint.1 = 1
  · rw [if_pos h1] at h hp ⊢
    dsimp only at h hp ⊢
    obtain ⟨a1, a2⟩ := took_sum _ h
    obtain ⟨b1, b2⟩ := took_cnt _ _ a1.err
    have c1 := took_uint r b1.err
    rw [h1] at c1
    injection hp with hp
    subst hp
    exact ⟨(c1.trans b1).trans a1, ⟨hok, b2, a2⟩, rfl, rfl⟩
  · rw [if_neg h1] at h hp ⊢
    by_cases h2 : r.uint.1 = 2
    · rw [if_pos h2] at h hp ⊢
      dsimp only at h hp ⊢
      split at hp
      · rename_i ho
        injection hp with hp
        obtain ⟨a1, a2⟩ := took_items _ _ h
        have c1 := took_uint r a1.err
        rw [h2] at c1
        subst hp
        exact ⟨c1.trans a1, ⟨hok, Rd.items_len _ _, a2, ho⟩, rfl, rfl⟩
      · cases hp
    · rw [if_neg h2] at h hp ⊢
      by_cases h3 : r.uint.1 = 3
      · rw [if_pos h3] at h hp ⊢
        dsimp only at h hp ⊢
        split at hp
        · rename_i ho
          rw [Bool.and_eq_true] at ho
          injection hp with hp
          obtain ⟨a1, a2⟩ := took_items _ _ h
          obtain ⟨b1, b2⟩ := took_items _ _ a1.err
          have c1 := took_uint r b1.err
          rw [h3] at c1
          subst hp
          exact ⟨(c1.trans b1).trans a1, ⟨hok, ⟨Rd.items_len _ _, b2, ho.1⟩, Rd.items_len _ _, a2, ho.2⟩, rfl, rfl⟩
        · cases hp
      · rw [if_neg h3] at hp
        cases hp
theorem took_part (r : Rd) (p : AP) (h : r.part.2.err = 0) (hp : r.part.1 = some p) : Took r r.part.2 p.enc ∧ p.ok := by
  unfold Rd.part at h hp ⊢
  split at hp
  · rename_i hok
    rw [if_pos hok] at h ⊢
    rw [Bool.and_eq_true, Bool.and_eq_true] at hok
    obtain ⟨a1, a2, a3, a4⟩ := took_body _ _ _ p h hp ⟨hok.1.1, hok.1.2, hok.2⟩
    obtain ⟨b1, _⟩ := took_text _ _ a1.err
    obtain ⟨c1, _⟩ := took_text _ _ b1.err
    refine ⟨?_, a2⟩
    have := (c1.trans b1).trans a1
    unfold AP.enc
    rw [a3, a4]
    exact this
  · cases hp
theorem took_parts (r : Rd) (he : r.err = 0) : ∀ (k : Nat) (ps : List AP) (r1 : Rd), r.parts k = (some ps, r1) → r1.err = 0 → Took r r1 (ps.flatMap AP.enc) ∧ (∀ p ∈ ps, p.ok) ∧ chain ps
  | 0, ps, r1, h, _ => by
    rw [Rd.parts] at h
    injection h with h1 h2
    injection h1 with h1
    subst h1 h2
    exact ⟨⟨he, rfl, rfl⟩, (fun p hp => by cases hp), (fun k p hp => by simp at hp)⟩
  | k + 1, ps, r1, h, h0 => by
    rw [Rd.parts] at h
    generalize hz : r.parts k = z at h
    obtain ⟨o, r2⟩ := z
    cases o with
    | none => dsimp only at h; cases h
    | some qs =>
      dsimp only at h
      generalize hy : r2.part = y at h
      obtain ⟨q, r3⟩ := y
      cases q with
      | none => dsimp only at h; cases h
      | some p =>
        dsimp only at h
        split at h
        · rename_i hf
          injection h with h1 h2
          injection h1 with h1
          subst h1 h2
          have e1 : r2.part.1 = some p := by rw [hy]
          have e2 : r2.part.2 = r3 := by rw [hy]
          obtain ⟨a1, a2⟩ := took_part r2 p (by rw [e2]; exact h0) e1
          rw [e2] at a1
          obtain ⟨b1, b2, b3⟩ := took_parts r he k qs r2 hz a1.err
          refine ⟨?_, ?_, chain_snoc b3 hf⟩
          · rw [List.flatMap_append]
            simpa using b1.trans a1
          · intro x hx
            rcases List.mem_append.1 hx with hx | hx
            · exact b2 x hx
            · rw [List.mem_singleton.1 hx]; exact a2
        · cases h
theorem decA_sound {D : Bs} {ps : List AP} (h : decA D = some ps) : D = encA ps ∧ okMsg ps ∧ ps.length ≤ D.length := by
  unfold decA at h
  split at h
  · cases h
  · rename_i hn
    generalize hz : ((Rd.mk D 0 0 0).cnt D.length).2.parts ((Rd.mk D 0 0 0).cnt D.length).1 = z at h
    obtain ⟨o, r2⟩ := z
    cases o with
    | none => cases h
    | some qs =>
      dsimp only at h
      split at h
      · rename_i he
        injection h with h
        subst h
        have e0 := Rd.end_err he
        have hl := Rd.parts_len hz
        have h1 : ((Rd.mk D 0 0 0).cnt D.length).2.err = 0 := by
          by_cases h0 : ((Rd.mk D 0 0 0).cnt D.length).2.err = 0
          · exact h0
          · exfalso
            apply hn
            unfold Rd.cnt Rd.count at h0 ⊢
            rw [if_pos rfl] at h0 ⊢
            cases hd : rdNum D 0 with
            | none => rfl
            | some p =>
              rw [hd] at h0
              dsimp only at h0 ⊢
              split at h0
              · rename_i h5; rw [if_pos h5]
              · exact absurd rfl h0
        obtain ⟨c1, c2⟩ := took_cnt _ _ h1
        obtain ⟨b1, b2, b3⟩ := took_parts _ h1 _ _ _ hz e0
        have hD := (c1.trans b1).end_ he
        have hne : qs.length ≠ 0 := by rw [hl]; exact hn
        refine ⟨?_, ⟨fun e => hne (by rw [e]; rfl), b2, b3⟩, by rw [hl]; exact c2⟩
        rw [encA, if_neg hne, hl]
        exact hD
      · cases h

/-! ### Encodings are decoded -/
theorem snoc_ind {α : Type} {P : List α → Prop} (h0 : P []) (h1 : ∀ l a, P l → P (l ++ [a])) (l : List α) : P l := by
  have key : ∀ m : List α, P m.reverse := by
    intro m
    induction m with
    | nil => exact h0
    | cons a m ih => rw [List.reverse_cons]; exact h1 _ _ ih
  have := key l.reverse
  rwa [List.reverse_reverse] at this
theorem Ahead.text {r : Rd} {t rest : Bs} {most : Nat} (h : Ahead r ((num t.length ++ t) ++ rest)) (ht : t.length ≤ most) (hm : U64 t.length) : (r.text most).1 = t ∧ Ahead (r.text most).2 rest := by
  have hb := h.bytes
  rw [List.append_assoc] at hb
  have hd := rdNum_num r.D r.off t.length (t ++ rest) hb hm
  have hl := congrArg List.length hb
  rw [List.length_drop, List.length_append, List.length_append] at hl
  have e1 : r.D.drop (r.off + (num t.length).length) = t ++ rest := by rw [← List.drop_drop, hb, List.drop_left]
  unfold Rd.text
  rw [if_pos h.err, hd]
  dsimp only
  rw [if_neg (by omega), if_pos (by have := num_pos t.length; omega)]
  refine ⟨?_, h.err, ?_⟩
  · dsimp only
    rw [e1, List.take_left]
  · show r.D.drop (r.off + (num t.length).length + t.length) = rest
    rw [← List.drop_drop, e1, List.drop_left]
theorem Ahead.cnt {r : Rd} {n most : Nat} {rest : Bs} (h : Ahead r (num n ++ rest)) (hn : n ≤ most) (hu : U64 n) : (r.cnt most).1 = n ∧ Ahead (r.cnt most).2 rest := by
  have hd := rdNum_num r.D r.off n rest h.bytes hu
  unfold Rd.cnt Rd.count
  rw [if_pos h.err, hd]
  dsimp only
  rw [if_neg (by omega)]
  refine ⟨rfl, h.err, ?_⟩
  show r.D.drop (r.off + (num n).length) = rest
  rw [← List.drop_drop, h.bytes, List.drop_left]
theorem Ahead.sums {r : Rd} : ∀ (xs : List Bs) (rest : Bs), Ahead r (xs.flatten ++ rest) → all32 xs → (r.sums xs.length).1 = xs ∧ Ahead (r.sums xs.length).2 rest := by
  refine snoc_ind ?_ ?_
  · intro rest h _; exact ⟨rfl, h⟩
  · intro xs x ih rest h ha
    obtain ⟨h1, h2⟩ := ih (x ++ rest) (by simpa using h) (fun y hy => ha y (by simp [hy]))
    obtain ⟨h3, h4⟩ := h2.sum (ha x (by simp))
    rw [List.length_append, List.length_singleton]
    exact ⟨by show (r.sums xs.length).1 ++ [(r.sums xs.length).2.sum.1] = _; rw [h1, h3], h4⟩
theorem flat_len : ∀ {xs : List Bs}, all32 xs → xs.flatten.length = 32 * xs.length
  | [], _ => rfl
  | x :: xs, h => by
    rw [List.flatten_cons, List.length_append, flat_len (fun y hy => h y (by simp [hy])), h x (by simp), List.length_cons]
    omega
theorem u64_small {n : Nat} (h : n ≤ 4294967296) : U64 n := by unfold U64; omega
theorem Ahead.items {r : Rd} {xs : List Bs} {most : Nat} {rest : Bs} (h : Ahead r ((num xs.length ++ xs.flatten) ++ rest)) (ha : all32 xs) (hl : xs.length ≤ most) (hm : most ≤ 65536) : (r.items most).1 = xs ∧ Ahead (r.items most).2 rest := by
  have hb := congrArg List.length h.bytes
  rw [List.length_drop, List.length_append, List.length_append, flat_len ha] at hb
  have hq : xs.length ≤ r.most most := by
    unfold Rd.most
    exact Nat.le_min.2 ⟨hl, (Nat.le_div_iff_mul_le (by omega)).2 (by omega)⟩
  obtain ⟨h1, h2⟩ := Ahead.cnt (n := xs.length) (rest := xs.flatten ++ rest) (by rw [← List.append_assoc]; exact h) hq (u64_small (by omega))
  unfold Rd.items
  rw [h1]
  exact Ahead.sums xs rest h2 ha
theorem Ahead.part {r : Rd} {p : AP} {rest : Bs} (h : Ahead r (p.enc ++ rest)) (hp : p.ok) : r.part.1 = some p ∧ Ahead r.part.2 rest := by
  obtain ⟨⟨h1, h2, h3⟩, h4⟩ := hp
  have hl1 := bound_le h1
  have hl2 := bound_le h2
  unfold AP.enc at h
  rw [List.append_assoc, List.append_assoc] at h
  obtain ⟨a1, a2⟩ := Ahead.text h hl1 (u64_small (by omega))
  obtain ⟨b1, b2⟩ := Ahead.text a2 hl2 (u64_small (by omega))
  unfold Rd.part
  rw [a1, b1, h1, h2, h3]
  simp only [Bool.and_self, if_true]
  obtain ⟨lo, hi, c⟩ := p
  dsimp only at b2 h4 ⊢
  unfold Rd.body
  cases c with
  | sum n f =>
    unfold AC.enc at b2
    rw [List.append_assoc, List.append_assoc] at b2
    obtain ⟨c1, c2⟩ := b2.uint (u64_small (by omega))
    obtain ⟨d1, d2⟩ := c2.cnt h4.1 (u64_small (Nat.le_trans h4.1 (by omega)))
    obtain ⟨e1, e2⟩ := d2.sum h4.2
    rw [if_pos c1, d1, e1]
    exact ⟨rfl, e2⟩
  | list xs =>
    unfold AC.enc at b2
    rw [List.append_assoc] at b2
    obtain ⟨c1, c2⟩ := b2.uint (u64_small (by omega))
    obtain ⟨d1, d2⟩ := c2.items h4.2.1 h4.1 (by omega)
    rw [if_neg (by omega), if_pos c1, d1, if_pos h4.2.2]
    exact ⟨rfl, d2⟩
  | ans xs ms =>
    unfold AC.enc at b2
    rw [List.append_assoc, List.append_assoc] at b2
    obtain ⟨c1, c2⟩ := b2.uint (u64_small (by omega))
    obtain ⟨d1, d2⟩ := c2.items h4.1.2.1 h4.1.1 (by omega)
    obtain ⟨e1, e2⟩ := d2.items h4.2.2.1 h4.2.1 (by omega)
    rw [if_neg (by omega), if_neg (by omega), if_pos c1, d1, e1, if_pos (by rw [h4.1.2.2, h4.2.2.2]; rfl)]
    exact ⟨rfl, e2⟩
theorem Ahead.parts {r : Rd} : ∀ (ps : List AP) (rest : Bs), Ahead r (ps.flatMap AP.enc ++ rest) → (∀ p ∈ ps, p.ok) → chain ps → ∃ r1, r.parts ps.length = (some ps, r1) ∧ Ahead r1 rest := by
  refine snoc_ind ?_ ?_
  · intro rest h _ _; exact ⟨r, rfl, by simpa using h⟩
  · intro ps p ih rest h ha hc
    obtain ⟨r1, h1, h2⟩ := ih (p.enc ++ rest) (by simpa using h) (fun y hy => ha y (by simp [hy])) (fun k q hq => by
      have hk := (List.getElem?_eq_some_iff.1 hq).1
      have := hc k q (by rw [List.getElem?_append_left hk]; exact hq)
      rwa [List.take_append_of_le_length (by omega)] at this)
    obtain ⟨h3, h4⟩ := Ahead.part h2 (ha p (by simp))
    have hf := hc ps.length p (by simp)
    rw [List.take_left] at hf
    rw [List.length_append, List.length_singleton]
    exact ⟨r1.part.2, Rd.parts_some h1 (Prod.ext h3 rfl) hf, h4⟩
theorem decA_enc {ps : List AP} (h : okMsg ps) (hl : (encA ps).length ≤ 4294967296) : decA (encA ps) = some ps := by
  obtain ⟨h1, h2, h3⟩ := h
  have hne : ps.length ≠ 0 := fun e => h1 (List.eq_nil_of_length_eq_zero e)
  have hD : encA ps = num ps.length ++ ps.flatMap AP.enc := by rw [encA, if_neg hne]
  have hpl := enc_ge ps
  have hle : ps.length ≤ (encA ps).length := by rw [hD, List.length_append]; omega
  have h0 : Ahead (Rd.mk (encA ps) 0 0 0) (num ps.length ++ ps.flatMap AP.enc) := ⟨rfl, by show (encA ps).drop 0 = _; rw [List.drop_zero, hD]⟩
  obtain ⟨a1, a2⟩ := h0.cnt hle (u64_small (by omega))
  obtain ⟨r1, b1, b2⟩ := Ahead.parts ps [] (by simpa using a2) h2 h3
  unfold decA
  rw [a1, if_neg hne, b1]
  dsimp only
  rw [if_pos b2.end_]
end Go.Proofs.YtlepfnihpdhcaaaGreatDoor
