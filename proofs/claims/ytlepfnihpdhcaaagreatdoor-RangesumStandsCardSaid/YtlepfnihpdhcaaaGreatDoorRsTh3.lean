/- rangesum, plain: what both sides know at the end of a run; how many bytes a run has. -/
import Derived.Test.YtlepfnihpdhcaaaGreatDoorRsTh2
namespace Go.Proofs.YtlepfnihpdhcaaaGreatDoor

/-! ### Collisions -/
def seg (l : List Bs) (i j : Nat) : List Bs := (l.take j).drop i
def collAt (a b : List Bs) (i j k : Nat) : Prop := i ≤ j ∧ j ≤ a.length ∧ k ≤ b.length ∧ k + j - i ≤ b.length ∧ seg a i j ≠ seg b k (k + j - i) ∧ fpB (seg a i j) = fpB (seg b k (k + j - i))
def collP (a b : List Bs) : Prop := ∃ i j k, collAt a b i j k
theorem inL_seg {l : List Bs} (h : Asc l) (lo hi : Bs) : ∃ i j, i ≤ j ∧ j ≤ l.length ∧ inL l lo hi = seg l i j ∧ (inL l lo hi).length = j - i := by
  have h1 := posB_le l lo
  have h2 := posB_le l hi
  have hj : max (posB l lo) (if hi = [] then l.length else posB l hi) ≤ l.length := by split <;> omega
  refine ⟨posB l lo, max (posB l lo) (if hi = [] then l.length else posB l hi), by omega, hj, (inL_part h lo hi).symm, ?_⟩
  rw [← inL_part h lo hi, List.length_drop, List.length_take, Nat.min_eq_left hj]
theorem no_coll {a b : List Bs} (ha : Asc a) (hb : Asc b) (h : ¬ collP a b) {lo hi : Bs} (hl : cnt a lo hi = cnt b lo hi) (hf : fpB (inL a lo hi) = fpB (inL b lo hi)) : inL a lo hi = inL b lo hi := by
  obtain ⟨i, j, h1, h2, h3, h4⟩ := inL_seg ha lo hi
  obtain ⟨k, n, k1, k2, k3, k4⟩ := inL_seg hb lo hi
  have hl' : (inL a lo hi).length = (inL b lo hi).length := hl
  have hn : n = k + j - i := by omega
  rw [h3, k3, hn] at hf ⊢
  apply Classical.byContradiction
  intro hne
  exact h ⟨i, j, k, h1, h2, by omega, by omega, hne, hf⟩

/-! ### What both sides know -/
structure Know (s r : List Bs) (m : List AP) (R S : List Bs × List Bs) : Prop where
  r1 : ∀ x ∈ R.1, x ∈ s ∧ x ∉ r
  r2 : ∀ x ∈ R.2, x ∈ r ∧ x ∉ s
  s1 : ∀ x ∈ S.1, x ∈ r ∧ x ∉ s
  s2 : ∀ x ∈ S.2, x ∈ s ∧ x ∉ r
  l1 : ∀ x, x ∈ S.1 ↔ x ∈ R.2 ∨ ∃ p ∈ m, ∃ xs ms, p.c = .ans xs ms ∧ x ∈ ms
  l2 : ∀ x, x ∈ S.2 ↔ x ∈ R.1 ∨ ∃ p ∈ m, ∃ xs ms, p.c = .ans xs ms ∧ x ∈ xs
def NoC (s r : List Bs) : Prop := ∀ lo hi, cnt r lo hi = cnt s lo hi → fpB (inL r lo hi) = fpB (inL s lo hi) → inL r lo hi = inL s lo hi
def Pend (s r : List Bs) (m : List AP) (S : List Bs × List Bs) : Prop := ∀ x, (x ∈ s ∧ x ∉ r ∨ x ∈ r ∧ x ∉ s) → (∃ p ∈ m, (∀ xs ms, p.c ≠ .ans xs ms) ∧ inR p.lo p.hi x = true) ∨ x ∈ S.1 ∨ x ∈ S.2
section
variable {s r : List Bs} {fan leaf : Nat} {m : List AP} {R S : List Bs × List Bs}
theorem ans_of {lo hi : Bs} {n : Nat} {f : Bs} {q : AP} (hq : q ∈ cmpA r fan leaf lo hi n f) (hr : okSet r) (hf : 2 ≤ fan) (hl : 1 ≤ leaf) : ∀ xs ms, q.c ≠ .ans xs ms := by
  intro xs ms e
  unfold cmpA at hq
  split at hq
  · cases hq
  · split at hq
    · rw [List.mem_singleton.1 hq] at e; cases e
    · have hD := divided_ok (lo := lo) (hi := hi) hr (show 0 < (inL r lo hi).length by omega) hf
      rw [(hD.part q hq).1] at e
      cases e
theorem ansA_mem {lo hi : Bs} {xs : List Bs} {x : Bs} (h : x ∈ without (inL r lo hi) xs ∨ x ∈ without xs r) : ansA r lo hi xs = [⟨lo, hi, .ans (without (inL r lo hi) xs) (without xs r)⟩] := by
  unfold ansA
  rw [if_pos]
  rcases h with h | h
  · have := List.length_pos_of_mem h; omega
  · have := List.length_pos_of_mem h; omega
theorem ans_from (hr : okSet r) (hf : 2 ≤ fan) (hl : 1 ≤ leaf) {q : AP} {xs ms : List Bs} (hq : q ∈ replyA r fan leaf m) (hc : q.c = .ans xs ms) : ∃ p ∈ m, ∃ ys, p.c = .list ys ∧ xs = without (inL r p.lo p.hi) ys ∧ ms = without ys r := by
  obtain ⟨p, h1, h2⟩ := List.mem_flatMap.1 hq
  obtain ⟨lo, hi, c⟩ := p
  cases c with
  | sum n f => exact absurd hc (ans_of (show q ∈ cmpA r fan leaf lo hi n f from h2) hr hf hl xs ms)
  | list ys =>
    have h2' : q ∈ ansA r lo hi ys := h2
    unfold ansA at h2'
    split at h2'
    · rw [List.mem_singleton.1 h2'] at hc
      injection hc with e1 e2
      exact ⟨_, h1, ys, rfl, e1.symm, e2.symm⟩
    · cases h2'
  | ans ys zs => cases h2
theorem Know.step (hr : okSet r) (hf : 2 ≤ fan) (hl : 1 ≤ leaf) (hH : Hon s r m) (h : Know s r m R S) :
    Know r s (replyA r fan leaf m) S (R.1 ++ m.flatMap (needA r), R.2 ++ m.flatMap (offA r)) := by
  have hneed : ∀ p ∈ m, ∀ x ∈ needA r p, x ∈ s ∧ x ∉ r := by
    intro p hp x hx
    have hc := hH.con p hp
    obtain ⟨lo, hi, c⟩ := p
    cases c with
    | sum n f => cases hx
    | list xs =>
      obtain rfl : xs = inL s lo hi := hc
      obtain ⟨h1, h2⟩ := mem_without.1 (show x ∈ without (inL s lo hi) r from hx)
      exact ⟨(mem_inL.1 h1).1, h2⟩
    | ans xs ms =>
      obtain ⟨h1, h2⟩ := mem_without.1 (show x ∈ without xs r from hx)
      exact ((hc.1 x).1 h1).1
  have hoff : ∀ p ∈ m, ∀ x ∈ offA r p, x ∈ r ∧ x ∉ s := by
    intro p hp x hx
    have hc := hH.con p hp
    obtain ⟨lo, hi, c⟩ := p
    cases c with
    | sum n f => cases hx
    | list xs =>
      obtain rfl : xs = inL s lo hi := hc
      obtain ⟨h1, h2⟩ := mem_without.1 (show x ∈ without (inL r lo hi) (inL s lo hi) from hx)
      obtain ⟨h3, h4⟩ := mem_inL.1 h1
      exact ⟨h3, fun h5 => h2 (mem_inL.2 ⟨h5, h4⟩)⟩
    | ans xs ms =>
      obtain ⟨h1, h2⟩ := mem_keepIn.1 (show x ∈ keepIn ms r from hx)
      exact ((hc.2 x).1 h1).1
  refine ⟨h.s1, h.s2, ?_, ?_, ?_, ?_⟩
  · intro x hx
    rcases List.mem_append.1 hx with hx | hx
    · exact h.r1 x hx
    · obtain ⟨p, hp, hx⟩ := List.mem_flatMap.1 hx
      exact hneed p hp x hx
  · intro x hx
    rcases List.mem_append.1 hx with hx | hx
    · exact h.r2 x hx
    · obtain ⟨p, hp, hx⟩ := List.mem_flatMap.1 hx
      exact hoff p hp x hx
  · intro x
    rw [List.mem_append, h.l2 x]
    constructor
    · rintro (hx | hx)
      · exact .inl (.inl hx)
      · obtain ⟨p, hp, hx⟩ := List.mem_flatMap.1 hx
        obtain ⟨lo, hi, c⟩ := p
        cases c with
        | sum n f => cases hx
        | list xs =>
          have hx' : x ∈ without xs r := hx
          refine .inr ⟨⟨lo, hi, .ans (without (inL r lo hi) xs) (without xs r)⟩, List.mem_flatMap.2 ⟨_, hp, ?_⟩, _, _, rfl, hx'⟩
          show _ ∈ ansA r lo hi xs
          rw [ansA_mem (.inr hx')]
          exact List.mem_singleton.2 rfl
        | ans xs ms =>
          have hx' : x ∈ without xs r := hx
          exact .inl (.inr ⟨_, hp, xs, ms, rfl, (mem_without.1 hx').1⟩)
    · rintro ((hx | ⟨p, hp, xs, ms, hc, hx⟩) | ⟨q, hq, xs, ms, hc, hx⟩)
      · exact .inl hx
      · refine .inr (List.mem_flatMap.2 ⟨p, hp, ?_⟩)
        have hP := hH.con p hp
        obtain ⟨lo, hi, c⟩ := p
        obtain rfl : c = .ans xs ms := hc
        exact mem_without.2 ⟨hx, ((hP.1 x).1 hx).1.2⟩
      · obtain ⟨p, hp, ys, hpc, rfl, rfl⟩ := ans_from hr hf hl hq hc
        refine .inr (List.mem_flatMap.2 ⟨p, hp, ?_⟩)
        obtain ⟨lo, hi, c⟩ := p
        obtain rfl : c = .list ys := hpc
        exact hx
  · intro x
    rw [List.mem_append, h.l1 x]
    constructor
    · rintro (hx | hx)
      · exact .inl (.inl hx)
      · obtain ⟨p, hp, hx⟩ := List.mem_flatMap.1 hx
        obtain ⟨lo, hi, c⟩ := p
        cases c with
        | sum n f => cases hx
        | list xs =>
          have hx' : x ∈ without (inL r lo hi) xs := hx
          refine .inr ⟨⟨lo, hi, .ans (without (inL r lo hi) xs) (without xs r)⟩, List.mem_flatMap.2 ⟨_, hp, ?_⟩, _, _, rfl, hx'⟩
          show _ ∈ ansA r lo hi xs
          rw [ansA_mem (.inl hx')]
          exact List.mem_singleton.2 rfl
        | ans xs ms =>
          have hx' : x ∈ keepIn ms r := hx
          exact .inl (.inr ⟨_, hp, xs, ms, rfl, (mem_keepIn.1 hx').1⟩)
    · rintro ((hx | ⟨p, hp, xs, ms, hc, hx⟩) | ⟨q, hq, xs, ms, hc, hx⟩)
      · exact .inl hx
      · refine .inr (List.mem_flatMap.2 ⟨p, hp, ?_⟩)
        have hP := hH.con p hp
        obtain ⟨lo, hi, c⟩ := p
        obtain rfl : c = .ans xs ms := hc
        exact mem_keepIn.2 ⟨hx, ((hP.2 x).1 hx).1.1⟩
      · obtain ⟨p, hp, ys, hpc, rfl, rfl⟩ := ans_from hr hf hl hq hc
        refine .inr (List.mem_flatMap.2 ⟨p, hp, ?_⟩)
        obtain ⟨lo, hi, c⟩ := p
        obtain rfl : c = .list ys := hpc
        exact hx
theorem Pend.step (hr : okSet r) (hf : 2 ≤ fan) (hl : 1 ≤ leaf) (hH : Hon s r m) (hN : NoC s r) (hK : Know s r m R S) (h : Pend s r m S) :
    Pend r s (replyA r fan leaf m) (R.1 ++ m.flatMap (needA r), R.2 ++ m.flatMap (offA r)) := by
  intro x hx
  rcases h x hx.symm with ⟨p, hp, hna, hin⟩ | hx1 | hx2
  · have hc := hH.con p hp
    obtain ⟨lo, hi, c⟩ := p
    cases c with
    | sum n f =>
      obtain ⟨e1, e2⟩ : n = cnt s lo hi ∧ f = fpB (inL s lo hi) := hc
      have hin : inR lo hi x = true := hin
      subst e1 e2
      have hsub : ∀ q ∈ cmpA r fan leaf lo hi (cnt s lo hi) (fpB (inL s lo hi)), q ∈ replyA r fan leaf m := fun q hq => List.mem_flatMap.2 ⟨_, hp, hq⟩
      unfold cmpA at hsub
      split at hsub
      · rename_i he
        have e := hN lo hi he.1 he.2
        exfalso
        have h1 : x ∈ inL r lo hi ↔ x ∈ inL s lo hi := by rw [e]
        rw [mem_inL, mem_inL] at h1
        rcases hx with ⟨a, b⟩ | ⟨a, b⟩
        · exact b (h1.1 ⟨a, hin⟩).1
        · exact b (h1.2 ⟨a, hin⟩).1
      · split at hsub
        · exact .inl ⟨_, hsub _ (List.mem_singleton.2 rfl), (fun xs ms e => by cases e), hin⟩
        · have hD := divided_ok (lo := lo) (hi := hi) hr (show 0 < (inL r lo hi).length by omega) hf
          obtain ⟨q, hq, hqi⟩ := hD.cover x hin
          refine .inl ⟨q, hsub q hq, fun xs ms e => ?_, hqi⟩
          rw [(hD.part q hq).1] at e
          cases e
    | list xs =>
      obtain rfl : xs = inL s lo hi := hc
      rcases hx with ⟨a, b⟩ | ⟨a, b⟩
      · refine .inr (.inr (List.mem_append_right _ (List.mem_flatMap.2 ⟨_, hp, ?_⟩)))
        exact mem_without.2 ⟨mem_inL.2 ⟨a, hin⟩, fun h => b (mem_inL.1 h).1⟩
      · refine .inr (.inl (List.mem_append_right _ (List.mem_flatMap.2 ⟨_, hp, ?_⟩)))
        exact mem_without.2 ⟨mem_inL.2 ⟨a, hin⟩, b⟩
    | ans xs ms => exact absurd rfl (hna xs ms)
  · refine .inr (.inr ?_)
    rcases (hK.l1 x).1 hx1 with h1 | ⟨p, hp, xs, ms, hc, h1⟩
    · exact List.mem_append_left _ h1
    · refine List.mem_append_right _ (List.mem_flatMap.2 ⟨p, hp, ?_⟩)
      have hP := hH.con p hp
      obtain ⟨lo, hi, c⟩ := p
      obtain rfl : c = .ans xs ms := hc
      exact mem_keepIn.2 ⟨h1, ((hP.2 x).1 h1).1.1⟩
  · refine .inr (.inl ?_)
    rcases (hK.l2 x).1 hx2 with h1 | ⟨p, hp, xs, ms, hc, h1⟩
    · exact List.mem_append_left _ h1
    · refine List.mem_append_right _ (List.mem_flatMap.2 ⟨p, hp, ?_⟩)
      have hP := hH.con p hp
      obtain ⟨lo, hi, c⟩ := p
      obtain rfl : c = .ans xs ms := hc
      exact mem_without.2 ⟨h1, ((hP.1 x).1 h1).1.2⟩
end

section
variable {a b : List Bs} {fan leaf : Nat}
theorem runN_step (h : Sets a b fan leaf) {j : Nat} (hj : j ≤ 30) : runN a b fan leaf ((j + 1 + 1) % 2) (j + 1) = ((runN a b fan leaf (j % 2) j).1 ++ (msgA a b fan leaf j).flatMap (needA (sideOf a b j)), (runN a b fan leaf (j % 2) j).2 ++ (msgA a b fan leaf j).flatMap (offA (sideOf a b j))) ∧ runN a b fan leaf ((j + 1) % 2) (j + 1) = runN a b fan leaf ((j + 1) % 2) j := by
  have e : (j + 1 + 1) % 2 = j % 2 := by omega
  refine ⟨?_, ?_⟩
  · rw [e, runN, if_pos rfl, (runM_enc h j hj).2]
  · rw [runN, if_neg (by omega)]
theorem know_all (h : Sets a b fan leaf) : ∀ j, j ≤ 30 → Know (sendOf a b j) (sideOf a b j) (msgA a b fan leaf j) (runN a b fan leaf (j % 2) j) (runN a b fan leaf ((j + 1) % 2) j) ∧ (¬ collP a b → Pend (sendOf a b j) (sideOf a b j) (msgA a b fan leaf j) (runN a b fan leaf ((j + 1) % 2) j))
  | 0, _ => by
    refine ⟨⟨by simp [runN], by simp [runN], by simp [runN], by simp [runN], fun x => ?_, fun x => ?_⟩, fun _ x hx => ?_⟩
    · simp [runN, msgA, sumA]
    · simp [runN, msgA, sumA]
    · exact .inl ⟨sumA a [] [], by simp [msgA], (fun xs ms e => by cases e), inR_iff.2 ⟨nil_le x, .inl rfl⟩⟩
  | j + 1, hj => by
    obtain ⟨k1, k2⟩ := know_all h j (by omega)
    have hH := (msg_inv h j).hon
    have hr := (h.side j).1.1
    obtain ⟨e1, e2⟩ := runN_step h (j := j) (by omega)
    have em : msgA a b fan leaf (j + 1) = replyA (sideOf a b j) fan leaf (msgA a b fan leaf j) := rfl
    rw [send_succ, side_succ, e1, e2, em]
    refine ⟨k1.step hr h.hf h.hl hH, fun hc => Pend.step hr h.hf h.hl hH ?_ k1 (k2 hc)⟩
    intro lo hi hcn hfp
    by_cases hpar : j % 2 = 0
    · have e1 : sideOf a b j = b := if_pos hpar
      have e2 : sendOf a b j = a := if_pos hpar
      rw [e1, e2] at hcn hfp ⊢
      exact (no_coll h.ha.2 h.hb.2 hc hcn.symm hfp.symm).symm
    · have e1 : sideOf a b j = a := if_neg hpar
      have e2 : sendOf a b j = b := if_neg hpar
      rw [e1, e2] at hcn hfp ⊢
      exact no_coll h.ha.2 h.hb.2 hc hcn hfp
/-- The end of a run. -/
theorem know_end (h : Sets a b fan leaf) {K : Nat} (hK : K ≤ 30) (hm : msgA a b fan leaf K = []) :
    (∀ x, x ∈ (runN a b fan leaf 1 K).1 ↔ x ∈ (runN a b fan leaf 0 K).2) ∧ (∀ x, x ∈ (runN a b fan leaf 1 K).2 ↔ x ∈ (runN a b fan leaf 0 K).1) ∧
    (∀ x ∈ (runN a b fan leaf 1 K).1, x ∈ b ∧ x ∉ a) ∧ (∀ x ∈ (runN a b fan leaf 1 K).2, x ∈ a ∧ x ∉ b) ∧
    (¬ collP a b → (∀ x, x ∈ b → x ∉ a → x ∈ (runN a b fan leaf 1 K).1) ∧ ∀ x, x ∈ a → x ∉ b → x ∈ (runN a b fan leaf 1 K).2) := by
  obtain ⟨k1, k2⟩ := know_all h K hK
  rw [hm] at k1 k2
  have l1 : ∀ x, x ∈ (runN a b fan leaf ((K + 1) % 2) K).1 ↔ x ∈ (runN a b fan leaf (K % 2) K).2 := fun x => by rw [k1.l1 x]; simp
  have l2 : ∀ x, x ∈ (runN a b fan leaf ((K + 1) % 2) K).2 ↔ x ∈ (runN a b fan leaf (K % 2) K).1 := fun x => by rw [k1.l2 x]; simp
  have hp : ¬ collP a b → ∀ x, (x ∈ sendOf a b K ∧ x ∉ sideOf a b K ∨ x ∈ sideOf a b K ∧ x ∉ sendOf a b K) → x ∈ (runN a b fan leaf ((K + 1) % 2) K).1 ∨ x ∈ (runN a b fan leaf ((K + 1) % 2) K).2 := fun hc x hx => by
    rcases k2 hc x hx with ⟨p, hp, _⟩ | h
    · cases hp
    · exact h
  have r1 := k1.r1
  have r2 := k1.r2
  have s1 := k1.s1
  have s2 := k1.s2
  unfold sendOf sideOf at *
  by_cases hpar : K % 2 = 0
  · have e : (K + 1) % 2 = 1 := by omega
    rw [e, hpar] at l1 l2
    rw [e] at s1 s2 hp
    simp only [if_pos hpar] at s1 s2 hp
    refine ⟨l1, l2, s1, s2, fun hc => ⟨fun x h1 h2 => ?_, fun x h1 h2 => ?_⟩⟩
    · rcases hp hc x (.inr ⟨h1, h2⟩) with h3 | h3
      · exact h3
      · exact absurd (s2 x h3).1 h2
    · rcases hp hc x (.inl ⟨h1, h2⟩) with h3 | h3
      · exact absurd (s1 x h3).1 h2
      · exact h3
  · have e : (K + 1) % 2 = 0 := by omega
    have e1 : K % 2 = 1 := by omega
    rw [e, e1] at l1 l2
    rw [e1] at r1 r2
    rw [e] at hp
    simp only [if_neg hpar] at r1 r2 hp
    refine ⟨fun x => (l2 x).symm, fun x => (l1 x).symm, r1, r2, fun hc => ⟨fun x h1 h2 => ?_, fun x h1 h2 => ?_⟩⟩
    · rcases hp hc x (.inl ⟨h1, h2⟩) with h3 | h3
      · exact absurd (r2 x ((l1 x).1 h3)).1 h2
      · exact (l2 x).1 h3
    · rcases hp hc x (.inr ⟨h1, h2⟩) with h3 | h3
      · exact (l1 x).1 h3
      · exact absurd (r1 x ((l2 x).1 h3)).1 h2
theorem asc_without {l : List Bs} (h : Asc l) (m : List Bs) : Asc (without l m) := h.sublist List.filter_sublist
/-- BOTH SIDES LEARN THE DIFFERENCE. -/
theorem run_exact (h : Sets a b fan leaf) {K : Nat} (hK : K ≤ 30) (hm : msgA a b fan leaf K = []) (hc : ¬ collP a b) : withL [] (runN a b fan leaf 1 K).2 = without a b ∧ withL [] (runN a b fan leaf 1 K).1 = without b a := by
  obtain ⟨_, _, s1, s2, hp⟩ := know_end h hK hm
  obtain ⟨p1, p2⟩ := hp hc
  refine ⟨asc_ext (withL_asc0 _) (asc_without h.ha.2 _) fun x => ?_, asc_ext (withL_asc0 _) (asc_without h.hb.2 _) fun x => ?_⟩
  · rw [mem_withL0, mem_without]
    exact ⟨s2 x, fun hx => p2 x hx.1 hx.2⟩
  · rw [mem_withL0, mem_without]
    exact ⟨s1 x, fun hx => p1 x hx.1 hx.2⟩
/-- What one side needs the other one offers. -/
theorem run_both (h : Sets a b fan leaf) {K : Nat} (hK : K ≤ 30) (hm : msgA a b fan leaf K = []) : withL [] (runN a b fan leaf 0 K).1 = withL [] (runN a b fan leaf 1 K).2 ∧ withL [] (runN a b fan leaf 0 K).2 = withL [] (runN a b fan leaf 1 K).1 := by
  obtain ⟨l1, l2, _⟩ := know_end h hK hm
  refine ⟨asc_ext (withL_asc0 _) (withL_asc0 _) fun x => ?_, asc_ext (withL_asc0 _) (withL_asc0 _) fun x => ?_⟩
  · rw [mem_withL0, mem_withL0]; exact (l2 x).symm
  · rw [mem_withL0, mem_withL0]; exact (l1 x).symm
theorem nodup_sub_len {α : Type} [DecidableEq α] : ∀ {l m : List α}, l.Nodup → (∀ x ∈ l, x ∈ m) → l.length ≤ m.length
  | [], _, _, _ => Nat.zero_le _
  | x :: l, m, h, hs => by
    obtain ⟨h1, h2⟩ := List.nodup_cons.1 h
    have hx := hs x List.mem_cons_self
    have ih := nodup_sub_len (m := m.erase x) h2 fun y hy => (List.mem_erase_of_ne (fun e => h1 (by rw [← e]; exact hy))).2 (hs y (List.mem_cons_of_mem _ hy))
    rw [List.length_erase_of_mem hx] at ih
    have := List.length_pos_of_mem hx
    rw [List.length_cons]
    omega
theorem asc_sub_len {l m : List Bs} (h : Asc l) (hs : ∀ x ∈ l, x ∈ m) : l.length ≤ m.length := nodup_sub_len (h.imp fun {x y} h e => by subst e; exact b_lt_irrefl h) hs
theorem run_small (h : Sets a b fan leaf) {K : Nat} (hK : K ≤ 30) (hm : msgA a b fan leaf K = []) : (withL [] (runN a b fan leaf 1 K).2).length ≤ 40 ∧ (withL [] (runN a b fan leaf 1 K).1).length ≤ 40 := by
  obtain ⟨_, _, s1, s2, _⟩ := know_end h hK hm
  exact ⟨Nat.le_trans (asc_sub_len (withL_asc0 _) fun x hx => (s2 x (mem_withL0.1 hx)).1) h.ha4, Nat.le_trans (asc_sub_len (withL_asc0 _) fun x hx => (s1 x (mem_withL0.1 hx)).1) h.hb4⟩
end
end Go.Proofs.YtlepfnihpdhcaaaGreatDoor
