/- The program's clock and the reference's clock hold the same: plain Lean. -/
import Derived.Test.YtflabbdnkoejjaaRefDcPlain
import Derived.Test.YtflabbdnkoejjaaDcInv
import Derived.Test.YtflabbdnkoejjaaDcEncPlain
namespace Go.Proofs.Ytflabbdnkoejjaa

def castP (l : List (Nat × Int)) : List (Int × Int) := l.map fun p => ((p.1 : Int), p.2)

def Clk.toR (c : Clk) : RClk := ⟨c.first, c.day, c.leap, c.quorum, c.own, c.read, c.ref, castP (c.pairs 12)⟩

theorem rsup_le_iff (q : Int) (told : List (Int × Int)) (B : Int) : ∀ (l : List (Int × Int)) (b : Int), l.foldl (rsupStep q told) b ≤ B ↔ b ≤ B ∧ ∀ x ∈ l, q ≤ (cntGe told x.2 : Int) → x.2 ≤ B
  | [], b => by simp
  | x :: l, b => by
    rw [List.foldl_cons, rsup_le_iff q told B l]
    have h : rsupStep q told b x ≤ B ↔ b ≤ B ∧ (q ≤ (cntGe told x.2 : Int) → x.2 ≤ B) := by
      unfold rsupStep
      split
      · rename_i hh
        constructor
        · intro h; exact ⟨by omega, fun _ => h⟩
        · intro h; exact h.2 hh.1
      · rename_i hh
        constructor
        · intro h; exact ⟨h, fun hq => by omega⟩
        · exact fun h => h.1
    rw [h]
    simp only [List.mem_cons, forall_eq_or_imp]
    exact and_assoc

theorem cntGe_of_gt (told : List (Int × Int)) (B d : Int) (h : B < d) : cntGe told d ≤ told.countP fun y => decide (B < y.2) := by
  unfold cntGe
  refine List.countP_mono_left fun y _ hy => ?_
  simp at hy ⊢
  omega

/-- Among those that are greater than B there is a least. -/
theorem least_gt (told : List (Int × Int)) (B : Int) : (told.countP fun y => decide (B < y.2)) = 0 ∨ ∃ x ∈ told, B < x.2 ∧ (told.countP fun y => decide (B < y.2)) ≤ cntGe told x.2 := by
  have key : ∀ l : List (Int × Int), (∃ x ∈ l, B < x.2 ∧ ∀ y ∈ l, B < y.2 → x.2 ≤ y.2) ∨ ∀ y ∈ l, ¬ B < y.2 := by
    intro l
    induction l with
    | nil => exact .inr (by simp)
    | cons z l ih =>
      rcases ih with ⟨x, hx, hb, hm⟩ | hn
      · by_cases hz : B < z.2
        · by_cases hzx : z.2 ≤ x.2
          · refine .inl ⟨z, by simp, hz, ?_⟩
            intro y hy hyb
            rcases List.mem_cons.1 hy with rfl | hy
            · omega
            · have := hm y hy hyb; omega
          · refine .inl ⟨x, by simp [hx], hb, ?_⟩
            intro y hy hyb
            rcases List.mem_cons.1 hy with rfl | hy
            · omega
            · exact hm y hy hyb
        · refine .inl ⟨x, by simp [hx], hb, ?_⟩
          intro y hy hyb
          rcases List.mem_cons.1 hy with rfl | hy
          · exact absurd hyb hz
          · exact hm y hy hyb
      · by_cases hz : B < z.2
        · refine .inl ⟨z, by simp, hz, ?_⟩
          intro y hy hyb
          rcases List.mem_cons.1 hy with rfl | hy
          · omega
          · exact absurd hyb (hn y hy)
        · refine .inr ?_
          intro y hy
          rcases List.mem_cons.1 hy with rfl | hy
          · exact hz
          · exact hn y hy
  rcases key told with ⟨x, hx, hb, hm⟩ | hn
  · refine .inr ⟨x, hx, hb, ?_⟩
    unfold cntGe
    refine List.countP_mono_left fun y hy h => ?_
    have := hm y hy (by simpa using h)
    simpa using this
  · refine .inl ?_
    rw [List.countP_eq_zero]
    intro y hy
    have := hn y hy
    simpa using this

theorem rsup_le (first q : Int) (told : List (Int × Int)) (hq : 1 ≤ q) (B : Int) : rsup first q told ≤ B ↔ first ≤ B ∧ (told.countP fun y => decide (B < y.2)) < q.toNat := by
  unfold rsup
  rw [rsup_le_iff]
  constructor
  · rintro ⟨h1, h2⟩
    refine ⟨h1, ?_⟩
    rcases least_gt told B with h0 | ⟨x, hx, hb, hc⟩
    · omega
    · have := h2 x hx
      omega
  · rintro ⟨h1, h2⟩
    refine ⟨h1, fun x hx hqx => ?_⟩
    rcases (by omega : B < x.2 ∨ x.2 ≤ B) with h | h
    · have := cntGe_of_gt told B x.2 h
      omega
    · exact h

theorem days_pairs (c : Clk) (h : c.Ok) : ∀ k, k ≤ 12 → c.days k = (c.pairs k).map (·.2)
  | 0, _ => by simp [Clk.days, Clk.pairs]
  | k + 1, hk => by
    obtain ⟨x, hx, _⟩ := c.cell_told h k (by omega)
    obtain ⟨y, hy, _⟩ := c.cell_heard h k (by omega)
    rw [c.days_succ k x y hx hy, c.pairs_succ k x y hx hy, days_pairs c h k (by omega), List.map_append]
    cases y <;> simp

theorem Clk.above_toR (c : Clk) (h : c.Ok) (B : Int) : (c.toR.told.countP fun y => decide (B < y.2)) = c.above B := by
  unfold Clk.above
  rw [days_pairs c h 12 (by omega)]
  show (castP (c.pairs 12)).countP _ = _
  unfold castP
  rw [List.countP_map, List.countP_map]
  rfl

theorem Clk.rsup_eq (c : Clk) (h : c.Ok) (hq : 1 ≤ c.quorum) : rsup c.first c.quorum (castP (c.pairs 12)) = c.sup := by
  have h1 : ∀ B, rsup c.first c.quorum (castP (c.pairs 12)) ≤ B ↔ c.sup ≤ B := by
    intro B
    rw [rsup_le _ _ _ hq, c.sup_le hq]
    have := c.above_toR h B
    show _ ∧ List.countP _ c.toR.told < _ ↔ _
    rw [this]
  have a := (h1 c.sup).2 (Int.le_refl _)
  have b := (h1 (rsup c.first c.quorum (castP (c.pairs 12)))).1 (Int.le_refl _)
  omega

/-- One round of the reference's Hear. -/
def rhStep (v d : Int) (s : List (Int × Int) × Bool) (x : Int × Int) : List (Int × Int) × Bool :=
  let x' := if x.1 = v then (x.1, max x.2 d) else x
  let done := if x.1 = v then true else s.2
  if v < x.1 ∧ done = false then (s.1 ++ [(v, d)] ++ [x'], true) else (s.1 ++ [x'], done)

def rhTold (v d : Int) (told : List (Int × Int)) : List (Int × Int) :=
  let s := told.foldl (rhStep v d) ([], false)
  if s.2 then s.1 else s.1 ++ [(v, d)]

theorem rhTold_pairs (c : Clk) (h : c.Ok) (v : Nat) (hv : v < 12) (d : Int) : rhTold v d (castP (c.pairs 12)) = castP ((c.note v d).pairs 12) := by
  have hn := h.note v d
  have castP_append : ∀ a b, castP (a ++ b) = castP a ++ castP b := by intro a b; simp [castP]
  have key : ∀ k, k ≤ 12 → (k ≤ v ∧ (castP (c.pairs k)).foldl (rhStep v d) ([], false) = (castP (c.pairs k), false) ∧ (c.note v d).pairs k = c.pairs k) ∨
      (v < k ∧ ((castP (c.pairs k)).foldl (rhStep v d) ([], false) = (castP ((c.note v d).pairs k), true) ∨
        ((castP (c.pairs k)).foldl (rhStep v d) ([], false) = (castP (c.pairs k), false) ∧ castP ((c.note v d).pairs k) = castP (c.pairs k) ++ [((v : Int), d)]))) := by
    intro k
    induction k with
    | zero => intro _; exact .inl ⟨by omega, rfl, rfl⟩
    | succ k ih =>
      intro hk
      obtain ⟨x, hx, _⟩ := c.cell_told h k (by omega)
      obtain ⟨y, hy, _⟩ := c.cell_heard h k (by omega)
      obtain ⟨x', hx', _⟩ := (c.note v d).cell_told hn k (by omega)
      obtain ⟨y', hy', _⟩ := (c.note v d).cell_heard hn k (by omega)
      have e1 := c.pairs_succ k x y hx hy
      have e2 := (c.note v d).pairs_succ k x' y' hx' hy'
      have hsame : k ≠ v → x' = x ∧ y' = y := by
        intro hne
        unfold Clk.note at hx' hy'
        split at hx'
        · rename_i hc
          rw [if_pos hc] at hy'
          simp only [Clk.tell] at hx' hy'
          rw [List.getElem?_set_ne (by omega)] at hx' hy'
          rw [hx] at hx'
          rw [hy] at hy'
          exact ⟨(Option.some.inj hx').symm, (Option.some.inj hy').symm⟩
        · rename_i hc
          rw [if_neg hc] at hy'
          rw [hx] at hx'
          rw [hy] at hy'
          exact ⟨(Option.some.inj hx').symm, (Option.some.inj hy').symm⟩
      have hthis : k = v → y' = true ∧ x' = (if y then max x d else d) := by
        rintro rfl
        have hkt : k < c.told.length := by rw [h.told]; omega
        have hkh : k < c.heard.length := by rw [h.heard]; omega
        unfold Clk.note at hx' hy'
        unfold Clk.news at hx' hy'
        have g1 : c.heard.getD k false = y := by rw [List.getD_eq_getElem?_getD, hy]; rfl
        have g2 : c.told.getD k 0 = x := by rw [List.getD_eq_getElem?_getD, hx]; rfl
        rw [g1, g2] at hx' hy'
        split at hx'
        · rename_i hc
          rw [if_pos hc] at hy'
          simp only [Clk.tell] at hx' hy'
          rw [List.getElem?_set_self hkt] at hx'
          rw [List.getElem?_set_self hkh] at hy'
          refine ⟨(Option.some.inj hy').symm, ?_⟩
          rw [← Option.some.inj hx']
          cases y
          · rfl
          · have : x < d := by simpa using hc
            simp only [if_true]; omega
        · rename_i hc
          rw [if_neg hc] at hy'
          rw [hx] at hx'
          rw [hy] at hy'
          cases y
          · simp at hc
          · have : ¬ x < d := by simpa using hc
            refine ⟨(Option.some.inj hy').symm, ?_⟩
            rw [← Option.some.inj hx']
            simp only [if_true]; omega
      rw [e1, e2, castP_append, List.foldl_append]
      rcases ih (by omega) with ⟨hkv, s1, s2⟩ | ⟨hkv, s1 | ⟨s1, s2⟩⟩
      · by_cases hkv' : k = v
        · obtain ⟨t1, t2⟩ := hthis hkv'
          right
          refine ⟨by omega, ?_⟩
          rw [s1, t1, t2, s2]
          cases y
          · right
            subst hkv'
            simp [castP]
          · left
            subst hkv'
            simp [castP, rhStep]
        · obtain ⟨t1, t2⟩ := hsame hkv'
          left
          refine ⟨by omega, ?_, by rw [s2, t1, t2]⟩
          rw [s1]
          cases y
          · simp [castP]
          · have n1 : ¬ ((k : Int) = (v : Int)) := by omega
            have n2 : ¬ ((v : Int) < (k : Int)) := by omega
            simp [castP, rhStep, n1, n2]
      · obtain ⟨t1, t2⟩ := hsame (by omega)
        right
        refine ⟨by omega, .inl ?_⟩
        rw [s1, t1, t2, castP_append]
        cases y
        · simp [castP]
        · have n1 : ¬ ((k : Int) = (v : Int)) := by omega
          simp [castP, rhStep, n1]
      · obtain ⟨t1, t2⟩ := hsame (by omega)
        right
        refine ⟨by omega, ?_⟩
        rw [t1, t2, castP_append, s1, s2]
        cases y
        · right
          simp [castP]
        · left
          have n1 : ¬ ((k : Int) = (v : Int)) := by omega
          have n2 : v < k := by omega
          simp [castP, rhStep, n1, n2]
  unfold rhTold
  rcases key 12 (by omega) with ⟨h1, _⟩ | ⟨_, s1 | ⟨s1, s2⟩⟩
  · omega
  · rw [s1]; rfl
  · rw [s1, s2]; rfl

end Go.Proofs.Ytflabbdnkoejjaa
