/- Plain laws of decoding a clock: the program's and the reference's decoding agree; what is decoded is encoded to the same bytes. -/
import Derived.Test.YtflabbdnkoejjaaDcLink
import Derived.Test.YtflabbdnkoejjaaRefDc6
namespace Go.Proofs.Ytflabbdnkoejjaa

theorem DSt.step_r (s : DSt) : s.step.r = s.r.int.2.int.2 := by
  unfold DSt.step
  split <;> rfl

theorem steps_r (s : DSt) (t : List (Int × Int)) : ∀ k, (s.steps k).r = (rsteps (s.r, t) k).1
  | 0 => rfl
  | k + 1 => by
    show (s.steps k).step.r = (rstep (rsteps (s.r, t) k)).1
    rw [DSt.step_r, steps_r s t k]
    rfl

theorem dec_r (D : List UInt8) : (decAll D).r = (rdec D).1 := by
  unfold decAll rdec
  exact steps_r _ _ _

/-- The devices of a list rise, and its last is at most b. -/
theorem tgood_snoc (l : List (Int × Int)) (x : Int × Int) : tgood (l ++ [x]) ↔ tgood l ∧ inDev x.1 = true ∧ inDay x.2 = true ∧ ∀ y, l.getLast? = some y → y.1 < x.1 := by
  have hat : ∀ k, k < l.length → (tgoodAt (l ++ [x]) k ↔ tgoodAt l k) := by
    intro k hk
    unfold tgoodAt
    rw [List.getElem?_append_left hk]
    constructor
    · intro h y hy
      obtain ⟨h1, h2, h3⟩ := h y hy
      refine ⟨h1, h2, fun j z hj hz => h3 j z hj ?_⟩
      rw [List.getElem?_append_left (by omega)]
      exact hz
    · intro h y hy
      obtain ⟨h1, h2, h3⟩ := h y hy
      refine ⟨h1, h2, fun j z hj hz => h3 j z hj ?_⟩
      rw [List.getElem?_append_left (by omega)] at hz
      exact hz
  have hlast : tgoodAt (l ++ [x]) l.length ↔ inDev x.1 = true ∧ inDay x.2 = true ∧ ∀ y, l.getLast? = some y → y.1 < x.1 := by
    unfold tgoodAt
    rw [List.getElem?_append_right (Nat.le_refl _)]
    simp only [Nat.sub_self, List.getElem?_cons_zero, Option.some.injEq, forall_eq']
    refine and_congr_right fun _ => and_congr_right fun _ => ?_
    constructor
    · intro h y hy
      cases hl : l.length with
      | zero =>
        rw [List.eq_nil_of_length_eq_zero hl] at hy
        cases hy
      | succ j =>
        refine h j y hl ?_
        rw [List.getElem?_append_left (by omega)]
        rw [List.getLast?_eq_getElem?, hl] at hy
        exact hy
    · intro h j y hj hy
      refine h y ?_
      rw [List.getElem?_append_left (by omega)] at hy
      rw [List.getLast?_eq_getElem?, hj]
      exact hy
  constructor
  · intro h
    refine ⟨fun k hk => (hat k hk).1 (h k (by simp; omega)), hlast.1 (h l.length (by simp))⟩
  · rintro ⟨h1, h2⟩ k hk
    rcases (by simp at hk; omega : k < l.length ∨ k = l.length) with h | rfl
    · exact (hat k h).2 (h1 k h)
    · exact hlast.2 h2

theorem getD_set_ne (l : List Bool) (i j : Nat) (b : Bool) (h : i ≠ j) : (l.set i b).getD j false = l.getD j false := by
  rw [List.getD_eq_getElem?_getD, List.getD_eq_getElem?_getD, List.getElem?_set_ne h]
theorem getD_set_neI (l : List Int) (i j : Nat) (b : Int) (h : i ≠ j) : (l.set i b).getD j 0 = l.getD j 0 := by
  rw [List.getD_eq_getElem?_getD, List.getD_eq_getElem?_getD, List.getElem?_set_ne h]

theorem Clk.pairs_tell (c : Clk) (h : c.Ok) (v : Nat) (hv : v < 12) (d : Int) (hup : ∀ i, v ≤ i → c.heard.getD i false = false) :
    ∀ k, k ≤ 12 → (c.tell v d).pairs k = if k ≤ v then c.pairs k else c.pairs 12 ++ [(v, d)] := by
  have hnone : ∀ k, v ≤ k → k ≤ 12 → c.pairs k = c.pairs v := by
    intro k
    induction k with
    | zero => intro hk _; rw [show v = 0 by omega]
    | succ k ih =>
      intro hk hk12
      rcases (by omega : v ≤ k ∨ v = k + 1) with h' | h'
      · rw [← ih h' (by omega)]
        unfold Clk.pairs
        rw [List.range_succ, List.filterMap_append]
        simp only [List.filterMap_cons, List.filterMap_nil]
        rw [hup k h']
        simp
      · rw [h']
  have h12 := hnone 12 (by omega) (by omega)
  intro k
  induction k with
  | zero => intro _; simp [Clk.pairs]
  | succ k ih =>
    intro hk
    have ih' := ih (by omega)
    have e : (c.tell v d).pairs (k + 1) = (c.tell v d).pairs k ++ (if (c.tell v d).heard.getD k false then [(k, (c.tell v d).told.getD k 0)] else []) := by
      unfold Clk.pairs
      rw [List.range_succ, List.filterMap_append]
      simp only [List.filterMap_cons, List.filterMap_nil]
      split <;> simp_all
    rw [e, ih']
    have hh : (c.tell v d).heard = c.heard.set v true := rfl
    have ht : (c.tell v d).told = c.told.set v d := rfl
    rw [hh, ht]
    by_cases hkv : k = v
    · subst hkv
      have g1 : (c.heard.set k true).getD k false = true := by rw [List.getD_eq_getElem?_getD, List.getElem?_set_self (by rw [h.heard]; exact hv)]; rfl
      have g2 : (c.told.set k d).getD k 0 = d := by rw [List.getD_eq_getElem?_getD, List.getElem?_set_self (by rw [h.told]; exact hv)]; rfl
      rw [g1, g2, if_pos (Nat.le_refl k), if_neg (show ¬ k + 1 ≤ k by omega), h12]
      simp
    · rw [getD_set_ne _ _ _ _ (fun e => hkv e.symm), getD_set_neI _ _ _ _ (fun e => hkv e.symm)]
      rcases (by omega : k < v ∨ v < k) with h' | h'
      · rw [if_pos (show k ≤ v by omega), if_pos (show k + 1 ≤ v by omega)]
        have e2 : c.pairs (k + 1) = c.pairs k ++ (if c.heard.getD k false then [(k, c.told.getD k 0)] else []) := by
          unfold Clk.pairs
          rw [List.range_succ, List.filterMap_append]
          simp only [List.filterMap_cons, List.filterMap_nil]
          split <;> simp_all
        rw [e2]
      · rw [if_neg (show ¬ k ≤ v by omega), if_neg (show ¬ k + 1 ≤ v by omega), hup k (by omega)]
        simp

/-- What a clock that is decoded holds where no device has told. -/
structure Clk.Norm (c : Clk) : Prop where
  told : ∀ i, c.heard.getD i false = false → c.told.getD i 0 = 0
  ref : c.read = false → c.ref = 0

/-- How the program's decoding goes along with the reference's. -/
structure Along (h : Clk) (s : DSt) (t : List (Int × Int)) : Prop where
  ok : s.c.Ok
  norm : ∀ i, s.c.heard.getD i false = false → s.c.told.getD i 0 = 0
  fields : s.c.first = h.first ∧ s.c.day = h.day ∧ s.c.leap = h.leap ∧ s.c.quorum = h.quorum ∧ s.c.own = h.own ∧ s.c.ref = h.ref ∧ s.c.read = h.read
  good : s.valid = true ↔ tgood t
  same : s.valid = true → castP (s.c.pairs 12) = t ∧ (∀ i : Nat, s.last < (i : Int) → s.c.heard.getD i false = false) ∧ (t.getLast? = none → s.last = -1) ∧ ∀ y, t.getLast? = some y → y.1 = s.last

theorem castP_append (a b : List (Nat × Int)) : castP (a ++ b) = castP a ++ castP b := by simp [castP]

theorem Along.step {h : Clk} {s : DSt} {r : Rd} {t : List (Int × Int)} (a : Along h s t) (hr : s.r = r) : Along h s.step (rstep (r, t)).2 := by
  subst hr
  have et : (rstep (s.r, t)).2 = t ++ [(s.r.int.1, s.r.int.2.int.1)] := rfl
  rw [et]
  unfold DSt.step
  by_cases hc : inDev s.r.int.1 = true ∧ inDay s.r.int.2.int.1 = true ∧ s.last < s.r.int.1
  · rw [if_pos hc]
    have hv : 0 ≤ s.r.int.1 ∧ s.r.int.1 < 12 := by simpa [inDev] using hc.1
    have hg : s.valid = true ↔ tgood (t ++ [(s.r.int.1, s.r.int.2.int.1)]) := by
      rw [tgood_snoc]
      constructor
      · intro h
        refine ⟨a.good.1 h, hc.1, hc.2.1, fun y hy => ?_⟩
        rw [(a.same h).2.2.2 y hy]
        exact hc.2.2
      · exact fun h => a.good.2 h.1
    refine ⟨a.ok.tell _ _, ?_, a.fields, hg, ?_⟩
    · intro i hi
      have hi' : (s.c.heard.set s.r.int.1.toNat true).getD i false = false := hi
      show (s.c.told.set s.r.int.1.toNat s.r.int.2.int.1).getD i 0 = 0
      have hne : s.r.int.1.toNat ≠ i := by
        rintro e
        rw [← e, List.getD_eq_getElem?_getD, List.getElem?_set_self (by rw [a.ok.heard]; omega)] at hi'
        cases hi'
      rw [getD_set_ne _ _ _ _ hne] at hi'
      rw [getD_set_neI _ _ _ _ hne]
      exact a.norm i hi'
    · intro h
      obtain ⟨h1, h2, h3, h4⟩ := a.same h
      have hup : ∀ i, s.r.int.1.toNat ≤ i → s.c.heard.getD i false = false := fun i hi => h2 i (by omega)
      refine ⟨?_, ?_, ?_, ?_⟩
      · show castP ((s.c.tell s.r.int.1.toNat s.r.int.2.int.1).pairs 12) = _
        rw [s.c.pairs_tell a.ok _ (by omega) _ hup 12 (Nat.le_refl _), if_neg (by omega), castP_append, h1]
        congr 1
        simp [castP]
        omega
      · intro i hi
        show (s.c.heard.set s.r.int.1.toNat true).getD i false = false
        have hi' : s.r.int.1 < (i : Int) := hi
        rw [getD_set_ne _ _ _ _ (by omega)]
        exact hup i (by omega)
      · intro hn
        simp at hn
      · intro y hy
        simp at hy
        rw [← hy]
  · rw [if_neg hc]
    have hng : ¬ tgood (t ++ [(s.r.int.1, s.r.int.2.int.1)]) ∨ s.valid = false := by
      cases hv : s.valid
      · exact .inr rfl
      · left
        rw [tgood_snoc]
        rintro ⟨h1, h2, h3, h4⟩
        obtain ⟨_, _, l3, l4⟩ := a.same hv
        apply hc
        refine ⟨h2, h3, ?_⟩
        cases hl : t.getLast? with
        | none =>
          rw [l3 hl]
          have : 0 ≤ s.r.int.1 := by
            have : 0 ≤ s.r.int.1 ∧ s.r.int.1 < 12 := by simpa [inDev] using h2
            exact this.1
          omega
        | some y =>
          rw [← l4 y hl]
          exact h4 y hl
    refine ⟨a.ok, a.norm, a.fields, ?_, fun h => by cases h⟩
    constructor
    · intro h; cases h
    · intro h
      exfalso
      rcases hng with h' | h'
      · exact h' h
      · have := (tgood_snoc t _).1 h
        have := a.good.2 this.1
        rw [h'] at this
        cases this

theorem Along.steps {h : Clk} {s : DSt} {t : List (Int × Int)} (a : Along h s t) : ∀ k, Along h (s.steps k) (rsteps (s.r, t) k).2
  | 0 => a
  | k + 1 => by
    have ih := Along.steps a k
    have := ih.step (steps_r s t k)
    exact this

theorem dec5_heard (r : Rd) : ∀ k, (dec5 r k).2.heard = Clk.zero.heard
  | 0 => rfl
  | k + 1 => by
    show ((dec5 r k).2.setF k (dec5 r k).1.int.1).heard = _
    have : ∀ (c : Clk) (k : Nat) (x : Int), (c.setF k x).heard = c.heard := by intro c k x; unfold Clk.setF; split <;> rfl
    rw [this, dec5_heard r k]

theorem decHead_zero (r : Rd) : (decHead r).2.told = List.replicate 12 0 ∧ (decHead r).2.heard = List.replicate 12 false := by
  unfold decHead
  simp only
  split
  · exact ⟨dec5_told r 5, dec5_heard r 5⟩
  · exact ⟨dec5_told r 5, dec5_heard r 5⟩

theorem rep_getD (i : Nat) : (List.replicate 12 false).getD i false = false := by
  rw [List.getD_eq_getElem?_getD, List.getElem?_replicate]
  split <;> rfl
theorem rep_getDI (i : Nat) : (List.replicate 12 (0 : Int)).getD i 0 = 0 := by
  rw [List.getD_eq_getElem?_getD, List.getElem?_replicate]
  split <;> rfl

theorem along0 (r : Rd) (hr : r.Ok) (n : Rd) : Along (decHead r).2 { r := n, c := (decHead r).2, valid := true, last := -1 } [] := by
  obtain ⟨h1, h2⟩ := decHead_zero r
  refine ⟨(decHead_ok hr).2, ?_, ⟨rfl, rfl, rfl, rfl, rfl, rfl, rfl⟩, ?_, ?_⟩
  · intro i _
    show (decHead r).2.told.getD i 0 = 0
    rw [h1, rep_getDI]
  · exact ⟨fun _ k hk => by simp at hk, fun _ => rfl⟩
  · intro _
    refine ⟨?_, fun i _ => by show (decHead r).2.heard.getD i false = false; rw [h2, rep_getD], fun _ => rfl, fun y hy => by cases hy⟩
    show castP ((decHead r).2.pairs 12) = []
    unfold Clk.pairs
    rw [h2]
    have : (List.range 12).filterMap (fun i => if (List.replicate 12 false).getD i false then some (i, (decHead r).2.told.getD i 0) else none) = [] := by
      rw [List.filterMap_eq_nil_iff]
      intro i _
      rw [rep_getD]
      rfl
    rw [this]
    rfl

theorem dec_along (D : List UInt8) (hD : D.length ≤ 4294967296) : Along (decHead ⟨D, 0, 0, 0⟩).2 (decAll D) (rdec D).2 := by
  unfold decAll rdec
  exact (along0 ⟨D, 0, 0, 0⟩ ⟨Nat.zero_le _, hD⟩ _).steps _

theorem decHead_fields (r : Rd) : (decHead r).2.first = (rhead r).first ∧ (decHead r).2.day = (rhead r).day ∧ (decHead r).2.leap = (rhead r).leap ∧ (decHead r).2.quorum = (rhead r).quorum ∧ (decHead r).2.own = (rhead r).own ∧ (decHead r).2.ref = (rhead r).ref ∧ (decHead r).2.read = (rhead r).has := by
  have h0 : (dec5 r 5).2.ref = 0 := rfl
  unfold decHead rhead
  simp only
  split
  · rename_i h
    rw [h]
    exact ⟨rfl, rfl, rfl, rfl, rfl, rfl, rfl⟩
  · rename_i h
    have : (dec5 r 5).1.bool.1 = false := by simpa using h
    rw [this]
    exact ⟨rfl, rfl, rfl, rfl, rfl, rfl, rfl⟩

/-- A clock that the program decodes is the one that the reference decodes. -/
theorem dec_toR (D : List UInt8) (hD : D.length ≤ 4294967296) (hv : (decAll D).valid = true) : (decAll D).c.toR = rclk D := by
  have a := dec_along D hD
  obtain ⟨f1, f2, f3, f4, f5, f6, f7⟩ := a.fields
  obtain ⟨g1, g2, g3, g4, g5, g6, g7⟩ := decHead_fields ⟨D, 0, 0, 0⟩
  have h1 := (a.same hv).1
  unfold Clk.toR rclk
  rw [f1, f2, f3, f4, f5, f6, f7, g1, g2, g3, g4, g5, g6, g7, h1]

theorem dec_norm (D : List UInt8) (hD : D.length ≤ 4294967296) : (decAll D).c.Norm := by
  have a := dec_along D hD
  obtain ⟨f1, f2, f3, f4, f5, f6, f7⟩ := a.fields
  refine ⟨a.norm, fun h => ?_⟩
  rw [f6]
  rw [f7] at h
  unfold decHead at h ⊢
  simp only at h ⊢
  split at h
  · cases h
  · rename_i hh
    rw [if_neg hh]
    rfl

theorem Clk.valid_iff (c : Clk) (h : c.Ok) (hg : tgood (castP (c.pairs 12))) : c.valid = true ↔ c.toR.Valid := by
  unfold Clk.valid
  simp only [Bool.and_eq_true, decide_eq_true_eq]
  constructor
  · rintro ⟨⟨⟨⟨h1, h2⟩, h3⟩, h4⟩, h5⟩
    have hq : 1 ≤ c.quorum := ((Clk.ranges_iff c).1 h1).2.2.2.2.1
    have e := c.rsup_eq h hq
    refine ⟨?_, h2, h3, hg, ?_, ?_⟩
    · exact h1
    · show rsup c.first c.quorum (castP (c.pairs 12)) ≤ c.day
      rw [e]; exact h4
    · show c.day - rsup c.first c.quorum (castP (c.pairs 12)) ≤ c.own
      rw [e]; exact h5
  · intro hv
    have hr : c.ranges = true := hv.ranges
    have hq : 1 ≤ c.quorum := ((Clk.ranges_iff c).1 hr).2.2.2.2.1
    have e := c.rsup_eq h hq
    refine ⟨⟨⟨⟨hr, hv.day⟩, hv.own⟩, ?_⟩, ?_⟩
    · have := hv.sup
      rw [← e]; exact this
    · have := hv.near
      rw [← e]; exact this

theorem dec_valid (D : List UInt8) (hD : D.length ≤ 4294967296) : ((decAll D).valid && (decAll D).c.valid) = true ↔ (rclk D).Valid := by
  have a := dec_along D hD
  rw [Bool.and_eq_true]
  constructor
  · rintro ⟨h1, h2⟩
    rw [← dec_toR D hD h1]
    refine ((decAll D).c.valid_iff a.ok ?_).1 h2
    rw [(a.same h1).1]
    exact a.good.1 h1
  · intro hv
    have hg : tgood (rdec D).2 := hv.told
    have h1 := a.good.2 hg
    refine ⟨h1, ((decAll D).c.valid_iff a.ok ?_).2 ?_⟩
    · rw [(a.same h1).1]; exact hg
    · rw [dec_toR D hD h1]; exact hv

end Go.Proofs.Ytflabbdnkoejjaa
