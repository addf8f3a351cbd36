/- Plain laws for DayclockRuns: the program's clock and the reference's go along. -/
import Derived.Test.YtflabbdnkoejjaaDcBytes
import Derived.Test.YtflabbdnkoejjaaDcRun
import Derived.Test.YtflabbdnkoejjaaRefDc5
namespace Go.Proofs.Ytflabbdnkoejjaa

theorem Clk.Norm.rd {c : Clk} (h : c.Norm) (wall : Int) : (c.rd wall).Norm := ⟨h.told, fun hh => by cases hh⟩

theorem Clk.Norm.note {c : Clk} (h : c.Norm) (hk : c.Ok) (k : Nat) (hk12 : k < 12) (d : Int) : (c.note k d).Norm := by
  unfold Clk.note
  split
  · refine ⟨?_, h.ref⟩
    intro i hi
    have hi' : (c.heard.set k true).getD i false = false := hi
    show (c.told.set k d).getD i 0 = 0
    have hne : k ≠ i := by
      rintro rfl
      rw [List.getD_eq_getElem?_getD, List.getElem?_set_self (by rw [hk.heard]; exact hk12)] at hi'
      cases hi'
    rw [getD_set_ne _ _ _ _ hne] at hi'
    rw [getD_set_neI _ _ _ _ hne]
    exact h.told i hi'
  · exact h

theorem Clk.Norm.raise {c : Clk} (h : c.Norm) : c.raise.Norm := by
  unfold Clk.raise
  split
  · exact ⟨h.told, h.ref⟩
  · exact h

theorem Clk.Norm.hear {c : Clk} (h : c.Norm) (hk : c.Ok) (k : Nat) (hk12 : k < 12) (d : Int) : (c.hear k d).Norm := (h.note hk k hk12 d).raise

theorem Clk.new_norm (d l q : Int) : (Clk.new d l q).Norm := ⟨fun i _ => rep_getDI i, fun _ => rfl⟩

theorem Clk.rd_toR {c : Clk} {m : Int} (h : c.Inv m) (hm : m ≤ 1000000000000) (wall : Int) : (c.rd wall).toR = c.toR.rd wall := by
  obtain ⟨b0, b1, b2⟩ := Clk.step_bounds h wall
  have a4 := h.o1
  have es : c.toR.step wall = c.step wall := rfl
  have ho : min c.own (9223372036854775807 - c.step wall) + c.step wall = c.own + c.step wall := by omega
  unfold RClk.rd
  rw [es]
  unfold Clk.rd Clk.toR
  simp only [ho]
  rfl

theorem Clk.hear_toR {c : Clk} (h : c.Ok) (hq : 1 ≤ c.quorum) (k : Nat) (hk : k < 12) (d : Int) : (c.hear k d).toR = c.toR.hear (k : Int) d := by
  have hn := h.note k d
  obtain ⟨e1, e2, e3, e4, e5, e6, e7⟩ := c.note_fields k d
  have ht : rhTold (k : Int) d c.toR.told = castP ((c.note k d).pairs 12) := rhTold_pairs c h k hk d
  have es : rsup c.toR.first c.toR.quorum (castP ((c.note k d).pairs 12)) = (c.note k d).sup := by
    have := (c.note k d).rsup_eq hn (by rw [e4]; exact hq)
    rw [e1, e4] at this
    exact this
  unfold RClk.hear
  rw [ht, es]
  unfold Clk.hear Clk.raise
  have ed : c.toR.day = c.day := rfl
  rw [ed, ← e2]
  by_cases hlt : (c.note k d).day < (c.note k d).sup
  · rw [if_pos hlt, if_pos hlt]
    unfold Clk.toR
    simp only [e1, e3, e4, e6, e7]
    rfl
  · rw [if_neg hlt, if_neg hlt]
    unfold Clk.toR
    simp only [e1, e2, e3, e4, e5, e6, e7]

theorem Clk.Inv.fits {c : Clk} {m : Int} (h : c.Inv m) (hm : m ≤ 1000000000000) : c.Fits := by
  have := h.d0
  have := h.d1
  have := h.f0
  have := h.f1
  have := h.l0
  have := h.l1
  have := h.q0
  have := h.q1
  have := h.o0
  have := h.o1
  refine ⟨h.ok, ?_, ?_, ?_, ?_, ?_, ⟨h.r0, h.r1⟩, fun x hx => ?_⟩
  · unfold Fit64; omega
  · unfold Fit64; omega
  · unfold Fit64; omega
  · unfold Fit64; omega
  · unfold Fit64; omega
  · have := h.t0 x hx
    unfold Fit64; omega

theorem Clk.told_len (c : Clk) : c.toR.told.length ≤ 12 := by
  show (castP (c.pairs 12)).length ≤ 12
  unfold castP
  rw [List.length_map]
  exact c.pairs_le 12

theorem Clk.Fits.toldR {c : Clk} (h : c.Fits) : ∀ p ∈ c.toR.told, Fit64 p.1 ∧ Fit64 p.2 := by
  intro p hp
  have hp' : p ∈ castP (c.pairs 12) := hp
  obtain ⟨q, hq, rfl⟩ := List.mem_map.1 hp'
  obtain ⟨h1, h2⟩ := h.pair 12 q hq
  exact ⟨by unfold Fit64; simp only; omega, h2⟩

theorem Clk.Fits.toR {c : Clk} (h : c.Fits) (hn : c.Norm) : c.toR.Fits := ⟨h.first, h.day, h.leap, h.quorum, h.own, h.ref, h.toldR, c.told_len, hn.ref⟩

theorem Clk.Fits.vals {c : Clk} (h : c.Fits) : ∀ v ∈ c.toR.vals, v.Ok := by
  have hi : ∀ n, Fit64 n → (wvI n).Ok := fun n hn => ⟨.inl rfl, fun _ => hn, (fun hh => by cases hh)⟩
  intro v hv
  unfold RClk.vals at hv
  simp only [List.mem_append] at hv
  rcases hv with ((hv | hv) | hv) | hv
  · simp only [RClk.head, List.mem_cons, List.not_mem_nil, or_false] at hv
    rcases hv with rfl | rfl | rfl | rfl | rfl | rfl
    · exact hi _ h.first
    · exact hi _ h.day
    · exact hi _ h.leap
    · exact hi _ h.quorum
    · exact hi _ h.own
    · exact ⟨.inr (.inl rfl), (fun hh => by cases hh), fun hh => by cases hh⟩
  · split at hv
    · simp only [List.mem_cons, List.not_mem_nil, or_false] at hv
      subst hv
      exact hi _ h.ref
    · cases hv
  · simp only [List.mem_cons, List.not_mem_nil, or_false] at hv
    subst hv
    have := c.told_len
    exact ⟨.inr (.inr rfl), (fun hh => by cases hh), fun _ => by simp only; omega⟩
  · unfold toldV at hv
    obtain ⟨p, hp, hv⟩ := List.mem_flatMap.1 hv
    obtain ⟨f1, f2⟩ := h.toldR p hp
    simp only [List.mem_cons, List.not_mem_nil, or_false] at hv
    rcases hv with rfl | rfl
    · exact hi _ f1
    · exact hi _ f2

/-- The told days of a clock are good. -/
theorem Clk.tgood (c : Clk) (ht : ∀ x ∈ c.told, 0 ≤ x ∧ x ≤ 999999) : ∀ k, k ≤ 12 → tgood (castP (c.pairs k)) ∧ ∀ y, (castP (c.pairs k)).getLast? = some y → y.1 < (k : Int)
  | 0, _ => ⟨fun i hi => by simp [Clk.pairs, castP] at hi, fun y hy => by simp [Clk.pairs, castP] at hy⟩
  | k + 1, hk => by
    obtain ⟨h1, h2⟩ := Clk.tgood c ht k (by omega)
    have e : c.pairs (k + 1) = c.pairs k ++ (if c.heard.getD k false then [(k, c.told.getD k 0)] else []) := by
      unfold Clk.pairs
      rw [List.range_succ, List.filterMap_append]
      simp only [List.filterMap_cons, List.filterMap_nil]
      split <;> simp_all
    rw [e, castP_append]
    cases hh : c.heard.getD k false
    · simp only [Bool.false_eq_true, if_false]
      rw [show castP [] = [] from rfl, List.append_nil]
      exact ⟨h1, fun y hy => by have := h2 y hy; omega⟩
    · simp only [if_true]
      have hd : 0 ≤ c.told.getD k 0 ∧ c.told.getD k 0 ≤ 999999 := by
        rw [List.getD_eq_getElem?_getD]
        cases hg : c.told[k]? with
        | none => simp
        | some x => exact ht x (List.mem_of_getElem? hg)
      have e2 : castP [(k, c.told.getD k 0)] = [((k : Int), c.told.getD k 0)] := rfl
      rw [e2]
      refine ⟨(tgood_snoc _ _).2 ⟨h1, ?_, ?_, fun y hy => h2 y hy⟩, ?_⟩
      · simp only [inDev, Bool.and_eq_true, decide_eq_true_eq]; omega
      · simp only [inDay, Bool.and_eq_true, decide_eq_true_eq]; exact hd
      · intro y hy
        simp at hy
        rw [← hy]
        simp only
        omega

/-- The encoding of a clock is decoded to this clock. -/
theorem Clk.dec_enc {c : Clk} {m : Int} (h : c.Inv m) (hm : m ≤ 1000000000000) (hn : c.Norm) (hl : c.enc.length ≤ 4294967296) : decErr c.enc = 0 ∧ (decAll c.enc).c = c := by
  have hf := (h.fits hm).toR hn
  obtain ⟨h1, h2⟩ := enc_dec c.toR hf
  rw [← Clk.enc_toR] at h1 h2
  have hv : c.valid = true := by
    unfold Clk.valid
    simp only [Bool.and_eq_true, decide_eq_true_eq]
    have a1 := h.d0
    have a2 := h.d1
    have a3 := h.s1
    have hr : c.ranges = true := (Clk.ranges_iff c).2 ⟨h.f0, h.f1, h.l0, h.l1, h.q0, h.q1⟩
    exact ⟨⟨⟨⟨hr, by simp only [inDay, Bool.and_eq_true, decide_eq_true_eq]; omega⟩, h.o0⟩, h.s0⟩, by omega⟩
  have hV := (c.valid_iff h.ok (Clk.tgood c h.t0 12 (Nat.le_refl _)).1).1 hv
  rw [← h1] at hV
  have hval := (dec_valid c.enc hl).2 hV
  refine ⟨?_, ?_⟩
  · unfold decErr
    rw [dec_r, if_neg (fun hh => hh h2), if_pos hval]
  · have hvb : (decAll c.enc).valid = true := by
      rw [Bool.and_eq_true] at hval
      exact hval.1
    refine Clk.toR_inj _ _ (dec_along c.enc hl).ok h.ok (dec_norm c.enc hl) hn ?_
    rw [dec_toR c.enc hl hvb, h1]

theorem Clk.enc_len {c : Clk} (h : c.Fits) : c.enc.length ≤ 1000 := by
  rw [Clk.enc_toR, ← RClk.encV_vals]
  have h1 := encV_len c.toR.vals h.vals
  have h2 : c.toR.vals.length ≤ 40 := by
    have hl := c.told_len
    have : (toldV c.toR.told).length = 2 * c.toR.told.length := by
      generalize c.toR.told = l
      induction l with
      | nil => rfl
      | cons x l ih =>
        have e : toldV (x :: l) = [wvI x.1, wvI x.2] ++ toldV l := rfl
        rw [e, List.length_append, ih, List.length_cons]
        simp
        omega
    unfold RClk.vals
    simp only [List.length_append, List.length_cons, List.length_nil, this]
    have : (if c.toR.has = true then [wvI c.toR.ref] else []).length ≤ 1 := by split <;> simp
    simp [RClk.head]
    omega
  omega

end Go.Proofs.Ytflabbdnkoejjaa
