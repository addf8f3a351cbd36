/- Contract of the clock's Hear: it notes the greatest day that a device has told, and raises the day to the supported day. -/
import Derived.Test.YtflabbdnkoejjaaDcWalk3
namespace Go.Proofs.Ytflabbdnkoejjaa
open Go.RowKit

def Clk.tell (c : Clk) (k : Nat) (d : Int) : Clk := { c with told := c.told.set k d, heard := c.heard.set k true }
/-- Is this day news? -/
def Clk.news (c : Clk) (k : Nat) (d : Int) : Bool := !(c.heard.getD k false) || decide (c.told.getD k 0 < d)
def Clk.note (c : Clk) (k : Nat) (d : Int) : Clk := if c.news k d then c.tell k d else c
def Clk.raise (c : Clk) : Clk := if c.day < c.sup then { c with day := c.sup, own := 0 } else c
def Clk.hear (c : Clk) (k : Nat) (d : Int) : Clk := (c.note k d).raise

theorem Clk.Ok.tell {c : Clk} (h : c.Ok) (k : Nat) (d : Int) : (c.tell k d).Ok := ⟨by simp [Clk.tell, h.told], by simp [Clk.tell, h.heard]⟩
theorem Clk.Ok.note {c : Clk} (h : c.Ok) (k : Nat) (d : Int) : (c.note k d).Ok := by
  unfold Clk.note
  split
  · exact h.tell k d
  · exact h

theorem Clk.cells_heard (c : Clk) (h : c.Ok) (k : Nat) : c.cells.set (19 + k) (Value.bool true) = ({ c with heard := c.heard.set k true } : Clk).cells := by
  rw [show 19 + k = (12 + k) + 7 by omega]
  simp only [Clk.cells, Clk.tail, List.set_cons_succ, List.set_append, List.length_map, h.told]
  rw [if_neg (by omega), show 12 + k - 12 = k by omega, List.map_set]

theorem Clk.cells_tell (c : Clk) (h : c.Ok) (k : Nat) (hk : k < 12) (d : Int) : (c.cells.set (19 + k) (Value.bool true)).set (7 + k) (Value.int .i64 d) = (c.tell k d).cells := by
  have e1 : c.cells.set (19 + k) (Value.bool true) = ({ c with heard := c.heard.set k true } : Clk).cells := by
    rw [show 19 + k = (12 + k) + 7 by omega]
    simp only [Clk.cells, Clk.tail, List.set_cons_succ, List.set_append, List.length_map, h.told]
    rw [if_neg (by omega), show 12 + k - 12 = k by omega, List.map_set]
  rw [e1, show 7 + k = k + 7 by omega]
  simp only [Clk.cells, Clk.tail, List.set_cons_succ, List.set_append, List.length_map, h.told, Clk.tell]
  rw [if_pos hk]
  simp only [List.map_set]

theorem Clk.raise_yes {c : Clk} (h : c.day < c.sup) : c.raise.day = c.sup := by unfold Clk.raise; rw [if_pos h]
theorem Clk.raise_no {c : Clk} (h : c.sup ≤ c.day) : c.raise.day = c.day := by unfold Clk.raise; rw [if_neg (by omega)]

theorem hear_bad (b : Nat) (v d : Int) (w : World) (h : (inDev v && inDay d) = false) :
    Calls Try.prog 17 #[Value.pointer (some ⟨b, 0, none⟩), Value.int .i64 v, Value.int .i64 d] w fun e w' => e = .returned (.tuple #[Value.int .i64 0, Value.int .i64 1]) ∧ w = w' := by
  by_cases hv : inDev v = true
  · have hd : inDay d = false := by simpa [hv] using h
    clear h
    have HV := Lib.hid (And.intro hv hd)
    clear hv hd
    go_enter Try.func17, Try.ntmps17
    go_wp2_with (first
      | (go_at_call 28; refine (validDevice_any _ _).mono ?_; rintro e w' ⟨rfl, rfl⟩; rw [HV.out.1])
      | (go_at_call 29; refine (validDay_any _ _).mono ?_; rintro e w' ⟨rfl, rfl⟩; rw [HV.out.2]))
    go_ret2
    exact ⟨rfl, rfl⟩
  · have hv' : inDev v = false := by simpa using hv
    clear h hv
    have HV := Lib.hid hv'
    clear hv'
    go_enter Try.func17, Try.ntmps17
    go_wp2_with (go_at_call 28; refine (validDevice_any _ _).mono ?_; rintro e w' ⟨rfl, rfl⟩; rw [HV.out])
    go_ret2
    exact ⟨rfl, rfl⟩

theorem hear_fin (b : Nat) (c : Clk) (w w1 w2 : World) (hf1 : Fr [b] w w1) (hf : Fr [] w1 w2) (hc : At w1 b 57 c.cells) :
    (c.day < c.sup → Fr [b] w ((w2.setCell ⟨b, 1, none⟩ (Value.int .i64 c.sup)).setCell ⟨b, 4, none⟩ (Value.int .i64 0)) ∧ At ((w2.setCell ⟨b, 1, none⟩ (Value.int .i64 c.sup)).setCell ⟨b, 4, none⟩ (Value.int .i64 0)) b 57 c.raise.cells) ∧
    (c.sup ≤ c.day → Fr [b] w w2 ∧ At w2 b 57 c.raise.cells) := by
  have h2 := hc.fr hf (by simp)
  have f2 := hf1.then0 hf
  constructor
  · intro h
    refine ⟨(f2.setCell (.inl (by simp)) _).setCell (.inl (by simp)) _, ?_⟩
    have := (h2.set 1 (Value.int .i64 c.sup)).set 4 (Value.int .i64 0)
    rw [Clk.set1, Clk.set4] at this
    unfold Clk.raise
    rwa [if_pos h]
  · intro h
    refine ⟨f2, ?_⟩
    unfold Clk.raise
    rwa [if_neg (by omega)]

set_option maxHeartbeats 2000000 in
theorem hear_any (b : Nat) (c : Clk) (k : Nat) (d : Int) (w : World) (hc : At w b 57 c.cells) (hk : c.Ok) (hq0 : 1 ≤ c.quorum) (hq1 : c.quorum ≤ 12) (hk12 : k < 12) (hd : inDay d = true) :
    Calls Try.prog 17 #[Value.pointer (some ⟨b, 0, none⟩), Value.int .i64 (k : Int), Value.int .i64 d] w fun e w' => e = .returned (.tuple #[Value.int .i64 (c.hear k d).day, Value.int .i64 0]) ∧ Fr [b] w w' ∧ At w' b 57 (c.hear k d).cells := by
  obtain ⟨x, hx, hx'⟩ := c.cell_told hk k hk12
  obtain ⟨y, hy, hy'⟩ := c.cell_heard hk k hk12
  have hcx : w.cell? ⟨b, 7 + k, none⟩ = some (Value.int .i64 x) := by rw [hc.cell, hx']
  have hcy : w.cell? ⟨b, 19 + k, none⟩ = some (Value.bool y) := by rw [hc.cell, hy']
  have hz := fun i => hc.frozen i
  have hv : inDev (k : Int) = true := by simp [inDev]; omega
  have hnw : c.news k d = (!y || decide (x < d)) := by simp [Clk.news, hx, hy]
  have HV := Lib.hid (And.intro hv hd)
  have HC := Lib.hid hc
  have HK := Lib.hid hk
  clear hc hk hx hx' hy hy' hv hd
  have HT : Hid (c.news k d = true → Fr [b] w ((w.setCell ⟨b, 19 + k, none⟩ (Value.bool true)).setCell ⟨b, 7 + k, none⟩ (Value.int .i64 d)) ∧ At ((w.setCell ⟨b, 19 + k, none⟩ (Value.bool true)).setCell ⟨b, 7 + k, none⟩ (Value.int .i64 d)) b 57 (c.note k d).cells) := by
    intro h
    refine ⟨((Fr.refl _ _).setCell (.inl (by simp)) _).setCell (.inl (by simp)) _, ?_⟩
    have := (HC.out.set (19 + k) (Value.bool true)).set (7 + k) (Value.int .i64 d)
    rw [Clk.cells_tell c HK.out k hk12] at this
    unfold Clk.note
    rwa [if_pos h]
  have hqn : (c.note k d).quorum = c.quorum := by unfold Clk.note; split <;> rfl
  have HQ := Lib.hid hqn
  have HN := Lib.hid hnw
  clear hnw hqn
  cases hyy : y
  · subst hyy
    have hn : c.news k d = true := by rw [HN.out]; rfl
    have H1 := Lib.hid (HT.out hn)
    clear hn
    go_enter Try.func17, Try.ntmps17
    go_wp2_with (first
      | (go_at_call 28; refine (validDevice_any _ _).mono ?_; rintro e w' ⟨rfl, rfl⟩; rw [HV.out.1])
      | (go_at_call 29; refine (validDay_any _ _).mono ?_; rintro e w' ⟨rfl, rfl⟩; rw [HV.out.2]))
    refine (supported_any b (c.note k d) _ H1.out.2 (HK.out.note k d) (by rw [HQ.out]; omega) (by rw [HQ.out]; omega)).mono ?_
    rintro e w2 ⟨rfl, hf2⟩
    have hF := hear_fin b (c.note k d) w _ w2 H1.out.1 hf2 H1.out.2
    have h2 := H1.out.2.fr hf2 (by simp)
    have c1 : w2.cell? ⟨b, 1, none⟩ = some (Value.int .i64 (c.note k d).day) := by rw [h2.cell]; rfl
    have c4 : w2.cell? ⟨b, 4, none⟩ = some (Value.int .i64 (c.note k d).own) := by rw [h2.cell]; rfl
    have z2 := fun i => h2.frozen i
    have HF := Lib.hid hF
    clear hF h2 hf2
    by_cases hs : (c.note k d).day < (c.note k d).sup
    · go_wp2_with fail
      go_ret2
      exact ⟨ret_pair (Clk.raise_yes hs), HF.out.1 hs⟩
    · replace hs := Int.not_lt.1 hs
      go_wp2_with fail
      go_ret2
      exact ⟨ret_pair (Clk.raise_no hs), HF.out.2 hs⟩
  · subst hyy
    by_cases hxd : x < d
    · have hn : c.news k d = true := by rw [HN.out]; simpa using hxd
      have H1 := Lib.hid (HT.out hn)
      clear hn
      go_enter Try.func17, Try.ntmps17
      go_wp2_with (first
        | (go_at_call 28; refine (validDevice_any _ _).mono ?_; rintro e w' ⟨rfl, rfl⟩; rw [HV.out.1])
        | (go_at_call 29; refine (validDay_any _ _).mono ?_; rintro e w' ⟨rfl, rfl⟩; rw [HV.out.2]))
      refine (supported_any b (c.note k d) _ H1.out.2 (HK.out.note k d) (by rw [HQ.out]; omega) (by rw [HQ.out]; omega)).mono ?_
      rintro e w2 ⟨rfl, hf2⟩
      have hF := hear_fin b (c.note k d) w _ w2 H1.out.1 hf2 H1.out.2
      have h2 := H1.out.2.fr hf2 (by simp)
      have c1 : w2.cell? ⟨b, 1, none⟩ = some (Value.int .i64 (c.note k d).day) := by rw [h2.cell]; rfl
      have c4 : w2.cell? ⟨b, 4, none⟩ = some (Value.int .i64 (c.note k d).own) := by rw [h2.cell]; rfl
      have z2 := fun i => h2.frozen i
      have HF := Lib.hid hF
      clear hF h2 hf2
      by_cases hs : (c.note k d).day < (c.note k d).sup
      · go_wp2_with fail
        go_ret2
        exact ⟨ret_pair (Clk.raise_yes hs), HF.out.1 hs⟩
      · replace hs := Int.not_lt.1 hs
        go_wp2_with fail
        go_ret2
        exact ⟨ret_pair (Clk.raise_no hs), HF.out.2 hs⟩
    · have hn : c.news k d = false := by rw [HN.out]; simpa using hxd
      have H1 : Hid (Fr [b] w w ∧ At w b 57 (c.note k d).cells) := by
        refine ⟨Fr.refl _ _, ?_⟩
        have := HC.out
        unfold Clk.note
        rw [hn]
        exact this
      clear hn
      go_enter Try.func17, Try.ntmps17
      go_wp2_with (first
        | (go_at_call 28; refine (validDevice_any _ _).mono ?_; rintro e w' ⟨rfl, rfl⟩; rw [HV.out.1])
        | (go_at_call 29; refine (validDay_any _ _).mono ?_; rintro e w' ⟨rfl, rfl⟩; rw [HV.out.2]))
      refine (supported_any b (c.note k d) _ H1.out.2 (HK.out.note k d) (by rw [HQ.out]; omega) (by rw [HQ.out]; omega)).mono ?_
      rintro e w2 ⟨rfl, hf2⟩
      have hF := hear_fin b (c.note k d) w _ w2 H1.out.1 hf2 H1.out.2
      have h2 := H1.out.2.fr hf2 (by simp)
      have c1 : w2.cell? ⟨b, 1, none⟩ = some (Value.int .i64 (c.note k d).day) := by rw [h2.cell]; rfl
      have c4 : w2.cell? ⟨b, 4, none⟩ = some (Value.int .i64 (c.note k d).own) := by rw [h2.cell]; rfl
      have z2 := fun i => h2.frozen i
      have HF := Lib.hid hF
      clear hF h2 hf2
      by_cases hs : (c.note k d).day < (c.note k d).sup
      · go_wp2_with fail
        go_ret2
        exact ⟨ret_pair (Clk.raise_yes hs), HF.out.1 hs⟩
      · replace hs := Int.not_lt.1 hs
        go_wp2_with fail
        go_ret2
        exact ⟨ret_pair (Clk.raise_no hs), HF.out.2 hs⟩

end Go.Proofs.Ytflabbdnkoejjaa
