/- Plain laws of the clock: what stays true over Read and Hear. -/
import Derived.Test.YtflabbdnkoejjaaDcSup
namespace Go.Proofs.Ytflabbdnkoejjaa

/-- m bounds the own days. -/
structure Clk.Inv (c : Clk) (m : Int) : Prop where
  ok : c.Ok
  f0 : 0 ≤ c.first
  f1 : c.first ≤ 999999
  l0 : 0 ≤ c.leap
  l1 : c.leap ≤ 1000
  q0 : 1 ≤ c.quorum
  q1 : c.quorum ≤ 12
  s0 : c.sup ≤ c.day
  s1 : c.day ≤ c.sup + c.own
  d1 : c.day ≤ 999999
  o0 : 0 ≤ c.own
  o1 : c.own ≤ m
  r0 : -9223372036854775808 ≤ c.ref
  r1 : c.ref ≤ 9223372036854775807
  t0 : ∀ x ∈ c.told, 0 ≤ x ∧ x ≤ 999999

theorem Clk.Inv.d0 {c : Clk} {m : Int} (h : c.Inv m) : 0 ≤ c.day := by
  have := c.first_le_sup h.q0
  have := h.f0
  have := h.s0
  omega

theorem Clk.sup_congr (c d : Clk) (h0 : c.first = d.first) (h1 : c.quorum = d.quorum) (h2 : c.told = d.told) (h3 : c.heard = d.heard) : c.sup = d.sup := by
  unfold Clk.sup Clk.days
  rw [h0, h1, h2, h3]

theorem Clk.above_eq (c : Clk) (h : c.Ok) (B : Int) : c.above B = (c.told.zip c.heard).countP fun p => p.2 && decide (B < p.1) := by
  unfold Clk.above Clk.days
  rw [List.take_of_length_le (by simp [h.told, h.heard])]
  generalize c.told.zip c.heard = l
  induction l with
  | nil => rfl
  | cons p l ih =>
    obtain ⟨x, y⟩ := p
    cases y
    · simpa [List.filterMap_cons] using ih
    · simp only [List.filterMap_cons, if_true, List.countP_cons, ih, Bool.true_and]

theorem zip_set (l : List Int) (m : List Bool) : ∀ (k : Nat) (x : Int) (y : Bool), (l.set k x).zip (m.set k y) = (l.zip m).set k (x, y) := by
  induction l generalizing m with
  | nil => intro k x y; simp
  | cons a l ih =>
    intro k x y
    cases m with
    | nil => simp
    | cons b m =>
      cases k with
      | zero => simp
      | succ k => simp [ih]

theorem Clk.news_iff (c : Clk) (h : c.Ok) (k : Nat) (hk : k < 12) (d : Int) : ∃ x y, c.told[k]? = some x ∧ c.heard[k]? = some y ∧ c.news k d = (!y || decide (x < d)) := by
  obtain ⟨x, hx, _⟩ := c.cell_told h k hk
  obtain ⟨y, hy, _⟩ := c.cell_heard h k hk
  exact ⟨x, y, hx, hy, by simp [Clk.news, hx, hy]⟩

theorem Clk.above_note (c : Clk) (h : c.Ok) (k : Nat) (hk : k < 12) (d : Int) (B : Int) : c.above B ≤ (c.note k d).above B := by
  unfold Clk.note
  split
  · rename_i hn
    obtain ⟨x, y, hx, hy, e⟩ := c.news_iff h k hk d
    rw [c.above_eq h, (c.tell k d).above_eq (h.tell k d)]
    show _ ≤ List.countP _ ((c.told.set k d).zip (c.heard.set k true))
    have hl : k < (c.told.zip c.heard).length := by simp [h.told, h.heard, hk]
    have hz : (c.told.zip c.heard)[k] = (x, y) := by
      have : (c.told.zip c.heard)[k]? = some (x, y) := by rw [List.getElem?_zip_eq_some]; exact ⟨hx, hy⟩
      rw [List.getElem?_eq_getElem hl] at this
      exact Option.some.inj this
    rw [zip_set, List.countP_set hl, hz]
    rw [e] at hn
    cases y
    · simp
    · have hlt : x < d := by simpa using hn
      by_cases hB : B < x
      · have : B < d := by omega
        simp [hB, this]
        omega
      · simp [hB]
  · exact Nat.le_refl _

theorem Clk.note_fields (c : Clk) (k : Nat) (d : Int) : (c.note k d).first = c.first ∧ (c.note k d).day = c.day ∧ (c.note k d).leap = c.leap ∧ (c.note k d).quorum = c.quorum ∧ (c.note k d).own = c.own ∧ (c.note k d).ref = c.ref ∧ (c.note k d).read = c.read := by
  unfold Clk.note
  split <;> exact ⟨rfl, rfl, rfl, rfl, rfl, rfl, rfl⟩

theorem Clk.sup_note (c : Clk) (h : c.Ok) (hq : 1 ≤ c.quorum) (k : Nat) (hk : k < 12) (d : Int) : c.sup ≤ (c.note k d).sup := by
  obtain ⟨e1, _, _, e2, _⟩ := c.note_fields k d
  exact Clk.sup_mono c _ hq (by rw [e1]; exact Int.le_refl _) e2.symm (c.above_note h k hk d)

theorem mem_days {c : Clk} {x : Int} (h : x ∈ c.days 12) : x ∈ c.told := by
  unfold Clk.days at h
  obtain ⟨p, hp, e⟩ := List.mem_filterMap.1 h
  have hz := List.mem_of_mem_take hp
  have := (List.of_mem_zip (a := p.1) (b := p.2) hz).1
  split at e
  · injection e with e; rwa [← e]
  · cases e

theorem Clk.sup_max (c : Clk) (hq : 1 ≤ c.quorum) (h1 : c.first ≤ 999999) (ht : ∀ x ∈ c.told, 0 ≤ x ∧ x ≤ 999999) : c.sup ≤ 999999 := by
  refine (c.sup_le hq _).2 ⟨h1, ?_⟩
  have : c.above 999999 = 0 := by
    unfold Clk.above
    rw [List.countP_eq_zero]
    intro x hx
    have := (ht x (mem_days hx)).2
    simp; omega
  omega

theorem Clk.told_note (c : Clk) (k : Nat) (d : Int) (hd : inDay d = true) (ht : ∀ x ∈ c.told, 0 ≤ x ∧ x ≤ 999999) : ∀ x ∈ (c.note k d).told, 0 ≤ x ∧ x ≤ 999999 := by
  have hd' : 0 ≤ d ∧ d ≤ 999999 := by simpa [inDay] using hd
  intro x hx
  unfold Clk.note at hx
  split at hx
  · rcases List.mem_or_eq_of_mem_set hx with h | h
    · exact ht x h
    · omega
  · exact ht x hx

theorem Clk.raise_fields (c : Clk) : c.raise.first = c.first ∧ c.raise.leap = c.leap ∧ c.raise.quorum = c.quorum ∧ c.raise.ref = c.ref ∧ c.raise.told = c.told ∧ c.raise.heard = c.heard ∧ c.raise.sup = c.sup := by
  unfold Clk.raise
  split
  · exact ⟨rfl, rfl, rfl, rfl, rfl, rfl, Clk.sup_congr _ _ rfl rfl rfl rfl⟩
  · exact ⟨rfl, rfl, rfl, rfl, rfl, rfl, rfl⟩

theorem Clk.Inv.hear {c : Clk} {m : Int} (h : c.Inv m) (hm : 0 ≤ m) (k : Nat) (hk : k < 12) (d : Int) (hd : inDay d = true) : (c.hear k d).Inv m ∧ c.day ≤ (c.hear k d).day := by
  obtain ⟨e1, e2, e3, e4, e5, e6, _⟩ := c.note_fields k d
  obtain ⟨g1, g3, g4, g6, g7, g8, g9⟩ := (c.note k d).raise_fields
  have hs := c.sup_note h.ok h.q0 k hk d
  have hok := h.ok.note k d
  have ht := c.told_note k d hd h.t0
  have hmx := (c.note k d).sup_max (by rw [e4]; exact h.q0) (by rw [e1]; exact h.f1) ht
  have a0 := h.s0
  have a1 := h.s1
  have a2 := h.d1
  have a3 := h.o0
  have a4 := h.o1
  have hcase : (c.hear k d).day = max c.day (c.note k d).sup ∧ (c.hear k d).day ≤ (c.note k d).sup + (c.hear k d).own ∧ 0 ≤ (c.hear k d).own ∧ (c.hear k d).own ≤ m := by
    unfold Clk.hear Clk.raise
    by_cases hlt : (c.note k d).day < (c.note k d).sup
    · rw [if_pos hlt]
      rw [e2] at hlt
      refine ⟨?_, ?_, ?_, ?_⟩ <;> simp only <;> omega
    · rw [if_neg hlt, e2, e5]
      rw [e2] at hlt
      refine ⟨?_, ?_, ?_, ?_⟩ <;> omega
  obtain ⟨c1, c2, c3, c4⟩ := hcase
  refine ⟨⟨⟨?_, ?_⟩, ?_, ?_, ?_, ?_, ?_, ?_, ?_, ?_, ?_, c3, c4, ?_, ?_, ?_⟩, by omega⟩
  · show (c.note k d).raise.told.length = 12; rw [g7]; exact hok.told
  · show (c.note k d).raise.heard.length = 12; rw [g8]; exact hok.heard
  · show 0 ≤ (c.note k d).raise.first; rw [g1, e1]; exact h.f0
  · show (c.note k d).raise.first ≤ _; rw [g1, e1]; exact h.f1
  · show 0 ≤ (c.note k d).raise.leap; rw [g3, e3]; exact h.l0
  · show (c.note k d).raise.leap ≤ _; rw [g3, e3]; exact h.l1
  · show 1 ≤ (c.note k d).raise.quorum; rw [g4, e4]; exact h.q0
  · show (c.note k d).raise.quorum ≤ _; rw [g4, e4]; exact h.q1
  · show (c.note k d).raise.sup ≤ _; rw [g9]; omega
  · show _ ≤ (c.note k d).raise.sup + _; rw [g9]; omega
  · omega
  · show _ ≤ (c.note k d).raise.ref; rw [g6, e6]; exact h.r0
  · show (c.note k d).raise.ref ≤ _; rw [g6, e6]; exact h.r1
  · show ∀ x ∈ (c.note k d).raise.told, _; rw [g7]; exact ht

theorem Clk.step_bounds {c : Clk} {m : Int} (h : c.Inv m) (wall : Int) : 0 ≤ c.step wall ∧ c.step wall ≤ 1000 ∧ c.step wall ≤ 999999 - c.day := by
  have a2 := h.d1
  have a3 := h.l1
  unfold Clk.step
  split
  · rename_i hh
    omega
  · omega

theorem Clk.Inv.rd {c : Clk} {m : Int} (h : c.Inv m) (hm : m ≤ 1000000000000) (wall : Int) (hw0 : -9223372036854775808 ≤ wall) (hw1 : wall ≤ 9223372036854775807) :
    (c.rd wall).Inv (m + 1000) ∧ c.day ≤ (c.rd wall).day ∧ (c.rd wall).own = c.own + c.step wall := by
  obtain ⟨b0, b1, b2⟩ := Clk.step_bounds h wall
  have a0 := h.s0
  have a1 := h.s1
  have a3 := h.o0
  have a4 := h.o1
  have hs : (c.rd wall).sup = c.sup := Clk.sup_congr _ _ rfl rfl rfl rfl
  have ho : (c.rd wall).own = c.own + c.step wall := by
    show min c.own (9223372036854775807 - c.step wall) + c.step wall = _
    omega
  have hd : (c.rd wall).day = c.day + c.step wall := rfl
  refine ⟨⟨⟨h.ok.told, h.ok.heard⟩, h.f0, h.f1, h.l0, h.l1, h.q0, h.q1, ?_, ?_, ?_, ?_, ?_, hw0, hw1, h.t0⟩, ?_, ho⟩
  all_goals omega

theorem Clk.Inv.mono {c : Clk} {m m' : Int} (h : c.Inv m) (hm : m ≤ m') : c.Inv m' := ⟨h.ok, h.f0, h.f1, h.l0, h.l1, h.q0, h.q1, h.s0, h.s1, h.d1, h.o0, Int.le_trans h.o1 hm, h.r0, h.r1, h.t0⟩

/-- Hear at any two numbers. -/
def Clk.hearI (c : Clk) (v d : Int) : Clk := if (inDev v && inDay d) = true then c.hear v.toNat d else c

theorem Clk.Inv.hearI {c : Clk} {m : Int} (h : c.Inv m) (hm : 0 ≤ m) (v d : Int) : (c.hearI v d).Inv m ∧ c.day ≤ (c.hearI v d).day := by
  unfold Clk.hearI
  split
  · rename_i hh
    simp only [Bool.and_eq_true] at hh
    have hv : 0 ≤ v ∧ v < 12 := by simpa [inDev] using hh.1
    exact h.hear hm v.toNat (by omega) d hh.2
  · exact ⟨h, Int.le_refl _⟩

end Go.Proofs.Ytflabbdnkoejjaa
