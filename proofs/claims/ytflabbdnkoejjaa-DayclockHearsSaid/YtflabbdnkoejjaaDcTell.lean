/- Plain: telling the same days in another order, and once more, leads to the same supported day. -/
import Derived.Test.YtflabbdnkoejjaaDcRun
namespace Go.Proofs.Ytflabbdnkoejjaa

/-- What device k has told: nothing, or its greatest day. -/
def Clk.st (c : Clk) (k : Nat) : Option Int := if c.heard.getD k false then some (c.told.getD k 0) else none

def mo (s : Option Int) (d : Int) : Option Int := match s with
  | none => some d
  | some t => some (if t < d then d else t)

def Op3.at (k : Nat) (x : Op3) : Bool := (inDev x.dev && inDay x.day) && decide (x.dev = (k : Int))

theorem Clk.st_op (c : Clk) (h : c.Ok) (x : Op3) (hx : x.kind ≠ 1) (k : Nat) (hk : k < 12) : (c.op x).st k = if x.at k then mo (c.st k) x.day else c.st k := by
  unfold Clk.op
  rw [if_neg hx]
  unfold Clk.hearI
  by_cases hv : (inDev x.dev && inDay x.day) = true
  · rw [if_pos hv]
    have hv2 := hv
    simp only [Bool.and_eq_true] at hv2
    have hd : 0 ≤ x.dev ∧ x.dev < 12 := by simpa [inDev] using hv2.1
    obtain ⟨_, _, _, _, e7, e8, _⟩ := (c.note x.dev.toNat x.day).raise_fields
    have e : (c.hear x.dev.toNat x.day).st k = (c.note x.dev.toNat x.day).st k := by
      unfold Clk.st Clk.hear
      rw [e7, e8]
    rw [e]
    have hat : x.at k = decide (x.dev = (k : Int)) := by unfold Op3.at; rw [hv]; rfl
    rw [hat]
    by_cases hkk : x.dev = (k : Int)
    · have hkn : x.dev.toNat = k := by omega
      rw [hkn]
      simp only [hkk, decide_true, if_true]
      obtain ⟨a, y, ha, hy, hn⟩ := c.news_iff h k hk x.day
      have hlt : k < c.told.length := by rw [h.told]; exact hk
      have hlh : k < c.heard.length := by rw [h.heard]; exact hk
      unfold Clk.note
      rw [hn]
      cases y
      · have e1 : (c.tell k x.day).st k = some x.day := by simp [Clk.st, Clk.tell, hlt, hlh]
        have e2 : c.st k = none := by simp [Clk.st, hy]
        rw [e2]
        simpa [mo] using e1
      · have e2 : c.st k = some a := by simp [Clk.st, hy, ha]
        rw [e2]
        by_cases hlt' : a < x.day
        · have e1 : (c.tell k x.day).st k = some x.day := by simp [Clk.st, Clk.tell, hlt, hlh]
          simpa [mo, hlt'] using e1
        · simpa [mo, hlt'] using e2
    · have hkn : x.dev.toNat ≠ k := by omega
      simp only [hkk, decide_false]
      unfold Clk.note
      split
      · simp [Clk.st, Clk.tell, List.getElem?_set_ne hkn]
      · simp
  · have hat : x.at k = false := by unfold Op3.at; rw [(by simpa using hv : (inDev x.dev && inDay x.day) = false)]; rfl
    rw [if_neg hv, hat]
    simp

theorem Clk.Ok.op {c : Clk} (h : c.Ok) (x : Op3) : (c.op x).Ok := by
  unfold Clk.op
  split
  · exact ⟨h.told, h.heard⟩
  · unfold Clk.hearI
    split
    · obtain ⟨_, _, _, _, e7, e8, _⟩ := (c.note x.dev.toNat x.day).raise_fields
      have := h.note x.dev.toNat x.day
      exact ⟨by show (c.note x.dev.toNat x.day).raise.told.length = 12; rw [e7]; exact this.told, by show (c.note x.dev.toNat x.day).raise.heard.length = 12; rw [e8]; exact this.heard⟩
    · exact h

theorem Clk.st_runs (k : Nat) (hk : k < 12) : ∀ (ops : List Op3) (c : Clk), c.Ok → (∀ x ∈ ops, x.kind ≠ 1) → (c.runs ops).st k = ((ops.filter (Op3.at k)).map Op3.day).foldl mo (c.st k)
  | [], _, _, _ => rfl
  | x :: ops, c, h, hx => by
    have ih := Clk.st_runs k hk ops (c.op x) (h.op x) (fun y hy => hx y (by simp [hy]))
    show ((c.op x).runs ops).st k = _
    rw [ih, c.st_op h x (hx x (by simp)) k hk]
    cases hat : x.at k <;> simp [hat]

theorem fold_mo (l : List Int) : ∀ (s : Option Int) (B : Int), ((∀ t, l.foldl mo s = some t → t ≤ B) ↔ (∀ t, s = some t → t ≤ B) ∧ ∀ x ∈ l, x ≤ B) ∧ ((l.foldl mo s).isSome = (s.isSome || !l.isEmpty)) := by
  induction l with
  | nil => intro s B; simp
  | cons x l ih =>
    intro s B
    obtain ⟨h1, h2⟩ := ih (mo s x) B
    simp only [List.foldl_cons]
    constructor
    · rw [h1]
      cases s with
      | none => simp [mo]
      | some t =>
        simp only [mo, Option.some.injEq, forall_eq', List.mem_cons]
        constructor
        · rintro ⟨ha, hb⟩
          refine ⟨by split at ha <;> omega, ?_⟩
          intro y hy
          rcases hy with rfl | hy
          · split at ha <;> omega
          · exact hb y hy
        · rintro ⟨ha, hb⟩
          refine ⟨?_, fun y hy => hb y (.inr hy)⟩
          have := hb x (.inl rfl)
          split <;> omega
    · rw [h2]
      cases s <;> simp [mo]

theorem fold_same (l l' : List Int) (h : ∀ x, x ∈ l ↔ x ∈ l') : l.foldl mo none = l'.foldl mo none := by
  have hs : (l.foldl mo none).isSome = (l'.foldl mo none).isSome := by
    rw [(fold_mo l none 0).2, (fold_mo l' none 0).2]
    cases l with
    | nil =>
      cases l' with
      | nil => rfl
      | cons y l' => exact absurd ((h y).2 (by simp)) (by simp)
    | cons y l =>
      cases l' with
      | nil => exact absurd ((h y).1 (by simp)) (by simp)
      | cons z l' => rfl
  have hle : ∀ B, (∀ t, l.foldl mo none = some t → t ≤ B) ↔ (∀ t, l'.foldl mo none = some t → t ≤ B) := by
    intro B
    rw [(fold_mo l none B).1, (fold_mo l' none B).1]
    constructor
    · exact fun hh => ⟨hh.1, fun x hx => hh.2 x ((h x).2 hx)⟩
    · exact fun hh => ⟨hh.1, fun x hx => hh.2 x ((h x).1 hx)⟩
  cases h1 : l.foldl mo none with
  | none =>
    cases h2 : l'.foldl mo none with
    | none => rfl
    | some t => rw [h1, h2] at hs; cases hs
  | some a =>
    cases h2 : l'.foldl mo none with
    | none => rw [h1, h2] at hs; cases hs
    | some b =>
      rw [h1, h2] at hle
      have e1 := (hle b).2 (by simp)
      have e2 := (hle a).1 (by simp)
      simp only [Option.some.injEq, forall_eq'] at e1 e2
      have : a = b := by omega
      rw [this]

theorem Clk.above_st (c d : Clk) (hc : c.Ok) (hd : d.Ok) (h : ∀ k, k < 12 → c.st k = d.st k) (B : Int) : c.above B = d.above B := by
  have key : ∀ c : Clk, c.Ok → c.above B = (List.range 12).countP fun k => match c.st k with | some t => decide (B < t) | none => false := by
    intro c hc
    rw [c.above_eq hc]
    have hz : c.told.zip c.heard = (List.range 12).map fun k => (c.told.getD k 0, c.heard.getD k false) := by
      apply List.ext_getElem?
      intro i
      by_cases hi : i < 12
      · obtain ⟨x, hx, _⟩ := c.cell_told hc i hi
        obtain ⟨y, hy, _⟩ := c.cell_heard hc i hi
        have h1 : (c.told.zip c.heard)[i]? = some (x, y) := by rw [List.getElem?_zip_eq_some]; exact ⟨hx, hy⟩
        rw [h1]
        simp [hi, hx, hy]
      · rw [List.getElem?_eq_none (by simp [hc.told, hc.heard]; omega), List.getElem?_eq_none (by simp; omega)]
    rw [hz, List.countP_map]
    refine List.countP_congr ?_
    intro k _
    simp only [Function.comp, Clk.st]
    cases c.heard.getD k false <;> simp
  rw [key c hc, key d hd]
  refine List.countP_congr ?_
  intro k hk
  rw [h k (List.mem_range.1 hk)]

/-- Where only days are told, the day is the supported day, and there are no own days. -/
structure Clk.Still (c : Clk) (d l q : Int) : Prop where
  ok : c.Ok
  day : c.day = c.sup
  own : c.own = 0
  first : c.first = d
  quorum : c.quorum = q
  leap : c.leap = l

theorem Clk.Still.op {c : Clk} {d l q : Int} (h : c.Still d l q) (hq : 1 ≤ q) (x : Op3) (hx : x.kind ≠ 1) : (c.op x).Still d l q := by
  have hok := h.ok.op x
  unfold Clk.op at hok ⊢
  rw [if_neg hx] at hok ⊢
  unfold Clk.hearI at hok ⊢
  by_cases hv : (inDev x.dev && inDay x.day) = true
  · rw [if_pos hv] at hok ⊢
    simp only [Bool.and_eq_true] at hv
    have hd : 0 ≤ x.dev ∧ x.dev < 12 := by simpa [inDev] using hv.1
    have hs := c.sup_note h.ok (by rw [h.quorum]; exact hq) x.dev.toNat (by omega) x.day
    obtain ⟨e1, e2, e3, e4, e5, _⟩ := c.note_fields x.dev.toNat x.day
    obtain ⟨g1, g3, g4, _, _, _, g9⟩ := (c.note x.dev.toNat x.day).raise_fields
    have hday := h.day
    refine ⟨hok, ?_, ?_, (g1.trans e1).trans h.first, (g4.trans e4).trans h.quorum, (g3.trans e3).trans h.leap⟩
    · show (c.note x.dev.toNat x.day).raise.day = (c.note x.dev.toNat x.day).raise.sup
      rw [g9]
      unfold Clk.raise
      by_cases hlt : (c.note x.dev.toNat x.day).day < (c.note x.dev.toNat x.day).sup
      · rw [if_pos hlt]
      · rw [if_neg hlt]
        rw [e2] at hlt ⊢
        omega
    · show (c.note x.dev.toNat x.day).raise.own = 0
      unfold Clk.raise
      by_cases hlt : (c.note x.dev.toNat x.day).day < (c.note x.dev.toNat x.day).sup
      · rw [if_pos hlt]
      · rw [if_neg hlt, e5, h.own]
  · rw [if_neg hv]
    exact h

theorem Clk.Still.runs {d l q : Int} (hq : 1 ≤ q) : ∀ (ops : List Op3) (c : Clk), c.Still d l q → (∀ x ∈ ops, x.kind ≠ 1) → (c.runs ops).Still d l q
  | [], _, h, _ => h
  | x :: ops, _, h, hx => Clk.Still.runs hq ops _ (h.op hq x (hx x (by simp))) (fun y hy => hx y (by simp [hy]))

theorem hears_plain (d l q : Int) (h : (Clk.new d l q).ranges = true) (T : List Op3) (hT : ∀ x ∈ T, x.kind ≠ 1) :
    ((Clk.new d l q).runs T).sup = ((Clk.new d l q).runs (T.reverse ++ T)).sup ∧ ((Clk.new d l q).runs T).day = ((Clk.new d l q).runs (T.reverse ++ T)).day ∧ ((Clk.new d l q).runs T).own = 0 := by
  have hi := Clk.new_inv d l q h
  have h0 : (Clk.new d l q).Still d l q := by
    refine ⟨hi.ok, ?_, rfl, rfl, rfl, rfl⟩
    have a := hi.s0
    have b := hi.s1
    have e : (Clk.new d l q).own = 0 := rfl
    omega
  have hq : 1 ≤ q := hi.q0
  have hT' : ∀ x ∈ T.reverse ++ T, x.kind ≠ 1 := fun x hx => hT x (by simpa using hx)
  have hA := Clk.Still.runs hq T _ h0 hT
  have hB := Clk.Still.runs hq (T.reverse ++ T) _ h0 hT'
  have hst : ∀ k, k < 12 → ((Clk.new d l q).runs T).st k = ((Clk.new d l q).runs (T.reverse ++ T)).st k := by
    intro k hk
    have hn : (Clk.new d l q).st k = none := by
      unfold Clk.st
      rw [show (Clk.new d l q).heard = List.replicate 12 false from rfl, List.getD_eq_getElem?_getD, List.getElem?_replicate, if_pos hk]
      rfl
    rw [Clk.st_runs k hk T _ hi.ok hT, Clk.st_runs k hk _ _ hi.ok hT', hn]
    refine fold_same _ _ ?_
    intro x
    simp [List.filter_append]
  have habove := Clk.above_st _ _ hA.ok hB.ok hst
  have hs : ((Clk.new d l q).runs T).sup = ((Clk.new d l q).runs (T.reverse ++ T)).sup := by
    have hqA := hA.quorum
    have hqB := hB.quorum
    refine Int.le_antisymm (Clk.sup_mono _ _ (by omega) (by rw [hA.first, hB.first]; exact Int.le_refl _) (by rw [hqA, hqB]) fun B => Nat.le_of_eq (habove B)) (Clk.sup_mono _ _ (by omega) (by rw [hA.first, hB.first]; exact Int.le_refl _) (by rw [hqA, hqB]) fun B => Nat.le_of_eq (habove B).symm)
  exact ⟨hs, by rw [hA.day, hB.day, hs], hA.own⟩

end Go.Proofs.Ytflabbdnkoejjaa
