/- Plain: fewer devices that tell more than a bound than quorum: the supported day is at most the bound. -/
import Derived.Test.YtflabbdnkoejjaaDcRun
import Derived.Maps.OwnSet
namespace Go.Proofs.Ytflabbdnkoejjaa
open Go.Maps

theorem nodup_len {α : Type} [DecidableEq α] : ∀ (L es : List α), L.Nodup → (∀ x ∈ L, x ∈ es) → L.length ≤ es.length
  | [], _, _, _ => Nat.zero_le _
  | x :: L, es, hn, hs => by
    have hx : x ∈ es := hs x (by simp)
    have h1 := nodup_len L (es.erase x) (List.nodup_cons.1 hn).2 (fun y hy => by
      have hne : y ≠ x := fun e => (List.nodup_cons.1 hn).1 (e ▸ hy)
      exact (List.mem_erase_of_ne hne).2 (hs y (by simp [hy])))
    have h2 := List.length_erase_of_mem hx
    have h3 : 0 < es.length := List.length_pos_of_mem hx
    simp only [List.length_cons]
    omega

abbrev Dat := DataW Unit
def tt : Dat := .lit (.bool true)

def Op3.lies (bound : Int) (x : Op3) : Bool := !(decide (x.kind = 1)) && decide (bound < x.day)
def liars (bound : Int) (ops : List Op3) : List Lit := (ops.filter (Op3.lies bound)).map fun x => Lit.int .i64 x.dev

theorem liars_snoc (bound : Int) (ops : List Op3) (k : Nat) (x : Op3) (h : ops[k]? = some x) : liars bound (ops.take (k + 1)) = liars bound (ops.take k) ++ if x.lies bound then [Lit.int .i64 x.dev] else [] := by
  unfold liars
  rw [List.take_add_one, h]
  cases hx : x.lies bound <;> simp [List.filter_append, hx]

theorem keylit (n : Int) : WideAt.IsKeyLit (.int .i64 n) := by simp [WideAt.IsKeyLit]

theorem liars_key (bound : Int) (ops : List Op3) : ∀ x ∈ liars bound ops, WideAt.IsKeyLit x := by
  intro x hx
  obtain ⟨y, _, rfl⟩ := List.mem_map.1 hx
  exact keylit _

/-- Distinct keys that a set holds are no more than its size. -/
theorem size_ge (acc : List Lit) (hk : ∀ x ∈ acc, WideAt.IsKeyLit x) (L : List Nat) (hn : L.Nodup) (h : ∀ k ∈ L, Lit.int .i64 (k : Int) ∈ acc) : L.length ≤ Maps.size (setOf tt acc) := by
  obtain ⟨es, he, hp⟩ := tidy_setOf tt acc hk
  rw [he, Maps.size_eq]
  have hmem : ∀ k ∈ L, ∃ p ∈ es, p.1 = Lit.int .i64 (k : Int) := by
    intro k hkL
    have hh : Maps.has (setOf tt acc) (.int .i64 (k : Int)) = true := by
      rw [Maps.has_setOf tt _ acc hk, List.any_eq_true]
      exact ⟨_, h k hkL, WideAt.sameKey_self (keylit _)⟩
    rw [he, Maps.has_eq, List.any_eq_true] at hh
    obtain ⟨p, hp, hs⟩ := hh
    exact ⟨p, hp, (WideAt.sameKey_iff (keylit _)).1 hs⟩
  let f : Lit × Dat → Nat := fun p => match p.1 with | .int _ n => n.toNat | _ => 0
  have := nodup_len L (es.map f) hn (fun k hkL => by
    obtain ⟨p, hp, e⟩ := hmem k hkL
    refine List.mem_map.2 ⟨p, hp, ?_⟩
    simp only [f, e, Int.toNat_natCast])
  simpa using this

/-- The devices of the clock that have told more than the bound. -/
def Clk.over (c : Clk) (bound : Int) : List Nat := (List.range 12).filter fun k => c.heard.getD k false && decide (bound < c.told.getD k 0)

theorem Clk.above_over (c : Clk) (h : c.Ok) (bound : Int) : c.above bound = (c.over bound).length := by
  rw [c.above_eq h]
  have hz : c.told.zip c.heard = (List.range 12).map fun k => (c.told.getD k 0, c.heard.getD k false) := by
    apply List.ext_getElem?
    intro i
    by_cases hi : i < 12
    · obtain ⟨x, hx, _⟩ := c.cell_told h i hi
      obtain ⟨y, hy, _⟩ := c.cell_heard h i hi
      have h1 : (c.told.zip c.heard)[i]? = some (x, y) := by rw [List.getElem?_zip_eq_some]; exact ⟨hx, hy⟩
      rw [h1]
      simp [hi, hx, hy]
    · rw [List.getElem?_eq_none (by simp [h.told, h.heard]; omega), List.getElem?_eq_none (by simp; omega)]
  rw [hz, List.countP_map, List.countP_eq_length_filter]
  rfl

/-- Whoever has told more than the bound is among the liars. -/
def Clk.Lied (c : Clk) (bound : Int) (ops : List Op3) : Prop := ∀ k, k < 12 → c.heard.getD k false = true → bound < c.told.getD k 0 → Lit.int .i64 (k : Int) ∈ liars bound ops

theorem Clk.Lied.op {c : Clk} {bound : Int} {ops : List Op3} (hok : c.Ok) (h : c.Lied bound ops) (x : Op3) : (c.op x).Lied bound (ops ++ [x]) := by
  have hl : liars bound (ops ++ [x]) = liars bound ops ++ if x.lies bound then [Lit.int .i64 x.dev] else [] := by
    unfold liars
    cases hx : x.lies bound <;> simp [List.filter_append, hx]
  intro k hk h1 h2
  rw [hl, List.mem_append]
  unfold Clk.op at h1 h2
  split at h1
  · rename_i hkd
    rw [if_pos hkd] at h2
    exact .inl (h k hk h1 h2)
  · rename_i hkd
    rw [if_neg hkd] at h2
    unfold Clk.hearI at h1 h2
    split at h1
    · rename_i hv
      rw [if_pos hv] at h2
      simp only [Bool.and_eq_true] at hv
      have hv' : 0 ≤ x.dev ∧ x.dev < 12 := by simpa [inDev] using hv.1
      obtain ⟨_, _, _, _, e7, e8, _⟩ := (c.note x.dev.toNat x.day).raise_fields
      have h1' : (c.note x.dev.toNat x.day).heard.getD k false = true := by rw [← e8]; exact h1
      have h2' : bound < (c.note x.dev.toNat x.day).told.getD k 0 := by rw [← e7]; exact h2
      unfold Clk.note at h1' h2'
      split at h1'
      · rename_i hn
        rw [if_pos hn] at h2'
        by_cases hkk : x.dev.toNat = k
        · right
          have hlt : x.dev.toNat < c.told.length := by rw [hok.told]; omega
          have : bound < x.day := by
            simp only [Clk.tell, ← hkk] at h2'
            simpa [hlt] using h2'
          have hxl : x.lies bound = true := by simp [Op3.lies, hkd, this]
          rw [hxl]
          simp
          omega
        · left
          refine h k hk ?_ ?_
          · simpa [Clk.tell, List.getElem?_set_ne hkk] using h1'
          · simpa [Clk.tell, List.getElem?_set_ne hkk] using h2'
      · rename_i hn
        rw [if_neg hn] at h2'
        exact .inl (h k hk h1' h2')
    · rename_i hv
      rw [if_neg hv] at h2
      exact .inl (h k hk h1 h2)

theorem Clk.Lied.runs (d l q bound : Int) (h : (Clk.new d l q).ranges = true) (ops : List Op3) (hn : ops.length ≤ 30) (hf : ∀ x ∈ ops, x.Fits) : ∀ k, k ≤ ops.length → ((Clk.new d l q).runs (ops.take k)).Lied bound (ops.take k) := by
  intro k
  induction k with
  | zero =>
    intro _ k hk h1
    have : (Clk.new d l q).heard.getD k false = false := by
      rw [show (Clk.new d l q).heard = List.replicate 12 false from rfl, List.getD_eq_getElem?_getD, List.getElem?_replicate, if_pos hk]
      rfl
    simp only [List.take_zero, Clk.runs, List.foldl_nil] at h1
    rw [this] at h1
    cases h1
  | succ k ih =>
    intro hk
    have hx := List.getElem?_eq_getElem (show k < ops.length by omega)
    rw [Clk.runs_snoc _ _ _ _ hx, List.take_add_one, hx]
    have hi := (Clk.new_inv d l q h).runs (Int.le_refl _) (ops.take k) (by simp; omega) (fun x hx => hf x (List.mem_of_mem_take hx))
    exact Clk.Lied.op hi.ok (ih (by omega)) _

theorem bounded_plain (d l q bound : Int) (h : (Clk.new d l q).ranges = true) (ops : List Op3) (hn : ops.length ≤ 30) (hf : ∀ x ∈ ops, x.Fits) (hb : d ≤ bound) (hq : (Maps.size (setOf tt (liars bound ops)) : Int) < q) :
    ((Clk.new d l q).runs ops).sup ≤ bound ∧ ((Clk.new d l q).runs ops).day - bound ≤ ((Clk.new d l q).runs ops).own := by
  have hl := Clk.Lied.runs d l q bound h ops hn hf ops.length (Nat.le_refl _)
  have hi := (Clk.new_inv d l q h).runs (Int.le_refl _) ops (by omega) hf
  rw [List.take_length] at hl
  have hfq : ∀ (os : List Op3) (c : Clk), (c.runs os).first = c.first ∧ (c.runs os).quorum = c.quorum := by
    intro os
    induction os with
    | nil => exact fun c => ⟨rfl, rfl⟩
    | cons x os ih =>
      intro c
      have h1 := ih (c.op x)
      have h2 : (c.op x).first = c.first ∧ (c.op x).quorum = c.quorum := by
        unfold Clk.op
        split
        · exact ⟨rfl, rfl⟩
        · unfold Clk.hearI
          split
          · obtain ⟨e1, _, _, e4, _⟩ := c.note_fields x.dev.toNat x.day
            obtain ⟨g1, _, g4, _⟩ := (c.note x.dev.toNat x.day).raise_fields
            exact ⟨g1.trans e1, g4.trans e4⟩
          · exact ⟨rfl, rfl⟩
      exact ⟨h1.1.trans h2.1, h1.2.trans h2.2⟩
  generalize hc : (Clk.new d l q).runs ops = c at hl hi
  have h1 : c.first = d := by rw [← hc]; exact (hfq ops _).1
  have h2 : c.quorum = q := by rw [← hc]; exact (hfq ops _).2
  have hle : (c.over bound).length ≤ Maps.size (setOf tt (liars bound ops)) := by
    refine size_ge _ (liars_key bound ops) _ (List.Pairwise.filter _ List.nodup_range) ?_
    intro k hk
    obtain ⟨hk1, hk2⟩ := List.mem_filter.1 hk
    simp only [Bool.and_eq_true, decide_eq_true_eq] at hk2
    exact hl k (List.mem_range.1 hk1) hk2.1 hk2.2
  have hs : c.sup ≤ bound := (c.sup_le hi.q0 bound).2 ⟨by omega, by rw [c.above_over hi.ok]; omega⟩
  have := hi.s1
  exact ⟨hs, by omega⟩

end Go.Proofs.Ytflabbdnkoejjaa
