/- Plain: one key that is left in a table, or two, is listed. -/
import Derived.Test.YtnhagokkamobaaaDoorBlKeysPlain
import Derived.Test.YtnhagokkamobaaaDoorBlRun
import Derived.Test.YtnhagokkamobaaaDoorBl3
namespace Go.Proofs.YtnhagokkamobaaaDoor

/-! ### The difference of two tables, change by change -/
theorem zipWith_modify {α β γ : Type} (f : α → β → γ) (g : α → α) (g' : γ → γ) (h : ∀ a b, f (g a) b = g' (f a b)) : ∀ (l : List α) (m : List β) (i : Nat), List.zipWith f (l.modify i g) m = (List.zipWith f l m).modify i g'
  | [], m, i => by cases i <;> simp
  | a :: l, [], i => by cases i <;> simp
  | a :: l, b :: m, 0 => by simp [h]
  | a :: l, b :: m, i + 1 => by simp [zipWith_modify f g g' h l m i]
theorem zipWith_modify2 {α β γ : Type} (f : α → β → γ) (g : β → β) (g' : γ → γ) (h : ∀ a b, f a (g b) = g' (f a b)) : ∀ (l : List α) (m : List β) (i : Nat), List.zipWith f l (m.modify i g) = (List.zipWith f l m).modify i g'
  | [], m, i => by cases i <;> simp
  | a :: l, [], i => by cases i <;> simp
  | a :: l, b :: m, 0 => by simp [h]
  | a :: l, b :: m, i + 1 => by simp [zipWith_modify2 f g g' h l m i]

theorem sub_at1 (t u : BT) (k : List UInt8) (a : Int) (i : Nat) (hl : u.cells.length = t.cells.length) : (t.at1 k a i).sub u = (t.sub u).at1 k a i := by
  have hs : (t.sub u).seed = t.seed := rfl
  unfold BT.at1
  rw [sub_len hl, hs]
  unfold BT.sub
  simp only
  rw [zipWith_modify BC.sub _ (fun c => c.add k a (bhash t.seed 3 k)) (fun c d => by unfold BC.sub; exact BC.add_comm c k d.keys a (-d.count) _ _)]
theorem xorB_assoc : ∀ a b c : List UInt8, xorB a (xorB b c) = xorB (xorB a b) c
  | [], _, _ => by simp [xorB]
  | a :: us, [], _ => by simp [xorB]
  | a :: us, b :: vs, [] => by simp [xorB]
  | a :: us, b :: vs, c :: ws => by
    have := xorB_assoc us vs ws
    unfold xorB at this ⊢
    simp only [List.zipWith_cons_cons, List.cons.injEq]
    exact ⟨(UInt8.xor_assoc a b c).symm, this⟩
theorem wrap_sub_wrap (x y b : Int) : IntKind.i64.wrap (x + -(IntKind.i64.wrap (y + b))) = IntKind.i64.wrap (IntKind.i64.wrap (x + -y) + -b) := by
  rw [wrap_wrap_add]
  obtain ⟨k, hk⟩ := wrap_mod (y + b)
  rw [hk, show x + -(y + b + k * 18446744073709551616) = (x + -y + -b) + (-k) * 18446744073709551616 by omega, wrap_add_k]
theorem BC.sub_add (c d : BC) (k : List UInt8) (a : Int) (x : Nat) : c.sub (d.add k a x) = (c.sub d).add k (-a) x := by
  unfold BC.sub BC.add
  simp only [BC.mk.injEq]
  exact ⟨wrap_sub_wrap _ _ _, xorB_assoc _ _ _, (Nat.xor_assoc _ _ _).symm⟩
theorem sub_at2 (t u : BT) (k : List UInt8) (a : Int) (i : Nat) (hl : u.cells.length = t.cells.length) (hs : u.seed = t.seed) : t.sub (u.at1 k a i) = (t.sub u).at1 k (-a) i := by
  have hs2 : (t.sub u).seed = t.seed := rfl
  unfold BT.at1
  rw [sub_len hl, hs2, hl, hs]
  unfold BT.sub
  simp only
  rw [zipWith_modify2 BC.sub _ (fun c => c.add k (-a) (bhash t.seed 3 k)) (fun c d => BC.sub_add c d k a _)]
theorem sub_change (t u : BT) (k : List UInt8) (a : Int) (hl : u.cells.length = t.cells.length) : (t.change k a).sub u = (t.sub u).change k a := by
  unfold BT.change
  rw [sub_at1 _ _ _ _ _ (by simp [BT.at1_len, hl]), sub_at1 _ _ _ _ _ (by simp [BT.at1_len, hl]), sub_at1 _ _ _ _ _ hl]
theorem sub_change2 (t u : BT) (k : List UInt8) (a : Int) (hl : u.cells.length = t.cells.length) (hs : u.seed = t.seed) : t.sub (u.change k a) = (t.sub u).change k (-a) := by
  unfold BT.change
  rw [sub_at2 t ((u.at1 k a 0).at1 k a 1) _ _ _ (by simp [BT.at1_len, hl]) hs, sub_at2 t (u.at1 k a 0) _ _ _ (by simp [BT.at1_len, hl]) hs, sub_at2 t u _ _ _ hl hs]
theorem xorB_self : ∀ a : List UInt8, xorB a a = List.replicate a.length 0
  | [] => rfl
  | a :: us => by
    have := xorB_self us
    unfold xorB at this ⊢
    simp only [List.zipWith_cons_cons, List.length_cons, List.replicate_succ, List.cons.injEq]
    exact ⟨UInt8.xor_self, this⟩
theorem BC.sub_self {c : BC} (h : c.Ok) : c.sub c = BC.zero := by
  unfold BC.sub BC.add BC.zero
  simp only [BC.mk.injEq]
  refine ⟨?_, by rw [xorB_self, h.keys], Nat.xor_self _⟩
  rw [show c.count + -c.count = 0 by omega]
  decide
theorem sub_self {t : BT} (h : t.Ok) : t.sub t = BT.new t.cells.length t.seed := by
  unfold BT.sub BT.new
  have key : ∀ l : List BC, (∀ c ∈ l, c.Ok) → List.zipWith BC.sub l l = List.replicate l.length BC.zero := by
    intro l
    induction l with
    | nil => intro _; rfl
    | cons c l ih =>
      intro hl
      rw [List.zipWith_cons_cons, BC.sub_self (hl c (by simp)), ih fun x hx => hl x (by simp [hx])]
      rfl
  rw [key _ h.cells]

/-! ### Where a key's cells are -/
def inP (n seed : Nat) (k : List UInt8) (q : Nat) : Bool := Nat.beq (bplace n seed k 0) q || Nat.beq (bplace n seed k 1) q || Nat.beq (bplace n seed k 2) q
theorem beq_of {a b : Nat} : Nat.beq a b = true ↔ a = b := ⟨Nat.eq_of_beq_eq_true, fun h => by rw [h]; exact Nat.beq_refl b⟩
theorem inP_iff {n seed : Nat} {k : List UInt8} {q : Nat} : inP n seed k q = true ↔ ∃ j, j < 3 ∧ bplace n seed k j = q := by
  unfold inP
  rw [Bool.or_eq_true, Bool.or_eq_true, beq_of, beq_of, beq_of]
  constructor
  · rintro ((h | h) | h)
    · exact ⟨0, by omega, h⟩
    · exact ⟨1, by omega, h⟩
    · exact ⟨2, by omega, h⟩
  · rintro ⟨j, hj, h⟩
    match j, hj with
    | 0, _ => exact .inl (.inl h)
    | 1, _ => exact .inl (.inr h)
    | 2, _ => exact .inr h
theorem modify_get {α : Type} (l : List α) (i q : Nat) (f : α → α) : (l.modify i f)[q]? = (l[q]?).map fun c => if i = q then f c else c := by
  rw [List.getElem?_modify]
  cases l[q]? with
  | none => rfl
  | some c => by_cases h : i = q <;> simp [h]
theorem change_get {t : BT} (hn : 3 ≤ t.cells.length) (k : List UInt8) (a : Int) (q : Nat) : (t.change k a).cells[q]? = (t.cells[q]?).map fun c => if inP t.cells.length t.seed k q then c.add k a (bhash t.seed 3 k) else c := by
  have d1 := bplace_ne t.cells.length t.seed k k 0 1 hn (by omega)
  have d2 := bplace_ne t.cells.length t.seed k k 1 2 hn (by omega)
  unfold BT.change BT.at1
  simp only [List.length_modify]
  rw [modify_get, modify_get, modify_get]
  cases t.cells[q]? with
  | none => rfl
  | some c =>
    simp only [Option.map_some, Option.some.injEq]
    unfold inP
    by_cases h0 : bplace t.cells.length t.seed k 0 = q
    · have e1 : ¬ bplace t.cells.length t.seed k 1 = q := by omega
      have e2 : ¬ bplace t.cells.length t.seed k 2 = q := by omega
      rw [if_pos h0, if_neg e1, if_neg e2, if_pos (by rw [beq_of.2 h0]; rfl)]
    · rw [if_neg h0]
      have b0 : Nat.beq (bplace t.cells.length t.seed k 0) q = false := by
        cases h : Nat.beq (bplace t.cells.length t.seed k 0) q with
        | false => rfl
        | true => exact (h0 (beq_of.1 h)).elim
      by_cases h1 : bplace t.cells.length t.seed k 1 = q
      · have e2 : ¬ bplace t.cells.length t.seed k 2 = q := by omega
        rw [if_pos h1, if_neg e2, if_pos (by rw [b0, beq_of.2 h1]; rfl)]
      · rw [if_neg h1]
        have b1 : Nat.beq (bplace t.cells.length t.seed k 1) q = false := by
          cases h : Nat.beq (bplace t.cells.length t.seed k 1) q with
          | false => rfl
          | true => exact (h1 (beq_of.1 h)).elim
        by_cases h2 : bplace t.cells.length t.seed k 2 = q
        · rw [if_pos h2, if_pos (by rw [b0, b1, beq_of.2 h2]; rfl)]
        · have b2 : Nat.beq (bplace t.cells.length t.seed k 2) q = false := by
            cases h : Nat.beq (bplace t.cells.length t.seed k 2) q with
            | false => rfl
            | true => exact (h2 (beq_of.1 h)).elim
          rw [if_neg h2, if_neg (by rw [b0, b1, b2]; decide)]

/-! ### Cells that hold one key or two -/
theorem xorB_zero : ∀ k : List UInt8, xorB (List.replicate k.length 0) k = k
  | [] => rfl
  | a :: us => by
    have := xorB_zero us
    unfold xorB at this ⊢
    simp only [List.length_cons, List.replicate_succ, List.zipWith_cons_cons, List.cons.injEq]
    exact ⟨UInt8.zero_xor, this⟩
theorem zero_add_key {k : List UInt8} (hk : k.length = 32) {a : Int} (ha : a = 1 ∨ a = -1) (x : Nat) : BC.zero.add k a x = ⟨a, k, x⟩ := by
  unfold BC.add BC.zero
  simp only [BC.mk.injEq]
  refine ⟨?_, ?_, Nat.zero_xor _⟩
  · rcases ha with rfl | rfl <;> decide
  · have := xorB_zero k
    rw [hk] at this
    exact this
theorem pure_zero (seed : Nat) : BC.zero.pure seed = false := by simp [BC.pure, BC.zero]
theorem pure_one {seed : Nat} {k : List UInt8} {a : Int} (ha : a = 1 ∨ a = -1) : (⟨a, k, bhash seed 3 k⟩ : BC).pure seed = true := by
  rcases ha with rfl | rfl <;> simp [BC.pure]
theorem pure_two {seed : Nat} {k l : List UInt8} {a b : Int} (ha : a = 1) (hb : b = 1 ∨ b = -1) (x y : Nat) : ((⟨a, k, x⟩ : BC).add l b y).pure seed = false := by
  have h : ((⟨a, k, x⟩ : BC).add l b y).count = 2 ∨ ((⟨a, k, x⟩ : BC).add l b y).count = 0 := by
    subst ha
    rcases hb with rfl | rfl
    · left; show IntKind.i64.wrap (1 + 1) = 2; decide
    · right; show IntKind.i64.wrap (1 + -1) = 0; decide
  unfold BC.pure
  rcases h with h | h <;> simp [h]

theorem first_spec {t : BT} {i : Nat} {c : BC} (hc : t.cells[i]? = some c) (hp : c.pure t.seed = true) : ∃ j d, t.first = some j ∧ t.cells[j]? = some d ∧ d.pure t.seed = true ∧ t.cellAt j = d := by
  cases h : t.first with
  | none =>
    unfold BT.first at h
    rw [List.findIdx?_eq_none_iff] at h
    have := h c (List.mem_of_getElem? hc)
    rw [hp] at this
    cases this
  | some j =>
    obtain ⟨d, h1, h2, h3⟩ := first_some h
    exact ⟨j, d, rfl, h1, h2, h3⟩
theorem first_none {t : BT} (h : ∀ (i : Nat) (c : BC), t.cells[i]? = some c → c.pure t.seed = false) : t.first = none := by
  unfold BT.first
  rw [List.findIdx?_eq_none_iff]
  intro c hc
  obtain ⟨i, hi⟩ := List.getElem?_of_mem hc
  exact h i c hi

theorem sortS_nil : sortS [] = [] := by simp [sortS]
theorem sortS_one (k : List UInt8) : sortS [k] = [k] := by simp [sortS]
section
variable {n seed : Nat}
theorem new_len (n seed : Nat) : (BT.new n seed).cells.length = n := by simp [BT.new]
theorem new_get {i : Nat} (h : i < n) : (BT.new n seed).cells[i]? = some BC.zero := by simp [BT.new, h]
theorem new_first : (BT.new n seed).first = none := first_none fun i c hc => by
  have h := List.mem_of_getElem? hc
  rw [show (BT.new n seed).cells = List.replicate n BC.zero from rfl] at h
  rw [List.eq_of_mem_replicate h]
  exact pure_zero _
theorem one_get (hn : 3 ≤ n) {k : List UInt8} (hk : k.length = 32) {a : Int} (ha : a = 1 ∨ a = -1) {q : Nat} (hq : q < n) : ((BT.new n seed).change k a).cells[q]? = some (if inP n seed k q then ⟨a, k, bhash seed 3 k⟩ else BC.zero) := by
  rw [change_get (by rw [new_len]; exact hn), new_len, new_get hq, Option.map_some]
  show some (if inP n seed k q then BC.zero.add k a (bhash seed 3 k) else BC.zero) = _
  rw [zero_add_key hk ha]
theorem change_undo' (hs : U64 seed) {k : List UInt8} (hk : k.length = 32) {a : Int} : ((BT.new n seed).change k a).change k (-a) = BT.new n seed := BT.change_undo (BT.Ok.new n seed hs) k hk a

/-- What is left when one key has been taken out of a table that holds it alone. -/
theorem peel_one (hn : 3 ≤ n) (hs : U64 seed) {k : List UInt8} (hk : k.length = 32) {a : Int} (ha : a = 1 ∨ a = -1) {tk ad rm : List (List UInt8)} (ht : tk.contains k = false) (m : Nat) :
    peel (m + 1) ⟨(BT.new n seed).change k a, tk, ad, rm⟩ = some ⟨BT.new n seed, k :: tk, if a = 1 then ad ++ [k] else ad, if a = 1 then rm else rm ++ [k]⟩ := by
  have hsd : ((BT.new n seed).change k a).seed = seed := change_seed _ _ _
  have hp : bplace n seed k 0 < n := bplace_lt n seed k 0 hn (by omega)
  have hg := one_get (seed := seed) hn hk ha hp
  rw [if_pos (inP_iff.2 ⟨0, by omega, rfl⟩)] at hg
  obtain ⟨j, d, h1, h2, h3, h4⟩ := first_spec hg (by rw [hsd]; exact pure_one ha)
  have hj : j < n := by have := (List.getElem?_eq_some_iff.1 h2).1; rwa [change_len, new_len] at this
  rw [one_get hn hk ha hj] at h2
  injection h2 with h2
  have hd : d = ⟨a, k, bhash seed 3 k⟩ := by
    cases hi : inP n seed k j with
    | true => rw [hi, if_pos rfl] at h2; exact h2.symm
    | false =>
      rw [hi, if_neg (by decide)] at h2
      rw [← h2, hsd, pure_zero] at h3
      cases h3
  have hc : tk.contains (((BT.new n seed).change k a).cellAt j).keys = false := by rw [h4, hd]; exact ht
  have hst := peel_step m (Peel.mk ((BT.new n seed).change k a) tk ad rm) j h1 hc
  rw [hst]
  simp only [h4, hd]
  unfold Peel.take
  simp only
  rw [change_undo' hs hk]
  exact peel_none m (Peel.mk (BT.new n seed) (k :: tk) _ _) new_first

theorem few_one (hn : 3 ≤ n) (hs : U64 seed) {k : List UInt8} (hk : k.length = 32) : ((BT.new n seed).change k 1).keys = some ([k], []) := by
  unfold BT.keys BT.raw
  rw [change_len, new_len]
  obtain ⟨m, rfl⟩ : ∃ m, n = m + 1 := ⟨n - 1, by omega⟩
  rw [peel_one hn hs hk (.inl rfl) rfl m]
  simp [new_empty, sortS_nil, sortS_one]

/-- Two keys whose cells are not all the same. -/
theorem two_get (hn : 3 ≤ n) {k l : List UInt8} (hk : k.length = 32) (hl : l.length = 32) {b : Int} (hb : b = 1 ∨ b = -1) {q : Nat} (hq : q < n) :
    (((BT.new n seed).change k 1).change l b).cells[q]? = some (if inP n seed k q then (if inP n seed l q then (⟨1, k, bhash seed 3 k⟩ : BC).add l b (bhash seed 3 l) else ⟨1, k, bhash seed 3 k⟩) else (if inP n seed l q then ⟨b, l, bhash seed 3 l⟩ else BC.zero)) := by
  rw [change_get (by rw [change_len, new_len]; exact hn), change_len, new_len, one_get hn hk (.inl rfl) hq, Option.map_some, change_seed]
  show some (if inP n seed l q then BC.add _ l b (bhash seed 3 l) else _) = _
  cases inP n seed k q <;> cases inP n seed l q <;> simp [zero_add_key hl hb]
theorem few_two (hn : 3 ≤ n) (hs : U64 seed) {k l : List UInt8} (hk : k.length = 32) (hl : l.length = 32) (hne : k ≠ l) {b : Int} (hb : b = 1 ∨ b = -1) {j : Nat} (hj : j < 3) (hp : bplace n seed k j ≠ bplace n seed l j) :
    (((BT.new n seed).change k 1).change l b).keys = some (if b = 1 then (sortS [k, l], []) else ([k], [l])) := by
  have hsd : (((BT.new n seed).change k 1).change l b).seed = seed := by rw [change_seed, change_seed]; rfl
  have hcl : (((BT.new n seed).change k 1).change l b).cells.length = n := by rw [change_len, change_len, new_len]
  have hq : bplace n seed k j < n := bplace_lt n seed k j hn hj
  have hnot : inP n seed l (bplace n seed k j) = false := by
    cases h : inP n seed l (bplace n seed k j) with
    | false => rfl
    | true =>
      obtain ⟨i, hi, he⟩ := inP_iff.1 h
      rcases Nat.lt_trichotomy i j with h1 | h1 | h1
      · have := bplace_ne n seed l k i j hn h1; omega
      · subst h1; exact (hp he.symm).elim
      · have := bplace_ne n seed k l j i hn h1; omega
  have hg := two_get (seed := seed) hn hk hl hb hq
  rw [if_pos (inP_iff.2 ⟨j, hj, rfl⟩), hnot, if_neg (by decide)] at hg
  obtain ⟨i, d, h1, h2, h3, h4⟩ := first_spec hg (by rw [hsd]; exact pure_one (.inl rfl))
  have hi : i < n := by have := (List.getElem?_eq_some_iff.1 h2).1; rwa [hcl] at this
  rw [two_get hn hk hl hb hi] at h2
  injection h2 with h2
  have hd : d = ⟨1, k, bhash seed 3 k⟩ ∨ d = ⟨b, l, bhash seed 3 l⟩ := by
    rw [hsd] at h3
    revert h2
    cases inP n seed k i <;> cases inP n seed l i <;> intro h2
    · simp at h2; rw [← h2, pure_zero] at h3; cases h3
    · simp at h2; exact .inr h2.symm
    · simp at h2; exact .inl h2.symm
    · simp only [if_pos] at h2
      rw [← h2, pure_two rfl hb] at h3
      cases h3
  unfold BT.keys BT.raw
  rw [hcl]
  obtain ⟨m, rfl⟩ : ∃ m, n = (m + 1) + 1 := ⟨n - 2, by omega⟩
  have hst := peel_step (m + 1) (Peel.mk (((BT.new (m + 1 + 1) seed).change k 1).change l b) [] [] []) i h1 rfl
  rw [hst]
  simp only [h4]
  rcases hd with rfl | rfl
  · unfold Peel.take
    simp only [if_pos]
    rw [BT.change_comm _ l k b, change_undo' hs hk, peel_one hn hs hl hb (by simp; exact fun h => hne h.symm) m]
    simp only [new_empty, if_pos, Option.map_some]
    rcases hb with rfl | rfl
    · simp [sortS_nil]
    · simp [sortS_one]
  · unfold Peel.take
    simp only
    have e : (((BT.new (m + 1 + 1) seed).change k 1).change l b).change l (-b) = (BT.new (m + 1 + 1) seed).change k 1 := BT.change_undo ((BT.Ok.new _ _ hs).change hk 1) l hl b
    rw [e, peel_one hn hs hk (.inl rfl) (by simp; exact hne) m]
    simp only [new_empty, if_pos, Option.map_some]
    rcases hb with rfl | rfl
    · simp [sortS_nil]
      exact sorted_eq ((sortS_perm [l, k]).trans ((List.Perm.swap k l []).trans (sortS_perm [k, l]).symm)) (sortS_sorted _) (sortS_sorted _)
    · simp [sortS_one]
/-- Two keys whose cells are all the same. -/
theorem few_none (hn : 3 ≤ n) {k l : List UInt8} (hk : k.length = 32) (hl : l.length = 32) (hne : k ≠ l) {b : Int} (hb : b = 1 ∨ b = -1) (hp : ∀ j, j < 3 → bplace n seed k j = bplace n seed l j) :
    (((BT.new n seed).change k 1).change l b).keys = none := by
  have hsd : (((BT.new n seed).change k 1).change l b).seed = seed := by rw [change_seed, change_seed]; rfl
  have hcl : (((BT.new n seed).change k 1).change l b).cells.length = n := by rw [change_len, change_len, new_len]
  have hin : ∀ q, inP n seed l q = inP n seed k q := by
    intro q
    unfold inP
    rw [hp 0 (by omega), hp 1 (by omega), hp 2 (by omega)]
  have hf : (((BT.new n seed).change k 1).change l b).first = none := first_none fun i c hc => by
    have hi : i < n := by have := (List.getElem?_eq_some_iff.1 hc).1; rwa [hcl] at this
    rw [two_get hn hk hl hb hi, hin] at hc
    injection hc with hc
    rw [hsd]
    revert hc
    cases inP n seed k i <;> intro hc
    · simp at hc; rw [← hc]; exact pure_zero _
    · simp only [if_pos] at hc; rw [← hc]; exact pure_two rfl hb _ _
  have he : (((BT.new n seed).change k 1).change l b).empty = false := by
    cases h : (((BT.new n seed).change k 1).change l b).empty with
    | false => rfl
    | true =>
      have hq := bplace_lt n seed k 0 hn (by omega)
      have hg := two_get (seed := seed) hn hk hl hb hq
      rw [hin, if_pos (inP_iff.2 ⟨0, by omega, rfl⟩), if_pos (inP_iff.2 ⟨0, by omega, rfl⟩)] at hg
      have h1 := List.all_eq_true.1 h _ (List.mem_of_getElem? hg)
      simp only [BC.isZero, Bool.and_eq_true, decide_eq_true_eq] at h1
      have h2 : xorB k l = List.replicate 32 0 := h1.1.2
      have h3 := xorB_undo k l (by rw [hk, hl])
      rw [h2] at h3
      have h4 := xorB_zero l
      rw [hl] at h4
      exact (hne (h3.symm.trans h4)).elim
  unfold BT.keys BT.raw
  rw [peel_none _ (Peel.mk (((BT.new n seed).change k 1).change l b) [] [] []) hf]
  simp [he]
end
end Go.Proofs.YtnhagokkamobaaaDoor
