/- Part 4 of a proof about rangesum: what its row uses. -/
import Derived.Test.YtaiggifiefnjnaaGreatDoorCt03
set_option maxRecDepth 100000
set_option maxHeartbeats 1000000
namespace Go.Proofs.YtaiggifiefnjnaaGreatDoor
open Go.RowKit
section
variable {α β : Type} [DecidableEq α]
theorem kvGet_cons (p : α × β) (l : List (α × β)) (a : α) : kvGet (p :: l) a = if p.1 = a then some p.2 else kvGet l a := by
 unfold kvGet
 rw [List.find?_cons]
 by_cases h : p.1 = a
 ·simp [h]
 ·simp [h]
theorem kvGet_append (l1 l2 : List (α × β)) (a : α) : kvGet (l1 ++ l2) a = (kvGet l1 a).or (kvGet l2 a) := by
 induction l1 with
 | nil => simp [kvGet]
 | cons p l ih =>
   rw [List.cons_append, kvGet_cons, kvGet_cons, ih]
   by_cases h : p.1 = a
   ·simp [h]
   ·simp [h]
theorem kvGet_put (kv : List (α × β)) (a b : α) (v : β) : kvGet (kvPut kv a v) b = if a = b then some v else kvGet kv b := by
 unfold kvPut
 by_cases h : (kvGet kv a).isSome
 ·rw [if_pos h]
  have key : ∀ l : List (α × β), (kvGet l a).isSome = true → kvGet (l.map fun p => if p.1 = a then (a, v) else p) b = if a = b then some v else kvGet l b := by
   have aux : ∀ l : List (α × β), a ≠ b → kvGet (l.map fun p => if p.1 = a then (a, v) else p) b = kvGet l b := by
    intro l hne
    induction l with
    | nil => rfl
    | cons p l ih =>
      rw [List.map_cons, kvGet_cons, kvGet_cons, ih]
      by_cases hp : p.1 = a
      ·rw [if_pos hp, if_neg hne, if_neg (by rw [hp]; exact hne)]
      ·rw [if_neg hp]
   intro l
   by_cases hab : a = b
   ·subst hab
    rw [if_pos rfl]
    induction l with
    | nil => intro h; cases h
    | cons p l ih =>
      intro h
      rw [List.map_cons, kvGet_cons]
      by_cases hp : p.1 = a
      ·rw [if_pos hp, if_pos rfl]
      ·rw [if_neg hp, if_neg hp]
       rw [kvGet_cons, if_neg hp] at h
       exact ih h
   ·intro _
    rw [if_neg hab, aux l hab]
  exact key kv h
 ·rw [if_neg h, kvGet_append, kvGet_cons]
  have hn : kvGet kv a = none := by
   cases hk : kvGet kv a with
   | none => rfl
   | some v => rw [hk] at h; exact (h rfl).elim
  by_cases hab : a = b
  ·subst hab
   rw [hn]
   simp
  ·rw [if_neg hab, if_neg hab]
   cases kvGet kv b <;> simp [kvGet]
end
/-! ### What scan finds -/
def plAt (g : Nat → Bs) (s : Nat) : Option Pl := if nzB (g s) && okB s (g s) then some (plOf s (g s)) else none
def foundL (g : Nat → Bs) (n k : Nat) : List Pl := ((List.range n).filterMap (plAt g)).filter fun p => p.num == k
theorem foundL_succ (g : Nat → Bs) (n k : Nat) : foundL g (n + 1) k = foundL g n k ++ (match plAt g n with | some p => if p.num = k then [p] else [] | none => []) := by
 unfold foundL
 rw [List.range_succ, List.filterMap_append, List.filter_append]
 congr 1
 rw [List.filterMap_cons]
 cases h : plAt g n with
 | none => rfl
 | some p => simp only [List.filterMap_nil, List.filter_cons, List.filter_nil, beq_iff_eq]
theorem scanT_get (g : Nat → Bs) (n k : Nat) : kvGet (scanT g n).1 k = if foundL g n k = [] then none else some (foundL g n k) := by
 induction n generalizing k with
 | zero => rfl
 | succ n ih =>
   have hstep : (scanT g (n + 1)).1 = match plAt g n with | some p => addPl (scanT g n).1 p | none => (scanT g n).1 := by
    rw [scanT]
    unfold plAt
    cases nzB (g n) <;> cases okB n (g n) <;> rfl
   rw [hstep, foundL_succ]
   cases h : plAt g n with
   | none => simp only [List.append_nil]; exact ih k
   | some p =>
     simp only
     unfold addPl
     rw [kvGet_put, ih k, ih p.num]
     by_cases hk : p.num = k
     ·subst hk
      simp only [if_true]
      rw [if_neg (show ¬ (foundL g n p.num ++ [p] = []) by simp)]
      by_cases he : foundL g n p.num = []
      ·rw [if_pos he, he]; rfl
      ·rw [if_neg he]; rfl
     ·rw [if_neg hk, if_neg hk, List.append_nil]
theorem mem_foundL {g : Nat → Bs} {n k : Nat} {p : Pl} : p ∈ foundL g n k ↔ p.sec < n ∧ plAt g p.sec = some p ∧ p.num = k := by
 unfold foundL
 rw [List.mem_filter, List.mem_filterMap]
 constructor
 ·rintro ⟨⟨s, hs, h1⟩, h2⟩
  have e : p.sec = s := by
   unfold plAt at h1
   split at h1
   ·cases h1; rfl
   ·cases h1
  rw [e]
  exact ⟨List.mem_range.1 hs, h1, by simpa using h2⟩
 ·rintro ⟨h1, h2, h3⟩
  exact ⟨⟨p.sec, List.mem_range.2 h1, h2⟩, by simpa using h3⟩
theorem foundL_nodup (g : Nat → Bs) (n k : Nat) : ((foundL g n k).map Pl.sec).Nodup := by
 unfold foundL
 refine List.Nodup.sublist (List.filter_sublist.map _) ?_
 have e : ∀ l : List Nat, (l.filterMap (plAt g)).map Pl.sec = l.filter fun s => (plAt g s).isSome := by
  intro l
  induction l with
  | nil => rfl
  | cons s l ih =>
    rw [List.filterMap_cons, List.filter_cons]
    cases h : plAt g s with
    | none => simp only [Option.isSome_none, Bool.false_eq_true, if_false]; exact ih
    | some p =>
      simp only [Option.isSome_some, if_true, List.map_cons, ih]
      have : p.sec = s := by
       unfold plAt at h
       split at h
       ·cases h; rfl
       ·cases h
      rw [this]
 rw [e]
 exact List.nodup_range.sublist List.filter_sublist
theorem mem_written {g : Nat → Bs} {n s : Nat} (h : s ∈ (scanT g n).2) : s < n ∧ nzB (g s) = true := by
 induction n with
 | zero => cases h
 | succ n ih =>
   rw [scanT] at h
   split at h
   ·rename_i hz
    simp only [List.mem_append, List.mem_singleton] at h
    rcases h with h | rfl
    ·have := ih h; exact ⟨by omega, this.2⟩
    ·exact ⟨by omega, hz⟩
   ·have := ih h; exact ⟨by omega, this.2⟩
theorem valB_zero {l : Bs} (h : ∀ x ∈ l, x = 0) : valB l = 0 := by
 have key : ∀ n, ∀ l : Bs, l.length = n → (∀ x ∈ l, x = 0) → valB l = 0 := by
  intro n
  induction n with
  | zero => intro l hl _; obtain rfl := List.eq_nil_of_length_eq_zero hl; rfl
  | succ n ih =>
    intro l hl h
    obtain ⟨x, hx⟩ : ∃ x, l[n]? = some x := ⟨_, List.getElem?_eq_getElem (by omega)⟩
    have h1 := valB_take hx
    rw [List.take_of_length_le (by omega), ih (l.take n) (by simp; omega) (fun y hy => h y (List.mem_of_mem_take hy)), h x (List.mem_of_getElem? hx)] at h1
    exact h1
 exact key _ l rfl h
theorem nzB_head {x : Bs} (h : (headB x).2.2 ≠ 0) : nzB x = true := by
 cases hn : nzB x with
 | true => rfl
 | false =>
   exfalso
   apply h
   unfold nzB at hn
   rw [List.any_eq_false] at hn
   refine valB_zero fun y hy => ?_
   have := hn y (List.mem_of_mem_drop (List.mem_of_mem_take (List.mem_of_mem_drop hy)))
   simpa using this
/-! ### A disk that holds blobs -/
structure BlOk (sz : Nat) (b : Bl) : Prop where
 k1 : 1 ≤ b.key.length
 k2 : b.key.length ≤ 64
 d : b.data.length ≤ 65536
 n : b.num ≤ 1000000
 l : b.secs.length = needN sz b.len
structure DI (sz first n : Nat) (bl : List Bl) (secs : List Bs) : Prop where
 z1 : 64 ≤ sz
 z2 : sz ≤ 4096
 n2 : n ≤ 1000
 f2 : first ≤ 1000
 len : first + n ≤ secs.length
 ok : ∀ b ∈ bl, BlOk sz b
 own : ∀ b ∈ bl, ∀ i s, b.secs[i]? = some s → s < n ∧ secs[first + s]? = some (b.sec sz i s)
 zero : ∀ s, s < n → (∀ b ∈ bl, s ∉ b.secs) → secs[first + s]? = some (zerosB sz)
 nd : (bl.flatMap Bl.secs).Nodup
 keys : (bl.map Bl.key).Nodup
 nums : (bl.map Bl.num).Nodup
section
variable {sz first n : Nat} {bl : List Bl} {secs : List Bs}
theorem Bl.len_le {b : Bl} (h : BlOk sz b) : 34 ≤ b.len ∧ b.len ≤ 65633 := by
 have := h.k1; have := h.k2; have := h.d
 unfold Bl.len
 omega
theorem DI.secs_nd (h : DI sz first n bl secs) {b : Bl} (hb : b ∈ bl) : b.secs.Nodup := (List.pairwise_flatMap.1 h.nd).1 b hb
theorem DI.bnum (h : DI sz first n bl secs) {b b' : Bl} (hb : b ∈ bl) (hb' : b' ∈ bl) (hn : b.num = b'.num) : b = b' := by
 obtain ⟨i, hi, e1⟩ := List.mem_iff_getElem.1 hb
 obtain ⟨j, hj, e2⟩ := List.mem_iff_getElem.1 hb'
 have e : (bl.map Bl.num)[i]'(by simpa using hi) = (bl.map Bl.num)[j]'(by simpa using hj) := by simp [e1, e2, hn]
 have := (List.getElem_inj h.nums).1 e
 subst this
 exact e1.symm.trans e2
theorem DI.idx (h : DI sz first n bl secs) {b : Bl} (hb : b ∈ bl) {i s : Nat} (hs : b.secs[i]? = some s) : i ≤ 3000 := by
 have h1 := (List.getElem?_eq_some_iff.1 hs).1
 have h2 := (h.ok b hb).l
 have h3 := Bl.len_le (h.ok b hb)
 have h4 : needN sz b.len ≤ 2100 := by
  unfold needN
  have hr : 32 ≤ sz - 32 := by have := h.z1; omega
  refine Nat.le_of_lt_succ ((Nat.div_lt_iff_lt_mul (by omega)).2 ?_)
  have hz := h.z2
  have : 2101 * 32 ≤ 2101 * (sz - 32) := Nat.mul_le_mul_left _ hr
  have h5 : 2101 * (sz - 32) = 2100 * (sz - 32) + (sz - 32) := by rw [show 2101 = 2100 + 1 from rfl, Nat.add_mul, Nat.one_mul]
  have h6 : 2100 * 32 ≤ 2100 * (sz - 32) := Nat.mul_le_mul_left _ hr
  show b.len + (sz - 32) - 1 < 2101 * (sz - 32)
  omega
 omega
theorem DI.at_own (h : DI sz first n bl secs) {b : Bl} (hb : b ∈ bl) {i s : Nat} (hs : b.secs[i]? = some s) : plAt (secG first secs) s = some ⟨s, b.num, i, b.len⟩ := by
 obtain ⟨h1, h2⟩ := h.own b hb i s hs
 have hg : secG first secs s = b.sec sz i s := by unfold secG; rw [List.getD, h2]; rfl
 have hk := h.ok b hb
 have hl := Bl.len_le hk
 have hi := h.idx hb hs
 have hn := hk.n
 have hd : headB (b.sec sz i s) = (b.num, i, b.len) := headB_pack (by omega) (by omega) (by omega)
 unfold plAt
 rw [hg, nzB_head (by rw [hd]; simp only; omega), show okB s (b.sec sz i s) = true from okB_pack]
 unfold plOf
 rw [hd]
 rfl
theorem DI.at_zero (h : DI sz first n bl secs) {s : Nat} (hs : s < n) (ho : ∀ b ∈ bl, s ∉ b.secs) : nzB (secG first secs s) = false := by
 have hg : secG first secs s = zerosB sz := by unfold secG; rw [List.getD, h.zero s hs ho]; rfl
 rw [hg, nzB_zeros]
theorem DI.nz (h : DI sz first n bl secs) {s : Nat} (hs : s < n) (hz : nzB (secG first secs s) = true) : ∃ b ∈ bl, s ∈ b.secs := by
 by_cases hb : ∃ b ∈ bl, s ∈ b.secs
 ·exact hb
 ·rw [h.at_zero hs fun b hb' hs' => hb ⟨b, hb', hs'⟩] at hz
  cases hz
theorem DI.mem_found (h : DI sz first n bl secs) {b : Bl} (hb : b ∈ bl) {p : Pl} : p ∈ foundL (secG first secs) n b.num ↔ b.secs[p.idx]? = some p.sec ∧ p.num = b.num ∧ p.st = b.len := by
 rw [mem_foundL]
 constructor
 ·rintro ⟨h1, h2, h3⟩
  have hz : nzB (secG first secs p.sec) = true := by
   unfold plAt at h2
   cases hz : nzB (secG first secs p.sec) with
   | true => rfl
   | false => rw [hz] at h2; cases h2
  obtain ⟨b', hb', hs'⟩ := h.nz h1 hz
  obtain ⟨i, hi, e⟩ := List.mem_iff_getElem.1 hs'
  have hs2 : b'.secs[i]? = some p.sec := by rw [List.getElem?_eq_getElem hi, e]
  rw [h.at_own hb' hs2] at h2
  have e2 := Option.some.inj h2
  have f1 : b'.num = p.num := congrArg Pl.num e2
  have f2 : i = p.idx := congrArg Pl.idx e2
  have f3 : b'.len = p.st := congrArg Pl.st e2
  have := h.bnum hb' hb (f1.trans h3)
  subst this
  exact ⟨by rw [← f2]; exact hs2, f1.symm, f3.symm⟩
 ·rintro ⟨h1, h2, h3⟩
  have h4 := h.own b hb _ _ h1
  refine ⟨h4.1, ?_, h2⟩
  rw [h.at_own hb h1, ← h2, ← h3]
theorem DI.found (h : DI sz first n bl secs) {b : Bl} (hb : b ∈ bl) : ∃ pls, kvGet (scanT (secG first secs) n).1 b.num = some pls ∧ (∀ p ∈ pls, p.num = b.num ∧ p.st = b.len ∧ p.idx < pls.length) ∧ pls.length = b.secs.length ∧ (pls.map Pl.idx).Nodup ∧ arrS pls = b.secs := by
 obtain ⟨pls, hp⟩ : ∃ pls, pls = foundL (secG first secs) n b.num := ⟨_, rfl⟩
 have hm : ∀ p, p ∈ pls ↔ b.secs[p.idx]? = some p.sec ∧ p.num = b.num ∧ p.st = b.len := fun p => by rw [hp]; exact h.mem_found hb
 have hnd : (pls.map Pl.sec).Nodup := by rw [hp]; exact foundL_nodup _ _ _
 have hlen : pls.length = b.secs.length := by
  have : (pls.map Pl.sec).Perm b.secs := (List.perm_ext_iff_of_nodup hnd (h.secs_nd hb)).2 fun s => by
   rw [List.mem_map]
   constructor
   ·rintro ⟨p, h1, rfl⟩
    exact List.mem_of_getElem? ((hm p).1 h1).1
   ·intro hs
    obtain ⟨i, hi, e⟩ := List.mem_iff_getElem.1 hs
    exact ⟨⟨s, b.num, i, b.len⟩, (hm _).2 ⟨by rw [List.getElem?_eq_getElem hi, e], rfl, rfl⟩, rfl⟩
  have := this.length_eq
  simpa using this
 have hidx : ∀ p ∈ pls, p.idx < pls.length := fun p h1 => by rw [hlen]; exact (List.getElem?_eq_some_iff.1 ((hm p).1 h1).1).1
 have hni : (pls.map Pl.idx).Nodup := by
  unfold List.Nodup at hnd ⊢
  rw [List.pairwise_map] at hnd ⊢
  refine hnd.imp_of_mem fun {p q} hp' hq' hne e => hne ?_
  have h1 := ((hm p).1 hp').1
  have h2 := ((hm q).1 hq').1
  rw [e, h2] at h1
  exact (Option.some.inj h1).symm
 refine ⟨pls, ?_, fun p h1 => ⟨((hm p).1 h1).2.1, ((hm p).1 h1).2.2, hidx p h1⟩, hlen, hni, ?_⟩
 ·rw [scanT_get, ← hp, if_neg]
  intro e
  rw [e] at hlen
  have h1 := (h.ok b hb).l
  have h2 := Bl.len_le (h.ok b hb)
  have := need_pos (sz := sz) (n := b.len) (by have := h.z1; omega) (by omega)
  rw [← h1, ← hlen] at this
  cases this
 ·refine List.ext_getElem? fun i => ?_
  rcases Nat.lt_or_ge i b.secs.length with hi | hi
  ·have hs : b.secs[i]? = some b.secs[i] := List.getElem?_eq_getElem hi
   have hp' := (hm ⟨b.secs[i], b.num, i, b.len⟩).2 ⟨hs, rfl, rfl⟩
   have := foldSet_in (fun p => p.sec) (z := List.replicate pls.length 0) hni hp' (by rw [List.length_replicate]; show i < _; omega)
   unfold arrS arrT
   rw [List.take_length, hs]
   exact this
  ·rw [List.getElem?_eq_none hi, List.getElem?_eq_none (by unfold arrS; rw [arrT_len]; omega)]
theorem DI.keysF (h : DI sz first n bl secs) {k : Nat} (hk : kvGet (scanT (secG first secs) n).1 k ≠ none) : ∃ b ∈ bl, b.num = k := by
 rw [scanT_get] at hk
 split at hk
 ·exact (hk rfl).elim
 ·rename_i hne
  obtain ⟨p, hp⟩ := List.exists_mem_of_ne_nil _ hne
  rw [mem_foundL] at hp
  obtain ⟨h1, h2, h3⟩ := hp
  have hz : nzB (secG first secs p.sec) = true := by
   unfold plAt at h2
   cases hz : nzB (secG first secs p.sec) with
   | true => rfl
   | false => rw [hz] at h2; cases h2
  obtain ⟨b', hb', hs'⟩ := h.nz h1 hz
  obtain ⟨i, hi, e⟩ := List.mem_iff_getElem.1 hs'
  have hs2 : b'.secs[i]? = some p.sec := by rw [List.getElem?_eq_getElem hi, e]
  rw [h.at_own hb' hs2] at h2
  have e2 := Option.some.inj h2
  have f1 : b'.num = p.num := congrArg Pl.num e2
  exact ⟨b', hb', f1.trans h3⟩
end
theorem map_perm {α β : Type} {f : α → β} {l : List β} {m : List α} (h : l.Perm (m.map f)) : ∃ k : List α, k.Perm m ∧ k.map f = l := by
 obtain ⟨l2, hl2⟩ : ∃ l2, l2 = m.map f := ⟨_, rfl⟩
 rw [← hl2] at h
 induction h generalizing m with
 | nil =>
   have : m = [] := by simpa using hl2.symm
   subst this
   exact ⟨[], .refl _, rfl⟩
 | cons x _ ih =>
   cases m with
   | nil => cases hl2
   | cons y m =>
     rw [List.map_cons] at hl2
     injection hl2 with e1 e2
     obtain ⟨k, hk, e⟩ := ih e2
     exact ⟨y :: k, hk.cons y, by rw [List.map_cons, e, e1]⟩
 | swap x y l =>
   cases m with
   | nil => cases hl2
   | cons a m =>
     cases m with
     | nil => rw [List.map_cons] at hl2; injection hl2 with _ e; cases e
     | cons b m =>
       rw [List.map_cons, List.map_cons] at hl2
       injection hl2 with e1 e2
       injection e2 with e2 e3
       exact ⟨b :: a :: m, .swap _ _ _, by rw [List.map_cons, List.map_cons, e1, e2, e3]⟩
 | trans _ _ ih1 ih2 =>
   obtain ⟨k, hk, e⟩ := ih2 hl2
   obtain ⟨k2, hk2, e2⟩ := ih1 e.symm
   exact ⟨k2, hk2.trans hk, e2⟩
end Go.Proofs.YtaiggifiefnjnaaGreatDoor
namespace Go.Proofs.YtaiggifiefnjnaaGreatDoor
open Go.RowKit
def flagsOf (n : Nat) (l : List Nat) : List Bool := (List.range n).map fun s => decide (s ∈ l)
theorem flagsOf_len (n : Nat) (l : List Nat) : (flagsOf n l).length = n := by simp [flagsOf]
theorem flagsOf_at {n : Nat} {l : List Nat} {s : Nat} (h : s < n) : (flagsOf n l)[s]? = some (decide (s ∈ l)) := by
 unfold flagsOf
 rw [List.getElem?_map, List.getElem?_range h]
 rfl
theorem flagsOf_nil (n : Nat) : flagsOf n [] = List.replicate n false := by
 unfold flagsOf
 apply List.ext_getElem <;> simp
theorem setFl_at (us : List Bool) (l : List Nat) (x : Bool) (s : Nat) : (setFl us l x)[s]? = if s ∈ l then us[s]?.map fun _ => x else us[s]? := by
 unfold setFl
 induction l generalizing us with
 | nil => simp
 | cons a l ih =>
   rw [List.foldl_cons, ih, List.getElem?_set]
   by_cases ha : a = s
   ·subst ha
    rw [if_pos rfl, if_pos (List.mem_cons_self ..)]
    by_cases hl : a < us.length
    ·rw [if_pos hl, List.getElem?_eq_getElem hl]
     split <;> rfl
    ·rw [if_neg hl, List.getElem?_eq_none (by omega)]
     split <;> rfl
   ·rw [if_neg ha]
    by_cases hs : s ∈ l
    ·rw [if_pos hs, if_pos (List.mem_cons_of_mem _ hs)]
    ·rw [if_neg hs, if_neg (fun h => by rcases List.mem_cons.1 h with h | h; exact ha h.symm; exact hs h)]
theorem setFl_true (n : Nat) (l l2 : List Nat) : setFl (flagsOf n l) l2 true = flagsOf n (l ++ l2) := by
 apply List.ext_getElem?
 intro s
 rw [setFl_at]
 rcases Nat.lt_or_ge s n with h | h
 ·rw [flagsOf_at h, flagsOf_at h]
  by_cases hs : s ∈ l2
  ·rw [if_pos hs]; simp [hs]
  ·rw [if_neg hs]; simp [hs]
 ·rw [List.getElem?_eq_none (by rw [flagsOf_len]; exact h), List.getElem?_eq_none (by rw [flagsOf_len]; exact h)]
  simp
theorem setFl_false {n : Nat} {l l2 l3 : List Nat} (h : ∀ s, s ∈ l3 ↔ s ∈ l ∧ s ∉ l2) : setFl (flagsOf n l) l2 false = flagsOf n l3 := by
 apply List.ext_getElem?
 intro s
 rw [setFl_at]
 rcases Nat.lt_or_ge s n with hn | hn
 ·rw [flagsOf_at hn, flagsOf_at hn]
  by_cases hs : s ∈ l2
  ·rw [if_pos hs]; simp [h, hs]
  ·rw [if_neg hs]; simp [h, hs]
 ·rw [List.getElem?_eq_none (by rw [flagsOf_len]; exact hn), List.getElem?_eq_none (by rw [flagsOf_len]; exact hn)]
  simp
abbrev allS (bl : List Bl) : List Nat := bl.flatMap Bl.secs
structure LR (n M : Nat) (bl : List Bl) (Y : SX) : Prop where
 kv : Y.kv.map (fun p => p.2.b) = bl
 key : ∀ p ∈ Y.kv, p.1 = p.2.b.key
 us : Y.us = flagsOf n (allS bl)
 fr : Y.fr + (allS bl).length = n
 lt : ∀ s ∈ allS bl, s < n
 num : ∀ b ∈ bl, b.num < Y.num
 n1 : 1 ≤ Y.num
 nm : Y.num ≤ M
theorem length_le_of_nodup {l : List Nat} {n : Nat} (h : l.Nodup) (hl : ∀ s ∈ l, s < n) : l.length ≤ n := by
 have hp : l.Perm ((List.range n).filter fun s => decide (s ∈ l)) := (List.perm_ext_iff_of_nodup h (List.nodup_range.sublist List.filter_sublist)).2 fun s => by
  rw [List.mem_filter, List.mem_range, decide_eq_true_eq]
  exact ⟨fun hs => ⟨hl s hs, hs⟩, fun hs => hs.2⟩
 rw [hp.length_eq]
 have := List.length_filter_le (fun s => decide (s ∈ l)) (List.range n)
 rwa [List.length_range] at this
section
variable {n M : Nat} {bl : List Bl} {Y : SX}
theorem LR.keysEq (h : LR n M bl Y) : kvKeys Y.kv = bl.map Bl.key := by
 rw [← h.kv, List.map_map]
 exact List.map_congr_left fun p hp => h.key p hp
theorem LR.get (h : LR n M bl Y) {k : Bs} {v : BV} (hk : kvGet Y.kv k = some v) : v.b ∈ bl ∧ v.b.key = k := by
 have hm := kvGet_mem hk
 exact ⟨by rw [← h.kv]; exact List.mem_map.2 ⟨_, hm, rfl⟩, (h.key _ hm).symm⟩
theorem LR.none (h : LR n M bl Y) {k : Bs} : kvGet Y.kv k = none ↔ ∀ b ∈ bl, b.key ≠ k := by
 constructor
 ·intro hk b hb e
  have h1 : k ∈ kvKeys Y.kv := by rw [h.keysEq]; exact List.mem_map.2 ⟨b, hb, e⟩
  rw [← kvGet_some_iff, hk] at h1
  cases h1
 ·intro hk
  refine kvGet_none fun hm => ?_
  rw [h.keysEq] at hm
  obtain ⟨b, hb, e⟩ := List.mem_map.1 hm
  exact hk b hb e
theorem LR.len (h : LR n M bl Y) : Y.us.length = n := by rw [h.us, flagsOf_len]
theorem LR.free (h : LR n M bl Y) (hn : (allS bl).Nodup) : (freeL Y.us).length = Y.fr ∧ (freeL Y.us).Nodup ∧ ∀ s ∈ freeL Y.us, s < n ∧ s ∉ allS bl := by
 have hm : ∀ s, s ∈ freeL Y.us ↔ s < n ∧ s ∉ allS bl := by
  intro s
  unfold freeL
  rw [List.mem_filter, List.mem_range, h.len]
  constructor
  ·rintro ⟨h1, h2⟩
   rw [h.us, flagsOf_at h1] at h2
   exact ⟨h1, by simpa using h2⟩
  ·rintro ⟨h1, h2⟩
   refine ⟨h1, ?_⟩
   rw [h.us, flagsOf_at h1]
   simpa using h2
 have hnd : (freeL Y.us).Nodup := List.nodup_range.sublist List.filter_sublist
 refine ⟨?_, hnd, fun s hs => (hm s).1 hs⟩
 have hp : (freeL Y.us ++ allS bl).Perm (List.range n) := by
  refine (List.perm_ext_iff_of_nodup ?_ List.nodup_range).2 fun s => ?_
  ·rw [List.nodup_append]
   exact ⟨hnd, hn, fun a ha b hb e => ((hm a).1 ha).2 (e ▸ hb)⟩
  ·rw [List.mem_append, hm, List.mem_range]
   constructor
   ·rintro (h1 | h1)
    ·exact h1.1
    ·exact h.lt s h1
   ·intro h1
    by_cases h2 : s ∈ allS bl
    ·exact .inr h2
    ·exact .inl ⟨h1, h2⟩
 have := hp.length_eq
 rw [List.length_append, List.length_range] at this
 have := h.fr
 omega
theorem LR.add (h : LR n M bl Y) {b : Bl} {A : Option Addr} {c : Nat} (hk : ∀ b' ∈ bl, b'.key ≠ b.key) (hm : b.num + 1 ≤ M) (hs : ∀ s ∈ b.secs, s < n) (hn : (allS (bl ++ [b])).Nodup) : LR n M (bl ++ [b]) (addY Y ⟨b, A, c⟩) := by
 have hkn : b.key ∉ kvKeys Y.kv := by
  rw [h.keysEq]
  intro hm
  obtain ⟨b', hb', e⟩ := List.mem_map.1 hm
  exact hk b' hb' e
 have hall : allS (bl ++ [b]) = allS bl ++ b.secs := by simp [allS]
 have hlt : ∀ s ∈ allS (bl ++ [b]), s < n := by
  intro s h1
  rw [hall] at h1
  rcases List.mem_append.1 h1 with h1 | h1
  ·exact h.lt s h1
  ·exact hs s h1
 have hle := length_le_of_nodup hn hlt
 have hfr := h.fr
 rw [hall, List.length_append] at hle
 refine ⟨?_, ?_, ?_, ?_, hlt, ?_, ?_, ?_⟩
 ·show (kvPut Y.kv b.key ⟨b, A, c⟩).map _ = _
  rw [kvPut_new hkn, List.map_append, h.kv]
  rfl
 ·intro p hp
  rcases kvPut_mem hp with hp | rfl
  ·exact h.key p hp
  ·rfl
 ·show setFl Y.us b.secs true = _
  rw [h.us, setFl_true, hall]
 ·show Y.fr - b.secs.length + _ = n
  rw [hall, List.length_append]
  omega
 ·intro b' hb'
  show b'.num < max Y.num (b.num + 1)
  rcases List.mem_append.1 hb' with hb' | hb'
  ·have := h.num b' hb'; omega
  ·rw [List.mem_singleton.1 hb']; omega
 ·show 1 ≤ max Y.num (b.num + 1)
  have := h.n1; omega
 ·show max Y.num (b.num + 1) ≤ M
  have := h.nm; omega
theorem LR.del (h : LR n M bl Y) (hn : (allS bl).Nodup) (hkn : (bl.map Bl.key).Nodup) {k : Bs} {v : BV} (hk : kvGet Y.kv k = some v) : ∃ b1 b2, bl = b1 ++ v.b :: b2 ∧ LR n M (b1 ++ b2) (delY Y v) := by
 have hm := kvGet_mem hk
 have hvk : v.b.key = k := (h.key _ hm).symm
 obtain ⟨l1, l2, e⟩ := List.append_of_mem hm
 have hb : bl = l1.map (fun p => p.2.b) ++ v.b :: l2.map (fun p => p.2.b) := by rw [← h.kv, e, List.map_append, List.map_cons]
 have hdel : kvDel Y.kv v.b.key = l1 ++ l2 := by
  have hnd : (kvKeys Y.kv).Nodup := by rw [h.keysEq]; exact hkn
  rw [hvk, kvDel_at (j := l1.length) (u := v) hnd (by rw [e, List.getElem?_append_right (Nat.le_refl _), Nat.sub_self]; rfl), e, List.eraseIdx_append_of_length_le (Nat.le_refl _), Nat.sub_self]
  rfl
 refine ⟨_, _, hb, ?_⟩
 have hall : (allS bl).Perm (v.b.secs ++ allS (l1.map (fun p => p.2.b) ++ l2.map (fun p => p.2.b))) := by
  rw [hb]
  simp only [allS, List.flatMap_append, List.flatMap_cons]
  rw [← List.append_assoc, ← List.append_assoc]
  exact (List.perm_append_comm).append_right _
 have hmem : ∀ s, s ∈ allS (l1.map (fun p => p.2.b) ++ l2.map (fun p => p.2.b)) ↔ s ∈ allS bl ∧ s ∉ v.b.secs := by
  intro s
  have h1 := hall.mem_iff (a := s)
  have h2 := hall.nodup_iff.1 hn
  rw [List.nodup_append] at h2
  rw [h1, List.mem_append]
  constructor
  ·intro h3
   exact ⟨.inr h3, fun h4 => h2.2.2 s h4 s h3 rfl⟩
  ·rintro ⟨h3 | h3, h4⟩
   ·exact (h4 h3).elim
   ·exact h3
 have hlen := hall.length_eq
 rw [List.length_append] at hlen
 have hfr := h.fr
 refine ⟨?_, ?_, ?_, ?_, ?_, ?_, h.n1, h.nm⟩
 ·show (kvDel Y.kv v.b.key).map _ = _
  rw [hdel, List.map_append]
 ·intro p hp
  exact h.key p (List.mem_filter.1 hp).1
 ·show setFl Y.us v.b.secs false = _
  rw [h.us, setFl_false hmem]
 ·show Y.fr + v.b.secs.length + _ = n
  omega
 ·intro s hs
  exact h.lt s ((hmem s).1 hs).1
 ·intro b hb'
  refine h.num b ?_
  rw [hb]
  rcases List.mem_append.1 hb' with h1 | h1
  ·exact List.mem_append_left _ h1
  ·exact List.mem_append_right _ (List.mem_cons_of_mem _ h1)
end
/-! ### Writes -/
theorem applyW_out {l : List (Nat × Bs)} {secs : List Bs} {k : Nat} (h : ∀ p ∈ l, p.1 ≠ k) : (applyW secs l)[k]? = secs[k]? := by
 unfold applyW
 induction l generalizing secs with
 | nil => rfl
 | cons p l ih => rw [List.foldl_cons, ih (fun q hq => h q (List.mem_cons_of_mem _ hq)), List.getElem?_set_ne (h p (List.mem_cons_self ..))]
theorem applyW_in {l : List (Nat × Bs)} {secs : List Bs} {p : Nat × Bs} (hn : (l.map (·.1)).Nodup) (hp : p ∈ l) (hk : p.1 < secs.length) : (applyW secs l)[p.1]? = some p.2 := by
 unfold applyW
 induction l generalizing secs with
 | nil => cases hp
 | cons q l ih =>
   rw [List.map_cons, List.nodup_cons] at hn
   rw [List.foldl_cons]
   rcases List.mem_cons.1 hp with rfl | hp
   ·have := applyW_out (l := l) (secs := secs.set p.1 p.2) (k := p.1) (fun r hr e => hn.1 (List.mem_map.2 ⟨r, hr, e⟩))
    unfold applyW at this
    rw [this, List.getElem?_set_self hk]
   ·exact ih hn.2 hp (by rw [List.length_set]; exact hk)
section
variable {sz first n : Nat} {bl : List Bl} {secs : List Bs}
theorem DI.perm (h : DI sz first n bl secs) {bl' : List Bl} (hp : bl'.Perm bl) : DI sz first n bl' secs :=
 ⟨h.z1, h.z2, h.n2, h.f2, h.len, fun b hb => h.ok b (hp.mem_iff.1 hb), fun b hb => h.own b (hp.mem_iff.1 hb), fun s hs ho => h.zero s hs fun b hb => ho b (hp.mem_iff.2 hb), (hp.flatMap_right _).nodup_iff.2 h.nd, (hp.map _).nodup_iff.2 h.keys, (hp.map _).nodup_iff.2 h.nums⟩
theorem DI.lt (h : DI sz first n bl secs) : ∀ s ∈ allS bl, s < n := by
 intro s hs
 obtain ⟨b, hb, h1⟩ := List.mem_flatMap.1 hs
 obtain ⟨i, hi, e⟩ := List.mem_iff_getElem.1 h1
 exact (h.own b hb i s (by rw [List.getElem?_eq_getElem hi, e])).1
theorem DI.add (h : DI sz first n bl secs) {b : Bl} (hb : BlOk sz b) (hs : ∀ s ∈ b.secs, s < n) (hn : (allS (bl ++ [b])).Nodup) (hk : ∀ b' ∈ bl, b'.key ≠ b.key) (hm : ∀ b' ∈ bl, b'.num ≠ b.num) : DI sz first n (bl ++ [b]) (applyW secs (wrB first sz b b.secs.length)) := by
 have hall : allS (bl ++ [b]) = allS bl ++ b.secs := by simp [allS]
 rw [hall] at hn
 have hn2 := hn
 rw [List.nodup_append] at hn2
 obtain ⟨n1, n2, n3⟩ := hn2
 have hl := h.len
 have hW : ∀ p ∈ wrB first sz b b.secs.length, ∃ i s, b.secs[i]? = some s ∧ p = (first + s, b.sec sz i s) := by
  intro p hp
  unfold wrB at hp
  obtain ⟨i, hi, rfl⟩ := List.mem_map.1 hp
  rw [List.mem_range] at hi
  have hs : b.secs[i]? = some b.secs[i] := List.getElem?_eq_getElem hi
  exact ⟨i, _, hs, by simp [List.getD, hs]⟩
 have hW2 : ∀ i s, b.secs[i]? = some s → (first + s, b.sec sz i s) ∈ wrB first sz b b.secs.length := by
  intro i s hs
  have hi := (List.getElem?_eq_some_iff.1 hs).1
  exact List.mem_map.2 ⟨i, List.mem_range.2 hi, by simp [List.getD, hs]⟩
 have hWn : ((wrB first sz b b.secs.length).map (·.1)).Nodup := by
  have e : (wrB first sz b b.secs.length).map (·.1) = b.secs.map (first + ·) := by
   unfold wrB
   rw [List.map_map]
   apply List.ext_getElem
   ·simp
   ·intro i h1 h2
    simp only [List.length_map, List.length_range] at h1
    simp [List.getD, List.getElem?_eq_getElem h1]
  rw [e]
  unfold List.Nodup at n2 ⊢
  rw [List.pairwise_map]
  exact n2.imp fun hne e => hne (by omega)
 have hout : ∀ s, s ∉ b.secs → (applyW secs (wrB first sz b b.secs.length))[first + s]? = secs[first + s]? := by
  intro s hs
  refine applyW_out fun p hp e => ?_
  obtain ⟨i, s', h1, rfl⟩ := hW p hp
  simp only at e
  exact hs (by rw [show s = s' by omega]; exact List.mem_of_getElem? h1)
 refine ⟨h.z1, h.z2, h.n2, h.f2, by rw [applyW_len]; exact hl, ?_, ?_, ?_, by rw [show (bl ++ [b]).flatMap Bl.secs = _ from hall]; exact hn, ?_, ?_⟩
 ·intro b' hb'
  rcases List.mem_append.1 hb' with hb' | hb'
  ·exact h.ok b' hb'
  ·rw [List.mem_singleton.1 hb']; exact hb
 ·intro b' hb' i s h1
  rcases List.mem_append.1 hb' with hb' | hb'
  ·have h2 := h.own b' hb' i s h1
   refine ⟨h2.1, ?_⟩
   rw [hout s fun h3 => n3 s (List.mem_flatMap.2 ⟨b', hb', List.mem_of_getElem? h1⟩) s h3 rfl]
   exact h2.2
  ·rw [List.mem_singleton.1 hb'] at h1 ⊢
   have h2 := hs s (List.mem_of_getElem? h1)
   exact ⟨h2, applyW_in hWn (hW2 i s h1) (by show first + s < _; omega)⟩
 ·intro s h1 ho
  rw [hout s (ho b (by simp))]
  exact h.zero s h1 fun b' hb' => ho b' (by simp [hb'])
 ·rw [List.map_append, List.nodup_append]
  refine ⟨h.keys, by simp, fun a ha c hc e => ?_⟩
  obtain ⟨b', hb', rfl⟩ := List.mem_map.1 ha
  rw [List.map_singleton, List.mem_singleton] at hc
  exact hk b' hb' (e.trans hc)
 ·rw [List.map_append, List.nodup_append]
  refine ⟨h.nums, by simp, fun a ha c hc e => ?_⟩
  obtain ⟨b', hb', rfl⟩ := List.mem_map.1 ha
  rw [List.map_singleton, List.mem_singleton] at hc
  exact hm b' hb' (e.trans hc)
theorem DI.del {b1 b2 : List Bl} {b : Bl} (h : DI sz first n (b1 ++ b :: b2) secs) : DI sz first n (b1 ++ b2) (applyW secs (wpB first sz b.secs b.secs.length)) := by
 have hl := h.len
 have hp : (b1 ++ b :: b2).Perm (b :: (b1 ++ b2)) := List.perm_middle
 have h' := h.perm hp.symm
 have hsub : ∀ x ∈ b1 ++ b2, x ∈ b1 ++ b :: b2 := fun x hx => hp.mem_iff.2 (List.mem_cons_of_mem _ hx)
 have hn := h'.nd
 rw [List.flatMap_cons, List.nodup_append] at hn
 obtain ⟨n1, n2, n3⟩ := hn
 have hk := h'.keys
 have hm := h'.nums
 rw [List.map_cons, List.nodup_cons] at hk hm
 have hW : ∀ p ∈ wpB first sz b.secs b.secs.length, ∃ s ∈ b.secs, p = (first + s, zerosB sz) := by
  intro p hp
  unfold wpB at hp
  rw [List.take_length] at hp
  obtain ⟨s, hs, rfl⟩ := List.mem_map.1 hp
  exact ⟨s, hs, rfl⟩
 have hWn : ((wpB first sz b.secs b.secs.length).map (·.1)).Nodup := by
  unfold wpB
  rw [List.take_length, List.map_map]
  unfold List.Nodup at n1 ⊢
  rw [List.pairwise_map]
  refine n1.imp fun {a c} hne e => hne ?_
  simp only [Function.comp_apply] at e
  omega
 have hout : ∀ s, s ∉ b.secs → (applyW secs (wpB first sz b.secs b.secs.length))[first + s]? = secs[first + s]? := by
  intro s hs
  refine applyW_out fun p hp e => ?_
  obtain ⟨s', h1, rfl⟩ := hW p hp
  simp only at e
  exact hs (by rw [show s = s' by omega]; exact h1)
 refine ⟨h.z1, h.z2, h.n2, h.f2, by rw [applyW_len]; exact hl, fun b' hb' => h.ok b' (hsub b' hb'), ?_, ?_, n2, hk.2, hm.2⟩
 ·intro b' hb' i s h1
  have h2 := h.own b' (hsub b' hb') i s h1
  refine ⟨h2.1, ?_⟩
  rw [hout s fun h3 => n3 s h3 s (List.mem_flatMap.2 ⟨b', hb', List.mem_of_getElem? h1⟩) rfl]
  exact h2.2
 ·intro s h1 ho
  by_cases hs : s ∈ b.secs
  ·have hin : (first + s, zerosB sz) ∈ wpB first sz b.secs b.secs.length := by
    unfold wpB
    rw [List.take_length]
    exact List.mem_map.2 ⟨s, hs, rfl⟩
   exact applyW_in hWn hin (by show first + s < _; omega)
  ·rw [hout s hs]
   refine h.zero s h1 fun b' hb' => ?_
   rcases List.mem_cons.1 (hp.mem_iff.1 hb') with rfl | hb'
   ·exact hs
   ·exact ho b' hb'
end
end Go.Proofs.YtaiggifiefnjnaaGreatDoor
namespace Go.Proofs.YtaiggifiefnjnaaGreatDoor
open Go.RowKit
theorem em_nil {α : Type} (l : List α) : l = [] ∨ l ≠ [] := by cases l <;> simp
theorem ownN_row {e : TypeId} {sz : Nat} {A : Option Addr} {m c : Nat} {xs : List Value} {w : World} (h : (cOwn e sz A m c xs).holds w) : RowIn w A xs := by
 intro j u hu
 have h : w.ownsRow 0 e sz (.slice A m c) m xs := h
 rcases h.2 with ⟨_, h0⟩ | ⟨g, cap, cur, hv, _, hg, _, _, _, hc⟩
 ·have := h.1
  rw [h0, Nat.zero_mul] at this
  rw [List.eq_nil_of_length_eq_zero this] at hu
  simp at hu
 ·simp only [Value.slice.injEq] at hv
  obtain ⟨rfl, _, _⟩ := hv
  refine ⟨g, 0, rfl, (Array.getElem?_eq_some_iff.1 hg).1, ?_⟩
  have hlt := (List.getElem?_eq_some_iff.1 hu).1
  rw [h.1] at hlt
  have : cur.toList[j]? = some u := by rw [← List.getElem?_take_of_lt hlt, hc]; exact hu
  rw [Nat.zero_add]
  simp only [World.cell?, hg]
  simpa using this
theorem fe_get {F : List FE} {k : Nat} {pls : List Pl} (hn : (kvKeys (F.map feV)).Nodup) (h : kvGet (F.map feP) k = some pls) : ∃ e ∈ F, e.key = k ∧ e.pls = pls ∧ kvGet (F.map feV) k = some (e.A, e.pls.length, e.c) := by
 obtain ⟨e, he, h1⟩ := List.mem_map.1 (kvGet_mem h)
 injection h1 with h1 h2
 obtain ⟨i, hi, h3⟩ := List.mem_iff_getElem.1 he
 refine ⟨e, he, h1, h2, kvGet_at (j := i) hn ?_⟩
 rw [List.getElem?_map, List.getElem?_eq_getElem hi, h3, ← h1]
 rfl
theorem fe_keysPerm {sz first n : Nat} {bl : List Bl} {secs : List Bs} (hD : DI sz first n bl secs) {F : List FE} (hF : F.map feP = (scanT (secG first secs) n).1) (hn : (kvKeys (F.map feV)).Nodup) : (kvKeys (F.map feV)).Perm (bl.map Bl.num) := by
 refine (List.perm_ext_iff_of_nodup hn hD.nums).2 fun k => ?_
 have e : kvKeys (F.map feV) = kvKeys (F.map feP) := by
  unfold kvKeys
  rw [List.map_map, List.map_map]
  rfl
 rw [e, ← kvGet_some_iff, hF, List.mem_map]
 constructor
 ·intro h
  exact hD.keysF (k := k) fun e => by rw [e] at h; cases h
 ·rintro ⟨b, hb, rfl⟩
  obtain ⟨pls, h1, _⟩ := hD.found hb
  rw [h1]
  rfl
theorem take_ne {ol : List Bl} {j : Nat} {b : Bl} (hn : (ol.map Bl.key).Nodup) (hb : ol[j]? = some b) : ∀ b' ∈ ol.take j, b'.key ≠ b.key := by
 intro b' h1 e
 obtain ⟨i, hi, h2⟩ := List.mem_iff_getElem.1 h1
 rw [List.length_take] at hi
 rw [List.getElem_take] at h2
 have e1 : (ol.map Bl.key)[i]? = some b.key := by rw [List.getElem?_map, List.getElem?_eq_getElem (by omega), h2, Option.map_some, e]
 have e2 : (ol.map Bl.key)[j]? = some b.key := by rw [List.getElem?_map, hb]; rfl
 obtain ⟨a1, a2⟩ := List.getElem?_eq_some_iff.1 e1
 obtain ⟨c1, c2⟩ := List.getElem?_eq_some_iff.1 e2
 have := (List.getElem_inj hn).1 (a2.trans c2.symm)
 omega
theorem take_nodup {ol : List Bl} {j : Nat} {b : Bl} (hn : (ol.flatMap Bl.secs).Nodup) (hb : ol[j]? = some b) : (allS (ol.take j ++ [b])).Nodup := by
 have h1 : ol.take j ++ [b] = ol.take (j + 1) := by rw [List.take_add_one, hb]; rfl
 rw [h1]
 have h2 : ol.flatMap Bl.secs = allS (ol.take (j + 1)) ++ allS (ol.drop (j + 1)) := by
  show _ = List.flatMap _ _ ++ List.flatMap _ _
  rw [← List.flatMap_append, List.take_append_drop]
 rw [h2, List.nodup_append] at hn
 exact hn.1
theorem fit_fr {n M : Nat} {bl : List Bl} {b : Bl} {Y : SX} (hn : (allS (bl ++ [b])).Nodup) (h : LR n M bl Y) (hs : ∀ s ∈ b.secs, s < n) : b.secs.length ≤ Y.fr := by
 have hall : allS (bl ++ [b]) = allS bl ++ b.secs := by simp [allS]
 have h1 := length_le_of_nodup hn (n := n) fun s h1 => by
  rw [hall] at h1
  rcases List.mem_append.1 h1 with h1 | h1
  ·exact h.lt s h1
  ·exact hs s h1
 rw [hall, List.length_append] at h1
 have := h.fr
 omega
theorem used_true {sz first n M : Nat} {bl ol : List Bl} {secs : List Bs} {Y : SX} (hD : DI sz first n bl secs) (h : LR n M ol Y) (hp : ol.Perm bl) {s : Nat} (hs : s ∈ (scanT (secG first secs) n).2) : Y.us[s]? = some true := by
 obtain ⟨h1, h2⟩ := mem_written hs
 obtain ⟨b, hb, h3⟩ := hD.nz h1 h2
 rw [h.us, flagsOf_at h1]
 have : s ∈ allS ol := List.mem_flatMap.2 ⟨b, hp.mem_iff.2 hb, h3⟩
 rw [decide_eq_true this]
theorem sLoad_any (bs : Nat) (bd : Nat) (first : Nat) (Y : SX) (X : DX) (sz : Nat) (secs : List Bs) (bl : List Bl) (M : Nat) (w : World) (hO : Own [cDisk bd X sz secs [], cStore bs bd first Y] w) (r0 : Rf [cDisk bd X sz secs [], cStore bs bd first Y] w (Vars)) (hD : DI sz first Y.us.length bl secs) (h0 : LR Y.us.length M [] Y) (hM : ∀ b ∈ bl, b.num + 1 ≤ M) (hb : bl.length ≤ 49 ∧ M ≤ 1000000) :
  Calls Tryz.prog 27 #[(vP bs 0)] w fun e w' => ∃ (Y2 : SX) (ol : List Bl), e = .returned (.int .i64 0) ∧ Back [cDisk bd X sz secs [], cStore bs bd first Y] w [cDisk bd X sz secs [], cStore bs bd first Y2] w' ∧ (LR Y.us.length M ol Y2 ∧ ol.Perm bl) := by
 have _u0 := r0
 have _u1 := hD
 have _u2 := h0
 have _u3 := hM
 have _u4 := hb
 clear _u0 _u1 _u2 _u3 _u4
 refine stEnter (args := [(vP bs 0)]) (fps [cDisk bd X sz secs [], cStore bs bd first Y]) Tryz.func27 rfl 105 rfl [(0, (vP bs 0))] ⟨rfl, trivial⟩ [cDisk bd X sz secs [], cStore bs bd first Y] (hO) ?_
 refine stSeq ?_
 obtain ⟨b1, b2⟩ := hb
 have z1 := hD.z1
 have z2 := hD.z2
 have n2 := hD.n2
 have f2 := hD.f2
 have hln := hD.len
 refine reg ?_
 refine la ?_
 refine liNil (qThen (stSeq (reg ?_)))
 refine lm ?_
 refine li rfl ?_
 refine opK [0] [cDisk bd X sz secs []] (fun w hM hO => (sScan_any bs bd first Y.us.length (.int .u64 ((Y.num : Nat) : Int)) (.map (some Y.bm)) (vL Y.Au Y.us (Y.cu)) (.slice none 0 0) (vI Y.fr) (.bool false) X sz secs w hO (r0.goS hM [0]) (hM.keepS [0] (j := 1) rfl (fun _ h => store_at h)) (by omega) (⟨by omega, by omega⟩) (⟨by omega, by omega⟩)).mono ?_)
 rintro e w' ⟨bf19, F19, W19, cw19, rfl, hP, hF19⟩
 refine ⟨_, [cDisk bd X sz secs []], _, rfl, hP, rfl, ?_⟩; clear hP hM hO
 refine lm ?_
 refine lc (.map (some bf19)) ?_
 refine lc (.slice W19 ((scanT (secG first secs) Y.us.length).2.length) (cw19)) ?_
 refine lc (.int .i64 0) ?_
 refine la ?_
 refine la ?_
 refine la ?_
 refine liNil (qThen (stSeq (stSeq (reg ?_))))
 refine lm ?_
 refine lc (.bool false) ?_
 refine liNil (qThen (stFalse rfl (stSkip (qThen (stSeq (stSeq ?_))))))
 refine St.to [cDisk bd X sz secs [], cStore bs bd first Y, cMap kU slv bf19 (F19.map feV), cFam F19, cOwn 3 1 W19 ((scanT (secG first secs) Y.us.length).2.length) (cw19) (II (scanT (secG first secs) Y.us.length).2)] (by kernel_rfl) ?_
 refine St.fact (fun w hM => (MapAt.nodup (hM.at (i := 2) rfl) : (kvKeys (F19.map feV)).Nodup)) (fun hnd => ?_)
 have hkp : (kvKeys (F19.map feV)).Perm (bl.map Bl.num) := fe_keysPerm hD hF19 hnd
 have hkl : (F19.map feV).length ≤ 49 := by have h := hkp.length_eq; simp only [kvKeys, List.length_map] at h ⊢; omega
 rcases (em_nil F19) with hF0 | hF0
 ·have hbl : bl = [] := by rw [hF0] at hkp; simpa [kvKeys] using hkp.symm.eq_nil
  subst hbl
  refine reg ?_
  refine lm ?_
  refine li rfl ?_
  refine opK0 (fun w hM => (uKeys_any bf19 w ).mono ?_)
  rintro e w' ⟨bk27, rfl, hP⟩
  refine ⟨_, _, rfl, hP, ?_⟩; clear hP hM
  refine li rfl ?_
  refine opK0 (fun w hM => (uSorted_nil bk27 bf19 (F19.map feV) w (hM.keep0 (j := 5) rfl (fun _ h => h)) (hM.keep0 (j := 2) rfl (fun _ h => h)) (by rw [hF0]; rfl)).mono ?_)
  rintro e w' ⟨rfl, hP⟩
  refine ⟨_, _, rfl, hP, ?_⟩; clear hP hM
  refine lc (.int .i64 0) ?_
  refine lm ?_
  refine liNil (qThen (stBlock ?_))
  refine stLoop (ι := Unit) (fun u => True) (fun u => 0) (fun u => [(0, (vP bs 0)), (2, (.int .i64 0)), (3, (.map (some bf19))), (4, (.slice W19 ((scanT (secG first secs) Y.us.length).2.length) (cw19))), (28, (.slice none 0 0)), (29, (.int .i64 0)), (30, (.int .i64 0))]) (fun u => [cDisk bd X sz secs [], cStore bs bd first Y, cMap kU slv bf19 (F19.map feV), cFam F19, cOwn 3 1 W19 ((scanT (secG first secs) Y.us.length).2.length) (cw19) (II (scanT (secG first secs) Y.us.length).2), cAt bk27 85 [(.map (some bf19))]]) () trivial ⟨rfl, rfl, rfl, rfl, rfl, rfl, rfl, trivial⟩ (fun _ h => h) ?_
  rintro u -
  show St _ _ _ [(0, (vP bs 0)), (2, (.int .i64 0)), (3, (.map (some bf19))), (4, (.slice W19 ((scanT (secG first secs) Y.us.length).2.length) (cw19))), (28, (.slice none 0 0)), (29, (.int .i64 0)), (30, (.int .i64 0))] [cDisk bd X sz secs [], cStore bs bd first Y, cMap kU slv bf19 (F19.map feV), cFam F19, cOwn 3 1 W19 ((scanT (secG first secs) Y.us.length).2.length) (cw19) (II (scanT (secG first secs) Y.us.length).2), cAt bk27 85 [(.map (some bf19))]] _
  refine stSeq (reg ?_)
  refine lc (.bool false) ?_
  refine liNil (qThen (stSeq (stFalse rfl (stExit (qThenX (qThenX (qBlockX (qThen (stSeq (stSeq (reg ?_)))))))))))
  refine lm ?_
  refine lc (vI ((scanT (secG first secs) Y.us.length).2.length)) ?_
  refine lm ?_
  refine liNil (qThen (stBlock ?_))
  have o2 := h0
  have hop : ([] : List Bl).Perm [] := .refl _
  have hY1 := o2.len
  have hwl := scanT_len (secG first secs) Y.us.length
  refine stLoop (ι := Nat) (fun i => i ≤ (scanT (secG first secs) Y.us.length).2.length) (fun i => (scanT (secG first secs) Y.us.length).2.length - i) (fun i => [(0, (vP bs 0)), (2, (.int .i64 0)), (80, (.slice W19 ((scanT (secG first secs) Y.us.length).2.length) (cw19))), (81, (vI ((scanT (secG first secs) Y.us.length).2.length))), (82, (vI i))]) (fun i => [cDisk bd X sz secs [], cStore bs bd first Y, cMap kU slv bf19 (F19.map feV), cFam F19, cOwn 3 1 W19 ((scanT (secG first secs) Y.us.length).2.length) (cw19) (II (scanT (secG first secs) Y.us.length).2), cAt bk27 85 [(.map (some bf19))]]) 0 (Nat.zero_le _) ⟨rfl, rfl, rfl, rfl, rfl, trivial⟩ (fun _ h => h) ?_
  intro i hok
  show St _ _ _ [(0, (vP bs 0)), (2, (.int .i64 0)), (80, (.slice W19 ((scanT (secG first secs) Y.us.length).2.length) (cw19))), (81, (vI ((scanT (secG first secs) Y.us.length).2.length))), (82, (vI i))] [cDisk bd X sz secs [], cStore bs bd first Y, cMap kU slv bf19 (F19.map feV), cFam F19, cOwn 3 1 W19 ((scanT (secG first secs) Y.us.length).2.length) (cw19) (II (scanT (secG first secs) Y.us.length).2), cAt bk27 85 [(.map (some bf19))]] _
  refine stSeq (reg ?_)
  refine lc (.bool (decide (((i : Nat) : Int) < (((scanT (secG first secs) Y.us.length).2.length : Nat) : Int)))) ?_
  refine liNil (qThen (stSeq ?_))
  refine stCond rfl (fun hc83 => ?_) (fun hc83 => ?_)
  ·have hd83 := of_decide_eq_true hc83
   refine stSkip (qThen (stSeq (stBlock (stSeq (reg ?_)))))
   obtain ⟨x0, hx0⟩ : ∃ ξ, ((scanT (secG first secs) Y.us.length).2)[i]? = some ξ := ⟨_, List.getElem?_eq_getElem (by omega)⟩
   refine St.rowPtr (fun w hM => rowOwn (i := 4) rfl w hM) (II_at hx0) (fun p84 q84 hA84 hc84 => ?_)
   refine lv (v := (vP p84 (q84 + i))) (rIndexRow (e := 3) rfl (by kernel_rfl) (by kernel_rfl) rfl rfl hA84 (by omega)) ?_
   refine lv (v := (vI x0)) (rLoadW rfl rfl (by kernel_rfl) hc84) ?_
   refine la ?_
   refine liNil (qThen (stSeq ?_))
   have hut : Y.us[x0]? = some true := used_true hD o2 hop (List.mem_of_getElem? hx0)
   have hlu := (List.getElem?_eq_some_iff.1 hut).1
   refine reg ?_
   refine lm ?_
   refine lc (vP bs 0) ?_
   refine lc (vP bs 5) ?_
   refine lv (v := (vL Y.Au Y.us (Y.cu))) (rLoadW rfl rfl (by kernel_rfl) (fun w hM => At.cell (store_at (hM.at (i := 1) rfl)) 5)) ?_
   refine lm ?_
   refine St.rowPtr (fun w hM => store_used (hM.at (i := 1) rfl)) (BB_at hut) (fun p91 q91 hA91 hc91 => ?_)
   refine lv (v := (vP p91 (q91 + x0))) (rIndexRow (e := 4) rfl (by kernel_rfl) (by kernel_rfl) rfl rfl hA91 (by omega)) ?_
   refine lv (v := (.bool true)) (rLoadW rfl rfl (by kernel_rfl) hc91) ?_
   refine lc (.bool false) ?_
   refine liNil (qThen (stFalse rfl (stSkip (qBlock (qThen (reg ?_))))))
   refine lv (v := (vI (i + 1))) (rAdd _ rfl rfl rfl (by omega) (by omega) (by omega)) ?_
   refine lm ?_
   refine liNil (qThen ?_)
   exact stAgain (i + 1) (by show _ ≤ _; omega) (by show _ - _ < _ - _; omega) ⟨rfl, rfl, rfl, rfl, rfl, trivial⟩ (fun w hM => hM)
  ·have hd83 := of_decide_eq_false hc83
   refine stExit (qThenX (qThenX (qBlockX (qThen (stSeq (reg ?_))))))
   refine la ?_
   refine liNil (qThen (stRet ?_))
   refine stEnd [(.int .i64 0)] rfl ⟨rfl, trivial⟩ (fun w hM => ?_)
   exact ⟨_, [], rfl, hM.pick [0, 1] rfl rfl, o2, hop⟩
 ·refine reg ?_
  refine lm ?_
  refine li rfl ?_
  refine opK0 (fun w hM => (uKeys_any bf19 w ).mono ?_)
  rintro e w' ⟨bk27, rfl, hP⟩
  refine ⟨_, _, rfl, hP, ?_⟩; clear hP hM
  refine li rfl ?_
  refine opK0 (fun w hM => (uSorted_any bk27 bf19 (F19.map feV) w (hM.keep0 (j := 5) rfl (fun _ h => h)) (hM.keep0 (j := 2) rfl (fun _ h => h)) (fun e => hF0 (by simpa using e)) (hkl)).mono ?_)
  rintro e w' ⟨b28, n28, c28, l28, rest28, rfl, hP, heq28⟩
  refine ⟨_, _, rfl, hP, ?_⟩; clear hP hM
  refine lc (vI n28) ?_
  refine lm ?_
  refine liNil (qThen (stBlock ?_))
  obtain ⟨p1, p2⟩ := heq28
  obtain ⟨ol, hop, hom⟩ := map_perm (p1.trans hkp)
  have hol : ol.length = n28 := by rw [← p2, ← hom, List.length_map]
  have hDo := hD.perm hop
  have holn := hop.length_eq
  refine stLoop (ι := Nat × SX) (fun (j, Y1) => j ≤ ol.length ∧ LR Y.us.length M (ol.take j) Y1) (fun (j, Y1) => ol.length - j) (fun (j, Y1) => [(0, (vP bs 0)), (2, (.int .i64 0)), (3, (.map (some bf19))), (4, (.slice W19 ((scanT (secG first secs) Y.us.length).2.length) (cw19))), (28, (.slice (some ⟨b28, 0, none⟩) (n28) (c28))), (29, (vI n28)), (30, (vI j))]) (fun (j, Y1) => [cDisk bd X sz secs [], cStore bs bd first Y1, cMap kU slv bf19 (F19.map feV), cFam F19, cOwn 3 1 W19 ((scanT (secG first secs) Y.us.length).2.length) (cw19) (II (scanT (secG first secs) Y.us.length).2), cAt bk27 85 [(.map (some bf19))], cUs b28 l28 rest28]) (0, Y) ⟨Nat.zero_le _, h0⟩ ⟨rfl, rfl, rfl, rfl, rfl, rfl, rfl, trivial⟩ (fun _ h => h) ?_
  rintro ⟨j, Y1⟩ ⟨o1, o2⟩
  show St _ _ _ [(0, (vP bs 0)), (2, (.int .i64 0)), (3, (.map (some bf19))), (4, (.slice W19 ((scanT (secG first secs) Y.us.length).2.length) (cw19))), (28, (.slice (some ⟨b28, 0, none⟩) (n28) (c28))), (29, (vI n28)), (30, (vI j))] [cDisk bd X sz secs [], cStore bs bd first Y1, cMap kU slv bf19 (F19.map feV), cFam F19, cOwn 3 1 W19 ((scanT (secG first secs) Y.us.length).2.length) (cw19) (II (scanT (secG first secs) Y.us.length).2), cAt bk27 85 [(.map (some bf19))], cUs b28 l28 rest28] _
  refine stSeq (reg ?_)
  refine lc (.bool (decide (((j : Nat) : Int) < ((n28 : Nat) : Int)))) ?_
  refine liNil (qThen (stSeq ?_))
  refine stCond rfl (fun hc31 => ?_) (fun hc31 => ?_)
  ·have hd31 := of_decide_eq_true hc31
   refine stSkip (qThen (stSeq (stBlock (stSeq ?_))))
   obtain ⟨b, hb⟩ : ∃ b, ol[j]? = some b := ⟨_, List.getElem?_eq_getElem (by omega)⟩
   have hbm : b ∈ bl := hop.mem_iff.1 (List.mem_of_getElem? hb)
   obtain ⟨q1, q2, q3, q4, q5⟩ := hD.ok b hbm
   obtain ⟨pls, r1, r2, r3, r4, r5⟩ := hD.found hbm
   rw [← hF19] at r1
   obtain ⟨e9, s1, s2, rfl, s4⟩ := fe_get hnd r1
   have hln9 := Bl.len_le (hD.ok b hbm)
   have hsc : b.secs.length ≤ Y.us.length := length_le_of_nodup (hD.secs_nd hbm) (fun s hs => hD.lt s (List.mem_flatMap.2 ⟨b, hbm, hs⟩))
   have hndp := need_pos (sz := sz) (n := b.len) (by omega) (by omega)
   have hky : ∀ b' ∈ ol.take j, b'.key ≠ b.key := take_ne hDo.keys hb
   have hkn := o2.none.2 hky
   have hsn : ∀ s ∈ b.secs, s < Y.us.length := fun s hs => hD.lt s (List.mem_flatMap.2 ⟨b, hbm, hs⟩)
   have hal : (allS (ol.take j ++ [b])).Nodup := take_nodup hDo.nd hb
   have hY1 := o2.len
   have hfr1 := o2.fr
   have hnm1 := o2.nm
   have hfit : b.secs.length ≤ Y1.fr := fit_fr hal o2 hsn
   have hMb := hM b hbm
   refine reg ?_
   refine lv (v := (vP b28 (0 + j))) (rIndexAddr1 (e := 62) rfl (by kernel_rfl) (by kernel_rfl) rfl rfl (by omega)) ?_
   refine lv (v := (.int .u64 ((b.num : Nat) : Int))) (rLoadUs 6 rfl rfl (by kernel_rfl) rfl (by rw [← hom, List.getElem?_map, hb]; rfl)) ?_
   refine la ?_
   refine liNil (qThen (stSeq (reg ?_)))
   refine lm ?_
   refine lm ?_
   refine lm ?_
   refine lv (v := (vL e9.A e9.pls (e9.c))) (rConv (rMapGet (D := kU) (val := slv) (a := b.num) 2 rfl rfl rfl Tryz.underlying85 Tryz.zeroValue93 rfl (by show b.num < _; omega)) (by rw [s4]; rfl)) ?_
   refine li rfl ?_
   refine opK0 (fun w hM => (sArr_ok bs bd (vI first) (vI Y1.us.length) (.int .u64 ((Y1.num : Nat) : Int)) (.map (some Y1.bm)) (vL Y1.Au Y1.us (Y1.cu)) (.slice none 0 0) (vI Y1.fr) (.bool false) sz (vL X.Ad X.dv (X.cd)) (vL X.Ap X.pv (X.cp)) (.map (some X.lat)) (.int .i64 (-1)) (.bool false) e9.A e9.c e9.pls b.num b.len w (hM.keep0 (j := 1) rfl (fun _ h => store_at h)) (hM.keep0 (j := 0) rfl (fun _ h => disk_at h)) (hM.keep0 (j := 3) rfl (fun _ h => ownN_row (fam_row h s1))) (⟨by omega, by omega⟩) (r2) (r3.trans q5) (⟨by omega, by omega, by omega⟩) (r4)).mono ?_)
   rintro e w' ⟨B39, cb39, rfl, hP⟩
   refine ⟨_, _, rfl, hP, ?_⟩; clear hP hM
   refine lm ?_
   refine lc (.agg #[(.int .u64 ((b.num : Nat) : Int)), (vI b.len), (.int .i64 0), (.string ⟨#[]⟩), (vL B39 (arrS e9.pls) cb39)]) ?_
   refine lc (.bool true) ?_
   refine li rfl ?_
   refine opAlloc [(.int .u64 0), (.int .i64 0), (.int .i64 0), (.string ⟨#[]⟩), (.slice none 0 0)] rfl rfl (by kernel_rfl) (by kernel_rfl) (fun b8 => ?_)
   refine li rfl ?_
   refine opStoreN 8 [(.int .u64 ((b.num : Nat) : Int)), (vI b.len), (.int .i64 0), (.string ⟨#[]⟩), (vL B39 (arrS e9.pls) cb39)] (vs := [(.int .u64 ((b.num : Nat) : Int)), (vI b.len), (.int .i64 0), (.string ⟨#[]⟩), (vL B39 (arrS e9.pls) cb39)]) rfl rfl (by kernel_rfl) rfl rfl rfl (by kernel_rfl) rfl (by simp) (by simp [Value.oneCell']) rfl ?_
   refine la ?_
   refine liNil (qThen (stSeq (stSeq ?_)))
   rw [show arrS e9.pls = b.secs from r5]
   refine reg ?_
   refine lm ?_
   refine lc (.bool false) ?_
   refine liNil (qThen (stFalse rfl (stSkip (qThen (stSeq (reg ?_))))))
   refine lm ?_
   refine lv (v := (.agg #[(.int .u64 ((b.num : Nat) : Int)), (vI b.len), (.int .i64 0), (.string ⟨#[]⟩), (vL B39 b.secs cb39)])) (rLoadA [(.int .u64 ((b.num : Nat) : Int)), (vI b.len), (.int .i64 0), (.string ⟨#[]⟩), (vL B39 b.secs cb39)] rfl rfl (by kernel_rfl) (by kernel_rfl) (segAt (i := 8) rfl (by intro j v hj; first | (rw [Nat.zero_add]; exact hj) | (match j, hj with | 0, h => exact h | 1, h => exact h | 2, h => exact h | 3, h => exact h | 4, h => exact h)))) ?_
   refine li rfl ?_
   refine opK [0] [cDisk bd X sz secs []] (fun w hM hO => (sStream_ok bs bd first (vI Y1.us.length) (.int .u64 ((Y1.num : Nat) : Int)) (.map (some Y1.bm)) (vL Y1.Au Y1.us (Y1.cu)) (.slice none 0 0) (vI Y1.fr) (.bool false) X sz secs b (.int .i64 0) (.string ⟨#[]⟩) B39 cb39 w hO (r0.goS hM [0]) (hM.keepS [0] (j := 1) rfl (fun _ h => store_at h)) (hM.keepS [0] (j := 7) rfl (fun _ h => cRw_row h)) (⟨q2, q3, q4, by omega⟩) (fun i s hs => by have h := hD.own b hbm i s hs; exact ⟨by omega, by omega, h.2⟩) (q5) (⟨z1, z2⟩) (⟨rfl, rfl⟩)).mono ?_)
   rintro e w' ⟨S47, cs47, rfl, hP, hcap47⟩
   refine ⟨_, [cDisk bd X sz secs []], _, rfl, hP, rfl, ?_⟩; clear hP hM hO
   refine lm ?_
   refine lc (vL S47 b.stream cs47) ?_
   refine lc (.bool true) ?_
   refine lc (.int .i64 0) ?_
   refine la ?_
   refine la ?_
   refine la ?_
   refine liNil (qThen (stSeq (stSeq ?_)))
   refine St.to [cDisk bd X sz secs [], cStore bs bd first Y1, cMap kU slv bf19 (F19.map feV), cFam F19, cOwn 3 1 W19 ((scanT (secG first secs) Y.us.length).2.length) (cw19) (II (scanT (secG first secs) Y.us.length).2), cAt bk27 85 [(.map (some bf19))], cUs b28 l28 rest28, cRw B39 (II b.secs), cAt b8 70 [(.int .u64 ((b.num : Nat) : Int)), (vI b.len), (.int .i64 0), (.string ⟨#[]⟩), (vL B39 b.secs cb39)], cRw S47 (B8 b.stream)] (by kernel_rfl) ?_
   refine reg ?_
   refine lm ?_
   refine lc (.bool false) ?_
   refine liNil (qThen (stFalse rfl (stSkip (qThen (stSeq (stSeq (reg ?_)))))))
   refine lm ?_
   refine lc (.bool false) ?_
   refine liNil (qThen (stFalse rfl (stSkip (qThen (stSeq (reg ?_))))))
   refine lm ?_
   refine li rfl ?_
   refine opK0 (fun w hM => (cDiv_ok S47 cs47 b.stream b.key (sha b.data) b.data w (r0.go0 hM) (hM.keep0 (j := 9) rfl (fun _ h => cRw_row h)) (by rw [b.stream_len]; omega) (hcap47) (divB_stream q1 q2 q3)).mono ?_)
   rintro e w' ⟨B58, cb58, rfl, hP⟩
   refine ⟨_, _, rfl, hP, ?_⟩; clear hP hM
   refine lm ?_
   refine lc (vS b.key) ?_
   refine lc (vS (sha b.data)) ?_
   refine lc (vL B58 b.data cb58) ?_
   refine lc (.bool true) ?_
   refine la ?_
   refine la ?_
   refine la ?_
   refine la ?_
   refine liNil (qThen (stSeq (stSeq (reg ?_))))
   refine lm ?_
   refine lc (.bool false) ?_
   refine lm ?_
   refine lgm ?_
   refine lgm ?_
   refine liGo rfl rfl ?_
   refine opK0 (fun w hM => (sHas_any bs bd (vI first) (vI Y1.us.length) (.int .u64 ((Y1.num : Nat) : Int)) Y1.bm (vL Y1.Au Y1.us (Y1.cu)) (.slice none 0 0) (vI Y1.fr) (.bool false) Y1.kv b.key w (hM.keep0 (j := 1) rfl (fun _ h => store_at h)) (hM.keep0 (j := 1) rfl (fun _ h => store_map h)) (by omega)).mono ?_)
   rintro e w' ⟨rfl, hP⟩
   refine ⟨_, _, rfl, hP, ?_⟩; clear hP hM
   refine lc (.bool (kvGet Y1.kv b.key).isSome) ?_
   refine liNil (qThen ?_)
   refine stFalseK rfl (by rw [hkn]; rfl) ?_
   refine stSkip (qThen (stSeq (reg ?_)))
   refine lm ?_
   refine lc (vP b8 3) ?_
   refine li rfl ?_
   refine opStore1 8 rfl rfl (by kernel_rfl) rfl rfl rfl (by kernel_rfl) rfl (by simp) ?_
   refine liNil (qThen (stSeq (reg ?_)))
   refine lm ?_
   refine lc (vI b.data.length) ?_
   refine lc (vP b8 2) ?_
   refine li rfl ?_
   refine opStore1 8 rfl rfl (by kernel_rfl) rfl rfl rfl (by kernel_rfl) rfl (by simp) ?_
   refine liNil (qThen ?_)
   refine St.to [cDisk bd X sz secs [], cStore bs bd first Y1, cMap kU slv bf19 (F19.map feV), cFam F19, cOwn 3 1 W19 ((scanT (secG first secs) Y.us.length).2.length) (cw19) (II (scanT (secG first secs) Y.us.length).2), cAt bk27 85 [(.map (some bf19))], cUs b28 l28 rest28, cRw B39 (II b.secs), cAt b8 70 [(.int .u64 ((b.num : Nat) : Int)), (vI b.len), (vI b.data.length), (vS (sha b.data)), (vL B39 b.secs cb39)], cRw S47 (B8 b.stream), cRw B58 (B8 b.data)] (by kernel_rfl) ?_
   refine reg ?_
   refine lm ?_
   refine lm ?_
   refine lv (v := (.agg #[(.int .u64 ((b.num : Nat) : Int)), (vI b.len), (vI b.data.length), (vS (sha b.data)), (vL B39 b.secs cb39)])) (rLoadA [(.int .u64 ((b.num : Nat) : Int)), (vI b.len), (vI b.data.length), (vS (sha b.data)), (vL B39 b.secs cb39)] rfl rfl (by kernel_rfl) (by kernel_rfl) (segAt (i := 8) rfl (by intro j v hj; first | (rw [Nat.zero_add]; exact hj) | (match j, hj with | 0, h => exact h | 1, h => exact h | 2, h => exact h | 3, h => exact h | 4, h => exact h)))) ?_
   refine li rfl ?_
   refine opK [1, 7] [cStore bs bd first Y1, cRw B39 (II b.secs)] (fun w hM hO => (sAdd_any bs bd first Y1 b B39 cb39 w hO (⟨q2, q3, q4, by omega⟩) (fun s hs => by rw [hY1]; exact hsn s hs) (by omega) (by omega) (by omega) (by omega)).mono ?_)
   rintro e w' ⟨rfl, hP⟩
   refine ⟨_, [cStore bs bd first (addY Y1 ⟨b, B39, cb39⟩), cInts []], _, rfl, hP, rfl, ?_⟩; clear hP hM hO
   refine liNil (qBlock (qThen ?_))
   have hLn : LR Y.us.length M (ol.take (j + 1)) (addY Y1 ⟨b, B39, cb39⟩) := by rw [List.take_add_one, hb]; exact o2.add hky hMb hsn hal
   refine reg ?_
   refine lv (v := (vI (j + 1))) (rAdd _ rfl rfl rfl (by omega) (by omega) (by omega)) ?_
   refine lm ?_
   refine liNil (qThen ?_)
   exact stAgain (j + 1, addY Y1 ⟨b, B39, cb39⟩) (⟨by show _ ≤ _; omega, hLn⟩) (by show _ - _ < _ - _; omega) ⟨rfl, rfl, rfl, rfl, rfl, rfl, rfl, trivial⟩ (fun w hM => (hM.pick [0, 1, 2, 3, 4, 5, 6] rfl rfl))
  ·have hd31 := of_decide_eq_false hc31
   refine stExit (qThenX (qThenX (qBlockX (qThen (stSeq (stSeq (reg ?_)))))))
   refine lm ?_
   refine lc (vI ((scanT (secG first secs) Y.us.length).2.length)) ?_
   refine lm ?_
   refine liNil (qThen (stBlock ?_))
   obtain rfl : j = ol.length := by omega
   rw [List.take_length] at o2
   have hY1 := o2.len
   have hwl := scanT_len (secG first secs) Y.us.length
   refine stLoop (ι := Nat) (fun i => i ≤ (scanT (secG first secs) Y.us.length).2.length) (fun i => (scanT (secG first secs) Y.us.length).2.length - i) (fun i => [(0, (vP bs 0)), (2, (.int .i64 0)), (80, (.slice W19 ((scanT (secG first secs) Y.us.length).2.length) (cw19))), (81, (vI ((scanT (secG first secs) Y.us.length).2.length))), (82, (vI i))]) (fun i => [cDisk bd X sz secs [], cStore bs bd first Y1, cMap kU slv bf19 (F19.map feV), cFam F19, cOwn 3 1 W19 ((scanT (secG first secs) Y.us.length).2.length) (cw19) (II (scanT (secG first secs) Y.us.length).2), cAt bk27 85 [(.map (some bf19))], cUs b28 l28 rest28]) 0 (Nat.zero_le _) ⟨rfl, rfl, rfl, rfl, rfl, trivial⟩ (fun _ h => h) ?_
   intro i hok
   show St _ _ _ [(0, (vP bs 0)), (2, (.int .i64 0)), (80, (.slice W19 ((scanT (secG first secs) Y.us.length).2.length) (cw19))), (81, (vI ((scanT (secG first secs) Y.us.length).2.length))), (82, (vI i))] [cDisk bd X sz secs [], cStore bs bd first Y1, cMap kU slv bf19 (F19.map feV), cFam F19, cOwn 3 1 W19 ((scanT (secG first secs) Y.us.length).2.length) (cw19) (II (scanT (secG first secs) Y.us.length).2), cAt bk27 85 [(.map (some bf19))], cUs b28 l28 rest28] _
   refine stSeq (reg ?_)
   refine lc (.bool (decide (((i : Nat) : Int) < (((scanT (secG first secs) Y.us.length).2.length : Nat) : Int)))) ?_
   refine liNil (qThen (stSeq ?_))
   refine stCond rfl (fun hc83 => ?_) (fun hc83 => ?_)
   ·have hd83 := of_decide_eq_true hc83
    refine stSkip (qThen (stSeq (stBlock (stSeq (reg ?_)))))
    obtain ⟨x0, hx0⟩ : ∃ ξ, ((scanT (secG first secs) Y.us.length).2)[i]? = some ξ := ⟨_, List.getElem?_eq_getElem (by omega)⟩
    refine St.rowPtr (fun w hM => rowOwn (i := 4) rfl w hM) (II_at hx0) (fun p84 q84 hA84 hc84 => ?_)
    refine lv (v := (vP p84 (q84 + i))) (rIndexRow (e := 3) rfl (by kernel_rfl) (by kernel_rfl) rfl rfl hA84 (by omega)) ?_
    refine lv (v := (vI x0)) (rLoadW rfl rfl (by kernel_rfl) hc84) ?_
    refine la ?_
    refine liNil (qThen (stSeq ?_))
    have hut : Y1.us[x0]? = some true := used_true hD o2 hop (List.mem_of_getElem? hx0)
    have hlu := (List.getElem?_eq_some_iff.1 hut).1
    refine reg ?_
    refine lm ?_
    refine lc (vP bs 0) ?_
    refine lc (vP bs 5) ?_
    refine lv (v := (vL Y1.Au Y1.us (Y1.cu))) (rLoadW rfl rfl (by kernel_rfl) (fun w hM => At.cell (store_at (hM.at (i := 1) rfl)) 5)) ?_
    refine lm ?_
    refine St.rowPtr (fun w hM => store_used (hM.at (i := 1) rfl)) (BB_at hut) (fun p91 q91 hA91 hc91 => ?_)
    refine lv (v := (vP p91 (q91 + x0))) (rIndexRow (e := 4) rfl (by kernel_rfl) (by kernel_rfl) rfl rfl hA91 (by omega)) ?_
    refine lv (v := (.bool true)) (rLoadW rfl rfl (by kernel_rfl) hc91) ?_
    refine lc (.bool false) ?_
    refine liNil (qThen (stFalse rfl (stSkip (qBlock (qThen (reg ?_))))))
    refine lv (v := (vI (i + 1))) (rAdd _ rfl rfl rfl (by omega) (by omega) (by omega)) ?_
    refine lm ?_
    refine liNil (qThen ?_)
    exact stAgain (i + 1) (by show _ ≤ _; omega) (by show _ - _ < _ - _; omega) ⟨rfl, rfl, rfl, rfl, rfl, trivial⟩ (fun w hM => hM)
   ·have hd83 := of_decide_eq_false hc83
    refine stExit (qThenX (qThenX (qBlockX (qThen (stSeq (reg ?_))))))
    refine la ?_
    refine liNil (qThen (stRet ?_))
    refine stEnd [(.int .i64 0)] rfl ⟨rfl, trivial⟩ (fun w hM => ?_)
    exact ⟨_, ol, rfl, hM.pick [0, 1] rfl rfl, o2, hop⟩
end Go.Proofs.YtaiggifiefnjnaaGreatDoor
namespace Go.Proofs.YtaiggifiefnjnaaGreatDoor
open Go.RowKit
theorem sOpen_bad (bd : Nat) (sz : Nat) (A : Option Addr) (n : Nat) (c : Nat) (v2 : Value) (v3 : Value) (v4 : Value) (v5 : Value) (f : Int) (k : Int) (w : World) (r0 : Rf [] w (fun w => At w bd 59 [(vI sz), (.slice A (n) (c)), v2, v3, v4, v5])) (hbad : ¬ (64 ≤ sz ∧ 0 ≤ f ∧ 1 ≤ k ∧ f ≤ (n : Int) ∧ k ≤ (n : Int) - f)) (hf : -9223372036854775808 ≤ f ∧ f ≤ 9223372036854775807) (hn : n ≤ 100000) :
  Calls Tryz.prog 10 #[(vP bd 0), (.int .i64 f), (.int .i64 k)] w fun e w' => e = .returned (.tuple #[(.pointer none), (.int .i64 1)]) ∧ Back [] w [] w' := by
 have _u0 := r0
 have _u1 := hbad
 have _u2 := hf
 have _u3 := hn
 clear _u0 _u1 _u2 _u3
 refine stEnter (args := [(vP bd 0), (.int .i64 f), (.int .i64 k)]) (fps []) Tryz.func10 rfl 53 rfl [(0, (vP bd 0)), (1, (.int .i64 f)), (2, (.int .i64 k))] ⟨rfl, rfl, rfl, trivial⟩ [] (Mm.start w []) ?_
 refine stSeq ?_
 obtain ⟨f1, f2⟩ := hf
 refine reg ?_
 refine la ?_
 refine la ?_
 refine liNil (qThen (stSeq (reg ?_)))
 refine lm ?_
 refine li rfl ?_
 refine opK0 (fun w hM => (dSect_any bd (vI sz) A n c v2 v3 v4 v5 w (r0.go0 hM)).mono ?_)
 rintro e w' ⟨rfl, hP⟩
 refine ⟨_, _, rfl, hP, ?_⟩; clear hP hM
 refine la ?_
 refine liNil (qThen (stSeq (stSeq (reg ?_))))
 refine lm ?_
 refine li rfl ?_
 refine opK0 (fun w hM => (dSize_any bd sz (.slice A (n) (c)) v2 v3 v4 v5 w (r0.go0 hM)).mono ?_)
 rintro e w' ⟨rfl, hP⟩
 refine ⟨_, _, rfl, hP, ?_⟩; clear hP hM
 refine lc (.bool (decide (((sz : Nat) : Int) < 64))) ?_
 refine lm ?_
 refine St.dec 16 rfl (fun hc16 => ?_) (fun hc16 => ?_)
 ·have hd16 := of_decide_eq_true hc16
  refine lnT ?_
  refine lnT ?_
  refine lc (.bool true) ?_
  refine lm ?_
  refine lnT ?_
  refine lnT ?_
  refine lc (.bool true) ?_
  refine lm ?_
  refine lnT ?_
  refine lnT ?_
  refine lnT ?_
  refine lc (.bool true) ?_
  refine lm ?_
  refine lnT ?_
  refine lnT ?_
  refine lnT ?_
  refine lnT ?_
  refine lnT ?_
  refine lc (.bool true) ?_
  refine liNil (qThen (stTrue rfl (stSeq (reg ?_))))
  refine la ?_
  refine la ?_
  refine liNil (qThen (stRet (qThenR ?_)))
  refine stEnd [(.pointer none), (.int .i64 1)] rfl ⟨rfl, rfl, trivial⟩ (fun w hM => ?_)
  exact ⟨rfl, hM⟩
 ·have hd16 := of_decide_eq_false hc16
  refine lgm ?_
  refine lgc (.bool (decide ((f : Int) < 0))) ?_
  refine lc (.bool (decide ((f : Int) < 0))) ?_
  refine lm ?_
  refine St.dec 20 rfl (fun hc20 => ?_) (fun hc20 => ?_)
  ·have hd20 := of_decide_eq_true hc20
   refine lnT ?_
   refine lnT ?_
   refine lc (.bool true) ?_
   refine lm ?_
   refine lnT ?_
   refine lnT ?_
   refine lnT ?_
   refine lc (.bool true) ?_
   refine lm ?_
   refine lnT ?_
   refine lnT ?_
   refine lnT ?_
   refine lnT ?_
   refine lnT ?_
   refine lc (.bool true) ?_
   refine liNil (qThen (stTrue rfl (stSeq (reg ?_))))
   refine la ?_
   refine la ?_
   refine liNil (qThen (stRet (qThenR ?_)))
   refine stEnd [(.pointer none), (.int .i64 1)] rfl ⟨rfl, rfl, trivial⟩ (fun w hM => ?_)
   exact ⟨rfl, hM⟩
  ·have hd20 := of_decide_eq_false hc20
   refine lgm ?_
   refine lgc (.bool (decide ((k : Int) < 1))) ?_
   refine lc (.bool (decide ((k : Int) < 1))) ?_
   refine lm ?_
   refine St.dec 24 rfl (fun hc24 => ?_) (fun hc24 => ?_)
   ·have hd24 := of_decide_eq_true hc24
    refine lnT ?_
    refine lnT ?_
    refine lnT ?_
    refine lc (.bool true) ?_
    refine lm ?_
    refine lnT ?_
    refine lnT ?_
    refine lnT ?_
    refine lnT ?_
    refine lnT ?_
    refine lc (.bool true) ?_
    refine liNil (qThen (stTrue rfl (stSeq (reg ?_))))
    refine la ?_
    refine la ?_
    refine liNil (qThen (stRet (qThenR ?_)))
    refine stEnd [(.pointer none), (.int .i64 1)] rfl ⟨rfl, rfl, trivial⟩ (fun w hM => ?_)
    exact ⟨rfl, hM⟩
   ·have hd24 := of_decide_eq_false hc24
    refine lgm ?_
    refine lgm ?_
    refine lgc (.bool (decide ((f : Int) > ((n : Nat) : Int)))) ?_
    refine lc (.bool (decide ((f : Int) > ((n : Nat) : Int)))) ?_
    refine lm ?_
    refine St.dec 29 rfl (fun hc29 => ?_) (fun hc29 => ?_)
    ·have hd29 := of_decide_eq_true hc29
     refine lnT ?_
     refine lnT ?_
     refine lnT ?_
     refine lnT ?_
     refine lnT ?_
     refine lc (.bool true) ?_
     refine liNil (qThen (stTrue rfl (stSeq (reg ?_))))
     refine la ?_
     refine la ?_
     refine liNil (qThen (stRet (qThenR ?_)))
     refine stEnd [(.pointer none), (.int .i64 1)] rfl ⟨rfl, rfl, trivial⟩ (fun w hM => ?_)
     exact ⟨rfl, hM⟩
    ·have hd29 := of_decide_eq_false hc29
     refine lgm ?_
     refine lgm ?_
     refine lgm ?_
     refine lgv (v := (.int .i64 (((n : Nat) : Int) - f))) (rSub _ rfl rfl rfl rfl (by omega) (by omega)) ?_
     refine lgc (.bool (decide ((k : Int) > (((n : Nat) : Int) - f)))) ?_
     refine lc (.bool (decide ((k : Int) > (((n : Nat) : Int) - f)))) ?_
     refine liNil (qThen ?_)
     refine stCond rfl (fun hc35 => ?_) (fun hc35 => ?_)
     ·have hd35 := of_decide_eq_true hc35
      refine stSeq (reg ?_)
      refine la ?_
      refine la ?_
      refine liNil (qThen (stRet (qThenR ?_)))
      refine stEnd [(.pointer none), (.int .i64 1)] rfl ⟨rfl, rfl, trivial⟩ (fun w hM => ?_)
      exact ⟨rfl, hM⟩
     ·have hd35 := of_decide_eq_false hc35
      exact (hbad ⟨by omega, by omega, by omega, by omega, by omega⟩).elim
theorem sOpen_down (bd : Nat) (sz : Nat) (A : Option Addr) (n : Nat) (c : Nat) (v2 : Value) (v3 : Value) (v4 : Value) (f : Int) (k : Int) (w : World) (r0 : Rf [] w (fun w => At w bd 59 [(vI sz), (.slice A (n) (c)), v2, v3, v4, (.bool true)])) (hgood : 64 ≤ sz ∧ 0 ≤ f ∧ 1 ≤ k ∧ f ≤ (n : Int) ∧ k ≤ (n : Int) - f) (hn : n ≤ 100000) :
  Calls Tryz.prog 10 #[(vP bd 0), (.int .i64 f), (.int .i64 k)] w fun e w' => e = .returned (.tuple #[(.pointer none), (.int .i64 8)]) ∧ Back [] w [] w' := by
 have _u0 := r0
 have _u1 := hgood
 have _u2 := hn
 clear _u0 _u1 _u2
 refine stEnter (args := [(vP bd 0), (.int .i64 f), (.int .i64 k)]) (fps []) Tryz.func10 rfl 53 rfl [(0, (vP bd 0)), (1, (.int .i64 f)), (2, (.int .i64 k))] ⟨rfl, rfl, rfl, trivial⟩ [] (Mm.start w []) ?_
 refine stSeq ?_
 obtain ⟨g1, g2, g3, g4, g5⟩ := hgood
 refine reg ?_
 refine la ?_
 refine la ?_
 refine liNil (qThen (stSeq (reg ?_)))
 refine lm ?_
 refine li rfl ?_
 refine opK0 (fun w hM => (dSect_any bd (vI sz) A n c v2 v3 v4 (.bool true) w (r0.go0 hM)).mono ?_)
 rintro e w' ⟨rfl, hP⟩
 refine ⟨_, _, rfl, hP, ?_⟩; clear hP hM
 refine la ?_
 refine liNil (qThen (stSeq (stSeq (reg ?_))))
 refine lm ?_
 refine li rfl ?_
 refine opK0 (fun w hM => (dSize_any bd sz (.slice A (n) (c)) v2 v3 v4 (.bool true) w (r0.go0 hM)).mono ?_)
 rintro e w' ⟨rfl, hP⟩
 refine ⟨_, _, rfl, hP, ?_⟩; clear hP hM
 refine lc (.bool (decide (((sz : Nat) : Int) < 64))) ?_
 refine lm ?_
 refine St.known 16 (b' := false) rfl (decide_eq_false (by omega)) ?_
 refine lgm ?_
 refine lgc (.bool (decide ((f : Int) < 0))) ?_
 refine lc (.bool (decide ((f : Int) < 0))) ?_
 refine lm ?_
 refine St.known 20 (b' := false) rfl (decide_eq_false (by omega)) ?_
 refine lgm ?_
 refine lgc (.bool (decide ((k : Int) < 1))) ?_
 refine lc (.bool (decide ((k : Int) < 1))) ?_
 refine lm ?_
 refine St.known 24 (b' := false) rfl (decide_eq_false (by omega)) ?_
 refine lgm ?_
 refine lgm ?_
 refine lgc (.bool (decide ((f : Int) > ((n : Nat) : Int)))) ?_
 refine lc (.bool (decide ((f : Int) > ((n : Nat) : Int)))) ?_
 refine lm ?_
 refine St.known 29 (b' := false) rfl (decide_eq_false (by omega)) ?_
 refine lgm ?_
 refine lgm ?_
 refine lgm ?_
 refine lgv (v := (.int .i64 (((n : Nat) : Int) - f))) (rSub _ rfl rfl rfl rfl (by omega) (by omega)) ?_
 refine lgc (.bool (decide ((k : Int) > (((n : Nat) : Int) - f)))) ?_
 refine lc (.bool (decide ((k : Int) > (((n : Nat) : Int) - f)))) ?_
 refine liNil (qThen ?_)
 refine stFalseK rfl (decide_eq_false (by omega)) ?_
 refine stSkip (qThen (stSeq (stSeq (reg ?_))))
 refine lm ?_
 refine li rfl ?_
 refine opK0 (fun w hM => (dDown_any bd (vI sz) (.slice A (n) (c)) v2 v3 v4 true w (r0.go0 hM)).mono ?_)
 rintro e w' ⟨rfl, hP⟩
 refine ⟨_, _, rfl, hP, ?_⟩; clear hP hM
 refine liNil (qThen (stTrue rfl (stSeq (reg ?_))))
 refine la ?_
 refine la ?_
 refine liNil (qThen (stRet (qThenR ?_)))
 refine stEnd [(.pointer none), (.int .i64 8)] rfl ⟨rfl, rfl, trivial⟩ (fun w hM => ?_)
 exact ⟨rfl, hM⟩
theorem sOpen_ok (bd : Nat) (first : Nat) (n : Nat) (X : DX) (sz : Nat) (secs : List Bs) (bl : List Bl) (M : Nat) (w : World) (hO : Own [cDisk bd X sz secs []] w) (r0 : Rf [cDisk bd X sz secs []] w (Vars)) (hD : DI sz first n bl secs) (hMx : ∀ b ∈ bl, b.num + 1 ≤ M) (hb : bl.length ≤ 49 ∧ 1 ≤ M ∧ M ≤ 1000000 ∧ 1 ≤ n ∧ secs.length ≤ 100000) :
  Calls Tryz.prog 10 #[(vP bd 0), (vI first), (vI n)] w fun e w' => ∃ (bs : Nat) (Y : SX) (ol : List Bl), e = .returned (.tuple #[(vP bs 0), (.int .i64 0)]) ∧ Back [cDisk bd X sz secs []] w [cDisk bd X sz secs [], cStore bs bd first Y] w' ∧ (LR n M ol Y ∧ ol.Perm bl) := by
 have _u0 := r0
 have _u1 := hD
 have _u2 := hMx
 have _u3 := hb
 clear _u0 _u1 _u2 _u3
 refine stEnter (args := [(vP bd 0), (vI first), (vI n)]) (fps [cDisk bd X sz secs []]) Tryz.func10 rfl 53 rfl [(0, (vP bd 0)), (1, (vI first)), (2, (vI n))] ⟨rfl, rfl, rfl, trivial⟩ [cDisk bd X sz secs []] (hO) ?_
 refine stSeq ?_
 obtain ⟨b1, b2, b3, b4, b5⟩ := hb
 have z1 := hD.z1
 have z2 := hD.z2
 have n2 := hD.n2
 have f2 := hD.f2
 have hln := hD.len
 refine St.fact (fun w hM => (hM.at (i := 0) rfl : (cDisk bd X sz secs []).holds w).2.2.dl) (fun hdl => ?_)
 obtain ⟨us, hul, hur⟩ : ∃ us : List Bool, n = us.length ∧ List.replicate n false = us := ⟨_, (List.length_replicate ..).symm, rfl⟩
 subst hul
 refine reg ?_
 refine la ?_
 refine la ?_
 refine liNil (qThen (stSeq (reg ?_)))
 refine lm ?_
 refine li rfl ?_
 refine opK0 (fun w hM => (dSect_any bd (vI sz) X.Ad X.dv.length X.cd (vL X.Ap X.pv (X.cp)) (.map (some X.lat)) (.int .i64 (-1)) (.bool false) w (hM.keep0 (j := 0) rfl (fun _ h => disk_at h))).mono ?_)
 rintro e w' ⟨rfl, hP⟩
 refine ⟨_, _, rfl, hP, ?_⟩; clear hP hM
 refine la ?_
 refine liNil (qThen (stSeq (stSeq (reg ?_))))
 refine lm ?_
 refine li rfl ?_
 refine opK0 (fun w hM => (dSize_any bd sz (vL X.Ad X.dv (X.cd)) (vL X.Ap X.pv (X.cp)) (.map (some X.lat)) (.int .i64 (-1)) (.bool false) w (hM.keep0 (j := 0) rfl (fun _ h => disk_at h))).mono ?_)
 rintro e w' ⟨rfl, hP⟩
 refine ⟨_, _, rfl, hP, ?_⟩; clear hP hM
 refine lc (.bool (decide (((sz : Nat) : Int) < 64))) ?_
 refine lm ?_
 refine St.known 16 (b' := false) rfl (decide_eq_false (by omega)) ?_
 refine lgm ?_
 refine lgc (.bool (decide (((first : Nat) : Int) < 0))) ?_
 refine lc (.bool (decide (((first : Nat) : Int) < 0))) ?_
 refine lm ?_
 refine St.known 20 (b' := false) rfl (decide_eq_false (by omega)) ?_
 refine lgm ?_
 refine lgc (.bool (decide (((us.length : Nat) : Int) < 1))) ?_
 refine lc (.bool (decide (((us.length : Nat) : Int) < 1))) ?_
 refine lm ?_
 refine St.known 24 (b' := false) rfl (decide_eq_false (by omega)) ?_
 refine lgm ?_
 refine lgm ?_
 refine lgc (.bool (decide (((first : Nat) : Int) > ((X.dv.length : Nat) : Int)))) ?_
 refine lc (.bool (decide (((first : Nat) : Int) > ((X.dv.length : Nat) : Int)))) ?_
 refine lm ?_
 refine St.known 29 (b' := false) rfl (decide_eq_false (by omega)) ?_
 refine lgm ?_
 refine lgm ?_
 refine lgm ?_
 refine lgv (v := (.int .i64 (((X.dv.length : Nat) : Int) - ((first : Nat) : Int)))) (rSub _ rfl rfl rfl rfl (by omega) (by omega)) ?_
 refine lgc (.bool (decide (((us.length : Nat) : Int) > (((X.dv.length : Nat) : Int) - ((first : Nat) : Int))))) ?_
 refine lc (.bool (decide (((us.length : Nat) : Int) > (((X.dv.length : Nat) : Int) - ((first : Nat) : Int))))) ?_
 refine liNil (qThen ?_)
 refine stFalseK rfl (decide_eq_false (by omega)) ?_
 refine stSkip (qThen (stSeq (stSeq (reg ?_))))
 refine lm ?_
 refine li rfl ?_
 refine opK0 (fun w hM => (dDown_any bd (vI sz) (vL X.Ad X.dv (X.cd)) (vL X.Ap X.pv (X.cp)) (.map (some X.lat)) (.int .i64 (-1)) false w (hM.keep0 (j := 0) rfl (fun _ h => disk_at h))).mono ?_)
 rintro e w' ⟨rfl, hP⟩
 refine ⟨_, _, rfl, hP, ?_⟩; clear hP hM
 refine liNil (qThen (stFalse rfl (stSkip (qThen (stSeq (reg ?_))))))
 refine lm ?_
 refine lm ?_
 refine lm ?_
 refine li rfl ?_
 refine opMakeMapK kB bvV rfl rfl (by kernel_rfl) (fun m41 => ?_)
 refine lm ?_
 refine li rfl ?_
 refine opMkN el_bool us.length (by omega) (BB us) rfl rfl (by kernel_rfl) rfl rfl rfl (by rw [← hur, List.length_replicate]; simp [BB]) (fun b43 => ?_)
 refine lm ?_
 refine lc (.agg #[(vP bd 0), (vI first), (vI us.length), (.int .u64 1), (.map (some m41)), (vL (some ⟨b43, 0, none⟩) us (us.length)), (.slice none 0 0), (vI us.length), (.bool false)]) ?_
 refine li rfl ?_
 refine opBox [(vP bd 0), (vI first), (vI us.length), (.int .u64 1), (.map (some m41)), (vL (some ⟨b43, 0, none⟩) us (us.length)), (.slice none 0 0), (vI us.length), (.bool false)] rfl rfl (by kernel_rfl) rfl rfl (fun b46 => ?_)
 refine St.to [cDisk bd X sz secs [], cMap kB bvV m41 [], cAt b43 4 (BB us), cAt b46 66 [(vP bd 0), (vI first), (vI us.length), (.int .u64 1), (.map (some m41)), (vL (some ⟨b43, 0, none⟩) us (us.length)), (.slice none 0 0), (vI us.length), (.bool false)]] (by kernel_rfl) ?_
 refine la ?_
 refine liNil (qThen (stSeq (stSeq ?_)))
 have hBB : (BB us).length = us.length := List.length_map ..
 refine St.mem (cs' := [cDisk bd X sz secs [], cStore b46 bd first (SX.mk m41 (some ⟨b43, 0, none⟩) us.length 1 us us.length [] [])]) (fun w hM => Mm.pack (A := [cDisk bd X sz secs []]) (B := []) (((hM.mkOwn 2 rfl hBB (by unfold maxLen; omega)).newInts).pick [0, 3, 1, 2, 4] rfl rfl) ⟨fun p hp => (by cases hp), fun p hp => (by cases hp)⟩) ?_
 refine reg ?_
 refine lm ?_
 refine li rfl ?_
 refine opK [0, 1] [cDisk bd X sz secs [], cStore b46 bd first (SX.mk m41 (some ⟨b43, 0, none⟩) us.length 1 us us.length [] [])] (fun w hM hO => (sLoad_any b46 bd first (SX.mk m41 (some ⟨b43, 0, none⟩) us.length 1 us us.length [] []) X sz secs bl M w hO (r0.goS hM [0, 1]) (hD) (⟨rfl, fun p hp => (by cases hp), (by rw [show us = flagsOf us.length [] from by rw [flagsOf_nil]; exact hur.symm, flagsOf_len]; rfl), rfl, fun s hs => (by cases hs), fun b hb => (by cases hb), Nat.le_refl _, b2⟩) (hMx) (⟨by omega, by omega⟩)).mono ?_)
 rintro e w' ⟨Y248, ol48, rfl, hP, hLR48⟩
 refine ⟨_, [cDisk bd X sz secs [], cStore b46 bd first Y248], _, rfl, hP, rfl, ?_⟩; clear hP hM hO
 refine la ?_
 refine liNil (qThen (stSeq (reg ?_)))
 refine lm ?_
 refine lc (.bool false) ?_
 refine liNil (qThen (stFalse rfl (stSkip (qThen (stSeq (reg ?_))))))
 refine lm ?_
 refine la ?_
 refine la ?_
 refine liNil (qThen (stRet ?_))
 refine stEnd [(vP b46 0), (.int .i64 0)] rfl ⟨rfl, rfl, trivial⟩ (fun w hM => ?_)
 exact ⟨_, _, _, rfl, hM, hLR48⟩
end Go.Proofs.YtaiggifiefnjnaaGreatDoor
namespace Go.Proofs.YtaiggifiefnjnaaGreatDoor
open Go.RowKit
structure SI (sz first n M : Nat) (bl : List Bl) (secs : List Bs) (Y : SX) : Prop where
 d : DI sz first n bl secs
 l : LR n M bl Y
 m : M ≤ 1000
 s : secs.length ≤ 100000
 n1 : 1 ≤ n
def delErr (Y : SX) (key : Bs) : Nat := if (kvGet Y.kv key).isSome then 0 else 4
theorem LR.mono {n M M' : Nat} {bl : List Bl} {Y : SX} (h : LR n M bl Y) (hm : M ≤ M') : LR n M' bl Y := ⟨h.kv, h.key, h.us, h.fr, h.lt, h.num, h.n1, Nat.le_trans h.nm hm⟩
theorem DI.bkey {sz first n : Nat} {bl : List Bl} {secs : List Bs} (h : DI sz first n bl secs) {b b' : Bl} (hb : b ∈ bl) (hb' : b' ∈ bl) (hn : b.key = b'.key) : b = b' := by
 obtain ⟨i, hi, e1⟩ := List.mem_iff_getElem.1 hb
 obtain ⟨j, hj, e2⟩ := List.mem_iff_getElem.1 hb'
 have e : (bl.map Bl.key)[i]'(by simpa using hi) = (bl.map Bl.key)[j]'(by simpa using hj) := by simp [e1, e2, hn]
 have := (List.getElem_inj h.keys).1 e
 subst this
 exact e1.symm.trans e2
theorem sPuts (bs : Nat) (bd : Nat) (first : Nat) (Y : SX) (X : DX) (sz : Nat) (secs : List Bs) (n : Nat) (M : Nat) (bl : List Bl) (key : List UInt8) (data : List UInt8) (A3 : Option Addr) (c3 : Nat) (w : World) (hO : Own [cDisk bd X sz secs [], cStore bs bd first Y] w) (r0 : Rf [cDisk bd X sz secs [], cStore bs bd first Y] w (Vars)) (r1 : Rf [cDisk bd X sz secs [], cStore bs bd first Y] w (fun w => RowIn w A3 (B8 data))) (hS : SI sz first n M bl secs Y) (hkl : key.length ≤ 1000000 ∧ data.length ≤ 9223372036854775807) (hc3 : data.length ≤ c3) (hM : M + 1 ≤ 1000) :
  Calls Tryz.prog 14 #[(vP bs 0), (vS key), (vL A3 data c3)] w fun e w' => ∃ (X2 : DX) (secs2 : List Bs) (Y2 : SX) (bl2 : List Bl), e = .returned (vI (putErr sz Y key data)) ∧ Back [cDisk bd X sz secs [], cStore bs bd first Y] w [cDisk bd X2 sz secs2 [], cStore bs bd first Y2] w' ∧ (SI sz first n (M + 1) bl2 secs2 Y2 ∧ ((putErr sz Y key data = 0 ∧ ∃ b, bl2 = bl ++ [b] ∧ b.key = key ∧ b.data = data) ∨ (putErr sz Y key data ≠ 0 ∧ bl2 = bl))) := by
 have hd := hS.d
 have hl := hS.l
 by_cases hE : putErr sz Y key data = 0
 ·obtain ⟨⟨k1, k2, k3⟩, e1, k4⟩ := putErr_ok hE
  obtain ⟨f1, f2, f3⟩ := hl.free hd.nd
  have hln := hl.len
  have hs := hS.s
  have hm := hS.m
  have hnm := hl.nm
  have hdl := hd.len
  have z1 := hd.z1
  have z2 := hd.z2
  obtain ⟨nb, hnb⟩ : ∃ nb, nb = newB sz Y key data := ⟨_, rfl⟩
  have q1 : nb.secs.length = needN sz nb.len := by
   rw [hnb]
   show ((freeL Y.us).take _).length = _
   rw [List.length_take, f1]
   exact Nat.min_eq_left k4
  have q3 : ∀ s ∈ nb.secs, s ∈ freeL Y.us := fun s hs => by
   rw [hnb] at hs
   exact List.mem_of_mem_take hs
  have q4 : nb.secs.Nodup := by
   rw [hnb]
   exact f2.sublist (List.take_sublist _ _)
  have q5 : (allS (bl ++ [nb])).Nodup := by
   have hall : allS (bl ++ [nb]) = allS bl ++ nb.secs := by simp [allS]
   rw [hall, List.nodup_append]
   exact ⟨hd.nd, q4, fun a ha c hc e => (f3 c (q3 c hc)).2 (e ▸ ha)⟩
  have hkey : nb.key = key := by rw [hnb]; rfl
  have hdat : nb.data = data := by rw [hnb]; rfl
  have hnum : nb.num = Y.num := by rw [hnb]; rfl
  have hfr : ∀ b' ∈ bl, b'.key ≠ nb.key := by rw [hkey]; exact hl.none.1 e1
  have hok : BlOk sz nb := ⟨by rw [hkey]; exact k1, by rw [hkey]; exact k2, by rw [hdat]; exact k3, by rw [hnum]; omega, q1⟩
  refine (sPut_ok bs bd first Y X sz secs key data A3 c3 w hO r0 r1 hE ⟨by omega, by omega⟩ hc3 f1 (by omega) ⟨by omega, by omega⟩).mono ?_
  rintro e w' ⟨X2, A, c, rfl, hP⟩
  rw [← hnb] at hP
  refine ⟨X2, _, _, bl ++ [nb], by rw [hE]; rfl, hP, ⟨hd.add hok (fun s hs => (f3 s (q3 s hs)).1) q5 hfr (fun b' hb' e => by have := hl.num b' hb'; omega), (hl.mono (Nat.le_succ _)).add hfr (by omega) (fun s hs => (f3 s (q3 s hs)).1) q5, hM, by rw [applyW_len]; exact hs, hS.n1⟩, .inl ⟨hE, nb, rfl, hkey, hdat⟩⟩
 ·refine (sPut_bad bs bd first Y X sz secs key data A3 c3 w hO hE ⟨hd.z1, hd.z2⟩ hkl).mono ?_
  rintro e w' ⟨rfl, hP⟩
  exact ⟨X, secs, Y, bl, rfl, hP, ⟨hd, hl.mono (Nat.le_succ _), hM, hS.s, hS.n1⟩, .inr ⟨hE, rfl⟩⟩
theorem sDels (bs : Nat) (bd : Nat) (first : Nat) (Y : SX) (X : DX) (sz : Nat) (secs : List Bs) (n : Nat) (M : Nat) (bl : List Bl) (key : List UInt8) (w : World) (hO : Own [cDisk bd X sz secs [], cStore bs bd first Y] w) (hS : SI sz first n M bl secs Y) (hkl : key.length ≤ 1000000) :
  Calls Tryz.prog 15 #[(vP bs 0), (vS key)] w fun e w' => ∃ (X2 : DX) (secs2 : List Bs) (Y2 : SX) (bl2 : List Bl), e = .returned (vI (delErr Y key)) ∧ Back [cDisk bd X sz secs [], cStore bs bd first Y] w [cDisk bd X2 sz secs2 [], cStore bs bd first Y2] w' ∧ (SI sz first n M bl2 secs2 Y2 ∧ ((delErr Y key = 0 ∧ ∃ b, bl.Perm (b :: bl2) ∧ b.key = key) ∨ (delErr Y key ≠ 0 ∧ bl2 = bl))) := by
 have hd := hS.d
 have hl := hS.l
 cases hk : kvGet Y.kv key with
 | none =>
   have hE : delErr Y key = 4 := by unfold delErr; rw [hk]; rfl
   refine (sDel_no bs bd first Y X sz secs key w hO hk hkl).mono ?_
   rintro e w' ⟨rfl, hP⟩
   exact ⟨X, secs, Y, bl, by rw [hE]; rfl, hP, hS, .inr ⟨by omega, rfl⟩⟩
 | some v =>
   have hE : delErr Y key = 0 := by unfold delErr; rw [hk]; rfl
   obtain ⟨hvb, hvk⟩ := hl.get hk
   have hok := hd.ok _ hvb
   have hln := hl.len
   have hs := hS.s
   have hn2 := hd.n2
   have hfr := hl.fr
   have hlt : ∀ s ∈ v.b.secs, s < n := fun s hs => hd.lt s (List.mem_flatMap.2 ⟨_, hvb, hs⟩)
   have hle := length_le_of_nodup (hd.secs_nd hvb) hlt
   have hps := need_pos (sz := sz) (n := v.b.len) (by have := hd.z1; omega) (by have := Bl.len_le hok; omega)
   have hq := hok.l
   have hdl := hd.len
   obtain ⟨b1, b2, hbl, hlr⟩ := hl.del hd.nd hd.keys hk
   refine (sDel_ok bs bd first Y X sz secs key v w hO hk hkl (fun s hs => by rw [hln]; exact hlt s hs) ⟨by omega, by omega⟩ ⟨by have := hd.z1; omega, hd.z2⟩ (by omega) ⟨hs, by omega⟩).mono ?_
   rintro e w' ⟨X2, rfl, hP⟩
   rw [hbl] at hd
   exact ⟨X2, _, _, b1 ++ b2, by rw [hE]; rfl, hP, ⟨hd.del, hlr, hS.m, by rw [applyW_len]; exact hs, hS.n1⟩, .inl ⟨hE, v.b, by rw [hbl]; exact List.perm_middle, hvk⟩⟩
theorem sGetP (bs : Nat) (bd : Nat) (first : Nat) (Y : SX) (X : DX) (sz : Nat) (secs : List Bs) (n : Nat) (M : Nat) (bl : List Bl) (key : List UInt8) (b : Bl) (w : World) (hO : Own [cDisk bd X sz secs [], cStore bs bd first Y] w) (r0 : Rf [cDisk bd X sz secs [], cStore bs bd first Y] w (Vars)) (hS : SI sz first n M bl secs Y) (hb : b ∈ bl ∧ b.key = key) :
  Calls Tryz.prog 20 #[(vP bs 0), (vS key)] w fun e w' => ∃ (B : Option Addr) (cb : Nat), e = .returned (.tuple #[(vL B b.data cb), (.int .i64 0)]) ∧ Back [cDisk bd X sz secs [], cStore bs bd first Y] w [cDisk bd X sz secs [], cStore bs bd first Y, cRw B (B8 b.data)] w' := by
 have hd := hS.d
 have hl := hS.l
 obtain ⟨hb1, hb2⟩ := hb
 cases hk : kvGet Y.kv key with
 | none => exact (hl.none.1 hk b hb1 hb2).elim
 | some v =>
   obtain ⟨hvb, hvk⟩ := hl.get hk
   have hv : v.b = b := hd.bkey hvb hb1 (hvk.trans hb2.symm)
   have hok := hd.ok _ hvb
   have hlt : ∀ s ∈ v.b.secs, s < n := fun s hs => hd.lt s (List.mem_flatMap.2 ⟨_, hvb, hs⟩)
   have hle := length_le_of_nodup (hd.secs_nd hvb) hlt
   have hn2 := hd.n2
   have hf2 := hd.f2
   refine (sGet_ok bs bd first Y X sz secs key v w hO r0 hk ⟨hok.k2, hok.d, hok.n, by omega⟩ (fun i s hs => by have h := hd.own _ hvb i s hs; exact ⟨by omega, by omega, h.2⟩) hok.l ⟨hd.z1, hd.z2⟩ hok.k1).mono ?_
   rintro e w' ⟨B, cb, rfl, hP⟩
   rw [hv] at hP ⊢
   exact ⟨B, cb, rfl, hP⟩
theorem sGetN (bs : Nat) (bd : Nat) (first : Nat) (Y : SX) (X : DX) (sz : Nat) (secs : List Bs) (n : Nat) (M : Nat) (bl : List Bl) (key : List UInt8) (w : World) (hO : Own [cDisk bd X sz secs [], cStore bs bd first Y] w) (hS : SI sz first n M bl secs Y) (hb : ∀ b ∈ bl, b.key ≠ key) (hkl : key.length ≤ 1000000) :
  Calls Tryz.prog 20 #[(vP bs 0), (vS key)] w fun e w' => e = .returned (.tuple #[(.slice none 0 0), (.int .i64 4)]) ∧ Back [cDisk bd X sz secs [], cStore bs bd first Y] w [cDisk bd X sz secs [], cStore bs bd first Y] w' := by
 refine (sGet_no bs bd first Y X sz secs key w hO (hS.l.none.2 hb) hkl).mono ?_
 rintro e w' ⟨rfl, hP⟩
 exact ⟨rfl, hP⟩
end Go.Proofs.YtaiggifiefnjnaaGreatDoor
namespace Go.Proofs.YtaiggifiefnjnaaGreatDoor
open Go.RowKit
def regB (a b c d : Int) : Bool := decide (64 ≤ b ∧ 0 ≤ c ∧ 1 ≤ d ∧ c ≤ a ∧ d ≤ a - c)
theorem rRegion_any (a : Int) (b : Int) (c : Int) (d : Int) (w : World) (ha : 0 ≤ a ∧ a ≤ 9223372036854775807) :
  Calls Tryz.prog 11 #[(.int .i64 a), (.int .i64 b), (.int .i64 c), (.int .i64 d)] w fun e w' => e = .returned (.bool (regB a b c d)) ∧ Back [] w [] w' := by
 have _u0 := ha
 clear _u0
 refine stEnter (args := [(.int .i64 a), (.int .i64 b), (.int .i64 c), (.int .i64 d)]) (fps []) Tryz.func11 rfl 31 rfl [(0, (.int .i64 a)), (1, (.int .i64 b)), (2, (.int .i64 c)), (3, (.int .i64 d))] ⟨rfl, rfl, rfl, rfl, trivial⟩ [] (Mm.start w []) ?_
 refine stSeq ?_
 obtain ⟨a1, a2⟩ := ha
 refine reg ?_
 refine la ?_
 refine liNil (qThen (stSeq (reg ?_)))
 refine lm ?_
 refine lc (.bool (decide ((b : Int) ≥ 64))) ?_
 refine lm ?_
 refine St.dec 11 rfl (fun hc11 => ?_) (fun hc11 => ?_)
 ·have hd11 := of_decide_eq_true hc11
  refine lgm ?_
  refine lgc (.bool (decide ((c : Int) ≥ 0))) ?_
  refine lc (.bool (decide ((c : Int) ≥ 0))) ?_
  refine lm ?_
  refine St.dec 15 rfl (fun hc15 => ?_) (fun hc15 => ?_)
  ·have hd15 := of_decide_eq_true hc15
   refine lgm ?_
   refine lgc (.bool (decide ((d : Int) ≥ 1))) ?_
   refine lc (.bool (decide ((d : Int) ≥ 1))) ?_
   refine lm ?_
   refine St.dec 19 rfl (fun hc19 => ?_) (fun hc19 => ?_)
   ·have hd19 := of_decide_eq_true hc19
    refine lgm ?_
    refine lgm ?_
    refine lgc (.bool (decide ((c : Int) ≤ a))) ?_
    refine lc (.bool (decide ((c : Int) ≤ a))) ?_
    refine lm ?_
    refine St.dec 24 rfl (fun hc24 => ?_) (fun hc24 => ?_)
    ·have hd24 := of_decide_eq_true hc24
     refine lgm ?_
     refine lgm ?_
     refine lgm ?_
     refine lgv (v := (.int .i64 (a - c))) (rSub _ rfl rfl rfl rfl (by omega) (by omega)) ?_
     refine lgc (.bool (decide ((d : Int) ≤ (a - c)))) ?_
     refine lc (.bool (decide ((d : Int) ≤ (a - c)))) ?_
     refine la ?_
     refine liNil (qThen (stRet ?_))
     refine stEnd [(.bool (decide ((d : Int) ≤ (a - c))))] rfl ⟨rfl, trivial⟩ (fun w hM => ?_)
     have hv : regB a b c d = (decide ((d : Int) ≤ (a - c))) := by unfold regB; first | exact decide_eq_true ⟨by omega, by omega, by omega, by omega, by omega⟩ | exact decide_eq_false (by omega) | (rw [Bool.eq_iff_iff, decide_eq_true_eq, decide_eq_true_eq]; omega)
     rw [hv]
     exact ⟨rfl, hM⟩
    ·have hd24 := of_decide_eq_false hc24
     refine lnF ?_
     refine lnF ?_
     refine lnF ?_
     refine lnF ?_
     refine lnF ?_
     refine lc (.bool false) ?_
     refine la ?_
     refine liNil (qThen (stRet ?_))
     refine stEnd [(.bool false)] rfl ⟨rfl, trivial⟩ (fun w hM => ?_)
     have hv : regB a b c d = false := by unfold regB; first | exact decide_eq_true ⟨by omega, by omega, by omega, by omega, by omega⟩ | exact decide_eq_false (by omega) | (rw [Bool.eq_iff_iff, decide_eq_true_eq, decide_eq_true_eq]; omega)
     rw [hv]
     exact ⟨rfl, hM⟩
   ·have hd19 := of_decide_eq_false hc19
    refine lnF ?_
    refine lnF ?_
    refine lnF ?_
    refine lc (.bool false) ?_
    refine lm ?_
    refine lnF ?_
    refine lnF ?_
    refine lnF ?_
    refine lnF ?_
    refine lnF ?_
    refine lc (.bool false) ?_
    refine la ?_
    refine liNil (qThen (stRet ?_))
    refine stEnd [(.bool false)] rfl ⟨rfl, trivial⟩ (fun w hM => ?_)
    have hv : regB a b c d = false := by unfold regB; first | exact decide_eq_true ⟨by omega, by omega, by omega, by omega, by omega⟩ | exact decide_eq_false (by omega) | (rw [Bool.eq_iff_iff, decide_eq_true_eq, decide_eq_true_eq]; omega)
    rw [hv]
    exact ⟨rfl, hM⟩
  ·have hd15 := of_decide_eq_false hc15
   refine lnF ?_
   refine lnF ?_
   refine lc (.bool false) ?_
   refine lm ?_
   refine lnF ?_
   refine lnF ?_
   refine lnF ?_
   refine lc (.bool false) ?_
   refine lm ?_
   refine lnF ?_
   refine lnF ?_
   refine lnF ?_
   refine lnF ?_
   refine lnF ?_
   refine lc (.bool false) ?_
   refine la ?_
   refine liNil (qThen (stRet ?_))
   refine stEnd [(.bool false)] rfl ⟨rfl, trivial⟩ (fun w hM => ?_)
   have hv : regB a b c d = false := by unfold regB; first | exact decide_eq_true ⟨by omega, by omega, by omega, by omega, by omega⟩ | exact decide_eq_false (by omega) | (rw [Bool.eq_iff_iff, decide_eq_true_eq, decide_eq_true_eq]; omega)
   rw [hv]
   exact ⟨rfl, hM⟩
 ·have hd11 := of_decide_eq_false hc11
  refine lnF ?_
  refine lnF ?_
  refine lc (.bool false) ?_
  refine lm ?_
  refine lnF ?_
  refine lnF ?_
  refine lc (.bool false) ?_
  refine lm ?_
  refine lnF ?_
  refine lnF ?_
  refine lnF ?_
  refine lc (.bool false) ?_
  refine lm ?_
  refine lnF ?_
  refine lnF ?_
  refine lnF ?_
  refine lnF ?_
  refine lnF ?_
  refine lc (.bool false) ?_
  refine la ?_
  refine liNil (qThen (stRet ?_))
  refine stEnd [(.bool false)] rfl ⟨rfl, trivial⟩ (fun w hM => ?_)
  have hv : regB a b c d = false := by unfold regB; first | exact decide_eq_true ⟨by omega, by omega, by omega, by omega, by omega⟩ | exact decide_eq_false (by omega) | (rw [Bool.eq_iff_iff, decide_eq_true_eq, decide_eq_true_eq]; omega)
  rw [hv]
  exact ⟨rfl, hM⟩
theorem rFree_nil (bm : Nat) (sz : Nat) (n : Nat) (w : World) (r0 : Rf [] w (fun w => At w bm 37 [(vI sz), (vI n), (.slice none 0 0)])) :
  Calls Tryz.prog 48 #[(vP bm 0)] w fun e w' => e = .returned (vI n) ∧ Back [] w [] w' := by
 have _u0 := r0
 clear _u0
 refine stEnter (args := [(vP bm 0)]) (fps []) Tryz.func48 rfl 40 rfl [(0, (vP bm 0))] ⟨rfl, trivial⟩ [] (Mm.start w []) ?_
 refine stSeq (reg ?_)
 refine la ?_
 refine liNil (qThen (stSeq (reg ?_)))
 refine lm ?_
 refine lc (vP bm 0) ?_
 refine lc (vP bm 1) ?_
 refine lv (v := (vI n)) (rLoadW rfl rfl (by kernel_rfl) (fun w hM => At.cell (r0.now hM) 1)) ?_
 refine la ?_
 refine liNil (qThen (stSeq (stSeq (reg ?_))))
 refine la ?_
 refine liNil (qThen (stBlock ?_))
 refine stLoop (ι := Unit) (fun u => True) (fun u => 0) (fun u => [(0, (vP bm 0)), (2, (.int .i64 0)), (3, (vI n)), (4, (.int .i64 0))]) (fun u => []) () trivial ⟨rfl, rfl, rfl, rfl, trivial⟩ (fun _ h => h) ?_
 rintro u -
 show St _ _ _ [(0, (vP bm 0)), (2, (.int .i64 0)), (3, (vI n)), (4, (.int .i64 0))] [] _
 refine stSeq (stSeq (reg ?_))
 refine lm ?_
 refine lm ?_
 refine lc (vP bm 0) ?_
 refine lc (vP bm 2) ?_
 refine lv (v := (.slice none 0 0)) (rLoadW rfl rfl (by kernel_rfl) (fun w hM => At.cell (r0.now hM) 2)) ?_
 refine lc (.int .i64 0) ?_
 refine lc (.bool false) ?_
 refine liNil (qThen (stFalse rfl (stExit (qThenX (qThenX (qBlockX (qThen (stSeq (reg ?_)))))))))
 refine lm ?_
 refine la ?_
 refine liNil (qThen (stRet ?_))
 refine stEnd [(vI n)] rfl ⟨rfl, trivial⟩ (fun w hM => ?_)
 exact ⟨rfl, hM⟩
theorem rLong_nil (bm : Nat) (sz : Nat) (n : Nat) (w : World) (r0 : Rf [] w (fun w => At w bm 37 [(vI sz), (vI n), (.slice none 0 0)])) (hz : 33 ≤ sz ∧ sz ≤ 4096 ∧ n ≤ 100000) :
  Calls Tryz.prog 28 #[(vP bm 0)] w fun e w' => e = .returned (.int .i64 (freeI sz n)) ∧ Back [] w [] w' := by
 have _u0 := r0
 have _u1 := hz
 clear _u0 _u1
 refine stEnter (args := [(vP bm 0)]) (fps []) Tryz.func28 rfl 14 rfl [(0, (vP bm 0))] ⟨rfl, trivial⟩ [] (Mm.start w []) ?_
 refine stSeq ?_
 obtain ⟨z1, z2, z3⟩ := hz
 obtain ⟨m, hm⟩ : ∃ m, n * (sz - 32) = m := ⟨_, rfl⟩
 have hm2 : m ≤ 100000 * 4096 := by rw [← hm]; exact Nat.mul_le_mul z3 (by omega)
 refine reg ?_
 refine la ?_
 refine liNil (qThen (stSeq ?_))
 refine anyBegin [] 12 (by kernel_rfl) (fun _ h => h) ?_
 refine am 0 ?_
 refine am 2 ?_
 refine ac 3 (vP bm 0) ?_
 refine ac 4 (vP bm 0) ?_
 refine av 5 (vI sz) rfl (rLoadW rfl rfl (by kernel_rfl) (fun w hM => At.cell (r0.now hM) 0)) ?_
 refine av 6 (vI (sz - 32)) rfl (rSubN rfl rfl rfl (by omega) (by omega)) ?_
 refine a1 1 ?_
 refine opK0 (fun w hM => (rFree_nil bm sz n w (r0.go0 hM)).mono ?_)
 rintro e w' ⟨rfl, hP⟩
 refine ⟨_, _, rfl, hP, ?_⟩; clear hP hM
 refine anyNext [] (fun _ h => h) (fun _ h => h) ?_
 refine av 7 (vI m) rfl (rMul _ rfl rfl rfl (by rw [← hm]; exact (Int.natCast_mul _ _).symm) (by omega) (by omega)) ?_
 refine av 8 (.int .i64 (((m : Nat) : Int) - 97)) rfl (rSub _ rfl rfl rfl rfl (by omega) (by omega)) ?_
 refine av 9 (.int .i64 (min 65536 (((m : Nat) : Int) - 97))) rfl (rMinZ rfl rfl rfl) ?_
 refine av 10 (.int .i64 (max (-1) (min 65536 (((m : Nat) : Int) - 97)))) rfl (rMaxZ rfl rfl rfl) ?_
 refine aa 11 ?_
 refine anyDone (by kernel_rfl) ?_
 refine qThen (stRet ?_)
 refine stEnd [(.int .i64 (max (-1) (min 65536 (((m : Nat) : Int) - 97))))] rfl ⟨rfl, trivial⟩ (fun w hM => ?_)
 exact ⟨by rw [freeI, hm]; exact congrArg (fun z : Int => Ending.returned (.int .i64 z)) (by omega), hM⟩
theorem lSame_nil (bs : Nat) (bd : Nat) (first : Nat) (Y : SX) (bm : Nat) (sz : Nat) (n : Nat) (v1 : Value) (v2 : Value) (v3 : Value) (v4 : Value) (v5 : Value) (w : World) (hO : Own [cStore bs bd first Y] w) (r0 : Rf [cStore bs bd first Y] w (fun w => At w bd 59 [(vI sz), v1, v2, v3, v4, v5])) (r1 : Rf [cStore bs bd first Y] w (fun w => At w bm 37 [(vI sz), (vI n), (.slice none 0 0)])) (hz : 33 ≤ sz ∧ sz ≤ 4096 ∧ n ≤ 100000) (hkv : Y.kv = []) (hfr : Y.fr = n) :
  Calls Tryz.prog 12 #[(vP bs 0), (vP bm 0)] w fun e w' => e = .returned (.bool true) ∧ Back [cStore bs bd first Y] w [cStore bs bd first Y] w' := by
 have _u0 := r0
 have _u1 := r1
 have _u2 := hz
 have _u3 := hkv
 have _u4 := hfr
 clear _u0 _u1 _u2 _u3 _u4
 refine stEnter (args := [(vP bs 0), (vP bm 0)]) (fps [cStore bs bd first Y]) Tryz.func12 rfl 68 rfl [(0, (vP bs 0)), (1, (vP bm 0))] ⟨rfl, rfl, trivial⟩ [cStore bs bd first Y] (hO) ?_
 refine stSeq ?_
 obtain ⟨z1, z2, z3⟩ := hz
 have hsl : sortL (kvKeys Y.kv) = [] := by rw [hkv]; simp [sortL, kvKeys]
 have hkl : Y.kv.length = 0 := by rw [hkv]; rfl
 have hsm : sumB Y.kv = 0 := by rw [hkv]; rfl
 refine reg ?_
 refine la ?_
 refine liNil (qThen (stSeq (reg ?_)))
 refine lm ?_
 refine li rfl ?_
 refine opK0 (fun w hM => (sKeys_any bs bd (vI first) (vI Y.us.length) (.int .u64 ((Y.num : Nat) : Int)) Y.bm (vL Y.Au Y.us (Y.cu)) (.slice none 0 0) (vI Y.fr) (.bool false) Y.kv w (hM.keep0 (j := 0) rfl (fun _ h => store_at h)) (hM.keep0 (j := 0) rfl (fun _ h => store_map h)) (by omega)).mono ?_)
 rintro e w' ⟨B9, cb9, rfl, hP⟩
 refine ⟨_, _, rfl, hP, ?_⟩; clear hP hM
 refine la ?_
 refine liNil (qThen (stSeq (stSeq (reg ?_))))
 refine lm ?_
 refine lc (vI ((sortL (kvKeys Y.kv)).length)) ?_
 refine lm ?_
 refine lc (vP bm 0) ?_
 refine lc (vP bm 2) ?_
 refine lv (v := (.slice none 0 0)) (rLoadW rfl rfl (by kernel_rfl) (fun w hM => At.cell (r1.now hM) 2)) ?_
 refine lc (.int .i64 0) ?_
 refine lc (.bool (((((sortL (kvKeys Y.kv)).length : Nat) : Int) : Int) != 0)) ?_
 refine lm ?_
 refine St.known 18 (b' := false) rfl (by rw [hsl]; rfl) ?_
 refine lgm ?_
 refine liGo rfl rfl ?_
 refine opK0 (fun w hM => (sFree_any bs bd (vI first) (vI Y.us.length) (.int .u64 ((Y.num : Nat) : Int)) (.map (some Y.bm)) (vL Y.Au Y.us (Y.cu)) (.slice none 0 0) Y.fr (.bool false) sz v1 v2 v3 v4 v5 w (hM.keep0 (j := 0) rfl (fun _ h => store_at h)) (r0.go0 hM) (⟨by omega, by omega⟩) (by omega)).mono ?_)
 rintro e w' ⟨rfl, hP⟩
 refine ⟨_, _, rfl, hP, ?_⟩; clear hP hM
 refine lgm ?_
 refine liGo rfl rfl ?_
 refine opK0 (fun w hM => (rLong_nil bm sz n w (r1.go0 hM) (⟨by omega, by omega, by omega⟩)).mono ?_)
 rintro e w' ⟨rfl, hP⟩
 refine ⟨_, _, rfl, hP, ?_⟩; clear hP hM
 refine lgc (.bool (((freeI sz Y.fr) : Int) != (freeI sz n))) ?_
 refine lc (.bool (((freeI sz Y.fr) : Int) != (freeI sz n))) ?_
 refine liNil (qThen ?_)
 refine stFalseK rfl (by rw [hfr]; simp) ?_
 refine stSkip (qThen (stSeq (reg ?_)))
 refine la ?_
 refine liNil (qThen (stSeq (stSeq (reg ?_))))
 refine la ?_
 refine liNil (qThen (stBlock ?_))
 refine stLoop (ι := Unit) (fun u => True) (fun u => 0) (fun u => [(0, (vP bs 0)), (1, (vP bm 0)), (4, (.bool false)), (5, (vL B9 (sortL (kvKeys Y.kv)) cb9)), (6, (.int .i64 0)), (7, (.int .i64 0))]) (fun u => [cStore bs bd first Y, cS B9 (sortL (kvKeys Y.kv)) cb9]) () trivial ⟨rfl, rfl, rfl, rfl, rfl, rfl, trivial⟩ (fun _ h => h) ?_
 rintro u -
 show St _ _ _ [(0, (vP bs 0)), (1, (vP bm 0)), (4, (.bool false)), (5, (vL B9 (sortL (kvKeys Y.kv)) cb9)), (6, (.int .i64 0)), (7, (.int .i64 0))] [cStore bs bd first Y, cS B9 (sortL (kvKeys Y.kv)) cb9] _
 refine stSeq (stSeq (reg ?_))
 refine lm ?_
 refine lm ?_
 refine lc (vI ((sortL (kvKeys Y.kv)).length)) ?_
 refine lc (.bool (decide ((0 : Int) < (((sortL (kvKeys Y.kv)).length : Nat) : Int)))) ?_
 refine liNil (qThen ?_)
 refine stFalseK rfl (by rw [hsl]; rfl) ?_
 refine stExit (qThenX (qThenX (qBlockX (qThen (stSeq (reg ?_))))))
 refine lm ?_
 refine li rfl ?_
 refine opK [0] [cStore bs bd first Y] (fun w hM hO => (sBytes_any bs bd first Y w hO (by omega) (fun p hp => by rw [hkv] at hp; cases hp)).mono ?_)
 rintro e w' ⟨rfl, hP⟩
 refine ⟨_, [cStore bs bd first Y], _, rfl, hP, rfl, ?_⟩; clear hP hM hO
 refine lm ?_
 refine lc (.bool (((((sumB Y.kv) : Nat) : Int) : Int) == 0)) ?_
 refine la ?_
 refine liNil (qThen (stRet ?_))
 refine stEnd [(.bool (((((sumB Y.kv) : Nat) : Int) : Int) == 0))] rfl ⟨rfl, trivial⟩ (fun w hM => ?_)
 exact ⟨by rw [hsm]; rfl, (hM.pick [0] rfl rfl)⟩
end Go.Proofs.YtaiggifiefnjnaaGreatDoor
namespace Go.Proofs.YtaiggifiefnjnaaGreatDoor
open Go.RowKit Go.Sort Go.Shelf
theorem freezeAt {w : World} {b : Nat} {t : TypeId} {l : List Value} (h : At w b t l) (k : Nat) : (w.freeze ⟨b, k, none⟩ 1).heap[b]? = some (.cells l.toArray t (k, k + 1)) ∧ Fr [b] w (w.freeze ⟨b, k, none⟩ 1) := by
 have hb : w.heap[b]? = some (.cells l.toArray t) := h
 unfold World.freeze
 rw [if_neg (by decide)]
 refine ⟨?_, rfl, rfl, rfl, by simp, fun j hj hn => ?_⟩
 ·show (w.heap.modify b _)[b]? = _
  rw [Array.getElem?_modify, if_pos rfl, hb]
  rfl
 ·show (w.heap.modify b _)[j]? = _
  rw [Array.getElem?_modify, if_neg (fun e => hn (by simp [e]))]
theorem opMark {P : Program} {Q : Exit → Act → World → Prop} {n : Nat} {w0 : World} {F : List Nat} {E : Env} {cs : List Ch} {K : Act → World → Prop} {o : Oper} {d : Nat} {t ty el : TypeId} {x : Operand} {b off m c : Nat} {l : List Value} (i : Nat) (ho : o.op = .convert ty ty x) (hd : o.dst = some d) (ht : P.underlying ty = some (.slice el)) (he : P.underlying el = some (.int .u8)) (hk : opOk n E o = true) (hx : evO E x = some (.slice (some ⟨b, off, none⟩) m c)) (hi : cs[i]? = some (cAt b t l))
  (h : St n w0 F ((d, .slice (some ⟨b, off, none⟩) m c) :: E) (cs.set i (cBlk b t l)) K) : OpW P Q n w0 F E cs o K :=
 opEff hd hk fun w hM => by
  have hat : At w b t l := hM.at hi
  obtain ⟨h1, h2⟩ := freezeAt hat l.length
  have hb : w.heap[b]? = some (.cells l.toArray t) := hat
  have hsh : w.shape? b = some (t, l.length) := by unfold World.shape?; rw [hb]; rfl
  refine ⟨_, _, _, ?_, hM.swap i hi (c' := cBlk b t l) h2 ⟨_, _, h1, fun j v hj => by simpa using hj⟩ (fun k hk => .inl hk) (by simp [cBlk]), h⟩
  unfold execOp
  simp [ho, evE_of hx, convert, run_underlying ht, run_underlying he, markStringish, hsh]
theorem DI_empty {sz first n N : Nat} (z1 : 64 ≤ sz) (z2 : sz ≤ 4096) (h1 : n ≤ 1000) (h2 : first ≤ 1000) (h3 : first + n ≤ N) : DI sz first n [] (List.replicate N (zerosB sz)) :=
 ⟨z1, z2, h1, h2, by simpa using h3, fun b hb => (by cases hb), fun b hb => (by cases hb), fun s hs _ => by rw [List.getElem?_replicate, if_pos (by omega)], by simp, by simp, by simp⟩
theorem putErr0 {sz : Nat} {Y : SX} {key data : Bs} (h1 : 1 ≤ key.length ∧ key.length ≤ 64 ∧ data.length ≤ 65536) (h2 : kvGet Y.kv key = none) (h3 : needN sz (33 + key.length + data.length) ≤ Y.fr) : putErr sz Y key data = 0 := by
 unfold putErr
 rw [if_neg (by omega), if_neg (by omega), if_neg (by rw [h2]; simp), if_neg (by omega)]
theorem putErr5 {sz : Nat} {Y : SX} {key data : Bs} (h1 : 1 ≤ key.length ∧ key.length ≤ 64 ∧ data.length ≤ 65536) (h2 : kvGet Y.kv key ≠ none) : putErr sz Y key data = 5 := by
 unfold putErr
 rw [if_neg (by omega), if_neg (by omega), if_pos]
 cases h : kvGet Y.kv key with
 | none => exact (h2 h).elim
 | some v => rfl
theorem sortL_ba {l : List Bs} (h : l.Perm [[98], [97]]) : sortL l = [[97], [98]] := by
 have h1 : l.Perm [[97], [98]] := h.trans (List.Perm.swap _ _ _)
 have h2 : sortL l = sortL [[97], [98]] := mergeSort_of_perm h1
 rw [h2]
 exact List.mergeSort_of_pairwise (by simp; decide)
theorem sumB_eq {n M : Nat} {bl : List Bl} {Y : SX} (h : LR n M bl Y) : sumB Y.kv = (bl.map fun b => b.data.length).sum := by
 unfold sumB
 rw [← h.kv, List.map_map]
 rfl
theorem lAwake (w : World) (r0 : Rf [] w (Vars)) :
  Calls Tryz.prog 6 #[] w fun e w' => e = .returned (.bool true) ∧ Back [] w [] w' := by
 have _u0 := r0
 clear _u0
 refine stEnter (args := []) (fps []) Tryz.func6 rfl 100 rfl [] trivial [] (Mm.start w []) ?_
 refine stSeq (reg ?_)
 refine la ?_
 refine liNil (qThen (stSeq (reg (li rfl ?_))))
 refine opK0 (fun w hM => (dNew_any 10 64 w (by omega) (by omega) (by omega) (by omega)).mono ?_)
 rintro e w' ⟨bd11, X11, rfl, hP⟩
 refine ⟨_, _, rfl, hP, ?_⟩; clear hP hM
 refine lm ?_
 refine lc (vP bd11 0) ?_
 refine lc (.int .i64 0) ?_
 refine la ?_
 refine la ?_
 refine liNil (qThen (stSeq (stSeq ?_)))
 refine St.fact (fun w hM => (hM.at (i := 0) rfl : (cDisk bd11 X11 64 (List.replicate 10 (zerosB 64)) []).holds w).2.2.dl) (fun hdl => ?_)
 have hdl2 : X11.dv.length = 10 := hdl
 have hD0 : DI 64 0 10 [] (List.replicate 10 (zerosB 64)) := DI_empty (by omega) (by omega) (by omega) (by omega) (by omega)
 refine reg ?_
 refine lm ?_
 refine lc (.bool false) ?_
 refine lm ?_
 refine lgm ?_
 refine liGo rfl rfl ?_
 refine opK0 (fun w hM => (dSect_any bd11 (vI 64) X11.Ad X11.dv.length X11.cd (vL X11.Ap X11.pv (X11.cp)) (.map (some X11.lat)) (.int .i64 (-1)) (.bool false) w (hM.keep0 (j := 0) rfl (fun _ h => disk_at h))).mono ?_)
 rintro e w' ⟨rfl, hP⟩
 refine ⟨_, _, rfl, hP, ?_⟩; clear hP hM
 refine lgc (.bool ((((X11.dv.length : Nat) : Int) : Int) != 10)) ?_
 refine lc (.bool ((((X11.dv.length : Nat) : Int) : Int) != 10)) ?_
 refine liNil (qThen ?_)
 refine stFalseK rfl (by rw [hdl2]; rfl) ?_
 refine stSkip (qThen (stSeq (reg ?_)))
 refine lm ?_
 refine li rfl ?_
 refine opK [0] [cDisk bd11 X11 64 (List.replicate 10 (zerosB 64)) []] (fun w hM hO => (sOpen_ok bd11 0 10 X11 64 (List.replicate 10 (zerosB 64)) [] 1 w hO (r0.goS hM [0]) (hD0) (fun b hb => (by cases hb)) (⟨by simp, by omega, by omega, by omega, by simp⟩)).mono ?_)
 rintro e w' ⟨bs23, Y23, ol23, rfl, hP, hLR23⟩
 refine ⟨_, [cDisk bd11 X11 64 (List.replicate 10 (zerosB 64)) []], _, rfl, hP, rfl, ?_⟩; clear hP hM hO
 refine lm ?_
 refine lc (vP bs23 0) ?_
 refine lc (.int .i64 0) ?_
 refine la ?_
 refine la ?_
 refine liNil (qThen (stSeq (stSeq ?_)))
 obtain ⟨hl1, hp1⟩ := hLR23
 obtain rfl := hp1.eq_nil
 have hS1 : SI 64 0 10 1 [] (List.replicate 10 (zerosB 64)) Y23 := ⟨hD0, hl1, by omega, by simp, by omega⟩
 have hfr1 : Y23.fr = 10 := hl1.fr
 have hpe1 : putErr 64 Y23 [98] [120] = 0 := putErr0 (by decide) (hl1.none.2 (fun b hb => by cases hb)) (by rw [hfr1]; decide)
 refine reg ?_
 refine lm ?_
 refine lc (.bool false) ?_
 refine lm ?_
 refine lgm ?_
 refine liGo rfl rfl ?_
 refine opK0 (fun w hM => (sFree_any bs23 bd11 (vI 0) (vI Y23.us.length) (.int .u64 ((Y23.num : Nat) : Int)) (.map (some Y23.bm)) (vL Y23.Au Y23.us (Y23.cu)) (.slice none 0 0) Y23.fr (.bool false) 64 (vL X11.Ad X11.dv (X11.cd)) (vL X11.Ap X11.pv (X11.cp)) (.map (some X11.lat)) (.int .i64 (-1)) (.bool false) w (hM.keep0 (j := 1) rfl (fun _ h => store_at h)) (hM.keep0 (j := 0) rfl (fun _ h => disk_at h)) (⟨by omega, by omega⟩) (by omega)).mono ?_)
 rintro e w' ⟨rfl, hP⟩
 refine ⟨_, _, rfl, hP, ?_⟩; clear hP hM
 refine lgc (.bool (((freeI 64 Y23.fr) : Int) != 223)) ?_
 refine lc (.bool (((freeI 64 Y23.fr) : Int) != 223)) ?_
 refine lm ?_
 refine St.known 33 (b' := false) rfl (by rw [hfr1]; rfl) ?_
 refine lgm ?_
 refine liGo rfl rfl ?_
 refine opNew (v := fun b => .slice (some ⟨b, 0, none⟩) 1 1) 5 [(.int .u8 120)] rfl (by kernel_rfl) (fun _ => by kernel_rfl) (fun b35 => ?_)
 refine St.to [cDisk bd11 X11 64 (List.replicate 10 (zerosB 64)) [], cStore bs23 bd11 0 Y23, cAt b35 5 (B8 [120])] (by kernel_rfl) ?_
 refine liGo rfl rfl ?_
 refine opMark (el := 5) 2 rfl rfl (by kernel_rfl) (by kernel_rfl) (by kernel_rfl) rfl rfl ?_
 refine St.to [cDisk bd11 X11 64 (List.replicate 10 (zerosB 64)) [], cStore bs23 bd11 0 Y23, cBlk b35 5 (B8 [120])] (by kernel_rfl) ?_
 refine liGo rfl rfl ?_
 refine opK [0, 1] [cDisk bd11 X11 64 (List.replicate 10 (zerosB 64)) [], cStore bs23 bd11 0 Y23] (fun w hM hO => (sPuts bs23 bd11 0 Y23 X11 64 (List.replicate 10 (zerosB 64)) 10 1 [] [98] [120] (some ⟨b35, 0, none⟩) 1 w hO (r0.goS hM [0, 1]) (hM.keepS [0, 1] (j := 2) rfl (fun _ h => cBlk_row h)) (hS1) (⟨by decide, by decide⟩) (by decide) (by omega)).mono ?_)
 rintro e w' ⟨X237, secs237, Y237, bl237, rfl, hP, hSI37⟩
 refine ⟨_, [cDisk bd11 X237 64 secs237 [], cStore bs23 bd11 0 Y237], _, rfl, hP, rfl, ?_⟩; clear hP hM hO
 obtain ⟨hS2, (⟨_, x1, rfl, hk1, hd1⟩ | ⟨hne, _⟩)⟩ := hSI37
 case inr => exact (hne hpe1).elim
 have hx1 : x1.len = 35 := by unfold Bl.len; rw [hk1, hd1]; rfl
 have hq1 : x1.secs.length = 2 := by rw [(hS2.d.ok x1 (by simp)).l, hx1]; rfl
 have hfr2 : Y237.fr = 8 := by have h := hS2.l.fr; simp [hq1] at h; omega
 have hpe2 : putErr 64 Y237 [97] [121, 121] = 0 := putErr0 (by decide) (hS2.l.none.2 (fun b hb => by simp at hb; rw [hb, hk1]; decide)) (by rw [hfr2]; decide)
 refine lgc (.bool (((((putErr 64 Y23 [98] [120]) : Nat) : Int) : Int) != 0)) ?_
 refine lc (.bool (((((putErr 64 Y23 [98] [120]) : Nat) : Int) : Int) != 0)) ?_
 refine lm ?_
 refine St.known 40 (b' := false) rfl (by rw [hpe1]; rfl) ?_
 refine lgm ?_
 refine liGo rfl rfl ?_
 refine opNew (v := fun b => .slice (some ⟨b, 0, none⟩) 2 2) 5 [(.int .u8 121), (.int .u8 121)] rfl (by kernel_rfl) (fun _ => by kernel_rfl) (fun b42 => ?_)
 refine St.to [cDisk bd11 X237 64 secs237 [], cStore bs23 bd11 0 Y237, cBlk b35 5 (B8 [120]), cAt b42 5 (B8 [121, 121])] (by kernel_rfl) ?_
 refine liGo rfl rfl ?_
 refine opMark (el := 5) 3 rfl rfl (by kernel_rfl) (by kernel_rfl) (by kernel_rfl) rfl rfl ?_
 refine liGo rfl rfl ?_
 refine opK [0, 1] [cDisk bd11 X237 64 secs237 [], cStore bs23 bd11 0 Y237] (fun w hM hO => (sPuts bs23 bd11 0 Y237 X237 64 secs237 10 (1 + 1) ([] ++ [x1]) [97] [121, 121] (some ⟨b42, 0, none⟩) 2 w hO (r0.goS hM [0, 1]) (hM.keepS [0, 1] (j := 3) rfl (fun _ h => cBlk_row h)) (hS2) (⟨by decide, by decide⟩) (by decide) (by omega)).mono ?_)
 rintro e w' ⟨X244, secs244, Y244, bl244, rfl, hP, hSI44⟩
 refine ⟨_, [cDisk bd11 X244 64 secs244 [], cStore bs23 bd11 0 Y244], _, rfl, hP, rfl, ?_⟩; clear hP hM hO
 obtain ⟨hS3, (⟨_, x2, rfl, hk2, hd2⟩ | ⟨hne, _⟩)⟩ := hSI44
 case inr => exact (hne hpe2).elim
 have hpe3 : putErr 64 Y244 [97] [122] = 5 := putErr5 (by decide) (fun h => hS3.l.none.1 h x2 (by simp) hk2)
 refine lgc (.bool (((((putErr 64 Y237 [97] [121, 121]) : Nat) : Int) : Int) != 0)) ?_
 refine lc (.bool (((((putErr 64 Y237 [97] [121, 121]) : Nat) : Int) : Int) != 0)) ?_
 refine lm ?_
 refine St.known 47 (b' := false) rfl (by rw [hpe2]; rfl) ?_
 refine lgm ?_
 refine liGo rfl rfl ?_
 refine opNew (v := fun b => .slice (some ⟨b, 0, none⟩) 1 1) 5 [(.int .u8 122)] rfl (by kernel_rfl) (fun _ => by kernel_rfl) (fun b49 => ?_)
 refine St.to [cDisk bd11 X244 64 secs244 [], cStore bs23 bd11 0 Y244, cBlk b35 5 (B8 [120]), cBlk b42 5 (B8 [121, 121]), cAt b49 5 (B8 [122])] (by kernel_rfl) ?_
 refine liGo rfl rfl ?_
 refine opMark (el := 5) 4 rfl rfl (by kernel_rfl) (by kernel_rfl) (by kernel_rfl) rfl rfl ?_
 refine St.to [cDisk bd11 X244 64 secs244 [], cStore bs23 bd11 0 Y244, cBlk b35 5 (B8 [120]), cBlk b42 5 (B8 [121, 121]), cBlk b49 5 (B8 [122])] (by kernel_rfl) ?_
 refine liGo rfl rfl ?_
 refine opK [0, 1] [cDisk bd11 X244 64 secs244 [], cStore bs23 bd11 0 Y244] (fun w hM hO => (sPuts bs23 bd11 0 Y244 X244 64 secs244 10 (1 + 1 + 1) ([] ++ [x1] ++ [x2]) [97] [122] (some ⟨b49, 0, none⟩) 1 w hO (r0.goS hM [0, 1]) (hM.keepS [0, 1] (j := 4) rfl (fun _ h => cBlk_row h)) (hS3) (⟨by decide, by decide⟩) (by decide) (by omega)).mono ?_)
 rintro e w' ⟨X251, secs251, Y251, bl251, rfl, hP, hSI51⟩
 refine ⟨_, [cDisk bd11 X251 64 secs251 [], cStore bs23 bd11 0 Y251], _, rfl, hP, rfl, ?_⟩; clear hP hM hO
 obtain ⟨hS4, (⟨he, _⟩ | ⟨_, rfl⟩)⟩ := hSI51
 case inl => exact absurd (hpe3.symm.trans he) (by decide)
 refine lgc (.bool (((((putErr 64 Y244 [97] [122]) : Nat) : Int) : Int) != 5)) ?_
 refine lc (.bool (((((putErr 64 Y244 [97] [122]) : Nat) : Int) : Int) != 5)) ?_
 refine liNil (qThen ?_)
 refine stFalseK rfl (by rw [hpe3]; rfl) ?_
 refine stSkip (qThen (stSeq (reg ?_)))
 refine lm ?_
 refine li rfl ?_
 refine opK [0] [cDisk bd11 X251 64 secs251 []] (fun w hM hO => (sOpen_ok bd11 0 10 X251 64 secs251 ([] ++ [x1] ++ [x2]) 4 w hO (r0.goS hM [0]) (hS4.d) (fun b hb => by have h1 := hS4.l.num b hb; have h2 := hS4.l.nm; omega) (⟨by simp, by omega, by omega, by omega, hS4.s⟩)).mono ?_)
 rintro e w' ⟨bs56, Y56, ol56, rfl, hP, hLR56⟩
 refine ⟨_, [cDisk bd11 X251 64 secs251 []], _, rfl, hP, rfl, ?_⟩; clear hP hM hO
 obtain ⟨hl5, hp5⟩ := hLR56
 have hS5 : SI 64 0 10 4 ol56 secs251 Y56 := ⟨hS4.d.perm hp5, hl5, by omega, hS4.s, by omega⟩
 have hm1 : x1 ∈ ol56 := hp5.mem_iff.2 (by simp)
 have hm2 : x2 ∈ ol56 := hp5.mem_iff.2 (by simp)
 have hkp : (kvKeys Y56.kv).Perm [[98], [97]] := by rw [hl5.keysEq]; have h := hp5.map Bl.key; simpa [hk1, hk2] using h
 have hsort : sortL (kvKeys Y56.kv) = [[97], [98]] := sortL_ba hkp
 have hkvl : Y56.kv.length = 2 := by have h := hkp.length_eq; simpa [kvKeys] using h
 have hsum : sumB Y56.kv = 3 := by rw [sumB_eq hl5, (hp5.map _).sum_nat]; simp [hd1, hd2]
 have hb8 : kvGet Y56.kv [98] ≠ none := fun h => hl5.none.1 h x1 hm1 hk1
 have hb9 : kvGet Y56.kv [99] = none := hl5.none.2 (fun b hb => by have h := hp5.mem_iff.1 hb; simp at h; rcases h with rfl | rfl; rw [hk1]; decide; rw [hk2]; decide)
 refine lm ?_
 refine lc (vP bs56 0) ?_
 refine lc (.int .i64 0) ?_
 refine la ?_
 refine la ?_
 refine liNil (qThen (stSeq (stSeq (reg ?_))))
 refine lm ?_
 refine lc (.bool false) ?_
 refine liNil (qThen (stFalse rfl (stSkip (qThen (stSeq (reg ?_))))))
 refine lm ?_
 refine li rfl ?_
 refine opK [0, 5] [cDisk bd11 X251 64 secs251 [], cStore bs56 bd11 0 Y56] (fun w hM hO => (sGetP bs56 bd11 0 Y56 X251 64 secs251 10 4 ol56 [97] x2 w hO (r0.goS hM [0, 5]) (hS5) (⟨hm2, hk2⟩)).mono ?_)
 rintro e w' ⟨B63, cb63, rfl, hP⟩
 refine ⟨_, [cDisk bd11 X251 64 secs251 [], cStore bs56 bd11 0 Y56], _, rfl, hP, rfl, ?_⟩; clear hP hM hO
 refine lm ?_
 refine lc (vL B63 x2.data cb63) ?_
 refine lc (.int .i64 0) ?_
 refine la ?_
 refine la ?_
 refine liNil (qThen (stSeq (reg ?_)))
 refine lm ?_
 refine li rfl ?_
 refine opK0 (fun w hM => (sKeys_any bs56 bd11 (vI 0) (vI Y56.us.length) (.int .u64 ((Y56.num : Nat) : Int)) Y56.bm (vL Y56.Au Y56.us (Y56.cu)) (.slice none 0 0) (vI Y56.fr) (.bool false) Y56.kv w (hM.keep0 (j := 5) rfl (fun _ h => store_at h)) (hM.keep0 (j := 5) rfl (fun _ h => store_map h)) (by rw [hkvl]; omega)).mono ?_)
 rintro e w' ⟨B67, cb67, rfl, hP⟩
 refine ⟨_, _, rfl, hP, ?_⟩; clear hP hM
 refine la ?_
 refine liNil (qThen (stSeq ?_))
 refine St.to [cDisk bd11 X251 64 secs251 [], cStore bs23 bd11 0 Y251, cBlk b35 5 (B8 [120]), cBlk b42 5 (B8 [121, 121]), cBlk b49 5 (B8 [122]), cStore bs56 bd11 0 Y56, cRw B63 (B8 x2.data), cS B67 (sortL (kvKeys Y56.kv)) cb67] (by kernel_rfl) ?_
 rw [show sortL (kvKeys Y56.kv) = [[97], [98]] from hsort]
 refine reg ?_
 refine lm ?_
 refine lv (v := (vS x2.data)) (rStr (e := 5) x2.data rfl (by kernel_rfl) (by kernel_rfl) (by kernel_rfl) rfl rfl (fun w hM => cRw_row (hM.at (i := 6) rfl))) ?_
 refine lv (v := (.bool (decide (x2.data = [121, 121])))) (rStrEq rfl rfl rfl) ?_
 refine lm ?_
 refine St.known 71 (b' := true) rfl (decide_eq_true hd2) ?_
 refine lgm ?_
 refine lgc (.bool true) ?_
 refine lc (.bool true) ?_
 refine lm ?_
 refine lgm ?_
 refine lgc (vI (([[97], [98]]).length)) ?_
 refine lgc (.bool ((((([[97], [98]]).length : Nat) : Int) : Int) == 2)) ?_
 refine lc (.bool ((((([[97], [98]]).length : Nat) : Int) : Int) == 2)) ?_
 refine lm ?_
 refine St.known 80 (b' := true) rfl (rfl) ?_
 refine lgm ?_
 refine St.rowPtr (fun w hM => rowOwn (i := 7) rfl w hM) (SS_at (show ([[97], [98]] : List Bs)[0]? = some [97] from rfl)) (fun p82 q82 hA82 hc82 => ?_)
 refine lgv (v := (vP p82 (q82 + 0))) (rIndexRow (e := 9) rfl (by kernel_rfl) (by kernel_rfl) rfl rfl hA82 (by decide)) ?_
 refine lgv (v := (vS [97])) (rLoadW rfl rfl (by kernel_rfl) hc82) ?_
 refine lgv (v := (.bool true)) (rConv (rStrEq rfl rfl rfl) (by simp)) ?_
 refine lc (.bool true) ?_
 refine lm ?_
 refine lgm ?_
 refine liGo rfl rfl ?_
 refine opK [5] [cStore bs56 bd11 0 Y56] (fun w hM hO => (sBytes_any bs56 bd11 0 Y56 w hO (by omega) (fun p hp => (hS5.d.ok _ (by rw [← hl5.kv]; exact List.mem_map.2 ⟨p, hp, rfl⟩)).d)).mono ?_)
 rintro e w' ⟨rfl, hP⟩
 refine ⟨_, [cStore bs56 bd11 0 Y56], _, rfl, hP, rfl, ?_⟩; clear hP hM hO
 refine lgc (.bool (((((sumB Y56.kv) : Nat) : Int) : Int) == 3)) ?_
 refine lc (.bool (((((sumB Y56.kv) : Nat) : Int) : Int) == 3)) ?_
 refine lm ?_
 refine St.known 91 (b' := true) rfl (by rw [hsum]; rfl) ?_
 refine lgm ?_
 refine liGo rfl rfl ?_
 refine opK0 (fun w hM => (sHas_any bs56 bd11 (vI 0) (vI Y56.us.length) (.int .u64 ((Y56.num : Nat) : Int)) Y56.bm (vL Y56.Au Y56.us (Y56.cu)) (.slice none 0 0) (vI Y56.fr) (.bool false) Y56.kv [98] w (hM.keep0 (j := 5) rfl (fun _ h => store_at h)) (hM.keep0 (j := 5) rfl (fun _ h => store_map h)) (by decide)).mono ?_)
 rintro e w' ⟨rfl, hP⟩
 refine ⟨_, _, rfl, hP, ?_⟩; clear hP hM
 refine lc (.bool (kvGet Y56.kv [98]).isSome) ?_
 refine lm ?_
 refine St.known 95 (b' := true) rfl (by cases h : kvGet Y56.kv [98] with | none => exact (hb8 h).elim | some v => rfl) ?_
 refine lgm ?_
 refine liGo rfl rfl ?_
 refine opK0 (fun w hM => (sHas_any bs56 bd11 (vI 0) (vI Y56.us.length) (.int .u64 ((Y56.num : Nat) : Int)) Y56.bm (vL Y56.Au Y56.us (Y56.cu)) (.slice none 0 0) (vI Y56.fr) (.bool false) Y56.kv [99] w (hM.keep0 (j := 5) rfl (fun _ h => store_at h)) (hM.keep0 (j := 5) rfl (fun _ h => store_map h)) (by decide)).mono ?_)
 rintro e w' ⟨rfl, hP⟩
 refine ⟨_, _, rfl, hP, ?_⟩; clear hP hM
 refine lgc (.bool (!(kvGet Y56.kv [99]).isSome)) ?_
 refine lc (.bool (!(kvGet Y56.kv [99]).isSome)) ?_
 refine la ?_
 refine liNil (qThen (stRet ?_))
 refine stEnd [(.bool (!(kvGet Y56.kv [99]).isSome))] rfl ⟨rfl, trivial⟩ (fun w hM => ?_)
 exact ⟨by rw [hb9]; rfl, (hM.pick [] rfl rfl)⟩
end Go.Proofs.YtaiggifiefnjnaaGreatDoor
namespace Go.Proofs.YtaiggifiefnjnaaGreatDoor
open Go.RowKit
structure OpX where
 kind : Int
 key : Bs
 A : Option Addr
 c : Nat
 data : Bs
 n : Int
 keep : Value
def oxV (p : OpX) : List Value := [.int .i64 p.kind, .string (strOf p.key), .slice p.A p.data.length p.c, .int .i64 p.n, p.keep]
abbrev OX (l : List OpX) : List Value := l.flatMap oxV
def OpRows (l : List OpX) (w : World) : Prop := ∀ x ∈ l, RowIn w x.A (B8 x.data)
theorem OX_length (l : List OpX) : (OX l).length = l.length * 5 := by
 induction l with
 | nil => rfl
 | cons p l ih => simp only [OX, List.flatMap_cons, List.length_append, List.length_cons, oxV, List.length_nil] at ih ⊢; omega
theorem OX_at {l : List OpX} {i : Nat} {p : OpX} (h : l[i]? = some p) (j : Nat) (v : Value) (hj : (oxV p)[j]? = some v) : (OX l)[i * 5 + j]? = some v := by
 induction l generalizing i with
 | nil => simp at h
 | cons q l ih =>
   have hl : (oxV q).length = 5 := rfl
   cases i with
   | zero =>
     simp at h; subst h
     have : j < 5 := by have := (List.getElem?_eq_some_iff.1 hj).1; simpa [oxV] using this
     rw [show OX (q :: l) = oxV q ++ OX l from rfl, Nat.zero_mul, Nat.zero_add, List.getElem?_append_left (by omega)]
     exact hj
   | succ i =>
     rw [show OX (q :: l) = oxV q ++ OX l from rfl, show (i + 1) * 5 + j = 5 + (i * 5 + j) by omega, ← hl, List.getElem?_append_right (by omega), Nat.add_sub_cancel_left]
     exact ih (by simpa using h)
section
variable {P : Program} {ops : Array Oper} {Q : Exit → Act → World → Prop} {n : Nat} {w0 : World} {F : List Nat} {E : Env} {cs : List Ch} {X : Act → World → Prop}
theorem ox_cells {w : World} {A : Option Addr} {ps : List OpX} {i : Nat} {p : OpX} (h : RowIn w A (OX ps)) (hp : ps[i]? = some p) {b q : Nat} (hA : A = some ⟨b, q, none⟩) : ∀ j v, (oxV p)[j]? = some v → w.cell? ⟨b, q + i * 5 + j, none⟩ = some v := fun j v hj => by
 rw [Nat.add_assoc]
 exact row_cell h (OX_at hp j v hj) hA
theorem St.oxPtr {A : Option Addr} {ps : List OpX} {i : Nat} {p : OpX} (h : ∀ w, Mm w0 F cs w → RowIn w A (OX ps)) (hp : ps[i]? = some p) (k : ∀ b q, A = some ⟨b, q, none⟩ → (∀ w, Mm w0 F cs w → ∀ j v, (oxV p)[j]? = some v → w.cell? ⟨b, q + i * 5 + j, none⟩ = some v) → St n w0 F E cs X) : St n w0 F E cs X := fun a w ha hM => by
 obtain ⟨b, q, hA⟩ := row_form (h w hM) (OX_at hp 0 _ rfl)
 exact k b q hA (fun w' hM' => ox_cells (h w' hM') hp hA) a w ha hM
theorem Any.oxPtr {css : List Ch} {z fuel : Nat} {listed : Array Bool} {A : Option Addr} {ps : List OpX} {i : Nat} {p : OpX} (h : ∀ w, Mm w0 F css w → RowIn w A (OX ps)) (hp : ps[i]? = some p) (k : ∀ b q, A = some ⟨b, q, none⟩ → (∀ w, Mm w0 F css w → ∀ j v, (oxV p)[j]? = some v → w.cell? ⟨b, q + i * 5 + j, none⟩ = some v) → Any P ops Q n w0 F E cs css z fuel listed) : Any P ops Q n w0 F E cs css z fuel listed := fun a w ha hM hS hc => by
 obtain ⟨b, q, hA⟩ := row_form (h w hS) (OX_at hp 0 _ rfl)
 exact k b q hA (fun w' hM' => ox_cells (h w' hM') hp hA) a w ha hM hS hc
end
def smallB (a b : Int) (l : List OpX) : Bool := (l.all fun x => decide (x.key.length ≤ 70 ∧ x.data.length ≤ 400)) && decide (64 ≤ a ∧ a ≤ 100 ∧ 1 ≤ b ∧ b ≤ 30 ∧ l.length ≤ 30)
theorem smallB_ok {a b : Int} {l : List OpX} (h : smallB a b l = true) : (∀ x ∈ l, x.key.length ≤ 70 ∧ x.data.length ≤ 400) ∧ 64 ≤ a ∧ a ≤ 100 ∧ 1 ≤ b ∧ b ≤ 30 ∧ l.length ≤ 30 := by
 simp only [smallB, Bool.and_eq_true, List.all_eq_true, decide_eq_true_eq] at h
 exact h
theorem small_no {a b : Int} {l : List OpX} {x : OpX} (hx : x ∈ l) (h : ¬ (x.key.length ≤ 70 ∧ x.data.length ≤ 400)) : smallB a b l = false := by
 cases hb : smallB a b l with
 | false => rfl
 | true => exact (h ((smallB_ok hb).1 x hx)).elim
end Go.Proofs.YtaiggifiefnjnaaGreatDoor
namespace Go.Proofs.YtaiggifiefnjnaaGreatDoor
open Go.RowKit
theorem lSmall_any (a : Int) (b : Int) (A : Option Addr) (c : Nat) (l : List OpX) (w : World) (r0 : Rf [] w (fun w => RowIn w A (OX l))) (hl : l.length ≤ 9223372036854775807) :
  Calls Tryz.prog 13 #[(.int .i64 a), (.int .i64 b), (vL A l c)] w fun e w' => e = .returned (.bool (smallB a b l)) ∧ Back [] w [] w' := by
 have _u0 := r0
 have _u1 := hl
 clear _u0 _u1
 refine stEnter (args := [(.int .i64 a), (.int .i64 b), (vL A l c)]) (fps []) Tryz.func13 rfl 49 rfl [(0, (.int .i64 a)), (1, (.int .i64 b)), (2, (vL A l c))] ⟨rfl, rfl, rfl, trivial⟩ [] (Mm.start w []) ?_
 refine stSeq (reg ?_)
 refine la ?_
 refine liNil (qThen (stSeq (stSeq (reg ?_))))
 refine la ?_
 refine liNil (qThen (stBlock ?_))
 refine stLoop (ι := Nat) (fun i => i ≤ l.length ∧ ∀ x ∈ l.take i, x.key.length ≤ 70 ∧ x.data.length ≤ 400) (fun i => l.length - i) (fun i => [(0, (.int .i64 a)), (1, (.int .i64 b)), (2, (vL A l c)), (6, (.bool false)), (7, (vI i))]) (fun i => []) 0 ⟨Nat.zero_le _, fun x hx => by simp at hx⟩ ⟨rfl, rfl, rfl, rfl, rfl, trivial⟩ (fun _ h => h) ?_
 rintro i ⟨hi, hk⟩
 show St _ _ _ [(0, (.int .i64 a)), (1, (.int .i64 b)), (2, (vL A l c)), (6, (.bool false)), (7, (vI i))] [] _
 refine stSeq (stSeq (reg ?_))
 refine lm ?_
 refine lm ?_
 refine lc (vI l.length) ?_
 refine lc (.bool (decide (((i : Nat) : Int) < ((l.length : Nat) : Int)))) ?_
 refine liNil (qThen ?_)
 refine stCond rfl (fun hc11 => ?_) (fun hc11 => ?_)
 ·have hd11 := of_decide_eq_true hc11
  refine stSkip (qThen (stSeq (stBlock (stSeq (reg ?_)))))
  refine lm ?_
  refine lm ?_
  obtain ⟨x0, hx0⟩ : ∃ ξ, (l)[i]? = some ξ := ⟨_, List.getElem?_eq_getElem (by omega)⟩
  refine St.oxPtr (fun w hM => r0.now hM) hx0 (fun p16 q16 hA16 hc16 => ?_)
  refine lv (v := (vP p16 (q16 + i * 5))) (rIndexRow2 (e := 44) rfl (by kernel_rfl) (by kernel_rfl) rfl rfl hA16 (by omega)) ?_
  refine lc (vP p16 (q16 + i * 5 + 1)) ?_
  refine lv (v := (vS x0.key)) (rLoadW rfl rfl (by kernel_rfl) (fun w hM => hc16 w hM 1 _ rfl)) ?_
  refine lv (v := (vI ((x0.key).length))) (rLenS rfl rfl (by kernel_rfl)) ?_
  refine lc (.bool (decide ((((x0.key).length : Nat) : Int) > 70))) ?_
  refine lm ?_
  refine St.dec 21 rfl (fun hc21 => ?_) (fun hc21 => ?_)
  ·have hd21 := of_decide_eq_true hc21
   refine lnT ?_
   refine lnT ?_
   refine lnT ?_
   refine lnT ?_
   refine lnT ?_
   refine lnT ?_
   refine lnT ?_
   refine lc (.bool true) ?_
   refine liNil (qThen (stTrue rfl (stSeq ?_)))
   have hv : smallB a b l = false := small_no (List.mem_of_getElem? hx0) (by omega)
   refine reg ?_
   refine la ?_
   refine liNil (qThen (stRet (qBlockR (qThenR (qThenR (qBlockR (qThenR ?_)))))))
   refine stEnd [(.bool false)] rfl ⟨rfl, trivial⟩ (fun w hM => ?_)
   rw [hv]
   exact ⟨rfl, hM⟩
  ·have hd21 := of_decide_eq_false hc21
   refine lgm ?_
   refine lgm ?_
   refine St.oxPtr (fun w hM => r0.now hM) hx0 (fun p24 q24 hA24 hc24 => ?_)
   refine lgv (v := (vP p24 (q24 + i * 5))) (rIndexRow2 (e := 44) rfl (by kernel_rfl) (by kernel_rfl) rfl rfl hA24 (by omega)) ?_
   refine lgc (vP p24 (q24 + i * 5 + 2)) ?_
   refine lgv (v := (vL x0.A x0.data (x0.c))) (rLoadW rfl rfl (by kernel_rfl) (fun w hM => hc24 w hM 2 _ rfl)) ?_
   refine lgc (vI x0.data.length) ?_
   refine lgc (.bool (decide (((x0.data.length : Nat) : Int) > 400))) ?_
   refine lc (.bool (decide (((x0.data.length : Nat) : Int) > 400))) ?_
   refine liNil (qThen ?_)
   refine stCond rfl (fun hc29 => ?_) (fun hc29 => ?_)
   ·have hd29 := of_decide_eq_true hc29
    refine stSeq ?_
    have hv : smallB a b l = false := small_no (List.mem_of_getElem? hx0) (by omega)
    refine reg ?_
    refine la ?_
    refine liNil (qThen (stRet (qBlockR (qThenR (qThenR (qBlockR (qThenR ?_)))))))
    refine stEnd [(.bool false)] rfl ⟨rfl, trivial⟩ (fun w hM => ?_)
    rw [hv]
    exact ⟨rfl, hM⟩
   ·have hd29 := of_decide_eq_false hc29
    refine stSkip (qBlock (qThen (reg ?_)))
    refine lm ?_
    refine lv (v := (vI (i + 1))) (rAdd _ rfl rfl rfl (by omega) (by omega) (by omega)) ?_
    refine la ?_
    refine liNil (qThen ?_)
    exact stAgain (i + 1) (⟨by omega, fun y hy => by rw [List.take_add_one, hx0, Option.toList_some, List.mem_append, List.mem_singleton] at hy; rcases hy with hy | rfl; exact hk y hy; exact ⟨by omega, by omega⟩⟩) (by show l.length - (i + 1) < l.length - i; omega) ⟨rfl, rfl, rfl, rfl, rfl, trivial⟩ (fun w hM => hM)
 ·have hd11 := of_decide_eq_false hc11
  refine stExit (qThenX (qThenX (qBlockX (qThen (stSeq ?_)))))
  have hall : (l.all fun x => decide (x.key.length ≤ 70 ∧ x.data.length ≤ 400)) = true := List.all_eq_true.2 fun x hx => decide_eq_true (hk x (by rwa [List.take_of_length_le (by omega)]))
  refine reg ?_
  refine lm ?_
  refine lc (.bool (decide ((a : Int) ≥ 64))) ?_
  refine lm ?_
  refine St.dec 32 rfl (fun hc32 => ?_) (fun hc32 => ?_)
  ·have hd32 := of_decide_eq_true hc32
   refine lgm ?_
   refine lgc (.bool (decide ((a : Int) ≤ 100))) ?_
   refine lc (.bool (decide ((a : Int) ≤ 100))) ?_
   refine lm ?_
   refine St.dec 36 rfl (fun hc36 => ?_) (fun hc36 => ?_)
   ·have hd36 := of_decide_eq_true hc36
    refine lgm ?_
    refine lgc (.bool (decide ((b : Int) ≥ 1))) ?_
    refine lc (.bool (decide ((b : Int) ≥ 1))) ?_
    refine lm ?_
    refine St.dec 40 rfl (fun hc40 => ?_) (fun hc40 => ?_)
    ·have hd40 := of_decide_eq_true hc40
     refine lgm ?_
     refine lgc (.bool (decide ((b : Int) ≤ 30))) ?_
     refine lc (.bool (decide ((b : Int) ≤ 30))) ?_
     refine lm ?_
     refine St.dec 44 rfl (fun hc44 => ?_) (fun hc44 => ?_)
     ·have hd44 := of_decide_eq_true hc44
      refine lgm ?_
      refine lgc (vI l.length) ?_
      refine lgc (.bool (decide (((l.length : Nat) : Int) ≤ 30))) ?_
      refine lc (.bool (decide (((l.length : Nat) : Int) ≤ 30))) ?_
      refine la ?_
      refine liNil (qThen (stRet ?_))
      refine stEnd [(.bool (decide (((l.length : Nat) : Int) ≤ 30)))] rfl ⟨rfl, trivial⟩ (fun w hM => ?_)
      have hv : smallB a b l = (decide (((l.length : Nat) : Int) ≤ 30)) := by unfold smallB; rw [hall, Bool.true_and]; first | exact decide_eq_false (by omega) | (rw [decide_eq_decide]; omega)
      rw [hv]
      exact ⟨rfl, hM⟩
     ·have hd44 := of_decide_eq_false hc44
      refine lnF ?_
      refine lnF ?_
      refine lnF ?_
      refine lc (.bool false) ?_
      refine la ?_
      refine liNil (qThen (stRet ?_))
      refine stEnd [(.bool false)] rfl ⟨rfl, trivial⟩ (fun w hM => ?_)
      have hv : smallB a b l = false := by unfold smallB; rw [hall, Bool.true_and]; first | exact decide_eq_false (by omega) | (rw [decide_eq_decide]; omega)
      rw [hv]
      exact ⟨rfl, hM⟩
    ·have hd40 := of_decide_eq_false hc40
     refine lnF ?_
     refine lnF ?_
     refine lc (.bool false) ?_
     refine lm ?_
     refine lnF ?_
     refine lnF ?_
     refine lnF ?_
     refine lc (.bool false) ?_
     refine la ?_
     refine liNil (qThen (stRet ?_))
     refine stEnd [(.bool false)] rfl ⟨rfl, trivial⟩ (fun w hM => ?_)
     have hv : smallB a b l = false := by unfold smallB; rw [hall, Bool.true_and]; first | exact decide_eq_false (by omega) | (rw [decide_eq_decide]; omega)
     rw [hv]
     exact ⟨rfl, hM⟩
   ·have hd36 := of_decide_eq_false hc36
    refine lnF ?_
    refine lnF ?_
    refine lc (.bool false) ?_
    refine lm ?_
    refine lnF ?_
    refine lnF ?_
    refine lc (.bool false) ?_
    refine lm ?_
    refine lnF ?_
    refine lnF ?_
    refine lnF ?_
    refine lc (.bool false) ?_
    refine la ?_
    refine liNil (qThen (stRet ?_))
    refine stEnd [(.bool false)] rfl ⟨rfl, trivial⟩ (fun w hM => ?_)
    have hv : smallB a b l = false := by unfold smallB; rw [hall, Bool.true_and]; first | exact decide_eq_false (by omega) | (rw [decide_eq_decide]; omega)
    rw [hv]
    exact ⟨rfl, hM⟩
  ·have hd32 := of_decide_eq_false hc32
   refine lnF ?_
   refine lnF ?_
   refine lc (.bool false) ?_
   refine lm ?_
   refine lnF ?_
   refine lnF ?_
   refine lc (.bool false) ?_
   refine lm ?_
   refine lnF ?_
   refine lnF ?_
   refine lc (.bool false) ?_
   refine lm ?_
   refine lnF ?_
   refine lnF ?_
   refine lnF ?_
   refine lc (.bool false) ?_
   refine la ?_
   refine liNil (qThen (stRet ?_))
   refine stEnd [(.bool false)] rfl ⟨rfl, trivial⟩ (fun w hM => ?_)
   have hv : smallB a b l = false := by unfold smallB; rw [hall, Bool.true_and]; first | exact decide_eq_false (by omega) | (rw [decide_eq_decide]; omega)
   rw [hv]
   exact ⟨rfl, hM⟩
theorem lawOpens_any (a : Int) (b : Int) (c : Int) (d : Int) (off : Bool) (w : World) (r0 : Rf [] w (Vars)) (hc : -9223372036854775808 ≤ c ∧ c ≤ 9223372036854775807) :
  Calls Tryz.prog 3 #[(.int .i64 a), (.int .i64 b), (.int .i64 c), (.int .i64 d), (.bool off)] w fun e w' => e = .returned (.bool true) ∧ Back [] w [] w' := by
 have _u0 := r0
 have _u1 := hc
 clear _u0 _u1
 refine stEnter (args := [(.int .i64 a), (.int .i64 b), (.int .i64 c), (.int .i64 d), (.bool off)]) (fps []) Tryz.func3 rfl 72 rfl [(0, (.int .i64 a)), (1, (.int .i64 b)), (2, (.int .i64 c)), (3, (.int .i64 d)), (4, (.bool off))] ⟨rfl, rfl, rfl, rfl, rfl, trivial⟩ [] (Mm.start w []) ?_
 refine stSeq (reg ?_)
 refine la ?_
 refine liNil (qThen (stSeq (stSeq (reg (li rfl ?_)))))
 refine opK0 (fun w hM => (lAwake  w (r0.go0 hM)).mono ?_)
 rintro e w' ⟨rfl, hP⟩
 refine ⟨_, _, rfl, hP, ?_⟩; clear hP hM
 refine lc (.bool false) ?_
 refine liNil (qThen (stFalse rfl (stSkip (qThen (stSeq (stSeq (reg ?_)))))))
 refine lm ?_
 refine lc (.bool (decide ((a : Int) < 1))) ?_
 refine lm ?_
 refine St.dec 19 rfl (fun hc19 => ?_) (fun hc19 => ?_)
 ·have hd19 := of_decide_eq_true hc19
  refine lnT ?_
  refine lnT ?_
  refine lc (.bool true) ?_
  refine lm ?_
  refine lnT ?_
  refine lnT ?_
  refine lc (.bool true) ?_
  refine lm ?_
  refine lnT ?_
  refine lnT ?_
  refine lc (.bool true) ?_
  refine liNil (qThen (stTrue rfl (stSeq (reg ?_))))
  refine la ?_
  refine liNil (qThen (stRet (qThenR ?_)))
  refine stEnd [(.bool true)] rfl ⟨rfl, trivial⟩ (fun w hM => ?_)
  exact ⟨rfl, hM⟩
 ·have hd19 := of_decide_eq_false hc19
  refine lgm ?_
  refine lgc (.bool (decide ((a : Int) > 60))) ?_
  refine lc (.bool (decide ((a : Int) > 60))) ?_
  refine lm ?_
  refine St.dec 23 rfl (fun hc23 => ?_) (fun hc23 => ?_)
  ·have hd23 := of_decide_eq_true hc23
   refine lnT ?_
   refine lnT ?_
   refine lc (.bool true) ?_
   refine lm ?_
   refine lnT ?_
   refine lnT ?_
   refine lc (.bool true) ?_
   refine liNil (qThen (stTrue rfl (stSeq (reg ?_))))
   refine la ?_
   refine liNil (qThen (stRet (qThenR ?_)))
   refine stEnd [(.bool true)] rfl ⟨rfl, trivial⟩ (fun w hM => ?_)
   exact ⟨rfl, hM⟩
  ·have hd23 := of_decide_eq_false hc23
   refine lgm ?_
   refine lgc (.bool (decide ((b : Int) < 1))) ?_
   refine lc (.bool (decide ((b : Int) < 1))) ?_
   refine lm ?_
   refine St.dec 27 rfl (fun hc27 => ?_) (fun hc27 => ?_)
   ·have hd27 := of_decide_eq_true hc27
    refine lnT ?_
    refine lnT ?_
    refine lc (.bool true) ?_
    refine liNil (qThen (stTrue rfl (stSeq (reg ?_))))
    refine la ?_
    refine liNil (qThen (stRet (qThenR ?_)))
    refine stEnd [(.bool true)] rfl ⟨rfl, trivial⟩ (fun w hM => ?_)
    exact ⟨rfl, hM⟩
   ·have hd27 := of_decide_eq_false hc27
    refine lgm ?_
    refine lgc (.bool (decide ((b : Int) > 200))) ?_
    refine lc (.bool (decide ((b : Int) > 200))) ?_
    refine liNil (qThen ?_)
    refine stCond rfl (fun hc30 => ?_) (fun hc30 => ?_)
    ·have hd30 := of_decide_eq_true hc30
     refine stSeq (reg ?_)
     refine la ?_
     refine liNil (qThen (stRet (qThenR ?_)))
     refine stEnd [(.bool true)] rfl ⟨rfl, trivial⟩ (fun w hM => ?_)
     exact ⟨rfl, hM⟩
    ·have hd30 := of_decide_eq_false hc30
     refine stSkip (qThen (stSeq ?_))
     obtain ⟨n, rfl⟩ : ∃ n : Nat, a = n := ⟨a.toNat, by omega⟩
     obtain ⟨sz, rfl⟩ : ∃ n : Nat, b = n := ⟨b.toNat, by omega⟩
     refine reg ?_
     refine lm ?_
     refine lm ?_
     refine li rfl ?_
     refine opK0 (fun w hM => (dNew_any n sz w (by omega) (by omega) (by omega) (by omega)).mono ?_)
     rintro e w' ⟨bd34, X34, rfl, hP⟩
     refine ⟨_, _, rfl, hP, ?_⟩; clear hP hM
     refine lm ?_
     refine lc (vP bd34 0) ?_
     refine lc (.int .i64 0) ?_
     refine la ?_
     refine la ?_
     refine liNil (qThen (stSeq (stSeq (reg ?_))))
     refine lm ?_
     refine liNil (qThen ?_)
     refine stCond rfl (fun hc37 => ?_) (fun hc37 => ?_)
     ·refine St.known 4 (b' := true) rfl hc37 ?_
      refine stSeq ?_
      refine St.fact (fun w hM => (Mm.unpack (A := []) (B := []) hM).2) (fun wf => ?_)
      refine St.mem (cs' := [cAt bd34 59 [(vI sz), (vL X34.Ad X34.dv (X34.cd)), (vL X34.Ap X34.pv (X34.cp)), (.map (some X34.lat)), (.int .i64 (-1)), (.bool false)], cOwn 41 1 X34.Ad (X34.dv.length) (X34.cd) (X34.dv.map slv), cOwn 61 2 X34.Ap (X34.pv.length) (X34.cp) (PW X34.pv), cMap kI natV X34.lat X34.kv, cRows X34.L]) (fun w hM => (Mm.unpack (A := []) (B := []) hM).1) ?_
      refine reg ?_
      refine lm ?_
      refine li rfl ?_
      refine opK [0] [cAt bd34 59 [(vI sz), (vL X34.Ad X34.dv (X34.cd)), (vL X34.Ap X34.pv (X34.cp)), (.map (some X34.lat)), (.int .i64 (-1)), (.bool false)]] (fun w hM hO => (dFail_any bd34 (vI sz) (vL X34.Ad X34.dv (X34.cd)) (vL X34.Ap X34.pv (X34.cp)) (.map (some X34.lat)) w hO).mono ?_)
      rintro e w' ⟨rfl, hP⟩
      refine ⟨_, [cAt bd34 59 [(vI sz), (vL X34.Ad X34.dv (X34.cd)), (vL X34.Ap X34.pv (X34.cp)), (.map (some X34.lat)), (.int .i64 0), (.bool false)]], _, rfl, hP, rfl, ?_⟩; clear hP hM hO
      refine liNil (qThen (reg ?_))
      refine lm ?_
      refine li rfl ?_
      refine opK [0] [cAt bd34 59 [(vI sz), (vL X34.Ad X34.dv (X34.cd)), (vL X34.Ap X34.pv (X34.cp)), (.map (some X34.lat)), (.int .i64 0), (.bool false)]] (fun w hM hO => (dSync_off bd34 (vI sz) (vL X34.Ad X34.dv (X34.cd)) (vL X34.Ap X34.pv (X34.cp)) (.map (some X34.lat)) w hO).mono ?_)
      rintro e w' ⟨rfl, hP⟩
      refine ⟨_, [cAt bd34 59 [(vI sz), (vL X34.Ad X34.dv (X34.cd)), (vL X34.Ap X34.pv (X34.cp)), (.map (some X34.lat)), (.int .i64 (-1)), (.bool true)]], _, rfl, hP, rfl, ?_⟩; clear hP hM hO
      refine liNil (qThen (stSeq ?_))
      refine St.to [cAt bd34 59 [(vI sz), (vL X34.Ad X34.dv (X34.cd)), (vL X34.Ap X34.pv (X34.cp)), (.map (some X34.lat)), (.int .i64 (-1)), (.bool true)], cOwn 41 1 X34.Ad (X34.dv.length) (X34.cd) (X34.dv.map slv), cOwn 61 2 X34.Ap (X34.pv.length) (X34.cp) (PW X34.pv), cMap kI natV X34.lat X34.kv, cRows X34.L] (by kernel_rfl) ?_
      have hdl := wf.dl
      rw [List.length_replicate] at hdl
      cases hg : regB ((n : Nat) : Int) ((sz : Nat) : Int) c d with
      | true =>
        have hgd := of_decide_eq_true (show decide _ = true from hg)
        obtain ⟨g1, g2, g3, g4, g5⟩ := hgd
        refine reg ?_
        refine lm ?_
        refine lm ?_
        refine lm ?_
        refine li rfl ?_
        refine opK0 (fun w hM => (sOpen_down bd34 sz X34.Ad X34.dv.length X34.cd (vL X34.Ap X34.pv (X34.cp)) (.map (some X34.lat)) (.int .i64 (-1)) c d w (hM.keep0 (j := 0) rfl (fun _ h => h)) (⟨by omega, by omega, by omega, by omega, by omega⟩) (by omega)).mono ?_)
        rintro e w' ⟨rfl, hP⟩
        refine ⟨_, _, rfl, hP, ?_⟩; clear hP hM
        refine lm ?_
        refine lc (.pointer none) ?_
        refine lc (.int .i64 8) ?_
        refine la ?_
        refine la ?_
        refine liNil (qThen (stSeq (stBlock (stSeq (reg ?_)))))
        refine lm ?_
        refine lm ?_
        refine lm ?_
        refine lm ?_
        refine li rfl ?_
        refine opK0 (fun w hM => (rRegion_any ((n : Nat) : Int) ((sz : Nat) : Int) c d w (⟨by omega, by omega⟩)).mono ?_)
        rintro e w' ⟨rfl, hP⟩
        refine ⟨_, _, rfl, hP, ?_⟩; clear hP hM
        refine lc (.bool (!(regB ((n : Nat) : Int) ((sz : Nat) : Int) c d))) ?_
        refine la ?_
        refine liNil (qThen ?_)
        refine stFalseK rfl (by rw [hg]; rfl) ?_
        refine stSeq (reg ?_)
        refine lm ?_
        refine la ?_
        refine liNil (qThen (stTrue rfl (stSeq (reg ?_))))
        refine lm ?_
        refine lc (.bool true) ?_
        refine la ?_
        refine liNil (qThen (stRet (qBlockR (qThenR ?_))))
        refine stEnd [(.bool true)] rfl ⟨rfl, trivial⟩ (fun w hM => ?_)
        exact ⟨rfl, (hM.pick [] rfl rfl)⟩
      | false =>
        have hgd := of_decide_eq_false (show decide _ = false from hg)
        refine reg ?_
        refine lm ?_
        refine lm ?_
        refine lm ?_
        refine li rfl ?_
        refine opK0 (fun w hM => (sOpen_bad bd34 sz X34.Ad X34.dv.length X34.cd (vL X34.Ap X34.pv (X34.cp)) (.map (some X34.lat)) (.int .i64 (-1)) (.bool true) c d w (hM.keep0 (j := 0) rfl (fun _ h => h)) (by rw [hdl]; intro hx; exact hgd ⟨by omega, by omega, by omega, by omega, by omega⟩) (⟨by omega, by omega⟩) (by omega)).mono ?_)
        rintro e w' ⟨rfl, hP⟩
        refine ⟨_, _, rfl, hP, ?_⟩; clear hP hM
        refine lm ?_
        refine lc (.pointer none) ?_
        refine lc (.int .i64 1) ?_
        refine la ?_
        refine la ?_
        refine liNil (qThen (stSeq (stBlock (stSeq (reg ?_)))))
        refine lm ?_
        refine lm ?_
        refine lm ?_
        refine lm ?_
        refine li rfl ?_
        refine opK0 (fun w hM => (rRegion_any ((n : Nat) : Int) ((sz : Nat) : Int) c d w (⟨by omega, by omega⟩)).mono ?_)
        rintro e w' ⟨rfl, hP⟩
        refine ⟨_, _, rfl, hP, ?_⟩; clear hP hM
        refine lc (.bool (!(regB ((n : Nat) : Int) ((sz : Nat) : Int) c d))) ?_
        refine la ?_
        refine liNil (qThen ?_)
        refine stTrueK rfl (by rw [hg]; rfl) ?_
        refine stSeq (reg ?_)
        refine lm ?_
        refine lc (.bool true) ?_
        refine la ?_
        refine liNil (qThen (stRet (qBlockR (qThenR ?_))))
        refine stEnd [(.bool true)] rfl ⟨rfl, trivial⟩ (fun w hM => ?_)
        exact ⟨rfl, (hM.pick [] rfl rfl)⟩
     ·refine St.known 4 (b' := false) rfl hc37 ?_
      refine stSkip (qThen (stSeq ?_))
      refine St.to [cDisk bd34 X34 sz (List.replicate n (zerosB sz)) []] (by kernel_rfl) ?_
      refine St.fact (fun w hM => (hM.at (i := 0) rfl : (cDisk bd34 X34 sz (List.replicate n (zerosB sz)) []).holds w).2.2.dl) (fun hdl => ?_)
      rw [List.length_replicate] at hdl
      cases hg : regB ((n : Nat) : Int) ((sz : Nat) : Int) c d with
      | true =>
        have hgd := of_decide_eq_true (show decide _ = true from hg)
        obtain ⟨g1, g2, g3, g4, g5⟩ := hgd
        obtain ⟨f, rfl⟩ : ∃ n : Nat, c = n := ⟨c.toNat, by omega⟩
        obtain ⟨k, rfl⟩ : ∃ n : Nat, d = n := ⟨d.toNat, by omega⟩
        refine reg ?_
        refine lm ?_
        refine lm ?_
        refine lm ?_
        refine li rfl ?_
        refine opK [0] [cDisk bd34 X34 sz (List.replicate n (zerosB sz)) []] (fun w hM hO => (sOpen_ok bd34 f k X34 sz (List.replicate n (zerosB sz)) [] 1 w hO (r0.goS hM [0]) (DI_empty (by omega) (by omega) (by omega) (by omega) (by omega)) (fun b hb => (by cases hb)) (⟨by simp, by omega, by omega, by omega, by simp; omega⟩)).mono ?_)
        rintro e w' ⟨bs46, Y46, ol46, rfl, hP, hLR46⟩
        refine ⟨_, [cDisk bd34 X34 sz (List.replicate n (zerosB sz)) []], _, rfl, hP, rfl, ?_⟩; clear hP hM hO
        refine lm ?_
        refine lc (vP bs46 0) ?_
        refine lc (.int .i64 0) ?_
        refine la ?_
        refine la ?_
        refine liNil (qThen (stSeq (stBlock (stSeq (reg ?_)))))
        refine lm ?_
        refine lm ?_
        refine lm ?_
        refine lm ?_
        refine li rfl ?_
        refine opK0 (fun w hM => (rRegion_any ((n : Nat) : Int) ((sz : Nat) : Int) ((f : Nat) : Int) ((k : Nat) : Int) w (⟨by omega, by omega⟩)).mono ?_)
        rintro e w' ⟨rfl, hP⟩
        refine ⟨_, _, rfl, hP, ?_⟩; clear hP hM
        refine lc (.bool (!(regB ((n : Nat) : Int) ((sz : Nat) : Int) ((f : Nat) : Int) ((k : Nat) : Int)))) ?_
        refine la ?_
        refine liNil (qThen ?_)
        refine stFalseK rfl (by rw [hg]; rfl) ?_
        refine stSeq (reg ?_)
        refine lm ?_
        refine la ?_
        refine liNil (qThen (stFalse rfl (stSkip (qBlock (qThen (stSeq ?_))))))
        obtain ⟨hl1, hp1⟩ := hLR46
        obtain rfl := hp1.eq_nil
        have hkv : Y46.kv = [] := List.map_eq_nil_iff.1 hl1.kv
        have hfr : Y46.fr = k := hl1.fr
        refine reg ?_
        refine lm ?_
        refine lc (.bool true) ?_
        refine lm ?_
        refine lgm ?_
        refine lgm ?_
        refine lgm ?_
        refine lgc (.agg #[(vI sz), (vI k), (.slice none 0 0)]) ?_
        refine liGo rfl rfl ?_
        refine opBox [(vI sz), (vI k), (.slice none 0 0)] rfl rfl (by kernel_rfl) rfl rfl (fun b69 => ?_)
        refine liGo rfl rfl ?_
        refine opK [1] [cStore bs46 bd34 f Y46] (fun w hM hO => (lSame_nil bs46 bd34 f Y46 b69 sz k (vL X34.Ad X34.dv (X34.cd)) (vL X34.Ap X34.pv (X34.cp)) (.map (some X34.lat)) (.int .i64 (-1)) (.bool false) w hO (hM.keepS [1] (j := 0) rfl (fun _ h => disk_at h)) (hM.keepS [1] (j := 2) rfl (fun _ h => h)) (⟨by omega, by omega, by omega⟩) (hkv) (hfr)).mono ?_)
        rintro e w' ⟨rfl, hP⟩
        refine ⟨_, [cStore bs46 bd34 f Y46], _, rfl, hP, rfl, ?_⟩; clear hP hM hO
        refine lc (.bool true) ?_
        refine la ?_
        refine liNil (qThen (stRet ?_))
        refine stEnd [(.bool true)] rfl ⟨rfl, trivial⟩ (fun w hM => ?_)
        exact ⟨rfl, (hM.pick [] rfl rfl)⟩
      | false =>
        have hgd := of_decide_eq_false (show decide _ = false from hg)
        refine reg ?_
        refine lm ?_
        refine lm ?_
        refine lm ?_
        refine li rfl ?_
        refine opK0 (fun w hM => (sOpen_bad bd34 sz X34.Ad X34.dv.length X34.cd (vL X34.Ap X34.pv (X34.cp)) (.map (some X34.lat)) (.int .i64 (-1)) (.bool false) c d w (hM.keep0 (j := 0) rfl (fun _ h => disk_at h)) (by rw [hdl]; intro hx; exact hgd ⟨by omega, by omega, by omega, by omega, by omega⟩) (⟨by omega, by omega⟩) (by omega)).mono ?_)
        rintro e w' ⟨rfl, hP⟩
        refine ⟨_, _, rfl, hP, ?_⟩; clear hP hM
        refine lm ?_
        refine lc (.pointer none) ?_
        refine lc (.int .i64 1) ?_
        refine la ?_
        refine la ?_
        refine liNil (qThen (stSeq (stBlock (stSeq (reg ?_)))))
        refine lm ?_
        refine lm ?_
        refine lm ?_
        refine lm ?_
        refine li rfl ?_
        refine opK0 (fun w hM => (rRegion_any ((n : Nat) : Int) ((sz : Nat) : Int) c d w (⟨by omega, by omega⟩)).mono ?_)
        rintro e w' ⟨rfl, hP⟩
        refine ⟨_, _, rfl, hP, ?_⟩; clear hP hM
        refine lc (.bool (!(regB ((n : Nat) : Int) ((sz : Nat) : Int) c d))) ?_
        refine la ?_
        refine liNil (qThen ?_)
        refine stTrueK rfl (by rw [hg]; rfl) ?_
        refine stSeq (reg ?_)
        refine lm ?_
        refine lc (.bool true) ?_
        refine la ?_
        refine liNil (qThen (stRet (qBlockR (qThenR ?_))))
        refine stEnd [(.bool true)] rfl ⟨rfl, trivial⟩ (fun w hM => ?_)
        exact ⟨rfl, (hM.pick [] rfl rfl)⟩
end Go.Proofs.YtaiggifiefnjnaaGreatDoor
namespace Go.Proofs.YtaiggifiefnjnaaGreatDoor
open Go.RowKit
def k64 : Bs := [97, 32, 107, 101, 121, 32, 111, 102, 32, 115, 105, 120, 116, 121, 45, 102, 111, 117, 114, 32, 98, 121, 116, 101, 115, 32, 116, 104, 97, 116, 32, 110, 111, 110, 101, 32, 111, 102, 32, 116, 104, 101, 32, 103, 101, 110, 101, 114, 97, 116, 111, 114, 115, 32, 101, 118, 101, 114, 32, 109, 97, 107, 101, 115]
theorem SI.mono {sz first n M M' : Nat} {bl : List Bl} {secs : List Bs} {Y : SX} (h : SI sz first n M bl secs Y) (h1 : M ≤ M') (h2 : M' ≤ 1000) : SI sz first n M' bl secs Y := ⟨h.d, h.l.mono h1, h2, h.s, h.n1⟩
theorem putErr7 {sz : Nat} {Y : SX} {key data : Bs} (h1 : 1 ≤ key.length ∧ key.length ≤ 64 ∧ data.length ≤ 65536) (h2 : kvGet Y.kv key = none) (h3 : Y.fr < needN sz (33 + key.length + data.length)) : putErr sz Y key data = 7 := by
 unfold putErr
 rw [if_neg (by omega), if_neg (by omega), if_neg (by rw [h2]; simp), if_pos h3]
theorem freeI_ge (sz fr : Nat) : -1 ≤ freeI sz fr := by unfold freeI; omega
theorem freeI_le {sz fr : Nat} (hz : sz ≤ 100) (hf : fr ≤ 30) : freeI sz fr ≤ 3000 := by
 have h : fr * (sz - 32) ≤ 30 * 68 := Nat.mul_le_mul hf (by omega)
 unfold freeI
 omega
theorem freeI_zero (sz : Nat) : freeI sz 0 = -1 := by unfold freeI; simp only [Nat.zero_mul]; omega
theorem free_full {sz fr m : Nat} (z1 : 64 ≤ sz) (z2 : sz ≤ 100) (hf : fr ≤ 30) (h : freeI sz fr + 1 = (m : Int)) : fr < needN sz (33 + 64 + m) := by
 have h1 : fr * (sz - 32) ≤ 30 * 68 := Nat.mul_le_mul hf (by omega)
 unfold freeI at h
 unfold needN
 rw [Nat.lt_iff_add_one_le, Nat.le_div_iff_mul_le (by omega), Nat.add_mul, Nat.one_mul]
 omega
theorem free_fits {sz fr m : Nat} (z1 : 64 ≤ sz) (z2 : sz ≤ 100) (hf : fr ≤ 30) (h : freeI sz fr = (m : Int)) : needN sz (33 + 64 + m) = fr := by
 have h1 : fr * (sz - 32) ≤ 30 * 68 := Nat.mul_le_mul hf (by omega)
 unfold freeI at h
 unfold needN
 rw [Nat.div_eq_of_lt_le]
 ·omega
 ·rw [Nat.add_mul, Nat.one_mul]
  omega
theorem lawSpace_any (a : Int) (b : Int) (A : Option Addr) (c : Nat) (l : List OpX) (w : World) (r0 : Rf [] w (Vars)) (r1 : Rf [] w (fun w => RowIn w A (OX l))) (r2 : Rf [] w (OpRows l)) (hl : l.length ≤ 9223372036854775807) (hcap : ∀ x ∈ l, x.data.length ≤ x.c) :
  Calls Tryz.prog 4 #[(.int .i64 a), (.int .i64 b), (vL A l c)] w fun e w' => e = .returned (.bool true) ∧ Back [] w [] w' := by
 have _u0 := r0
 have _u1 := r1
 have _u2 := r2
 have _u3 := hl
 have _u4 := hcap
 clear _u0 _u1 _u2 _u3 _u4
 refine stEnter (args := [(.int .i64 a), (.int .i64 b), (vL A l c)]) (fps []) Tryz.func4 rfl 112 rfl [(0, (.int .i64 a)), (1, (.int .i64 b)), (2, (vL A l c))] ⟨rfl, rfl, rfl, trivial⟩ [] (Mm.start w []) ?_
 refine stSeq (reg ?_)
 refine la ?_
 refine liNil (qThen (stSeq (stSeq (reg (li rfl ?_)))))
 refine opK0 (fun w hM => (lAwake  w (r0.go0 hM)).mono ?_)
 rintro e w' ⟨rfl, hP⟩
 refine ⟨_, _, rfl, hP, ?_⟩; clear hP hM
 refine lc (.bool false) ?_
 refine liNil (qThen (stFalse rfl (stSkip (qThen (stSeq (stSeq (reg ?_)))))))
 refine lm ?_
 refine lm ?_
 refine lm ?_
 refine li rfl ?_
 refine opK0 (fun w hM => (lSmall_any a b A c l w (r1.go0 hM) (by omega)).mono ?_)
 rintro e w' ⟨rfl, hP⟩
 refine ⟨_, _, rfl, hP, ?_⟩; clear hP hM
 refine lc (.bool (!(smallB a b l))) ?_
 refine liNil (qThen ?_)
 refine stCond rfl (fun hc20 => ?_) (fun hc20 => ?_)
 ·refine stSeq (reg ?_)
  refine la ?_
  refine liNil (qThen (stRet (qThenR ?_)))
  refine stEnd [(.bool true)] rfl ⟨rfl, trivial⟩ (fun w hM => ?_)
  exact ⟨rfl, hM.pick [] rfl rfl⟩
 ·obtain ⟨hsm, s1, s2, s3, s4, s5⟩ := smallB_ok (by simpa using hc20)
  obtain ⟨sz, rfl⟩ : ∃ n : Nat, a = n := ⟨a.toNat, by omega⟩
  obtain ⟨n, rfl⟩ : ∃ n : Nat, b = n := ⟨b.toNat, by omega⟩
  have hD0 : DI sz 0 n [] (List.replicate n (zerosB sz)) := DI_empty (by omega) (by omega) (by omega) (by omega) (by omega)
  refine stSkip (qThen (stSeq (reg ?_)))
  refine lm ?_
  refine lm ?_
  refine li rfl ?_
  refine opK0 (fun w hM => (dNew_any n sz w (by omega) (by omega) (by omega) (by omega)).mono ?_)
  rintro e w' ⟨bd24, X24, rfl, hP⟩
  refine ⟨_, _, rfl, hP, ?_⟩; clear hP hM
  refine lm ?_
  refine lc (vP bd24 0) ?_
  refine lc (.int .i64 0) ?_
  refine la ?_
  refine la ?_
  refine liNil (qThen (stSeq (reg ?_)))
  refine lm ?_
  refine lm ?_
  refine li rfl ?_
  refine opK [0] [cDisk bd24 X24 sz (List.replicate n (zerosB sz)) []] (fun w hM hO => (sOpen_ok bd24 0 n X24 sz (List.replicate n (zerosB sz)) [] 1 w hO (r0.goS hM [0]) (hD0) (fun b hb => (by cases hb)) (⟨by simp, by omega, by omega, by omega, by simp; omega⟩)).mono ?_)
  rintro e w' ⟨bs30, Y30, ol30, rfl, hP, hLR30⟩
  refine ⟨_, [cDisk bd24 X24 sz (List.replicate n (zerosB sz)) []], _, rfl, hP, rfl, ?_⟩; clear hP hM hO
  refine lm ?_
  refine lc (vP bs30 0) ?_
  refine lc (.int .i64 0) ?_
  refine la ?_
  refine la ?_
  refine liNil (qThen (stSeq (stSeq ?_)))
  refine St.to [cDisk bd24 X24 sz (List.replicate n (zerosB sz)) [], cStore bs30 bd24 0 Y30] (by kernel_rfl) ?_
  refine reg ?_
  refine lm ?_
  refine lc (.bool false) ?_
  refine liNil (qThen (stFalse rfl (stSkip (qThen (stSeq (stSeq ?_))))))
  obtain ⟨hl1, hp1⟩ := hLR30
  obtain rfl := hp1.eq_nil
  have hS0 : SI sz 0 n 1 [] (List.replicate n (zerosB sz)) Y30 := ⟨hD0, hl1, by omega, by simp; omega, by omega⟩
  refine reg ?_
  refine la ?_
  refine liNil (qThen (stBlock ?_))
  refine stLoop (ι := Nat × DX × List Bs × SX × List Bl) (fun (i, X, secs, Y, bl) => i ≤ l.length ∧ SI sz 0 n (i + 1) bl secs Y) (fun (i, X, secs, Y, bl) => l.length - i) (fun (i, X, secs, Y, bl) => [(2, (vL A l c)), (6, (.bool false)), (9, (vP bs30 0)), (11, (vI i))]) (fun (i, X, secs, Y, bl) => [cDisk bd24 X sz secs [], cStore bs30 bd24 0 Y]) (0, X24, (List.replicate n (zerosB sz)), Y30, []) ⟨Nat.zero_le _, hS0⟩ ⟨rfl, rfl, rfl, rfl, trivial⟩ (fun _ h => h) ?_
  rintro ⟨i, X, secs, Y, bl⟩ ⟨hi, hS⟩
  show St _ _ _ [(2, (vL A l c)), (6, (.bool false)), (9, (vP bs30 0)), (11, (vI i))] [cDisk bd24 X sz secs [], cStore bs30 bd24 0 Y] _
  refine stSeq (stSeq (reg ?_))
  refine lm ?_
  refine lm ?_
  refine lc (vI l.length) ?_
  refine lc (.bool (decide (((i : Nat) : Int) < ((l.length : Nat) : Int)))) ?_
  refine liNil (qThen ?_)
  refine stCond rfl (fun hc38 => ?_) (fun hc38 => ?_)
  ·have hd38 := of_decide_eq_true hc38
   refine stSkip (qThen (stSeq (stBlock (stSeq (reg ?_)))))
   refine lm ?_
   refine lm ?_
   obtain ⟨x0, hx0⟩ : ∃ ξ, (l)[i]? = some ξ := ⟨_, List.getElem?_eq_getElem (by omega)⟩
   refine St.oxPtr (fun w hM => r1.now hM) hx0 (fun p43 q43 hA43 hc43 => ?_)
   refine lv (v := (vP p43 (q43 + i * 5))) (rIndexRow2 (e := 44) rfl (by kernel_rfl) (by kernel_rfl) rfl rfl hA43 (by omega)) ?_
   have rd := Ro.imp (Ψ := fun w => RowIn w x0.A (B8 x0.data)) r2 (fun w h => h x0 (List.mem_of_getElem? hx0))
   obtain ⟨q1, q2⟩ := hsm x0 (List.mem_of_getElem? hx0)
   have q3 := hcap x0 (List.mem_of_getElem? hx0)
   refine lc (vP p43 (q43 + i * 5)) ?_
   refine lv (v := (.int .i64 x0.kind)) (rLoadW rfl rfl (by kernel_rfl) (fun w hM => hc43 w hM 0 _ rfl)) ?_
   refine liNil (qThen (stBlock (stSeq (reg ?_))))
   refine lc (.bool ((x0.kind : Int) == 0)) ?_
   refine la ?_
   refine liNil (qThen ?_)
   refine stCond rfl (fun hc46 => ?_) (fun hc46 => ?_)
   ·refine anyBegin [cDisk bd24 X sz secs [], cStore bs30 bd24 0 Y] 11 (by kernel_rfl) (fun _ h => h) ?_
    refine am 0 ?_
    refine am 1 ?_
    refine am 2 ?_
    refine Any.oxPtr (fun w hM => r1.now hM) hx0 (fun p51 q51 hA51 hc51 => ?_)
    refine av 3 (vP p51 (q51 + i * 5)) rfl (rIndexRow2 (e := 44) rfl (by kernel_rfl) (by kernel_rfl) rfl rfl hA51 (by omega)) ?_
    refine ac 4 (vP p51 (q51 + i * 5 + 1)) ?_
    refine av 5 (vS x0.key) rfl (rLoadW rfl rfl (by kernel_rfl) (fun w hM => hc51 w hM 1 _ rfl)) ?_
    refine am 6 ?_
    refine am 7 ?_
    refine Any.oxPtr (fun w hM => r1.now hM) hx0 (fun p56 q56 hA56 hc56 => ?_)
    refine av 8 (vP p56 (q56 + i * 5)) rfl (rIndexRow2 (e := 44) rfl (by kernel_rfl) (by kernel_rfl) rfl rfl hA56 (by omega)) ?_
    refine ac 9 (vP p56 (q56 + i * 5 + 2)) ?_
    refine av 10 (vL x0.A x0.data (x0.c)) rfl (rLoadW rfl rfl (by kernel_rfl) (fun w hM => hc56 w hM 2 _ rfl)) ?_
    refine a1 11 ?_
    refine opK [0, 1] [cDisk bd24 X sz secs [], cStore bs30 bd24 0 Y] (fun w hM hO => (sPuts bs30 bd24 0 Y X sz secs n (i + 1) bl x0.key x0.data x0.A x0.c w hO (r0.goS hM [0, 1]) (rd.goS hM [0, 1]) (hS) (⟨by omega, by omega⟩) (by omega) (by omega)).mono ?_)
    rintro e w' ⟨X259, secs259, Y259, bl259, rfl, hP, hSI59⟩
    refine ⟨_, [cDisk bd24 X259 sz secs259 [], cStore bs30 bd24 0 Y259], _, rfl, hP, rfl, ?_⟩; clear hP hM hO
    have hSn := hSI59.1
    refine anyLast (by kernel_rfl) rfl ?_
    refine qBlock (qBlock (qThen (reg ?_)))
    refine lm ?_
    refine lv (v := (vI (i + 1))) (rAdd _ rfl rfl rfl (by omega) (by omega) (by omega)) ?_
    refine la ?_
    refine liNil (qThen ?_)
    exact stAgain (i + 1, X259, secs259, Y259, bl259) (⟨by omega, hSn⟩) (by show l.length - (i + 1) < l.length - i; omega) ⟨rfl, rfl, rfl, rfl, trivial⟩ (fun w hM => hM)
   ·refine stSeq (reg ?_)
    refine lc (.bool ((x0.kind : Int) == 1)) ?_
    refine la ?_
    refine liNil (qThen ?_)
    refine stCond rfl (fun hc60 => ?_) (fun hc60 => ?_)
    ·refine reg ?_
     refine lm ?_
     refine lm ?_
     refine lm ?_
     refine St.oxPtr (fun w hM => r1.now hM) hx0 (fun p65 q65 hA65 hc65 => ?_)
     refine lv (v := (vP p65 (q65 + i * 5))) (rIndexRow2 (e := 44) rfl (by kernel_rfl) (by kernel_rfl) rfl rfl hA65 (by omega)) ?_
     refine lc (vP p65 (q65 + i * 5 + 1)) ?_
     refine lv (v := (vS x0.key)) (rLoadW rfl rfl (by kernel_rfl) (fun w hM => hc65 w hM 1 _ rfl)) ?_
     refine li rfl ?_
     refine opK [0, 1] [cDisk bd24 X sz secs [], cStore bs30 bd24 0 Y] (fun w hM hO => (sDels bs30 bd24 0 Y X sz secs n (i + 1) bl x0.key w hO (hS) (by omega)).mono ?_)
     rintro e w' ⟨X268, secs268, Y268, bl268, rfl, hP, hSI68⟩
     refine ⟨_, [cDisk bd24 X268 sz secs268 [], cStore bs30 bd24 0 Y268], _, rfl, hP, rfl, ?_⟩; clear hP hM hO
     have hSn := hSI68.1.mono (M' := i + 1 + 1) (by omega) (by omega)
     refine liNil (qBlock (qBlock (qThen (reg ?_))))
     refine lm ?_
     refine lv (v := (vI (i + 1))) (rAdd _ rfl rfl rfl (by omega) (by omega) (by omega)) ?_
     refine la ?_
     refine liNil (qThen ?_)
     exact stAgain (i + 1, X268, secs268, Y268, bl268) (⟨by omega, hSn⟩) (by show l.length - (i + 1) < l.length - i; omega) ⟨rfl, rfl, rfl, rfl, trivial⟩ (fun w hM => hM)
    ·have hSn := hS.mono (M' := i + 1 + 1) (by omega) (by omega)
     refine stSkip (qBlock (qBlock (qThen (reg ?_))))
     refine lm ?_
     refine lv (v := (vI (i + 1))) (rAdd _ rfl rfl rfl (by omega) (by omega) (by omega)) ?_
     refine la ?_
     refine liNil (qThen ?_)
     exact stAgain (i + 1, X, secs, Y, bl) (⟨by omega, hSn⟩) (by show l.length - (i + 1) < l.length - i; omega) ⟨rfl, rfl, rfl, rfl, trivial⟩ (fun w hM => hM)
  ·have hd38 := of_decide_eq_false hc38
   refine stExit (qThenX (qThenX (qBlockX (qThen (stSeq (reg ?_))))))
   refine la ?_
   refine St.conv 12 (v' := vS k64) rfl rfl ?_
   refine liNil (qThen (stSeq (stSeq (reg ?_))))
   refine lm ?_
   refine lm ?_
   refine li rfl ?_
   refine opK0 (fun w hM => (sHas_any bs30 bd24 (vI 0) (vI Y.us.length) (.int .u64 ((Y.num : Nat) : Int)) Y.bm (vL Y.Au Y.us (Y.cu)) (.slice none 0 0) (vI Y.fr) (.bool false) Y.kv k64 w (hM.keep0 (j := 1) rfl (fun _ h => store_at h)) (hM.keep0 (j := 1) rfl (fun _ h => store_map h)) (by decide)).mono ?_)
   rintro e w' ⟨rfl, hP⟩
   refine ⟨_, _, rfl, hP, ?_⟩; clear hP hM
   refine liNil (qThen ?_)
   refine stCond rfl (fun hc71 => ?_) (fun hc71 => ?_)
   ·refine stSeq ?_
    refine St.to [cDisk bd24 X sz secs [], cStore bs30 bd24 0 Y] (by kernel_rfl) ?_
    refine reg ?_
    refine la ?_
    refine liNil (qThen (stRet (qThenR ?_)))
    refine stEnd [(.bool true)] rfl ⟨rfl, trivial⟩ (fun w hM => ?_)
    exact ⟨rfl, hM.pick [] rfl rfl⟩
   ·have hno : kvGet Y.kv k64 = none := by simpa using hc71
    have hSl := hS.l; have hfr := hSl.fr
    have hi' : i = l.length := by omega
    have hf30 : Y.fr ≤ 30 := by omega
    have hf0 := freeI_ge sz Y.fr; have hf9 := freeI_le (sz := sz) (fr := Y.fr) (by omega) hf30
    obtain ⟨zs, hm, hzs⟩ : ∃ zs : Bs, freeI sz Y.fr + 1 = (zs.length : Int) ∧ List.replicate zs.length (0 : UInt8) = zs := ⟨List.replicate (freeI sz Y.fr + 1).toNat 0, by rw [List.length_replicate]; omega, by rw [List.length_replicate]⟩
    have hpe : putErr sz Y k64 zs = 7 := putErr7 ⟨by decide, by decide, by omega⟩ hno (by show _ < needN sz (33 + 64 + zs.length); exact free_full (by omega) (by omega) hf30 hm)
    refine stSkip (qThen (stSeq (reg ?_)))
    refine lm ?_
    refine li rfl ?_
    refine opK0 (fun w hM => (sFree_any bs30 bd24 (vI 0) (vI Y.us.length) (.int .u64 ((Y.num : Nat) : Int)) (.map (some Y.bm)) (vL Y.Au Y.us (Y.cu)) (.slice none 0 0) Y.fr (.bool false) sz (vL X.Ad X.dv (X.cd)) (vL X.Ap X.pv (X.cp)) (.map (some X.lat)) (.int .i64 (-1)) (.bool false) w (hM.keep0 (j := 1) rfl (fun _ h => store_at h)) (hM.keep0 (j := 0) rfl (fun _ h => disk_at h)) (⟨by omega, by omega⟩) (by omega)).mono ?_)
    rintro e w' ⟨rfl, hP⟩
    refine ⟨_, _, rfl, hP, ?_⟩; clear hP hM
    refine la ?_
    refine liNil (qThen (stSeq (stSeq (reg ?_))))
    refine lm ?_
    refine lc (.bool (decide ((freeI sz Y.fr) < (-1)))) ?_
    refine lm ?_
    refine St.known 76 (b' := false) rfl (decide_eq_false (by omega)) ?_
    refine lgm ?_
    refine lgc (.bool (decide ((freeI sz Y.fr) > 65536))) ?_
    refine lc (.bool (decide ((freeI sz Y.fr) > 65536))) ?_
    refine lm ?_
    refine St.known 80 (b' := false) rfl (decide_eq_false (by omega)) ?_
    refine lgm ?_
    refine lgm ?_
    refine lgm ?_
    refine lgv (v := (vI zs.length)) (rAdd _ rfl rfl rfl hm (by omega) (by omega)) ?_
    refine liGo rfl rfl ?_
    refine opMkN el_u8 zs.length (by omega) (B8 zs) rfl rfl (by kernel_rfl) rfl rfl rfl (by rw [← hzs, List.length_replicate]; simp [B8]) (fun b85 => ?_)
    refine liGo rfl rfl ?_
    refine opK [0, 1] [cDisk bd24 X sz secs [], cStore bs30 bd24 0 Y] (fun w hM hO => (sPuts bs30 bd24 0 Y X sz secs n (i + 1) bl k64 zs (some ⟨b85, 0, none⟩) zs.length w hO (r0.goS hM [0, 1]) (hM.keepS [0, 1] (j := 2) rfl (fun _ h => rowAtI h rfl)) (hS) (⟨by decide, by omega⟩) (Nat.le_refl _) (by omega)).mono ?_)
    rintro e w' ⟨X286, secs286, Y286, bl286, rfl, hP, hSI86⟩
    refine ⟨_, [cDisk bd24 X286 sz secs286 [], cStore bs30 bd24 0 Y286], _, rfl, hP, rfl, ?_⟩; clear hP hM hO
    obtain ⟨hS2, (⟨he, _⟩ | ⟨_, e9⟩)⟩ := hSI86
    case inl => exact absurd (hpe.symm.trans he) (by decide)
    rw [e9] at hS2
    have hfr2 : Y286.fr = Y.fr := by have h := hS2.l.fr; omega
    refine lgc (.bool (((((putErr sz Y k64 zs) : Nat) : Int) : Int) != 7)) ?_
    refine lc (.bool (((((putErr sz Y k64 zs) : Nat) : Int) : Int) != 7)) ?_
    refine liNil (qThen ?_)
    refine stFalseK rfl (by rw [hpe]; rfl) ?_
    refine stSkip (qThen (stSeq (stSeq (reg ?_))))
    refine lm ?_
    refine lc (.bool (decide ((freeI sz Y.fr) < 0))) ?_
    refine liNil (qThen ?_)
    refine stCond rfl (fun hc90 => ?_) (fun hc90 => ?_)
    ·have hd90 := of_decide_eq_true hc90
     refine stSeq (reg ?_)
     refine la ?_
     refine liNil (qThen (stRet (qThenR ?_)))
     refine stEnd [(.bool true)] rfl ⟨rfl, trivial⟩ (fun w hM => ?_)
     exact ⟨rfl, hM.pick [] rfl rfl⟩
    ·have hd90 := of_decide_eq_false hc90
     obtain ⟨zt, ht, hzt⟩ : ∃ zs : Bs, freeI sz Y.fr = (zs.length : Int) ∧ List.replicate zs.length (0 : UInt8) = zs := ⟨List.replicate (freeI sz Y.fr).toNat 0, by rw [List.length_replicate]; omega, by rw [List.length_replicate]⟩
     have hnd := free_fits (by omega) (by omega) hf30 ht
     have hno2 : kvGet Y286.kv k64 = none := hS2.l.none.2 (hSl.none.1 hno)
     have hpe2 : putErr sz Y286 k64 zt = 0 := putErr0 ⟨by decide, by decide, by omega⟩ hno2 (by show needN sz (33 + 64 + zt.length) ≤ _; omega)
     refine St.conv 13 (v' := vI zt.length) rfl (by rw [ht]) ?_
     refine stSkip (qThen (stSeq (stSeq (reg ?_))))
     refine lm ?_
     refine lm ?_
     refine lm ?_
     refine li rfl ?_
     refine opMkN el_u8 zt.length (by omega) (B8 zt) rfl rfl (by kernel_rfl) rfl rfl rfl (by rw [← hzt, List.length_replicate]; simp [B8]) (fun b94 => ?_)
     refine li rfl ?_
     refine opK [0, 1] [cDisk bd24 X286 sz secs286 [], cStore bs30 bd24 0 Y286] (fun w hM hO => (sPuts bs30 bd24 0 Y286 X286 sz secs286 n (i + 1 + 1) bl k64 zt (some ⟨b94, 0, none⟩) zt.length w hO (r0.goS hM [0, 1]) (hM.keepS [0, 1] (j := 3) rfl (fun _ h => rowAtI h rfl)) (hS2) (⟨by decide, by omega⟩) (Nat.le_refl _) (by omega)).mono ?_)
     rintro e w' ⟨X295, secs295, Y295, bl295, rfl, hP, hSI95⟩
     refine ⟨_, [cDisk bd24 X295 sz secs295 [], cStore bs30 bd24 0 Y295], _, rfl, hP, rfl, ?_⟩; clear hP hM hO
     obtain ⟨hS3, (⟨_, xb, rfl, hk3, hd3⟩ | ⟨hne, _⟩)⟩ := hSI95
     case inr => exact (hne hpe2).elim
     have hxl : xb.secs.length = Y.fr := by rw [(hS3.d.ok xb (by simp)).l, ← hnd]; unfold Bl.len; rw [hk3, hd3]; rfl
     have hal : allS (bl ++ [xb]) = allS bl ++ xb.secs := by simp [allS]
     have hfr3 : Y295.fr = 0 := by have h := hS3.l.fr; rw [hal, List.length_append] at h; omega
     have hde : delErr Y295 k64 = 0 := by unfold delErr; rw [if_pos]; cases h : kvGet Y295.kv k64 with | none => exact (hS3.l.none.1 h xb (by simp) hk3).elim | some v => rfl
     refine lc (.bool (((((putErr sz Y286 k64 zt) : Nat) : Int) : Int) != 0)) ?_
     refine lm ?_
     refine St.known 97 (b' := false) rfl (by rw [hpe2]; rfl) ?_
     refine lgm ?_
     refine liGo rfl rfl ?_
     refine opK0 (fun w hM => (sFree_any bs30 bd24 (vI 0) (vI Y295.us.length) (.int .u64 ((Y295.num : Nat) : Int)) (.map (some Y295.bm)) (vL Y295.Au Y295.us (Y295.cu)) (.slice none 0 0) Y295.fr (.bool false) sz (vL X295.Ad X295.dv (X295.cd)) (vL X295.Ap X295.pv (X295.cp)) (.map (some X295.lat)) (.int .i64 (-1)) (.bool false) w (hM.keep0 (j := 1) rfl (fun _ h => store_at h)) (hM.keep0 (j := 0) rfl (fun _ h => disk_at h)) (⟨by omega, by omega⟩) (by omega)).mono ?_)
     rintro e w' ⟨rfl, hP⟩
     refine ⟨_, _, rfl, hP, ?_⟩; clear hP hM
     refine St.to [cDisk bd24 X295 sz secs295 [], cStore bs30 bd24 0 Y295, cAt b85 5 (B8 zs), cAt b94 5 (B8 zt)] (by kernel_rfl) ?_
     refine lgc (.bool (((freeI sz Y295.fr) : Int) != (-1))) ?_
     refine lc (.bool (((freeI sz Y295.fr) : Int) != (-1))) ?_
     refine lm ?_
     refine St.known 102 (b' := false) rfl (by rw [hfr3, freeI_zero]; rfl) ?_
     refine lgm ?_
     refine lgm ?_
     refine liGo rfl rfl ?_
     refine opK [0, 1] [cDisk bd24 X295 sz secs295 [], cStore bs30 bd24 0 Y295] (fun w hM hO => (sDels bs30 bd24 0 Y295 X295 sz secs295 n (i + 1 + 1 + 1) (bl ++ [xb]) k64 w hO (hS3) (by decide)).mono ?_)
     rintro e w' ⟨X2105, secs2105, Y2105, bl2105, rfl, hP, hSI105⟩
     refine ⟨_, [cDisk bd24 X2105 sz secs2105 [], cStore bs30 bd24 0 Y2105], _, rfl, hP, rfl, ?_⟩; clear hP hM hO
     obtain ⟨hS4, (⟨_, yb, hp4, hk4⟩ | ⟨hne, _⟩)⟩ := hSI105
     case inr => exact (hne hde).elim
     have hyb : yb = xb := hS3.d.bkey (hp4.mem_iff.2 List.mem_cons_self) (by simp) (hk4.trans hk3.symm)
     subst hyb
     have hfr4 : Y2105.fr = Y.fr := by have h := hS4.l.fr; have h3 := (hp4.flatMap_right Bl.secs).length_eq; rw [List.flatMap_append, List.flatMap_cons, List.flatMap_cons, List.flatMap_nil, List.append_nil, List.length_append, List.length_append] at h3; unfold allS at h hfr; omega
     refine lgc (.bool (((((delErr Y295 k64) : Nat) : Int) : Int) != 0)) ?_
     refine lc (.bool (((((delErr Y295 k64) : Nat) : Int) : Int) != 0)) ?_
     refine liNil (qThen ?_)
     refine stFalseK rfl (by rw [hde]; rfl) ?_
     refine stSkip (qThen (stSeq (reg ?_)))
     refine lm ?_
     refine li rfl ?_
     refine opK0 (fun w hM => (sFree_any bs30 bd24 (vI 0) (vI Y2105.us.length) (.int .u64 ((Y2105.num : Nat) : Int)) (.map (some Y2105.bm)) (vL Y2105.Au Y2105.us (Y2105.cu)) (.slice none 0 0) Y2105.fr (.bool false) sz (vL X2105.Ad X2105.dv (X2105.cd)) (vL X2105.Ap X2105.pv (X2105.cp)) (.map (some X2105.lat)) (.int .i64 (-1)) (.bool false) w (hM.keep0 (j := 1) rfl (fun _ h => store_at h)) (hM.keep0 (j := 0) rfl (fun _ h => disk_at h)) (⟨by omega, by omega⟩) (by omega)).mono ?_)
     rintro e w' ⟨rfl, hP⟩
     refine ⟨_, _, rfl, hP, ?_⟩; clear hP hM
     refine lm ?_
     refine lc (.bool (((freeI sz Y2105.fr) : Int) == ((zt.length : Nat) : Int))) ?_
     refine la ?_
     refine liNil (qThen (stRet ?_))
     refine stEnd [(.bool (((freeI sz Y2105.fr) : Int) == ((zt.length : Nat) : Int)))] rfl ⟨rfl, trivial⟩ (fun w hM => ?_)
     exact ⟨by rw [hfr4, ht, beq_self_eq_true]; rfl, hM.pick [] rfl rfl⟩
end Go.Proofs.YtaiggifiefnjnaaGreatDoor
namespace Go.Proofs.YtaiggifiefnjnaaGreatDoor
open Go.RowKit
theorem el_op : Elem Tryz.prog 39 44 (.agg #[.int .i64 0, .string ⟨#[]⟩, .slice none 0 0, .int .i64 0, .slice none 0 0]) 5 80 := ⟨Tryz.underlying39, by kernel_rfl, rfl, by omega, by omega⟩
theorem OX_one {l : List OpX} (h : ∀ x ∈ l, x.keep.oneCell' = true) : ∀ u ∈ OX l, u.oneCell' = true := by
 intro u hu
 obtain ⟨x, hx, hux⟩ := List.mem_flatMap.1 hu
 simp only [oxV, List.mem_cons, List.not_mem_nil, or_false] at hux
 rcases hux with rfl | rfl | rfl | rfl | rfl
 ·rfl
 ·rfl
 ·rfl
 ·rfl
 ·exact h x hx
theorem rowOwnK {w0 w : World} {F : List Nat} {cs : List Ch} {e : TypeId} {i sz : Nat} {A : Option Addr} {m c : Nat} {xs : List Value} (hi : cs[i]? = some (cOwn e sz A m c xs)) (hM : Mm w0 F cs w) : RowIn w A xs := by
 have ho : w.ownsRow 0 e sz (.slice A m c) m xs := hM.at hi
 intro j u hu
 rcases ho.2 with ⟨hv, h0⟩ | ⟨g, cap, cur, hv, _, hg, _, _, _, hc⟩
 ·have : xs.length = 0 := by rw [ho.1, h0, Nat.zero_mul]
  rw [List.eq_nil_of_length_eq_zero this] at hu
  simp at hu
 ·simp only [Value.slice.injEq] at hv
  obtain ⟨rfl, _, rfl⟩ := hv
  refine ⟨g, 0, rfl, (Array.getElem?_eq_some_iff.1 hg).1, ?_⟩
  have hlt := (List.getElem?_eq_some_iff.1 hu).1
  rw [ho.1] at hlt
  have : cur.toList[j]? = some u := by rw [← List.getElem?_take_of_lt hlt, hc]; exact hu
  rw [Nat.zero_add]
  simpa [World.cell?, hg] using this
theorem own3_row {e : TypeId} {sz : Nat} {A : Option Addr} {m c : Nat} {xs : List Value} {w : World} (h : (cOwn e sz A m c xs).holds w) : RowIn w A xs := by
 have hM : Mm w (ownFp A) [cOwn e sz A m c xs] w := ⟨Fr.refl _ _, by intro d hd; rw [List.mem_singleton.1 hd]; exact h, by simpa [cOwn] using ownFp_nodup A, by intro b hb; exact .inl (by simpa [cOwn] using hb)⟩
 exact rowOwnK (i := 0) rfl hM
theorem opAppendB {P : Program} {Q : Exit → Act → World → Prop} {n : Nat} {w0 : World} {F : List Nat} {E : Env} {cs : List Ch} {K : Act → World → Prop} {o : Oper} {d : Nat} {t e : TypeId} {z : Value} {sz bt : Nat} (El : Elem P t e z sz bt) {s x : Operand} {A A2 : Option Addr} {m c m2 c2 : Nat} {xs : List Value} (i : Nat) (news : List Value) (ho : o.op = .call { callee := .builtin .append, args := #[s, x], argTypes := #[t, t] }) (hd : o.dst = some d) (hk : opOk n E o = true) (hs : evO E s = some (.slice A m c)) (hx : evO E x = some (.slice A2 m2 c2))
  (hi : cs[i]? = some (cOwn e sz A m c xs)) (hl : news.length = m2 * sz) (hsrc : ∀ w, Mm w0 F cs w → CellsAt w A2 news) (h1 : ∀ u ∈ news, u.oneCell' = true) (hlen : (m + m2) * bt ≤ 140737488355328) (hl6 : m + m2 ≤ 9223372036854775807) (m' : Nat) (hm : m + m2 = m') (xs' : List Value) (hxs : xs ++ news = xs')
  (h : ∀ A' c', St n w0 F ((d, (.slice A' m' c')) :: E) (cs.set i (cOwn e sz A' m' c' xs')) K) : OpW P Q n w0 F E cs o K :=
 opEff hd hk fun w hM => by
  subst hm hxs
  have key : ∃ v' w', (Builtin.append_ #[t, t] o.type #[.slice A m c, .slice A2 m2 c2]).run P w = .ok v' w' ∧ w'.ownsRow 0 e sz v' (m + m2) (xs ++ news) ∧ w.grownBy w' (Value.slice A m c).ownBlock ∧ (v'.ownBlock = (Value.slice A m c).ownBlock ∨ v'.ownBlock = some w.heap.size) := by
   obtain ⟨j, hj, hz, hsz, hby⟩ := info_parts El.hi
   have hown : w.ownsRow 0 e sz (.slice A m c) m xs := hM.at hi
   have hnews := hsrc w hM
   rcases A2 with _ | ad
   ·have hn : news = [] := by
     cases news with
     | nil => rfl
     | cons u r =>
       obtain ⟨ad, h, _⟩ := hnews 0 u rfl
       cases h
    subst hn
    have h0 : m2 = 0 := by
     rcases Nat.eq_zero_or_pos m2 with h | h
     ·exact h
     ·have := Nat.mul_pos h El.hp
      simp at hl
      omega
    subst h0
    exact ⟨_, w, run_app_nil El w 0 o.type _ m xs hown c2, by simpa using hown, World.grownBy.refl w _, .inl rfl⟩
   ·obtain ⟨v', w', h2, h3, h4, _, h5⟩ := run_append_own_at (P := P) w 0 t o.type e j z sz bt El.ht hj hz hsz hby El.hz El.hp _ m xs hown ad m2 c2 news hl (fun j u hu => by
     obtain ⟨ad', h, hc⟩ := hnews j u hu
     injection h with h
     subst h
     exact hc) h1 (by unfold maxLen; omega) hlen (Nat.zero_le _)
    exact ⟨v', w', h2, h3, h4, h5⟩
  obtain ⟨v', w', hr, h2, h3, h4⟩ := key
  obtain ⟨A', c', rfl, h5⟩ := hM.swapOwn i hi h2 h3 (h4.imp id (fun e => ⟨_, e, Nat.le_refl _⟩))
  refine ⟨_, w', _, ?_, h5, h A' c'⟩
  unfold execOp
  simp only [ho, resolve, invoke, builtin, Sem.run_bind, Sem.run_pure, Result.andThen_ok, List.map_toArray, List.map_cons, List.map_nil, evE_of hs, evE_of hx, hr]
def ThereB (th : Bool) (bl : List Bl) (key data : Bs) : Prop := (th = true → ∃ b ∈ bl, b.key = key ∧ b.data = data) ∧ (th = false → ∀ b ∈ bl, b.key ≠ key)
section
variable {sz first n M : Nat} {bl bl2 : List Bl} {secs : List Bs} {Y : SX} {key data k d : Bs} {th : Bool}
theorem ThereB.perm (h : ThereB th bl key data) (hp : bl2.Perm bl) : ThereB th bl2 key data :=
 ⟨fun e => by obtain ⟨b, hb, h2⟩ := h.1 e; exact ⟨b, hp.mem_iff.2 hb, h2⟩, fun e b hb => h.2 e b (hp.mem_iff.1 hb)⟩
theorem ThereB.put {pe : Nat} (h : ThereB th bl key data) (hq : (pe = 0 ∧ ∃ b, bl2 = bl ++ [b] ∧ b.key = k ∧ b.data = d) ∨ (pe ≠ 0 ∧ bl2 = bl)) (hk : k ≠ key ∨ pe ≠ 0) : ThereB th bl2 key data ∧ bl2.length ≤ bl.length + 1 := by
 rcases hq with ⟨h0, b, rfl, h1, h2⟩ | ⟨_, rfl⟩
 ·have hkk := hk.resolve_right (fun h => h h0)
  refine ⟨⟨fun e => ?_, fun e c hc => ?_⟩, by simp⟩
  ·obtain ⟨c, hc, h3⟩ := h.1 e
   exact ⟨c, List.mem_append_left _ hc, h3⟩
  ·rcases List.mem_append.1 hc with hc | hc
   ·exact h.2 e c hc
   ·rw [List.mem_singleton] at hc
    subst hc
    rw [h1]
    exact hkk
 ·exact ⟨h, by omega⟩
theorem ThereB.exists (h : ThereB th bl key data) (hS : SI sz first n M bl secs Y) (ht : th = true) (hk : k = key) (hd : d.length ≤ 65536) : putErr sz Y k d = 5 := by
 obtain ⟨b, hb, h1, _⟩ := h.1 ht
 have ho := hS.d.ok b hb
 have k1 := ho.k1
 have k2 := ho.k2
 rw [h1, ← hk] at k1 k2
 exact putErr5 ⟨k1, k2, hd⟩ (fun hn => hS.l.none.1 hn b hb (h1.trans hk.symm))
theorem ThereB.del (h : ThereB th bl key data) (hq : (delErr Y k = 0 ∧ ∃ b, bl.Perm (b :: bl2) ∧ b.key = k) ∨ (delErr Y k ≠ 0 ∧ bl2 = bl)) (hk : k ≠ key) : ThereB th bl2 key data ∧ bl2.length ≤ bl.length := by
 rcases hq with ⟨_, b, hp, h1⟩ | ⟨_, rfl⟩
 ·refine ⟨⟨fun e => ?_, fun e c hc => h.2 e c (hp.mem_iff.2 (List.mem_cons_of_mem _ hc))⟩, by rw [hp.length_eq]; simp⟩
  obtain ⟨c, hc, h3, h4⟩ := h.1 e
  rcases List.mem_cons.1 (hp.mem_iff.1 hc) with rfl | hc
  ·exact (hk (h1.symm.trans h3)).elim
  ·exact ⟨c, hc, h3, h4⟩
 ·exact ⟨h, Nat.le_refl _⟩
theorem ThereB.delKey (h : ThereB th bl key data) (hS : SI sz first n M bl secs Y) (hq : (delErr Y k = 0 ∧ ∃ b, bl.Perm (b :: bl2) ∧ b.key = k) ∨ (delErr Y k ≠ 0 ∧ bl2 = bl)) (hk : k = key) : delErr Y k = (if th then 0 else 4) ∧ ThereB false bl2 key data ∧ bl2.length ≤ bl.length := by
 subst hk
 have hde : delErr Y k = (if th then 0 else 4) := by
  unfold delErr
  cases th with
  | true =>
    obtain ⟨b, hb, h1, _⟩ := h.1 rfl
    rw [if_pos]
    ·rfl
    ·cases hg : kvGet Y.kv k with
     | none => exact (hS.l.none.1 hg b hb h1).elim
     | some v => rfl
  | false =>
    rw [hS.l.none.2 (h.2 rfl)]
    rfl
 refine ⟨hde, ⟨fun e => (by cases e), fun _ c hc => ?_⟩, ?_⟩
 ·rcases hq with ⟨_, b, hp, h1⟩ | ⟨h0, rfl⟩
  ·have hn := hS.d.keys
   rw [(hp.map Bl.key).nodup_iff, List.map_cons, List.nodup_cons] at hn
   exact fun e => hn.1 (by rw [h1, ← e]; exact List.mem_map.2 ⟨c, hc, rfl⟩)
  ·cases th with
   | true => rw [hde] at h0; exact (h0 rfl).elim
   | false => exact h.2 rfl c hc
 ·rcases hq with ⟨_, b, hp, _⟩ | ⟨_, rfl⟩
  ·rw [hp.length_eq]
   simp
  ·exact Nat.le_refl _
end
theorem lawGets_any (a : Int) (b : Int) (A : Option Addr) (c : Nat) (l : List OpX) (key : List UInt8) (A4 : Option Addr) (c4 : Nat) (data : List UInt8) (w : World) (r0 : Rf [] w (Vars)) (r1 : Rf [] w (fun w => RowIn w A (OX l))) (r2 : Rf [] w (OpRows l)) (r3 : Rf [] w (fun w => RowIn w A4 (B8 data))) (hl : (1 + l.length) * 80 ≤ 140737488355328) (hcap : ∀ x ∈ l, x.data.length ≤ x.c) (hkp : ∀ x ∈ l, x.keep.oneCell' = true) (hc4 : data.length ≤ c4) :
  Calls Tryz.prog 5 #[(.int .i64 a), (.int .i64 b), (vL A l c), (vS key), (vL A4 data c4)] w fun e w' => e = .returned (.bool true) ∧ Back [] w [] w' := by
 have _u0 := r0
 have _u1 := r1
 have _u2 := r2
 have _u3 := r3
 have _u4 := hl
 have _u5 := hcap
 have _u6 := hkp
 have _u7 := hc4
 clear _u0 _u1 _u2 _u3 _u4 _u5 _u6 _u7
 refine stEnter (args := [(.int .i64 a), (.int .i64 b), (vL A l c), (vS key), (vL A4 data c4)]) (fps []) Tryz.func5 rfl 197 rfl [(0, (.int .i64 a)), (1, (.int .i64 b)), (2, (vL A l c)), (3, (vS key)), (4, (vL A4 data c4))] ⟨rfl, rfl, rfl, rfl, rfl, trivial⟩ [] (Mm.start w []) ?_
 refine stSeq (reg ?_)
 refine la ?_
 refine liNil (qThen (stSeq (stSeq (reg (li rfl ?_)))))
 refine opK0 (fun w hM => (lAwake  w (r0.go0 hM)).mono ?_)
 rintro e w' ⟨rfl, hP⟩
 refine ⟨_, _, rfl, hP, ?_⟩; clear hP hM
 refine lc (.bool false) ?_
 refine liNil (qThen (stFalse rfl (stSkip (qThen (stSeq (stSeq (reg ?_)))))))
 refine lm ?_
 refine lm ?_
 refine lm ?_
 refine lm ?_
 refine lc (.agg #[(.int .i64 0), (vS key), (vL A4 data c4), (.int .i64 0), (.slice none 0 0)]) ?_
 refine li rfl ?_
 refine opNew (v := fun b => .slice (some ⟨b, 0, none⟩) 1 1) 44 [(.int .i64 0), (vS key), (vL A4 data c4), (.int .i64 0), (.slice none 0 0)] rfl (by kernel_rfl) (fun _ => by kernel_rfl) (fun b30 => ?_)
 refine St.mem (cs' := [cOwn 44 5 (some ⟨b30, 0, none⟩) (1) (1) (OX [(OpX.mk 0 key A4 c4 data 0 (.slice none 0 0))])]) (fun w hM => hM.toOwn 0 rfl 5 1 1 rfl (by omega) (by unfold maxLen; omega)) ?_
 refine lm ?_
 refine li rfl ?_
 refine opAppendB el_op 0 (OX l) rfl rfl (by kernel_rfl) rfl rfl rfl (OX_length l) (fun w hM => CellsAt.of_row (r1.now hM)) (OX_one hkp) (by omega) (by omega) (((OpX.mk 0 key A4 c4 data 0 (.slice none 0 0)) :: l).length) (by rw [List.length_cons]; omega) (OX ((OpX.mk 0 key A4 c4 data 0 (.slice none 0 0)) :: l)) rfl (fun A32 c32 => ?_)
 refine li rfl ?_
 refine opK0 (fun w hM => (lSmall_any a b A32 c32 ((OpX.mk 0 key A4 c4 data 0 (.slice none 0 0)) :: l) w (hM.keep0 (j := 0) rfl (fun _ h => own3_row h)) (by rw [List.length_cons]; omega)).mono ?_)
 rintro e w' ⟨rfl, hP⟩
 refine ⟨_, _, rfl, hP, ?_⟩; clear hP hM
 refine lc (.bool (!(smallB a b ((OpX.mk 0 key A4 c4 data 0 (.slice none 0 0)) :: l)))) ?_
 refine liNil (qThen ?_)
 refine stCond rfl (fun hc34 => ?_) (fun hc34 => ?_)
 ·refine stSeq ?_
  refine St.to [cOwn 44 5 A32 (((OpX.mk 0 key A4 c4 data 0 (.slice none 0 0)) :: l).length) (c32) (OX ((OpX.mk 0 key A4 c4 data 0 (.slice none 0 0)) :: l))] (by kernel_rfl) ?_
  refine reg ?_
  refine la ?_
  refine liNil (qThen (stRet (qThenR ?_)))
  refine stEnd [(.bool true)] rfl ⟨rfl, trivial⟩ (fun w hM => ?_)
  exact ⟨rfl, hM.pick [] rfl rfl⟩
 ·obtain ⟨hsm0, s1, s2, s3, s4, s5⟩ := smallB_ok (by simpa using hc34)
  rw [List.length_cons] at s5
  obtain ⟨hkl, hdl⟩ := hsm0 _ List.mem_cons_self
  change key.length ≤ 70 at hkl
  change data.length ≤ 400 at hdl
  have hsm : ∀ x ∈ l, x.key.length ≤ 70 ∧ x.data.length ≤ 400 := fun x hx => hsm0 x (List.mem_cons_of_mem _ hx)
  obtain ⟨sz, rfl⟩ : ∃ n : Nat, a = n := ⟨a.toNat, by omega⟩
  obtain ⟨n, rfl⟩ : ∃ n : Nat, b = n := ⟨b.toNat, by omega⟩
  have hD0 : DI sz 0 n [] (List.replicate n (zerosB sz)) := DI_empty (by omega) (by omega) (by omega) (by omega) (by omega)
  refine stSkip (qThen (stSeq (reg ?_)))
  refine lm ?_
  refine lm ?_
  refine li rfl ?_
  refine opK0 (fun w hM => (dNew_any n sz w (by omega) (by omega) (by omega) (by omega)).mono ?_)
  rintro e w' ⟨bd38, X38, rfl, hP⟩
  refine ⟨_, _, rfl, hP, ?_⟩; clear hP hM
  refine lm ?_
  refine lc (vP bd38 0) ?_
  refine lc (.int .i64 0) ?_
  refine la ?_
  refine la ?_
  refine liNil (qThen (stSeq (reg ?_)))
  refine lm ?_
  refine lm ?_
  refine li rfl ?_
  refine opK [1] [cDisk bd38 X38 sz (List.replicate n (zerosB sz)) []] (fun w hM hO => (sOpen_ok bd38 0 n X38 sz (List.replicate n (zerosB sz)) [] 1 w hO (r0.goS hM [1]) (hD0) (fun b hb => (by cases hb)) (⟨by simp, by omega, by omega, by omega, by simp; omega⟩)).mono ?_)
  rintro e w' ⟨bs44, Y44, ol44, rfl, hP, hLR44⟩
  refine ⟨_, [cDisk bd38 X38 sz (List.replicate n (zerosB sz)) []], _, rfl, hP, rfl, ?_⟩; clear hP hM hO
  refine lm ?_
  refine lc (vP bs44 0) ?_
  refine lc (.int .i64 0) ?_
  refine la ?_
  refine la ?_
  refine liNil (qThen (stSeq (stSeq (reg ?_))))
  refine lm ?_
  refine lc (.bool false) ?_
  refine liNil (qThen (stFalse rfl (stSkip (qThen (stSeq (stSeq ?_))))))
  obtain ⟨hl1, hp1⟩ := hLR44
  obtain rfl := hp1.eq_nil
  have hS0 : SI sz 0 n 1 [] (List.replicate n (zerosB sz)) Y44 := ⟨hD0, hl1, by omega, by simp; omega, by omega⟩
  refine reg ?_
  refine lm ?_
  refine lm ?_
  refine lm ?_
  refine li rfl ?_
  refine opK [1, 2] [cDisk bd38 X38 sz (List.replicate n (zerosB sz)) [], cStore bs44 bd38 0 Y44] (fun w hM hO => (sPuts bs44 bd38 0 Y44 X38 sz (List.replicate n (zerosB sz)) n 1 [] key data A4 c4 w hO (r0.goS hM [1, 2]) (r3.goS hM [1, 2]) (hS0) (⟨by omega, by omega⟩) (hc4) (by omega)).mono ?_)
  rintro e w' ⟨X252, secs252, Y252, bl252, rfl, hP, hSI52⟩
  refine ⟨_, [cDisk bd38 X252 sz secs252 [], cStore bs44 bd38 0 Y252], _, rfl, hP, rfl, ?_⟩; clear hP hM hO
  obtain ⟨hS1, hq1⟩ := hSI52
  refine lc (.bool (((((putErr sz Y44 key data) : Nat) : Int) : Int) != 0)) ?_
  refine liNil (qThen ?_)
  refine stCond rfl (fun hc53 => ?_) (fun hc53 => ?_)
  ·obtain rfl : bl252 = [] := by rcases hq1 with ⟨he, _⟩ | ⟨_, e⟩; rw [he] at hc53; cases hc53; exact e
   have hkv : Y252.kv = [] := List.map_eq_nil_iff.1 hS1.l.kv
   refine stSeq (reg ?_)
   refine lm ?_
   refine lm ?_
   refine li rfl ?_
   refine opK0 (fun w hM => (sHas_any bs44 bd38 (vI 0) (vI Y252.us.length) (.int .u64 ((Y252.num : Nat) : Int)) Y252.bm (vL Y252.Au Y252.us (Y252.cu)) (.slice none 0 0) (vI Y252.fr) (.bool false) Y252.kv key w (hM.keep0 (j := 2) rfl (fun _ h => store_at h)) (hM.keep0 (j := 2) rfl (fun _ h => store_map h)) (by omega)).mono ?_)
   rintro e w' ⟨rfl, hP⟩
   refine ⟨_, _, rfl, hP, ?_⟩; clear hP hM
   refine lc (.bool (!(kvGet Y252.kv key).isSome)) ?_
   refine lm ?_
   refine St.known 58 (b' := true) rfl (by rw [hkv]; rfl) ?_
   refine lgm ?_
   refine liGo rfl rfl ?_
   refine opK0 (fun w hM => (sKeys_any bs44 bd38 (vI 0) (vI Y252.us.length) (.int .u64 ((Y252.num : Nat) : Int)) Y252.bm (vL Y252.Au Y252.us (Y252.cu)) (.slice none 0 0) (vI Y252.fr) (.bool false) Y252.kv w (hM.keep0 (j := 2) rfl (fun _ h => store_at h)) (hM.keep0 (j := 2) rfl (fun _ h => store_map h)) (by rw [hkv]; simp)).mono ?_)
   rintro e w' ⟨B60, cb60, rfl, hP⟩
   refine ⟨_, _, rfl, hP, ?_⟩; clear hP hM
   refine lgc (vI ((sortL (kvKeys Y252.kv)).length)) ?_
   refine lgc (.bool (((((sortL (kvKeys Y252.kv)).length : Nat) : Int) : Int) == 0)) ?_
   refine lc (.bool (((((sortL (kvKeys Y252.kv)).length : Nat) : Int) : Int) == 0)) ?_
   refine la ?_
   refine liNil (qThen (stRet (qThenR ?_)))
   refine stEnd [(.bool (((((sortL (kvKeys Y252.kv)).length : Nat) : Int) : Int) == 0))] rfl ⟨rfl, trivial⟩ (fun w hM => ?_)
   exact ⟨by rw [hkv]; simp [sortL, kvKeys]; rfl, hM.pick [] rfl rfl⟩
  ·have hT1 : ThereB true bl252 key data ∧ bl252.length = 1 := by rcases hq1 with ⟨_, xb, e, h1, h2⟩ | ⟨hne, _⟩; subst e; exact ⟨⟨fun _ => ⟨xb, by simp, h1, h2⟩, fun h => by cases h⟩, rfl⟩; exact (hne (by simpa using hc53)).elim
   refine stSkip (qThen (stSeq ?_))
   refine St.to [cOwn 44 5 A32 (((OpX.mk 0 key A4 c4 data 0 (.slice none 0 0)) :: l).length) (c32) (OX ((OpX.mk 0 key A4 c4 data 0 (.slice none 0 0)) :: l)), cDisk bd38 X252 sz secs252 [], cStore bs44 bd38 0 Y252] (by kernel_rfl) ?_
   refine reg ?_
   refine la ?_
   refine liNil (qThen (stSeq (stSeq (reg ?_))))
   refine la ?_
   refine liNil (qThen (stBlock ?_))
   refine St.mem (cs' := [cDisk bd38 X252 sz secs252 [], cStore bs44 bd38 0 Y252]) (fun w hM => hM.pick [1, 2] rfl rfl) ?_
   refine stLoop (ι := Nat × Bool × DX × List Bs × Nat × SX × List Bl) (fun (i, th, X, secs, bs, Y, bl) => i ≤ l.length ∧ SI sz 0 n (i + 2) bl secs Y ∧ bl.length ≤ i + 1 ∧ ThereB th bl key data) (fun (i, th, X, secs, bs, Y, bl) => l.length - i) (fun (i, th, X, secs, bs, Y, bl) => [(1, (vI n)), (2, (vL A l c)), (3, (vS key)), (4, (vL A4 data c4)), (10, (.bool false)), (11, (vP bd38 0)), (13, (vP bs 0)), (15, (.bool th)), (16, (vI i))]) (fun (i, th, X, secs, bs, Y, bl) => [cDisk bd38 X sz secs [], cStore bs bd38 0 Y]) (0, true, X252, secs252, bs44, Y252, bl252) ⟨Nat.zero_le _, hS1, by omega, hT1.1⟩ ⟨rfl, rfl, rfl, rfl, rfl, rfl, rfl, rfl, rfl, trivial⟩ (fun _ h => h) ?_
   rintro ⟨i, th, X, secs, bs, Y, bl⟩ ⟨hi, hS, hbl, hT⟩
   show St _ _ _ [(1, (vI n)), (2, (vL A l c)), (3, (vS key)), (4, (vL A4 data c4)), (10, (.bool false)), (11, (vP bd38 0)), (13, (vP bs 0)), (15, (.bool th)), (16, (vI i))] [cDisk bd38 X sz secs [], cStore bs bd38 0 Y] _
   refine stSeq (stSeq (reg ?_))
   refine lm ?_
   refine lm ?_
   refine lc (vI l.length) ?_
   refine lc (.bool (decide (((i : Nat) : Int) < ((l.length : Nat) : Int)))) ?_
   refine liNil (qThen ?_)
   refine stCond rfl (fun hc67 => ?_) (fun hc67 => ?_)
   ·have hd67 := of_decide_eq_true hc67
    refine stSkip (qThen (stSeq (stBlock ?_)))
    refine stCut (ι := Bool × DX × List Bs × Nat × SX × List Bl) (fun (t9, X9, s9, b9, Y9, l9) => SI sz 0 n (i + 3) l9 s9 Y9 ∧ l9.length ≤ i + 2 ∧ ThereB t9 l9 key data) (fun (t9, X9, s9, b9, Y9, l9) => [(1, (vI n)), (2, (vL A l c)), (3, (vS key)), (4, (vL A4 data c4)), (10, (.bool false)), (11, (vP bd38 0)), (16, (vI i)), (13, (vP b9 0)), (15, (.bool t9))]) (fun (t9, X9, s9, b9, Y9, l9) => [cDisk bd38 X9 sz s9 [], cStore b9 bd38 0 Y9]) ?_ ?_
    ·refine stSeq (reg ?_)
     refine lm ?_
     refine lm ?_
     obtain ⟨x0, hx0⟩ : ∃ ξ, (l)[i]? = some ξ := ⟨_, List.getElem?_eq_getElem (by omega)⟩
     refine St.oxPtr (fun w hM => r1.now hM) hx0 (fun p72 q72 hA72 hc72 => ?_)
     refine lv (v := (vP p72 (q72 + i * 5))) (rIndexRow2 (e := 44) rfl (by kernel_rfl) (by kernel_rfl) rfl rfl hA72 (by omega)) ?_
     have rd := Ro.imp (Ψ := fun w => RowIn w x0.A (B8 x0.data)) r2 (fun w h => h x0 (List.mem_of_getElem? hx0))
     obtain ⟨q1, q2⟩ := hsm x0 (List.mem_of_getElem? hx0)
     have q3 := hcap x0 (List.mem_of_getElem? hx0)
     refine lc (vP p72 (q72 + i * 5)) ?_
     refine lv (v := (.int .i64 x0.kind)) (rLoadW rfl rfl (by kernel_rfl) (fun w hM => hc72 w hM 0 _ rfl)) ?_
     refine liNil (qThen (stBlock (stSeq (reg ?_))))
     refine lc (.bool ((x0.kind : Int) == 0)) ?_
     refine la ?_
     refine liNil (qThen ?_)
     refine stCond rfl (fun hc75 => ?_) (fun hc75 => ?_)
     ·refine stSeq ?_
      refine anyBegin [cDisk bd38 X sz secs [], cStore bs bd38 0 Y] 11 (by kernel_rfl) (fun _ h => h) ?_
      refine am 0 ?_
      refine am 1 ?_
      refine am 2 ?_
      refine Any.oxPtr (fun w hM => r1.now hM) hx0 (fun p80 q80 hA80 hc80 => ?_)
      refine av 3 (vP p80 (q80 + i * 5)) rfl (rIndexRow2 (e := 44) rfl (by kernel_rfl) (by kernel_rfl) rfl rfl hA80 (by omega)) ?_
      refine ac 4 (vP p80 (q80 + i * 5 + 1)) ?_
      refine av 5 (vS x0.key) rfl (rLoadW rfl rfl (by kernel_rfl) (fun w hM => hc80 w hM 1 _ rfl)) ?_
      refine am 6 ?_
      refine am 7 ?_
      refine Any.oxPtr (fun w hM => r1.now hM) hx0 (fun p85 q85 hA85 hc85 => ?_)
      refine av 8 (vP p85 (q85 + i * 5)) rfl (rIndexRow2 (e := 44) rfl (by kernel_rfl) (by kernel_rfl) rfl rfl hA85 (by omega)) ?_
      refine ac 9 (vP p85 (q85 + i * 5 + 2)) ?_
      refine av 10 (vL x0.A x0.data (x0.c)) rfl (rLoadW rfl rfl (by kernel_rfl) (fun w hM => hc85 w hM 2 _ rfl)) ?_
      refine a1 11 ?_
      refine opK [0, 1] [cDisk bd38 X sz secs [], cStore bs bd38 0 Y] (fun w hM hO => (sPuts bs bd38 0 Y X sz secs n (i + 2) bl x0.key x0.data x0.A x0.c w hO (r0.goS hM [0, 1]) (rd.goS hM [0, 1]) (hS) (⟨by omega, by omega⟩) (by omega) (by omega)).mono ?_)
      rintro e w' ⟨X288, secs288, Y288, bl288, rfl, hP, hSI88⟩
      refine ⟨_, [cDisk bd38 X288 sz secs288 [], cStore bs bd38 0 Y288], _, rfl, hP, rfl, ?_⟩; clear hP hM hO
      obtain ⟨hSn, hqn⟩ := hSI88
      refine anyPhase [cDisk bd38 X288 sz secs288 [], cStore bs bd38 0 Y288] 13 rfl (fun _ h => h) ?_
      refine aa 12 ?_
      refine anyDone (by kernel_rfl) ?_
      refine qThen (stSeq (stSeq (reg ?_)))
      refine lm ?_
      refine lm ?_
      refine St.oxPtr (fun w hM => r1.now hM) hx0 (fun p91 q91 hA91 hc91 => ?_)
      refine lv (v := (vP p91 (q91 + i * 5))) (rIndexRow2 (e := 44) rfl (by kernel_rfl) (by kernel_rfl) rfl rfl hA91 (by omega)) ?_
      refine lc (vP p91 (q91 + i * 5 + 1)) ?_
      refine lv (v := (vS x0.key)) (rLoadW rfl rfl (by kernel_rfl) (fun w hM => hc91 w hM 1 _ rfl)) ?_
      refine lm ?_
      refine lv (v := (.bool (decide (x0.key = key)))) (rStrEq rfl rfl rfl) ?_
      refine lm ?_
      refine St.dec 96 rfl (fun hc96 => ?_) (fun hc96 => ?_)
      ·have hd96 := of_decide_eq_true hc96
       refine lgm ?_
       refine lc (.bool th) ?_
       refine lm ?_
       refine St.dec 99 rfl (fun hc99 => ?_) (fun hc99 => ?_)
       ·have hpe5 : putErr sz Y x0.key x0.data = 5 := hT.exists hS hc99 (by simpa using hc96) (by omega)
        obtain ⟨hTn, hln2⟩ := hT.put hqn (.inr (by rw [hpe5]; decide)); have hln : bl288.length ≤ i + 2 := by omega
        refine lgm ?_
        refine lgc (.bool (((((putErr sz Y x0.key x0.data) : Nat) : Int) : Int) != 5)) ?_
        refine lc (.bool (((((putErr sz Y x0.key x0.data) : Nat) : Int) : Int) != 5)) ?_
        refine liNil (qThen ?_)
        refine stFalseK rfl (by rw [hpe5]; rfl) ?_
        refine stSkip (qThen (stSeq (reg ?_)))
        refine lm ?_
        refine lm ?_
        refine St.oxPtr (fun w hM => r1.now hM) hx0 (fun p105 q105 hA105 hc105 => ?_)
        refine lv (v := (vP p105 (q105 + i * 5))) (rIndexRow2 (e := 44) rfl (by kernel_rfl) (by kernel_rfl) rfl rfl hA105 (by omega)) ?_
        refine lc (vP p105 (q105 + i * 5 + 1)) ?_
        refine lv (v := (vS x0.key)) (rLoadW rfl rfl (by kernel_rfl) (fun w hM => hc105 w hM 1 _ rfl)) ?_
        refine lm ?_
        refine lv (v := (.bool (decide (x0.key = key)))) (rStrEq rfl rfl rfl) ?_
        refine lm ?_
        refine St.known 110 (b' := true) rfl (hc96) ?_
        refine lgm ?_
        refine lgc (.bool (!th)) ?_
        refine lc (.bool (!th)) ?_
        refine liNil (qThen ?_)
        refine stFalseK rfl (by rw [hc99]; rfl) ?_
        refine stSkip (qBlock (qThen ?_))
        exact stMeet (th, X288, secs288, bs, Y288, bl288) (⟨hSn, hln, hTn⟩) ⟨rfl, rfl, rfl, rfl, rfl, rfl, rfl, rfl, rfl, trivial⟩ (fun w hM => hM)
       ·refine lnF ?_
        refine lnF ?_
        refine lc (.bool false) ?_
        refine liNil (qThen (stFalse rfl (stSkip (qThen (stSeq (reg ?_))))))
        refine lm ?_
        refine lm ?_
        refine St.oxPtr (fun w hM => r1.now hM) hx0 (fun p105 q105 hA105 hc105 => ?_)
        refine lv (v := (vP p105 (q105 + i * 5))) (rIndexRow2 (e := 44) rfl (by kernel_rfl) (by kernel_rfl) rfl rfl hA105 (by omega)) ?_
        refine lc (vP p105 (q105 + i * 5 + 1)) ?_
        refine lv (v := (vS x0.key)) (rLoadW rfl rfl (by kernel_rfl) (fun w hM => hc105 w hM 1 _ rfl)) ?_
        refine lm ?_
        refine lv (v := (.bool (decide (x0.key = key)))) (rStrEq rfl rfl rfl) ?_
        refine lm ?_
        refine St.known 110 (b' := true) rfl (hc96) ?_
        refine lgm ?_
        refine lgc (.bool (!th)) ?_
        refine lc (.bool (!th)) ?_
        refine liNil (qThen ?_)
        refine stTrueK rfl (by rw [hc99]; rfl) ?_
        refine stSeq (reg ?_)
        refine la ?_
        refine liNil (qThen (stRet (qBlockR (qThenR (qBlockR (qThenR (qThenR (qBlockR (qThenR ?_)))))))))
        refine stEnd [(.bool true)] rfl ⟨rfl, trivial⟩ (fun w hM => ?_)
        exact ⟨rfl, hM.pick [] rfl rfl⟩
      ·have hd96 := of_decide_eq_false hc96
       obtain ⟨hTn, hln2⟩ := hT.put hqn (.inl (by simpa using hc96)); have hln : bl288.length ≤ i + 2 := by omega
       refine lnF ?_
       refine lc (.bool false) ?_
       refine lm ?_
       refine lnF ?_
       refine lnF ?_
       refine lc (.bool false) ?_
       refine liNil (qThen (stFalse rfl (stSkip (qThen (stSeq (reg ?_))))))
       refine lm ?_
       refine lm ?_
       refine St.oxPtr (fun w hM => r1.now hM) hx0 (fun p105 q105 hA105 hc105 => ?_)
       refine lv (v := (vP p105 (q105 + i * 5))) (rIndexRow2 (e := 44) rfl (by kernel_rfl) (by kernel_rfl) rfl rfl hA105 (by omega)) ?_
       refine lc (vP p105 (q105 + i * 5 + 1)) ?_
       refine lv (v := (vS x0.key)) (rLoadW rfl rfl (by kernel_rfl) (fun w hM => hc105 w hM 1 _ rfl)) ?_
       refine lm ?_
       refine lv (v := (.bool (decide (x0.key = key)))) (rStrEq rfl rfl rfl) ?_
       refine lm ?_
       refine St.known 110 (b' := false) rfl (hc96) ?_
       refine lnF ?_
       refine lnF ?_
       refine lc (.bool false) ?_
       refine liNil (qThen (stFalse rfl (stSkip (qBlock (qThen ?_)))))
       exact stMeet (th, X288, secs288, bs, Y288, bl288) (⟨hSn, hln, hTn⟩) ⟨rfl, rfl, rfl, rfl, rfl, rfl, rfl, rfl, rfl, trivial⟩ (fun w hM => hM)
     ·refine stSeq (reg ?_)
      refine lc (.bool ((x0.kind : Int) == 1)) ?_
      refine la ?_
      refine liNil (qThen ?_)
      refine stCond rfl (fun hc114 => ?_) (fun hc114 => ?_)
      ·refine stSeq (reg ?_)
       refine lm ?_
       refine lm ?_
       refine lm ?_
       refine St.oxPtr (fun w hM => r1.now hM) hx0 (fun p119 q119 hA119 hc119 => ?_)
       refine lv (v := (vP p119 (q119 + i * 5))) (rIndexRow2 (e := 44) rfl (by kernel_rfl) (by kernel_rfl) rfl rfl hA119 (by omega)) ?_
       refine lc (vP p119 (q119 + i * 5 + 1)) ?_
       refine lv (v := (vS x0.key)) (rLoadW rfl rfl (by kernel_rfl) (fun w hM => hc119 w hM 1 _ rfl)) ?_
       refine li rfl ?_
       refine opK [0, 1] [cDisk bd38 X sz secs [], cStore bs bd38 0 Y] (fun w hM hO => (sDels bs bd38 0 Y X sz secs n (i + 2) bl x0.key w hO (hS) (by omega)).mono ?_)
       rintro e w' ⟨X2122, secs2122, Y2122, bl2122, rfl, hP, hSI122⟩
       refine ⟨_, [cDisk bd38 X2122 sz secs2122 [], cStore bs bd38 0 Y2122], _, rfl, hP, rfl, ?_⟩; clear hP hM hO
       obtain ⟨hSn0, hqn⟩ := hSI122
       have hSn := hSn0.mono (M' := i + 3) (by omega) (by omega)
       refine la ?_
       refine liNil (qThen (stSeq (reg ?_)))
       refine lm ?_
       refine lm ?_
       refine St.oxPtr (fun w hM => r1.now hM) hx0 (fun p125 q125 hA125 hc125 => ?_)
       refine lv (v := (vP p125 (q125 + i * 5))) (rIndexRow2 (e := 44) rfl (by kernel_rfl) (by kernel_rfl) rfl rfl hA125 (by omega)) ?_
       refine lc (vP p125 (q125 + i * 5 + 1)) ?_
       refine lv (v := (vS x0.key)) (rLoadW rfl rfl (by kernel_rfl) (fun w hM => hc125 w hM 1 _ rfl)) ?_
       refine lm ?_
       refine lv (v := (.bool (decide (x0.key = key)))) (rStrEq rfl rfl rfl) ?_
       refine liNil (qThen ?_)
       refine stCond rfl (fun hc129 => ?_) (fun hc129 => ?_)
       ·have hd129 := of_decide_eq_true hc129
        obtain ⟨hde, hTn, hln2⟩ := hT.delKey hS hqn (by simpa using hc129); have hln : bl2122.length ≤ i + 2 := by omega
        refine stSeq (stSeq (reg ?_))
        refine lm ?_
        refine lc (.bool (((((delErr Y x0.key) : Nat) : Int) : Int) == 0)) ?_
        refine lm ?_
        refine lc (.bool !((((((delErr Y x0.key) : Nat) : Int) : Int) == 0) == th)) ?_
        refine liNil (qThen ?_)
        refine stFalseK rfl (by rw [hde]; cases th <;> rfl) ?_
        refine stSkip (qThen (reg ?_))
        refine la ?_
        refine liNil (qBlock (qThen ?_))
        exact stMeet (false, X2122, secs2122, bs, Y2122, bl2122) (⟨hSn, hln, hTn⟩) ⟨rfl, rfl, rfl, rfl, rfl, rfl, rfl, rfl, rfl, trivial⟩ (fun w hM => hM)
       ·have hd129 := of_decide_eq_false hc129
        obtain ⟨hTn, hln2⟩ := hT.del hqn (by simpa using hc129); have hln : bl2122.length ≤ i + 2 := by omega
        refine stSkip (qBlock (qThen ?_))
        exact stMeet (th, X2122, secs2122, bs, Y2122, bl2122) (⟨hSn, hln, hTn⟩) ⟨rfl, rfl, rfl, rfl, rfl, rfl, rfl, rfl, rfl, trivial⟩ (fun w hM => hM)
      ·refine stSeq (stSeq (reg ?_))
       refine lc (.bool ((x0.kind : Int) == 4)) ?_
       refine la ?_
       refine liNil (qThen ?_)
       refine stCond rfl (fun hc134 => ?_) (fun hc134 => ?_)
       ·refine stSkip (qThen ?_)
        refine stTrueK rfl (hc134) ?_
        refine stSeq (stSeq (reg ?_))
        refine lm ?_
        refine lm ?_
        refine St.oxPtr (fun w hM => r1.now hM) hx0 (fun p139 q139 hA139 hc139 => ?_)
        refine lv (v := (vP p139 (q139 + i * 5))) (rIndexRow2 (e := 44) rfl (by kernel_rfl) (by kernel_rfl) rfl rfl hA139 (by omega)) ?_
        refine lc (vP p139 (q139 + i * 5)) ?_
        refine lv (v := (.int .i64 x0.kind)) (rLoadW rfl rfl (by kernel_rfl) (fun w hM => hc139 w hM 0 _ rfl)) ?_
        refine lc (.bool ((x0.kind : Int) == 4)) ?_
        refine liNil (qThen ?_)
        refine stTrueK rfl (hc134) ?_
        refine anyBegin [cDisk bd38 X sz secs [], cStore bs bd38 0 Y] 11 (by kernel_rfl) (fun _ h => h) ?_
        refine am 0 ?_
        refine am 1 ?_
        refine am 2 ?_
        refine Any.oxPtr (fun w hM => r1.now hM) hx0 (fun p146 q146 hA146 hc146 => ?_)
        refine av 3 (vP p146 (q146 + i * 5)) rfl (rIndexRow2 (e := 44) rfl (by kernel_rfl) (by kernel_rfl) rfl rfl hA146 (by omega)) ?_
        refine ac 4 (vP p146 (q146 + i * 5 + 4)) ?_
        refine av 5 x0.keep rfl (rLoadW rfl rfl (by kernel_rfl) (fun w hM => hc146 w hM 4 _ rfl)) ?_
        refine am 6 ?_
        refine am 7 ?_
        refine Any.oxPtr (fun w hM => r1.now hM) hx0 (fun p151 q151 hA151 hc151 => ?_)
        refine av 8 (vP p151 (q151 + i * 5)) rfl (rIndexRow2 (e := 44) rfl (by kernel_rfl) (by kernel_rfl) rfl rfl hA151 (by omega)) ?_
        refine ac 9 (vP p151 (q151 + i * 5 + 3)) ?_
        refine av 10 (.int .i64 x0.n) rfl (rLoadW rfl rfl (by kernel_rfl) (fun w hM => hc151 w hM 3 _ rfl)) ?_
        refine a1 11 ?_
        refine opK [0] [cDisk bd38 X sz secs []] (fun w hM hO => (dCrash_any bd38 X sz secs x0.keep x0.n w hO).mono ?_)
        rintro e w' ⟨X2154, rfl, hP⟩
        refine ⟨_, [cDisk bd38 X2154 sz secs []], _, rfl, hP, rfl, ?_⟩; clear hP hM hO
        refine anyLast (by kernel_rfl) rfl ?_
        refine qThen (stSeq ?_)
        refine St.to [cDisk bd38 X2154 sz secs [], cStore bs bd38 0 Y] (by kernel_rfl) ?_
        refine reg ?_
        refine lm ?_
        refine lm ?_
        refine li rfl ?_
        refine opK [0] [cDisk bd38 X2154 sz secs []] (fun w hM hO => (sOpen_ok bd38 0 n X2154 sz secs bl (i + 2) w hO (r0.goS hM [0]) (hS.d) (fun b hb => by have h1 := hS.l.num b hb; have h2 := hS.l.nm; omega) (⟨by omega, by omega, by omega, hS.n1, hS.s⟩)).mono ?_)
        rintro e w' ⟨bs158, Y158, ol158, rfl, hP, hLR158⟩
        refine ⟨_, [cDisk bd38 X2154 sz secs []], _, rfl, hP, rfl, ?_⟩; clear hP hM hO
        obtain ⟨hl5, hp5⟩ := hLR158
        have hSn : SI sz 0 n (i + 3) ol158 secs Y158 := ⟨hS.d.perm hp5, hl5.mono (by omega), by omega, hS.s, hS.n1⟩
        have hln : ol158.length ≤ i + 2 := by rw [hp5.length_eq]; omega
        have hTn := hT.perm hp5
        refine lm ?_
        refine lc (vP bs158 0) ?_
        refine lc (.int .i64 0) ?_
        refine la ?_
        refine la ?_
        refine liNil (qThen (stSeq (stSeq (reg ?_))))
        refine lm ?_
        refine lc (.bool false) ?_
        refine liNil (qThen (stFalse rfl (stSkip (qThen (reg ?_)))))
        refine lm ?_
        refine la ?_
        refine liNil (qBlock (qThen ?_))
        exact stMeet (th, X2154, secs, bs158, Y158, ol158) (⟨hSn, hln, hTn⟩) ⟨rfl, rfl, rfl, rfl, rfl, rfl, rfl, rfl, rfl, trivial⟩ (fun w hM => (hM.pick [0, 2] rfl rfl))
       ·refine reg ?_
        refine lc (.bool ((x0.kind : Int) == 5)) ?_
        refine la ?_
        refine liNil (qThen ?_)
        refine stCond rfl (fun hc134 => ?_) (fun hc134 => ?_)
        ·refine stSeq (stSeq (reg ?_))
         refine lm ?_
         refine lm ?_
         refine St.oxPtr (fun w hM => r1.now hM) hx0 (fun p139 q139 hA139 hc139 => ?_)
         refine lv (v := (vP p139 (q139 + i * 5))) (rIndexRow2 (e := 44) rfl (by kernel_rfl) (by kernel_rfl) rfl rfl hA139 (by omega)) ?_
         refine lc (vP p139 (q139 + i * 5)) ?_
         refine lv (v := (.int .i64 x0.kind)) (rLoadW rfl rfl (by kernel_rfl) (fun w hM => hc139 w hM 0 _ rfl)) ?_
         refine lc (.bool ((x0.kind : Int) == 4)) ?_
         refine liNil (qThen ?_)
         refine stFalseK rfl (by rw [show x0.kind = 5 from by simpa using hc134]; rfl) ?_
         refine stSkip (qThen (stSeq (reg ?_)))
         refine lm ?_
         refine lm ?_
         refine li rfl ?_
         refine opK [0] [cDisk bd38 X sz secs []] (fun w hM hO => (sOpen_ok bd38 0 n X sz secs bl (i + 2) w hO (r0.goS hM [0]) (hS.d) (fun b hb => by have h1 := hS.l.num b hb; have h2 := hS.l.nm; omega) (⟨by omega, by omega, by omega, hS.n1, hS.s⟩)).mono ?_)
         rintro e w' ⟨bs158, Y158, ol158, rfl, hP, hLR158⟩
         refine ⟨_, [cDisk bd38 X sz secs []], _, rfl, hP, rfl, ?_⟩; clear hP hM hO
         obtain ⟨hl5, hp5⟩ := hLR158
         have hSn : SI sz 0 n (i + 3) ol158 secs Y158 := ⟨hS.d.perm hp5, hl5.mono (by omega), by omega, hS.s, hS.n1⟩
         have hln : ol158.length ≤ i + 2 := by rw [hp5.length_eq]; omega
         have hTn := hT.perm hp5
         refine lm ?_
         refine lc (vP bs158 0) ?_
         refine lc (.int .i64 0) ?_
         refine la ?_
         refine la ?_
         refine liNil (qThen (stSeq (stSeq (reg ?_))))
         refine lm ?_
         refine lc (.bool false) ?_
         refine liNil (qThen (stFalse rfl (stSkip (qThen (reg ?_)))))
         refine lm ?_
         refine la ?_
         refine liNil (qBlock (qThen ?_))
         exact stMeet (th, X, secs, bs158, Y158, ol158) (⟨hSn, hln, hTn⟩) ⟨rfl, rfl, rfl, rfl, rfl, rfl, rfl, rfl, rfl, trivial⟩ (fun w hM => (hM.pick [0, 2] rfl rfl))
        ·refine stSkip (qBlock (qThen ?_))
         have hSn := hS.mono (M' := i + 3) (by omega) (by omega); have hln : bl.length ≤ i + 2 := (by omega); have hTn := hT
         exact stMeet (th, X, secs, bs, Y, bl) (⟨hSn, hln, hTn⟩) ⟨rfl, rfl, rfl, rfl, rfl, rfl, rfl, rfl, rfl, trivial⟩ (fun w hM => hM)
    ·rintro ⟨t9, X9, s9, b9, Y9, l9⟩ ⟨hS9, hl9, hT9⟩
     show St _ _ _ [(1, (vI n)), (2, (vL A l c)), (3, (vS key)), (4, (vL A4 data c4)), (10, (.bool false)), (11, (vP bd38 0)), (16, (vI i)), (13, (vP b9 0)), (15, (.bool t9))] [cDisk bd38 X9 sz s9 [], cStore b9 bd38 0 Y9] _
     refine stSeq ?_
     cases t9 with
     | true =>
       obtain ⟨xb, hb1, hb2, hb3⟩ := hT9.1 rfl
       have hhs : (kvGet Y9.kv key).isSome = true := by cases h : kvGet Y9.kv key with | none => exact (hS9.l.none.1 h xb hb1 hb2).elim | some v => rfl
       refine reg ?_
       refine lm ?_
       refine lm ?_
       refine li rfl ?_
       refine opK [0, 1] [cDisk bd38 X9 sz s9 [], cStore b9 bd38 0 Y9] (fun w hM hO => (sGetP b9 bd38 0 Y9 X9 sz s9 n (i + 3) l9 key xb w hO (r0.goS hM [0, 1]) (hS9) (⟨hb1, hb2⟩)).mono ?_)
       rintro e w' ⟨B167, cb167, rfl, hP⟩
       refine ⟨_, [cDisk bd38 X9 sz s9 [], cStore b9 bd38 0 Y9], _, rfl, hP, rfl, ?_⟩; clear hP hM hO
       refine lm ?_
       refine lc (vL B167 xb.data cb167) ?_
       refine lc (.int .i64 0) ?_
       refine la ?_
       refine la ?_
       refine liNil (qThen (stSeq (reg ?_)))
       refine lm ?_
       refine lm ?_
       refine lgm ?_
       refine lgc (.bool false) ?_
       refine lgm ?_
       refine lgm ?_
       refine lgv (v := (vS xb.data)) (rStr (e := 5) xb.data rfl (by kernel_rfl) (by kernel_rfl) (by kernel_rfl) rfl rfl (fun w hM => cRw_row (hM.at (i := 2) rfl))) ?_
       refine lgm ?_
       refine lgv (v := (vS data)) (rStr (e := 5) data rfl (by kernel_rfl) (by kernel_rfl) (by kernel_rfl) rfl rfl (fun w hM => r3.now hM)) ?_
       refine lgv (v := (.bool (!decide (xb.data = data)))) (rStrNe rfl rfl rfl) ?_
       refine lgc (.bool (!decide (xb.data = data))) ?_
       refine lc (.bool (!decide (xb.data = data))) ?_
       refine lm ?_
       refine St.known 182 (b' := false) rfl (by rw [hb3]; simp) ?_
       refine lgm ?_
       refine lgc (.bool false) ?_
       refine lgm ?_
       refine lnF ?_
       refine lnF ?_
       refine lgc (.bool false) ?_
       refine lc (.bool false) ?_
       refine lm ?_
       refine lgm ?_
       refine lgm ?_
       refine liGo rfl rfl ?_
       refine opK0 (fun w hM => (sHas_any b9 bd38 (vI 0) (vI Y9.us.length) (.int .u64 ((Y9.num : Nat) : Int)) Y9.bm (vL Y9.Au Y9.us (Y9.cu)) (.slice none 0 0) (vI Y9.fr) (.bool false) Y9.kv key w (hM.keep0 (j := 1) rfl (fun _ h => store_at h)) (hM.keep0 (j := 1) rfl (fun _ h => store_map h)) (by omega)).mono ?_)
       rintro e w' ⟨rfl, hP⟩
       refine ⟨_, _, rfl, hP, ?_⟩; clear hP hM
       refine lgm ?_
       refine lgc (.bool !((kvGet Y9.kv key).isSome == true)) ?_
       refine lc (.bool !((kvGet Y9.kv key).isSome == true)) ?_
       refine liNil (qThen ?_)
       refine stFalseK rfl (by rw [hhs]; rfl) ?_
       refine stSkip (qBlock (qThen (reg ?_)))
       refine lm ?_
       refine lv (v := (vI (i + 1))) (rAdd _ rfl rfl rfl (by omega) (by omega) (by omega)) ?_
       refine la ?_
       refine liNil (qThen ?_)
       exact stAgain (i + 1, true, X9, s9, b9, Y9, l9) (⟨by omega, hS9, by omega, hT9⟩) (by show l.length - (i + 1) < l.length - i; omega) ⟨rfl, rfl, rfl, rfl, rfl, rfl, rfl, rfl, rfl, trivial⟩ (fun w hM => (hM.pick [0, 1] rfl rfl))
     | false =>
       have hhs : (kvGet Y9.kv key).isSome = false := by rw [hS9.l.none.2 (hT9.2 rfl)]; rfl
       refine reg ?_
       refine lm ?_
       refine lm ?_
       refine li rfl ?_
       refine opK [0, 1] [cDisk bd38 X9 sz s9 [], cStore b9 bd38 0 Y9] (fun w hM hO => (sGetN b9 bd38 0 Y9 X9 sz s9 n (i + 3) l9 key w hO (hS9) (hT9.2 rfl) (by omega)).mono ?_)
       rintro e w' ⟨rfl, hP⟩
       refine ⟨_, [cDisk bd38 X9 sz s9 [], cStore b9 bd38 0 Y9], _, rfl, hP, rfl, ?_⟩; clear hP hM hO
       refine lm ?_
       refine lc (.slice none 0 0) ?_
       refine lc (.int .i64 4) ?_
       refine la ?_
       refine la ?_
       refine liNil (qThen (stSeq (reg ?_)))
       refine lm ?_
       refine lm ?_
       refine lnF ?_
       refine lnF ?_
       refine lnF ?_
       refine lnU ?_
       refine lnU ?_
       refine lnU ?_
       refine lnU ?_
       refine lnU ?_
       refine lnF ?_
       refine lc (.bool false) ?_
       refine lm ?_
       refine lgm ?_
       refine lgc (.bool true) ?_
       refine lgm ?_
       refine lgm ?_
       refine lgc (.bool false) ?_
       refine lgc (.bool false) ?_
       refine lc (.bool false) ?_
       refine lm ?_
       refine lgm ?_
       refine lgm ?_
       refine liGo rfl rfl ?_
       refine opK0 (fun w hM => (sHas_any b9 bd38 (vI 0) (vI Y9.us.length) (.int .u64 ((Y9.num : Nat) : Int)) Y9.bm (vL Y9.Au Y9.us (Y9.cu)) (.slice none 0 0) (vI Y9.fr) (.bool false) Y9.kv key w (hM.keep0 (j := 1) rfl (fun _ h => store_at h)) (hM.keep0 (j := 1) rfl (fun _ h => store_map h)) (by omega)).mono ?_)
       rintro e w' ⟨rfl, hP⟩
       refine ⟨_, _, rfl, hP, ?_⟩; clear hP hM
       refine lgm ?_
       refine lgc (.bool !((kvGet Y9.kv key).isSome == false)) ?_
       refine lc (.bool !((kvGet Y9.kv key).isSome == false)) ?_
       refine liNil (qThen ?_)
       refine stFalseK rfl (by rw [hhs]; rfl) ?_
       refine stSkip (qBlock (qThen (reg ?_)))
       refine lm ?_
       refine lv (v := (vI (i + 1))) (rAdd _ rfl rfl rfl (by omega) (by omega) (by omega)) ?_
       refine la ?_
       refine liNil (qThen ?_)
       exact stAgain (i + 1, false, X9, s9, b9, Y9, l9) (⟨by omega, hS9, by omega, hT9⟩) (by show l.length - (i + 1) < l.length - i; omega) ⟨rfl, rfl, rfl, rfl, rfl, rfl, rfl, rfl, rfl, trivial⟩ (fun w hM => hM)
   ·have hd67 := of_decide_eq_false hc67
    refine stExit (qThenX (qThenX (qBlockX (qThen (stSeq (reg ?_))))))
    refine la ?_
    refine liNil (qThen (stRet ?_))
    refine stEnd [(.bool true)] rfl ⟨rfl, trivial⟩ (fun w hM => ?_)
    exact ⟨rfl, hM.pick [] rfl rfl⟩
end Go.Proofs.YtaiggifiefnjnaaGreatDoor
namespace Go.Proofs.YtaiggifiefnjnaaGreatDoor
open Go.ChangeShapes Go.WideShapes Go.ChangeAt Go.RowKit
theorem trodAll_stays {H : Type} {enc : TypeId × Value → H} {P : Program} (hl : laidOutB P = true) {W W' : World} (hb : Below W.heap.size W W') :
  ∀ (ts : List TypeId) (vs : List Value) (ds : List (DataW H)) (ps : List MemPlace), (∀ t ∈ ts, P.readableRec t = true ∧ t < P.types.size) → (∀ p ∈ ps, p.block < W.heap.size) →
    DataW.TrodAll enc P W 0 (fun _ => true) true ts vs ds ps → DataW.TrodAll enc P W' 0 (fun b => decide (b < W.heap.size)) true ts vs ds ps := by
 intro ts
 induction ts with
 | nil =>
   intro vs ds ps _ _ h
   obtain ⟨rfl, rfl, rfl⟩ := trodAll_nil h
   exact trodAll_mk0
 | cons t ts ih =>
   intro vs ds ps hr hp h
   obtain ⟨v, vs', d, ds', p, q, rfl, rfl, rfl, h1, h2⟩ := trodAll_cons h
   refine trodAll_cons_mk (WideElems.Trod_stays hl (hr t (by simp)).1 (hr t (by simp)).2 h1 (fun x hx => hb.same (hp x (by simp [hx]))) (fun x hx => by simpa using hp x (by simp [hx]))) (ih vs' ds' q (fun t ht => hr t (by simp [ht])) (fun x hx => hp x (by simp [hx])) h2)
theorem post_law {H : Type} {enc : TypeId × Value → H} {P : Program} {f : Func} {s : ChangeSpec} {W W' : World} {args : Array Value} {ds gs : List (DataW H)} {before : List MemPlace}
  (hl : laidOutB P = true) (hr : f.params.toList.all (fun t => P.readableRec t && decide (t < P.types.size)) = true) (hv : s.vars = [])
  (hW : DataW.Whole enc P f.params.toList s.vars false W args.toList ds gs before)
  (hs : (s.fn H ds).results = [.lit (.bool true)] ∧ (s.fn H ds).args = ds ∧ (s.fn H ds).vars = [])
  (hres : ∀ (b : Nat), DataW.TrodAll enc P W' b (fun _ => false) false f.resultTypes.toList ((Value.bool true).resultList f.resultTypes.size) [.lit (.bool true)] [])
  (hb : Below W.heap.size W W') : s.post enc P f false true false false W args (.bool true) W' := by
 have hlt : ∀ p ∈ before, p.block < W.heap.size := fun p hp => hW.lt p hp
 obtain ⟨p, q, hA, hV, rfl, hfz, hnd⟩ := id hW
 rw [hv] at hV
 obtain ⟨rfl, rfl⟩ := trodVars_none hV
 have hA' := trodAll_stays hl hb f.params.toList args.toList ds p (fun t ht => by
  have := List.all_eq_true.1 hr t ht
  simpa using this) (fun x hx => hlt x (by simp [hx])) hA
 refine ⟨ds, [], p ++ [], [], p, [], hW, ?_, ?_, ?_, ?_, fun h => by cases h⟩
 ·rw [List.append_nil, hs.1]; exact hres _
 ·rw [List.append_nil, hs.2.1]; exact hA'
 ·rw [List.append_nil, hs.2.2, hv]; rfl
 ·exact hb.frame _
end Go.Proofs.YtaiggifiefnjnaaGreatDoor
namespace Go.Proofs.YtaiggifiefnjnaaGreatDoor
open Go.ChangeShapes Go.WideShapes Go.ChangeAt Go.RowKit
theorem wf_i64 {n : Int} (h : (Lit.int .i64 n).wf = true) : -9223372036854775808 ≤ n ∧ n ≤ 9223372036854775807 := by
 simpa [Lit.wf, IntKind.min, IntKind.max, IntKind.signed, IntKind.bits] using h
theorem wf_u8 {n : Int} (h : (Lit.int .u8 n).wf = true) : 0 ≤ n ∧ n ≤ 255 := by
 simpa [Lit.wf, IntKind.min, IntKind.max, IntKind.signed, IntKind.bits] using h
theorem spot_none {w : World} {a : Addr} {v : Value} (h : w.cell? a = some v) : a.spot = none := by
 unfold World.cell? at h
 split at h
 ·split at h
  ·cases h
  ·rename_i hs
   cases he : a.spot with
   | none => rfl
   | some x => rw [he] at hs; exact absurd rfl hs
 ·cases h
theorem addr_add (b o j : Nat) : (⟨b, o, none⟩ : Addr).add j = ⟨b, o + j, none⟩ := by
 unfold Addr.add
 split
 ·simp_all
 ·rfl
theorem cell_lt {w : World} {b o : Nat} {v : Value} (h : w.cell? ⟨b, o, none⟩ = some v) : b < w.heap.size := World.block_lt_of_cell? w ⟨b, o, none⟩ h
section
variable {H : Type} {enc : TypeId × Value → H} {P : Program} {W : World}
theorem open_rows {t e : TypeId} {base : Nat} {v : Value} {d : DataW H} {p : List MemPlace} (C : Nat) (hC0 : 0 < C) (ht : P.underlying t = some (.slice e)) (hC : P.cellsOf e = C) (hv : Value.okWide P W .any base t v)
  (h : DataW.Trod enc P W 0 (fun _ => true) true t v d p) :
  ∃ (A : Option Addr) (n cap : Nat), v = .slice A n cap ∧ n ≤ cap ∧ cap ≤ maxLen ∧
    (0 < n → ∃ b o, A = some ⟨b, o, none⟩ ∧ b < W.heap.size ∧ ∀ i, i < n → ∃ (cs : List Value) (f : Nat) (x : DataW H × List MemPlace), cs.length = C ∧ (∀ j, j < C → W.cell? ⟨b, o + i * C + j, none⟩ = cs[j]?) ∧ DataW.trod enc P W 0 (fun _ => true) true f e cs = some x) := by
 obtain ⟨A, n, cap, rfl⟩ := okWide_slice ht hv
 obtain ⟨f, hf⟩ := h
 rcases Go.Deep.open_slice ht (by simpa [Value.cells] using hf) with ⟨h0, _⟩ | ⟨a, len, cap', m, n', D, Pl, hcs, _, hl, hm, hmm, _, hi⟩
 ·simp only [List.cons.injEq, Value.slice.injEq, and_true] at h0
  obtain ⟨rfl, rfl, rfl⟩ := h0
  exact ⟨none, 0, 0, rfl, Nat.le_refl _, Nat.zero_le _, fun h => absurd h (by omega)⟩
 ·simp only [List.cons.injEq, Value.slice.injEq, and_true] at hcs
  obtain ⟨rfl, rfl, rfl⟩ := hcs
  simp only [if_true] at hmm
  have hrow : ∀ i, i < n → ∃ (cs : List Value) (x : DataW H × List MemPlace), cs.length = C ∧ (∀ j, j < C → W.cell? ((a.add (i * C)).add j) = cs[j]?) ∧ DataW.trod enc P W 0 (fun _ => true) true n' e cs = some x := by
   intro i hin
   obtain ⟨cs', hc, ht'⟩ := hi i (by omega)
   rw [hC] at hc
   obtain ⟨_, hcl, hat⟩ := World.cells?_some hc
   exact ⟨cs', _, hcl, hat, ht'⟩
  refine ⟨_, n, cap, rfl, hl, hm, fun hn => ?_⟩
  obtain ⟨cs, x, hcl, hat, _⟩ := hrow 0 hn
  have h0 := hat 0 hC0
  rw [Nat.zero_mul, List.getElem?_eq_getElem (by omega)] at h0
  have ha0 : (a.add 0).add 0 = a := by unfold Addr.add; simp
  rw [ha0] at h0
  obtain ⟨b, o, s⟩ := a
  have hs := spot_none h0
  simp only at hs
  subst hs
  refine ⟨b, o, rfl, cell_lt h0, fun i hin => ?_⟩
  obtain ⟨cs, x, hcl, hat, ht'⟩ := hrow i hin
  refine ⟨cs, n', x, hcl, fun j hj => ?_, ht'⟩
  have := hat j hj
  rwa [addr_add, addr_add] at this
end
end Go.Proofs.YtaiggifiefnjnaaGreatDoor
namespace Go.Proofs.YtaiggifiefnjnaaGreatDoor
open Go.ChangeShapes Go.WideShapes Go.ChangeAt Go.RowKit
theorem gInit : Tryz.prog.globalNamed "kinkeep/sha256.initial" = some 0 := by kernel_rfl
theorem gCons : Tryz.prog.globalNamed "kinkeep/sha256.constants" = some 1 := by kernel_rfl
theorem tInit : (Tryz.prog.globals[0]?).map (·.type) = some 118 := by kernel_rfl
theorem tCons : (Tryz.prog.globals[1]?).map (·.type) = some 134 := by kernel_rfl
def laid2 : List (String × DataW Unit) := [("kinkeep/sha256.initial", Rows.laid_kinkeep_sha256_initial), ("kinkeep/sha256.constants", Rows.laid_kinkeep_sha256_constants)]
theorem door_met (os : Os) (args : Array Value) : laidMetH Tryz.prog laid2 ((World.doorLaid Tryz.prog 400 os).forCall (fun _ _ => 0) ⟨#[], args, []⟩).memory :=
 laidMetH_of_parts3 (fuel := 8) (laidMet_of_run' 8 (by kernel_rfl) (by kernel_rfl)) (by kernel_rfl) (by kernel_rfl)
theorem words_trod {enc : TypeId × Value → Unit} {W : World} {base : Nat} {spare : Nat → Bool} {held : Bool} {fuel : Nat} {t : TypeId} {n : Nat} {cs : List Value} {l : List Nat} {ps : List MemPlace} (ht : Tryz.prog.underlying t = some (.array n 117)) (h : DataW.trod enc Tryz.prog W base spare held fuel t cs = some (.agg (l.map fun k : Nat => DataW.lit (Lit.int .u32 (k : Int))), ps)) :
  ∀ i x : Nat, l[i]? = some x → cs[i]? = some (.int .u32 (x : Int)) := by
 obtain ⟨xs, m, _, hx, _, hn, hel⟩ := DataW.trod_array ht h
 simp only [Prod.mk.injEq, DataW.agg.injEq] at hx
 have hc : Tryz.prog.cellsOf 117 = 1 := by kernel_rfl
 intro i x hi
 have hl : l.length = n := by
  have := congrArg List.length hx.1
  simp at this
  omega
 have hin : i < n := by rw [← hl]; exact (List.getElem?_eq_some_iff.1 hi).1
 have h1 := hel i hin
 rw [List.getElem?_eq_getElem (by omega)] at h1
 obtain ⟨k, e1, e2, _⟩ := DataW.trod_int Tryz.underlying117 h1
 have h2 := congrArg (fun z => z[i]?) hx.1
 simp only [List.getElem?_map, hi, Option.map_some] at h2
 rw [List.getElem?_eq_getElem (by omega)] at h2
 simp only [Option.map_some, Option.some.injEq] at h2
 rw [e2] at h2
 simp only [DataW.lit.injEq, Lit.int.injEq, true_and] at h2
 rw [hc, Nat.mul_one] at e1
 have h3 : (List.take 1 (List.drop i cs))[0]? = some (.int .u32 k) := by rw [e1]; rfl
 rw [List.getElem?_take_of_lt (by omega), List.getElem?_drop, Nat.add_zero] at h3
 rw [h3, h2]
theorem vars_of_laid {W : World} (h : laidMetH Tryz.prog laid2 W) : Vars W := by
 rw [MakeChecks.laidMetH_plain _ _ _ (by kernel_rfl)] at h
 obtain ⟨ps, ⟨g0, t0, cs0, f0, p0, q0, hg0, ht0, hv0, hd0, ⟨g1, t1, cs1, f1, p1, q1, hg1, ht1, hv1, hd1, _, _⟩, _⟩, _, _⟩ := h
 obtain rfl := Option.some.inj (gInit.symm.trans hg0)
 obtain rfl := Option.some.inj (gCons.symm.trans hg1)
 obtain rfl := Option.some.inj (tInit.symm.trans ht0)
 obtain rfl := Option.some.inj (tCons.symm.trans ht1)
 refine ⟨fun i x hx => ?_, fun i x hx => ?_⟩
 ·rw [World.var?_cell hg0 hv0 i]
  have := words_trod (l := shaI) Tryz.underlying118 hd0 i x hx
  simpa using this
 ·rw [World.var?_cell hg1 hv1 i]
  have := words_trod (l := shaK) Tryz.underlying134 hd1 i x hx
  simpa using this
theorem str_eta (s : ByteArray) : s = strOf s.data.toList := by
 cases s
 simp [strOf]
end Go.Proofs.YtaiggifiefnjnaaGreatDoor
namespace Go.Proofs.YtaiggifiefnjnaaGreatDoor
open Go.ChangeShapes Go.WideShapes Go.ChangeAt Go.RowKit
section
variable {H : Type} {enc : TypeId × Value → H} {P : Program} {W : World}
theorem open_u8 {e u : TypeId} {f : Nat} {c : Value} {x : DataW H × List MemPlace} (he : P.underlying e = some (.slice u)) (hu : P.underlying u = some (.int .u8)) (hC : P.cellsOf u = 1)
  (h : DataW.trod enc P W 0 (fun _ => true) true f e [c] = some x) : ∃ (A : Option Addr) (cap : Nat) (bs : List UInt8), c = .slice A bs.length cap ∧ RowIn W A (B8 bs) ∧ bs.length ≤ cap := by
 rcases Go.Deep.open_slice he h with ⟨h0, _⟩ | ⟨a, len, cap, m, n, D, Pl, hcs, _, hl, hm, hmm, _, hi⟩
 ·simp only [List.cons.injEq, and_true] at h0
  exact ⟨none, 0, [], h0, (fun i u hu => by simp [B8] at hu), Nat.le_refl _⟩
 ·simp only [List.cons.injEq, and_true] at hcs
  simp only [if_true] at hmm
  have hx : ∀ i, i < len → ∃ y : UInt8, W.cell? (a.add i) = some (.int .u8 ((y.toNat : Nat) : Int)) := by
   intro i hin
   obtain ⟨cs', hc, ht⟩ := hi i (by omega)
   rw [hC, Nat.mul_one] at hc
   obtain ⟨_, hcl, hat⟩ := World.cells?_some hc
   match cs', hcl with
   | [y], _ =>
     obtain ⟨z, hz, _, wz⟩ := DataW.trod_int hu ht
     have h0 := hat 0 (by omega)
     rw [show (a.add i).add 0 = a.add i by unfold Addr.add; simp] at h0
     simp only [List.cons.injEq, and_true] at hz
     obtain ⟨h1, h2⟩ := wf_u8 wz
     refine ⟨UInt8.ofNat z.toNat, ?_⟩
     have h4 : z.toNat % 256 = z.toNat := Nat.mod_eq_of_lt (by omega)
     have h3 : (((UInt8.ofNat z.toNat).toNat : Nat) : Int) = z := by rw [UInt8.toNat_ofNat', show (2 ^ 8 : Nat) = 256 from rfl, h4]; omega
     rw [h0, hz, h3]
     rfl
  rcases Nat.eq_zero_or_pos len with rfl | hn
  ·exact ⟨_, cap, [], hcs, (fun i u hu => by simp [B8] at hu), Nat.zero_le _⟩
  ·obtain ⟨y0, h0⟩ := hx 0 hn
   rw [show a.add 0 = a by unfold Addr.add; simp] at h0
   obtain ⟨b, o, s⟩ := a
   have hs := spot_none h0
   simp only at hs
   subst hs
   obtain ⟨g, hg⟩ := Go.Deep.choose_lt hx
   have hlen : ((List.range len).map g).length = len := by simp
   refine ⟨some ⟨b, o, none⟩, cap, (List.range len).map g, by rw [hlen]; exact hcs, fun i v hv => ?_, by rw [hlen]; exact hl⟩
   have hin : i < len := by
    have := (List.getElem?_eq_some_iff.1 hv).1
    simpa [B8] using this
   have h1 := hg i hin
   rw [addr_add] at h1
   refine ⟨b, o, rfl, cell_lt h0, ?_⟩
   rw [h1, ← hv]
   simp [B8, hin]
theorem open_bytesC {e u : TypeId} {base : Nat} {v : Value} {d : DataW H} {p : List MemPlace} (he : P.underlying e = some (.slice u)) (hu : P.underlying u = some (.int .u8)) (hC : P.cellsOf u = 1) (hv : Value.okWide P W .any base e v)
  (h : DataW.Trod enc P W 0 (fun _ => true) true e v d p) : ∃ (A : Option Addr) (cap : Nat) (bs : List UInt8), v = .slice A bs.length cap ∧ RowIn W A (B8 bs) ∧ bs.length ≤ cap := by
 obtain ⟨A, n, cap, rfl⟩ := okWide_slice he hv
 obtain ⟨f, hf⟩ := h
 exact open_u8 he hu hC (by simpa [Value.cells] using hf)
theorem open_boolC {t : TypeId} {base : Nat} {v : Value} {d : DataW H} {p : List MemPlace} (ht : P.underlying t = some .bool) (hv : Value.okWide P W .any base t v)
  (h : DataW.Trod enc P W 0 (fun _ => true) true t v d p) : ∃ b : Bool, v = .bool b := by
 obtain ⟨b, rfl⟩ := okWide_bool ht hv
 exact ⟨b, rfl⟩
theorem trod_weight {t e : TypeId} {A : Option Addr} {n cap B : Nat} {d : DataW H} {p : List MemPlace} (ht : P.underlying t = some (.slice e)) (h : DataW.Trod enc P W 0 (fun _ => true) true t (.slice A n cap) d p) (hB : ∀ k ∈ d.weights P t, k ≤ B) : n * P.bytesOf e ≤ B := by
 obtain ⟨f, hf⟩ := h
 rcases Go.Deep.open_slice ht (by simpa [Value.cells] using hf) with ⟨h0, _⟩ | ⟨a, len, cap', m, n', D, Pl, hcs, _, hl, hm, hmm, hd, hi⟩
 ·simp only [List.cons.injEq, Value.slice.injEq, and_true] at h0
  obtain ⟨_, rfl, _⟩ := h0
  simp
 ·simp only [List.cons.injEq, Value.slice.injEq, and_true] at hcs
  obtain ⟨rfl, rfl, rfl⟩ := hcs
  injection hd with hd1 _
  subst hd1
  have hk := hB _ (by
   simp only [DataW.weights, ht]
   exact List.mem_cons_self)
  refine Nat.le_trans (Nat.mul_le_mul_right _ ?_) hk
  simp only [List.length_map, List.length_range]
  omega
theorem open_op5 {e ti ts tb tk u v : TypeId} {f : Nat} {cs : List Value} {x : DataW H × List MemPlace} {fs : Array Field} (he : P.underlying e = some (.struct fs)) (hi : P.underlying ti = some (.int .i64)) (hs : P.underlying ts = some .string) (hb : P.underlying tb = some (.slice u)) (hu : P.underlying u = some (.int .u8)) (hk : P.underlying tk = some (.slice v)) (cu : P.cellsOf u = 1)
  (c0 : P.cellsOf ti = 1) (c1 : P.cellsOf ts = 1) (c2 : P.cellsOf tb = 1) (c4 : P.cellsOf tk = 1)
  (hf : fs.toList.map (fun f => (f.type, f.offset)) = [(ti, 0), (ts, 1), (tb, 2), (ti, 3), (tk, 4)]) (h : DataW.trod enc P W 0 (fun _ => true) true f e cs = some x) (hl : cs.length = 5) :
  ∃ p : OpX, cs = oxV p ∧ RowIn W p.A (B8 p.data) ∧ p.data.length ≤ p.c ∧ p.keep.oneCell' = true := by
 obtain ⟨xs, n, _, _, _, hxl, hg⟩ := DataW.trod_struct he h
 match cs, hl with
 | [v0, v1, v2, v3, v4], _ =>
   have hfs : fs.toList.length = 5 := by have := congrArg List.length hf; simpa using this
   match hfl : fs.toList, hfs with
   | [f0, f1, f2, f3, f4], _ =>
     rw [hfl] at hf
     simp only [List.map_cons, List.map_nil, List.cons.injEq, Prod.mk.injEq, and_true] at hf
     obtain ⟨⟨t0, o0⟩, ⟨t1, o1⟩, ⟨t2, o2⟩, ⟨t3, o3⟩, ⟨t4, o4⟩⟩ := hf
     have hx : ∀ i, i < 5 → ∃ y, xs[i]? = some y := fun i hi => ⟨xs[i]'(by rw [hxl, ← Array.length_toList, hfl]; simpa using hi), List.getElem?_eq_getElem _⟩
     have g0 := hg 0 f0 (by rw [← Array.getElem?_toList, hfl]; rfl)
     have g1 := hg 1 f1 (by rw [← Array.getElem?_toList, hfl]; rfl)
     have g2 := hg 2 f2 (by rw [← Array.getElem?_toList, hfl]; rfl)
     have g3 := hg 3 f3 (by rw [← Array.getElem?_toList, hfl]; rfl)
     have g4 := hg 4 f4 (by rw [← Array.getElem?_toList, hfl]; rfl)
     obtain ⟨y0, e0⟩ := hx 0 (by omega)
     obtain ⟨y1, e1⟩ := hx 1 (by omega)
     obtain ⟨y2, e2⟩ := hx 2 (by omega)
     obtain ⟨y3, e3⟩ := hx 3 (by omega)
     obtain ⟨y4, e4⟩ := hx 4 (by omega)
     rw [t0, o0, c0, e0] at g0
     rw [t1, o1, c1, e1] at g1
     rw [t2, o2, c2, e2] at g2
     rw [t3, o3, c0, e3] at g3
     rw [t4, o4, c4, e4] at g4
     obtain ⟨z0, hz0, _, _⟩ := DataW.trod_int hi g0
     obtain ⟨a1, ha1, _⟩ := DataW.trod_string hs g1
     obtain ⟨A2, cap2, bs, hb2, hr2, hc2⟩ := open_u8 (c := v2) hb hu cu g2
     obtain ⟨z3, hz3, _, _⟩ := DataW.trod_int hi g3
     have h4 : v4.oneCell' = true := by
      rcases Go.Deep.open_slice hk g4 with ⟨h0, _⟩ | ⟨a, len, cap, m, n, D, Pl, hcs, _⟩
      ·simp at h0; rw [h0]; rfl
      ·simp at hcs; rw [hcs]; rfl
     simp at hz0 ha1 hz3
     refine ⟨⟨z0, a1.data.toList, A2, cap2, bs, z3, v4⟩, ?_, hr2, hc2, h4⟩
     rw [hz0, ha1, hb2, hz3]
     show _ = [Value.int .i64 z0, Value.string (strOf a1.data.toList), _, _, _]
     rw [← str_eta]
end
theorem open_cops {H : Type} {enc : TypeId × Value → H} {W : World} {base : Nat} {v : Value} {d : DataW H} {p : List MemPlace} (hv : Value.okWide Tryz.prog W .any base 39 v)
  (h : DataW.Trod enc Tryz.prog W 0 (fun _ => true) true 39 v d p) : ∃ (A : Option Addr) (cap : Nat) (l : List OpX), v = .slice A l.length cap ∧ l.length ≤ 9223372036854775807 ∧ RowIn W A (OX l) ∧ OpRows l W ∧ (∀ x ∈ l, x.data.length ≤ x.c) ∧ (∀ x ∈ l, x.keep.oneCell' = true) := by
 obtain ⟨A, n, cap, rfl, hnc, hcm, hr⟩ := open_rows 5 (by omega) Tryz.underlying39 (by kernel_rfl) hv h
 have hmax : n ≤ 9223372036854775807 := by unfold maxLen at hcm; omega
 rcases Nat.eq_zero_or_pos n with rfl | hn
 ·exact ⟨A, cap, [], rfl, Nat.zero_le _, (fun i x hx => by simp at hx), (fun x hx => by simp at hx), (fun x hx => by simp at hx), (fun x hx => by simp at hx)⟩
 ·obtain ⟨b, o, rfl, hb, hi⟩ := hr hn
  have hx : ∀ i, i < n → ∃ p : OpX, (∀ j u, (oxV p)[j]? = some u → W.cell? ⟨b, o + i * 5 + j, none⟩ = some u) ∧ RowIn W p.A (B8 p.data) ∧ p.data.length ≤ p.c ∧ p.keep.oneCell' = true := by
   intro i hin
   obtain ⟨cs, f, x, hl, hc, ht⟩ := hi i hin
   obtain ⟨p, rfl, h1, h2, h3⟩ := open_op5 Tryz.underlying44 Tryz.underlying3 Tryz.underlying9 Tryz.underlying41 Tryz.underlying5 Tryz.underlying42 (by kernel_rfl) (by kernel_rfl) (by kernel_rfl) (by kernel_rfl) (by kernel_rfl) (by rfl) ht hl
   refine ⟨p, fun j u hu => ?_, h1, h2, h3⟩
   have hj : j < 5 := (List.getElem?_eq_some_iff.1 hu).1
   rw [hc j hj]
   exact hu
  haveI : Inhabited OpX := ⟨⟨0, [], none, 0, [], 0, .slice none 0 0⟩⟩
  obtain ⟨g, hg⟩ := Go.Deep.choose_lt hx
  have hgi : ∀ i, i < n → ((List.range n).map g)[i]? = some (g i) := fun i hi => by simp [hi]
  refine ⟨some ⟨b, o, none⟩, cap, (List.range n).map g, by simp, by simp; omega, ?_, ?_, ?_, ?_⟩
  ·intro q u hu
   have hq : q < n * 5 := by
    have := (List.getElem?_eq_some_iff.1 hu).1
    rw [OX_length] at this
    simpa using this
   have hin : q / 5 < n := by omega
   have hm5 : q % 5 < 5 := Nat.mod_lt _ (by omega)
   obtain ⟨c, hc⟩ : ∃ c, (oxV (g (q / 5)))[q % 5]? = some c := ⟨_, List.getElem?_eq_getElem (by show q % 5 < 5; exact hm5)⟩
   have h1 := OX_at (hgi _ hin) (q % 5) c hc
   have e : q / 5 * 5 + q % 5 = q := by omega
   rw [e, hu] at h1
   refine ⟨b, o, rfl, hb, ?_⟩
   have h2 := (hg _ hin).1 (q % 5) c hc
   rw [Nat.add_assoc, e] at h2
   rw [h2, h1]
  ·intro x hx
   obtain ⟨i, hi', rfl⟩ := List.mem_map.1 hx
   exact (hg i (List.mem_range.1 hi')).2.1
  ·intro x hx
   obtain ⟨i, hi', rfl⟩ := List.mem_map.1 hx
   exact (hg i (List.mem_range.1 hi')).2.2.1
  ·intro x hx
   obtain ⟨i, hi', rfl⟩ := List.mem_map.1 hx
   exact (hg i (List.mem_range.1 hi')).2.2.2
end Go.Proofs.YtaiggifiefnjnaaGreatDoor
