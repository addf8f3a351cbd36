/- Part 4 of a proof about rangesum: what its row uses. -/
import Derived.Test.YtlepfnihpdhcaaaGreatDoorRu03
set_option maxRecDepth 100000
set_option maxHeartbeats 1000000
namespace Go.Proofs.YtlepfnihpdhcaaaGreatDoor
open Go.RowKit
structure QC where
 (lo hi : Bs) (k n : Nat) (f : Bs) (xs ms : List Bs)
def QC.abs (q : QC) : AP := ⟨q.lo, q.hi, if q.k = 1 then .sum q.n q.f else if q.k = 2 then .list q.xs else .ans q.xs q.ms⟩
def QV.core (q : QV) : QC := ⟨q.lo, q.hi, q.k, q.n, q.f, q.xs, q.ms⟩
def gapR (prev : List QC) (lo hi : Bs) : Bool := (decide (hi ≠ []) && decide (¬ lo < hi)) || (match prev.getLast? with | none => false | some q => decide (q.hi = []) || decide (lo < q.hi))
def ptK (lo hi : Bs) (k : Nat) (l : Bs) (b : Bool) : QC × Bs × Bool :=
 if k = 1 then (⟨lo, hi, 1, (nmR l b 16384).1, tkV (nmR l b 16384).2.1 (nmR l b 16384).2.2 32, [], []⟩, tkL (nmR l b 16384).2.1 (nmR l b 16384).2.2 32, tkB (nmR l b 16384).2.1 (nmR l b 16384).2.2 32)
 else if k = 2 then (⟨lo, hi, 2, 0, [], (itR l b 64 lo hi).1, []⟩, (itR l b 64 lo hi).2)
 else if k = 3 then (⟨lo, hi, 3, 0, [], (itR l b 16384 lo hi).1, (itR (itR l b 16384 lo hi).2.1 (itR l b 16384 lo hi).2.2 16384 lo hi).1⟩, (itR (itR l b 16384 lo hi).2.1 (itR l b 16384 lo hi).2.2 16384 lo hi).2)
 else (⟨lo, hi, k, 0, [], [], []⟩, l, true)
def ptR (prev : List QC) (l : Bs) (b : Bool) : QC × Bs × Bool :=
 ptK (bdR l b).1 (bdR (bdR l b).2.1 (bdR l b).2.2).1 (nmR (bdR (bdR l b).2.1 (bdR l b).2.2).2.1 (bdR (bdR l b).2.1 (bdR l b).2.2).2.2 3).1 (nmR (bdR (bdR l b).2.1 (bdR l b).2.2).2.1 (bdR (bdR l b).2.1 (bdR l b).2.2).2.2 3).2.1
  ((nmR (bdR (bdR l b).2.1 (bdR l b).2.2).2.1 (bdR (bdR l b).2.1 (bdR l b).2.2).2.2 3).2.2 || gapR prev (bdR l b).1 (bdR (bdR l b).2.1 (bdR l b).2.2).1)
def psR (l : Bs) (b : Bool) : Nat → List QC × Bs × Bool
 | 0 => ([], l, b)
 | i + 1 => if (psR l b i).2.2 then psR l b i else ((psR l b i).1 ++ [(ptR (psR l b i).1 (psR l b i).2.1 false).1], (ptR (psR l b i).1 (psR l b i).2.1 false).2)
def QC.kOk (q : QC) : Prop := q.k = 1 ∨ q.k = 2 ∨ q.k = 3
theorem gapR_ok {prev : List QC} {p : AP} : gapR prev p.lo p.hi = false ↔ spanOk p.lo p.hi = true ∧ follows (prev.map QC.abs) p = true := by
 unfold gapR spanOk follows
 rw [Bool.or_eq_false_iff, List.getLast?_map]
 constructor
 ·rintro ⟨h1, h2⟩
  refine ⟨?_, ?_⟩
  ·by_cases h : p.hi = []
   ·simp [h]
   ·simp [h] at h1 ⊢; exact h1
  ·cases hq : prev.getLast? with
   | none => rfl
   | some q => rw [hq] at h2; dsimp only [Option.map_some] at h2 ⊢; rw [show (QC.abs q).hi = q.hi from rfl, h2]; rfl
 ·rintro ⟨h1, h2⟩
  refine ⟨?_, ?_⟩
  ·by_cases h : p.hi = []
   ·simp [h]
   ·simp [h] at h1 ⊢; exact h1
  ·cases hq : prev.getLast? with
   | none => rfl
   | some q => rw [hq] at h2; dsimp only [Option.map_some] at h2 ⊢; rw [show (QC.abs q).hi = q.hi from rfl] at h2; simpa using h2
theorem ptK_sound {lo hi l : Bs} {k : Nat} {b : Bool} (h : (ptK lo hi k l b).2.2 = false) :
  b = false ∧ (ptK lo hi k l b).1.lo = lo ∧ (ptK lo hi k l b).1.hi = hi ∧ (ptK lo hi k l b).1.kOk ∧ (ptK lo hi k l b).1.abs.c.ok lo hi ∧ num k ++ l = (ptK lo hi k l b).1.abs.c.enc ++ (ptK lo hi k l b).2.1 := by
 by_cases h1 : k = 1
 ·subst h1
  rw [show ptK lo hi 1 l b = _ from if_pos rfl] at h ⊢
  obtain ⟨a1, a2, a3⟩ := tk_sound h
  obtain ⟨a4, a5⟩ := nmR_sound a1
  have hle := nmR_le l b 16384
  refine ⟨a4, rfl, rfl, .inl rfl, ⟨hle, a2⟩, ?_⟩
  show num 1 ++ l = ((num 1 ++ num _) ++ _) ++ _
  rw [List.append_assoc, List.append_assoc, ← a3, ← a5]
 ·by_cases h2 : k = 2
  ·subst h2
   rw [show ptK lo hi 2 l b = _ from (if_neg (by omega)).trans (if_pos rfl)] at h ⊢
   obtain ⟨a1, a2, a3, a4, a5⟩ := itR_sound (by omega) h
   refine ⟨a1, rfl, rfl, .inr (.inl rfl), ⟨a2, a3, a4⟩, ?_⟩
   show num 2 ++ l = (num 2 ++ (num _ ++ _)) ++ _
   rw [List.append_assoc, ← a5]
  ·by_cases h3 : k = 3
   ·subst h3
    rw [show ptK lo hi 3 l b = _ from (if_neg (by omega)).trans ((if_neg (by omega)).trans (if_pos rfl))] at h ⊢
    obtain ⟨b1, b2, b3, b4, b5⟩ := itR_sound (by omega) h
    obtain ⟨a1, a2, a3, a4, a5⟩ := itR_sound (by omega) b1
    refine ⟨a1, rfl, rfl, .inr (.inr rfl), ⟨⟨a2, a3, a4⟩, b2, b3, b4⟩, ?_⟩
    show num 3 ++ l = ((num 3 ++ (num _ ++ _)) ++ (num _ ++ _)) ++ _
    rw [List.append_assoc, ← b5, List.append_assoc, ← a5]
   ·rw [show ptK lo hi k l b = _ from (if_neg h1).trans ((if_neg h2).trans (if_neg h3))] at h
    cases h
theorem ptR_sound {prev : List QC} {l : Bs} {b : Bool} (h : (ptR prev l b).2.2 = false) :
  b = false ∧ (ptR prev l b).1.kOk ∧ (ptR prev l b).1.abs.ok ∧ follows (prev.map QC.abs) (ptR prev l b).1.abs = true ∧ l = (ptR prev l b).1.abs.enc ++ (ptR prev l b).2.1 := by
 obtain ⟨h1, h2, h3, h4, h5, h6⟩ := ptK_sound h
 rw [Bool.or_eq_false_iff] at h1
 obtain ⟨a1, a2⟩ := nmR_sound h1.1
 obtain ⟨b1, b2, b3⟩ := bdR_sound a1
 obtain ⟨c1, c2, c3⟩ := bdR_sound b1
 have hg := (gapR_ok (p := (ptR prev l b).1.abs)).1 (by
  show gapR prev (ptR prev l b).1.lo (ptR prev l b).1.hi = false
  rw [show (ptR prev l b).1.lo = _ from h2, show (ptR prev l b).1.hi = _ from h3]
  exact h1.2)
 refine ⟨c1, h4, ⟨⟨?_, ?_, hg.1⟩, ?_⟩, hg.2, ?_⟩
 ·show boundOk (ptR prev l b).1.lo = true
  rw [show (ptR prev l b).1.lo = _ from h2]; exact c2
 ·show boundOk (ptR prev l b).1.hi = true
  rw [show (ptR prev l b).1.hi = _ from h3]; exact b2
 ·show (ptR prev l b).1.abs.c.ok (ptR prev l b).1.lo (ptR prev l b).1.hi
  rw [show (ptR prev l b).1.lo = _ from h2, show (ptR prev l b).1.hi = _ from h3]; exact h5
 ·show l = ((num (ptR prev l b).1.lo.length ++ (ptR prev l b).1.lo) ++ (num (ptR prev l b).1.hi.length ++ (ptR prev l b).1.hi)) ++ (ptR prev l b).1.abs.c.enc ++ (ptR prev l b).2.1
  rw [show (ptR prev l b).1.lo = _ from h2, show (ptR prev l b).1.hi = _ from h3, List.append_assoc, show (ptR prev l b).1.abs.c.enc ++ (ptR prev l b).2.1 = _ from h6.symm, ← a2, List.append_assoc, ← b3, ← c3]
def AP.core (p : AP) : QC := match p.c with
 | .sum n f => ⟨p.lo, p.hi, 1, n, f, [], []⟩
 | .list xs => ⟨p.lo, p.hi, 2, 0, [], xs, []⟩
 | .ans xs ms => ⟨p.lo, p.hi, 3, 0, [], xs, ms⟩
theorem AP.core_abs (p : AP) : p.core.abs = p := by
 obtain ⟨lo, hi, c⟩ := p
 cases c <;> rfl
def AC.kind : AC → Nat
 | .sum .. => 1
 | .list .. => 2
 | .ans .. => 3
theorem ptK_go {p : AP} {l r : Bs} (h : p.c.ok p.lo p.hi) (hl : num p.c.kind ++ l = p.c.enc ++ r) : ptK p.lo p.hi p.c.kind l false = (p.core, r, false) := by
 obtain ⟨lo, hi, c⟩ := p
 cases c with
 | sum n f =>
  obtain ⟨h1, h2⟩ := h
  have e : l = num n ++ (f ++ r) := List.append_cancel_left (hl.trans (show ((num 1 ++ num n) ++ f) ++ r = _ from by rw [List.append_assoc, List.append_assoc]; rfl))
  have e1 : nmR l false 16384 = (n, f ++ r, false) := by rw [e]; exact nmR_num h1 (by omega)
  obtain ⟨t1, t2, t3⟩ := tk_go (l := f) (r := r) h2
  show ptK lo hi 1 l false = _
  rw [ptK, if_pos rfl, e1]
  dsimp only
  rw [t1, t2, t3]
  rfl
 | list xs =>
  obtain ⟨h1, h2, h3⟩ := h
  have e : l = (num xs.length ++ xs.flatten) ++ r := List.append_cancel_left (hl.trans (show (num 2 ++ (num xs.length ++ xs.flatten)) ++ r = _ from by rw [List.append_assoc]; rfl))
  have e1 := itR_go (r := r) (most := 64) (by omega) h1 h2 h3
  show ptK lo hi 2 l false = _
  rw [ptK, if_neg (by omega), if_pos rfl, e]
  dsimp only at e1
  rw [e1]
  rfl
 | ans xs ms =>
  obtain ⟨⟨h1, h2, h3⟩, h4, h5, h6⟩ := h
  have e : l = (num xs.length ++ xs.flatten) ++ ((num ms.length ++ ms.flatten) ++ r) := List.append_cancel_left (hl.trans (show ((num 3 ++ (num xs.length ++ xs.flatten)) ++ (num ms.length ++ ms.flatten)) ++ r = _ from by rw [List.append_assoc, List.append_assoc]; rfl))
  have e1 := itR_go (r := (num ms.length ++ ms.flatten) ++ r) (most := 16384) (by omega) h1 h2 h3
  have e2 := itR_go (r := r) (most := 16384) (by omega) h4 h5 h6
  show ptK lo hi 3 l false = _
  rw [ptK, if_neg (by omega), if_neg (by omega), if_pos rfl, e]
  dsimp only at e1 e2
  rw [e1]
  dsimp only
  rw [e2]
  rfl
theorem AC.enc_kind (c : AC) : ∃ t, c.enc = num c.kind ++ t := by
 cases c with
 | sum n f => exact ⟨num n ++ f, List.append_assoc ..⟩
 | list xs => exact ⟨_, rfl⟩
 | ans xs ms => exact ⟨(num xs.length ++ xs.flatten) ++ (num ms.length ++ ms.flatten), List.append_assoc ..⟩
theorem ptR_go {prev : List QC} {p : AP} {r : Bs} (h : p.ok) (hf : follows (prev.map QC.abs) p = true) : ptR prev (p.enc ++ r) false = (p.core, r, false) := by
 obtain ⟨⟨h1, h2, h3⟩, h4⟩ := h
 obtain ⟨t, ht⟩ := p.c.enc_kind
 have hk : p.c.kind ≤ 3 := by cases p.c <;> simp [AC.kind]
 have e0 : p.enc ++ r = (num p.lo.length ++ p.lo) ++ ((num p.hi.length ++ p.hi) ++ (num p.c.kind ++ (t ++ r))) := by
  show (((num p.lo.length ++ p.lo) ++ (num p.hi.length ++ p.hi)) ++ p.c.enc) ++ r = _
  rw [ht]; simp only [List.append_assoc]
 have e1 := bdR_go (r := (num p.hi.length ++ p.hi) ++ (num p.c.kind ++ (t ++ r))) h1
 have e2 := bdR_go (r := num p.c.kind ++ (t ++ r)) h2
 have e3 : nmR (num p.c.kind ++ (t ++ r)) false 3 = (p.c.kind, t ++ r, false) := nmR_num hk (by omega)
 unfold ptR
 rw [e0, e1]
 dsimp only
 rw [e2]
 dsimp only
 rw [e3]
 dsimp only
 rw [gapR_ok.2 ⟨h3, hf⟩]
 exact ptK_go h4 (by rw [ht, List.append_assoc])
theorem psR_next {l : Bs} {b : Bool} {i : Nat} (h : (psR l b i).2.2 = false) : psR l b (i + 1) = ((psR l b i).1 ++ [(ptR (psR l b i).1 (psR l b i).2.1 false).1], (ptR (psR l b i).1 (psR l b i).2.1 false).2) := by rw [psR, if_neg (by simp [h])]
theorem psR_stop {l : Bs} {b : Bool} {k : Nat} (h : (psR l b k).2.2 = true) : ∀ j, psR l b (k + j) = psR l b k
 | 0 => rfl
 | j + 1 => by
  show psR l b ((k + j) + 1) = _
  rw [psR, if_pos (by rw [psR_stop h j]; exact h), psR_stop h j]
theorem psR_sound (l : Bs) (b : Bool) : ∀ k, (psR l b k).2.2 = false → b = false ∧ (psR l b k).1.length = k ∧ (∀ q ∈ (psR l b k).1, q.kOk ∧ q.abs.ok) ∧ chain ((psR l b k).1.map QC.abs) ∧ l = ((psR l b k).1.map QC.abs).flatMap AP.enc ++ (psR l b k).2.1
 | 0, h => ⟨h, rfl, (fun q hq => by cases hq), (fun k p hp => by simp [psR] at hp), rfl⟩
 | k + 1, h => by
  by_cases hk : (psR l b k).2.2 = true
  ·rw [psR, if_pos hk] at h
   rw [h] at hk; cases hk
  ·have hk' : (psR l b k).2.2 = false := by simpa using hk
   obtain ⟨h1, h2, h3, h4, h5⟩ := psR_sound l b k hk'
   rw [psR_next hk'] at h ⊢
   obtain ⟨_, a2, a3, a4, a5⟩ := ptR_sound (show (ptR (psR l b k).1 (psR l b k).2.1 false).2.2 = false from h)
   refine ⟨h1, by simp [h2], ?_, ?_, ?_⟩
   ·intro q hq
    rcases List.mem_append.1 hq with hq | hq
    ·exact h3 q hq
    ·rw [List.mem_singleton.1 hq]; exact ⟨a2, a3⟩
   ·dsimp only
    rw [List.map_append]
    exact chain_snoc h4 a4
   ·dsimp only
    rw [List.map_append, List.flatMap_append, List.append_assoc]
    show l = _ ++ (((ptR (psR l b k).1 (psR l b k).2.1 false).1.abs.enc ++ []) ++ _)
    rw [List.append_nil, ← a5]
    exact h5
theorem psR_go {ps : List AP} {r : Bs} (h : ∀ p ∈ ps, p.ok) (hc : chain ps) : ∀ k, k ≤ ps.length → psR (ps.flatMap AP.enc ++ r) false k = ((ps.take k).map AP.core, (ps.drop k).flatMap AP.enc ++ r, false)
 | 0, _ => rfl
 | k + 1, hk => by
  have e := psR_go (r := r) h hc k (by omega)
  have hd : ps.drop k = ps[k] :: ps.drop (k + 1) := List.drop_eq_getElem_cons (by omega)
  have hf : (ps.drop k).flatMap AP.enc ++ r = ps[k].enc ++ ((ps.drop (k + 1)).flatMap AP.enc ++ r) := by rw [hd, List.flatMap_cons, List.append_assoc]
  have hm : ((ps.take k).map AP.core).map QC.abs = ps.take k := by
   rw [List.map_map]
   exact (List.map_congr_left fun p _ => AP.core_abs p).trans (List.map_id _)
  have e1 := ptR_go (prev := (ps.take k).map AP.core) (r := (ps.drop (k + 1)).flatMap AP.enc ++ r) (h _ (List.getElem_mem (by omega : k < ps.length))) (by rw [hm]; exact hc k _ (List.getElem?_eq_getElem (by omega)))
  rw [psR_next (by rw [e]), e]
  dsimp only
  rw [hf, e1, List.take_succ_eq_append_getElem (by omega), List.map_append]
  rfl
def dcR (D : Bs) : List QC × Bs × Bool := psR (nmR D false 1048576).2.1 (nmR D false 1048576).2.2 (nmR D false 1048576).1
def dcOk (D : Bs) : Bool := (!(dcR D).2.2 && decide (0 < (nmR D false 1048576).1)) && decide ((dcR D).2.1.length = 0)
theorem dcR_some {D : Bs} (h : dcOk D = true) (hD : D.length ≤ 1048576) : decA D = some ((dcR D).1.map QC.abs) ∧ ∀ q ∈ (dcR D).1, q.kOk := by
 unfold dcOk at h
 rw [Bool.and_eq_true, Bool.and_eq_true, decide_eq_true_eq, decide_eq_true_eq] at h
 obtain ⟨⟨h1, h2⟩, h3⟩ := h
 obtain ⟨a1, a2, a3, a4, a5⟩ := psR_sound _ _ _ (show (psR (nmR D false 1048576).2.1 (nmR D false 1048576).2.2 (nmR D false 1048576).1).2.2 = false by simpa [dcR] using h1)
 obtain ⟨_, b2⟩ := nmR_sound a1
 have hr : (dcR D).2.1 = [] := List.eq_nil_of_length_eq_zero h3
 have hl : (dcR D).1.length = (nmR D false 1048576).1 := a2
 have hE : D = encA ((dcR D).1.map QC.abs) := by
  unfold encA
  rw [List.length_map, hl, if_neg (by omega)]
  have e := b2.trans (congrArg _ a5)
  rw [show (psR (nmR D false 1048576).2.1 (nmR D false 1048576).2.2 (nmR D false 1048576).1).2.1 = [] from hr, List.append_nil] at e
  exact e
 have hok : okMsg ((dcR D).1.map QC.abs) := by
  refine ⟨fun e => ?_, fun p hp => ?_, a4⟩
  ·have := congrArg List.length e
   rw [List.length_map, hl] at this
   simp at this; omega
  ·obtain ⟨q, hq, rfl⟩ := List.mem_map.1 hp
   exact (a3 q hq).2
 refine ⟨?_, fun q hq => (a3 q hq).1⟩
 have := decA_enc hok (by rw [← hE]; omega)
 rw [← hE] at this
 exact this
theorem dcR_none {D : Bs} (h : dcOk D = false) (hD : D.length ≤ 1048576) : decA D = none := by
 cases hd : decA D with
 | none => rfl
 | some ps =>
  exfalso
  obtain ⟨h1, ⟨h2, h3, h4⟩, h5⟩ := decA_sound hd
  have hne : ps.length ≠ 0 := fun e => h2 (List.eq_nil_of_length_eq_zero e)
  have hE : D = num ps.length ++ ps.flatMap AP.enc := by rw [h1, encA, if_neg hne]
  have e : nmR D false 1048576 = (ps.length, ps.flatMap AP.enc, false) := by rw [hE]; exact nmR_num (by omega) (by omega)
  have e2 := psR_go (r := []) h3 h4 ps.length (Nat.le_refl _)
  rw [List.append_nil] at e2
  unfold dcOk dcR at h
  rw [e] at h
  dsimp only at h
  rw [e2] at h
  simp at h
  exact h2 h
end Go.Proofs.YtlepfnihpdhcaaaGreatDoor
namespace Go.Proofs.YtlepfnihpdhcaaaGreatDoor
open Go.RowKit
theorem rsNumV_any (br : Nat) (A : Option Addr) (D : List UInt8) (A1 : Option Addr) (c1 : Nat) (l : List UInt8) (bad : Bool) (most : Nat) (w : World) (hO : Own [cAt br 123 [(vL A1 l c1), (.bool bad)]] w) (r0 : Rf [cAt br 123 [(vL A1 l c1), (.bool bad)]] w (fun w => RowIn w A (B8 D))) (hs : Sub8 A D A1 l c1) (hD : D.length ≤ 1048576) (hm : most ≤ 1048576) :
  Calls Tryz.prog 65 #[(vP br 0), (vI most)] w fun e w' => ∃ (t : Nat) (l2 : List UInt8) (b2 : Bool) (A2 : Option Addr) (c2 : Nat), e = .returned (vI t) ∧ Back [cAt br 123 [(vL A1 l c1), (.bool bad)]] w [cAt br 123 [(vL A2 l2 c2), (.bool b2)]] w' ∧ (nmR l bad most = (t, l2, b2)) ∧ (Sub8 A D A2 l2 c2) :=
 (rsNum_any br A D A1 c1 l bad most w hO r0 hs hD hm).mono fun e w' h => by
  obtain ⟨A2, c2, rfl, hB, hs2⟩ := h
  exact ⟨_, _, _, A2, c2, rfl, hB, rfl, hs2⟩
theorem rsTakeV_any (br : Nat) (A : Option Addr) (D : List UInt8) (A1 : Option Addr) (c1 : Nat) (l : List UInt8) (bad : Bool) (n : Nat) (w : World) (hO : Own [cAt br 123 [(vL A1 l c1), (.bool bad)]] w) (r0 : Rf [cAt br 123 [(vL A1 l c1), (.bool bad)]] w (fun w => RowIn w A (B8 D))) (hs : Sub8 A D A1 l c1) (hD : D.length ≤ 1048576) (hn : n ≤ 1048576) :
  Calls Tryz.prog 67 #[(vP br 0), (vI n)] w fun e w' => ∃ (t : List UInt8) (l2 : List UInt8) (b2 : Bool) (A2 : Option Addr) (c2 : Nat), e = .returned (vS t) ∧ Back [cAt br 123 [(vL A1 l c1), (.bool bad)]] w [cAt br 123 [(vL A2 l2 c2), (.bool b2)]] w' ∧ ((tkV l bad n, tkL l bad n, tkB l bad n) = (t, l2, b2)) ∧ (Sub8 A D A2 l2 c2) :=
 (rsTake_any br A D A1 c1 l bad n w hO r0 hs hD hn).mono fun e w' h => by
  obtain ⟨A2, c2, rfl, hB, hs2⟩ := h
  exact ⟨_, _, _, A2, c2, rfl, hB, rfl, hs2⟩
theorem rsBoundV_any (br : Nat) (A : Option Addr) (D : List UInt8) (A1 : Option Addr) (c1 : Nat) (l : List UInt8) (bad : Bool) (w : World) (hO : Own [cAt br 123 [(vL A1 l c1), (.bool bad)]] w) (r0 : Rf [cAt br 123 [(vL A1 l c1), (.bool bad)]] w (fun w => RowIn w A (B8 D))) (hs : Sub8 A D A1 l c1) (hD : D.length ≤ 1048576) :
  Calls Tryz.prog 66 #[(vP br 0)] w fun e w' => ∃ (t : List UInt8) (l2 : List UInt8) (b2 : Bool) (A2 : Option Addr) (c2 : Nat), e = .returned (vS t) ∧ Back [cAt br 123 [(vL A1 l c1), (.bool bad)]] w [cAt br 123 [(vL A2 l2 c2), (.bool b2)]] w' ∧ (bdR l bad = (t, l2, b2)) ∧ (Sub8 A D A2 l2 c2) :=
 (rsBoundR_any br A D A1 c1 l bad w hO r0 hs hD).mono fun e w' h => by
  obtain ⟨A2, c2, rfl, hB, hs2⟩ := h
  exact ⟨_, _, _, A2, c2, rfl, hB, rfl, hs2⟩
theorem rsItemsV_any (br : Nat) (A : Option Addr) (D : List UInt8) (A1 : Option Addr) (c1 : Nat) (l : List UInt8) (bad : Bool) (lo : List UInt8) (hi : List UInt8) (v2 : Value) (v3 : Value) (v4 : Value) (v5 : Value) (v6 : Value) (most : Nat) (w : World) (hO : Own [cAt br 123 [(vL A1 l c1), (.bool bad)]] w) (r0 : Rf [cAt br 123 [(vL A1 l c1), (.bool bad)]] w (fun w => RowIn w A (B8 D))) (hs : Sub8 A D A1 l c1) (hD : D.length ≤ 1048576) (hm : most ≤ 16384) :
  Calls Tryz.prog 68 #[(vP br 0), (.agg #[(vS lo), (vS hi), v2, v3, v4, v5, v6]), (vI most)] w fun e w' => ∃ (t : List (List UInt8)) (l2 : List UInt8) (b2 : Bool) (A2 : Option Addr) (c2 : Nat) (B : Option Addr) (cb : Nat), e = .returned (vL B t cb) ∧ Back [cAt br 123 [(vL A1 l c1), (.bool bad)]] w [cAt br 123 [(vL A2 l2 c2), (.bool b2)], cS B t cb] w' ∧ (itR l bad most lo hi = (t, l2, b2)) ∧ (Sub8 A D A2 l2 c2) :=
 (rsItemsR_any br A D A1 c1 l bad lo hi v2 v3 v4 v5 v6 most w hO r0 hs hD hm).mono fun e w' h => by
  obtain ⟨A2, c2, B, cb, rfl, hB, hs2⟩ := h
  exact ⟨_, _, _, A2, c2, B, cb, rfl, hB, rfl, hs2⟩
end Go.Proofs.YtlepfnihpdhcaaaGreatDoor
namespace Go.Proofs.YtlepfnihpdhcaaaGreatDoor
def Part (s r : List Bs) (p : AP) : Prop := match p.c with
 | .sum n f => n = cnt s p.lo p.hi ∧ f = fpB (inL s p.lo p.hi)
 | .list xs => xs = inL s p.lo p.hi
 | .ans xs ms => (∀ x, x ∈ xs ↔ (x ∈ s ∧ x ∉ r) ∧ inR p.lo p.hi x = true) ∧ (∀ x, x ∈ ms ↔ (x ∈ r ∧ x ∉ s) ∧ inR p.lo p.hi x = true)
structure Hon (s r : List Bs) (m : List AP) : Prop where
 ok : ∀ p ∈ m, p.ok
 bef : m.Pairwise Bef
 con : ∀ p ∈ m, Part s r p
theorem chain_of_bef {m : List AP} (h : m.Pairwise Bef) : chain m := by
 intro k p hp
 unfold follows
 cases hl : (m.take k).getLast? with
 | none => rfl
 | some q =>
  dsimp only
  rw [List.getLast?_eq_getElem?] at hl
  obtain ⟨h1, h2⟩ := List.getElem?_eq_some_iff.1 hl
  rw [List.getElem_take] at h2
  obtain ⟨h3, h4⟩ := List.getElem?_eq_some_iff.1 hp
  have hlt : (m.take k).length - 1 < k := by rw [List.length_take] at h1 ⊢; omega
  have hb := List.pairwise_iff_getElem.1 h ((m.take k).length - 1) k (by rw [List.length_take] at h1 ⊢; omega) h3 hlt
  rw [h2, h4] at hb
  simp [hb.1, hb.2]
theorem Hon.msg {s r : List Bs} {m : List AP} (h : Hon s r m) (hne : m ≠ []) : okMsg m := ⟨hne, h.ok, chain_of_bef h.bef⟩
theorem ordOk_filter {l : List Bs} {lo hi : Bs} (p : Bs → Bool) (h : ordOk l lo hi = true) : ordOk (l.filter p) lo hi = true := by
 unfold ordOk at h ⊢
 rw [Bool.and_eq_true, decide_eq_true_eq] at h ⊢
 refine ⟨?_, h.2.sublist List.filter_sublist⟩
 rw [List.all_eq_true] at h ⊢
 exact fun x hx => h.1 x (List.mem_filter.1 hx).1
theorem ordOk_inL {l : List Bs} (h : Asc l) (lo hi : Bs) : ordOk (inL l lo hi) lo hi = true := by
 unfold ordOk
 rw [Bool.and_eq_true, decide_eq_true_eq]
 refine ⟨?_, asc_inL h lo hi⟩
 rw [List.all_eq_true]
 exact fun x hx => (mem_inL.1 hx).2
theorem bound_mem {its : List Bs} (hs : okSet its) {a x : Bs} (ha : boundOk a = true) (h : x = a ∨ x ∈ its) : boundOk x = true := by
 rcases h with rfl | h
 ·exact ha
 ·unfold boundOk; simp [hs.1 x h]
abbrev Wt (l : List Bs) (m : List AP) : Nat := (m.map fun p => cnt l p.lo p.hi).sum
section
variable {s r : List Bs} {fan leaf : Nat}
structure RepP (s r : List Bs) (leaf : Nat) (p : AP) (l : List AP) : Prop where
 ok : ∀ q ∈ l, q.ok
 bef : l.Pairwise Bef
 con : ∀ q ∈ l, Part r s q
 sub : ∀ q ∈ l, Sub p.lo p.hi q.lo q.hi
 wt : ∀ t : List Bs, Wt t l ≤ cnt t p.lo p.hi
 len : l.length ≤ 1 + 2 * cnt r p.lo p.hi
 enc : ∀ q ∈ l, q.enc.length ≤ 100 + 32 * (cnt r q.lo q.hi + cnt s q.lo q.hi)
theorem RepP.nil (p : AP) : RepP s r leaf p [] := ⟨fun q hq => (by cases hq), List.Pairwise.nil, fun q hq => (by cases hq), fun q hq => (by cases hq), fun t => Nat.zero_le _, Nat.zero_le _, fun q hq => (by cases hq)⟩
theorem RepP.one {p q : AP} (hlo : q.lo = p.lo) (hhi : q.hi = p.hi) (h1 : q.ok) (h2 : Part r s q) (h3 : q.enc.length ≤ 100 + 32 * (cnt r q.lo q.hi + cnt s q.lo q.hi)) : RepP s r leaf p [q] := by
 refine ⟨?_, List.pairwise_singleton _ _, ?_, ?_, ?_, by simp, ?_⟩
 ·intro x hx; rw [List.mem_singleton.1 hx]; exact h1
 ·intro x hx; rw [List.mem_singleton.1 hx]; exact h2
 ·intro x hx; rw [List.mem_singleton.1 hx, hlo, hhi]; exact Sub.refl _ _
 ·intro t; simp [Wt, hlo, hhi]
 ·intro x hx; rw [List.mem_singleton.1 hx]; exact h3
theorem enc_hd {p : AP} (h : p.ok) : p.enc.length ≤ 66 + p.c.enc.length := by
 have l1 := bound_le h.1.1
 have l2 := bound_le h.1.2.1
 have e1 := num_one (n := p.lo.length) (by omega)
 have e2 := num_one (n := p.hi.length) (by omega)
 simp only [AP.enc, List.length_append]
 omega
theorem repP (hs : okSet s) (hr : okSet r) (hs4 : s.length ≤ 40) (hr4 : r.length ≤ 40) (hf : 2 ≤ fan) (hl : 1 ≤ leaf) (hl2 : leaf ≤ 64) {p : AP} (hp : p.ok) (hc : Part s r p) : RepP s r leaf p (repA r fan leaf p) := by
 obtain ⟨⟨b1, b2, b3⟩, hcok⟩ := hp
 obtain ⟨lo, hi, c⟩ := p
 dsimp only at b1 b2 b3
 cases c with
 | sum n f =>
  show RepP s r leaf _ (cmpA r fan leaf lo hi n f)
  unfold cmpA
  split
  ·exact RepP.nil _
  ·split
   ·have hle := inL_len r lo hi
    have ho : AP.ok ⟨lo, hi, .list (inL r lo hi)⟩ := ⟨⟨b1, b2, b3⟩, by omega, inL32 hr lo hi, ordOk_inL hr.2 lo hi⟩
    refine RepP.one rfl rfl ho rfl ?_
    have h1 := enc_hd ho
    have h2 := flat_len (inL32 hr lo hi)
    have h3 := num_one (n := 2) (by omega)
    have h4 := num_one (n := (inL r lo hi).length) (by omega)
    simp only [AC.enc, List.length_append, h2, h3, h4] at h1
    show _ ≤ 100 + 32 * ((inL r lo hi).length + _)
    omega
   ·rename_i hgt
    have hD := divided_ok (lo := lo) (hi := hi) hr (show 0 < (inL r lo hi).length by omega) hf
    change RepP s r leaf _ (dividA r fan lo hi)
    have hq : ∀ q ∈ dividA r fan lo hi, q.ok ∧ q.enc.length ≤ 100 := fun q hq => by
     obtain ⟨a, b, _, d, e, _⟩ := hD.part q hq
     have q1 := bound_mem hr b1 d
     have q2 := bound_mem hr b2 e
     have h5 := sumA_ok hr4 a (bound_le q1) (bound_le q2)
     refine ⟨⟨⟨q1, q2, b⟩, ?_⟩, h5.2⟩
     rw [a]
     exact ⟨Nat.le_trans (inL_len _ _ _) (by omega), fpB_len _⟩
    refine ⟨fun q h => (hq q h).1, hD.bef, fun q h => ?_, fun q h => (hD.part q h).2.2.1, fun t => Nat.le_of_eq (hD.sum t), ?_, fun q h => Nat.le_trans (hq q h).2 (by omega)⟩
    ·have a := (hD.part q h).1
     rw [a]
     exact ⟨rfl, rfl⟩
    ·have h6 := hD.len.1
     have h7 : 1 < cnt r lo hi := by show 1 < (inL r lo hi).length; omega
     show _ ≤ 1 + 2 * cnt r lo hi
     omega
 | list xs =>
  obtain rfl : xs = inL s lo hi := hc
  show RepP s r leaf _ (ansA r lo hi (inL s lo hi))
  unfold ansA
  split
  ·have o1 : ordOk (without (inL r lo hi) (inL s lo hi)) lo hi = true := ordOk_filter _ (ordOk_inL hr.2 lo hi)
   have o2 : ordOk (without (inL s lo hi) r) lo hi = true := ordOk_filter _ (ordOk_inL hs.2 lo hi)
   have a1 := without_len (inL r lo hi) (inL s lo hi)
   have a2 := without_len (inL s lo hi) r
   have a3 := inL_len r lo hi
   have a4 := inL_len s lo hi
   have c1 := without32 (m := inL s lo hi) (inL32 hr lo hi)
   have c2 := without32 (m := r) (inL32 hs lo hi)
   have ho : AP.ok ⟨lo, hi, .ans (without (inL r lo hi) (inL s lo hi)) (without (inL s lo hi) r)⟩ := ⟨⟨b1, b2, b3⟩, ⟨by omega, c1, o1⟩, by omega, c2, o2⟩
   refine RepP.one rfl rfl ho ⟨fun x => ?_, fun x => ?_⟩ ?_
   ·rw [mem_without, mem_inL, mem_inL]
    constructor
    ·rintro ⟨⟨h1, h2⟩, h3⟩; exact ⟨⟨h1, fun h => h3 ⟨h, h2⟩⟩, h2⟩
    ·rintro ⟨⟨h1, h2⟩, h3⟩; exact ⟨⟨h1, h3⟩, fun h => h2 h.1⟩
   ·rw [mem_without, mem_inL]
    constructor
    ·rintro ⟨⟨h1, h2⟩, h3⟩; exact ⟨⟨h1, h3⟩, h2⟩
    ·rintro ⟨⟨h1, h2⟩, h3⟩; exact ⟨⟨h1, h3⟩, h2⟩
   ·have h1 := enc_hd ho
    have f1 := flat_len c1
    have f2 := flat_len c2
    have h3 := num_one (n := 3) (by omega)
    have h4 := num_one (n := (without (inL r lo hi) (inL s lo hi)).length) (by omega)
    have h5 := num_one (n := (without (inL s lo hi) r).length) (by omega)
    simp only [AC.enc, List.length_append, f1, f2, h3, h4, h5] at h1
    show _ ≤ 100 + 32 * ((inL r lo hi).length + (inL s lo hi).length)
    omega
  ·exact RepP.nil _
 | ans xs ms => exact RepP.nil _
theorem sum_flat_le {f : AP → List AP} {t : List Bs} : ∀ {m : List AP}, (∀ p ∈ m, Wt t (f p) ≤ cnt t p.lo p.hi) → Wt t (m.flatMap f) ≤ Wt t m
 | [], _ => Nat.le_refl _
 | p :: m, h => by
  have ih := sum_flat_le (f := f) (t := t) (m := m) fun q hq => h q (by simp [hq])
  have h1 := h p (by simp)
  simp only [Wt, List.flatMap_cons, List.map_append, List.sum_append, List.map_cons, List.sum_cons] at ih h1 ⊢
  omega
theorem len_flat_le {f : AP → List AP} : ∀ {m : List AP}, (∀ p ∈ m, (f p).length ≤ 1 + 2 * cnt r p.lo p.hi) → (m.flatMap f).length ≤ m.length + 2 * Wt r m
 | [], _ => Nat.le_refl _
 | p :: m, h => by
  have ih := len_flat_le (f := f) (m := m) fun q hq => h q (by simp [hq])
  have h1 := h p (by simp)
  simp only [Wt, List.flatMap_cons, List.length_append, List.map_cons, List.sum_cons, List.length_cons] at ih h1 ⊢
  omega
theorem Hon.reply (hs : okSet s) (hr : okSet r) (hs4 : s.length ≤ 40) (hr4 : r.length ≤ 40) (hf : 2 ≤ fan) (hl : 1 ≤ leaf) (hl2 : leaf ≤ 64) {m : List AP} (h : Hon s r m) :
  Hon r s (replyA r fan leaf m) ∧ (∀ t, Wt t (replyA r fan leaf m) ≤ Wt t m) ∧ (replyA r fan leaf m).length ≤ m.length + 2 * Wt r m ∧ ∀ q ∈ replyA r fan leaf m, q.enc.length ≤ 100 + 32 * (cnt r q.lo q.hi + cnt s q.lo q.hi) := by
 have hR : ∀ p ∈ m, RepP s r leaf p (repA r fan leaf p) := fun p hp => repP hs hr hs4 hr4 hf hl hl2 (h.ok p hp) (h.con p hp)
 refine ⟨⟨?_, ?_, ?_⟩, fun t => sum_flat_le fun p hp => (hR p hp).wt t, len_flat_le fun p hp => (hR p hp).len, ?_⟩
 ·intro q hq
  obtain ⟨p, h1, h2⟩ := List.mem_flatMap.1 hq
  exact (hR p h1).ok q h2
 ·unfold replyA
  rw [List.pairwise_flatMap]
  refine ⟨fun p hp => (hR p hp).bef, h.bef.imp_of_mem fun {p p'} hp hp' hb q hq q' hq' => ?_⟩
  have s1 := (hR p hp).sub q hq
  have s2 := (hR p' hp').sub q' hq'
  have s3 := s1.2.resolve_left hb.1
  exact ⟨s3.1, bs_le_le (bs_le_le s3.2 hb.2) s2.1⟩
 ·intro q hq
  obtain ⟨p, h1, h2⟩ := List.mem_flatMap.1 hq
  exact (hR p h1).con q h2
 ·intro q hq
  obtain ⟨p, h1, h2⟩ := List.mem_flatMap.1 hq
  exact (hR p h1).enc q h2
end
/-! ### A run of messages -/
def sendOf (a b : List Bs) (j : Nat) : List Bs := if j % 2 = 0 then a else b
def msgA (a b : List Bs) (fan leaf : Nat) : Nat → List AP
 | 0 => [sumA a [] []]
 | j + 1 => replyA (sideOf a b j) fan leaf (msgA a b fan leaf j)
theorem send_succ (a b : List Bs) (j : Nat) : sendOf a b (j + 1) = sideOf a b j := by
 unfold sendOf sideOf
 by_cases h : j % 2 = 0
 ·rw [if_neg (by omega), if_pos h]
 ·rw [if_pos (by omega), if_neg h]
theorem side_succ (a b : List Bs) (j : Nat) : sideOf a b (j + 1) = sendOf a b j := by
 unfold sendOf sideOf
 by_cases h : j % 2 = 0
 ·rw [if_neg (by omega), if_pos h]
 ·rw [if_pos (by omega), if_neg h]
structure Sets (a b : List Bs) (fan leaf : Nat) : Prop where
 (ha : okSet a) (hb : okSet b) (ha4 : a.length ≤ 40) (hb4 : b.length ≤ 40) (hf : 2 ≤ fan) (hf2 : fan ≤ 16) (hl : 1 ≤ leaf) (hl2 : leaf ≤ 64)
structure MsgInv (a b : List Bs) (fan leaf j : Nat) (m : List AP) : Prop where
 hon : Hon (sendOf a b j) (sideOf a b j) m
 len : m.length ≤ 1 + 80 * j
 wt : ∀ t : List Bs, Wt t m ≤ t.length
 enc : ∀ q ∈ m, q.enc.length ≤ 100 + 32 * (cnt a q.lo q.hi + cnt b q.lo q.hi)
section
variable {a b : List Bs} {fan leaf : Nat}
theorem Sets.side (h : Sets a b fan leaf) (j : Nat) : (okSet (sideOf a b j) ∧ (sideOf a b j).length ≤ 40) ∧ okSet (sendOf a b j) ∧ (sendOf a b j).length ≤ 40 := by
 unfold sideOf sendOf
 split
 ·exact ⟨⟨h.hb, h.hb4⟩, h.ha, h.ha4⟩
 ·exact ⟨⟨h.ha, h.ha4⟩, h.hb, h.hb4⟩
theorem msg_inv (h : Sets a b fan leaf) : ∀ j, MsgInv a b fan leaf j (msgA a b fan leaf j)
 | 0 => by
  have e : msgA a b fan leaf 0 = [sumA a [] []] := rfl
  rw [e]
  have h0 := sumA_ok h.ha4 (p := sumA a [] []) rfl (by simp [sumA]) (by simp [sumA])
  refine ⟨⟨?_, List.pairwise_singleton _ _, ?_⟩, by simp, ?_, ?_⟩
  ·intro p hp
   rw [List.mem_singleton.1 hp]
   have := inL_len a [] []
   have h4 := h.ha4
   exact ⟨⟨by simp [sumA, boundOk], by simp [sumA, boundOk], by simp [sumA, spanOk]⟩, by omega, fpB_len _⟩
  ·intro p hp
   rw [List.mem_singleton.1 hp]
   exact ⟨rfl, rfl⟩
  ·intro t
   simp only [Wt, List.map_cons, List.map_nil, List.sum_cons, List.sum_nil]
   show (inL t [] []).length + 0 ≤ _
   rw [inL_all]
   omega
  ·intro q hq
   rw [List.mem_singleton.1 hq]
   exact Nat.le_trans h0.2 (by omega)
 | j + 1 => by
  have ih := msg_inv h j
  obtain ⟨⟨r1, r2⟩, s1, s2⟩ := h.side j
  obtain ⟨h1, h2, h3, h4⟩ := ih.hon.reply s1 r1 s2 r2 h.hf h.hl h.hl2
  have e : msgA a b fan leaf (j + 1) = replyA (sideOf a b j) fan leaf (msgA a b fan leaf j) := rfl
  rw [e]
  refine ⟨by rw [send_succ, side_succ]; exact h1, ?_, fun t => Nat.le_trans (h2 t) (ih.wt t), fun q hq => ?_⟩
  ·have := ih.wt (sideOf a b j)
   have := ih.len
   omega
  ·have h5 := h4 q hq
   have e2 : cnt (sideOf a b j) q.lo q.hi + cnt (sendOf a b j) q.lo q.hi = cnt a q.lo q.hi + cnt b q.lo q.hi := by
    unfold sideOf sendOf
    split
    ·exact Nat.add_comm _ _
    ·rfl
   rw [e2] at h5
   exact h5
theorem enc_sum : ∀ {m : List AP}, (∀ q ∈ m, q.enc.length ≤ 100 + 32 * (cnt a q.lo q.hi + cnt b q.lo q.hi)) → (m.flatMap AP.enc).length ≤ m.length * 100 + 32 * (Wt a m + Wt b m)
 | [], _ => Nat.zero_le _
 | p :: m, h => by
  have ih := enc_sum (m := m) fun q hq => h q (by simp [hq])
  have h1 := h p (by simp)
  simp only [Wt, List.flatMap_cons, List.length_append, List.map_cons, List.sum_cons, List.length_cons] at ih h1 ⊢
  omega
theorem enc_small (h : Sets a b fan leaf) {j : Nat} (hj : j ≤ 100) : (encA (msgA a b fan leaf j)).length ≤ 1048576 := by
 have hi := msg_inv h j
 have h1 := hi.len
 have h2 := enc_sum hi.enc
 have h3 := hi.wt a
 have h4 := hi.wt b
 have h5 := encA_le (msgA a b fan leaf j) (by omega)
 have := h.ha4
 have := h.hb4
 omega
theorem runM_enc (h : Sets a b fan leaf) : ∀ j, j ≤ 30 → runM a b fan leaf j = encA (msgA a b fan leaf j) ∧ runR a b fan leaf j = ⟨encA (msgA a b fan leaf (j + 1)), 0, (msgA a b fan leaf j).flatMap (needA (sideOf a b j)), (msgA a b fan leaf j).flatMap (offA (sideOf a b j))⟩ := by
 intro j hj
 have key : runM a b fan leaf j = encA (msgA a b fan leaf j) → runR a b fan leaf j = ⟨encA (msgA a b fan leaf (j + 1)), 0, (msgA a b fan leaf j).flatMap (needA (sideOf a b j)), (msgA a b fan leaf j).flatMap (offA (sideOf a b j))⟩ := by
  intro he
  unfold runR
  rw [he]
  have hs1 := enc_small h (j := j) (by omega)
  have hs2 := enc_small h (j := j + 1) (by omega)
  have e : msgA a b fan leaf (j + 1) = replyA (sideOf a b j) fan leaf (msgA a b fan leaf j) := rfl
  have hi := msg_inv h j
  rw [e] at hs2 ⊢
  generalize msgA a b fan leaf j = m at *
  by_cases hm : m = []
  ·subst hm
   rfl
  ·have hne : encA m ≠ [] := by
    unfold encA
    have hml : m.length ≠ 0 := fun e => hm (List.eq_nil_of_length_eq_zero e)
    rw [if_neg hml]
    intro e
    have e2 := congrArg List.length e
    have := numPos m.length
    rw [List.length_append, List.length_nil] at e2
    omega
   unfold stepA
   rw [if_neg hne, decA_enc (hi.hon.msg hm) (by omega)]
   dsimp only
   rw [if_neg (by omega)]
 induction j with
 | zero => exact ⟨rfl, key rfl⟩
 | succ j ih =>
  have ih' := ih (by omega) (fun he => ?_)
  ·have e : runM a b fan leaf (j + 1) = encA (msgA a b fan leaf (j + 1)) := by
    show (runR a b fan leaf j).reply = _
    rw [ih'.2]
   exact ⟨e, key e⟩
  ·unfold runR
   rw [he]
   have hs1 := enc_small h (j := j) (by omega)
   have hs2 := enc_small h (j := j + 1) (by omega)
   have e : msgA a b fan leaf (j + 1) = replyA (sideOf a b j) fan leaf (msgA a b fan leaf j) := rfl
   have hi := msg_inv h j
   rw [e] at hs2 ⊢
   generalize msgA a b fan leaf j = m at *
   by_cases hm : m = []
   ·subst hm
    rfl
   ·have hne : encA m ≠ [] := by
     unfold encA
     have hml : m.length ≠ 0 := fun e => hm (List.eq_nil_of_length_eq_zero e)
     rw [if_neg hml]
     intro e
     have e2 := congrArg List.length e
     have := numPos m.length
     rw [List.length_append, List.length_nil] at e2
     omega
    unfold stepA
    rw [if_neg hne, decA_enc (hi.hon.msg hm) (by omega)]
    dsimp only
    rw [if_neg (by omega)]
theorem encA_nil {m : List AP} : encA m = [] ↔ m = [] := by
 constructor
 ·intro h
  by_cases hm : m = []
  ·exact hm
  ·exfalso
   have hml : m.length ≠ 0 := fun e => hm (List.eq_nil_of_length_eq_zero e)
   rw [encA, if_neg hml] at h
   have e2 := congrArg List.length h
   have := numPos m.length
   rw [List.length_append, List.length_nil] at e2
   omega
 ·rintro rfl; rfl
/-! ### The end of a run -/
theorem depthN_mono {fan leaf : Nat} (hf : 2 ≤ fan) (hl : 1 ≤ leaf) : ∀ (n m : Nat), n ≤ m → depthN fan leaf n ≤ depthN fan leaf m := by
 intro n
 induction n using Nat.strongRecOn with
 | _ n ih =>
  intro m hnm
  by_cases h : leaf < n
  ·rw [depthN_step hf hl h, depthN_step hf hl (show leaf < m by omega)]
   have := ih _ (div_lt hf (by omega)) ((m + fan - 1) / fan) (Nat.div_le_div_right (by omega))
   omega
  ·rw [depthN_zero (by omega)]; exact Nat.zero_le _
theorem depthN_pow {fan leaf : Nat} (hf : 2 ≤ fan) (hl : 1 ≤ leaf) : ∀ (t n : Nat), n ≤ 2 ^ t → depthN fan leaf n ≤ t
 | 0, n, h => by rw [depthN_zero (by simp at h; omega)]; exact Nat.le_refl _
 | t + 1, n, h => by
  by_cases h1 : leaf < n
  ·rw [depthN_step hf hl h1]
   have h2 : (n + fan - 1) / fan ≤ 2 ^ t := by
    rw [← Nat.lt_succ_iff, Nat.div_lt_iff_lt_mul (by omega)]
    have h3 : 2 ^ t * 2 ≤ 2 ^ t * fan := Nat.mul_le_mul_left _ hf
    rw [Nat.pow_succ] at h
    rw [Nat.succ_mul]
    omega
   have := depthN_pow hf hl t _ h2
   omega
  ·rw [depthN_zero (by omega)]; omega
def Lev (r s : List Bs) (fan leaf : Nat) (m : List AP) (e1 e2 : Nat) : Prop := ∀ p ∈ m, ∀ n f, p.c = .sum n f → depthN fan leaf (cnt r p.lo p.hi) ≤ e1 ∧ depthN fan leaf (cnt s p.lo p.hi) ≤ e2
def NoSum (m : List AP) : Prop := ∀ p ∈ m, ∀ n f, p.c ≠ .sum n f
def NoList (m : List AP) : Prop := ∀ p ∈ m, (∀ n f, p.c ≠ .sum n f) ∧ ∀ xs, p.c ≠ .list xs
theorem lev_zero {r s : List Bs} (hl : 1 ≤ leaf) (hf : 2 ≤ fan) {m : List AP} {e2 : Nat} (h : Lev r s fan leaf m 0 e2) : NoSum (replyA r fan leaf m) := by
 intro q hq n f hc
 obtain ⟨p, h1, h2⟩ := List.mem_flatMap.1 hq
 obtain ⟨lo, hi, c⟩ := p
 cases c with
 | sum n' f' =>
  have hd := (h _ h1 n' f' rfl).1
  have h2' : q ∈ cmpA r fan leaf lo hi n' f' := h2
  unfold cmpA at h2'
  split at h2'
  ·cases h2'
  ·split at h2'
   ·rw [List.mem_singleton.1 h2'] at hc; cases hc
   ·rename_i hgt
    rw [depthN_step hf hl (show leaf < cnt r lo hi by show leaf < (inL r lo hi).length; omega)] at hd
    omega
 | list xs =>
  have h2' : q ∈ ansA r lo hi xs := h2
  unfold ansA at h2'
  split at h2'
  ·rw [List.mem_singleton.1 h2'] at hc; cases hc
  ·cases h2'
 | ans xs ms => cases h2
theorem noSum_reply {r : List Bs} {m : List AP} (h : NoSum m) : NoList (replyA r fan leaf m) := by
 intro q hq
 obtain ⟨p, h1, h2⟩ := List.mem_flatMap.1 hq
 obtain ⟨lo, hi, c⟩ := p
 cases c with
 | sum n' f' => exact absurd rfl (h _ h1 n' f')
 | list xs =>
  have h2' : q ∈ ansA r lo hi xs := h2
  unfold ansA at h2'
  split at h2'
  ·rw [List.mem_singleton.1 h2']; exact ⟨fun n f e => (by cases e), fun ys e => (by cases e)⟩
  ·cases h2'
 | ans xs ms => cases h2
theorem noList_reply {r : List Bs} {m : List AP} (h : NoList m) : replyA r fan leaf m = [] := by
 unfold replyA
 rw [List.flatMap_eq_nil_iff]
 intro p hp
 obtain ⟨h1, h2⟩ := h p hp
 obtain ⟨lo, hi, c⟩ := p
 cases c with
 | sum n f => exact absurd rfl (h1 n f)
 | list xs => exact absurd rfl (h2 xs)
 | ans xs ms => rfl
theorem lev_step {r s : List Bs} (hr : okSet r) (hl : 1 ≤ leaf) (hf : 2 ≤ fan) {m : List AP} {e1 e2 : Nat} (h : Lev r s fan leaf m (e1 + 1) e2) : Lev s r fan leaf (replyA r fan leaf m) e2 e1 := by
 intro q hq n f hc
 obtain ⟨p, h1, h2⟩ := List.mem_flatMap.1 hq
 obtain ⟨lo, hi, c⟩ := p
 cases c with
 | sum n' f' =>
  obtain ⟨d1, d2⟩ := h _ h1 n' f' rfl
  dsimp only at d1 d2
  have h2' : q ∈ cmpA r fan leaf lo hi n' f' := h2
  unfold cmpA at h2'
  split at h2'
  ·cases h2'
  ·split at h2'
   ·rw [List.mem_singleton.1 h2'] at hc; cases hc
   ·rename_i hgt
    have hgt' : leaf < cnt r lo hi := by show leaf < (inL r lo hi).length; omega
    have hD := divided_ok (lo := lo) (hi := hi) hr (show 0 < (inL r lo hi).length by omega) hf
    obtain ⟨_, _, hsub, _, _, hcn⟩ := hD.part q h2'
    rw [depthN_step hf hl hgt'] at d1
    exact ⟨Nat.le_trans (depthN_mono hf hl _ _ (cnt_sub hsub s)) d2, Nat.le_trans (depthN_mono hf hl _ _ hcn) (by omega)⟩
 | list xs =>
  have h2' : q ∈ ansA r lo hi xs := h2
  unfold ansA at h2'
  split at h2'
  ·rw [List.mem_singleton.1 h2'] at hc; cases hc
  ·cases h2'
 | ans xs ms => cases h2
theorem msg_end (h : Sets a b fan leaf) : ∀ (e j : Nat), Lev (sideOf a b j) (sendOf a b j) fan leaf (msgA a b fan leaf j) e e → msgA a b fan leaf (j + 2 * e + 3) = []
 | 0, j, hL => by
  have h1 := lev_zero h.hl h.hf hL
  have h2 := noSum_reply (fan := fan) (leaf := leaf) (r := sideOf a b (j + 1)) h1
  exact noList_reply h2
 | e + 1, j, hL => by
  have s1 := (h.side j).1.1
  have s2 := (h.side (j + 1)).1.1
  have h1 := lev_step s1 h.hl h.hf hL
  have h1' : Lev (sideOf a b (j + 1)) (sendOf a b (j + 1)) fan leaf (msgA a b fan leaf (j + 1)) (e + 1) e := by rw [side_succ, send_succ]; exact h1
  have h2 := lev_step s2 h.hl h.hf h1'
  have h2' : Lev (sideOf a b (j + 2)) (sendOf a b (j + 2)) fan leaf (msgA a b fan leaf (j + 2)) e e := by
   rw [show j + 2 = j + 1 + 1 from rfl, side_succ a b (j + 1), send_succ a b (j + 1)]; exact h2
  have := msg_end h e (j + 2) h2'
  rw [show j + 2 * (e + 1) + 3 = j + 2 + 2 * e + 3 by omega]
  exact this
theorem least_nil {f : Nat → List AP} : ∀ n, f n = [] → ∃ K, K ≤ n ∧ f K = [] ∧ ∀ j, j < K → f j ≠ []
 | 0, h => ⟨0, Nat.le_refl _, h, fun j hj => by omega⟩
 | n + 1, h => by
  by_cases h0 : ∃ m, m ≤ n ∧ f m = []
  ·obtain ⟨m, hm, h1⟩ := h0
   have key : ∀ t, ∀ m, m ≤ t → f m = [] → ∃ K, K ≤ m ∧ f K = [] ∧ ∀ j, j < K → f j ≠ [] := by
    intro t
    induction t with
    | zero => intro m hm h; exact ⟨m, Nat.le_refl _, h, fun j hj => by omega⟩
    | succ t ih =>
     intro m hm h
     by_cases hx : ∃ j, j < m ∧ f j = []
     ·obtain ⟨j, hj, hfj⟩ := hx
      obtain ⟨K, k1, k2, k3⟩ := ih j (by omega) hfj
      exact ⟨K, by omega, k2, k3⟩
     ·exact ⟨m, Nat.le_refl _, h, fun j hj e => hx ⟨j, hj, e⟩⟩
   obtain ⟨K, k1, k2, k3⟩ := key n m hm h1
   exact ⟨K, by omega, k2, k3⟩
  ·exact ⟨n + 1, Nat.le_refl _, h, fun j hj e => h0 ⟨j, by omega, e⟩⟩
theorem run_ends (h : Sets a b fan leaf) : ∃ K, RunEnds a b fan leaf K ∧ 1 ≤ K ∧ K ≤ 2 * depthN fan leaf (max a.length b.length) + 3 ∧ msgA a b fan leaf K = [] ∧ ∀ j, j < K → msgA a b fan leaf j ≠ [] := by
 have hd : depthN fan leaf (max a.length b.length) ≤ 6 := depthN_pow h.hf h.hl 6 _ (by have := h.ha4; have := h.hb4; omega)
 have hL : Lev (sideOf a b 0) (sendOf a b 0) fan leaf (msgA a b fan leaf 0) (depthN fan leaf (max a.length b.length)) (depthN fan leaf (max a.length b.length)) := by
  intro p hp n f _
  have e : msgA a b fan leaf 0 = [sumA a [] []] := rfl
  rw [e] at hp
  rw [List.mem_singleton.1 hp]
  show depthN fan leaf (inL b [] []).length ≤ _ ∧ depthN fan leaf (inL a [] []).length ≤ _
  rw [inL_all, inL_all]
  exact ⟨depthN_mono h.hf h.hl _ _ (by omega), depthN_mono h.hf h.hl _ _ (by omega)⟩
 have h1 := msg_end h _ 0 hL
 rw [Nat.zero_add] at h1
 obtain ⟨K, k1, k2, k3⟩ := least_nil _ h1
 have hK1 : 1 ≤ K := by
  rcases Nat.eq_zero_or_pos K with e | e
  ·subst e; cases k2
  ·exact e
 refine ⟨K, ⟨fun j hj => ?_, ?_, by omega⟩, hK1, k1, k2, k3⟩
 ·obtain ⟨e1, e2⟩ := runM_enc h j (by omega)
  exact ⟨by rw [e1]; exact fun e => k3 j hj (encA_nil.1 e), by rw [e2]⟩
 ·rw [(runM_enc h K (by omega)).1, k2]; rfl
end
end Go.Proofs.YtlepfnihpdhcaaaGreatDoor
namespace Go.Proofs.YtlepfnihpdhcaaaGreatDoor
abbrev awI (n : Nat) : Bs := itemB (UInt8.ofNat n)
theorem aw_sets : Sets [awI 65, awI 66, awI 67] [awI 66, awI 68] 2 1 := ⟨by decide +kernel, by decide +kernel, by decide, by decide, by decide, by decide, by decide, by decide⟩
theorem aw_m (j : Nat) (hj : j < 5) : msgA [awI 65, awI 66, awI 67] [awI 66, awI 68] 2 1 j ≠ [] := by
 intro e
 have h : (msgA [awI 65, awI 66, awI 67] [awI 66, awI 68] 2 1 j).isEmpty = true := by rw [e]; rfl
 match j, hj with
 | 0, _ => exact absurd h (by decide +kernel)
 | 1, _ => exact absurd h (by decide +kernel)
 | 2, _ => exact absurd h (by decide +kernel)
 | 3, _ => exact absurd h (by decide +kernel)
 | 4, _ => exact absurd h (by decide +kernel)
theorem aw_ends : RunEnds [awI 65, awI 66, awI 67] [awI 66, awI 68] 2 1 5 := by
 refine ⟨fun j hj => ?_, ?_, by omega⟩
 ·obtain ⟨e1, e2⟩ := runM_enc aw_sets j (by omega)
  exact ⟨by rw [e1]; exact fun e => aw_m j hj (encA_nil.1 e), by rw [e2]⟩
 ·rw [(runM_enc aw_sets 5 (by omega)).1, encA_nil]
  have h : (msgA [awI 65, awI 66, awI 67] [awI 66, awI 68] 2 1 5).isEmpty = true := by decide +kernel
  exact List.isEmpty_iff.1 h
theorem runN_5 (a b : List Bs) (fan leaf : Nat) : runN a b fan leaf 1 5 = (([] ++ (runR a b fan leaf 1).need) ++ (runR a b fan leaf 3).need, ([] ++ (runR a b fan leaf 1).off) ++ (runR a b fan leaf 3).off) := by simp [runN]
theorem aw_know : runN [awI 65, awI 66, awI 67] [awI 66, awI 68] 2 1 1 5 = ((msgA [awI 65, awI 66, awI 67] [awI 66, awI 68] 2 1 1).flatMap (needA [awI 65, awI 66, awI 67]) ++ (msgA [awI 65, awI 66, awI 67] [awI 66, awI 68] 2 1 3).flatMap (needA [awI 65, awI 66, awI 67]), (msgA [awI 65, awI 66, awI 67] [awI 66, awI 68] 2 1 1).flatMap (offA [awI 65, awI 66, awI 67]) ++ (msgA [awI 65, awI 66, awI 67] [awI 66, awI 68] 2 1 3).flatMap (offA [awI 65, awI 66, awI 67])) := by
 rw [runN_5, (runM_enc aw_sets 1 (by omega)).2, (runM_enc aw_sets 3 (by omega)).2]
 rfl
theorem aw_off : withL [] (runN [awI 65, awI 66, awI 67] [awI 66, awI 68] 2 1 1 5).2 = [awI 65, awI 67] := by
 rw [aw_know]
 decide +kernel
theorem aw_need : withL [] (runN [awI 65, awI 66, awI 67] [awI 66, awI 68] 2 1 1 5).1 = [awI 68] := by
 rw [aw_know]
 decide +kernel
theorem aw_bytes : 0 < runB [awI 65, awI 66, awI 67] [awI 66, awI 68] 2 1 5 := by
 have h := List.length_pos_iff.2 (aw_ends.go 4 (by omega)).1
 exact Nat.lt_of_lt_of_le h (Nat.le_add_left _ _)
theorem aw_depth : depthN 2 1 3 = 2 := by
 rw [depthN_step (by omega) (by omega) (by omega), depthN_step (by omega) (by omega) (by omega), depthN_zero (by omega)]
theorem aw_step (its : List Bs) (fan leaf : Nat) : (stepA its fan leaf [0]).err = 3 := by
 have h : decA [0] = none := by decide +kernel
 unfold stepA
 rw [if_neg (by simp), h]
theorem aw_one : okSet [awI 65] := by decide +kernel
theorem aw_first (its : List Bs) (h : its.length ≤ 40) : 0 < (encA [sumA its [] []]).length := List.length_pos_iff.2 (start_ok h).2.2
end Go.Proofs.YtlepfnihpdhcaaaGreatDoor
namespace Go.Proofs.YtlepfnihpdhcaaaGreatDoor
/-! ### Collisions -/
def seg (l : List Bs) (i j : Nat) : List Bs := (l.take j).drop i
def collAt (a b : List Bs) (i j k : Nat) : Prop := i ≤ j ∧ j ≤ a.length ∧ k ≤ b.length ∧ k + j - i ≤ b.length ∧ seg a i j ≠ seg b k (k + j - i) ∧ fpB (seg a i j) = fpB (seg b k (k + j - i))
def collP (a b : List Bs) : Prop := ∃ i j k, collAt a b i j k
theorem inL_seg {l : List Bs} (h : Asc l) (lo hi : Bs) : ∃ i j, i ≤ j ∧ j ≤ l.length ∧ inL l lo hi = seg l i j ∧ (inL l lo hi).length = j - i := by
 have h1 := posB_le l lo
 have h2 := posB_le l hi
 have hj : max (posB l lo) (if hi = [] then l.length else posB l hi) ≤ l.length := by split <;> omega
 refine ⟨posB l lo, max (posB l lo) (if hi = [] then l.length else posB l hi), by omega, hj, (inL_part h lo hi).symm, ?_⟩
 rw [← inL_part h lo hi, List.length_drop, List.length_take, Nat.min_eq_left hj]
theorem no_coll {a b : List Bs} (ha : Asc a) (hb : Asc b) (h : ¬ collP a b) {lo hi : Bs} (hl : cnt a lo hi = cnt b lo hi) (hf : fpB (inL a lo hi) = fpB (inL b lo hi)) : inL a lo hi = inL b lo hi := by
 obtain ⟨i, j, h1, h2, h3, h4⟩ := inL_seg ha lo hi
 obtain ⟨k, n, k1, k2, k3, k4⟩ := inL_seg hb lo hi
 have hl' : (inL a lo hi).length = (inL b lo hi).length := hl
 have hn : n = k + j - i := by omega
 rw [h3, k3, hn] at hf ⊢
 apply Classical.byContradiction
 intro hne
 exact h ⟨i, j, k, h1, h2, by omega, by omega, hne, hf⟩
/-! ### What both sides know -/
structure Know (s r : List Bs) (m : List AP) (R S : List Bs × List Bs) : Prop where
 r1 : ∀ x ∈ R.1, x ∈ s ∧ x ∉ r
 r2 : ∀ x ∈ R.2, x ∈ r ∧ x ∉ s
 s1 : ∀ x ∈ S.1, x ∈ r ∧ x ∉ s
 s2 : ∀ x ∈ S.2, x ∈ s ∧ x ∉ r
 l1 : ∀ x, x ∈ S.1 ↔ x ∈ R.2 ∨ ∃ p ∈ m, ∃ xs ms, p.c = .ans xs ms ∧ x ∈ ms
 l2 : ∀ x, x ∈ S.2 ↔ x ∈ R.1 ∨ ∃ p ∈ m, ∃ xs ms, p.c = .ans xs ms ∧ x ∈ xs
def NoC (s r : List Bs) : Prop := ∀ lo hi, cnt r lo hi = cnt s lo hi → fpB (inL r lo hi) = fpB (inL s lo hi) → inL r lo hi = inL s lo hi
def Pend (s r : List Bs) (m : List AP) (S : List Bs × List Bs) : Prop := ∀ x, (x ∈ s ∧ x ∉ r ∨ x ∈ r ∧ x ∉ s) → (∃ p ∈ m, (∀ xs ms, p.c ≠ .ans xs ms) ∧ inR p.lo p.hi x = true) ∨ x ∈ S.1 ∨ x ∈ S.2
section
variable {s r : List Bs} {fan leaf : Nat} {m : List AP} {R S : List Bs × List Bs}
theorem ans_of {lo hi : Bs} {n : Nat} {f : Bs} {q : AP} (hq : q ∈ cmpA r fan leaf lo hi n f) (hr : okSet r) (hf : 2 ≤ fan) (hl : 1 ≤ leaf) : ∀ xs ms, q.c ≠ .ans xs ms := by
 intro xs ms e
 unfold cmpA at hq
 split at hq
 ·cases hq
 ·split at hq
  ·rw [List.mem_singleton.1 hq] at e; cases e
  ·have hD := divided_ok (lo := lo) (hi := hi) hr (show 0 < (inL r lo hi).length by omega) hf
   rw [(hD.part q hq).1] at e
   cases e
theorem ansA_mem {lo hi : Bs} {xs : List Bs} {x : Bs} (h : x ∈ without (inL r lo hi) xs ∨ x ∈ without xs r) : ansA r lo hi xs = [⟨lo, hi, .ans (without (inL r lo hi) xs) (without xs r)⟩] := by
 unfold ansA
 rw [if_pos]
 rcases h with h | h
 ·have := List.length_pos_of_mem h; omega
 ·have := List.length_pos_of_mem h; omega
theorem ans_from (hr : okSet r) (hf : 2 ≤ fan) (hl : 1 ≤ leaf) {q : AP} {xs ms : List Bs} (hq : q ∈ replyA r fan leaf m) (hc : q.c = .ans xs ms) : ∃ p ∈ m, ∃ ys, p.c = .list ys ∧ xs = without (inL r p.lo p.hi) ys ∧ ms = without ys r := by
 obtain ⟨p, h1, h2⟩ := List.mem_flatMap.1 hq
 obtain ⟨lo, hi, c⟩ := p
 cases c with
 | sum n f => exact absurd hc (ans_of (show q ∈ cmpA r fan leaf lo hi n f from h2) hr hf hl xs ms)
 | list ys =>
  have h2' : q ∈ ansA r lo hi ys := h2
  unfold ansA at h2'
  split at h2'
  ·rw [List.mem_singleton.1 h2'] at hc
   injection hc with e1 e2
   exact ⟨_, h1, ys, rfl, e1.symm, e2.symm⟩
  ·cases h2'
 | ans ys zs => cases h2
theorem Know.step (hr : okSet r) (hf : 2 ≤ fan) (hl : 1 ≤ leaf) (hH : Hon s r m) (h : Know s r m R S) :
  Know r s (replyA r fan leaf m) S (R.1 ++ m.flatMap (needA r), R.2 ++ m.flatMap (offA r)) := by
 have hneed : ∀ p ∈ m, ∀ x ∈ needA r p, x ∈ s ∧ x ∉ r := by
  intro p hp x hx
  have hc := hH.con p hp
  obtain ⟨lo, hi, c⟩ := p
  cases c with
  | sum n f => cases hx
  | list xs =>
   obtain rfl : xs = inL s lo hi := hc
   obtain ⟨h1, h2⟩ := mem_without.1 (show x ∈ without (inL s lo hi) r from hx)
   exact ⟨(mem_inL.1 h1).1, h2⟩
  | ans xs ms =>
   obtain ⟨h1, h2⟩ := mem_without.1 (show x ∈ without xs r from hx)
   exact ((hc.1 x).1 h1).1
 have hoff : ∀ p ∈ m, ∀ x ∈ offA r p, x ∈ r ∧ x ∉ s := by
  intro p hp x hx
  have hc := hH.con p hp
  obtain ⟨lo, hi, c⟩ := p
  cases c with
  | sum n f => cases hx
  | list xs =>
   obtain rfl : xs = inL s lo hi := hc
   obtain ⟨h1, h2⟩ := mem_without.1 (show x ∈ without (inL r lo hi) (inL s lo hi) from hx)
   obtain ⟨h3, h4⟩ := mem_inL.1 h1
   exact ⟨h3, fun h5 => h2 (mem_inL.2 ⟨h5, h4⟩)⟩
  | ans xs ms =>
   obtain ⟨h1, h2⟩ := mem_keepIn.1 (show x ∈ keepIn ms r from hx)
   exact ((hc.2 x).1 h1).1
 refine ⟨h.s1, h.s2, ?_, ?_, ?_, ?_⟩
 ·intro x hx
  rcases List.mem_append.1 hx with hx | hx
  ·exact h.r1 x hx
  ·obtain ⟨p, hp, hx⟩ := List.mem_flatMap.1 hx
   exact hneed p hp x hx
 ·intro x hx
  rcases List.mem_append.1 hx with hx | hx
  ·exact h.r2 x hx
  ·obtain ⟨p, hp, hx⟩ := List.mem_flatMap.1 hx
   exact hoff p hp x hx
 ·intro x
  rw [List.mem_append, h.l2 x]
  constructor
  ·rintro (hx | hx)
   ·exact .inl (.inl hx)
   ·obtain ⟨p, hp, hx⟩ := List.mem_flatMap.1 hx
    obtain ⟨lo, hi, c⟩ := p
    cases c with
    | sum n f => cases hx
    | list xs =>
     have hx' : x ∈ without xs r := hx
     refine .inr ⟨⟨lo, hi, .ans (without (inL r lo hi) xs) (without xs r)⟩, List.mem_flatMap.2 ⟨_, hp, ?_⟩, _, _, rfl, hx'⟩
     show _ ∈ ansA r lo hi xs
     rw [ansA_mem (.inr hx')]
     exact List.mem_singleton.2 rfl
    | ans xs ms =>
     have hx' : x ∈ without xs r := hx
     exact .inl (.inr ⟨_, hp, xs, ms, rfl, (mem_without.1 hx').1⟩)
  ·rintro ((hx | ⟨p, hp, xs, ms, hc, hx⟩) | ⟨q, hq, xs, ms, hc, hx⟩)
   ·exact .inl hx
   ·refine .inr (List.mem_flatMap.2 ⟨p, hp, ?_⟩)
    have hP := hH.con p hp
    obtain ⟨lo, hi, c⟩ := p
    obtain rfl : c = .ans xs ms := hc
    exact mem_without.2 ⟨hx, ((hP.1 x).1 hx).1.2⟩
   ·obtain ⟨p, hp, ys, hpc, rfl, rfl⟩ := ans_from hr hf hl hq hc
    refine .inr (List.mem_flatMap.2 ⟨p, hp, ?_⟩)
    obtain ⟨lo, hi, c⟩ := p
    obtain rfl : c = .list ys := hpc
    exact hx
 ·intro x
  rw [List.mem_append, h.l1 x]
  constructor
  ·rintro (hx | hx)
   ·exact .inl (.inl hx)
   ·obtain ⟨p, hp, hx⟩ := List.mem_flatMap.1 hx
    obtain ⟨lo, hi, c⟩ := p
    cases c with
    | sum n f => cases hx
    | list xs =>
     have hx' : x ∈ without (inL r lo hi) xs := hx
     refine .inr ⟨⟨lo, hi, .ans (without (inL r lo hi) xs) (without xs r)⟩, List.mem_flatMap.2 ⟨_, hp, ?_⟩, _, _, rfl, hx'⟩
     show _ ∈ ansA r lo hi xs
     rw [ansA_mem (.inl hx')]
     exact List.mem_singleton.2 rfl
    | ans xs ms =>
     have hx' : x ∈ keepIn ms r := hx
     exact .inl (.inr ⟨_, hp, xs, ms, rfl, (mem_keepIn.1 hx').1⟩)
  ·rintro ((hx | ⟨p, hp, xs, ms, hc, hx⟩) | ⟨q, hq, xs, ms, hc, hx⟩)
   ·exact .inl hx
   ·refine .inr (List.mem_flatMap.2 ⟨p, hp, ?_⟩)
    have hP := hH.con p hp
    obtain ⟨lo, hi, c⟩ := p
    obtain rfl : c = .ans xs ms := hc
    exact mem_keepIn.2 ⟨hx, ((hP.2 x).1 hx).1.1⟩
   ·obtain ⟨p, hp, ys, hpc, rfl, rfl⟩ := ans_from hr hf hl hq hc
    refine .inr (List.mem_flatMap.2 ⟨p, hp, ?_⟩)
    obtain ⟨lo, hi, c⟩ := p
    obtain rfl : c = .list ys := hpc
    exact hx
theorem Pend.step (hr : okSet r) (hf : 2 ≤ fan) (hl : 1 ≤ leaf) (hH : Hon s r m) (hN : NoC s r) (hK : Know s r m R S) (h : Pend s r m S) :
  Pend r s (replyA r fan leaf m) (R.1 ++ m.flatMap (needA r), R.2 ++ m.flatMap (offA r)) := by
 intro x hx
 rcases h x hx.symm with ⟨p, hp, hna, hin⟩ | hx1 | hx2
 ·have hc := hH.con p hp
  obtain ⟨lo, hi, c⟩ := p
  cases c with
  | sum n f =>
   obtain ⟨e1, e2⟩ : n = cnt s lo hi ∧ f = fpB (inL s lo hi) := hc
   have hin : inR lo hi x = true := hin
   subst e1 e2
   have hsub : ∀ q ∈ cmpA r fan leaf lo hi (cnt s lo hi) (fpB (inL s lo hi)), q ∈ replyA r fan leaf m := fun q hq => List.mem_flatMap.2 ⟨_, hp, hq⟩
   unfold cmpA at hsub
   split at hsub
   ·rename_i he
    have e := hN lo hi he.1 he.2
    exfalso
    have h1 : x ∈ inL r lo hi ↔ x ∈ inL s lo hi := by rw [e]
    rw [mem_inL, mem_inL] at h1
    rcases hx with ⟨a, b⟩ | ⟨a, b⟩
    ·exact b (h1.1 ⟨a, hin⟩).1
    ·exact b (h1.2 ⟨a, hin⟩).1
   ·split at hsub
    ·exact .inl ⟨_, hsub _ (List.mem_singleton.2 rfl), (fun xs ms e => by cases e), hin⟩
    ·have hD := divided_ok (lo := lo) (hi := hi) hr (show 0 < (inL r lo hi).length by omega) hf
     obtain ⟨q, hq, hqi⟩ := hD.cover x hin
     refine .inl ⟨q, hsub q hq, fun xs ms e => ?_, hqi⟩
     rw [(hD.part q hq).1] at e
     cases e
  | list xs =>
   obtain rfl : xs = inL s lo hi := hc
   rcases hx with ⟨a, b⟩ | ⟨a, b⟩
   ·refine .inr (.inr (List.mem_append_right _ (List.mem_flatMap.2 ⟨_, hp, ?_⟩)))
    exact mem_without.2 ⟨mem_inL.2 ⟨a, hin⟩, fun h => b (mem_inL.1 h).1⟩
   ·refine .inr (.inl (List.mem_append_right _ (List.mem_flatMap.2 ⟨_, hp, ?_⟩)))
    exact mem_without.2 ⟨mem_inL.2 ⟨a, hin⟩, b⟩
  | ans xs ms => exact absurd rfl (hna xs ms)
 ·refine .inr (.inr ?_)
  rcases (hK.l1 x).1 hx1 with h1 | ⟨p, hp, xs, ms, hc, h1⟩
  ·exact List.mem_append_left _ h1
  ·refine List.mem_append_right _ (List.mem_flatMap.2 ⟨p, hp, ?_⟩)
   have hP := hH.con p hp
   obtain ⟨lo, hi, c⟩ := p
   obtain rfl : c = .ans xs ms := hc
   exact mem_keepIn.2 ⟨h1, ((hP.2 x).1 h1).1.1⟩
 ·refine .inr (.inl ?_)
  rcases (hK.l2 x).1 hx2 with h1 | ⟨p, hp, xs, ms, hc, h1⟩
  ·exact List.mem_append_left _ h1
  ·refine List.mem_append_right _ (List.mem_flatMap.2 ⟨p, hp, ?_⟩)
   have hP := hH.con p hp
   obtain ⟨lo, hi, c⟩ := p
   obtain rfl : c = .ans xs ms := hc
   exact mem_without.2 ⟨h1, ((hP.1 x).1 h1).1.2⟩
end
section
variable {a b : List Bs} {fan leaf : Nat}
theorem runN_step (h : Sets a b fan leaf) {j : Nat} (hj : j ≤ 30) : runN a b fan leaf ((j + 1 + 1) % 2) (j + 1) = ((runN a b fan leaf (j % 2) j).1 ++ (msgA a b fan leaf j).flatMap (needA (sideOf a b j)), (runN a b fan leaf (j % 2) j).2 ++ (msgA a b fan leaf j).flatMap (offA (sideOf a b j))) ∧ runN a b fan leaf ((j + 1) % 2) (j + 1) = runN a b fan leaf ((j + 1) % 2) j := by
 have e : (j + 1 + 1) % 2 = j % 2 := by omega
 refine ⟨?_, ?_⟩
 ·rw [e, runN, if_pos rfl, (runM_enc h j hj).2]
 ·rw [runN, if_neg (by omega)]
theorem know_all (h : Sets a b fan leaf) : ∀ j, j ≤ 30 → Know (sendOf a b j) (sideOf a b j) (msgA a b fan leaf j) (runN a b fan leaf (j % 2) j) (runN a b fan leaf ((j + 1) % 2) j) ∧ (¬ collP a b → Pend (sendOf a b j) (sideOf a b j) (msgA a b fan leaf j) (runN a b fan leaf ((j + 1) % 2) j))
 | 0, _ => by
  refine ⟨⟨by simp [runN], by simp [runN], by simp [runN], by simp [runN], fun x => ?_, fun x => ?_⟩, fun _ x hx => ?_⟩
  ·simp [runN, msgA, sumA]
  ·simp [runN, msgA, sumA]
  ·exact .inl ⟨sumA a [] [], by simp [msgA], (fun xs ms e => by cases e), inR_iff.2 ⟨nil_le x, .inl rfl⟩⟩
 | j + 1, hj => by
  obtain ⟨k1, k2⟩ := know_all h j (by omega)
  have hH := (msg_inv h j).hon
  have hr := (h.side j).1.1
  obtain ⟨e1, e2⟩ := runN_step h (j := j) (by omega)
  have em : msgA a b fan leaf (j + 1) = replyA (sideOf a b j) fan leaf (msgA a b fan leaf j) := rfl
  rw [send_succ, side_succ, e1, e2, em]
  refine ⟨k1.step hr h.hf h.hl hH, fun hc => Pend.step hr h.hf h.hl hH ?_ k1 (k2 hc)⟩
  intro lo hi hcn hfp
  by_cases hpar : j % 2 = 0
  ·have e1 : sideOf a b j = b := if_pos hpar
   have e2 : sendOf a b j = a := if_pos hpar
   rw [e1, e2] at hcn hfp ⊢
   exact (no_coll h.ha.2 h.hb.2 hc hcn.symm hfp.symm).symm
  ·have e1 : sideOf a b j = a := if_neg hpar
   have e2 : sendOf a b j = b := if_neg hpar
   rw [e1, e2] at hcn hfp ⊢
   exact no_coll h.ha.2 h.hb.2 hc hcn hfp
theorem know_end (h : Sets a b fan leaf) {K : Nat} (hK : K ≤ 30) (hm : msgA a b fan leaf K = []) :
  (∀ x, x ∈ (runN a b fan leaf 1 K).1 ↔ x ∈ (runN a b fan leaf 0 K).2) ∧ (∀ x, x ∈ (runN a b fan leaf 1 K).2 ↔ x ∈ (runN a b fan leaf 0 K).1) ∧
  (∀ x ∈ (runN a b fan leaf 1 K).1, x ∈ b ∧ x ∉ a) ∧ (∀ x ∈ (runN a b fan leaf 1 K).2, x ∈ a ∧ x ∉ b) ∧
  (¬ collP a b → (∀ x, x ∈ b → x ∉ a → x ∈ (runN a b fan leaf 1 K).1) ∧ ∀ x, x ∈ a → x ∉ b → x ∈ (runN a b fan leaf 1 K).2) := by
 obtain ⟨k1, k2⟩ := know_all h K hK
 rw [hm] at k1 k2
 have l1 : ∀ x, x ∈ (runN a b fan leaf ((K + 1) % 2) K).1 ↔ x ∈ (runN a b fan leaf (K % 2) K).2 := fun x => by rw [k1.l1 x]; simp
 have l2 : ∀ x, x ∈ (runN a b fan leaf ((K + 1) % 2) K).2 ↔ x ∈ (runN a b fan leaf (K % 2) K).1 := fun x => by rw [k1.l2 x]; simp
 have hp : ¬ collP a b → ∀ x, (x ∈ sendOf a b K ∧ x ∉ sideOf a b K ∨ x ∈ sideOf a b K ∧ x ∉ sendOf a b K) → x ∈ (runN a b fan leaf ((K + 1) % 2) K).1 ∨ x ∈ (runN a b fan leaf ((K + 1) % 2) K).2 := fun hc x hx => by
  rcases k2 hc x hx with ⟨p, hp, _⟩ | h
  ·cases hp
  ·exact h
 have r1 := k1.r1
 have r2 := k1.r2
 have s1 := k1.s1
 have s2 := k1.s2
 unfold sendOf sideOf at *
 by_cases hpar : K % 2 = 0
 ·have e : (K + 1) % 2 = 1 := by omega
  rw [e, hpar] at l1 l2
  rw [e] at s1 s2 hp
  simp only [if_pos hpar] at s1 s2 hp
  refine ⟨l1, l2, s1, s2, fun hc => ⟨fun x h1 h2 => ?_, fun x h1 h2 => ?_⟩⟩
  ·rcases hp hc x (.inr ⟨h1, h2⟩) with h3 | h3
   ·exact h3
   ·exact absurd (s2 x h3).1 h2
  ·rcases hp hc x (.inl ⟨h1, h2⟩) with h3 | h3
   ·exact absurd (s1 x h3).1 h2
   ·exact h3
 ·have e : (K + 1) % 2 = 0 := by omega
  have e1 : K % 2 = 1 := by omega
  rw [e, e1] at l1 l2
  rw [e1] at r1 r2
  rw [e] at hp
  simp only [if_neg hpar] at r1 r2 hp
  refine ⟨fun x => (l2 x).symm, fun x => (l1 x).symm, r1, r2, fun hc => ⟨fun x h1 h2 => ?_, fun x h1 h2 => ?_⟩⟩
  ·rcases hp hc x (.inl ⟨h1, h2⟩) with h3 | h3
   ·exact absurd (r2 x ((l1 x).1 h3)).1 h2
   ·exact (l2 x).1 h3
  ·rcases hp hc x (.inr ⟨h1, h2⟩) with h3 | h3
   ·exact (l1 x).1 h3
   ·exact absurd (r1 x ((l2 x).1 h3)).1 h2
theorem run_both (h : Sets a b fan leaf) {K : Nat} (hK : K ≤ 30) (hm : msgA a b fan leaf K = []) : withL [] (runN a b fan leaf 0 K).1 = withL [] (runN a b fan leaf 1 K).2 ∧ withL [] (runN a b fan leaf 0 K).2 = withL [] (runN a b fan leaf 1 K).1 := by
 obtain ⟨l1, l2, _⟩ := know_end h hK hm
 refine ⟨asc_ext (withL_asc0 _) (withL_asc0 _) fun x => ?_, asc_ext (withL_asc0 _) (withL_asc0 _) fun x => ?_⟩
 ·rw [mem_withL0, mem_withL0]; exact (l2 x).symm
 ·rw [mem_withL0, mem_withL0]; exact (l1 x).symm
theorem nodup_sub_len {α : Type} [DecidableEq α] : ∀ {l m : List α}, l.Nodup → (∀ x ∈ l, x ∈ m) → l.length ≤ m.length
 | [], _, _, _ => Nat.zero_le _
 | x :: l, m, h, hs => by
  obtain ⟨h1, h2⟩ := List.nodup_cons.1 h
  have hx := hs x List.mem_cons_self
  have ih := nodup_sub_len (m := m.erase x) h2 fun y hy => (List.mem_erase_of_ne (fun e => h1 (by rw [← e]; exact hy))).2 (hs y (List.mem_cons_of_mem _ hy))
  rw [List.length_erase_of_mem hx] at ih
  have := List.length_pos_of_mem hx
  rw [List.length_cons]
  omega
theorem asc_sub_len {l m : List Bs} (h : Asc l) (hs : ∀ x ∈ l, x ∈ m) : l.length ≤ m.length := nodup_sub_len (h.imp fun {x y} h e => by subst e; exact b_lt_irrefl h) hs
theorem run_small (h : Sets a b fan leaf) {K : Nat} (hK : K ≤ 30) (hm : msgA a b fan leaf K = []) : (withL [] (runN a b fan leaf 1 K).2).length ≤ 40 ∧ (withL [] (runN a b fan leaf 1 K).1).length ≤ 40 := by
 obtain ⟨_, _, s1, s2, _⟩ := know_end h hK hm
 exact ⟨Nat.le_trans (asc_sub_len (withL_asc0 _) fun x hx => (s2 x (mem_withL0.1 hx)).1) h.ha4, Nat.le_trans (asc_sub_len (withL_asc0 _) fun x hx => (s1 x (mem_withL0.1 hx)).1) h.hb4⟩
end
end Go.Proofs.YtlepfnihpdhcaaaGreatDoor
namespace Go.Proofs.YtlepfnihpdhcaaaGreatDoor
open Go.RowKit
section
variable {prev : List QC} {l lo hi l1 l2 l3 l4 l5 f : Bs} {b1 b2 b3 b4 b5 : Bool} {k n : Nat} {xs ms : List Bs}
theorem ptR_k (h30 : bdR l false = (lo, l1, b1)) (h32 : bdR l1 b1 = (hi, l2, b2)) (h35 : nmR l2 b2 3 = (k, l3, b3)) : ptR prev l false = ptK lo hi k l3 (b3 || gapR prev lo hi) := by
 unfold ptR
 rw [h30]; dsimp only; rw [h32]; dsimp only; rw [h35]
theorem ptR_1 (h30 : bdR l false = (lo, l1, b1)) (h32 : bdR l1 b1 = (hi, l2, b2)) (h35 : nmR l2 b2 3 = (k, l3, b3)) (hk : k = 1)
  (h82 : nmR l3 (b3 || gapR prev lo hi) 16384 = (n, l4, b4)) (h85 : (tkV l4 b4 32, tkL l4 b4 32, tkB l4 b4 32) = (f, l5, b5)) : ptR prev l false = (⟨lo, hi, k, n, f, [], []⟩, l5, b5) := by
 rw [ptR_k h30 h32 h35]
 subst hk
 rw [ptK, if_pos rfl, h82]
 dsimp only
 rw [Prod.mk.injEq, Prod.mk.injEq] at h85
 rw [h85.1, h85.2.1, h85.2.2]
theorem ptR_2 (h30 : bdR l false = (lo, l1, b1)) (h32 : bdR l1 b1 = (hi, l2, b2)) (h35 : nmR l2 b2 3 = (k, l3, b3)) (hk : k = 2)
  (h91 : itR l3 (b3 || gapR prev lo hi) 64 lo hi = (xs, l4, b4)) : ptR prev l false = (⟨lo, hi, k, 0, [], xs, []⟩, l4, b4) := by
 rw [ptR_k h30 h32 h35]
 subst hk
 rw [ptK, if_neg (by omega), if_pos rfl, h91]
theorem ptR_3 (h30 : bdR l false = (lo, l1, b1)) (h32 : bdR l1 b1 = (hi, l2, b2)) (h35 : nmR l2 b2 3 = (k, l3, b3)) (hk : k = 3)
  (h97 : itR l3 (b3 || gapR prev lo hi) 16384 lo hi = (xs, l4, b4)) (h101 : itR l4 b4 16384 lo hi = (ms, l5, b5)) : ptR prev l false = (⟨lo, hi, k, 0, [], xs, ms⟩, l5, b5) := by
 rw [ptR_k h30 h32 h35]
 subst hk
 rw [ptK, if_neg (by omega), if_neg (by omega), if_pos rfl, h97]
 dsimp only
 rw [h101]
theorem ptR_0 (h30 : bdR l false = (lo, l1, b1)) (h32 : bdR l1 b1 = (hi, l2, b2)) (h35 : nmR l2 b2 3 = (k, l3, b3)) (hk1 : ¬ k = 1) (hk2 : ¬ k = 2) (hk3 : ¬ k = 3) : ptR prev l false = (⟨lo, hi, k, 0, [], [], []⟩, l3, true) := by
 rw [ptR_k h30 h32 h35, ptK, if_neg hk1, if_neg hk2, if_neg hk3]
theorem gap_span (h1 : hi ≠ []) (h2 : ¬ lo < hi) : gapR prev lo hi = true := by
 unfold gapR
 rw [decide_eq_true h1, decide_eq_true h2]; rfl
theorem gap_none (h : hi = [] ∨ lo < hi) (hp : prev.length = 0) : gapR prev lo hi = false := by
 obtain rfl : prev = [] := List.eq_nil_of_length_eq_zero hp
 unfold gapR
 rcases h with h | h <;> simp [h]
theorem gap_last {q : QC} (h : hi = [] ∨ lo < hi) (hq : prev[prev.length - 1]? = some q) : gapR prev lo hi = (decide (q.hi = []) || decide (lo < q.hi)) := by
 unfold gapR
 rw [List.getLast?_eq_getElem?, hq]
 rcases h with h | h <;> simp [h]
end
theorem len_eq0 (n : Nat) : (((n : Nat) : Int) == 0) = decide (n = 0) := by
 by_cases h : n = 0 <;> simp [h]
theorem psR_full {l : Bs} {b : Bool} {k : Nat} (h : (psR l b k).2.2 = false) : (psR l b k).1.length = k := (psR_sound l b k h).2.1
abbrev RL := List (Option Addr × List Bs)
def QIn (L : RL) (qs : List QV) : Prop := ∀ q ∈ qs, ∀ r ∈ q.rows, r ∈ L ∨ r.2 = []
theorem QIn.nil {L : RL} : QIn L [] := fun q hq => by cases hq
theorem QIn.append {L M : RL} {a b : List QV} (h : QIn L a) (k : QIn M b) : QIn (L ++ M) (a ++ b) := by
 intro q hq r hr
 rcases List.mem_append.1 hq with hq | hq
 ·exact (h q hq r hr).imp (List.mem_append_left _) id
 ·exact (k q hq r hr).imp (List.mem_append_right _) id
theorem QIn.same {L : RL} {a b : List QV} (h : QIn L a) (k : QIn [] b) : QIn L (a ++ b) := by have := h.append k; rwa [List.append_nil] at this
theorem QIn.ok {L : RL} {qs : List QV} {w : World} (h : QIn L qs) (hL : (cBag L).holds w) : QsOk qs w := fun q hq r hr => (h q hq r hr).elim (fun hm => (hL r hm).1) (fun hf => by rw [hf]; exact fun j v hj => by simp at hj)
theorem qin0 {lo hi f : Bs} {k n : Nat} {A B : Option Addr} {c d : Nat} : QIn [] [⟨lo, hi, k, n, f, A, c, [], B, d, []⟩] := by
 intro q hq r hr
 rw [List.mem_singleton.1 hq] at hr
 simp only [QV.rows, List.mem_cons, List.not_mem_nil, or_false] at hr
 rcases hr with rfl | rfl <;> exact .inr rfl
theorem qin1 {lo hi f : Bs} {k n : Nat} {A B : Option Addr} {c d : Nat} {xs : List Bs} : QIn [(A, xs)] [⟨lo, hi, k, n, f, A, c, xs, B, d, []⟩] := by
 intro q hq r hr
 rw [List.mem_singleton.1 hq] at hr
 simp only [QV.rows, List.mem_cons, List.not_mem_nil, or_false] at hr
 rcases hr with rfl | rfl
 ·exact .inl (by simp)
 ·exact .inr rfl
theorem qin2 {lo hi f : Bs} {k n : Nat} {A B : Option Addr} {c d : Nat} {xs ms : List Bs} : QIn ([(A, xs)] ++ [(B, ms)]) [⟨lo, hi, k, n, f, A, c, xs, B, d, ms⟩] := by
 intro q hq r hr
 rw [List.mem_singleton.1 hq] at hr
 simp only [QV.rows, List.mem_cons, List.not_mem_nil, or_false] at hr
 rcases hr with rfl | rfl <;> exact .inl (by simp)
theorem qin_sums {L : RL} {qs : List QV} (h : ∀ q ∈ qs, Summed q) : QIn L qs := fun q hq r hr => by
 rw [(h q hq).2] at hr
 simp only [List.mem_cons, List.not_mem_nil, or_false, or_self] at hr
 rw [hr]; exact .inr rfl
/-! ### The specification's step -/
structure QInv (its : List Bs) (fan leaf : Nat) (qs : List QV) (i : Nat) (rp : List QV) (nl ol : List Bs) (L : RL) : Prop where
 le : i ≤ qs.length
 rep : rp.map QV.abs = (qs.take i).flatMap fun q => repA its fan leaf q.abs
 need : nl = (qs.take i).flatMap fun q => needA its q.abs
 off : ol = (qs.take i).flatMap fun q => offA its q.abs
 src : QIn L rp
 kok : ∀ q ∈ rp, q.kOk
 len1 : rp.length ≤ i * 17
 len2 : nl.length ≤ i * 16384
 len3 : ol.length ≤ i * 16384
section
variable {its : List Bs} {fan leaf : Nat} {qs rp ps2 : List QV} {i : Nat} {q : QV} {nl ol n2 o2 : List Bs} {L M : RL}
theorem QInv.zero : QInv its fan leaf qs 0 [] [] [] [] := ⟨Nat.zero_le _, rfl, rfl, rfl, QIn.nil, (fun q hq => by cases hq), by rw [Nat.zero_mul]; exact Nat.le_refl 0, by rw [Nat.zero_mul]; exact Nat.le_refl 0, by rw [Nat.zero_mul]; exact Nat.le_refl 0⟩
theorem QInv.next (h : QInv its fan leaf qs i rp nl ol L) (hx : qs[i]? = some q) (he : ps2.map QV.abs = repA its fan leaf q.abs) (hs : QIn M ps2) (hk : ∀ p ∈ ps2, p.kOk) (hn : n2 = needA its q.abs) (ho : o2 = offA its q.abs) (hr : RepOk (repA its fan leaf q.abs)) (hn4 : (needA its q.abs).length ≤ 16384) (ho4 : (offA its q.abs).length ≤ 16384) :
  QInv its fan leaf qs (i + 1) (rp ++ ps2) (nl ++ n2) (ol ++ o2) (L ++ M) := by
 have hl : ps2.length ≤ 17 := by rw [← List.length_map (f := QV.abs), he]; exact hr.cnt
 have h1 := h.len1
 have h2 := h.len2
 have h3 := h.len3
 refine ⟨(List.getElem?_eq_some_iff.1 hx).1, ?_, ?_, ?_, h.src.append hs, ?_, ?_, ?_, ?_⟩
 ·rw [List.map_append, h.rep, he]; exact flat_step (g := fun q => repA its fan leaf q.abs) hx
 ·rw [h.need, hn]; exact flat_step (g := fun q => needA its q.abs) hx
 ·rw [h.off, ho]; exact flat_step (g := fun q => offA its q.abs) hx
 ·intro p hp
  rcases List.mem_append.1 hp with hp | hp
  ·exact h.kok p hp
  ·exact hk p hp
 ·rw [List.length_append]; omega
 ·rw [List.length_append, hn]; omega
 ·rw [List.length_append, ho]; omega
theorem q_abs1 (h : q.k = 1) : q.abs = ⟨q.lo, q.hi, .sum q.n q.f⟩ := by simp [QV.abs, h]
theorem q_abs2 (h : q.k = 2) : q.abs = ⟨q.lo, q.hi, .list q.xs⟩ := by simp [QV.abs, h]
theorem q_abs3 (h : q.k = 3) : q.abs = ⟨q.lo, q.hi, .ans q.xs q.ms⟩ := by simp [QV.abs, h]
theorem off_len4 (h4 : its.length ≤ 40) {p : AP} (hp : p.ok) : (offA its p).length ≤ 16384 := by
 obtain ⟨lo, hi, c⟩ := p
 cases c with
 | sum n f => simp [offA]
 | list xs =>
  have h1 := without_len (inL its lo hi) xs
  have h2 := inL_len its lo hi
  show (without (inL its lo hi) xs).length ≤ _
  omega
 | ans xs ms => exact Nat.le_trans (keepIn_len ms its) hp.2.2.1
theorem need_len4 {p : AP} (hp : p.ok) : (needA its p).length ≤ 16384 := by
 obtain ⟨lo, hi, c⟩ := p
 cases c with
 | sum n f => simp [needA]
 | list xs => exact Nat.le_trans (without_len xs its) (Nat.le_trans hp.2.1 (by omega))
 | ans xs ms => exact Nat.le_trans (without_len xs its) hp.2.1.1
structure SideOk (its : List Bs) (fan leaf : Nat) : Prop where
 hs : okSet its
 h40 : its.length ≤ 40
 hf : 2 ≤ fan
 hf2 : fan ≤ 16
 hl1 : 1 ≤ leaf
theorem QInv.go (h : QInv its fan leaf qs i rp nl ol L) (hS : SideOk its fan leaf) (hx : qs[i]? = some q) (hq : q.abs.ok) (he : ps2.map QV.abs = repA its fan leaf q.abs) (hs : QIn M ps2) (hk : ∀ p ∈ ps2, p.kOk) (hn : n2 = needA its q.abs) (ho : o2 = offA its q.abs) :
  QInv its fan leaf qs (i + 1) (rp ++ ps2) (nl ++ n2) (ol ++ o2) (L ++ M) := h.next hx he hs hk hn ho (repA_ok hS.hs hS.h40 hS.hf hS.hf2 hS.hl1 hq) (need_len4 hq) (off_len4 hS.h40 hq)
theorem QInv.sum0 (h : QInv its fan leaf qs i rp nl ol L) (hS : SideOk its fan leaf) (hx : qs[i]? = some q) (hq : q.abs.ok) (h1 : q.k = 1) (he : (inL its q.lo q.hi).length = q.n ∧ fpB (inL its q.lo q.hi) = q.f) : QInv its fan leaf qs (i + 1) rp nl ol L := by
 have := h.go hS hx hq (ps2 := []) (n2 := []) (o2 := []) (M := []) (by rw [q_abs1 h1]; show _ = cmpA its fan leaf q.lo q.hi q.n q.f; rw [cmpA, if_pos he]; rfl) QIn.nil (fun p hp => by cases hp) (by rw [q_abs1 h1]; rfl) (by rw [q_abs1 h1]; rfl)
 simpa only [List.append_nil] using this
theorem QInv.sum1 (h : QInv its fan leaf qs i rp nl ol L) (hS : SideOk its fan leaf) (hx : qs[i]? = some q) (hq : q.abs.ok) (h1 : q.k = 1) (he : ¬ ((inL its q.lo q.hi).length = q.n ∧ fpB (inL its q.lo q.hi) = q.f)) (hle : (inL its q.lo q.hi).length ≤ leaf) {B : Option Addr} {cb : Nat} :
  QInv its fan leaf qs (i + 1) (rp ++ [⟨q.lo, q.hi, 2, 0, [], B, cb, inL its q.lo q.hi, none, 0, []⟩]) nl ol (L ++ [(B, inL its q.lo q.hi)]) := by
 have := h.go hS hx hq (ps2 := [⟨q.lo, q.hi, 2, 0, [], B, cb, inL its q.lo q.hi, none, 0, []⟩]) (n2 := []) (o2 := []) (M := [(B, inL its q.lo q.hi)]) (by rw [q_abs1 h1]; show _ = cmpA its fan leaf q.lo q.hi q.n q.f; rw [cmpA, if_neg he, if_pos hle]; rfl) qin1 (fun p hp => by rw [List.mem_singleton.1 hp]; exact .inr (.inl rfl)) (by rw [q_abs1 h1]; rfl) (by rw [q_abs1 h1]; rfl)
 simpa only [List.append_nil] using this
def dividQ (its : List Bs) (fan : Nat) (lo hi : Bs) : List QV := (divQ its (inL its lo hi) fan lo (fan - 1)).2 ++ [sumQ its (divQ its (inL its lo hi) fan lo (fan - 1)).1 hi]
theorem dividQ_len (its : List Bs) (fan : Nat) (lo hi : Bs) (h : 1 ≤ fan) : (dividQ its fan lo hi).length ≤ fan := by
 have := divQ_len its (inL its lo hi) fan lo (fan - 1)
 unfold dividQ
 rw [List.length_append, List.length_singleton]; omega
theorem dividQ_abs (its : List Bs) (fan : Nat) (lo hi : Bs) : (dividQ its fan lo hi).map QV.abs = (divTo its (inL its lo hi) fan lo (fan - 1)).2 ++ [sumA its (divTo its (inL its lo hi) fan lo (fan - 1)).1 hi] := by
 obtain ⟨h1, h2⟩ := divQ_abs its (inL its lo hi) fan lo (fan - 1)
 unfold dividQ
 rw [List.map_append, h2, ← h1]; rfl
theorem dividQ_sum (its : List Bs) (fan : Nat) (lo hi : Bs) : ∀ q ∈ dividQ its fan lo hi, Summed q := by
 intro q hq
 rcases List.mem_append.1 hq with hq | hq
 ·exact divQ_sum _ _ _ _ _ q hq
 ·rw [List.mem_singleton.1 hq]; exact ⟨rfl, rfl⟩
theorem QInv.sum2 (h : QInv its fan leaf qs i rp nl ol L) (hS : SideOk its fan leaf) (hx : qs[i]? = some q) (hq : q.abs.ok) (h1 : q.k = 1) (he : ¬ ((inL its q.lo q.hi).length = q.n ∧ fpB (inL its q.lo q.hi) = q.f)) (hle : ¬ (inL its q.lo q.hi).length ≤ leaf) :
  QInv its fan leaf qs (i + 1) (rp ++ dividQ its fan q.lo q.hi) nl ol L := by
 have := h.go hS hx hq (ps2 := dividQ its fan q.lo q.hi) (n2 := []) (o2 := []) (M := []) (by rw [q_abs1 h1, dividQ_abs]; show _ = cmpA its fan leaf q.lo q.hi q.n q.f; rw [cmpA, if_neg he, if_neg hle]) (qin_sums (dividQ_sum its fan q.lo q.hi)) (fun p hp => .inl (dividQ_sum its fan q.lo q.hi p hp).1) (by rw [q_abs1 h1]; rfl) (by rw [q_abs1 h1]; rfl)
 simpa only [List.append_nil] using this
theorem in_range {xs : List Bs} {lo hi : Bs} (h : ordOk xs lo hi = true) {x : Bs} (hx : x ∈ xs) : inR lo hi x = true := by
 unfold ordOk at h
 rw [Bool.and_eq_true] at h
 exact List.all_eq_true.1 h.1 x hx
theorem without_in {xs : List Bs} {lo hi : Bs} (h : ordOk xs lo hi = true) : without xs (inL its lo hi) = without xs its := by
 unfold without
 refine List.filter_congr fun x hx => ?_
 have hr := in_range h hx
 congr 1
 rw [Bool.eq_iff_iff, List.contains_iff_mem, List.contains_iff_mem, mem_inL]
 exact ⟨fun h => h.1, fun h => ⟨h, hr⟩⟩
theorem keep_in {ms : List Bs} {lo hi : Bs} (h : ordOk ms lo hi = true) : without ms (without ms (inL its lo hi)) = keepIn ms its := by
 unfold keepIn
 refine List.filter_congr fun x hx => ?_
 have hr := in_range h hx
 rw [Bool.eq_iff_iff, List.contains_iff_mem, Bool.not_eq_true', ← Bool.not_eq_true, List.contains_iff_mem, mem_without, mem_inL]
 constructor
 ·intro h2
  by_cases h3 : x ∈ its
  ·exact h3
  ·exact absurd ⟨hx, fun h4 => h3 h4.1⟩ h2
 ·intro h2 h3
  exact h3.2 ⟨h2, hr⟩
theorem ok2 (hq : q.abs.ok) (h2 : q.k = 2) : q.xs.length ≤ 64 ∧ all32 q.xs ∧ ordOk q.xs q.lo q.hi = true := by
 rw [q_abs2 h2] at hq
 exact hq.2
theorem ok3 (hq : q.abs.ok) (h3 : q.k = 3) : (q.xs.length ≤ 16384 ∧ all32 q.xs ∧ ordOk q.xs q.lo q.hi = true) ∧ q.ms.length ≤ 16384 ∧ all32 q.ms ∧ ordOk q.ms q.lo q.hi = true := by
 rw [q_abs3 h3] at hq
 exact hq.2
theorem QInv.list0 (h : QInv its fan leaf qs i rp nl ol L) (hS : SideOk its fan leaf) (hx : qs[i]? = some q) (hq : q.abs.ok) (h2 : q.k = 2) (he : ¬ 0 < (without q.xs (inL its q.lo q.hi)).length + (without (inL its q.lo q.hi) q.xs).length) :
  QInv its fan leaf qs (i + 1) rp (nl ++ without q.xs (inL its q.lo q.hi)) (ol ++ without (inL its q.lo q.hi) q.xs) L := by
 have e := without_in (its := its) (ok2 hq h2).2.2
 have := h.go hS hx hq (ps2 := []) (n2 := without q.xs (inL its q.lo q.hi)) (o2 := without (inL its q.lo q.hi) q.xs) (M := []) (by rw [q_abs2 h2]; show _ = ansA its q.lo q.hi q.xs; rw [ansA, if_neg (by rw [← e]; omega)]; rfl) QIn.nil (fun p hp => by cases hp) (by rw [q_abs2 h2, e]; rfl) (by rw [q_abs2 h2]; rfl)
 simpa only [List.append_nil] using this
theorem QInv.list1 (h : QInv its fan leaf qs i rp nl ol L) (hS : SideOk its fan leaf) (hx : qs[i]? = some q) (hq : q.abs.ok) (h2 : q.k = 2) (he : 0 < (without q.xs (inL its q.lo q.hi)).length + (without (inL its q.lo q.hi) q.xs).length) {A B : Option Addr} {c d : Nat} :
  QInv its fan leaf qs (i + 1) (rp ++ [⟨q.lo, q.hi, 3, 0, [], A, c, without (inL its q.lo q.hi) q.xs, B, d, without q.xs (inL its q.lo q.hi)⟩]) (nl ++ without q.xs (inL its q.lo q.hi)) (ol ++ without (inL its q.lo q.hi) q.xs) (L ++ ([(A, without (inL its q.lo q.hi) q.xs)] ++ [(B, without q.xs (inL its q.lo q.hi))])) := by
 have e := without_in (its := its) (ok2 hq h2).2.2
 exact h.go hS hx hq (by rw [q_abs2 h2]; show _ = ansA its q.lo q.hi q.xs; rw [ansA, if_pos (by rw [← e]; omega), ← e]; rfl) qin2 (fun p hp => by rw [List.mem_singleton.1 hp]; exact .inr (.inr rfl)) (by rw [q_abs2 h2, e]; rfl) (by rw [q_abs2 h2]; rfl)
theorem QInv.ans (h : QInv its fan leaf qs i rp nl ol L) (hS : SideOk its fan leaf) (hx : qs[i]? = some q) (hq : q.abs.ok) (h3 : q.k = 3) :
  QInv its fan leaf qs (i + 1) rp (nl ++ without q.xs (inL its q.lo q.hi)) (ol ++ without q.ms (without q.ms (inL its q.lo q.hi))) L := by
 have e := without_in (its := its) (ok3 hq h3).1.2.2
 have e2 := keep_in (its := its) (ok3 hq h3).2.2.2
 have := h.go hS hx hq (ps2 := []) (n2 := without q.xs (inL its q.lo q.hi)) (o2 := without q.ms (without q.ms (inL its q.lo q.hi))) (M := []) (by rw [q_abs3 h3]; rfl) QIn.nil (fun p hp => by cases hp) (by rw [q_abs3 h3, e]; rfl) (by rw [q_abs3 h3, e2]; rfl)
 simpa only [List.append_nil] using this
theorem q_flat {β : Type} (g : AP → List β) : (qs.take qs.length).flatMap (fun q => g q.abs) = (qs.map QV.abs).flatMap g := by rw [List.take_length, List.flatMap_map]
theorem QInv.endR (h : QInv its fan leaf qs qs.length rp nl ol L) : rp.map QV.abs = replyA its fan leaf (qs.map QV.abs) := h.rep.trans (q_flat _)
theorem QInv.endN (h : QInv its fan leaf qs qs.length rp nl ol L) : nl = (qs.map QV.abs).flatMap (needA its) := h.need.trans (q_flat _)
theorem QInv.endO (h : QInv its fan leaf qs qs.length rp nl ol L) : ol = (qs.map QV.abs).flatMap (offA its) := h.off.trans (q_flat _)
end
/-! ### No reply is too large -/
theorem chain_enc {ps : List AP} (h : ∀ p ∈ ps, p.ok) (hc : chain ps) : (ps.length - 1) * 36 ≤ (ps.flatMap AP.enc).length := by
 have key : ∀ l : List AP, (∀ p ∈ l, 36 ≤ p.enc.length) → l.length * 36 ≤ (l.flatMap AP.enc).length := by
  intro l
  induction l with
  | nil => intro _; simp
  | cons p l ih =>
   intro hl
   have h1 := hl p (by simp)
   have h2 := ih fun q hq => hl q (by simp [hq])
   simp only [List.flatMap_cons, List.length_append, List.length_cons]
   omega
 cases ps with
 | nil => simp
 | cons p0 rest =>
  have hr : ∀ p ∈ rest, 36 ≤ p.enc.length := by
   intro p hp
   obtain ⟨k, hk⟩ := List.getElem?_of_mem hp
   have hlt := (List.getElem?_eq_some_iff.1 hk).1
   have hfo := hc (k + 1) p (by simpa using hk)
   have hlo : p.lo ≠ [] := by
    intro e
    unfold follows at hfo
    cases hq : ((p0 :: rest).take (k + 1)).getLast? with
    | none => simp at hq
    | some q =>
     rw [hq] at hfo
     dsimp only at hfo
     rw [e] at hfo
     cases hqh : q.hi with
     | nil => rw [hqh] at hfo; simp at hfo
     | cons y ys =>
      rw [hqh] at hfo
      have : ([] : Bs) < y :: ys := List.nil_lt_cons y ys
      simp [this] at hfo
   have hok := h p (by simp [hp])
   have hb := hok.1.1
   unfold boundOk at hb
   rw [Bool.or_eq_true, decide_eq_true_eq, decide_eq_true_eq] at hb
   have h32 : p.lo.length = 32 := hb.resolve_left hlo
   have hce : 2 ≤ p.c.enc.length := by
    have h1 := num_pos 1
    have h2 := num_pos 2
    have h3 := num_pos 3
    cases p.c with
    | sum n f => have := num_pos n; simp only [AC.enc, List.length_append]; omega
    | list xs => have := num_pos xs.length; simp only [AC.enc, List.length_append]; omega
    | ans xs ms => have := num_pos xs.length; simp only [AC.enc, List.length_append]; omega
   have h1 := num_pos p.lo.length
   have h2 := num_pos p.hi.length
   unfold AP.enc
   simp only [List.length_append]
   omega
  have h2 := key rest hr
  simp only [List.flatMap_cons, List.length_append, List.length_cons]
  omega
theorem parts_le {D : Bs} {ps : List AP} (hd : decA D = some ps) (hD : D.length ≤ 1048576) : ps.length ≤ 29200 := by
 obtain ⟨hE, hm, _⟩ := decA_sound hd
 have hne : ps.length ≠ 0 := fun e => hm.1 (List.eq_nil_of_length_eq_zero e)
 have h1 := chain_enc hm.2.1 hm.2.2
 have h2 : (ps.flatMap AP.enc).length ≤ D.length := by rw [hE, encA, if_neg hne, List.length_append]; omega
 omega
theorem withL_app3 (l m n : List Bs) : withL (withL [] (l ++ m)) n = withL [] (l ++ (m ++ n)) := by rw [← List.append_assoc]; exact (withL_append [] (l ++ m) n).symm
theorem withL_le (l m : List Bs) : (withL [] (l ++ m)).length ≤ (withL [] l).length + m.length := by rw [withL_append]; exact withL_len m _
theorem QIn.row {L : RL} {qs : List QV} {w : World} (h : QIn L qs) (hL : (cBag L).holds w) {i : Nat} {q : QV} (hx : qs[i]? = some q) : RowIn w q.A (SS q.xs) ∧ RowIn w q.B (SS q.ms) :=
 ⟨h.ok hL q (List.mem_of_getElem? hx) (q.A, q.xs) (by simp [QV.rows]), h.ok hL q (List.mem_of_getElem? hx) (q.B, q.ms) (by simp [QV.rows])⟩
theorem dcR_qs {D : Bs} {qs : List QV} (hq : qs.map QV.core = (dcR D).1) (h : dcOk D = true) (hD : D.length ≤ 1048576) : decA D = some (qs.map QV.abs) ∧ ∀ q ∈ qs, q.kOk := by
 obtain ⟨h1, h2⟩ := dcR_some h hD
 rw [← hq] at h1 h2
 refine ⟨?_, fun q hm => h2 q.core (List.mem_map_of_mem hm)⟩
 rw [h1, List.map_map]; rfl
section
variable {a b : List Bs} {fan leaf : Nat}
theorem runN_mono (par : Nat) {j : Nat} : ∀ k, j ≤ k → (∀ x ∈ (runN a b fan leaf par j).1, x ∈ (runN a b fan leaf par k).1) ∧ ∀ x ∈ (runN a b fan leaf par j).2, x ∈ (runN a b fan leaf par k).2
 | 0, h => by
  obtain rfl : j = 0 := by omega
  exact ⟨fun x hx => hx, fun x hx => hx⟩
 | k + 1, h => by
  by_cases e : j = k + 1
  ·subst e; exact ⟨fun x hx => hx, fun x hx => hx⟩
  ·obtain ⟨i1, i2⟩ := runN_mono par (j := j) k (by omega)
   rw [runN]
   split
   ·exact ⟨fun x hx => List.mem_append_left _ (i1 x hx), fun x hx => List.mem_append_left _ (i2 x hx)⟩
   ·exact ⟨i1, i2⟩
theorem run_bnd (h : Sets a b fan leaf) {K : Nat} (hK : K ≤ 30) (hm : msgA a b fan leaf K = []) {j : Nat} (hj : j ≤ K) {par : Nat} (hp : par ≤ 1) : (withL [] (runN a b fan leaf par j).1).length ≤ 40 ∧ (withL [] (runN a b fan leaf par j).2).length ≤ 40 := by
 obtain ⟨s1, s2⟩ := run_small h hK hm
 obtain ⟨b1, b2⟩ := run_both h hK hm
 obtain ⟨m1, m2⟩ := runN_mono (a := a) (b := b) (fan := fan) (leaf := leaf) par K hj
 have k1 : (withL [] (runN a b fan leaf par K).1).length ≤ 40 := by
  rcases Nat.lt_or_ge par 1 with h0 | h0
  ·obtain rfl : par = 0 := by omega
   rw [b1]; exact s1
  ·obtain rfl : par = 1 := by omega
   exact s2
 have k2 : (withL [] (runN a b fan leaf par K).2).length ≤ 40 := by
  rcases Nat.lt_or_ge par 1 with h0 | h0
  ·obtain rfl : par = 0 := by omega
   rw [b2]; exact s2
  ·obtain rfl : par = 1 := by omega
   exact s1
 exact ⟨Nat.le_trans (asc_sub_len (withL_asc0 _) fun x hx => mem_withL0.2 (m1 x (mem_withL0.1 hx))) k1, Nat.le_trans (asc_sub_len (withL_asc0 _) fun x hx => mem_withL0.2 (m2 x (mem_withL0.1 hx))) k2⟩
def Turn (A : Option Addr) (c : Nat) (A2 : Option Addr) (c2 : Nat) (j : Nat) (XA : Option Addr) (xc : Nat) (YA : Option Addr) (yc : Nat) : Prop :=
 (j % 2 = 0 ∧ XA = A ∧ xc = c ∧ YA = A2 ∧ yc = c2) ∨ (j % 2 = 1 ∧ XA = A2 ∧ xc = c2 ∧ YA = A ∧ yc = c)
theorem Turn.next {A A2 XA YA : Option Addr} {c c2 j xc yc : Nat} (h : Turn A c A2 c2 j XA xc YA yc) : Turn A c A2 c2 (j + 1) YA yc XA xc := by
 rcases h with ⟨h, h1, h2, h3, h4⟩ | ⟨h, h1, h2, h3, h4⟩
 ·exact .inr ⟨by omega, h3, h4, h1, h2⟩
 ·exact .inl ⟨by omega, h3, h4, h1, h2⟩
theorem Turn.row {A A2 XA YA : Option Addr} {c c2 j xc yc : Nat} (h : Turn A c A2 c2 j XA xc YA yc) {S : List Nat} {w : World} (h0 : Ro S w (fun w => RowIn w A (SS a))) (h1 : Ro S w (fun w => RowIn w A2 (SS b))) : Ro S w (fun w => RowIn w YA (SS (sideOf a b j))) := by
 rcases h with ⟨h, _, _, rfl, _⟩ | ⟨h, _, _, rfl, _⟩
 ·unfold sideOf; rw [if_pos h]; exact h1
 ·unfold sideOf; rw [if_neg (by omega)]; exact h0
theorem Turn.even {A A2 XA YA : Option Addr} {c c2 j xc yc : Nat} (h : Turn A c A2 c2 j XA xc YA yc) (hj : j % 2 = 0) : A = XA ∧ c = xc ∧ A2 = YA ∧ c2 = yc := by
 rcases h with ⟨_, h1, h2, h3, h4⟩ | ⟨h, _⟩
 ·exact ⟨h1.symm, h2.symm, h3.symm, h4.symm⟩
 ·omega
theorem Turn.odd {A A2 XA YA : Option Addr} {c c2 j xc yc : Nat} (h : Turn A c A2 c2 j XA xc YA yc) (hj : j % 2 = 1) : A2 = XA ∧ c2 = xc ∧ A = YA ∧ c = yc := by
 rcases h with ⟨h, _⟩ | ⟨_, h1, h2, h3, h4⟩
 ·omega
 ·exact ⟨h1.symm, h2.symm, h3.symm, h4.symm⟩
theorem side_ok (h : Sets a b fan leaf) (j : Nat) : okSet (sideOf a b j) ∧ (sideOf a b j).length ≤ 40 := (h.side j).1
theorem runN_next (j : Nat) : runN a b fan leaf ((j + 1 + 1) % 2) (j + 1) = ((runN a b fan leaf (j % 2) j).1 ++ (runR a b fan leaf j).need, (runN a b fan leaf (j % 2) j).2 ++ (runR a b fan leaf j).off) := by
 rw [show (j + 1 + 1) % 2 = j % 2 by omega, runN, if_pos rfl]
theorem runN_keep (j : Nat) : runN a b fan leaf ((j + 1) % 2) (j + 1) = runN a b fan leaf ((j + 1) % 2) j := by rw [runN, if_neg (by omega)]
end
theorem stepA_nil (its : List Bs) (fan leaf : Nat) : stepA its fan leaf [] = ⟨[], 0, [], []⟩ := if_pos rfl
theorem stepA_bad {its : List Bs} {fan leaf : Nat} {D : Bs} (h : D ≠ []) (hd : decA D = none) : stepA its fan leaf D = ⟨[], 3, [], []⟩ := by
 rw [stepA, if_neg h, hd]
theorem stepA_ok {its : List Bs} {fan leaf : Nat} {D : Bs} {ps : List AP} (h : D ≠ []) (hd : decA D = some ps) (h2 : (stepA its fan leaf D).err ≠ 2) : (encA (replyA its fan leaf ps)).length ≤ 1048576 ∧ stepA its fan leaf D = ⟨encA (replyA its fan leaf ps), 0, ps.flatMap (needA its), ps.flatMap (offA its)⟩ := by
 have e : stepA its fan leaf D = if 1048576 < (encA (replyA its fan leaf ps)).length then ⟨[], 2, [], []⟩ else ⟨encA (replyA its fan leaf ps), 0, ps.flatMap (needA its), ps.flatMap (offA its)⟩ := by rw [stepA, if_neg h, hd]
 rw [e] at h2 ⊢
 by_cases hb : 1048576 < (encA (replyA its fan leaf ps)).length
 ·rw [if_pos hb] at h2; exact absurd rfl h2
 ·rw [if_neg hb]; exact ⟨by omega, rfl⟩
end Go.Proofs.YtlepfnihpdhcaaaGreatDoor
namespace Go.Proofs.YtlepfnihpdhcaaaGreatDoor
open Go.RowKit
theorem rsRDec_any (A : Option Addr) (c : Nat) (D : List UInt8) (w : World) (r0 : Rf [] w (fun w => RowIn w A (B8 D))) (hD : D.length ≤ 1048576) (hc : D.length ≤ c) :
  Calls Tryz.prog 44 #[(vL A D c)] w fun e w' => ∃ (RX : Option Addr) (rcX : Nat) (qs : List QV) (LX : List (Option Addr × List (List UInt8))), e = .returned (.tuple #[(vL RX qs rcX), (.bool (dcOk D))]) ∧ Back [] w [cQ RX (qs) rcX, cBag (LX)] w' ∧ (qs.map QV.core = (dcR D).1) ∧ (QIn LX qs) := by
 refine stEnter (args := [(vL A D c)]) (fps []) Tryz.func44 rfl 125 rfl [(0, (vL A D c))] ⟨rfl, trivial⟩ [] (Mm.start w []) ?_
 refine stSeq (reg ?_)
 refine la ?_
 refine la ?_
 refine liNil (qThen (stSeq (stSeq (reg ?_))))
 refine lm ?_
 refine lc (vI D.length) ?_
 refine lc (.bool (decide (((D.length : Nat) : Int) > 1048576))) ?_
 refine liNil (qThen ?_)
 refine stFalseK rfl (by have := hD; simp; omega) ?_
 refine stSkip (qThen (stSeq (reg ?_)))
 refine lm ?_
 refine lc (.agg #[(vL A D c), (.bool false)]) ?_
 refine li rfl ?_
 refine opBox [(vL A D c), (.bool false)] rfl rfl (by kernel_rfl) rfl rfl (fun b14 => ?_)
 refine la ?_
 refine liNil (qThen (stSeq (reg ?_)))
 refine la ?_
 refine liNil (qThen (stSeq ?_))
 have hs0 : Sub8 A D A D c := ⟨fun w h => h, hc, Nat.le_refl _⟩
 refine reg ?_
 refine lm ?_
 refine li rfl ?_
 refine opK [0] [cAt b14 123 [(vL A D c), (.bool false)]] (fun w hM hO => (rsNumV_any b14 A D A c D false 1048576 w hO (r0.goS hM [0]) (by assumption) (by assumption) (by omega)).mono ?_)
 rintro e w' ⟨t16, l216, b216, A216, c216, rfl, hP, heq16, hs16⟩
 refine ⟨_, [cAt b14 123 [(vL A216 l216 c216), (.bool b216)]], _, rfl, hP, rfl, ?_⟩; clear hP hM hO
 have hnl := nmR_le D false 1048576; rw [heq16] at hnl
 change t16 ≤ 1048576 at hnl
 have hdc : dcR D = psR l216 b216 t16 := by unfold dcR; rw [heq16]
 have hdo : dcOk D = ((!(dcR D).2.2 && decide (0 < t16)) && decide ((dcR D).2.1.length = 0)) := by unfold dcOk; rw [heq16]
 refine la ?_
 refine liNil (qThen (stSeq (stSeq (reg ?_))))
 refine la ?_
 refine liNil (qThen (stBlock ?_))
 refine St.mem (fun w hM => hM.nilOwn 80 7) ?_
 refine St.mem (fun w hM => Mm.noBag hM) ?_
 refine stLoop (ι := Nat × Option Addr × Nat × Option Addr × Nat × List QV × RL) (fun (i, AX, cX, RX, rcX, qs, LX) => i ≤ t16 ∧ Sub8 A D AX (psR l216 b216 i).2.1 cX ∧ qs.map QV.core = (psR l216 b216 i).1 ∧ QIn LX qs) (fun (i, AX, cX, RX, rcX, qs, LX) => t16 - i) (fun (i, AX, cX, RX, rcX, qs, LX) => [(2, (.slice none 0 0)), (3, (.bool false)), (4, (vP b14 0)), (6, (vI t16)), (5, (vL RX (qs) rcX)), (7, (vI i))]) (fun (i, AX, cX, RX, rcX, qs, LX) => [cAt b14 123 [(vL AX ((psR l216 b216 i).2.1) cX), (.bool ((psR l216 b216 i).2.2))], cQ RX (qs) rcX, cBag (LX)]) (0, A216, c216, none, 0, [], []) ⟨Nat.zero_le _, hs16, rfl, QIn.nil⟩ ⟨rfl, rfl, rfl, rfl, rfl, rfl, trivial⟩ (fun w hM => by show Mm _ _ [cAt b14 123 [(vL A216 ((psR l216 b216 0).2.1) c216), (.bool ((psR l216 b216 0).2.2))], cOwn 80 7 none (([]).length) (0) (QS ([])), cBag ([])] w; exact hM) ?_
 rintro ⟨i, AX, cX, RX, rcX, qs, LX⟩ ⟨hok, hsX, hqc, hrw⟩
 show St _ _ _ [(2, (.slice none 0 0)), (3, (.bool false)), (4, (vP b14 0)), (6, (vI t16)), (5, (vL RX (qs) rcX)), (7, (vI i))] [cAt b14 123 [(vL AX ((psR l216 b216 i).2.1) cX), (.bool ((psR l216 b216 i).2.2))], cQ RX (qs) rcX, cBag (LX)] _
 refine stSeq (stSeq (reg ?_))
 refine lm ?_
 refine lm ?_
 refine lc (.bool (decide (((i : Nat) : Int) < ((t16 : Nat) : Int)))) ?_
 refine lm ?_
 refine St.dec 20 rfl (fun hc20 => ?_) (fun hc20 => ?_)
 ·have hd20 := of_decide_eq_true hc20
  have hin : i < t16 := by have := of_decide_eq_true hc20; omega
  refine lgm ?_
  refine lgc (vP b14 0) ?_
  refine lgc (vP b14 1) ?_
  refine lgv (v := (.bool ((psR l216 b216 i).2.2))) (rLoad 0 rfl rfl (by kernel_rfl) rfl rfl) ?_
  refine lgc (.bool (!((psR l216 b216 i).2.2))) ?_
  refine lc (.bool (!((psR l216 b216 i).2.2))) ?_
  refine liNil (qThen ?_)
  refine stCond rfl (fun hc26 => ?_) (fun hc26 => ?_)
  ·have hbf : (psR l216 b216 i).2.2 = false := by simpa using hc26
   have hql : qs.length = i := by have h := psR_full hbf; rw [← hqc, List.length_map] at h; exact h
   refine stSkip (qThen (stSeq (stBlock (stSeq (reg ?_)))))
   refine lm ?_
   refine li rfl ?_
   refine opK [0] [cAt b14 123 [(vL AX ((psR l216 b216 i).2.1) cX), (.bool ((psR l216 b216 i).2.2))]] (fun w hM hO => (rsBoundV_any b14 A D AX cX ((psR l216 b216 i).2.1) ((psR l216 b216 i).2.2) w hO (r0.goS hM [0]) (by assumption) (by assumption)).mono ?_)
   rintro e w' ⟨t30, l230, b230, A230, c230, rfl, hP, heq30, hs30⟩
   refine ⟨_, [cAt b14 123 [(vL A230 l230 c230), (.bool b230)]], _, rfl, hP, rfl, ?_⟩; clear hP hM hO
   refine lm ?_
   refine li rfl ?_
   refine opK [0] [cAt b14 123 [(vL A230 l230 c230), (.bool b230)]] (fun w hM hO => (rsBoundV_any b14 A D A230 c230 l230 b230 w hO (r0.goS hM [0]) (by assumption) (by assumption)).mono ?_)
   rintro e w' ⟨t32, l232, b232, A232, c232, rfl, hP, heq32, hs32⟩
   refine ⟨_, [cAt b14 123 [(vL A232 l232 c232), (.bool b232)]], _, rfl, hP, rfl, ?_⟩; clear hP hM hO
   refine lc (.agg #[(vS t30), (vS t32), (.int .i64 0), (.int .i64 0), (.string ⟨#[]⟩), (.slice none 0 0), (.slice none 0 0)]) ?_
   refine li rfl ?_
   refine opAlloc [(.string ⟨#[]⟩), (.string ⟨#[]⟩), (.int .i64 0), (.int .i64 0), (.string ⟨#[]⟩), (.slice none 0 0), (.slice none 0 0)] rfl rfl (by kernel_rfl) (by kernel_rfl) (fun b8 => ?_)
   refine li rfl ?_
   refine opStoreN 3 [(vS t30), (vS t32), (.int .i64 0), (.int .i64 0), (.string ⟨#[]⟩), (.slice none 0 0), (.slice none 0 0)] (vs := [(vS t30), (vS t32), (.int .i64 0), (.int .i64 0), (.string ⟨#[]⟩), (.slice none 0 0), (.slice none 0 0)]) rfl rfl (by kernel_rfl) rfl rfl rfl (by kernel_rfl) rfl (by simp) (by simp [Value.oneCell']) rfl ?_
   refine liNil (qThen (stSeq ?_))
   refine St.to [cAt b14 123 [(vL A232 l232 c232), (.bool b232)], cQ RX (qs) rcX, cBag (LX), cAt b8 80 [(vS t30), (vS t32), (.int .i64 0), (.int .i64 0), (.string ⟨#[]⟩), (.slice none 0 0), (.slice none 0 0)]] (by kernel_rfl) ?_
   refine reg ?_
   refine lm ?_
   refine li rfl ?_
   refine opK [0] [cAt b14 123 [(vL A232 l232 c232), (.bool b232)]] (fun w hM hO => (rsNumV_any b14 A D A232 c232 l232 b232 3 w hO (r0.goS hM [0]) (by assumption) (by assumption) (by omega)).mono ?_)
   rintro e w' ⟨t35, l235, b235, A235, c235, rfl, hP, heq35, hs35⟩
   refine ⟨_, [cAt b14 123 [(vL A235 l235 c235), (.bool b235)]], _, rfl, hP, rfl, ?_⟩; clear hP hM hO
   refine lc (vP b8 2) ?_
   refine li rfl ?_
   refine opStore1 3 rfl rfl (by kernel_rfl) rfl rfl rfl (by kernel_rfl) rfl (by simp) ?_
   refine liNil (qThen ?_)
   refine St.to [cAt b14 123 [(vL A235 l235 c235), (.bool b235)], cQ RX (qs) rcX, cBag (LX), cAt b8 80 [(vS t30), (vS t32), (vI t35), (.int .i64 0), (.string ⟨#[]⟩), (.slice none 0 0), (.slice none 0 0)]] (by kernel_rfl) ?_
   refine stCut (ι := Unit) (fun _ => True) (fun _ => [(2, (.slice none 0 0)), (3, (.bool false)), (4, (vP b14 0)), (5, (vL RX (qs) rcX)), (6, (vI t16)), (7, (vI i)), (8, (vP b8 0))]) (fun _ => [cAt b14 123 [(vL A235 l235 c235), (.bool ((b235) || gapR (qs.map QV.core) t30 t32))], cQ RX (qs) rcX, cBag (LX), cAt b8 80 [(vS t30), (vS t32), (vI t35), (.int .i64 0), (.string ⟨#[]⟩), (.slice none 0 0), (.slice none 0 0)]]) ?_ ?_
   ·refine stSeq ?_
    refine anyBegin [cAt b14 123 [(vL A235 l235 c235), (.bool b235)], cQ RX (qs) rcX, cBag (LX), cAt b8 80 [(vS t30), (vS t32), (vI t35), (.int .i64 0), (.string ⟨#[]⟩), (.slice none 0 0), (.slice none 0 0)]] 34 (by kernel_rfl) (fun _ h => h) ?_
    refine ac 0 (vP b8 1) ?_
    refine av 1 (vS t32) rfl (rLoad 3 rfl rfl (by kernel_rfl) rfl rfl) ?_
    refine av 2 (.bool (!decide (t32 = []))) rfl (rStrNe rfl rfl rfl) ?_
    refine am 3 ?_
    refine Any.dec 40 rfl (fun hc40 => ?_) (fun hc40 => ?_)
    ·refine agc 4 (vP b8 0) ?_
     refine agv 5 (vS t30) rfl (rLoad 3 rfl rfl (by kernel_rfl) rfl rfl) ?_
     refine agc 6 (vP b8 1) ?_
     refine agv 7 (vS t32) rfl (rLoad 3 rfl rfl (by kernel_rfl) rfl rfl) ?_
     refine agv 8 (.bool (!decide (t30 < t32))) rfl (rStrGe rfl rfl rfl) ?_
     refine ac 9 (.bool (!decide (t30 < t32))) ?_
     refine am 10 ?_
     refine Any.dec 47 rfl (fun hc47 => ?_) (fun hc47 => ?_)
     ·refine anT 11 ?_
      refine anT 12 ?_
      refine anT 13 ?_
      refine anU 14 ?_
      refine anU 15 ?_
      refine anU 16 ?_
      refine anU 17 ?_
      refine anU 18 ?_
      refine anU 19 ?_
      refine anU 20 ?_
      refine anU 21 ?_
      refine anU 22 ?_
      refine anU 23 ?_
      refine anU 24 ?_
      refine anU 25 ?_
      refine anU 26 ?_
      refine anU 27 ?_
      refine anU 28 ?_
      refine anU 29 ?_
      refine anU 30 ?_
      refine anU 31 ?_
      refine anT 32 ?_
      refine ac 33 (.bool true) ?_
      refine anyDone (by kernel_rfl) ?_
      refine qThen (stTrue rfl (reg ?_))
      refine lm ?_
      refine lc (vP b14 0) ?_
      refine lc (vP b14 1) ?_
      refine li rfl ?_
      refine opStore1 0 rfl rfl (by kernel_rfl) rfl rfl rfl (by kernel_rfl) rfl (by simp) ?_
      refine liNil (qThen ?_)
      have hx : ((b235) || gapR (qs.map QV.core) t30 t32) = true := by rw [gap_span (by simpa using hc40) (by simpa using hc47), Bool.or_true]
      rw [hx]
      exact stMeet () trivial ⟨rfl, rfl, rfl, rfl, rfl, rfl, rfl, trivial⟩ (fun _ h => h)
     ·refine agm 11 ?_
      refine agc 12 (.bool (decide (((i : Nat) : Int) > 0))) ?_
      refine agm 13 ?_
      refine Any.dec 50 rfl (fun hc50 => ?_) (fun hc50 => ?_)
      ·have hd50 := of_decide_eq_true hc50
       refine agm 14 ?_
       refine agm 15 ?_
       refine agv 16 (vI (i - 1)) rfl (rSub _ rfl rfl rfl (by omega) (by omega) (by omega)) ?_
       obtain ⟨x0, hx0⟩ : ∃ ξ, (qs)[i - 1]? = some ξ := ⟨_, List.getElem?_eq_getElem (by omega)⟩
       refine Any.qPtr (fun w hM => rowOwn3 (i := 1) rfl w hM) hx0 (fun p54 q54 hA54 hc54 => ?_)
       refine agv 17 (vP p54 (q54 + (i - 1) * 7)) rfl (rIndexRowK (e := 80) rfl (by kernel_rfl) (by kernel_rfl) rfl rfl hA54 (by omega)) ?_
       refine agc 18 (vP p54 (q54 + (i - 1) * 7 + 1)) ?_
       refine agv 19 (vS x0.hi) rfl (rLoadW rfl rfl (by kernel_rfl) (fun w hM => hc54 w hM 1 _ rfl)) ?_
       refine agv 20 (.bool (decide (x0.hi = []))) rfl (rStrEq rfl rfl rfl) ?_
       refine agm 21 ?_
       refine Any.dec 58 rfl (fun hc58 => ?_) (fun hc58 => ?_)
       ·have hd58 := of_decide_eq_true hc58
        refine anT 22 ?_
        refine anT 23 ?_
        refine anT 24 ?_
        refine anT 25 ?_
        refine anT 26 ?_
        refine anT 27 ?_
        refine anT 28 ?_
        refine anT 29 ?_
        refine anT 30 ?_
        refine agc 31 (.bool true) ?_
        refine agc 32 (.bool true) ?_
        refine ac 33 (.bool true) ?_
        refine anyDone (by kernel_rfl) ?_
        refine qThen (stTrue rfl (reg ?_))
        refine lm ?_
        refine lc (vP b14 0) ?_
        refine lc (vP b14 1) ?_
        refine li rfl ?_
        refine opStore1 0 rfl rfl (by kernel_rfl) rfl rfl rfl (by kernel_rfl) rfl (by simp) ?_
        refine liNil (qThen ?_)
        have hsp : t32 = [] ∨ t30 < t32 := .inr (by simpa using hc47)
        have hga : gapR (qs.map QV.core) t30 t32 = (decide (x0.hi = []) || decide (t30 < x0.hi)) := gap_last (q := x0.core) hsp (by rw [List.length_map, hql, List.getElem?_map, hx0]; rfl)
        have hx : ((b235) || gapR (qs.map QV.core) t30 t32) = true := by rw [hga, show decide (x0.hi = []) = true from hc58]; simp
        rw [hx]
        exact stMeet () trivial ⟨rfl, rfl, rfl, rfl, rfl, rfl, rfl, trivial⟩ (fun _ h => h)
       ·have hd58 := of_decide_eq_false hc58
        refine agm 22 ?_
        refine agm 23 ?_
        refine agv 24 (vI (i - 1)) rfl (rSub _ rfl rfl rfl (by omega) (by omega) (by omega)) ?_
        refine Any.qPtr (fun w hM => rowOwn3 (i := 1) rfl w hM) hx0 (fun p62 q62 hA62 hc62 => ?_)
        refine agv 25 (vP p62 (q62 + (i - 1) * 7)) rfl (rIndexRowK (e := 80) rfl (by kernel_rfl) (by kernel_rfl) rfl rfl hA62 (by omega)) ?_
        refine agc 26 (vP p62 (q62 + (i - 1) * 7 + 1)) ?_
        refine agv 27 (vS x0.hi) rfl (rLoadW rfl rfl (by kernel_rfl) (fun w hM => hc62 w hM 1 _ rfl)) ?_
        refine agc 28 (vP b8 0) ?_
        refine agv 29 (vS t30) rfl (rLoad 3 rfl rfl (by kernel_rfl) rfl rfl) ?_
        refine agv 30 (.bool (!(decide (x0.hi < t30) || decide (x0.hi = t30)))) rfl (rStrGt rfl rfl rfl) ?_
        refine agc 31 (.bool (!(decide (x0.hi < t30) || decide (x0.hi = t30)))) ?_
        refine agc 32 (.bool (!(decide (x0.hi < t30) || decide (x0.hi = t30)))) ?_
        refine ac 33 (.bool (!(decide (x0.hi < t30) || decide (x0.hi = t30)))) ?_
        refine anyDone (by kernel_rfl) ?_
        refine qThen ?_
        refine stCond rfl (fun hc70 => ?_) (fun hc70 => ?_)
        ·refine reg ?_
         refine lm ?_
         refine lc (vP b14 0) ?_
         refine lc (vP b14 1) ?_
         refine li rfl ?_
         refine opStore1 0 rfl rfl (by kernel_rfl) rfl rfl rfl (by kernel_rfl) rfl (by simp) ?_
         refine liNil (qThen ?_)
         have hsp : t32 = [] ∨ t30 < t32 := .inr (by simpa using hc47)
         have hga : gapR (qs.map QV.core) t30 t32 = (decide (x0.hi = []) || decide (t30 < x0.hi)) := gap_last (q := x0.core) hsp (by rw [List.length_map, hql, List.getElem?_map, hx0]; rfl)
         have hx : ((b235) || gapR (qs.map QV.core) t30 t32) = true := by rw [hga, show decide (x0.hi = []) = false from hc58, ← gtr_iff (a := x0.hi) (b := t30), hc70]; simp
         rw [hx]
         exact stMeet () trivial ⟨rfl, rfl, rfl, rfl, rfl, rfl, rfl, trivial⟩ (fun _ h => h)
        ·refine stSkip (qThen ?_)
         have hsp : t32 = [] ∨ t30 < t32 := .inr (by simpa using hc47)
         have hga : gapR (qs.map QV.core) t30 t32 = (decide (x0.hi = []) || decide (t30 < x0.hi)) := gap_last (q := x0.core) hsp (by rw [List.length_map, hql, List.getElem?_map, hx0]; rfl)
         have hx : ((b235) || gapR (qs.map QV.core) t30 t32) = (b235) := by rw [hga, show decide (x0.hi = []) = false from hc58, ← gtr_iff (a := x0.hi) (b := t30), hc70]; simp
         rw [hx]
         exact stMeet () trivial ⟨rfl, rfl, rfl, rfl, rfl, rfl, rfl, trivial⟩ (fun _ h => h)
      ·have hd50 := of_decide_eq_false hc50
       refine anF 14 ?_
       refine anF 15 ?_
       refine anF 16 ?_
       refine anF 17 ?_
       refine anF 18 ?_
       refine anF 19 ?_
       refine anF 20 ?_
       refine anF 21 ?_
       refine anU 22 ?_
       refine anU 23 ?_
       refine anU 24 ?_
       refine anU 25 ?_
       refine anU 26 ?_
       refine anU 27 ?_
       refine anU 28 ?_
       refine anU 29 ?_
       refine anU 30 ?_
       refine anF 31 ?_
       refine agc 32 (.bool false) ?_
       refine ac 33 (.bool false) ?_
       refine anyDone (by kernel_rfl) ?_
       refine qThen (stFalse rfl (stSkip (qThen ?_)))
       have hsp : t32 = [] ∨ t30 < t32 := .inr (by simpa using hc47)
       have hx : ((b235) || gapR (qs.map QV.core) t30 t32) = (b235) := by rw [gap_none hsp (by rw [List.length_map]; have := of_decide_eq_false hc50; omega), Bool.or_false]
       rw [hx]
       exact stMeet () trivial ⟨rfl, rfl, rfl, rfl, rfl, rfl, rfl, trivial⟩ (fun _ h => h)
    ·refine anF 4 ?_
     refine anF 5 ?_
     refine anF 6 ?_
     refine anF 7 ?_
     refine anF 8 ?_
     refine ac 9 (.bool false) ?_
     refine am 10 ?_
     refine agm 11 ?_
     refine agc 12 (.bool (decide (((i : Nat) : Int) > 0))) ?_
     refine agm 13 ?_
     refine Any.dec 50 rfl (fun hc50 => ?_) (fun hc50 => ?_)
     ·have hd50 := of_decide_eq_true hc50
      refine agm 14 ?_
      refine agm 15 ?_
      refine agv 16 (vI (i - 1)) rfl (rSub _ rfl rfl rfl (by omega) (by omega) (by omega)) ?_
      obtain ⟨x0, hx0⟩ : ∃ ξ, (qs)[i - 1]? = some ξ := ⟨_, List.getElem?_eq_getElem (by omega)⟩
      refine Any.qPtr (fun w hM => rowOwn3 (i := 1) rfl w hM) hx0 (fun p54 q54 hA54 hc54 => ?_)
      refine agv 17 (vP p54 (q54 + (i - 1) * 7)) rfl (rIndexRowK (e := 80) rfl (by kernel_rfl) (by kernel_rfl) rfl rfl hA54 (by omega)) ?_
      refine agc 18 (vP p54 (q54 + (i - 1) * 7 + 1)) ?_
      refine agv 19 (vS x0.hi) rfl (rLoadW rfl rfl (by kernel_rfl) (fun w hM => hc54 w hM 1 _ rfl)) ?_
      refine agv 20 (.bool (decide (x0.hi = []))) rfl (rStrEq rfl rfl rfl) ?_
      refine agm 21 ?_
      refine Any.dec 58 rfl (fun hc58 => ?_) (fun hc58 => ?_)
      ·have hd58 := of_decide_eq_true hc58
       refine anT 22 ?_
       refine anT 23 ?_
       refine anT 24 ?_
       refine anT 25 ?_
       refine anT 26 ?_
       refine anT 27 ?_
       refine anT 28 ?_
       refine anT 29 ?_
       refine anT 30 ?_
       refine agc 31 (.bool true) ?_
       refine agc 32 (.bool true) ?_
       refine ac 33 (.bool true) ?_
       refine anyDone (by kernel_rfl) ?_
       refine qThen (stTrue rfl (reg ?_))
       refine lm ?_
       refine lc (vP b14 0) ?_
       refine lc (vP b14 1) ?_
       refine li rfl ?_
       refine opStore1 0 rfl rfl (by kernel_rfl) rfl rfl rfl (by kernel_rfl) rfl (by simp) ?_
       refine liNil (qThen ?_)
       have hsp : t32 = [] ∨ t30 < t32 := .inl (by simpa using hc40)
       have hga : gapR (qs.map QV.core) t30 t32 = (decide (x0.hi = []) || decide (t30 < x0.hi)) := gap_last (q := x0.core) hsp (by rw [List.length_map, hql, List.getElem?_map, hx0]; rfl)
       have hx : ((b235) || gapR (qs.map QV.core) t30 t32) = true := by rw [hga, show decide (x0.hi = []) = true from hc58]; simp
       rw [hx]
       exact stMeet () trivial ⟨rfl, rfl, rfl, rfl, rfl, rfl, rfl, trivial⟩ (fun _ h => h)
      ·have hd58 := of_decide_eq_false hc58
       refine agm 22 ?_
       refine agm 23 ?_
       refine agv 24 (vI (i - 1)) rfl (rSub _ rfl rfl rfl (by omega) (by omega) (by omega)) ?_
       refine Any.qPtr (fun w hM => rowOwn3 (i := 1) rfl w hM) hx0 (fun p62 q62 hA62 hc62 => ?_)
       refine agv 25 (vP p62 (q62 + (i - 1) * 7)) rfl (rIndexRowK (e := 80) rfl (by kernel_rfl) (by kernel_rfl) rfl rfl hA62 (by omega)) ?_
       refine agc 26 (vP p62 (q62 + (i - 1) * 7 + 1)) ?_
       refine agv 27 (vS x0.hi) rfl (rLoadW rfl rfl (by kernel_rfl) (fun w hM => hc62 w hM 1 _ rfl)) ?_
       refine agc 28 (vP b8 0) ?_
       refine agv 29 (vS t30) rfl (rLoad 3 rfl rfl (by kernel_rfl) rfl rfl) ?_
       refine agv 30 (.bool (!(decide (x0.hi < t30) || decide (x0.hi = t30)))) rfl (rStrGt rfl rfl rfl) ?_
       refine agc 31 (.bool (!(decide (x0.hi < t30) || decide (x0.hi = t30)))) ?_
       refine agc 32 (.bool (!(decide (x0.hi < t30) || decide (x0.hi = t30)))) ?_
       refine ac 33 (.bool (!(decide (x0.hi < t30) || decide (x0.hi = t30)))) ?_
       refine anyDone (by kernel_rfl) ?_
       refine qThen ?_
       refine stCond rfl (fun hc70 => ?_) (fun hc70 => ?_)
       ·refine St.to [cAt b14 123 [(vL A235 l235 c235), (.bool b235)], cQ RX (qs) rcX, cBag (LX), cAt b8 80 [(vS t30), (vS t32), (vI t35), (.int .i64 0), (.string ⟨#[]⟩), (.slice none 0 0), (.slice none 0 0)]] (by kernel_rfl) ?_
        refine reg ?_
        refine lm ?_
        refine lc (vP b14 0) ?_
        refine lc (vP b14 1) ?_
        refine li rfl ?_
        refine opStore1 0 rfl rfl (by kernel_rfl) rfl rfl rfl (by kernel_rfl) rfl (by simp) ?_
        refine liNil (qThen ?_)
        have hsp : t32 = [] ∨ t30 < t32 := .inl (by simpa using hc40)
        have hga : gapR (qs.map QV.core) t30 t32 = (decide (x0.hi = []) || decide (t30 < x0.hi)) := gap_last (q := x0.core) hsp (by rw [List.length_map, hql, List.getElem?_map, hx0]; rfl)
        have hx : ((b235) || gapR (qs.map QV.core) t30 t32) = true := by rw [hga, show decide (x0.hi = []) = false from hc58, ← gtr_iff (a := x0.hi) (b := t30), hc70]; simp
        rw [hx]
        exact stMeet () trivial ⟨rfl, rfl, rfl, rfl, rfl, rfl, rfl, trivial⟩ (fun _ h => h)
       ·refine stSkip (qThen ?_)
        have hsp : t32 = [] ∨ t30 < t32 := .inl (by simpa using hc40)
        have hga : gapR (qs.map QV.core) t30 t32 = (decide (x0.hi = []) || decide (t30 < x0.hi)) := gap_last (q := x0.core) hsp (by rw [List.length_map, hql, List.getElem?_map, hx0]; rfl)
        have hx : ((b235) || gapR (qs.map QV.core) t30 t32) = (b235) := by rw [hga, show decide (x0.hi = []) = false from hc58, ← gtr_iff (a := x0.hi) (b := t30), hc70]; simp
        rw [hx]
        exact stMeet () trivial ⟨rfl, rfl, rfl, rfl, rfl, rfl, rfl, trivial⟩ (fun _ h => h)
     ·have hd50 := of_decide_eq_false hc50
      refine anF 14 ?_
      refine anF 15 ?_
      refine anF 16 ?_
      refine anF 17 ?_
      refine anF 18 ?_
      refine anF 19 ?_
      refine anF 20 ?_
      refine anF 21 ?_
      refine anU 22 ?_
      refine anU 23 ?_
      refine anU 24 ?_
      refine anU 25 ?_
      refine anU 26 ?_
      refine anU 27 ?_
      refine anU 28 ?_
      refine anU 29 ?_
      refine anU 30 ?_
      refine anF 31 ?_
      refine agc 32 (.bool false) ?_
      refine ac 33 (.bool false) ?_
      refine anyDone (by kernel_rfl) ?_
      refine qThen (stFalse rfl (stSkip (qThen ?_)))
      have hsp : t32 = [] ∨ t30 < t32 := .inl (by simpa using hc40)
      have hx : ((b235) || gapR (qs.map QV.core) t30 t32) = (b235) := by rw [gap_none hsp (by rw [List.length_map]; have := of_decide_eq_false hc50; omega), Bool.or_false]
      rw [hx]
      exact stMeet () trivial ⟨rfl, rfl, rfl, rfl, rfl, rfl, rfl, trivial⟩ (fun _ h => h)
   ·rintro _ -
    show St _ _ _ [(2, (.slice none 0 0)), (3, (.bool false)), (4, (vP b14 0)), (5, (vL RX (qs) rcX)), (6, (vI t16)), (7, (vI i)), (8, (vP b8 0))] [cAt b14 123 [(vL A235 l235 c235), (.bool ((b235) || gapR (qs.map QV.core) t30 t32))], cQ RX (qs) rcX, cBag (LX), cAt b8 80 [(vS t30), (vS t32), (vI t35), (.int .i64 0), (.string ⟨#[]⟩), (.slice none 0 0), (.slice none 0 0)]] _
    refine stSeq (stSeq (reg ?_))
    refine lc (vP b8 2) ?_
    refine lv (v := (vI t35)) (rLoad 3 rfl rfl (by kernel_rfl) rfl rfl) ?_
    refine liNil (qThen (stBlock (stSeq (reg ?_))))
    refine lc (.bool ((((t35 : Nat) : Int) : Int) == 1)) ?_
    refine la ?_
    refine liNil (qThen ?_)
    refine stCond rfl (fun hc79 => ?_) (fun hc79 => ?_)
    ·have hk : t35 = 1 := eqb_yes hc79
     refine stSeq (reg ?_)
     refine lm ?_
     refine li rfl ?_
     refine opK [0] [cAt b14 123 [(vL A235 l235 c235), (.bool ((b235) || gapR (qs.map QV.core) t30 t32))]] (fun w hM hO => (rsNumV_any b14 A D A235 c235 l235 ((b235) || gapR (qs.map QV.core) t30 t32) 16384 w hO (r0.goS hM [0]) (by assumption) (by assumption) (by omega)).mono ?_)
     rintro e w' ⟨t82, l282, b282, A282, c282, rfl, hP, heq82, hs82⟩
     refine ⟨_, [cAt b14 123 [(vL A282 l282 c282), (.bool b282)]], _, rfl, hP, rfl, ?_⟩; clear hP hM hO
     refine lc (vP b8 3) ?_
     refine li rfl ?_
     refine opStore1 3 rfl rfl (by kernel_rfl) rfl rfl rfl (by kernel_rfl) rfl (by simp) ?_
     refine liNil (qThen (reg ?_))
     refine lm ?_
     refine li rfl ?_
     refine opK [0] [cAt b14 123 [(vL A282 l282 c282), (.bool b282)]] (fun w hM hO => (rsTakeV_any b14 A D A282 c282 l282 b282 32 w hO (r0.goS hM [0]) (by assumption) (by assumption) (by omega)).mono ?_)
     rintro e w' ⟨t85, l285, b285, A285, c285, rfl, hP, heq85, hs85⟩
     refine ⟨_, [cAt b14 123 [(vL A285 l285 c285), (.bool b285)]], _, rfl, hP, rfl, ?_⟩; clear hP hM hO
     refine lc (vP b8 4) ?_
     refine li rfl ?_
     refine opStore1 3 rfl rfl (by kernel_rfl) rfl rfl rfl (by kernel_rfl) rfl (by simp) ?_
     refine liNil (qBlock (qThen ?_))
     refine St.to [cAt b14 123 [(vL A285 l285 c285), (.bool b285)], cQ RX (qs) rcX, cBag (LX), cAt b8 80 [(vS t30), (vS t32), (vI t35), (vI t82), (vS t85), (.slice none 0 0), (.slice none 0 0)]] (by kernel_rfl) ?_
     refine reg ?_
     refine lm ?_
     refine lv (v := (.agg #[(vS t30), (vS t32), (vI t35), (vI t82), (vS t85), (.slice none 0 0), (.slice none 0 0)])) (rLoadA [(vS t30), (vS t32), (vI t35), (vI t82), (vS t85), (.slice none 0 0), (.slice none 0 0)] rfl rfl (by kernel_rfl) (by kernel_rfl) (segAt (i := 3) rfl (by intro j v hj; first | (rw [Nat.zero_add]; exact hj) | (match j, hj with | 0, h => exact h | 1, h => exact h | 2, h => exact h | 3, h => exact h | 4, h => exact h | 5, h => exact h | 6, h => exact h)))) ?_
     refine li rfl ?_
     refine opNew (v := fun b => .slice (some ⟨b, 0, none⟩) 1 1) 80 [(vS t30), (vS t32), (vI t35), (vI t82), (vS t85), (.slice none 0 0), (.slice none 0 0)] rfl (by kernel_rfl) (fun _ => by kernel_rfl) (fun b105 => ?_)
     refine li rfl ?_
     refine opAppend el_qpart 1 ([(vS t30), (vS t32), (vI t35), (vI t82), (vS t85), (.slice none 0 0), (.slice none 0 0)]) rfl rfl (by kernel_rfl) rfl rfl rfl (rfl) (srcAt (i := 4) rfl (fun j v h => by rw [Nat.zero_add]; exact h)) (QV.one (QV.mk t30 t32 t35 t82 t85 none 0 [] none 0 [])) (by omega) ((qs ++ ([QV.mk t30 t32 t35 t82 t85 none 0 [] none 0 []])).length) (by first | exact (List.length_append ..).symm | (simp; done) | (simp; omega)) (QS (qs ++ ([QV.mk t30 t32 t35 t82 t85 none 0 [] none 0 []]))) ((QS_append _ ([QV.mk t30 t32 t35 t82 t85 none 0 [] none 0 []])).symm) (fun A106 c106 => ?_)
     refine la ?_
     refine liNil (qBlock (qThen (reg ?_)))
     refine lm ?_
     refine lv (v := (vI (i + 1))) (rAdd _ rfl rfl rfl (by omega) (by omega) (by omega)) ?_
     refine la ?_
     refine liNil (qThen ?_)
     rw [hbf] at heq30
     have hpt : ptR (qs.map QV.core) (psR l216 b216 i).2.1 false = ((QV.mk t30 t32 t35 t82 t85 none 0 [] none 0 []).core, l285, b285) := ptR_1 heq30 heq32 heq35 hk heq82 heq85
     have hgo : psR l216 b216 (i + 1) = ((psR l216 b216 i).1 ++ [(QV.mk t30 t32 t35 t82 t85 none 0 [] none 0 []).core], l285, b285) := by rw [psR_next hbf, ← hqc, hpt]
     have hsN : Sub8 A D A285 (psR l216 b216 (i + 1)).2.1 c285 := by rw [hgo]; exact hs85
     have hqN : (qs ++ [QV.mk t30 t32 t35 t82 t85 none 0 [] none 0 []]).map QV.core = (psR l216 b216 (i + 1)).1 := by rw [hgo, List.map_append, hqc]; rfl
     have hrN : QIn (LX) (qs ++ [QV.mk t30 t32 t35 t82 t85 none 0 [] none 0 []]) := hrw.same qin0
     rw [show l285 = (psR l216 b216 (i + 1)).2.1 from by rw [hgo]]
     rw [show b285 = (psR l216 b216 (i + 1)).2.2 from by rw [hgo]]
     exact stAgain (i + 1, A285, c285, A106, c106, qs ++ [QV.mk t30 t32 t35 t82 t85 none 0 [] none 0 []], LX) (⟨by omega, hsN, hqN, hrN⟩) (by show t16 - (i + 1) < t16 - i; omega) ⟨rfl, rfl, rfl, rfl, rfl, rfl, trivial⟩ (fun w hM => (hM.pick [0, 1, 2] rfl rfl))
    ·have hn1 : ¬ t35 = 1 := eqb_no hc79
     refine stSeq (reg ?_)
     refine lc (.bool ((((t35 : Nat) : Int) : Int) == 2)) ?_
     refine la ?_
     refine liNil (qThen ?_)
     refine stCond rfl (fun hc87 => ?_) (fun hc87 => ?_)
     ·have hk : t35 = 2 := eqb_yes hc87
      refine reg ?_
      refine lm ?_
      refine lv (v := (.agg #[(vS t30), (vS t32), (vI t35), (.int .i64 0), (.string ⟨#[]⟩), (.slice none 0 0), (.slice none 0 0)])) (rLoadA [(vS t30), (vS t32), (vI t35), (.int .i64 0), (.string ⟨#[]⟩), (.slice none 0 0), (.slice none 0 0)] rfl rfl (by kernel_rfl) (by kernel_rfl) (segAt (i := 3) rfl (by intro j v hj; first | (rw [Nat.zero_add]; exact hj) | (match j, hj with | 0, h => exact h | 1, h => exact h | 2, h => exact h | 3, h => exact h | 4, h => exact h | 5, h => exact h | 6, h => exact h)))) ?_
      refine li rfl ?_
      refine opK [0] [cAt b14 123 [(vL A235 l235 c235), (.bool ((b235) || gapR (qs.map QV.core) t30 t32))]] (fun w hM hO => (rsItemsV_any b14 A D A235 c235 l235 ((b235) || gapR (qs.map QV.core) t30 t32) t30 t32 (vI t35) (.int .i64 0) (.string ⟨#[]⟩) (.slice none 0 0) (.slice none 0 0) 64 w hO (r0.goS hM [0]) (by assumption) (by assumption) (by omega)).mono ?_)
      rintro e w' ⟨t91, l291, b291, A291, c291, B91, cb91, rfl, hP, heq91, hs91⟩
      refine ⟨_, [cAt b14 123 [(vL A291 l291 c291), (.bool b291)]], _, rfl, hP, rfl, ?_⟩; clear hP hM hO
      refine lc (vP b8 5) ?_
      refine li rfl ?_
      refine opStore1 3 rfl rfl (by kernel_rfl) rfl rfl rfl (by kernel_rfl) rfl (by simp) ?_
      refine liNil (qBlock (qThen ?_))
      refine St.to [cAt b14 123 [(vL A291 l291 c291), (.bool b291)], cQ RX (qs) rcX, cBag (LX), cAt b8 80 [(vS t30), (vS t32), (vI t35), (.int .i64 0), (.string ⟨#[]⟩), (vL B91 t91 cb91), (.slice none 0 0)], cS B91 t91 cb91] (by kernel_rfl) ?_
      refine reg ?_
      refine lm ?_
      refine lv (v := (.agg #[(vS t30), (vS t32), (vI t35), (.int .i64 0), (.string ⟨#[]⟩), (vL B91 t91 cb91), (.slice none 0 0)])) (rLoadA [(vS t30), (vS t32), (vI t35), (.int .i64 0), (.string ⟨#[]⟩), (vL B91 t91 cb91), (.slice none 0 0)] rfl rfl (by kernel_rfl) (by kernel_rfl) (segAt (i := 3) rfl (by intro j v hj; first | (rw [Nat.zero_add]; exact hj) | (match j, hj with | 0, h => exact h | 1, h => exact h | 2, h => exact h | 3, h => exact h | 4, h => exact h | 5, h => exact h | 6, h => exact h)))) ?_
      refine li rfl ?_
      refine opNew (v := fun b => .slice (some ⟨b, 0, none⟩) 1 1) 80 [(vS t30), (vS t32), (vI t35), (.int .i64 0), (.string ⟨#[]⟩), (vL B91 t91 cb91), (.slice none 0 0)] rfl (by kernel_rfl) (fun _ => by kernel_rfl) (fun b105 => ?_)
      refine li rfl ?_
      refine opAppend el_qpart 1 ([(vS t30), (vS t32), (vI t35), (.int .i64 0), (.string ⟨#[]⟩), (vL B91 t91 cb91), (.slice none 0 0)]) rfl rfl (by kernel_rfl) rfl rfl rfl (rfl) (srcAt (i := 5) rfl (fun j v h => by rw [Nat.zero_add]; exact h)) (QV.one (QV.mk t30 t32 t35 0 [] B91 cb91 t91 none 0 [])) (by omega) ((qs ++ ([QV.mk t30 t32 t35 0 [] B91 cb91 t91 none 0 []])).length) (by first | exact (List.length_append ..).symm | (simp; done) | (simp; omega)) (QS (qs ++ ([QV.mk t30 t32 t35 0 [] B91 cb91 t91 none 0 []]))) ((QS_append _ ([QV.mk t30 t32 t35 0 [] B91 cb91 t91 none 0 []])).symm) (fun A106 c106 => ?_)
      refine la ?_
      refine liNil (qBlock (qThen (reg ?_)))
      refine lm ?_
      refine lv (v := (vI (i + 1))) (rAdd _ rfl rfl rfl (by omega) (by omega) (by omega)) ?_
      refine la ?_
      refine liNil (qThen ?_)
      rw [hbf] at heq30
      have hpt : ptR (qs.map QV.core) (psR l216 b216 i).2.1 false = ((QV.mk t30 t32 t35 0 [] B91 cb91 t91 none 0 []).core, l291, b291) := ptR_2 heq30 heq32 heq35 hk heq91
      have hgo : psR l216 b216 (i + 1) = ((psR l216 b216 i).1 ++ [(QV.mk t30 t32 t35 0 [] B91 cb91 t91 none 0 []).core], l291, b291) := by rw [psR_next hbf, ← hqc, hpt]
      have hsN : Sub8 A D A291 (psR l216 b216 (i + 1)).2.1 c291 := by rw [hgo]; exact hs91
      have hqN : (qs ++ [QV.mk t30 t32 t35 0 [] B91 cb91 t91 none 0 []]).map QV.core = (psR l216 b216 (i + 1)).1 := by rw [hgo, List.map_append, hqc]; rfl
      have hrN : QIn (LX ++ [(B91, t91)]) (qs ++ [QV.mk t30 t32 t35 0 [] B91 cb91 t91 none 0 []]) := hrw.append qin1
      rw [show l291 = (psR l216 b216 (i + 1)).2.1 from by rw [hgo]]
      rw [show b291 = (psR l216 b216 (i + 1)).2.2 from by rw [hgo]]
      exact stAgain (i + 1, A291, c291, A106, c106, qs ++ [QV.mk t30 t32 t35 0 [] B91 cb91 t91 none 0 []], LX ++ [(B91, t91)]) (⟨by omega, hsN, hqN, hrN⟩) (by show t16 - (i + 1) < t16 - i; omega) ⟨rfl, rfl, rfl, rfl, rfl, rfl, trivial⟩ (fun w hM => by show Mm _ _ [cAt b14 123 [(vL A291 ((psR l216 b216 (i + 1)).2.1) c291), (.bool ((psR l216 b216 (i + 1)).2.2))], cQ A106 (qs ++ ([QV.mk t30 t32 t35 0 [] B91 cb91 t91 none 0 []])) c106, cBag (LX ++ [(B91, t91)])] w; exact Mm.join (cs := [cAt b14 123 [(vL A291 ((psR l216 b216 (i + 1)).2.1) c291), (.bool ((psR l216 b216 (i + 1)).2.2))], cQ A106 (qs ++ ([QV.mk t30 t32 t35 0 [] B91 cb91 t91 none 0 []])) c106]) (L := LX) (M := [(B91, t91)]) ((((hM).toBag 4 rfl).pick [0, 1, 2, 4] rfl rfl)))
     ·have hn2 : ¬ t35 = 2 := eqb_no hc87
      refine stSeq (reg ?_)
      refine lc (.bool ((((t35 : Nat) : Int) : Int) == 3)) ?_
      refine la ?_
      refine liNil (qThen ?_)
      refine stCond rfl (fun hc93 => ?_) (fun hc93 => ?_)
      ·have hk : t35 = 3 := eqb_yes hc93
       refine stSeq (reg ?_)
       refine lm ?_
       refine lv (v := (.agg #[(vS t30), (vS t32), (vI t35), (.int .i64 0), (.string ⟨#[]⟩), (.slice none 0 0), (.slice none 0 0)])) (rLoadA [(vS t30), (vS t32), (vI t35), (.int .i64 0), (.string ⟨#[]⟩), (.slice none 0 0), (.slice none 0 0)] rfl rfl (by kernel_rfl) (by kernel_rfl) (segAt (i := 3) rfl (by intro j v hj; first | (rw [Nat.zero_add]; exact hj) | (match j, hj with | 0, h => exact h | 1, h => exact h | 2, h => exact h | 3, h => exact h | 4, h => exact h | 5, h => exact h | 6, h => exact h)))) ?_
       refine li rfl ?_
       refine opK [0] [cAt b14 123 [(vL A235 l235 c235), (.bool ((b235) || gapR (qs.map QV.core) t30 t32))]] (fun w hM hO => (rsItemsV_any b14 A D A235 c235 l235 ((b235) || gapR (qs.map QV.core) t30 t32) t30 t32 (vI t35) (.int .i64 0) (.string ⟨#[]⟩) (.slice none 0 0) (.slice none 0 0) 16384 w hO (r0.goS hM [0]) (by assumption) (by assumption) (by omega)).mono ?_)
       rintro e w' ⟨t97, l297, b297, A297, c297, B97, cb97, rfl, hP, heq97, hs97⟩
       refine ⟨_, [cAt b14 123 [(vL A297 l297 c297), (.bool b297)]], _, rfl, hP, rfl, ?_⟩; clear hP hM hO
       refine lc (vP b8 5) ?_
       refine li rfl ?_
       refine opStore1 3 rfl rfl (by kernel_rfl) rfl rfl rfl (by kernel_rfl) rfl (by simp) ?_
       refine liNil (qThen ?_)
       refine St.to [cAt b14 123 [(vL A297 l297 c297), (.bool b297)], cQ RX (qs) rcX, cBag (LX), cAt b8 80 [(vS t30), (vS t32), (vI t35), (.int .i64 0), (.string ⟨#[]⟩), (vL B97 t97 cb97), (.slice none 0 0)], cS B97 t97 cb97] (by kernel_rfl) ?_
       refine reg ?_
       refine lm ?_
       refine lv (v := (.agg #[(vS t30), (vS t32), (vI t35), (.int .i64 0), (.string ⟨#[]⟩), (vL B97 t97 cb97), (.slice none 0 0)])) (rLoadA [(vS t30), (vS t32), (vI t35), (.int .i64 0), (.string ⟨#[]⟩), (vL B97 t97 cb97), (.slice none 0 0)] rfl rfl (by kernel_rfl) (by kernel_rfl) (segAt (i := 3) rfl (by intro j v hj; first | (rw [Nat.zero_add]; exact hj) | (match j, hj with | 0, h => exact h | 1, h => exact h | 2, h => exact h | 3, h => exact h | 4, h => exact h | 5, h => exact h | 6, h => exact h)))) ?_
       refine li rfl ?_
       refine opK [0] [cAt b14 123 [(vL A297 l297 c297), (.bool b297)]] (fun w hM hO => (rsItemsV_any b14 A D A297 c297 l297 b297 t30 t32 (vI t35) (.int .i64 0) (.string ⟨#[]⟩) (vL B97 t97 cb97) (.slice none 0 0) 16384 w hO (r0.goS hM [0]) (by assumption) (by assumption) (by omega)).mono ?_)
       rintro e w' ⟨t101, l2101, b2101, A2101, c2101, B101, cb101, rfl, hP, heq101, hs101⟩
       refine ⟨_, [cAt b14 123 [(vL A2101 l2101 c2101), (.bool b2101)]], _, rfl, hP, rfl, ?_⟩; clear hP hM hO
       refine lc (vP b8 6) ?_
       refine li rfl ?_
       refine opStore1 3 rfl rfl (by kernel_rfl) rfl rfl rfl (by kernel_rfl) rfl (by simp) ?_
       refine liNil (qBlock (qThen (reg ?_)))
       refine lm ?_
       refine lv (v := (.agg #[(vS t30), (vS t32), (vI t35), (.int .i64 0), (.string ⟨#[]⟩), (vL B97 t97 cb97), (vL B101 t101 cb101)])) (rLoadA [(vS t30), (vS t32), (vI t35), (.int .i64 0), (.string ⟨#[]⟩), (vL B97 t97 cb97), (vL B101 t101 cb101)] rfl rfl (by kernel_rfl) (by kernel_rfl) (segAt (i := 3) rfl (by intro j v hj; first | (rw [Nat.zero_add]; exact hj) | (match j, hj with | 0, h => exact h | 1, h => exact h | 2, h => exact h | 3, h => exact h | 4, h => exact h | 5, h => exact h | 6, h => exact h)))) ?_
       refine li rfl ?_
       refine opNew (v := fun b => .slice (some ⟨b, 0, none⟩) 1 1) 80 [(vS t30), (vS t32), (vI t35), (.int .i64 0), (.string ⟨#[]⟩), (vL B97 t97 cb97), (vL B101 t101 cb101)] rfl (by kernel_rfl) (fun _ => by kernel_rfl) (fun b105 => ?_)
       refine li rfl ?_
       refine opAppend el_qpart 1 ([(vS t30), (vS t32), (vI t35), (.int .i64 0), (.string ⟨#[]⟩), (vL B97 t97 cb97), (vL B101 t101 cb101)]) rfl rfl (by kernel_rfl) rfl rfl rfl (rfl) (srcAt (i := 6) rfl (fun j v h => by rw [Nat.zero_add]; exact h)) (QV.one (QV.mk t30 t32 t35 0 [] B97 cb97 t97 B101 cb101 t101)) (by omega) ((qs ++ ([QV.mk t30 t32 t35 0 [] B97 cb97 t97 B101 cb101 t101])).length) (by first | exact (List.length_append ..).symm | (simp; done) | (simp; omega)) (QS (qs ++ ([QV.mk t30 t32 t35 0 [] B97 cb97 t97 B101 cb101 t101]))) ((QS_append _ ([QV.mk t30 t32 t35 0 [] B97 cb97 t97 B101 cb101 t101])).symm) (fun A106 c106 => ?_)
       refine la ?_
       refine liNil (qBlock (qThen ?_))
       refine St.to [cAt b14 123 [(vL A2101 l2101 c2101), (.bool b2101)], cQ A106 (qs ++ ([QV.mk t30 t32 t35 0 [] B97 cb97 t97 B101 cb101 t101])) c106, cBag (LX), cAt b8 80 [(vS t30), (vS t32), (vI t35), (.int .i64 0), (.string ⟨#[]⟩), (vL B97 t97 cb97), (vL B101 t101 cb101)], cS B97 t97 cb97, cS B101 t101 cb101, cAt b105 80 [(vS t30), (vS t32), (vI t35), (.int .i64 0), (.string ⟨#[]⟩), (vL B97 t97 cb97), (vL B101 t101 cb101)]] (by kernel_rfl) ?_
       refine reg ?_
       refine lm ?_
       refine lv (v := (vI (i + 1))) (rAdd _ rfl rfl rfl (by omega) (by omega) (by omega)) ?_
       refine la ?_
       refine liNil (qThen ?_)
       rw [hbf] at heq30
       have hpt : ptR (qs.map QV.core) (psR l216 b216 i).2.1 false = ((QV.mk t30 t32 t35 0 [] B97 cb97 t97 B101 cb101 t101).core, l2101, b2101) := ptR_3 heq30 heq32 heq35 hk heq97 heq101
       have hgo : psR l216 b216 (i + 1) = ((psR l216 b216 i).1 ++ [(QV.mk t30 t32 t35 0 [] B97 cb97 t97 B101 cb101 t101).core], l2101, b2101) := by rw [psR_next hbf, ← hqc, hpt]
       have hsN : Sub8 A D A2101 (psR l216 b216 (i + 1)).2.1 c2101 := by rw [hgo]; exact hs101
       have hqN : (qs ++ [QV.mk t30 t32 t35 0 [] B97 cb97 t97 B101 cb101 t101]).map QV.core = (psR l216 b216 (i + 1)).1 := by rw [hgo, List.map_append, hqc]; rfl
       have hrN : QIn (LX ++ ([(B97, t97)] ++ [(B101, t101)])) (qs ++ [QV.mk t30 t32 t35 0 [] B97 cb97 t97 B101 cb101 t101]) := hrw.append qin2
       rw [show l2101 = (psR l216 b216 (i + 1)).2.1 from by rw [hgo]]
       rw [show b2101 = (psR l216 b216 (i + 1)).2.2 from by rw [hgo]]
       exact stAgain (i + 1, A2101, c2101, A106, c106, qs ++ [QV.mk t30 t32 t35 0 [] B97 cb97 t97 B101 cb101 t101], LX ++ ([(B97, t97)] ++ [(B101, t101)])) (⟨by omega, hsN, hqN, hrN⟩) (by show t16 - (i + 1) < t16 - i; omega) ⟨rfl, rfl, rfl, rfl, rfl, rfl, trivial⟩ (fun w hM => by show Mm _ _ [cAt b14 123 [(vL A2101 ((psR l216 b216 (i + 1)).2.1) c2101), (.bool ((psR l216 b216 (i + 1)).2.2))], cQ A106 (qs ++ ([QV.mk t30 t32 t35 0 [] B97 cb97 t97 B101 cb101 t101])) c106, cBag (LX ++ ([(B97, t97)] ++ [(B101, t101)]))] w; exact Mm.join (cs := [cAt b14 123 [(vL A2101 ((psR l216 b216 (i + 1)).2.1) c2101), (.bool ((psR l216 b216 (i + 1)).2.2))], cQ A106 (qs ++ ([QV.mk t30 t32 t35 0 [] B97 cb97 t97 B101 cb101 t101])) c106]) (L := LX) (M := [(B97, t97)] ++ [(B101, t101)]) (Mm.join (cs := [cAt b14 123 [(vL A2101 ((psR l216 b216 (i + 1)).2.1) c2101), (.bool ((psR l216 b216 (i + 1)).2.2))], cQ A106 (qs ++ ([QV.mk t30 t32 t35 0 [] B97 cb97 t97 B101 cb101 t101])) c106, cBag (LX)]) (L := [(B97, t97)]) (M := [(B101, t101)]) (((((hM).toBag 4 rfl).toBag 5 rfl).pick [0, 1, 2, 4, 5] rfl rfl))))
      ·have hn3 : ¬ t35 = 3 := eqb_no hc93
       refine reg ?_
       refine lm ?_
       refine lc (vP b14 0) ?_
       refine lc (vP b14 1) ?_
       refine li rfl ?_
       refine opStore1 0 rfl rfl (by kernel_rfl) rfl rfl rfl (by kernel_rfl) rfl (by simp) ?_
       refine liNil (qBlock (qThen (reg ?_)))
       refine lm ?_
       refine lv (v := (.agg #[(vS t30), (vS t32), (vI t35), (.int .i64 0), (.string ⟨#[]⟩), (.slice none 0 0), (.slice none 0 0)])) (rLoadA [(vS t30), (vS t32), (vI t35), (.int .i64 0), (.string ⟨#[]⟩), (.slice none 0 0), (.slice none 0 0)] rfl rfl (by kernel_rfl) (by kernel_rfl) (segAt (i := 3) rfl (by intro j v hj; first | (rw [Nat.zero_add]; exact hj) | (match j, hj with | 0, h => exact h | 1, h => exact h | 2, h => exact h | 3, h => exact h | 4, h => exact h | 5, h => exact h | 6, h => exact h)))) ?_
       refine li rfl ?_
       refine opNew (v := fun b => .slice (some ⟨b, 0, none⟩) 1 1) 80 [(vS t30), (vS t32), (vI t35), (.int .i64 0), (.string ⟨#[]⟩), (.slice none 0 0), (.slice none 0 0)] rfl (by kernel_rfl) (fun _ => by kernel_rfl) (fun b105 => ?_)
       refine li rfl ?_
       refine opAppend el_qpart 1 ([(vS t30), (vS t32), (vI t35), (.int .i64 0), (.string ⟨#[]⟩), (.slice none 0 0), (.slice none 0 0)]) rfl rfl (by kernel_rfl) rfl rfl rfl (rfl) (srcAt (i := 4) rfl (fun j v h => by rw [Nat.zero_add]; exact h)) (QV.one (QV.mk t30 t32 t35 0 [] none 0 [] none 0 [])) (by omega) ((qs ++ ([QV.mk t30 t32 t35 0 [] none 0 [] none 0 []])).length) (by first | exact (List.length_append ..).symm | (simp; done) | (simp; omega)) (QS (qs ++ ([QV.mk t30 t32 t35 0 [] none 0 [] none 0 []]))) ((QS_append _ ([QV.mk t30 t32 t35 0 [] none 0 [] none 0 []])).symm) (fun A106 c106 => ?_)
       refine la ?_
       refine liNil (qBlock (qThen (reg ?_)))
       refine lm ?_
       refine lv (v := (vI (i + 1))) (rAdd _ rfl rfl rfl (by omega) (by omega) (by omega)) ?_
       refine la ?_
       refine liNil (qThen ?_)
       rw [hbf] at heq30
       have hpt : ptR (qs.map QV.core) (psR l216 b216 i).2.1 false = ((QV.mk t30 t32 t35 0 [] none 0 [] none 0 []).core, l235, true) := ptR_0 heq30 heq32 heq35 hn1 hn2 hn3
       have hgo : psR l216 b216 (i + 1) = ((psR l216 b216 i).1 ++ [(QV.mk t30 t32 t35 0 [] none 0 [] none 0 []).core], l235, true) := by rw [psR_next hbf, ← hqc, hpt]
       have hsN : Sub8 A D A235 (psR l216 b216 (i + 1)).2.1 c235 := by rw [hgo]; exact hs35
       have hqN : (qs ++ [QV.mk t30 t32 t35 0 [] none 0 [] none 0 []]).map QV.core = (psR l216 b216 (i + 1)).1 := by rw [hgo, List.map_append, hqc]; rfl
       have hrN : QIn (LX) (qs ++ [QV.mk t30 t32 t35 0 [] none 0 [] none 0 []]) := hrw.same qin0
       rw [show l235 = (psR l216 b216 (i + 1)).2.1 from by rw [hgo]]
       rw [show true = (psR l216 b216 (i + 1)).2.2 from by rw [hgo]]
       exact stAgain (i + 1, A235, c235, A106, c106, qs ++ [QV.mk t30 t32 t35 0 [] none 0 [] none 0 []], LX) (⟨by omega, hsN, hqN, hrN⟩) (by show t16 - (i + 1) < t16 - i; omega) ⟨rfl, rfl, rfl, rfl, rfl, rfl, trivial⟩ (fun w hM => (hM.pick [0, 1, 2] rfl rfl))
  ·have hbt : (psR l216 b216 i).2.2 = true := by simpa using hc26
   have hf : dcR D = psR l216 b216 i := by have h := psR_stop hbt (t16 - i); rw [show i + (t16 - i) = t16 by omega] at h; rw [hdc]; exact h
   refine stExit (qThenX (qThenX (qBlockX (qThen (stSeq ?_)))))
   refine anyBegin [cAt b14 123 [(vL AX ((psR l216 b216 i).2.1) cX), (.bool ((psR l216 b216 i).2.2))], cQ RX (qs) rcX, cBag (LX)] 20 (by kernel_rfl) (fun _ h => h) ?_
   refine am 0 ?_
   refine am 1 ?_
   refine ac 2 (vP b14 0) ?_
   refine ac 3 (vP b14 1) ?_
   refine av 4 (.bool ((psR l216 b216 i).2.2)) rfl (rLoad 0 rfl rfl (by kernel_rfl) rfl rfl) ?_
   refine ac 5 (.bool (!((psR l216 b216 i).2.2))) ?_
   refine am 6 ?_
   refine Any.dec 113 rfl (fun hc113 => ?_) (fun hc113 => ?_)
   ·refine agm 7 ?_
    refine agc 8 (.bool (decide (((t16 : Nat) : Int) > 0))) ?_
    refine ac 9 (.bool (decide (((t16 : Nat) : Int) > 0))) ?_
    refine am 10 ?_
    refine Any.dec 117 rfl (fun hc117 => ?_) (fun hc117 => ?_)
    ·have hd117 := of_decide_eq_true hc117
     refine agm 11 ?_
     refine agc 12 (vP b14 0) ?_
     refine agc 13 (vP b14 0) ?_
     refine agv 14 (vL AX ((psR l216 b216 i).2.1) cX) rfl (rLoad 0 rfl rfl (by kernel_rfl) rfl rfl) ?_
     refine agc 15 (vI (((psR l216 b216 i).2.1).length)) ?_
     refine agc 16 (.bool ((((((psR l216 b216 i).2.1).length : Nat) : Int) : Int) == 0)) ?_
     refine ac 17 (.bool ((((((psR l216 b216 i).2.1).length : Nat) : Int) : Int) == 0)) ?_
     refine aa 18 ?_
     refine aa 19 ?_
     refine anyDone (by kernel_rfl) ?_
     refine qThen (stRet ?_)
     refine stEnd [(vL RX (qs) rcX), (.bool ((((((psR l216 b216 i).2.1).length : Nat) : Int) : Int) == 0))] rfl ⟨rfl, rfl, trivial⟩ (fun w hM => ?_)
     -- path [(20, True), (26, False), (113, True), (117, True)]: ((((((psR l216 b216 i).2.1).length : Nat) : Int) : Int) == 0)
     have hx : dcOk D = ((((((psR l216 b216 i).2.1).length : Nat) : Int) : Int) == 0) := by rw [hbt] at hc113; cases hc113
     rw [hx]
     exact ⟨_, _, qs, LX, rfl, (hM.pick [1, 2] rfl rfl), by rw [hf]; exact hqc, hrw⟩
    ·have hd117 := of_decide_eq_false hc117
     refine anF 11 ?_
     refine anF 12 ?_
     refine anF 13 ?_
     refine anF 14 ?_
     refine anF 15 ?_
     refine anF 16 ?_
     refine ac 17 (.bool false) ?_
     refine aa 18 ?_
     refine aa 19 ?_
     refine anyDone (by kernel_rfl) ?_
     refine qThen (stRet ?_)
     refine stEnd [(vL RX (qs) rcX), (.bool false)] rfl ⟨rfl, rfl, trivial⟩ (fun w hM => ?_)
     -- path [(20, True), (26, False), (113, True), (117, False)]: false
     have hx : dcOk D = false := by rw [hbt] at hc113; cases hc113
     rw [hx]
     exact ⟨_, _, qs, LX, rfl, (hM.pick [1, 2] rfl rfl), by rw [hf]; exact hqc, hrw⟩
   ·refine anF 7 ?_
    refine anF 8 ?_
    refine ac 9 (.bool false) ?_
    refine am 10 ?_
    refine anF 11 ?_
    refine anF 12 ?_
    refine anF 13 ?_
    refine anF 14 ?_
    refine anF 15 ?_
    refine anF 16 ?_
    refine ac 17 (.bool false) ?_
    refine aa 18 ?_
    refine aa 19 ?_
    refine anyDone (by kernel_rfl) ?_
    refine qThen (stRet ?_)
    refine stEnd [(vL RX (qs) rcX), (.bool false)] rfl ⟨rfl, rfl, trivial⟩ (fun w hM => ?_)
    -- path [(20, True), (26, False), (113, False)]: false
    have hx : dcOk D = false := by rw [hdo, hf, hc113]; rfl
    rw [hx]
    exact ⟨_, _, qs, LX, rfl, (hM.pick [1, 2] rfl rfl), by rw [hf]; exact hqc, hrw⟩
 ·have hd20 := of_decide_eq_false hc20
  have hin : i = t16 := by have := of_decide_eq_false hc20; omega
  have hf : dcR D = psR l216 b216 i := by rw [hdc, hin]
  refine lnF ?_
  refine lnF ?_
  refine lnF ?_
  refine lnF ?_
  refine lnF ?_
  refine lc (.bool false) ?_
  refine liNil (qThen (stFalse rfl (stExit (qThenX (qThenX (qBlockX (qThen (stSeq ?_))))))))
  refine anyBegin [cAt b14 123 [(vL AX ((psR l216 b216 i).2.1) cX), (.bool ((psR l216 b216 i).2.2))], cQ RX (qs) rcX, cBag (LX)] 20 (by kernel_rfl) (fun _ h => h) ?_
  refine am 0 ?_
  refine am 1 ?_
  refine ac 2 (vP b14 0) ?_
  refine ac 3 (vP b14 1) ?_
  refine av 4 (.bool ((psR l216 b216 i).2.2)) rfl (rLoad 0 rfl rfl (by kernel_rfl) rfl rfl) ?_
  refine ac 5 (.bool (!((psR l216 b216 i).2.2))) ?_
  refine am 6 ?_
  refine Any.dec 113 rfl (fun hc113 => ?_) (fun hc113 => ?_)
  ·refine agm 7 ?_
   refine agc 8 (.bool (decide (((t16 : Nat) : Int) > 0))) ?_
   refine ac 9 (.bool (decide (((t16 : Nat) : Int) > 0))) ?_
   refine am 10 ?_
   refine Any.dec 117 rfl (fun hc117 => ?_) (fun hc117 => ?_)
   ·have hd117 := of_decide_eq_true hc117
    refine agm 11 ?_
    refine agc 12 (vP b14 0) ?_
    refine agc 13 (vP b14 0) ?_
    refine agv 14 (vL AX ((psR l216 b216 i).2.1) cX) rfl (rLoad 0 rfl rfl (by kernel_rfl) rfl rfl) ?_
    refine agc 15 (vI (((psR l216 b216 i).2.1).length)) ?_
    refine agc 16 (.bool ((((((psR l216 b216 i).2.1).length : Nat) : Int) : Int) == 0)) ?_
    refine ac 17 (.bool ((((((psR l216 b216 i).2.1).length : Nat) : Int) : Int) == 0)) ?_
    refine aa 18 ?_
    refine aa 19 ?_
    refine anyDone (by kernel_rfl) ?_
    refine qThen (stRet ?_)
    refine stEnd [(vL RX (qs) rcX), (.bool ((((((psR l216 b216 i).2.1).length : Nat) : Int) : Int) == 0))] rfl ⟨rfl, rfl, trivial⟩ (fun w hM => ?_)
    -- path [(20, False), (113, True), (117, True)]: ((((((psR l216 b216 i).2.1).length : Nat) : Int) : Int) == 0)
    have hx : dcOk D = ((((((psR l216 b216 i).2.1).length : Nat) : Int) : Int) == 0) := by rw [hdo, hf, hc113, decide_eq_true (show 0 < t16 by have := of_decide_eq_true hc117; omega), len_eq0]; simp only [Bool.true_and]
    rw [hx]
    exact ⟨_, _, qs, LX, rfl, (hM.pick [1, 2] rfl rfl), by rw [hf]; exact hqc, hrw⟩
   ·have hd117 := of_decide_eq_false hc117
    refine anF 11 ?_
    refine anF 12 ?_
    refine anF 13 ?_
    refine anF 14 ?_
    refine anF 15 ?_
    refine anF 16 ?_
    refine ac 17 (.bool false) ?_
    refine aa 18 ?_
    refine aa 19 ?_
    refine anyDone (by kernel_rfl) ?_
    refine qThen (stRet ?_)
    refine stEnd [(vL RX (qs) rcX), (.bool false)] rfl ⟨rfl, rfl, trivial⟩ (fun w hM => ?_)
    -- path [(20, False), (113, True), (117, False)]: false
    have hx : dcOk D = false := by rw [hdo, hf, hc113, decide_eq_false (show ¬ 0 < t16 by have := of_decide_eq_false hc117; omega)]; rfl
    rw [hx]
    exact ⟨_, _, qs, LX, rfl, (hM.pick [1, 2] rfl rfl), by rw [hf]; exact hqc, hrw⟩
  ·refine anF 7 ?_
   refine anF 8 ?_
   refine ac 9 (.bool false) ?_
   refine am 10 ?_
   refine anF 11 ?_
   refine anF 12 ?_
   refine anF 13 ?_
   refine anF 14 ?_
   refine anF 15 ?_
   refine anF 16 ?_
   refine ac 17 (.bool false) ?_
   refine aa 18 ?_
   refine aa 19 ?_
   refine anyDone (by kernel_rfl) ?_
   refine qThen (stRet ?_)
   refine stEnd [(vL RX (qs) rcX), (.bool false)] rfl ⟨rfl, rfl, trivial⟩ (fun w hM => ?_)
   -- path [(20, False), (113, False)]: false
   have hx : dcOk D = false := by rw [hdo, hf, hc113]; rfl
   rw [hx]
   exact ⟨_, _, qs, LX, rfl, (hM.pick [1, 2] rfl rfl), by rw [hf]; exact hqc, hrw⟩
end Go.Proofs.YtlepfnihpdhcaaaGreatDoor
namespace Go.Proofs.YtlepfnihpdhcaaaGreatDoor
open Go.RowKit
theorem rsRDiv_any (A : Option Addr) (c : Nat) (its : List (List UInt8)) (fan : Nat) (leaf : Nat) (NA : Option Addr) (nc : Nat) (nl : List (List UInt8)) (OA : Option Addr) (oc : Nat) (ol : List (List UInt8)) (lo : List UInt8) (hi : List UInt8) (kd : Nat) (nd : Nat) (f : List UInt8) (PA : Option Addr) (pc : Nat) (xs : List (List UInt8)) (PB : Option Addr) (pd : Nat) (ms : List (List UInt8)) (w : World) (r0 : Rf [] w (fun w => RowIn w A (SS its))) (hs : okSet its) (h40 : its.length ≤ 40) (hf : 2 ≤ fan) (hf2 : fan ≤ 16) (hn : 0 < (inL its lo hi).length) :
  Calls Tryz.prog 46 #[(.agg #[(vL A its c), (vI fan), (vI leaf), (vL NA nl nc), (vL OA ol oc)]), (.agg #[(vS lo), (vS hi), (vI kd), (vI nd), (vS f), (vL PA xs pc), (vL PB ms pd)])] w fun e w' => ∃ (B : Option Addr) (cb : Nat), e = .returned (vL B (dividQ its fan lo hi) cb) ∧ Back [] w [cQ B (dividQ its fan lo hi) cb] w' := by
 refine stEnter (args := [(.agg #[(vL A its c), (vI fan), (vI leaf), (vL NA nl nc), (vL OA ol oc)]), (.agg #[(vS lo), (vS hi), (vI kd), (vI nd), (vS f), (vL PA xs pc), (vL PB ms pd)])]) (fps []) Tryz.func46 rfl 56 rfl [(0, (.agg #[(vL A its c), (vI fan), (vI leaf), (vL NA nl nc), (vL OA ol oc)])), (1, (.agg #[(vS lo), (vS hi), (vI kd), (vI nd), (vS f), (vL PA xs pc), (vL PB ms pd)]))] ⟨rfl, rfl, trivial⟩ [] (Mm.start w []) ?_
 refine stSeq (reg (li rfl ?_))
 refine opBox [(vL A its c), (vI fan), (vI leaf), (vL NA nl nc), (vL OA ol oc)] rfl rfl (by kernel_rfl) rfl rfl (fun b2 => ?_)
 refine li rfl ?_
 refine opBox [(vS lo), (vS hi), (vI kd), (vI nd), (vS f), (vL PA xs pc), (vL PB ms pd)] rfl rfl (by kernel_rfl) rfl rfl (fun b3 => ?_)
 refine la ?_
 refine liNil (qThen (stSeq (reg ?_)))
 refine lc (vP b2 0) ?_
 refine lv (v := (vL A its c)) (rLoad 0 rfl rfl (by kernel_rfl) rfl rfl) ?_
 refine lc (vP b3 0) ?_
 refine lv (v := (vS lo)) (rLoad 1 rfl rfl (by kernel_rfl) rfl rfl) ?_
 refine lc (vP b3 1) ?_
 refine lv (v := (vS hi)) (rLoad 1 rfl rfl (by kernel_rfl) rfl rfl) ?_
 refine li rfl ?_
 refine opK0 (fun w hM => (rsIn_any A c its lo hi w (r0.go0 hM) (by omega)).mono ?_)
 rintro e w' ⟨B16, cb16, rfl, hP⟩
 refine ⟨_, _, rfl, hP, ?_⟩; clear hP hM
 refine la ?_
 refine liNil (qThen (stSeq (reg ?_)))
 refine la ?_
 refine liNil (qThen (stSeq (reg ?_)))
 refine lc (vP b3 0) ?_
 refine lv (v := (vS lo)) (rLoad 1 rfl rfl (by kernel_rfl) rfl rfl) ?_
 refine la ?_
 refine liNil (qThen (stSeq (stSeq ?_)))
 have hil := inL_len its lo hi
 refine reg ?_
 refine la ?_
 refine liNil (qThen (stBlock ?_))
 refine St.mem (fun w hM => hM.nilOwn 80 7) ?_
 refine stLoop (ι := Nat × Option Addr × Nat) (fun (k, RX, rcX) => k + 1 ≤ fan) (fun (k, RX, rcX) => fan - k) (fun (k, RX, rcX) => [(2, (vP b2 0)), (3, (vP b3 0)), (4, (.slice none 0 0)), (5, (vL B16 (inL its lo hi) cb16)), (6, (vL RX ((divQ its (inL its lo hi) fan lo k).2) rcX)), (7, (vS ((divQ its (inL its lo hi) fan lo k).1))), (8, (vI (k + 1)))]) (fun (k, RX, rcX) => [cAt b2 36 [(vL A its c), (vI fan), (vI leaf), (vL NA nl nc), (vL OA ol oc)], cAt b3 80 [(vS lo), (vS hi), (vI kd), (vI nd), (vS f), (vL PA xs pc), (vL PB ms pd)], cS B16 (inL its lo hi) cb16, cQ RX ((divQ its (inL its lo hi) fan lo k).2) rcX]) (0, none, 0) (by show 0 + 1 ≤ fan; omega) ⟨rfl, rfl, rfl, rfl, rfl, rfl, rfl, trivial⟩ (fun w hM => by show Mm _ _ [cAt b2 36 [(vL A its c), (vI fan), (vI leaf), (vL NA nl nc), (vL OA ol oc)], cAt b3 80 [(vS lo), (vS hi), (vI kd), (vI nd), (vS f), (vL PA xs pc), (vL PB ms pd)], cS B16 (inL its lo hi) cb16, cQ none ((divQ its (inL its lo hi) fan lo 0).2) 0] w; exact hM) ?_
 rintro ⟨k, RX, rcX⟩ (hok : k + 1 ≤ fan)
 show St _ _ _ [(2, (vP b2 0)), (3, (vP b3 0)), (4, (.slice none 0 0)), (5, (vL B16 (inL its lo hi) cb16)), (6, (vL RX ((divQ its (inL its lo hi) fan lo k).2) rcX)), (7, (vS ((divQ its (inL its lo hi) fan lo k).1))), (8, (vI (k + 1)))] [cAt b2 36 [(vL A its c), (vI fan), (vI leaf), (vL NA nl nc), (vL OA ol oc)], cAt b3 80 [(vS lo), (vS hi), (vI kd), (vI nd), (vS f), (vL PA xs pc), (vL PB ms pd)], cS B16 (inL its lo hi) cb16, cQ RX ((divQ its (inL its lo hi) fan lo k).2) rcX] _
 refine stSeq (stSeq (reg ?_))
 refine lm ?_
 refine lc (vP b2 1) ?_
 refine lc (vP b2 1) ?_
 refine lv (v := (vI fan)) (rLoad 0 rfl rfl (by kernel_rfl) rfl rfl) ?_
 refine lc (.bool (decide ((((k + 1) : Nat) : Int) < ((fan : Nat) : Int)))) ?_
 refine liNil (qThen ?_)
 refine stCond rfl (fun hc23 => ?_) (fun hc23 => ?_)
 ·have hd23 := of_decide_eq_true hc23
  have hk : k + 1 < fan := by have := of_decide_eq_true hc23; omega
  refine stSkip (qThen (stSeq (stBlock (stSeq ?_))))
  have hm1 : (k + 1) * (inL its lo hi).length ≤ 16 * 1000 := Nat.mul_le_mul (by omega) (by omega)
  have hm2 : (k + 1) * (inL its lo hi).length / fan < (inL its lo hi).length := by
   rw [Nat.div_lt_iff_lt_mul (by omega), Nat.mul_comm]
   exact Nat.mul_lt_mul_of_pos_left hk hn
  refine reg ?_
  refine lm ?_
  refine lm ?_
  refine lm ?_
  refine lc (vI ((inL its lo hi).length)) ?_
  refine lv (v := (vI ((k + 1) * (inL its lo hi).length))) (rMul _ rfl rfl rfl (by omega) (by omega) (by omega)) ?_
  refine lc (vP b2 1) ?_
  refine lc (vP b2 1) ?_
  refine lv (v := (vI fan)) (rLoad 0 rfl rfl (by kernel_rfl) rfl rfl) ?_
  refine lv (v := (vI ((k + 1) * (inL its lo hi).length / fan))) (rQuoN rfl rfl rfl (by omega) (by omega)) ?_
  obtain ⟨x0, hx0⟩ : ∃ ξ, (inL its lo hi)[(k + 1) * (inL its lo hi).length / fan]? = some ξ := ⟨_, List.getElem?_eq_getElem (by omega)⟩
  refine St.rowPtr (fun w hM => rowOwn (i := 2) rfl w hM) (SS_at hx0) (fun p35 q35 hA35 hc35 => ?_)
  refine lv (v := (vP p35 (q35 + ((k + 1) * (inL its lo hi).length / fan)))) (rIndexRow (e := 9) rfl (by kernel_rfl) (by kernel_rfl) rfl rfl hA35 (by omega)) ?_
  refine lv (v := (vS x0)) (rLoadW rfl rfl (by kernel_rfl) hc35) ?_
  refine la ?_
  refine liNil (qThen (stSeq (reg ?_)))
  refine lm ?_
  refine lm ?_
  refine lv (v := (.bool (!decide (x0 = (divQ its (inL its lo hi) fan lo k).1)))) (rStrNe rfl rfl rfl) ?_
  refine liNil (qThen ?_)
  refine stCond rfl (fun hc39 => ?_) (fun hc39 => ?_)
  ·refine stSeq (reg ?_)
   refine lm ?_
   refine lv (v := (.agg #[(vL A its c), (vI fan), (vI leaf), (vL NA nl nc), (vL OA ol oc)])) (rLoadA [(vL A its c), (vI fan), (vI leaf), (vL NA nl nc), (vL OA ol oc)] rfl rfl (by kernel_rfl) (by kernel_rfl) (segAt (i := 0) rfl (by intro j v hj; first | (rw [Nat.zero_add]; exact hj) | (match j, hj with | 0, h => exact h | 1, h => exact h | 2, h => exact h | 3, h => exact h | 4, h => exact h)))) ?_
   refine lm ?_
   refine lm ?_
   refine li rfl ?_
   refine opK0 (fun w hM => (rsRSummed_any A c its fan leaf NA nc nl OA oc ol ((divQ its (inL its lo hi) fan lo k).1) x0 w (r0.go0 hM) (by assumption) (by assumption)).mono ?_)
   rintro e w' ⟨rfl, hP⟩
   refine ⟨_, _, rfl, hP, ?_⟩; clear hP hM
   refine li rfl ?_
   refine opNew (v := fun b => .slice (some ⟨b, 0, none⟩) 1 1) 80 [(vS ((divQ its (inL its lo hi) fan lo k).1)), (vS x0), (vI 1), (vI (cnt its ((divQ its (inL its lo hi) fan lo k).1) x0)), (vS (fpB (inL its ((divQ its (inL its lo hi) fan lo k).1) x0))), (.slice none 0 0), (.slice none 0 0)] rfl (by kernel_rfl) (fun _ => by kernel_rfl) (fun b45 => ?_)
   refine li rfl ?_
   refine opAppend el_qpart 3 ([(vS ((divQ its (inL its lo hi) fan lo k).1)), (vS x0), (vI 1), (vI (cnt its ((divQ its (inL its lo hi) fan lo k).1) x0)), (vS (fpB (inL its ((divQ its (inL its lo hi) fan lo k).1) x0))), (.slice none 0 0), (.slice none 0 0)]) rfl rfl (by kernel_rfl) rfl rfl rfl (rfl) (srcAt (i := 4) rfl (fun j v h => by rw [Nat.zero_add]; exact h)) (QV.one (sumQ its _ _)) (by have := divQ_len its (inL its lo hi) fan lo k; omega) (((divQ its (inL its lo hi) fan lo k).2 ++ [sumQ its (divQ its (inL its lo hi) fan lo k).1 x0]).length) (by first | exact (List.length_append ..).symm | (simp; done) | (simp; omega)) (QS ((divQ its (inL its lo hi) fan lo k).2 ++ [sumQ its (divQ its (inL its lo hi) fan lo k).1 x0])) ((QS_append _ ([sumQ its (divQ its (inL its lo hi) fan lo k).1 x0])).symm) (fun A46 c46 => ?_)
   refine la ?_
   refine liNil (qThen (reg ?_))
   refine lm ?_
   refine la ?_
   refine liNil (qBlock (qThen (reg ?_)))
   refine lm ?_
   refine lv (v := (vI ((k + 1) + 1))) (rAdd _ rfl rfl rfl (by omega) (by omega) (by omega)) ?_
   refine la ?_
   refine liNil (qThen ?_)
   rw [show (divQ its (inL its lo hi) fan lo k).2 ++ [sumQ its (divQ its (inL its lo hi) fan lo k).1 x0] = (divQ its (inL its lo hi) fan lo (k + 1)).2 from by rw [divQ_yes hx0 hc39]]
   rw [show x0 = (divQ its (inL its lo hi) fan lo (k + 1)).1 from by rw [divQ_yes hx0 hc39]]
   exact stAgain (k + 1, A46, c46) (by show _ ≤ _; omega) (by show fan - (k + 1) < fan - k; omega) ⟨rfl, rfl, rfl, rfl, rfl, rfl, rfl, trivial⟩ (fun w hM => (hM.pick [0, 1, 2, 3] rfl rfl))
  ·refine stSkip (qBlock (qThen (reg ?_)))
   refine lm ?_
   refine lv (v := (vI ((k + 1) + 1))) (rAdd _ rfl rfl rfl (by omega) (by omega) (by omega)) ?_
   refine la ?_
   refine liNil (qThen ?_)
   rw [show divQ its (inL its lo hi) fan lo k = divQ its (inL its lo hi) fan lo (k + 1) from (divQ_no hx0 hc39).symm]
   exact stAgain (k + 1, RX, rcX) (by show _ ≤ _; omega) (by show fan - (k + 1) < fan - k; omega) ⟨rfl, rfl, rfl, rfl, rfl, rfl, rfl, trivial⟩ (fun w hM => hM)
 ·have hd23 := of_decide_eq_false hc23
  obtain rfl : k = fan - 1 := by have := of_decide_eq_false hc23; omega
  refine stExit (qThenX (qThenX (qBlockX (qThen (stSeq (reg ?_))))))
  refine lm ?_
  refine lv (v := (.agg #[(vL A its c), (vI fan), (vI leaf), (vL NA nl nc), (vL OA ol oc)])) (rLoadA [(vL A its c), (vI fan), (vI leaf), (vL NA nl nc), (vL OA ol oc)] rfl rfl (by kernel_rfl) (by kernel_rfl) (segAt (i := 0) rfl (by intro j v hj; first | (rw [Nat.zero_add]; exact hj) | (match j, hj with | 0, h => exact h | 1, h => exact h | 2, h => exact h | 3, h => exact h | 4, h => exact h)))) ?_
  refine lm ?_
  refine lc (vP b3 1) ?_
  refine lv (v := (vS hi)) (rLoad 1 rfl rfl (by kernel_rfl) rfl rfl) ?_
  refine li rfl ?_
  refine opK0 (fun w hM => (rsRSummed_any A c its fan leaf NA nc nl OA oc ol ((divQ its (inL its lo hi) fan lo (fan - 1)).1) hi w (r0.go0 hM) (by assumption) (by assumption)).mono ?_)
  rintro e w' ⟨rfl, hP⟩
  refine ⟨_, _, rfl, hP, ?_⟩; clear hP hM
  refine li rfl ?_
  refine opNew (v := fun b => .slice (some ⟨b, 0, none⟩) 1 1) 80 [(vS ((divQ its (inL its lo hi) fan lo (fan - 1)).1)), (vS hi), (vI 1), (vI (cnt its ((divQ its (inL its lo hi) fan lo (fan - 1)).1) hi)), (vS (fpB (inL its ((divQ its (inL its lo hi) fan lo (fan - 1)).1) hi))), (.slice none 0 0), (.slice none 0 0)] rfl (by kernel_rfl) (fun _ => by kernel_rfl) (fun b54 => ?_)
  refine li rfl ?_
  refine opAppend el_qpart 3 ([(vS ((divQ its (inL its lo hi) fan lo (fan - 1)).1)), (vS hi), (vI 1), (vI (cnt its ((divQ its (inL its lo hi) fan lo (fan - 1)).1) hi)), (vS (fpB (inL its ((divQ its (inL its lo hi) fan lo (fan - 1)).1) hi))), (.slice none 0 0), (.slice none 0 0)]) rfl rfl (by kernel_rfl) rfl rfl rfl (rfl) (srcAt (i := 4) rfl (fun j v h => by rw [Nat.zero_add]; exact h)) (QV.one (sumQ its _ _)) (by have := divQ_len its (inL its lo hi) fan lo (fan - 1); omega) (((divQ its (inL its lo hi) fan lo (fan - 1)).2 ++ [sumQ its (divQ its (inL its lo hi) fan lo (fan - 1)).1 hi]).length) (by first | exact (List.length_append ..).symm | (simp; done) | (simp; omega)) (QS ((divQ its (inL its lo hi) fan lo (fan - 1)).2 ++ [sumQ its (divQ its (inL its lo hi) fan lo (fan - 1)).1 hi])) ((QS_append _ ([sumQ its (divQ its (inL its lo hi) fan lo (fan - 1)).1 hi])).symm) (fun A55 c55 => ?_)
  refine St.to [cAt b2 36 [(vL A its c), (vI fan), (vI leaf), (vL NA nl nc), (vL OA ol oc)], cAt b3 80 [(vS lo), (vS hi), (vI kd), (vI nd), (vS f), (vL PA xs pc), (vL PB ms pd)], cS B16 (inL its lo hi) cb16, cQ A55 ((divQ its (inL its lo hi) fan lo (fan - 1)).2 ++ [sumQ its (divQ its (inL its lo hi) fan lo (fan - 1)).1 hi]) c55, cAt b54 80 [(vS ((divQ its (inL its lo hi) fan lo (fan - 1)).1)), (vS hi), (vI 1), (vI (cnt its ((divQ its (inL its lo hi) fan lo (fan - 1)).1) hi)), (vS (fpB (inL its ((divQ its (inL its lo hi) fan lo (fan - 1)).1) hi))), (.slice none 0 0), (.slice none 0 0)]] (by kernel_rfl) ?_
  refine la ?_
  refine liNil (qThen (stRet ?_))
  refine stEnd [(vL A55 ((divQ its (inL its lo hi) fan lo (fan - 1)).2 ++ [sumQ its (divQ its (inL its lo hi) fan lo (fan - 1)).1 hi]) c55)] rfl ⟨rfl, trivial⟩ (fun w hM => ?_)
  exact ⟨A55, c55, rfl, (hM.pick [3] rfl rfl)⟩
end Go.Proofs.YtlepfnihpdhcaaaGreatDoor
namespace Go.Proofs.YtlepfnihpdhcaaaGreatDoor
open Go.RowKit
theorem rsRItems_any (X : Option Addr × Nat) (br : Nat) (r : Rd) (most : Nat) (w : World) (hO : Own [cRd X br (r)] w) (hm : most ≤ 65536) :
  Calls Tryz.prog 92 #[(vP br 0), (vI most)] w fun e w' => ∃ (B : Option Addr) (cb : Nat), e = .returned (vL B ((r.items most).1) cb) ∧ Back [cRd X br (r)] w [cRd X br ((r.items most).2), cS B ((r.items most).1) cb] w' := by
 refine stEnter (args := [(vP br 0), (vI most)]) (fps [cRd X br (r)]) Tryz.func92 rfl 26 rfl [(0, (vP br 0)), (1, (vI most))] ⟨rfl, rfl, trivial⟩ [cRd X br (r)] (hO) ?_
 refine stSeq (reg ?_)
 refine la ?_
 refine liNil (qThen (stSeq ?_))
 refine St.fact (fun w hM => (hM.at (i := 0) (c := cRd X br r) rfl).2.len) (fun hrl => ?_)
 refine reg ?_
 refine lm ?_
 refine lm ?_
 refine lm ?_
 refine li rfl ?_
 refine opK [0] [cRd X br (r)] (fun w hM hO => (rsRLeft_any X br r w hO).mono ?_)
 rintro e w' ⟨rfl, hP⟩
 refine ⟨_, [cRd X br (r)], _, rfl, hP, rfl, ?_⟩; clear hP hM hO
 refine lv (v := (vI ((r.D.length - r.off) / 32))) (rQuoN rfl rfl rfl (by omega) (by omega)) ?_
 refine lv (v := (vI (r.most most))) (rMinN rfl rfl rfl) ?_
 have hml : r.most most ≤ most := Nat.min_le_left _ _
 refine li rfl ?_
 refine opK [0] [cRd X br (r)] (fun w hM hO => (rsRCount_any X br r (r.most most) w hO (by omega)).mono ?_)
 rintro e w' ⟨rfl, hP⟩
 refine ⟨_, [cRd X br ((r.cnt (r.most most)).2)], _, rfl, hP, rfl, ?_⟩; clear hP hM hO
 have hcl := r.cnt_le (r.most most)
 refine la ?_
 refine liNil (qThen (stSeq (reg ?_)))
 refine lm ?_
 refine li rfl ?_
 refine opMk0 el_strC ((r.cnt (r.most most)).1) (by omega) rfl rfl (by kernel_rfl) rfl rfl (fun b15 => ?_) (by omega)
 refine la ?_
 refine liNil (qThen (stSeq (stSeq (reg ?_))))
 refine lm ?_
 refine lm ?_
 refine liNil (qThen (stBlock ?_))
 refine stLoop (ι := Nat × Option Addr × Nat) (fun (i, AX, cX) => i ≤ (r.cnt (r.most most)).1) (fun (i, AX, cX) => (r.cnt (r.most most)).1 - i) (fun (i, AX, cX) => [(0, (vP br 0)), (4, (.slice none 0 0)), (16, (vI ((r.cnt (r.most most)).1))), (6, (vL AX (((r.cnt (r.most most)).2.sums i).1) cX)), (17, (vI i))]) (fun (i, AX, cX) => [cRd X br (((r.cnt (r.most most)).2.sums i).2), cS AX (((r.cnt (r.most most)).2.sums i).1) cX]) (0, (some ⟨b15, 0, none⟩), ((r.cnt (r.most most)).1)) (Nat.zero_le _) ⟨rfl, rfl, rfl, rfl, rfl, trivial⟩ (fun w hM => by show Mm _ _ [cRd X br (((r.cnt (r.most most)).2.sums 0).2), cS (some ⟨b15, 0, none⟩) (((r.cnt (r.most most)).2.sums 0).1) (((r.cnt (r.most most)).1))] w; exact hM) ?_
 rintro ⟨i, AX, cX⟩ (hok : i ≤ (r.cnt (r.most most)).1)
 show St _ _ _ [(0, (vP br 0)), (4, (.slice none 0 0)), (16, (vI ((r.cnt (r.most most)).1))), (6, (vL AX (((r.cnt (r.most most)).2.sums i).1) cX)), (17, (vI i))] [cRd X br (((r.cnt (r.most most)).2.sums i).2), cS AX (((r.cnt (r.most most)).2.sums i).1) cX] _
 refine stSeq (reg ?_)
 refine lc (.bool (decide (((i : Nat) : Int) < (((r.cnt (r.most most)).1 : Nat) : Int)))) ?_
 refine liNil (qThen (stSeq ?_))
 refine stCond rfl (fun hc18 => ?_) (fun hc18 => ?_)
 ·have hd18 := of_decide_eq_true hc18
  refine stSkip (qThen (stSeq (stBlock (reg ?_))))
  refine lm ?_
  refine lm ?_
  refine li rfl ?_
  refine opK [0] [cRd X br (((r.cnt (r.most most)).2.sums i).2)] (fun w hM hO => (rsRSum_any X br (((r.cnt (r.most most)).2.sums i).2) w hO).mono ?_)
  rintro e w' ⟨rfl, hP⟩
  refine ⟨_, [cRd X br ((((r.cnt (r.most most)).2.sums i).2).sum.2)], _, rfl, hP, rfl, ?_⟩; clear hP hM hO
  refine li rfl ?_
  refine opNew (v := fun b => .slice (some ⟨b, 0, none⟩) 1 1) 9 [(vS ((((r.cnt (r.most most)).2.sums i).2).sum.1))] rfl (by kernel_rfl) (fun _ => by kernel_rfl) (fun b22 => ?_)
  refine li rfl ?_
  refine opAppend el_strC 1 ([(vS ((((r.cnt (r.most most)).2.sums i).2).sum.1))]) rfl rfl (by kernel_rfl) rfl rfl rfl (rfl) (srcAt (i := 2) rfl (fun j v h => by rw [Nat.zero_add]; exact h)) (by simp [Value.oneCell']) (by rw [Rd.sums_len]; omega) ((((r.cnt (r.most most)).2.sums i).1 ++ [(((r.cnt (r.most most)).2.sums i).2).sum.1]).length) (by first | exact (List.length_append ..).symm | (simp; done) | (simp; omega)) (SS (((r.cnt (r.most most)).2.sums i).1 ++ [(((r.cnt (r.most most)).2.sums i).2).sum.1])) (by simp [SS]) (fun A23 c23 => ?_)
  refine la ?_
  refine liNil (qBlock (qThen (reg ?_)))
  refine lv (v := (vI (i + 1))) (rAdd _ rfl rfl rfl (by omega) (by omega) (by omega)) ?_
  refine lm ?_
  refine liNil (qThen ?_)
  exact stAgain (i + 1, A23, c23) (by show _ ≤ _; omega) (by show (r.cnt (r.most most)).1 - (i + 1) < (r.cnt (r.most most)).1 - i; omega) ⟨rfl, rfl, rfl, rfl, rfl, trivial⟩ (fun w hM => by show Mm _ _ [cRd X br (((r.cnt (r.most most)).2.sums (i + 1)).2), cS A23 (((r.cnt (r.most most)).2.sums (i + 1)).1) c23] w; exact (hM.pick [0, 1] rfl rfl))
 ·have hd18 := of_decide_eq_false hc18
  obtain rfl : i = (r.cnt (r.most most)).1 := by omega
  refine stExit (qThenX (qThenX (qBlockX (qThen (stSeq (reg ?_))))))
  refine lm ?_
  refine la ?_
  refine liNil (qThen (stRet ?_))
  refine stEnd [(vL AX (((r.cnt (r.most most)).2.sums (r.cnt (r.most most)).1).1) cX)] rfl ⟨rfl, trivial⟩ (fun w hM => ?_)
  exact ⟨AX, cX, rfl, hM⟩
theorem rsSFits_any (n : Nat) (f : List UInt8) (lo : List UInt8) (hi : List UInt8) (w : World) :
  Calls Tryz.prog 145 #[(.agg #[(vI n), (vS f)]), (.agg #[(vS lo), (vS hi)])] w fun e w' => e = .returned (.bool true) ∧ Back [] w [] w' := by
 refine stEnter (args := [(.agg #[(vI n), (vS f)]), (.agg #[(vS lo), (vS hi)])]) (fps []) Tryz.func145 rfl 5 rfl [(0, (.agg #[(vI n), (vS f)])), (1, (.agg #[(vS lo), (vS hi)]))] ⟨rfl, rfl, trivial⟩ [] (Mm.start w []) ?_
 refine stSeq (reg (li rfl ?_))
 refine opBox [(vI n), (vS f)] rfl rfl (by kernel_rfl) rfl rfl (fun b2 => ?_)
 refine li rfl ?_
 refine opBox [(vS lo), (vS hi)] rfl rfl (by kernel_rfl) rfl rfl (fun b3 => ?_)
 refine la ?_
 refine liNil (qThen (stSeq (reg ?_)))
 refine la ?_
 refine liNil (qThen (stRet ?_))
 refine stEnd [(.bool true)] rfl ⟨rfl, trivial⟩ (fun w hM => ?_)
 exact ⟨rfl, (hM.pick [] rfl rfl)⟩
theorem rsLFits_any (A : Option Addr) (c : Nat) (l : List (List UInt8)) (lo : List UInt8) (hi : List UInt8) (w : World) (r0 : Rf [] w (fun w => RowIn w A (SS l))) (hl : l.length ≤ 68719476736) :
  Calls Tryz.prog 148 #[(.agg #[(vL A l c)]), (.agg #[(vS lo), (vS hi)])] w fun e w' => e = .returned (.bool (ordOk l lo hi)) ∧ Back [] w [] w' := by
 refine stEnter (args := [(.agg #[(vL A l c)]), (.agg #[(vS lo), (vS hi)])]) (fps []) Tryz.func148 rfl 9 rfl [(0, (.agg #[(vL A l c)])), (1, (.agg #[(vS lo), (vS hi)]))] ⟨rfl, rfl, trivial⟩ [] (Mm.start w []) ?_
 refine stSeq (reg (li rfl ?_))
 refine opBox [(vL A l c)] rfl rfl (by kernel_rfl) rfl rfl (fun b2 => ?_)
 refine li rfl ?_
 refine opBox [(vS lo), (vS hi)] rfl rfl (by kernel_rfl) rfl rfl (fun b3 => ?_)
 refine la ?_
 refine liNil (qThen (stSeq (reg ?_)))
 refine lc (vP b2 0) ?_
 refine lv (v := (vL A l c)) (rLoad 0 rfl rfl (by kernel_rfl) rfl rfl) ?_
 refine lv (v := (.agg #[(vS lo), (vS hi)])) (rLoadA [(vS lo), (vS hi)] rfl rfl (by kernel_rfl) (by kernel_rfl) (segAt (i := 1) rfl (by intro j v hj; first | (rw [Nat.zero_add]; exact hj) | (match j, hj with | 0, h => exact h | 1, h => exact h)))) ?_
 refine li rfl ?_
 refine opK0 (fun w hM => (rsInOrder_any A c l lo hi w (r0.go0 hM) (by omega)).mono ?_)
 rintro e w' ⟨rfl, hP⟩
 refine ⟨_, _, rfl, hP, ?_⟩; clear hP hM
 refine la ?_
 refine liNil (qThen (stRet ?_))
 refine stEnd [(.bool (ordOk l lo hi))] rfl ⟨rfl, trivial⟩ (fun w hM => ?_)
 exact ⟨rfl, (hM.pick [] rfl rfl)⟩
theorem rsAFits_any (A : Option Addr) (c : Nat) (l : List (List UInt8)) (A2 : Option Addr) (c2 : Nat) (m : List (List UInt8)) (lo : List UInt8) (hi : List UInt8) (w : World) (r0 : Rf [] w (fun w => RowIn w A (SS l))) (r1 : Rf [] w (fun w => RowIn w A2 (SS m))) (hl : l.length ≤ 68719476736) (hl2 : m.length ≤ 68719476736) :
  Calls Tryz.prog 153 #[(.agg #[(vL A l c), (vL A2 m c2)]), (.agg #[(vS lo), (vS hi)])] w fun e w' => e = .returned (.bool (ordOk l lo hi && ordOk m lo hi)) ∧ Back [] w [] w' := by
 refine stEnter (args := [(.agg #[(vL A l c), (vL A2 m c2)]), (.agg #[(vS lo), (vS hi)])]) (fps []) Tryz.func153 rfl 15 rfl [(0, (.agg #[(vL A l c), (vL A2 m c2)])), (1, (.agg #[(vS lo), (vS hi)]))] ⟨rfl, rfl, trivial⟩ [] (Mm.start w []) ?_
 refine stSeq (reg (li rfl ?_))
 refine opBox [(vL A l c), (vL A2 m c2)] rfl rfl (by kernel_rfl) rfl rfl (fun b2 => ?_)
 refine li rfl ?_
 refine opBox [(vS lo), (vS hi)] rfl rfl (by kernel_rfl) rfl rfl (fun b3 => ?_)
 refine la ?_
 refine liNil (qThen (stSeq (reg ?_)))
 refine lc (vP b2 0) ?_
 refine lv (v := (vL A l c)) (rLoad 0 rfl rfl (by kernel_rfl) rfl rfl) ?_
 refine lv (v := (.agg #[(vS lo), (vS hi)])) (rLoadA [(vS lo), (vS hi)] rfl rfl (by kernel_rfl) (by kernel_rfl) (segAt (i := 1) rfl (by intro j v hj; first | (rw [Nat.zero_add]; exact hj) | (match j, hj with | 0, h => exact h | 1, h => exact h)))) ?_
 refine li rfl ?_
 refine opK0 (fun w hM => (rsInOrder_any A c l lo hi w (r0.go0 hM) (by omega)).mono ?_)
 rintro e w' ⟨rfl, hP⟩
 refine ⟨_, _, rfl, hP, ?_⟩; clear hP hM
 refine lm ?_
 refine St.dec 9 rfl (fun hc9 => ?_) (fun hc9 => ?_)
 ·refine lgc (vP b2 1) ?_
  refine lgv (v := (vL A2 m c2)) (rLoad 0 rfl rfl (by kernel_rfl) rfl rfl) ?_
  refine lgv (v := (.agg #[(vS lo), (vS hi)])) (rLoadA [(vS lo), (vS hi)] rfl rfl (by kernel_rfl) (by kernel_rfl) (segAt (i := 1) rfl (by intro j v hj; first | (rw [Nat.zero_add]; exact hj) | (match j, hj with | 0, h => exact h | 1, h => exact h)))) ?_
  refine liGo rfl rfl ?_
  refine opK0 (fun w hM => (rsInOrder_any A2 c2 m lo hi w (r1.go0 hM) (by omega)).mono ?_)
  rintro e w' ⟨rfl, hP⟩
  refine ⟨_, _, rfl, hP, ?_⟩; clear hP hM
  refine lc (.bool (ordOk m lo hi)) ?_
  refine la ?_
  refine liNil (qThen (stRet ?_))
  refine stEnd [(.bool (ordOk m lo hi))] rfl ⟨rfl, trivial⟩ (fun w hM => ?_)
  exact ⟨ret_bool (by simp_all), (hM.pick [] rfl rfl)⟩
 ·refine lnF ?_
  refine lnF ?_
  refine lnF ?_
  refine lnF ?_
  refine lc (.bool false) ?_
  refine la ?_
  refine liNil (qThen (stRet ?_))
  refine stEnd [(.bool false)] rfl ⟨rfl, trivial⟩ (fun w hM => ?_)
  exact ⟨ret_bool (by simp_all), (hM.pick [] rfl rfl)⟩
end Go.Proofs.YtlepfnihpdhcaaaGreatDoor
namespace Go.Proofs.YtlepfnihpdhcaaaGreatDoor
open Go.RowKit
theorem ret_part (v : Value) (b : Bool) {p : AP} : (Ending.returned (.tuple #[v, .bool b])) = .returned (.tuple #[v, .bool (if b = true then some p else none).isSome]) := by cases b <;> rfl
theorem ones3 {a b c : Value} (h1 : a.oneCell' = true) (h2 : b.oneCell' = true) (h3 : c.oneCell' = true) : ∀ u ∈ [a, b, c], u.oneCell' = true := by
 intro u hu
 simp only [List.mem_cons, List.not_mem_nil, or_false] at hu
 rcases hu with rfl | rfl | rfl <;> assumption
theorem part_of {b : Bool} {p q : AP} (h : (if b = true then some q else none) = some p) : q = p := by
 cases b
 ·cases h
 ·exact Option.some.inj h
theorem rsRUint_v (X : Option Addr × Nat) (br : Nat) (r : Rd) (w : World) (hO : Own [cRd X br (r)] w) :
  Calls Tryz.prog 90 #[(vP br 0)] w fun e w' => ∃ (n : Nat) (r2 : Rd), e = .returned (.int .u64 ((n : Nat) : Int)) ∧ Back [cRd X br (r)] w [cRd X br (r2)] w' ∧ (r.uint = (n, r2)) :=
 (rsRUint_any X br r w hO).mono fun e w' h => by
  obtain ⟨rfl, hB⟩ := h
  exact ⟨_, _, rfl, hB, rfl⟩
theorem rsRCount_v (X : Option Addr × Nat) (br : Nat) (r : Rd) (most : Nat) (w : World) (hO : Own [cRd X br (r)] w) (hm : most ≤ 4294967296) :
  Calls Tryz.prog 61 #[(vP br 0), (vI most)] w fun e w' => ∃ (n : Nat) (r2 : Rd), e = .returned (vI n) ∧ Back [cRd X br (r)] w [cRd X br (r2)] w' ∧ (r.cnt most = (n, r2)) :=
 (rsRCount_any X br r most w hO hm).mono fun e w' h => by
  obtain ⟨rfl, hB⟩ := h
  exact ⟨_, _, rfl, hB, rfl⟩
theorem rsRText_v (X : Option Addr × Nat) (br : Nat) (r : Rd) (most : Nat) (w : World) (hO : Own [cRd X br (r)] w) (hm : most ≤ 4294967296) :
  Calls Tryz.prog 87 #[(vP br 0), (vI most)] w fun e w' => ∃ (t : List UInt8) (r2 : Rd), e = .returned (vS t) ∧ Back [cRd X br (r)] w [cRd X br (r2)] w' ∧ (r.text most = (t, r2)) :=
 (rsRText_any X br r most w hO hm).mono fun e w' h => by
  obtain ⟨rfl, hB⟩ := h
  exact ⟨_, _, rfl, hB, rfl⟩
theorem rsRSum_v (X : Option Addr × Nat) (br : Nat) (r : Rd) (w : World) (hO : Own [cRd X br (r)] w) :
  Calls Tryz.prog 91 #[(vP br 0)] w fun e w' => ∃ (t : List UInt8) (r2 : Rd), e = .returned (vS t) ∧ Back [cRd X br (r)] w [cRd X br (r2)] w' ∧ (r.sum = (t, r2)) :=
 (rsRSum_any X br r w hO).mono fun e w' h => by
  obtain ⟨rfl, hB⟩ := h
  exact ⟨_, _, rfl, hB, rfl⟩
theorem rsRItems_v (X : Option Addr × Nat) (br : Nat) (r : Rd) (most : Nat) (w : World) (hO : Own [cRd X br (r)] w) (hm : most ≤ 65536) :
  Calls Tryz.prog 92 #[(vP br 0), (vI most)] w fun e w' => ∃ (B : Option Addr) (cb : Nat) (l : List (List UInt8)) (r2 : Rd), e = .returned (vL B (l) cb) ∧ Back [cRd X br (r)] w [cRd X br (r2), cS B (l) cb] w' ∧ (r.items most = (l, r2)) :=
 (rsRItems_any X br r most w hO hm).mono fun e w' h => by
  obtain ⟨B, cb, rfl, hB⟩ := h
  exact ⟨B, cb, _, _, rfl, hB, rfl⟩
theorem rsRPart_any (X : Option Addr × Nat) (br : Nat) (r : Rd) (w : World) (hO : Own [cRd X br (r)] w) :
  Calls Tryz.prog 62 #[(vP br 0)] w fun e w' => ∃ (cl : List Value) (L : List (Option Addr × List (List UInt8))) (o : Option AP) (r2 : Rd), e = .returned (.tuple #[(.agg (cl).toArray), (.bool o.isSome)]) ∧ Back [cRd X br (r)] w [cRd X br (r2), cBag (L)] w' ∧ (r.part = (o, r2)) ∧ (cl.length = 3 ∧ ∀ u ∈ cl, u.oneCell' = true) ∧ (∀ p, o = some p → ∃ pv : PV, cl = pv.cells ∧ pv.abs = p ∧ ∀ q ∈ pv.c.rows, q ∈ L) := by
 refine stEnter (args := [(vP br 0)]) (fps [cRd X br (r)]) Tryz.func62 rfl 66 rfl [(0, (vP br 0))] ⟨rfl, trivial⟩ [cRd X br (r)] (hO) ?_
 refine stSeq (reg (li rfl ?_))
 refine opAlloc [(.string ⟨#[]⟩), (.string ⟨#[]⟩), .nilIface] rfl rfl (by kernel_rfl) (by kernel_rfl) (fun b2 => ?_)
 refine la ?_
 refine liNil (qThen (stSeq (reg ?_)))
 refine lm ?_
 refine li rfl ?_
 refine opK [0] [cRd X br (r)] (fun w hM hO => (rsRText_v X br r 32 w hO (by omega)).mono ?_)
 rintro e w' ⟨t9, r29, rfl, hP, heq9⟩
 refine ⟨_, [cRd X br (r29)], _, rfl, hP, rfl, ?_⟩; clear hP hM hO
 refine lm ?_
 refine li rfl ?_
 refine opK [0] [cRd X br (r29)] (fun w hM hO => (rsRText_v X br r29 32 w hO (by omega)).mono ?_)
 rintro e w' ⟨t11, r211, rfl, hP, heq11⟩
 refine ⟨_, [cRd X br (r211)], _, rfl, hP, rfl, ?_⟩; clear hP hM hO
 refine la ?_
 refine la ?_
 refine liNil (qThen (stSeq (reg ?_)))
 refine lm ?_
 refine lm ?_
 refine lc (.agg #[(vS t9), (vS t11)]) ?_
 refine lc (.agg #[(vS t9), (vS t11), .nilIface]) ?_
 refine li rfl ?_
 refine opAlloc [(.string ⟨#[]⟩), (.string ⟨#[]⟩), .nilIface] rfl rfl (by kernel_rfl) (by kernel_rfl) (fun b6 => ?_)
 refine li rfl ?_
 refine opStoreN 2 [(vS t9), (vS t11), .nilIface] (vs := [(vS t9), (vS t11), .nilIface]) rfl rfl (by kernel_rfl) rfl rfl rfl (by kernel_rfl) rfl (by simp) (by simp [Value.oneCell']) rfl ?_
 refine liNil (qThen (stSeq (stSeq ?_)))
 refine St.to [cRd X br (r211), cAt b2 76 [(.string ⟨#[]⟩), (.string ⟨#[]⟩), .nilIface], cAt b6 76 [(vS t9), (vS t11), .nilIface]] (by kernel_rfl) ?_
 refine reg ?_
 refine lm ?_
 refine li rfl ?_
 refine opK0 (fun w hM => (rsIsBound_any t9 w ).mono ?_)
 rintro e w' ⟨rfl, hP⟩
 refine ⟨_, _, rfl, hP, ?_⟩; clear hP hM
 refine lc (.bool (!(boundOk t9))) ?_
 refine lm ?_
 refine St.dec 19 rfl (fun hc19 => ?_) (fun hc19 => ?_)
 ·refine lnT ?_
  refine lnT ?_
  refine lnT ?_
  refine lc (.bool true) ?_
  refine lm ?_
  refine lnT ?_
  refine lnT ?_
  refine lnT ?_
  refine lnT ?_
  refine lc (.bool true) ?_
  refine liNil (qThen (stTrue rfl (stSeq (reg ?_))))
  refine lc (.agg #[(.string ⟨#[]⟩), (.string ⟨#[]⟩), .nilIface]) ?_
  refine li rfl ?_
  refine opStoreN 1 [(.string ⟨#[]⟩), (.string ⟨#[]⟩), .nilIface] (vs := [(.string ⟨#[]⟩), (.string ⟨#[]⟩), .nilIface]) rfl rfl (by kernel_rfl) rfl rfl rfl (by kernel_rfl) rfl (by simp) (by simp [Value.oneCell']) rfl ?_
  refine la ?_
  refine liNil (qThen (stRet (qThenR ?_)))
  refine stEnd [(.agg #[(.string ⟨#[]⟩), (.string ⟨#[]⟩), .nilIface]), (.bool false)] rfl ⟨⟨_, rfl, fun w hM => run_loadVarA (by kernel_rfl) (by kernel_rfl) (segAt (i := 1) (off := 0) rfl (by intro j v hj; rw [Nat.zero_add]; exact hj) w hM)⟩, rfl, trivial⟩ (fun w hM => ?_)
  have hp : r.part = (none, r211) := Rd.part_bad heq9 heq11 (bad1 hc19)
  exact ⟨[(.string ⟨#[]⟩), (.string ⟨#[]⟩), .nilIface], [], none, r211, rfl, Mm.noBag ((hM.pick [0] rfl rfl)), hp, ⟨rfl, ones3 rfl rfl rfl⟩, fun p hp => by cases hp⟩
 ·refine lgm ?_
  refine liGo rfl rfl ?_
  refine opK0 (fun w hM => (rsIsBound_any t11 w ).mono ?_)
  rintro e w' ⟨rfl, hP⟩
  refine ⟨_, _, rfl, hP, ?_⟩; clear hP hM
  refine lgc (.bool (!(boundOk t11))) ?_
  refine lc (.bool (!(boundOk t11))) ?_
  refine lm ?_
  refine St.dec 24 rfl (fun hc24 => ?_) (fun hc24 => ?_)
  ·refine lnT ?_
   refine lnT ?_
   refine lnT ?_
   refine lnT ?_
   refine lc (.bool true) ?_
   refine liNil (qThen (stTrue rfl (stSeq (reg ?_))))
   refine lc (.agg #[(.string ⟨#[]⟩), (.string ⟨#[]⟩), .nilIface]) ?_
   refine li rfl ?_
   refine opStoreN 1 [(.string ⟨#[]⟩), (.string ⟨#[]⟩), .nilIface] (vs := [(.string ⟨#[]⟩), (.string ⟨#[]⟩), .nilIface]) rfl rfl (by kernel_rfl) rfl rfl rfl (by kernel_rfl) rfl (by simp) (by simp [Value.oneCell']) rfl ?_
   refine la ?_
   refine liNil (qThen (stRet (qThenR ?_)))
   refine stEnd [(.agg #[(.string ⟨#[]⟩), (.string ⟨#[]⟩), .nilIface]), (.bool false)] rfl ⟨⟨_, rfl, fun w hM => run_loadVarA (by kernel_rfl) (by kernel_rfl) (segAt (i := 1) (off := 0) rfl (by intro j v hj; rw [Nat.zero_add]; exact hj) w hM)⟩, rfl, trivial⟩ (fun w hM => ?_)
   have hp : r.part = (none, r211) := Rd.part_bad heq9 heq11 (bad2 hc24)
   exact ⟨[(.string ⟨#[]⟩), (.string ⟨#[]⟩), .nilIface], [], none, r211, rfl, Mm.noBag ((hM.pick [0] rfl rfl)), hp, ⟨rfl, ones3 rfl rfl rfl⟩, fun p hp => by cases hp⟩
  ·refine lgc (vP b6 0) ?_
   refine lgv (v := (.agg #[(vS t9), (vS t11)])) (rLoadA [(vS t9), (vS t11)] rfl rfl (by kernel_rfl) (by kernel_rfl) (segAt (i := 2) rfl (by intro j v hj; first | (rw [Nat.zero_add]; exact hj) | (match j, hj with | 0, h => exact h | 1, h => exact h)))) ?_
   refine liGo rfl rfl ?_
   refine opK0 (fun w hM => (rsSpanValid_any t9 t11 w ).mono ?_)
   rintro e w' ⟨rfl, hP⟩
   refine ⟨_, _, rfl, hP, ?_⟩; clear hP hM
   refine lgc (.bool (!(spanOk t9 t11))) ?_
   refine lc (.bool (!(spanOk t9 t11))) ?_
   refine liNil (qThen ?_)
   refine stCond rfl (fun hc29 => ?_) (fun hc29 => ?_)
   ·refine stSeq ?_
    refine St.to [cRd X br (r211), cAt b2 76 [(.string ⟨#[]⟩), (.string ⟨#[]⟩), .nilIface], cAt b6 76 [(vS t9), (vS t11), .nilIface]] (by kernel_rfl) ?_
    refine reg ?_
    refine lc (.agg #[(.string ⟨#[]⟩), (.string ⟨#[]⟩), .nilIface]) ?_
    refine li rfl ?_
    refine opStoreN 1 [(.string ⟨#[]⟩), (.string ⟨#[]⟩), .nilIface] (vs := [(.string ⟨#[]⟩), (.string ⟨#[]⟩), .nilIface]) rfl rfl (by kernel_rfl) rfl rfl rfl (by kernel_rfl) rfl (by simp) (by simp [Value.oneCell']) rfl ?_
    refine la ?_
    refine liNil (qThen (stRet (qThenR ?_)))
    refine stEnd [(.agg #[(.string ⟨#[]⟩), (.string ⟨#[]⟩), .nilIface]), (.bool false)] rfl ⟨⟨_, rfl, fun w hM => run_loadVarA (by kernel_rfl) (by kernel_rfl) (segAt (i := 1) (off := 0) rfl (by intro j v hj; rw [Nat.zero_add]; exact hj) w hM)⟩, rfl, trivial⟩ (fun w hM => ?_)
    have hp : r.part = (none, r211) := Rd.part_bad heq9 heq11 (bad3 hc29)
    exact ⟨[(.string ⟨#[]⟩), (.string ⟨#[]⟩), .nilIface], [], none, r211, rfl, Mm.noBag ((hM.pick [0] rfl rfl)), hp, ⟨rfl, ones3 rfl rfl rfl⟩, fun p hp => by cases hp⟩
   ·refine stSkip (qThen (stSeq (stSeq ?_)))
    have hp0 : r.part = r211.body t9 t11 := Rd.part_go heq9 heq11 (good3 hc19 hc24 hc29)
    refine reg ?_
    refine lm ?_
    refine li rfl ?_
    refine opK [0] [cRd X br (r211)] (fun w hM hO => (rsRUint_v X br r211 w hO).mono ?_)
    rintro e w' ⟨n32, r232, rfl, hP, heq32⟩
    refine ⟨_, [cRd X br (r232)], _, rfl, hP, rfl, ?_⟩; clear hP hM hO
    refine liNil (qThen (stBlock (stSeq (reg ?_))))
    refine lc (.bool ((((n32 : Nat) : Int) : Int) == 1)) ?_
    refine la ?_
    refine liNil (qThen ?_)
    refine stCond rfl (fun hc34 => ?_) (fun hc34 => ?_)
    ·have hk : n32 = 1 := eqb_yes hc34
     refine reg ?_
     refine lm ?_
     refine li rfl ?_
     refine opK [0] [cRd X br (r232)] (fun w hM hO => (rsRCount_v X br r232 16384 w hO (by omega)).mono ?_)
     rintro e w' ⟨n37, r237, rfl, hP, heq37⟩
     refine ⟨_, [cRd X br (r237)], _, rfl, hP, rfl, ?_⟩; clear hP hM hO
     refine lm ?_
     refine li rfl ?_
     refine opK [0] [cRd X br (r237)] (fun w hM hO => (rsRSum_v X br r237 w hO).mono ?_)
     rintro e w' ⟨t39, r239, rfl, hP, heq39⟩
     refine ⟨_, [cRd X br (r239)], _, rfl, hP, rfl, ?_⟩; clear hP hM hO
     refine lc (.agg #[(vI n37), (vS t39)]) ?_
     refine lc (.iface 71 (.agg #[(vI n37), (vS t39)])) ?_
     refine lc (vP b6 2) ?_
     refine li rfl ?_
     refine opStore1 2 rfl rfl (by kernel_rfl) rfl rfl rfl (by kernel_rfl) rfl (by simp) ?_
     refine liNil (qBlock (qThen (stSeq ?_)))
     refine St.to [cRd X br (r239), cAt b2 76 [(.string ⟨#[]⟩), (.string ⟨#[]⟩), .nilIface], cAt b6 76 [(vS t9), (vS t11), (.iface 71 (.agg #[(vI n37), (vS t39)]))]] (by kernel_rfl) ?_
     refine anyBegin [cRd X br (r239), cAt b6 76 [(vS t9), (vS t11), (.iface 71 (.agg #[(vI n37), (vS t39)]))]] 8 (by kernel_rfl) (fun _ h => h.pick [0, 2] rfl rfl) ?_
     refine av 0 (.agg #[(vS t9), (vS t11), (.iface 71 (.agg #[(vI n37), (vS t39)]))]) rfl (rLoadA [(vS t9), (vS t11), (.iface 71 (.agg #[(vI n37), (vS t39)]))] rfl rfl (by kernel_rfl) (by kernel_rfl) (segAt (i := 1) rfl (by intro j v hj; first | (rw [Nat.zero_add]; exact hj) | (match j, hj with | 0, h => exact h | 1, h => exact h | 2, h => exact h)))) ?_
     refine ac 1 (vP b6 2) ?_
     refine av 2 (.iface 71 (.agg #[(vI n37), (vS t39)])) rfl (rLoad 1 rfl rfl (by kernel_rfl) rfl rfl) ?_
     refine ac 3 (vP b6 0) ?_
     refine av 4 (.agg #[(vS t9), (vS t11)]) rfl (rLoadA [(vS t9), (vS t11)] rfl rfl (by kernel_rfl) (by kernel_rfl) (segAt (i := 1) rfl (by intro j v hj; first | (rw [Nat.zero_add]; exact hj) | (match j, hj with | 0, h => exact h | 1, h => exact h)))) ?_
     refine a1 5 ?_
     refine opK0 (fun w hM => (rsSFits_any n37 t39 t9 t11 w ).mono ?_)
     rintro e w' ⟨rfl, hP⟩
     refine ⟨_, _, rfl, hP, ?_⟩; clear hP hM
     refine anyNext [cRd X br (r239), cAt b6 76 [(vS t9), (vS t11), (.iface 71 (.agg #[(vI n37), (vS t39)]))]] (fun _ h => h) (fun _ h => h.pick [0, 2] rfl rfl) ?_
     refine a1 6 ?_
     refine opStoreN 1 [(vS t9), (vS t11), (.iface 71 (.agg #[(vI n37), (vS t39)]))] (vs := [(vS t9), (vS t11), (.iface 71 (.agg #[(vI n37), (vS t39)]))]) rfl rfl (by kernel_rfl) rfl rfl rfl (by kernel_rfl) rfl (by simp) (by simp [Value.oneCell']) rfl ?_
     refine anyNext [cRd X br (r239), cAt b6 76 [(vS t9), (vS t11), (.iface 71 (.agg #[(vI n37), (vS t39)]))]] (fun _ h => h) (fun _ h => h.pick [0, 2] rfl rfl) ?_
     refine aa 7 ?_
     refine anyDone (by kernel_rfl) ?_
     refine qThen (stRet ?_)
     refine stEnd [(.agg #[(vS t9), (vS t11), (.iface 71 (.agg #[(vI n37), (vS t39)]))]), (.bool true)] rfl ⟨⟨_, rfl, fun w hM => run_loadVarA (by kernel_rfl) (by kernel_rfl) (segAt (i := 1) (off := 0) rfl (by intro j v hj; rw [Nat.zero_add]; exact hj) w hM)⟩, rfl, trivial⟩ (fun w hM => ?_)
     have hp : r.part = (some (PV.mk t9 t11 (.sum n37 t39)).abs, r239) := hp0.trans (Rd.body_sum heq32 hk heq37 heq39)
     exact ⟨[(vS t9), (vS t11), (.iface 71 (.agg #[(vI n37), (vS t39)]))], [], _, _, rfl, Mm.noBag ((hM.pick [0] rfl rfl)), hp, ⟨rfl, ones3 rfl rfl rfl⟩, fun p hp => ⟨PV.mk t9 t11 (.sum n37 t39), rfl, Option.some.inj hp, fun q hq => by cases hq⟩⟩
    ·have hn1 : ¬ n32 = 1 := eqb_no hc34
     refine stSeq ?_
     refine St.to [cRd X br (r232), cAt b2 76 [(.string ⟨#[]⟩), (.string ⟨#[]⟩), .nilIface], cAt b6 76 [(vS t9), (vS t11), .nilIface]] (by kernel_rfl) ?_
     refine reg ?_
     refine lc (.bool ((((n32 : Nat) : Int) : Int) == 2)) ?_
     refine la ?_
     refine liNil (qThen ?_)
     refine stCond rfl (fun hc43 => ?_) (fun hc43 => ?_)
     ·have hk : n32 = 2 := eqb_yes hc43
      refine reg ?_
      refine lm ?_
      refine li rfl ?_
      refine opK [0] [cRd X br (r232)] (fun w hM hO => (rsRItems_v X br r232 64 w hO (by omega)).mono ?_)
      rintro e w' ⟨B46, cb46, l46, r246, rfl, hP, heq46⟩
      refine ⟨_, [cRd X br (r246)], _, rfl, hP, rfl, ?_⟩; clear hP hM hO
      have hil := Rd.items_len r232 64; rw [heq46] at hil; dsimp only at hil
      refine lc (.agg #[(vL B46 (l46) cb46)]) ?_
      refine lc (.iface 89 (.agg #[(vL B46 (l46) cb46)])) ?_
      refine lc (vP b6 2) ?_
      refine li rfl ?_
      refine opStore1 2 rfl rfl (by kernel_rfl) rfl rfl rfl (by kernel_rfl) rfl (by simp) ?_
      refine liNil (qBlock (qThen (stSeq ?_)))
      refine anyBegin [cRd X br (r246), cAt b6 76 [(vS t9), (vS t11), (.iface 89 (.agg #[(vL B46 (l46) cb46)]))], cS B46 (l46) cb46] 8 (by kernel_rfl) (fun _ h => h.pick [0, 2, 3] rfl rfl) ?_
      refine av 0 (.agg #[(vS t9), (vS t11), (.iface 89 (.agg #[(vL B46 (l46) cb46)]))]) rfl (rLoadA [(vS t9), (vS t11), (.iface 89 (.agg #[(vL B46 (l46) cb46)]))] rfl rfl (by kernel_rfl) (by kernel_rfl) (segAt (i := 1) rfl (by intro j v hj; first | (rw [Nat.zero_add]; exact hj) | (match j, hj with | 0, h => exact h | 1, h => exact h | 2, h => exact h)))) ?_
      refine ac 1 (vP b6 2) ?_
      refine av 2 (.iface 89 (.agg #[(vL B46 (l46) cb46)])) rfl (rLoad 1 rfl rfl (by kernel_rfl) rfl rfl) ?_
      refine ac 3 (vP b6 0) ?_
      refine av 4 (.agg #[(vS t9), (vS t11)]) rfl (rLoadA [(vS t9), (vS t11)] rfl rfl (by kernel_rfl) (by kernel_rfl) (segAt (i := 1) rfl (by intro j v hj; first | (rw [Nat.zero_add]; exact hj) | (match j, hj with | 0, h => exact h | 1, h => exact h)))) ?_
      refine a1 5 ?_
      refine opK0 (fun w hM => (rsLFits_any B46 cb46 l46 t9 t11 w (hM.keep0 (j := 3) rfl (fun _ h => RowIn.of_own h)) (by omega)).mono ?_)
      rintro e w' ⟨rfl, hP⟩
      refine ⟨_, _, rfl, hP, ?_⟩; clear hP hM
      refine anyNext [cRd X br (r246), cAt b6 76 [(vS t9), (vS t11), (.iface 89 (.agg #[(vL B46 (l46) cb46)]))], cS B46 (l46) cb46] (fun _ h => h) (fun _ h => h.pick [0, 2, 3] rfl rfl) ?_
      refine a1 6 ?_
      refine opStoreN 1 [(vS t9), (vS t11), (.iface 89 (.agg #[(vL B46 (l46) cb46)]))] (vs := [(vS t9), (vS t11), (.iface 89 (.agg #[(vL B46 (l46) cb46)]))]) rfl rfl (by kernel_rfl) rfl rfl rfl (by kernel_rfl) rfl (by simp) (by simp [Value.oneCell']) rfl ?_
      refine St.to [cRd X br (r246), cAt b2 76 [(vS t9), (vS t11), (.iface 89 (.agg #[(vL B46 (l46) cb46)]))], cAt b6 76 [(vS t9), (vS t11), (.iface 89 (.agg #[(vL B46 (l46) cb46)]))], cS B46 (l46) cb46] (by kernel_rfl) ?_
      refine anyNext [cRd X br (r246), cAt b6 76 [(vS t9), (vS t11), (.iface 89 (.agg #[(vL B46 (l46) cb46)]))], cS B46 (l46) cb46] (fun _ h => h) (fun _ h => h.pick [0, 2, 3] rfl rfl) ?_
      refine aa 7 ?_
      refine anyDone (by kernel_rfl) ?_
      refine qThen (stRet ?_)
      refine stEnd [(.agg #[(vS t9), (vS t11), (.iface 89 (.agg #[(vL B46 (l46) cb46)]))]), (.bool (ordOk l46 t9 t11))] rfl ⟨⟨_, rfl, fun w hM => run_loadVarA (by kernel_rfl) (by kernel_rfl) (segAt (i := 1) (off := 0) rfl (by intro j v hj; rw [Nat.zero_add]; exact hj) w hM)⟩, rfl, trivial⟩ (fun w hM => ?_)
      have hp : r.part = (if ordOk l46 t9 t11 then some (PV.mk t9 t11 (.list B46 cb46 l46)).abs else none, r246) := hp0.trans (Rd.body_list heq32 hk heq46)
      replace hM : Mm _ _ [cRd X br (r246), cAt b2 76 [(vS t9), (vS t11), (.iface 89 (.agg #[(vL B46 (l46) cb46)]))], cAt b6 76 [(vS t9), (vS t11), (.iface 89 (.agg #[(vL B46 (l46) cb46)]))], cBag ([(B46, l46)])] w := hM.toBag 3 rfl
      refine ⟨[(vS t9), (vS t11), (.iface 89 (.agg #[(vL B46 (l46) cb46)]))], [(B46, l46)], _, _, ret_part _ _, (hM.pick [0, 3] rfl rfl), hp, ⟨rfl, ones3 rfl rfl rfl⟩, fun p hp => ⟨PV.mk t9 t11 (.list B46 cb46 l46), rfl, part_of hp, fun q hq => hq⟩⟩
     ·have hn2 : ¬ n32 = 2 := eqb_no hc43
      refine stSeq (reg ?_)
      refine lc (.bool ((((n32 : Nat) : Int) : Int) == 3)) ?_
      refine la ?_
      refine liNil (qThen ?_)
      refine stCond rfl (fun hc50 => ?_) (fun hc50 => ?_)
      ·have hk : n32 = 3 := eqb_yes hc50
       refine stSeq (reg ?_)
       refine lm ?_
       refine li rfl ?_
       refine opK [0] [cRd X br (r232)] (fun w hM hO => (rsRItems_v X br r232 16384 w hO (by omega)).mono ?_)
       rintro e w' ⟨B53, cb53, l53, r253, rfl, hP, heq53⟩
       refine ⟨_, [cRd X br (r253)], _, rfl, hP, rfl, ?_⟩; clear hP hM hO
       have hil := Rd.items_len r232 16384; rw [heq53] at hil; dsimp only at hil
       refine la ?_
       refine liNil (qThen (reg ?_))
       refine lm ?_
       refine lm ?_
       refine li rfl ?_
       refine opK [0] [cRd X br (r253)] (fun w hM hO => (rsRItems_v X br r253 16384 w hO (by omega)).mono ?_)
       rintro e w' ⟨B56, cb56, l56, r256, rfl, hP, heq56⟩
       refine ⟨_, [cRd X br (r256)], _, rfl, hP, rfl, ?_⟩; clear hP hM hO
       have hil2 := Rd.items_len r253 16384; rw [heq56] at hil2; dsimp only at hil2
       refine lc (.agg #[(vL B53 (l53) cb53), (vL B56 (l56) cb56)]) ?_
       refine lc (.iface 92 (.agg #[(vL B53 (l53) cb53), (vL B56 (l56) cb56)])) ?_
       refine lc (vP b6 2) ?_
       refine li rfl ?_
       refine opStore1 2 rfl rfl (by kernel_rfl) rfl rfl rfl (by kernel_rfl) rfl (by simp) ?_
       refine liNil (qBlock (qThen (stSeq ?_)))
       refine anyBegin [cRd X br (r256), cAt b6 76 [(vS t9), (vS t11), (.iface 92 (.agg #[(vL B53 (l53) cb53), (vL B56 (l56) cb56)]))], cS B53 (l53) cb53, cS B56 (l56) cb56] 8 (by kernel_rfl) (fun _ h => h.pick [0, 2, 3, 4] rfl rfl) ?_
       refine av 0 (.agg #[(vS t9), (vS t11), (.iface 92 (.agg #[(vL B53 (l53) cb53), (vL B56 (l56) cb56)]))]) rfl (rLoadA [(vS t9), (vS t11), (.iface 92 (.agg #[(vL B53 (l53) cb53), (vL B56 (l56) cb56)]))] rfl rfl (by kernel_rfl) (by kernel_rfl) (segAt (i := 1) rfl (by intro j v hj; first | (rw [Nat.zero_add]; exact hj) | (match j, hj with | 0, h => exact h | 1, h => exact h | 2, h => exact h)))) ?_
       refine ac 1 (vP b6 2) ?_
       refine av 2 (.iface 92 (.agg #[(vL B53 (l53) cb53), (vL B56 (l56) cb56)])) rfl (rLoad 1 rfl rfl (by kernel_rfl) rfl rfl) ?_
       refine ac 3 (vP b6 0) ?_
       refine av 4 (.agg #[(vS t9), (vS t11)]) rfl (rLoadA [(vS t9), (vS t11)] rfl rfl (by kernel_rfl) (by kernel_rfl) (segAt (i := 1) rfl (by intro j v hj; first | (rw [Nat.zero_add]; exact hj) | (match j, hj with | 0, h => exact h | 1, h => exact h)))) ?_
       refine a1 5 ?_
       refine opK0 (fun w hM => (rsAFits_any B53 cb53 l53 B56 cb56 l56 t9 t11 w (hM.keep0 (j := 3) rfl (fun _ h => RowIn.of_own h)) (hM.keep0 (j := 4) rfl (fun _ h => RowIn.of_own h)) (by omega) (by omega)).mono ?_)
       rintro e w' ⟨rfl, hP⟩
       refine ⟨_, _, rfl, hP, ?_⟩; clear hP hM
       refine St.to [cRd X br (r256), cAt b2 76 [(.string ⟨#[]⟩), (.string ⟨#[]⟩), .nilIface], cAt b6 76 [(vS t9), (vS t11), (.iface 92 (.agg #[(vL B53 (l53) cb53), (vL B56 (l56) cb56)]))], cS B53 (l53) cb53, cS B56 (l56) cb56] (by kernel_rfl) ?_
       refine anyNext [cRd X br (r256), cAt b6 76 [(vS t9), (vS t11), (.iface 92 (.agg #[(vL B53 (l53) cb53), (vL B56 (l56) cb56)]))], cS B53 (l53) cb53, cS B56 (l56) cb56] (fun _ h => h) (fun _ h => h.pick [0, 2, 3, 4] rfl rfl) ?_
       refine a1 6 ?_
       refine opStoreN 1 [(vS t9), (vS t11), (.iface 92 (.agg #[(vL B53 (l53) cb53), (vL B56 (l56) cb56)]))] (vs := [(vS t9), (vS t11), (.iface 92 (.agg #[(vL B53 (l53) cb53), (vL B56 (l56) cb56)]))]) rfl rfl (by kernel_rfl) rfl rfl rfl (by kernel_rfl) rfl (by simp) (by simp [Value.oneCell']) rfl ?_
       refine anyNext [cRd X br (r256), cAt b6 76 [(vS t9), (vS t11), (.iface 92 (.agg #[(vL B53 (l53) cb53), (vL B56 (l56) cb56)]))], cS B53 (l53) cb53, cS B56 (l56) cb56] (fun _ h => h) (fun _ h => h.pick [0, 2, 3, 4] rfl rfl) ?_
       refine aa 7 ?_
       refine anyDone (by kernel_rfl) ?_
       refine qThen (stRet ?_)
       refine stEnd [(.agg #[(vS t9), (vS t11), (.iface 92 (.agg #[(vL B53 (l53) cb53), (vL B56 (l56) cb56)]))]), (.bool (ordOk l53 t9 t11 && ordOk l56 t9 t11))] rfl ⟨⟨_, rfl, fun w hM => run_loadVarA (by kernel_rfl) (by kernel_rfl) (segAt (i := 1) (off := 0) rfl (by intro j v hj; rw [Nat.zero_add]; exact hj) w hM)⟩, rfl, trivial⟩ (fun w hM => ?_)
       have hp : r.part = (if (ordOk l53 t9 t11 && ordOk l56 t9 t11) then some (PV.mk t9 t11 (.ans B53 cb53 l53 B56 cb56 l56)).abs else none, r256) := hp0.trans (Rd.body_ans heq32 hk heq53 heq56)
       replace hM : Mm _ _ [cRd X br (r256), cAt b2 76 [(vS t9), (vS t11), (.iface 92 (.agg #[(vL B53 (l53) cb53), (vL B56 (l56) cb56)]))], cAt b6 76 [(vS t9), (vS t11), (.iface 92 (.agg #[(vL B53 (l53) cb53), (vL B56 (l56) cb56)]))], cBag ([(B53, l53)]), cS B56 (l56) cb56] w := hM.toBag 3 rfl
       replace hM : Mm _ _ [cRd X br (r256), cAt b2 76 [(vS t9), (vS t11), (.iface 92 (.agg #[(vL B53 (l53) cb53), (vL B56 (l56) cb56)]))], cAt b6 76 [(vS t9), (vS t11), (.iface 92 (.agg #[(vL B53 (l53) cb53), (vL B56 (l56) cb56)]))], cBag ([(B53, l53)]), cBag ([(B56, l56)])] w := hM.toBag 4 rfl
       refine ⟨[(vS t9), (vS t11), (.iface 92 (.agg #[(vL B53 (l53) cb53), (vL B56 (l56) cb56)]))], [(B53, l53), (B56, l56)], _, _, ret_part _ _, Mm.join (cs := [_]) (L := [(B53, l53)]) (M := [(B56, l56)]) ((hM.pick [0, 3, 4] rfl rfl)), hp, ⟨rfl, ones3 rfl rfl rfl⟩, fun p hp => ⟨PV.mk t9 t11 (.ans B53 cb53 l53 B56 cb56 l56), rfl, part_of hp, fun q hq => hq⟩⟩
      ·have hn3 : ¬ n32 = 3 := eqb_no hc50
       refine stSeq (reg ?_)
       refine lc (.agg #[(.string ⟨#[]⟩), (.string ⟨#[]⟩), .nilIface]) ?_
       refine li rfl ?_
       refine opStoreN 1 [(.string ⟨#[]⟩), (.string ⟨#[]⟩), .nilIface] (vs := [(.string ⟨#[]⟩), (.string ⟨#[]⟩), .nilIface]) rfl rfl (by kernel_rfl) rfl rfl rfl (by kernel_rfl) rfl (by simp) (by simp [Value.oneCell']) rfl ?_
       refine la ?_
       refine liNil (qThen (stRet (qBlockR (qThenR ?_))))
       refine stEnd [(.agg #[(.string ⟨#[]⟩), (.string ⟨#[]⟩), .nilIface]), (.bool false)] rfl ⟨⟨_, rfl, fun w hM => run_loadVarA (by kernel_rfl) (by kernel_rfl) (segAt (i := 1) (off := 0) rfl (by intro j v hj; rw [Nat.zero_add]; exact hj) w hM)⟩, rfl, trivial⟩ (fun w hM => ?_)
       have hp : r.part = (none, r232) := hp0.trans (Rd.body_none heq32 hn1 hn2 hn3)
       exact ⟨[(.string ⟨#[]⟩), (.string ⟨#[]⟩), .nilIface], [], none, r232, rfl, Mm.noBag ((hM.pick [0] rfl rfl)), hp, ⟨rfl, ones3 rfl rfl rfl⟩, fun p hp => by cases hp⟩
end Go.Proofs.YtlepfnihpdhcaaaGreatDoor
namespace Go.Proofs.YtlepfnihpdhcaaaGreatDoor
open Go.RowKit
theorem rows_snoc {pvs : List PV} {pv : PV} {L M : List (Option Addr × List Bs)} (h : ∀ p ∈ pvs, ∀ q ∈ p.c.rows, q ∈ L) (k : ∀ q ∈ pv.c.rows, q ∈ M) : ∀ p ∈ pvs ++ [pv], ∀ q ∈ p.c.rows, q ∈ L ++ M := by
 intro p hp q hq
 rcases List.mem_append.1 hp with hp | hp
 ·exact List.mem_append_left _ (h p hp q hq)
 ·rw [List.mem_singleton.1 hp] at hq
  exact List.mem_append_right _ (k q hq)
theorem rsDecode_bad (A : Option Addr) (c : Nat) (D : List UInt8) (w : World) (r0 : Rf [] w (fun w => RowIn w A (B8 D))) (hD : D.length ≤ 1048576) (hd : decA D = none) :
  Calls Tryz.prog 40 #[(vL A D c)] w fun e w' => e = .returned (.tuple #[(.slice none 0 0), (.int .i64 3)]) ∧ Back [] w [] w' := by
 refine stEnter (args := [(vL A D c)]) (fps []) Tryz.func40 rfl 74 rfl [(0, (vL A D c))] ⟨rfl, trivial⟩ [] (Mm.start w []) ?_
 refine stSeq (reg ?_)
 refine la ?_
 refine la ?_
 refine liNil (qThen (stSeq (stSeq (reg ?_))))
 refine lm ?_
 refine lc (vI D.length) ?_
 refine lc (.bool (decide (((D.length : Nat) : Int) > 1048576))) ?_
 refine liNil (qThen ?_)
 refine stFalseK rfl (by have := hD; simp; omega) ?_
 refine stSkip (qThen (stSeq (reg ?_)))
 refine lm ?_
 refine li rfl ?_
 refine opK0 (fun w hM => (rsRNew_any A c D w (r0.go0 hM) (by omega)).mono ?_)
 rintro e w' ⟨X16, br16, rfl, hP⟩
 refine ⟨_, _, rfl, hP, ?_⟩; clear hP hM
 refine la ?_
 refine liNil (qThen (stSeq (reg ?_)))
 refine lm ?_
 refine lm ?_
 refine lc (vI D.length) ?_
 refine li rfl ?_
 refine opK [0] [cRd X16 br16 (Rd.mk D 0 0 0)] (fun w hM hO => (rsRCount_v X16 br16 (Rd.mk D 0 0 0) D.length w hO (by omega)).mono ?_)
 rintro e w' ⟨n20, r220, rfl, hP, heq20⟩
 refine ⟨_, [cRd X16 br16 (r220)], _, rfl, hP, rfl, ?_⟩; clear hP hM hO
 have hnl : n20 ≤ D.length := by have h := (Rd.mk D 0 0 0).cnt_le D.length; rw [heq20] at h; exact h
 refine la ?_
 refine liNil (qThen (stSeq (stSeq (reg ?_))))
 refine lm ?_
 refine lc (.bool ((((n20 : Nat) : Int) : Int) == 0)) ?_
 refine liNil (qThen ?_)
 refine stCond rfl (fun hc22 => ?_) (fun hc22 => ?_)
 ·refine stSeq (reg ?_)
  refine la ?_
  refine la ?_
  refine liNil (qThen (stRet (qThenR ?_)))
  refine stEnd [(.slice none 0 0), (.int .i64 3)] rfl ⟨rfl, rfl, trivial⟩ (fun w hM => ?_)
  exact ⟨rfl, (hM.pick [] rfl rfl)⟩
 ·have hn0 : ¬ n20 = 0 := eqb_no hc22
  refine stSkip (qThen (stSeq (reg ?_)))
  refine la ?_
  refine liNil (qThen (stSeq (stSeq (reg ?_))))
  refine lm ?_
  refine lm ?_
  refine liNil (qThen (stBlock ?_))
  refine St.mem (fun w hM => hM.nilOwn 76 3) ?_
  refine St.mem (fun w hM => Mm.noBag hM) ?_
  refine stLoop (ι := Nat × Option Addr × Nat × List PV × Rd × List (Option Addr × List (List UInt8))) (fun (i, RX, rcX, pvs, rX, LX) => i ≤ n20 ∧ r220.parts i = (some (pvs.map PV.abs), rX) ∧ ∀ p ∈ pvs, ∀ q ∈ p.c.rows, q ∈ LX) (fun (i, RX, rcX, pvs, rX, LX) => n20 - i) (fun (i, RX, rcX, pvs, rX, LX) => [(2, (.slice none 0 0)), (3, (.int .i64 0)), (4, (vP br16 0)), (23, (vI n20)), (6, (vL RX (pvs) rcX)), (24, (vI i))]) (fun (i, RX, rcX, pvs, rX, LX) => [cRd X16 br16 (rX), cP RX (pvs) rcX, cBag (LX)]) (0, none, 0, [], r220, []) ⟨Nat.zero_le _, rfl, fun p hp => by cases hp⟩ ⟨rfl, rfl, rfl, rfl, rfl, rfl, trivial⟩ (fun w hM => by show Mm _ _ [cRd X16 br16 (r220), cOwn 76 3 none (([]).length) (0) (PS ([])), cBag ([])] w; exact hM) ?_
  rintro ⟨i, RX, rcX, pvs, rX, LX⟩ ⟨hi, hpt, hrows⟩
  show St _ _ _ [(2, (.slice none 0 0)), (3, (.int .i64 0)), (4, (vP br16 0)), (23, (vI n20)), (6, (vL RX (pvs) rcX)), (24, (vI i))] [cRd X16 br16 (rX), cP RX (pvs) rcX, cBag (LX)] _
  refine stSeq (reg ?_)
  refine lc (.bool (decide (((i : Nat) : Int) < ((n20 : Nat) : Int)))) ?_
  refine liNil (qThen (stSeq ?_))
  refine stCond rfl (fun hc25 => ?_) (fun hc25 => ?_)
  ·have hd25 := of_decide_eq_true hc25
   have hlt : i < n20 := by omega
   have hpl : pvs.length = i := by have h := Rd.parts_len hpt; simpa using h
   refine stSkip (qThen (stSeq (stBlock (stSeq (reg ?_)))))
   refine lm ?_
   refine la ?_
   refine liNil (qThen (stSeq (reg ?_)))
   refine lm ?_
   refine li rfl ?_
   refine opK [0] [cRd X16 br16 (rX)] (fun w hM hO => (rsRPart_any X16 br16 rX w hO).mono ?_)
   rintro e w' ⟨cl29, L29, o29, r229, rfl, hP, heq29, hhl29, hhv29⟩
   refine ⟨_, [cRd X16 br16 (r229)], _, rfl, hP, rfl, ?_⟩; clear hP hM hO
   refine lm ?_
   refine lc (.agg (cl29).toArray) ?_
   refine lc (.bool o29.isSome) ?_
   refine li rfl ?_
   refine opAlloc [(.string ⟨#[]⟩), (.string ⟨#[]⟩), .nilIface] rfl rfl (by kernel_rfl) (by kernel_rfl) (fun b8 => ?_)
   refine li rfl ?_
   refine opStoreN 4 (cl29) (vs := cl29) rfl rfl (by kernel_rfl) rfl rfl rfl (by rw [hhl29.1]; kernel_rfl) rfl (by rw [hhl29.1]; decide) hhl29.2 (by rw [hhl29.1]; simp) ?_
   refine la ?_
   refine liNil (qThen (stSeq (stSeq ?_)))
   cases hfk : o29.isSome with
   | true =>
    obtain ⟨p29, rfl⟩ := Option.isSome_iff_exists.1 hfk
    obtain ⟨pv, rfl, hab, hrw⟩ := hhv29 p29 rfl
    refine St.to [cRd X16 br16 (r229), cP RX (pvs) rcX, cBag (LX), cBag (L29), cAt b8 76 [(vS pv.lo), (vS pv.hi), pv.c.val]] (by kernel_rfl) ?_
    refine anyBegin [cRd X16 br16 (r229), cP RX (pvs) rcX, cBag (LX), cBag (L29), cAt b8 76 [(vS pv.lo), (vS pv.hi), pv.c.val]] 29 (by kernel_rfl) (fun _ h => h) ?_
    refine am 0 ?_
    refine ac 1 (.bool false) ?_
    refine am 2 ?_
    refine agm 3 ?_
    refine agc 4 (.bool (decide (((i : Nat) : Int) > 0))) ?_
    refine agm 5 ?_
    refine Any.dec 37 rfl (fun hc37 => ?_) (fun hc37 => ?_)
    ·have hd37 := of_decide_eq_true hc37
     have hip : 0 < i := by omega
     refine agm 6 ?_
     refine agm 7 ?_
     refine agv 8 (vI (i - 1)) rfl (rSub _ rfl rfl rfl (by omega) (by omega) (by omega)) ?_
     obtain ⟨x0, hx0⟩ : ∃ ξ, (pvs)[i - 1]? = some ξ := ⟨_, List.getElem?_eq_getElem (by omega)⟩
     refine Any.partPtr (fun w hM => rowOwn3 (i := 1) rfl w hM) hx0 (fun p41 q41 hA41 hc41 => ?_)
     refine agv 9 (vP p41 (q41 + (i - 1) * 3)) rfl (rIndexRow3 (e := 76) rfl (by kernel_rfl) (by kernel_rfl) rfl rfl hA41 (by omega)) ?_
     refine agc 10 (vP p41 (q41 + (i - 1) * 3)) ?_
     refine agc 11 (vP p41 (q41 + (i - 1) * 3 + 1)) ?_
     refine agv 12 (vS x0.hi) rfl (rLoadW rfl rfl (by kernel_rfl) (fun w hM => hc41 w hM 1 _ rfl)) ?_
     refine agv 13 (.bool (decide (x0.hi = []))) rfl (rStrEq rfl rfl rfl) ?_
     refine agm 14 ?_
     refine Any.dec 46 rfl (fun hc46 => ?_) (fun hc46 => ?_)
     ·have hd46 := of_decide_eq_true hc46
      refine anT 15 ?_
      refine anT 16 ?_
      refine anT 17 ?_
      refine anT 18 ?_
      refine anT 19 ?_
      refine anT 20 ?_
      refine anT 21 ?_
      refine anT 22 ?_
      refine anT 23 ?_
      refine anT 24 ?_
      refine anT 25 ?_
      refine agc 26 (.bool true) ?_
      refine agc 27 (.bool true) ?_
      refine ac 28 (.bool true) ?_
      refine anyDone (by kernel_rfl) ?_
      refine qThen (stTrue rfl (stSeq (reg ?_)))
      refine la ?_
      refine la ?_
      refine liNil (qThen (stRet (qThenR (qBlockR (qThenR (qThenR (qBlockR (qThenR ?_))))))))
      refine stEnd [(.slice none 0 0), (.int .i64 3)] rfl ⟨rfl, rfl, trivial⟩ (fun w hM => ?_)
      exact ⟨rfl, (hM.pick [] rfl rfl)⟩
     ·have hd46 := of_decide_eq_false hc46
      refine agm 15 ?_
      refine agm 16 ?_
      refine agv 17 (vI (i - 1)) rfl (rSub _ rfl rfl rfl (by omega) (by omega) (by omega)) ?_
      refine Any.partPtr (fun w hM => rowOwn3 (i := 1) rfl w hM) hx0 (fun p50 q50 hA50 hc50 => ?_)
      refine agv 18 (vP p50 (q50 + (i - 1) * 3)) rfl (rIndexRow3 (e := 76) rfl (by kernel_rfl) (by kernel_rfl) rfl rfl hA50 (by omega)) ?_
      refine agc 19 (vP p50 (q50 + (i - 1) * 3)) ?_
      refine agc 20 (vP p50 (q50 + (i - 1) * 3 + 1)) ?_
      refine agv 21 (vS x0.hi) rfl (rLoadW rfl rfl (by kernel_rfl) (fun w hM => hc50 w hM 1 _ rfl)) ?_
      refine agc 22 (vP b8 0) ?_
      refine agc 23 (vP b8 0) ?_
      refine agv 24 (vS pv.lo) rfl (rLoad 4 rfl rfl (by kernel_rfl) rfl rfl) ?_
      refine agv 25 (.bool (!(decide (x0.hi < pv.lo) || decide (x0.hi = pv.lo)))) rfl (rStrGt rfl rfl rfl) ?_
      refine agc 26 (.bool (!(decide (x0.hi < pv.lo) || decide (x0.hi = pv.lo)))) ?_
      refine agc 27 (.bool (!(decide (x0.hi < pv.lo) || decide (x0.hi = pv.lo)))) ?_
      refine ac 28 (.bool (!(decide (x0.hi < pv.lo) || decide (x0.hi = pv.lo)))) ?_
      refine anyDone (by kernel_rfl) ?_
      refine qThen ?_
      refine stCond rfl (fun hc60 => ?_) (fun hc60 => ?_)
      ·refine stSeq (reg ?_)
       refine la ?_
       refine la ?_
       refine liNil (qThen (stRet (qThenR (qBlockR (qThenR (qThenR (qBlockR (qThenR ?_))))))))
       refine stEnd [(.slice none 0 0), (.int .i64 3)] rfl ⟨rfl, rfl, trivial⟩ (fun w hM => ?_)
       exact ⟨rfl, (hM.pick [] rfl rfl)⟩
      ·have hfo : follows (pvs.map PV.abs) p29 = true := by rw [(follows_at (i := i - 1) (q := x0.abs) (by rw [List.getElem?_map, hx0]; rfl) (by rw [List.length_map]; omega))]; rw [gtr_iff] at hc60; rw [← hab]; have e := of_decide_eq_false hc46; have e2 := of_decide_eq_false hc60; simp [PV.abs, e, e2]
       refine stSkip (qThen (reg ?_))
       refine lm ?_
       refine lv (v := (.agg #[(vS pv.lo), (vS pv.hi), pv.c.val])) (rLoadA [(vS pv.lo), (vS pv.hi), pv.c.val] rfl rfl (by kernel_rfl) (by kernel_rfl) (segAt (i := 4) rfl (by intro j v hj; first | (rw [Nat.zero_add]; exact hj) | (match j, hj with | 0, h => exact h | 1, h => exact h | 2, h => exact h)))) ?_
       refine li rfl ?_
       refine opNew (v := fun b => .slice (some ⟨b, 0, none⟩) 1 1) 76 [(vS pv.lo), (vS pv.hi), pv.c.val] rfl (by kernel_rfl) (fun _ => by kernel_rfl) (fun b63 => ?_)
       refine li rfl ?_
       refine opAppend el_part 1 ([(vS pv.lo), (vS pv.hi), pv.c.val]) rfl rfl (by kernel_rfl) rfl rfl rfl (rfl) (srcAt (i := 5) rfl (fun j v h => by rw [Nat.zero_add]; exact h)) (PV.one pv) (by omega) ((pvs ++ [pv]).length) (by first | exact (List.length_append ..).symm | (simp; done) | (simp; omega)) (PS (pvs ++ [pv])) ((PS_append _ ([pv])).symm) (fun A64 c64 => ?_)
       refine la ?_
       refine liNil (qBlock (qThen (reg ?_)))
       refine lv (v := (vI (i + 1))) (rAdd _ rfl rfl rfl (by omega) (by omega) (by omega)) ?_
       refine lm ?_
       refine liNil (qThen ?_)
       exact stAgain (i + 1, A64, c64, pvs ++ [pv], r229, LX ++ L29) (⟨by omega, by rw [Rd.parts_some hpt heq29 hfo, ← hab, List.map_append]; rfl, rows_snoc hrows hrw⟩) (by show n20 - (i + 1) < n20 - i; omega) ⟨rfl, rfl, rfl, rfl, rfl, rfl, trivial⟩ (fun w hM => by show Mm _ _ [cRd X16 br16 (r229), cP A64 (pvs ++ [pv]) c64, cBag (LX ++ L29)] w; exact Mm.join (cs := [cRd X16 br16 (r229), cP A64 (pvs ++ [pv]) c64]) (L := LX) (M := L29) ((hM.pick [0, 1, 2, 3] rfl rfl)))
    ·have hd37 := of_decide_eq_false hc37
     have hi0 : i = 0 := by omega
     have hfo : follows (pvs.map PV.abs) p29 = true := by rw [List.eq_nil_of_length_eq_zero (hpl.trans hi0)]; rfl
     refine anF 6 ?_
     refine anF 7 ?_
     refine anF 8 ?_
     refine anF 9 ?_
     refine anF 10 ?_
     refine anF 11 ?_
     refine anF 12 ?_
     refine anF 13 ?_
     refine anF 14 ?_
     refine anU 15 ?_
     refine anU 16 ?_
     refine anU 17 ?_
     refine anU 18 ?_
     refine anU 19 ?_
     refine anU 20 ?_
     refine anU 21 ?_
     refine anU 22 ?_
     refine anU 23 ?_
     refine anU 24 ?_
     refine anU 25 ?_
     refine anF 26 ?_
     refine agc 27 (.bool false) ?_
     refine ac 28 (.bool false) ?_
     refine anyDone (by kernel_rfl) ?_
     refine qThen (stFalse rfl (stSkip (qThen (reg ?_))))
     refine lm ?_
     refine lv (v := (.agg #[(vS pv.lo), (vS pv.hi), pv.c.val])) (rLoadA [(vS pv.lo), (vS pv.hi), pv.c.val] rfl rfl (by kernel_rfl) (by kernel_rfl) (segAt (i := 4) rfl (by intro j v hj; first | (rw [Nat.zero_add]; exact hj) | (match j, hj with | 0, h => exact h | 1, h => exact h | 2, h => exact h)))) ?_
     refine li rfl ?_
     refine opNew (v := fun b => .slice (some ⟨b, 0, none⟩) 1 1) 76 [(vS pv.lo), (vS pv.hi), pv.c.val] rfl (by kernel_rfl) (fun _ => by kernel_rfl) (fun b63 => ?_)
     refine li rfl ?_
     refine opAppend el_part 1 ([(vS pv.lo), (vS pv.hi), pv.c.val]) rfl rfl (by kernel_rfl) rfl rfl rfl (rfl) (srcAt (i := 5) rfl (fun j v h => by rw [Nat.zero_add]; exact h)) (PV.one pv) (by omega) ((pvs ++ [pv]).length) (by first | exact (List.length_append ..).symm | (simp; done) | (simp; omega)) (PS (pvs ++ [pv])) ((PS_append _ ([pv])).symm) (fun A64 c64 => ?_)
     refine la ?_
     refine liNil (qBlock (qThen ?_))
     refine St.to [cRd X16 br16 (r229), cP A64 (pvs ++ [pv]) c64, cBag (LX), cBag (L29), cAt b8 76 [(vS pv.lo), (vS pv.hi), pv.c.val], cAt b63 76 [(vS pv.lo), (vS pv.hi), pv.c.val]] (by kernel_rfl) ?_
     refine reg ?_
     refine lv (v := (vI (i + 1))) (rAdd _ rfl rfl rfl (by omega) (by omega) (by omega)) ?_
     refine lm ?_
     refine liNil (qThen ?_)
     exact stAgain (i + 1, A64, c64, pvs ++ [pv], r229, LX ++ L29) (⟨by omega, by rw [Rd.parts_some hpt heq29 hfo, ← hab, List.map_append]; rfl, rows_snoc hrows hrw⟩) (by show n20 - (i + 1) < n20 - i; omega) ⟨rfl, rfl, rfl, rfl, rfl, rfl, trivial⟩ (fun w hM => by show Mm _ _ [cRd X16 br16 (r229), cP A64 (pvs ++ [pv]) c64, cBag (LX ++ L29)] w; exact Mm.join (cs := [cRd X16 br16 (r229), cP A64 (pvs ++ [pv]) c64]) (L := LX) (M := L29) ((hM.pick [0, 1, 2, 3] rfl rfl)))
   | false =>
    obtain rfl : o29 = none := by cases o29 with | none => rfl | some _ => cases hfk
    refine anyBegin [cRd X16 br16 (r229), cP RX (pvs) rcX, cBag (LX), cBag (L29), cAt b8 76 (cl29)] 29 (by kernel_rfl) (fun _ h => h) ?_
    refine am 0 ?_
    refine ac 1 (.bool true) ?_
    refine am 2 ?_
    refine anT 3 ?_
    refine anT 4 ?_
    refine anT 5 ?_
    refine anU 6 ?_
    refine anU 7 ?_
    refine anU 8 ?_
    refine anU 9 ?_
    refine anU 10 ?_
    refine anU 11 ?_
    refine anU 12 ?_
    refine anU 13 ?_
    refine anU 14 ?_
    refine anU 15 ?_
    refine anU 16 ?_
    refine anU 17 ?_
    refine anU 18 ?_
    refine anU 19 ?_
    refine anU 20 ?_
    refine anU 21 ?_
    refine anU 22 ?_
    refine anU 23 ?_
    refine anU 24 ?_
    refine anU 25 ?_
    refine anU 26 ?_
    refine anT 27 ?_
    refine ac 28 (.bool true) ?_
    refine anyDone (by kernel_rfl) ?_
    refine qThen (stTrue rfl (stSeq (reg ?_)))
    refine la ?_
    refine la ?_
    refine liNil (qThen (stRet (qThenR (qBlockR (qThenR (qThenR (qBlockR (qThenR ?_))))))))
    refine stEnd [(.slice none 0 0), (.int .i64 3)] rfl ⟨rfl, rfl, trivial⟩ (fun w hM => ?_)
    exact ⟨rfl, (hM.pick [] rfl rfl)⟩
  ·have hd25 := of_decide_eq_false hc25
   obtain rfl : i = n20 := by omega
   refine stExit (qThenX (qThenX (qBlockX (qThen (stSeq (stSeq (reg ?_)))))))
   refine lm ?_
   refine li rfl ?_
   refine opK [0] [cRd X16 br16 (rX)] (fun w hM hO => (rsREnd_any X16 br16 rX w hO).mono ?_)
   rintro e w' ⟨rfl, hP⟩
   refine ⟨_, [cRd X16 br16 (rX)], _, rfl, hP, rfl, ?_⟩; clear hP hM hO
   refine lm ?_
   refine lc (vI rX.off) ?_
   refine lc (.int .i64 rX.end_) ?_
   refine la ?_
   refine la ?_
   refine liNil (qThen (stSeq (reg ?_)))
   refine lm ?_
   refine lc (.bool ((rX.end_ : Int) != 0)) ?_
   refine liNil (qThen ?_)
   refine stCond rfl (fun hc72 => ?_) (fun hc72 => ?_)
   ·refine stSeq (reg ?_)
    refine la ?_
    refine la ?_
    refine liNil (qThen (stRet (qThenR ?_)))
    refine stEnd [(.slice none 0 0), (.int .i64 3)] rfl ⟨rfl, rfl, trivial⟩ (fun w hM => ?_)
    exact ⟨rfl, (hM.pick [] rfl rfl)⟩
   ·have hok : decA D = some (pvs.map PV.abs) := decA_ok heq20 hn0 hpt (by simpa using hc72)
    refine stSkip (qThen (stSeq (reg ?_)))
    refine lm ?_
    refine la ?_
    refine la ?_
    refine liNil (qThen (stRet ?_))
    refine stEnd [(vL RX (pvs) rcX), (.int .i64 0)] rfl ⟨rfl, rfl, trivial⟩ (fun w hM => ?_)
    exact absurd (hok.symm.trans hd) (by simp)
theorem rsDecode_ok (A : Option Addr) (c : Nat) (D : List UInt8) (ps : List AP) (w : World) (r0 : Rf [] w (fun w => RowIn w A (B8 D))) (hD : D.length ≤ 1048576) (hd : decA D = some ps) :
  Calls Tryz.prog 40 #[(vL A D c)] w fun e w' => ∃ (R : Option Addr) (rc : Nat) (pvs : List PV) (L : List (Option Addr × List (List UInt8))), e = .returned (.tuple #[(vL R (pvs) rc), (.int .i64 0)]) ∧ Back [] w [cP R (pvs) rc, cBag (L)] w' ∧ (pvs.map PV.abs = ps) ∧ (∀ p ∈ pvs, ∀ q ∈ p.c.rows, q ∈ L) := by
 refine stEnter (args := [(vL A D c)]) (fps []) Tryz.func40 rfl 74 rfl [(0, (vL A D c))] ⟨rfl, trivial⟩ [] (Mm.start w []) ?_
 refine stSeq (reg ?_)
 refine la ?_
 refine la ?_
 refine liNil (qThen (stSeq (stSeq (reg ?_))))
 refine lm ?_
 refine lc (vI D.length) ?_
 refine lc (.bool (decide (((D.length : Nat) : Int) > 1048576))) ?_
 refine liNil (qThen ?_)
 refine stFalseK rfl (by have := hD; simp; omega) ?_
 refine stSkip (qThen (stSeq (reg ?_)))
 refine lm ?_
 refine li rfl ?_
 refine opK0 (fun w hM => (rsRNew_any A c D w (r0.go0 hM) (by omega)).mono ?_)
 rintro e w' ⟨X16, br16, rfl, hP⟩
 refine ⟨_, _, rfl, hP, ?_⟩; clear hP hM
 refine la ?_
 refine liNil (qThen (stSeq (reg ?_)))
 refine lm ?_
 refine lm ?_
 refine lc (vI D.length) ?_
 refine li rfl ?_
 refine opK [0] [cRd X16 br16 (Rd.mk D 0 0 0)] (fun w hM hO => (rsRCount_v X16 br16 (Rd.mk D 0 0 0) D.length w hO (by omega)).mono ?_)
 rintro e w' ⟨n20, r220, rfl, hP, heq20⟩
 refine ⟨_, [cRd X16 br16 (r220)], _, rfl, hP, rfl, ?_⟩; clear hP hM hO
 have hnl : n20 ≤ D.length := by have h := (Rd.mk D 0 0 0).cnt_le D.length; rw [heq20] at h; exact h
 refine la ?_
 refine liNil (qThen (stSeq (stSeq (reg ?_))))
 refine lm ?_
 refine lc (.bool ((((n20 : Nat) : Int) : Int) == 0)) ?_
 refine liNil (qThen ?_)
 refine stCond rfl (fun hc22 => ?_) (fun hc22 => ?_)
 ·refine stSeq (reg ?_)
  refine la ?_
  refine la ?_
  refine liNil (qThen (stRet (qThenR ?_)))
  refine stEnd [(.slice none 0 0), (.int .i64 3)] rfl ⟨rfl, rfl, trivial⟩ (fun w hM => ?_)
  exact absurd ((decA_zero heq20 (eqb_yes hc22)).symm.trans hd) (by simp)
 ·have hn0 : ¬ n20 = 0 := eqb_no hc22
  refine stSkip (qThen (stSeq (reg ?_)))
  refine la ?_
  refine liNil (qThen (stSeq (stSeq (reg ?_))))
  refine lm ?_
  refine lm ?_
  refine liNil (qThen (stBlock ?_))
  refine St.mem (fun w hM => hM.nilOwn 76 3) ?_
  refine St.mem (fun w hM => Mm.noBag hM) ?_
  refine stLoop (ι := Nat × Option Addr × Nat × List PV × Rd × List (Option Addr × List (List UInt8))) (fun (i, RX, rcX, pvs, rX, LX) => i ≤ n20 ∧ r220.parts i = (some (pvs.map PV.abs), rX) ∧ ∀ p ∈ pvs, ∀ q ∈ p.c.rows, q ∈ LX) (fun (i, RX, rcX, pvs, rX, LX) => n20 - i) (fun (i, RX, rcX, pvs, rX, LX) => [(2, (.slice none 0 0)), (3, (.int .i64 0)), (4, (vP br16 0)), (23, (vI n20)), (6, (vL RX (pvs) rcX)), (24, (vI i))]) (fun (i, RX, rcX, pvs, rX, LX) => [cRd X16 br16 (rX), cP RX (pvs) rcX, cBag (LX)]) (0, none, 0, [], r220, []) ⟨Nat.zero_le _, rfl, fun p hp => by cases hp⟩ ⟨rfl, rfl, rfl, rfl, rfl, rfl, trivial⟩ (fun w hM => by show Mm _ _ [cRd X16 br16 (r220), cOwn 76 3 none (([]).length) (0) (PS ([])), cBag ([])] w; exact hM) ?_
  rintro ⟨i, RX, rcX, pvs, rX, LX⟩ ⟨hi, hpt, hrows⟩
  show St _ _ _ [(2, (.slice none 0 0)), (3, (.int .i64 0)), (4, (vP br16 0)), (23, (vI n20)), (6, (vL RX (pvs) rcX)), (24, (vI i))] [cRd X16 br16 (rX), cP RX (pvs) rcX, cBag (LX)] _
  refine stSeq (reg ?_)
  refine lc (.bool (decide (((i : Nat) : Int) < ((n20 : Nat) : Int)))) ?_
  refine liNil (qThen (stSeq ?_))
  refine stCond rfl (fun hc25 => ?_) (fun hc25 => ?_)
  ·have hd25 := of_decide_eq_true hc25
   have hlt : i < n20 := by omega
   have hpl : pvs.length = i := by have h := Rd.parts_len hpt; simpa using h
   refine stSkip (qThen (stSeq (stBlock (stSeq (reg ?_)))))
   refine lm ?_
   refine la ?_
   refine liNil (qThen (stSeq (reg ?_)))
   refine lm ?_
   refine li rfl ?_
   refine opK [0] [cRd X16 br16 (rX)] (fun w hM hO => (rsRPart_any X16 br16 rX w hO).mono ?_)
   rintro e w' ⟨cl29, L29, o29, r229, rfl, hP, heq29, hhl29, hhv29⟩
   refine ⟨_, [cRd X16 br16 (r229)], _, rfl, hP, rfl, ?_⟩; clear hP hM hO
   refine lm ?_
   refine lc (.agg (cl29).toArray) ?_
   refine lc (.bool o29.isSome) ?_
   refine li rfl ?_
   refine opAlloc [(.string ⟨#[]⟩), (.string ⟨#[]⟩), .nilIface] rfl rfl (by kernel_rfl) (by kernel_rfl) (fun b8 => ?_)
   refine li rfl ?_
   refine opStoreN 4 (cl29) (vs := cl29) rfl rfl (by kernel_rfl) rfl rfl rfl (by rw [hhl29.1]; kernel_rfl) rfl (by rw [hhl29.1]; decide) hhl29.2 (by rw [hhl29.1]; simp) ?_
   refine la ?_
   refine liNil (qThen (stSeq (stSeq ?_)))
   cases hfk : o29.isSome with
   | true =>
    obtain ⟨p29, rfl⟩ := Option.isSome_iff_exists.1 hfk
    obtain ⟨pv, rfl, hab, hrw⟩ := hhv29 p29 rfl
    refine St.to [cRd X16 br16 (r229), cP RX (pvs) rcX, cBag (LX), cBag (L29), cAt b8 76 [(vS pv.lo), (vS pv.hi), pv.c.val]] (by kernel_rfl) ?_
    refine anyBegin [cRd X16 br16 (r229), cP RX (pvs) rcX, cBag (LX), cBag (L29), cAt b8 76 [(vS pv.lo), (vS pv.hi), pv.c.val]] 29 (by kernel_rfl) (fun _ h => h) ?_
    refine am 0 ?_
    refine ac 1 (.bool false) ?_
    refine am 2 ?_
    refine agm 3 ?_
    refine agc 4 (.bool (decide (((i : Nat) : Int) > 0))) ?_
    refine agm 5 ?_
    refine Any.dec 37 rfl (fun hc37 => ?_) (fun hc37 => ?_)
    ·have hd37 := of_decide_eq_true hc37
     have hip : 0 < i := by omega
     refine agm 6 ?_
     refine agm 7 ?_
     refine agv 8 (vI (i - 1)) rfl (rSub _ rfl rfl rfl (by omega) (by omega) (by omega)) ?_
     obtain ⟨x0, hx0⟩ : ∃ ξ, (pvs)[i - 1]? = some ξ := ⟨_, List.getElem?_eq_getElem (by omega)⟩
     refine Any.partPtr (fun w hM => rowOwn3 (i := 1) rfl w hM) hx0 (fun p41 q41 hA41 hc41 => ?_)
     refine agv 9 (vP p41 (q41 + (i - 1) * 3)) rfl (rIndexRow3 (e := 76) rfl (by kernel_rfl) (by kernel_rfl) rfl rfl hA41 (by omega)) ?_
     refine agc 10 (vP p41 (q41 + (i - 1) * 3)) ?_
     refine agc 11 (vP p41 (q41 + (i - 1) * 3 + 1)) ?_
     refine agv 12 (vS x0.hi) rfl (rLoadW rfl rfl (by kernel_rfl) (fun w hM => hc41 w hM 1 _ rfl)) ?_
     refine agv 13 (.bool (decide (x0.hi = []))) rfl (rStrEq rfl rfl rfl) ?_
     refine agm 14 ?_
     refine Any.dec 46 rfl (fun hc46 => ?_) (fun hc46 => ?_)
     ·have hd46 := of_decide_eq_true hc46
      refine anT 15 ?_
      refine anT 16 ?_
      refine anT 17 ?_
      refine anT 18 ?_
      refine anT 19 ?_
      refine anT 20 ?_
      refine anT 21 ?_
      refine anT 22 ?_
      refine anT 23 ?_
      refine anT 24 ?_
      refine anT 25 ?_
      refine agc 26 (.bool true) ?_
      refine agc 27 (.bool true) ?_
      refine ac 28 (.bool true) ?_
      refine anyDone (by kernel_rfl) ?_
      refine qThen (stTrue rfl (stSeq (reg ?_)))
      refine la ?_
      refine la ?_
      refine liNil (qThen (stRet (qThenR (qBlockR (qThenR (qThenR (qBlockR (qThenR ?_))))))))
      refine stEnd [(.slice none 0 0), (.int .i64 3)] rfl ⟨rfl, rfl, trivial⟩ (fun w hM => ?_)
      exact absurd ((decA_stop heq20 (i := i + 1) hlt (Rd.parts_gap hpt heq29 (by rw [(follows_at (i := i - 1) (q := x0.abs) (by rw [List.getElem?_map, hx0]; rfl) (by rw [List.length_map]; omega))]; have e := of_decide_eq_true hc46; simp [PV.abs, e]))).symm.trans hd) (by simp)
     ·have hd46 := of_decide_eq_false hc46
      refine agm 15 ?_
      refine agm 16 ?_
      refine agv 17 (vI (i - 1)) rfl (rSub _ rfl rfl rfl (by omega) (by omega) (by omega)) ?_
      refine Any.partPtr (fun w hM => rowOwn3 (i := 1) rfl w hM) hx0 (fun p50 q50 hA50 hc50 => ?_)
      refine agv 18 (vP p50 (q50 + (i - 1) * 3)) rfl (rIndexRow3 (e := 76) rfl (by kernel_rfl) (by kernel_rfl) rfl rfl hA50 (by omega)) ?_
      refine agc 19 (vP p50 (q50 + (i - 1) * 3)) ?_
      refine agc 20 (vP p50 (q50 + (i - 1) * 3 + 1)) ?_
      refine agv 21 (vS x0.hi) rfl (rLoadW rfl rfl (by kernel_rfl) (fun w hM => hc50 w hM 1 _ rfl)) ?_
      refine agc 22 (vP b8 0) ?_
      refine agc 23 (vP b8 0) ?_
      refine agv 24 (vS pv.lo) rfl (rLoad 4 rfl rfl (by kernel_rfl) rfl rfl) ?_
      refine agv 25 (.bool (!(decide (x0.hi < pv.lo) || decide (x0.hi = pv.lo)))) rfl (rStrGt rfl rfl rfl) ?_
      refine agc 26 (.bool (!(decide (x0.hi < pv.lo) || decide (x0.hi = pv.lo)))) ?_
      refine agc 27 (.bool (!(decide (x0.hi < pv.lo) || decide (x0.hi = pv.lo)))) ?_
      refine ac 28 (.bool (!(decide (x0.hi < pv.lo) || decide (x0.hi = pv.lo)))) ?_
      refine anyDone (by kernel_rfl) ?_
      refine qThen ?_
      refine stCond rfl (fun hc60 => ?_) (fun hc60 => ?_)
      ·refine stSeq (reg ?_)
       refine la ?_
       refine la ?_
       refine liNil (qThen (stRet (qThenR (qBlockR (qThenR (qThenR (qBlockR (qThenR ?_))))))))
       refine stEnd [(.slice none 0 0), (.int .i64 3)] rfl ⟨rfl, rfl, trivial⟩ (fun w hM => ?_)
       exact absurd ((decA_stop heq20 (i := i + 1) hlt (Rd.parts_gap hpt heq29 (by rw [(follows_at (i := i - 1) (q := x0.abs) (by rw [List.getElem?_map, hx0]; rfl) (by rw [List.length_map]; omega))]; rw [gtr_iff] at hc60; rw [← hab]; have e := of_decide_eq_true hc60; simp [PV.abs, e]))).symm.trans hd) (by simp)
      ·have hfo : follows (pvs.map PV.abs) p29 = true := by rw [(follows_at (i := i - 1) (q := x0.abs) (by rw [List.getElem?_map, hx0]; rfl) (by rw [List.length_map]; omega))]; rw [gtr_iff] at hc60; rw [← hab]; have e := of_decide_eq_false hc46; have e2 := of_decide_eq_false hc60; simp [PV.abs, e, e2]
       refine stSkip (qThen (reg ?_))
       refine lm ?_
       refine lv (v := (.agg #[(vS pv.lo), (vS pv.hi), pv.c.val])) (rLoadA [(vS pv.lo), (vS pv.hi), pv.c.val] rfl rfl (by kernel_rfl) (by kernel_rfl) (segAt (i := 4) rfl (by intro j v hj; first | (rw [Nat.zero_add]; exact hj) | (match j, hj with | 0, h => exact h | 1, h => exact h | 2, h => exact h)))) ?_
       refine li rfl ?_
       refine opNew (v := fun b => .slice (some ⟨b, 0, none⟩) 1 1) 76 [(vS pv.lo), (vS pv.hi), pv.c.val] rfl (by kernel_rfl) (fun _ => by kernel_rfl) (fun b63 => ?_)
       refine li rfl ?_
       refine opAppend el_part 1 ([(vS pv.lo), (vS pv.hi), pv.c.val]) rfl rfl (by kernel_rfl) rfl rfl rfl (rfl) (srcAt (i := 5) rfl (fun j v h => by rw [Nat.zero_add]; exact h)) (PV.one pv) (by omega) ((pvs ++ [pv]).length) (by first | exact (List.length_append ..).symm | (simp; done) | (simp; omega)) (PS (pvs ++ [pv])) ((PS_append _ ([pv])).symm) (fun A64 c64 => ?_)
       refine la ?_
       refine liNil (qBlock (qThen (reg ?_)))
       refine lv (v := (vI (i + 1))) (rAdd _ rfl rfl rfl (by omega) (by omega) (by omega)) ?_
       refine lm ?_
       refine liNil (qThen ?_)
       exact stAgain (i + 1, A64, c64, pvs ++ [pv], r229, LX ++ L29) (⟨by omega, by rw [Rd.parts_some hpt heq29 hfo, ← hab, List.map_append]; rfl, rows_snoc hrows hrw⟩) (by show n20 - (i + 1) < n20 - i; omega) ⟨rfl, rfl, rfl, rfl, rfl, rfl, trivial⟩ (fun w hM => by show Mm _ _ [cRd X16 br16 (r229), cP A64 (pvs ++ [pv]) c64, cBag (LX ++ L29)] w; exact Mm.join (cs := [cRd X16 br16 (r229), cP A64 (pvs ++ [pv]) c64]) (L := LX) (M := L29) ((hM.pick [0, 1, 2, 3] rfl rfl)))
    ·have hd37 := of_decide_eq_false hc37
     have hi0 : i = 0 := by omega
     have hfo : follows (pvs.map PV.abs) p29 = true := by rw [List.eq_nil_of_length_eq_zero (hpl.trans hi0)]; rfl
     refine anF 6 ?_
     refine anF 7 ?_
     refine anF 8 ?_
     refine anF 9 ?_
     refine anF 10 ?_
     refine anF 11 ?_
     refine anF 12 ?_
     refine anF 13 ?_
     refine anF 14 ?_
     refine anU 15 ?_
     refine anU 16 ?_
     refine anU 17 ?_
     refine anU 18 ?_
     refine anU 19 ?_
     refine anU 20 ?_
     refine anU 21 ?_
     refine anU 22 ?_
     refine anU 23 ?_
     refine anU 24 ?_
     refine anU 25 ?_
     refine anF 26 ?_
     refine agc 27 (.bool false) ?_
     refine ac 28 (.bool false) ?_
     refine anyDone (by kernel_rfl) ?_
     refine qThen (stFalse rfl (stSkip (qThen (reg ?_))))
     refine lm ?_
     refine lv (v := (.agg #[(vS pv.lo), (vS pv.hi), pv.c.val])) (rLoadA [(vS pv.lo), (vS pv.hi), pv.c.val] rfl rfl (by kernel_rfl) (by kernel_rfl) (segAt (i := 4) rfl (by intro j v hj; first | (rw [Nat.zero_add]; exact hj) | (match j, hj with | 0, h => exact h | 1, h => exact h | 2, h => exact h)))) ?_
     refine li rfl ?_
     refine opNew (v := fun b => .slice (some ⟨b, 0, none⟩) 1 1) 76 [(vS pv.lo), (vS pv.hi), pv.c.val] rfl (by kernel_rfl) (fun _ => by kernel_rfl) (fun b63 => ?_)
     refine li rfl ?_
     refine opAppend el_part 1 ([(vS pv.lo), (vS pv.hi), pv.c.val]) rfl rfl (by kernel_rfl) rfl rfl rfl (rfl) (srcAt (i := 5) rfl (fun j v h => by rw [Nat.zero_add]; exact h)) (PV.one pv) (by omega) ((pvs ++ [pv]).length) (by first | exact (List.length_append ..).symm | (simp; done) | (simp; omega)) (PS (pvs ++ [pv])) ((PS_append _ ([pv])).symm) (fun A64 c64 => ?_)
     refine la ?_
     refine liNil (qBlock (qThen ?_))
     refine St.to [cRd X16 br16 (r229), cP A64 (pvs ++ [pv]) c64, cBag (LX), cBag (L29), cAt b8 76 [(vS pv.lo), (vS pv.hi), pv.c.val], cAt b63 76 [(vS pv.lo), (vS pv.hi), pv.c.val]] (by kernel_rfl) ?_
     refine reg ?_
     refine lv (v := (vI (i + 1))) (rAdd _ rfl rfl rfl (by omega) (by omega) (by omega)) ?_
     refine lm ?_
     refine liNil (qThen ?_)
     exact stAgain (i + 1, A64, c64, pvs ++ [pv], r229, LX ++ L29) (⟨by omega, by rw [Rd.parts_some hpt heq29 hfo, ← hab, List.map_append]; rfl, rows_snoc hrows hrw⟩) (by show n20 - (i + 1) < n20 - i; omega) ⟨rfl, rfl, rfl, rfl, rfl, rfl, trivial⟩ (fun w hM => by show Mm _ _ [cRd X16 br16 (r229), cP A64 (pvs ++ [pv]) c64, cBag (LX ++ L29)] w; exact Mm.join (cs := [cRd X16 br16 (r229), cP A64 (pvs ++ [pv]) c64]) (L := LX) (M := L29) ((hM.pick [0, 1, 2, 3] rfl rfl)))
   | false =>
    obtain rfl : o29 = none := by cases o29 with | none => rfl | some _ => cases hfk
    refine anyBegin [cRd X16 br16 (r229), cP RX (pvs) rcX, cBag (LX), cBag (L29), cAt b8 76 (cl29)] 29 (by kernel_rfl) (fun _ h => h) ?_
    refine am 0 ?_
    refine ac 1 (.bool true) ?_
    refine am 2 ?_
    refine anT 3 ?_
    refine anT 4 ?_
    refine anT 5 ?_
    refine anU 6 ?_
    refine anU 7 ?_
    refine anU 8 ?_
    refine anU 9 ?_
    refine anU 10 ?_
    refine anU 11 ?_
    refine anU 12 ?_
    refine anU 13 ?_
    refine anU 14 ?_
    refine anU 15 ?_
    refine anU 16 ?_
    refine anU 17 ?_
    refine anU 18 ?_
    refine anU 19 ?_
    refine anU 20 ?_
    refine anU 21 ?_
    refine anU 22 ?_
    refine anU 23 ?_
    refine anU 24 ?_
    refine anU 25 ?_
    refine anU 26 ?_
    refine anT 27 ?_
    refine ac 28 (.bool true) ?_
    refine anyDone (by kernel_rfl) ?_
    refine qThen (stTrue rfl (stSeq (reg ?_)))
    refine la ?_
    refine la ?_
    refine liNil (qThen (stRet (qThenR (qBlockR (qThenR (qThenR (qBlockR (qThenR ?_))))))))
    refine stEnd [(.slice none 0 0), (.int .i64 3)] rfl ⟨rfl, rfl, trivial⟩ (fun w hM => ?_)
    exact absurd ((decA_stop heq20 (i := i + 1) hlt (Rd.parts_none hpt heq29)).symm.trans hd) (by simp)
  ·have hd25 := of_decide_eq_false hc25
   obtain rfl : i = n20 := by omega
   refine stExit (qThenX (qThenX (qBlockX (qThen (stSeq (stSeq (reg ?_)))))))
   refine lm ?_
   refine li rfl ?_
   refine opK [0] [cRd X16 br16 (rX)] (fun w hM hO => (rsREnd_any X16 br16 rX w hO).mono ?_)
   rintro e w' ⟨rfl, hP⟩
   refine ⟨_, [cRd X16 br16 (rX)], _, rfl, hP, rfl, ?_⟩; clear hP hM hO
   refine lm ?_
   refine lc (vI rX.off) ?_
   refine lc (.int .i64 rX.end_) ?_
   refine la ?_
   refine la ?_
   refine liNil (qThen (stSeq (reg ?_)))
   refine lm ?_
   refine lc (.bool ((rX.end_ : Int) != 0)) ?_
   refine liNil (qThen ?_)
   refine stCond rfl (fun hc72 => ?_) (fun hc72 => ?_)
   ·refine stSeq (reg ?_)
    refine la ?_
    refine la ?_
    refine liNil (qThen (stRet (qThenR ?_)))
    refine stEnd [(.slice none 0 0), (.int .i64 3)] rfl ⟨rfl, rfl, trivial⟩ (fun w hM => ?_)
    exact absurd ((decA_end heq20 hpt (by simpa using hc72)).symm.trans hd) (by simp)
   ·have hok : decA D = some (pvs.map PV.abs) := decA_ok heq20 hn0 hpt (by simpa using hc72)
    refine stSkip (qThen (stSeq (reg ?_)))
    refine lm ?_
    refine la ?_
    refine la ?_
    refine liNil (qThen (stRet ?_))
    refine stEnd [(vL RX (pvs) rcX), (.int .i64 0)] rfl ⟨rfl, rfl, trivial⟩ (fun w hM => ?_)
    exact ⟨RX, rcX, pvs, LX, rfl, (hM.pick [1, 2] rfl rfl), Option.some.inj (hok.symm.trans hd), hrows⟩
end Go.Proofs.YtlepfnihpdhcaaaGreatDoor
namespace Go.Proofs.YtlepfnihpdhcaaaGreatDoor
open Go.RowKit
theorem rsExtend_any (A : Option Addr) (c : Nat) (xs : List UInt8) (n : Nat) (w : World) (hO : Own [cB A xs c] w) (hn : n < 18446744073709551616) (hx : xs.length ≤ 4294960000) :
  Calls Tryz.prog 79 #[(vL A xs c), (.int .u64 ((n : Nat) : Int))] w fun e w' => ∃ (A2 : Option Addr) (c2 : Nat), e = .returned (vL A2 (xs ++ num n) c2) ∧ Back [cB A xs c] w [cB A2 (xs ++ num n) c2] w' := by
 have ho : w.ownsRow 0 5 1 (.slice A xs.length c) xs.length (B8 xs) := hO.at (i := 0) rfl
 refine (extend_any 0 n (.slice A xs.length c) xs w hn (by omega) (Nat.zero_le _) ho).mono ?_
 rintro e w' ⟨v', rfl, hG⟩
 obtain ⟨A', c', rfl, hM⟩ := hO.swapOwn 0 rfl hG.own hG.gr hG.blk
 exact ⟨A', c', rfl, hM⟩
theorem rsNewW_any (w : World) :
  Calls Tryz.prog 53 #[] w fun e w' => ∃ (bw : Nat), e = .returned (vP bw 0) ∧ Back [] w [cAt bw 138 [(.slice none 0 0), (.int .i64 0)]] w' := (newWriter_any w).mono fun _ _ ⟨he, hf, ha⟩ => ⟨_, he, (Mm.start w []).push (c := cAt w.heap.size 138 [.slice none 0 0, Value.int .i64 0]) hf ha (by simp [cAt]) (by simp [cAt])⟩
theorem rsWUint_any (bw : Nat) (A : Option Addr) (c : Nat) (xs : List UInt8) (n : Nat) (w : World) (hO : Own [cAt bw 138 [(vL A (xs) c), (.int .i64 0)], cB A (xs) c] w) (hn : n < 18446744073709551616) (hx : xs.length ≤ 4294960000) :
  Calls Tryz.prog 78 #[(vP bw 0), (.int .u64 ((n : Nat) : Int))] w fun e w' => ∃ (A2 : Option Addr) (c2 : Nat), e = .returned (.tuple #[]) ∧ Back [cAt bw 138 [(vL A (xs) c), (.int .i64 0)], cB A (xs) c] w [cAt bw 138 [(vL A2 (xs ++ num n) c2), (.int .i64 0)], cB A2 (xs ++ num n) c2] w' := by
 refine stEnter (args := [(vP bw 0), (.int .u64 ((n : Nat) : Int))]) (fps [cAt bw 138 [(vL A (xs) c), (.int .i64 0)], cB A (xs) c]) Tryz.func78 rfl 18 rfl [(0, (vP bw 0)), (1, (.int .u64 ((n : Nat) : Int)))] ⟨rfl, rfl, trivial⟩ [cAt bw 138 [(vL A (xs) c), (.int .i64 0)], cB A (xs) c] (hO) ?_
 refine stSeq (reg ?_)
 refine lm ?_
 refine lc (vP bw 0) ?_
 refine lc (vP bw 1) ?_
 refine lv (v := (.int .i64 0)) (rLoad 0 rfl rfl (by kernel_rfl) rfl rfl) ?_
 refine lc (.bool true) ?_
 refine liNil (qThen (stTrue rfl (reg ?_)))
 refine lm ?_
 refine lm ?_
 refine lc (vP bw 0) ?_
 refine lc (vP bw 0) ?_
 refine lv (v := (vL A (xs) c)) (rLoad 0 rfl rfl (by kernel_rfl) rfl rfl) ?_
 refine lm ?_
 refine li rfl ?_
 refine opK [1] [cB A (xs) c] (fun w hM hO => (rsExtend_any A c xs n w hO (by omega) (by omega)).mono ?_)
 rintro e w' ⟨A215, c215, rfl, hP⟩
 refine ⟨_, [cB A215 (xs ++ num n) c215], _, rfl, hP, rfl, ?_⟩; clear hP hM hO
 refine lc (vP bw 0) ?_
 refine lc (vP bw 0) ?_
 refine li rfl ?_
 refine opStore1 0 rfl rfl (by kernel_rfl) rfl rfl rfl (by kernel_rfl) rfl (by simp) ?_
 refine liNil ?_
 refine stEndN [] rfl trivial (fun w hM => ?_)
 exact ⟨A215, c215, rfl, hM⟩
theorem rsWCount_any (bw : Nat) (A : Option Addr) (c : Nat) (xs : List UInt8) (n : Nat) (w : World) (hO : Own [cAt bw 138 [(vL A (xs) c), (.int .i64 0)], cB A (xs) c] w) (hn : n ≤ 4294967296) (hx : xs.length ≤ 4294960000) :
  Calls Tryz.prog 54 #[(vP bw 0), (vI n)] w fun e w' => ∃ (A2 : Option Addr) (c2 : Nat), e = .returned (.tuple #[]) ∧ Back [cAt bw 138 [(vL A (xs) c), (.int .i64 0)], cB A (xs) c] w [cAt bw 138 [(vL A2 (xs ++ num n) c2), (.int .i64 0)], cB A2 (xs ++ num n) c2] w' := by
 refine stEnter (args := [(vP bw 0), (vI n)]) (fps [cAt bw 138 [(vL A (xs) c), (.int .i64 0)], cB A (xs) c]) Tryz.func54 rfl 18 rfl [(0, (vP bw 0)), (1, (vI n))] ⟨rfl, rfl, trivial⟩ [cAt bw 138 [(vL A (xs) c), (.int .i64 0)], cB A (xs) c] (hO) ?_
 refine stSeq (stSeq (reg ?_))
 refine lm ?_
 refine lc (vP bw 0) ?_
 refine lc (vP bw 1) ?_
 refine lv (v := (.int .i64 0)) (rLoad 0 rfl rfl (by kernel_rfl) rfl rfl) ?_
 refine lc (.bool false) ?_
 refine liNil (qThen (stFalse rfl (stSkip (qThen (stSeq (stSeq (reg ?_)))))))
 refine lm ?_
 refine lc (.bool (decide (((n : Nat) : Int) < 0))) ?_
 refine liNil (qThen ?_)
 refine stFalseK rfl (by simp) ?_
 refine stSkip (qThen (reg ?_))
 refine lm ?_
 refine lm ?_
 refine lv (v := (.int .u64 ((n : Nat) : Int))) (rIntC _ (fun _ => by kernel_rfl) rfl rfl (wrapU64_id (by omega) (by omega))) ?_
 refine li rfl ?_
 refine opK [0, 1] [cAt bw 138 [(vL A (xs) c), (.int .i64 0)], cB A (xs) c] (fun w hM hO => (rsWUint_any bw A c xs n w hO (by omega) (by omega)).mono ?_)
 rintro e w' ⟨A217, c217, rfl, hP⟩
 refine ⟨_, [cAt bw 138 [(vL A217 (xs ++ num n) c217), (.int .i64 0)], cB A217 (xs ++ num n) c217], _, rfl, hP, rfl, ?_⟩; clear hP hM hO
 refine liNil ?_
 refine stEndN [] rfl trivial (fun w hM => ?_)
 exact ⟨A217, c217, rfl, hM⟩
theorem rsWText_any (bw : Nat) (A : Option Addr) (c : Nat) (xs : List UInt8) (t : List UInt8) (w : World) (hO : Own [cAt bw 138 [(vL A (xs) c), (.int .i64 0)], cB A (xs) c] w) (ht : t.length ≤ 1000) (hx : xs.length ≤ 4294960000) :
  Calls Tryz.prog 55 #[(vP bw 0), (vS t)] w fun e w' => ∃ (A2 : Option Addr) (c2 : Nat), e = .returned (.tuple #[]) ∧ Back [cAt bw 138 [(vL A (xs) c), (.int .i64 0)], cB A (xs) c] w [cAt bw 138 [(vL A2 (xs ++ num t.length ++ t) c2), (.int .i64 0)], cB A2 (xs ++ num t.length ++ t) c2] w' := by
 refine stEnter (args := [(vP bw 0), (vS t)]) (fps [cAt bw 138 [(vL A (xs) c), (.int .i64 0)], cB A (xs) c]) Tryz.func55 rfl 22 rfl [(0, (vP bw 0)), (1, (vS t))] ⟨rfl, rfl, trivial⟩ [cAt bw 138 [(vL A (xs) c), (.int .i64 0)], cB A (xs) c] (hO) ?_
 refine stSeq (reg ?_)
 refine lm ?_
 refine lc (vP bw 0) ?_
 refine lc (vP bw 1) ?_
 refine lv (v := (.int .i64 0)) (rLoad 0 rfl rfl (by kernel_rfl) rfl rfl) ?_
 refine lc (.bool true) ?_
 refine liNil (qThen (stTrue rfl (reg ?_)))
 refine lm ?_
 refine lm ?_
 refine lc (vP bw 0) ?_
 refine lc (vP bw 0) ?_
 refine lv (v := (vL A (xs) c)) (rLoad 0 rfl rfl (by kernel_rfl) rfl rfl) ?_
 refine lm ?_
 refine lv (v := (vI ((t).length))) (rLenS rfl rfl (by kernel_rfl)) ?_
 refine lv (v := (.int .u64 ((t.length : Nat) : Int))) (rIntC _ (fun _ => by kernel_rfl) rfl rfl (wrapU64_id (by omega) (by omega))) ?_
 refine li rfl ?_
 refine opK [1] [cB A (xs) c] (fun w hM hO => (rsExtend_any A c xs t.length w hO (by omega) (by omega)).mono ?_)
 rintro e w' ⟨A217, c217, rfl, hP⟩
 refine ⟨_, [cB A217 (xs ++ num t.length) c217], _, rfl, hP, rfl, ?_⟩; clear hP hM hO
 refine lm ?_
 refine li rfl ?_
 refine opAppendStr 1 rfl rfl (by kernel_rfl) (by kernel_rfl) (by kernel_rfl) (by kernel_rfl) rfl rfl rfl (by have := num_length t.length (by omega); rw [List.length_append]; omega) (((xs ++ num t.length) ++ t).length) (by first | exact (List.length_append ..).symm | (simp; done) | (simp; omega)) (B8 ((xs ++ num t.length) ++ t)) (by simp [B8]) (fun A19 c19 => ?_)
 refine lc (vP bw 0) ?_
 refine lc (vP bw 0) ?_
 refine li rfl ?_
 refine opStore1 0 rfl rfl (by kernel_rfl) rfl rfl rfl (by kernel_rfl) rfl (by simp) ?_
 refine liNil ?_
 refine stEndN [] rfl trivial (fun w hM => ?_)
 exact ⟨A19, c19, rfl, hM⟩
theorem rsWSum_any (bw : Nat) (A : Option Addr) (c : Nat) (xs : List UInt8) (t : List UInt8) (w : World) (hO : Own [cAt bw 138 [(vL A (xs) c), (.int .i64 0)], cB A (xs) c] w) (ht : t.length = 32) (hx : xs.length ≤ 4294960000) :
  Calls Tryz.prog 147 #[(vP bw 0), (vS t)] w fun e w' => ∃ (A2 : Option Addr) (c2 : Nat), e = .returned (.tuple #[]) ∧ Back [cAt bw 138 [(vL A (xs) c), (.int .i64 0)], cB A (xs) c] w [cAt bw 138 [(vL A2 (xs ++ t) c2), (.int .i64 0)], cB A2 (xs ++ t) c2] w' := by
 refine stEnter (args := [(vP bw 0), (vS t)]) (fps [cAt bw 138 [(vL A (xs) c), (.int .i64 0)], cB A (xs) c]) Tryz.func147 rfl 24 rfl [(0, (vP bw 0)), (1, (vS t))] ⟨rfl, rfl, trivial⟩ [cAt bw 138 [(vL A (xs) c), (.int .i64 0)], cB A (xs) c] (hO) ?_
 refine stSeq (stSeq (reg ?_))
 refine lm ?_
 refine lc (vP bw 0) ?_
 refine lc (vP bw 1) ?_
 refine lv (v := (.int .i64 0)) (rLoad 0 rfl rfl (by kernel_rfl) rfl rfl) ?_
 refine lc (.bool false) ?_
 refine liNil (qThen (stFalse rfl (stSkip (qThen (stSeq (stSeq (reg ?_)))))))
 refine lm ?_
 refine lv (v := (vI ((t).length))) (rLenS rfl rfl (by kernel_rfl)) ?_
 refine lc (.bool (((((t).length : Nat) : Int) : Int) != 32)) ?_
 refine liNil (qThen ?_)
 refine stFalseK rfl (by simp [ht]) ?_
 refine stSkip (qThen (reg ?_))
 refine lm ?_
 refine lm ?_
 refine lc (vP bw 0) ?_
 refine lc (vP bw 0) ?_
 refine lv (v := (vL A (xs) c)) (rLoad 0 rfl rfl (by kernel_rfl) rfl rfl) ?_
 refine lm ?_
 refine li rfl ?_
 refine opAppendStr 1 rfl rfl (by kernel_rfl) (by kernel_rfl) (by kernel_rfl) (by kernel_rfl) rfl rfl rfl (by omega) (((xs) ++ t).length) (by first | exact (List.length_append ..).symm | (simp; done) | (simp; omega)) (B8 ((xs) ++ t)) (by simp [B8]) (fun A21 c21 => ?_)
 refine lc (vP bw 0) ?_
 refine lc (vP bw 0) ?_
 refine li rfl ?_
 refine opStore1 0 rfl rfl (by kernel_rfl) rfl rfl rfl (by kernel_rfl) rfl (by simp) ?_
 refine liNil ?_
 refine stEndN [] rfl trivial (fun w hM => ?_)
 exact ⟨A21, c21, rfl, hM⟩
theorem rsDone_big (bw : Nat) (A : Option Addr) (c : Nat) (xs : List UInt8) (w : World) (hO : Own [cAt bw 138 [(vL A (xs) c), (.int .i64 0)], cB A (xs) c] w) (hb : 1048576 < xs.length) :
  Calls Tryz.prog 56 #[(vP bw 0)] w fun e w' => e = .returned (.tuple #[(.slice none 0 0), (.int .i64 2)]) ∧ Back [cAt bw 138 [(vL A (xs) c), (.int .i64 0)], cB A (xs) c] w [cAt bw 138 [(vL A (xs) c), (.int .i64 0)], cB A (xs) c] w' := by
 refine stEnter (args := [(vP bw 0)]) (fps [cAt bw 138 [(vL A (xs) c), (.int .i64 0)], cB A (xs) c]) Tryz.func56 rfl 25 rfl [(0, (vP bw 0))] ⟨rfl, trivial⟩ [cAt bw 138 [(vL A (xs) c), (.int .i64 0)], cB A (xs) c] (hO) ?_
 refine stSeq (reg ?_)
 refine la ?_
 refine la ?_
 refine liNil (qThen (stSeq (stSeq (reg ?_))))
 refine lm ?_
 refine lc (vP bw 0) ?_
 refine lc (vP bw 1) ?_
 refine lv (v := (.int .i64 0)) (rLoad 0 rfl rfl (by kernel_rfl) rfl rfl) ?_
 refine lc (.bool false) ?_
 refine liNil (qThen (stFalse rfl (stSkip (qThen (stSeq (stSeq (reg ?_)))))))
 refine lm ?_
 refine lc (vP bw 0) ?_
 refine lc (vP bw 0) ?_
 refine lv (v := (vL A (xs) c)) (rLoad 0 rfl rfl (by kernel_rfl) rfl rfl) ?_
 refine lc (vI ((xs).length)) ?_
 refine lc (.bool (decide ((((xs).length : Nat) : Int) > 1048576))) ?_
 refine liNil (qThen ?_)
 refine stTrueK rfl (by simp; omega) ?_
 refine stSeq (reg ?_)
 refine la ?_
 refine la ?_
 refine liNil (qThen (stRet (qThenR ?_)))
 refine stEnd [(.slice none 0 0), (.int .i64 2)] rfl ⟨rfl, rfl, trivial⟩ (fun w hM => ?_)
 exact ⟨rfl, hM⟩
theorem rsDone_ok (bw : Nat) (A : Option Addr) (c : Nat) (xs : List UInt8) (w : World) (hO : Own [cAt bw 138 [(vL A (xs) c), (.int .i64 0)], cB A (xs) c] w) (hb : xs.length ≤ 1048576) :
  Calls Tryz.prog 56 #[(vP bw 0)] w fun e w' => ∃ (A2 : Option Addr) (c2 : Nat), e = .returned (.tuple #[(vL A2 xs c2), (.int .i64 0)]) ∧ Back [cAt bw 138 [(vL A (xs) c), (.int .i64 0)], cB A (xs) c] w [cAt bw 138 [(vL A (xs) c), (.int .i64 0)], cB A (xs) c, cB A2 xs c2] w' := by
 refine stEnter (args := [(vP bw 0)]) (fps [cAt bw 138 [(vL A (xs) c), (.int .i64 0)], cB A (xs) c]) Tryz.func56 rfl 25 rfl [(0, (vP bw 0))] ⟨rfl, trivial⟩ [cAt bw 138 [(vL A (xs) c), (.int .i64 0)], cB A (xs) c] (hO) ?_
 refine stSeq (reg ?_)
 refine la ?_
 refine la ?_
 refine liNil (qThen (stSeq (stSeq (reg ?_))))
 refine lm ?_
 refine lc (vP bw 0) ?_
 refine lc (vP bw 1) ?_
 refine lv (v := (.int .i64 0)) (rLoad 0 rfl rfl (by kernel_rfl) rfl rfl) ?_
 refine lc (.bool false) ?_
 refine liNil (qThen (stFalse rfl (stSkip (qThen (stSeq (stSeq (reg ?_)))))))
 refine lm ?_
 refine lc (vP bw 0) ?_
 refine lc (vP bw 0) ?_
 refine lv (v := (vL A (xs) c)) (rLoad 0 rfl rfl (by kernel_rfl) rfl rfl) ?_
 refine lc (vI ((xs).length)) ?_
 refine lc (.bool (decide ((((xs).length : Nat) : Int) > 1048576))) ?_
 refine liNil (qThen ?_)
 refine stFalseK rfl (by simp; omega) ?_
 refine stSkip (qThen (stSeq (reg (li rfl ?_))))
 refine opNew (v := fun b => .slice (some ⟨b, 0, none⟩) 0 0) 5 [] rfl (by kernel_rfl) (fun _ => by kernel_rfl) (fun b19 => ?_)
 refine lm ?_
 refine lc (vP bw 0) ?_
 refine lc (vP bw 0) ?_
 refine lv (v := (vL A (xs) c)) (rLoad 0 rfl rfl (by kernel_rfl) rfl rfl) ?_
 refine li rfl ?_
 refine opMem (fun w hM => hM.toOwn0 2 rfl 1) ?_
 refine opAppend el_u8 2 (B8 (xs)) rfl rfl (by kernel_rfl) rfl rfl rfl (by simp [B8]) (fun w hM => CellsAt.of_row (rowOwn (i := 1) rfl w hM)) ((B8_one _)) (by omega) ((xs).length) (by first | exact (List.length_append ..).symm | (simp; done) | (simp; omega)) (B8 (xs)) (by simp [B8]) (fun A24 c24 => ?_)
 refine la ?_
 refine la ?_
 refine liNil (qThen (stRet ?_))
 refine stEnd [(vL A24 (xs) c24), (.int .i64 0)] rfl ⟨rfl, rfl, trivial⟩ (fun w hM => ?_)
 exact ⟨A24, c24, rfl, hM⟩
end Go.Proofs.YtlepfnihpdhcaaaGreatDoor
namespace Go.Proofs.YtlepfnihpdhcaaaGreatDoor
open Go.RowKit
theorem rsLearn_any (bs : Nat) (A : Option Addr) (c : Nat) (its : List (List UInt8)) (fan : Nat) (leaf : Nat) (nm : Nat) (om : Nat) (A1 : Option Addr) (c1 : Nat) (l : List (List UInt8)) (A2 : Option Addr) (c2 : Nat) (m : List (List UInt8)) (bo : Nat) (R : Value) (N : Option Addr) (nc : Nat) (nl : List (List UInt8)) (O : Option Addr) (oc : Nat) (ol : List (List UInt8)) (w : World) (hO : Own [cAt bo 85 [R, (vL N (nl) nc), (vL O (ol) oc)], cS N (nl) nc, cS O (ol) oc] w) (r0 : Rf [cAt bo 85 [R, (vL N (nl) nc), (vL O (ol) oc)], cS N (nl) nc, cS O (ol) oc] w (SessAt bs A c its fan leaf nm om)) (r1 : Rf [cAt bo 85 [R, (vL N (nl) nc), (vL O (ol) oc)], cS N (nl) nc, cS O (ol) oc] w (fun w => RowIn w A1 (SS l))) (r2 : Rf [cAt bo 85 [R, (vL N (nl) nc), (vL O (ol) oc)], cS N (nl) nc, cS O (ol) oc] w (fun w => RowIn w A2 (SS m))) (hs : okSet its) (hn : its.length ≤ 1000) (hl : l.length ≤ 4294967296) (hm : m.length ≤ 4294967296) (hnl : nl.length ≤ 68719476736) (hol : ol.length ≤ 68719476736) (hR : R.oneCell' = true) :
  Calls Tryz.prog 43 #[(vP bs 0), (.agg #[(vL A1 l c1), (vL A2 m c2)]), (vP bo 0)] w fun e w' => ∃ (N2 : Option Addr) (nc2 : Nat) (O2 : Option Addr) (oc2 : Nat), e = .returned (.tuple #[]) ∧ Back [cAt bo 85 [R, (vL N (nl) nc), (vL O (ol) oc)], cS N (nl) nc, cS O (ol) oc] w [cAt bo 85 [R, (vL N2 (nl ++ without l its) nc2), (vL O2 (ol ++ keepIn m its) oc2)], cS N2 (nl ++ without l its) nc2, cS O2 (ol ++ keepIn m its) oc2] w' := by
 have ra := r0.imp (fun _ h => h.1)
 have rb := r0.imp (fun _ h => h.2)
 have _u0 := r0
 have _u1 := r1
 have _u2 := r2
 have _u3 := hs
 have _u4 := hn
 have _u5 := hl
 have _u6 := hm
 have _u7 := hnl
 have _u8 := hol
 have _u9 := hR
 clear _u0 _u1 _u2 _u3 _u4 _u5 _u6 _u7 _u8 _u9
 refine stEnter (args := [(vP bs 0), (.agg #[(vL A1 l c1), (vL A2 m c2)]), (vP bo 0)]) (fps [cAt bo 85 [R, (vL N (nl) nc), (vL O (ol) oc)], cS N (nl) nc, cS O (ol) oc]) Tryz.func43 rfl 53 rfl [(0, (vP bs 0)), (1, (.agg #[(vL A1 l c1), (vL A2 m c2)])), (2, (vP bo 0))] ⟨rfl, rfl, rfl, trivial⟩ [cAt bo 85 [R, (vL N (nl) nc), (vL O (ol) oc)], cS N (nl) nc, cS O (ol) oc] (hO) ?_
 refine stSeq (reg (li rfl ?_))
 refine opBox [(vL A1 l c1), (vL A2 m c2)] rfl rfl (by kernel_rfl) rfl rfl (fun b4 => ?_)
 refine liNil (qThen (stSeq (stSeq (reg ?_))))
 refine lc (vP b4 0) ?_
 refine lv (v := (vL A1 l c1)) (rLoad 3 rfl rfl (by kernel_rfl) rfl rfl) ?_
 refine lc (vI l.length) ?_
 refine lm ?_
 refine liNil (qThen (stBlock ?_))
 refine stLoop (ι := Nat × Option Addr × Nat) (fun (i, N28, nc28) => i ≤ l.length) (fun (i, N28, nc28) => l.length - i) (fun (i, N28, nc28) => [(0, (vP bs 0)), (2, (vP bo 0)), (4, (vP b4 0)), (11, (vL A1 l c1)), (12, (vI l.length)), (13, (vI i))]) (fun (i, N28, nc28) => [cAt bo 85 [R, (vL N28 (nl ++ without (l.take i) its) nc28), (vL O (ol) oc)], cS N28 (nl ++ without (l.take i) its) nc28, cS O (ol) oc, cAt b4 92 [(vL A1 l c1), (vL A2 m c2)]]) (0, N, nc) (Nat.zero_le _) ⟨rfl, rfl, rfl, rfl, rfl, rfl, trivial⟩ (fun w hM => by show Mm _ _ [cAt bo 85 [R, (vL N (nl ++ without (l.take 0) its) nc), (vL O (ol) oc)], cS N (nl ++ without (l.take 0) its) nc, cS O (ol) oc, cAt b4 92 [(vL A1 l c1), (vL A2 m c2)]] w; rw [show nl ++ without (l.take 0) its = nl from List.append_nil _]; exact hM) ?_
 rintro ⟨i, N28, nc28⟩ (hok : i ≤ l.length)
 show St _ _ _ [(0, (vP bs 0)), (2, (vP bo 0)), (4, (vP b4 0)), (11, (vL A1 l c1)), (12, (vI l.length)), (13, (vI i))] [cAt bo 85 [R, (vL N28 (nl ++ without (l.take i) its) nc28), (vL O (ol) oc)], cS N28 (nl ++ without (l.take i) its) nc28, cS O (ol) oc, cAt b4 92 [(vL A1 l c1), (vL A2 m c2)]] _
 refine stSeq (reg ?_)
 refine lc (.bool (decide (((i : Nat) : Int) < ((l.length : Nat) : Int)))) ?_
 refine liNil (qThen (stSeq ?_))
 refine stCond rfl (fun hc14 => ?_) (fun hc14 => ?_)
 ·have hd14 := of_decide_eq_true hc14
  refine stSkip (qThen (stSeq (stBlock (stSeq (reg ?_)))))
  obtain ⟨x0, hx0⟩ : ∃ ξ, (l)[i]? = some ξ := ⟨_, List.getElem?_eq_getElem (by omega)⟩
  refine St.rowPtr (fun w hM => r1.now hM) (SS_at hx0) (fun p15 q15 hA15 hc15 => ?_)
  refine lv (v := (vP p15 (q15 + i))) (rIndexRow (e := 9) rfl (by kernel_rfl) (by kernel_rfl) rfl rfl hA15 (by omega)) ?_
  refine lv (v := (vS x0)) (rLoadW rfl rfl (by kernel_rfl) hc15) ?_
  refine la ?_
  refine liNil (qThen (stSeq (reg ?_)))
  refine lm ?_
  refine lm ?_
  refine li rfl ?_
  refine opK0 (fun w hM => (rsSHas_any bs A c its fan leaf nm om x0 w (r0.go0 hM) (by assumption) (by assumption)).mono ?_)
  rintro e w' ⟨rfl, hP⟩
  refine ⟨_, _, rfl, hP, ?_⟩; clear hP hM
  refine lc (.bool (!(its.contains x0))) ?_
  refine liNil (qThen ?_)
  refine stCond rfl (fun hc20 => ?_) (fun hc20 => ?_)
  ·refine reg ?_
   refine lm ?_
   refine lm ?_
   refine lc (vP bo 0) ?_
   refine lc (vP bo 1) ?_
   refine lv (v := (vL N28 (nl ++ without (l.take i) its) nc28)) (rLoad 0 rfl rfl (by kernel_rfl) rfl rfl) ?_
   refine lm ?_
   refine li rfl ?_
   refine opNew (v := fun b => .slice (some ⟨b, 0, none⟩) 1 1) 9 [(vS x0)] rfl (by kernel_rfl) (fun _ => by kernel_rfl) (fun b27 => ?_)
   refine li rfl ?_
   refine opAppend el_strC 1 ([(vS x0)]) rfl rfl (by kernel_rfl) rfl rfl rfl (rfl) (srcAt (i := 4) rfl (fun j v h => by rw [Nat.zero_add]; exact h)) (by simp [Value.oneCell']) (by have h := without_len (l.take i) its; simp only [List.length_append, List.length_take] at *; omega) ((nl ++ without (l.take i) its ++ [x0]).length) (by first | exact (List.length_append ..).symm | (simp; done) | (simp; omega)) (SS (nl ++ without (l.take i) its ++ [x0])) (by simp [SS]) (fun A28 c28 => ?_)
   refine lc (vP bo 0) ?_
   refine lc (vP bo 1) ?_
   refine li rfl ?_
   refine opStore1 0 rfl rfl (by kernel_rfl) rfl rfl rfl (by kernel_rfl) rfl (by simp) ?_
   refine liNil (qBlock (qThen ?_))
   refine St.to [cAt bo 85 [R, (vL A28 (nl ++ without (l.take i) its ++ [x0]) c28), (vL O (ol) oc)], cS A28 (nl ++ without (l.take i) its ++ [x0]) c28, cS O (ol) oc, cAt b4 92 [(vL A1 l c1), (vL A2 m c2)], cAt b27 9 [(vS x0)]] (by kernel_rfl) ?_
   refine reg ?_
   refine lv (v := (vI (i + 1))) (rAdd _ rfl rfl rfl (by omega) (by omega) (by omega)) ?_
   refine lm ?_
   refine liNil (qThen ?_)
   rw [show nl ++ without (l.take i) its ++ [x0] = nl ++ without (l.take (i + 1)) its from by rw [List.append_assoc, without_yes hx0 (by simpa using hc20)]]
   exact stAgain (i + 1, A28, c28) (by show _ ≤ _; omega) (by show l.length - (i + 1) < l.length - i; omega) ⟨rfl, rfl, rfl, rfl, rfl, rfl, trivial⟩ (fun w hM => (hM.pick [0, 1, 2, 3] rfl rfl))
  ·refine stSkip (qBlock (qThen (reg ?_)))
   refine lv (v := (vI (i + 1))) (rAdd _ rfl rfl rfl (by omega) (by omega) (by omega)) ?_
   refine lm ?_
   refine liNil (qThen ?_)
   rw [show nl ++ without (l.take i) its = nl ++ without (l.take (i + 1)) its from by rw [without_no hx0 (by simpa using hc20)]]
   exact stAgain (i + 1, N28, nc28) (by show _ ≤ _; omega) (by show l.length - (i + 1) < l.length - i; omega) ⟨rfl, rfl, rfl, rfl, rfl, rfl, trivial⟩ (fun w hM => hM)
 ·have hd14 := of_decide_eq_false hc14
  obtain rfl : i = l.length := by omega
  rw [List.take_length]
  refine stExit (qThenX (qThenX (qBlockX (qThen (stSeq (reg ?_))))))
  refine lc (vP b4 1) ?_
  refine lv (v := (vL A2 m c2)) (rLoad 3 rfl rfl (by kernel_rfl) rfl rfl) ?_
  refine lc (vI m.length) ?_
  refine lm ?_
  refine liNil (qThen (stBlock ?_))
  refine stLoop (ι := Nat × Option Addr × Nat) (fun (i, N49, nc49) => i ≤ m.length) (fun (i, N49, nc49) => m.length - i) (fun (i, N49, nc49) => [(0, (vP bs 0)), (2, (vP bo 0)), (33, (vL A2 m c2)), (34, (vI m.length)), (35, (vI i))]) (fun (i, N49, nc49) => [cAt bo 85 [R, (vL N28 (nl ++ without l its) nc28), (vL N49 (ol ++ keepIn (m.take i) its) nc49)], cS N28 (nl ++ without l its) nc28, cS N49 (ol ++ keepIn (m.take i) its) nc49, cAt b4 92 [(vL A1 l c1), (vL A2 m c2)]]) (0, O, oc) (Nat.zero_le _) ⟨rfl, rfl, rfl, rfl, rfl, trivial⟩ (fun w hM => by show Mm _ _ [cAt bo 85 [R, (vL N28 (nl ++ without l its) nc28), (vL O (ol ++ keepIn (m.take 0) its) oc)], cS N28 (nl ++ without l its) nc28, cS O (ol ++ keepIn (m.take 0) its) oc, cAt b4 92 [(vL A1 l c1), (vL A2 m c2)]] w; rw [show ol ++ keepIn (m.take 0) its = ol from List.append_nil _]; exact hM) ?_
  rintro ⟨i, N49, nc49⟩ (hok : i ≤ m.length)
  show St _ _ _ [(0, (vP bs 0)), (2, (vP bo 0)), (33, (vL A2 m c2)), (34, (vI m.length)), (35, (vI i))] [cAt bo 85 [R, (vL N28 (nl ++ without l its) nc28), (vL N49 (ol ++ keepIn (m.take i) its) nc49)], cS N28 (nl ++ without l its) nc28, cS N49 (ol ++ keepIn (m.take i) its) nc49, cAt b4 92 [(vL A1 l c1), (vL A2 m c2)]] _
  refine stSeq (reg ?_)
  refine lc (.bool (decide (((i : Nat) : Int) < ((m.length : Nat) : Int)))) ?_
  refine liNil (qThen (stSeq ?_))
  refine stCond rfl (fun hc36 => ?_) (fun hc36 => ?_)
  ·have hd36 := of_decide_eq_true hc36
   refine stSkip (qThen (stSeq (stBlock (stSeq (reg ?_)))))
   obtain ⟨x0, hx0⟩ : ∃ ξ, (m)[i]? = some ξ := ⟨_, List.getElem?_eq_getElem (by omega)⟩
   refine St.rowPtr (fun w hM => r2.now hM) (SS_at hx0) (fun p37 q37 hA37 hc37 => ?_)
   refine lv (v := (vP p37 (q37 + i))) (rIndexRow (e := 9) rfl (by kernel_rfl) (by kernel_rfl) rfl rfl hA37 (by omega)) ?_
   refine lv (v := (vS x0)) (rLoadW rfl rfl (by kernel_rfl) hc37) ?_
   refine la ?_
   refine liNil (qThen (stSeq (reg ?_)))
   refine lm ?_
   refine lm ?_
   refine li rfl ?_
   refine opK0 (fun w hM => (rsSHas_any bs A c its fan leaf nm om x0 w (r0.go0 hM) (by assumption) (by assumption)).mono ?_)
   rintro e w' ⟨rfl, hP⟩
   refine ⟨_, _, rfl, hP, ?_⟩; clear hP hM
   refine liNil (qThen ?_)
   refine stCond rfl (fun hc41 => ?_) (fun hc41 => ?_)
   ·refine reg ?_
    refine lm ?_
    refine lm ?_
    refine lc (vP bo 0) ?_
    refine lc (vP bo 2) ?_
    refine lv (v := (vL N49 (ol ++ keepIn (m.take i) its) nc49)) (rLoad 0 rfl rfl (by kernel_rfl) rfl rfl) ?_
    refine lm ?_
    refine li rfl ?_
    refine opNew (v := fun b => .slice (some ⟨b, 0, none⟩) 1 1) 9 [(vS x0)] rfl (by kernel_rfl) (fun _ => by kernel_rfl) (fun b48 => ?_)
    refine li rfl ?_
    refine opAppend el_strC 2 ([(vS x0)]) rfl rfl (by kernel_rfl) rfl rfl rfl (rfl) (srcAt (i := 4) rfl (fun j v h => by rw [Nat.zero_add]; exact h)) (by simp [Value.oneCell']) (by have h := keepIn_len (m.take i) its; simp only [List.length_append, List.length_take] at *; omega) ((ol ++ keepIn (m.take i) its ++ [x0]).length) (by first | exact (List.length_append ..).symm | (simp; done) | (simp; omega)) (SS (ol ++ keepIn (m.take i) its ++ [x0])) (by simp [SS]) (fun A49 c49 => ?_)
    refine lc (vP bo 0) ?_
    refine lc (vP bo 2) ?_
    refine li rfl ?_
    refine opStore1 0 rfl rfl (by kernel_rfl) rfl rfl rfl (by kernel_rfl) rfl (by simp) ?_
    refine liNil (qBlock (qThen ?_))
    refine St.to [cAt bo 85 [R, (vL N28 (nl ++ without l its) nc28), (vL A49 (ol ++ keepIn (m.take i) its ++ [x0]) c49)], cS N28 (nl ++ without l its) nc28, cS A49 (ol ++ keepIn (m.take i) its ++ [x0]) c49, cAt b4 92 [(vL A1 l c1), (vL A2 m c2)], cAt b48 9 [(vS x0)]] (by kernel_rfl) ?_
    refine reg ?_
    refine lv (v := (vI (i + 1))) (rAdd _ rfl rfl rfl (by omega) (by omega) (by omega)) ?_
    refine lm ?_
    refine liNil (qThen ?_)
    rw [show ol ++ keepIn (m.take i) its ++ [x0] = ol ++ keepIn (m.take (i + 1)) its from by rw [List.append_assoc, keepIn_yes hx0 hc41]]
    exact stAgain (i + 1, A49, c49) (by show _ ≤ _; omega) (by show m.length - (i + 1) < m.length - i; omega) ⟨rfl, rfl, rfl, rfl, rfl, trivial⟩ (fun w hM => (hM.pick [0, 1, 2, 3] rfl rfl))
   ·refine stSkip (qBlock (qThen (reg ?_)))
    refine lv (v := (vI (i + 1))) (rAdd _ rfl rfl rfl (by omega) (by omega) (by omega)) ?_
    refine lm ?_
    refine liNil (qThen ?_)
    rw [show ol ++ keepIn (m.take i) its = ol ++ keepIn (m.take (i + 1)) its from by rw [keepIn_no hx0 hc41]]
    exact stAgain (i + 1, N49, nc49) (by show _ ≤ _; omega) (by show m.length - (i + 1) < m.length - i; omega) ⟨rfl, rfl, rfl, rfl, rfl, trivial⟩ (fun w hM => hM)
  ·have hd36 := of_decide_eq_false hc36
   obtain rfl : i = m.length := by omega
   rw [List.take_length]
   refine stExit (qThenX (qThenX (qBlockX ?_)))
   refine stEndN [] rfl trivial (fun w hM => ?_)
   exact ⟨N28, nc28, N49, nc49, rfl, (hM.pick [0, 1, 2] rfl rfl)⟩
end Go.Proofs.YtlepfnihpdhcaaaGreatDoor
