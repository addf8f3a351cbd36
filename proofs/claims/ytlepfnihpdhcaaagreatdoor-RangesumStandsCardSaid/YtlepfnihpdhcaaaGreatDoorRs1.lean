/- rangesum: parameters, sets, ranges; the law's and the specification's small functions. -/
import Derived.Test.YtlepfnihpdhcaaaGreatDoorCon
import Derived.Test.YtlepfnihpdhcaaaGreatDoorRsPlain
namespace Go.Proofs.YtlepfnihpdhcaaaGreatDoor
open Go.RowKit

set_option maxRecDepth 100000 in
set_option maxHeartbeats 1000000 in
theorem rsValid_any (fan : Int) (leaf : Int) (w : World) :
    Calls Tryz.prog 12 #[(.agg #[(.int .i64 fan), (.int .i64 leaf)])] w fun e w' => e = .returned (.bool (okP fan leaf)) ∧ Back [] w [] w' := by
  refine stEnter (args := [(.agg #[(.int .i64 fan), (.int .i64 leaf)])]) (fps []) Tryz.func12 rfl 21 rfl [(0, (.agg #[(.int .i64 fan), (.int .i64 leaf)]))] ⟨rfl, trivial⟩ [] (Mm.start w []) ?_
  refine stSeq (reg (li rfl ?_))
  refine opBox [(.int .i64 fan), (.int .i64 leaf)] rfl rfl (by kernel_rfl) rfl rfl (fun b1 => ?_)
  refine la ?_
  refine liNil (qThen (stSeq (reg ?_)))
  refine lc (.pointer (some ⟨b1, 0, none⟩)) ?_
  refine lv (v := (.int .i64 fan)) (rLoad 0 rfl rfl (by kernel_rfl) rfl rfl) ?_
  refine lc (.bool (decide ((fan : Int) ≥ 2))) ?_
  refine lm ?_
  refine St.dec 6 rfl (fun hc6 => ?_) (fun hc6 => ?_)
  · have hd6 := of_decide_eq_true hc6
    refine lgc (.pointer (some ⟨b1, 0, none⟩)) ?_
    refine lgv (v := (.int .i64 fan)) (rLoad 0 rfl rfl (by kernel_rfl) rfl rfl) ?_
    refine lgc (.bool (decide ((fan : Int) ≤ 16))) ?_
    refine lc (.bool (decide ((fan : Int) ≤ 16))) ?_
    refine lm ?_
    refine St.dec 11 rfl (fun hc11 => ?_) (fun hc11 => ?_)
    · have hd11 := of_decide_eq_true hc11
      refine lgc (.pointer (some ⟨b1, 1, none⟩)) ?_
      refine lgv (v := (.int .i64 leaf)) (rLoad 0 rfl rfl (by kernel_rfl) rfl rfl) ?_
      refine lgc (.bool (decide ((leaf : Int) ≥ 1))) ?_
      refine lc (.bool (decide ((leaf : Int) ≥ 1))) ?_
      refine lm ?_
      refine St.dec 16 rfl (fun hc16 => ?_) (fun hc16 => ?_)
      · have hd16 := of_decide_eq_true hc16
        refine lgc (.pointer (some ⟨b1, 1, none⟩)) ?_
        refine lgv (v := (.int .i64 leaf)) (rLoad 0 rfl rfl (by kernel_rfl) rfl rfl) ?_
        refine lgc (.bool (decide ((leaf : Int) ≤ 64))) ?_
        refine lc (.bool (decide ((leaf : Int) ≤ 64))) ?_
        refine la ?_
        refine liNil (qThen (stRet ?_))
        refine stEnd [(.bool (decide ((leaf : Int) ≤ 64)))] rfl ⟨rfl, trivial⟩ (fun w hM => ?_)
        exact ⟨ret_bool (by unfold okP; simp; omega), (fun (w : World) (h : Mm _ _ _ w) => Mm.sub h (.cons _ .slnil)) w hM⟩
      · have hd16 := of_decide_eq_false hc16
        refine lnF ?_
        refine lnF ?_
        refine lnF ?_
        refine lc (.bool false) ?_
        refine la ?_
        refine liNil (qThen (stRet ?_))
        refine stEnd [(.bool false)] rfl ⟨rfl, trivial⟩ (fun w hM => ?_)
        exact ⟨ret_bool (by unfold okP; simp; omega), (fun (w : World) (h : Mm _ _ _ w) => Mm.sub h (.cons _ .slnil)) w hM⟩
    · have hd11 := of_decide_eq_false hc11
      refine lnF ?_
      refine lnF ?_
      refine lnF ?_
      refine lc (.bool false) ?_
      refine lm ?_
      refine lnF ?_
      refine lnF ?_
      refine lnF ?_
      refine lc (.bool false) ?_
      refine la ?_
      refine liNil (qThen (stRet ?_))
      refine stEnd [(.bool false)] rfl ⟨rfl, trivial⟩ (fun w hM => ?_)
      exact ⟨ret_bool (by unfold okP; simp; omega), (fun (w : World) (h : Mm _ _ _ w) => Mm.sub h (.cons _ .slnil)) w hM⟩
  · have hd6 := of_decide_eq_false hc6
    refine lnF ?_
    refine lnF ?_
    refine lnF ?_
    refine lc (.bool false) ?_
    refine lm ?_
    refine lnF ?_
    refine lnF ?_
    refine lnF ?_
    refine lc (.bool false) ?_
    refine lm ?_
    refine lnF ?_
    refine lnF ?_
    refine lnF ?_
    refine lc (.bool false) ?_
    refine la ?_
    refine liNil (qThen (stRet ?_))
    refine stEnd [(.bool false)] rfl ⟨rfl, trivial⟩ (fun w hM => ?_)
    exact ⟨ret_bool (by unfold okP; simp; omega), (fun (w : World) (h : Mm _ _ _ w) => Mm.sub h (.cons _ .slnil)) w hM⟩

set_option maxRecDepth 100000 in
set_option maxHeartbeats 1000000 in
theorem rsPvalid_any (fan : Int) (leaf : Int) (w : World) :
    Calls Tryz.prog 34 #[(.agg #[(.int .i64 fan), (.int .i64 leaf)])] w fun e w' => e = .returned (.bool (okP fan leaf)) ∧ Back [] w [] w' := by
  refine stEnter (args := [(.agg #[(.int .i64 fan), (.int .i64 leaf)])]) (fps []) Tryz.func34 rfl 21 rfl [(0, (.agg #[(.int .i64 fan), (.int .i64 leaf)]))] ⟨rfl, trivial⟩ [] (Mm.start w []) ?_
  refine stSeq (reg (li rfl ?_))
  refine opBox [(.int .i64 fan), (.int .i64 leaf)] rfl rfl (by kernel_rfl) rfl rfl (fun b1 => ?_)
  refine la ?_
  refine liNil (qThen (stSeq (reg ?_)))
  refine lc (.pointer (some ⟨b1, 0, none⟩)) ?_
  refine lv (v := (.int .i64 fan)) (rLoad 0 rfl rfl (by kernel_rfl) rfl rfl) ?_
  refine lc (.bool (decide ((fan : Int) ≥ 2))) ?_
  refine lm ?_
  refine St.dec 6 rfl (fun hc6 => ?_) (fun hc6 => ?_)
  · have hd6 := of_decide_eq_true hc6
    refine lgc (.pointer (some ⟨b1, 0, none⟩)) ?_
    refine lgv (v := (.int .i64 fan)) (rLoad 0 rfl rfl (by kernel_rfl) rfl rfl) ?_
    refine lgc (.bool (decide ((fan : Int) ≤ 16))) ?_
    refine lc (.bool (decide ((fan : Int) ≤ 16))) ?_
    refine lm ?_
    refine St.dec 11 rfl (fun hc11 => ?_) (fun hc11 => ?_)
    · have hd11 := of_decide_eq_true hc11
      refine lgc (.pointer (some ⟨b1, 1, none⟩)) ?_
      refine lgv (v := (.int .i64 leaf)) (rLoad 0 rfl rfl (by kernel_rfl) rfl rfl) ?_
      refine lgc (.bool (decide ((leaf : Int) ≥ 1))) ?_
      refine lc (.bool (decide ((leaf : Int) ≥ 1))) ?_
      refine lm ?_
      refine St.dec 16 rfl (fun hc16 => ?_) (fun hc16 => ?_)
      · have hd16 := of_decide_eq_true hc16
        refine lgc (.pointer (some ⟨b1, 1, none⟩)) ?_
        refine lgv (v := (.int .i64 leaf)) (rLoad 0 rfl rfl (by kernel_rfl) rfl rfl) ?_
        refine lgc (.bool (decide ((leaf : Int) ≤ 64))) ?_
        refine lc (.bool (decide ((leaf : Int) ≤ 64))) ?_
        refine la ?_
        refine liNil (qThen (stRet ?_))
        refine stEnd [(.bool (decide ((leaf : Int) ≤ 64)))] rfl ⟨rfl, trivial⟩ (fun w hM => ?_)
        exact ⟨ret_bool (by unfold okP; simp; omega), (fun (w : World) (h : Mm _ _ _ w) => Mm.sub h (.cons _ .slnil)) w hM⟩
      · have hd16 := of_decide_eq_false hc16
        refine lnF ?_
        refine lnF ?_
        refine lnF ?_
        refine lc (.bool false) ?_
        refine la ?_
        refine liNil (qThen (stRet ?_))
        refine stEnd [(.bool false)] rfl ⟨rfl, trivial⟩ (fun w hM => ?_)
        exact ⟨ret_bool (by unfold okP; simp; omega), (fun (w : World) (h : Mm _ _ _ w) => Mm.sub h (.cons _ .slnil)) w hM⟩
    · have hd11 := of_decide_eq_false hc11
      refine lnF ?_
      refine lnF ?_
      refine lnF ?_
      refine lc (.bool false) ?_
      refine lm ?_
      refine lnF ?_
      refine lnF ?_
      refine lnF ?_
      refine lc (.bool false) ?_
      refine la ?_
      refine liNil (qThen (stRet ?_))
      refine stEnd [(.bool false)] rfl ⟨rfl, trivial⟩ (fun w hM => ?_)
      exact ⟨ret_bool (by unfold okP; simp; omega), (fun (w : World) (h : Mm _ _ _ w) => Mm.sub h (.cons _ .slnil)) w hM⟩
  · have hd6 := of_decide_eq_false hc6
    refine lnF ?_
    refine lnF ?_
    refine lnF ?_
    refine lc (.bool false) ?_
    refine lm ?_
    refine lnF ?_
    refine lnF ?_
    refine lnF ?_
    refine lc (.bool false) ?_
    refine lm ?_
    refine lnF ?_
    refine lnF ?_
    refine lnF ?_
    refine lc (.bool false) ?_
    refine la ?_
    refine liNil (qThen (stRet ?_))
    refine stEnd [(.bool false)] rfl ⟨rfl, trivial⟩ (fun w hM => ?_)
    exact ⟨ret_bool (by unfold okP; simp; omega), (fun (w : World) (h : Mm _ _ _ w) => Mm.sub h (.cons _ .slnil)) w hM⟩

set_option maxRecDepth 100000 in
set_option maxHeartbeats 1000000 in
theorem rsSet_any (A : Option Addr) (c : Nat) (l : List (List UInt8)) (w : World) (r0 : Rf [] w (fun w => RowIn w A (SS l))) (hl : l.length ≤ 9223372036854775807) :
    Calls Tryz.prog 24 #[(.slice A (l.length) (c))] w fun e w' => e = .returned (.int .i64 (setE l)) ∧ Back [] w [] w' := by
  have hl' := hl
  refine stEnter (args := [(.slice A (l.length) (c))]) (fps []) Tryz.func24 rfl 32 rfl [(0, (.slice A (l.length) (c)))] ⟨rfl, trivial⟩ [] (Mm.start w []) ?_
  refine stSeq (reg ?_)
  refine la ?_
  refine liNil (qThen (stSeq (stSeq (reg ?_))))
  refine lm ?_
  refine lc (.int .i64 ((l.length : Nat) : Int)) ?_
  refine lc (.bool (decide (((l.length : Nat) : Int) > 16384))) ?_
  refine liNil (qThen ?_)
  refine stCond rfl (fun hc7 => ?_) (fun hc7 => ?_)
  · have hd7 := of_decide_eq_true hc7
    refine stSeq (reg ?_)
    refine la ?_
    refine liNil (qThen (stRet (qThenR ?_)))
    refine stEnd [(.int .i64 2)] rfl ⟨rfl, trivial⟩ (fun w hM => ?_)
    exact ⟨ret_int (setE_big (by omega)).symm, hM⟩
  · have hd7 := of_decide_eq_false hc7
    refine stSkip (qThen (stSeq (stSeq (reg ?_))))
    refine lm ?_
    refine lc (.int .i64 ((l.length : Nat) : Int)) ?_
    refine lm ?_
    refine liNil (qThen (stBlock ?_))
    refine stLoop (ι := Nat) (fun i => i ≤ l.length ∧ okSet (l.take i)) (fun i => l.length - i) (fun i => [(0, (.slice A (l.length) (c))), (2, (.int .i64 0)), (8, (.slice A (l.length) (c))), (9, (.int .i64 ((l.length : Nat) : Int))), (10, (.int .i64 ((i : Nat) : Int)))]) (fun i => []) 0 ⟨Nat.zero_le _, okSet_nil⟩ ⟨rfl, rfl, rfl, rfl, rfl, trivial⟩ (fun _ h => h) ?_
    intro i hok
    show St _ _ _ [(0, (.slice A (l.length) (c))), (2, (.int .i64 0)), (8, (.slice A (l.length) (c))), (9, (.int .i64 ((l.length : Nat) : Int))), (10, (.int .i64 ((i : Nat) : Int)))] [] _
    refine stSeq (reg ?_)
    refine lc (.bool (decide (((i : Nat) : Int) < ((l.length : Nat) : Int)))) ?_
    refine liNil (qThen (stSeq ?_))
    refine stCond rfl (fun hc11 => ?_) (fun hc11 => ?_)
    · have hd11 := of_decide_eq_true hc11
      refine stSkip (qThen (stSeq (stBlock (stSeq (reg ?_)))))
      refine lm ?_
      obtain ⟨x0, hx0⟩ : ∃ ξ, (l)[i]? = some ξ := ⟨_, List.getElem?_eq_getElem (by omega)⟩
      refine St.rowPtr (fun w hM => r0.now hM) (SS_at hx0) (fun p13 q13 hA13 hc13 => ?_)
      refine lv (v := (.pointer (some ⟨p13, q13 + i, none⟩))) (rIndexRow (e := 9) rfl (by kernel_rfl) (by kernel_rfl) rfl rfl hA13 (by omega)) ?_
      refine lv (v := (.string (strOf x0))) (rLoadW rfl rfl (by kernel_rfl) hc13) ?_
      refine la ?_
      refine la ?_
      refine liNil (qThen (stSeq (reg ?_)))
      refine lm ?_
      refine lv (v := (.int .i64 (((x0).length : Nat) : Int))) (rLenS rfl rfl (by kernel_rfl)) ?_
      refine lc (.bool (((((x0).length : Nat) : Int) : Int) != 32)) ?_
      refine lm ?_
      refine St.dec 18 rfl (fun hc18 => ?_) (fun hc18 => ?_)
      · refine lnT ?_
        refine lnT ?_
        refine lnT ?_
        refine lnU ?_
        refine lnU ?_
        refine lnU ?_
        refine lnU ?_
        refine lnU ?_
        refine lnU ?_
        refine lnU ?_
        refine lnT ?_
        refine lc (.bool true) ?_
        refine liNil (qThen (stTrue rfl (stSeq (reg ?_))))
        refine la ?_
        refine liNil (qThen (stRet (qBlockR (qThenR (qThenR (qBlockR (qThenR ?_)))))))
        refine stEnd [(.int .i64 1)] rfl ⟨rfl, trivial⟩ (fun w hM => ?_)
        exact ⟨ret_int (setE_bad (by omega) (fun h => by have h2 := okSet_take (i + 1) h; have h3 := ((okSet_step hx0).1 h2).2; simp [h3.1] at hc18)).symm, hM⟩
      · refine lgm ?_
        refine lgc (.bool (decide (((i : Nat) : Int) > 0))) ?_
        refine lgm ?_
        refine St.dec 21 rfl (fun hc21 => ?_) (fun hc21 => ?_)
        · have hd21 := of_decide_eq_true hc21
          refine lgm ?_
          refine lgm ?_
          refine lgv (v := (.int .i64 (((i - 1) : Nat) : Int))) (rSub _ rfl rfl rfl (by omega) (by omega) (by omega)) ?_
          obtain ⟨x1, hx1⟩ : ∃ ξ, (l)[i - 1]? = some ξ := ⟨_, List.getElem?_eq_getElem (by omega)⟩
          refine St.rowPtr (fun w hM => r0.now hM) (SS_at hx1) (fun p25 q25 hA25 hc25 => ?_)
          refine lgv (v := (.pointer (some ⟨p25, q25 + (i - 1), none⟩))) (rIndexRow (e := 9) rfl (by kernel_rfl) (by kernel_rfl) rfl rfl hA25 (by omega)) ?_
          refine lgv (v := (.string (strOf x1))) (rLoadW rfl rfl (by kernel_rfl) hc25) ?_
          refine lgm ?_
          refine lgv (v := (.bool (!decide (x1 < x0)))) (rStrGe rfl rfl rfl) ?_
          refine lgc (.bool (!decide (x1 < x0))) ?_
          refine lc (.bool (!decide (x1 < x0))) ?_
          refine liNil (qThen ?_)
          refine stCond rfl (fun hc30 => ?_) (fun hc30 => ?_)
          · refine stSeq (reg ?_)
            refine la ?_
            refine liNil (qThen (stRet (qBlockR (qThenR (qThenR (qBlockR (qThenR ?_)))))))
            refine stEnd [(.int .i64 1)] rfl ⟨rfl, trivial⟩ (fun w hM => ?_)
            exact ⟨ret_int (setE_bad (by omega) (fun h => by have h2 := okSet_take (i + 1) h; have h3 := ((okSet_step hx0).1 h2).2; have h4 := h3.2 (i - 1) x1 (by omega) hx1; simp [h4] at hc30)).symm, hM⟩
          · have hlast : ∀ j x, i = j + 1 → l[j]? = some x → x < x0 := fun j x hj hx => by obtain rfl : i - 1 = j := (by omega); rw [hx1] at hx; cases hx; simpa using hc30
            refine stSkip (qBlock (qThen (reg ?_)))
            refine lv (v := (.int .i64 ((i + 1 : Nat) : Int))) (rAdd _ rfl rfl rfl (by omega) (by omega) (by omega)) ?_
            refine lm ?_
            refine liNil (qThen ?_)
            exact stAgain (i + 1) (⟨by omega, (okSet_step hx0).2 ⟨hok.2, by simp at hc18; omega, hlast⟩⟩) (by show l.length - (i + 1) < l.length - i; omega) ⟨rfl, rfl, rfl, rfl, rfl, trivial⟩ (fun w hM => by show Mm _ _ [] w; exact hM)
        · have hd21 := of_decide_eq_false hc21
          have hlast : ∀ j x, i = j + 1 → l[j]? = some x → x < x0 := fun j x hj _ => by omega
          refine lnF ?_
          refine lnF ?_
          refine lnF ?_
          refine lnF ?_
          refine lnF ?_
          refine lnF ?_
          refine lnF ?_
          refine lgc (.bool false) ?_
          refine lc (.bool false) ?_
          refine liNil (qThen (stFalse rfl (stSkip (qBlock (qThen (reg ?_))))))
          refine lv (v := (.int .i64 ((i + 1 : Nat) : Int))) (rAdd _ rfl rfl rfl (by omega) (by omega) (by omega)) ?_
          refine lm ?_
          refine liNil (qThen ?_)
          exact stAgain (i + 1) (⟨by omega, (okSet_step hx0).2 ⟨hok.2, by simp at hc18; omega, hlast⟩⟩) (by show l.length - (i + 1) < l.length - i; omega) ⟨rfl, rfl, rfl, rfl, rfl, trivial⟩ (fun w hM => by show Mm _ _ [] w; exact hM)
    · have hd11 := of_decide_eq_false hc11
      refine stExit (qThenX (qThenX (qBlockX (qThen (stSeq (reg ?_))))))
      refine la ?_
      refine liNil (qThen (stRet ?_))
      refine stEnd [(.int .i64 0)] rfl ⟨rfl, trivial⟩ (fun w hM => ?_)
      exact ⟨ret_int (setE_ok (by omega) (by have h := hok.2; rwa [List.take_of_length_le (by omega)] at h)).symm, hM⟩

set_option maxRecDepth 100000 in
set_option maxHeartbeats 1000000 in
theorem rsCheck_any (A : Option Addr) (c : Nat) (l : List (List UInt8)) (w : World) (r0 : Rf [] w (fun w => RowIn w A (SS l))) (hl : l.length ≤ 9223372036854775807) :
    Calls Tryz.prog 35 #[(.slice A (l.length) (c))] w fun e w' => e = .returned (.int .i64 (setE l)) ∧ Back [] w [] w' := by
  have hl' := hl
  refine stEnter (args := [(.slice A (l.length) (c))]) (fps []) Tryz.func35 rfl 32 rfl [(0, (.slice A (l.length) (c)))] ⟨rfl, trivial⟩ [] (Mm.start w []) ?_
  refine stSeq (reg ?_)
  refine la ?_
  refine liNil (qThen (stSeq (stSeq (reg ?_))))
  refine lm ?_
  refine lc (.int .i64 ((l.length : Nat) : Int)) ?_
  refine lc (.bool (decide (((l.length : Nat) : Int) > 16384))) ?_
  refine liNil (qThen ?_)
  refine stCond rfl (fun hc7 => ?_) (fun hc7 => ?_)
  · have hd7 := of_decide_eq_true hc7
    refine stSeq (reg ?_)
    refine la ?_
    refine liNil (qThen (stRet (qThenR ?_)))
    refine stEnd [(.int .i64 2)] rfl ⟨rfl, trivial⟩ (fun w hM => ?_)
    exact ⟨ret_int (setE_big (by omega)).symm, hM⟩
  · have hd7 := of_decide_eq_false hc7
    refine stSkip (qThen (stSeq (stSeq (reg ?_))))
    refine lm ?_
    refine lc (.int .i64 ((l.length : Nat) : Int)) ?_
    refine lm ?_
    refine liNil (qThen (stBlock ?_))
    refine stLoop (ι := Nat) (fun i => i ≤ l.length ∧ okSet (l.take i)) (fun i => l.length - i) (fun i => [(0, (.slice A (l.length) (c))), (2, (.int .i64 0)), (8, (.slice A (l.length) (c))), (9, (.int .i64 ((l.length : Nat) : Int))), (10, (.int .i64 ((i : Nat) : Int)))]) (fun i => []) 0 ⟨Nat.zero_le _, okSet_nil⟩ ⟨rfl, rfl, rfl, rfl, rfl, trivial⟩ (fun _ h => h) ?_
    intro i hok
    show St _ _ _ [(0, (.slice A (l.length) (c))), (2, (.int .i64 0)), (8, (.slice A (l.length) (c))), (9, (.int .i64 ((l.length : Nat) : Int))), (10, (.int .i64 ((i : Nat) : Int)))] [] _
    refine stSeq (reg ?_)
    refine lc (.bool (decide (((i : Nat) : Int) < ((l.length : Nat) : Int)))) ?_
    refine liNil (qThen (stSeq ?_))
    refine stCond rfl (fun hc11 => ?_) (fun hc11 => ?_)
    · have hd11 := of_decide_eq_true hc11
      refine stSkip (qThen (stSeq (stBlock (stSeq (reg ?_)))))
      refine lm ?_
      obtain ⟨x0, hx0⟩ : ∃ ξ, (l)[i]? = some ξ := ⟨_, List.getElem?_eq_getElem (by omega)⟩
      refine St.rowPtr (fun w hM => r0.now hM) (SS_at hx0) (fun p13 q13 hA13 hc13 => ?_)
      refine lv (v := (.pointer (some ⟨p13, q13 + i, none⟩))) (rIndexRow (e := 9) rfl (by kernel_rfl) (by kernel_rfl) rfl rfl hA13 (by omega)) ?_
      refine lv (v := (.string (strOf x0))) (rLoadW rfl rfl (by kernel_rfl) hc13) ?_
      refine la ?_
      refine la ?_
      refine liNil (qThen (stSeq (reg ?_)))
      refine lm ?_
      refine lv (v := (.int .i64 (((x0).length : Nat) : Int))) (rLenS rfl rfl (by kernel_rfl)) ?_
      refine lc (.bool (((((x0).length : Nat) : Int) : Int) != 32)) ?_
      refine lm ?_
      refine St.dec 18 rfl (fun hc18 => ?_) (fun hc18 => ?_)
      · refine lnT ?_
        refine lnT ?_
        refine lnT ?_
        refine lnU ?_
        refine lnU ?_
        refine lnU ?_
        refine lnU ?_
        refine lnU ?_
        refine lnU ?_
        refine lnU ?_
        refine lnT ?_
        refine lc (.bool true) ?_
        refine liNil (qThen (stTrue rfl (stSeq (reg ?_))))
        refine la ?_
        refine liNil (qThen (stRet (qBlockR (qThenR (qThenR (qBlockR (qThenR ?_)))))))
        refine stEnd [(.int .i64 1)] rfl ⟨rfl, trivial⟩ (fun w hM => ?_)
        exact ⟨ret_int (setE_bad (by omega) (fun h => by have h2 := okSet_take (i + 1) h; have h3 := ((okSet_step hx0).1 h2).2; simp [h3.1] at hc18)).symm, hM⟩
      · refine lgm ?_
        refine lgc (.bool (decide (((i : Nat) : Int) > 0))) ?_
        refine lgm ?_
        refine St.dec 21 rfl (fun hc21 => ?_) (fun hc21 => ?_)
        · have hd21 := of_decide_eq_true hc21
          refine lgm ?_
          refine lgm ?_
          refine lgv (v := (.int .i64 (((i - 1) : Nat) : Int))) (rSub _ rfl rfl rfl (by omega) (by omega) (by omega)) ?_
          obtain ⟨x1, hx1⟩ : ∃ ξ, (l)[i - 1]? = some ξ := ⟨_, List.getElem?_eq_getElem (by omega)⟩
          refine St.rowPtr (fun w hM => r0.now hM) (SS_at hx1) (fun p25 q25 hA25 hc25 => ?_)
          refine lgv (v := (.pointer (some ⟨p25, q25 + (i - 1), none⟩))) (rIndexRow (e := 9) rfl (by kernel_rfl) (by kernel_rfl) rfl rfl hA25 (by omega)) ?_
          refine lgv (v := (.string (strOf x1))) (rLoadW rfl rfl (by kernel_rfl) hc25) ?_
          refine lgm ?_
          refine lgv (v := (.bool (!decide (x1 < x0)))) (rStrGe rfl rfl rfl) ?_
          refine lgc (.bool (!decide (x1 < x0))) ?_
          refine lc (.bool (!decide (x1 < x0))) ?_
          refine liNil (qThen ?_)
          refine stCond rfl (fun hc30 => ?_) (fun hc30 => ?_)
          · refine stSeq (reg ?_)
            refine la ?_
            refine liNil (qThen (stRet (qBlockR (qThenR (qThenR (qBlockR (qThenR ?_)))))))
            refine stEnd [(.int .i64 1)] rfl ⟨rfl, trivial⟩ (fun w hM => ?_)
            exact ⟨ret_int (setE_bad (by omega) (fun h => by have h2 := okSet_take (i + 1) h; have h3 := ((okSet_step hx0).1 h2).2; have h4 := h3.2 (i - 1) x1 (by omega) hx1; simp [h4] at hc30)).symm, hM⟩
          · have hlast : ∀ j x, i = j + 1 → l[j]? = some x → x < x0 := fun j x hj hx => by obtain rfl : i - 1 = j := (by omega); rw [hx1] at hx; cases hx; simpa using hc30
            refine stSkip (qBlock (qThen (reg ?_)))
            refine lv (v := (.int .i64 ((i + 1 : Nat) : Int))) (rAdd _ rfl rfl rfl (by omega) (by omega) (by omega)) ?_
            refine lm ?_
            refine liNil (qThen ?_)
            exact stAgain (i + 1) (⟨by omega, (okSet_step hx0).2 ⟨hok.2, by simp at hc18; omega, hlast⟩⟩) (by show l.length - (i + 1) < l.length - i; omega) ⟨rfl, rfl, rfl, rfl, rfl, trivial⟩ (fun w hM => by show Mm _ _ [] w; exact hM)
        · have hd21 := of_decide_eq_false hc21
          have hlast : ∀ j x, i = j + 1 → l[j]? = some x → x < x0 := fun j x hj _ => by omega
          refine lnF ?_
          refine lnF ?_
          refine lnF ?_
          refine lnF ?_
          refine lnF ?_
          refine lnF ?_
          refine lnF ?_
          refine lgc (.bool false) ?_
          refine lc (.bool false) ?_
          refine liNil (qThen (stFalse rfl (stSkip (qBlock (qThen (reg ?_))))))
          refine lv (v := (.int .i64 ((i + 1 : Nat) : Int))) (rAdd _ rfl rfl rfl (by omega) (by omega) (by omega)) ?_
          refine lm ?_
          refine liNil (qThen ?_)
          exact stAgain (i + 1) (⟨by omega, (okSet_step hx0).2 ⟨hok.2, by simp at hc18; omega, hlast⟩⟩) (by show l.length - (i + 1) < l.length - i; omega) ⟨rfl, rfl, rfl, rfl, rfl, trivial⟩ (fun w hM => by show Mm _ _ [] w; exact hM)
    · have hd11 := of_decide_eq_false hc11
      refine stExit (qThenX (qThenX (qBlockX (qThen (stSeq (reg ?_))))))
      refine la ?_
      refine liNil (qThen (stRet ?_))
      refine stEnd [(.int .i64 0)] rfl ⟨rfl, trivial⟩ (fun w hM => ?_)
      exact ⟨ret_int (setE_ok (by omega) (by have h := hok.2; rwa [List.take_of_length_le (by omega)] at h)).symm, hM⟩

set_option maxRecDepth 100000 in
set_option maxHeartbeats 1000000 in
theorem rsHas_any (A : Option Addr) (c : Nat) (l : List (List UInt8)) (x : List UInt8) (w : World) (r0 : Rf [] w (fun w => RowIn w A (SS l))) (hl : l.length ≤ 68719476736) :
    Calls Tryz.prog 29 #[(.slice A (l.length) (c)), (.string (strOf x))] w fun e w' => e = .returned (.bool (l.contains x)) ∧ Back [] w [] w' := by
  refine stEnter (args := [(.slice A (l.length) (c)), (.string (strOf x))]) (fps []) Tryz.func29 rfl 17 rfl [(0, (.slice A (l.length) (c))), (1, (.string (strOf x)))] ⟨rfl, rfl, trivial⟩ [] (Mm.start w []) ?_
  refine stSeq (reg ?_)
  refine la ?_
  refine liNil (qThen (stSeq (stSeq (reg ?_))))
  refine lm ?_
  refine lc (.int .i64 ((l.length : Nat) : Int)) ?_
  refine lm ?_
  refine liNil (qThen (stBlock ?_))
  refine stLoop (ι := Nat) (fun i => i ≤ l.length ∧ (l.take i).contains x = false) (fun i => l.length - i) (fun i => [(1, (.string (strOf x))), (4, (.bool false)), (7, (.slice A (l.length) (c))), (8, (.int .i64 ((l.length : Nat) : Int))), (9, (.int .i64 ((i : Nat) : Int)))]) (fun i => []) 0 ⟨Nat.zero_le _, rfl⟩ ⟨rfl, rfl, rfl, rfl, rfl, trivial⟩ (fun _ h => h) ?_
  intro i hok
  show St _ _ _ [(1, (.string (strOf x))), (4, (.bool false)), (7, (.slice A (l.length) (c))), (8, (.int .i64 ((l.length : Nat) : Int))), (9, (.int .i64 ((i : Nat) : Int)))] [] _
  refine stSeq (reg ?_)
  refine lc (.bool (decide (((i : Nat) : Int) < ((l.length : Nat) : Int)))) ?_
  refine liNil (qThen (stSeq ?_))
  refine stCond rfl (fun hc10 => ?_) (fun hc10 => ?_)
  · have hd10 := of_decide_eq_true hc10
    refine stSkip (qThen (stSeq (stBlock (stSeq (reg ?_)))))
    obtain ⟨x0, hx0⟩ : ∃ ξ, (l)[i]? = some ξ := ⟨_, List.getElem?_eq_getElem (by omega)⟩
    refine St.rowPtr (fun w hM => r0.now hM) (SS_at hx0) (fun p11 q11 hA11 hc11 => ?_)
    refine lv (v := (.pointer (some ⟨p11, q11 + i, none⟩))) (rIndexRow (e := 9) rfl (by kernel_rfl) (by kernel_rfl) rfl rfl hA11 (by omega)) ?_
    refine lv (v := (.string (strOf x0))) (rLoadW rfl rfl (by kernel_rfl) hc11) ?_
    refine la ?_
    refine liNil (qThen (stSeq (reg ?_)))
    refine lm ?_
    refine lm ?_
    refine lv (v := (.bool (decide (x = x0)))) (rStrEq rfl rfl rfl) ?_
    refine liNil (qThen ?_)
    refine stCond rfl (fun hc15 => ?_) (fun hc15 => ?_)
    · have hd15 := of_decide_eq_true hc15
      refine stSeq (reg ?_)
      refine la ?_
      refine liNil (qThen (stRet (qBlockR (qThenR (qThenR (qBlockR (qThenR ?_)))))))
      refine stEnd [(.bool true)] rfl ⟨rfl, trivial⟩ (fun w hM => ?_)
      exact ⟨ret_bool (contains_yes hx0 hc15).symm, hM⟩
    · have hd15 := of_decide_eq_false hc15
      refine stSkip (qBlock (qThen (reg ?_)))
      refine lv (v := (.int .i64 ((i + 1 : Nat) : Int))) (rAdd _ rfl rfl rfl (by omega) (by omega) (by omega)) ?_
      refine lm ?_
      refine liNil (qThen ?_)
      exact stAgain (i + 1) (⟨by omega, contains_no hx0 hok.2 hc15⟩) (by show l.length - (i + 1) < l.length - i; omega) ⟨rfl, rfl, rfl, rfl, rfl, trivial⟩ (fun w hM => by show Mm _ _ [] w; exact hM)
  · have hd10 := of_decide_eq_false hc10
    refine stExit (qThenX (qThenX (qBlockX (qThen (stSeq (reg ?_))))))
    refine la ?_
    refine liNil (qThen (stRet ?_))
    refine stEnd [(.bool false)] rfl ⟨rfl, trivial⟩ (fun w hM => ?_)
    exact ⟨ret_bool (by have h := hok.2; rw [List.take_of_length_le (by omega)] at h; exact h.symm), hM⟩

set_option maxRecDepth 100000 in
set_option maxHeartbeats 1000000 in
theorem rsIn_any (A : Option Addr) (c : Nat) (l : List (List UInt8)) (lo : List UInt8) (hi : List UInt8) (w : World) (r0 : Rf [] w (fun w => RowIn w A (SS l))) (hl : l.length ≤ 68719476736) :
    Calls Tryz.prog 45 #[(.slice A (l.length) (c)), (.string (strOf lo)), (.string (strOf hi))] w fun e w' => ∃ (B : Option Addr) (cb : Nat), e = .returned (.slice B ((inL l lo hi).length) (cb)) ∧ Back [] w [cOwn 9 1 B ((inL l lo hi).length) (cb) (SS (inL l lo hi))] w' := by
  refine stEnter (args := [(.slice A (l.length) (c)), (.string (strOf lo)), (.string (strOf hi))]) (fps []) Tryz.func45 rfl 34 rfl [(0, (.slice A (l.length) (c))), (1, (.string (strOf lo))), (2, (.string (strOf hi)))] ⟨rfl, rfl, rfl, trivial⟩ [] (Mm.start w []) ?_
  refine stSeq (reg ?_)
  refine la ?_
  refine liNil (qThen (stSeq (reg ?_)))
  refine la ?_
  refine liNil (qThen (stSeq (stSeq (reg ?_))))
  refine lm ?_
  refine lc (.int .i64 ((l.length : Nat) : Int)) ?_
  refine lm ?_
  refine liNil (qThen (stBlock ?_))
  refine St.mem (fun w hM => hM.nilOwn 9 1) ?_
  refine stLoop (ι := Nat × Option Addr × Nat) (fun (i, B, cb) => i ≤ l.length) (fun (i, B, cb) => l.length - i) (fun (i, B, cb) => [(1, (.string (strOf lo))), (2, (.string (strOf hi))), (6, (.slice none 0 0)), (10, (.slice A (l.length) (c))), (11, (.int .i64 ((l.length : Nat) : Int))), (7, (.slice B ((inL (l.take i) lo hi).length) (cb))), (12, (.int .i64 ((i : Nat) : Int)))]) (fun (i, B, cb) => [cOwn 9 1 B ((inL (l.take i) lo hi).length) (cb) (SS (inL (l.take i) lo hi))]) (0, none, 0) (Nat.zero_le _) ⟨rfl, rfl, rfl, rfl, rfl, rfl, rfl, trivial⟩ (fun _ h => h) ?_
  rintro ⟨i, B, cb⟩ (hok : i ≤ l.length)
  show St _ _ _ [(1, (.string (strOf lo))), (2, (.string (strOf hi))), (6, (.slice none 0 0)), (10, (.slice A (l.length) (c))), (11, (.int .i64 ((l.length : Nat) : Int))), (7, (.slice B ((inL (l.take i) lo hi).length) (cb))), (12, (.int .i64 ((i : Nat) : Int)))] [cOwn 9 1 B ((inL (l.take i) lo hi).length) (cb) (SS (inL (l.take i) lo hi))] _
  refine stSeq (reg ?_)
  refine lc (.bool (decide (((i : Nat) : Int) < ((l.length : Nat) : Int)))) ?_
  refine liNil (qThen (stSeq ?_))
  refine stCond rfl (fun hc13 => ?_) (fun hc13 => ?_)
  · have hd13 := of_decide_eq_true hc13
    refine stSkip (qThen (stSeq (stBlock (stSeq (reg ?_)))))
    obtain ⟨x0, hx0⟩ : ∃ ξ, (l)[i]? = some ξ := ⟨_, List.getElem?_eq_getElem (by omega)⟩
    refine St.rowPtr (fun w hM => r0.now hM) (SS_at hx0) (fun p14 q14 hA14 hc14 => ?_)
    refine lv (v := (.pointer (some ⟨p14, q14 + i, none⟩))) (rIndexRow (e := 9) rfl (by kernel_rfl) (by kernel_rfl) rfl rfl hA14 (by omega)) ?_
    refine lv (v := (.string (strOf x0))) (rLoadW rfl rfl (by kernel_rfl) hc14) ?_
    refine la ?_
    refine liNil (qThen (stSeq (reg ?_)))
    refine lm ?_
    refine lm ?_
    refine lv (v := (.bool (decide (lo < x0) || decide (lo = x0)))) (rStrLe rfl rfl rfl) ?_
    refine lm ?_
    refine St.dec 19 rfl (fun hc19 => ?_) (fun hc19 => ?_)
    · refine lgm ?_
      refine lgv (v := (.bool (decide (hi = [])))) (rStrEq rfl rfl rfl) ?_
      refine lgm ?_
      refine St.dec 22 rfl (fun hc22 => ?_) (fun hc22 => ?_)
      · have hd22 := of_decide_eq_true hc22
        refine lnT ?_
        refine lnT ?_
        refine lnT ?_
        refine lgc (.bool true) ?_
        refine lc (.bool true) ?_
        refine liNil (qThen (stTrue rfl (reg ?_)))
        refine lm ?_
        refine lm ?_
        refine li rfl ?_
        refine opNew (v := fun b => .slice (some ⟨b, 0, none⟩) 1 1) 9 [(.string (strOf x0))] rfl (by kernel_rfl) (fun _ => by kernel_rfl) (fun b30 => ?_)
        refine li rfl ?_
        refine opAppend el_strC 0 ([(.string (strOf x0))]) rfl rfl (by kernel_rfl) rfl rfl rfl (rfl) (srcAt (i := 1) rfl (fun j v h => by rw [Nat.zero_add]; exact h)) (by simp [Value.oneCell']) (by have h := inL_len (l.take i) lo hi; simp only [List.length_take] at h; omega) ((inL (l.take i) lo hi ++ [x0]).length) (by first | exact (List.length_append ..).symm | (simp; done) | (simp; omega)) (SS (inL (l.take i) lo hi ++ [x0])) (by simp [SS]) (fun A31 c31 => ?_)
        refine la ?_
        refine liNil (qBlock (qThen ?_))
        refine St.to [cOwn 9 1 A31 ((inL (l.take i) lo hi ++ [x0]).length) (c31) (SS (inL (l.take i) lo hi ++ [x0])), cAt b30 9 [(.string (strOf x0))]] (by kernel_rfl) ?_
        refine reg ?_
        refine lv (v := (.int .i64 ((i + 1 : Nat) : Int))) (rAdd _ rfl rfl rfl (by omega) (by omega) (by omega)) ?_
        refine lm ?_
        refine liNil (qThen ?_)
        rw [show inL (l.take i) lo hi ++ [x0] = inL (l.take (i + 1)) lo hi from inL_yes hx0 (by simp_all [inR])]
        exact stAgain (i + 1, A31, c31) (by show _ ≤ _; omega) (by show l.length - (i + 1) < l.length - i; omega) ⟨rfl, rfl, rfl, rfl, rfl, rfl, rfl, trivial⟩ (fun w hM => by show Mm _ _ [cOwn 9 1 A31 ((inL (l.take (i + 1)) lo hi).length) (c31) (SS (inL (l.take (i + 1)) lo hi))] w; exact (fun (w : World) (h : Mm _ _ _ w) => Mm.sub h (.cons_cons _ (.cons _ .slnil))) w hM)
      · have hd22 := of_decide_eq_false hc22
        refine lgm ?_
        refine lgm ?_
        refine lgv (v := (.bool (decide (x0 < hi)))) (rStrLt rfl rfl rfl) ?_
        refine lgc (.bool (decide (x0 < hi))) ?_
        refine lc (.bool (decide (x0 < hi))) ?_
        refine liNil (qThen ?_)
        refine stCond rfl (fun hc27 => ?_) (fun hc27 => ?_)
        · have hd27 := of_decide_eq_true hc27
          refine reg ?_
          refine lm ?_
          refine lm ?_
          refine li rfl ?_
          refine opNew (v := fun b => .slice (some ⟨b, 0, none⟩) 1 1) 9 [(.string (strOf x0))] rfl (by kernel_rfl) (fun _ => by kernel_rfl) (fun b30 => ?_)
          refine li rfl ?_
          refine opAppend el_strC 0 ([(.string (strOf x0))]) rfl rfl (by kernel_rfl) rfl rfl rfl (rfl) (srcAt (i := 1) rfl (fun j v h => by rw [Nat.zero_add]; exact h)) (by simp [Value.oneCell']) (by have h := inL_len (l.take i) lo hi; simp only [List.length_take] at h; omega) ((inL (l.take i) lo hi ++ [x0]).length) (by first | exact (List.length_append ..).symm | (simp; done) | (simp; omega)) (SS (inL (l.take i) lo hi ++ [x0])) (by simp [SS]) (fun A31 c31 => ?_)
          refine la ?_
          refine liNil (qBlock (qThen ?_))
          refine St.to [cOwn 9 1 A31 ((inL (l.take i) lo hi ++ [x0]).length) (c31) (SS (inL (l.take i) lo hi ++ [x0])), cAt b30 9 [(.string (strOf x0))]] (by kernel_rfl) ?_
          refine reg ?_
          refine lv (v := (.int .i64 ((i + 1 : Nat) : Int))) (rAdd _ rfl rfl rfl (by omega) (by omega) (by omega)) ?_
          refine lm ?_
          refine liNil (qThen ?_)
          rw [show inL (l.take i) lo hi ++ [x0] = inL (l.take (i + 1)) lo hi from inL_yes hx0 (by simp_all [inR])]
          exact stAgain (i + 1, A31, c31) (by show _ ≤ _; omega) (by show l.length - (i + 1) < l.length - i; omega) ⟨rfl, rfl, rfl, rfl, rfl, rfl, rfl, trivial⟩ (fun w hM => by show Mm _ _ [cOwn 9 1 A31 ((inL (l.take (i + 1)) lo hi).length) (c31) (SS (inL (l.take (i + 1)) lo hi))] w; exact (fun (w : World) (h : Mm _ _ _ w) => Mm.sub h (.cons_cons _ (.cons _ .slnil))) w hM)
        · have hd27 := of_decide_eq_false hc27
          refine stSkip (qBlock (qThen (reg ?_)))
          refine lv (v := (.int .i64 ((i + 1 : Nat) : Int))) (rAdd _ rfl rfl rfl (by omega) (by omega) (by omega)) ?_
          refine lm ?_
          refine liNil (qThen ?_)
          rw [show inL (l.take i) lo hi = inL (l.take (i + 1)) lo hi from inL_no hx0 (by first | (unfold inR; rw [hc19, hc22, hc27]; rfl) | (unfold inR; rw [hc19]; rfl))]
          exact stAgain (i + 1, B, cb) (by show _ ≤ _; omega) (by show l.length - (i + 1) < l.length - i; omega) ⟨rfl, rfl, rfl, rfl, rfl, rfl, rfl, trivial⟩ (fun w hM => by show Mm _ _ [cOwn 9 1 B ((inL (l.take (i + 1)) lo hi).length) (cb) (SS (inL (l.take (i + 1)) lo hi))] w; exact hM)
    · refine lnF ?_
      refine lnF ?_
      refine lnF ?_
      refine lnU ?_
      refine lnU ?_
      refine lnU ?_
      refine lnF ?_
      refine lc (.bool false) ?_
      refine liNil (qThen (stFalse rfl (stSkip (qBlock (qThen (reg ?_))))))
      refine lv (v := (.int .i64 ((i + 1 : Nat) : Int))) (rAdd _ rfl rfl rfl (by omega) (by omega) (by omega)) ?_
      refine lm ?_
      refine liNil (qThen ?_)
      rw [show inL (l.take i) lo hi = inL (l.take (i + 1)) lo hi from inL_no hx0 (by first | (unfold inR; rw [hc19, hc22, hc27]; rfl) | (unfold inR; rw [hc19]; rfl))]
      exact stAgain (i + 1, B, cb) (by show _ ≤ _; omega) (by show l.length - (i + 1) < l.length - i; omega) ⟨rfl, rfl, rfl, rfl, rfl, rfl, rfl, trivial⟩ (fun w hM => by show Mm _ _ [cOwn 9 1 B ((inL (l.take (i + 1)) lo hi).length) (cb) (SS (inL (l.take (i + 1)) lo hi))] w; exact hM)
  · have hd13 := of_decide_eq_false hc13
    obtain rfl : i = l.length := by omega
    rw [List.take_length]
    refine stExit (qThenX (qThenX (qBlockX (qThen (stSeq (reg ?_))))))
    refine lm ?_
    refine la ?_
    refine liNil (qThen (stRet ?_))
    refine stEnd [(.slice B ((inL l lo hi).length) (cb))] rfl ⟨rfl, trivial⟩ (fun w hM => ?_)
    exact ⟨B, cb, rfl, hM⟩

set_option maxRecDepth 100000 in
set_option maxHeartbeats 1000000 in
theorem rsWithout_any (A : Option Addr) (c : Nat) (l : List (List UInt8)) (A2 : Option Addr) (c2 : Nat) (m : List (List UInt8)) (w : World) (r0 : Rf [] w (fun w => RowIn w A (SS l))) (r1 : Rf [] w (fun w => RowIn w A2 (SS m))) (hl : l.length ≤ 68719476736) (hl2 : m.length ≤ 68719476736) :
    Calls Tryz.prog 26 #[(.slice A (l.length) (c)), (.slice A2 (m.length) (c2))] w fun e w' => ∃ (B : Option Addr) (cb : Nat), e = .returned (.slice B ((without l m).length) (cb)) ∧ Back [] w [cOwn 9 1 B ((without l m).length) (cb) (SS (without l m))] w' := by
  refine stEnter (args := [(.slice A (l.length) (c)), (.slice A2 (m.length) (c2))]) (fps []) Tryz.func26 rfl 24 rfl [(0, (.slice A (l.length) (c))), (1, (.slice A2 (m.length) (c2)))] ⟨rfl, rfl, trivial⟩ [] (Mm.start w []) ?_
  refine stSeq (reg ?_)
  refine la ?_
  refine liNil (qThen (stSeq (reg ?_)))
  refine la ?_
  refine liNil (qThen (stSeq (stSeq (reg ?_))))
  refine lm ?_
  refine lc (.int .i64 ((l.length : Nat) : Int)) ?_
  refine lm ?_
  refine liNil (qThen (stBlock ?_))
  refine St.mem (fun w hM => hM.nilOwn 9 1) ?_
  refine stLoop (ι := Nat × Option Addr × Nat) (fun (i, B, cb) => i ≤ l.length) (fun (i, B, cb) => l.length - i) (fun (i, B, cb) => [(1, (.slice A2 (m.length) (c2))), (4, (.slice none 0 0)), (8, (.slice A (l.length) (c))), (9, (.int .i64 ((l.length : Nat) : Int))), (5, (.slice B ((without (l.take i) m).length) (cb))), (10, (.int .i64 ((i : Nat) : Int)))]) (fun (i, B, cb) => [cOwn 9 1 B ((without (l.take i) m).length) (cb) (SS (without (l.take i) m))]) (0, none, 0) (Nat.zero_le _) ⟨rfl, rfl, rfl, rfl, rfl, rfl, trivial⟩ (fun _ h => h) ?_
  rintro ⟨i, B, cb⟩ (hok : i ≤ l.length)
  show St _ _ _ [(1, (.slice A2 (m.length) (c2))), (4, (.slice none 0 0)), (8, (.slice A (l.length) (c))), (9, (.int .i64 ((l.length : Nat) : Int))), (5, (.slice B ((without (l.take i) m).length) (cb))), (10, (.int .i64 ((i : Nat) : Int)))] [cOwn 9 1 B ((without (l.take i) m).length) (cb) (SS (without (l.take i) m))] _
  refine stSeq (reg ?_)
  refine lc (.bool (decide (((i : Nat) : Int) < ((l.length : Nat) : Int)))) ?_
  refine liNil (qThen (stSeq ?_))
  refine stCond rfl (fun hc11 => ?_) (fun hc11 => ?_)
  · have hd11 := of_decide_eq_true hc11
    refine stSkip (qThen (stSeq (stBlock (stSeq (reg ?_)))))
    obtain ⟨x0, hx0⟩ : ∃ ξ, (l)[i]? = some ξ := ⟨_, List.getElem?_eq_getElem (by omega)⟩
    refine St.rowPtr (fun w hM => r0.now hM) (SS_at hx0) (fun p12 q12 hA12 hc12 => ?_)
    refine lv (v := (.pointer (some ⟨p12, q12 + i, none⟩))) (rIndexRow (e := 9) rfl (by kernel_rfl) (by kernel_rfl) rfl rfl hA12 (by omega)) ?_
    refine lv (v := (.string (strOf x0))) (rLoadW rfl rfl (by kernel_rfl) hc12) ?_
    refine la ?_
    refine liNil (qThen (stSeq (reg ?_)))
    refine lm ?_
    refine lm ?_
    refine li rfl ?_
    refine opK0 (fun w hM => (rsHas_any A2 c2 m x0 w (r1.go0 hM) (by omega)).mono ?_)
    rintro e w' ⟨rfl, hP⟩
    refine ⟨_, _, rfl, hP, ?_⟩; clear hP hM
    refine lc (.bool (!(m.contains x0))) ?_
    refine liNil (qThen ?_)
    refine stCond rfl (fun hc17 => ?_) (fun hc17 => ?_)
    · refine reg ?_
      refine lm ?_
      refine lm ?_
      refine li rfl ?_
      refine opNew (v := fun b => .slice (some ⟨b, 0, none⟩) 1 1) 9 [(.string (strOf x0))] rfl (by kernel_rfl) (fun _ => by kernel_rfl) (fun b20 => ?_)
      refine li rfl ?_
      refine opAppend el_strC 0 ([(.string (strOf x0))]) rfl rfl (by kernel_rfl) rfl rfl rfl (rfl) (srcAt (i := 1) rfl (fun j v h => by rw [Nat.zero_add]; exact h)) (by simp [Value.oneCell']) (by have h := without_len (l.take i) m; simp only [List.length_take] at h; omega) ((without (l.take i) m ++ [x0]).length) (by first | exact (List.length_append ..).symm | (simp; done) | (simp; omega)) (SS (without (l.take i) m ++ [x0])) (by simp [SS]) (fun A21 c21 => ?_)
      refine la ?_
      refine liNil (qBlock (qThen ?_))
      refine St.to [cOwn 9 1 A21 ((without (l.take i) m ++ [x0]).length) (c21) (SS (without (l.take i) m ++ [x0])), cAt b20 9 [(.string (strOf x0))]] (by kernel_rfl) ?_
      refine reg ?_
      refine lv (v := (.int .i64 ((i + 1 : Nat) : Int))) (rAdd _ rfl rfl rfl (by omega) (by omega) (by omega)) ?_
      refine lm ?_
      refine liNil (qThen ?_)
      rw [show without (l.take i) m ++ [x0] = without (l.take (i + 1)) m from without_yes hx0 (by simpa using hc17)]
      exact stAgain (i + 1, A21, c21) (by show _ ≤ _; omega) (by show l.length - (i + 1) < l.length - i; omega) ⟨rfl, rfl, rfl, rfl, rfl, rfl, trivial⟩ (fun w hM => by show Mm _ _ [cOwn 9 1 A21 ((without (l.take (i + 1)) m).length) (c21) (SS (without (l.take (i + 1)) m))] w; exact (fun (w : World) (h : Mm _ _ _ w) => Mm.sub h (.cons_cons _ (.cons _ .slnil))) w hM)
    · refine stSkip (qBlock (qThen (reg ?_)))
      refine lv (v := (.int .i64 ((i + 1 : Nat) : Int))) (rAdd _ rfl rfl rfl (by omega) (by omega) (by omega)) ?_
      refine lm ?_
      refine liNil (qThen ?_)
      rw [show without (l.take i) m = without (l.take (i + 1)) m from without_no hx0 (by simpa using hc17)]
      exact stAgain (i + 1, B, cb) (by show _ ≤ _; omega) (by show l.length - (i + 1) < l.length - i; omega) ⟨rfl, rfl, rfl, rfl, rfl, rfl, trivial⟩ (fun w hM => by show Mm _ _ [cOwn 9 1 B ((without (l.take (i + 1)) m).length) (cb) (SS (without (l.take (i + 1)) m))] w; exact hM)
  · have hd11 := of_decide_eq_false hc11
    obtain rfl : i = l.length := by omega
    rw [List.take_length]
    refine stExit (qThenX (qThenX (qBlockX (qThen (stSeq (reg ?_))))))
    refine lm ?_
    refine la ?_
    refine liNil (qThen (stRet ?_))
    refine stEnd [(.slice B ((without l m).length) (cb))] rfl ⟨rfl, trivial⟩ (fun w hM => ?_)
    exact ⟨B, cb, rfl, hM⟩

set_option maxRecDepth 100000 in
set_option maxHeartbeats 1000000 in
theorem rsSame_any (A : Option Addr) (c : Nat) (l : List (List UInt8)) (A2 : Option Addr) (c2 : Nat) (m : List (List UInt8)) (w : World) (r0 : Rf [] w (fun w => RowIn w A (SS l))) (r1 : Rf [] w (fun w => RowIn w A2 (SS m))) (hl : l.length ≤ 68719476736) (hl2 : m.length ≤ 68719476736) :
    Calls Tryz.prog 48 #[(.slice A (l.length) (c)), (.slice A2 (m.length) (c2))] w fun e w' => e = .returned (.bool (decide (l = m))) ∧ Back [] w [] w' := by
  refine stEnter (args := [(.slice A (l.length) (c)), (.slice A2 (m.length) (c2))]) (fps []) Tryz.func48 rfl 26 rfl [(0, (.slice A (l.length) (c))), (1, (.slice A2 (m.length) (c2)))] ⟨rfl, rfl, trivial⟩ [] (Mm.start w []) ?_
  refine stSeq (reg ?_)
  refine la ?_
  refine liNil (qThen (stSeq (stSeq (reg ?_))))
  refine lm ?_
  refine lc (.int .i64 ((l.length : Nat) : Int)) ?_
  refine lm ?_
  refine lc (.int .i64 ((m.length : Nat) : Int)) ?_
  refine lc (.bool ((((l.length : Nat) : Int) : Int) != ((m.length : Nat) : Int))) ?_
  refine liNil (qThen ?_)
  refine stCond rfl (fun hc10 => ?_) (fun hc10 => ?_)
  · refine stSeq (reg ?_)
    refine la ?_
    refine liNil (qThen (stRet (qThenR ?_)))
    refine stEnd [(.bool false)] rfl ⟨rfl, trivial⟩ (fun w hM => ?_)
    exact ⟨ret_bool (by have hne : l ≠ m := (fun h => by subst h; simp at hc10); exact (decide_eq_false hne).symm), hM⟩
  · have hlen : l.length = m.length := by simp at hc10; omega
    refine stSkip (qThen (stSeq (stSeq (reg ?_))))
    refine lm ?_
    refine lc (.int .i64 ((l.length : Nat) : Int)) ?_
    refine lm ?_
    refine liNil (qThen (stBlock ?_))
    refine stLoop (ι := Nat) (fun i => i ≤ l.length ∧ l.take i = m.take i) (fun i => l.length - i) (fun i => [(0, (.slice A (l.length) (c))), (1, (.slice A2 (m.length) (c2))), (4, (.bool false)), (12, (.int .i64 ((l.length : Nat) : Int))), (13, (.int .i64 ((i : Nat) : Int)))]) (fun i => []) 0 ⟨Nat.zero_le _, rfl⟩ ⟨rfl, rfl, rfl, rfl, rfl, trivial⟩ (fun _ h => h) ?_
    intro i hok
    show St _ _ _ [(0, (.slice A (l.length) (c))), (1, (.slice A2 (m.length) (c2))), (4, (.bool false)), (12, (.int .i64 ((l.length : Nat) : Int))), (13, (.int .i64 ((i : Nat) : Int)))] [] _
    refine stSeq (reg ?_)
    refine lc (.bool (decide (((i : Nat) : Int) < ((l.length : Nat) : Int)))) ?_
    refine liNil (qThen (stSeq ?_))
    refine stCond rfl (fun hc14 => ?_) (fun hc14 => ?_)
    · have hd14 := of_decide_eq_true hc14
      refine stSkip (qThen (stSeq (stBlock (stSeq (reg ?_)))))
      refine lm ?_
      refine la ?_
      refine liNil (qThen (stSeq ?_))
      refine anyBegin [] 9 (by kernel_rfl) (fun _ h => h) ?_
      refine am 0 ?_
      refine am 1 ?_
      obtain ⟨x0, hx0⟩ : ∃ ξ, (l)[i]? = some ξ := ⟨_, List.getElem?_eq_getElem (by omega)⟩
      refine Any.rowPtr (fun w hM => r0.now hM) (SS_at hx0) (fun p18 q18 hA18 hc18 => ?_)
      refine av 2 (.pointer (some ⟨p18, q18 + i, none⟩)) rfl (rIndexRow (e := 9) rfl (by kernel_rfl) (by kernel_rfl) rfl rfl hA18 (by omega)) ?_
      refine av 3 (.string (strOf x0)) rfl (rLoadW rfl rfl (by kernel_rfl) hc18) ?_
      refine am 4 ?_
      refine am 5 ?_
      obtain ⟨x1, hx1⟩ : ∃ ξ, (m)[i]? = some ξ := ⟨_, List.getElem?_eq_getElem (by omega)⟩
      refine Any.rowPtr (fun w hM => r1.now hM) (SS_at hx1) (fun p22 q22 hA22 hc22 => ?_)
      refine av 6 (.pointer (some ⟨p22, q22 + i, none⟩)) rfl (rIndexRow (e := 9) rfl (by kernel_rfl) (by kernel_rfl) rfl rfl hA22 (by omega)) ?_
      refine av 7 (.string (strOf x1)) rfl (rLoadW rfl rfl (by kernel_rfl) hc22) ?_
      refine av 8 (.bool (!decide (x0 = x1))) rfl (rStrNe rfl rfl rfl) ?_
      refine anyDone (by kernel_rfl) ?_
      refine qThen ?_
      refine stCond rfl (fun hc24 => ?_) (fun hc24 => ?_)
      · refine stSeq (reg ?_)
        refine la ?_
        refine liNil (qThen (stRet (qBlockR (qThenR (qThenR (qBlockR (qThenR ?_)))))))
        refine stEnd [(.bool false)] rfl ⟨rfl, trivial⟩ (fun w hM => ?_)
        exact ⟨ret_bool (by have hne : l ≠ m := (fun h => by subst h; rw [hx0] at hx1; cases hx1; simp at hc24); exact (decide_eq_false hne).symm), hM⟩
      · refine stSkip (qBlock (qThen (reg ?_)))
        refine lv (v := (.int .i64 ((i + 1 : Nat) : Int))) (rAdd _ rfl rfl rfl (by omega) (by omega) (by omega)) ?_
        refine lm ?_
        refine liNil (qThen ?_)
        exact stAgain (i + 1) (⟨by omega, take_eq_step hx0 hx1 hok.2 (by simpa using hc24)⟩) (by show l.length - (i + 1) < l.length - i; omega) ⟨rfl, rfl, rfl, rfl, rfl, trivial⟩ (fun w hM => by show Mm _ _ [] w; exact hM)
    · have hd14 := of_decide_eq_false hc14
      refine stExit (qThenX (qThenX (qBlockX (qThen (stSeq (reg ?_))))))
      refine la ?_
      refine liNil (qThen (stRet ?_))
      refine stEnd [(.bool true)] rfl ⟨rfl, trivial⟩ (fun w hM => ?_)
      exact ⟨ret_bool (by have h := hok.2; rw [List.take_of_length_le (by omega), List.take_of_length_le (by omega)] at h; exact (decide_eq_true h).symm), hM⟩

set_option maxRecDepth 100000 in
set_option maxHeartbeats 1000000 in
theorem lsSame_any (A : Option Addr) (c : Nat) (l : List (List UInt8)) (A2 : Option Addr) (c2 : Nat) (m : List (List UInt8)) (w : World) (r0 : Rf [] w (fun w => RowIn w A (SS l))) (r1 : Rf [] w (fun w => RowIn w A2 (SS m))) (hl : l.length ≤ 68719476736) (hl2 : m.length ≤ 68719476736) :
    Calls Tryz.prog 19 #[(.slice A (l.length) (c)), (.slice A2 (m.length) (c2))] w fun e w' => e = .returned (.bool (decide (l = m))) ∧ Back [] w [] w' := by
  refine stEnter (args := [(.slice A (l.length) (c)), (.slice A2 (m.length) (c2))]) (fps []) Tryz.func19 rfl 8 rfl [(0, (.slice A (l.length) (c))), (1, (.slice A2 (m.length) (c2)))] ⟨rfl, rfl, trivial⟩ [] (Mm.start w []) ?_
  refine stSeq (reg ?_)
  refine la ?_
  refine liNil (qThen (stSeq (reg ?_)))
  refine lm ?_
  refine lm ?_
  refine li rfl ?_
  refine opK0 (fun w hM => (rsSame_any A c l A2 c2 m w (r0.go0 hM) (r1.go0 hM) (by omega) (by omega)).mono ?_)
  rintro e w' ⟨rfl, hP⟩
  refine ⟨_, _, rfl, hP, ?_⟩; clear hP hM
  refine la ?_
  refine liNil (qThen (stRet ?_))
  refine stEnd [(.bool (decide (l = m)))] rfl ⟨rfl, trivial⟩ (fun w hM => ?_)
  exact ⟨rfl, hM⟩

set_option maxRecDepth 100000 in
set_option maxHeartbeats 1000000 in
theorem lsSet_any (A : Option Addr) (c : Nat) (l : List (List UInt8)) (w : World) (r0 : Rf [] w (fun w => RowIn w A (SS l))) (hl : l.length ≤ 9223372036854775807) :
    Calls Tryz.prog 11 #[(.slice A (l.length) (c))] w fun e w' => e = .returned (.bool (setB l)) ∧ Back [] w [] w' := by
  refine stEnter (args := [(.slice A (l.length) (c))]) (fps []) Tryz.func11 rfl 11 rfl [(0, (.slice A (l.length) (c)))] ⟨rfl, trivial⟩ [] (Mm.start w []) ?_
  refine stSeq (reg ?_)
  refine la ?_
  refine liNil (qThen (stSeq (reg ?_)))
  refine lm ?_
  refine lc (.int .i64 ((l.length : Nat) : Int)) ?_
  refine lc (.bool (decide (((l.length : Nat) : Int) ≤ 40))) ?_
  refine lm ?_
  refine St.dec 6 rfl (fun hc6 => ?_) (fun hc6 => ?_)
  · have hd6 := of_decide_eq_true hc6
    refine lgm ?_
    refine liGo rfl rfl ?_
    refine opK0 (fun w hM => (rsSet_any A c l w (r0.go0 hM) (by omega)).mono ?_)
    rintro e w' ⟨rfl, hP⟩
    refine ⟨_, _, rfl, hP, ?_⟩; clear hP hM
    refine lgc (.bool (((setE l) : Int) == 0)) ?_
    refine lc (.bool (((setE l) : Int) == 0)) ?_
    refine la ?_
    refine liNil (qThen (stRet ?_))
    refine stEnd [(.bool (((setE l) : Int) == 0))] rfl ⟨rfl, trivial⟩ (fun w hM => ?_)
    exact ⟨ret_bool (by unfold setB; rw [Bool.eq_iff_iff]; simp; omega), hM⟩
  · have hd6 := of_decide_eq_false hc6
    refine lnF ?_
    refine lnF ?_
    refine lnF ?_
    refine lc (.bool false) ?_
    refine la ?_
    refine liNil (qThen (stRet ?_))
    refine stEnd [(.bool false)] rfl ⟨rfl, trivial⟩ (fun w hM => ?_)
    exact ⟨ret_bool (by unfold setB; rw [Bool.eq_iff_iff]; simp; omega), hM⟩

set_option maxRecDepth 100000 in
set_option maxHeartbeats 1000000 in
theorem lsLarge_any (A : Option Addr) (c : Nat) (n : Nat) (w : World) :
    Calls Tryz.prog 22 #[(.slice A (n) (c))] w fun e w' => e = .returned (.bool (largeB n)) ∧ Back [] w [] w' := by
  refine stEnter (args := [(.slice A (n) (c))]) (fps []) Tryz.func22 rfl 11 rfl [(0, (.slice A (n) (c)))] ⟨rfl, trivial⟩ [] (Mm.start w []) ?_
  refine stSeq (reg ?_)
  refine la ?_
  refine liNil (qThen (stSeq (reg ?_)))
  refine lm ?_
  refine lc (.int .i64 ((n : Nat) : Int)) ?_
  refine lc (.bool (decide (((n : Nat) : Int) > 40))) ?_
  refine lm ?_
  refine St.dec 6 rfl (fun hc6 => ?_) (fun hc6 => ?_)
  · have hd6 := of_decide_eq_true hc6
    refine lgm ?_
    refine lgc (.int .i64 ((n : Nat) : Int)) ?_
    refine lgc (.bool (decide (((n : Nat) : Int) ≤ 16384))) ?_
    refine lc (.bool (decide (((n : Nat) : Int) ≤ 16384))) ?_
    refine la ?_
    refine liNil (qThen (stRet ?_))
    refine stEnd [(.bool (decide (((n : Nat) : Int) ≤ 16384)))] rfl ⟨rfl, trivial⟩ (fun w hM => ?_)
    exact ⟨ret_bool (by unfold largeB; rw [Bool.eq_iff_iff]; simp; omega), hM⟩
  · have hd6 := of_decide_eq_false hc6
    refine lnF ?_
    refine lnF ?_
    refine lnF ?_
    refine lc (.bool false) ?_
    refine la ?_
    refine liNil (qThen (stRet ?_))
    refine stEnd [(.bool false)] rfl ⟨rfl, trivial⟩ (fun w hM => ?_)
    exact ⟨ret_bool (by unfold largeB; rw [Bool.eq_iff_iff]; simp; omega), hM⟩

set_option maxRecDepth 100000 in
set_option maxHeartbeats 1000000 in
theorem lsParams_any (fan : Int) (leaf : Int) (w : World) :
    Calls Tryz.prog 14 #[(.agg #[(.int .i64 fan), (.int .i64 leaf)])] w fun e w' => e = .returned (.agg #[(.int .i64 fan), (.int .i64 leaf)]) ∧ Back [] w [] w' := by
  refine stEnter (args := [(.agg #[(.int .i64 fan), (.int .i64 leaf)])]) (fps []) Tryz.func14 rfl 8 rfl [(0, (.agg #[(.int .i64 fan), (.int .i64 leaf)]))] ⟨rfl, trivial⟩ [] (Mm.start w []) ?_
  refine stSeq (reg (li rfl ?_))
  refine opBox [(.int .i64 fan), (.int .i64 leaf)] rfl rfl (by kernel_rfl) rfl rfl (fun b1 => ?_)
  refine li rfl ?_
  refine opAlloc [(.int .i64 0), (.int .i64 0)] rfl rfl (by kernel_rfl) (by kernel_rfl) (fun b2 => ?_)
  refine liNil (qThen (stSeq ?_))
  refine St.to [cAt b1 24 [(.int .i64 fan), (.int .i64 leaf)], cAt b2 33 [(.int .i64 0), (.int .i64 0)]] (by kernel_rfl) ?_
  refine reg ?_
  refine lc (.pointer (some ⟨b1, 0, none⟩)) ?_
  refine lv (v := (.int .i64 fan)) (rLoad 0 rfl rfl (by kernel_rfl) rfl rfl) ?_
  refine lc (.pointer (some ⟨b1, 1, none⟩)) ?_
  refine lv (v := (.int .i64 leaf)) (rLoad 0 rfl rfl (by kernel_rfl) rfl rfl) ?_
  refine lc (.agg #[(.int .i64 fan), (.int .i64 leaf)]) ?_
  refine li rfl ?_
  refine opStoreN 1 [(.int .i64 fan), (.int .i64 leaf)] (vs := [(.int .i64 fan), (.int .i64 leaf)]) rfl rfl (by kernel_rfl) rfl rfl rfl (by kernel_rfl) rfl (by simp) (by simp [Value.oneCell']) rfl ?_
  refine liNil (qThen (stRet ?_))
  refine stEnd [(.agg #[(.int .i64 fan), (.int .i64 leaf)])] rfl ⟨⟨_, rfl, fun w hM => run_loadVarA (by kernel_rfl) (by kernel_rfl) (segAt (i := 1) (off := 0) rfl (by intro j v hj; rw [Nat.zero_add]; exact hj) w hM)⟩, trivial⟩ (fun w hM => ?_)
  exact ⟨rfl, (fun (w : World) (h : Mm _ _ _ w) => Mm.sub h (.cons _ (.cons _ .slnil))) w hM⟩

set_option maxRecDepth 100000 in
set_option maxHeartbeats 1000000 in
theorem rsSpanValid_any (lo : List UInt8) (hi : List UInt8) (w : World) :
    Calls Tryz.prog 89 #[(.agg #[(.string (strOf lo)), (.string (strOf hi))])] w fun e w' => e = .returned (.bool (spanOk lo hi)) ∧ Back [] w [] w' := by
  refine stEnter (args := [(.agg #[(.string (strOf lo)), (.string (strOf hi))])]) (fps []) Tryz.func89 rfl 13 rfl [(0, (.agg #[(.string (strOf lo)), (.string (strOf hi))]))] ⟨rfl, trivial⟩ [] (Mm.start w []) ?_
  refine stSeq (reg (li rfl ?_))
  refine opBox [(.string (strOf lo)), (.string (strOf hi))] rfl rfl (by kernel_rfl) rfl rfl (fun b1 => ?_)
  refine la ?_
  refine liNil (qThen (stSeq (reg ?_)))
  refine lc (.pointer (some ⟨b1, 1, none⟩)) ?_
  refine lv (v := (.string (strOf hi))) (rLoad 0 rfl rfl (by kernel_rfl) rfl rfl) ?_
  refine lv (v := (.bool (decide (hi = [])))) (rStrEq rfl rfl rfl) ?_
  refine lm ?_
  refine St.dec 6 rfl (fun hc6 => ?_) (fun hc6 => ?_)
  · have hd6 := of_decide_eq_true hc6
    refine lnT ?_
    refine lnT ?_
    refine lnT ?_
    refine lnT ?_
    refine lnT ?_
    refine lc (.bool true) ?_
    refine la ?_
    refine liNil (qThen (stRet ?_))
    refine stEnd [(.bool true)] rfl ⟨rfl, trivial⟩ (fun w hM => ?_)
    exact ⟨ret_bool (by unfold spanOk; simp_all), (fun (w : World) (h : Mm _ _ _ w) => Mm.sub h (.cons _ .slnil)) w hM⟩
  · have hd6 := of_decide_eq_false hc6
    refine lgc (.pointer (some ⟨b1, 0, none⟩)) ?_
    refine lgv (v := (.string (strOf lo))) (rLoad 0 rfl rfl (by kernel_rfl) rfl rfl) ?_
    refine lgc (.pointer (some ⟨b1, 1, none⟩)) ?_
    refine lgv (v := (.string (strOf hi))) (rLoad 0 rfl rfl (by kernel_rfl) rfl rfl) ?_
    refine lgv (v := (.bool (decide (lo < hi)))) (rStrLt rfl rfl rfl) ?_
    refine lc (.bool (decide (lo < hi))) ?_
    refine la ?_
    refine liNil (qThen (stRet ?_))
    refine stEnd [(.bool (decide (lo < hi)))] rfl ⟨rfl, trivial⟩ (fun w hM => ?_)
    exact ⟨ret_bool (by unfold spanOk; simp_all), (fun (w : World) (h : Mm _ _ _ w) => Mm.sub h (.cons _ .slnil)) w hM⟩

set_option maxRecDepth 100000 in
set_option maxHeartbeats 1000000 in
theorem rsContains_any (lo : List UInt8) (hi : List UInt8) (x : List UInt8) (w : World) :
    Calls Tryz.prog 152 #[(.agg #[(.string (strOf lo)), (.string (strOf hi))]), (.string (strOf x))] w fun e w' => e = .returned (.bool (inR lo hi x)) ∧ Back [] w [] w' := by
  refine stEnter (args := [(.agg #[(.string (strOf lo)), (.string (strOf hi))]), (.string (strOf x))]) (fps []) Tryz.func152 rfl 20 rfl [(0, (.agg #[(.string (strOf lo)), (.string (strOf hi))])), (1, (.string (strOf x)))] ⟨rfl, rfl, trivial⟩ [] (Mm.start w []) ?_
  refine stSeq (reg (li rfl ?_))
  refine opBox [(.string (strOf lo)), (.string (strOf hi))] rfl rfl (by kernel_rfl) rfl rfl (fun b2 => ?_)
  refine la ?_
  refine liNil (qThen (stSeq (reg ?_)))
  refine lc (.pointer (some ⟨b2, 0, none⟩)) ?_
  refine lv (v := (.string (strOf lo))) (rLoad 0 rfl rfl (by kernel_rfl) rfl rfl) ?_
  refine lm ?_
  refine lv (v := (.bool (decide (lo < x) || decide (lo = x)))) (rStrLe rfl rfl rfl) ?_
  refine lm ?_
  refine St.dec 9 rfl (fun hc9 => ?_) (fun hc9 => ?_)
  · refine lgc (.pointer (some ⟨b2, 1, none⟩)) ?_
    refine lgv (v := (.string (strOf hi))) (rLoad 0 rfl rfl (by kernel_rfl) rfl rfl) ?_
    refine lgv (v := (.bool (decide (hi = [])))) (rStrEq rfl rfl rfl) ?_
    refine lgm ?_
    refine St.dec 13 rfl (fun hc13 => ?_) (fun hc13 => ?_)
    · have hd13 := of_decide_eq_true hc13
      refine lnT ?_
      refine lnT ?_
      refine lnT ?_
      refine lnT ?_
      refine lgc (.bool true) ?_
      refine lc (.bool true) ?_
      refine la ?_
      refine liNil (qThen (stRet ?_))
      refine stEnd [(.bool true)] rfl ⟨rfl, trivial⟩ (fun w hM => ?_)
      exact ⟨ret_bool (by unfold inR; first | (rw [hc9, hc13]; rfl) | (rw [hc9]; rfl)), (fun (w : World) (h : Mm _ _ _ w) => Mm.sub h (.cons _ .slnil)) w hM⟩
    · have hd13 := of_decide_eq_false hc13
      refine lgm ?_
      refine lgc (.pointer (some ⟨b2, 1, none⟩)) ?_
      refine lgv (v := (.string (strOf hi))) (rLoad 0 rfl rfl (by kernel_rfl) rfl rfl) ?_
      refine lgv (v := (.bool (decide (x < hi)))) (rStrLt rfl rfl rfl) ?_
      refine lgc (.bool (decide (x < hi))) ?_
      refine lc (.bool (decide (x < hi))) ?_
      refine la ?_
      refine liNil (qThen (stRet ?_))
      refine stEnd [(.bool (decide (x < hi)))] rfl ⟨rfl, trivial⟩ (fun w hM => ?_)
      exact ⟨ret_bool (by unfold inR; first | (rw [hc9, hc13]; rfl) | (rw [hc9]; rfl)), (fun (w : World) (h : Mm _ _ _ w) => Mm.sub h (.cons _ .slnil)) w hM⟩
  · refine lnF ?_
    refine lnF ?_
    refine lnF ?_
    refine lnF ?_
    refine lnU ?_
    refine lnU ?_
    refine lnU ?_
    refine lnU ?_
    refine lnF ?_
    refine lc (.bool false) ?_
    refine la ?_
    refine liNil (qThen (stRet ?_))
    refine stEnd [(.bool false)] rfl ⟨rfl, trivial⟩ (fun w hM => ?_)
    exact ⟨ret_bool (by unfold inR; first | (rw [hc9, hc13]; rfl) | (rw [hc9]; rfl)), (fun (w : World) (h : Mm _ _ _ w) => Mm.sub h (.cons _ .slnil)) w hM⟩

set_option maxRecDepth 100000 in
set_option maxHeartbeats 1000000 in
theorem rsIsBound_any (x : List UInt8) (w : World) :
    Calls Tryz.prog 88 #[(.string (strOf x))] w fun e w' => e = .returned (.bool (boundOk x)) ∧ Back [] w [] w' := by
  refine stEnter (args := [(.string (strOf x))]) (fps []) Tryz.func88 rfl 10 rfl [(0, (.string (strOf x)))] ⟨rfl, trivial⟩ [] (Mm.start w []) ?_
  refine stSeq (reg ?_)
  refine la ?_
  refine liNil (qThen (stSeq (reg ?_)))
  refine lm ?_
  refine lv (v := (.bool (decide (x = [])))) (rStrEq rfl rfl rfl) ?_
  refine lm ?_
  refine St.dec 5 rfl (fun hc5 => ?_) (fun hc5 => ?_)
  · have hd5 := of_decide_eq_true hc5
    refine lnT ?_
    refine lnT ?_
    refine lnT ?_
    refine lc (.bool true) ?_
    refine la ?_
    refine liNil (qThen (stRet ?_))
    refine stEnd [(.bool true)] rfl ⟨rfl, trivial⟩ (fun w hM => ?_)
    exact ⟨ret_bool (by unfold boundOk; first | (rw [hc5]; rfl) | (rw [hc5, Bool.false_or, Bool.eq_iff_iff]; simp; omega)), hM⟩
  · have hd5 := of_decide_eq_false hc5
    refine lgm ?_
    refine lgv (v := (.int .i64 (((x).length : Nat) : Int))) (rLenS rfl rfl (by kernel_rfl)) ?_
    refine lgc (.bool (((((x).length : Nat) : Int) : Int) == 32)) ?_
    refine lc (.bool (((((x).length : Nat) : Int) : Int) == 32)) ?_
    refine la ?_
    refine liNil (qThen (stRet ?_))
    refine stEnd [(.bool (((((x).length : Nat) : Int) : Int) == 32))] rfl ⟨rfl, trivial⟩ (fun w hM => ?_)
    exact ⟨ret_bool (by unfold boundOk; first | (rw [hc5]; rfl) | (rw [hc5, Bool.false_or, Bool.eq_iff_iff]; simp; omega)), hM⟩

set_option maxRecDepth 100000 in
set_option maxHeartbeats 1000000 in
theorem rsInOrder_any (A : Option Addr) (c : Nat) (l : List (List UInt8)) (lo : List UInt8) (hi : List UInt8) (w : World) (r0 : Rf [] w (fun w => RowIn w A (SS l))) (hl : l.length ≤ 68719476736) :
    Calls Tryz.prog 150 #[(.slice A (l.length) (c)), (.agg #[(.string (strOf lo)), (.string (strOf hi))])] w fun e w' => e = .returned (.bool (ordOk l lo hi)) ∧ Back [] w [] w' := by
  refine stEnter (args := [(.slice A (l.length) (c)), (.agg #[(.string (strOf lo)), (.string (strOf hi))])]) (fps []) Tryz.func150 rfl 32 rfl [(0, (.slice A (l.length) (c))), (1, (.agg #[(.string (strOf lo)), (.string (strOf hi))]))] ⟨rfl, rfl, trivial⟩ [] (Mm.start w []) ?_
  refine stSeq (reg (li rfl ?_))
  refine opBox [(.string (strOf lo)), (.string (strOf hi))] rfl rfl (by kernel_rfl) rfl rfl (fun b3 => ?_)
  refine la ?_
  refine liNil (qThen (stSeq (stSeq (reg ?_))))
  refine lm ?_
  refine lc (.int .i64 ((l.length : Nat) : Int)) ?_
  refine lm ?_
  refine liNil (qThen (stBlock ?_))
  refine stLoop (ι := Nat) (fun i => i ≤ l.length ∧ ordOk (l.take i) lo hi = true) (fun i => l.length - i) (fun i => [(0, (.slice A (l.length) (c))), (3, (.pointer (some ⟨b3, 0, none⟩))), (4, (.bool false)), (7, (.slice A (l.length) (c))), (8, (.int .i64 ((l.length : Nat) : Int))), (9, (.int .i64 ((i : Nat) : Int)))]) (fun i => [cAt b3 69 [(.string (strOf lo)), (.string (strOf hi))]]) 0 ⟨Nat.zero_le _, rfl⟩ ⟨rfl, rfl, rfl, rfl, rfl, rfl, trivial⟩ (fun _ h => h) ?_
  intro i hok
  show St _ _ _ [(0, (.slice A (l.length) (c))), (3, (.pointer (some ⟨b3, 0, none⟩))), (4, (.bool false)), (7, (.slice A (l.length) (c))), (8, (.int .i64 ((l.length : Nat) : Int))), (9, (.int .i64 ((i : Nat) : Int)))] [cAt b3 69 [(.string (strOf lo)), (.string (strOf hi))]] _
  refine stSeq (reg ?_)
  refine lc (.bool (decide (((i : Nat) : Int) < ((l.length : Nat) : Int)))) ?_
  refine liNil (qThen (stSeq ?_))
  refine stCond rfl (fun hc10 => ?_) (fun hc10 => ?_)
  · have hd10 := of_decide_eq_true hc10
    refine stSkip (qThen (stSeq (stBlock (stSeq (reg ?_)))))
    refine lm ?_
    obtain ⟨x0, hx0⟩ : ∃ ξ, (l)[i]? = some ξ := ⟨_, List.getElem?_eq_getElem (by omega)⟩
    refine St.rowPtr (fun w hM => r0.now hM) (SS_at hx0) (fun p12 q12 hA12 hc12 => ?_)
    refine lv (v := (.pointer (some ⟨p12, q12 + i, none⟩))) (rIndexRow (e := 9) rfl (by kernel_rfl) (by kernel_rfl) rfl rfl hA12 (by omega)) ?_
    refine lv (v := (.string (strOf x0))) (rLoadW rfl rfl (by kernel_rfl) hc12) ?_
    refine la ?_
    refine la ?_
    refine liNil (qThen (stSeq (reg ?_)))
    refine lv (v := (.agg #[(.string (strOf lo)), (.string (strOf hi))])) (rLoadA [(.string (strOf lo)), (.string (strOf hi))] rfl rfl (by kernel_rfl) (by kernel_rfl) (segAt (i := 0) rfl (by intro j v hj; first | (rw [Nat.zero_add]; exact hj) | (match j, hj with | 0, h => exact h | 1, h => exact h)))) ?_
    refine lm ?_
    refine li rfl ?_
    refine opK0 (fun w hM => (rsContains_any lo hi x0 w ).mono ?_)
    rintro e w' ⟨rfl, hP⟩
    refine ⟨_, _, rfl, hP, ?_⟩; clear hP hM
    refine lc (.bool (!(inR lo hi x0))) ?_
    refine lm ?_
    refine St.dec 18 rfl (fun hc18 => ?_) (fun hc18 => ?_)
    · refine lnT ?_
      refine lnT ?_
      refine lnT ?_
      refine lnU ?_
      refine lnU ?_
      refine lnU ?_
      refine lnU ?_
      refine lnU ?_
      refine lnU ?_
      refine lnU ?_
      refine lnT ?_
      refine lc (.bool true) ?_
      refine liNil (qThen (stTrue rfl (stSeq (reg ?_))))
      refine la ?_
      refine liNil (qThen (stRet (qBlockR (qThenR (qThenR (qBlockR (qThenR ?_)))))))
      refine stEnd [(.bool false)] rfl ⟨rfl, trivial⟩ (fun w hM => ?_)
      exact ⟨ret_bool (by have hn : ordOk l lo hi = false := ordOk_bad hx0 (fun h => by simp [h.1] at hc18); exact hn.symm), (fun (w : World) (h : Mm _ _ _ w) => Mm.sub h (.cons _ .slnil)) w hM⟩
    · refine lgm ?_
      refine lgc (.bool (decide (((i : Nat) : Int) > 0))) ?_
      refine lgm ?_
      refine St.dec 21 rfl (fun hc21 => ?_) (fun hc21 => ?_)
      · have hd21 := of_decide_eq_true hc21
        refine lgm ?_
        refine lgm ?_
        refine lgv (v := (.int .i64 (((i - 1) : Nat) : Int))) (rSub _ rfl rfl rfl (by omega) (by omega) (by omega)) ?_
        obtain ⟨x1, hx1⟩ : ∃ ξ, (l)[i - 1]? = some ξ := ⟨_, List.getElem?_eq_getElem (by omega)⟩
        refine St.rowPtr (fun w hM => r0.now hM) (SS_at hx1) (fun p25 q25 hA25 hc25 => ?_)
        refine lgv (v := (.pointer (some ⟨p25, q25 + (i - 1), none⟩))) (rIndexRow (e := 9) rfl (by kernel_rfl) (by kernel_rfl) rfl rfl hA25 (by omega)) ?_
        refine lgv (v := (.string (strOf x1))) (rLoadW rfl rfl (by kernel_rfl) hc25) ?_
        refine lgm ?_
        refine lgv (v := (.bool (!decide (x1 < x0)))) (rStrGe rfl rfl rfl) ?_
        refine lgc (.bool (!decide (x1 < x0))) ?_
        refine lc (.bool (!decide (x1 < x0))) ?_
        refine liNil (qThen ?_)
        refine stCond rfl (fun hc30 => ?_) (fun hc30 => ?_)
        · refine stSeq (reg ?_)
          refine la ?_
          refine liNil (qThen (stRet (qBlockR (qThenR (qThenR (qBlockR (qThenR ?_)))))))
          refine stEnd [(.bool false)] rfl ⟨rfl, trivial⟩ (fun w hM => ?_)
          exact ⟨ret_bool (by have hn : ordOk l lo hi = false := ordOk_bad hx0 (fun h => by have h4 := h.2 (i - 1) x1 (by omega) hx1; simp [h4] at hc30); exact hn.symm), (fun (w : World) (h : Mm _ _ _ w) => Mm.sub h (.cons _ .slnil)) w hM⟩
        · have hlast : ∀ j x, i = j + 1 → l[j]? = some x → x < x0 := fun j x hj hx => by obtain rfl : i - 1 = j := (by omega); rw [hx1] at hx; cases hx; simpa using hc30
          refine stSkip (qBlock (qThen (reg ?_)))
          refine lv (v := (.int .i64 ((i + 1 : Nat) : Int))) (rAdd _ rfl rfl rfl (by omega) (by omega) (by omega)) ?_
          refine lm ?_
          refine liNil (qThen ?_)
          exact stAgain (i + 1) (⟨by omega, (ordOk_step hx0).2 ⟨hok.2, by simpa using hc18, hlast⟩⟩) (by show l.length - (i + 1) < l.length - i; omega) ⟨rfl, rfl, rfl, rfl, rfl, rfl, trivial⟩ (fun w hM => by show Mm _ _ [cAt b3 69 [(.string (strOf lo)), (.string (strOf hi))]] w; exact hM)
      · have hd21 := of_decide_eq_false hc21
        have hlast : ∀ j x, i = j + 1 → l[j]? = some x → x < x0 := fun j x hj _ => by omega
        refine lnF ?_
        refine lnF ?_
        refine lnF ?_
        refine lnF ?_
        refine lnF ?_
        refine lnF ?_
        refine lnF ?_
        refine lgc (.bool false) ?_
        refine lc (.bool false) ?_
        refine liNil (qThen (stFalse rfl (stSkip (qBlock (qThen (reg ?_))))))
        refine lv (v := (.int .i64 ((i + 1 : Nat) : Int))) (rAdd _ rfl rfl rfl (by omega) (by omega) (by omega)) ?_
        refine lm ?_
        refine liNil (qThen ?_)
        exact stAgain (i + 1) (⟨by omega, (ordOk_step hx0).2 ⟨hok.2, by simpa using hc18, hlast⟩⟩) (by show l.length - (i + 1) < l.length - i; omega) ⟨rfl, rfl, rfl, rfl, rfl, rfl, trivial⟩ (fun w hM => by show Mm _ _ [cAt b3 69 [(.string (strOf lo)), (.string (strOf hi))]] w; exact hM)
  · have hd10 := of_decide_eq_false hc10
    refine stExit (qThenX (qThenX (qBlockX (qThen (stSeq (reg ?_))))))
    refine la ?_
    refine liNil (qThen (stRet ?_))
    refine stEnd [(.bool true)] rfl ⟨rfl, trivial⟩ (fun w hM => ?_)
    exact ⟨ret_bool (by have h := hok.2; rw [List.take_of_length_le (by omega)] at h; exact h.symm), (fun (w : World) (h : Mm _ _ _ w) => Mm.sub h (.cons _ .slnil)) w hM⟩

end Go.Proofs.YtlepfnihpdhcaaaGreatDoor
