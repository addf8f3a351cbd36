/- rangesum: parts read. -/
import Derived.Test.YtlepfnihpdhcaaaGreatDoorRsRd
import Derived.Test.YtlepfnihpdhcaaaGreatDoorRs1
namespace Go.Proofs.YtlepfnihpdhcaaaGreatDoor
open Go.RowKit

set_option maxRecDepth 100000 in
set_option maxHeartbeats 1000000 in
theorem rsRItems_any (X : Option Addr × Nat) (br : Nat) (r : Rd) (most : Nat) (w : World) (hO : Own [cRd X br (r)] w) (hm : most ≤ 65536) :
    Calls Tryz.prog 92 #[(.pointer (some ⟨br, 0, none⟩)), (.int .i64 ((most : Nat) : Int))] w fun e w' => ∃ (B : Option Addr) (cb : Nat), e = .returned (.slice B (((r.items most).1).length) (cb)) ∧ Back [cRd X br (r)] w [cRd X br ((r.items most).2), cOwn 9 1 B (((r.items most).1).length) (cb) (SS ((r.items most).1))] w' := by
  refine stEnter (args := [(.pointer (some ⟨br, 0, none⟩)), (.int .i64 ((most : Nat) : Int))]) (fps [cRd X br (r)]) Tryz.func92 rfl 26 rfl [(0, (.pointer (some ⟨br, 0, none⟩))), (1, (.int .i64 ((most : Nat) : Int)))] ⟨rfl, rfl, trivial⟩ [cRd X br (r)] (hO) ?_
  refine stSeq (reg ?_)
  refine la ?_
  refine liNil (qThen (stSeq ?_))
  refine St.fact (fun w hM => (hM.at (i := 0) (c := cRd X br r) rfl).2.len) (fun hrl => ?_)
  refine reg ?_
  refine lm ?_
  refine lm ?_
  refine lm ?_
  refine li rfl ?_
  refine opK [0] [cRd X br (r)] (fun w hM hO => (rsRLeft_any X br r w hO).mono ?_)
  rintro e w' ⟨rfl, hP⟩
  refine ⟨_, [cRd X br (r)], _, rfl, hP, rfl, ?_⟩; clear hP hM hO
  refine lv (v := (.int .i64 ((((r.D.length - r.off) / 32) : Nat) : Int))) (rQuoN rfl rfl rfl (by omega) (by omega)) ?_
  refine lv (v := (.int .i64 (((r.most most) : Nat) : Int))) (rMinN rfl rfl rfl) ?_
  have hml : r.most most ≤ most := Nat.min_le_left _ _
  refine li rfl ?_
  refine opK [0] [cRd X br (r)] (fun w hM hO => (rsRCount_any X br r (r.most most) w hO (by omega)).mono ?_)
  rintro e w' ⟨rfl, hP⟩
  refine ⟨_, [cRd X br ((r.cnt (r.most most)).2)], _, rfl, hP, rfl, ?_⟩; clear hP hM hO
  have hcl := r.cnt_le (r.most most)
  refine la ?_
  refine liNil (qThen (stSeq ?_))
  refine St.to [cRd X br ((r.cnt (r.most most)).2)] (by kernel_rfl) ?_
  refine reg ?_
  refine lm ?_
  refine li rfl ?_
  refine opMk0 el_strC ((r.cnt (r.most most)).1) (by omega) rfl rfl (by kernel_rfl) rfl rfl (fun b15 => ?_) (by omega)
  refine la ?_
  refine liNil (qThen (stSeq (stSeq (reg ?_))))
  refine lm ?_
  refine lm ?_
  refine liNil (qThen (stBlock ?_))
  refine stLoop (ι := Nat × Option Addr × Nat) (fun (i, AX, cX) => i ≤ (r.cnt (r.most most)).1) (fun (i, AX, cX) => (r.cnt (r.most most)).1 - i) (fun (i, AX, cX) => [(0, (.pointer (some ⟨br, 0, none⟩))), (4, (.slice none 0 0)), (16, (.int .i64 (((r.cnt (r.most most)).1 : Nat) : Int))), (6, (.slice AX ((((r.cnt (r.most most)).2.sums i).1).length) (cX))), (17, (.int .i64 ((i : Nat) : Int)))]) (fun (i, AX, cX) => [cRd X br (((r.cnt (r.most most)).2.sums i).2), cOwn 9 1 AX ((((r.cnt (r.most most)).2.sums i).1).length) (cX) (SS (((r.cnt (r.most most)).2.sums i).1))]) (0, (some ⟨b15, 0, none⟩), ((r.cnt (r.most most)).1)) (Nat.zero_le _) ⟨rfl, rfl, rfl, rfl, rfl, trivial⟩ (fun w hM => by show Mm _ _ [cRd X br (((r.cnt (r.most most)).2.sums 0).2), cOwn 9 1 (some ⟨b15, 0, none⟩) ((((r.cnt (r.most most)).2.sums 0).1).length) (((r.cnt (r.most most)).1)) (SS (((r.cnt (r.most most)).2.sums 0).1))] w; exact hM) ?_
  rintro ⟨i, AX, cX⟩ (hok : i ≤ (r.cnt (r.most most)).1)
  show St _ _ _ [(0, (.pointer (some ⟨br, 0, none⟩))), (4, (.slice none 0 0)), (16, (.int .i64 (((r.cnt (r.most most)).1 : Nat) : Int))), (6, (.slice AX ((((r.cnt (r.most most)).2.sums i).1).length) (cX))), (17, (.int .i64 ((i : Nat) : Int)))] [cRd X br (((r.cnt (r.most most)).2.sums i).2), cOwn 9 1 AX ((((r.cnt (r.most most)).2.sums i).1).length) (cX) (SS (((r.cnt (r.most most)).2.sums i).1))] _
  refine stSeq (reg ?_)
  refine lc (.bool (decide (((i : Nat) : Int) < (((r.cnt (r.most most)).1 : Nat) : Int)))) ?_
  refine liNil (qThen (stSeq ?_))
  refine stCond rfl (fun hc18 => ?_) (fun hc18 => ?_)
  · have hd18 := of_decide_eq_true hc18
    refine stSkip (qThen (stSeq (stBlock (reg ?_))))
    refine lm ?_
    refine lm ?_
    refine li rfl ?_
    refine opK [0] [cRd X br (((r.cnt (r.most most)).2.sums i).2)] (fun w hM hO => (rsRSum_any X br (((r.cnt (r.most most)).2.sums i).2) w hO).mono ?_)
    rintro e w' ⟨rfl, hP⟩
    refine ⟨_, [cRd X br ((((r.cnt (r.most most)).2.sums i).2).sum.2)], _, rfl, hP, rfl, ?_⟩; clear hP hM hO
    refine li rfl ?_
    refine opNew (v := fun b => .slice (some ⟨b, 0, none⟩) 1 1) 9 [(.string (strOf (((r.cnt (r.most most)).2.sums i).2).sum.1))] rfl (by kernel_rfl) (fun _ => by kernel_rfl) (fun b22 => ?_)
    refine li rfl ?_
    refine opAppend el_strC 1 ([(.string (strOf (((r.cnt (r.most most)).2.sums i).2).sum.1))]) rfl rfl (by kernel_rfl) rfl rfl rfl (rfl) (srcAt (i := 2) rfl (fun j v h => by rw [Nat.zero_add]; exact h)) (by simp [Value.oneCell']) (by rw [Rd.sums_len]; omega) ((((r.cnt (r.most most)).2.sums i).1 ++ [(((r.cnt (r.most most)).2.sums i).2).sum.1]).length) (by first | exact (List.length_append ..).symm | (simp; done) | (simp; omega)) (SS (((r.cnt (r.most most)).2.sums i).1 ++ [(((r.cnt (r.most most)).2.sums i).2).sum.1])) (by simp [SS]) (fun A23 c23 => ?_)
    refine la ?_
    refine liNil (qBlock (qThen ?_))
    refine St.to [cRd X br ((((r.cnt (r.most most)).2.sums i).2).sum.2), cOwn 9 1 A23 ((((r.cnt (r.most most)).2.sums i).1 ++ [(((r.cnt (r.most most)).2.sums i).2).sum.1]).length) (c23) (SS (((r.cnt (r.most most)).2.sums i).1 ++ [(((r.cnt (r.most most)).2.sums i).2).sum.1])), cAt b22 9 [(.string (strOf (((r.cnt (r.most most)).2.sums i).2).sum.1))]] (by kernel_rfl) ?_
    refine reg ?_
    refine lv (v := (.int .i64 ((i + 1 : Nat) : Int))) (rAdd _ rfl rfl rfl (by omega) (by omega) (by omega)) ?_
    refine lm ?_
    refine liNil (qThen ?_)
    exact stAgain (i + 1, A23, c23) (by show _ ≤ _; omega) (by show (r.cnt (r.most most)).1 - (i + 1) < (r.cnt (r.most most)).1 - i; omega) ⟨rfl, rfl, rfl, rfl, rfl, trivial⟩ (fun w hM => by show Mm _ _ [cRd X br (((r.cnt (r.most most)).2.sums (i + 1)).2), cOwn 9 1 A23 ((((r.cnt (r.most most)).2.sums (i + 1)).1).length) (c23) (SS (((r.cnt (r.most most)).2.sums (i + 1)).1))] w; exact (fun (w : World) (h : Mm _ _ _ w) => Mm.sub h (.cons_cons _ (.cons_cons _ (.cons _ .slnil)))) w hM)
  · have hd18 := of_decide_eq_false hc18
    obtain rfl : i = (r.cnt (r.most most)).1 := by omega
    refine stExit (qThenX (qThenX (qBlockX (qThen (stSeq (reg ?_))))))
    refine lm ?_
    refine la ?_
    refine liNil (qThen (stRet ?_))
    refine stEnd [(.slice AX ((((r.cnt (r.most most)).2.sums (r.cnt (r.most most)).1).1).length) (cX))] rfl ⟨rfl, trivial⟩ (fun w hM => ?_)
    exact ⟨AX, cX, rfl, hM⟩

set_option maxRecDepth 100000 in
set_option maxHeartbeats 1000000 in
theorem rsSFits_any (n : Nat) (f : List UInt8) (lo : List UInt8) (hi : List UInt8) (w : World) :
    Calls Tryz.prog 145 #[(.agg #[(.int .i64 ((n : Nat) : Int)), (.string (strOf f))]), (.agg #[(.string (strOf lo)), (.string (strOf hi))])] w fun e w' => e = .returned (.bool true) ∧ Back [] w [] w' := by
  refine stEnter (args := [(.agg #[(.int .i64 ((n : Nat) : Int)), (.string (strOf f))]), (.agg #[(.string (strOf lo)), (.string (strOf hi))])]) (fps []) Tryz.func145 rfl 5 rfl [(0, (.agg #[(.int .i64 ((n : Nat) : Int)), (.string (strOf f))])), (1, (.agg #[(.string (strOf lo)), (.string (strOf hi))]))] ⟨rfl, rfl, trivial⟩ [] (Mm.start w []) ?_
  refine stSeq (reg (li rfl ?_))
  refine opBox [(.int .i64 ((n : Nat) : Int)), (.string (strOf f))] rfl rfl (by kernel_rfl) rfl rfl (fun b2 => ?_)
  refine li rfl ?_
  refine opBox [(.string (strOf lo)), (.string (strOf hi))] rfl rfl (by kernel_rfl) rfl rfl (fun b3 => ?_)
  refine la ?_
  refine liNil (qThen (stSeq ?_))
  refine St.to [cAt b2 71 [(.int .i64 ((n : Nat) : Int)), (.string (strOf f))], cAt b3 69 [(.string (strOf lo)), (.string (strOf hi))]] (by kernel_rfl) ?_
  refine reg ?_
  refine la ?_
  refine liNil (qThen (stRet ?_))
  refine stEnd [(.bool true)] rfl ⟨rfl, trivial⟩ (fun w hM => ?_)
  exact ⟨rfl, (fun (w : World) (h : Mm _ _ _ w) => Mm.sub h (.cons _ (.cons _ .slnil))) w hM⟩

set_option maxRecDepth 100000 in
set_option maxHeartbeats 1000000 in
theorem rsLFits_any (A : Option Addr) (c : Nat) (l : List (List UInt8)) (lo : List UInt8) (hi : List UInt8) (w : World) (r0 : Rf [] w (fun w => RowIn w A (SS l))) (hl : l.length ≤ 68719476736) :
    Calls Tryz.prog 148 #[(.agg #[(.slice A (l.length) (c))]), (.agg #[(.string (strOf lo)), (.string (strOf hi))])] w fun e w' => e = .returned (.bool (ordOk l lo hi)) ∧ Back [] w [] w' := by
  refine stEnter (args := [(.agg #[(.slice A (l.length) (c))]), (.agg #[(.string (strOf lo)), (.string (strOf hi))])]) (fps []) Tryz.func148 rfl 9 rfl [(0, (.agg #[(.slice A (l.length) (c))])), (1, (.agg #[(.string (strOf lo)), (.string (strOf hi))]))] ⟨rfl, rfl, trivial⟩ [] (Mm.start w []) ?_
  refine stSeq (reg (li rfl ?_))
  refine opBox [(.slice A (l.length) (c))] rfl rfl (by kernel_rfl) rfl rfl (fun b2 => ?_)
  refine li rfl ?_
  refine opBox [(.string (strOf lo)), (.string (strOf hi))] rfl rfl (by kernel_rfl) rfl rfl (fun b3 => ?_)
  refine la ?_
  refine liNil (qThen (stSeq ?_))
  refine St.to [cAt b2 89 [(.slice A (l.length) (c))], cAt b3 69 [(.string (strOf lo)), (.string (strOf hi))]] (by kernel_rfl) ?_
  refine reg ?_
  refine lc (.pointer (some ⟨b2, 0, none⟩)) ?_
  refine lv (v := (.slice A (l.length) (c))) (rLoad 0 rfl rfl (by kernel_rfl) rfl rfl) ?_
  refine lv (v := (.agg #[(.string (strOf lo)), (.string (strOf hi))])) (rLoadA [(.string (strOf lo)), (.string (strOf hi))] rfl rfl (by kernel_rfl) (by kernel_rfl) (segAt (i := 1) rfl (by intro j v hj; first | (rw [Nat.zero_add]; exact hj) | (match j, hj with | 0, h => exact h | 1, h => exact h)))) ?_
  refine li rfl ?_
  refine opK0 (fun w hM => (rsInOrder_any A c l lo hi w (r0.go0 hM) (by omega)).mono ?_)
  rintro e w' ⟨rfl, hP⟩
  refine ⟨_, _, rfl, hP, ?_⟩; clear hP hM
  refine la ?_
  refine liNil (qThen (stRet ?_))
  refine stEnd [(.bool (ordOk l lo hi))] rfl ⟨rfl, trivial⟩ (fun w hM => ?_)
  exact ⟨rfl, (fun (w : World) (h : Mm _ _ _ w) => Mm.sub h (.cons _ (.cons _ .slnil))) w hM⟩

set_option maxRecDepth 100000 in
set_option maxHeartbeats 1000000 in
theorem rsAFits_any (A : Option Addr) (c : Nat) (l : List (List UInt8)) (A2 : Option Addr) (c2 : Nat) (m : List (List UInt8)) (lo : List UInt8) (hi : List UInt8) (w : World) (r0 : Rf [] w (fun w => RowIn w A (SS l))) (r1 : Rf [] w (fun w => RowIn w A2 (SS m))) (hl : l.length ≤ 68719476736) (hl2 : m.length ≤ 68719476736) :
    Calls Tryz.prog 153 #[(.agg #[(.slice A (l.length) (c)), (.slice A2 (m.length) (c2))]), (.agg #[(.string (strOf lo)), (.string (strOf hi))])] w fun e w' => e = .returned (.bool (ordOk l lo hi && ordOk m lo hi)) ∧ Back [] w [] w' := by
  refine stEnter (args := [(.agg #[(.slice A (l.length) (c)), (.slice A2 (m.length) (c2))]), (.agg #[(.string (strOf lo)), (.string (strOf hi))])]) (fps []) Tryz.func153 rfl 15 rfl [(0, (.agg #[(.slice A (l.length) (c)), (.slice A2 (m.length) (c2))])), (1, (.agg #[(.string (strOf lo)), (.string (strOf hi))]))] ⟨rfl, rfl, trivial⟩ [] (Mm.start w []) ?_
  refine stSeq (reg (li rfl ?_))
  refine opBox [(.slice A (l.length) (c)), (.slice A2 (m.length) (c2))] rfl rfl (by kernel_rfl) rfl rfl (fun b2 => ?_)
  refine li rfl ?_
  refine opBox [(.string (strOf lo)), (.string (strOf hi))] rfl rfl (by kernel_rfl) rfl rfl (fun b3 => ?_)
  refine la ?_
  refine liNil (qThen (stSeq ?_))
  refine St.to [cAt b2 92 [(.slice A (l.length) (c)), (.slice A2 (m.length) (c2))], cAt b3 69 [(.string (strOf lo)), (.string (strOf hi))]] (by kernel_rfl) ?_
  refine reg ?_
  refine lc (.pointer (some ⟨b2, 0, none⟩)) ?_
  refine lv (v := (.slice A (l.length) (c))) (rLoad 0 rfl rfl (by kernel_rfl) rfl rfl) ?_
  refine lv (v := (.agg #[(.string (strOf lo)), (.string (strOf hi))])) (rLoadA [(.string (strOf lo)), (.string (strOf hi))] rfl rfl (by kernel_rfl) (by kernel_rfl) (segAt (i := 1) rfl (by intro j v hj; first | (rw [Nat.zero_add]; exact hj) | (match j, hj with | 0, h => exact h | 1, h => exact h)))) ?_
  refine li rfl ?_
  refine opK0 (fun w hM => (rsInOrder_any A c l lo hi w (r0.go0 hM) (by omega)).mono ?_)
  rintro e w' ⟨rfl, hP⟩
  refine ⟨_, _, rfl, hP, ?_⟩; clear hP hM
  refine lm ?_
  refine St.dec 9 rfl (fun hc9 => ?_) (fun hc9 => ?_)
  · refine lgc (.pointer (some ⟨b2, 1, none⟩)) ?_
    refine lgv (v := (.slice A2 (m.length) (c2))) (rLoad 0 rfl rfl (by kernel_rfl) rfl rfl) ?_
    refine lgv (v := (.agg #[(.string (strOf lo)), (.string (strOf hi))])) (rLoadA [(.string (strOf lo)), (.string (strOf hi))] rfl rfl (by kernel_rfl) (by kernel_rfl) (segAt (i := 1) rfl (by intro j v hj; first | (rw [Nat.zero_add]; exact hj) | (match j, hj with | 0, h => exact h | 1, h => exact h)))) ?_
    refine liGo rfl rfl ?_
    refine opK0 (fun w hM => (rsInOrder_any A2 c2 m lo hi w (r1.go0 hM) (by omega)).mono ?_)
    rintro e w' ⟨rfl, hP⟩
    refine ⟨_, _, rfl, hP, ?_⟩; clear hP hM
    refine lc (.bool (ordOk m lo hi)) ?_
    refine la ?_
    refine liNil (qThen (stRet ?_))
    refine stEnd [(.bool (ordOk m lo hi))] rfl ⟨rfl, trivial⟩ (fun w hM => ?_)
    exact ⟨ret_bool (by simp_all), (fun (w : World) (h : Mm _ _ _ w) => Mm.sub h (.cons _ (.cons _ .slnil))) w hM⟩
  · refine lnF ?_
    refine lnF ?_
    refine lnF ?_
    refine lnF ?_
    refine lc (.bool false) ?_
    refine la ?_
    refine liNil (qThen (stRet ?_))
    refine stEnd [(.bool false)] rfl ⟨rfl, trivial⟩ (fun w hM => ?_)
    exact ⟨ret_bool (by simp_all), (fun (w : World) (h : Mm _ _ _ w) => Mm.sub h (.cons _ (.cons _ .slnil))) w hM⟩

end Go.Proofs.YtlepfnihpdhcaaaGreatDoor
