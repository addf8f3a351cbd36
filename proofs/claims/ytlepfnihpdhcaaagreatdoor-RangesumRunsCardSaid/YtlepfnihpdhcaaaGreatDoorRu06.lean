/- Part 6 of a proof about rangesum: what its row uses. -/
import Derived.Test.YtlepfnihpdhcaaaGreatDoorRu05
set_option maxRecDepth 100000
set_option maxHeartbeats 1000000
namespace Go.Proofs.YtlepfnihpdhcaaaGreatDoor
open Go.RowKit
theorem psok1 {its lo hi : _} {w : World} : PsOk [sumP its lo hi] w := fun p hp r hr => by rw [List.mem_singleton.1 hp] at hr; cases hr
theorem row_none {w : World} {α : Type} {f : α → Value} {l : List α} (h : RowIn w none (l.map f)) : l = [] := by
 cases l with
 | nil => rfl
 | cons x l => obtain ⟨b, o, h1, _⟩ := h 0 _ rfl; cases h1
theorem rsClone_any (A : Option Addr) (c : Nat) (l : List (List UInt8)) (w : World) (r0 : Rf [] w (fun w => RowIn w A (SS l))) (hl4 : l.length ≤ 4294967296) :
  Calls Tryz.prog 36 #[(vL A l c)] w fun e w' => ∃ (B : Option Addr) (cb : Nat), e = .returned (vL B l cb) ∧ Back [] w [cS B l cb] w' := by
 refine stEnter (args := [(vL A l c)]) (fps []) Tryz.func36 rfl 8 rfl [(0, (vL A l c))] ⟨rfl, trivial⟩ [] (Mm.start w []) ?_
 refine stSeq (reg ?_)
 refine la ?_
 refine liNil (qThen (stSeq (stSeq (reg ?_))))
 refine lm ?_
 refine lv (v := (.bool A.isNone)) (by cases A <;> exact rClosed fun _ => by kernel_rfl) ?_
 refine liNil (qThen ?_)
 refine stCond rfl (fun hc4 => ?_) (fun hc4 => ?_)
 ·obtain rfl : A = none := by cases A with | none => rfl | some _ => cases hc4
  obtain rfl : l = [] := row_none r0.here
  refine St.mem (fun w hM => hM.nilOwn 9 1) ?_
  refine stSeq (reg ?_)
  refine la ?_
  refine liNil (qThen (stRet (qThenR ?_)))
  refine stEnd [(.slice none 0 0)] rfl ⟨rfl, trivial⟩ (fun w hM => ?_)
  exact ⟨none, 0, rfl, hM⟩
 ·refine stSkip (qThen (stSeq (reg (li rfl ?_))))
  refine opNew (v := fun b => .slice (some ⟨b, 0, none⟩) 0 0) 9 [] rfl (by kernel_rfl) (fun _ => by kernel_rfl) (fun b5 => ?_)
  refine lm ?_
  refine li rfl ?_
  refine opMem (fun w hM => hM.toOwn0 0 rfl 1) ?_
  refine opAppend el_strC 0 (SS l) rfl rfl (by kernel_rfl) rfl rfl rfl (by simp) (fun w hM => CellsAt.of_row (r0.now hM)) (SS_one) (by omega) ((l).length) (by first | exact (List.length_append ..).symm | (simp; done) | (simp; omega)) (SS (l)) (by simp [SS]) (fun A7 c7 => ?_)
  refine la ?_
  refine liNil (qThen (stRet ?_))
  refine stEnd [(vL A7 (l) c7)] rfl ⟨rfl, trivial⟩ (fun w hM => ?_)
  exact ⟨A7, c7, rfl, hM⟩
theorem rsNew_bad (A : Option Addr) (c : Nat) (l : List (List UInt8)) (fan : Int) (leaf : Int) (w : World) (r0 : Rf [] w (fun w => RowIn w A (SS l))) (hl : l.length ≤ 9223372036854775807) (he : newE fan leaf l ≠ 0) :
  Calls Tryz.prog 13 #[(vL A l c), (.agg #[(.int .i64 fan), (.int .i64 leaf)])] w fun e w' => e = .returned (.tuple #[(.pointer none), (.int .i64 (newE fan leaf l))]) ∧ Back [] w [] w' := by
 refine stEnter (args := [(vL A l c), (.agg #[(.int .i64 fan), (.int .i64 leaf)])]) (fps []) Tryz.func13 rfl 22 rfl [(0, (vL A l c)), (1, (.agg #[(.int .i64 fan), (.int .i64 leaf)]))] ⟨rfl, rfl, trivial⟩ [] (Mm.start w []) ?_
 refine stSeq (reg (li rfl ?_))
 refine opBox [(.int .i64 fan), (.int .i64 leaf)] rfl rfl (by kernel_rfl) rfl rfl (fun b3 => ?_)
 refine la ?_
 refine la ?_
 refine liNil (qThen (stSeq (stSeq (reg ?_))))
 refine lv (v := (.agg #[(.int .i64 fan), (.int .i64 leaf)])) (rLoadA [(.int .i64 fan), (.int .i64 leaf)] rfl rfl (by kernel_rfl) (by kernel_rfl) (segAt (i := 0) rfl (by intro j v hj; first | (rw [Nat.zero_add]; exact hj) | (match j, hj with | 0, h => exact h | 1, h => exact h)))) ?_
 refine li rfl ?_
 refine opK0 (fun w hM => (rsPvalid_any fan leaf w ).mono ?_)
 rintro e w' ⟨rfl, hP⟩
 refine ⟨_, _, rfl, hP, ?_⟩; clear hP hM
 refine lc (.bool (!(okP fan leaf))) ?_
 refine liNil (qThen ?_)
 refine stCond rfl (fun hc9 => ?_) (fun hc9 => ?_)
 ·refine stSeq (reg ?_)
  refine la ?_
  refine la ?_
  refine liNil (qThen (stRet (qThenR ?_)))
  refine stEnd [(.pointer none), (.int .i64 1)] rfl ⟨rfl, rfl, trivial⟩ (fun w hM => ?_)
  exact ⟨by rw [newE, if_neg (by simp [show okP fan leaf = false by simpa using hc9])]; rfl, (hM.pick [] rfl rfl)⟩
 ·have hop : okP fan leaf = true := by simpa using hc9
  have hne : newE fan leaf l = setE l := by rw [newE, if_pos hop]
  refine stSkip (qThen (stSeq (stSeq (reg ?_))))
  refine lm ?_
  refine li rfl ?_
  refine opK0 (fun w hM => (rsCheck_any A c l w (r0.go0 hM) (by omega)).mono ?_)
  rintro e w' ⟨rfl, hP⟩
  refine ⟨_, _, rfl, hP, ?_⟩; clear hP hM
  refine la ?_
  refine liNil (qThen (stSeq (reg ?_)))
  refine lm ?_
  refine lc (.bool (((setE l) : Int) != 0)) ?_
  refine liNil (qThen ?_)
  refine stTrueK rfl (by rw [hne] at he; simpa using he) ?_
  refine stSeq (reg ?_)
  refine lm ?_
  refine la ?_
  refine la ?_
  refine liNil (qThen (stRet (qThenR ?_)))
  refine stEnd [(.pointer none), (.int .i64 (setE l))] rfl ⟨rfl, rfl, trivial⟩ (fun w hM => ?_)
  exact ⟨by rw [hne]; rfl, (hM.pick [] rfl rfl)⟩
theorem rsNew_ok (A : Option Addr) (c : Nat) (l : List (List UInt8)) (fan : Nat) (leaf : Nat) (w : World) (r0 : Rf [] w (fun w => RowIn w A (SS l))) (hl4 : l.length ≤ 4294967296) (hp : okP (fan : Int) (leaf : Int) = true) (he : setE l = 0) :
  Calls Tryz.prog 13 #[(vL A l c), (.agg #[(vI fan), (vI leaf)])] w fun e w' => ∃ (bs : Nat) (A2 : Option Addr) (c2 : Nat) (nm : Nat) (om : Nat), e = .returned (.tuple #[(vP bs 0), (.int .i64 0)]) ∧ Back [] w [cAt bs 66 [(vL A2 l c2), (vI fan), (vI leaf), (.map (some nm)), (.map (some om))], cS A2 l c2, cSet nm ([]), cSet om ([])] w' := by
 refine stEnter (args := [(vL A l c), (.agg #[(vI fan), (vI leaf)])]) (fps []) Tryz.func13 rfl 22 rfl [(0, (vL A l c)), (1, (.agg #[(vI fan), (vI leaf)]))] ⟨rfl, rfl, trivial⟩ [] (Mm.start w []) ?_
 refine stSeq (reg (li rfl ?_))
 refine opBox [(vI fan), (vI leaf)] rfl rfl (by kernel_rfl) rfl rfl (fun b3 => ?_)
 refine la ?_
 refine la ?_
 refine liNil (qThen (stSeq (stSeq (reg ?_))))
 refine lv (v := (.agg #[(vI fan), (vI leaf)])) (rLoadA [(vI fan), (vI leaf)] rfl rfl (by kernel_rfl) (by kernel_rfl) (segAt (i := 0) rfl (by intro j v hj; first | (rw [Nat.zero_add]; exact hj) | (match j, hj with | 0, h => exact h | 1, h => exact h)))) ?_
 refine li rfl ?_
 refine opK0 (fun w hM => (rsPvalid_any ((fan : Nat) : Int) ((leaf : Nat) : Int) w ).mono ?_)
 rintro e w' ⟨rfl, hP⟩
 refine ⟨_, _, rfl, hP, ?_⟩; clear hP hM
 refine lc (.bool (!(okP ((fan : Nat) : Int) ((leaf : Nat) : Int)))) ?_
 refine liNil (qThen ?_)
 refine stFalseK rfl (by simp [hp]) ?_
 refine stSkip (qThen (stSeq (stSeq (reg ?_))))
 refine lm ?_
 refine li rfl ?_
 refine opK0 (fun w hM => (rsCheck_any A c l w (r0.go0 hM) (by omega)).mono ?_)
 rintro e w' ⟨rfl, hP⟩
 refine ⟨_, _, rfl, hP, ?_⟩; clear hP hM
 refine la ?_
 refine liNil (qThen (stSeq (reg ?_)))
 refine lm ?_
 refine lc (.bool (((setE l) : Int) != 0)) ?_
 refine liNil (qThen ?_)
 refine stFalseK rfl (by simp [he]) ?_
 refine stSkip (qThen ?_)
 refine stCut (ι := Option Addr × Nat × Nat × Nat × Nat) (fun _ => True) (fun (B16, cb16, m18, m19, b21) => [(0, (vL A l c)), (1, (.agg #[(vI fan), (vI leaf)])), (3, (vP b3 0)), (4, (vP b21 0)), (5, (.int .i64 0)), (7, (.agg #[(vI fan), (vI leaf)])), (8, (.bool (okP ((fan : Nat) : Int) ((leaf : Nat) : Int)))), (9, (.bool (!(okP ((fan : Nat) : Int) ((leaf : Nat) : Int))))), (10, (vL A l c)), (11, (.int .i64 (setE l))), (6, (.int .i64 (setE l))), (12, (.int .i64 (setE l))), (13, (.bool (((setE l) : Int) != 0))), (15, (vL A l c)), (17, (.agg #[(vI fan), (vI leaf)])), (16, (vL B16 l cb16)), (18, (.map (some m18))), (19, (.map (some m19))), (20, (.agg #[(vL B16 l cb16), (vI fan), (vI leaf), (.map (some m18)), (.map (some m19))])), (21, (vP b21 0))]) (fun (B16, cb16, m18, m19, b21) => [cAt b3 33 [(vI fan), (vI leaf)], cS B16 l cb16, cSet m18 ([]), cSet m19 ([]), cAt b21 66 [(vL B16 l cb16), (vI fan), (vI leaf), (.map (some m18)), (.map (some m19))]]) ?_ ?_
 ·refine anyBegin [cAt b3 33 [(vI fan), (vI leaf)]] 9 (by kernel_rfl) (fun _ h => h) ?_
  refine am 0 ?_
  refine av 2 (.agg #[(vI fan), (vI leaf)]) rfl (rLoadA [(vI fan), (vI leaf)] rfl rfl (by kernel_rfl) (by kernel_rfl) (segAt (i := 0) rfl (by intro j v hj; first | (rw [Nat.zero_add]; exact hj) | (match j, hj with | 0, h => exact h | 1, h => exact h)))) ?_
  refine anyThree (i := 1) (j := 3) (k := 4) (by kernel_rfl) rfl rfl rfl rfl rfl rfl ?_ ?_ ?_
  ·refine opK0 (fun w hM => (rsClone_any A c l w (r0.go0 hM) (by omega)).mono ?_)
   rintro e w' ⟨B16, cb16, rfl, hP⟩
   refine ⟨_, _, rfl, hP, ?_⟩; clear hP hM
   refine St.to [cAt b3 33 [(vI fan), (vI leaf)], cS B16 l cb16] (by kernel_rfl) ?_
   refine anyNext [cAt b3 33 [(vI fan), (vI leaf)], cS B16 l cb16] (fun _ h => h.pick [0] rfl rfl) (fun _ h => h) ?_
   refine anyTwo (i := 3) (j := 4) (by kernel_rfl) rfl rfl rfl rfl ?_ ?_
   ·refine opMakeSet rfl rfl (by kernel_rfl) (fun m18 => ?_)
    refine anyNext [cAt b3 33 [(vI fan), (vI leaf)], cS B16 l cb16, cSet m18 ([])] (fun _ h => h.pick [0, 1] rfl rfl) (fun _ h => h) ?_
    refine a1 4 ?_
    refine opMakeSet rfl rfl (by kernel_rfl) (fun m19 => ?_)
    refine anyNext [cAt b3 33 [(vI fan), (vI leaf)], cS B16 l cb16, cSet m18 ([]), cSet m19 ([])] (fun _ h => h.pick [0, 1, 2] rfl rfl) (fun _ h => h) ?_
    refine ac 5 (.agg #[(vL B16 l cb16), (vI fan), (vI leaf), (.map (some m18)), (.map (some m19))]) ?_
    refine a1 6 ?_
    refine opBox [(vL B16 l cb16), (vI fan), (vI leaf), (.map (some m18)), (.map (some m19))] rfl rfl (by kernel_rfl) rfl rfl (fun b21 => ?_)
    refine anyNext [cAt b3 33 [(vI fan), (vI leaf)], cS B16 l cb16, cSet m18 ([]), cSet m19 ([]), cAt b21 66 [(vL B16 l cb16), (vI fan), (vI leaf), (.map (some m18)), (.map (some m19))]] (fun _ h => h.pick [0, 1, 2, 3] rfl rfl) (fun _ h => h) ?_
    refine aa 7 ?_
    refine aa 8 ?_
    refine anyDone (by kernel_rfl) ?_
    refine qThen ?_
    exact stMeet (B16, cb16, m18, m19, b21) trivial ⟨rfl, rfl, rfl, rfl, rfl, rfl, rfl, rfl, rfl, rfl, rfl, rfl, rfl, rfl, rfl, rfl, rfl, rfl, rfl, rfl, trivial⟩ (fun _ h => h)
   ·refine opMakeSet rfl rfl (by kernel_rfl) (fun m19 => ?_)
    refine anyNext [cAt b3 33 [(vI fan), (vI leaf)], cS B16 l cb16, cSet m19 ([])] (fun _ h => h.pick [0, 1] rfl rfl) (fun _ h => h) ?_
    refine a1 3 ?_
    refine opMakeSet rfl rfl (by kernel_rfl) (fun m18 => ?_)
    refine anyNext [cAt b3 33 [(vI fan), (vI leaf)], cS B16 l cb16, cSet m19 ([]), cSet m18 ([])] (fun _ h => h.pick [0, 1, 2] rfl rfl) (fun _ h => h) ?_
    refine ac 5 (.agg #[(vL B16 l cb16), (vI fan), (vI leaf), (.map (some m18)), (.map (some m19))]) ?_
    refine a1 6 ?_
    refine opBox [(vL B16 l cb16), (vI fan), (vI leaf), (.map (some m18)), (.map (some m19))] rfl rfl (by kernel_rfl) rfl rfl (fun b21 => ?_)
    refine St.to [cAt b3 33 [(vI fan), (vI leaf)], cS B16 l cb16, cSet m19 ([]), cSet m18 ([]), cAt b21 66 [(vL B16 l cb16), (vI fan), (vI leaf), (.map (some m18)), (.map (some m19))]] (by kernel_rfl) ?_
    refine anyNext [cAt b3 33 [(vI fan), (vI leaf)], cS B16 l cb16, cSet m19 ([]), cSet m18 ([]), cAt b21 66 [(vL B16 l cb16), (vI fan), (vI leaf), (.map (some m18)), (.map (some m19))]] (fun _ h => h.pick [0, 1, 2, 3] rfl rfl) (fun _ h => h) ?_
    refine aa 7 ?_
    refine aa 8 ?_
    refine anyDone (by kernel_rfl) ?_
    refine qThen ?_
    exact stMeet (B16, cb16, m18, m19, b21) trivial ⟨rfl, rfl, rfl, rfl, rfl, rfl, rfl, rfl, rfl, rfl, rfl, rfl, rfl, rfl, rfl, rfl, rfl, rfl, rfl, rfl, trivial⟩ (fun _ h => h.pick [0, 1, 3, 2, 4] rfl rfl)
  ·refine opMakeSet rfl rfl (by kernel_rfl) (fun m18 => ?_)
   refine anyNext [cAt b3 33 [(vI fan), (vI leaf)], cSet m18 ([])] (fun _ h => h.pick [0] rfl rfl) (fun _ h => h) ?_
   refine anyTwo (i := 1) (j := 4) (by kernel_rfl) rfl rfl rfl rfl ?_ ?_
   ·refine opK0 (fun w hM => (rsClone_any A c l w (r0.go0 hM) (by omega)).mono ?_)
    rintro e w' ⟨B16, cb16, rfl, hP⟩
    refine ⟨_, _, rfl, hP, ?_⟩; clear hP hM
    refine anyNext [cAt b3 33 [(vI fan), (vI leaf)], cSet m18 ([]), cS B16 l cb16] (fun _ h => h.pick [0, 1] rfl rfl) (fun _ h => h) ?_
    refine a1 4 ?_
    refine opMakeSet rfl rfl (by kernel_rfl) (fun m19 => ?_)
    refine anyNext [cAt b3 33 [(vI fan), (vI leaf)], cSet m18 ([]), cS B16 l cb16, cSet m19 ([])] (fun _ h => h.pick [0, 1, 2] rfl rfl) (fun _ h => h) ?_
    refine ac 5 (.agg #[(vL B16 l cb16), (vI fan), (vI leaf), (.map (some m18)), (.map (some m19))]) ?_
    refine a1 6 ?_
    refine opBox [(vL B16 l cb16), (vI fan), (vI leaf), (.map (some m18)), (.map (some m19))] rfl rfl (by kernel_rfl) rfl rfl (fun b21 => ?_)
    refine anyNext [cAt b3 33 [(vI fan), (vI leaf)], cSet m18 ([]), cS B16 l cb16, cSet m19 ([]), cAt b21 66 [(vL B16 l cb16), (vI fan), (vI leaf), (.map (some m18)), (.map (some m19))]] (fun _ h => h.pick [0, 1, 2, 3] rfl rfl) (fun _ h => h) ?_
    refine aa 7 ?_
    refine aa 8 ?_
    refine anyDone (by kernel_rfl) ?_
    refine qThen ?_
    exact stMeet (B16, cb16, m18, m19, b21) trivial ⟨rfl, rfl, rfl, rfl, rfl, rfl, rfl, rfl, rfl, rfl, rfl, rfl, rfl, rfl, rfl, rfl, rfl, rfl, rfl, rfl, trivial⟩ (fun _ h => h.pick [0, 2, 1, 3, 4] rfl rfl)
   ·refine opMakeSet rfl rfl (by kernel_rfl) (fun m19 => ?_)
    refine anyNext [cAt b3 33 [(vI fan), (vI leaf)], cSet m18 ([]), cSet m19 ([])] (fun _ h => h.pick [0, 1] rfl rfl) (fun _ h => h) ?_
    refine a1 1 ?_
    refine opK0 (fun w hM => (rsClone_any A c l w (r0.go0 hM) (by omega)).mono ?_)
    rintro e w' ⟨B16, cb16, rfl, hP⟩
    refine ⟨_, _, rfl, hP, ?_⟩; clear hP hM
    refine St.to [cAt b3 33 [(vI fan), (vI leaf)], cSet m18 ([]), cSet m19 ([]), cS B16 l cb16] (by kernel_rfl) ?_
    refine anyNext [cAt b3 33 [(vI fan), (vI leaf)], cSet m18 ([]), cSet m19 ([]), cS B16 l cb16] (fun _ h => h.pick [0, 1, 2] rfl rfl) (fun _ h => h) ?_
    refine ac 5 (.agg #[(vL B16 l cb16), (vI fan), (vI leaf), (.map (some m18)), (.map (some m19))]) ?_
    refine a1 6 ?_
    refine opBox [(vL B16 l cb16), (vI fan), (vI leaf), (.map (some m18)), (.map (some m19))] rfl rfl (by kernel_rfl) rfl rfl (fun b21 => ?_)
    refine anyNext [cAt b3 33 [(vI fan), (vI leaf)], cSet m18 ([]), cSet m19 ([]), cS B16 l cb16, cAt b21 66 [(vL B16 l cb16), (vI fan), (vI leaf), (.map (some m18)), (.map (some m19))]] (fun _ h => h.pick [0, 1, 2, 3] rfl rfl) (fun _ h => h) ?_
    refine aa 7 ?_
    refine aa 8 ?_
    refine anyDone (by kernel_rfl) ?_
    refine qThen ?_
    exact stMeet (B16, cb16, m18, m19, b21) trivial ⟨rfl, rfl, rfl, rfl, rfl, rfl, rfl, rfl, rfl, rfl, rfl, rfl, rfl, rfl, rfl, rfl, rfl, rfl, rfl, rfl, trivial⟩ (fun _ h => h.pick [0, 3, 1, 2, 4] rfl rfl)
  ·refine opMakeSet rfl rfl (by kernel_rfl) (fun m19 => ?_)
   refine anyNext [cAt b3 33 [(vI fan), (vI leaf)], cSet m19 ([])] (fun _ h => h.pick [0] rfl rfl) (fun _ h => h) ?_
   refine anyTwo (i := 1) (j := 3) (by kernel_rfl) rfl rfl rfl rfl ?_ ?_
   ·refine opK0 (fun w hM => (rsClone_any A c l w (r0.go0 hM) (by omega)).mono ?_)
    rintro e w' ⟨B16, cb16, rfl, hP⟩
    refine ⟨_, _, rfl, hP, ?_⟩; clear hP hM
    refine anyNext [cAt b3 33 [(vI fan), (vI leaf)], cSet m19 ([]), cS B16 l cb16] (fun _ h => h.pick [0, 1] rfl rfl) (fun _ h => h) ?_
    refine a1 3 ?_
    refine opMakeSet rfl rfl (by kernel_rfl) (fun m18 => ?_)
    refine anyNext [cAt b3 33 [(vI fan), (vI leaf)], cSet m19 ([]), cS B16 l cb16, cSet m18 ([])] (fun _ h => h.pick [0, 1, 2] rfl rfl) (fun _ h => h) ?_
    refine ac 5 (.agg #[(vL B16 l cb16), (vI fan), (vI leaf), (.map (some m18)), (.map (some m19))]) ?_
    refine a1 6 ?_
    refine opBox [(vL B16 l cb16), (vI fan), (vI leaf), (.map (some m18)), (.map (some m19))] rfl rfl (by kernel_rfl) rfl rfl (fun b21 => ?_)
    refine anyNext [cAt b3 33 [(vI fan), (vI leaf)], cSet m19 ([]), cS B16 l cb16, cSet m18 ([]), cAt b21 66 [(vL B16 l cb16), (vI fan), (vI leaf), (.map (some m18)), (.map (some m19))]] (fun _ h => h.pick [0, 1, 2, 3] rfl rfl) (fun _ h => h) ?_
    refine aa 7 ?_
    refine aa 8 ?_
    refine anyDone (by kernel_rfl) ?_
    refine qThen ?_
    exact stMeet (B16, cb16, m18, m19, b21) trivial ⟨rfl, rfl, rfl, rfl, rfl, rfl, rfl, rfl, rfl, rfl, rfl, rfl, rfl, rfl, rfl, rfl, rfl, rfl, rfl, rfl, trivial⟩ (fun _ h => h.pick [0, 2, 3, 1, 4] rfl rfl)
   ·refine opMakeSet rfl rfl (by kernel_rfl) (fun m18 => ?_)
    refine St.to [cAt b3 33 [(vI fan), (vI leaf)], cSet m19 ([]), cSet m18 ([])] (by kernel_rfl) ?_
    refine anyNext [cAt b3 33 [(vI fan), (vI leaf)], cSet m19 ([]), cSet m18 ([])] (fun _ h => h.pick [0, 1] rfl rfl) (fun _ h => h) ?_
    refine a1 1 ?_
    refine opK0 (fun w hM => (rsClone_any A c l w (r0.go0 hM) (by omega)).mono ?_)
    rintro e w' ⟨B16, cb16, rfl, hP⟩
    refine ⟨_, _, rfl, hP, ?_⟩; clear hP hM
    refine anyNext [cAt b3 33 [(vI fan), (vI leaf)], cSet m19 ([]), cSet m18 ([]), cS B16 l cb16] (fun _ h => h.pick [0, 1, 2] rfl rfl) (fun _ h => h) ?_
    refine ac 5 (.agg #[(vL B16 l cb16), (vI fan), (vI leaf), (.map (some m18)), (.map (some m19))]) ?_
    refine a1 6 ?_
    refine opBox [(vL B16 l cb16), (vI fan), (vI leaf), (.map (some m18)), (.map (some m19))] rfl rfl (by kernel_rfl) rfl rfl (fun b21 => ?_)
    refine anyNext [cAt b3 33 [(vI fan), (vI leaf)], cSet m19 ([]), cSet m18 ([]), cS B16 l cb16, cAt b21 66 [(vL B16 l cb16), (vI fan), (vI leaf), (.map (some m18)), (.map (some m19))]] (fun _ h => h.pick [0, 1, 2, 3] rfl rfl) (fun _ h => h) ?_
    refine aa 7 ?_
    refine aa 8 ?_
    refine anyDone (by kernel_rfl) ?_
    refine qThen ?_
    exact stMeet (B16, cb16, m18, m19, b21) trivial ⟨rfl, rfl, rfl, rfl, rfl, rfl, rfl, rfl, rfl, rfl, rfl, rfl, rfl, rfl, rfl, rfl, rfl, rfl, rfl, rfl, trivial⟩ (fun _ h => h.pick [0, 3, 2, 1, 4] rfl rfl)
 ·rintro ⟨B16, cb16, m18, m19, b21⟩ -
  show St _ _ _ [(0, (vL A l c)), (1, (.agg #[(vI fan), (vI leaf)])), (3, (vP b3 0)), (4, (vP b21 0)), (5, (.int .i64 0)), (7, (.agg #[(vI fan), (vI leaf)])), (8, (.bool (okP ((fan : Nat) : Int) ((leaf : Nat) : Int)))), (9, (.bool (!(okP ((fan : Nat) : Int) ((leaf : Nat) : Int))))), (10, (vL A l c)), (11, (.int .i64 (setE l))), (6, (.int .i64 (setE l))), (12, (.int .i64 (setE l))), (13, (.bool (((setE l) : Int) != 0))), (15, (vL A l c)), (17, (.agg #[(vI fan), (vI leaf)])), (16, (vL B16 l cb16)), (18, (.map (some m18))), (19, (.map (some m19))), (20, (.agg #[(vL B16 l cb16), (vI fan), (vI leaf), (.map (some m18)), (.map (some m19))])), (21, (vP b21 0))] [cAt b3 33 [(vI fan), (vI leaf)], cS B16 l cb16, cSet m18 ([]), cSet m19 ([]), cAt b21 66 [(vL B16 l cb16), (vI fan), (vI leaf), (.map (some m18)), (.map (some m19))]] _
  refine stRet ?_
  refine stEnd [(vP b21 0), (.int .i64 0)] rfl ⟨rfl, rfl, trivial⟩ (fun w hM => ?_)
  exact ⟨b21, B16, cb16, m18, m19, rfl, (hM.pick [4, 1, 2, 3] rfl rfl)⟩
theorem rsStart_any (bs : Nat) (A : Option Addr) (c : Nat) (its : List (List UInt8)) (fan : Nat) (leaf : Nat) (nm : Nat) (om : Nat) (w : World) (r0 : Rf [] w (Vars)) (r1 : Rf [] w (SessAt bs A c its fan leaf nm om)) (hs : okSet its) (hn : its.length ≤ 1000) (hcap : its.length ≤ c) (h40 : its.length ≤ 40) :
  Calls Tryz.prog 15 #[(vP bs 0)] w fun e w' => ∃ (B : Option Addr) (cb : Nat), e = .returned (vL B (encA [sumA its [] []]) cb) ∧ Back [] w [cB B (encA [sumA its [] []]) cb] w' := by
 have ra := r1.imp (fun _ h => h.1)
 have rb := r1.imp (fun _ h => h.2)
 refine stEnter (args := [(vP bs 0)]) (fps []) Tryz.func15 rfl 17 rfl [(0, (vP bs 0))] ⟨rfl, trivial⟩ [] (Mm.start w []) ?_
 refine stSeq (reg ?_)
 refine la ?_
 refine liNil (qThen (stSeq (reg ?_)))
 refine lc (.agg #[(.string ⟨#[]⟩), (.string ⟨#[]⟩)]) ?_
 refine lm ?_
 refine lc (.agg #[(.string ⟨#[]⟩), (.string ⟨#[]⟩)]) ?_
 refine li rfl ?_
 refine opK0 (fun w hM => (rsSum_any bs A c its fan leaf nm om [] [] w (r0.go0 hM) (r1.go0 hM) (by assumption) (by assumption) (by assumption)).mono ?_)
 rintro e w' ⟨rfl, hP⟩
 refine ⟨_, _, rfl, hP, ?_⟩; clear hP hM
 refine lc (.iface 71 (.agg #[(vI ((inL its [] []).length)), (vS (fpB (inL its [] [])))])) ?_
 refine lc (.agg #[(.string ⟨#[]⟩), (.string ⟨#[]⟩), (.iface 71 (.agg #[(vI ((inL its [] []).length)), (vS (fpB (inL its [] [])))]))]) ?_
 refine li rfl ?_
 refine opNew (v := fun b => .slice (some ⟨b, 0, none⟩) 1 1) 76 [(.string ⟨#[]⟩), (.string ⟨#[]⟩), (.iface 71 (.agg #[(vI ((inL its [] []).length)), (vS (fpB (inL its [] [])))]))] rfl (by kernel_rfl) (fun _ => by kernel_rfl) (fun b12 => ?_)
 refine li rfl ?_
 refine opK0 (fun w hM => (rsEncode_any (some ⟨b12, 0, none⟩) 1 ([sumP its [] []]) w (hM.keep0 (j := 0) rfl (fun _ h => rowAtI h rfl)) ((r0.go0 hM).imp (fun w _ => psok1)) (fun p hp => by rw [List.mem_singleton.1 hp]; exact (start_ok h40).1) ((start_ok h40).2.1)).mono ?_)
 rintro e w' ⟨B13, cb13, rfl, hP⟩
 refine ⟨_, _, rfl, hP, ?_⟩; clear hP hM
 refine lm ?_
 refine lc (vL B13 (encA (([sumP its [] []]).map PV.abs)) cb13) ?_
 refine lc (.int .i64 0) ?_
 refine la ?_
 refine la ?_
 refine liNil (qThen (stSeq (reg ?_)))
 refine lm ?_
 refine la ?_
 refine liNil (qThen (stRet ?_))
 refine stEnd [(vL B13 (encA (([sumP its [] []]).map PV.abs)) cb13)] rfl ⟨rfl, trivial⟩ (fun w hM => ?_)
 exact ⟨B13, cb13, rfl, (hM.pick [1] rfl rfl)⟩
end Go.Proofs.YtlepfnihpdhcaaaGreatDoor
namespace Go.Proofs.YtlepfnihpdhcaaaGreatDoor
open Go.RowKit
theorem rsRun_bad1 (A : Option Addr) (c : Nat) (a : List (List UInt8)) (A2 : Option Addr) (c2 : Nat) (b : List (List UInt8)) (fan : Int) (leaf : Int) (w : World) (r0 : Rf [] w (Vars)) (r1 : Rf [] w (fun w => RowIn w A (SS a))) (r2 : Rf [] w (fun w => RowIn w A2 (SS b))) (hla : a.length ≤ 9223372036854775807) (hlb : b.length ≤ 9223372036854775807) (he : newE fan leaf a ≠ 0) :
  Calls Tryz.prog 23 #[(vL A a c), (vL A2 b c2), (.agg #[(.int .i64 fan), (.int .i64 leaf)])] w fun e w' => e = .returned (.tuple #[(.slice none 0 0), (.slice none 0 0), (.int .i64 0), (.int .i64 0), (.int .i64 (newE fan leaf a))]) ∧ Back [] w [] w' := by
 have _u0 := r0
 have _u1 := r1
 have _u2 := r2
 have _u3 := hla
 have _u4 := hlb
 have _u5 := he
 clear _u0 _u1 _u2 _u3 _u4 _u5
 refine stEnter (args := [(vL A a c), (vL A2 b c2), (.agg #[(.int .i64 fan), (.int .i64 leaf)])]) (fps []) Tryz.func23 rfl 67 rfl [(0, (vL A a c)), (1, (vL A2 b c2)), (2, (.agg #[(.int .i64 fan), (.int .i64 leaf)]))] ⟨rfl, rfl, rfl, trivial⟩ [] (Mm.start w []) ?_
 refine stSeq (reg (li rfl ?_))
 refine opBox [(.int .i64 fan), (.int .i64 leaf)] rfl rfl (by kernel_rfl) rfl rfl (fun b5 => ?_)
 refine la ?_
 refine la ?_
 refine la ?_
 refine la ?_
 refine la ?_
 refine liNil (qThen (stSeq (reg ?_)))
 refine lm ?_
 refine lv (v := (.agg #[(.int .i64 fan), (.int .i64 leaf)])) (rLoadA [(.int .i64 fan), (.int .i64 leaf)] rfl rfl (by kernel_rfl) (by kernel_rfl) (segAt (i := 0) rfl (by intro j v hj; first | (rw [Nat.zero_add]; exact hj) | (match j, hj with | 0, h => exact h | 1, h => exact h)))) ?_
 refine li rfl ?_
 refine opK0 (fun w hM => (rsNew_bad A c a fan leaf w (r1.go0 hM) (by omega) (by assumption)).mono ?_)
 rintro e w' ⟨rfl, hP⟩
 refine ⟨_, _, rfl, hP, ?_⟩; clear hP hM
 refine lm ?_
 refine lc (.pointer none) ?_
 refine lc (.int .i64 (newE fan leaf a)) ?_
 refine la ?_
 refine la ?_
 refine liNil (qThen (stSeq (stSeq (reg ?_))))
 refine lm ?_
 refine lc (.bool (((newE fan leaf a) : Int) != 0)) ?_
 refine liNil (qThen ?_)
 refine stTrueK rfl (by simpa using he) ?_
 refine stSeq (reg ?_)
 refine lm ?_
 refine la ?_
 refine la ?_
 refine la ?_
 refine la ?_
 refine la ?_
 refine liNil (qThen (stRet (qThenR ?_)))
 refine stEnd [(.slice none 0 0), (.slice none 0 0), (.int .i64 0), (.int .i64 0), (.int .i64 (newE fan leaf a))] rfl ⟨rfl, rfl, rfl, rfl, rfl, trivial⟩ (fun w hM => ?_)
 exact ⟨rfl, (hM.pick [] rfl rfl)⟩
theorem rsRun_bad2 (A : Option Addr) (c : Nat) (a : List (List UInt8)) (A2 : Option Addr) (c2 : Nat) (b : List (List UInt8)) (fan : Nat) (leaf : Nat) (w : World) (r0 : Rf [] w (Vars)) (r1 : Rf [] w (fun w => RowIn w A (SS a))) (r2 : Rf [] w (fun w => RowIn w A2 (SS b))) (hla : a.length ≤ 9223372036854775807) (hlb : b.length ≤ 9223372036854775807) (hp : okP (fan : Int) (leaf : Int) = true) (ha : setE a = 0) (hb : setE b ≠ 0) :
  Calls Tryz.prog 23 #[(vL A a c), (vL A2 b c2), (.agg #[(vI fan), (vI leaf)])] w fun e w' => e = .returned (.tuple #[(.slice none 0 0), (.slice none 0 0), (.int .i64 0), (.int .i64 0), (.int .i64 (newE fan leaf b))]) ∧ Back [] w [] w' := by
 have _u0 := r0
 have _u1 := r1
 have _u2 := r2
 have _u3 := hla
 have _u4 := hlb
 have _u5 := hp
 have _u6 := ha
 have _u7 := hb
 clear _u0 _u1 _u2 _u3 _u4 _u5 _u6 _u7
 refine stEnter (args := [(vL A a c), (vL A2 b c2), (.agg #[(vI fan), (vI leaf)])]) (fps []) Tryz.func23 rfl 67 rfl [(0, (vL A a c)), (1, (vL A2 b c2)), (2, (.agg #[(vI fan), (vI leaf)]))] ⟨rfl, rfl, rfl, trivial⟩ [] (Mm.start w []) ?_
 refine stSeq (reg (li rfl ?_))
 refine opBox [(vI fan), (vI leaf)] rfl rfl (by kernel_rfl) rfl rfl (fun b5 => ?_)
 refine la ?_
 refine la ?_
 refine la ?_
 refine la ?_
 refine la ?_
 refine liNil (qThen (stSeq ?_))
 have hea : newE fan leaf a = 0 := by rw [newE, if_pos hp]; exact ha
 have heb : newE fan leaf b ≠ 0 := by rw [newE, if_pos hp]; exact hb
 have hal := (setE_zero ha).1
 refine reg ?_
 refine lm ?_
 refine lv (v := (.agg #[(vI fan), (vI leaf)])) (rLoadA [(vI fan), (vI leaf)] rfl rfl (by kernel_rfl) (by kernel_rfl) (segAt (i := 0) rfl (by intro j v hj; first | (rw [Nat.zero_add]; exact hj) | (match j, hj with | 0, h => exact h | 1, h => exact h)))) ?_
 refine li rfl ?_
 refine opK0 (fun w hM => (rsNew_ok A c a fan leaf w (r1.go0 hM) (by omega) (by assumption) (by assumption)).mono ?_)
 rintro e w' ⟨bs19, A219, c219, nm19, om19, rfl, hP⟩
 refine ⟨_, _, rfl, hP, ?_⟩; clear hP hM
 refine lm ?_
 refine lc (vP bs19 0) ?_
 refine lc (.int .i64 0) ?_
 refine la ?_
 refine la ?_
 refine liNil (qThen (stSeq (stSeq (reg ?_))))
 refine lm ?_
 refine lc (.bool false) ?_
 refine liNil (qThen (stFalse rfl (stSkip (qThen (stSeq (reg ?_))))))
 refine lm ?_
 refine lv (v := (.agg #[(vI fan), (vI leaf)])) (rLoadA [(vI fan), (vI leaf)] rfl rfl (by kernel_rfl) (by kernel_rfl) (segAt (i := 0) rfl (by intro j v hj; first | (rw [Nat.zero_add]; exact hj) | (match j, hj with | 0, h => exact h | 1, h => exact h)))) ?_
 refine li rfl ?_
 refine opK0 (fun w hM => (rsNew_bad A2 c2 b ((fan : Nat) : Int) ((leaf : Nat) : Int) w (r2.go0 hM) (by omega) (by assumption)).mono ?_)
 rintro e w' ⟨rfl, hP⟩
 refine ⟨_, _, rfl, hP, ?_⟩; clear hP hM
 refine lm ?_
 refine lc (.pointer none) ?_
 refine lc (.int .i64 (newE ((fan : Nat) : Int) ((leaf : Nat) : Int) b)) ?_
 refine la ?_
 refine la ?_
 refine liNil (qThen (stSeq (stSeq (reg ?_))))
 refine lm ?_
 refine lc (.bool (((newE ((fan : Nat) : Int) ((leaf : Nat) : Int) b) : Int) != 0)) ?_
 refine liNil (qThen ?_)
 refine stTrueK rfl (by simpa using heb) ?_
 refine stSeq (reg ?_)
 refine lm ?_
 refine la ?_
 refine la ?_
 refine la ?_
 refine la ?_
 refine la ?_
 refine liNil (qThen (stRet (qThenR ?_)))
 refine stEnd [(.slice none 0 0), (.slice none 0 0), (.int .i64 0), (.int .i64 0), (.int .i64 (newE ((fan : Nat) : Int) ((leaf : Nat) : Int) b))] rfl ⟨rfl, rfl, rfl, rfl, rfl, trivial⟩ (fun w hM => ?_)
 -- ret: (.tuple #[(.slice none 0 0), (.slice none 0 0), (.int .i64 0), (.int .i64 0), (.int .i64 (newE fan leaf b))]) / [(.slice none 0 0), (.slice none 0 0), (.int .i64 0), (.int .i64 0), (.int .i64 (newE ((fan : Nat) : Int) ((leaf : Nat) : Int) b))]
 exact ⟨rfl, (hM.pick [] rfl rfl)⟩
theorem rsRun_ok (A : Option Addr) (c : Nat) (a : List (List UInt8)) (A2 : Option Addr) (c2 : Nat) (b : List (List UInt8)) (fan : Nat) (leaf : Nat) (K : Nat) (w : World) (r0 : Rf [] w (Vars)) (r1 : Rf [] w (fun w => RowIn w A (SS a))) (r2 : Rf [] w (fun w => RowIn w A2 (SS b))) (hp : okP (fan : Int) (leaf : Int) = true) (hf : 2 ≤ fan) (hf2 : fan ≤ 16) (hl1 : 1 ≤ leaf) (hl2 : leaf ≤ 64) (hsa : okSet a) (hsb : okSet b) (ha4 : a.length ≤ 40) (hb4 : b.length ≤ 40) (hK : RunEnds a b fan leaf K) :
  Calls Tryz.prog 23 #[(vL A a c), (vL A2 b c2), (.agg #[(vI fan), (vI leaf)])] w fun e w' => ∃ (B1 : Option Addr) (cb1 : Nat) (B2 : Option Addr) (cb2 : Nat), e = .returned (.tuple #[(vL B1 (withL [] (runN a b fan leaf 1 K).2) cb1), (vL B2 (withL [] (runN a b fan leaf 1 K).1) cb2), (vI K), (vI (runB a b fan leaf K)), (.int .i64 0)]) ∧ Back [] w [cS B1 (withL [] (runN a b fan leaf 1 K).2) cb1, cS B2 (withL [] (runN a b fan leaf 1 K).1) cb2] w' := by
 refine stEnter (args := [(vL A a c), (vL A2 b c2), (.agg #[(vI fan), (vI leaf)])]) (fps []) Tryz.func23 rfl 67 rfl [(0, (vL A a c)), (1, (vL A2 b c2)), (2, (.agg #[(vI fan), (vI leaf)]))] ⟨rfl, rfl, rfl, trivial⟩ [] (Mm.start w []) ?_
 refine stSeq (reg (li rfl ?_))
 refine opBox [(vI fan), (vI leaf)] rfl rfl (by kernel_rfl) rfl rfl (fun b5 => ?_)
 refine la ?_
 refine la ?_
 refine la ?_
 refine la ?_
 refine la ?_
 refine liNil (qThen (stSeq ?_))
 have hea : setE a = 0 := setE_ok (by omega) hsa
 have heb : setE b = 0 := setE_ok (by omega) hsb
 have ha1 : a.length ≤ 1000 := by omega
 have hb1 : b.length ≤ 1000 := by omega
 refine reg ?_
 refine lm ?_
 refine lv (v := (.agg #[(vI fan), (vI leaf)])) (rLoadA [(vI fan), (vI leaf)] rfl rfl (by kernel_rfl) (by kernel_rfl) (segAt (i := 0) rfl (by intro j v hj; first | (rw [Nat.zero_add]; exact hj) | (match j, hj with | 0, h => exact h | 1, h => exact h)))) ?_
 refine li rfl ?_
 refine opK0 (fun w hM => (rsNew_ok A c a fan leaf w (r1.go0 hM) (by omega) (by assumption) (by assumption)).mono ?_)
 rintro e w' ⟨bs19, A219, c219, nm19, om19, rfl, hP⟩
 refine ⟨_, _, rfl, hP, ?_⟩; clear hP hM
 refine lm ?_
 refine lc (vP bs19 0) ?_
 refine lc (.int .i64 0) ?_
 refine la ?_
 refine la ?_
 refine liNil (qThen (stSeq (stSeq (reg ?_))))
 refine lm ?_
 refine lc (.bool false) ?_
 refine liNil (qThen (stFalse rfl (stSkip (qThen (stSeq (reg ?_))))))
 refine lm ?_
 refine lv (v := (.agg #[(vI fan), (vI leaf)])) (rLoadA [(vI fan), (vI leaf)] rfl rfl (by kernel_rfl) (by kernel_rfl) (segAt (i := 0) rfl (by intro j v hj; first | (rw [Nat.zero_add]; exact hj) | (match j, hj with | 0, h => exact h | 1, h => exact h)))) ?_
 refine li rfl ?_
 refine opK0 (fun w hM => (rsNew_ok A2 c2 b fan leaf w (r2.go0 hM) (by omega) (by assumption) (by assumption)).mono ?_)
 rintro e w' ⟨bs28, A228, c228, nm28, om28, rfl, hP⟩
 refine ⟨_, _, rfl, hP, ?_⟩; clear hP hM
 refine lm ?_
 refine lc (vP bs28 0) ?_
 refine lc (.int .i64 0) ?_
 refine la ?_
 refine la ?_
 refine liNil (qThen (stSeq (stSeq (reg ?_))))
 refine lm ?_
 refine lc (.bool false) ?_
 refine liNil (qThen (stFalse rfl (stSkip (qThen (stSeq (reg ?_))))))
 refine lm ?_
 refine lm ?_
 refine lc (.agg #[(vP bs28 0), (vP bs19 0)]) ?_
 refine li rfl ?_
 refine opAlloc [(.pointer none), (.pointer none)] rfl rfl (by kernel_rfl) (by kernel_rfl) (fun b13 => ?_)
 refine li rfl ?_
 refine opStoreN 9 [(vP bs28 0), (vP bs19 0)] (vs := [(vP bs28 0), (vP bs19 0)]) rfl rfl (by kernel_rfl) rfl rfl rfl (by kernel_rfl) rfl (by simp) (by simp [Value.oneCell']) rfl ?_
 refine liNil (qThen (stSeq ?_))
 refine St.to [cAt b5 33 [(vI fan), (vI leaf)], cAt bs19 66 [(vL A219 a c219), (vI fan), (vI leaf), (.map (some nm19)), (.map (some om19))], cS A219 a c219, cSet nm19 ([]), cSet om19 ([]), cAt bs28 66 [(vL A228 b c228), (vI fan), (vI leaf), (.map (some nm28)), (.map (some om28))], cS A228 b c228, cSet nm28 ([]), cSet om28 ([]), cAt b13 102 [(vP bs28 0), (vP bs19 0)]] (by kernel_rfl) ?_
 refine St.fact (fun w hM => own_cap (hM.at (i := 2) rfl)) (fun hcapa => ?_)
 refine St.fact (fun w hM => own_cap (hM.at (i := 6) rfl)) (fun hcapb => ?_)
 refine reg ?_
 refine lm ?_
 refine li rfl ?_
 refine opK0 (fun w hM => (rsStart_any bs19 A219 c219 a fan leaf nm19 om19 w (r0.go0 hM) (((hM.keep0 (j := 1) rfl (fun _ h => h)).and (hM.keep0 (j := 2) rfl (fun _ h => RowIn.of_own h))).imp (fun _ h => ⟨h.1, h.2⟩)) (by assumption) (by assumption) (by assumption) (by assumption)).mono ?_)
 rintro e w' ⟨B38, cb38, rfl, hP⟩
 refine ⟨_, _, rfl, hP, ?_⟩; clear hP hM
 refine la ?_
 refine liNil (qThen (stSeq (stBlock ?_)))
 refine stLoop (ι := Nat × Option Addr × Nat) (fun (j, BX, cX) => j ≤ K) (fun (j, BX, cX) => K - j) (fun (j, BX, cX) => [(6, (.slice none 0 0)), (7, (.slice none 0 0)), (11, (vP bs19 0)), (13, (vP b13 0)), (8, (vI j)), (9, (vI (runB a b fan leaf j))), (10, (.int .i64 0)), (14, (vL BX (runM a b fan leaf j) cX))]) (fun (j, BX, cX) => [cAt b5 33 [(vI fan), (vI leaf)], cAt bs19 66 [(vL A219 a c219), (vI fan), (vI leaf), (.map (some nm19)), (.map (some om19))], cS A219 a c219, cSet nm19 ((runN a b fan leaf 1 j).1), cSet om19 ((runN a b fan leaf 1 j).2), cAt bs28 66 [(vL A228 b c228), (vI fan), (vI leaf), (.map (some nm28)), (.map (some om28))], cS A228 b c228, cSet nm28 ((runN a b fan leaf 0 j).1), cSet om28 ((runN a b fan leaf 0 j).2), cAt b13 102 [(vP bs28 0), (vP bs19 0)], cB BX (runM a b fan leaf j) cX]) (0, B38, cb38) (Nat.zero_le _) ⟨rfl, rfl, rfl, rfl, rfl, rfl, rfl, rfl, trivial⟩ (fun w hM => by show Mm _ _ [cAt b5 33 [(vI fan), (vI leaf)], cAt bs19 66 [(vL A219 a c219), (vI fan), (vI leaf), (.map (some nm19)), (.map (some om19))], cS A219 a c219, cSet nm19 ((runN a b fan leaf 1 0).1), cSet om19 ((runN a b fan leaf 1 0).2), cAt bs28 66 [(vL A228 b c228), (vI fan), (vI leaf), (.map (some nm28)), (.map (some om28))], cS A228 b c228, cSet nm28 ((runN a b fan leaf 0 0).1), cSet om28 ((runN a b fan leaf 0 0).2), cAt b13 102 [(vP bs28 0), (vP bs19 0)], cB B38 (runM a b fan leaf 0) cb38] w; exact hM) ?_
 rintro ⟨j, BX, cX⟩ (hok : j ≤ K)
 show St _ _ _ [(6, (.slice none 0 0)), (7, (.slice none 0 0)), (11, (vP bs19 0)), (13, (vP b13 0)), (8, (vI j)), (9, (vI (runB a b fan leaf j))), (10, (.int .i64 0)), (14, (vL BX (runM a b fan leaf j) cX))] [cAt b5 33 [(vI fan), (vI leaf)], cAt bs19 66 [(vL A219 a c219), (vI fan), (vI leaf), (.map (some nm19)), (.map (some om19))], cS A219 a c219, cSet nm19 ((runN a b fan leaf 1 j).1), cSet om19 ((runN a b fan leaf 1 j).2), cAt bs28 66 [(vL A228 b c228), (vI fan), (vI leaf), (.map (some nm28)), (.map (some om28))], cS A228 b c228, cSet nm28 ((runN a b fan leaf 0 j).1), cSet om28 ((runN a b fan leaf 0 j).2), cAt b13 102 [(vP bs28 0), (vP bs19 0)], cB BX (runM a b fan leaf j) cX] _
 refine stSeq (stSeq (reg ?_))
 refine lm ?_
 refine lc (vI ((runM a b fan leaf j).length)) ?_
 refine lc (.bool (decide ((((runM a b fan leaf j).length : Nat) : Int) > 0))) ?_
 refine liNil (qThen ?_)
 refine stCond rfl (fun hc41 => ?_) (fun hc41 => ?_)
 ·have hd41 := of_decide_eq_true hc41
  have hKl := hK.le
  have hjK : j < K := hK.lt hok (by omega)
  have hml := runM_len (b := b) ha4 fan leaf j; have hbl := runB_le (b := b) ha4 fan leaf j
  have hn0 := runN_len (fan := fan) (leaf := leaf) (par := 0) hsa hsb ha4 hb4 j; have hn1 := runN_len (fan := fan) (leaf := leaf) (par := 1) hsa hsb ha4 hb4 j
  refine stSkip (qThen (stBlock (stSeq ?_)))
  cases hpb : (decide (j % 2 = 0)) with
  | true =>
   have hpar : j % 2 = 0 := by have h := of_decide_eq_true hpb; omega
   have hR : stepA b fan leaf (runM a b fan leaf j) = runR a b fan leaf j := by unfold runR sideOf; rw [if_pos hpar]
   refine reg ?_
   refine lm ?_
   refine lv (v := (.int .i64 0)) (rRem 0 rfl rfl rfl (by decide) (by rw [Int.tmod_eq_emod_of_nonneg (by omega)]; omega)) ?_
   refine lc (vP b13 0) ?_
   refine lv (v := (vP bs28 0)) (rLoad 9 rfl rfl (by kernel_rfl) rfl rfl) ?_
   refine la ?_
   refine liNil (qThen (stSeq (reg ?_)))
   refine lm ?_
   refine lv (v := (vI (j + 1))) (rAdd _ rfl rfl rfl (by omega) (by omega) (by omega)) ?_
   refine la ?_
   refine liNil (qThen (stSeq (reg ?_)))
   refine lm ?_
   refine lm ?_
   refine lc (vI ((runM a b fan leaf j).length)) ?_
   refine lv (v := (vI ((runB a b fan leaf j) + (runM a b fan leaf j).length))) (rAdd _ rfl rfl rfl (by omega) (by omega) (by omega)) ?_
   refine la ?_
   refine liNil (qThen (stSeq (reg ?_)))
   refine lm ?_
   refine lm ?_
   refine li rfl ?_
   refine opK [7, 8] [cSet nm28 ((runN a b fan leaf 0 j).1), cSet om28 ((runN a b fan leaf 0 j).2)] (fun w hM hO => (rsStep_any bs28 A228 c228 b fan leaf nm28 om28 BX cX (runM a b fan leaf j) ((runN a b fan leaf 0 j).1) ((runN a b fan leaf 0 j).2) w hO (r0.goS hM [7, 8]) (((hM.keepS [7, 8] (j := 5) rfl (fun _ h => h)).and (hM.keepS [7, 8] (j := 6) rfl (fun _ h => RowIn.of_own h))).imp (fun _ h => ⟨h.1, h.2⟩)) (hM.keepS [7, 8] (j := 10) rfl (fun _ h => RowIn.of_own h)) (by assumption) (by assumption) (by assumption) (by assumption) (by assumption) (by assumption) (by assumption) (by assumption) (by omega) (by omega) (by omega)).mono ?_)
   rintro e w' ⟨B55, cb55, rfl, hP⟩
   refine ⟨_, [cSet nm28 (((runN a b fan leaf 0 j).1) ++ (stepA b fan leaf (runM a b fan leaf j)).need), cSet om28 (((runN a b fan leaf 0 j).2) ++ (stepA b fan leaf (runM a b fan leaf j)).off)], _, rfl, hP, rfl, ?_⟩; clear hP hM hO
   rw [show stepA b fan leaf (runM a b fan leaf j) = runR a b fan leaf j from hR]
   refine lm ?_
   refine lc (vL B55 ((runR a b fan leaf j).reply) cb55) ?_
   refine lc (.int .i64 (runR a b fan leaf j).err) ?_
   refine la ?_
   refine la ?_
   refine liNil (qThen (stSeq (reg ?_)))
   refine lm ?_
   refine lc (.bool (((runR a b fan leaf j).err : Int) != 0)) ?_
   refine liNil (qThen ?_)
   refine stFalseK rfl (by rw [(hK.go j hjK).2]; simp) ?_
   refine stSkip (qBlock (qThen ?_))
   have hN0 : runN a b fan leaf 0 (j + 1) = ((runN a b fan leaf 0 j).1 ++ (runR a b fan leaf j).need, (runN a b fan leaf 0 j).2 ++ (runR a b fan leaf j).off) := by rw [runN, if_pos hpar]
   have hN1 : runN a b fan leaf 1 (j + 1) = runN a b fan leaf 1 j := by rw [runN, if_neg (by omega)]
   rw [show ((runN a b fan leaf 0 j).1) ++ (runR a b fan leaf j).need = (runN a b fan leaf 0 (j + 1)).1 from by rw [hN0]]
   rw [show (runN a b fan leaf 1 j).1 = (runN a b fan leaf 1 (j + 1)).1 from by rw [hN1]]
   rw [show ((runN a b fan leaf 0 j).2) ++ (runR a b fan leaf j).off = (runN a b fan leaf 0 (j + 1)).2 from by rw [hN0]]
   rw [show (runN a b fan leaf 1 j).2 = (runN a b fan leaf 1 (j + 1)).2 from by rw [hN1]]
   rw [show (runR a b fan leaf j).reply = runM a b fan leaf (j + 1) from rfl]
   rw [show (runR a b fan leaf j).err = 0 from (hK.go j hjK).2]
   exact stAgain (j + 1, B55, cb55) (by show _ ≤ _; omega) (by show K - (j + 1) < K - j; omega) ⟨rfl, rfl, rfl, rfl, rfl, rfl, rfl, rfl, trivial⟩ (fun w hM => (hM.pick [0, 1, 2, 3, 4, 5, 6, 7, 8, 9, 11] rfl rfl))
  | false =>
   have hpar : j % 2 = 1 := by have h := of_decide_eq_false hpb; omega
   have hR : stepA a fan leaf (runM a b fan leaf j) = runR a b fan leaf j := by unfold runR sideOf; rw [if_neg (by omega)]
   refine reg ?_
   refine lm ?_
   refine lv (v := (.int .i64 1)) (rRem 1 rfl rfl rfl (by decide) (by rw [Int.tmod_eq_emod_of_nonneg (by omega)]; omega)) ?_
   refine lc (vP b13 1) ?_
   refine lv (v := (vP bs19 0)) (rLoad 9 rfl rfl (by kernel_rfl) rfl rfl) ?_
   refine la ?_
   refine liNil (qThen (stSeq (reg ?_)))
   refine lm ?_
   refine lv (v := (vI (j + 1))) (rAdd _ rfl rfl rfl (by omega) (by omega) (by omega)) ?_
   refine la ?_
   refine liNil (qThen (stSeq (reg ?_)))
   refine lm ?_
   refine lm ?_
   refine lc (vI ((runM a b fan leaf j).length)) ?_
   refine lv (v := (vI ((runB a b fan leaf j) + (runM a b fan leaf j).length))) (rAdd _ rfl rfl rfl (by omega) (by omega) (by omega)) ?_
   refine la ?_
   refine liNil (qThen (stSeq (reg ?_)))
   refine lm ?_
   refine lm ?_
   refine li rfl ?_
   refine opK [3, 4] [cSet nm19 ((runN a b fan leaf 1 j).1), cSet om19 ((runN a b fan leaf 1 j).2)] (fun w hM hO => (rsStep_any bs19 A219 c219 a fan leaf nm19 om19 BX cX (runM a b fan leaf j) ((runN a b fan leaf 1 j).1) ((runN a b fan leaf 1 j).2) w hO (r0.goS hM [3, 4]) (((hM.keepS [3, 4] (j := 1) rfl (fun _ h => h)).and (hM.keepS [3, 4] (j := 2) rfl (fun _ h => RowIn.of_own h))).imp (fun _ h => ⟨h.1, h.2⟩)) (hM.keepS [3, 4] (j := 10) rfl (fun _ h => RowIn.of_own h)) (by assumption) (by assumption) (by assumption) (by assumption) (by assumption) (by assumption) (by assumption) (by assumption) (by omega) (by omega) (by omega)).mono ?_)
   rintro e w' ⟨B55, cb55, rfl, hP⟩
   refine ⟨_, [cSet nm19 (((runN a b fan leaf 1 j).1) ++ (stepA a fan leaf (runM a b fan leaf j)).need), cSet om19 (((runN a b fan leaf 1 j).2) ++ (stepA a fan leaf (runM a b fan leaf j)).off)], _, rfl, hP, rfl, ?_⟩; clear hP hM hO
   rw [show stepA a fan leaf (runM a b fan leaf j) = runR a b fan leaf j from hR]
   refine lm ?_
   refine lc (vL B55 ((runR a b fan leaf j).reply) cb55) ?_
   refine lc (.int .i64 (runR a b fan leaf j).err) ?_
   refine la ?_
   refine la ?_
   refine liNil (qThen (stSeq (reg ?_)))
   refine lm ?_
   refine lc (.bool (((runR a b fan leaf j).err : Int) != 0)) ?_
   refine liNil (qThen ?_)
   refine stFalseK rfl (by rw [(hK.go j hjK).2]; simp) ?_
   refine stSkip (qBlock (qThen ?_))
   have hN1 : runN a b fan leaf 1 (j + 1) = ((runN a b fan leaf 1 j).1 ++ (runR a b fan leaf j).need, (runN a b fan leaf 1 j).2 ++ (runR a b fan leaf j).off) := by rw [runN, if_pos hpar]
   have hN0 : runN a b fan leaf 0 (j + 1) = runN a b fan leaf 0 j := by rw [runN, if_neg (by omega)]
   rw [show ((runN a b fan leaf 1 j).1) ++ (runR a b fan leaf j).need = (runN a b fan leaf 1 (j + 1)).1 from by rw [hN1]]
   rw [show (runN a b fan leaf 0 j).1 = (runN a b fan leaf 0 (j + 1)).1 from by rw [hN0]]
   rw [show ((runN a b fan leaf 1 j).2) ++ (runR a b fan leaf j).off = (runN a b fan leaf 1 (j + 1)).2 from by rw [hN1]]
   rw [show (runN a b fan leaf 0 j).2 = (runN a b fan leaf 0 (j + 1)).2 from by rw [hN0]]
   rw [show (runR a b fan leaf j).reply = runM a b fan leaf (j + 1) from rfl]
   rw [show (runR a b fan leaf j).err = 0 from (hK.go j hjK).2]
   exact stAgain (j + 1, B55, cb55) (by show _ ≤ _; omega) (by show K - (j + 1) < K - j; omega) ⟨rfl, rfl, rfl, rfl, rfl, rfl, rfl, rfl, trivial⟩ (fun w hM => (hM.pick [0, 1, 2, 3, 4, 5, 6, 7, 8, 9, 11] rfl rfl))
 ·have hd41 := of_decide_eq_false hc41
  have hKl := hK.le
  obtain rfl : j = K := hK.eq hok (by omega)
  have hn1 := runN_len (fan := fan) (leaf := leaf) (par := 1) hsa hsb ha4 hb4 j
  refine stExit (qThenX (qThenX (qBlockX (qThen (stSeq (reg ?_))))))
  refine lm ?_
  refine li rfl ?_
  refine opK0 (fun w hM => (rsOffer_any bs19 A219 c219 a fan leaf nm19 om19 ((runN a b fan leaf 1 j).2) w (hM.keep0 (j := 1) rfl (fun _ h => h)) (hM.keep0 (j := 4) rfl (fun _ h => h)) (by omega)).mono ?_)
  rintro e w' ⟨B62, cb62, rfl, hP⟩
  refine ⟨_, _, rfl, hP, ?_⟩; clear hP hM
  refine lm ?_
  refine li rfl ?_
  refine opK0 (fun w hM => (rsNeed_any bs19 A219 c219 a fan leaf nm19 om19 ((runN a b fan leaf 1 j).1) w (hM.keep0 (j := 1) rfl (fun _ h => h)) (hM.keep0 (j := 3) rfl (fun _ h => h)) (by omega)).mono ?_)
  rintro e w' ⟨B64, cb64, rfl, hP⟩
  refine ⟨_, _, rfl, hP, ?_⟩; clear hP hM
  refine lm ?_
  refine lm ?_
  refine la ?_
  refine la ?_
  refine la ?_
  refine la ?_
  refine la ?_
  refine liNil (qThen (stRet ?_))
  refine stEnd [(vL B62 (withL [] ((runN a b fan leaf 1 j).2)) cb62), (vL B64 (withL [] ((runN a b fan leaf 1 j).1)) cb64), (vI j), (vI (runB a b fan leaf j)), (.int .i64 0)] rfl ⟨rfl, rfl, rfl, rfl, rfl, trivial⟩ (fun w hM => ?_)
  exact ⟨B62, cb62, B64, cb64, rfl, (hM.pick [11, 12] rfl rfl)⟩
end Go.Proofs.YtlepfnihpdhcaaaGreatDoor
namespace Go.Proofs.YtlepfnihpdhcaaaGreatDoor
open Go.RowKit
theorem lsItemN_any (n : Nat) (w : World) (hn : n < 256) :
  Calls Tryz.prog 33 #[(.int .u8 ((n : Nat) : Int))] w fun e w' => e = .returned (vS (awI n)) ∧ Back [] w [] w' := by
 have h := lsItem_any (UInt8.ofNat n) w
 rw [show (UInt8.ofNat n).toNat = n from by simp; omega] at h
 exact h
theorem lsAwake_any (w : World) (r0 : Rf [] w (Vars)) :
  Calls Tryz.prog 10 #[] w fun e w' => e = .returned (.bool true) ∧ Back [] w [] w' := by
 refine stEnter (args := []) (fps []) Tryz.func10 rfl 94 rfl [] trivial [] (Mm.start w []) ?_
 refine stSeq (reg ?_)
 refine la ?_
 refine liNil (qThen (stSeq (reg ?_)))
 refine lc (.agg #[(.int .i64 2), (.int .i64 1)]) ?_
 refine li rfl ?_
 refine opAlloc [(.int .i64 0), (.int .i64 0)] rfl rfl (by kernel_rfl) (by kernel_rfl) (fun b1 => ?_)
 refine li rfl ?_
 refine opStoreN 0 [(.int .i64 2), (.int .i64 1)] (vs := [(.int .i64 2), (.int .i64 1)]) rfl rfl (by kernel_rfl) rfl rfl rfl (by kernel_rfl) rfl (by simp) (by simp [Value.oneCell']) rfl ?_
 refine liNil (qThen ?_)
 refine stCut (ι := Nat × Nat × Option Addr × Nat × Option Addr × Nat) (fun _ => True) (fun (b18, b21, B123, cb123, B223, cb223) => [(0, (.bool false)), (13, (.agg #[(.int .i64 2), (.int .i64 1)])), (1, (vP b1 0)), (22, (.agg #[(.int .i64 2), (.int .i64 1)])), (15, (vS (awI 65))), (16, (vS (awI 66))), (17, (vS (awI 67))), (18, (vL (some ⟨b18, 0, none⟩) ([(awI 65), (awI 66), (awI 67)]) 3)), (19, (vS (awI 66))), (20, (vS (awI 68))), (21, (vL (some ⟨b21, 0, none⟩) ([(awI 66), (awI 68)]) 2)), (23, (.tuple #[(vL B123 (withL [] (runN [(awI 65), (awI 66), (awI 67)] [(awI 66), (awI 68)] 2 1 1 5).2) cb123), (vL B223 (withL [] (runN [(awI 65), (awI 66), (awI 67)] [(awI 66), (awI 68)] 2 1 1 5).1) cb223), (vI 5), (vI (runB [(awI 65), (awI 66), (awI 67)] [(awI 66), (awI 68)] 2 1 5)), (.int .i64 0)])), (14, (.tuple #[(vL B123 (withL [] (runN [(awI 65), (awI 66), (awI 67)] [(awI 66), (awI 68)] 2 1 1 5).2) cb123), (vL B223 (withL [] (runN [(awI 65), (awI 66), (awI 67)] [(awI 66), (awI 68)] 2 1 1 5).1) cb223), (vI 5), (vI (runB [(awI 65), (awI 66), (awI 67)] [(awI 66), (awI 68)] 2 1 5)), (.int .i64 0)])), (24, (vL B123 (withL [] (runN [(awI 65), (awI 66), (awI 67)] [(awI 66), (awI 68)] 2 1 1 5).2) cb123)), (25, (vL B223 (withL [] (runN [(awI 65), (awI 66), (awI 67)] [(awI 66), (awI 68)] 2 1 1 5).1) cb223)), (26, (vI 5)), (27, (vI (runB [(awI 65), (awI 66), (awI 67)] [(awI 66), (awI 68)] 2 1 5))), (28, (.int .i64 0)), (2, (vL B123 (withL [] (runN [(awI 65), (awI 66), (awI 67)] [(awI 66), (awI 68)] 2 1 1 5).2) cb123)), (3, (vL B223 (withL [] (runN [(awI 65), (awI 66), (awI 67)] [(awI 66), (awI 68)] 2 1 1 5).1) cb223)), (4, (vI 5)), (5, (vI (runB [(awI 65), (awI 66), (awI 67)] [(awI 66), (awI 68)] 2 1 5))), (6, (.int .i64 0))]) (fun (b18, b21, B123, cb123, B223, cb223) => [cAt b1 33 [(.int .i64 2), (.int .i64 1)], cAt b18 9 [(vS (awI 65)), (vS (awI 66)), (vS (awI 67))], cAt b21 9 [(vS (awI 66)), (vS (awI 68))], cS B123 (withL [] (runN [(awI 65), (awI 66), (awI 67)] [(awI 66), (awI 68)] 2 1 1 5).2) cb123, cS B223 (withL [] (runN [(awI 65), (awI 66), (awI 67)] [(awI 66), (awI 68)] 2 1 1 5).1) cb223]) ?_ ?_
 ·refine St.to [cAt b1 33 [(.int .i64 2), (.int .i64 1)]] (by kernel_rfl) ?_
  refine anyBegin [cAt b1 33 [(.int .i64 2), (.int .i64 1)]] 20 (by kernel_rfl) (fun _ h => h) ?_
  refine av 7 (.agg #[(.int .i64 2), (.int .i64 1)]) rfl (rLoadA [(.int .i64 2), (.int .i64 1)] rfl rfl (by kernel_rfl) (by kernel_rfl) (segAt (i := 0) rfl (by intro j v hj; first | (rw [Nat.zero_add]; exact hj) | (match j, hj with | 0, h => exact h | 1, h => exact h)))) ?_
  refine a1 0 ?_
  refine opK0 (fun w hM => (lsItemN_any 65 w (by decide)).mono ?_)
  rintro e w' ⟨rfl, hP⟩
  refine ⟨_, _, rfl, hP, ?_⟩; clear hP hM
  refine St.to [cAt b1 33 [(.int .i64 2), (.int .i64 1)]] (by kernel_rfl) ?_
  refine anyNext [cAt b1 33 [(.int .i64 2), (.int .i64 1)]] (fun _ h => h) (fun _ h => h) ?_
  refine a1 1 ?_
  refine opK0 (fun w hM => (lsItemN_any 66 w (by decide)).mono ?_)
  rintro e w' ⟨rfl, hP⟩
  refine ⟨_, _, rfl, hP, ?_⟩; clear hP hM
  refine anyNext [cAt b1 33 [(.int .i64 2), (.int .i64 1)]] (fun _ h => h) (fun _ h => h) ?_
  refine a1 2 ?_
  refine opK0 (fun w hM => (lsItemN_any 67 w (by decide)).mono ?_)
  rintro e w' ⟨rfl, hP⟩
  refine ⟨_, _, rfl, hP, ?_⟩; clear hP hM
  refine anyNext [cAt b1 33 [(.int .i64 2), (.int .i64 1)]] (fun _ h => h) (fun _ h => h) ?_
  refine anyTwo (i := 3) (j := 4) (by kernel_rfl) rfl rfl rfl rfl ?_ ?_
  ·refine opNew (v := fun b => .slice (some ⟨b, 0, none⟩) 3 3) 9 [(vS (awI 65)), (vS (awI 66)), (vS (awI 67))] rfl (by kernel_rfl) (fun _ => by kernel_rfl) (fun b18 => ?_)
   refine anyNext [cAt b1 33 [(.int .i64 2), (.int .i64 1)], cAt b18 9 [(vS (awI 65)), (vS (awI 66)), (vS (awI 67))]] (fun _ h => h.pick [0] rfl rfl) (fun _ h => h) ?_
   refine a1 4 ?_
   refine opK0 (fun w hM => (lsItemN_any 66 w (by decide)).mono ?_)
   rintro e w' ⟨rfl, hP⟩
   refine ⟨_, _, rfl, hP, ?_⟩; clear hP hM
   refine anyNext [cAt b1 33 [(.int .i64 2), (.int .i64 1)], cAt b18 9 [(vS (awI 65)), (vS (awI 66)), (vS (awI 67))]] (fun _ h => h) (fun _ h => h) ?_
   refine a1 5 ?_
   refine opK0 (fun w hM => (lsItemN_any 68 w (by decide)).mono ?_)
   rintro e w' ⟨rfl, hP⟩
   refine ⟨_, _, rfl, hP, ?_⟩; clear hP hM
   refine anyNext [cAt b1 33 [(.int .i64 2), (.int .i64 1)], cAt b18 9 [(vS (awI 65)), (vS (awI 66)), (vS (awI 67))]] (fun _ h => h) (fun _ h => h) ?_
   refine a1 6 ?_
   refine opNew (v := fun b => .slice (some ⟨b, 0, none⟩) 2 2) 9 [(vS (awI 66)), (vS (awI 68))] rfl (by kernel_rfl) (fun _ => by kernel_rfl) (fun b21 => ?_)
   refine St.to [cAt b1 33 [(.int .i64 2), (.int .i64 1)], cAt b18 9 [(vS (awI 65)), (vS (awI 66)), (vS (awI 67))], cAt b21 9 [(vS (awI 66)), (vS (awI 68))]] (by kernel_rfl) ?_
   refine anyNext [cAt b1 33 [(.int .i64 2), (.int .i64 1)], cAt b18 9 [(vS (awI 65)), (vS (awI 66)), (vS (awI 67))], cAt b21 9 [(vS (awI 66)), (vS (awI 68))]] (fun _ h => h.pick [0, 1] rfl rfl) (fun _ h => h) ?_
   refine a1 8 ?_
   refine opK0 (fun w hM => (rsRun_ok (some ⟨b18, 0, none⟩) 3 [(awI 65), (awI 66), (awI 67)] (some ⟨b21, 0, none⟩) 2 [(awI 66), (awI 68)] 2 1 5 w (r0.go0 hM) (hM.keep0 (j := 1) rfl (fun _ h => rowAtI h rfl)) (hM.keep0 (j := 2) rfl (fun _ h => rowAtI h rfl)) (by decide) (by decide) (by decide) (by decide) (by decide) (aw_sets.ha) (aw_sets.hb) (by decide) (by decide) (aw_ends)).mono ?_)
   rintro e w' ⟨B123, cb123, B223, cb223, rfl, hP⟩
   refine ⟨_, _, rfl, hP, ?_⟩; clear hP hM
   refine anyNext [cAt b1 33 [(.int .i64 2), (.int .i64 1)], cAt b18 9 [(vS (awI 65)), (vS (awI 66)), (vS (awI 67))], cAt b21 9 [(vS (awI 66)), (vS (awI 68))], cS B123 (withL [] (runN [(awI 65), (awI 66), (awI 67)] [(awI 66), (awI 68)] 2 1 1 5).2) cb123, cS B223 (withL [] (runN [(awI 65), (awI 66), (awI 67)] [(awI 66), (awI 68)] 2 1 1 5).1) cb223] (fun _ h => h.pick [0, 1, 2] rfl rfl) (fun _ h => h) ?_
   refine am 9 ?_
   refine ac 10 (vL B123 (withL [] (runN [(awI 65), (awI 66), (awI 67)] [(awI 66), (awI 68)] 2 1 1 5).2) cb123) ?_
   refine ac 11 (vL B223 (withL [] (runN [(awI 65), (awI 66), (awI 67)] [(awI 66), (awI 68)] 2 1 1 5).1) cb223) ?_
   refine ac 12 (vI 5) ?_
   refine ac 13 (vI (runB [(awI 65), (awI 66), (awI 67)] [(awI 66), (awI 68)] 2 1 5)) ?_
   refine ac 14 (.int .i64 0) ?_
   refine aa 15 ?_
   refine aa 16 ?_
   refine aa 17 ?_
   refine aa 18 ?_
   refine aa 19 ?_
   refine anyDone (by kernel_rfl) ?_
   refine qThen ?_
   exact stMeet (b18, b21, B123, cb123, B223, cb223) trivial ⟨rfl, rfl, rfl, rfl, rfl, rfl, rfl, rfl, rfl, rfl, rfl, rfl, rfl, rfl, rfl, rfl, rfl, rfl, rfl, rfl, rfl, rfl, rfl, trivial⟩ (fun _ h => h)
  ·refine opK0 (fun w hM => (lsItemN_any 66 w (by decide)).mono ?_)
   rintro e w' ⟨rfl, hP⟩
   refine ⟨_, _, rfl, hP, ?_⟩; clear hP hM
   refine anyNext [cAt b1 33 [(.int .i64 2), (.int .i64 1)]] (fun _ h => h) (fun _ h => h) ?_
   refine anyTwo (i := 3) (j := 5) (by kernel_rfl) rfl rfl rfl rfl ?_ ?_
   ·refine opNew (v := fun b => .slice (some ⟨b, 0, none⟩) 3 3) 9 [(vS (awI 65)), (vS (awI 66)), (vS (awI 67))] rfl (by kernel_rfl) (fun _ => by kernel_rfl) (fun b18 => ?_)
    refine anyNext [cAt b1 33 [(.int .i64 2), (.int .i64 1)], cAt b18 9 [(vS (awI 65)), (vS (awI 66)), (vS (awI 67))]] (fun _ h => h.pick [0] rfl rfl) (fun _ h => h) ?_
    refine a1 5 ?_
    refine opK0 (fun w hM => (lsItemN_any 68 w (by decide)).mono ?_)
    rintro e w' ⟨rfl, hP⟩
    refine ⟨_, _, rfl, hP, ?_⟩; clear hP hM
    refine anyNext [cAt b1 33 [(.int .i64 2), (.int .i64 1)], cAt b18 9 [(vS (awI 65)), (vS (awI 66)), (vS (awI 67))]] (fun _ h => h) (fun _ h => h) ?_
    refine a1 6 ?_
    refine opNew (v := fun b => .slice (some ⟨b, 0, none⟩) 2 2) 9 [(vS (awI 66)), (vS (awI 68))] rfl (by kernel_rfl) (fun _ => by kernel_rfl) (fun b21 => ?_)
    refine anyNext [cAt b1 33 [(.int .i64 2), (.int .i64 1)], cAt b18 9 [(vS (awI 65)), (vS (awI 66)), (vS (awI 67))], cAt b21 9 [(vS (awI 66)), (vS (awI 68))]] (fun _ h => h.pick [0, 1] rfl rfl) (fun _ h => h) ?_
    refine a1 8 ?_
    refine opK0 (fun w hM => (rsRun_ok (some ⟨b18, 0, none⟩) 3 [(awI 65), (awI 66), (awI 67)] (some ⟨b21, 0, none⟩) 2 [(awI 66), (awI 68)] 2 1 5 w (r0.go0 hM) (hM.keep0 (j := 1) rfl (fun _ h => rowAtI h rfl)) (hM.keep0 (j := 2) rfl (fun _ h => rowAtI h rfl)) (by decide) (by decide) (by decide) (by decide) (by decide) (aw_sets.ha) (aw_sets.hb) (by decide) (by decide) (aw_ends)).mono ?_)
    rintro e w' ⟨B123, cb123, B223, cb223, rfl, hP⟩
    refine ⟨_, _, rfl, hP, ?_⟩; clear hP hM
    refine St.to [cAt b1 33 [(.int .i64 2), (.int .i64 1)], cAt b18 9 [(vS (awI 65)), (vS (awI 66)), (vS (awI 67))], cAt b21 9 [(vS (awI 66)), (vS (awI 68))], cS B123 (withL [] (runN [(awI 65), (awI 66), (awI 67)] [(awI 66), (awI 68)] 2 1 1 5).2) cb123, cS B223 (withL [] (runN [(awI 65), (awI 66), (awI 67)] [(awI 66), (awI 68)] 2 1 1 5).1) cb223] (by kernel_rfl) ?_
    refine anyNext [cAt b1 33 [(.int .i64 2), (.int .i64 1)], cAt b18 9 [(vS (awI 65)), (vS (awI 66)), (vS (awI 67))], cAt b21 9 [(vS (awI 66)), (vS (awI 68))], cS B123 (withL [] (runN [(awI 65), (awI 66), (awI 67)] [(awI 66), (awI 68)] 2 1 1 5).2) cb123, cS B223 (withL [] (runN [(awI 65), (awI 66), (awI 67)] [(awI 66), (awI 68)] 2 1 1 5).1) cb223] (fun _ h => h.pick [0, 1, 2] rfl rfl) (fun _ h => h) ?_
    refine am 9 ?_
    refine ac 10 (vL B123 (withL [] (runN [(awI 65), (awI 66), (awI 67)] [(awI 66), (awI 68)] 2 1 1 5).2) cb123) ?_
    refine ac 11 (vL B223 (withL [] (runN [(awI 65), (awI 66), (awI 67)] [(awI 66), (awI 68)] 2 1 1 5).1) cb223) ?_
    refine ac 12 (vI 5) ?_
    refine ac 13 (vI (runB [(awI 65), (awI 66), (awI 67)] [(awI 66), (awI 68)] 2 1 5)) ?_
    refine ac 14 (.int .i64 0) ?_
    refine aa 15 ?_
    refine aa 16 ?_
    refine aa 17 ?_
    refine aa 18 ?_
    refine aa 19 ?_
    refine anyDone (by kernel_rfl) ?_
    refine qThen ?_
    exact stMeet (b18, b21, B123, cb123, B223, cb223) trivial ⟨rfl, rfl, rfl, rfl, rfl, rfl, rfl, rfl, rfl, rfl, rfl, rfl, rfl, rfl, rfl, rfl, rfl, rfl, rfl, rfl, rfl, rfl, rfl, trivial⟩ (fun _ h => h)
   ·refine opK0 (fun w hM => (lsItemN_any 68 w (by decide)).mono ?_)
    rintro e w' ⟨rfl, hP⟩
    refine ⟨_, _, rfl, hP, ?_⟩; clear hP hM
    refine anyNext [cAt b1 33 [(.int .i64 2), (.int .i64 1)]] (fun _ h => h) (fun _ h => h) ?_
    refine anyTwo (i := 3) (j := 6) (by kernel_rfl) rfl rfl rfl rfl ?_ ?_
    ·refine opNew (v := fun b => .slice (some ⟨b, 0, none⟩) 3 3) 9 [(vS (awI 65)), (vS (awI 66)), (vS (awI 67))] rfl (by kernel_rfl) (fun _ => by kernel_rfl) (fun b18 => ?_)
     refine anyNext [cAt b1 33 [(.int .i64 2), (.int .i64 1)], cAt b18 9 [(vS (awI 65)), (vS (awI 66)), (vS (awI 67))]] (fun _ h => h.pick [0] rfl rfl) (fun _ h => h) ?_
     refine a1 6 ?_
     refine opNew (v := fun b => .slice (some ⟨b, 0, none⟩) 2 2) 9 [(vS (awI 66)), (vS (awI 68))] rfl (by kernel_rfl) (fun _ => by kernel_rfl) (fun b21 => ?_)
     refine anyNext [cAt b1 33 [(.int .i64 2), (.int .i64 1)], cAt b18 9 [(vS (awI 65)), (vS (awI 66)), (vS (awI 67))], cAt b21 9 [(vS (awI 66)), (vS (awI 68))]] (fun _ h => h.pick [0, 1] rfl rfl) (fun _ h => h) ?_
     refine a1 8 ?_
     refine opK0 (fun w hM => (rsRun_ok (some ⟨b18, 0, none⟩) 3 [(awI 65), (awI 66), (awI 67)] (some ⟨b21, 0, none⟩) 2 [(awI 66), (awI 68)] 2 1 5 w (r0.go0 hM) (hM.keep0 (j := 1) rfl (fun _ h => rowAtI h rfl)) (hM.keep0 (j := 2) rfl (fun _ h => rowAtI h rfl)) (by decide) (by decide) (by decide) (by decide) (by decide) (aw_sets.ha) (aw_sets.hb) (by decide) (by decide) (aw_ends)).mono ?_)
     rintro e w' ⟨B123, cb123, B223, cb223, rfl, hP⟩
     refine ⟨_, _, rfl, hP, ?_⟩; clear hP hM
     refine anyNext [cAt b1 33 [(.int .i64 2), (.int .i64 1)], cAt b18 9 [(vS (awI 65)), (vS (awI 66)), (vS (awI 67))], cAt b21 9 [(vS (awI 66)), (vS (awI 68))], cS B123 (withL [] (runN [(awI 65), (awI 66), (awI 67)] [(awI 66), (awI 68)] 2 1 1 5).2) cb123, cS B223 (withL [] (runN [(awI 65), (awI 66), (awI 67)] [(awI 66), (awI 68)] 2 1 1 5).1) cb223] (fun _ h => h.pick [0, 1, 2] rfl rfl) (fun _ h => h) ?_
     refine am 9 ?_
     refine ac 10 (vL B123 (withL [] (runN [(awI 65), (awI 66), (awI 67)] [(awI 66), (awI 68)] 2 1 1 5).2) cb123) ?_
     refine ac 11 (vL B223 (withL [] (runN [(awI 65), (awI 66), (awI 67)] [(awI 66), (awI 68)] 2 1 1 5).1) cb223) ?_
     refine ac 12 (vI 5) ?_
     refine ac 13 (vI (runB [(awI 65), (awI 66), (awI 67)] [(awI 66), (awI 68)] 2 1 5)) ?_
     refine ac 14 (.int .i64 0) ?_
     refine aa 15 ?_
     refine aa 16 ?_
     refine aa 17 ?_
     refine aa 18 ?_
     refine aa 19 ?_
     refine anyDone (by kernel_rfl) ?_
     refine qThen ?_
     exact stMeet (b18, b21, B123, cb123, B223, cb223) trivial ⟨rfl, rfl, rfl, rfl, rfl, rfl, rfl, rfl, rfl, rfl, rfl, rfl, rfl, rfl, rfl, rfl, rfl, rfl, rfl, rfl, rfl, rfl, rfl, trivial⟩ (fun _ h => h)
    ·refine opNew (v := fun b => .slice (some ⟨b, 0, none⟩) 2 2) 9 [(vS (awI 66)), (vS (awI 68))] rfl (by kernel_rfl) (fun _ => by kernel_rfl) (fun b21 => ?_)
     refine anyNext [cAt b1 33 [(.int .i64 2), (.int .i64 1)], cAt b21 9 [(vS (awI 66)), (vS (awI 68))]] (fun _ h => h.pick [0] rfl rfl) (fun _ h => h) ?_
     refine a1 3 ?_
     refine opNew (v := fun b => .slice (some ⟨b, 0, none⟩) 3 3) 9 [(vS (awI 65)), (vS (awI 66)), (vS (awI 67))] rfl (by kernel_rfl) (fun _ => by kernel_rfl) (fun b18 => ?_)
     refine St.to [cAt b1 33 [(.int .i64 2), (.int .i64 1)], cAt b21 9 [(vS (awI 66)), (vS (awI 68))], cAt b18 9 [(vS (awI 65)), (vS (awI 66)), (vS (awI 67))]] (by kernel_rfl) ?_
     refine anyNext [cAt b1 33 [(.int .i64 2), (.int .i64 1)], cAt b21 9 [(vS (awI 66)), (vS (awI 68))], cAt b18 9 [(vS (awI 65)), (vS (awI 66)), (vS (awI 67))]] (fun _ h => h.pick [0, 1] rfl rfl) (fun _ h => h) ?_
     refine a1 8 ?_
     refine opK0 (fun w hM => (rsRun_ok (some ⟨b18, 0, none⟩) 3 [(awI 65), (awI 66), (awI 67)] (some ⟨b21, 0, none⟩) 2 [(awI 66), (awI 68)] 2 1 5 w (r0.go0 hM) (hM.keep0 (j := 2) rfl (fun _ h => rowAtI h rfl)) (hM.keep0 (j := 1) rfl (fun _ h => rowAtI h rfl)) (by decide) (by decide) (by decide) (by decide) (by decide) (aw_sets.ha) (aw_sets.hb) (by decide) (by decide) (aw_ends)).mono ?_)
     rintro e w' ⟨B123, cb123, B223, cb223, rfl, hP⟩
     refine ⟨_, _, rfl, hP, ?_⟩; clear hP hM
     refine anyNext [cAt b1 33 [(.int .i64 2), (.int .i64 1)], cAt b21 9 [(vS (awI 66)), (vS (awI 68))], cAt b18 9 [(vS (awI 65)), (vS (awI 66)), (vS (awI 67))], cS B123 (withL [] (runN [(awI 65), (awI 66), (awI 67)] [(awI 66), (awI 68)] 2 1 1 5).2) cb123, cS B223 (withL [] (runN [(awI 65), (awI 66), (awI 67)] [(awI 66), (awI 68)] 2 1 1 5).1) cb223] (fun _ h => h.pick [0, 1, 2] rfl rfl) (fun _ h => h) ?_
     refine am 9 ?_
     refine ac 10 (vL B123 (withL [] (runN [(awI 65), (awI 66), (awI 67)] [(awI 66), (awI 68)] 2 1 1 5).2) cb123) ?_
     refine ac 11 (vL B223 (withL [] (runN [(awI 65), (awI 66), (awI 67)] [(awI 66), (awI 68)] 2 1 1 5).1) cb223) ?_
     refine ac 12 (vI 5) ?_
     refine ac 13 (vI (runB [(awI 65), (awI 66), (awI 67)] [(awI 66), (awI 68)] 2 1 5)) ?_
     refine ac 14 (.int .i64 0) ?_
     refine aa 15 ?_
     refine aa 16 ?_
     refine aa 17 ?_
     refine aa 18 ?_
     refine aa 19 ?_
     refine anyDone (by kernel_rfl) ?_
     refine qThen ?_
     exact stMeet (b18, b21, B123, cb123, B223, cb223) trivial ⟨rfl, rfl, rfl, rfl, rfl, rfl, rfl, rfl, rfl, rfl, rfl, rfl, rfl, rfl, rfl, rfl, rfl, rfl, rfl, rfl, rfl, rfl, rfl, trivial⟩ (fun _ h => h.pick [0, 2, 1, 3, 4] rfl rfl)
 ·rintro ⟨b18, b21, B123, cb123, B223, cb223⟩ -
  show St _ _ _ [(0, (.bool false)), (13, (.agg #[(.int .i64 2), (.int .i64 1)])), (1, (vP b1 0)), (22, (.agg #[(.int .i64 2), (.int .i64 1)])), (15, (vS (awI 65))), (16, (vS (awI 66))), (17, (vS (awI 67))), (18, (vL (some ⟨b18, 0, none⟩) ([(awI 65), (awI 66), (awI 67)]) 3)), (19, (vS (awI 66))), (20, (vS (awI 68))), (21, (vL (some ⟨b21, 0, none⟩) ([(awI 66), (awI 68)]) 2)), (23, (.tuple #[(vL B123 (withL [] (runN [(awI 65), (awI 66), (awI 67)] [(awI 66), (awI 68)] 2 1 1 5).2) cb123), (vL B223 (withL [] (runN [(awI 65), (awI 66), (awI 67)] [(awI 66), (awI 68)] 2 1 1 5).1) cb223), (vI 5), (vI (runB [(awI 65), (awI 66), (awI 67)] [(awI 66), (awI 68)] 2 1 5)), (.int .i64 0)])), (14, (.tuple #[(vL B123 (withL [] (runN [(awI 65), (awI 66), (awI 67)] [(awI 66), (awI 68)] 2 1 1 5).2) cb123), (vL B223 (withL [] (runN [(awI 65), (awI 66), (awI 67)] [(awI 66), (awI 68)] 2 1 1 5).1) cb223), (vI 5), (vI (runB [(awI 65), (awI 66), (awI 67)] [(awI 66), (awI 68)] 2 1 5)), (.int .i64 0)])), (24, (vL B123 (withL [] (runN [(awI 65), (awI 66), (awI 67)] [(awI 66), (awI 68)] 2 1 1 5).2) cb123)), (25, (vL B223 (withL [] (runN [(awI 65), (awI 66), (awI 67)] [(awI 66), (awI 68)] 2 1 1 5).1) cb223)), (26, (vI 5)), (27, (vI (runB [(awI 65), (awI 66), (awI 67)] [(awI 66), (awI 68)] 2 1 5))), (28, (.int .i64 0)), (2, (vL B123 (withL [] (runN [(awI 65), (awI 66), (awI 67)] [(awI 66), (awI 68)] 2 1 1 5).2) cb123)), (3, (vL B223 (withL [] (runN [(awI 65), (awI 66), (awI 67)] [(awI 66), (awI 68)] 2 1 1 5).1) cb223)), (4, (vI 5)), (5, (vI (runB [(awI 65), (awI 66), (awI 67)] [(awI 66), (awI 68)] 2 1 5))), (6, (.int .i64 0))] [cAt b1 33 [(.int .i64 2), (.int .i64 1)], cAt b18 9 [(vS (awI 65)), (vS (awI 66)), (vS (awI 67))], cAt b21 9 [(vS (awI 66)), (vS (awI 68))], cS B123 (withL [] (runN [(awI 65), (awI 66), (awI 67)] [(awI 66), (awI 68)] 2 1 1 5).2) cb123, cS B223 (withL [] (runN [(awI 65), (awI 66), (awI 67)] [(awI 66), (awI 68)] 2 1 1 5).1) cb223] _
  refine stSeq (reg ?_)
  refine lv (v := (.agg #[(.int .i64 2), (.int .i64 1)])) (rLoadA [(.int .i64 2), (.int .i64 1)] rfl rfl (by kernel_rfl) (by kernel_rfl) (segAt (i := 0) rfl (by intro j v hj; first | (rw [Nat.zero_add]; exact hj) | (match j, hj with | 0, h => exact h | 1, h => exact h)))) ?_
  refine li rfl ?_
  refine opK0 (fun w hM => (rsBound_ok 3 2 1 w (by decide) (by decide) (by decide) (by decide) (by decide) (by decide)).mono ?_)
  rintro e w' ⟨rfl, hP⟩
  refine ⟨_, _, rfl, hP, ?_⟩; clear hP hM
  refine lm ?_
  refine lc (vI (2 * depthN 2 1 3 + 3)) ?_
  refine lc (.int .i64 0) ?_
  refine la ?_
  refine la ?_
  refine liNil (qThen (stSeq ?_))
  refine anyBegin [cAt b1 33 [(.int .i64 2), (.int .i64 1)], cAt b18 9 [(vS (awI 65)), (vS (awI 66)), (vS (awI 67))], cAt b21 9 [(vS (awI 66)), (vS (awI 68))], cS B123 (withL [] (runN [(awI 65), (awI 66), (awI 67)] [(awI 66), (awI 68)] 2 1 1 5).2) cb123, cS B223 (withL [] (runN [(awI 65), (awI 66), (awI 67)] [(awI 66), (awI 68)] 2 1 1 5).1) cb223] 9 (by kernel_rfl) (fun _ h => h) ?_
  refine av 2 (.agg #[(.int .i64 2), (.int .i64 1)]) rfl (rLoadA [(.int .i64 2), (.int .i64 1)] rfl rfl (by kernel_rfl) (by kernel_rfl) (segAt (i := 0) rfl (by intro j v hj; first | (rw [Nat.zero_add]; exact hj) | (match j, hj with | 0, h => exact h | 1, h => exact h)))) ?_
  refine a1 0 ?_
  refine opK0 (fun w hM => (lsItemN_any 65 w (by decide)).mono ?_)
  rintro e w' ⟨rfl, hP⟩
  refine ⟨_, _, rfl, hP, ?_⟩; clear hP hM
  refine St.to [cAt b1 33 [(.int .i64 2), (.int .i64 1)], cAt b18 9 [(vS (awI 65)), (vS (awI 66)), (vS (awI 67))], cAt b21 9 [(vS (awI 66)), (vS (awI 68))], cS B123 (withL [] (runN [(awI 65), (awI 66), (awI 67)] [(awI 66), (awI 68)] 2 1 1 5).2) cb123, cS B223 (withL [] (runN [(awI 65), (awI 66), (awI 67)] [(awI 66), (awI 68)] 2 1 1 5).1) cb223] (by kernel_rfl) ?_
  refine anyNext [cAt b1 33 [(.int .i64 2), (.int .i64 1)], cAt b18 9 [(vS (awI 65)), (vS (awI 66)), (vS (awI 67))], cAt b21 9 [(vS (awI 66)), (vS (awI 68))], cS B123 (withL [] (runN [(awI 65), (awI 66), (awI 67)] [(awI 66), (awI 68)] 2 1 1 5).2) cb123, cS B223 (withL [] (runN [(awI 65), (awI 66), (awI 67)] [(awI 66), (awI 68)] 2 1 1 5).1) cb223] (fun _ h => h) (fun _ h => h) ?_
  refine a1 1 ?_
  refine opNew (v := fun b => .slice (some ⟨b, 0, none⟩) 1 1) 9 [(vS (awI 65))] rfl (by kernel_rfl) (fun _ => by kernel_rfl) (fun b36 => ?_)
  refine anyNext [cAt b1 33 [(.int .i64 2), (.int .i64 1)], cAt b18 9 [(vS (awI 65)), (vS (awI 66)), (vS (awI 67))], cAt b21 9 [(vS (awI 66)), (vS (awI 68))], cS B123 (withL [] (runN [(awI 65), (awI 66), (awI 67)] [(awI 66), (awI 68)] 2 1 1 5).2) cb123, cS B223 (withL [] (runN [(awI 65), (awI 66), (awI 67)] [(awI 66), (awI 68)] 2 1 1 5).1) cb223, cAt b36 9 [(vS (awI 65))]] (fun _ h => h.pick [0, 1, 2, 3, 4] rfl rfl) (fun _ h => h) ?_
  refine a1 3 ?_
  refine opK0 (fun w hM => (rsNew_ok (some ⟨b36, 0, none⟩) 1 [(awI 65)] 2 1 w (hM.keep0 (j := 5) rfl (fun _ h => rowAtI h rfl)) (by decide) (by decide) (setE_ok (by decide) aw_one)).mono ?_)
  rintro e w' ⟨bs38, A238, c238, nm38, om38, rfl, hP⟩
  refine ⟨_, _, rfl, hP, ?_⟩; clear hP hM
  refine anyNext [cAt b1 33 [(.int .i64 2), (.int .i64 1)], cAt b18 9 [(vS (awI 65)), (vS (awI 66)), (vS (awI 67))], cAt b21 9 [(vS (awI 66)), (vS (awI 68))], cS B123 (withL [] (runN [(awI 65), (awI 66), (awI 67)] [(awI 66), (awI 68)] 2 1 1 5).2) cb123, cS B223 (withL [] (runN [(awI 65), (awI 66), (awI 67)] [(awI 66), (awI 68)] 2 1 1 5).1) cb223, cAt b36 9 [(vS (awI 65))], cAt bs38 66 [(.slice A238 ([(awI 65)].length) (c238)), (vI 2), (vI 1), (.map (some nm38)), (.map (some om38))], cOwn 9 1 A238 ([(awI 65)].length) (c238) (SS [(awI 65)]), cSet nm38 ([]), cSet om38 ([])] (fun _ h => h.pick [0, 1, 2, 3, 4, 5] rfl rfl) (fun _ h => h) ?_
  refine am 4 ?_
  refine ac 5 (vP bs38 0) ?_
  refine ac 6 (.int .i64 0) ?_
  refine aa 7 ?_
  refine aa 8 ?_
  refine anyDone (by kernel_rfl) ?_
  refine qThen (stSeq (stSeq (reg ?_)))
  refine lm ?_
  refine lc (.bool false) ?_
  refine lm ?_
  refine lgm ?_
  refine lgc (.bool false) ?_
  refine lc (.bool false) ?_
  refine lm ?_
  refine lgm ?_
  refine lgc (.bool false) ?_
  refine lc (.bool false) ?_
  refine lm ?_
  refine lgm ?_
  refine lgc (.bool false) ?_
  refine lc (.bool false) ?_
  refine liNil (qThen (stFalse rfl (stSkip (qThen (stSeq ?_)))))
  refine St.fact (fun w hM => own_cap (hM.at (i := 7) rfl)) (fun hcap => ?_)
  refine reg ?_
  refine lm ?_
  refine li rfl ?_
  refine opNew (v := fun b => .slice (some ⟨b, 0, none⟩) 1 1) 5 [(.int .u8 0)] rfl (by kernel_rfl) (fun _ => by kernel_rfl) (fun b57 => ?_)
  refine li rfl ?_
  refine opK [8, 9] [cSet nm38 ([]), cSet om38 ([])] (fun w hM hO => (rsStep_any bs38 A238 c238 [(awI 65)] 2 1 nm38 om38 (some ⟨b57, 0, none⟩) 1 [(0 : UInt8)] [] [] w hO (r0.goS hM [8, 9]) (((hM.keepS [8, 9] (j := 6) rfl (fun _ h => h)).and (hM.keepS [8, 9] (j := 7) rfl (fun _ h => RowIn.of_own h))).imp (fun _ h => ⟨h.1, h.2⟩)) (hM.keepS [8, 9] (j := 10) rfl (fun _ h => rowAtI h rfl)) (aw_one) (by decide) (hcap) (by decide) (by decide) (by decide) (by decide) (by decide) (by decide) (by decide) (by decide)).mono ?_)
  rintro e w' ⟨B58, cb58, rfl, hP⟩
  refine ⟨_, [cSet nm38 ([] ++ (stepA [(awI 65)] 2 1 [(0 : UInt8)]).need), cSet om38 ([] ++ (stepA [(awI 65)] 2 1 [(0 : UInt8)]).off)], _, rfl, hP, rfl, ?_⟩; clear hP hM hO
  refine lm ?_
  refine lc (vL B58 ((stepA [(awI 65)] 2 1 [(0 : UInt8)]).reply) cb58) ?_
  refine lc (.int .i64 (stepA [(awI 65)] 2 1 [(0 : UInt8)]).err) ?_
  refine la ?_
  refine la ?_
  refine liNil (qThen (stSeq ?_))
  refine St.to [cAt b1 33 [(.int .i64 2), (.int .i64 1)], cAt b18 9 [(vS (awI 65)), (vS (awI 66)), (vS (awI 67))], cAt b21 9 [(vS (awI 66)), (vS (awI 68))], cS B123 (withL [] (runN [(awI 65), (awI 66), (awI 67)] [(awI 66), (awI 68)] 2 1 1 5).2) cb123, cS B223 (withL [] (runN [(awI 65), (awI 66), (awI 67)] [(awI 66), (awI 68)] 2 1 1 5).1) cb223, cAt b36 9 [(vS (awI 65))], cAt bs38 66 [(.slice A238 ([(awI 65)].length) (c238)), (vI 2), (vI 1), (.map (some nm38)), (.map (some om38))], cOwn 9 1 A238 ([(awI 65)].length) (c238) (SS [(awI 65)]), cSet nm38 ([] ++ (stepA [(awI 65)] 2 1 [(0 : UInt8)]).need), cSet om38 ([] ++ (stepA [(awI 65)] 2 1 [(0 : UInt8)]).off), cAt b57 5 [(.int .u8 0)], cB B58 ((stepA [(awI 65)] 2 1 [(0 : UInt8)]).reply) cb58] (by kernel_rfl) ?_
  refine reg ?_
  refine lm ?_
  refine li rfl ?_
  refine opK0 (fun w hM => (lsItemN_any 65 w (by decide)).mono ?_)
  rintro e w' ⟨rfl, hP⟩
  refine ⟨_, _, rfl, hP, ?_⟩; clear hP hM
  refine li rfl ?_
  refine opK0 (fun w hM => (lsItemN_any 67 w (by decide)).mono ?_)
  rintro e w' ⟨rfl, hP⟩
  refine ⟨_, _, rfl, hP, ?_⟩; clear hP hM
  refine li rfl ?_
  refine opNew (v := fun b => .slice (some ⟨b, 0, none⟩) 2 2) 9 [(vS (awI 65)), (vS (awI 67))] rfl (by kernel_rfl) (fun _ => by kernel_rfl) (fun b64 => ?_)
  refine li rfl ?_
  refine opK0 (fun w hM => (lsSame_any B123 cb123 (withL [] (runN [(awI 65), (awI 66), (awI 67)] [(awI 66), (awI 68)] 2 1 1 5).2) (some ⟨b64, 0, none⟩) 2 [(awI 65), (awI 67)] w (hM.keep0 (j := 3) rfl (fun _ h => RowIn.of_own h)) (hM.keep0 (j := 12) rfl (fun _ h => rowAtI h rfl)) (by rw [aw_off]; decide) (by decide)).mono ?_)
  rintro e w' ⟨rfl, hP⟩
  refine ⟨_, _, rfl, hP, ?_⟩; clear hP hM
  refine lm ?_
  refine St.known 66 (b' := true) rfl (decide_eq_true aw_off) ?_
  refine lgm ?_
  refine liGo rfl rfl ?_
  refine opK0 (fun w hM => (lsItemN_any 68 w (by decide)).mono ?_)
  rintro e w' ⟨rfl, hP⟩
  refine ⟨_, _, rfl, hP, ?_⟩; clear hP hM
  refine liGo rfl rfl ?_
  refine opNew (v := fun b => .slice (some ⟨b, 0, none⟩) 1 1) 9 [(vS (awI 68))] rfl (by kernel_rfl) (fun _ => by kernel_rfl) (fun b69 => ?_)
  refine St.to [cAt b1 33 [(.int .i64 2), (.int .i64 1)], cAt b18 9 [(vS (awI 65)), (vS (awI 66)), (vS (awI 67))], cAt b21 9 [(vS (awI 66)), (vS (awI 68))], cS B123 (withL [] (runN [(awI 65), (awI 66), (awI 67)] [(awI 66), (awI 68)] 2 1 1 5).2) cb123, cS B223 (withL [] (runN [(awI 65), (awI 66), (awI 67)] [(awI 66), (awI 68)] 2 1 1 5).1) cb223, cAt b36 9 [(vS (awI 65))], cAt bs38 66 [(.slice A238 ([(awI 65)].length) (c238)), (vI 2), (vI 1), (.map (some nm38)), (.map (some om38))], cOwn 9 1 A238 ([(awI 65)].length) (c238) (SS [(awI 65)]), cSet nm38 ([] ++ (stepA [(awI 65)] 2 1 [(0 : UInt8)]).need), cSet om38 ([] ++ (stepA [(awI 65)] 2 1 [(0 : UInt8)]).off), cAt b57 5 [(.int .u8 0)], cB B58 ((stepA [(awI 65)] 2 1 [(0 : UInt8)]).reply) cb58, cAt b64 9 [(vS (awI 65)), (vS (awI 67))], cAt b69 9 [(vS (awI 68))]] (by kernel_rfl) ?_
  refine liGo rfl rfl ?_
  refine opK0 (fun w hM => (lsSame_any B223 cb223 (withL [] (runN [(awI 65), (awI 66), (awI 67)] [(awI 66), (awI 68)] 2 1 1 5).1) (some ⟨b69, 0, none⟩) 1 [(awI 68)] w (hM.keep0 (j := 4) rfl (fun _ h => RowIn.of_own h)) (hM.keep0 (j := 13) rfl (fun _ h => rowAtI h rfl)) (by rw [aw_need]; decide) (by decide)).mono ?_)
  rintro e w' ⟨rfl, hP⟩
  refine ⟨_, _, rfl, hP, ?_⟩; clear hP hM
  refine lc (.bool (decide ((withL [] (runN [(awI 65), (awI 66), (awI 67)] [(awI 66), (awI 68)] 2 1 1 5).1) = [(awI 68)]))) ?_
  refine lm ?_
  refine St.known 72 (b' := true) rfl (decide_eq_true aw_need) ?_
  refine lgm ?_
  refine lgc (.bool true) ?_
  refine lc (.bool true) ?_
  refine lm ?_
  refine lgm ?_
  refine lgc (.bool (decide ((((runB [(awI 65), (awI 66), (awI 67)] [(awI 66), (awI 68)] 2 1 5) : Nat) : Int) > 0))) ?_
  refine lc (.bool (decide ((((runB [(awI 65), (awI 66), (awI 67)] [(awI 66), (awI 68)] 2 1 5) : Nat) : Int) > 0))) ?_
  refine lm ?_
  refine St.known 80 (b' := true) rfl (by have h := aw_bytes; simp; omega) ?_
  refine lgm ?_
  refine lgc (.bool (((((2 * depthN 2 1 3 + 3) : Nat) : Int) : Int) == 7)) ?_
  refine lc (.bool (((((2 * depthN 2 1 3 + 3) : Nat) : Int) : Int) == 7)) ?_
  refine lm ?_
  refine St.known 84 (b' := true) rfl (by rw [aw_depth]; rfl) ?_
  refine lgm ?_
  refine lgc (.bool (((stepA [(awI 65)] 2 1 [(0 : UInt8)]).err : Int) == 3)) ?_
  refine lc (.bool (((stepA [(awI 65)] 2 1 [(0 : UInt8)]).err : Int) == 3)) ?_
  refine lm ?_
  refine St.known 88 (b' := true) rfl (by rw [aw_step]; rfl) ?_
  refine lgm ?_
  refine liGo rfl rfl ?_
  refine opK0 (fun w hM => (rsStart_any bs38 A238 c238 [(awI 65)] 2 1 nm38 om38 w (r0.go0 hM) (((hM.keep0 (j := 6) rfl (fun _ h => h)).and (hM.keep0 (j := 7) rfl (fun _ h => RowIn.of_own h))).imp (fun _ h => ⟨h.1, h.2⟩)) (aw_one) (by decide) (hcap) (by decide)).mono ?_)
  rintro e w' ⟨B90, cb90, rfl, hP⟩
  refine ⟨_, _, rfl, hP, ?_⟩; clear hP hM
  refine lgc (vI ((encA [sumA [(awI 65)] [] []]).length)) ?_
  refine lgc (.bool (decide ((((encA [sumA [(awI 65)] [] []]).length : Nat) : Int) > 0))) ?_
  refine lc (.bool (decide ((((encA [sumA [(awI 65)] [] []]).length : Nat) : Int) > 0))) ?_
  refine la ?_
  refine liNil (qThen (stRet ?_))
  refine stEnd [(.bool (decide ((((encA [sumA [(awI 65)] [] []]).length : Nat) : Int) > 0)))] rfl ⟨rfl, trivial⟩ (fun w hM => ?_)
  exact ⟨ret_bool (by have h := aw_first [awI 65] (by decide); simp; omega), (hM.pick [] rfl rfl)⟩
end Go.Proofs.YtlepfnihpdhcaaaGreatDoor
namespace Go.Proofs.YtlepfnihpdhcaaaGreatDoor
open Go.RowKit
theorem lawRuns_any (A : Option Addr) (c : Nat) (a : List (List UInt8)) (A2 : Option Addr) (c2 : Nat) (b : List (List UInt8)) (fan : Int) (leaf : Int) (w : World) (r0 : Rf [] w (Vars)) (r1 : Rf [] w (fun w => RowIn w A (SS a))) (r2 : Rf [] w (fun w => RowIn w A2 (SS b))) (hla : a.length ≤ 9223372036854775807) (hlb : b.length ≤ 9223372036854775807) :
  Calls Tryz.prog 4 #[(vL A a c), (vL A2 b c2), (.agg #[(.int .i64 fan), (.int .i64 leaf)])] w fun e w' => e = .returned (.bool true) ∧ Back [] w [] w' := by
 refine stEnter (args := [(vL A a c), (vL A2 b c2), (.agg #[(.int .i64 fan), (.int .i64 leaf)])]) (fps []) Tryz.func4 rfl 107 rfl [(0, (vL A a c)), (1, (vL A2 b c2)), (2, (.agg #[(.int .i64 fan), (.int .i64 leaf)]))] ⟨rfl, rfl, rfl, trivial⟩ [] (Mm.start w []) ?_
 refine stSeq (reg (li rfl ?_))
 refine opBox [(.int .i64 fan), (.int .i64 leaf)] rfl rfl (by kernel_rfl) rfl rfl (fun b5 => ?_)
 refine la ?_
 refine liNil (qThen (stSeq (stSeq (reg (li rfl ?_)))))
 refine opK0 (fun w hM => (lsAwake_any  w (r0.go0 hM)).mono ?_)
 rintro e w' ⟨rfl, hP⟩
 refine ⟨_, _, rfl, hP, ?_⟩; clear hP hM
 refine lc (.bool false) ?_
 refine liNil (qThen (stFalse rfl (stSkip (qThen (stSeq (stSeq (reg ?_)))))))
 refine lm ?_
 refine li rfl ?_
 refine opK0 (fun w hM => (lsLarge_any A c a.length w ).mono ?_)
 rintro e w' ⟨rfl, hP⟩
 refine ⟨_, _, rfl, hP, ?_⟩; clear hP hM
 refine lm ?_
 refine St.dec 22 rfl (fun hc22 => ?_) (fun hc22 => ?_)
 ·refine lnT ?_
  refine lnT ?_
  refine lc (.bool true) ?_
  refine liNil (qThen (stTrue rfl (stSeq (reg ?_))))
  refine la ?_
  refine liNil (qThen (stRet (qThenR ?_)))
  refine stEnd [(.bool true)] rfl ⟨rfl, trivial⟩ (fun w hM => ?_)
  exact ⟨rfl, (hM.pick [] rfl rfl)⟩
 ·refine lgm ?_
  refine liGo rfl rfl ?_
  refine opK0 (fun w hM => (lsLarge_any A2 c2 b.length w ).mono ?_)
  rintro e w' ⟨rfl, hP⟩
  refine ⟨_, _, rfl, hP, ?_⟩; clear hP hM
  refine lc (.bool (largeB b.length)) ?_
  refine liNil (qThen ?_)
  refine stCond rfl (fun hc25 => ?_) (fun hc25 => ?_)
  ·refine stSeq ?_
   refine St.to [cAt b5 24 [(.int .i64 fan), (.int .i64 leaf)]] (by kernel_rfl) ?_
   refine reg ?_
   refine la ?_
   refine liNil (qThen (stRet (qThenR ?_)))
   refine stEnd [(.bool true)] rfl ⟨rfl, trivial⟩ (fun w hM => ?_)
   exact ⟨rfl, (hM.pick [] rfl rfl)⟩
  ·refine stSkip (qThen (stSeq ?_))
   cases hq1 : (okP fan leaf) with
   | true =>
    obtain ⟨⟨f, rfl⟩, g, rfl⟩ := okP_nat hq1
    obtain ⟨hf, hf2, hl1, hl2⟩ := okP_bnds hq1
    have hna : newE (f : Int) (g : Int) a = setE a := by rw [newE, if_pos hq1]
    have hnb : newE (f : Int) (g : Int) b = setE b := by rw [newE, if_pos hq1]
    cases hq2 : (decide (setE a = 0)) with
    | true =>
     have hea : setE a = 0 := of_decide_eq_true hq2
     cases hq3 : (decide (setE b = 0)) with
     | true =>
      have heb : setE b = 0 := of_decide_eq_true hq3
      obtain ⟨hal, hsa⟩ := setE_zero hea; obtain ⟨hbl, hsb⟩ := setE_zero heb
      have ha4 : a.length ≤ 40 := by have h := hc22; unfold largeB at h; simp at h; omega
      have hb4 : b.length ≤ 40 := by have h := hc25; unfold largeB at h; simp at h; omega
      have hS : Sets a b f g := ⟨hsa, hsb, ha4, hb4, hf, hf2, hl1, hl2⟩
      obtain ⟨K, hK, hK1, hKb, hmK, hmj⟩ := run_ends hS
      have hKl := hK.le
      obtain ⟨hlx, hly⟩ := run_small hS hKl hmK
      refine reg ?_
      refine lm ?_
      refine lm ?_
      refine lv (v := (.agg #[(vI f), (vI g)])) (rLoadA [(vI f), (vI g)] rfl rfl (by kernel_rfl) (by kernel_rfl) (segAt (i := 0) rfl (by intro j v hj; first | (rw [Nat.zero_add]; exact hj) | (match j, hj with | 0, h => exact h | 1, h => exact h)))) ?_
      refine li rfl ?_
      refine opK0 (fun w hM => (lsParams_any ((f : Nat) : Int) ((g : Nat) : Int) w ).mono ?_)
      rintro e w' ⟨rfl, hP⟩
      refine ⟨_, _, rfl, hP, ?_⟩; clear hP hM
      refine li rfl ?_
      refine opK0 (fun w hM => (rsRun_ok A c a A2 c2 b f g K w (r0.go0 hM) (r1.go0 hM) (r2.go0 hM) (hq1) (by assumption) (by assumption) (by assumption) (by assumption) (by assumption) (by assumption) (by assumption) (by assumption) (by assumption)).mono ?_)
      rintro e w' ⟨B131, cb131, B231, cb231, rfl, hP⟩
      refine ⟨_, _, rfl, hP, ?_⟩; clear hP hM
      refine lm ?_
      refine lc (vL B131 (withL [] (runN a b f g 1 K).2) cb131) ?_
      refine lc (vL B231 (withL [] (runN a b f g 1 K).1) cb231) ?_
      refine lc (vI K) ?_
      refine lc (vI (runB a b f g K)) ?_
      refine lc (.int .i64 0) ?_
      refine la ?_
      refine la ?_
      refine la ?_
      refine la ?_
      refine la ?_
      refine liNil (qThen (stSeq (reg ?_)))
      refine lm ?_
      refine li rfl ?_
      refine opK0 (fun w hM => (rsSet_any A c a w (r1.go0 hM) (by omega)).mono ?_)
      rintro e w' ⟨rfl, hP⟩
      refine ⟨_, _, rfl, hP, ?_⟩; clear hP hM
      refine la ?_
      refine liNil (qThen (stSeq (stSeq (reg ?_))))
      refine lv (v := (.agg #[(vI f), (vI g)])) (rLoadA [(vI f), (vI g)] rfl rfl (by kernel_rfl) (by kernel_rfl) (segAt (i := 0) rfl (by intro j v hj; first | (rw [Nat.zero_add]; exact hj) | (match j, hj with | 0, h => exact h | 1, h => exact h)))) ?_
      refine li rfl ?_
      refine opK0 (fun w hM => (rsValid_any ((f : Nat) : Int) ((g : Nat) : Int) w ).mono ?_)
      rintro e w' ⟨rfl, hP⟩
      refine ⟨_, _, rfl, hP, ?_⟩; clear hP hM
      refine lc (.bool (!(okP ((f : Nat) : Int) ((g : Nat) : Int)))) ?_
      refine liNil (qThen ?_)
      refine stFalseK rfl (by rw [hq1]; rfl) ?_
      refine stSkip (qThen (stSeq (stSeq ?_)))
      refine St.to [cAt b5 24 [(vI f), (vI g)], cS B131 (withL [] (runN a b f g 1 K).2) cb131, cS B231 (withL [] (runN a b f g 1 K).1) cb231] (by kernel_rfl) ?_
      refine reg ?_
      refine lm ?_
      refine lc (.bool (((setE a) : Int) == 0)) ?_
      refine liNil (qThen ?_)
      refine stTrueK rfl (by rw [hea]; rfl) ?_
      refine reg ?_
      refine lm ?_
      refine li rfl ?_
      refine opK0 (fun w hM => (rsSet_any A2 c2 b w (r2.go0 hM) (by omega)).mono ?_)
      rintro e w' ⟨rfl, hP⟩
      refine ⟨_, _, rfl, hP, ?_⟩; clear hP hM
      refine la ?_
      refine liNil (qThen (stSeq (stSeq (reg ?_))))
      refine lm ?_
      refine lc (.bool (((setE b) : Int) != 0)) ?_
      refine liNil (qThen ?_)
      refine stFalseK rfl (by rw [heb]; rfl) ?_
      refine stSkip (qThen (stSeq (reg ?_)))
      refine lm ?_
      refine lm ?_
      refine lv (v := (.agg #[(vI f), (vI g)])) (rLoadA [(vI f), (vI g)] rfl rfl (by kernel_rfl) (by kernel_rfl) (segAt (i := 0) rfl (by intro j v hj; first | (rw [Nat.zero_add]; exact hj) | (match j, hj with | 0, h => exact h | 1, h => exact h)))) ?_
      refine li rfl ?_
      refine opK0 (fun w hM => (rsRRun_any A c a A2 c2 b f g K w (r1.go0 hM) (r2.go0 hM) (by assumption) (by assumption) (by assumption)).mono ?_)
      rintro e w' ⟨N173, n173, O173, o173, N073, n073, O073, o073, rfl, hP⟩
      refine ⟨_, _, rfl, hP, ?_⟩; clear hP hM
      refine lm ?_
      refine lc (.agg #[(vL A a c), (vI f), (vI g), (vL N173 (withL [] ((runN a b f g 1 K).1)) n173), (vL O173 (withL [] ((runN a b f g 1 K).2)) o173)]) ?_
      refine lc (.agg #[(vL A2 b c2), (vI f), (vI g), (vL N073 (withL [] ((runN a b f g 0 K).1)) n073), (vL O073 (withL [] ((runN a b f g 0 K).2)) o073)]) ?_
      refine lc (vI K) ?_
      refine lc (vI (runB a b f g K)) ?_
      refine lc (.int .i64 0) ?_
      refine li rfl ?_
      refine opAlloc [(.slice none 0 0), (.int .i64 0), (.int .i64 0), (.slice none 0 0), (.slice none 0 0)] rfl rfl (by kernel_rfl) (by kernel_rfl) (fun b13 => ?_)
      refine li rfl ?_
      refine opAlloc [(.slice none 0 0), (.int .i64 0), (.int .i64 0), (.slice none 0 0), (.slice none 0 0)] rfl rfl (by kernel_rfl) (by kernel_rfl) (fun b14 => ?_)
      refine li rfl ?_
      refine opStoreN 7 [(vL A a c), (vI f), (vI g), (vL N173 (withL [] ((runN a b f g 1 K).1)) n173), (vL O173 (withL [] ((runN a b f g 1 K).2)) o173)] (vs := [(vL A a c), (vI f), (vI g), (vL N173 (withL [] ((runN a b f g 1 K).1)) n173), (vL O173 (withL [] ((runN a b f g 1 K).2)) o173)]) rfl rfl (by kernel_rfl) rfl rfl rfl (by kernel_rfl) rfl (by simp) (by simp [Value.oneCell']) rfl ?_
      refine li rfl ?_
      refine opStoreN 8 [(vL A2 b c2), (vI f), (vI g), (vL N073 (withL [] ((runN a b f g 0 K).1)) n073), (vL O073 (withL [] ((runN a b f g 0 K).2)) o073)] (vs := [(vL A2 b c2), (vI f), (vI g), (vL N073 (withL [] ((runN a b f g 0 K).1)) n073), (vL O073 (withL [] ((runN a b f g 0 K).2)) o073)]) rfl rfl (by kernel_rfl) rfl rfl rfl (by kernel_rfl) rfl (by simp) (by simp [Value.oneCell']) rfl ?_
      refine St.to [cAt b5 24 [(vI f), (vI g)], cS B131 (withL [] (runN a b f g 1 K).2) cb131, cS B231 (withL [] (runN a b f g 1 K).1) cb231, cS N173 (withL [] ((runN a b f g 1 K).1)) n173, cS O173 (withL [] ((runN a b f g 1 K).2)) o173, cS N073 (withL [] ((runN a b f g 0 K).1)) n073, cS O073 (withL [] ((runN a b f g 0 K).2)) o073, cAt b13 36 [(vL A a c), (vI f), (vI g), (vL N173 (withL [] ((runN a b f g 1 K).1)) n173), (vL O173 (withL [] ((runN a b f g 1 K).2)) o173)], cAt b14 36 [(vL A2 b c2), (vI f), (vI g), (vL N073 (withL [] ((runN a b f g 0 K).1)) n073), (vL O073 (withL [] ((runN a b f g 0 K).2)) o073)]] (by kernel_rfl) ?_
      refine la ?_
      refine la ?_
      refine la ?_
      refine liNil (qThen (stSeq (reg ?_)))
      refine lm ?_
      refine lc (.bool true) ?_
      refine lm ?_
      refine lgm ?_
      refine lgc (.bool true) ?_
      refine lc (.bool true) ?_
      refine lm ?_
      refine lgm ?_
      refine lgc (vP b13 4) ?_
      refine lgv (v := (vL O173 (withL [] ((runN a b f g 1 K).2)) o173)) (rLoad 7 rfl rfl (by kernel_rfl) rfl rfl) ?_
      refine liGo rfl rfl ?_
      refine opK0 (fun w hM => (lsSame_any B131 cb131 (withL [] (runN a b f g 1 K).2) O173 o173 (withL [] ((runN a b f g 1 K).2)) w (hM.keep0 (j := 1) rfl (fun _ h => RowIn.of_own h)) (hM.keep0 (j := 4) rfl (fun _ h => RowIn.of_own h)) (by omega) (by omega)).mono ?_)
      rintro e w' ⟨rfl, hP⟩
      refine ⟨_, _, rfl, hP, ?_⟩; clear hP hM
      refine lc (.bool (decide ((withL [] (runN a b f g 1 K).2) = (withL [] ((runN a b f g 1 K).2))))) ?_
      refine lm ?_
      refine St.known 91 (b' := true) rfl (by simp) ?_
      refine lgm ?_
      refine lgc (vP b13 3) ?_
      refine lgv (v := (vL N173 (withL [] ((runN a b f g 1 K).1)) n173)) (rLoad 7 rfl rfl (by kernel_rfl) rfl rfl) ?_
      refine liGo rfl rfl ?_
      refine opK0 (fun w hM => (lsSame_any B231 cb231 (withL [] (runN a b f g 1 K).1) N173 n173 (withL [] ((runN a b f g 1 K).1)) w (hM.keep0 (j := 2) rfl (fun _ h => RowIn.of_own h)) (hM.keep0 (j := 3) rfl (fun _ h => RowIn.of_own h)) (by omega) (by omega)).mono ?_)
      rintro e w' ⟨rfl, hP⟩
      refine ⟨_, _, rfl, hP, ?_⟩; clear hP hM
      refine lc (.bool (decide ((withL [] (runN a b f g 1 K).1) = (withL [] ((runN a b f g 1 K).1))))) ?_
      refine lm ?_
      refine St.known 97 (b' := true) rfl (by simp) ?_
      refine lgm ?_
      refine lgm ?_
      refine lgv (v := (.bool true)) (rConv (v := .bool ((((K : Nat) : Int) : Int) == ((K : Nat) : Int))) (rClosed fun _ => by kernel_rfl) (by simp)) ?_
      refine lc (.bool true) ?_
      refine lm ?_
      refine lgm ?_
      refine lgm ?_
      refine lgv (v := (.bool true)) (rConv (v := .bool (((((runB a b f g K) : Nat) : Int) : Int) == (((runB a b f g K) : Nat) : Int))) (rClosed fun _ => by kernel_rfl) (by simp)) ?_
      refine lc (.bool true) ?_
      refine la ?_
      refine liNil (qThen (stRet ?_))
      refine stEnd [(.bool true)] rfl ⟨rfl, trivial⟩ (fun w hM => ?_)
      exact ⟨ret_bool (by simp), (hM.pick [] rfl rfl)⟩
     | false =>
      have heb : setE b ≠ 0 := of_decide_eq_false hq3
      refine reg ?_
      refine lm ?_
      refine lm ?_
      refine lv (v := (.agg #[(vI f), (vI g)])) (rLoadA [(vI f), (vI g)] rfl rfl (by kernel_rfl) (by kernel_rfl) (segAt (i := 0) rfl (by intro j v hj; first | (rw [Nat.zero_add]; exact hj) | (match j, hj with | 0, h => exact h | 1, h => exact h)))) ?_
      refine li rfl ?_
      refine opK0 (fun w hM => (lsParams_any ((f : Nat) : Int) ((g : Nat) : Int) w ).mono ?_)
      rintro e w' ⟨rfl, hP⟩
      refine ⟨_, _, rfl, hP, ?_⟩; clear hP hM
      refine li rfl ?_
      refine opK0 (fun w hM => (rsRun_bad2 A c a A2 c2 b f g w (r0.go0 hM) (r1.go0 hM) (r2.go0 hM) (by omega) (by omega) (hq1) (hea) (heb)).mono ?_)
      rintro e w' ⟨rfl, hP⟩
      refine ⟨_, _, rfl, hP, ?_⟩; clear hP hM
      refine lm ?_
      refine lc (.slice none 0 0) ?_
      refine lc (.slice none 0 0) ?_
      refine lc (.int .i64 0) ?_
      refine lc (.int .i64 0) ?_
      refine lc (.int .i64 (newE f g b)) ?_
      refine la ?_
      refine la ?_
      refine la ?_
      refine la ?_
      refine la ?_
      refine liNil (qThen (stSeq ?_))
      refine St.to [cAt b5 24 [(vI f), (vI g)]] (by kernel_rfl) ?_
      refine reg ?_
      refine lm ?_
      refine li rfl ?_
      refine opK0 (fun w hM => (rsSet_any A c a w (r1.go0 hM) (by omega)).mono ?_)
      rintro e w' ⟨rfl, hP⟩
      refine ⟨_, _, rfl, hP, ?_⟩; clear hP hM
      refine la ?_
      refine liNil (qThen (stSeq (stSeq (reg ?_))))
      refine lv (v := (.agg #[(vI f), (vI g)])) (rLoadA [(vI f), (vI g)] rfl rfl (by kernel_rfl) (by kernel_rfl) (segAt (i := 0) rfl (by intro j v hj; first | (rw [Nat.zero_add]; exact hj) | (match j, hj with | 0, h => exact h | 1, h => exact h)))) ?_
      refine li rfl ?_
      refine opK0 (fun w hM => (rsValid_any ((f : Nat) : Int) ((g : Nat) : Int) w ).mono ?_)
      rintro e w' ⟨rfl, hP⟩
      refine ⟨_, _, rfl, hP, ?_⟩; clear hP hM
      refine lc (.bool (!(okP ((f : Nat) : Int) ((g : Nat) : Int)))) ?_
      refine liNil (qThen ?_)
      refine stFalseK rfl (by rw [hq1]; rfl) ?_
      refine stSkip (qThen (stSeq (stSeq (reg ?_))))
      refine lm ?_
      refine lc (.bool (((setE a) : Int) == 0)) ?_
      refine liNil (qThen ?_)
      refine stTrueK rfl (by rw [hea]; rfl) ?_
      refine reg ?_
      refine lm ?_
      refine li rfl ?_
      refine opK0 (fun w hM => (rsSet_any A2 c2 b w (r2.go0 hM) (by omega)).mono ?_)
      rintro e w' ⟨rfl, hP⟩
      refine ⟨_, _, rfl, hP, ?_⟩; clear hP hM
      refine la ?_
      refine liNil (qThen (stSeq (stSeq (reg ?_))))
      refine lm ?_
      refine lc (.bool (((setE b) : Int) != 0)) ?_
      refine liNil (qThen ?_)
      refine stTrueK rfl (by simpa using heb) ?_
      refine stSeq (reg ?_)
      refine lm ?_
      refine lm ?_
      refine lc (.bool (((newE f g b) : Int) == (setE b))) ?_
      refine lm ?_
      refine St.known 51 (b' := true) rfl (by rw [hnb]; simp) ?_
      refine lgm ?_
      refine lgc (.int .i64 0) ?_
      refine lgc (.bool true) ?_
      refine lc (.bool true) ?_
      refine lm ?_
      refine lgm ?_
      refine lgc (.int .i64 0) ?_
      refine lgc (.bool true) ?_
      refine lc (.bool true) ?_
      refine lm ?_
      refine lgm ?_
      refine lgc (.bool true) ?_
      refine lc (.bool true) ?_
      refine lm ?_
      refine lgm ?_
      refine lgc (.bool true) ?_
      refine lc (.bool true) ?_
      refine la ?_
      refine liNil (qThen (stRet (qThenR ?_)))
      refine stEnd [(.bool true)] rfl ⟨rfl, trivial⟩ (fun w hM => ?_)
      exact ⟨rfl, (hM.pick [] rfl rfl)⟩
    | false =>
     have hea : setE a ≠ 0 := of_decide_eq_false hq2
     have hne : newE (f : Int) (g : Int) a ≠ 0 := by rw [hna]; exact hea
     refine reg ?_
     refine lm ?_
     refine lm ?_
     refine lv (v := (.agg #[(vI f), (vI g)])) (rLoadA [(vI f), (vI g)] rfl rfl (by kernel_rfl) (by kernel_rfl) (segAt (i := 0) rfl (by intro j v hj; first | (rw [Nat.zero_add]; exact hj) | (match j, hj with | 0, h => exact h | 1, h => exact h)))) ?_
     refine li rfl ?_
     refine opK0 (fun w hM => (lsParams_any ((f : Nat) : Int) ((g : Nat) : Int) w ).mono ?_)
     rintro e w' ⟨rfl, hP⟩
     refine ⟨_, _, rfl, hP, ?_⟩; clear hP hM
     refine li rfl ?_
     refine opK0 (fun w hM => (rsRun_bad1 A c a A2 c2 b ((f : Nat) : Int) ((g : Nat) : Int) w (r0.go0 hM) (r1.go0 hM) (r2.go0 hM) (by omega) (by omega) (hne)).mono ?_)
     rintro e w' ⟨rfl, hP⟩
     refine ⟨_, _, rfl, hP, ?_⟩; clear hP hM
     refine lm ?_
     refine lc (.slice none 0 0) ?_
     refine lc (.slice none 0 0) ?_
     refine lc (.int .i64 0) ?_
     refine lc (.int .i64 0) ?_
     refine lc (.int .i64 (newE ((f : Nat) : Int) ((g : Nat) : Int) a)) ?_
     refine la ?_
     refine la ?_
     refine la ?_
     refine la ?_
     refine la ?_
     refine liNil (qThen (stSeq ?_))
     refine St.to [cAt b5 24 [(vI f), (vI g)]] (by kernel_rfl) ?_
     refine reg ?_
     refine lm ?_
     refine li rfl ?_
     refine opK0 (fun w hM => (rsSet_any A c a w (r1.go0 hM) (by omega)).mono ?_)
     rintro e w' ⟨rfl, hP⟩
     refine ⟨_, _, rfl, hP, ?_⟩; clear hP hM
     refine la ?_
     refine liNil (qThen (stSeq (stSeq (reg ?_))))
     refine lv (v := (.agg #[(vI f), (vI g)])) (rLoadA [(vI f), (vI g)] rfl rfl (by kernel_rfl) (by kernel_rfl) (segAt (i := 0) rfl (by intro j v hj; first | (rw [Nat.zero_add]; exact hj) | (match j, hj with | 0, h => exact h | 1, h => exact h)))) ?_
     refine li rfl ?_
     refine opK0 (fun w hM => (rsValid_any ((f : Nat) : Int) ((g : Nat) : Int) w ).mono ?_)
     rintro e w' ⟨rfl, hP⟩
     refine ⟨_, _, rfl, hP, ?_⟩; clear hP hM
     refine lc (.bool (!(okP ((f : Nat) : Int) ((g : Nat) : Int)))) ?_
     refine liNil (qThen ?_)
     refine stFalseK rfl (by rw [hq1]; rfl) ?_
     refine stSkip (qThen (stSeq (stSeq (reg ?_))))
     refine lm ?_
     refine lc (.bool (((setE a) : Int) == 0)) ?_
     refine liNil (qThen ?_)
     refine stFalseK rfl (by simpa using hea) ?_
     refine stSkip (qThen (stSeq (stSeq (reg ?_))))
     refine lm ?_
     refine lc (.bool (((setE a) : Int) != 0)) ?_
     refine liNil (qThen ?_)
     refine stTrueK rfl (by simpa using hea) ?_
     refine stSeq (reg ?_)
     refine lm ?_
     refine lm ?_
     refine lc (.bool (((newE ((f : Nat) : Int) ((g : Nat) : Int) a) : Int) == (setE a))) ?_
     refine lm ?_
     refine St.known 51 (b' := true) rfl (by rw [hna]; simp) ?_
     refine lgm ?_
     refine lgc (.int .i64 0) ?_
     refine lgc (.bool true) ?_
     refine lc (.bool true) ?_
     refine lm ?_
     refine lgm ?_
     refine lgc (.int .i64 0) ?_
     refine lgc (.bool true) ?_
     refine lc (.bool true) ?_
     refine lm ?_
     refine lgm ?_
     refine lgc (.bool true) ?_
     refine lc (.bool true) ?_
     refine lm ?_
     refine lgm ?_
     refine lgc (.bool true) ?_
     refine lc (.bool true) ?_
     refine la ?_
     refine liNil (qThen (stRet (qThenR ?_)))
     refine stEnd [(.bool true)] rfl ⟨rfl, trivial⟩ (fun w hM => ?_)
     exact ⟨rfl, (hM.pick [] rfl rfl)⟩
   | false =>
    have hn1 : newE fan leaf a = 1 := by rw [newE, if_neg (by rw [hq1]; decide)]
    have hne : newE fan leaf a ≠ 0 := by rw [hn1]; decide
    refine reg ?_
    refine lm ?_
    refine lm ?_
    refine lv (v := (.agg #[(.int .i64 fan), (.int .i64 leaf)])) (rLoadA [(.int .i64 fan), (.int .i64 leaf)] rfl rfl (by kernel_rfl) (by kernel_rfl) (segAt (i := 0) rfl (by intro j v hj; first | (rw [Nat.zero_add]; exact hj) | (match j, hj with | 0, h => exact h | 1, h => exact h)))) ?_
    refine li rfl ?_
    refine opK0 (fun w hM => (lsParams_any fan leaf w ).mono ?_)
    rintro e w' ⟨rfl, hP⟩
    refine ⟨_, _, rfl, hP, ?_⟩; clear hP hM
    refine li rfl ?_
    refine opK0 (fun w hM => (rsRun_bad1 A c a A2 c2 b fan leaf w (r0.go0 hM) (r1.go0 hM) (r2.go0 hM) (by omega) (by omega) (hne)).mono ?_)
    rintro e w' ⟨rfl, hP⟩
    refine ⟨_, _, rfl, hP, ?_⟩; clear hP hM
    refine lm ?_
    refine lc (.slice none 0 0) ?_
    refine lc (.slice none 0 0) ?_
    refine lc (.int .i64 0) ?_
    refine lc (.int .i64 0) ?_
    refine lc (.int .i64 (newE fan leaf a)) ?_
    refine la ?_
    refine la ?_
    refine la ?_
    refine la ?_
    refine la ?_
    refine liNil (qThen (stSeq ?_))
    refine St.to [cAt b5 24 [(.int .i64 fan), (.int .i64 leaf)]] (by kernel_rfl) ?_
    refine reg ?_
    refine lm ?_
    refine li rfl ?_
    refine opK0 (fun w hM => (rsSet_any A c a w (r1.go0 hM) (by omega)).mono ?_)
    rintro e w' ⟨rfl, hP⟩
    refine ⟨_, _, rfl, hP, ?_⟩; clear hP hM
    refine la ?_
    refine liNil (qThen (stSeq (stSeq (reg ?_))))
    refine lv (v := (.agg #[(.int .i64 fan), (.int .i64 leaf)])) (rLoadA [(.int .i64 fan), (.int .i64 leaf)] rfl rfl (by kernel_rfl) (by kernel_rfl) (segAt (i := 0) rfl (by intro j v hj; first | (rw [Nat.zero_add]; exact hj) | (match j, hj with | 0, h => exact h | 1, h => exact h)))) ?_
    refine li rfl ?_
    refine opK0 (fun w hM => (rsValid_any fan leaf w ).mono ?_)
    rintro e w' ⟨rfl, hP⟩
    refine ⟨_, _, rfl, hP, ?_⟩; clear hP hM
    refine lc (.bool (!(okP fan leaf))) ?_
    refine liNil (qThen ?_)
    refine stTrueK rfl (by rw [hq1]; rfl) ?_
    refine reg ?_
    refine la ?_
    refine liNil (qThen (stSeq (stSeq (reg ?_))))
    refine lm ?_
    refine lc (.bool false) ?_
    refine liNil (qThen (stFalse rfl (stSkip (qThen (stSeq (stSeq (reg ?_)))))))
    refine lm ?_
    refine lc (.bool true) ?_
    refine liNil (qThen (stTrue rfl (stSeq (reg ?_))))
    refine lm ?_
    refine lm ?_
    refine lc (.bool (((newE fan leaf a) : Int) == 1)) ?_
    refine lm ?_
    refine St.known 51 (b' := true) rfl (by rw [hn1]; rfl) ?_
    refine lgm ?_
    refine lgc (.int .i64 0) ?_
    refine lgc (.bool true) ?_
    refine lc (.bool true) ?_
    refine lm ?_
    refine lgm ?_
    refine lgc (.int .i64 0) ?_
    refine lgc (.bool true) ?_
    refine lc (.bool true) ?_
    refine lm ?_
    refine lgm ?_
    refine lgc (.bool true) ?_
    refine lc (.bool true) ?_
    refine lm ?_
    refine lgm ?_
    refine lgc (.bool true) ?_
    refine lc (.bool true) ?_
    refine la ?_
    refine liNil (qThen (stRet (qThenR ?_)))
    refine stEnd [(.bool true)] rfl ⟨rfl, trivial⟩ (fun w hM => ?_)
    exact ⟨rfl, (hM.pick [] rfl rfl)⟩
end Go.Proofs.YtlepfnihpdhcaaaGreatDoor
namespace Go.Proofs.YtlepfnihpdhcaaaGreatDoor
open Go.ChangeShapes Go.WideShapes Go.ChangeAt Go.RowKit
theorem trodAll_stays {H : Type} {enc : TypeId × Value → H} {P : Program} (hl : laidOutB P = true) {W W' : World} (hb : Below W.heap.size W W') :
  ∀ (ts : List TypeId) (vs : List Value) (ds : List (DataW H)) (ps : List MemPlace), (∀ t ∈ ts, P.readableRec t = true ∧ t < P.types.size) → (∀ p ∈ ps, p.block < W.heap.size) →
   DataW.TrodAll enc P W 0 (fun _ => true) true ts vs ds ps → DataW.TrodAll enc P W' 0 (fun b => decide (b < W.heap.size)) true ts vs ds ps := by
 intro ts
 induction ts with
 | nil =>
  intro vs ds ps _ _ h
  obtain ⟨rfl, rfl, rfl⟩ := trodAll_nil h
  exact trodAll_mk0
 | cons t ts ih =>
  intro vs ds ps hr hp h
  obtain ⟨v, vs', d, ds', p, q, rfl, rfl, rfl, h1, h2⟩ := trodAll_cons h
  refine trodAll_cons_mk (WideElems.Trod_stays hl (hr t (by simp)).1 (hr t (by simp)).2 h1 (fun x hx => hb.same (hp x (by simp [hx]))) (fun x hx => by simpa using hp x (by simp [hx]))) (ih vs' ds' q (fun t ht => hr t (by simp [ht])) (fun x hx => hp x (by simp [hx])) h2)
theorem post_law {H : Type} {enc : TypeId × Value → H} {P : Program} {f : Func} {s : ChangeSpec} {W W' : World} {args : Array Value} {ds gs : List (DataW H)} {before : List MemPlace}
  (hl : laidOutB P = true) (hr : f.params.toList.all (fun t => P.readableRec t && decide (t < P.types.size)) = true) (hv : s.vars = [])
  (hW : DataW.Whole enc P f.params.toList s.vars false W args.toList ds gs before)
  (hs : (s.fn H ds).results = [.lit (.bool true)] ∧ (s.fn H ds).args = ds ∧ (s.fn H ds).vars = [])
  (hres : ∀ (b : Nat), DataW.TrodAll enc P W' b (fun _ => false) false f.resultTypes.toList ((Value.bool true).resultList f.resultTypes.size) [.lit (.bool true)] [])
  (hb : Below W.heap.size W W') : s.post enc P f false true false false W args (.bool true) W' := by
 have hlt : ∀ p ∈ before, p.block < W.heap.size := fun p hp => hW.lt p hp
 obtain ⟨p, q, hA, hV, rfl, hfz, hnd⟩ := id hW
 rw [hv] at hV
 obtain ⟨rfl, rfl⟩ := trodVars_none hV
 have hA' := trodAll_stays hl hb f.params.toList args.toList ds p (fun t ht => by
  have := List.all_eq_true.1 hr t ht
  simpa using this) (fun x hx => hlt x (by simp [hx])) hA
 refine ⟨ds, [], p ++ [], [], p, [], hW, ?_, ?_, ?_, ?_, fun h => by cases h⟩
 ·rw [List.append_nil, hs.1]; exact hres _
 ·rw [List.append_nil, hs.2.1]; exact hA'
 ·rw [List.append_nil, hs.2.2, hv]; rfl
 ·exact hb.frame _
end Go.Proofs.YtlepfnihpdhcaaaGreatDoor
namespace Go.Proofs.YtlepfnihpdhcaaaGreatDoor
open Go.ChangeShapes Go.WideShapes Go.ChangeAt Go.RowKit
theorem spot_none {w : World} {a : Addr} {v : Value} (h : w.cell? a = some v) : a.spot = none := by
 unfold World.cell? at h
 split at h
 ·split at h
  ·cases h
  ·rename_i hs
   cases he : a.spot with
   | none => rfl
   | some x => rw [he] at hs; exact absurd rfl hs
 ·cases h
theorem addr_add (b o j : Nat) : (⟨b, o, none⟩ : Addr).add j = ⟨b, o + j, none⟩ := by
 unfold Addr.add
 split
 ·simp_all
 ·rfl
theorem cell_lt {w : World} {b o : Nat} {v : Value} (h : w.cell? ⟨b, o, none⟩ = some v) : b < w.heap.size := World.block_lt_of_cell? w ⟨b, o, none⟩ h
section
variable {H : Type} {enc : TypeId × Value → H} {P : Program} {W : World}
theorem open_rows {t e : TypeId} {base : Nat} {v : Value} {d : DataW H} {p : List MemPlace} (C : Nat) (hC0 : 0 < C) (ht : P.underlying t = some (.slice e)) (hC : P.cellsOf e = C) (hv : Value.okWide P W .any base t v)
  (h : DataW.Trod enc P W 0 (fun _ => true) true t v d p) :
  ∃ (A : Option Addr) (n cap : Nat), v = .slice A n cap ∧ n ≤ cap ∧ cap ≤ maxLen ∧
   (0 < n → ∃ b o, A = some ⟨b, o, none⟩ ∧ b < W.heap.size ∧ ∀ i, i < n → ∃ (cs : List Value) (f : Nat) (x : DataW H × List MemPlace), cs.length = C ∧ (∀ j, j < C → W.cell? ⟨b, o + i * C + j, none⟩ = cs[j]?) ∧ DataW.trod enc P W 0 (fun _ => true) true f e cs = some x) := by
 obtain ⟨A, n, cap, rfl⟩ := okWide_slice ht hv
 obtain ⟨f, hf⟩ := h
 rcases Go.Deep.open_slice ht (by simpa [Value.cells] using hf) with ⟨h0, _⟩ | ⟨a, len, cap', m, n', D, Pl, hcs, _, hl, hm, hmm, _, hi⟩
 ·simp only [List.cons.injEq, Value.slice.injEq, and_true] at h0
  obtain ⟨rfl, rfl, rfl⟩ := h0
  exact ⟨none, 0, 0, rfl, Nat.le_refl _, Nat.zero_le _, fun h => absurd h (by omega)⟩
 ·simp only [List.cons.injEq, Value.slice.injEq, and_true] at hcs
  obtain ⟨rfl, rfl, rfl⟩ := hcs
  simp only [if_true] at hmm
  have hrow : ∀ i, i < n → ∃ (cs : List Value) (x : DataW H × List MemPlace), cs.length = C ∧ (∀ j, j < C → W.cell? ((a.add (i * C)).add j) = cs[j]?) ∧ DataW.trod enc P W 0 (fun _ => true) true n' e cs = some x := by
   intro i hin
   obtain ⟨cs', hc, ht'⟩ := hi i (by omega)
   rw [hC] at hc
   obtain ⟨_, hcl, hat⟩ := World.cells?_some hc
   exact ⟨cs', _, hcl, hat, ht'⟩
  refine ⟨_, n, cap, rfl, hl, hm, fun hn => ?_⟩
  obtain ⟨cs, x, hcl, hat, _⟩ := hrow 0 hn
  have h0 := hat 0 hC0
  rw [Nat.zero_mul, List.getElem?_eq_getElem (by omega)] at h0
  have ha0 : (a.add 0).add 0 = a := by unfold Addr.add; simp
  rw [ha0] at h0
  obtain ⟨b, o, s⟩ := a
  have hs := spot_none h0
  simp only at hs
  subst hs
  refine ⟨b, o, rfl, cell_lt h0, fun i hin => ?_⟩
  obtain ⟨cs, x, hcl, hat, ht'⟩ := hrow i hin
  refine ⟨cs, n', x, hcl, fun j hj => ?_, ht'⟩
  have := hat j hj
  rwa [addr_add, addr_add] at this
end
end Go.Proofs.YtlepfnihpdhcaaaGreatDoor
namespace Go.Proofs.YtlepfnihpdhcaaaGreatDoor
open Go.ChangeShapes Go.WideShapes Go.ChangeAt Go.RowKit
theorem gInit : Tryz.prog.globalNamed "kinkeep/sha256.initial" = some 0 := by kernel_rfl
theorem gCons : Tryz.prog.globalNamed "kinkeep/sha256.constants" = some 1 := by kernel_rfl
theorem tInit : (Tryz.prog.globals[0]?).map (·.type) = some 133 := by kernel_rfl
theorem tCons : (Tryz.prog.globals[1]?).map (·.type) = some 158 := by kernel_rfl
def laid2 : List (String × DataW Unit) := [("kinkeep/sha256.initial", Rows.laid_kinkeep_sha256_initial), ("kinkeep/sha256.constants", Rows.laid_kinkeep_sha256_constants)]
theorem door_met (os : Os) (args : Array Value) : laidMetH Tryz.prog laid2 ((World.doorLaid Tryz.prog 400 os).forCall (fun _ _ => 0) ⟨#[], args, []⟩).memory :=
 laidMetH_of_parts3 (fuel := 8) (laidMet_of_run' 8 (by kernel_rfl) (by kernel_rfl)) (by kernel_rfl) (by kernel_rfl)
theorem words_trod {enc : TypeId × Value → Unit} {W : World} {base : Nat} {spare : Nat → Bool} {held : Bool} {fuel : Nat} {t : TypeId} {n : Nat} {cs : List Value} {l : List Nat} {ps : List MemPlace} (ht : Tryz.prog.underlying t = some (.array n 132)) (h : DataW.trod enc Tryz.prog W base spare held fuel t cs = some (.agg (l.map fun k : Nat => DataW.lit (Lit.int .u32 (k : Int))), ps)) :
  ∀ i x : Nat, l[i]? = some x → cs[i]? = some (.int .u32 (x : Int)) := by
 obtain ⟨xs, m, _, hx, _, hn, hel⟩ := DataW.trod_array ht h
 simp only [Prod.mk.injEq, DataW.agg.injEq] at hx
 have hc : Tryz.prog.cellsOf 132 = 1 := by kernel_rfl
 intro i x hi
 have hl : l.length = n := by
  have := congrArg List.length hx.1
  simp at this
  omega
 have hin : i < n := by rw [← hl]; exact (List.getElem?_eq_some_iff.1 hi).1
 have h1 := hel i hin
 rw [List.getElem?_eq_getElem (by omega)] at h1
 obtain ⟨k, e1, e2, _⟩ := DataW.trod_int Tryz.underlying132 h1
 have h2 := congrArg (fun z => z[i]?) hx.1
 simp only [List.getElem?_map, hi, Option.map_some] at h2
 rw [List.getElem?_eq_getElem (by omega)] at h2
 simp only [Option.map_some, Option.some.injEq] at h2
 rw [e2] at h2
 simp only [DataW.lit.injEq, Lit.int.injEq, true_and] at h2
 rw [hc, Nat.mul_one] at e1
 have h3 : (List.take 1 (List.drop i cs))[0]? = some (.int .u32 k) := by rw [e1]; rfl
 rw [List.getElem?_take_of_lt (by omega), List.getElem?_drop, Nat.add_zero] at h3
 rw [h3, h2]
theorem vars_of_laid {W : World} (h : laidMetH Tryz.prog laid2 W) : Vars W := by
 rw [MakeChecks.laidMetH_plain _ _ _ (by kernel_rfl)] at h
 obtain ⟨ps, ⟨g0, t0, cs0, f0, p0, q0, hg0, ht0, hv0, hd0, ⟨g1, t1, cs1, f1, p1, q1, hg1, ht1, hv1, hd1, _, _⟩, _⟩, _, _⟩ := h
 obtain rfl := Option.some.inj (gInit.symm.trans hg0)
 obtain rfl := Option.some.inj (gCons.symm.trans hg1)
 obtain rfl := Option.some.inj (tInit.symm.trans ht0)
 obtain rfl := Option.some.inj (tCons.symm.trans ht1)
 refine ⟨fun i x hx => ?_, fun i x hx => ?_⟩
 ·rw [World.var?_cell hg0 hv0 i]
  have := words_trod (l := shaI) Tryz.underlying133 hd0 i x hx
  simpa using this
 ·rw [World.var?_cell hg1 hv1 i]
  have := words_trod (l := shaK) Tryz.underlying158 hd1 i x hx
  simpa using this
theorem str_eta (s : ByteArray) : s = strOf s.data.toList := by
 cases s
 simp [strOf]
end Go.Proofs.YtlepfnihpdhcaaaGreatDoor
namespace Go.Proofs.YtlepfnihpdhcaaaGreatDoor
open Go.ChangeShapes Go.WideShapes Go.ChangeAt Go.RowKit
section
variable {H : Type} {enc : TypeId × Value → H} {P : Program} {W : World}
theorem open_strs {t e : TypeId} {base : Nat} {v : Value} {d : DataW H} {p : List MemPlace} (ht : P.underlying t = some (.slice e)) (he : P.underlying e = some .string) (hC : P.cellsOf e = 1) (hv : Value.okWide P W .any base t v)
  (h : DataW.Trod enc P W 0 (fun _ => true) true t v d p) :
  ∃ (A : Option Addr) (cap : Nat) (l : List (List UInt8)), v = .slice A l.length cap ∧ l.length ≤ 9223372036854775807 ∧ RowIn W A (SS l) ∧ l.length ≤ cap := by
 obtain ⟨A, n, cap, rfl, hnc, hcm, hr⟩ := open_rows 1 (by omega) ht hC hv h
 have hmax : n ≤ 9223372036854775807 := by unfold maxLen at hcm; omega
 rcases Nat.eq_zero_or_pos n with rfl | hn
 ·exact ⟨A, cap, [], rfl, Nat.zero_le _, (fun i x hx => by simp at hx), Nat.zero_le _⟩
 ·obtain ⟨b, o, rfl, hb, hi⟩ := hr hn
  have hx : ∀ i, i < n → ∃ x : List UInt8, W.cell? ⟨b, o + i, none⟩ = some (.string (strOf x)) := by
   intro i hin
   obtain ⟨cs, f, x, hl, hc, ht⟩ := hi i hin
   obtain ⟨a, ha, _⟩ := DataW.trod_string he ht
   have h0 := hc 0 (by omega)
   rw [Nat.mul_one, ha] at h0
   exact ⟨a.data.toList, by rw [← str_eta]; exact h0⟩
  let g : Nat → List UInt8 := fun i => if h : i < n then Classical.choose (hx i h) else []
  have hgs : ∀ i (hin : i < n), W.cell? ⟨b, o + i, none⟩ = some (.string (strOf (g i))) := by
   intro i hin
   have hgi : g i = Classical.choose (hx i hin) := by simp only [g, hin, dif_pos]
   rw [hgi]
   exact Classical.choose_spec (hx i hin)
  refine ⟨some ⟨b, o, none⟩, cap, (List.range n).map g, by simp, by simp; omega, ?_, by simpa using hnc⟩
  intro i u hu
  have hin : i < n := by
   have := (List.getElem?_eq_some_iff.1 hu).1
   simpa using this
  have hg : Value.string (strOf (g i)) = u := by simpa [hin] using hu
  exact ⟨b, o, rfl, hb, by rw [hgs i hin, hg]⟩
theorem open_int2 {e ti : TypeId} {f : Nat} {cs : List Value} {x : DataW H × List MemPlace} {fs : Array Field} (he : P.underlying e = some (.struct fs)) (hi : P.underlying ti = some (.int .i64)) (h1 : P.cellsOf ti = 1)
  (hf : fs.toList.map (fun f => (f.type, f.offset)) = [(ti, 0), (ti, 1)]) (h : DataW.trod enc P W 0 (fun _ => true) true f e cs = some x) (hl : cs.length = 2) :
  ∃ a b : Int, cs = [.int .i64 a, .int .i64 b] := by
 obtain ⟨xs, n, _, _, _, hxl, hg⟩ := DataW.trod_struct he h
 match cs, hl with
 | [c0, c1], _ =>
  have hfs : fs.toList.length = 2 := by have := congrArg List.length hf; simpa using this
  match hfl : fs.toList, hfs with
  | [f0, f1], _ =>
   rw [hfl] at hf
   simp only [List.map_cons, List.map_nil, List.cons.injEq, Prod.mk.injEq, and_true] at hf
   obtain ⟨⟨t0, o0⟩, ⟨t1, o1⟩⟩ := hf
   have hx : ∀ i, i < 2 → ∃ y, xs[i]? = some y := fun i hi => ⟨xs[i]'(by rw [hxl, ← Array.length_toList, hfl]; simpa using hi), List.getElem?_eq_getElem _⟩
   have g0 := hg 0 f0 (by rw [← Array.getElem?_toList, hfl]; rfl)
   have g1 := hg 1 f1 (by rw [← Array.getElem?_toList, hfl]; rfl)
   obtain ⟨y0, e0⟩ := hx 0 (by omega)
   obtain ⟨y1, e1⟩ := hx 1 (by omega)
   rw [t0, o0, h1, e0] at g0
   rw [t1, o1, h1, e1] at g1
   obtain ⟨a, ha, _, wa⟩ := DataW.trod_int hi g0
   obtain ⟨b, hb, _, wb⟩ := DataW.trod_int hi g1
   simp at ha hb
   exact ⟨a, b, by rw [ha, hb]⟩
theorem open_two {t ti : TypeId} {base : Nat} {v : Value} {d : DataW H} {p : List MemPlace} {fs : Array Field} (he : P.underlying t = some (.struct fs)) (hi : P.underlying ti = some (.int .i64)) (h1 : P.cellsOf ti = 1)
  (hf : fs.toList.map (fun f => (f.type, f.offset)) = [(ti, 0), (ti, 1)]) (hs : P.cellsOf t = 2) (hv : Value.okWide P W .any base t v) (h : DataW.Trod enc P W 0 (fun _ => true) true t v d p) :
  ∃ a b : Int, v = .agg #[.int .i64 a, .int .i64 b] := by
 obtain ⟨cs, rfl, hsz⟩ := okWide_struct he hv
 obtain ⟨f, hf'⟩ := h
 obtain ⟨a, b, e⟩ := open_int2 he hi h1 hf (cs := cs.toList) (by simpa [Value.cells] using hf') (by rw [Array.length_toList, hsz, hs])
 exact ⟨a, b, by rw [show cs = #[.int .i64 a, .int .i64 b] from Array.toList_inj.1 e]⟩
end
end Go.Proofs.YtlepfnihpdhcaaaGreatDoor
