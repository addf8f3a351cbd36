/- rangesum: a new side, the first message. -/
import Derived.Test.YtlepfnihpdhcaaaGreatDoorRs11
import Derived.Test.YtlepfnihpdhcaaaGreatDoorRsRun
namespace Go.Proofs.YtlepfnihpdhcaaaGreatDoor
open Go.RowKit
theorem psok1 {its lo hi : _} {w : World} : PsOk [sumP its lo hi] w := fun p hp r hr => by rw [List.mem_singleton.1 hp] at hr; cases hr

theorem row_none {w : World} {α : Type} {f : α → Value} {l : List α} (h : RowIn w none (l.map f)) : l = [] := by
  cases l with
  | nil => rfl
  | cons x l => obtain ⟨b, o, h1, _⟩ := h 0 _ rfl; cases h1

set_option maxRecDepth 100000 in
set_option maxHeartbeats 1000000 in
theorem rsClone_any (A : Option Addr) (c : Nat) (l : List (List UInt8)) (w : World) (r0 : Rf [] w (fun w => RowIn w A (SS l))) (hl4 : l.length ≤ 4294967296) :
    Calls Tryz.prog 36 #[(.slice A (l.length) (c))] w fun e w' => ∃ (B : Option Addr) (cb : Nat), e = .returned (.slice B (l.length) (cb)) ∧ Back [] w [cOwn 9 1 B (l.length) (cb) (SS l)] w' := by
  refine stEnter (args := [(.slice A (l.length) (c))]) (fps []) Tryz.func36 rfl 8 rfl [(0, (.slice A (l.length) (c)))] ⟨rfl, trivial⟩ [] (Mm.start w []) ?_
  refine stSeq (reg ?_)
  refine la ?_
  refine liNil (qThen (stSeq (stSeq (reg ?_))))
  refine lm ?_
  refine lv (v := (.bool A.isNone)) (by cases A <;> exact rClosed fun _ => by kernel_rfl) ?_
  refine liNil (qThen ?_)
  refine stCond rfl (fun hc4 => ?_) (fun hc4 => ?_)
  · obtain rfl : A = none := by cases A with | none => rfl | some _ => cases hc4
    obtain rfl : l = [] := row_none r0.here
    refine St.mem (fun w hM => hM.nilOwn 9 1) ?_
    refine stSeq (reg ?_)
    refine la ?_
    refine liNil (qThen (stRet (qThenR ?_)))
    refine stEnd [(.slice none 0 0)] rfl ⟨rfl, trivial⟩ (fun w hM => ?_)
    exact ⟨none, 0, rfl, hM⟩
  · refine stSkip (qThen (stSeq (reg (li rfl ?_))))
    refine opNew (v := fun b => .slice (some ⟨b, 0, none⟩) 0 0) 9 [] rfl (by kernel_rfl) (fun _ => by kernel_rfl) (fun b5 => ?_)
    refine lm ?_
    refine li rfl ?_
    refine opMem (fun w hM => hM.toOwn0 0 rfl 1) ?_
    refine opAppend el_strC 0 (SS l) rfl rfl (by kernel_rfl) rfl rfl rfl (by simp) (fun w hM => CellsAt.of_row (r0.now hM)) (SS_one) (by omega) ((l).length) (by first | exact (List.length_append ..).symm | (simp; done) | (simp; omega)) (SS (l)) (by simp [SS]) (fun A7 c7 => ?_)
    refine la ?_
    refine liNil (qThen (stRet ?_))
    refine stEnd [(.slice A7 ((l).length) (c7))] rfl ⟨rfl, trivial⟩ (fun w hM => ?_)
    exact ⟨A7, c7, rfl, hM⟩

set_option maxRecDepth 100000 in
set_option maxHeartbeats 1000000 in
theorem rsNew_bad (A : Option Addr) (c : Nat) (l : List (List UInt8)) (fan : Int) (leaf : Int) (w : World) (r0 : Rf [] w (fun w => RowIn w A (SS l))) (hl : l.length ≤ 9223372036854775807) (he : newE fan leaf l ≠ 0) :
    Calls Tryz.prog 13 #[(.slice A (l.length) (c)), (.agg #[(.int .i64 fan), (.int .i64 leaf)])] w fun e w' => e = .returned (.tuple #[(.pointer none), (.int .i64 (newE fan leaf l))]) ∧ Back [] w [] w' := by
  refine stEnter (args := [(.slice A (l.length) (c)), (.agg #[(.int .i64 fan), (.int .i64 leaf)])]) (fps []) Tryz.func13 rfl 22 rfl [(0, (.slice A (l.length) (c))), (1, (.agg #[(.int .i64 fan), (.int .i64 leaf)]))] ⟨rfl, rfl, trivial⟩ [] (Mm.start w []) ?_
  refine stSeq (reg (li rfl ?_))
  refine opBox [(.int .i64 fan), (.int .i64 leaf)] rfl rfl (by kernel_rfl) rfl rfl (fun b3 => ?_)
  refine la ?_
  refine la ?_
  refine liNil (qThen (stSeq (stSeq (reg ?_))))
  refine lv (v := (.agg #[(.int .i64 fan), (.int .i64 leaf)])) (rLoadA [(.int .i64 fan), (.int .i64 leaf)] rfl rfl (by kernel_rfl) (by kernel_rfl) (segAt (i := 0) rfl (by intro j v hj; first | (rw [Nat.zero_add]; exact hj) | (match j, hj with | 0, h => exact h | 1, h => exact h)))) ?_
  refine li rfl ?_
  refine opK0 (fun w hM => (rsPvalid_any fan leaf w ).mono ?_)
  rintro e w' ⟨rfl, hP⟩
  refine ⟨_, _, rfl, hP, ?_⟩; clear hP hM
  refine lc (.bool (!(okP fan leaf))) ?_
  refine liNil (qThen ?_)
  refine stCond rfl (fun hc9 => ?_) (fun hc9 => ?_)
  · refine stSeq ?_
    refine St.to [cAt b3 33 [(.int .i64 fan), (.int .i64 leaf)]] (by kernel_rfl) ?_
    refine reg ?_
    refine la ?_
    refine la ?_
    refine liNil (qThen (stRet (qThenR ?_)))
    refine stEnd [(.pointer none), (.int .i64 1)] rfl ⟨rfl, rfl, trivial⟩ (fun w hM => ?_)
    exact ⟨by rw [newE, if_neg (by simp [show okP fan leaf = false by simpa using hc9])]; rfl, (fun (w : World) (h : Mm _ _ _ w) => Mm.sub h (.cons _ .slnil)) w hM⟩
  · have hop : okP fan leaf = true := by simpa using hc9
    have hne : newE fan leaf l = setE l := by rw [newE, if_pos hop]
    refine stSkip (qThen (stSeq (stSeq (reg ?_))))
    refine lm ?_
    refine li rfl ?_
    refine opK0 (fun w hM => (rsCheck_any A c l w (r0.go0 hM) (by omega)).mono ?_)
    rintro e w' ⟨rfl, hP⟩
    refine ⟨_, _, rfl, hP, ?_⟩; clear hP hM
    refine la ?_
    refine liNil (qThen (stSeq (reg ?_)))
    refine lm ?_
    refine lc (.bool (((setE l) : Int) != 0)) ?_
    refine liNil (qThen ?_)
    refine stTrueK rfl (by rw [hne] at he; simpa using he) ?_
    refine stSeq (reg ?_)
    refine lm ?_
    refine la ?_
    refine la ?_
    refine liNil (qThen (stRet (qThenR ?_)))
    refine stEnd [(.pointer none), (.int .i64 (setE l))] rfl ⟨rfl, rfl, trivial⟩ (fun w hM => ?_)
    exact ⟨by rw [hne]; rfl, (fun (w : World) (h : Mm _ _ _ w) => Mm.sub h (.cons _ .slnil)) w hM⟩

set_option maxRecDepth 100000 in
set_option maxHeartbeats 1000000 in
theorem rsNew_ok (A : Option Addr) (c : Nat) (l : List (List UInt8)) (fan : Nat) (leaf : Nat) (w : World) (r0 : Rf [] w (fun w => RowIn w A (SS l))) (hl4 : l.length ≤ 4294967296) (hp : okP (fan : Int) (leaf : Int) = true) (he : setE l = 0) :
    Calls Tryz.prog 13 #[(.slice A (l.length) (c)), (.agg #[(.int .i64 ((fan : Nat) : Int)), (.int .i64 ((leaf : Nat) : Int))])] w fun e w' => ∃ (bs : Nat) (A2 : Option Addr) (c2 : Nat) (nm : Nat) (om : Nat), e = .returned (.tuple #[(.pointer (some ⟨bs, 0, none⟩)), (.int .i64 0)]) ∧ Back [] w [cAt bs 66 [(.slice A2 (l.length) (c2)), (.int .i64 ((fan : Nat) : Int)), (.int .i64 ((leaf : Nat) : Int)), (.map (some nm)), (.map (some om))], cOwn 9 1 A2 (l.length) (c2) (SS l), cSet nm ([]), cSet om ([])] w' := by
  refine stEnter (args := [(.slice A (l.length) (c)), (.agg #[(.int .i64 ((fan : Nat) : Int)), (.int .i64 ((leaf : Nat) : Int))])]) (fps []) Tryz.func13 rfl 22 rfl [(0, (.slice A (l.length) (c))), (1, (.agg #[(.int .i64 ((fan : Nat) : Int)), (.int .i64 ((leaf : Nat) : Int))]))] ⟨rfl, rfl, trivial⟩ [] (Mm.start w []) ?_
  refine stSeq (reg (li rfl ?_))
  refine opBox [(.int .i64 ((fan : Nat) : Int)), (.int .i64 ((leaf : Nat) : Int))] rfl rfl (by kernel_rfl) rfl rfl (fun b3 => ?_)
  refine la ?_
  refine la ?_
  refine liNil (qThen (stSeq (stSeq (reg ?_))))
  refine lv (v := (.agg #[(.int .i64 ((fan : Nat) : Int)), (.int .i64 ((leaf : Nat) : Int))])) (rLoadA [(.int .i64 ((fan : Nat) : Int)), (.int .i64 ((leaf : Nat) : Int))] rfl rfl (by kernel_rfl) (by kernel_rfl) (segAt (i := 0) rfl (by intro j v hj; first | (rw [Nat.zero_add]; exact hj) | (match j, hj with | 0, h => exact h | 1, h => exact h)))) ?_
  refine li rfl ?_
  refine opK0 (fun w hM => (rsPvalid_any ((fan : Nat) : Int) ((leaf : Nat) : Int) w ).mono ?_)
  rintro e w' ⟨rfl, hP⟩
  refine ⟨_, _, rfl, hP, ?_⟩; clear hP hM
  refine lc (.bool (!(okP ((fan : Nat) : Int) ((leaf : Nat) : Int)))) ?_
  refine liNil (qThen ?_)
  refine stFalseK rfl (by simp [hp]) ?_
  refine stSkip (qThen (stSeq (stSeq ?_)))
  refine St.to [cAt b3 33 [(.int .i64 ((fan : Nat) : Int)), (.int .i64 ((leaf : Nat) : Int))]] (by kernel_rfl) ?_
  refine reg ?_
  refine lm ?_
  refine li rfl ?_
  refine opK0 (fun w hM => (rsCheck_any A c l w (r0.go0 hM) (by omega)).mono ?_)
  rintro e w' ⟨rfl, hP⟩
  refine ⟨_, _, rfl, hP, ?_⟩; clear hP hM
  refine la ?_
  refine liNil (qThen (stSeq (reg ?_)))
  refine lm ?_
  refine lc (.bool (((setE l) : Int) != 0)) ?_
  refine liNil (qThen ?_)
  refine stFalseK rfl (by simp [he]) ?_
  refine stSkip (qThen ?_)
  refine stCut (ι := Option Addr × Nat × Nat × Nat × Nat) (fun _ => True) (fun (B16, cb16, m18, m19, b21) => [(0, (.slice A (l.length) (c))), (1, (.agg #[(.int .i64 ((fan : Nat) : Int)), (.int .i64 ((leaf : Nat) : Int))])), (3, (.pointer (some ⟨b3, 0, none⟩))), (4, (.pointer (some ⟨b21, 0, none⟩))), (5, (.int .i64 0)), (7, (.agg #[(.int .i64 ((fan : Nat) : Int)), (.int .i64 ((leaf : Nat) : Int))])), (8, (.bool (okP ((fan : Nat) : Int) ((leaf : Nat) : Int)))), (9, (.bool (!(okP ((fan : Nat) : Int) ((leaf : Nat) : Int))))), (10, (.slice A (l.length) (c))), (11, (.int .i64 (setE l))), (6, (.int .i64 (setE l))), (12, (.int .i64 (setE l))), (13, (.bool (((setE l) : Int) != 0))), (15, (.slice A (l.length) (c))), (17, (.agg #[(.int .i64 ((fan : Nat) : Int)), (.int .i64 ((leaf : Nat) : Int))])), (16, (.slice B16 (l.length) (cb16))), (18, (.map (some m18))), (19, (.map (some m19))), (20, (.agg #[(.slice B16 (l.length) (cb16)), (.int .i64 ((fan : Nat) : Int)), (.int .i64 ((leaf : Nat) : Int)), (.map (some m18)), (.map (some m19))])), (21, (.pointer (some ⟨b21, 0, none⟩)))]) (fun (B16, cb16, m18, m19, b21) => [cAt b3 33 [(.int .i64 ((fan : Nat) : Int)), (.int .i64 ((leaf : Nat) : Int))], cOwn 9 1 B16 (l.length) (cb16) (SS l), cSet m18 ([]), cSet m19 ([]), cAt b21 66 [(.slice B16 (l.length) (cb16)), (.int .i64 ((fan : Nat) : Int)), (.int .i64 ((leaf : Nat) : Int)), (.map (some m18)), (.map (some m19))]]) ?_ ?_
  · refine anyBegin [cAt b3 33 [(.int .i64 ((fan : Nat) : Int)), (.int .i64 ((leaf : Nat) : Int))]] 9 (by kernel_rfl) (fun _ h => h) ?_
    refine am 0 ?_
    refine av 2 (.agg #[(.int .i64 ((fan : Nat) : Int)), (.int .i64 ((leaf : Nat) : Int))]) rfl (rLoadA [(.int .i64 ((fan : Nat) : Int)), (.int .i64 ((leaf : Nat) : Int))] rfl rfl (by kernel_rfl) (by kernel_rfl) (segAt (i := 0) rfl (by intro j v hj; first | (rw [Nat.zero_add]; exact hj) | (match j, hj with | 0, h => exact h | 1, h => exact h)))) ?_
    refine anyThree (i := 1) (j := 3) (k := 4) (by kernel_rfl) rfl rfl rfl rfl rfl rfl ?_ ?_ ?_
    · refine opK0 (fun w hM => (rsClone_any A c l w (r0.go0 hM) (by omega)).mono ?_)
      rintro e w' ⟨B16, cb16, rfl, hP⟩
      refine ⟨_, _, rfl, hP, ?_⟩; clear hP hM
      refine St.to [cAt b3 33 [(.int .i64 ((fan : Nat) : Int)), (.int .i64 ((leaf : Nat) : Int))], cOwn 9 1 B16 (l.length) (cb16) (SS l)] (by kernel_rfl) ?_
      refine anyNext [cAt b3 33 [(.int .i64 ((fan : Nat) : Int)), (.int .i64 ((leaf : Nat) : Int))], cOwn 9 1 B16 (l.length) (cb16) (SS l)] (fun _ h => h.sub (.cons_cons _ (.cons _ .slnil))) (fun _ h => h) ?_
      refine anyTwo (i := 3) (j := 4) (by kernel_rfl) rfl rfl rfl rfl ?_ ?_
      · refine opMakeSet rfl rfl (by kernel_rfl) (fun m18 => ?_)
        refine anyNext [cAt b3 33 [(.int .i64 ((fan : Nat) : Int)), (.int .i64 ((leaf : Nat) : Int))], cOwn 9 1 B16 (l.length) (cb16) (SS l), cSet m18 ([])] (fun _ h => h.sub (.cons_cons _ (.cons_cons _ (.cons _ .slnil)))) (fun _ h => h) ?_
        refine a1 4 ?_
        refine opMakeSet rfl rfl (by kernel_rfl) (fun m19 => ?_)
        refine anyNext [cAt b3 33 [(.int .i64 ((fan : Nat) : Int)), (.int .i64 ((leaf : Nat) : Int))], cOwn 9 1 B16 (l.length) (cb16) (SS l), cSet m18 ([]), cSet m19 ([])] (fun _ h => h.sub (.cons_cons _ (.cons_cons _ (.cons_cons _ (.cons _ .slnil))))) (fun _ h => h) ?_
        refine ac 5 (.agg #[(.slice B16 (l.length) (cb16)), (.int .i64 ((fan : Nat) : Int)), (.int .i64 ((leaf : Nat) : Int)), (.map (some m18)), (.map (some m19))]) ?_
        refine a1 6 ?_
        refine opBox [(.slice B16 (l.length) (cb16)), (.int .i64 ((fan : Nat) : Int)), (.int .i64 ((leaf : Nat) : Int)), (.map (some m18)), (.map (some m19))] rfl rfl (by kernel_rfl) rfl rfl (fun b21 => ?_)
        refine anyNext [cAt b3 33 [(.int .i64 ((fan : Nat) : Int)), (.int .i64 ((leaf : Nat) : Int))], cOwn 9 1 B16 (l.length) (cb16) (SS l), cSet m18 ([]), cSet m19 ([]), cAt b21 66 [(.slice B16 (l.length) (cb16)), (.int .i64 ((fan : Nat) : Int)), (.int .i64 ((leaf : Nat) : Int)), (.map (some m18)), (.map (some m19))]] (fun _ h => h.sub (.cons_cons _ (.cons_cons _ (.cons_cons _ (.cons_cons _ (.cons _ .slnil)))))) (fun _ h => h) ?_
        refine aa 7 ?_
        refine aa 8 ?_
        refine anyDone (by kernel_rfl) ?_
        refine qThen ?_
        exact stMeet (B16, cb16, m18, m19, b21) trivial ⟨rfl, rfl, rfl, rfl, rfl, rfl, rfl, rfl, rfl, rfl, rfl, rfl, rfl, rfl, rfl, rfl, rfl, rfl, rfl, rfl, trivial⟩ (fun _ h => h)
      · refine opMakeSet rfl rfl (by kernel_rfl) (fun m19 => ?_)
        refine St.to [cAt b3 33 [(.int .i64 ((fan : Nat) : Int)), (.int .i64 ((leaf : Nat) : Int))], cOwn 9 1 B16 (l.length) (cb16) (SS l), cSet m19 ([])] (by kernel_rfl) ?_
        refine anyNext [cAt b3 33 [(.int .i64 ((fan : Nat) : Int)), (.int .i64 ((leaf : Nat) : Int))], cOwn 9 1 B16 (l.length) (cb16) (SS l), cSet m19 ([])] (fun _ h => h.sub (.cons_cons _ (.cons_cons _ (.cons _ .slnil)))) (fun _ h => h) ?_
        refine a1 3 ?_
        refine opMakeSet rfl rfl (by kernel_rfl) (fun m18 => ?_)
        refine anyNext [cAt b3 33 [(.int .i64 ((fan : Nat) : Int)), (.int .i64 ((leaf : Nat) : Int))], cOwn 9 1 B16 (l.length) (cb16) (SS l), cSet m19 ([]), cSet m18 ([])] (fun _ h => h.sub (.cons_cons _ (.cons_cons _ (.cons_cons _ (.cons _ .slnil))))) (fun _ h => h) ?_
        refine ac 5 (.agg #[(.slice B16 (l.length) (cb16)), (.int .i64 ((fan : Nat) : Int)), (.int .i64 ((leaf : Nat) : Int)), (.map (some m18)), (.map (some m19))]) ?_
        refine a1 6 ?_
        refine opBox [(.slice B16 (l.length) (cb16)), (.int .i64 ((fan : Nat) : Int)), (.int .i64 ((leaf : Nat) : Int)), (.map (some m18)), (.map (some m19))] rfl rfl (by kernel_rfl) rfl rfl (fun b21 => ?_)
        refine anyNext [cAt b3 33 [(.int .i64 ((fan : Nat) : Int)), (.int .i64 ((leaf : Nat) : Int))], cOwn 9 1 B16 (l.length) (cb16) (SS l), cSet m19 ([]), cSet m18 ([]), cAt b21 66 [(.slice B16 (l.length) (cb16)), (.int .i64 ((fan : Nat) : Int)), (.int .i64 ((leaf : Nat) : Int)), (.map (some m18)), (.map (some m19))]] (fun _ h => h.sub (.cons_cons _ (.cons_cons _ (.cons_cons _ (.cons_cons _ (.cons _ .slnil)))))) (fun _ h => h) ?_
        refine aa 7 ?_
        refine aa 8 ?_
        refine anyDone (by kernel_rfl) ?_
        refine qThen ?_
        exact stMeet (B16, cb16, m18, m19, b21) trivial ⟨rfl, rfl, rfl, rfl, rfl, rfl, rfl, rfl, rfl, rfl, rfl, rfl, rfl, rfl, rfl, rfl, rfl, rfl, rfl, rfl, trivial⟩ (fun _ h => h.perm (.cons _ (.cons _ (.swap _ _ _))))
    · refine opMakeSet rfl rfl (by kernel_rfl) (fun m18 => ?_)
      refine anyNext [cAt b3 33 [(.int .i64 ((fan : Nat) : Int)), (.int .i64 ((leaf : Nat) : Int))], cSet m18 ([])] (fun _ h => h.sub (.cons_cons _ (.cons _ .slnil))) (fun _ h => h) ?_
      refine anyTwo (i := 1) (j := 4) (by kernel_rfl) rfl rfl rfl rfl ?_ ?_
      · refine opK0 (fun w hM => (rsClone_any A c l w (r0.go0 hM) (by omega)).mono ?_)
        rintro e w' ⟨B16, cb16, rfl, hP⟩
        refine ⟨_, _, rfl, hP, ?_⟩; clear hP hM
        refine St.to [cAt b3 33 [(.int .i64 ((fan : Nat) : Int)), (.int .i64 ((leaf : Nat) : Int))], cSet m18 ([]), cOwn 9 1 B16 (l.length) (cb16) (SS l)] (by kernel_rfl) ?_
        refine anyNext [cAt b3 33 [(.int .i64 ((fan : Nat) : Int)), (.int .i64 ((leaf : Nat) : Int))], cSet m18 ([]), cOwn 9 1 B16 (l.length) (cb16) (SS l)] (fun _ h => h.sub (.cons_cons _ (.cons_cons _ (.cons _ .slnil)))) (fun _ h => h) ?_
        refine a1 4 ?_
        refine opMakeSet rfl rfl (by kernel_rfl) (fun m19 => ?_)
        refine anyNext [cAt b3 33 [(.int .i64 ((fan : Nat) : Int)), (.int .i64 ((leaf : Nat) : Int))], cSet m18 ([]), cOwn 9 1 B16 (l.length) (cb16) (SS l), cSet m19 ([])] (fun _ h => h.sub (.cons_cons _ (.cons_cons _ (.cons_cons _ (.cons _ .slnil))))) (fun _ h => h) ?_
        refine ac 5 (.agg #[(.slice B16 (l.length) (cb16)), (.int .i64 ((fan : Nat) : Int)), (.int .i64 ((leaf : Nat) : Int)), (.map (some m18)), (.map (some m19))]) ?_
        refine a1 6 ?_
        refine opBox [(.slice B16 (l.length) (cb16)), (.int .i64 ((fan : Nat) : Int)), (.int .i64 ((leaf : Nat) : Int)), (.map (some m18)), (.map (some m19))] rfl rfl (by kernel_rfl) rfl rfl (fun b21 => ?_)
        refine anyNext [cAt b3 33 [(.int .i64 ((fan : Nat) : Int)), (.int .i64 ((leaf : Nat) : Int))], cSet m18 ([]), cOwn 9 1 B16 (l.length) (cb16) (SS l), cSet m19 ([]), cAt b21 66 [(.slice B16 (l.length) (cb16)), (.int .i64 ((fan : Nat) : Int)), (.int .i64 ((leaf : Nat) : Int)), (.map (some m18)), (.map (some m19))]] (fun _ h => h.sub (.cons_cons _ (.cons_cons _ (.cons_cons _ (.cons_cons _ (.cons _ .slnil)))))) (fun _ h => h) ?_
        refine aa 7 ?_
        refine aa 8 ?_
        refine anyDone (by kernel_rfl) ?_
        refine qThen ?_
        exact stMeet (B16, cb16, m18, m19, b21) trivial ⟨rfl, rfl, rfl, rfl, rfl, rfl, rfl, rfl, rfl, rfl, rfl, rfl, rfl, rfl, rfl, rfl, rfl, rfl, rfl, rfl, trivial⟩ (fun _ h => h.perm (.cons _ (.swap _ _ _)))
      · refine opMakeSet rfl rfl (by kernel_rfl) (fun m19 => ?_)
        refine anyNext [cAt b3 33 [(.int .i64 ((fan : Nat) : Int)), (.int .i64 ((leaf : Nat) : Int))], cSet m18 ([]), cSet m19 ([])] (fun _ h => h.sub (.cons_cons _ (.cons_cons _ (.cons _ .slnil)))) (fun _ h => h) ?_
        refine a1 1 ?_
        refine opK0 (fun w hM => (rsClone_any A c l w (r0.go0 hM) (by omega)).mono ?_)
        rintro e w' ⟨B16, cb16, rfl, hP⟩
        refine ⟨_, _, rfl, hP, ?_⟩; clear hP hM
        refine St.to [cAt b3 33 [(.int .i64 ((fan : Nat) : Int)), (.int .i64 ((leaf : Nat) : Int))], cSet m18 ([]), cSet m19 ([]), cOwn 9 1 B16 (l.length) (cb16) (SS l)] (by kernel_rfl) ?_
        refine anyNext [cAt b3 33 [(.int .i64 ((fan : Nat) : Int)), (.int .i64 ((leaf : Nat) : Int))], cSet m18 ([]), cSet m19 ([]), cOwn 9 1 B16 (l.length) (cb16) (SS l)] (fun _ h => h.sub (.cons_cons _ (.cons_cons _ (.cons_cons _ (.cons _ .slnil))))) (fun _ h => h) ?_
        refine ac 5 (.agg #[(.slice B16 (l.length) (cb16)), (.int .i64 ((fan : Nat) : Int)), (.int .i64 ((leaf : Nat) : Int)), (.map (some m18)), (.map (some m19))]) ?_
        refine a1 6 ?_
        refine opBox [(.slice B16 (l.length) (cb16)), (.int .i64 ((fan : Nat) : Int)), (.int .i64 ((leaf : Nat) : Int)), (.map (some m18)), (.map (some m19))] rfl rfl (by kernel_rfl) rfl rfl (fun b21 => ?_)
        refine anyNext [cAt b3 33 [(.int .i64 ((fan : Nat) : Int)), (.int .i64 ((leaf : Nat) : Int))], cSet m18 ([]), cSet m19 ([]), cOwn 9 1 B16 (l.length) (cb16) (SS l), cAt b21 66 [(.slice B16 (l.length) (cb16)), (.int .i64 ((fan : Nat) : Int)), (.int .i64 ((leaf : Nat) : Int)), (.map (some m18)), (.map (some m19))]] (fun _ h => h.sub (.cons_cons _ (.cons_cons _ (.cons_cons _ (.cons_cons _ (.cons _ .slnil)))))) (fun _ h => h) ?_
        refine aa 7 ?_
        refine aa 8 ?_
        refine anyDone (by kernel_rfl) ?_
        refine qThen ?_
        exact stMeet (B16, cb16, m18, m19, b21) trivial ⟨rfl, rfl, rfl, rfl, rfl, rfl, rfl, rfl, rfl, rfl, rfl, rfl, rfl, rfl, rfl, rfl, rfl, rfl, rfl, rfl, trivial⟩ (fun _ h => h.perm (.trans (.cons _ (.cons _ (.swap _ _ _))) (.cons _ (.swap _ _ _))))
    · refine opMakeSet rfl rfl (by kernel_rfl) (fun m19 => ?_)
      refine anyNext [cAt b3 33 [(.int .i64 ((fan : Nat) : Int)), (.int .i64 ((leaf : Nat) : Int))], cSet m19 ([])] (fun _ h => h.sub (.cons_cons _ (.cons _ .slnil))) (fun _ h => h) ?_
      refine anyTwo (i := 1) (j := 3) (by kernel_rfl) rfl rfl rfl rfl ?_ ?_
      · refine opK0 (fun w hM => (rsClone_any A c l w (r0.go0 hM) (by omega)).mono ?_)
        rintro e w' ⟨B16, cb16, rfl, hP⟩
        refine ⟨_, _, rfl, hP, ?_⟩; clear hP hM
        refine anyNext [cAt b3 33 [(.int .i64 ((fan : Nat) : Int)), (.int .i64 ((leaf : Nat) : Int))], cSet m19 ([]), cOwn 9 1 B16 (l.length) (cb16) (SS l)] (fun _ h => h.sub (.cons_cons _ (.cons_cons _ (.cons _ .slnil)))) (fun _ h => h) ?_
        refine a1 3 ?_
        refine opMakeSet rfl rfl (by kernel_rfl) (fun m18 => ?_)
        refine St.to [cAt b3 33 [(.int .i64 ((fan : Nat) : Int)), (.int .i64 ((leaf : Nat) : Int))], cSet m19 ([]), cOwn 9 1 B16 (l.length) (cb16) (SS l), cSet m18 ([])] (by kernel_rfl) ?_
        refine anyNext [cAt b3 33 [(.int .i64 ((fan : Nat) : Int)), (.int .i64 ((leaf : Nat) : Int))], cSet m19 ([]), cOwn 9 1 B16 (l.length) (cb16) (SS l), cSet m18 ([])] (fun _ h => h.sub (.cons_cons _ (.cons_cons _ (.cons_cons _ (.cons _ .slnil))))) (fun _ h => h) ?_
        refine ac 5 (.agg #[(.slice B16 (l.length) (cb16)), (.int .i64 ((fan : Nat) : Int)), (.int .i64 ((leaf : Nat) : Int)), (.map (some m18)), (.map (some m19))]) ?_
        refine a1 6 ?_
        refine opBox [(.slice B16 (l.length) (cb16)), (.int .i64 ((fan : Nat) : Int)), (.int .i64 ((leaf : Nat) : Int)), (.map (some m18)), (.map (some m19))] rfl rfl (by kernel_rfl) rfl rfl (fun b21 => ?_)
        refine anyNext [cAt b3 33 [(.int .i64 ((fan : Nat) : Int)), (.int .i64 ((leaf : Nat) : Int))], cSet m19 ([]), cOwn 9 1 B16 (l.length) (cb16) (SS l), cSet m18 ([]), cAt b21 66 [(.slice B16 (l.length) (cb16)), (.int .i64 ((fan : Nat) : Int)), (.int .i64 ((leaf : Nat) : Int)), (.map (some m18)), (.map (some m19))]] (fun _ h => h.sub (.cons_cons _ (.cons_cons _ (.cons_cons _ (.cons_cons _ (.cons _ .slnil)))))) (fun _ h => h) ?_
        refine aa 7 ?_
        refine aa 8 ?_
        refine anyDone (by kernel_rfl) ?_
        refine qThen ?_
        exact stMeet (B16, cb16, m18, m19, b21) trivial ⟨rfl, rfl, rfl, rfl, rfl, rfl, rfl, rfl, rfl, rfl, rfl, rfl, rfl, rfl, rfl, rfl, rfl, rfl, rfl, rfl, trivial⟩ (fun _ h => h.perm (.trans (.cons _ (.swap _ _ _)) (.cons _ (.cons _ (.swap _ _ _)))))
      · refine opMakeSet rfl rfl (by kernel_rfl) (fun m18 => ?_)
        refine anyNext [cAt b3 33 [(.int .i64 ((fan : Nat) : Int)), (.int .i64 ((leaf : Nat) : Int))], cSet m19 ([]), cSet m18 ([])] (fun _ h => h.sub (.cons_cons _ (.cons_cons _ (.cons _ .slnil)))) (fun _ h => h) ?_
        refine a1 1 ?_
        refine opK0 (fun w hM => (rsClone_any A c l w (r0.go0 hM) (by omega)).mono ?_)
        rintro e w' ⟨B16, cb16, rfl, hP⟩
        refine ⟨_, _, rfl, hP, ?_⟩; clear hP hM
        refine anyNext [cAt b3 33 [(.int .i64 ((fan : Nat) : Int)), (.int .i64 ((leaf : Nat) : Int))], cSet m19 ([]), cSet m18 ([]), cOwn 9 1 B16 (l.length) (cb16) (SS l)] (fun _ h => h.sub (.cons_cons _ (.cons_cons _ (.cons_cons _ (.cons _ .slnil))))) (fun _ h => h) ?_
        refine ac 5 (.agg #[(.slice B16 (l.length) (cb16)), (.int .i64 ((fan : Nat) : Int)), (.int .i64 ((leaf : Nat) : Int)), (.map (some m18)), (.map (some m19))]) ?_
        refine a1 6 ?_
        refine opBox [(.slice B16 (l.length) (cb16)), (.int .i64 ((fan : Nat) : Int)), (.int .i64 ((leaf : Nat) : Int)), (.map (some m18)), (.map (some m19))] rfl rfl (by kernel_rfl) rfl rfl (fun b21 => ?_)
        refine St.to [cAt b3 33 [(.int .i64 ((fan : Nat) : Int)), (.int .i64 ((leaf : Nat) : Int))], cSet m19 ([]), cSet m18 ([]), cOwn 9 1 B16 (l.length) (cb16) (SS l), cAt b21 66 [(.slice B16 (l.length) (cb16)), (.int .i64 ((fan : Nat) : Int)), (.int .i64 ((leaf : Nat) : Int)), (.map (some m18)), (.map (some m19))]] (by kernel_rfl) ?_
        refine anyNext [cAt b3 33 [(.int .i64 ((fan : Nat) : Int)), (.int .i64 ((leaf : Nat) : Int))], cSet m19 ([]), cSet m18 ([]), cOwn 9 1 B16 (l.length) (cb16) (SS l), cAt b21 66 [(.slice B16 (l.length) (cb16)), (.int .i64 ((fan : Nat) : Int)), (.int .i64 ((leaf : Nat) : Int)), (.map (some m18)), (.map (some m19))]] (fun _ h => h.sub (.cons_cons _ (.cons_cons _ (.cons_cons _ (.cons_cons _ (.cons _ .slnil)))))) (fun _ h => h) ?_
        refine aa 7 ?_
        refine aa 8 ?_
        refine anyDone (by kernel_rfl) ?_
        refine qThen ?_
        exact stMeet (B16, cb16, m18, m19, b21) trivial ⟨rfl, rfl, rfl, rfl, rfl, rfl, rfl, rfl, rfl, rfl, rfl, rfl, rfl, rfl, rfl, rfl, rfl, rfl, rfl, rfl, trivial⟩ (fun _ h => h.perm (.trans (.trans (.cons _ (.cons _ (.swap _ _ _))) (.cons _ (.swap _ _ _))) (.cons _ (.cons _ (.swap _ _ _)))))
  · rintro ⟨B16, cb16, m18, m19, b21⟩ -
    show St _ _ _ [(0, (.slice A (l.length) (c))), (1, (.agg #[(.int .i64 ((fan : Nat) : Int)), (.int .i64 ((leaf : Nat) : Int))])), (3, (.pointer (some ⟨b3, 0, none⟩))), (4, (.pointer (some ⟨b21, 0, none⟩))), (5, (.int .i64 0)), (7, (.agg #[(.int .i64 ((fan : Nat) : Int)), (.int .i64 ((leaf : Nat) : Int))])), (8, (.bool (okP ((fan : Nat) : Int) ((leaf : Nat) : Int)))), (9, (.bool (!(okP ((fan : Nat) : Int) ((leaf : Nat) : Int))))), (10, (.slice A (l.length) (c))), (11, (.int .i64 (setE l))), (6, (.int .i64 (setE l))), (12, (.int .i64 (setE l))), (13, (.bool (((setE l) : Int) != 0))), (15, (.slice A (l.length) (c))), (17, (.agg #[(.int .i64 ((fan : Nat) : Int)), (.int .i64 ((leaf : Nat) : Int))])), (16, (.slice B16 (l.length) (cb16))), (18, (.map (some m18))), (19, (.map (some m19))), (20, (.agg #[(.slice B16 (l.length) (cb16)), (.int .i64 ((fan : Nat) : Int)), (.int .i64 ((leaf : Nat) : Int)), (.map (some m18)), (.map (some m19))])), (21, (.pointer (some ⟨b21, 0, none⟩)))] [cAt b3 33 [(.int .i64 ((fan : Nat) : Int)), (.int .i64 ((leaf : Nat) : Int))], cOwn 9 1 B16 (l.length) (cb16) (SS l), cSet m18 ([]), cSet m19 ([]), cAt b21 66 [(.slice B16 (l.length) (cb16)), (.int .i64 ((fan : Nat) : Int)), (.int .i64 ((leaf : Nat) : Int)), (.map (some m18)), (.map (some m19))]] _
    refine stRet ?_
    refine stEnd [(.pointer (some ⟨b21, 0, none⟩)), (.int .i64 0)] rfl ⟨rfl, rfl, trivial⟩ (fun w hM => ?_)
    exact ⟨b21, B16, cb16, m18, m19, rfl, (fun (w : World) (h : Mm _ _ _ w) => Mm.perm h (.trans (.trans (.cons _ (.cons _ (.swap _ _ _))) (.cons _ (.swap _ _ _))) (.swap _ _ _))) w ((fun (w : World) (h : Mm _ _ _ w) => Mm.sub h (.cons _ (.cons_cons _ (.cons_cons _ (.cons_cons _ (.cons_cons _ .slnil)))))) w hM)⟩

set_option maxRecDepth 100000 in
set_option maxHeartbeats 1000000 in
theorem rsStart_any (bs : Nat) (A : Option Addr) (c : Nat) (its : List (List UInt8)) (fan : Nat) (leaf : Nat) (nm : Nat) (om : Nat) (w : World) (r0 : Rf [] w (Vars)) (r1 : Rf [] w (SessAt bs A c its fan leaf nm om)) (hs : okSet its) (hn : its.length ≤ 1000) (hcap : its.length ≤ c) (h40 : its.length ≤ 40) :
    Calls Tryz.prog 15 #[(.pointer (some ⟨bs, 0, none⟩))] w fun e w' => ∃ (B : Option Addr) (cb : Nat), e = .returned (.slice B ((encA [sumA its [] []]).length) (cb)) ∧ Back [] w [cOwn 5 1 B ((encA [sumA its [] []]).length) (cb) (B8 (encA [sumA its [] []]))] w' := by
  have ra := r1.imp (fun _ h => h.1)
  have rb := r1.imp (fun _ h => h.2)
  refine stEnter (args := [(.pointer (some ⟨bs, 0, none⟩))]) (fps []) Tryz.func15 rfl 17 rfl [(0, (.pointer (some ⟨bs, 0, none⟩)))] ⟨rfl, trivial⟩ [] (Mm.start w []) ?_
  refine stSeq (reg ?_)
  refine la ?_
  refine liNil (qThen (stSeq (reg ?_)))
  refine lc (.agg #[(.string ⟨#[]⟩), (.string ⟨#[]⟩)]) ?_
  refine lm ?_
  refine lc (.agg #[(.string ⟨#[]⟩), (.string ⟨#[]⟩)]) ?_
  refine li rfl ?_
  refine opK0 (fun w hM => (rsSum_any bs A c its fan leaf nm om [] [] w (r0.go0 hM) (r1.go0 hM) (by assumption) (by assumption) (by assumption)).mono ?_)
  rintro e w' ⟨rfl, hP⟩
  refine ⟨_, _, rfl, hP, ?_⟩; clear hP hM
  refine lc (.iface 71 (.agg #[(.int .i64 (((inL its [] []).length : Nat) : Int)), (.string (strOf (fpB (inL its [] []))))])) ?_
  refine lc (.agg #[(.string ⟨#[]⟩), (.string ⟨#[]⟩), (.iface 71 (.agg #[(.int .i64 (((inL its [] []).length : Nat) : Int)), (.string (strOf (fpB (inL its [] []))))]))]) ?_
  refine li rfl ?_
  refine opNew (v := fun b => .slice (some ⟨b, 0, none⟩) 1 1) 76 [(.string ⟨#[]⟩), (.string ⟨#[]⟩), (.iface 71 (.agg #[(.int .i64 (((inL its [] []).length : Nat) : Int)), (.string (strOf (fpB (inL its [] []))))]))] rfl (by kernel_rfl) (fun _ => by kernel_rfl) (fun b12 => ?_)
  refine li rfl ?_
  refine opK0 (fun w hM => (rsEncode_any (some ⟨b12, 0, none⟩) 1 ([sumP its [] []]) w (hM.keep0 (j := 0) rfl (fun _ h => rowAtI h rfl)) ((r0.go0 hM).imp (fun w _ => psok1)) (fun p hp => by rw [List.mem_singleton.1 hp]; exact (start_ok h40).1) ((start_ok h40).2.1)).mono ?_)
  rintro e w' ⟨B13, cb13, rfl, hP⟩
  refine ⟨_, _, rfl, hP, ?_⟩; clear hP hM
  refine lm ?_
  refine lc (.slice B13 ((encA (([sumP its [] []]).map PV.abs)).length) (cb13)) ?_
  refine lc (.int .i64 0) ?_
  refine la ?_
  refine la ?_
  refine liNil (qThen (stSeq ?_))
  refine St.to [cAt b12 76 [(.string ⟨#[]⟩), (.string ⟨#[]⟩), (.iface 71 (.agg #[(.int .i64 (((inL its [] []).length : Nat) : Int)), (.string (strOf (fpB (inL its [] []))))]))], cOwn 5 1 B13 ((encA (([sumP its [] []]).map PV.abs)).length) (cb13) (B8 (encA (([sumP its [] []]).map PV.abs)))] (by kernel_rfl) ?_
  refine reg ?_
  refine lm ?_
  refine la ?_
  refine liNil (qThen (stRet ?_))
  refine stEnd [(.slice B13 ((encA (([sumP its [] []]).map PV.abs)).length) (cb13))] rfl ⟨rfl, trivial⟩ (fun w hM => ?_)
  exact ⟨B13, cb13, rfl, (fun (w : World) (h : Mm _ _ _ w) => Mm.sub h (.cons _ (.cons_cons _ .slnil))) w hM⟩

end Go.Proofs.YtlepfnihpdhcaaaGreatDoor
