/- rangesum: items, fingerprints, bounds, lists with further items. -/
import Derived.Test.YtlepfnihpdhcaaaGreatDoorRs1
import Derived.Test.YtlepfnihpdhcaaaGreatDoorRsPlain
import Derived.Test.YtlepfnihpdhcaaaGreatDoorSha4
import Derived.Test.YtlepfnihpdhcaaaGreatDoorRefSha3
namespace Go.Proofs.YtlepfnihpdhcaaaGreatDoor
open Go.RowKit

theorem rsJoin_any (A : Option Addr) (c : Nat) (l : List (List UInt8)) (w : World) (r0 : Rf [] w (Vars)) (r1 : Rf [] w (fun w => RowIn w A (SS l))) (hj : l.flatten.length ≤ 549755813888) (hn : l.length ≤ 1000) :
    Calls Tryz.prog 51 #[(.slice A (l.length) (c))] w fun e w' => e = .returned (.string (strOf (sha l.flatten))) ∧ Back [] w [] w' := (shaJoin_any A c l w r0.here r1.here hj hn).mono fun _ _ ⟨he, hf⟩ => ⟨he, Mm.of_fr hf⟩
theorem rsRefSum_any (A : Option Addr) (c : Nat) (bs : List UInt8) (w : World) (r0 : Rf [] w (fun w => RowIn w A (B8 bs))) (hl : bs.length ≤ 68719476736) :
    Calls Tryz.prog 52 #[(.slice A (bs.length) (c))] w fun e w' => e = .returned (.string (strOf (sha bs))) ∧ Back [] w [] w' := (refSum_any A c bs w r0.here hl).mono fun _ _ ⟨he, hf⟩ => ⟨he, Mm.of_fr hf⟩

set_option maxRecDepth 100000 in
set_option maxHeartbeats 1000000 in
theorem lsItem_any (y : UInt8) (w : World) :
    Calls Tryz.prog 33 #[(.int .u8 ((y.toNat : Nat) : Int))] w fun e w' => e = .returned (.string (strOf (itemB y))) ∧ Back [] w [] w' := by
  refine stEnter (args := [(.int .u8 ((y.toNat : Nat) : Int))]) (fps []) Tryz.func33 rfl 15 rfl [(0, (.int .u8 ((y.toNat : Nat) : Int)))] ⟨rfl, trivial⟩ [] (Mm.start w []) ?_
  refine stSeq (reg ?_)
  refine la ?_
  refine liNil (qThen (stSeq (reg ?_)))
  refine la ?_
  refine liNil (qThen (stSeq (stSeq (reg ?_))))
  refine la ?_
  refine liNil (qThen (stBlock ?_))
  refine stLoop (ι := Nat) (fun i => i ≤ 32) (fun i => 32 - i) (fun i => [(0, (.int .u8 ((y.toNat : Nat) : Int))), (2, (.string ⟨#[]⟩)), (3, (.string (strOf (List.replicate i y)))), (4, (.int .i64 ((i : Nat) : Int)))]) (fun i => []) 0 (by omega) ⟨rfl, rfl, rfl, rfl, trivial⟩ (fun _ h => h) ?_
  intro i hok
  show St _ _ _ [(0, (.int .u8 ((y.toNat : Nat) : Int))), (2, (.string ⟨#[]⟩)), (3, (.string (strOf (List.replicate i y)))), (4, (.int .i64 ((i : Nat) : Int)))] [] _
  refine stSeq (stSeq (reg ?_))
  refine lm ?_
  refine lc (.bool (decide (((i : Nat) : Int) < 32))) ?_
  refine liNil (qThen ?_)
  refine stCond rfl (fun hc6 => ?_) (fun hc6 => ?_)
  · have hd6 := of_decide_eq_true hc6
    refine stSkip (qThen (stSeq (stBlock (reg ?_))))
    refine lm ?_
    refine lm ?_
    refine li rfl ?_
    refine opNew (v := fun b => .slice (some ⟨b, 0, none⟩) 1 1) 5 [(.int .u8 ((y.toNat : Nat) : Int))] rfl (by kernel_rfl) (fun _ => by kernel_rfl) (fun b11 => ?_)
    refine lv (v := (.string (strOf [y]))) (rStr (e := 5) [y] rfl (by kernel_rfl) (by kernel_rfl) (by kernel_rfl) rfl rfl (fun w hM => rowAtI (hM.at (i := 0) rfl) rfl)) ?_
    refine lv (v := (.string (strOf ((List.replicate i y) ++ [y])))) (rStrAdd rfl rfl rfl (by simp; omega)) ?_
    refine la ?_
    refine liNil (qBlock (qThen (reg ?_)))
    refine lm ?_
    refine lv (v := (.int .i64 ((i + 1 : Nat) : Int))) (rAdd _ rfl rfl rfl (by omega) (by omega) (by omega)) ?_
    refine la ?_
    refine liNil (qThen ?_)
    rw [show List.replicate i y ++ [y] = List.replicate (i + 1) y from (List.replicate_succ' ..).symm]
    refine St.drop (cs' := []) (List.nil_sublist _) ?_
    exact stAgain (i + 1) (by show _ ≤ _; omega) (by show 32 - (i + 1) < 32 - i; omega) ⟨rfl, rfl, rfl, rfl, trivial⟩ (fun w hM => by show Mm _ _ [] w; exact hM)
  · have hd6 := of_decide_eq_false hc6
    refine stExit (qThenX (qThenX (qBlockX (qThen (stSeq (reg ?_))))))
    refine lm ?_
    refine la ?_
    refine liNil (qThen (stRet ?_))
    refine stEnd [(.string (strOf (List.replicate i y)))] rfl ⟨rfl, trivial⟩ (fun w hM => ?_)
    exact ⟨by rw [show i = 32 by omega]; rfl, hM⟩

set_option maxRecDepth 100000 in
set_option maxHeartbeats 1000000 in
theorem rsRefFp_any (A : Option Addr) (c : Nat) (l : List (List UInt8)) (w : World) (r0 : Rf [] w (fun w => RowIn w A (SS l))) (hl : l.length ≤ 68719476736) (hf : l.flatten.length ≤ 68719476736) :
    Calls Tryz.prog 31 #[(.slice A (l.length) (c))] w fun e w' => e = .returned (.string (strOf (fpB l))) ∧ Back [] w [] w' := by
  refine stEnter (args := [(.slice A (l.length) (c))]) (fps []) Tryz.func31 rfl 19 rfl [(0, (.slice A (l.length) (c)))] ⟨rfl, trivial⟩ [] (Mm.start w []) ?_
  refine stSeq (reg ?_)
  refine la ?_
  refine liNil (qThen (stSeq (reg ?_)))
  refine la ?_
  refine liNil (qThen (stSeq (stSeq (reg ?_))))
  refine lm ?_
  refine lc (.int .i64 ((l.length : Nat) : Int)) ?_
  refine lm ?_
  refine liNil (qThen (stBlock ?_))
  refine stLoop (ι := Nat) (fun i => i ≤ l.length) (fun i => l.length - i) (fun i => [(2, (.string ⟨#[]⟩)), (6, (.slice A (l.length) (c))), (7, (.int .i64 ((l.length : Nat) : Int))), (3, (.string (strOf (l.take i).flatten))), (8, (.int .i64 ((i : Nat) : Int)))]) (fun i => []) 0 (Nat.zero_le _) ⟨rfl, rfl, rfl, rfl, rfl, trivial⟩ (fun _ h => h) ?_
  intro i hok
  show St _ _ _ [(2, (.string ⟨#[]⟩)), (6, (.slice A (l.length) (c))), (7, (.int .i64 ((l.length : Nat) : Int))), (3, (.string (strOf (l.take i).flatten))), (8, (.int .i64 ((i : Nat) : Int)))] [] _
  refine stSeq (reg ?_)
  refine lc (.bool (decide (((i : Nat) : Int) < ((l.length : Nat) : Int)))) ?_
  refine liNil (qThen (stSeq ?_))
  refine stCond rfl (fun hc9 => ?_) (fun hc9 => ?_)
  · have hd9 := of_decide_eq_true hc9
    refine stSkip (qThen (stSeq (stBlock (stSeq (reg ?_)))))
    obtain ⟨x0, hx0⟩ : ∃ ξ, (l)[i]? = some ξ := ⟨_, List.getElem?_eq_getElem (by omega)⟩
    refine St.rowPtr (fun w hM => r0.now hM) (SS_at hx0) (fun p10 q10 hA10 hc10 => ?_)
    refine lv (v := (.pointer (some ⟨p10, q10 + i, none⟩))) (rIndexRow (e := 9) rfl (by kernel_rfl) (by kernel_rfl) rfl rfl hA10 (by omega)) ?_
    refine lv (v := (.string (strOf x0))) (rLoadW rfl rfl (by kernel_rfl) hc10) ?_
    refine la ?_
    refine liNil (qThen (reg ?_))
    refine lm ?_
    refine lm ?_
    refine lv (v := (.string (strOf ((l.take i).flatten ++ x0)))) (rStrAdd rfl rfl rfl (by have := flatten_le (l := l) hx0; omega)) ?_
    refine la ?_
    refine liNil (qBlock (qThen (reg ?_)))
    refine lv (v := (.int .i64 ((i + 1 : Nat) : Int))) (rAdd _ rfl rfl rfl (by omega) (by omega) (by omega)) ?_
    refine lm ?_
    refine liNil (qThen ?_)
    rw [show (l.take i).flatten ++ x0 = (l.take (i + 1)).flatten from flatten_take hx0]
    exact stAgain (i + 1) (by show _ ≤ _; omega) (by show l.length - (i + 1) < l.length - i; omega) ⟨rfl, rfl, rfl, rfl, rfl, trivial⟩ (fun w hM => by show Mm _ _ [] w; exact hM)
  · have hd9 := of_decide_eq_false hc9
    obtain rfl : i = l.length := by omega
    rw [List.take_length]
    refine stExit (qThenX (qThenX (qBlockX (qThen (stSeq (reg ?_))))))
    refine lm ?_
    refine li rfl ?_
    refine opBytes (e := 5) (bs := l.flatten) rfl rfl (by kernel_rfl) (by kernel_rfl) (by kernel_rfl) (by kernel_rfl) rfl (fun b17 c17 => ?_)
    refine li rfl ?_
    refine opK0 (fun w hM => (rsRefSum_any (some ⟨b17, 0, none⟩) c17 l.flatten w (hM.keep0 (j := 0) rfl (fun _ h => cBlk_row h)) (by omega)).mono ?_)
    rintro e w' ⟨rfl, hP⟩
    refine ⟨_, _, rfl, hP, ?_⟩; clear hP hM
    refine la ?_
    refine liNil (qThen (stRet ?_))
    refine stEnd [(.string (strOf (sha l.flatten)))] rfl ⟨rfl, trivial⟩ (fun w hM => ?_)
    exact ⟨rfl, (fun (w : World) (h : Mm _ _ _ w) => Mm.sub h (.cons _ .slnil)) w hM⟩

set_option maxRecDepth 100000 in
set_option maxHeartbeats 1000000 in
theorem rsFp_bad (A : Option Addr) (c : Nat) (l : List (List UInt8)) (w : World) (r0 : Rf [] w (fun w => RowIn w A (SS l))) (hl : l.length ≤ 9223372036854775807) (he : setE l ≠ 0) :
    Calls Tryz.prog 30 #[(.slice A (l.length) (c))] w fun e w' => e = .returned (.tuple #[(.string (strOf [])), (.int .i64 (setE l))]) ∧ Back [] w [] w' := by
  refine stEnter (args := [(.slice A (l.length) (c))]) (fps []) Tryz.func30 rfl 12 rfl [(0, (.slice A (l.length) (c)))] ⟨rfl, trivial⟩ [] (Mm.start w []) ?_
  refine stSeq (reg ?_)
  refine la ?_
  refine la ?_
  refine liNil (qThen (stSeq (stSeq (reg ?_))))
  refine lm ?_
  refine li rfl ?_
  refine opK0 (fun w hM => (rsCheck_any A c l w (r0.go0 hM) (by omega)).mono ?_)
  rintro e w' ⟨rfl, hP⟩
  refine ⟨_, _, rfl, hP, ?_⟩; clear hP hM
  refine la ?_
  refine liNil (qThen (stSeq (reg ?_)))
  refine lm ?_
  refine lc (.bool (((setE l) : Int) != 0)) ?_
  refine liNil (qThen ?_)
  refine stTrueK rfl (by simpa using he) ?_
  refine stSeq (reg ?_)
  refine lm ?_
  refine la ?_
  refine la ?_
  refine liNil (qThen (stRet (qThenR ?_)))
  refine stEnd [(.string ⟨#[]⟩), (.int .i64 (setE l))] rfl ⟨rfl, rfl, trivial⟩ (fun w hM => ?_)
  exact ⟨rfl, hM⟩

set_option maxRecDepth 100000 in
set_option maxHeartbeats 1000000 in
theorem rsFp_ok (A : Option Addr) (c : Nat) (l : List (List UInt8)) (w : World) (r0 : Rf [] w (Vars)) (r1 : Rf [] w (fun w => RowIn w A (SS l))) (hl : l.length ≤ 9223372036854775807) (he : setE l = 0) (h40 : l.length ≤ 1000) :
    Calls Tryz.prog 30 #[(.slice A (l.length) (c))] w fun e w' => e = .returned (.tuple #[(.string (strOf (fpB l))), (.int .i64 0)]) ∧ Back [] w [] w' := by
  refine stEnter (args := [(.slice A (l.length) (c))]) (fps []) Tryz.func30 rfl 12 rfl [(0, (.slice A (l.length) (c)))] ⟨rfl, trivial⟩ [] (Mm.start w []) ?_
  refine stSeq (reg ?_)
  refine la ?_
  refine la ?_
  refine liNil (qThen (stSeq (stSeq (reg ?_))))
  refine lm ?_
  refine li rfl ?_
  refine opK0 (fun w hM => (rsCheck_any A c l w (r1.go0 hM) (by omega)).mono ?_)
  rintro e w' ⟨rfl, hP⟩
  refine ⟨_, _, rfl, hP, ?_⟩; clear hP hM
  refine la ?_
  refine liNil (qThen (stSeq (reg ?_)))
  refine lm ?_
  refine lc (.bool (((setE l) : Int) != 0)) ?_
  refine liNil (qThen ?_)
  refine stFalseK rfl (by simp [he]) ?_
  refine stSkip (qThen (stSeq (reg ?_)))
  refine lm ?_
  refine li rfl ?_
  refine opK0 (fun w hM => (rsJoin_any A c l w (r0.go0 hM) (r1.go0 hM) (by have := okSet_flat (setE_zero he); omega) (by omega)).mono ?_)
  rintro e w' ⟨rfl, hP⟩
  refine ⟨_, _, rfl, hP, ?_⟩; clear hP hM
  refine la ?_
  refine la ?_
  refine liNil (qThen (stRet ?_))
  refine stEnd [(.string (strOf (sha l.flatten))), (.int .i64 0)] rfl ⟨rfl, rfl, trivial⟩ (fun w hM => ?_)
  exact ⟨rfl, hM⟩

set_option maxRecDepth 100000 in
set_option maxHeartbeats 1000000 in
theorem rsDepth_any (n : Nat) (fan : Nat) (leaf : Nat) (w : World) (hf : 2 ≤ fan) (hf2 : fan ≤ 16) (hl : 1 ≤ leaf) (hl2 : leaf ≤ 64) (hn : n ≤ 16384) :
    Calls Tryz.prog 32 #[(.int .i64 ((n : Nat) : Int)), (.agg #[(.int .i64 ((fan : Nat) : Int)), (.int .i64 ((leaf : Nat) : Int))])] w fun e w' => e = .returned (.int .i64 (((depthN fan leaf n) : Nat) : Int)) ∧ Back [] w [] w' := by
  refine stEnter (args := [(.int .i64 ((n : Nat) : Int)), (.agg #[(.int .i64 ((fan : Nat) : Int)), (.int .i64 ((leaf : Nat) : Int))])]) (fps []) Tryz.func32 rfl 21 rfl [(0, (.int .i64 ((n : Nat) : Int))), (1, (.agg #[(.int .i64 ((fan : Nat) : Int)), (.int .i64 ((leaf : Nat) : Int))]))] ⟨rfl, rfl, trivial⟩ [] (Mm.start w []) ?_
  refine stSeq (reg (li rfl ?_))
  refine opBox [(.int .i64 ((fan : Nat) : Int)), (.int .i64 ((leaf : Nat) : Int))] rfl rfl (by kernel_rfl) rfl rfl (fun b3 => ?_)
  refine la ?_
  refine liNil (qThen (stSeq (reg ?_)))
  refine la ?_
  refine liNil (qThen (stSeq (stBlock ?_)))
  refine stLoop (ι := Nat × Nat) (fun (m, k) => m ≤ 16384 ∧ k ≤ 20000 - m ∧ k + depthN fan leaf m = depthN fan leaf n) (fun (m, k) => m) (fun (m, k) => [(3, (.pointer (some ⟨b3, 0, none⟩))), (4, (.int .i64 0)), (0, (.int .i64 ((m : Nat) : Int))), (5, (.int .i64 ((k : Nat) : Int)))]) (fun (m, k) => [cAt b3 24 [(.int .i64 ((fan : Nat) : Int)), (.int .i64 ((leaf : Nat) : Int))]]) (n, 0) ⟨hn, by omega, by omega⟩ ⟨rfl, rfl, rfl, rfl, trivial⟩ (fun _ h => h) ?_
  rintro ⟨m, k⟩ ⟨hm, hk, hd⟩
  show St _ _ _ [(3, (.pointer (some ⟨b3, 0, none⟩))), (4, (.int .i64 0)), (0, (.int .i64 ((m : Nat) : Int))), (5, (.int .i64 ((k : Nat) : Int)))] [cAt b3 24 [(.int .i64 ((fan : Nat) : Int)), (.int .i64 ((leaf : Nat) : Int))]] _
  refine stSeq (stSeq (reg ?_))
  refine lm ?_
  refine lc (.pointer (some ⟨b3, 1, none⟩)) ?_
  refine lv (v := (.int .i64 ((leaf : Nat) : Int))) (rLoad 0 rfl rfl (by kernel_rfl) rfl rfl) ?_
  refine lc (.bool (decide (((m : Nat) : Int) > ((leaf : Nat) : Int)))) ?_
  refine liNil (qThen ?_)
  refine stCond rfl (fun hc9 => ?_) (fun hc9 => ?_)
  · have hd9 := of_decide_eq_true hc9
    obtain ⟨q, hqe⟩ : ∃ q, (m + fan - 1) / fan = q := ⟨_, rfl⟩
    have hq : q < m := by rw [← hqe]; exact div_lt hf (by omega)
    refine stSkip (qThen (stBlock (stSeq (reg ?_))))
    refine lm ?_
    refine lc (.pointer (some ⟨b3, 0, none⟩)) ?_
    refine lv (v := (.int .i64 ((fan : Nat) : Int))) (rLoad 0 rfl rfl (by kernel_rfl) rfl rfl) ?_
    refine lv (v := (.int .i64 ((m + fan : Nat) : Int))) (rAdd _ rfl rfl rfl (by omega) (by omega) (by omega)) ?_
    refine lv (v := (.int .i64 (((m + fan - 1) : Nat) : Int))) (rSub _ rfl rfl rfl (by omega) (by omega) (by omega)) ?_
    refine lc (.pointer (some ⟨b3, 0, none⟩)) ?_
    refine lv (v := (.int .i64 ((fan : Nat) : Int))) (rLoad 0 rfl rfl (by kernel_rfl) rfl rfl) ?_
    refine lv (v := (.int .i64 ((q : Nat) : Int))) (rQuo _ rfl rfl rfl (by omega) (by rw [← hqe]; rfl) (by omega) (by omega)) ?_
    refine la ?_
    refine liNil (qThen (reg ?_))
    refine lm ?_
    refine lv (v := (.int .i64 ((k + 1 : Nat) : Int))) (rAdd _ rfl rfl rfl (by omega) (by omega) (by omega)) ?_
    refine la ?_
    refine liNil (qBlock (qThen ?_))
    exact stAgain (q, k + 1) (⟨by omega, by omega, by rw [← hd, depthN_step (n := m) hf hl (by omega), hqe]; omega⟩) (hq) ⟨rfl, rfl, rfl, rfl, trivial⟩ (fun w hM => by show Mm _ _ [cAt b3 24 [(.int .i64 ((fan : Nat) : Int)), (.int .i64 ((leaf : Nat) : Int))]] w; exact hM)
  · have hd9 := of_decide_eq_false hc9
    refine stExit (qThenX (qThenX (qBlockX (qThen (stSeq (reg ?_))))))
    refine lm ?_
    refine la ?_
    refine liNil (qThen (stRet ?_))
    refine stEnd [(.int .i64 ((k : Nat) : Int))] rfl ⟨rfl, trivial⟩ (fun w hM => ?_)
    exact ⟨by rw [← hd, depthN_zero (by omega)]; rfl, (fun (w : World) (h : Mm _ _ _ w) => Mm.sub h (.cons _ .slnil)) w hM⟩

set_option maxRecDepth 100000 in
set_option maxHeartbeats 1000000 in
theorem rsBound_bad (n : Int) (fan : Int) (leaf : Int) (w : World) (hb : okP fan leaf = false ∨ n < 0 ∨ 16384 < n) :
    Calls Tryz.prog 28 #[(.int .i64 n), (.agg #[(.int .i64 fan), (.int .i64 leaf)])] w fun e w' => e = .returned (.tuple #[(.int .i64 0), (.int .i64 1)]) ∧ Back [] w [] w' := by
  refine stEnter (args := [(.int .i64 n), (.agg #[(.int .i64 fan), (.int .i64 leaf)])]) (fps []) Tryz.func28 rfl 35 rfl [(0, (.int .i64 n)), (1, (.agg #[(.int .i64 fan), (.int .i64 leaf)]))] ⟨rfl, rfl, trivial⟩ [] (Mm.start w []) ?_
  refine stSeq (reg (li rfl ?_))
  refine opBox [(.int .i64 fan), (.int .i64 leaf)] rfl rfl (by kernel_rfl) rfl rfl (fun b3 => ?_)
  refine la ?_
  refine la ?_
  refine liNil (qThen (stSeq (stSeq (reg ?_))))
  refine lv (v := (.agg #[(.int .i64 fan), (.int .i64 leaf)])) (rLoadA [(.int .i64 fan), (.int .i64 leaf)] rfl rfl (by kernel_rfl) (by kernel_rfl) (segAt (i := 0) rfl (by intro j v hj; first | (rw [Nat.zero_add]; exact hj) | (match j, hj with | 0, h => exact h | 1, h => exact h)))) ?_
  refine li rfl ?_
  refine opK0 (fun w hM => (rsPvalid_any fan leaf w ).mono ?_)
  rintro e w' ⟨rfl, hP⟩
  refine ⟨_, _, rfl, hP, ?_⟩; clear hP hM
  refine lc (.bool (!(okP fan leaf))) ?_
  refine lm ?_
  refine St.dec 10 rfl (fun hc10 => ?_) (fun hc10 => ?_)
  · refine lnT ?_
    refine lnT ?_
    refine lc (.bool true) ?_
    refine lm ?_
    refine lnT ?_
    refine lnT ?_
    refine lc (.bool true) ?_
    refine liNil (qThen (stTrue rfl (stSeq ?_)))
    refine St.to [cAt b3 33 [(.int .i64 fan), (.int .i64 leaf)]] (by kernel_rfl) ?_
    refine reg ?_
    refine la ?_
    refine la ?_
    refine liNil (qThen (stRet (qThenR ?_)))
    refine stEnd [(.int .i64 0), (.int .i64 1)] rfl ⟨rfl, rfl, trivial⟩ (fun w hM => ?_)
    exact ⟨rfl, (fun (w : World) (h : Mm _ _ _ w) => Mm.sub h (.cons _ .slnil)) w hM⟩
  · refine lgm ?_
    refine lgc (.bool (decide ((n : Int) < 0))) ?_
    refine lc (.bool (decide ((n : Int) < 0))) ?_
    refine lm ?_
    refine St.dec 14 rfl (fun hc14 => ?_) (fun hc14 => ?_)
    · have hd14 := of_decide_eq_true hc14
      refine lnT ?_
      refine lnT ?_
      refine lc (.bool true) ?_
      refine liNil (qThen (stTrue rfl (stSeq (reg ?_))))
      refine la ?_
      refine la ?_
      refine liNil (qThen (stRet (qThenR ?_)))
      refine stEnd [(.int .i64 0), (.int .i64 1)] rfl ⟨rfl, rfl, trivial⟩ (fun w hM => ?_)
      exact ⟨rfl, (fun (w : World) (h : Mm _ _ _ w) => Mm.sub h (.cons _ .slnil)) w hM⟩
    · have hd14 := of_decide_eq_false hc14
      refine lgm ?_
      refine lgc (.bool (decide ((n : Int) > 16384))) ?_
      refine lc (.bool (decide ((n : Int) > 16384))) ?_
      refine liNil (qThen ?_)
      refine stCond rfl (fun hc17 => ?_) (fun hc17 => ?_)
      · have hd17 := of_decide_eq_true hc17
        refine stSeq (reg ?_)
        refine la ?_
        refine la ?_
        refine liNil (qThen (stRet (qThenR ?_)))
        refine stEnd [(.int .i64 0), (.int .i64 1)] rfl ⟨rfl, rfl, trivial⟩ (fun w hM => ?_)
        exact ⟨rfl, (fun (w : World) (h : Mm _ _ _ w) => Mm.sub h (.cons _ .slnil)) w hM⟩
      · have hd17 := of_decide_eq_false hc17
        refine stSkip (qThen (stSeq (reg ?_)))
        refine la ?_
        refine liNil (qThen (stSeq (stBlock ?_)))
        exact absurd hb (by first | (simp_all; done) | (simp_all; omega))

set_option maxRecDepth 100000 in
set_option maxHeartbeats 1000000 in
theorem rsBound_ok (n : Nat) (fan : Nat) (leaf : Nat) (w : World) (hok : okP (fan : Int) (leaf : Int) = true) (hf : 2 ≤ fan) (hf2 : fan ≤ 16) (hl : 1 ≤ leaf) (hl2 : leaf ≤ 64) (hn : n ≤ 16384) :
    Calls Tryz.prog 28 #[(.int .i64 ((n : Nat) : Int)), (.agg #[(.int .i64 ((fan : Nat) : Int)), (.int .i64 ((leaf : Nat) : Int))])] w fun e w' => e = .returned (.tuple #[(.int .i64 (((2 * depthN fan leaf n + 3) : Nat) : Int)), (.int .i64 0)]) ∧ Back [] w [] w' := by
  refine stEnter (args := [(.int .i64 ((n : Nat) : Int)), (.agg #[(.int .i64 ((fan : Nat) : Int)), (.int .i64 ((leaf : Nat) : Int))])]) (fps []) Tryz.func28 rfl 35 rfl [(0, (.int .i64 ((n : Nat) : Int))), (1, (.agg #[(.int .i64 ((fan : Nat) : Int)), (.int .i64 ((leaf : Nat) : Int))]))] ⟨rfl, rfl, trivial⟩ [] (Mm.start w []) ?_
  refine stSeq (reg (li rfl ?_))
  refine opBox [(.int .i64 ((fan : Nat) : Int)), (.int .i64 ((leaf : Nat) : Int))] rfl rfl (by kernel_rfl) rfl rfl (fun b3 => ?_)
  refine la ?_
  refine la ?_
  refine liNil (qThen (stSeq (stSeq (reg ?_))))
  refine lv (v := (.agg #[(.int .i64 ((fan : Nat) : Int)), (.int .i64 ((leaf : Nat) : Int))])) (rLoadA [(.int .i64 ((fan : Nat) : Int)), (.int .i64 ((leaf : Nat) : Int))] rfl rfl (by kernel_rfl) (by kernel_rfl) (segAt (i := 0) rfl (by intro j v hj; first | (rw [Nat.zero_add]; exact hj) | (match j, hj with | 0, h => exact h | 1, h => exact h)))) ?_
  refine li rfl ?_
  refine opK0 (fun w hM => (rsPvalid_any ((fan : Nat) : Int) ((leaf : Nat) : Int) w ).mono ?_)
  rintro e w' ⟨rfl, hP⟩
  refine ⟨_, _, rfl, hP, ?_⟩; clear hP hM
  rw [hok]
  refine lc (.bool false) ?_
  refine lm ?_
  refine lgm ?_
  refine lgc (.bool (decide (((n : Nat) : Int) < 0))) ?_
  refine lc (.bool (decide (((n : Nat) : Int) < 0))) ?_
  refine lm ?_
  refine St.known 14 (b' := false) rfl (by simp) ?_
  refine lgm ?_
  refine lgc (.bool (decide (((n : Nat) : Int) > 16384))) ?_
  refine lc (.bool (decide (((n : Nat) : Int) > 16384))) ?_
  refine liNil (qThen ?_)
  refine stFalseK rfl (by simp; omega) ?_
  refine stSkip (qThen (stSeq ?_))
  refine St.to [cAt b3 33 [(.int .i64 ((fan : Nat) : Int)), (.int .i64 ((leaf : Nat) : Int))]] (by kernel_rfl) ?_
  refine reg ?_
  refine la ?_
  refine liNil (qThen (stSeq (stBlock ?_)))
  refine stLoop (ι := Nat × Nat) (fun (m, k) => m ≤ 16384 ∧ k ≤ 20000 - m ∧ k + depthN fan leaf m = depthN fan leaf n) (fun (m, k) => m) (fun (m, k) => [(3, (.pointer (some ⟨b3, 0, none⟩))), (4, (.int .i64 0)), (5, (.int .i64 0)), (0, (.int .i64 ((m : Nat) : Int))), (6, (.int .i64 ((k : Nat) : Int)))]) (fun (m, k) => [cAt b3 33 [(.int .i64 ((fan : Nat) : Int)), (.int .i64 ((leaf : Nat) : Int))]]) (n, 0) ⟨hn, by omega, by omega⟩ ⟨rfl, rfl, rfl, rfl, rfl, trivial⟩ (fun _ h => h) ?_
  rintro ⟨m, k⟩ ⟨hm, hk, hd⟩
  show St _ _ _ [(3, (.pointer (some ⟨b3, 0, none⟩))), (4, (.int .i64 0)), (5, (.int .i64 0)), (0, (.int .i64 ((m : Nat) : Int))), (6, (.int .i64 ((k : Nat) : Int)))] [cAt b3 33 [(.int .i64 ((fan : Nat) : Int)), (.int .i64 ((leaf : Nat) : Int))]] _
  refine stSeq (stSeq (reg ?_))
  refine lm ?_
  refine lc (.pointer (some ⟨b3, 1, none⟩)) ?_
  refine lv (v := (.int .i64 ((leaf : Nat) : Int))) (rLoad 0 rfl rfl (by kernel_rfl) rfl rfl) ?_
  refine lc (.bool (decide (((m : Nat) : Int) > ((leaf : Nat) : Int)))) ?_
  refine liNil (qThen ?_)
  refine stCond rfl (fun hc21 => ?_) (fun hc21 => ?_)
  · have hd21 := of_decide_eq_true hc21
    obtain ⟨q, hqe⟩ : ∃ q, (m + fan - 1) / fan = q := ⟨_, rfl⟩
    have hq : q < m := by rw [← hqe]; exact div_lt hf (by omega)
    refine stSkip (qThen (stBlock (stSeq (reg ?_))))
    refine lm ?_
    refine lc (.pointer (some ⟨b3, 0, none⟩)) ?_
    refine lv (v := (.int .i64 ((fan : Nat) : Int))) (rLoad 0 rfl rfl (by kernel_rfl) rfl rfl) ?_
    refine lv (v := (.int .i64 ((m + fan : Nat) : Int))) (rAdd _ rfl rfl rfl (by omega) (by omega) (by omega)) ?_
    refine lv (v := (.int .i64 (((m + fan - 1) : Nat) : Int))) (rSub _ rfl rfl rfl (by omega) (by omega) (by omega)) ?_
    refine lc (.pointer (some ⟨b3, 0, none⟩)) ?_
    refine lv (v := (.int .i64 ((fan : Nat) : Int))) (rLoad 0 rfl rfl (by kernel_rfl) rfl rfl) ?_
    refine lv (v := (.int .i64 ((q : Nat) : Int))) (rQuo _ rfl rfl rfl (by omega) (by rw [← hqe]; rfl) (by omega) (by omega)) ?_
    refine la ?_
    refine liNil (qThen (reg ?_))
    refine lm ?_
    refine lv (v := (.int .i64 ((k + 1 : Nat) : Int))) (rAdd _ rfl rfl rfl (by omega) (by omega) (by omega)) ?_
    refine la ?_
    refine liNil (qBlock (qThen ?_))
    exact stAgain (q, k + 1) (⟨by omega, by omega, by rw [← hd, depthN_step (n := m) hf hl (by omega), hqe]; omega⟩) (hq) ⟨rfl, rfl, rfl, rfl, rfl, trivial⟩ (fun w hM => by show Mm _ _ [cAt b3 33 [(.int .i64 ((fan : Nat) : Int)), (.int .i64 ((leaf : Nat) : Int))]] w; exact hM)
  · have hd21 := of_decide_eq_false hc21
    refine stExit (qThenX (qThenX (qBlockX (qThen (stSeq (reg ?_))))))
    refine lm ?_
    refine lv (v := (.int .i64 ((2 * k : Nat) : Int))) (rMul _ rfl rfl rfl (by omega) (by omega) (by omega)) ?_
    refine lv (v := (.int .i64 ((2 * k + 3 : Nat) : Int))) (rAdd _ rfl rfl rfl (by omega) (by omega) (by omega)) ?_
    refine la ?_
    refine la ?_
    refine liNil (qThen (stRet ?_))
    refine stEnd [(.int .i64 ((2 * k + 3 : Nat) : Int)), (.int .i64 0)] rfl ⟨rfl, rfl, trivial⟩ (fun w hM => ?_)
    exact ⟨by rw [← hd, depthN_zero (by omega)]; rfl, (fun (w : World) (h : Mm _ _ _ w) => Mm.sub h (.cons _ .slnil)) w hM⟩

set_option maxRecDepth 100000 in
set_option maxHeartbeats 1000000 in
theorem rsWith_any (A : Option Addr) (c : Nat) (l : List (List UInt8)) (A2 : Option Addr) (c2 : Nat) (m : List (List UInt8)) (w : World) (r0 : Rf [] w (fun w => RowIn w A (SS l))) (r1 : Rf [] w (fun w => RowIn w A2 (SS m))) (hl : l.length ≤ 4294967296) (hl2 : m.length ≤ 4294967296) :
    Calls Tryz.prog 47 #[(.slice A (l.length) (c)), (.slice A2 (m.length) (c2))] w fun e w' => ∃ (B : Option Addr) (cb : Nat), e = .returned (.slice B ((withL l m).length) (cb)) ∧ Back [] w [cOwn 9 1 B ((withL l m).length) (cb) (SS (withL l m))] w' := by
  refine stEnter (args := [(.slice A (l.length) (c)), (.slice A2 (m.length) (c2))]) (fps []) Tryz.func47 rfl 49 rfl [(0, (.slice A (l.length) (c))), (1, (.slice A2 (m.length) (c2)))] ⟨rfl, rfl, trivial⟩ [] (Mm.start w []) ?_
  refine stSeq (reg ?_)
  refine la ?_
  refine liNil (qThen (stSeq (reg (li rfl ?_))))
  refine opNew (v := fun b => .slice (some ⟨b, 0, none⟩) 0 0) 9 [] rfl (by kernel_rfl) (fun _ => by kernel_rfl) (fun b9 => ?_)
  refine lm ?_
  refine li rfl ?_
  refine opMem (fun w hM => hM.toOwn0 0 rfl 1) ?_
  refine opAppend el_strC 0 (SS l) rfl rfl (by kernel_rfl) rfl rfl rfl (by simp) (fun w hM => CellsAt.of_row (r0.now hM)) (SS_one) (by simp only [Nat.zero_add]; omega) ((l).length) (by first | exact (List.length_append ..).symm | (simp; done) | (simp; omega)) (SS (l)) (by simp [SS]) (fun A11 c11 => ?_)
  refine la ?_
  refine liNil (qThen (stSeq (stSeq ?_)))
  refine St.to [cOwn 9 1 A11 ((l).length) (c11) (SS (l))] (by kernel_rfl) ?_
  refine reg ?_
  refine lm ?_
  refine lc (.int .i64 ((m.length : Nat) : Int)) ?_
  refine lm ?_
  refine liNil (qThen (stBlock ?_))
  refine stLoop (ι := Nat × Option Addr × Nat) (fun (i, B, cb) => i ≤ m.length) (fun (i, B, cb) => m.length - i) (fun (i, B, cb) => [(4, (.slice none 0 0)), (12, (.slice A2 (m.length) (c2))), (13, (.int .i64 ((m.length : Nat) : Int))), (5, (.slice B ((withL l (m.take i)).length) (cb))), (14, (.int .i64 ((i : Nat) : Int)))]) (fun (i, B, cb) => [cOwn 9 1 B ((withL l (m.take i)).length) (cb) (SS (withL l (m.take i)))]) (0, A11, c11) (Nat.zero_le _) ⟨rfl, rfl, rfl, rfl, rfl, trivial⟩ (fun _ h => h) ?_
  rintro ⟨i, B, cb⟩ (hok : i ≤ m.length)
  show St _ _ _ [(4, (.slice none 0 0)), (12, (.slice A2 (m.length) (c2))), (13, (.int .i64 ((m.length : Nat) : Int))), (5, (.slice B ((withL l (m.take i)).length) (cb))), (14, (.int .i64 ((i : Nat) : Int)))] [cOwn 9 1 B ((withL l (m.take i)).length) (cb) (SS (withL l (m.take i)))] _
  refine stSeq (reg ?_)
  refine lc (.bool (decide (((i : Nat) : Int) < ((m.length : Nat) : Int)))) ?_
  refine liNil (qThen (stSeq ?_))
  refine stCond rfl (fun hc15 => ?_) (fun hc15 => ?_)
  · have hd15 := of_decide_eq_true hc15
    have hwl : (withL l (m.take i)).length ≤ l.length + m.length := by have h := withL_len (m.take i) l; rw [List.length_take] at h; omega
    refine stSkip (qThen (stSeq (stBlock (stSeq (reg ?_)))))
    obtain ⟨x0, hx0⟩ : ∃ ξ, (m)[i]? = some ξ := ⟨_, List.getElem?_eq_getElem (by omega)⟩
    refine St.rowPtr (fun w hM => r1.now hM) (SS_at hx0) (fun p16 q16 hA16 hc16 => ?_)
    refine lv (v := (.pointer (some ⟨p16, q16 + i, none⟩))) (rIndexRow (e := 9) rfl (by kernel_rfl) (by kernel_rfl) rfl rfl hA16 (by omega)) ?_
    refine lv (v := (.string (strOf x0))) (rLoadW rfl rfl (by kernel_rfl) hc16) ?_
    refine la ?_
    refine liNil (qThen (stSeq (stSeq (reg ?_))))
    refine lm ?_
    refine lm ?_
    refine li rfl ?_
    refine opK0 (fun w hM => (rsHas_any B cb (withL l (m.take i)) x0 w (hM.keep0 (j := 0) rfl (fun _ h => RowIn.of_own h)) (by omega)).mono ?_)
    rintro e w' ⟨rfl, hP⟩
    refine ⟨_, _, rfl, hP, ?_⟩; clear hP hM
    refine liNil (qThen ?_)
    refine stCond rfl (fun hc20 => ?_) (fun hc20 => ?_)
    · refine stExit (qThenX (qBlockX (qThen (reg ?_))))
      refine lv (v := (.int .i64 ((i + 1 : Nat) : Int))) (rAdd _ rfl rfl rfl (by omega) (by omega) (by omega)) ?_
      refine lm ?_
      refine liNil (qThen ?_)
      rw [show withL l (m.take i) = withL l (m.take (i + 1)) from withL_no hx0 hc20]
      exact stAgain (i + 1, B, cb) (by show _ ≤ _; omega) (by show m.length - (i + 1) < m.length - i; omega) ⟨rfl, rfl, rfl, rfl, rfl, trivial⟩ (fun w hM => by show Mm _ _ [cOwn 9 1 B ((withL l (m.take (i + 1))).length) (cb) (SS (withL l (m.take (i + 1))))] w; exact hM)
    · refine stSkip (qThen (stSeq (reg ?_)))
      refine la ?_
      refine liNil (qThen (stSeq (stBlock ?_)))
      refine stLoop (ι := Nat) (fun k => k ≤ posB (withL l (m.take i)) x0) (fun k => (withL l (m.take i)).length - k) (fun k => [(4, (.slice none 0 0)), (5, (.slice B ((withL l (m.take i)).length) (cb))), (7, (.string (strOf x0))), (12, (.slice A2 (m.length) (c2))), (13, (.int .i64 ((m.length : Nat) : Int))), (14, (.int .i64 ((i : Nat) : Int))), (8, (.int .i64 ((k : Nat) : Int)))]) (fun k => [cOwn 9 1 B ((withL l (m.take i)).length) (cb) (SS (withL l (m.take i)))]) 0 (Nat.zero_le _) ⟨rfl, rfl, rfl, rfl, rfl, rfl, rfl, trivial⟩ (fun _ h => h) ?_
      intro k hok2
      show St _ _ _ [(4, (.slice none 0 0)), (5, (.slice B ((withL l (m.take i)).length) (cb))), (7, (.string (strOf x0))), (12, (.slice A2 (m.length) (c2))), (13, (.int .i64 ((m.length : Nat) : Int))), (14, (.int .i64 ((i : Nat) : Int))), (8, (.int .i64 ((k : Nat) : Int)))] [cOwn 9 1 B ((withL l (m.take i)).length) (cb) (SS (withL l (m.take i)))] _
      refine stSeq (stSeq (reg ?_))
      refine lm ?_
      refine lm ?_
      refine lc (.int .i64 (((withL l (m.take i)).length : Nat) : Int)) ?_
      refine lc (.bool (decide (((k : Nat) : Int) < (((withL l (m.take i)).length : Nat) : Int)))) ?_
      refine lm ?_
      refine St.dec 25 rfl (fun hc25 => ?_) (fun hc25 => ?_)
      · have hd25 := of_decide_eq_true hc25
        refine lgm ?_
        refine lgm ?_
        obtain ⟨x1, hx1⟩ : ∃ ξ, (withL l (m.take i))[k]? = some ξ := ⟨_, List.getElem?_eq_getElem (by omega)⟩
        refine St.rowPtr (fun w hM => rowOwn (i := 0) rfl w hM) (SS_at hx1) (fun p28 q28 hA28 hc28 => ?_)
        refine lgv (v := (.pointer (some ⟨p28, q28 + k, none⟩))) (rIndexRow (e := 9) rfl (by kernel_rfl) (by kernel_rfl) rfl rfl hA28 (by omega)) ?_
        refine lgv (v := (.string (strOf x1))) (rLoadW rfl rfl (by kernel_rfl) hc28) ?_
        refine lgm ?_
        refine lgv (v := (.bool (decide (x1 < x0)))) (rStrLt rfl rfl rfl) ?_
        refine lc (.bool (decide (x1 < x0))) ?_
        refine liNil (qThen ?_)
        refine stCond rfl (fun hc32 => ?_) (fun hc32 => ?_)
        · have hd32 := of_decide_eq_true hc32
          refine stSkip (qThen (stBlock (reg ?_)))
          refine lm ?_
          refine lv (v := (.int .i64 ((k + 1 : Nat) : Int))) (rAdd _ rfl rfl rfl (by omega) (by omega) (by omega)) ?_
          refine la ?_
          refine liNil (qBlock (qThen ?_))
          exact stAgain (k + 1) ((posB_step hok2 hx1).1 (by simpa using hc32)) (by show (withL l (m.take i)).length - (k + 1) < (withL l (m.take i)).length - k; omega) ⟨rfl, rfl, rfl, rfl, rfl, rfl, rfl, trivial⟩ (fun w hM => by show Mm _ _ [cOwn 9 1 B ((withL l (m.take i)).length) (cb) (SS (withL l (m.take i)))] w; exact hM)
        · have hd32 := of_decide_eq_false hc32
          have hk : k = posB (withL l (m.take i)) x0 := by have h := mt (posB_step hok2 hx1).2 (by simpa using hc32); omega
          refine stExit (qThenX (qThenX (qBlockX (qThen ?_))))
          have hkl : k ≤ (withL l (m.take i)).length := by rw [hk]; exact posB_le _ _
          refine anyBegin [cOwn 9 1 B ((withL l (m.take i)).length) (cb) (SS (withL l (m.take i)))] 13 (by kernel_rfl) (fun _ h => h) ?_
          refine am 1 ?_
          refine am 2 ?_
          refine Any.fact (fun w hM => own_cap (hM.at (i := 0) rfl)) (fun hcap38 => ?_)
          refine av 3 (.slice B (((withL l (m.take i)).take k).length) (cb)) rfl (rConv (rSliceHi (e := 9) rfl (by kernel_rfl) (by kernel_rfl) rfl rfl (by have := hcap38; omega)) (by rw [List.length_take, Nat.min_eq_left (by omega)])) ?_
          refine am 5 ?_
          refine am 8 ?_
          refine am 9 ?_
          refine Any.fact (fun w hM => own_cap (hM.at (i := 0) rfl)) (fun hcap45 => ?_)
          refine av 10 (.slice (if cb = k then B else B.map (·.add (k * 1))) (((withL l (m.take i)).drop k).length) (cb - k)) rfl (rConv (rSliceLo (e := 9) (sz := 1) rfl (by kernel_rfl) (by kernel_rfl) rfl rfl (by omega)) (by rw [List.length_drop])) ?_
          refine anyTwo (i := 0) (j := 6) (by kernel_rfl) rfl rfl rfl rfl ?_ ?_
          · refine opNew (v := fun b => .slice (some ⟨b, 0, none⟩) 0 0) 9 [] rfl (by kernel_rfl) (fun _ => by kernel_rfl) (fun b35 => ?_)
            refine St.to [cOwn 9 1 B ((withL l (m.take i)).length) (cb) (SS (withL l (m.take i))), cAt b35 9 []] (by kernel_rfl) ?_
            refine anyNext [cOwn 9 1 B ((withL l (m.take i)).length) (cb) (SS (withL l (m.take i)))] (fun _ h => h) (fun _ h => h.sub (.cons_cons _ (.cons _ .slnil))) ?_
            refine anyTwo (i := 4) (j := 6) (by kernel_rfl) rfl rfl rfl rfl ?_ ?_
            · refine opMem (fun w hM => hM.toOwn0 1 rfl 1) ?_
              refine opAppend el_strC 1 (SS ((withL l (m.take i)).take k)) rfl rfl (by kernel_rfl) rfl rfl rfl (by simp) (fun w hM => CellsAt.of_row (rowTake k (rowOwn (i := 0) rfl w hM))) (SS_one) (by first | (simp; omega) | (simp; done)) (((withL l (m.take i)).take k).length) (by first | exact (List.length_append ..).symm | (simp; done) | (simp; omega)) (SS ((withL l (m.take i)).take k)) (by simp [SS]) (fun A39 c39 => ?_)
              refine anyNext [cOwn 9 1 B ((withL l (m.take i)).length) (cb) (SS (withL l (m.take i)))] (fun _ h => h) (fun _ h => h.sub (.cons_cons _ (.cons _ .slnil))) ?_
              refine a1 6 ?_
              refine opNew (v := fun b => .slice (some ⟨b, 0, none⟩) 1 1) 9 [(.string (strOf x0))] rfl (by kernel_rfl) (fun _ => by kernel_rfl) (fun b41 => ?_)
              refine anyNext [cOwn 9 1 B ((withL l (m.take i)).length) (cb) (SS (withL l (m.take i))), cAt b41 9 [(.string (strOf x0))]] (fun _ h => h.sub (.cons_cons _ (.cons _ .slnil))) (fun _ h => h.sub (.cons_cons _ (.cons _ (.cons_cons _ .slnil)))) ?_
              refine a1 7 ?_
              refine opAppend el_strC 1 ([(.string (strOf x0))]) rfl rfl (by kernel_rfl) rfl rfl rfl (rfl) (srcAt (i := 2) rfl (fun j v h => by rw [Nat.zero_add]; exact h)) (by simp [Value.oneCell']) (by first | (simp; omega) | (simp; done)) (((withL l (m.take i)).take k ++ [x0]).length) (by first | exact (List.length_append ..).symm | (simp; done) | (simp; omega)) (SS ((withL l (m.take i)).take k ++ [x0])) (by simp [SS]) (fun A42 c42 => ?_)
              refine anyNext [cOwn 9 1 B ((withL l (m.take i)).length) (cb) (SS (withL l (m.take i))), cAt b41 9 [(.string (strOf x0))]] (fun _ h => h) (fun _ h => h.sub (.cons_cons _ (.cons _ (.cons_cons _ .slnil)))) ?_
              refine a1 11 ?_
              refine opAppend el_strC 1 (SS ((withL l (m.take i)).drop k)) rfl rfl (by kernel_rfl) rfl rfl rfl (by simp) (fun w hM => CellsAt.of_row (rowDrop k (rowOwn (i := 0) rfl w hM) (hcap45))) (SS_one) (by first | (simp; omega) | (simp; done)) (((withL l (m.take i)).take k ++ [x0] ++ ((withL l (m.take i)).drop k)).length) (by first | exact (List.length_append ..).symm | (simp; done) | (simp; omega)) (SS ((withL l (m.take i)).take k ++ [x0] ++ ((withL l (m.take i)).drop k))) (by simp [SS]) (fun A46 c46 => ?_)
              refine St.to [cOwn 9 1 B ((withL l (m.take i)).length) (cb) (SS (withL l (m.take i))), cOwn 9 1 A46 (((withL l (m.take i)).take k ++ [x0] ++ ((withL l (m.take i)).drop k)).length) (c46) (SS ((withL l (m.take i)).take k ++ [x0] ++ ((withL l (m.take i)).drop k))), cAt b41 9 [(.string (strOf x0))]] (by kernel_rfl) ?_
              refine anyNext [cOwn 9 1 B ((withL l (m.take i)).length) (cb) (SS (withL l (m.take i))), cOwn 9 1 A46 (((withL l (m.take i)).take k ++ [x0] ++ ((withL l (m.take i)).drop k)).length) (c46) (SS ((withL l (m.take i)).take k ++ [x0] ++ ((withL l (m.take i)).drop k))), cAt b41 9 [(.string (strOf x0))]] (fun _ h => h.sub (.cons_cons _ (.cons _ (.cons_cons _ .slnil)))) (fun _ h => h) ?_
              refine aa 12 ?_
              refine anyDone (by kernel_rfl) ?_
              refine qBlock (qThen (reg ?_))
              refine lv (v := (.int .i64 ((i + 1 : Nat) : Int))) (rAdd _ rfl rfl rfl (by omega) (by omega) (by omega)) ?_
              refine lm ?_
              refine liNil (qThen ?_)
              rw [show (withL l (m.take i)).take k ++ [x0] ++ ((withL l (m.take i)).drop k) = withL l (m.take (i + 1)) from withL_yes hx0 hc20 hk]
              exact stAgain (i + 1, A46, c46) (by show _ ≤ _; omega) (by show m.length - (i + 1) < m.length - i; omega) ⟨rfl, rfl, rfl, rfl, rfl, trivial⟩ (fun w hM => by show Mm _ _ [cOwn 9 1 A46 ((withL l (m.take (i + 1))).length) (c46) (SS (withL l (m.take (i + 1))))] w; exact (fun (w : World) (h : Mm _ _ _ w) => Mm.sub h (.cons _ (.cons_cons _ (.cons _ .slnil)))) w hM)
            · refine opNew (v := fun b => .slice (some ⟨b, 0, none⟩) 1 1) 9 [(.string (strOf x0))] rfl (by kernel_rfl) (fun _ => by kernel_rfl) (fun b41 => ?_)
              refine anyNext [cOwn 9 1 B ((withL l (m.take i)).length) (cb) (SS (withL l (m.take i))), cAt b41 9 [(.string (strOf x0))]] (fun _ h => h.sub (.cons_cons _ (.cons _ .slnil))) (fun _ h => h.sub (.cons_cons _ (.cons _ (.cons_cons _ .slnil)))) ?_
              refine a1 4 ?_
              refine opMem (fun w hM => hM.toOwn0 1 rfl 1) ?_
              refine opAppend el_strC 1 (SS ((withL l (m.take i)).take k)) rfl rfl (by kernel_rfl) rfl rfl rfl (by simp) (fun w hM => CellsAt.of_row (rowTake k (rowOwn (i := 0) rfl w hM))) (SS_one) (by first | (simp; omega) | (simp; done)) (((withL l (m.take i)).take k).length) (by first | exact (List.length_append ..).symm | (simp; done) | (simp; omega)) (SS ((withL l (m.take i)).take k)) (by simp [SS]) (fun A39 c39 => ?_)
              refine anyNext [cOwn 9 1 B ((withL l (m.take i)).length) (cb) (SS (withL l (m.take i))), cAt b41 9 [(.string (strOf x0))]] (fun _ h => h) (fun _ h => h.sub (.cons_cons _ (.cons _ (.cons_cons _ .slnil)))) ?_
              refine a1 7 ?_
              refine opAppend el_strC 1 ([(.string (strOf x0))]) rfl rfl (by kernel_rfl) rfl rfl rfl (rfl) (srcAt (i := 2) rfl (fun j v h => by rw [Nat.zero_add]; exact h)) (by simp [Value.oneCell']) (by first | (simp; omega) | (simp; done)) (((withL l (m.take i)).take k ++ [x0]).length) (by first | exact (List.length_append ..).symm | (simp; done) | (simp; omega)) (SS ((withL l (m.take i)).take k ++ [x0])) (by simp [SS]) (fun A42 c42 => ?_)
              refine anyNext [cOwn 9 1 B ((withL l (m.take i)).length) (cb) (SS (withL l (m.take i))), cAt b41 9 [(.string (strOf x0))]] (fun _ h => h) (fun _ h => h.sub (.cons_cons _ (.cons _ (.cons_cons _ .slnil)))) ?_
              refine a1 11 ?_
              refine opAppend el_strC 1 (SS ((withL l (m.take i)).drop k)) rfl rfl (by kernel_rfl) rfl rfl rfl (by simp) (fun w hM => CellsAt.of_row (rowDrop k (rowOwn (i := 0) rfl w hM) (hcap45))) (SS_one) (by first | (simp; omega) | (simp; done)) (((withL l (m.take i)).take k ++ [x0] ++ ((withL l (m.take i)).drop k)).length) (by first | exact (List.length_append ..).symm | (simp; done) | (simp; omega)) (SS ((withL l (m.take i)).take k ++ [x0] ++ ((withL l (m.take i)).drop k))) (by simp [SS]) (fun A46 c46 => ?_)
              refine St.to [cOwn 9 1 B ((withL l (m.take i)).length) (cb) (SS (withL l (m.take i))), cOwn 9 1 A46 (((withL l (m.take i)).take k ++ [x0] ++ ((withL l (m.take i)).drop k)).length) (c46) (SS ((withL l (m.take i)).take k ++ [x0] ++ ((withL l (m.take i)).drop k))), cAt b41 9 [(.string (strOf x0))]] (by kernel_rfl) ?_
              refine anyNext [cOwn 9 1 B ((withL l (m.take i)).length) (cb) (SS (withL l (m.take i))), cOwn 9 1 A46 (((withL l (m.take i)).take k ++ [x0] ++ ((withL l (m.take i)).drop k)).length) (c46) (SS ((withL l (m.take i)).take k ++ [x0] ++ ((withL l (m.take i)).drop k))), cAt b41 9 [(.string (strOf x0))]] (fun _ h => h.sub (.cons_cons _ (.cons _ (.cons_cons _ .slnil)))) (fun _ h => h) ?_
              refine aa 12 ?_
              refine anyDone (by kernel_rfl) ?_
              refine qBlock (qThen (reg ?_))
              refine lv (v := (.int .i64 ((i + 1 : Nat) : Int))) (rAdd _ rfl rfl rfl (by omega) (by omega) (by omega)) ?_
              refine lm ?_
              refine liNil (qThen ?_)
              rw [show (withL l (m.take i)).take k ++ [x0] ++ ((withL l (m.take i)).drop k) = withL l (m.take (i + 1)) from withL_yes hx0 hc20 hk]
              exact stAgain (i + 1, A46, c46) (by show _ ≤ _; omega) (by show m.length - (i + 1) < m.length - i; omega) ⟨rfl, rfl, rfl, rfl, rfl, trivial⟩ (fun w hM => by show Mm _ _ [cOwn 9 1 A46 ((withL l (m.take (i + 1))).length) (c46) (SS (withL l (m.take (i + 1))))] w; exact (fun (w : World) (h : Mm _ _ _ w) => Mm.sub h (.cons _ (.cons_cons _ (.cons _ .slnil)))) w hM)
          · refine opNew (v := fun b => .slice (some ⟨b, 0, none⟩) 1 1) 9 [(.string (strOf x0))] rfl (by kernel_rfl) (fun _ => by kernel_rfl) (fun b41 => ?_)
            refine anyNext [cOwn 9 1 B ((withL l (m.take i)).length) (cb) (SS (withL l (m.take i))), cAt b41 9 [(.string (strOf x0))]] (fun _ h => h.sub (.cons_cons _ (.cons _ .slnil))) (fun _ h => h) ?_
            refine a1 0 ?_
            refine opNew (v := fun b => .slice (some ⟨b, 0, none⟩) 0 0) 9 [] rfl (by kernel_rfl) (fun _ => by kernel_rfl) (fun b35 => ?_)
            refine anyNext [cOwn 9 1 B ((withL l (m.take i)).length) (cb) (SS (withL l (m.take i))), cAt b41 9 [(.string (strOf x0))]] (fun _ h => h) (fun _ h => h.sub (.cons_cons _ (.cons_cons _ (.cons _ .slnil)))) ?_
            refine a1 4 ?_
            refine opMem (fun w hM => hM.toOwn0 2 rfl 1) ?_
            refine opAppend el_strC 2 (SS ((withL l (m.take i)).take k)) rfl rfl (by kernel_rfl) rfl rfl rfl (by simp) (fun w hM => CellsAt.of_row (rowTake k (rowOwn (i := 0) rfl w hM))) (SS_one) (by first | (simp; omega) | (simp; done)) (((withL l (m.take i)).take k).length) (by first | exact (List.length_append ..).symm | (simp; done) | (simp; omega)) (SS ((withL l (m.take i)).take k)) (by simp [SS]) (fun A39 c39 => ?_)
            refine anyNext [cOwn 9 1 B ((withL l (m.take i)).length) (cb) (SS (withL l (m.take i))), cAt b41 9 [(.string (strOf x0))]] (fun _ h => h) (fun _ h => h.sub (.cons_cons _ (.cons_cons _ (.cons _ .slnil)))) ?_
            refine a1 7 ?_
            refine opAppend el_strC 2 ([(.string (strOf x0))]) rfl rfl (by kernel_rfl) rfl rfl rfl (rfl) (srcAt (i := 1) rfl (fun j v h => by rw [Nat.zero_add]; exact h)) (by simp [Value.oneCell']) (by first | (simp; omega) | (simp; done)) (((withL l (m.take i)).take k ++ [x0]).length) (by first | exact (List.length_append ..).symm | (simp; done) | (simp; omega)) (SS ((withL l (m.take i)).take k ++ [x0])) (by simp [SS]) (fun A42 c42 => ?_)
            refine St.to [cOwn 9 1 B ((withL l (m.take i)).length) (cb) (SS (withL l (m.take i))), cAt b41 9 [(.string (strOf x0))], cOwn 9 1 A42 (((withL l (m.take i)).take k ++ [x0]).length) (c42) (SS ((withL l (m.take i)).take k ++ [x0]))] (by kernel_rfl) ?_
            refine anyNext [cOwn 9 1 B ((withL l (m.take i)).length) (cb) (SS (withL l (m.take i))), cAt b41 9 [(.string (strOf x0))]] (fun _ h => h) (fun _ h => h.sub (.cons_cons _ (.cons_cons _ (.cons _ .slnil)))) ?_
            refine a1 11 ?_
            refine opAppend el_strC 2 (SS ((withL l (m.take i)).drop k)) rfl rfl (by kernel_rfl) rfl rfl rfl (by simp) (fun w hM => CellsAt.of_row (rowDrop k (rowOwn (i := 0) rfl w hM) (hcap45))) (SS_one) (by first | (simp; omega) | (simp; done)) (((withL l (m.take i)).take k ++ [x0] ++ ((withL l (m.take i)).drop k)).length) (by first | exact (List.length_append ..).symm | (simp; done) | (simp; omega)) (SS ((withL l (m.take i)).take k ++ [x0] ++ ((withL l (m.take i)).drop k))) (by simp [SS]) (fun A46 c46 => ?_)
            refine anyNext [cOwn 9 1 B ((withL l (m.take i)).length) (cb) (SS (withL l (m.take i))), cAt b41 9 [(.string (strOf x0))], cOwn 9 1 A46 (((withL l (m.take i)).take k ++ [x0] ++ ((withL l (m.take i)).drop k)).length) (c46) (SS ((withL l (m.take i)).take k ++ [x0] ++ ((withL l (m.take i)).drop k)))] (fun _ h => h.sub (.cons_cons _ (.cons_cons _ (.cons _ .slnil)))) (fun _ h => h) ?_
            refine aa 12 ?_
            refine anyDone (by kernel_rfl) ?_
            refine qBlock (qThen (reg ?_))
            refine lv (v := (.int .i64 ((i + 1 : Nat) : Int))) (rAdd _ rfl rfl rfl (by omega) (by omega) (by omega)) ?_
            refine lm ?_
            refine liNil (qThen ?_)
            rw [show (withL l (m.take i)).take k ++ [x0] ++ ((withL l (m.take i)).drop k) = withL l (m.take (i + 1)) from withL_yes hx0 hc20 hk]
            exact stAgain (i + 1, A46, c46) (by show _ ≤ _; omega) (by show m.length - (i + 1) < m.length - i; omega) ⟨rfl, rfl, rfl, rfl, rfl, trivial⟩ (fun w hM => by show Mm _ _ [cOwn 9 1 A46 ((withL l (m.take (i + 1))).length) (c46) (SS (withL l (m.take (i + 1))))] w; exact (fun (w : World) (h : Mm _ _ _ w) => Mm.sub h (.cons _ (.cons _ (.cons_cons _ .slnil)))) w hM)
      · have hd25 := of_decide_eq_false hc25
        have hk : k = posB (withL l (m.take i)) x0 := posB_end hok2 (by omega)
        refine lnF ?_
        refine lnF ?_
        refine lnF ?_
        refine lnF ?_
        refine lnF ?_
        refine lnF ?_
        refine lc (.bool false) ?_
        refine liNil (qThen (stFalse rfl (stExit (qThenX (qThenX (qBlockX (qThen ?_)))))))
        have hkl : k ≤ (withL l (m.take i)).length := by rw [hk]; exact posB_le _ _
        refine anyBegin [cOwn 9 1 B ((withL l (m.take i)).length) (cb) (SS (withL l (m.take i)))] 13 (by kernel_rfl) (fun _ h => h) ?_
        refine am 1 ?_
        refine am 2 ?_
        refine Any.fact (fun w hM => own_cap (hM.at (i := 0) rfl)) (fun hcap38 => ?_)
        refine av 3 (.slice B (((withL l (m.take i)).take k).length) (cb)) rfl (rConv (rSliceHi (e := 9) rfl (by kernel_rfl) (by kernel_rfl) rfl rfl (by have := hcap38; omega)) (by rw [List.length_take, Nat.min_eq_left (by omega)])) ?_
        refine am 5 ?_
        refine am 8 ?_
        refine am 9 ?_
        refine Any.fact (fun w hM => own_cap (hM.at (i := 0) rfl)) (fun hcap45 => ?_)
        refine av 10 (.slice (if cb = k then B else B.map (·.add (k * 1))) (((withL l (m.take i)).drop k).length) (cb - k)) rfl (rConv (rSliceLo (e := 9) (sz := 1) rfl (by kernel_rfl) (by kernel_rfl) rfl rfl (by omega)) (by rw [List.length_drop])) ?_
        refine anyTwo (i := 0) (j := 6) (by kernel_rfl) rfl rfl rfl rfl ?_ ?_
        · refine opNew (v := fun b => .slice (some ⟨b, 0, none⟩) 0 0) 9 [] rfl (by kernel_rfl) (fun _ => by kernel_rfl) (fun b35 => ?_)
          refine St.to [cOwn 9 1 B ((withL l (m.take i)).length) (cb) (SS (withL l (m.take i))), cAt b35 9 []] (by kernel_rfl) ?_
          refine anyNext [cOwn 9 1 B ((withL l (m.take i)).length) (cb) (SS (withL l (m.take i)))] (fun _ h => h) (fun _ h => h.sub (.cons_cons _ (.cons _ .slnil))) ?_
          refine anyTwo (i := 4) (j := 6) (by kernel_rfl) rfl rfl rfl rfl ?_ ?_
          · refine opMem (fun w hM => hM.toOwn0 1 rfl 1) ?_
            refine opAppend el_strC 1 (SS ((withL l (m.take i)).take k)) rfl rfl (by kernel_rfl) rfl rfl rfl (by simp) (fun w hM => CellsAt.of_row (rowTake k (rowOwn (i := 0) rfl w hM))) (SS_one) (by first | (simp; omega) | (simp; done)) (((withL l (m.take i)).take k).length) (by first | exact (List.length_append ..).symm | (simp; done) | (simp; omega)) (SS ((withL l (m.take i)).take k)) (by simp [SS]) (fun A39 c39 => ?_)
            refine anyNext [cOwn 9 1 B ((withL l (m.take i)).length) (cb) (SS (withL l (m.take i)))] (fun _ h => h) (fun _ h => h.sub (.cons_cons _ (.cons _ .slnil))) ?_
            refine a1 6 ?_
            refine opNew (v := fun b => .slice (some ⟨b, 0, none⟩) 1 1) 9 [(.string (strOf x0))] rfl (by kernel_rfl) (fun _ => by kernel_rfl) (fun b41 => ?_)
            refine anyNext [cOwn 9 1 B ((withL l (m.take i)).length) (cb) (SS (withL l (m.take i))), cAt b41 9 [(.string (strOf x0))]] (fun _ h => h.sub (.cons_cons _ (.cons _ .slnil))) (fun _ h => h.sub (.cons_cons _ (.cons _ (.cons_cons _ .slnil)))) ?_
            refine a1 7 ?_
            refine opAppend el_strC 1 ([(.string (strOf x0))]) rfl rfl (by kernel_rfl) rfl rfl rfl (rfl) (srcAt (i := 2) rfl (fun j v h => by rw [Nat.zero_add]; exact h)) (by simp [Value.oneCell']) (by first | (simp; omega) | (simp; done)) (((withL l (m.take i)).take k ++ [x0]).length) (by first | exact (List.length_append ..).symm | (simp; done) | (simp; omega)) (SS ((withL l (m.take i)).take k ++ [x0])) (by simp [SS]) (fun A42 c42 => ?_)
            refine anyNext [cOwn 9 1 B ((withL l (m.take i)).length) (cb) (SS (withL l (m.take i))), cAt b41 9 [(.string (strOf x0))]] (fun _ h => h) (fun _ h => h.sub (.cons_cons _ (.cons _ (.cons_cons _ .slnil)))) ?_
            refine a1 11 ?_
            refine opAppend el_strC 1 (SS ((withL l (m.take i)).drop k)) rfl rfl (by kernel_rfl) rfl rfl rfl (by simp) (fun w hM => CellsAt.of_row (rowDrop k (rowOwn (i := 0) rfl w hM) (hcap45))) (SS_one) (by first | (simp; omega) | (simp; done)) (((withL l (m.take i)).take k ++ [x0] ++ ((withL l (m.take i)).drop k)).length) (by first | exact (List.length_append ..).symm | (simp; done) | (simp; omega)) (SS ((withL l (m.take i)).take k ++ [x0] ++ ((withL l (m.take i)).drop k))) (by simp [SS]) (fun A46 c46 => ?_)
            refine St.to [cOwn 9 1 B ((withL l (m.take i)).length) (cb) (SS (withL l (m.take i))), cOwn 9 1 A46 (((withL l (m.take i)).take k ++ [x0] ++ ((withL l (m.take i)).drop k)).length) (c46) (SS ((withL l (m.take i)).take k ++ [x0] ++ ((withL l (m.take i)).drop k))), cAt b41 9 [(.string (strOf x0))]] (by kernel_rfl) ?_
            refine anyNext [cOwn 9 1 B ((withL l (m.take i)).length) (cb) (SS (withL l (m.take i))), cOwn 9 1 A46 (((withL l (m.take i)).take k ++ [x0] ++ ((withL l (m.take i)).drop k)).length) (c46) (SS ((withL l (m.take i)).take k ++ [x0] ++ ((withL l (m.take i)).drop k))), cAt b41 9 [(.string (strOf x0))]] (fun _ h => h.sub (.cons_cons _ (.cons _ (.cons_cons _ .slnil)))) (fun _ h => h) ?_
            refine aa 12 ?_
            refine anyDone (by kernel_rfl) ?_
            refine qBlock (qThen (reg ?_))
            refine lv (v := (.int .i64 ((i + 1 : Nat) : Int))) (rAdd _ rfl rfl rfl (by omega) (by omega) (by omega)) ?_
            refine lm ?_
            refine liNil (qThen ?_)
            rw [show (withL l (m.take i)).take k ++ [x0] ++ ((withL l (m.take i)).drop k) = withL l (m.take (i + 1)) from withL_yes hx0 hc20 hk]
            exact stAgain (i + 1, A46, c46) (by show _ ≤ _; omega) (by show m.length - (i + 1) < m.length - i; omega) ⟨rfl, rfl, rfl, rfl, rfl, trivial⟩ (fun w hM => by show Mm _ _ [cOwn 9 1 A46 ((withL l (m.take (i + 1))).length) (c46) (SS (withL l (m.take (i + 1))))] w; exact (fun (w : World) (h : Mm _ _ _ w) => Mm.sub h (.cons _ (.cons_cons _ (.cons _ .slnil)))) w hM)
          · refine opNew (v := fun b => .slice (some ⟨b, 0, none⟩) 1 1) 9 [(.string (strOf x0))] rfl (by kernel_rfl) (fun _ => by kernel_rfl) (fun b41 => ?_)
            refine anyNext [cOwn 9 1 B ((withL l (m.take i)).length) (cb) (SS (withL l (m.take i))), cAt b41 9 [(.string (strOf x0))]] (fun _ h => h.sub (.cons_cons _ (.cons _ .slnil))) (fun _ h => h.sub (.cons_cons _ (.cons _ (.cons_cons _ .slnil)))) ?_
            refine a1 4 ?_
            refine opMem (fun w hM => hM.toOwn0 1 rfl 1) ?_
            refine opAppend el_strC 1 (SS ((withL l (m.take i)).take k)) rfl rfl (by kernel_rfl) rfl rfl rfl (by simp) (fun w hM => CellsAt.of_row (rowTake k (rowOwn (i := 0) rfl w hM))) (SS_one) (by first | (simp; omega) | (simp; done)) (((withL l (m.take i)).take k).length) (by first | exact (List.length_append ..).symm | (simp; done) | (simp; omega)) (SS ((withL l (m.take i)).take k)) (by simp [SS]) (fun A39 c39 => ?_)
            refine anyNext [cOwn 9 1 B ((withL l (m.take i)).length) (cb) (SS (withL l (m.take i))), cAt b41 9 [(.string (strOf x0))]] (fun _ h => h) (fun _ h => h.sub (.cons_cons _ (.cons _ (.cons_cons _ .slnil)))) ?_
            refine a1 7 ?_
            refine opAppend el_strC 1 ([(.string (strOf x0))]) rfl rfl (by kernel_rfl) rfl rfl rfl (rfl) (srcAt (i := 2) rfl (fun j v h => by rw [Nat.zero_add]; exact h)) (by simp [Value.oneCell']) (by first | (simp; omega) | (simp; done)) (((withL l (m.take i)).take k ++ [x0]).length) (by first | exact (List.length_append ..).symm | (simp; done) | (simp; omega)) (SS ((withL l (m.take i)).take k ++ [x0])) (by simp [SS]) (fun A42 c42 => ?_)
            refine anyNext [cOwn 9 1 B ((withL l (m.take i)).length) (cb) (SS (withL l (m.take i))), cAt b41 9 [(.string (strOf x0))]] (fun _ h => h) (fun _ h => h.sub (.cons_cons _ (.cons _ (.cons_cons _ .slnil)))) ?_
            refine a1 11 ?_
            refine opAppend el_strC 1 (SS ((withL l (m.take i)).drop k)) rfl rfl (by kernel_rfl) rfl rfl rfl (by simp) (fun w hM => CellsAt.of_row (rowDrop k (rowOwn (i := 0) rfl w hM) (hcap45))) (SS_one) (by first | (simp; omega) | (simp; done)) (((withL l (m.take i)).take k ++ [x0] ++ ((withL l (m.take i)).drop k)).length) (by first | exact (List.length_append ..).symm | (simp; done) | (simp; omega)) (SS ((withL l (m.take i)).take k ++ [x0] ++ ((withL l (m.take i)).drop k))) (by simp [SS]) (fun A46 c46 => ?_)
            refine St.to [cOwn 9 1 B ((withL l (m.take i)).length) (cb) (SS (withL l (m.take i))), cOwn 9 1 A46 (((withL l (m.take i)).take k ++ [x0] ++ ((withL l (m.take i)).drop k)).length) (c46) (SS ((withL l (m.take i)).take k ++ [x0] ++ ((withL l (m.take i)).drop k))), cAt b41 9 [(.string (strOf x0))]] (by kernel_rfl) ?_
            refine anyNext [cOwn 9 1 B ((withL l (m.take i)).length) (cb) (SS (withL l (m.take i))), cOwn 9 1 A46 (((withL l (m.take i)).take k ++ [x0] ++ ((withL l (m.take i)).drop k)).length) (c46) (SS ((withL l (m.take i)).take k ++ [x0] ++ ((withL l (m.take i)).drop k))), cAt b41 9 [(.string (strOf x0))]] (fun _ h => h.sub (.cons_cons _ (.cons _ (.cons_cons _ .slnil)))) (fun _ h => h) ?_
            refine aa 12 ?_
            refine anyDone (by kernel_rfl) ?_
            refine qBlock (qThen (reg ?_))
            refine lv (v := (.int .i64 ((i + 1 : Nat) : Int))) (rAdd _ rfl rfl rfl (by omega) (by omega) (by omega)) ?_
            refine lm ?_
            refine liNil (qThen ?_)
            rw [show (withL l (m.take i)).take k ++ [x0] ++ ((withL l (m.take i)).drop k) = withL l (m.take (i + 1)) from withL_yes hx0 hc20 hk]
            exact stAgain (i + 1, A46, c46) (by show _ ≤ _; omega) (by show m.length - (i + 1) < m.length - i; omega) ⟨rfl, rfl, rfl, rfl, rfl, trivial⟩ (fun w hM => by show Mm _ _ [cOwn 9 1 A46 ((withL l (m.take (i + 1))).length) (c46) (SS (withL l (m.take (i + 1))))] w; exact (fun (w : World) (h : Mm _ _ _ w) => Mm.sub h (.cons _ (.cons_cons _ (.cons _ .slnil)))) w hM)
        · refine opNew (v := fun b => .slice (some ⟨b, 0, none⟩) 1 1) 9 [(.string (strOf x0))] rfl (by kernel_rfl) (fun _ => by kernel_rfl) (fun b41 => ?_)
          refine anyNext [cOwn 9 1 B ((withL l (m.take i)).length) (cb) (SS (withL l (m.take i))), cAt b41 9 [(.string (strOf x0))]] (fun _ h => h.sub (.cons_cons _ (.cons _ .slnil))) (fun _ h => h) ?_
          refine a1 0 ?_
          refine opNew (v := fun b => .slice (some ⟨b, 0, none⟩) 0 0) 9 [] rfl (by kernel_rfl) (fun _ => by kernel_rfl) (fun b35 => ?_)
          refine anyNext [cOwn 9 1 B ((withL l (m.take i)).length) (cb) (SS (withL l (m.take i))), cAt b41 9 [(.string (strOf x0))]] (fun _ h => h) (fun _ h => h.sub (.cons_cons _ (.cons_cons _ (.cons _ .slnil)))) ?_
          refine a1 4 ?_
          refine opMem (fun w hM => hM.toOwn0 2 rfl 1) ?_
          refine opAppend el_strC 2 (SS ((withL l (m.take i)).take k)) rfl rfl (by kernel_rfl) rfl rfl rfl (by simp) (fun w hM => CellsAt.of_row (rowTake k (rowOwn (i := 0) rfl w hM))) (SS_one) (by first | (simp; omega) | (simp; done)) (((withL l (m.take i)).take k).length) (by first | exact (List.length_append ..).symm | (simp; done) | (simp; omega)) (SS ((withL l (m.take i)).take k)) (by simp [SS]) (fun A39 c39 => ?_)
          refine anyNext [cOwn 9 1 B ((withL l (m.take i)).length) (cb) (SS (withL l (m.take i))), cAt b41 9 [(.string (strOf x0))]] (fun _ h => h) (fun _ h => h.sub (.cons_cons _ (.cons_cons _ (.cons _ .slnil)))) ?_
          refine a1 7 ?_
          refine opAppend el_strC 2 ([(.string (strOf x0))]) rfl rfl (by kernel_rfl) rfl rfl rfl (rfl) (srcAt (i := 1) rfl (fun j v h => by rw [Nat.zero_add]; exact h)) (by simp [Value.oneCell']) (by first | (simp; omega) | (simp; done)) (((withL l (m.take i)).take k ++ [x0]).length) (by first | exact (List.length_append ..).symm | (simp; done) | (simp; omega)) (SS ((withL l (m.take i)).take k ++ [x0])) (by simp [SS]) (fun A42 c42 => ?_)
          refine St.to [cOwn 9 1 B ((withL l (m.take i)).length) (cb) (SS (withL l (m.take i))), cAt b41 9 [(.string (strOf x0))], cOwn 9 1 A42 (((withL l (m.take i)).take k ++ [x0]).length) (c42) (SS ((withL l (m.take i)).take k ++ [x0]))] (by kernel_rfl) ?_
          refine anyNext [cOwn 9 1 B ((withL l (m.take i)).length) (cb) (SS (withL l (m.take i))), cAt b41 9 [(.string (strOf x0))]] (fun _ h => h) (fun _ h => h.sub (.cons_cons _ (.cons_cons _ (.cons _ .slnil)))) ?_
          refine a1 11 ?_
          refine opAppend el_strC 2 (SS ((withL l (m.take i)).drop k)) rfl rfl (by kernel_rfl) rfl rfl rfl (by simp) (fun w hM => CellsAt.of_row (rowDrop k (rowOwn (i := 0) rfl w hM) (hcap45))) (SS_one) (by first | (simp; omega) | (simp; done)) (((withL l (m.take i)).take k ++ [x0] ++ ((withL l (m.take i)).drop k)).length) (by first | exact (List.length_append ..).symm | (simp; done) | (simp; omega)) (SS ((withL l (m.take i)).take k ++ [x0] ++ ((withL l (m.take i)).drop k))) (by simp [SS]) (fun A46 c46 => ?_)
          refine anyNext [cOwn 9 1 B ((withL l (m.take i)).length) (cb) (SS (withL l (m.take i))), cAt b41 9 [(.string (strOf x0))], cOwn 9 1 A46 (((withL l (m.take i)).take k ++ [x0] ++ ((withL l (m.take i)).drop k)).length) (c46) (SS ((withL l (m.take i)).take k ++ [x0] ++ ((withL l (m.take i)).drop k)))] (fun _ h => h.sub (.cons_cons _ (.cons_cons _ (.cons _ .slnil)))) (fun _ h => h) ?_
          refine aa 12 ?_
          refine anyDone (by kernel_rfl) ?_
          refine qBlock (qThen (reg ?_))
          refine lv (v := (.int .i64 ((i + 1 : Nat) : Int))) (rAdd _ rfl rfl rfl (by omega) (by omega) (by omega)) ?_
          refine lm ?_
          refine liNil (qThen ?_)
          rw [show (withL l (m.take i)).take k ++ [x0] ++ ((withL l (m.take i)).drop k) = withL l (m.take (i + 1)) from withL_yes hx0 hc20 hk]
          exact stAgain (i + 1, A46, c46) (by show _ ≤ _; omega) (by show m.length - (i + 1) < m.length - i; omega) ⟨rfl, rfl, rfl, rfl, rfl, trivial⟩ (fun w hM => by show Mm _ _ [cOwn 9 1 A46 ((withL l (m.take (i + 1))).length) (c46) (SS (withL l (m.take (i + 1))))] w; exact (fun (w : World) (h : Mm _ _ _ w) => Mm.sub h (.cons _ (.cons _ (.cons_cons _ .slnil)))) w hM)
  · have hd15 := of_decide_eq_false hc15
    obtain rfl : i = m.length := by omega
    rw [List.take_length]
    refine stExit (qThenX (qThenX (qBlockX (qThen (stSeq (reg ?_))))))
    refine lm ?_
    refine la ?_
    refine liNil (qThen (stRet ?_))
    refine stEnd [(.slice B ((withL l m).length) (cb))] rfl ⟨rfl, trivial⟩ (fun w hM => ?_)
    exact ⟨B, cb, rfl, hM⟩

end Go.Proofs.YtlepfnihpdhcaaaGreatDoor
