/- rangesum: parts written. -/
import Derived.Test.YtlepfnihpdhcaaaGreatDoorRsMsg
import Derived.Test.YtlepfnihpdhcaaaGreatDoorRs4
namespace Go.Proofs.YtlepfnihpdhcaaaGreatDoor
open Go.RowKit

set_option maxRecDepth 100000 in
set_option maxHeartbeats 1000000 in
theorem rsWItems_any (bw : Nat) (A : Option Addr) (c : Nat) (xs : List UInt8) (A1 : Option Addr) (c1 : Nat) (l : List (List UInt8)) (w : World) (hO : Own [cAt bw 138 [(.slice A ((xs).length) (c)), (.int .i64 0)], cOwn 5 1 A ((xs).length) (c) (B8 (xs))] w) (r0 : Rf [cAt bw 138 [(.slice A ((xs).length) (c)), (.int .i64 0)], cOwn 5 1 A ((xs).length) (c) (B8 (xs))] w (fun w => RowIn w A1 (SS l))) (hl : l.length ≤ 16384) (h32 : ∀ x ∈ l, x.length = 32) (hx : xs.length ≤ 4294400000) :
    Calls Tryz.prog 151 #[(.pointer (some ⟨bw, 0, none⟩)), (.slice A1 (l.length) (c1))] w fun e w' => ∃ (A2 : Option Addr) (c2 : Nat), e = .returned (.tuple #[]) ∧ Back [cAt bw 138 [(.slice A ((xs).length) (c)), (.int .i64 0)], cOwn 5 1 A ((xs).length) (c) (B8 (xs))] w [cAt bw 138 [(.slice A2 ((xs ++ (num l.length ++ l.flatten)).length) (c2)), (.int .i64 0)], cOwn 5 1 A2 ((xs ++ (num l.length ++ l.flatten)).length) (c2) (B8 (xs ++ (num l.length ++ l.flatten)))] w' := by
  refine stEnter (args := [(.pointer (some ⟨bw, 0, none⟩)), (.slice A1 (l.length) (c1))]) (fps [cAt bw 138 [(.slice A ((xs).length) (c)), (.int .i64 0)], cOwn 5 1 A ((xs).length) (c) (B8 (xs))]) Tryz.func151 rfl 20 rfl [(0, (.pointer (some ⟨bw, 0, none⟩))), (1, (.slice A1 (l.length) (c1)))] ⟨rfl, rfl, trivial⟩ [cAt bw 138 [(.slice A ((xs).length) (c)), (.int .i64 0)], cOwn 5 1 A ((xs).length) (c) (B8 (xs))] (hO) ?_
  refine stSeq (reg ?_)
  refine lm ?_
  refine lm ?_
  refine lc (.int .i64 ((l.length : Nat) : Int)) ?_
  refine li rfl ?_
  refine opK [0, 1] [cAt bw 138 [(.slice A ((xs).length) (c)), (.int .i64 0)], cOwn 5 1 A ((xs).length) (c) (B8 (xs))] (fun w hM hO => (rsWCount_any bw A c xs l.length w hO (by omega) (by omega)).mono ?_)
  rintro e w' ⟨A29, c29, rfl, hP⟩
  refine ⟨_, [cAt bw 138 [(.slice A29 ((xs ++ num l.length).length) (c29)), (.int .i64 0)], cOwn 5 1 A29 ((xs ++ num l.length).length) (c29) (B8 (xs ++ num l.length))], _, rfl, hP, rfl, ?_⟩; clear hP hM hO
  refine liNil (qThen (stSeq (reg ?_)))
  refine lm ?_
  refine lc (.int .i64 ((l.length : Nat) : Int)) ?_
  refine lm ?_
  refine liNil (qThen (stBlock ?_))
  refine stLoop (ι := Nat × Option Addr × Nat) (fun (i, AX, cX) => i ≤ l.length) (fun (i, AX, cX) => l.length - i) (fun (i, AX, cX) => [(0, (.pointer (some ⟨bw, 0, none⟩))), (10, (.slice A1 (l.length) (c1))), (11, (.int .i64 ((l.length : Nat) : Int))), (12, (.int .i64 ((i : Nat) : Int)))]) (fun (i, AX, cX) => [cAt bw 138 [(.slice AX ((xs ++ num l.length ++ (l.take i).flatten).length) (cX)), (.int .i64 0)], cOwn 5 1 AX ((xs ++ num l.length ++ (l.take i).flatten).length) (cX) (B8 (xs ++ num l.length ++ (l.take i).flatten))]) (0, A29, c29) (Nat.zero_le _) ⟨rfl, rfl, rfl, rfl, trivial⟩ (fun w hM => by show Mm _ _ [cAt bw 138 [(.slice A29 ((xs ++ num l.length ++ (l.take 0).flatten).length) (c29)), (.int .i64 0)], cOwn 5 1 A29 ((xs ++ num l.length ++ (l.take 0).flatten).length) (c29) (B8 (xs ++ num l.length ++ (l.take 0).flatten))] w; rw [show xs ++ num l.length ++ (l.take 0).flatten = xs ++ num l.length from List.append_nil _]; exact hM) ?_
  rintro ⟨i, AX, cX⟩ (hok : i ≤ l.length)
  show St _ _ _ [(0, (.pointer (some ⟨bw, 0, none⟩))), (10, (.slice A1 (l.length) (c1))), (11, (.int .i64 ((l.length : Nat) : Int))), (12, (.int .i64 ((i : Nat) : Int)))] [cAt bw 138 [(.slice AX ((xs ++ num l.length ++ (l.take i).flatten).length) (cX)), (.int .i64 0)], cOwn 5 1 AX ((xs ++ num l.length ++ (l.take i).flatten).length) (cX) (B8 (xs ++ num l.length ++ (l.take i).flatten))] _
  refine stSeq (reg ?_)
  refine lc (.bool (decide (((i : Nat) : Int) < ((l.length : Nat) : Int)))) ?_
  refine liNil (qThen (stSeq ?_))
  refine stCond rfl (fun hc13 => ?_) (fun hc13 => ?_)
  · have hd13 := of_decide_eq_true hc13
    have hfl := flat32 (l.take i) (fun x hx => h32 x (List.mem_of_mem_take hx)); rw [List.length_take] at hfl; have hnl := num_length l.length (by omega)
    refine stSkip (qThen (stSeq (stBlock (stSeq (reg ?_)))))
    obtain ⟨x0, hx0⟩ : ∃ ξ, (l)[i]? = some ξ := ⟨_, List.getElem?_eq_getElem (by omega)⟩
    refine St.rowPtr (fun w hM => r0.now hM) (SS_at hx0) (fun p14 q14 hA14 hc14 => ?_)
    refine lv (v := (.pointer (some ⟨p14, q14 + i, none⟩))) (rIndexRow (e := 9) rfl (by kernel_rfl) (by kernel_rfl) rfl rfl hA14 (by omega)) ?_
    refine lv (v := (.string (strOf x0))) (rLoadW rfl rfl (by kernel_rfl) hc14) ?_
    refine la ?_
    refine liNil (qThen (reg ?_))
    refine lm ?_
    refine lm ?_
    refine li rfl ?_
    refine opK [0, 1] [cAt bw 138 [(.slice AX ((xs ++ num l.length ++ (l.take i).flatten).length) (cX)), (.int .i64 0)], cOwn 5 1 AX ((xs ++ num l.length ++ (l.take i).flatten).length) (cX) (B8 (xs ++ num l.length ++ (l.take i).flatten))] (fun w hM hO => (rsWSum_any bw AX cX (xs ++ num l.length ++ (l.take i).flatten) x0 w hO (h32 _ (List.mem_of_getElem? hx0)) (by simp only [List.length_append]; omega)).mono ?_)
    rintro e w' ⟨A218, c218, rfl, hP⟩
    refine ⟨_, [cAt bw 138 [(.slice A218 (((xs ++ num l.length ++ (l.take i).flatten) ++ x0).length) (c218)), (.int .i64 0)], cOwn 5 1 A218 (((xs ++ num l.length ++ (l.take i).flatten) ++ x0).length) (c218) (B8 ((xs ++ num l.length ++ (l.take i).flatten) ++ x0))], _, rfl, hP, rfl, ?_⟩; clear hP hM hO
    refine liNil (qBlock (qThen (reg ?_)))
    refine lv (v := (.int .i64 ((i + 1 : Nat) : Int))) (rAdd _ rfl rfl rfl (by omega) (by omega) (by omega)) ?_
    refine lm ?_
    refine liNil (qThen ?_)
    rw [show (xs ++ num l.length ++ (l.take i).flatten) ++ x0 = xs ++ num l.length ++ (l.take (i + 1)).flatten from by rw [List.append_assoc, flatten_take hx0]]
    exact stAgain (i + 1, A218, c218) (by show _ ≤ _; omega) (by show l.length - (i + 1) < l.length - i; omega) ⟨rfl, rfl, rfl, rfl, trivial⟩ (fun w hM => by show Mm _ _ [cAt bw 138 [(.slice A218 ((xs ++ num l.length ++ (l.take (i + 1)).flatten).length) (c218)), (.int .i64 0)], cOwn 5 1 A218 ((xs ++ num l.length ++ (l.take (i + 1)).flatten).length) (c218) (B8 (xs ++ num l.length ++ (l.take (i + 1)).flatten))] w; exact hM)
  · have hd13 := of_decide_eq_false hc13
    obtain rfl : i = l.length := by omega
    rw [List.take_length]
    refine stExit (qThenX (qThenX (qBlockX ?_)))
    refine stEndN [] rfl trivial (fun w hM => ?_)
    refine ⟨AX, cX, rfl, ?_⟩
    rw [← List.append_assoc]
    exact hM

set_option maxRecDepth 100000 in
set_option maxHeartbeats 1000000 in
theorem rsSWrite_any (bw : Nat) (A : Option Addr) (c : Nat) (xs : List UInt8) (n : Nat) (f : List UInt8) (w : World) (hO : Own [cAt bw 138 [(.slice A ((xs).length) (c)), (.int .i64 0)], cOwn 5 1 A ((xs).length) (c) (B8 (xs))] w) (hn : n ≤ 16384) (hf : f.length = 32) (hx : xs.length ≤ 4293800000) :
    Calls Tryz.prog 146 #[(.agg #[(.int .i64 ((n : Nat) : Int)), (.string (strOf f))]), (.pointer (some ⟨bw, 0, none⟩))] w fun e w' => ∃ (A2 : Option Addr) (c2 : Nat), e = .returned (.tuple #[]) ∧ Back [cAt bw 138 [(.slice A ((xs).length) (c)), (.int .i64 0)], cOwn 5 1 A ((xs).length) (c) (B8 (xs))] w [cAt bw 138 [(.slice A2 ((xs ++ ((num 1 ++ num n) ++ f)).length) (c2)), (.int .i64 0)], cOwn 5 1 A2 ((xs ++ ((num 1 ++ num n) ++ f)).length) (c2) (B8 (xs ++ ((num 1 ++ num n) ++ f)))] w' := by
  refine stEnter (args := [(.agg #[(.int .i64 ((n : Nat) : Int)), (.string (strOf f))]), (.pointer (some ⟨bw, 0, none⟩))]) (fps [cAt bw 138 [(.slice A ((xs).length) (c)), (.int .i64 0)], cOwn 5 1 A ((xs).length) (c) (B8 (xs))]) Tryz.func146 rfl 14 rfl [(0, (.agg #[(.int .i64 ((n : Nat) : Int)), (.string (strOf f))])), (1, (.pointer (some ⟨bw, 0, none⟩)))] ⟨rfl, rfl, trivial⟩ [cAt bw 138 [(.slice A ((xs).length) (c)), (.int .i64 0)], cOwn 5 1 A ((xs).length) (c) (B8 (xs))] (hO) ?_
  refine stSeq (reg (li rfl ?_))
  refine opBox [(.int .i64 ((n : Nat) : Int)), (.string (strOf f))] rfl rfl (by kernel_rfl) rfl rfl (fun b2 => ?_)
  refine liNil (qThen (stSeq (reg ?_)))
  refine lm ?_
  refine li rfl ?_
  refine opK [0, 1] [cAt bw 138 [(.slice A ((xs).length) (c)), (.int .i64 0)], cOwn 5 1 A ((xs).length) (c) (B8 (xs))] (fun w hM hO => (rsWUint_any bw A c xs 1 w hO (by omega) (by omega)).mono ?_)
  rintro e w' ⟨A25, c25, rfl, hP⟩
  refine ⟨_, [cAt bw 138 [(.slice A25 ((xs ++ num 1).length) (c25)), (.int .i64 0)], cOwn 5 1 A25 ((xs ++ num 1).length) (c25) (B8 (xs ++ num 1))], _, rfl, hP, rfl, ?_⟩; clear hP hM hO
  have hn1 := num_length 1 (by omega); have hn2 := num_length n (by omega)
  refine liNil (qThen (stSeq ?_))
  refine St.to [cAt bw 138 [(.slice A25 ((xs ++ num 1).length) (c25)), (.int .i64 0)], cOwn 5 1 A25 ((xs ++ num 1).length) (c25) (B8 (xs ++ num 1)), cAt b2 71 [(.int .i64 ((n : Nat) : Int)), (.string (strOf f))]] (by kernel_rfl) ?_
  refine reg ?_
  refine lm ?_
  refine lc (.pointer (some ⟨b2, 0, none⟩)) ?_
  refine lv (v := (.int .i64 ((n : Nat) : Int))) (rLoad 2 rfl rfl (by kernel_rfl) rfl rfl) ?_
  refine li rfl ?_
  refine opK [0, 1] [cAt bw 138 [(.slice A25 ((xs ++ num 1).length) (c25)), (.int .i64 0)], cOwn 5 1 A25 ((xs ++ num 1).length) (c25) (B8 (xs ++ num 1))] (fun w hM hO => (rsWCount_any bw A25 c25 (xs ++ num 1) n w hO (by omega) (by simp only [List.length_append]; omega)).mono ?_)
  rintro e w' ⟨A29, c29, rfl, hP⟩
  refine ⟨_, [cAt bw 138 [(.slice A29 (((xs ++ num 1) ++ num n).length) (c29)), (.int .i64 0)], cOwn 5 1 A29 (((xs ++ num 1) ++ num n).length) (c29) (B8 ((xs ++ num 1) ++ num n))], _, rfl, hP, rfl, ?_⟩; clear hP hM hO
  refine liNil (qThen (reg ?_))
  refine lm ?_
  refine lc (.pointer (some ⟨b2, 1, none⟩)) ?_
  refine lv (v := (.string (strOf f))) (rLoad 2 rfl rfl (by kernel_rfl) rfl rfl) ?_
  refine li rfl ?_
  refine opK [0, 1] [cAt bw 138 [(.slice A29 (((xs ++ num 1) ++ num n).length) (c29)), (.int .i64 0)], cOwn 5 1 A29 (((xs ++ num 1) ++ num n).length) (c29) (B8 ((xs ++ num 1) ++ num n))] (fun w hM hO => (rsWSum_any bw A29 c29 ((xs ++ num 1) ++ num n) f w hO (by assumption) (by simp only [List.length_append]; omega)).mono ?_)
  rintro e w' ⟨A213, c213, rfl, hP⟩
  refine ⟨_, [cAt bw 138 [(.slice A213 ((((xs ++ num 1) ++ num n) ++ f).length) (c213)), (.int .i64 0)], cOwn 5 1 A213 ((((xs ++ num 1) ++ num n) ++ f).length) (c213) (B8 (((xs ++ num 1) ++ num n) ++ f))], _, rfl, hP, rfl, ?_⟩; clear hP hM hO
  refine liNil ?_
  refine stEndN [] rfl trivial (fun w hM => ?_)
  refine ⟨A213, c213, rfl, ?_⟩
  simp only [← List.append_assoc] at hM ⊢
  exact (fun (w : World) (h : Mm _ _ _ w) => Mm.sub h (.cons_cons _ (.cons_cons _ (.cons _ .slnil)))) w hM

set_option maxRecDepth 100000 in
set_option maxHeartbeats 1000000 in
theorem rsLWrite_any (bw : Nat) (A : Option Addr) (c : Nat) (xs : List UInt8) (A1 : Option Addr) (c1 : Nat) (l : List (List UInt8)) (w : World) (hO : Own [cAt bw 138 [(.slice A ((xs).length) (c)), (.int .i64 0)], cOwn 5 1 A ((xs).length) (c) (B8 (xs))] w) (r0 : Rf [cAt bw 138 [(.slice A ((xs).length) (c)), (.int .i64 0)], cOwn 5 1 A ((xs).length) (c) (B8 (xs))] w (fun w => RowIn w A1 (SS l))) (hl : l.length ≤ 16384) (h32 : ∀ x ∈ l, x.length = 32) (hx : xs.length ≤ 4293800000) :
    Calls Tryz.prog 149 #[(.agg #[(.slice A1 (l.length) (c1))]), (.pointer (some ⟨bw, 0, none⟩))] w fun e w' => ∃ (A2 : Option Addr) (c2 : Nat), e = .returned (.tuple #[]) ∧ Back [cAt bw 138 [(.slice A ((xs).length) (c)), (.int .i64 0)], cOwn 5 1 A ((xs).length) (c) (B8 (xs))] w [cAt bw 138 [(.slice A2 ((xs ++ (num 2 ++ (num l.length ++ l.flatten))).length) (c2)), (.int .i64 0)], cOwn 5 1 A2 ((xs ++ (num 2 ++ (num l.length ++ l.flatten))).length) (c2) (B8 (xs ++ (num 2 ++ (num l.length ++ l.flatten))))] w' := by
  refine stEnter (args := [(.agg #[(.slice A1 (l.length) (c1))]), (.pointer (some ⟨bw, 0, none⟩))]) (fps [cAt bw 138 [(.slice A ((xs).length) (c)), (.int .i64 0)], cOwn 5 1 A ((xs).length) (c) (B8 (xs))]) Tryz.func149 rfl 10 rfl [(0, (.agg #[(.slice A1 (l.length) (c1))])), (1, (.pointer (some ⟨bw, 0, none⟩)))] ⟨rfl, rfl, trivial⟩ [cAt bw 138 [(.slice A ((xs).length) (c)), (.int .i64 0)], cOwn 5 1 A ((xs).length) (c) (B8 (xs))] (hO) ?_
  refine stSeq (reg (li rfl ?_))
  refine opBox [(.slice A1 (l.length) (c1))] rfl rfl (by kernel_rfl) rfl rfl (fun b2 => ?_)
  refine liNil (qThen (stSeq (reg ?_)))
  refine lm ?_
  refine li rfl ?_
  refine opK [0, 1] [cAt bw 138 [(.slice A ((xs).length) (c)), (.int .i64 0)], cOwn 5 1 A ((xs).length) (c) (B8 (xs))] (fun w hM hO => (rsWUint_any bw A c xs 2 w hO (by omega) (by omega)).mono ?_)
  rintro e w' ⟨A25, c25, rfl, hP⟩
  refine ⟨_, [cAt bw 138 [(.slice A25 ((xs ++ num 2).length) (c25)), (.int .i64 0)], cOwn 5 1 A25 ((xs ++ num 2).length) (c25) (B8 (xs ++ num 2))], _, rfl, hP, rfl, ?_⟩; clear hP hM hO
  have hn1 := num_length 2 (by omega)
  refine liNil (qThen ?_)
  refine St.to [cAt bw 138 [(.slice A25 ((xs ++ num 2).length) (c25)), (.int .i64 0)], cOwn 5 1 A25 ((xs ++ num 2).length) (c25) (B8 (xs ++ num 2)), cAt b2 89 [(.slice A1 (l.length) (c1))]] (by kernel_rfl) ?_
  refine reg ?_
  refine lm ?_
  refine lc (.pointer (some ⟨b2, 0, none⟩)) ?_
  refine lv (v := (.slice A1 (l.length) (c1))) (rLoad 2 rfl rfl (by kernel_rfl) rfl rfl) ?_
  refine li rfl ?_
  refine opK [0, 1] [cAt bw 138 [(.slice A25 ((xs ++ num 2).length) (c25)), (.int .i64 0)], cOwn 5 1 A25 ((xs ++ num 2).length) (c25) (B8 (xs ++ num 2))] (fun w hM hO => (rsWItems_any bw A25 c25 (xs ++ num 2) A1 c1 l w hO (r0.goS hM [0, 1]) (by omega) (by assumption) (by simp only [List.length_append]; omega)).mono ?_)
  rintro e w' ⟨A29, c29, rfl, hP⟩
  refine ⟨_, [cAt bw 138 [(.slice A29 (((xs ++ num 2) ++ (num l.length ++ l.flatten)).length) (c29)), (.int .i64 0)], cOwn 5 1 A29 (((xs ++ num 2) ++ (num l.length ++ l.flatten)).length) (c29) (B8 ((xs ++ num 2) ++ (num l.length ++ l.flatten)))], _, rfl, hP, rfl, ?_⟩; clear hP hM hO
  refine liNil ?_
  refine stEndN [] rfl trivial (fun w hM => ?_)
  refine ⟨A29, c29, rfl, ?_⟩
  simp only [← List.append_assoc] at hM ⊢
  exact (fun (w : World) (h : Mm _ _ _ w) => Mm.sub h (.cons_cons _ (.cons_cons _ (.cons _ .slnil)))) w hM

set_option maxRecDepth 100000 in
set_option maxHeartbeats 1000000 in
theorem rsAWrite_any (bw : Nat) (A : Option Addr) (c : Nat) (xs : List UInt8) (A1 : Option Addr) (c1 : Nat) (l : List (List UInt8)) (A3 : Option Addr) (c3 : Nat) (m : List (List UInt8)) (w : World) (hO : Own [cAt bw 138 [(.slice A ((xs).length) (c)), (.int .i64 0)], cOwn 5 1 A ((xs).length) (c) (B8 (xs))] w) (r0 : Rf [cAt bw 138 [(.slice A ((xs).length) (c)), (.int .i64 0)], cOwn 5 1 A ((xs).length) (c) (B8 (xs))] w (fun w => RowIn w A1 (SS l))) (r1 : Rf [cAt bw 138 [(.slice A ((xs).length) (c)), (.int .i64 0)], cOwn 5 1 A ((xs).length) (c) (B8 (xs))] w (fun w => RowIn w A3 (SS m))) (hl : l.length ≤ 16384) (h32 : ∀ x ∈ l, x.length = 32) (hm : m.length ≤ 16384) (hm32 : ∀ x ∈ m, x.length = 32) (hx : xs.length ≤ 4293800000) :
    Calls Tryz.prog 154 #[(.agg #[(.slice A1 (l.length) (c1)), (.slice A3 (m.length) (c3))]), (.pointer (some ⟨bw, 0, none⟩))] w fun e w' => ∃ (A2 : Option Addr) (c2 : Nat), e = .returned (.tuple #[]) ∧ Back [cAt bw 138 [(.slice A ((xs).length) (c)), (.int .i64 0)], cOwn 5 1 A ((xs).length) (c) (B8 (xs))] w [cAt bw 138 [(.slice A2 ((xs ++ ((num 3 ++ (num l.length ++ l.flatten)) ++ (num m.length ++ m.flatten))).length) (c2)), (.int .i64 0)], cOwn 5 1 A2 ((xs ++ ((num 3 ++ (num l.length ++ l.flatten)) ++ (num m.length ++ m.flatten))).length) (c2) (B8 (xs ++ ((num 3 ++ (num l.length ++ l.flatten)) ++ (num m.length ++ m.flatten))))] w' := by
  refine stEnter (args := [(.agg #[(.slice A1 (l.length) (c1)), (.slice A3 (m.length) (c3))]), (.pointer (some ⟨bw, 0, none⟩))]) (fps [cAt bw 138 [(.slice A ((xs).length) (c)), (.int .i64 0)], cOwn 5 1 A ((xs).length) (c) (B8 (xs))]) Tryz.func154 rfl 14 rfl [(0, (.agg #[(.slice A1 (l.length) (c1)), (.slice A3 (m.length) (c3))])), (1, (.pointer (some ⟨bw, 0, none⟩)))] ⟨rfl, rfl, trivial⟩ [cAt bw 138 [(.slice A ((xs).length) (c)), (.int .i64 0)], cOwn 5 1 A ((xs).length) (c) (B8 (xs))] (hO) ?_
  refine stSeq (reg (li rfl ?_))
  refine opBox [(.slice A1 (l.length) (c1)), (.slice A3 (m.length) (c3))] rfl rfl (by kernel_rfl) rfl rfl (fun b2 => ?_)
  refine liNil (qThen (stSeq (reg ?_)))
  refine lm ?_
  refine li rfl ?_
  refine opK [0, 1] [cAt bw 138 [(.slice A ((xs).length) (c)), (.int .i64 0)], cOwn 5 1 A ((xs).length) (c) (B8 (xs))] (fun w hM hO => (rsWUint_any bw A c xs 3 w hO (by omega) (by omega)).mono ?_)
  rintro e w' ⟨A25, c25, rfl, hP⟩
  refine ⟨_, [cAt bw 138 [(.slice A25 ((xs ++ num 3).length) (c25)), (.int .i64 0)], cOwn 5 1 A25 ((xs ++ num 3).length) (c25) (B8 (xs ++ num 3))], _, rfl, hP, rfl, ?_⟩; clear hP hM hO
  have hn1 := num_length 3 (by omega); have hn2 := num_length l.length (by omega); have hfl := flat32 l h32
  refine liNil (qThen (stSeq ?_))
  refine St.to [cAt bw 138 [(.slice A25 ((xs ++ num 3).length) (c25)), (.int .i64 0)], cOwn 5 1 A25 ((xs ++ num 3).length) (c25) (B8 (xs ++ num 3)), cAt b2 92 [(.slice A1 (l.length) (c1)), (.slice A3 (m.length) (c3))]] (by kernel_rfl) ?_
  refine reg ?_
  refine lm ?_
  refine lc (.pointer (some ⟨b2, 0, none⟩)) ?_
  refine lv (v := (.slice A1 (l.length) (c1))) (rLoad 2 rfl rfl (by kernel_rfl) rfl rfl) ?_
  refine li rfl ?_
  refine opK [0, 1] [cAt bw 138 [(.slice A25 ((xs ++ num 3).length) (c25)), (.int .i64 0)], cOwn 5 1 A25 ((xs ++ num 3).length) (c25) (B8 (xs ++ num 3))] (fun w hM hO => (rsWItems_any bw A25 c25 (xs ++ num 3) A1 c1 l w hO (r0.goS hM [0, 1]) (by omega) (by assumption) (by simp only [List.length_append]; omega)).mono ?_)
  rintro e w' ⟨A29, c29, rfl, hP⟩
  refine ⟨_, [cAt bw 138 [(.slice A29 (((xs ++ num 3) ++ (num l.length ++ l.flatten)).length) (c29)), (.int .i64 0)], cOwn 5 1 A29 (((xs ++ num 3) ++ (num l.length ++ l.flatten)).length) (c29) (B8 ((xs ++ num 3) ++ (num l.length ++ l.flatten)))], _, rfl, hP, rfl, ?_⟩; clear hP hM hO
  refine liNil (qThen (reg ?_))
  refine lm ?_
  refine lc (.pointer (some ⟨b2, 1, none⟩)) ?_
  refine lv (v := (.slice A3 (m.length) (c3))) (rLoad 2 rfl rfl (by kernel_rfl) rfl rfl) ?_
  refine li rfl ?_
  refine opK [0, 1] [cAt bw 138 [(.slice A29 (((xs ++ num 3) ++ (num l.length ++ l.flatten)).length) (c29)), (.int .i64 0)], cOwn 5 1 A29 (((xs ++ num 3) ++ (num l.length ++ l.flatten)).length) (c29) (B8 ((xs ++ num 3) ++ (num l.length ++ l.flatten)))] (fun w hM hO => (rsWItems_any bw A29 c29 ((xs ++ num 3) ++ (num l.length ++ l.flatten)) A3 c3 m w hO (r1.goS hM [0, 1]) (by omega) (by assumption) (by simp only [List.length_append]; omega)).mono ?_)
  rintro e w' ⟨A213, c213, rfl, hP⟩
  refine ⟨_, [cAt bw 138 [(.slice A213 ((((xs ++ num 3) ++ (num l.length ++ l.flatten)) ++ (num m.length ++ m.flatten)).length) (c213)), (.int .i64 0)], cOwn 5 1 A213 ((((xs ++ num 3) ++ (num l.length ++ l.flatten)) ++ (num m.length ++ m.flatten)).length) (c213) (B8 (((xs ++ num 3) ++ (num l.length ++ l.flatten)) ++ (num m.length ++ m.flatten)))], _, rfl, hP, rfl, ?_⟩; clear hP hM hO
  refine liNil ?_
  refine stEndN [] rfl trivial (fun w hM => ?_)
  refine ⟨A213, c213, rfl, ?_⟩
  simp only [← List.append_assoc] at hM ⊢
  exact (fun (w : World) (h : Mm _ _ _ w) => Mm.sub h (.cons_cons _ (.cons_cons _ (.cons _ .slnil)))) w hM

theorem rsPWrite_any (v : CV) (hfit : v.abs.fit) (bw : Nat) (A : Option Addr) (c : Nat) (xs : List UInt8) (w : World) (hO : Own [cAt bw 138 [(.slice A ((xs).length) (c)), (.int .i64 0)], cOwn 5 1 A ((xs).length) (c) (B8 (xs))] w) (r : Rf [cAt bw 138 [(.slice A ((xs).length) (c)), (.int .i64 0)], cOwn 5 1 A ((xs).length) (c) (B8 (xs))] w (fun w => ∀ q ∈ v.rows, RowIn w q.1 (SS q.2))) (hx : xs.length ≤ 4293800000) :
    Calls Tryz.prog v.wfn #[v.pay, .pointer (some ⟨bw, 0, none⟩)] w fun e w' => ∃ (A2 : Option Addr) (c2 : Nat), e = .returned (.tuple #[]) ∧ Back [cAt bw 138 [(.slice A ((xs).length) (c)), (.int .i64 0)], cOwn 5 1 A ((xs).length) (c) (B8 (xs))] w [cAt bw 138 [(.slice A2 ((xs ++ v.abs.enc).length) (c2)), (.int .i64 0)], cOwn 5 1 A2 ((xs ++ v.abs.enc).length) (c2) (B8 (xs ++ v.abs.enc))] w' := by
  cases v with
  | sum n f => exact rsSWrite_any bw A c xs n f w hO hfit.1 hfit.2 hx
  | list A1 c1 l => exact rsLWrite_any bw A c xs A1 c1 l w hO (r.imp fun _ h => h (A1, l) (by simp [CV.rows])) hfit.1 hfit.2 hx
  | ans A1 c1 l A3 c3 m => exact rsAWrite_any bw A c xs A1 c1 l A3 c3 m w hO (r.imp fun _ h => h (A1, l) (by simp [CV.rows])) (r.imp fun _ h => h (A3, m) (by simp [CV.rows])) hfit.1.1 hfit.1.2 hfit.2.1 hfit.2.2 hx

set_option maxRecDepth 100000 in
set_option maxHeartbeats 1000000 in
theorem rsEncode_nil (A1 : Option Addr) (c1 : Nat) (ps : List PV) (w : World) (h0 : ps.length = 0) :
    Calls Tryz.prog 37 #[(.slice A1 (ps.length) (c1))] w fun e w' => e = .returned (.tuple #[(.slice none 0 0), (.int .i64 0)]) ∧ Back [] w [] w' := by
  refine stEnter (args := [(.slice A1 (ps.length) (c1))]) (fps []) Tryz.func37 rfl 40 rfl [(0, (.slice A1 (ps.length) (c1)))] ⟨rfl, trivial⟩ [] (Mm.start w []) ?_
  refine stSeq (reg ?_)
  refine la ?_
  refine la ?_
  refine liNil (qThen (stSeq (stSeq (reg ?_))))
  refine lm ?_
  refine lc (.int .i64 ((ps.length : Nat) : Int)) ?_
  refine lc (.bool ((((ps.length : Nat) : Int) : Int) == 0)) ?_
  refine liNil (qThen ?_)
  refine stTrueK rfl (by simp [h0]) ?_
  refine stSeq (reg ?_)
  refine la ?_
  refine la ?_
  refine liNil (qThen (stRet (qThenR ?_)))
  refine stEnd [(.slice none 0 0), (.int .i64 0)] rfl ⟨rfl, rfl, trivial⟩ (fun w hM => ?_)
  exact ⟨rfl, hM⟩

set_option maxRecDepth 100000 in
set_option maxHeartbeats 1000000 in
theorem rsEncode_big (A1 : Option Addr) (c1 : Nat) (ps : List PV) (w : World) (r0 : Rf [] w (fun w => RowIn w A1 (PS ps))) (r1 : Rf [] w (PsOk ps)) (hfit : ∀ p ∈ ps.map PV.abs, p.fit) (hne : ps.length ≠ 0) (hsz : 1048576 < (encA (ps.map PV.abs)).length) (hsz2 : (encA (ps.map PV.abs)).length ≤ 4293800000) :
    Calls Tryz.prog 37 #[(.slice A1 (ps.length) (c1))] w fun e w' => e = .returned (.tuple #[(.slice none 0 0), (.int .i64 2)]) ∧ Back [] w [] w' := by
  refine stEnter (args := [(.slice A1 (ps.length) (c1))]) (fps []) Tryz.func37 rfl 40 rfl [(0, (.slice A1 (ps.length) (c1)))] ⟨rfl, trivial⟩ [] (Mm.start w []) ?_
  refine stSeq (reg ?_)
  refine la ?_
  refine la ?_
  refine liNil (qThen (stSeq (stSeq (reg ?_))))
  refine lm ?_
  refine lc (.int .i64 ((ps.length : Nat) : Int)) ?_
  refine lc (.bool ((((ps.length : Nat) : Int) : Int) == 0)) ?_
  refine liNil (qThen ?_)
  refine stFalseK rfl (by simpa using hne) ?_
  refine stSkip (qThen (stSeq (reg (li rfl ?_))))
  refine opK0 (fun w hM => (rsNewW_any  w ).mono ?_)
  rintro e w' ⟨bw10, rfl, hP⟩
  refine ⟨_, _, rfl, hP, ?_⟩; clear hP hM
  refine la ?_
  refine liNil (qThen (stSeq ?_))
  have henc : encA (ps.map PV.abs) = num ps.length ++ (ps.map PV.abs).flatMap AP.enc := by rw [encA, if_neg (by simpa using hne), List.length_map]
  have hel : (num ps.length).length + ((ps.map PV.abs).flatMap AP.enc).length ≤ 4293800000 := by have e := congrArg List.length henc; rw [List.length_append] at e; omega
  have hpl : ps.length ≤ ((ps.map PV.abs).flatMap AP.enc).length := by rw [← List.length_map (f := PV.abs)]; exact enc_ge _
  have hnb : noB.length = 0 := rfl
  refine St.mem (fun w hM => hM.nilOwn 5 1) ?_
  refine reg ?_
  refine lm ?_
  refine lm ?_
  refine lc (.int .i64 ((ps.length : Nat) : Int)) ?_
  refine li rfl ?_
  refine opK [0, 1] [cAt bw10 138 [(.slice none ((noB).length) (0)), (.int .i64 0)], cOwn 5 1 none ((noB).length) (0) (B8 noB)] (fun w hM hO => (rsWCount_any bw10 none 0 noB ps.length w hO (by omega) (by omega)).mono ?_)
  rintro e w' ⟨A214, c214, rfl, hP⟩
  refine ⟨_, [cAt bw10 138 [(.slice A214 ((noB ++ num ps.length).length) (c214)), (.int .i64 0)], cOwn 5 1 A214 ((noB ++ num ps.length).length) (c214) (B8 (noB ++ num ps.length))], _, rfl, hP, rfl, ?_⟩; clear hP hM hO
  refine liNil (qThen (stSeq (stSeq ?_)))
  refine St.to [cAt bw10 138 [(.slice A214 ((noB ++ num ps.length).length) (c214)), (.int .i64 0)], cOwn 5 1 A214 ((noB ++ num ps.length).length) (c214) (B8 (noB ++ num ps.length))] (by kernel_rfl) ?_
  refine reg ?_
  refine lm ?_
  refine lc (.int .i64 ((ps.length : Nat) : Int)) ?_
  refine lm ?_
  refine liNil (qThen (stBlock ?_))
  refine stLoop (ι := Nat × Option Addr × Nat) (fun (i, AX, cX) => i ≤ ps.length) (fun (i, AX, cX) => ps.length - i) (fun (i, AX, cX) => [(2, (.slice none 0 0)), (3, (.int .i64 0)), (4, (.pointer (some ⟨bw10, 0, none⟩))), (15, (.slice A1 (ps.length) (c1))), (16, (.int .i64 ((ps.length : Nat) : Int))), (17, (.int .i64 ((i : Nat) : Int)))]) (fun (i, AX, cX) => [cAt bw10 138 [(.slice AX ((noB ++ num ps.length ++ ((ps.map PV.abs).take i).flatMap AP.enc).length) (cX)), (.int .i64 0)], cOwn 5 1 AX ((noB ++ num ps.length ++ ((ps.map PV.abs).take i).flatMap AP.enc).length) (cX) (B8 (noB ++ num ps.length ++ ((ps.map PV.abs).take i).flatMap AP.enc))]) (0, A214, c214) (Nat.zero_le _) ⟨rfl, rfl, rfl, rfl, rfl, rfl, trivial⟩ (fun w hM => by show Mm _ _ [cAt bw10 138 [(.slice A214 ((noB ++ num ps.length ++ ((ps.map PV.abs).take 0).flatMap AP.enc).length) (c214)), (.int .i64 0)], cOwn 5 1 A214 ((noB ++ num ps.length ++ ((ps.map PV.abs).take 0).flatMap AP.enc).length) (c214) (B8 (noB ++ num ps.length ++ ((ps.map PV.abs).take 0).flatMap AP.enc))] w; rw [show noB ++ num ps.length ++ ((ps.map PV.abs).take 0).flatMap AP.enc = noB ++ num ps.length from List.append_nil _]; exact hM) ?_
  rintro ⟨i, AX, cX⟩ (hok : i ≤ ps.length)
  show St _ _ _ [(2, (.slice none 0 0)), (3, (.int .i64 0)), (4, (.pointer (some ⟨bw10, 0, none⟩))), (15, (.slice A1 (ps.length) (c1))), (16, (.int .i64 ((ps.length : Nat) : Int))), (17, (.int .i64 ((i : Nat) : Int)))] [cAt bw10 138 [(.slice AX ((noB ++ num ps.length ++ ((ps.map PV.abs).take i).flatMap AP.enc).length) (cX)), (.int .i64 0)], cOwn 5 1 AX ((noB ++ num ps.length ++ ((ps.map PV.abs).take i).flatMap AP.enc).length) (cX) (B8 (noB ++ num ps.length ++ ((ps.map PV.abs).take i).flatMap AP.enc))] _
  refine stSeq (reg ?_)
  refine lc (.bool (decide (((i : Nat) : Int) < ((ps.length : Nat) : Int)))) ?_
  refine liNil (qThen (stSeq ?_))
  refine stCond rfl (fun hc18 => ?_) (fun hc18 => ?_)
  · have hd18 := of_decide_eq_true hc18
    refine stSkip (qThen (stSeq (stBlock (stSeq (reg ?_)))))
    obtain ⟨x0, hx0⟩ : ∃ ξ, (ps)[i]? = some ξ := ⟨_, List.getElem?_eq_getElem (by omega)⟩
    refine St.partPtr (fun w hM => r0.now hM) hx0 (fun p19 q19 hA19 hc19 => ?_)
    refine lv (v := (.pointer (some ⟨p19, q19 + i * 3, none⟩))) (rIndexRow3 (e := 76) rfl (by kernel_rfl) (by kernel_rfl) rfl rfl hA19 (by omega)) ?_
    refine lv (v := (.agg #[(.string (strOf x0.lo)), (.string (strOf x0.hi)), x0.c.val])) (rLoadA [(.string (strOf x0.lo)), (.string (strOf x0.hi)), x0.c.val] rfl rfl (by kernel_rfl) (by kernel_rfl) (hc19)) ?_
    refine li rfl ?_
    refine opAlloc [(.string ⟨#[]⟩), (.string ⟨#[]⟩), .nilIface] rfl rfl (by kernel_rfl) (by kernel_rfl) (fun b6 => ?_)
    refine li rfl ?_
    refine opStoreN 2 [(.string (strOf x0.lo)), (.string (strOf x0.hi)), x0.c.val] (vs := [(.string (strOf x0.lo)), (.string (strOf x0.hi)), x0.c.val]) rfl rfl (by kernel_rfl) rfl rfl rfl (by kernel_rfl) rfl (by simp) (PV.one x0) rfl ?_
    refine liNil (qThen (stSeq ?_))
    refine St.to [cAt bw10 138 [(.slice AX ((noB ++ num ps.length ++ ((ps.map PV.abs).take i).flatMap AP.enc).length) (cX)), (.int .i64 0)], cOwn 5 1 AX ((noB ++ num ps.length ++ ((ps.map PV.abs).take i).flatMap AP.enc).length) (cX) (B8 (noB ++ num ps.length ++ ((ps.map PV.abs).take i).flatMap AP.enc)), cAt b6 76 [(.string (strOf x0.lo)), (.string (strOf x0.hi)), x0.c.val]] (by kernel_rfl) ?_
    have hf0 := hfit _ (List.mem_map_of_mem (List.mem_of_getElem? hx0))
    have hxa : (ps.map PV.abs)[i]? = some x0.abs := by rw [List.getElem?_map, hx0]; rfl
    have hle := enc_le hxa
    have hpe : x0.abs.enc.length = (num x0.lo.length).length + x0.lo.length + ((num x0.hi.length).length + x0.hi.length) + x0.c.abs.enc.length := by simp only [AP.enc, PV.abs, List.length_append]
    have hf1 : x0.lo.length ≤ 32 := hf0.1
    have hf2 : x0.hi.length ≤ 32 := hf0.2.1
    refine reg ?_
    refine lm ?_
    refine lc (.pointer (some ⟨b6, 0, none⟩)) ?_
    refine lc (.pointer (some ⟨b6, 0, none⟩)) ?_
    refine lv (v := (.string (strOf x0.lo))) (rLoad 2 rfl rfl (by kernel_rfl) rfl rfl) ?_
    refine li rfl ?_
    refine opK [0, 1] [cAt bw10 138 [(.slice AX ((noB ++ num ps.length ++ ((ps.map PV.abs).take i).flatMap AP.enc).length) (cX)), (.int .i64 0)], cOwn 5 1 AX ((noB ++ num ps.length ++ ((ps.map PV.abs).take i).flatMap AP.enc).length) (cX) (B8 (noB ++ num ps.length ++ ((ps.map PV.abs).take i).flatMap AP.enc))] (fun w hM hO => (rsWText_any bw10 AX cX (noB ++ num ps.length ++ ((ps.map PV.abs).take i).flatMap AP.enc) x0.lo w hO (by omega) (by simp only [List.length_append]; omega)).mono ?_)
    rintro e w' ⟨A225, c225, rfl, hP⟩
    refine ⟨_, [cAt bw10 138 [(.slice A225 (((noB ++ num ps.length ++ ((ps.map PV.abs).take i).flatMap AP.enc) ++ num x0.lo.length ++ x0.lo).length) (c225)), (.int .i64 0)], cOwn 5 1 A225 (((noB ++ num ps.length ++ ((ps.map PV.abs).take i).flatMap AP.enc) ++ num x0.lo.length ++ x0.lo).length) (c225) (B8 ((noB ++ num ps.length ++ ((ps.map PV.abs).take i).flatMap AP.enc) ++ num x0.lo.length ++ x0.lo))], _, rfl, hP, rfl, ?_⟩; clear hP hM hO
    refine liNil (qThen (stSeq (reg ?_)))
    refine lm ?_
    refine lc (.pointer (some ⟨b6, 0, none⟩)) ?_
    refine lc (.pointer (some ⟨b6, 1, none⟩)) ?_
    refine lv (v := (.string (strOf x0.hi))) (rLoad 2 rfl rfl (by kernel_rfl) rfl rfl) ?_
    refine li rfl ?_
    refine opK [0, 1] [cAt bw10 138 [(.slice A225 (((noB ++ num ps.length ++ ((ps.map PV.abs).take i).flatMap AP.enc) ++ num x0.lo.length ++ x0.lo).length) (c225)), (.int .i64 0)], cOwn 5 1 A225 (((noB ++ num ps.length ++ ((ps.map PV.abs).take i).flatMap AP.enc) ++ num x0.lo.length ++ x0.lo).length) (c225) (B8 ((noB ++ num ps.length ++ ((ps.map PV.abs).take i).flatMap AP.enc) ++ num x0.lo.length ++ x0.lo))] (fun w hM hO => (rsWText_any bw10 A225 c225 ((noB ++ num ps.length ++ ((ps.map PV.abs).take i).flatMap AP.enc) ++ num x0.lo.length ++ x0.lo) x0.hi w hO (by omega) (by simp only [List.length_append]; omega)).mono ?_)
    rintro e w' ⟨A230, c230, rfl, hP⟩
    refine ⟨_, [cAt bw10 138 [(.slice A230 ((((noB ++ num ps.length ++ ((ps.map PV.abs).take i).flatMap AP.enc) ++ num x0.lo.length ++ x0.lo) ++ num x0.hi.length ++ x0.hi).length) (c230)), (.int .i64 0)], cOwn 5 1 A230 ((((noB ++ num ps.length ++ ((ps.map PV.abs).take i).flatMap AP.enc) ++ num x0.lo.length ++ x0.lo) ++ num x0.hi.length ++ x0.hi).length) (c230) (B8 (((noB ++ num ps.length ++ ((ps.map PV.abs).take i).flatMap AP.enc) ++ num x0.lo.length ++ x0.lo) ++ num x0.hi.length ++ x0.hi))], _, rfl, hP, rfl, ?_⟩; clear hP hM hO
    refine liNil (qThen ?_)
    refine St.to [cAt bw10 138 [(.slice A230 ((((noB ++ num ps.length ++ ((ps.map PV.abs).take i).flatMap AP.enc) ++ num x0.lo.length ++ x0.lo) ++ num x0.hi.length ++ x0.hi).length) (c230)), (.int .i64 0)], cOwn 5 1 A230 ((((noB ++ num ps.length ++ ((ps.map PV.abs).take i).flatMap AP.enc) ++ num x0.lo.length ++ x0.lo) ++ num x0.hi.length ++ x0.hi).length) (c230) (B8 (((noB ++ num ps.length ++ ((ps.map PV.abs).take i).flatMap AP.enc) ++ num x0.lo.length ++ x0.lo) ++ num x0.hi.length ++ x0.hi)), cAt b6 76 [(.string (strOf x0.lo)), (.string (strOf x0.hi)), x0.c.val]] (by kernel_rfl) ?_
    refine reg ?_
    refine lc (.pointer (some ⟨b6, 2, none⟩)) ?_
    refine lv (v := x0.c.val) (rLoad 2 rfl rfl (by kernel_rfl) rfl rfl) ?_
    refine lm ?_
    refine li rfl ?_
    refine opK [0, 1] [cAt bw10 138 [(.slice A230 ((((noB ++ num ps.length ++ ((ps.map PV.abs).take i).flatMap AP.enc) ++ num x0.lo.length ++ x0.lo) ++ num x0.hi.length ++ x0.hi).length) (c230)), (.int .i64 0)], cOwn 5 1 A230 ((((noB ++ num ps.length ++ ((ps.map PV.abs).take i).flatMap AP.enc) ++ num x0.lo.length ++ x0.lo) ++ num x0.hi.length ++ x0.hi).length) (c230) (B8 (((noB ++ num ps.length ++ ((ps.map PV.abs).take i).flatMap AP.enc) ++ num x0.lo.length ++ x0.lo) ++ num x0.hi.length ++ x0.hi))] (fun w hM hO => (rsPWrite_any x0.c hf0.2.2 bw10 A230 c230 (((noB ++ num ps.length ++ ((ps.map PV.abs).take i).flatMap AP.enc) ++ num x0.lo.length ++ x0.lo) ++ num x0.hi.length ++ x0.hi) w hO ((r1.goS hM [0, 1]).imp fun _ h => h x0 (List.mem_of_getElem? hx0)) (by simp only [List.length_append]; omega)).mono ?_) rfl rfl rfl (by kernel_rfl) (hrWrite rfl rfl rfl)
    rintro e w' ⟨A34, c34, rfl, hP⟩
    refine ⟨_, [cAt bw10 138 [(.slice A34 (((((noB ++ num ps.length ++ ((ps.map PV.abs).take i).flatMap AP.enc) ++ num x0.lo.length ++ x0.lo) ++ num x0.hi.length ++ x0.hi) ++ x0.c.abs.enc).length) (c34)), (.int .i64 0)], cOwn 5 1 A34 (((((noB ++ num ps.length ++ ((ps.map PV.abs).take i).flatMap AP.enc) ++ num x0.lo.length ++ x0.lo) ++ num x0.hi.length ++ x0.hi) ++ x0.c.abs.enc).length) (c34) (B8 ((((noB ++ num ps.length ++ ((ps.map PV.abs).take i).flatMap AP.enc) ++ num x0.lo.length ++ x0.lo) ++ num x0.hi.length ++ x0.hi) ++ x0.c.abs.enc))], _, rfl, hP, rfl, ?_⟩; clear hP hM hO
    refine liNil (qBlock (qThen (reg ?_)))
    refine lv (v := (.int .i64 ((i + 1 : Nat) : Int))) (rAdd _ rfl rfl rfl (by omega) (by omega) (by omega)) ?_
    refine lm ?_
    refine liNil (qThen ?_)
    rw [show (((noB ++ num ps.length ++ ((ps.map PV.abs).take i).flatMap AP.enc) ++ num x0.lo.length ++ x0.lo) ++ num x0.hi.length ++ x0.hi) ++ x0.c.abs.enc = noB ++ num ps.length ++ ((ps.map PV.abs).take (i + 1)).flatMap AP.enc from by rw [← enc_step hxa]; simp only [AP.enc, PV.abs, List.append_assoc]]
    exact stAgain (i + 1, A34, c34) (by show _ ≤ _; omega) (by show ps.length - (i + 1) < ps.length - i; omega) ⟨rfl, rfl, rfl, rfl, rfl, rfl, trivial⟩ (fun w hM => by show Mm _ _ [cAt bw10 138 [(.slice A34 ((noB ++ num ps.length ++ ((ps.map PV.abs).take (i + 1)).flatMap AP.enc).length) (c34)), (.int .i64 0)], cOwn 5 1 A34 ((noB ++ num ps.length ++ ((ps.map PV.abs).take (i + 1)).flatMap AP.enc).length) (c34) (B8 (noB ++ num ps.length ++ ((ps.map PV.abs).take (i + 1)).flatMap AP.enc))] w; exact (fun (w : World) (h : Mm _ _ _ w) => Mm.sub h (.cons_cons _ (.cons_cons _ (.cons _ .slnil)))) w hM)
  · have hd18 := of_decide_eq_false hc18
    obtain rfl : i = ps.length := by omega
    rw [show (ps.map PV.abs).take ps.length = ps.map PV.abs from by rw [← List.length_map (f := PV.abs), List.take_length]]
    refine stExit (qThenX (qThenX (qBlockX (qThen (stSeq ?_)))))
    have hxe : noB ++ num ps.length ++ (ps.map PV.abs).flatMap AP.enc = encA (ps.map PV.abs) := by rw [henc]; rfl
    rw [hxe]
    refine reg ?_
    refine lm ?_
    refine li rfl ?_
    refine opK [0, 1] [cAt bw10 138 [(.slice AX ((encA (ps.map PV.abs)).length) (cX)), (.int .i64 0)], cOwn 5 1 AX ((encA (ps.map PV.abs)).length) (cX) (B8 (encA (ps.map PV.abs)))] (fun w hM hO => (rsDone_big bw10 AX cX (encA (ps.map PV.abs)) w hO (by assumption)).mono ?_)
    rintro e w' ⟨rfl, hP⟩
    refine ⟨_, [cAt bw10 138 [(.slice AX (((encA (ps.map PV.abs))).length) (cX)), (.int .i64 0)], cOwn 5 1 AX (((encA (ps.map PV.abs))).length) (cX) (B8 ((encA (ps.map PV.abs))))], _, rfl, hP, rfl, ?_⟩; clear hP hM hO
    refine lc (.slice none 0 0) ?_
    refine lc (.int .i64 2) ?_
    refine la ?_
    refine la ?_
    refine liNil (qThen (stRet ?_))
    refine stEnd [(.slice none 0 0), (.int .i64 2)] rfl ⟨rfl, rfl, trivial⟩ (fun w hM => ?_)
    exact ⟨rfl, (fun (w : World) (h : Mm _ _ _ w) => Mm.sub h (.cons _ (.cons _ .slnil))) w hM⟩

set_option maxRecDepth 100000 in
set_option maxHeartbeats 1000000 in
theorem rsEncode_ok (A1 : Option Addr) (c1 : Nat) (ps : List PV) (w : World) (r0 : Rf [] w (fun w => RowIn w A1 (PS ps))) (r1 : Rf [] w (PsOk ps)) (hfit : ∀ p ∈ ps.map PV.abs, p.fit) (hne : ps.length ≠ 0) (hsz : (encA (ps.map PV.abs)).length ≤ 1048576) :
    Calls Tryz.prog 37 #[(.slice A1 (ps.length) (c1))] w fun e w' => ∃ (B : Option Addr) (cb : Nat), e = .returned (.tuple #[(.slice B ((encA (ps.map PV.abs)).length) (cb)), (.int .i64 0)]) ∧ Back [] w [cOwn 5 1 B ((encA (ps.map PV.abs)).length) (cb) (B8 (encA (ps.map PV.abs)))] w' := by
  refine stEnter (args := [(.slice A1 (ps.length) (c1))]) (fps []) Tryz.func37 rfl 40 rfl [(0, (.slice A1 (ps.length) (c1)))] ⟨rfl, trivial⟩ [] (Mm.start w []) ?_
  refine stSeq (reg ?_)
  refine la ?_
  refine la ?_
  refine liNil (qThen (stSeq (stSeq (reg ?_))))
  refine lm ?_
  refine lc (.int .i64 ((ps.length : Nat) : Int)) ?_
  refine lc (.bool ((((ps.length : Nat) : Int) : Int) == 0)) ?_
  refine liNil (qThen ?_)
  refine stFalseK rfl (by simpa using hne) ?_
  refine stSkip (qThen (stSeq (reg (li rfl ?_))))
  refine opK0 (fun w hM => (rsNewW_any  w ).mono ?_)
  rintro e w' ⟨bw10, rfl, hP⟩
  refine ⟨_, _, rfl, hP, ?_⟩; clear hP hM
  refine la ?_
  refine liNil (qThen (stSeq ?_))
  have henc : encA (ps.map PV.abs) = num ps.length ++ (ps.map PV.abs).flatMap AP.enc := by rw [encA, if_neg (by simpa using hne), List.length_map]
  have hel : (num ps.length).length + ((ps.map PV.abs).flatMap AP.enc).length ≤ 4293800000 := by have e := congrArg List.length henc; rw [List.length_append] at e; omega
  have hpl : ps.length ≤ ((ps.map PV.abs).flatMap AP.enc).length := by rw [← List.length_map (f := PV.abs)]; exact enc_ge _
  have hnb : noB.length = 0 := rfl
  refine St.mem (fun w hM => hM.nilOwn 5 1) ?_
  refine reg ?_
  refine lm ?_
  refine lm ?_
  refine lc (.int .i64 ((ps.length : Nat) : Int)) ?_
  refine li rfl ?_
  refine opK [0, 1] [cAt bw10 138 [(.slice none ((noB).length) (0)), (.int .i64 0)], cOwn 5 1 none ((noB).length) (0) (B8 noB)] (fun w hM hO => (rsWCount_any bw10 none 0 noB ps.length w hO (by omega) (by omega)).mono ?_)
  rintro e w' ⟨A214, c214, rfl, hP⟩
  refine ⟨_, [cAt bw10 138 [(.slice A214 ((noB ++ num ps.length).length) (c214)), (.int .i64 0)], cOwn 5 1 A214 ((noB ++ num ps.length).length) (c214) (B8 (noB ++ num ps.length))], _, rfl, hP, rfl, ?_⟩; clear hP hM hO
  refine liNil (qThen (stSeq (stSeq ?_)))
  refine St.to [cAt bw10 138 [(.slice A214 ((noB ++ num ps.length).length) (c214)), (.int .i64 0)], cOwn 5 1 A214 ((noB ++ num ps.length).length) (c214) (B8 (noB ++ num ps.length))] (by kernel_rfl) ?_
  refine reg ?_
  refine lm ?_
  refine lc (.int .i64 ((ps.length : Nat) : Int)) ?_
  refine lm ?_
  refine liNil (qThen (stBlock ?_))
  refine stLoop (ι := Nat × Option Addr × Nat) (fun (i, AX, cX) => i ≤ ps.length) (fun (i, AX, cX) => ps.length - i) (fun (i, AX, cX) => [(2, (.slice none 0 0)), (3, (.int .i64 0)), (4, (.pointer (some ⟨bw10, 0, none⟩))), (15, (.slice A1 (ps.length) (c1))), (16, (.int .i64 ((ps.length : Nat) : Int))), (17, (.int .i64 ((i : Nat) : Int)))]) (fun (i, AX, cX) => [cAt bw10 138 [(.slice AX ((noB ++ num ps.length ++ ((ps.map PV.abs).take i).flatMap AP.enc).length) (cX)), (.int .i64 0)], cOwn 5 1 AX ((noB ++ num ps.length ++ ((ps.map PV.abs).take i).flatMap AP.enc).length) (cX) (B8 (noB ++ num ps.length ++ ((ps.map PV.abs).take i).flatMap AP.enc))]) (0, A214, c214) (Nat.zero_le _) ⟨rfl, rfl, rfl, rfl, rfl, rfl, trivial⟩ (fun w hM => by show Mm _ _ [cAt bw10 138 [(.slice A214 ((noB ++ num ps.length ++ ((ps.map PV.abs).take 0).flatMap AP.enc).length) (c214)), (.int .i64 0)], cOwn 5 1 A214 ((noB ++ num ps.length ++ ((ps.map PV.abs).take 0).flatMap AP.enc).length) (c214) (B8 (noB ++ num ps.length ++ ((ps.map PV.abs).take 0).flatMap AP.enc))] w; rw [show noB ++ num ps.length ++ ((ps.map PV.abs).take 0).flatMap AP.enc = noB ++ num ps.length from List.append_nil _]; exact hM) ?_
  rintro ⟨i, AX, cX⟩ (hok : i ≤ ps.length)
  show St _ _ _ [(2, (.slice none 0 0)), (3, (.int .i64 0)), (4, (.pointer (some ⟨bw10, 0, none⟩))), (15, (.slice A1 (ps.length) (c1))), (16, (.int .i64 ((ps.length : Nat) : Int))), (17, (.int .i64 ((i : Nat) : Int)))] [cAt bw10 138 [(.slice AX ((noB ++ num ps.length ++ ((ps.map PV.abs).take i).flatMap AP.enc).length) (cX)), (.int .i64 0)], cOwn 5 1 AX ((noB ++ num ps.length ++ ((ps.map PV.abs).take i).flatMap AP.enc).length) (cX) (B8 (noB ++ num ps.length ++ ((ps.map PV.abs).take i).flatMap AP.enc))] _
  refine stSeq (reg ?_)
  refine lc (.bool (decide (((i : Nat) : Int) < ((ps.length : Nat) : Int)))) ?_
  refine liNil (qThen (stSeq ?_))
  refine stCond rfl (fun hc18 => ?_) (fun hc18 => ?_)
  · have hd18 := of_decide_eq_true hc18
    refine stSkip (qThen (stSeq (stBlock (stSeq (reg ?_)))))
    obtain ⟨x0, hx0⟩ : ∃ ξ, (ps)[i]? = some ξ := ⟨_, List.getElem?_eq_getElem (by omega)⟩
    refine St.partPtr (fun w hM => r0.now hM) hx0 (fun p19 q19 hA19 hc19 => ?_)
    refine lv (v := (.pointer (some ⟨p19, q19 + i * 3, none⟩))) (rIndexRow3 (e := 76) rfl (by kernel_rfl) (by kernel_rfl) rfl rfl hA19 (by omega)) ?_
    refine lv (v := (.agg #[(.string (strOf x0.lo)), (.string (strOf x0.hi)), x0.c.val])) (rLoadA [(.string (strOf x0.lo)), (.string (strOf x0.hi)), x0.c.val] rfl rfl (by kernel_rfl) (by kernel_rfl) (hc19)) ?_
    refine li rfl ?_
    refine opAlloc [(.string ⟨#[]⟩), (.string ⟨#[]⟩), .nilIface] rfl rfl (by kernel_rfl) (by kernel_rfl) (fun b6 => ?_)
    refine li rfl ?_
    refine opStoreN 2 [(.string (strOf x0.lo)), (.string (strOf x0.hi)), x0.c.val] (vs := [(.string (strOf x0.lo)), (.string (strOf x0.hi)), x0.c.val]) rfl rfl (by kernel_rfl) rfl rfl rfl (by kernel_rfl) rfl (by simp) (PV.one x0) rfl ?_
    refine liNil (qThen (stSeq ?_))
    refine St.to [cAt bw10 138 [(.slice AX ((noB ++ num ps.length ++ ((ps.map PV.abs).take i).flatMap AP.enc).length) (cX)), (.int .i64 0)], cOwn 5 1 AX ((noB ++ num ps.length ++ ((ps.map PV.abs).take i).flatMap AP.enc).length) (cX) (B8 (noB ++ num ps.length ++ ((ps.map PV.abs).take i).flatMap AP.enc)), cAt b6 76 [(.string (strOf x0.lo)), (.string (strOf x0.hi)), x0.c.val]] (by kernel_rfl) ?_
    have hf0 := hfit _ (List.mem_map_of_mem (List.mem_of_getElem? hx0))
    have hxa : (ps.map PV.abs)[i]? = some x0.abs := by rw [List.getElem?_map, hx0]; rfl
    have hle := enc_le hxa
    have hpe : x0.abs.enc.length = (num x0.lo.length).length + x0.lo.length + ((num x0.hi.length).length + x0.hi.length) + x0.c.abs.enc.length := by simp only [AP.enc, PV.abs, List.length_append]
    have hf1 : x0.lo.length ≤ 32 := hf0.1
    have hf2 : x0.hi.length ≤ 32 := hf0.2.1
    refine reg ?_
    refine lm ?_
    refine lc (.pointer (some ⟨b6, 0, none⟩)) ?_
    refine lc (.pointer (some ⟨b6, 0, none⟩)) ?_
    refine lv (v := (.string (strOf x0.lo))) (rLoad 2 rfl rfl (by kernel_rfl) rfl rfl) ?_
    refine li rfl ?_
    refine opK [0, 1] [cAt bw10 138 [(.slice AX ((noB ++ num ps.length ++ ((ps.map PV.abs).take i).flatMap AP.enc).length) (cX)), (.int .i64 0)], cOwn 5 1 AX ((noB ++ num ps.length ++ ((ps.map PV.abs).take i).flatMap AP.enc).length) (cX) (B8 (noB ++ num ps.length ++ ((ps.map PV.abs).take i).flatMap AP.enc))] (fun w hM hO => (rsWText_any bw10 AX cX (noB ++ num ps.length ++ ((ps.map PV.abs).take i).flatMap AP.enc) x0.lo w hO (by omega) (by simp only [List.length_append]; omega)).mono ?_)
    rintro e w' ⟨A225, c225, rfl, hP⟩
    refine ⟨_, [cAt bw10 138 [(.slice A225 (((noB ++ num ps.length ++ ((ps.map PV.abs).take i).flatMap AP.enc) ++ num x0.lo.length ++ x0.lo).length) (c225)), (.int .i64 0)], cOwn 5 1 A225 (((noB ++ num ps.length ++ ((ps.map PV.abs).take i).flatMap AP.enc) ++ num x0.lo.length ++ x0.lo).length) (c225) (B8 ((noB ++ num ps.length ++ ((ps.map PV.abs).take i).flatMap AP.enc) ++ num x0.lo.length ++ x0.lo))], _, rfl, hP, rfl, ?_⟩; clear hP hM hO
    refine liNil (qThen (stSeq (reg ?_)))
    refine lm ?_
    refine lc (.pointer (some ⟨b6, 0, none⟩)) ?_
    refine lc (.pointer (some ⟨b6, 1, none⟩)) ?_
    refine lv (v := (.string (strOf x0.hi))) (rLoad 2 rfl rfl (by kernel_rfl) rfl rfl) ?_
    refine li rfl ?_
    refine opK [0, 1] [cAt bw10 138 [(.slice A225 (((noB ++ num ps.length ++ ((ps.map PV.abs).take i).flatMap AP.enc) ++ num x0.lo.length ++ x0.lo).length) (c225)), (.int .i64 0)], cOwn 5 1 A225 (((noB ++ num ps.length ++ ((ps.map PV.abs).take i).flatMap AP.enc) ++ num x0.lo.length ++ x0.lo).length) (c225) (B8 ((noB ++ num ps.length ++ ((ps.map PV.abs).take i).flatMap AP.enc) ++ num x0.lo.length ++ x0.lo))] (fun w hM hO => (rsWText_any bw10 A225 c225 ((noB ++ num ps.length ++ ((ps.map PV.abs).take i).flatMap AP.enc) ++ num x0.lo.length ++ x0.lo) x0.hi w hO (by omega) (by simp only [List.length_append]; omega)).mono ?_)
    rintro e w' ⟨A230, c230, rfl, hP⟩
    refine ⟨_, [cAt bw10 138 [(.slice A230 ((((noB ++ num ps.length ++ ((ps.map PV.abs).take i).flatMap AP.enc) ++ num x0.lo.length ++ x0.lo) ++ num x0.hi.length ++ x0.hi).length) (c230)), (.int .i64 0)], cOwn 5 1 A230 ((((noB ++ num ps.length ++ ((ps.map PV.abs).take i).flatMap AP.enc) ++ num x0.lo.length ++ x0.lo) ++ num x0.hi.length ++ x0.hi).length) (c230) (B8 (((noB ++ num ps.length ++ ((ps.map PV.abs).take i).flatMap AP.enc) ++ num x0.lo.length ++ x0.lo) ++ num x0.hi.length ++ x0.hi))], _, rfl, hP, rfl, ?_⟩; clear hP hM hO
    refine liNil (qThen ?_)
    refine St.to [cAt bw10 138 [(.slice A230 ((((noB ++ num ps.length ++ ((ps.map PV.abs).take i).flatMap AP.enc) ++ num x0.lo.length ++ x0.lo) ++ num x0.hi.length ++ x0.hi).length) (c230)), (.int .i64 0)], cOwn 5 1 A230 ((((noB ++ num ps.length ++ ((ps.map PV.abs).take i).flatMap AP.enc) ++ num x0.lo.length ++ x0.lo) ++ num x0.hi.length ++ x0.hi).length) (c230) (B8 (((noB ++ num ps.length ++ ((ps.map PV.abs).take i).flatMap AP.enc) ++ num x0.lo.length ++ x0.lo) ++ num x0.hi.length ++ x0.hi)), cAt b6 76 [(.string (strOf x0.lo)), (.string (strOf x0.hi)), x0.c.val]] (by kernel_rfl) ?_
    refine reg ?_
    refine lc (.pointer (some ⟨b6, 2, none⟩)) ?_
    refine lv (v := x0.c.val) (rLoad 2 rfl rfl (by kernel_rfl) rfl rfl) ?_
    refine lm ?_
    refine li rfl ?_
    refine opK [0, 1] [cAt bw10 138 [(.slice A230 ((((noB ++ num ps.length ++ ((ps.map PV.abs).take i).flatMap AP.enc) ++ num x0.lo.length ++ x0.lo) ++ num x0.hi.length ++ x0.hi).length) (c230)), (.int .i64 0)], cOwn 5 1 A230 ((((noB ++ num ps.length ++ ((ps.map PV.abs).take i).flatMap AP.enc) ++ num x0.lo.length ++ x0.lo) ++ num x0.hi.length ++ x0.hi).length) (c230) (B8 (((noB ++ num ps.length ++ ((ps.map PV.abs).take i).flatMap AP.enc) ++ num x0.lo.length ++ x0.lo) ++ num x0.hi.length ++ x0.hi))] (fun w hM hO => (rsPWrite_any x0.c hf0.2.2 bw10 A230 c230 (((noB ++ num ps.length ++ ((ps.map PV.abs).take i).flatMap AP.enc) ++ num x0.lo.length ++ x0.lo) ++ num x0.hi.length ++ x0.hi) w hO ((r1.goS hM [0, 1]).imp fun _ h => h x0 (List.mem_of_getElem? hx0)) (by simp only [List.length_append]; omega)).mono ?_) rfl rfl rfl (by kernel_rfl) (hrWrite rfl rfl rfl)
    rintro e w' ⟨A34, c34, rfl, hP⟩
    refine ⟨_, [cAt bw10 138 [(.slice A34 (((((noB ++ num ps.length ++ ((ps.map PV.abs).take i).flatMap AP.enc) ++ num x0.lo.length ++ x0.lo) ++ num x0.hi.length ++ x0.hi) ++ x0.c.abs.enc).length) (c34)), (.int .i64 0)], cOwn 5 1 A34 (((((noB ++ num ps.length ++ ((ps.map PV.abs).take i).flatMap AP.enc) ++ num x0.lo.length ++ x0.lo) ++ num x0.hi.length ++ x0.hi) ++ x0.c.abs.enc).length) (c34) (B8 ((((noB ++ num ps.length ++ ((ps.map PV.abs).take i).flatMap AP.enc) ++ num x0.lo.length ++ x0.lo) ++ num x0.hi.length ++ x0.hi) ++ x0.c.abs.enc))], _, rfl, hP, rfl, ?_⟩; clear hP hM hO
    refine liNil (qBlock (qThen (reg ?_)))
    refine lv (v := (.int .i64 ((i + 1 : Nat) : Int))) (rAdd _ rfl rfl rfl (by omega) (by omega) (by omega)) ?_
    refine lm ?_
    refine liNil (qThen ?_)
    rw [show (((noB ++ num ps.length ++ ((ps.map PV.abs).take i).flatMap AP.enc) ++ num x0.lo.length ++ x0.lo) ++ num x0.hi.length ++ x0.hi) ++ x0.c.abs.enc = noB ++ num ps.length ++ ((ps.map PV.abs).take (i + 1)).flatMap AP.enc from by rw [← enc_step hxa]; simp only [AP.enc, PV.abs, List.append_assoc]]
    exact stAgain (i + 1, A34, c34) (by show _ ≤ _; omega) (by show ps.length - (i + 1) < ps.length - i; omega) ⟨rfl, rfl, rfl, rfl, rfl, rfl, trivial⟩ (fun w hM => by show Mm _ _ [cAt bw10 138 [(.slice A34 ((noB ++ num ps.length ++ ((ps.map PV.abs).take (i + 1)).flatMap AP.enc).length) (c34)), (.int .i64 0)], cOwn 5 1 A34 ((noB ++ num ps.length ++ ((ps.map PV.abs).take (i + 1)).flatMap AP.enc).length) (c34) (B8 (noB ++ num ps.length ++ ((ps.map PV.abs).take (i + 1)).flatMap AP.enc))] w; exact (fun (w : World) (h : Mm _ _ _ w) => Mm.sub h (.cons_cons _ (.cons_cons _ (.cons _ .slnil)))) w hM)
  · have hd18 := of_decide_eq_false hc18
    obtain rfl : i = ps.length := by omega
    rw [show (ps.map PV.abs).take ps.length = ps.map PV.abs from by rw [← List.length_map (f := PV.abs), List.take_length]]
    refine stExit (qThenX (qThenX (qBlockX (qThen (stSeq ?_)))))
    have hxe : noB ++ num ps.length ++ (ps.map PV.abs).flatMap AP.enc = encA (ps.map PV.abs) := by rw [henc]; rfl
    rw [hxe]
    refine reg ?_
    refine lm ?_
    refine li rfl ?_
    refine opK [0, 1] [cAt bw10 138 [(.slice AX ((encA (ps.map PV.abs)).length) (cX)), (.int .i64 0)], cOwn 5 1 AX ((encA (ps.map PV.abs)).length) (cX) (B8 (encA (ps.map PV.abs)))] (fun w hM hO => (rsDone_ok bw10 AX cX (encA (ps.map PV.abs)) w hO (by assumption)).mono ?_)
    rintro e w' ⟨A237, c237, rfl, hP⟩
    refine ⟨_, [cAt bw10 138 [(.slice AX (((encA (ps.map PV.abs))).length) (cX)), (.int .i64 0)], cOwn 5 1 AX (((encA (ps.map PV.abs))).length) (cX) (B8 ((encA (ps.map PV.abs))))], _, rfl, hP, rfl, ?_⟩; clear hP hM hO
    refine lc (.slice A237 ((encA (ps.map PV.abs)).length) (c237)) ?_
    refine lc (.int .i64 0) ?_
    refine la ?_
    refine la ?_
    refine liNil (qThen (stRet ?_))
    refine stEnd [(.slice A237 ((encA (ps.map PV.abs)).length) (c237)), (.int .i64 0)] rfl ⟨rfl, rfl, trivial⟩ (fun w hM => ?_)
    exact ⟨A237, c237, rfl, (fun (w : World) (h : Mm _ _ _ w) => Mm.sub h (.cons _ (.cons _ (.cons_cons _ .slnil)))) w hM⟩

end Go.Proofs.YtlepfnihpdhcaaaGreatDoor
