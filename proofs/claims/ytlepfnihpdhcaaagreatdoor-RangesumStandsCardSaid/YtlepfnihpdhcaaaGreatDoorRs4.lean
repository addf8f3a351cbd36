/- rangesum: the writer, once more in one form. -/
import Derived.Test.YtlepfnihpdhcaaaGreatDoorCon
import Derived.Test.YtlepfnihpdhcaaaGreatDoorWire1
namespace Go.Proofs.YtlepfnihpdhcaaaGreatDoor
open Go.RowKit

theorem rsExtend_any (A : Option Addr) (c : Nat) (xs : List UInt8) (n : Nat) (w : World) (hO : Own [cOwn 5 1 A (xs.length) (c) (B8 (xs))] w) (hn : n < 18446744073709551616) (hx : xs.length ≤ 4294960000) :
    Calls Tryz.prog 79 #[(.slice A (xs.length) (c)), (.int .u64 ((n : Nat) : Int))] w fun e w' => ∃ (A2 : Option Addr) (c2 : Nat), e = .returned (.slice A2 ((xs ++ num n).length) (c2)) ∧ Back [cOwn 5 1 A (xs.length) (c) (B8 (xs))] w [cOwn 5 1 A2 ((xs ++ num n).length) (c2) (B8 (xs ++ num n))] w' := by
  have ho : w.ownsRow 0 5 1 (.slice A xs.length c) xs.length (B8 xs) := hO.at (i := 0) rfl
  refine (extend_any 0 n (.slice A xs.length c) xs w hn (by omega) (Nat.zero_le _) ho).mono ?_
  rintro e w' ⟨v', rfl, hG⟩
  obtain ⟨A', c', rfl, hM⟩ := hO.swapOwn 0 rfl hG.own hG.gr hG.blk
  exact ⟨A', c', rfl, hM⟩
theorem rsNewW_any (w : World) :
    Calls Tryz.prog 53 #[] w fun e w' => ∃ (bw : Nat), e = .returned (.pointer (some ⟨bw, 0, none⟩)) ∧ Back [] w [cAt bw 138 [(.slice none 0 0), (.int .i64 0)]] w' := (newWriter_any w).mono fun _ _ ⟨he, hf, ha⟩ => ⟨_, he, (Mm.start w []).push (c := cAt w.heap.size 138 [.slice none 0 0, Value.int .i64 0]) hf ha (by simp [cAt]) (by simp [cAt])⟩

set_option maxRecDepth 100000 in
set_option maxHeartbeats 1000000 in
theorem rsWUint_any (bw : Nat) (A : Option Addr) (c : Nat) (xs : List UInt8) (n : Nat) (w : World) (hO : Own [cAt bw 138 [(.slice A ((xs).length) (c)), (.int .i64 0)], cOwn 5 1 A ((xs).length) (c) (B8 (xs))] w) (hn : n < 18446744073709551616) (hx : xs.length ≤ 4294960000) :
    Calls Tryz.prog 78 #[(.pointer (some ⟨bw, 0, none⟩)), (.int .u64 ((n : Nat) : Int))] w fun e w' => ∃ (A2 : Option Addr) (c2 : Nat), e = .returned (.tuple #[]) ∧ Back [cAt bw 138 [(.slice A ((xs).length) (c)), (.int .i64 0)], cOwn 5 1 A ((xs).length) (c) (B8 (xs))] w [cAt bw 138 [(.slice A2 ((xs ++ num n).length) (c2)), (.int .i64 0)], cOwn 5 1 A2 ((xs ++ num n).length) (c2) (B8 (xs ++ num n))] w' := by
  refine stEnter (args := [(.pointer (some ⟨bw, 0, none⟩)), (.int .u64 ((n : Nat) : Int))]) (fps [cAt bw 138 [(.slice A ((xs).length) (c)), (.int .i64 0)], cOwn 5 1 A ((xs).length) (c) (B8 (xs))]) Tryz.func78 rfl 18 rfl [(0, (.pointer (some ⟨bw, 0, none⟩))), (1, (.int .u64 ((n : Nat) : Int)))] ⟨rfl, rfl, trivial⟩ [cAt bw 138 [(.slice A ((xs).length) (c)), (.int .i64 0)], cOwn 5 1 A ((xs).length) (c) (B8 (xs))] (hO) ?_
  refine stSeq (reg ?_)
  refine lm ?_
  refine lc (.pointer (some ⟨bw, 0, none⟩)) ?_
  refine lc (.pointer (some ⟨bw, 1, none⟩)) ?_
  refine lv (v := (.int .i64 0)) (rLoad 0 rfl rfl (by kernel_rfl) rfl rfl) ?_
  refine lc (.bool true) ?_
  refine liNil (qThen (stTrue rfl (reg ?_)))
  refine lm ?_
  refine lm ?_
  refine lc (.pointer (some ⟨bw, 0, none⟩)) ?_
  refine lc (.pointer (some ⟨bw, 0, none⟩)) ?_
  refine lv (v := (.slice A ((xs).length) (c))) (rLoad 0 rfl rfl (by kernel_rfl) rfl rfl) ?_
  refine lm ?_
  refine li rfl ?_
  refine opK [1] [cOwn 5 1 A ((xs).length) (c) (B8 (xs))] (fun w hM hO => (rsExtend_any A c xs n w hO (by omega) (by omega)).mono ?_)
  rintro e w' ⟨A215, c215, rfl, hP⟩
  refine ⟨_, [cOwn 5 1 A215 ((xs ++ num n).length) (c215) (B8 (xs ++ num n))], _, rfl, hP, rfl, ?_⟩; clear hP hM hO
  refine lc (.pointer (some ⟨bw, 0, none⟩)) ?_
  refine lc (.pointer (some ⟨bw, 0, none⟩)) ?_
  refine li rfl ?_
  refine opStore1 0 rfl rfl (by kernel_rfl) rfl rfl rfl (by kernel_rfl) rfl (by simp) ?_
  refine liNil ?_
  refine stEndN [] rfl trivial (fun w hM => ?_)
  exact ⟨A215, c215, rfl, hM⟩

set_option maxRecDepth 100000 in
set_option maxHeartbeats 1000000 in
theorem rsWCount_any (bw : Nat) (A : Option Addr) (c : Nat) (xs : List UInt8) (n : Nat) (w : World) (hO : Own [cAt bw 138 [(.slice A ((xs).length) (c)), (.int .i64 0)], cOwn 5 1 A ((xs).length) (c) (B8 (xs))] w) (hn : n ≤ 4294967296) (hx : xs.length ≤ 4294960000) :
    Calls Tryz.prog 54 #[(.pointer (some ⟨bw, 0, none⟩)), (.int .i64 ((n : Nat) : Int))] w fun e w' => ∃ (A2 : Option Addr) (c2 : Nat), e = .returned (.tuple #[]) ∧ Back [cAt bw 138 [(.slice A ((xs).length) (c)), (.int .i64 0)], cOwn 5 1 A ((xs).length) (c) (B8 (xs))] w [cAt bw 138 [(.slice A2 ((xs ++ num n).length) (c2)), (.int .i64 0)], cOwn 5 1 A2 ((xs ++ num n).length) (c2) (B8 (xs ++ num n))] w' := by
  refine stEnter (args := [(.pointer (some ⟨bw, 0, none⟩)), (.int .i64 ((n : Nat) : Int))]) (fps [cAt bw 138 [(.slice A ((xs).length) (c)), (.int .i64 0)], cOwn 5 1 A ((xs).length) (c) (B8 (xs))]) Tryz.func54 rfl 18 rfl [(0, (.pointer (some ⟨bw, 0, none⟩))), (1, (.int .i64 ((n : Nat) : Int)))] ⟨rfl, rfl, trivial⟩ [cAt bw 138 [(.slice A ((xs).length) (c)), (.int .i64 0)], cOwn 5 1 A ((xs).length) (c) (B8 (xs))] (hO) ?_
  refine stSeq (stSeq (reg ?_))
  refine lm ?_
  refine lc (.pointer (some ⟨bw, 0, none⟩)) ?_
  refine lc (.pointer (some ⟨bw, 1, none⟩)) ?_
  refine lv (v := (.int .i64 0)) (rLoad 0 rfl rfl (by kernel_rfl) rfl rfl) ?_
  refine lc (.bool false) ?_
  refine liNil (qThen (stFalse rfl (stSkip (qThen (stSeq (stSeq (reg ?_)))))))
  refine lm ?_
  refine lc (.bool (decide (((n : Nat) : Int) < 0))) ?_
  refine liNil (qThen ?_)
  refine stFalseK rfl (by simp) ?_
  refine stSkip (qThen (reg ?_))
  refine lm ?_
  refine lm ?_
  refine lv (v := (.int .u64 ((n : Nat) : Int))) (rIntC _ (fun _ => by kernel_rfl) rfl rfl (wrapU64_id (by omega) (by omega))) ?_
  refine li rfl ?_
  refine opK [0, 1] [cAt bw 138 [(.slice A ((xs).length) (c)), (.int .i64 0)], cOwn 5 1 A ((xs).length) (c) (B8 (xs))] (fun w hM hO => (rsWUint_any bw A c xs n w hO (by omega) (by omega)).mono ?_)
  rintro e w' ⟨A217, c217, rfl, hP⟩
  refine ⟨_, [cAt bw 138 [(.slice A217 ((xs ++ num n).length) (c217)), (.int .i64 0)], cOwn 5 1 A217 ((xs ++ num n).length) (c217) (B8 (xs ++ num n))], _, rfl, hP, rfl, ?_⟩; clear hP hM hO
  refine liNil ?_
  refine stEndN [] rfl trivial (fun w hM => ?_)
  exact ⟨A217, c217, rfl, hM⟩

set_option maxRecDepth 100000 in
set_option maxHeartbeats 1000000 in
theorem rsWText_any (bw : Nat) (A : Option Addr) (c : Nat) (xs : List UInt8) (t : List UInt8) (w : World) (hO : Own [cAt bw 138 [(.slice A ((xs).length) (c)), (.int .i64 0)], cOwn 5 1 A ((xs).length) (c) (B8 (xs))] w) (ht : t.length ≤ 1000) (hx : xs.length ≤ 4294960000) :
    Calls Tryz.prog 55 #[(.pointer (some ⟨bw, 0, none⟩)), (.string (strOf t))] w fun e w' => ∃ (A2 : Option Addr) (c2 : Nat), e = .returned (.tuple #[]) ∧ Back [cAt bw 138 [(.slice A ((xs).length) (c)), (.int .i64 0)], cOwn 5 1 A ((xs).length) (c) (B8 (xs))] w [cAt bw 138 [(.slice A2 ((xs ++ num t.length ++ t).length) (c2)), (.int .i64 0)], cOwn 5 1 A2 ((xs ++ num t.length ++ t).length) (c2) (B8 (xs ++ num t.length ++ t))] w' := by
  refine stEnter (args := [(.pointer (some ⟨bw, 0, none⟩)), (.string (strOf t))]) (fps [cAt bw 138 [(.slice A ((xs).length) (c)), (.int .i64 0)], cOwn 5 1 A ((xs).length) (c) (B8 (xs))]) Tryz.func55 rfl 22 rfl [(0, (.pointer (some ⟨bw, 0, none⟩))), (1, (.string (strOf t)))] ⟨rfl, rfl, trivial⟩ [cAt bw 138 [(.slice A ((xs).length) (c)), (.int .i64 0)], cOwn 5 1 A ((xs).length) (c) (B8 (xs))] (hO) ?_
  refine stSeq (reg ?_)
  refine lm ?_
  refine lc (.pointer (some ⟨bw, 0, none⟩)) ?_
  refine lc (.pointer (some ⟨bw, 1, none⟩)) ?_
  refine lv (v := (.int .i64 0)) (rLoad 0 rfl rfl (by kernel_rfl) rfl rfl) ?_
  refine lc (.bool true) ?_
  refine liNil (qThen (stTrue rfl (reg ?_)))
  refine lm ?_
  refine lm ?_
  refine lc (.pointer (some ⟨bw, 0, none⟩)) ?_
  refine lc (.pointer (some ⟨bw, 0, none⟩)) ?_
  refine lv (v := (.slice A ((xs).length) (c))) (rLoad 0 rfl rfl (by kernel_rfl) rfl rfl) ?_
  refine lm ?_
  refine lv (v := (.int .i64 (((t).length : Nat) : Int))) (rLenS rfl rfl (by kernel_rfl)) ?_
  refine lv (v := (.int .u64 ((t.length : Nat) : Int))) (rIntC _ (fun _ => by kernel_rfl) rfl rfl (wrapU64_id (by omega) (by omega))) ?_
  refine li rfl ?_
  refine opK [1] [cOwn 5 1 A ((xs).length) (c) (B8 (xs))] (fun w hM hO => (rsExtend_any A c xs t.length w hO (by omega) (by omega)).mono ?_)
  rintro e w' ⟨A217, c217, rfl, hP⟩
  refine ⟨_, [cOwn 5 1 A217 ((xs ++ num t.length).length) (c217) (B8 (xs ++ num t.length))], _, rfl, hP, rfl, ?_⟩; clear hP hM hO
  refine lm ?_
  refine li rfl ?_
  refine opAppendStr 1 rfl rfl (by kernel_rfl) (by kernel_rfl) (by kernel_rfl) (by kernel_rfl) rfl rfl rfl (by have := num_length t.length (by omega); rw [List.length_append]; omega) (((xs ++ num t.length) ++ t).length) (by first | exact (List.length_append ..).symm | (simp; done) | (simp; omega)) (B8 ((xs ++ num t.length) ++ t)) (by simp [B8]) (fun A19 c19 => ?_)
  refine lc (.pointer (some ⟨bw, 0, none⟩)) ?_
  refine lc (.pointer (some ⟨bw, 0, none⟩)) ?_
  refine li rfl ?_
  refine opStore1 0 rfl rfl (by kernel_rfl) rfl rfl rfl (by kernel_rfl) rfl (by simp) ?_
  refine liNil ?_
  refine stEndN [] rfl trivial (fun w hM => ?_)
  exact ⟨A19, c19, rfl, hM⟩

set_option maxRecDepth 100000 in
set_option maxHeartbeats 1000000 in
theorem rsWSum_any (bw : Nat) (A : Option Addr) (c : Nat) (xs : List UInt8) (t : List UInt8) (w : World) (hO : Own [cAt bw 138 [(.slice A ((xs).length) (c)), (.int .i64 0)], cOwn 5 1 A ((xs).length) (c) (B8 (xs))] w) (ht : t.length = 32) (hx : xs.length ≤ 4294960000) :
    Calls Tryz.prog 147 #[(.pointer (some ⟨bw, 0, none⟩)), (.string (strOf t))] w fun e w' => ∃ (A2 : Option Addr) (c2 : Nat), e = .returned (.tuple #[]) ∧ Back [cAt bw 138 [(.slice A ((xs).length) (c)), (.int .i64 0)], cOwn 5 1 A ((xs).length) (c) (B8 (xs))] w [cAt bw 138 [(.slice A2 ((xs ++ t).length) (c2)), (.int .i64 0)], cOwn 5 1 A2 ((xs ++ t).length) (c2) (B8 (xs ++ t))] w' := by
  refine stEnter (args := [(.pointer (some ⟨bw, 0, none⟩)), (.string (strOf t))]) (fps [cAt bw 138 [(.slice A ((xs).length) (c)), (.int .i64 0)], cOwn 5 1 A ((xs).length) (c) (B8 (xs))]) Tryz.func147 rfl 24 rfl [(0, (.pointer (some ⟨bw, 0, none⟩))), (1, (.string (strOf t)))] ⟨rfl, rfl, trivial⟩ [cAt bw 138 [(.slice A ((xs).length) (c)), (.int .i64 0)], cOwn 5 1 A ((xs).length) (c) (B8 (xs))] (hO) ?_
  refine stSeq (stSeq (reg ?_))
  refine lm ?_
  refine lc (.pointer (some ⟨bw, 0, none⟩)) ?_
  refine lc (.pointer (some ⟨bw, 1, none⟩)) ?_
  refine lv (v := (.int .i64 0)) (rLoad 0 rfl rfl (by kernel_rfl) rfl rfl) ?_
  refine lc (.bool false) ?_
  refine liNil (qThen (stFalse rfl (stSkip (qThen (stSeq (stSeq (reg ?_)))))))
  refine lm ?_
  refine lv (v := (.int .i64 (((t).length : Nat) : Int))) (rLenS rfl rfl (by kernel_rfl)) ?_
  refine lc (.bool (((((t).length : Nat) : Int) : Int) != 32)) ?_
  refine liNil (qThen ?_)
  refine stFalseK rfl (by simp [ht]) ?_
  refine stSkip (qThen (reg ?_))
  refine lm ?_
  refine lm ?_
  refine lc (.pointer (some ⟨bw, 0, none⟩)) ?_
  refine lc (.pointer (some ⟨bw, 0, none⟩)) ?_
  refine lv (v := (.slice A ((xs).length) (c))) (rLoad 0 rfl rfl (by kernel_rfl) rfl rfl) ?_
  refine lm ?_
  refine li rfl ?_
  refine opAppendStr 1 rfl rfl (by kernel_rfl) (by kernel_rfl) (by kernel_rfl) (by kernel_rfl) rfl rfl rfl (by omega) (((xs) ++ t).length) (by first | exact (List.length_append ..).symm | (simp; done) | (simp; omega)) (B8 ((xs) ++ t)) (by simp [B8]) (fun A21 c21 => ?_)
  refine lc (.pointer (some ⟨bw, 0, none⟩)) ?_
  refine lc (.pointer (some ⟨bw, 0, none⟩)) ?_
  refine li rfl ?_
  refine opStore1 0 rfl rfl (by kernel_rfl) rfl rfl rfl (by kernel_rfl) rfl (by simp) ?_
  refine liNil ?_
  refine stEndN [] rfl trivial (fun w hM => ?_)
  exact ⟨A21, c21, rfl, hM⟩

set_option maxRecDepth 100000 in
set_option maxHeartbeats 1000000 in
theorem rsDone_big (bw : Nat) (A : Option Addr) (c : Nat) (xs : List UInt8) (w : World) (hO : Own [cAt bw 138 [(.slice A ((xs).length) (c)), (.int .i64 0)], cOwn 5 1 A ((xs).length) (c) (B8 (xs))] w) (hb : 1048576 < xs.length) :
    Calls Tryz.prog 56 #[(.pointer (some ⟨bw, 0, none⟩))] w fun e w' => e = .returned (.tuple #[(.slice none 0 0), (.int .i64 2)]) ∧ Back [cAt bw 138 [(.slice A ((xs).length) (c)), (.int .i64 0)], cOwn 5 1 A ((xs).length) (c) (B8 (xs))] w [cAt bw 138 [(.slice A ((xs).length) (c)), (.int .i64 0)], cOwn 5 1 A ((xs).length) (c) (B8 (xs))] w' := by
  refine stEnter (args := [(.pointer (some ⟨bw, 0, none⟩))]) (fps [cAt bw 138 [(.slice A ((xs).length) (c)), (.int .i64 0)], cOwn 5 1 A ((xs).length) (c) (B8 (xs))]) Tryz.func56 rfl 25 rfl [(0, (.pointer (some ⟨bw, 0, none⟩)))] ⟨rfl, trivial⟩ [cAt bw 138 [(.slice A ((xs).length) (c)), (.int .i64 0)], cOwn 5 1 A ((xs).length) (c) (B8 (xs))] (hO) ?_
  refine stSeq (reg ?_)
  refine la ?_
  refine la ?_
  refine liNil (qThen (stSeq (stSeq (reg ?_))))
  refine lm ?_
  refine lc (.pointer (some ⟨bw, 0, none⟩)) ?_
  refine lc (.pointer (some ⟨bw, 1, none⟩)) ?_
  refine lv (v := (.int .i64 0)) (rLoad 0 rfl rfl (by kernel_rfl) rfl rfl) ?_
  refine lc (.bool false) ?_
  refine liNil (qThen (stFalse rfl (stSkip (qThen (stSeq (stSeq (reg ?_)))))))
  refine lm ?_
  refine lc (.pointer (some ⟨bw, 0, none⟩)) ?_
  refine lc (.pointer (some ⟨bw, 0, none⟩)) ?_
  refine lv (v := (.slice A ((xs).length) (c))) (rLoad 0 rfl rfl (by kernel_rfl) rfl rfl) ?_
  refine lc (.int .i64 (((xs).length : Nat) : Int)) ?_
  refine lc (.bool (decide ((((xs).length : Nat) : Int) > 1048576))) ?_
  refine liNil (qThen ?_)
  refine stTrueK rfl (by simp; omega) ?_
  refine stSeq (reg ?_)
  refine la ?_
  refine la ?_
  refine liNil (qThen (stRet (qThenR ?_)))
  refine stEnd [(.slice none 0 0), (.int .i64 2)] rfl ⟨rfl, rfl, trivial⟩ (fun w hM => ?_)
  exact ⟨rfl, hM⟩

set_option maxRecDepth 100000 in
set_option maxHeartbeats 1000000 in
theorem rsDone_ok (bw : Nat) (A : Option Addr) (c : Nat) (xs : List UInt8) (w : World) (hO : Own [cAt bw 138 [(.slice A ((xs).length) (c)), (.int .i64 0)], cOwn 5 1 A ((xs).length) (c) (B8 (xs))] w) (hb : xs.length ≤ 1048576) :
    Calls Tryz.prog 56 #[(.pointer (some ⟨bw, 0, none⟩))] w fun e w' => ∃ (A2 : Option Addr) (c2 : Nat), e = .returned (.tuple #[(.slice A2 (xs.length) (c2)), (.int .i64 0)]) ∧ Back [cAt bw 138 [(.slice A ((xs).length) (c)), (.int .i64 0)], cOwn 5 1 A ((xs).length) (c) (B8 (xs))] w [cAt bw 138 [(.slice A ((xs).length) (c)), (.int .i64 0)], cOwn 5 1 A ((xs).length) (c) (B8 (xs)), cOwn 5 1 A2 (xs.length) (c2) (B8 xs)] w' := by
  refine stEnter (args := [(.pointer (some ⟨bw, 0, none⟩))]) (fps [cAt bw 138 [(.slice A ((xs).length) (c)), (.int .i64 0)], cOwn 5 1 A ((xs).length) (c) (B8 (xs))]) Tryz.func56 rfl 25 rfl [(0, (.pointer (some ⟨bw, 0, none⟩)))] ⟨rfl, trivial⟩ [cAt bw 138 [(.slice A ((xs).length) (c)), (.int .i64 0)], cOwn 5 1 A ((xs).length) (c) (B8 (xs))] (hO) ?_
  refine stSeq (reg ?_)
  refine la ?_
  refine la ?_
  refine liNil (qThen (stSeq (stSeq (reg ?_))))
  refine lm ?_
  refine lc (.pointer (some ⟨bw, 0, none⟩)) ?_
  refine lc (.pointer (some ⟨bw, 1, none⟩)) ?_
  refine lv (v := (.int .i64 0)) (rLoad 0 rfl rfl (by kernel_rfl) rfl rfl) ?_
  refine lc (.bool false) ?_
  refine liNil (qThen (stFalse rfl (stSkip (qThen (stSeq (stSeq (reg ?_)))))))
  refine lm ?_
  refine lc (.pointer (some ⟨bw, 0, none⟩)) ?_
  refine lc (.pointer (some ⟨bw, 0, none⟩)) ?_
  refine lv (v := (.slice A ((xs).length) (c))) (rLoad 0 rfl rfl (by kernel_rfl) rfl rfl) ?_
  refine lc (.int .i64 (((xs).length : Nat) : Int)) ?_
  refine lc (.bool (decide ((((xs).length : Nat) : Int) > 1048576))) ?_
  refine liNil (qThen ?_)
  refine stFalseK rfl (by simp; omega) ?_
  refine stSkip (qThen (stSeq (reg (li rfl ?_))))
  refine opNew (v := fun b => .slice (some ⟨b, 0, none⟩) 0 0) 5 [] rfl (by kernel_rfl) (fun _ => by kernel_rfl) (fun b19 => ?_)
  refine lm ?_
  refine lc (.pointer (some ⟨bw, 0, none⟩)) ?_
  refine lc (.pointer (some ⟨bw, 0, none⟩)) ?_
  refine lv (v := (.slice A ((xs).length) (c))) (rLoad 0 rfl rfl (by kernel_rfl) rfl rfl) ?_
  refine li rfl ?_
  refine opMem (fun w hM => hM.toOwn0 2 rfl 1) ?_
  refine opAppend el_u8 2 (B8 (xs)) rfl rfl (by kernel_rfl) rfl rfl rfl (by simp [B8]) (fun w hM => CellsAt.of_row (rowOwn (i := 1) rfl w hM)) ((B8_one _)) (by omega) ((xs).length) (by first | exact (List.length_append ..).symm | (simp; done) | (simp; omega)) (B8 (xs)) (by simp [B8]) (fun A24 c24 => ?_)
  refine la ?_
  refine la ?_
  refine liNil (qThen (stRet ?_))
  refine stEnd [(.slice A24 ((xs).length) (c24)), (.int .i64 0)] rfl ⟨rfl, rfl, trivial⟩ (fun w hM => ?_)
  exact ⟨A24, c24, rfl, hM⟩

end Go.Proofs.YtlepfnihpdhcaaaGreatDoor
