/- Part 2 of a proof about rangesum: what its row uses. -/
import Derived.Test.YtaiggifiefnjnaaGreatDoorCt01
set_option maxRecDepth 100000
set_option maxHeartbeats 1000000
namespace Go.Proofs.YtaiggifiefnjnaaGreatDoor
open Go.RowKit
theorem uIsNaN_any (x : Nat) (w : World) :
  Calls Tryz.prog 109 #[(.int .u64 ((x : Nat) : Int))] w fun e w' => e = .returned (.bool false) ∧ Back [] w [] w' := by
 refine stEnter (args := [(.int .u64 ((x : Nat) : Int))]) (fps []) Tryz.func109 rfl 6 rfl [(0, (.int .u64 ((x : Nat) : Int)))] ⟨rfl, trivial⟩ [] (Mm.start w []) ?_
 refine stSeq (reg ?_)
 refine la ?_
 refine liNil (qThen (stSeq (reg ?_)))
 refine lm ?_
 refine lm ?_
 refine lv (v := (.bool false)) (rConv (v := .bool ((((x : Nat) : Int) : Int) != ((x : Nat) : Int))) (rClosed fun _ => by kernel_rfl) (by simp)) ?_
 refine la ?_
 refine liNil (qThen (stRet ?_))
 refine stEnd [(.bool false)] rfl ⟨rfl, trivial⟩ (fun w hM => ?_)
 exact ⟨rfl, hM⟩
theorem uLess_any (x : Nat) (y : Nat) (w : World) :
  Calls Tryz.prog 97 #[(.int .u64 ((x : Nat) : Int)), (.int .u64 ((y : Nat) : Int))] w fun e w' => e = .returned (.bool (decide (((x : Nat) : Int) < ((y : Nat) : Int)))) ∧ Back [] w [] w' := by
 refine stEnter (args := [(.int .u64 ((x : Nat) : Int)), (.int .u64 ((y : Nat) : Int))]) (fps []) Tryz.func97 rfl 17 rfl [(0, (.int .u64 ((x : Nat) : Int))), (1, (.int .u64 ((y : Nat) : Int)))] ⟨rfl, rfl, trivial⟩ [] (Mm.start w []) ?_
 refine stSeq (reg ?_)
 refine la ?_
 refine liNil (qThen (stSeq (reg ?_)))
 refine lm ?_
 refine li rfl ?_
 refine opK0 (fun w hM => (uIsNaN_any x w ).mono ?_)
 rintro e w' ⟨rfl, hP⟩
 refine ⟨_, _, rfl, hP, ?_⟩; clear hP hM
 refine lm ?_
 refine lnF ?_
 refine lnF ?_
 refine lnF ?_
 refine lc (.bool false) ?_
 refine lm ?_
 refine lgm ?_
 refine lgm ?_
 refine lgc (.bool (decide (((x : Nat) : Int) < ((y : Nat) : Int)))) ?_
 refine lc (.bool (decide (((x : Nat) : Int) < ((y : Nat) : Int)))) ?_
 refine la ?_
 refine liNil (qThen (stRet ?_))
 refine stEnd [(.bool (decide (((x : Nat) : Int) < ((y : Nat) : Int))))] rfl ⟨rfl, trivial⟩ (fun w hM => ?_)
 exact ⟨rfl, hM⟩
theorem uIns_any (b : Nat) (n : Nat) (c : Nat) (l : List Nat) (rest : List Value) (a : Nat) (zz : Nat) (w : World) (hO : Own [cUs b l rest] w) (hn : l.length = n) (he : zz ≤ n) (ha : a ≤ n) (hs : n ≤ 1000000) :
  Calls Tryz.prog 91 #[(.slice (some ⟨b, 0, none⟩) (n) (c)), (vI a), (vI zz)] w fun e w' => ∃ (l2 : List Nat), e = .returned (.tuple #[]) ∧ Back [cUs b l rest] w [cUs b l2 rest] w' ∧ (l2.Perm l) := by
 have _u0 := hn
 have _u1 := he
 have _u2 := ha
 have _u3 := hs
 clear _u0 _u1 _u2 _u3
 refine stEnter (args := [(.slice (some ⟨b, 0, none⟩) (n) (c)), (vI a), (vI zz)]) (fps [cUs b l rest]) Tryz.func91 rfl 49 rfl [(0, (.slice (some ⟨b, 0, none⟩) (n) (c))), (1, (vI a)), (2, (vI zz))] ⟨rfl, rfl, rfl, trivial⟩ [cUs b l rest] (hO) ?_
 refine stSeq (reg ?_)
 refine lm ?_
 refine lv (v := (vI (a + 1))) (rAdd _ rfl rfl rfl (by omega) (by omega) (by omega)) ?_
 refine la ?_
 refine liNil (qThen (stBlock ?_))
 refine stLoop (ι := Nat × List Nat) (fun (i, l1) => a + 1 ≤ i ∧ i ≤ zz + a + 1 ∧ l1.Perm l) (fun (i, l1) => zz + a + 1 - i) (fun (i, l1) => [(0, (.slice (some ⟨b, 0, none⟩) (n) (c))), (1, (vI a)), (2, (vI zz)), (6, (vI i))]) (fun (i, l1) => [cUs b l1 rest]) (a + 1, l) ⟨by omega, by omega, List.Perm.refl _⟩ ⟨rfl, rfl, rfl, rfl, trivial⟩ (fun _ h => h) ?_
 rintro ⟨i, l1⟩ ⟨h0, h1, hp⟩
 show St _ _ _ [(0, (.slice (some ⟨b, 0, none⟩) (n) (c))), (1, (vI a)), (2, (vI zz)), (6, (vI i))] [cUs b l1 rest] _
 refine stSeq (stSeq (reg ?_))
 refine lm ?_
 refine lm ?_
 refine lc (.bool (decide (((i : Nat) : Int) < ((zz : Nat) : Int)))) ?_
 refine liNil (qThen ?_)
 refine stCond rfl (fun hc12 => ?_) (fun hc12 => ?_)
 ·have hd12 := of_decide_eq_true hc12
  refine stSkip (qThen (stSeq (stBlock (stSeq (reg ?_)))))
  refine lm ?_
  refine la ?_
  refine liNil (qThen (stBlock ?_))
  refine stLoop (ι := Nat × List Nat) (fun (j, l2) => j < zz ∧ a ≤ j ∧ l2.Perm l1) (fun (j, l2) => j) (fun (j, l2) => [(0, (.slice (some ⟨b, 0, none⟩) (n) (c))), (1, (vI a)), (2, (vI zz)), (6, (vI i)), (7, (vI j))]) (fun (j, l2) => [cUs b l2 rest]) (i, l1) ⟨by omega, by omega, List.Perm.refl _⟩ ⟨rfl, rfl, rfl, rfl, rfl, trivial⟩ (fun _ h => h) ?_
  rintro ⟨j, l2⟩ ⟨g0, g1, h2⟩
  have hl2 : l2.length = n := by rw [h2.length_eq, hp.length_eq]; exact hn
  show St _ _ _ [(0, (.slice (some ⟨b, 0, none⟩) (n) (c))), (1, (vI a)), (2, (vI zz)), (6, (vI i)), (7, (vI j))] [cUs b l2 rest] _
  refine stSeq (stSeq ?_)
  refine anyBegin [cUs b l2 rest] 15 (by kernel_rfl) (fun _ h => h) ?_
  refine am 0 ?_
  refine am 1 ?_
  refine ac 2 (.bool (decide (((j : Nat) : Int) > ((a : Nat) : Int)))) ?_
  refine am 3 ?_
  refine Any.dec 19 rfl (fun hc19 => ?_) (fun hc19 => ?_)
  ·have hd19 := of_decide_eq_true hc19
   refine agm 4 ?_
   refine agm 5 ?_
   refine agv 6 (vP b (0 + j)) rfl (rIndexAddr1 (e := 62) rfl (by kernel_rfl) (by kernel_rfl) rfl rfl (by omega)) ?_
   obtain ⟨x0, hx0⟩ : ∃ ξ, (l2)[j]? = some ξ := ⟨_, List.getElem?_eq_getElem (by omega)⟩
   refine agv 7 (.int .u64 ((x0 : Nat) : Int)) rfl (rLoadUs 0 rfl rfl (by kernel_rfl) rfl hx0) ?_
   refine agm 8 ?_
   refine agm 9 ?_
   refine agv 10 (vI (j - 1)) rfl (rSubN rfl rfl rfl (by omega) (by omega)) ?_
   refine agv 11 (vP b (0 + (j - 1))) rfl (rIndexAddr1 (e := 62) rfl (by kernel_rfl) (by kernel_rfl) rfl rfl (by omega)) ?_
   obtain ⟨x1, hx1⟩ : ∃ ξ, (l2)[j - 1]? = some ξ := ⟨_, List.getElem?_eq_getElem (by omega)⟩
   refine agv 12 (.int .u64 ((x1 : Nat) : Int)) rfl (rLoadUs 0 rfl rfl (by kernel_rfl) rfl hx1) ?_
   refine a1g 13 ?_
   refine opK0 (fun w hM => (uLess_any x0 x1 w ).mono ?_)
   rintro e w' ⟨rfl, hP⟩
   refine ⟨_, _, rfl, hP, ?_⟩; clear hP hM
   refine anyNext [cUs b l2 rest] (fun _ h => h) (fun _ h => h) ?_
   refine ac 14 (.bool (decide (((x0 : Nat) : Int) < ((x1 : Nat) : Int)))) ?_
   refine anyDone (by kernel_rfl) ?_
   refine qThen ?_
   refine stCond rfl (fun hc30 => ?_) (fun hc30 => ?_)
   ·have hd30 := of_decide_eq_true hc30
    refine stSkip (qThen (stSeq (stBlock ?_)))
    refine anyBegin [cUs b l2 rest] 15 (by kernel_rfl) (fun _ h => h) ?_
    refine am 0 ?_
    refine am 1 ?_
    refine am 2 ?_
    refine am 3 ?_
    refine avP 4 (vI (j - 1)) rfl (fun _ => rSubN rfl rfl rfl (by omega) (by omega)) ?_
    refine am 5 ?_
    refine am 6 ?_
    refine av 7 (vI (j - 1)) rfl (rSubN rfl rfl rfl (by omega) (by omega)) ?_
    refine av 8 (vP b (0 + (j - 1))) rfl (rIndexAddr1 (e := 62) rfl (by kernel_rfl) (by kernel_rfl) rfl rfl (by omega)) ?_
    refine av 9 (.int .u64 ((x1 : Nat) : Int)) rfl (rLoadUs 0 rfl rfl (by kernel_rfl) rfl hx1) ?_
    refine am 10 ?_
    refine am 11 ?_
    refine av 12 (vP b (0 + j)) rfl (rIndexAddr1 (e := 62) rfl (by kernel_rfl) (by kernel_rfl) rfl rfl (by omega)) ?_
    refine av 13 (.int .u64 ((x0 : Nat) : Int)) rfl (rLoadUs 0 rfl rfl (by kernel_rfl) rfl hx0) ?_
    refine av 14 (vP b (0 + j)) rfl (rIndexAddr1 (e := 62) rfl (by kernel_rfl) (by kernel_rfl) rfl rfl (by omega)) ?_
    refine a1 15 ?_
    refine opStoreUs 0 (l2.set j x1) rfl rfl (by kernel_rfl) rfl rfl (by kernel_rfl) rfl (by omega) (rfl) ?_
    refine anyPhase [cUs b (l2.set j x1) rest] 17 rfl (fun _ h => h) ?_
    refine av 16 (vP b (0 + (j - 1))) rfl (rIndexAddr1 (e := 62) rfl (by kernel_rfl) (by kernel_rfl) rfl rfl (by omega)) ?_
    refine a1 17 ?_
    refine opStoreUs 0 (swp l2 j (j - 1)) rfl rfl (by kernel_rfl) rfl rfl (by kernel_rfl) rfl (by rw [List.length_set]; omega) (swpA hx0 hx1) ?_
    refine St.to [cUs b (swp l2 j (j - 1)) rest] (by kernel_rfl) ?_
    refine anyLast (by kernel_rfl) rfl ?_
    refine qBlock (qThen (reg ?_))
    refine lm ?_
    refine lv (v := (vI (j - 1))) (rSubN rfl rfl rfl (by omega) (by omega)) ?_
    refine la ?_
    refine liNil (qThen ?_)
    exact stAgain (j - 1, swp l2 j (j - 1)) (⟨by omega, by omega, (swp_perm (by omega) (by omega)).trans h2⟩) (by show j - 1 < j; omega) ⟨rfl, rfl, rfl, rfl, rfl, trivial⟩ (fun w hM => hM)
   ·have hd30 := of_decide_eq_false hc30
    refine stExit (qThenX (qThenX (qBlockX (qBlock (qThen (reg ?_))))))
    refine lm ?_
    refine lv (v := (vI (i + 1))) (rAdd _ rfl rfl rfl (by omega) (by omega) (by omega)) ?_
    refine la ?_
    refine liNil (qThen ?_)
    exact stAgain (i + 1, l2) (⟨by omega, by omega, h2.trans hp⟩) (by show zz + a + 1 - (i + 1) < zz + a + 1 - i; omega) ⟨rfl, rfl, rfl, rfl, trivial⟩ (fun w hM => hM)
  ·have hd19 := of_decide_eq_false hc19
   refine anF 4 ?_
   refine anF 5 ?_
   refine anF 6 ?_
   refine anF 7 ?_
   refine anF 8 ?_
   refine anF 9 ?_
   refine anF 10 ?_
   refine anF 11 ?_
   refine anF 12 ?_
   refine anF 13 ?_
   refine ac 14 (.bool false) ?_
   refine anyDone (by kernel_rfl) ?_
   refine qThen (stFalse rfl (stExit (qThenX (qThenX (qBlockX (qBlock (qThen (reg ?_))))))))
   refine lm ?_
   refine lv (v := (vI (i + 1))) (rAdd _ rfl rfl rfl (by omega) (by omega) (by omega)) ?_
   refine la ?_
   refine liNil (qThen ?_)
   exact stAgain (i + 1, l2) (⟨by omega, by omega, h2.trans hp⟩) (by show zz + a + 1 - (i + 1) < zz + a + 1 - i; omega) ⟨rfl, rfl, rfl, rfl, trivial⟩ (fun w hM => hM)
 ·have hd12 := of_decide_eq_false hc12
  refine stExit (qThenX (qThenX (qBlockX ?_)))
  refine stEndN [] rfl trivial (fun w hM => ?_)
  exact ⟨l1, rfl, hM, hp⟩
end Go.Proofs.YtaiggifiefnjnaaGreatDoor
namespace Go.Proofs
open Go.Shelf
def Tryz.lays125_ren : Go.Shelf.Ren := ⟨fun | 125 => 73 | 128 => 89 | 129 => 90 | n => n, fun | 46 => 122 | 3 => 3 | 51 => 117 | 53 => 62 | 4 => 4 | 5 => 5 | 9 => 9 | n => n, fun | n => n⟩
theorem Tryz.lays125 : Go.Proofs.Lays.n125 Tryz.prog Tryz.lays125_ren := {
 mixed := by kernel_rfl
 f125 := Tryz.func73.trans (congrArg some (by kernel_rfl))
 f128 := Tryz.func89.trans (congrArg some (by kernel_rfl))
 f129 := Tryz.func90.trans (congrArg some (by kernel_rfl))
 t3 := Tryz.underlying3
 a3 := Tryz.isAgg3
 z3 := Tryz.sizeOf3
 v3 := Tryz.zeroValue3
 t4 := Tryz.underlying4
 a4 := Tryz.isAgg4
 z4 := Tryz.sizeOf4
 v4 := Tryz.zeroValue4
 t5 := Tryz.underlying5
 a5 := Tryz.isAgg5
 z5 := Tryz.sizeOf5
 v5 := Tryz.zeroValue5
 t9 := Tryz.underlying9
 a9 := Tryz.isAgg9
 z9 := Tryz.sizeOf9
 v9 := Tryz.zeroValue9
 t46 := Tryz.underlying122
 a46 := Tryz.isAgg122
 z46 := Tryz.sizeOf122
 v46 := Tryz.zeroValue122
 t51 := Tryz.underlying117
 a51 := Tryz.isAgg117
 z51 := Tryz.sizeOf117
 v51 := Tryz.zeroValue117
 t53 := Tryz.underlying62
 a53 := Tryz.isAgg62
 z53 := Tryz.sizeOf62
 v53 := Tryz.zeroValue62 }
theorem Tryz.bits_Len (x : Int) (w : World) (h0 : 0 ≤ x) (h1 : x ≤ 18446744073709551615) :
  Calls Tryz.prog 73 #[.int .u64 x] w fun e w' => e = .returned (.int .i64 (Lib.bitLen x.toNat)) ∧ w' = w := Any.bits_Len Tryz.lays125 x w h0 h1
def Tryz.lays190_ren : Go.Shelf.Ren := ⟨fun | 190 => 56 | 125 => 73 | 258 => 72 | 128 => 89 | 129 => 90 | 302 => 80 | 303 => 81 | 304 => 82 | 305 => 83 | 306 => 84 | 307 => 85 | 308 => 86 | 309 => 87 | 310 => 88 | 333 => 100 | 329 => 101 | 330 => 102 | 334 => 103 | 335 => 104 | 336 => 105 | 344 => 110 | n => n, fun | 31 => 49 | 9 => 9 | 3 => 3 | 46 => 122 | 0 => 0 | 51 => 117 | 53 => 62 | 4 => 4 | 183 => 139 | 182 => 138 | 131 => 129 | 5 => 5 | 218 => 153 | 222 => 157 | 228 => 161 | 229 => 162 | n => n, fun | n => n⟩
theorem Tryz.lays190 : Go.Proofs.Lays.n190 Tryz.prog Tryz.lays190_ren := {
 mixed := by kernel_rfl
 f125 := Tryz.func73.trans (congrArg some (by kernel_rfl))
 f128 := Tryz.func89.trans (congrArg some (by kernel_rfl))
 f129 := Tryz.func90.trans (congrArg some (by kernel_rfl))
 f190 := Tryz.func56.trans (congrArg some (by kernel_rfl))
 f258 := Tryz.func72.trans (congrArg some (by kernel_rfl))
 f302 := Tryz.func80.trans (congrArg some (by kernel_rfl))
 f303 := Tryz.func81.trans (congrArg some (by kernel_rfl))
 f304 := Tryz.func82.trans (congrArg some (by kernel_rfl))
 f305 := Tryz.func83.trans (congrArg some (by kernel_rfl))
 f306 := Tryz.func84.trans (congrArg some (by kernel_rfl))
 f307 := Tryz.func85.trans (congrArg some (by kernel_rfl))
 f308 := Tryz.func86.trans (congrArg some (by kernel_rfl))
 f309 := Tryz.func87.trans (congrArg some (by kernel_rfl))
 f310 := Tryz.func88.trans (congrArg some (by kernel_rfl))
 f329 := Tryz.func101.trans (congrArg some (by kernel_rfl))
 f330 := Tryz.func102.trans (congrArg some (by kernel_rfl))
 f333 := Tryz.func100.trans (congrArg some (by kernel_rfl))
 f334 := Tryz.func103.trans (congrArg some (by kernel_rfl))
 f335 := Tryz.func104.trans (congrArg some (by kernel_rfl))
 f336 := Tryz.func105.trans (congrArg some (by kernel_rfl))
 f344 := Tryz.func110.trans (congrArg some (by kernel_rfl))
 t0 := Tryz.underlying0
 a0 := Tryz.isAgg0
 z0 := Tryz.sizeOf0
 v0 := Tryz.zeroValue0
 t3 := Tryz.underlying3
 a3 := Tryz.isAgg3
 z3 := Tryz.sizeOf3
 v3 := Tryz.zeroValue3
 t4 := Tryz.underlying4
 a4 := Tryz.isAgg4
 z4 := Tryz.sizeOf4
 v4 := Tryz.zeroValue4
 t5 := Tryz.underlying5
 a5 := Tryz.isAgg5
 z5 := Tryz.sizeOf5
 v5 := Tryz.zeroValue5
 t9 := Tryz.underlying9
 a9 := Tryz.isAgg9
 z9 := Tryz.sizeOf9
 v9 := Tryz.zeroValue9
 t31 := Tryz.underlying49
 a31 := Tryz.isAgg49
 z31 := Tryz.sizeOf49
 v31 := Tryz.zeroValue49
 t46 := Tryz.underlying122
 a46 := Tryz.isAgg122
 z46 := Tryz.sizeOf122
 v46 := Tryz.zeroValue122
 t51 := Tryz.underlying117
 a51 := Tryz.isAgg117
 z51 := Tryz.sizeOf117
 v51 := Tryz.zeroValue117
 t53 := Tryz.underlying62
 a53 := Tryz.isAgg62
 z53 := Tryz.sizeOf62
 v53 := Tryz.zeroValue62
 t131 := Tryz.underlying129
 a131 := Tryz.isAgg129
 z131 := Tryz.sizeOf129
 v131 := Tryz.zeroValue129
 t182 := Tryz.underlying138
 a182 := Tryz.isAgg138
 z182 := Tryz.sizeOf138
 v182 := Tryz.zeroValue138
 t183 := Tryz.underlying139
 a183 := Tryz.isAgg139
 z183 := Tryz.sizeOf139
 v183 := Tryz.zeroValue139
 t218 := Tryz.underlying153
 a218 := Tryz.isAgg153
 z218 := Tryz.sizeOf153
 v218 := Tryz.zeroValue153
 t222 := Tryz.underlying157
 a222 := Tryz.isAgg157
 z222 := Tryz.sizeOf157
 v222 := Tryz.zeroValue157
 t228 := Tryz.underlying161
 a228 := Tryz.isAgg161
 z228 := Tryz.sizeOf161
 v228 := Tryz.zeroValue161
 t229 := Tryz.underlying162
 a229 := Tryz.isAgg162
 z229 := Tryz.sizeOf162
 v229 := Tryz.zeroValue162 }
open Go.Sort Go.RowKit in
theorem Tryz.slices_Sort_string (blk off cap : Nat) (ss : List (List UInt8)) (w : World) (hH : Holds encStr w blk off ss.toArray) (hblk : blk < w.heap.size) (hsz : ss.length < 4611686018427387904) :
  Calls Tryz.prog 56 #[.slice (some ⟨blk, off, none⟩) ss.length cap] w fun e w' =>
   e = .returned (.tuple #[]) ∧ ∃ n os, w' = grow (putRow encStr (Sort.ahead w n) blk off (ss.mergeSort fun x y => decide (x ≤ y)).toArray) os := Any.slices_Sort_string Tryz.lays190 blk off cap ss w hH hblk hsz
open Go.RowKit Go.Sort in
theorem Tryz.slices_Sort_string_none (p : Option Addr) (cap : Nat) (w : World) :
  Calls Tryz.prog 56 #[.slice p 0 cap] w fun e w' => e = .returned (.tuple #[]) ∧ w' = w := Any.slices_Sort_string_none Tryz.lays190 p cap w
def Tryz.keysA_ren : Go.Shelf.Ren := ⟨fun | 7 => 39 | 10 => 57 | n => n, fun | 23 => 63 | 26 => 9 | 3 => 70 | 28 => 80 | 0 => 0 | 27 => 79 | 33 => 47 | 4 => 4 | n => n, fun | n => n⟩
theorem Tryz.keysA : Go.Proofs.SlLaysZ.n7 Tryz.prog Tryz.keysA_ren := {
 mixed := by kernel_rfl
 f7 := ⟨Tryz.f39.name, by decide, Tryz.func39.trans (congrArg some (by kernel_rfl))⟩
 f10 := ⟨Tryz.f57.name, by decide, Tryz.func57.trans (congrArg some (by kernel_rfl))⟩
 t0 := Tryz.underlying0
 a0 := Tryz.isAgg0
 z0 := Tryz.sizeOf0
 v0 := Tryz.zeroValue0
 t4 := Tryz.underlying4
 a4 := Tryz.isAgg4
 z4 := Tryz.sizeOf4
 v4 := Tryz.zeroValue4
 t23 := Tryz.underlying63
 a23 := Tryz.isAgg63
 z23 := Tryz.sizeOf63
 v23 := Tryz.zeroValue63
 t26 := Tryz.underlying9
 a26 := Tryz.isAgg9
 z26 := Tryz.sizeOf9
 v26 := Tryz.zeroValue9
 t27 := Tryz.underlying79
 a27 := Tryz.isAgg79
 z27 := Tryz.sizeOf79
 v27 := Tryz.zeroValue79
 t28 := Tryz.underlying80
 a28 := Tryz.isAgg80
 z28 := Tryz.sizeOf80
 v28 := Tryz.zeroValue80
 t33 := Tryz.underlying47
 a33 := Tryz.isAgg47
 z33 := Tryz.sizeOf47
 v33 := Tryz.zeroValue47 }
def Tryz.sortedA_ren : Go.Shelf.Ren := ⟨fun | 6 => 38 | 8 => 55 | 9 => 56 | 11 => 71 | 13 => 73 | 12 => 72 | 23 => 89 | 24 => 90 | 14 => 80 | 15 => 81 | 16 => 82 | 17 => 83 | 18 => 84 | 19 => 85 | 20 => 86 | 21 => 87 | 22 => 88 | 25 => 100 | 26 => 101 | 27 => 102 | 28 => 103 | 29 => 104 | 30 => 105 | 31 => 110 | n => n, fun | 26 => 9 | 28 => 80 | 24 => 49 | 0 => 0 | 3 => 3 | 37 => 122 | 48 => 117 | 50 => 62 | 4 => 4 | 40 => 139 | 39 => 138 | 45 => 129 | 5 => 5 | 9 => 9 | 51 => 153 | 55 => 157 | 57 => 161 | 58 => 162 | 33 => 47 | n => n, fun | n => n⟩
theorem Tryz.sortedA : Go.Proofs.SlLaysZ.n6 Tryz.prog Tryz.sortedA_ren := {
 mixed := by kernel_rfl
 f6 := ⟨Tryz.f38.name, by decide, Tryz.func38.trans (congrArg some (by kernel_rfl))⟩
 f8 := ⟨Tryz.f55.name, by decide, Tryz.func55.trans (congrArg some (by kernel_rfl))⟩
 f11 := ⟨Tryz.f71.name, by decide, Tryz.func71.trans (congrArg some (by kernel_rfl))⟩
 t0 := Tryz.underlying0
 a0 := Tryz.isAgg0
 z0 := Tryz.sizeOf0
 v0 := Tryz.zeroValue0
 t24 := Tryz.underlying49
 a24 := Tryz.isAgg49
 z24 := Tryz.sizeOf49
 v24 := Tryz.zeroValue49
 t26 := Tryz.underlying9
 a26 := Tryz.isAgg9
 z26 := Tryz.sizeOf9
 v26 := Tryz.zeroValue9
 t28 := Tryz.underlying80
 a28 := Tryz.isAgg80
 z28 := Tryz.sizeOf80
 v28 := Tryz.zeroValue80
 i26 := by kernel_rfl }
end Go.Proofs
namespace Go.Proofs.YtaiggifiefnjnaaGreatDoor
open Go.RowKit
theorem bitLen_pow : ∀ x : Nat, 1 ≤ x → x < 18446744073709551616 → 2 ^ Lib.bitLen x ≤ 2 * x := by
 intro x
 induction x using Nat.strongRecOn with
 | ind x ih =>
   intro h1 h2
   rw [Lib.bitLen_half x (by omega) h2]
   by_cases h : x = 1
   ·subst h
    decide
   ·have := ih (x / 2) (by omega) (by omega) (by omega)
    rw [Nat.add_comm, Nat.pow_succ]
    omega
theorem bitLen_le : ∀ x : Nat, Lib.bitLen x ≤ 64 := by
 have key : ∀ f x, Lib.bitLenAux f x ≤ f := by
  intro f
  induction f with
  | zero => intro x; exact Nat.le_refl _
  | succ f ih =>
    intro x
    rw [Lib.bitLenAux]
    split
    ·omega
    ·have := ih (x / 2)
     omega
 exact fun x => key 64 x
section
variable {P : Program} {w0 : World} {F : List Nat} {E : Env} {cs : List Ch} {o : Oper}
theorem rShlU {ty u : TypeId} {x y : Operand} {ks : IntKind} {a k : Nat} (ho : o.op = .binOp .shl ty x y u) (hx : evO E x = some (.int .u64 ((a : Nat) : Int))) (hy : evO E y = some (.int ks ((k : Nat) : Int))) (hk : k ≤ 64) : RunV P w0 F cs E o (.int .u64 ((a * 2 ^ k % 18446744073709551616 : Nat) : Int)) := fun w _ => by
 unfold execOp
 simp only [ho, evE_of hx, evE_of hy, Sem.run_bind, run_eqGuard_int, Result.andThen_ok, binOp, shift_shl_any .u64 ks (a : Int) (k : Int) (by omega)]
 rw [Int.toNat_natCast, show min k IntKind.u64.bits = k from Nat.min_eq_left hk, IntKind.wrap_u64]
 simp
theorem rXorU {ty u : TypeId} {x y : Operand} {a b : Nat} (ho : o.op = .binOp .xor ty x y u) (hx : evO E x = some (.int .u64 ((a : Nat) : Int))) (hy : evO E y = some (.int .u64 ((b : Nat) : Int))) (ha : a < 18446744073709551616) (hb : b < 18446744073709551616) : RunV P w0 F cs E o (.int .u64 ((a ^^^ b : Nat) : Int)) := rBits .xor (by simp) _ ho hx hy (u64_xor_nat a b ha hb)
theorem rAndU {ty u : TypeId} {x y : Operand} {a b : Nat} (ho : o.op = .binOp .and ty x y u) (hx : evO E x = some (.int .u64 ((a : Nat) : Int))) (hy : evO E y = some (.int .u64 ((b : Nat) : Int))) (ha : a < 18446744073709551616) (hb : b < 18446744073709551616) : RunV P w0 F cs E o (.int .u64 ((a &&& b : Nat) : Int)) := rBits .and (by simp) _ ho hx hy (u64_and_nat a b ha hb)
theorem rSubU {ty u : TypeId} {x y : Operand} {a b : Nat} (ho : o.op = .binOp .sub ty x y u) (hx : evO E x = some (.int .u64 ((a : Nat) : Int))) (hy : evO E y = some (.int .u64 ((b : Nat) : Int))) (hb : b ≤ a) (ha : a < 18446744073709551616) : RunV P w0 F cs E o (.int .u64 ((a - b : Nat) : Int)) := fun w _ => by
 unfold execOp
 simp only [ho, evE_of hx, evE_of hy, Sem.run_bind, run_eqGuard_int, Result.andThen_ok, binOp, Op.intArith]
 rw [wrapU64_id (by omega) (by omega), show ((a : Int) - (b : Int)) = ((a - b : Nat) : Int) by omega]
 simp
end
theorem xor_lt64 {a b : Nat} (ha : a < 18446744073709551616) (hb : b < 18446744073709551616) : a ^^^ b < 18446744073709551616 := Nat.xor_lt_two_pow (n := 64) ha hb
theorem uLen_any (x : Nat) (w : World) (hx : x < 18446744073709551616) :
  Calls Tryz.prog 73 #[(.int .u64 ((x : Nat) : Int))] w fun e w' => ∃ (k : Nat), e = .returned (vI k) ∧ Back [] w [] w' ∧ (k = Lib.bitLen x) := by
 have h := Tryz.bits_Len ((x : Nat) : Int) w (by omega) (by omega)
 refine h.mono ?_
 rintro e w' ⟨rfl, rfl⟩
 exact ⟨Lib.bitLen x, rfl, Mm.start _ [], rfl⟩
theorem uPow_any (x : Nat) (w : World) (hx : 1 ≤ x) (hx2 : x ≤ 1000000) :
  Calls Tryz.prog 101 #[(vI x)] w fun e w' => ∃ (m : Nat), e = .returned (.int .u64 ((m : Nat) : Int)) ∧ Back [] w [] w' ∧ (1 ≤ m ∧ m ≤ 2 * x) := by
 have _u0 := hx
 have _u1 := hx2
 clear _u0 _u1
 refine stEnter (args := [(vI x)]) (fps []) Tryz.func101 rfl 7 rfl [(0, (vI x))] ⟨rfl, trivial⟩ [] (Mm.start w []) ?_
 refine stSeq (reg ?_)
 refine la ?_
 refine liNil (qThen (stSeq (reg ?_)))
 refine lm ?_
 refine lv (v := (.int .u64 ((x : Nat) : Int))) (rIntC _ (fun _ => by kernel_rfl) rfl rfl (wrapU64_id (by omega) (by omega))) ?_
 refine li rfl ?_
 refine opK0 (fun w hM => (uLen_any x w (by omega)).mono ?_)
 rintro e w' ⟨k5, rfl, hP, heq5⟩
 refine ⟨_, _, rfl, hP, ?_⟩; clear hP hM
 subst heq5; have hb1 := bitLen_le x; have hb2 := bitLen_pow x hx (by omega); have hb3 : 1 ≤ 2 ^ Lib.bitLen x := Nat.one_le_two_pow
 refine lv (v := (.int .u64 (((2 ^ Lib.bitLen x) : Nat) : Int))) (rConv (rShlU (a := 1) rfl rfl rfl hb1) (by rw [Nat.one_mul, Nat.mod_eq_of_lt (by omega)])) ?_
 refine la ?_
 refine liNil (qThen (stRet ?_))
 refine stEnd [(.int .u64 (((2 ^ Lib.bitLen x) : Nat) : Int))] rfl ⟨rfl, trivial⟩ (fun w hM => ?_)
 exact ⟨(2 ^ Lib.bitLen x), rfl, hM, ⟨hb3, hb2⟩⟩
theorem uNext_any (rb : Nat) (x : Nat) (w : World) (hO : Own [cAt rb 153 [(.int .u64 ((x : Nat) : Int))]] w) (hx : x < 18446744073709551616) :
  Calls Tryz.prog 102 #[(vP rb 0)] w fun e w' => ∃ (y : Nat), e = .returned (.int .u64 ((y : Nat) : Int)) ∧ Back [cAt rb 153 [(.int .u64 ((x : Nat) : Int))]] w [cAt rb 153 [(.int .u64 ((y : Nat) : Int))]] w' ∧ (y < 18446744073709551616) := by
 have _u0 := hx
 clear _u0
 obtain ⟨y1, hy1⟩ : ∃ y1, y1 = x ^^^ (x * 2 ^ 13 % 18446744073709551616) := ⟨_, rfl⟩
 have hy1' : y1 < 18446744073709551616 := by rw [hy1]; exact xor_lt64 hx (Nat.mod_lt _ (by decide))
 obtain ⟨y2, hy2⟩ : ∃ y2, y2 = y1 ^^^ (y1 / 2 ^ 7) := ⟨_, rfl⟩
 have hy2' : y2 < 18446744073709551616 := by rw [hy2]; exact xor_lt64 hy1' (Nat.lt_of_le_of_lt (Nat.div_le_self _ _) hy1')
 obtain ⟨y3, hy3⟩ : ∃ y3, y3 = y2 ^^^ (y2 * 2 ^ 17 % 18446744073709551616) := ⟨_, rfl⟩
 have hy3' : y3 < 18446744073709551616 := by rw [hy3]; exact xor_lt64 hy2' (Nat.mod_lt _ (by decide))
 refine stEnter (args := [(vP rb 0)]) (fps [cAt rb 153 [(.int .u64 ((x : Nat) : Int))]]) Tryz.func102 rfl 33 rfl [(0, (vP rb 0))] ⟨rfl, trivial⟩ [cAt rb 153 [(.int .u64 ((x : Nat) : Int))]] (hO) ?_
 refine stSeq (reg ?_)
 refine la ?_
 refine liNil (qThen (stSeq ?_))
 refine anyBegin [cAt rb 153 [(.int .u64 ((x : Nat) : Int))]] 9 (by kernel_rfl) (fun _ h => h) ?_
 refine am 0 ?_
 refine ac 1 (vP rb 0) ?_
 refine av 2 (.int .u64 ((x : Nat) : Int)) rfl (rLoad 0 rfl rfl (by kernel_rfl) rfl rfl) ?_
 refine am 3 ?_
 refine ac 4 (vP rb 0) ?_
 refine av 5 (.int .u64 ((x : Nat) : Int)) rfl (rLoad 0 rfl rfl (by kernel_rfl) rfl rfl) ?_
 refine av 6 (.int .u64 (((x * 2 ^ 13 % 18446744073709551616) : Nat) : Int)) rfl (rShlU (k := 13) rfl rfl rfl (by omega)) ?_
 refine av 7 (.int .u64 ((y1 : Nat) : Int)) rfl (rConv (rXorU rfl rfl rfl hx (Nat.mod_lt _ (by decide))) (by rw [hy1])) ?_
 refine ac 8 (vP rb 0) ?_
 refine a1 9 ?_
 refine opStore1 0 rfl rfl (by kernel_rfl) rfl rfl rfl (by kernel_rfl) rfl (by simp) ?_
 refine anyLast (by kernel_rfl) rfl ?_
 refine qThen (stSeq ?_)
 refine anyBegin [cAt rb 153 [(.int .u64 ((y1 : Nat) : Int))]] 9 (by kernel_rfl) (fun _ h => h) ?_
 refine am 0 ?_
 refine ac 1 (vP rb 0) ?_
 refine av 2 (.int .u64 ((y1 : Nat) : Int)) rfl (rLoad 0 rfl rfl (by kernel_rfl) rfl rfl) ?_
 refine am 3 ?_
 refine ac 4 (vP rb 0) ?_
 refine av 5 (.int .u64 ((y1 : Nat) : Int)) rfl (rLoad 0 rfl rfl (by kernel_rfl) rfl rfl) ?_
 refine av 6 (.int .u64 (((y1 / 2 ^ 7) : Nat) : Int)) rfl (rShrC (k := 7) rfl rfl rfl) ?_
 refine av 7 (.int .u64 ((y2 : Nat) : Int)) rfl (rConv (rXorU rfl rfl rfl hy1' (Nat.lt_of_le_of_lt (Nat.div_le_self _ _) hy1')) (by rw [hy2])) ?_
 refine ac 8 (vP rb 0) ?_
 refine a1 9 ?_
 refine opStore1 0 rfl rfl (by kernel_rfl) rfl rfl rfl (by kernel_rfl) rfl (by simp) ?_
 refine anyLast (by kernel_rfl) rfl ?_
 refine qThen (stSeq ?_)
 refine St.to [cAt rb 153 [(.int .u64 ((y2 : Nat) : Int))]] (by kernel_rfl) ?_
 refine anyBegin [cAt rb 153 [(.int .u64 ((y2 : Nat) : Int))]] 9 (by kernel_rfl) (fun _ h => h) ?_
 refine am 0 ?_
 refine ac 1 (vP rb 0) ?_
 refine av 2 (.int .u64 ((y2 : Nat) : Int)) rfl (rLoad 0 rfl rfl (by kernel_rfl) rfl rfl) ?_
 refine am 3 ?_
 refine ac 4 (vP rb 0) ?_
 refine av 5 (.int .u64 ((y2 : Nat) : Int)) rfl (rLoad 0 rfl rfl (by kernel_rfl) rfl rfl) ?_
 refine av 6 (.int .u64 (((y2 * 2 ^ 17 % 18446744073709551616) : Nat) : Int)) rfl (rShlU (k := 17) rfl rfl rfl (by omega)) ?_
 refine av 7 (.int .u64 ((y3 : Nat) : Int)) rfl (rConv (rXorU rfl rfl rfl hy2' (Nat.mod_lt _ (by decide))) (by rw [hy3])) ?_
 refine ac 8 (vP rb 0) ?_
 refine a1 9 ?_
 refine opStore1 0 rfl rfl (by kernel_rfl) rfl rfl rfl (by kernel_rfl) rfl (by simp) ?_
 refine anyLast (by kernel_rfl) rfl ?_
 refine qThen (stSeq (reg ?_))
 refine lm ?_
 refine lc (vP rb 0) ?_
 refine lv (v := (.int .u64 ((y3 : Nat) : Int))) (rLoad 0 rfl rfl (by kernel_rfl) rfl rfl) ?_
 refine la ?_
 refine liNil (qThen (stRet ?_))
 refine stEnd [(.int .u64 ((y3 : Nat) : Int))] rfl ⟨rfl, trivial⟩ (fun w hM => ?_)
 exact ⟨y3, rfl, hM, hy3'⟩
theorem uBrk_any (b : Nat) (n : Nat) (c : Nat) (l : List Nat) (rest : List Value) (a : Nat) (zz : Nat) (w : World) (hO : Own [cUs b l rest] w) (hn : l.length = n) (ha : a < zz) (he : zz ≤ n) (hs : n ≤ 1000000) :
  Calls Tryz.prog 93 #[(.slice (some ⟨b, 0, none⟩) (n) (c)), (vI a), (vI zz)] w fun e w' => ∃ (l2 : List Nat), e = .returned (.tuple #[]) ∧ Back [cUs b l rest] w [cUs b l2 rest] w' ∧ (l2.Perm l) := by
 have _u0 := hn
 have _u1 := ha
 have _u2 := he
 have _u3 := hs
 clear _u0 _u1 _u2 _u3
 refine stEnter (args := [(.slice (some ⟨b, 0, none⟩) (n) (c)), (vI a), (vI zz)]) (fps [cUs b l rest]) Tryz.func93 rfl 65 rfl [(0, (.slice (some ⟨b, 0, none⟩) (n) (c))), (1, (vI a)), (2, (vI zz))] ⟨rfl, rfl, rfl, trivial⟩ [cUs b l rest] (hO) ?_
 refine stSeq (reg ?_)
 refine lm ?_
 refine lm ?_
 refine lv (v := (vI (zz - a))) (rSubN rfl rfl rfl (by omega) (by omega)) ?_
 refine la ?_
 refine liNil (qThen (stSeq (reg ?_)))
 refine lm ?_
 refine lc (.bool (decide ((((zz - a) : Nat) : Int) ≥ 8))) ?_
 refine liNil (qThen ?_)
 refine stCond rfl (fun hc15 => ?_) (fun hc15 => ?_)
 ·have hd15 := of_decide_eq_true hc15
  refine stSeq (reg ?_)
  refine lm ?_
  refine lv (v := (.int .u64 (((zz - a) : Nat) : Int))) (rIntC _ (fun _ => by kernel_rfl) rfl rfl (wrapU64_id (by omega) (by omega))) ?_
  refine li rfl ?_
  refine opAlloc [(.int .u64 0)] rfl rfl (by kernel_rfl) (by kernel_rfl) (fun b7 => ?_)
  refine li rfl ?_
  refine opStore1 1 rfl rfl (by kernel_rfl) rfl rfl rfl (by kernel_rfl) rfl (by simp) ?_
  refine liNil (qThen (stSeq (reg ?_)))
  refine lm ?_
  refine li rfl ?_
  refine opK0 (fun w hM => (uPow_any (zz - a) w (by omega) (by omega)).mono ?_)
  rintro e w' ⟨m19, rfl, hP, heq19⟩
  refine ⟨_, _, rfl, hP, ?_⟩; clear hP hM
  refine la ?_
  refine liNil (qThen (stSeq (reg ?_)))
  refine lm ?_
  refine lm ?_
  refine lv (v := (vI ((zz - a) / 4))) (rQuoN rfl rfl rfl (by omega) (by omega)) ?_
  refine lv (v := (vI (((zz - a) / 4) * 2))) (rMul _ rfl rfl rfl (by omega) (by omega) (by omega)) ?_
  refine lv (v := (vI (a + ((zz - a) / 4) * 2))) (rAdd _ rfl rfl rfl (by omega) (by omega) (by omega)) ?_
  refine lv (v := (vI ((a + ((zz - a) / 4) * 2) - 1))) (rSubN rfl rfl rfl (by omega) (by omega)) ?_
  refine la ?_
  refine liNil (qThen (stBlock ?_))
  refine stLoop (ι := Nat × Nat × List Nat) (fun (i, x, l1) => a + (zz - a) / 4 * 2 - 1 ≤ i ∧ i ≤ a + (zz - a) / 4 * 2 + 2 ∧ x < 18446744073709551616 ∧ l1.Perm l) (fun (i, x, l1) => a + (zz - a) / 4 * 2 + 2 - i) (fun (i, x, l1) => [(0, (.slice (some ⟨b, 0, none⟩) (n) (c))), (1, (vI a)), (6, (vI (zz - a))), (7, (vP b7 0)), (8, (.int .u64 ((m19 : Nat) : Int))), (9, (vI i))]) (fun (i, x, l1) => [cUs b l1 rest, cAt b7 153 [(.int .u64 ((x : Nat) : Int))]]) (a + (zz - a) / 4 * 2 - 1, zz - a, l) ⟨by omega, by omega, by omega, List.Perm.refl _⟩ ⟨rfl, rfl, rfl, rfl, rfl, rfl, trivial⟩ (fun _ h => h) ?_
  rintro ⟨i, x, l1⟩ ⟨h0, h1, hx, hp⟩
  have hl1 : l1.length = n := by rw [hp.length_eq]; exact hn
  show St _ _ _ [(0, (.slice (some ⟨b, 0, none⟩) (n) (c))), (1, (vI a)), (6, (vI (zz - a))), (7, (vP b7 0)), (8, (.int .u64 ((m19 : Nat) : Int))), (9, (vI i))] [cUs b l1 rest, cAt b7 153 [(.int .u64 ((x : Nat) : Int))]] _
  refine stSeq (stSeq (reg ?_))
  refine lm ?_
  refine lm ?_
  refine lm ?_
  refine lv (v := (vI ((zz - a) / 4))) (rQuoN rfl rfl rfl (by omega) (by omega)) ?_
  refine lv (v := (vI (((zz - a) / 4) * 2))) (rMul _ rfl rfl rfl (by omega) (by omega) (by omega)) ?_
  refine lv (v := (vI (a + ((zz - a) / 4) * 2))) (rAdd _ rfl rfl rfl (by omega) (by omega) (by omega)) ?_
  refine lv (v := (vI (a + ((zz - a) / 4) * 2 + 1))) (rAdd _ rfl rfl rfl (by omega) (by omega) (by omega)) ?_
  refine lc (.bool (decide (((i : Nat) : Int) ≤ ((a + ((zz - a) / 4) * 2 + 1 : Nat) : Int)))) ?_
  refine liNil (qThen ?_)
  refine stCond rfl (fun hc33 => ?_) (fun hc33 => ?_)
  ·have hd33 := of_decide_eq_true hc33
   refine stSkip (qThen (stSeq (stBlock (stSeq (reg (li rfl ?_))))))
   refine opK [1] [cAt b7 153 [(.int .u64 ((x : Nat) : Int))]] (fun w hM hO => (uNext_any b7 x w hO (by omega)).mono ?_)
   rintro e w' ⟨y36, rfl, hP, hlt36⟩
   refine ⟨_, [cAt b7 153 [(.int .u64 ((y36 : Nat) : Int))]], _, rfl, hP, rfl, ?_⟩; clear hP hM hO
   refine lm ?_
   refine lv (v := (.int .u64 (((m19 - 1) : Nat) : Int))) (rSubU (b := 1) rfl rfl rfl (by omega) (by omega)) ?_
   refine lv (v := (.int .u64 (((y36 &&& (m19 - 1)) : Nat) : Int))) (rAndU rfl rfl rfl hlt36 (by omega)) ?_
   have hand : y36 &&& (m19 - 1) ≤ m19 - 1 := Nat.and_le_right
   refine lv (v := (vI (y36 &&& (m19 - 1)))) (rIntC _ (fun _ => by kernel_rfl) rfl rfl (wrap64_id (by omega) (by omega))) ?_
   generalize y36 &&& (m19 - 1) = ot at hand ⊢
   refine la ?_
   refine liNil (qThen ?_)
   refine stCut (ι := Nat) (fun u => u < zz - a) (fun u => [(0, (.slice (some ⟨b, 0, none⟩) (n) (c))), (1, (vI a)), (6, (vI (zz - a))), (7, (vP b7 0)), (8, (.int .u64 ((m19 : Nat) : Int))), (9, (vI i)), (10, (vI u))]) (fun u => [cUs b l1 rest, cAt b7 153 [(.int .u64 ((y36 : Nat) : Int))]]) ?_ ?_
   ·refine stSeq (reg ?_)
    refine lm ?_
    refine lm ?_
    refine lc (.bool (decide (((ot : Nat) : Int) ≥ (((zz - a) : Nat) : Int)))) ?_
    refine liNil (qThen ?_)
    refine stCond rfl (fun hc43 => ?_) (fun hc43 => ?_)
    ·have hd43 := of_decide_eq_true hc43
     refine reg ?_
     refine lm ?_
     refine lm ?_
     refine lv (v := (vI (ot - (zz - a)))) (rSubN rfl rfl rfl (by omega) (by omega)) ?_
     refine la ?_
     refine liNil (qThen ?_)
     exact stMeet (ot - (zz - a)) (by show _ < _; omega) ⟨rfl, rfl, rfl, rfl, rfl, rfl, rfl, trivial⟩ (fun w hM => hM)
    ·have hd43 := of_decide_eq_false hc43
     refine stSkip (qThen ?_)
     exact stMeet ot (by show _ < _; omega) ⟨rfl, rfl, rfl, rfl, rfl, rfl, rfl, trivial⟩ (fun w hM => hM)
   ·rintro u hu
    show St _ _ _ [(0, (.slice (some ⟨b, 0, none⟩) (n) (c))), (1, (vI a)), (6, (vI (zz - a))), (7, (vP b7 0)), (8, (.int .u64 ((m19 : Nat) : Int))), (9, (vI i)), (10, (vI u))] [cUs b l1 rest, cAt b7 153 [(.int .u64 ((y36 : Nat) : Int))]] _
    refine anyBegin [cUs b l1 rest, cAt b7 153 [(.int .u64 ((y36 : Nat) : Int))]] 17 (by kernel_rfl) (fun _ h => h) ?_
    refine am 0 ?_
    refine am 1 ?_
    refine am 2 ?_
    refine am 3 ?_
    refine am 4 ?_
    refine avP 5 (vI (a + u)) rfl (fun _ => rAdd _ rfl rfl rfl (by omega) (by omega) (by omega)) ?_
    refine am 6 ?_
    refine am 7 ?_
    refine am 8 ?_
    refine av 9 (vI (a + u)) rfl (rAdd _ rfl rfl rfl (by omega) (by omega) (by omega)) ?_
    refine av 10 (vP b (0 + (a + u))) rfl (rIndexAddr1 (e := 62) rfl (by kernel_rfl) (by kernel_rfl) rfl rfl (by omega)) ?_
    obtain ⟨x0, hx0⟩ : ∃ ξ, (l1)[a + u]? = some ξ := ⟨_, List.getElem?_eq_getElem (by omega)⟩
    refine av 11 (.int .u64 ((x0 : Nat) : Int)) rfl (rLoadUs 0 rfl rfl (by kernel_rfl) rfl hx0) ?_
    refine am 12 ?_
    refine am 13 ?_
    refine av 14 (vP b (0 + i)) rfl (rIndexAddr1 (e := 62) rfl (by kernel_rfl) (by kernel_rfl) rfl rfl (by omega)) ?_
    obtain ⟨x1, hx1⟩ : ∃ ξ, (l1)[i]? = some ξ := ⟨_, List.getElem?_eq_getElem (by omega)⟩
    refine av 15 (.int .u64 ((x1 : Nat) : Int)) rfl (rLoadUs 0 rfl rfl (by kernel_rfl) rfl hx1) ?_
    refine av 16 (vP b (0 + i)) rfl (rIndexAddr1 (e := 62) rfl (by kernel_rfl) (by kernel_rfl) rfl rfl (by omega)) ?_
    refine a1 17 ?_
    refine opStoreUs 0 (l1.set i x0) rfl rfl (by kernel_rfl) rfl rfl (by kernel_rfl) rfl (by omega) (rfl) ?_
    refine anyPhase [cUs b (l1.set i x0) rest, cAt b7 153 [(.int .u64 ((y36 : Nat) : Int))]] 19 rfl (fun _ h => h) ?_
    refine av 18 (vP b (0 + (a + u))) rfl (rIndexAddr1 (e := 62) rfl (by kernel_rfl) (by kernel_rfl) rfl rfl (by omega)) ?_
    refine a1 19 ?_
    refine opStoreUs 0 (swp l1 i (a + u)) rfl rfl (by kernel_rfl) rfl rfl (by kernel_rfl) rfl (by rw [List.length_set]; omega) (swpA hx1 hx0) ?_
    refine anyLast (by kernel_rfl) rfl ?_
    refine qBlock (qThen ?_)
    refine St.to [cUs b (swp l1 i (a + u)) rest, cAt b7 153 [(.int .u64 ((y36 : Nat) : Int))]] (by kernel_rfl) ?_
    refine reg ?_
    refine lm ?_
    refine lv (v := (vI (i + 1))) (rAdd _ rfl rfl rfl (by omega) (by omega) (by omega)) ?_
    refine la ?_
    refine liNil (qThen ?_)
    exact stAgain (i + 1, y36, swp l1 i (a + u)) (⟨by omega, by omega, hlt36, (swp_perm (by omega) (by omega)).trans hp⟩) (by show _ - _ < _ - _; omega) ⟨rfl, rfl, rfl, rfl, rfl, rfl, trivial⟩ (fun w hM => hM)
  ·have hd33 := of_decide_eq_false hc33
   refine stExit (qThenX (qThenX (qBlockX ?_)))
   refine stEndN [] rfl trivial (fun w hM => ?_)
   exact ⟨l1, rfl, (hM.pick [0] rfl rfl), hp⟩
 ·have hd15 := of_decide_eq_false hc15
  refine stSkip ?_
  refine stEndN [] rfl trivial (fun w hM => ?_)
  exact ⟨l, rfl, hM, List.Perm.refl _⟩
end Go.Proofs.YtaiggifiefnjnaaGreatDoor
namespace Go.Proofs.YtaiggifiefnjnaaGreatDoor
open Go.RowKit
section
variable {P : Program} {Q : Exit → Act → World → Prop} {n : Nat} {w0 : World} {F : List Nat} {E : Env} {cs : List Ch} {K : Act → World → Prop} {o : Oper}
theorem rShrV {ty u : TypeId} {x y : Operand} {kd ks : IntKind} {a k : Nat} (ho : o.op = .binOp .shr ty x y u) (hx : evO E x = some (.int kd (a : Int))) (hy : evO E y = some (.int ks (k : Int))) (hb : k ≤ kd.bits) : RunV P w0 F cs E o (.int kd ((a / 2 ^ k : Nat) : Int)) := fun w _ => by
 unfold execOp
 have e : (a : Int).fdiv (2 ^ k) = ((a / 2 ^ k : Nat) : Int) := by
  rw [Int.fdiv_eq_ediv_of_nonneg _ (Int.pow_nonneg (by decide)), Int.natCast_ediv, Int.natCast_pow]
  rfl
 have h8 : (((k : Nat) : Int).toNat) = k := Int.toNat_natCast k
 simp only [ho, evE_of hx, evE_of hy, Sem.run_bind, run_eqGuard_int, Result.andThen_ok, binOp, Op.shift]
 rw [if_neg (by omega), h8, Nat.min_eq_left hb]
 simp only [Sem.run_pure, Result.andThen_ok, e]
theorem rOrU {ty u : TypeId} {x y : Operand} {a b : Nat} (ho : o.op = .binOp .or ty x y u) (hx : evO E x = some (.int .u64 ((a : Nat) : Int))) (hy : evO E y = some (.int .u64 ((b : Nat) : Int))) (ha : a < 18446744073709551616) (hb : b < 18446744073709551616) : RunV P w0 F cs E o (.int .u64 ((a ||| b : Nat) : Int)) := rBits .or (by simp) _ ho hx hy (u64_or_nat a b ha hb)
theorem rStrHi {ty : TypeId} {x h : Operand} {kd : IntKind} {k : Nat} {l : List UInt8} (ho : o.op = .slice ty x none (some h) none) (hu : P.underlying ty = some .string) (hx : evO E x = some (vS l)) (hh : evO E h = some (.int kd (k : Int))) (hk : k ≤ l.length) : RunV P w0 F cs E o (vS (l.take k)) := fun w _ => by
 unfold execOp
 simp only [ho, evE_of hx, Option.map_some, Option.map_none, evE_of hh, Instr.sliceAt, Instr.slice, Instr.sliceBounds, Sem.run_bind, Sem.run_pure, Result.andThen_ok, run_underlying hu, strOf_sz]
 have hb : ∀ (code : BoundsCode) (w : World), (Instr.sliceBound (.int kd (k : Int)) l.length code).run P w = .ok k w := fun code w => run_bound code hk w
 have hx : (strOf l).extract 0 k = strOf (l.take k) := by
  apply ByteArray.ext
  simp [strOf, ByteArray.data_extract]
 simp [hb, hx]
theorem opStoreB8 {ty t : TypeId} {x y : Operand} {b j : Nat} {v : UInt8} {l : List UInt8} (i : Nat) (l' : List Value) (ho : o.op = .store ty x y) (hd : o.dst = none) (hk : opOk n E o = true) (hx : evO E x = some (vP b (0 + j))) (hy : evO E y = some (.int .u8 ((v.toNat : Nat) : Int))) (hsz : sizeT P ty = some 1) (hi : cs[i]? = some (cAt b t (B8 l))) (hj : j < l.length) (hl : B8 (l.set j v) = l')
  (h : St n w0 F E (cs.set i (cAt b t l')) K) : OpW P Q n w0 F E cs o K := by
 refine opStore1 i ho hd hk hx hy rfl hsz hi (by rw [B8_length]; omega) ?_
 have e : (B8 l).set (0 + j) (.int .u8 ((v.toNat : Nat) : Int)) = l' := by
  rw [Nat.zero_add, ← hl]
  unfold B8
  rw [List.map_set]
 rw [e]
 exact h
end
theorem row_far {S : List Nat} {w : World} {A : Option Addr} {bs : List UInt8} (h : Ro S w (fun w => RowIn w A (B8 bs))) (h0 : 0 < bs.length) {g o : Nat} (hA : A = some ⟨g, o, none⟩) : g ∉ S := fun hg => by
 have hf : Fr S w { w with heap := w.heap.setIfInBounds g (.map #[] 0) } := ⟨rfl, rfl, rfl, by simp, fun k _ hn => by simp only; rw [Array.getElem?_setIfInBounds_ne (by intro e; subst e; exact hn hg)]⟩
 obtain ⟨b', o', hA', hlt, hc⟩ := h _ hf 0 _ (B8_get bs 0 _ (List.getElem?_eq_getElem h0))
 rw [hA] at hA'
 injection hA' with hA'
 injection hA' with e1 e2
 subst e1
 simp only [World.cell?] at hc
 rw [Array.getElem?_setIfInBounds_self_of_lt (by simpa using hlt)] at hc
 simp at hc
theorem vars_far {S : List Nat} {w : World} (h : Ro S w Vars) : 0 ∉ S ∧ 1 ∉ S := by
 have key : ∀ g, g < 2 → g ∉ S := fun g hg2 hg => by
  have hf : Fr S w { w with heap := w.heap.setIfInBounds g (.map #[] 0) } := ⟨rfl, rfl, rfl, by simp, fun k _ hn => by simp only; rw [Array.getElem?_setIfInBounds_ne (by intro e; subst e; exact hn hg)]⟩
  have hv := h _ hf
  have hlt := hv.lt
  have hlt' : g < w.heap.size := by simp at hlt; omega
  have e : (w.heap.setIfInBounds g (.map #[] 0))[g]? = some (.map #[] 0) := by rw [Array.getElem?_setIfInBounds_self_of_lt hlt']
  rcases Nat.lt_or_ge g 1 with h1 | h1
  ·obtain rfl : g = 0 := by omega
   have := hv.init 0 _ rfl
   simp [World.cell?, e] at this
  ·obtain rfl : g = 1 := by omega
   have := hv.cons 0 _ rfl
   simp [World.cell?, e] at this
 exact ⟨key 0 (by omega), key 1 (by omega)⟩
theorem cShaNew_any (w : World) (r0 : Rf [] w (Vars)) :
  Calls Tryz.prog 49 #[] w fun e w' => ∃ (b : Nat), e = .returned (vP b 0) ∧ Back [] w [cSha b []] w' := by
 refine (shaNew_any w r0.here).mono ?_
 rintro e w' ⟨rfl, hf, hs⟩
 exact ⟨w.heap.size, rfl, (Mm.start w []).push (c := cSha w.heap.size []) hf hs (by simp [cSha]) (by simp [cSha])⟩
theorem cShaWr_any (b : Nat) (xs : List UInt8) (A : Option Addr) (c : Nat) (bs : List UInt8) (w : World) (hO : Own [cSha b xs] w) (r0 : Rf [cSha b xs] w (Vars)) (r1 : Rf [cSha b xs] w (fun w => RowIn w A (B8 bs))) (hcap : bs.length ≤ c) (hlen : xs.length + bs.length ≤ 549755813888) :
  Calls Tryz.prog 50 #[(vP b 0), (vL A bs c)] w fun e w' => e = .returned (.tuple #[]) ∧ Back [cSha b xs] w [cSha b (xs ++ bs)] w' := by
 have hv : Vars w := r0.here
 have hs : ShaAt w b xs := hO.at (i := 0) rfl
 have hrow : RowIn w A (B8 bs) := r1.here
 have h2 : 2 ≤ b := by
  rcases Nat.lt_or_ge b 2 with h | h
  ·exfalso
   have := vars_far r0
   simp [cSha] at this
   omega
  ·exact h
 refine (shaWrite_far b xs bs A c w hv h2 hs hrow hcap (fun h0 g o hA => ?_) (by omega)).mono ?_
 ·have := row_far r1 h0 hA
  simpa [cSha] using this
 ·rintro e w' ⟨rfl, hf, hs'⟩
  exact ⟨rfl, hO.swap 0 rfl (c' := cSha b (xs ++ bs)) hf hs' (fun k hk => .inl hk) (by simp [cSha])⟩
theorem cShaSum_any (b : Nat) (xs : List UInt8) (w : World) (hO : Own [cSha b xs] w) (r0 : Rf [cSha b xs] w (Vars)) (hlen : xs.length ≤ 549755813888) :
  Calls Tryz.prog 51 #[(vP b 0)] w fun e w' => e = .returned (vS (sha xs)) ∧ Back [cSha b xs] w [cSha b xs] w' := by
 have hs : ShaAt w b xs := hO.at (i := 0) rfl
 refine (shaSum_any b xs w r0.here hs hlen).mono ?_
 rintro e w' ⟨rfl, hf⟩
 exact ⟨rfl, hO.fr0 hf⟩
theorem cJoin_any (A : Option Addr) (c : Nat) (l : List (List UInt8)) (w : World) (r0 : Rf [] w (Vars)) (r1 : Rf [] w (fun w => RowIn w A (SS l))) (hj : l.flatten.length ≤ 549755813888) (hn : l.length ≤ 1000) :
  Calls Tryz.prog 79 #[(vL A l c)] w fun e w' => e = .returned (vS (sha l.flatten)) ∧ Back [] w [] w' := (shaJoin_any A c l w r0.here r1.here hj hn).mono fun _ _ ⟨he, hf⟩ => ⟨he, Mm.of_fr hf⟩
theorem cSum_any (A : Option Addr) (c : Nat) (bs : List UInt8) (w : World) (r0 : Rf [] w (Vars)) (r1 : Rf [] w (fun w => RowIn w A (B8 bs))) (hcap : bs.length ≤ c) (hlen : bs.length ≤ 549755813888) :
  Calls Tryz.prog 32 #[(vL A bs c)] w fun e w' => e = .returned (vS (sha bs)) ∧ Back [] w [] w' := by
 have _u0 := r0
 have _u1 := r1
 have _u2 := hcap
 have _u3 := hlen
 clear _u0 _u1 _u2 _u3
 refine stEnter (args := [(vL A bs c)]) (fps []) Tryz.func32 rfl 10 rfl [(0, (vL A bs c))] ⟨rfl, trivial⟩ [] (Mm.start w []) ?_
 refine stSeq (reg ?_)
 refine la ?_
 refine liNil (qThen (stSeq (reg (li rfl ?_))))
 refine opK0 (fun w hM => (cShaNew_any  w (r0.go0 hM)).mono ?_)
 rintro e w' ⟨b4, rfl, hP⟩
 refine ⟨_, _, rfl, hP, ?_⟩; clear hP hM
 refine la ?_
 refine liNil (qThen (stSeq (reg ?_)))
 refine lm ?_
 refine lm ?_
 refine li rfl ?_
 refine opK [0] [cSha b4 []] (fun w hM hO => (cShaWr_any b4 [] A c bs w hO (r0.goS hM [0]) (r1.goS hM [0]) (by omega) (by simp; omega)).mono ?_)
 rintro e w' ⟨rfl, hP⟩
 refine ⟨_, [cSha b4 ([] ++ bs)], _, rfl, hP, rfl, ?_⟩; clear hP hM hO
 refine liNil (qThen (stSeq (reg ?_)))
 refine lm ?_
 refine li rfl ?_
 refine opK [0] [cSha b4 ([] ++ bs)] (fun w hM hO => (cShaSum_any b4 ([] ++ bs) w hO (r0.goS hM [0]) (by simp; omega)).mono ?_)
 rintro e w' ⟨rfl, hP⟩
 refine ⟨_, [cSha b4 ([] ++ bs)], _, rfl, hP, rfl, ?_⟩; clear hP hM hO
 refine la ?_
 refine liNil (qThen (stRet ?_))
 refine stEnd [(vS (sha ([] ++ bs)))] rfl ⟨rfl, trivial⟩ (fun w hM => ?_)
 -- ret: (vS (sha bs)) / [(vS (sha ([] ++ bs)))]
 exact ⟨rfl, (hM.pick [] rfl rfl)⟩
theorem cNum_any (n : Nat) (size : Nat) (w : World) (hn : n < 18446744073709551616) (hs : size ≤ 8) :
  Calls Tryz.prog 69 #[(.int .u64 ((n : Nat) : Int)), (vI size)] w fun e w' => ∃ (b : Nat), e = .returned (.slice (some ⟨b, 0, none⟩) (size) (size)) ∧ Back [] w [cAt b 5 (B8 (numB n size))] w' := by
 have _u0 := hn
 have _u1 := hs
 clear _u0 _u1
 refine stEnter (args := [(.int .u64 ((n : Nat) : Int)), (vI size)]) (fps []) Tryz.func69 rfl 27 rfl [(0, (.int .u64 ((n : Nat) : Int))), (1, (vI size))] ⟨rfl, rfl, trivial⟩ [] (Mm.start w []) ?_
 refine stSeq (reg ?_)
 refine la ?_
 refine liNil (qThen (stSeq (reg ?_)))
 refine lm ?_
 refine li rfl ?_
 refine opMkN el_u8 size (by omega) (B8 (numI n size 0)) rfl rfl (by kernel_rfl) rfl rfl rfl (by rw [numI_zero]; simp [B8]) (fun b => ?_)
 refine la ?_
 refine liNil (qThen (stSeq (stSeq (reg ?_))))
 refine lm ?_
 refine lc (vI size) ?_
 refine lm ?_
 refine liNil (qThen (stBlock ?_))
 refine stLoop (ι := Nat) (fun i => i ≤ size) (fun i => size - i) (fun i => [(0, (.int .u64 ((n : Nat) : Int))), (1, (vI size)), (4, (.slice none 0 0)), (5, (.slice (some ⟨b, 0, none⟩) (size) (size))), (10, (vI size)), (11, (vI i))]) (fun i => [cAt b 5 (B8 (numI n size i))]) 0 (Nat.zero_le _) ⟨rfl, rfl, rfl, rfl, rfl, rfl, trivial⟩ (fun _ h => h) ?_
 intro i hi
 show St _ _ _ [(0, (.int .u64 ((n : Nat) : Int))), (1, (vI size)), (4, (.slice none 0 0)), (5, (.slice (some ⟨b, 0, none⟩) (size) (size))), (10, (vI size)), (11, (vI i))] [cAt b 5 (B8 (numI n size i))] _
 refine stSeq (reg ?_)
 refine lc (.bool (decide (((i : Nat) : Int) < ((size : Nat) : Int)))) ?_
 refine liNil (qThen (stSeq ?_))
 refine stCond rfl (fun hc12 => ?_) (fun hc12 => ?_)
 ·have hd12 := of_decide_eq_true hc12
  refine stSkip (qThen (stSeq (stBlock (stSeq (reg ?_)))))
  refine lm ?_
  refine la ?_
  refine liNil (qThen (reg ?_))
  refine lm ?_
  refine lm ?_
  refine lv (v := (vI (size - 1))) (rSubN rfl rfl rfl (by omega) (by omega)) ?_
  refine lm ?_
  refine lv (v := (vI ((size - 1) - i))) (rSubN rfl rfl rfl (by omega) (by omega)) ?_
  refine lm ?_
  refine lm ?_
  refine lv (v := (vI (8 * i))) (rMul _ rfl rfl rfl (by omega) (by omega) (by omega)) ?_
  refine lv (v := (.int .u64 (((n / 2 ^ (8 * i)) : Nat) : Int))) (rShrV rfl rfl rfl (by show 8 * i ≤ 64; omega)) ?_
  refine lv (v := (.int .u8 (((byteAt n i).toNat : Nat) : Int))) (rIntC _ (fun _ => by kernel_rfl) rfl rfl (by rw [Int.natCast_ediv, Int.natCast_pow]; exact byteAt_wrap n i)) ?_
  refine lv (v := (vP b (0 + (size - 1 - i)))) (rIndexAddr1 (e := 5) rfl (by kernel_rfl) (by kernel_rfl) rfl rfl (by omega)) ?_
  refine li rfl ?_
  refine opStoreB8 0 (B8 (numI n size (i + 1))) rfl rfl (by kernel_rfl) rfl rfl (by kernel_rfl) rfl (by rw [numI_len]; omega) (by rw [numI_set n size i (by omega)]) ?_
  refine liNil (qBlock (qThen (reg ?_)))
  refine lv (v := (vI (i + 1))) (rAdd _ rfl rfl rfl (by omega) (by omega) (by omega)) ?_
  refine lm ?_
  refine liNil (qThen ?_)
  exact stAgain (i + 1) (by show _ ≤ _; omega) (by show _ - _ < _ - _; omega) ⟨rfl, rfl, rfl, rfl, rfl, rfl, trivial⟩ (fun w hM => hM)
 ·have hd12 := of_decide_eq_false hc12
  obtain rfl : i = size := by omega
  rw [numI_all]
  refine stExit (qThenX (qThenX (qBlockX (qThen (stSeq (reg ?_))))))
  refine lm ?_
  refine la ?_
  refine liNil (qThen (stRet ?_))
  refine stEnd [(.slice (some ⟨b, 0, none⟩) (i) (i))] rfl ⟨rfl, trivial⟩ (fun w hM => ?_)
  exact ⟨b, rfl, hM⟩
theorem cVal_any (A : Option Addr) (c : Nat) (bs : List UInt8) (w : World) (r0 : Rf [] w (fun w => RowIn w A (B8 bs))) (hl : bs.length ≤ 8) :
  Calls Tryz.prog 75 #[(vL A bs c)] w fun e w' => e = .returned (.int .u64 (((valB bs) : Nat) : Int)) ∧ Back [] w [] w' := by
 have _u0 := r0
 have _u1 := hl
 clear _u0 _u1
 refine stEnter (args := [(vL A bs c)]) (fps []) Tryz.func75 rfl 19 rfl [(0, (vL A bs c))] ⟨rfl, trivial⟩ [] (Mm.start w []) ?_
 refine stSeq (reg ?_)
 refine la ?_
 refine liNil (qThen (stSeq (reg ?_)))
 refine la ?_
 refine liNil (qThen (stSeq (stSeq (reg ?_))))
 refine lm ?_
 refine lc (vI bs.length) ?_
 refine lm ?_
 refine liNil (qThen (stBlock ?_))
 refine stLoop (ι := Nat) (fun i => i ≤ bs.length) (fun i => bs.length - i) (fun i => [(2, (.int .u64 0)), (6, (vL A bs c)), (7, (vI bs.length)), (3, (.int .u64 (((valB (bs.take i)) : Nat) : Int))), (8, (vI i))]) (fun i => []) 0 (Nat.zero_le _) ⟨rfl, rfl, rfl, rfl, rfl, trivial⟩ (fun _ h => h) ?_
 intro i hi
 show St _ _ _ [(2, (.int .u64 0)), (6, (vL A bs c)), (7, (vI bs.length)), (3, (.int .u64 (((valB (bs.take i)) : Nat) : Int))), (8, (vI i))] [] _
 refine stSeq (reg ?_)
 refine lc (.bool (decide (((i : Nat) : Int) < ((bs.length : Nat) : Int)))) ?_
 refine liNil (qThen (stSeq ?_))
 refine stCond rfl (fun hc9 => ?_) (fun hc9 => ?_)
 ·have hd9 := of_decide_eq_true hc9
  refine stSkip (qThen (stSeq (stBlock (stSeq (reg ?_)))))
  obtain ⟨x0, hx0⟩ : ∃ ξ, (bs)[i]? = some ξ := ⟨_, List.getElem?_eq_getElem (by omega)⟩
  refine St.rowPtr (fun w hM => r0.now hM) (B8_at hx0) (fun p10 q10 hA10 hc10 => ?_)
  refine lv (v := (vP p10 (q10 + i))) (rIndexRow (e := 5) rfl (by kernel_rfl) (by kernel_rfl) rfl rfl hA10 (by omega)) ?_
  refine lv (v := (.int .u8 ((x0.toNat : Nat) : Int))) (rLoadW rfl rfl (by kernel_rfl) hc10) ?_
  refine la ?_
  refine liNil (qThen (reg ?_))
  refine lm ?_
  refine lv (v := (.int .u64 (((valB (bs.take i) * 2 ^ 8 % 18446744073709551616) : Nat) : Int))) (rShlU (k := 8) rfl rfl rfl (by omega)) ?_
  refine lm ?_
  refine lv (v := (.int .u64 ((x0.toNat : Nat) : Int))) (rIntC _ (fun _ => by kernel_rfl) rfl rfl (wrapU64_id (by omega) (by have := UInt8.toNat_lt x0; omega))) ?_
  refine lv (v := (.int .u64 (((valB (bs.take (i + 1))) : Nat) : Int))) (rConv (rOrU rfl rfl rfl (Nat.mod_lt _ (by decide)) (by have := UInt8.toNat_lt x0; omega)) (by rw [shl_or _ _ (by have h1 := valB_lt (bs.take i); have h2 : 256 ^ (bs.take i).length ≤ 256 ^ 7 := Nat.pow_le_pow_right (by omega) (by rw [List.length_take]; omega); omega) (UInt8.toNat_lt x0), valB_take hx0])) ?_
  refine la ?_
  refine liNil (qBlock (qThen (reg ?_)))
  refine lv (v := (vI (i + 1))) (rAdd _ rfl rfl rfl (by omega) (by omega) (by omega)) ?_
  refine lm ?_
  refine liNil (qThen ?_)
  exact stAgain (i + 1) (by show _ ≤ _; omega) (by show _ - _ < _ - _; omega) ⟨rfl, rfl, rfl, rfl, rfl, trivial⟩ (fun w hM => hM)
 ·have hd9 := of_decide_eq_false hc9
  obtain rfl : i = bs.length := by omega
  rw [List.take_length]
  refine stExit (qThenX (qThenX (qBlockX (qThen (stSeq (reg ?_))))))
  refine lm ?_
  refine la ?_
  refine liNil (qThen (stRet ?_))
  refine stEnd [(.int .u64 (((valB bs) : Nat) : Int))] rfl ⟨rfl, trivial⟩ (fun w hM => ?_)
  exact ⟨rfl, hM⟩
theorem cChk_any (s : Nat) (A : Option Addr) (c : Nat) (bs : List UInt8) (w : World) (r0 : Rf [] w (Vars)) (r1 : Rf [] w (fun w => RowIn w A (B8 bs))) (hs : s ≤ 1000000) (hl : bs.length ≤ 1000000) :
  Calls Tryz.prog 70 #[(vI s), (vL A bs c)] w fun e w' => e = .returned (vS (chkB s bs)) ∧ Back [] w [] w' := by
 have _u0 := r0
 have _u1 := r1
 have _u2 := hs
 have _u3 := hl
 clear _u0 _u1 _u2 _u3
 refine stEnter (args := [(vI s), (vL A bs c)]) (fps []) Tryz.func70 rfl 14 rfl [(0, (vI s)), (1, (vL A bs c))] ⟨rfl, rfl, trivial⟩ [] (Mm.start w []) ?_
 refine stSeq (reg ?_)
 refine la ?_
 refine liNil (qThen (stSeq ?_))
 refine anyBegin [] 10 (by kernel_rfl) (fun _ h => h) ?_
 refine am 0 ?_
 refine av 1 (.int .u64 ((s : Nat) : Int)) rfl (rIntC _ (fun _ => by kernel_rfl) rfl rfl (wrapU64_id (by omega) (by omega))) ?_
 refine am 4 ?_
 refine av 5 (vS bs) rfl (rStr (e := 5) bs rfl (by kernel_rfl) (by kernel_rfl) (by kernel_rfl) rfl rfl (fun w hM => r1.now hM)) ?_
 refine a1 2 ?_
 refine opK0 (fun w hM => (cNum_any s 4 w (by omega) (by omega)).mono ?_)
 rintro e w' ⟨b7, rfl, hP⟩
 refine ⟨_, _, rfl, hP, ?_⟩; clear hP hM
 refine anyNext [cAt b7 5 (B8 (numB s 4))] (fun _ h => h.pick [] rfl rfl) (fun _ h => h) ?_
 refine av 3 (vS (numB s 4)) rfl (rStr (e := 5) (numB s 4) rfl (by kernel_rfl) (by kernel_rfl) (by kernel_rfl) rfl rfl (fun w hM => rowAtI (hM.at (i := 0) rfl) rfl)) ?_
 refine a1 6 ?_
 refine opNew (v := fun b => .slice (some ⟨b, 0, none⟩) 2 2) 9 [(vS (numB s 4)), (vS bs)] rfl (by kernel_rfl) (fun _ => by kernel_rfl) (fun b11 => ?_)
 refine anyNext [cAt b7 5 (B8 (numB s 4)), cAt b11 9 [(vS (numB s 4)), (vS bs)]] (fun _ h => h.pick [0] rfl rfl) (fun _ h => h) ?_
 refine a1 7 ?_
 refine opK0 (fun w hM => (cJoin_any (some ⟨b11, 0, none⟩) 2 [numB s 4, bs] w (r0.go0 hM) (hM.keep0 (j := 1) rfl (fun _ h => rowAtI h rfl)) (by simp [numB_len]; omega) (by simp)).mono ?_)
 rintro e w' ⟨rfl, hP⟩
 refine ⟨_, _, rfl, hP, ?_⟩; clear hP hM
 refine St.to [cAt b7 5 (B8 (numB s 4)), cAt b11 9 [(vS (numB s 4)), (vS bs)]] (by kernel_rfl) ?_
 refine anyNext [cAt b7 5 (B8 (numB s 4)), cAt b11 9 [(vS (numB s 4)), (vS bs)]] (fun _ h => h) (fun _ h => h) ?_
 refine av 8 (vS (chkB s bs)) rfl (rConv (rStrHi (k := 16) rfl (by kernel_rfl) rfl rfl (by rw [sha_len]; decide)) (by simp [chkB])) ?_
 refine aa 9 ?_
 refine anyDone (by kernel_rfl) ?_
 refine qThen (stRet ?_)
 refine stEnd [(vS (chkB s bs))] rfl ⟨rfl, trivial⟩ (fun w hM => ?_)
 exact ⟨rfl, (hM.pick [] rfl rfl)⟩
end Go.Proofs.YtaiggifiefnjnaaGreatDoor
namespace Go.Proofs.YtaiggifiefnjnaaGreatDoor
open Go.RowKit
theorem opMk0 {P : Program} {Q : Exit → Act → World → Prop} {nt : Nat} {w0 : World} {F : List Nat} {E : Env} {cs : List Ch} {K : Act → World → Prop} {o : Oper} {d : Nat} {t e : TypeId} {z : Value} {sz bt : Nat} (El : Elem P t e z sz bt) {x y : Operand} (n : Nat) (hn : n ≤ 4294967296) (ho : o.op = .makeSlice t x y) (hd : o.dst = some d) (hk : opOk nt E o = true) (hx : evO E x = some (.int .i64 0)) (hy : evO E y = some (vI n))
  (h : ∀ b, St nt w0 F ((d, .slice (some ⟨b, 0, none⟩) 0 n) :: E) (cs ++ [cOwn e sz (some ⟨b, 0, none⟩) 0 n []]) K) (hbt : bt ≤ 1024) : OpW P Q nt w0 F E cs o K :=
 opEff hd hk fun w hM => by
  obtain ⟨i, hi, hz, hsz, hby⟩ := info_parts El.hi
  have hm : bt * n ≤ 1024 * 4294967296 := Nat.mul_le_mul hbt hn
  have hr := run_make (P := P) w t e i z El.ht hi hz .i64 .i64 0 ((n : Nat) : Int) (by omega) (by omega) (by rw [hby, ← Int.natCast_mul]; omega) (by omega)
  have h1 := hM.push (c := cAt w.heap.size e (madeCells z.cells (n * sz)).toList) ((Fr.refl _ _).alloc _) (At.new w e _) (by simp [cAt]) (by simp [cAt])
  have h2 := h1.toOwn cs.length (by rw [List.getElem?_append_right (Nat.le_refl _), Nat.sub_self]; rfl) sz 0 n (by rw [Array.length_toList, size_madeCells]) (Nat.zero_le _) (by unfold maxLen; omega)
  rw [Nat.zero_mul, List.take_zero, List.set_append_right _ _ (Nat.le_refl _), Nat.sub_self, List.set_cons_zero] at h2
  refine ⟨_, _, _, ?_, h2, h w.heap.size⟩
  unfold execOp
  rw [hsz, Int.toNat_natCast] at hr
  simp only [ho, evE_of hx, evE_of hy, Sem.run_bind, hr]
  rfl
theorem cPack_any (s : Nat) (size : Nat) (num : Nat) (idx : Nat) (st : Nat) (A : Option Addr) (c : Nat) (part : List UInt8) (w : World) (r0 : Rf [] w (Vars)) (r1 : Rf [] w (fun w => RowIn w A (B8 part))) (hs : s ≤ 1000000) (hp : part.length + 32 ≤ size) (hz : size ≤ 4096) (hn : num < 18446744073709551616) (hi : idx ≤ 1000000) (ht : st ≤ 1000000) :
  Calls Tryz.prog 53 #[(vI s), (vI size), (.agg #[(.int .u64 ((num : Nat) : Int)), (vI idx), (vI st)]), (vL A part c)] w fun e w' => ∃ (b : Nat) (k : Nat), e = .returned (.slice (some ⟨b, 0, none⟩) (size) (k)) ∧ Back [] w [cBlk b 5 (B8 (packB s size num idx st part))] w' := by
 have _u0 := r0
 have _u1 := r1
 have _u2 := hs
 have _u3 := hp
 have _u4 := hz
 have _u5 := hn
 have _u6 := hi
 have _u7 := ht
 clear _u0 _u1 _u2 _u3 _u4 _u5 _u6 _u7
 refine stEnter (args := [(vI s), (vI size), (.agg #[(.int .u64 ((num : Nat) : Int)), (vI idx), (vI st)]), (vL A part c)]) (fps []) Tryz.func53 rfl 45 rfl [(0, (vI s)), (1, (vI size)), (2, (.agg #[(.int .u64 ((num : Nat) : Int)), (vI idx), (vI st)])), (3, (vL A part c))] ⟨rfl, rfl, rfl, rfl, trivial⟩ [] (Mm.start w []) ?_
 refine stSeq (reg (li rfl ?_))
 refine opBox [(.int .u64 ((num : Nat) : Int)), (vI idx), (vI st)] rfl rfl (by kernel_rfl) rfl rfl (fun b6 => ?_)
 refine la ?_
 refine liNil (qThen ?_)
 refine stCut (ι := Nat × Nat × Option Addr × Nat) (fun _ => True) (fun (b12, b15, A16, c16) => [(0, (vI s)), (1, (vI size)), (2, (.agg #[(.int .u64 ((num : Nat) : Int)), (vI idx), (vI st)])), (3, (vL A part c)), (6, (vP b6 0)), (8, (.slice none 0 0)), (10, (vI size)), (11, (vI (size - 16))), (13, (vP b6 0)), (14, (.int .u64 ((num : Nat) : Int))), (12, (.slice (some ⟨b12, 0, none⟩) (0) ((size - 16)))), (15, (.slice (some ⟨b15, 0, none⟩) (8) (8))), (16, (vL A16 (numB num 8) c16)), (9, (vL A16 (numB num 8) c16))]) (fun (b12, b15, A16, c16) => [cAt b6 103 [(.int .u64 ((num : Nat) : Int)), (vI idx), (vI st)], cB A16 (numB num 8) c16, cAt b15 5 (B8 (numB num 8))]) ?_ ?_
 ·refine St.to [cAt b6 103 [(.int .u64 ((num : Nat) : Int)), (vI idx), (vI st)]] (by kernel_rfl) ?_
  refine anyBegin [cAt b6 103 [(.int .u64 ((num : Nat) : Int)), (vI idx), (vI st)]] 8 (by kernel_rfl) (fun _ h => h) ?_
  refine am 0 ?_
  refine av 1 (vI (size - 16)) rfl (rSubN rfl rfl rfl (by omega) (by omega)) ?_
  refine ac 3 (vP b6 0) ?_
  refine av 4 (.int .u64 ((num : Nat) : Int)) rfl (rLoad 0 rfl rfl (by kernel_rfl) rfl rfl) ?_
  refine anyTwo (i := 2) (j := 5) (by kernel_rfl) rfl rfl rfl rfl ?_ ?_
  ·refine opMk0 el_u8 (size - 16) (by omega) rfl rfl (by kernel_rfl) rfl rfl (fun b12 => ?_) (by omega)
   refine anyNext [cAt b6 103 [(.int .u64 ((num : Nat) : Int)), (vI idx), (vI st)]] (fun _ h => h) (fun _ h => h.pick [0] rfl rfl) ?_
   refine a1 5 ?_
   refine opK0 (fun w hM => (cNum_any num 8 w (by omega) (by omega)).mono ?_)
   rintro e w' ⟨b15, rfl, hP⟩
   refine ⟨_, _, rfl, hP, ?_⟩; clear hP hM
   refine anyNext [cAt b6 103 [(.int .u64 ((num : Nat) : Int)), (vI idx), (vI st)], cAt b15 5 (B8 (numB num 8))] (fun _ h => h.pick [0] rfl rfl) (fun _ h => h.pick [0, 2] rfl rfl) ?_
   refine a1 6 ?_
   refine opAppend el_u8 1 (B8 (numB num 8)) rfl rfl (by kernel_rfl) rfl rfl rfl (by rw [B8_length, numB_len]) (fun w hM => CellsAt.of_row (rowAtI (hM.at (i := 2) rfl) rfl)) ((B8_one _)) (by omega) ((numB num 8).length) (by rw [numB_len]) (B8 (numB num 8)) (by simp [B8]) (fun A16 c16 => ?_)
   refine St.to [cAt b6 103 [(.int .u64 ((num : Nat) : Int)), (vI idx), (vI st)], cB A16 (numB num 8) c16, cAt b15 5 (B8 (numB num 8))] (by kernel_rfl) ?_
   refine anyNext [cAt b6 103 [(.int .u64 ((num : Nat) : Int)), (vI idx), (vI st)], cB A16 (numB num 8) c16, cAt b15 5 (B8 (numB num 8))] (fun _ h => h.pick [0, 2] rfl rfl) (fun _ h => h) ?_
   refine aa 7 ?_
   refine anyDone (by kernel_rfl) ?_
   refine qThen ?_
   exact stMeet (b12, b15, A16, c16) trivial ⟨rfl, rfl, rfl, rfl, rfl, rfl, rfl, rfl, rfl, rfl, rfl, rfl, rfl, rfl, trivial⟩ (fun _ h => h)
  ·refine opK0 (fun w hM => (cNum_any num 8 w (by omega) (by omega)).mono ?_)
   rintro e w' ⟨b15, rfl, hP⟩
   refine ⟨_, _, rfl, hP, ?_⟩; clear hP hM
   refine anyNext [cAt b6 103 [(.int .u64 ((num : Nat) : Int)), (vI idx), (vI st)], cAt b15 5 (B8 (numB num 8))] (fun _ h => h.pick [0] rfl rfl) (fun _ h => h) ?_
   refine a1 2 ?_
   refine opMk0 el_u8 (size - 16) (by omega) rfl rfl (by kernel_rfl) rfl rfl (fun b12 => ?_) (by omega)
   refine anyNext [cAt b6 103 [(.int .u64 ((num : Nat) : Int)), (vI idx), (vI st)], cAt b15 5 (B8 (numB num 8))] (fun _ h => h) (fun _ h => h.pick [0, 1] rfl rfl) ?_
   refine a1 6 ?_
   refine opAppend el_u8 2 (B8 (numB num 8)) rfl rfl (by kernel_rfl) rfl rfl rfl (by rw [B8_length, numB_len]) (fun w hM => CellsAt.of_row (rowAtI (hM.at (i := 1) rfl) rfl)) ((B8_one _)) (by omega) ((numB num 8).length) (by rw [numB_len]) (B8 (numB num 8)) (by simp [B8]) (fun A16 c16 => ?_)
   refine anyNext [cAt b6 103 [(.int .u64 ((num : Nat) : Int)), (vI idx), (vI st)], cAt b15 5 (B8 (numB num 8)), cB A16 (numB num 8) c16] (fun _ h => h.pick [0, 1] rfl rfl) (fun _ h => h) ?_
   refine aa 7 ?_
   refine anyDone (by kernel_rfl) ?_
   refine qThen ?_
   exact stMeet (b12, b15, A16, c16) trivial ⟨rfl, rfl, rfl, rfl, rfl, rfl, rfl, rfl, rfl, rfl, rfl, rfl, rfl, rfl, trivial⟩ (fun _ h => h.pick [0, 2, 1] rfl rfl)
 ·rintro ⟨b12, b15, A16, c16⟩ -
  show St _ _ _ [(0, (vI s)), (1, (vI size)), (2, (.agg #[(.int .u64 ((num : Nat) : Int)), (vI idx), (vI st)])), (3, (vL A part c)), (6, (vP b6 0)), (8, (.slice none 0 0)), (10, (vI size)), (11, (vI (size - 16))), (13, (vP b6 0)), (14, (.int .u64 ((num : Nat) : Int))), (12, (.slice (some ⟨b12, 0, none⟩) (0) ((size - 16)))), (15, (.slice (some ⟨b15, 0, none⟩) (8) (8))), (16, (vL A16 (numB num 8) c16)), (9, (vL A16 (numB num 8) c16))] [cAt b6 103 [(.int .u64 ((num : Nat) : Int)), (vI idx), (vI st)], cB A16 (numB num 8) c16, cAt b15 5 (B8 (numB num 8))] _
  refine stSeq (reg ?_)
  refine lm ?_
  refine lc (vP b6 1) ?_
  refine lv (v := (vI idx)) (rLoad 0 rfl rfl (by kernel_rfl) rfl rfl) ?_
  refine lv (v := (.int .u64 ((idx : Nat) : Int))) (rIntC _ (fun _ => by kernel_rfl) rfl rfl (wrapU64_id (by omega) (by omega))) ?_
  refine li rfl ?_
  refine opK0 (fun w hM => (cNum_any idx 4 w (by omega) (by omega)).mono ?_)
  rintro e w' ⟨b21, rfl, hP⟩
  refine ⟨_, _, rfl, hP, ?_⟩; clear hP hM
  refine li rfl ?_
  refine opAppend el_u8 1 (B8 (numB idx 4)) rfl rfl (by kernel_rfl) rfl rfl rfl (by rw [B8_length, numB_len]) (fun w hM => CellsAt.of_row (rowAtI (hM.at (i := 3) rfl) rfl)) ((B8_one _)) (by simp only [numB_len]; omega) ((numB num 8 ++ (numB idx 4)).length) (by simp only [numB_len, List.length_append]) (B8 (numB num 8 ++ (numB idx 4))) (by simp [B8]) (fun A22 c22 => ?_)
  refine la ?_
  refine liNil (qThen (stSeq ?_))
  refine St.to [cAt b6 103 [(.int .u64 ((num : Nat) : Int)), (vI idx), (vI st)], cB A22 (numB num 8 ++ (numB idx 4)) c22, cAt b15 5 (B8 (numB num 8)), cAt b21 5 (B8 (numB idx 4))] (by kernel_rfl) ?_
  refine reg ?_
  refine lm ?_
  refine lc (vP b6 2) ?_
  refine lv (v := (vI st)) (rLoad 0 rfl rfl (by kernel_rfl) rfl rfl) ?_
  refine lv (v := (.int .u64 ((st : Nat) : Int))) (rIntC _ (fun _ => by kernel_rfl) rfl rfl (wrapU64_id (by omega) (by omega))) ?_
  refine li rfl ?_
  refine opK0 (fun w hM => (cNum_any st 4 w (by omega) (by omega)).mono ?_)
  rintro e w' ⟨b27, rfl, hP⟩
  refine ⟨_, _, rfl, hP, ?_⟩; clear hP hM
  refine li rfl ?_
  refine opAppend el_u8 1 (B8 (numB st 4)) rfl rfl (by kernel_rfl) rfl rfl rfl (by rw [B8_length, numB_len]) (fun w hM => CellsAt.of_row (rowAtI (hM.at (i := 4) rfl) rfl)) ((B8_one _)) (by simp only [List.length_append, numB_len]; omega) ((numB num 8 ++ (numB idx 4) ++ (numB st 4)).length) (by simp only [List.length_append, numB_len]) (B8 (numB num 8 ++ (numB idx 4) ++ (numB st 4))) (by simp [B8]) (fun A28 c28 => ?_)
  refine la ?_
  refine liNil (qThen (stSeq (reg ?_)))
  refine lm ?_
  refine lm ?_
  refine li rfl ?_
  refine opAppend el_u8 1 (B8 part) rfl rfl (by kernel_rfl) rfl rfl rfl (by simp [B8]) (fun w hM => CellsAt.of_row (r1.now hM)) ((B8_one _)) (by simp only [List.length_append, numB_len]; omega) ((numB num 8 ++ (numB idx 4) ++ (numB st 4) ++ part).length) (by first | exact (List.length_append ..).symm | (simp; done) | (simp; omega)) (B8 (numB num 8 ++ (numB idx 4) ++ (numB st 4) ++ part)) (by simp [B8]) (fun A31 c31 => ?_)
  refine la ?_
  refine liNil (qThen (stSeq (reg ?_)))
  refine lm ?_
  refine lm ?_
  refine lv (v := (vI (size - 16))) (rSubN rfl rfl rfl (by omega) (by omega)) ?_
  refine lm ?_
  refine lc (vI ((numB num 8 ++ (numB idx 4) ++ (numB st 4) ++ part).length)) ?_
  refine lv (v := (vI (size - 32 - part.length))) (rConv (rSubN rfl rfl rfl (by simp only [List.length_append, numB_len]; omega) (by omega)) (congrArg (fun z : Nat => vI z) (by simp only [List.length_append, numB_len]; omega))) ?_
  refine li rfl ?_
  refine opAppendZ el_u8 rfl rfl Tryz.underlying3 1 rfl rfl (by kernel_rfl) rfl rfl rfl (by simp only [List.length_append, numB_len]; omega) (bodyB size num idx st part).length (by rw [bodyB_len hp]; simp only [List.length_append, numB_len]; omega) (B8 (bodyB size num idx st part)) (by simp [B8, bodyB, zerosB]) (fun A38 c38 => ?_)
  refine la ?_
  refine liNil (qThen (stSeq ?_))
  refine St.to [cAt b6 103 [(.int .u64 ((num : Nat) : Int)), (vI idx), (vI st)], cB A38 (bodyB size num idx st part) c38, cAt b15 5 (B8 (numB num 8)), cAt b21 5 (B8 (numB idx 4)), cAt b27 5 (B8 (numB st 4))] (by kernel_rfl) ?_
  refine reg ?_
  refine lm ?_
  refine lm ?_
  refine li rfl ?_
  refine opK0 (fun w hM => (cChk_any s A38 c38 (bodyB size num idx st part) w (r0.go0 hM) (hM.keep0 (j := 1) rfl (fun _ h => RowIn.of_own h)) (by omega) (by rw [bodyB_len hp]; omega)).mono ?_)
  rintro e w' ⟨rfl, hP⟩
  refine ⟨_, _, rfl, hP, ?_⟩; clear hP hM
  refine li rfl ?_
  refine opBytesW (e := 5) rfl rfl (by kernel_rfl) (by kernel_rfl) (by kernel_rfl) (by kernel_rfl) rfl (fun b42 c42 => ?_)
  refine lm ?_
  refine li rfl ?_
  refine opAppendW el_u8 (news := B8 (bodyB size num idx st part)) 5 rfl rfl (by kernel_rfl) rfl rfl rfl (B8_length _) (B8_length _) (fun w hM => CellsAt.of_row (rowOwn (i := 1) rfl w hM)) (B8_one _) (by rw [chkB_len, bodyB_len hp]; omega) (by rw [bodyB_len hp]; omega) size (by rw [chkB_len, bodyB_len hp]; omega) (B8 (packB s size num idx st part)) (by simp [B8, packB]) (fun b44 c44 => ?_)
  refine la ?_
  refine liNil (qThen (stRet ?_))
  refine stEnd [(.slice (some ⟨b44, 0, none⟩) (size) (c44))] rfl ⟨rfl, trivial⟩ (fun w hM => ?_)
  exact ⟨b44, c44, rfl, (hM.pick [5] rfl rfl)⟩
end Go.Proofs.YtaiggifiefnjnaaGreatDoor
namespace Go.Proofs.YtaiggifiefnjnaaGreatDoor
open Go.RowKit
theorem cUnp_bad (s : Nat) (A : Option Addr) (c : Nat) (x : List UInt8) (w : World) (r0 : Rf [] w (Vars)) (r1 : Rf [] w (fun w => RowIn w A (B8 x))) (hs : s ≤ 1000000) (hl : 32 ≤ x.length) (hl2 : x.length ≤ 1000000) (hcap : x.length ≤ c) (hk : okB s x = false) :
  Calls Tryz.prog 61 #[(vI s), (vL A x c)] w fun e w' => e = .returned (.tuple #[(.agg #[(.int .u64 ((0 : Nat) : Int)), (.int .i64 0), (.int .i64 0)]), (.slice none 0 0), (.bool false)]) ∧ Back [] w [] w' := by
 have _u0 := r0
 have _u1 := r1
 have _u2 := hs
 have _u3 := hl
 have _u4 := hl2
 have _u5 := hcap
 have _u6 := hk
 clear _u0 _u1 _u2 _u3 _u4 _u5 _u6
 refine stEnter (args := [(vI s), (vL A x c)]) (fps []) Tryz.func61 rfl 34 rfl [(0, (vI s)), (1, (vL A x c))] ⟨rfl, rfl, trivial⟩ [] (Mm.start w []) ?_
 refine stSeq (reg (li rfl ?_))
 refine opAlloc [(.int .u64 0), (.int .i64 0), (.int .i64 0)] rfl rfl (by kernel_rfl) (by kernel_rfl) (fun b4 => ?_)
 refine la ?_
 refine la ?_
 refine liNil (qThen (stSeq (reg ?_)))
 refine lm ?_
 have rs10 := r1.imp (fun _ hrow => rowDrop 16 (hrow) (hcap))
 refine lv (v := (vL (if c = 16 then A else A.map (·.add (16 * 1))) (x.drop 16) (c - 16))) (rConv (rSliceLo (e := 5) (sz := 1) (k := 16) rfl (by kernel_rfl) (by kernel_rfl) rfl rfl (by omega)) (by show Value.slice _ _ _ = Value.slice _ _ _; simp only [List.length_drop])) ?_
 have hbl : (x.drop 16).length = x.length - 16 := List.length_drop ..
 have hbc : (x.drop 16).length ≤ c - 16 := by omega
 refine la ?_
 refine liNil (qThen (stSeq (stSeq ?_)))
 refine anyBegin [cAt b4 103 [(.int .u64 0), (.int .i64 0), (.int .i64 0)]] 7 (by kernel_rfl) (fun _ h => h) ?_
 refine am 0 ?_
 refine am 1 ?_
 refine am 3 ?_
 have rs15 := r1.imp (fun _ hrow => rowTake 16 (hrow))
 refine av 4 (vL A (x.take 16) c) rfl (rConv (rSliceHi (e := 5) (k := 16) rfl (by kernel_rfl) (by kernel_rfl) rfl rfl (by have := hcap; omega)) (by show Value.slice _ _ _ = Value.slice _ _ _; rw [List.length_take, Nat.min_eq_left (by omega)])) ?_
 refine av 5 (vS (x.take 16)) rfl (rStr (e := 5) (x.take 16) rfl (by kernel_rfl) (by kernel_rfl) (by kernel_rfl) rfl rfl (fun w hM => rs15.now hM)) ?_
 refine a1 2 ?_
 refine opK0 (fun w hM => (cChk_any s (if c = 16 then A else A.map (·.add (16 * 1))) (c - 16) (x.drop 16) w (r0.go0 hM) (rs10.go0 hM) (by omega) (by omega)).mono ?_)
 rintro e w' ⟨rfl, hP⟩
 refine ⟨_, _, rfl, hP, ?_⟩; clear hP hM
 refine anyNext [cAt b4 103 [(.int .u64 0), (.int .i64 0), (.int .i64 0)]] (fun _ h => h) (fun _ h => h) ?_
 refine av 6 (.bool (!decide ((chkB s (x.drop 16)) = (x.take 16)))) rfl (rStrNe rfl rfl rfl) ?_
 refine anyDone (by kernel_rfl) ?_
 refine qThen ?_
 refine stTrueK rfl (by simpa [okB] using hk) ?_
 refine stSeq (reg ?_)
 refine lc (.agg #[(.int .u64 0), (.int .i64 0), (.int .i64 0)]) ?_
 refine li rfl ?_
 refine opStoreN 0 [(.int .u64 0), (.int .i64 0), (.int .i64 0)] (vs := [(.int .u64 0), (.int .i64 0), (.int .i64 0)]) rfl rfl (by kernel_rfl) rfl rfl rfl (by kernel_rfl) rfl (by simp) (by simp [Value.oneCell']) rfl ?_
 refine la ?_
 refine la ?_
 refine liNil (qThen (stRet (qThenR ?_)))
 refine stEnd [(.agg #[(.int .u64 0), (.int .i64 0), (.int .i64 0)]), (.slice none 0 0), (.bool false)] rfl ⟨⟨_, rfl, fun w hM => run_loadVarA (by kernel_rfl) (by kernel_rfl) (segAt (i := 0) (off := 0) rfl (by intro j v hj; rw [Nat.zero_add]; exact hj) w hM)⟩, rfl, rfl, trivial⟩ (fun w hM => ?_)
 exact ⟨rfl, (hM.pick [] rfl rfl)⟩
theorem cUnp_ok (s : Nat) (A : Option Addr) (c : Nat) (x : List UInt8) (w : World) (r0 : Rf [] w (Vars)) (r1 : Rf [] w (fun w => RowIn w A (B8 x))) (hs : s ≤ 1000000) (hl : 32 ≤ x.length) (hl2 : x.length ≤ 1000000) (hcap : x.length ≤ c) (hk : okB s x = true) :
  Calls Tryz.prog 61 #[(vI s), (vL A x c)] w fun e w' => ∃ (B : Option Addr) (cb : Nat), e = .returned (.tuple #[(.agg #[(.int .u64 (((headB x).1 : Nat) : Int)), (vI ((headB x).2.1)), (vI ((headB x).2.2))]), (vL B (x.drop 32) cb), (.bool true)]) ∧ Back [] w [] w' ∧ (∀ w, RowIn w A (B8 x) → RowIn w B (B8 (x.drop 32))) := by
 have _u0 := r0
 have _u1 := r1
 have _u2 := hs
 have _u3 := hl
 have _u4 := hl2
 have _u5 := hcap
 have _u6 := hk
 clear _u0 _u1 _u2 _u3 _u4 _u5 _u6
 refine stEnter (args := [(vI s), (vL A x c)]) (fps []) Tryz.func61 rfl 34 rfl [(0, (vI s)), (1, (vL A x c))] ⟨rfl, rfl, trivial⟩ [] (Mm.start w []) ?_
 refine stSeq (reg (li rfl ?_))
 refine opAlloc [(.int .u64 0), (.int .i64 0), (.int .i64 0)] rfl rfl (by kernel_rfl) (by kernel_rfl) (fun b4 => ?_)
 refine la ?_
 refine la ?_
 refine liNil (qThen (stSeq (reg ?_)))
 refine lm ?_
 have rs10 := r1.imp (fun _ hrow => rowDrop 16 (hrow) (hcap))
 refine lv (v := (vL (if c = 16 then A else A.map (·.add (16 * 1))) (x.drop 16) (c - 16))) (rConv (rSliceLo (e := 5) (sz := 1) (k := 16) rfl (by kernel_rfl) (by kernel_rfl) rfl rfl (by omega)) (by show Value.slice _ _ _ = Value.slice _ _ _; simp only [List.length_drop])) ?_
 have hbl : (x.drop 16).length = x.length - 16 := List.length_drop ..
 have hbc : (x.drop 16).length ≤ c - 16 := by omega
 refine la ?_
 refine liNil (qThen (stSeq (stSeq ?_)))
 refine anyBegin [cAt b4 103 [(.int .u64 0), (.int .i64 0), (.int .i64 0)]] 7 (by kernel_rfl) (fun _ h => h) ?_
 refine am 0 ?_
 refine am 1 ?_
 refine am 3 ?_
 have rs15 := r1.imp (fun _ hrow => rowTake 16 (hrow))
 refine av 4 (vL A (x.take 16) c) rfl (rConv (rSliceHi (e := 5) (k := 16) rfl (by kernel_rfl) (by kernel_rfl) rfl rfl (by have := hcap; omega)) (by show Value.slice _ _ _ = Value.slice _ _ _; rw [List.length_take, Nat.min_eq_left (by omega)])) ?_
 refine av 5 (vS (x.take 16)) rfl (rStr (e := 5) (x.take 16) rfl (by kernel_rfl) (by kernel_rfl) (by kernel_rfl) rfl rfl (fun w hM => rs15.now hM)) ?_
 refine a1 2 ?_
 refine opK0 (fun w hM => (cChk_any s (if c = 16 then A else A.map (·.add (16 * 1))) (c - 16) (x.drop 16) w (r0.go0 hM) (rs10.go0 hM) (by omega) (by omega)).mono ?_)
 rintro e w' ⟨rfl, hP⟩
 refine ⟨_, _, rfl, hP, ?_⟩; clear hP hM
 refine anyNext [cAt b4 103 [(.int .u64 0), (.int .i64 0), (.int .i64 0)]] (fun _ h => h) (fun _ h => h) ?_
 refine av 6 (.bool (!decide ((chkB s (x.drop 16)) = (x.take 16)))) rfl (rStrNe rfl rfl rfl) ?_
 refine anyDone (by kernel_rfl) ?_
 refine qThen ?_
 refine stFalseK rfl (by simpa [okB] using hk) ?_
 refine stSkip (qThen ?_)
 refine stCut (ι := Nat) (fun _ => True) (fun (b8) => [(0, (vI s)), (1, (vL A x c)), (4, (vP b4 0)), (5, (.slice none 0 0)), (6, (.bool false)), (9, (vL A x c)), (10, (vL (if c = 16 then A else A.map (·.add (16 * 1))) (x.drop 16) (c - 16))), (7, (vL (if c = 16 then A else A.map (·.add (16 * 1))) (x.drop 16) (c - 16))), (11, (vI s)), (12, (vL (if c = 16 then A else A.map (·.add (16 * 1))) (x.drop 16) (c - 16))), (14, (vL A x c)), (15, (vL A (x.take 16) c)), (16, (vS (x.take 16))), (13, (vS (chkB s (x.drop 16)))), (17, (.bool (!decide ((chkB s (x.drop 16)) = (x.take 16))))), (19, (vL (if c = 16 then A else A.map (·.add (16 * 1))) (x.drop 16) (c - 16))), (20, (vL (if c = 16 then A else A.map (·.add (16 * 1))) ((x.drop 16).take 8) (c - 16))), (22, (vL (if c = 16 then A else A.map (·.add (16 * 1))) (x.drop 16) (c - 16))), (23, (vL (if c - 16 = 8 then (if c = 16 then A else A.map (·.add (16 * 1))) else (if c = 16 then A else A.map (·.add (16 * 1))).map (·.add (8 * 1))) (((x.drop 16).take 12).drop 8) ((c - 16) - 8))), (26, (vL (if c = 16 then A else A.map (·.add (16 * 1))) (x.drop 16) (c - 16))), (27, (vL (if c - 16 = 12 then (if c = 16 then A else A.map (·.add (16 * 1))) else (if c = 16 then A else A.map (·.add (16 * 1))).map (·.add (12 * 1))) (((x.drop 16).take 16).drop 12) ((c - 16) - 12))), (21, (.int .u64 (((valB ((x.drop 16).take 8)) : Nat) : Int))), (24, (.int .u64 (((valB (((x.drop 16).take 12).drop 8)) : Nat) : Int))), (25, (vI (valB (((x.drop 16).take 12).drop 8)))), (28, (.int .u64 (((valB (((x.drop 16).take 16).drop 12)) : Nat) : Int))), (29, (vI (valB (((x.drop 16).take 16).drop 12)))), (30, (.agg #[(.int .u64 (((valB ((x.drop 16).take 8)) : Nat) : Int)), (vI (valB (((x.drop 16).take 12).drop 8))), (vI (valB (((x.drop 16).take 16).drop 12)))])), (8, (vP b8 0))]) (fun (b8) => [cAt b4 103 [(.int .u64 0), (.int .i64 0), (.int .i64 0)], cAt b8 103 [(.int .u64 (((valB ((x.drop 16).take 8)) : Nat) : Int)), (vI (valB (((x.drop 16).take 12).drop 8))), (vI (valB (((x.drop 16).take 16).drop 12)))]]) ?_ ?_
 ·refine anyBegin [cAt b4 103 [(.int .u64 0), (.int .i64 0), (.int .i64 0)]] 14 (by kernel_rfl) (fun _ h => h) ?_
  refine am 0 ?_
  have rs20 := rs10.imp (fun _ hrow => rowTake 8 (hrow))
  refine av 1 (vL (if c = 16 then A else A.map (·.add (16 * 1))) ((x.drop 16).take 8) (c - 16)) rfl (rConv (rSliceHi (e := 5) (k := 8) rfl (by kernel_rfl) (by kernel_rfl) rfl rfl (by have := hbc; omega)) (by show Value.slice _ _ _ = Value.slice _ _ _; rw [List.length_take, Nat.min_eq_left (by omega)])) ?_
  refine am 3 ?_
  have rs23 := rs10.imp (fun _ hrow => rowMid 8 12 (hrow) (hbc))
  refine av 4 (vL (if c - 16 = 8 then (if c = 16 then A else A.map (·.add (16 * 1))) else (if c = 16 then A else A.map (·.add (16 * 1))).map (·.add (8 * 1))) (((x.drop 16).take 12).drop 8) ((c - 16) - 8)) rfl (rConv (rSliceLH (e := 5) (sz := 1) (k := 8) (m := 12) rfl (by kernel_rfl) (by kernel_rfl) rfl rfl rfl (by omega) (by have := hbc; omega)) (by show Value.slice _ _ _ = Value.slice _ _ _; rw [List.length_drop, List.length_take, Nat.min_eq_left (by omega)])) ?_
  refine am 7 ?_
  have rs27 := rs10.imp (fun _ hrow => rowMid 12 16 (hrow) (hbc))
  refine av 8 (vL (if c - 16 = 12 then (if c = 16 then A else A.map (·.add (16 * 1))) else (if c = 16 then A else A.map (·.add (16 * 1))).map (·.add (12 * 1))) (((x.drop 16).take 16).drop 12) ((c - 16) - 12)) rfl (rConv (rSliceLH (e := 5) (sz := 1) (k := 12) (m := 16) rfl (by kernel_rfl) (by kernel_rfl) rfl rfl rfl (by omega) (by have := hbc; omega)) (by show Value.slice _ _ _ = Value.slice _ _ _; rw [List.length_drop, List.length_take, Nat.min_eq_left (by omega)])) ?_
  refine anyTwo (i := 2) (j := 12) (by kernel_rfl) rfl rfl rfl rfl ?_ ?_
  ·refine opK0 (fun w hM => (cVal_any (if c = 16 then A else A.map (·.add (16 * 1))) (c - 16) ((x.drop 16).take 8) w (rs20.go0 hM) (by simp only [List.length_take, List.length_drop]; omega)).mono ?_)
   rintro e w' ⟨rfl, hP⟩
   refine ⟨_, _, rfl, hP, ?_⟩; clear hP hM
   refine St.to [cAt b4 103 [(.int .u64 0), (.int .i64 0), (.int .i64 0)]] (by kernel_rfl) ?_
   refine anyNext [cAt b4 103 [(.int .u64 0), (.int .i64 0), (.int .i64 0)]] (fun _ h => h) (fun _ h => h) ?_
   refine anyTwo (i := 5) (j := 12) (by kernel_rfl) rfl rfl rfl rfl ?_ ?_
   ·refine opK0 (fun w hM => (cVal_any (if c - 16 = 8 then (if c = 16 then A else A.map (·.add (16 * 1))) else (if c = 16 then A else A.map (·.add (16 * 1))).map (·.add (8 * 1))) ((c - 16) - 8) (((x.drop 16).take 12).drop 8) w (rs23.go0 hM) (by simp only [List.length_take, List.length_drop]; omega)).mono ?_)
    rintro e w' ⟨rfl, hP⟩
    refine ⟨_, _, rfl, hP, ?_⟩; clear hP hM
    refine anyNext [cAt b4 103 [(.int .u64 0), (.int .i64 0), (.int .i64 0)]] (fun _ h => h) (fun _ h => h) ?_
    refine av 6 (vI (valB (((x.drop 16).take 12).drop 8))) rfl (rIntC _ (fun _ => by kernel_rfl) rfl rfl (wrap64_id (by omega) (by have h1 := valB_lt (((x.drop 16).take 12).drop 8); have h2 : 256 ^ (((x.drop 16).take 12).drop 8).length ≤ 256 ^ 4 := Nat.pow_le_pow_right (by omega) (by rw [List.length_drop, List.length_take]; omega); omega))) ?_
    refine anyTwo (i := 9) (j := 12) (by kernel_rfl) rfl rfl rfl rfl ?_ ?_
    ·refine opK0 (fun w hM => (cVal_any (if c - 16 = 12 then (if c = 16 then A else A.map (·.add (16 * 1))) else (if c = 16 then A else A.map (·.add (16 * 1))).map (·.add (12 * 1))) ((c - 16) - 12) (((x.drop 16).take 16).drop 12) w (rs27.go0 hM) (by simp only [List.length_take, List.length_drop]; omega)).mono ?_)
     rintro e w' ⟨rfl, hP⟩
     refine ⟨_, _, rfl, hP, ?_⟩; clear hP hM
     refine anyNext [cAt b4 103 [(.int .u64 0), (.int .i64 0), (.int .i64 0)]] (fun _ h => h) (fun _ h => h) ?_
     refine av 10 (vI (valB (((x.drop 16).take 16).drop 12))) rfl (rIntC _ (fun _ => by kernel_rfl) rfl rfl (wrap64_id (by omega) (by have h1 := valB_lt (((x.drop 16).take 16).drop 12); have h2 : 256 ^ (((x.drop 16).take 16).drop 12).length ≤ 256 ^ 4 := Nat.pow_le_pow_right (by omega) (by rw [List.length_drop, List.length_take]; omega); omega))) ?_
     refine ac 11 (.agg #[(.int .u64 (((valB ((x.drop 16).take 8)) : Nat) : Int)), (vI (valB (((x.drop 16).take 12).drop 8))), (vI (valB (((x.drop 16).take 16).drop 12)))]) ?_
     refine a1 12 ?_
     refine opAlloc [(.int .u64 0), (.int .i64 0), (.int .i64 0)] rfl rfl (by kernel_rfl) (by kernel_rfl) (fun b8 => ?_)
     refine anyNext [cAt b4 103 [(.int .u64 0), (.int .i64 0), (.int .i64 0)]] (fun _ h => h) (fun _ h => h.pick [0] rfl rfl) ?_
     refine a1 13 ?_
     refine opStoreN 1 [(.int .u64 (((valB ((x.drop 16).take 8)) : Nat) : Int)), (vI (valB (((x.drop 16).take 12).drop 8))), (vI (valB (((x.drop 16).take 16).drop 12)))] (vs := [(.int .u64 (((valB ((x.drop 16).take 8)) : Nat) : Int)), (vI (valB (((x.drop 16).take 12).drop 8))), (vI (valB (((x.drop 16).take 16).drop 12)))]) rfl rfl (by kernel_rfl) rfl rfl rfl (by kernel_rfl) rfl (by simp) (by simp [Value.oneCell']) rfl ?_
     refine anyNext [cAt b4 103 [(.int .u64 0), (.int .i64 0), (.int .i64 0)], cAt b8 103 [(.int .u64 (((valB ((x.drop 16).take 8)) : Nat) : Int)), (vI (valB (((x.drop 16).take 12).drop 8))), (vI (valB (((x.drop 16).take 16).drop 12)))]] (fun _ h => h.pick [0] rfl rfl) (fun _ h => h) ?_
     refine anyDone (by kernel_rfl) ?_
     refine qThen ?_
     exact stMeet (b8) trivial ⟨rfl, rfl, rfl, rfl, rfl, rfl, rfl, rfl, rfl, rfl, rfl, rfl, rfl, rfl, rfl, rfl, rfl, rfl, rfl, rfl, rfl, rfl, rfl, rfl, rfl, rfl, rfl, rfl, trivial⟩ (fun _ h => h)
    ·refine opAlloc [(.int .u64 0), (.int .i64 0), (.int .i64 0)] rfl rfl (by kernel_rfl) (by kernel_rfl) (fun b8 => ?_)
     refine anyNext [cAt b4 103 [(.int .u64 0), (.int .i64 0), (.int .i64 0)]] (fun _ h => h) (fun _ h => h.pick [0] rfl rfl) ?_
     refine a1 9 ?_
     refine opK0 (fun w hM => (cVal_any (if c - 16 = 12 then (if c = 16 then A else A.map (·.add (16 * 1))) else (if c = 16 then A else A.map (·.add (16 * 1))).map (·.add (12 * 1))) ((c - 16) - 12) (((x.drop 16).take 16).drop 12) w (rs27.go0 hM) (by simp only [List.length_take, List.length_drop]; omega)).mono ?_)
     rintro e w' ⟨rfl, hP⟩
     refine ⟨_, _, rfl, hP, ?_⟩; clear hP hM
     refine St.to [cAt b4 103 [(.int .u64 0), (.int .i64 0), (.int .i64 0)], cAt b8 103 [(.int .u64 0), (.int .i64 0), (.int .i64 0)]] (by kernel_rfl) ?_
     refine anyNext [cAt b4 103 [(.int .u64 0), (.int .i64 0), (.int .i64 0)]] (fun _ h => h) (fun _ h => h.pick [0] rfl rfl) ?_
     refine av 10 (vI (valB (((x.drop 16).take 16).drop 12))) rfl (rIntC _ (fun _ => by kernel_rfl) rfl rfl (wrap64_id (by omega) (by have h1 := valB_lt (((x.drop 16).take 16).drop 12); have h2 : 256 ^ (((x.drop 16).take 16).drop 12).length ≤ 256 ^ 4 := Nat.pow_le_pow_right (by omega) (by rw [List.length_drop, List.length_take]; omega); omega))) ?_
     refine ac 11 (.agg #[(.int .u64 (((valB ((x.drop 16).take 8)) : Nat) : Int)), (vI (valB (((x.drop 16).take 12).drop 8))), (vI (valB (((x.drop 16).take 16).drop 12)))]) ?_
     refine a1 13 ?_
     refine opStoreN 1 [(.int .u64 (((valB ((x.drop 16).take 8)) : Nat) : Int)), (vI (valB (((x.drop 16).take 12).drop 8))), (vI (valB (((x.drop 16).take 16).drop 12)))] (vs := [(.int .u64 (((valB ((x.drop 16).take 8)) : Nat) : Int)), (vI (valB (((x.drop 16).take 12).drop 8))), (vI (valB (((x.drop 16).take 16).drop 12)))]) rfl rfl (by kernel_rfl) rfl rfl rfl (by kernel_rfl) rfl (by simp) (by simp [Value.oneCell']) rfl ?_
     refine anyNext [cAt b4 103 [(.int .u64 0), (.int .i64 0), (.int .i64 0)], cAt b8 103 [(.int .u64 (((valB ((x.drop 16).take 8)) : Nat) : Int)), (vI (valB (((x.drop 16).take 12).drop 8))), (vI (valB (((x.drop 16).take 16).drop 12)))]] (fun _ h => h.pick [0] rfl rfl) (fun _ h => h) ?_
     refine anyDone (by kernel_rfl) ?_
     refine qThen ?_
     exact stMeet (b8) trivial ⟨rfl, rfl, rfl, rfl, rfl, rfl, rfl, rfl, rfl, rfl, rfl, rfl, rfl, rfl, rfl, rfl, rfl, rfl, rfl, rfl, rfl, rfl, rfl, rfl, rfl, rfl, rfl, rfl, trivial⟩ (fun _ h => h)
   ·refine opAlloc [(.int .u64 0), (.int .i64 0), (.int .i64 0)] rfl rfl (by kernel_rfl) (by kernel_rfl) (fun b8 => ?_)
    refine anyNext [cAt b4 103 [(.int .u64 0), (.int .i64 0), (.int .i64 0)]] (fun _ h => h) (fun _ h => h.pick [0] rfl rfl) ?_
    refine a1 5 ?_
    refine opK0 (fun w hM => (cVal_any (if c - 16 = 8 then (if c = 16 then A else A.map (·.add (16 * 1))) else (if c = 16 then A else A.map (·.add (16 * 1))).map (·.add (8 * 1))) ((c - 16) - 8) (((x.drop 16).take 12).drop 8) w (rs23.go0 hM) (by simp only [List.length_take, List.length_drop]; omega)).mono ?_)
    rintro e w' ⟨rfl, hP⟩
    refine ⟨_, _, rfl, hP, ?_⟩; clear hP hM
    refine anyNext [cAt b4 103 [(.int .u64 0), (.int .i64 0), (.int .i64 0)]] (fun _ h => h) (fun _ h => h.pick [0] rfl rfl) ?_
    refine av 6 (vI (valB (((x.drop 16).take 12).drop 8))) rfl (rIntC _ (fun _ => by kernel_rfl) rfl rfl (wrap64_id (by omega) (by have h1 := valB_lt (((x.drop 16).take 12).drop 8); have h2 : 256 ^ (((x.drop 16).take 12).drop 8).length ≤ 256 ^ 4 := Nat.pow_le_pow_right (by omega) (by rw [List.length_drop, List.length_take]; omega); omega))) ?_
    refine a1 9 ?_
    refine opK0 (fun w hM => (cVal_any (if c - 16 = 12 then (if c = 16 then A else A.map (·.add (16 * 1))) else (if c = 16 then A else A.map (·.add (16 * 1))).map (·.add (12 * 1))) ((c - 16) - 12) (((x.drop 16).take 16).drop 12) w (rs27.go0 hM) (by simp only [List.length_take, List.length_drop]; omega)).mono ?_)
    rintro e w' ⟨rfl, hP⟩
    refine ⟨_, _, rfl, hP, ?_⟩; clear hP hM
    refine anyNext [cAt b4 103 [(.int .u64 0), (.int .i64 0), (.int .i64 0)]] (fun _ h => h) (fun _ h => h.pick [0] rfl rfl) ?_
    refine av 10 (vI (valB (((x.drop 16).take 16).drop 12))) rfl (rIntC _ (fun _ => by kernel_rfl) rfl rfl (wrap64_id (by omega) (by have h1 := valB_lt (((x.drop 16).take 16).drop 12); have h2 : 256 ^ (((x.drop 16).take 16).drop 12).length ≤ 256 ^ 4 := Nat.pow_le_pow_right (by omega) (by rw [List.length_drop, List.length_take]; omega); omega))) ?_
    refine ac 11 (.agg #[(.int .u64 (((valB ((x.drop 16).take 8)) : Nat) : Int)), (vI (valB (((x.drop 16).take 12).drop 8))), (vI (valB (((x.drop 16).take 16).drop 12)))]) ?_
    refine a1 13 ?_
    refine opStoreN 1 [(.int .u64 (((valB ((x.drop 16).take 8)) : Nat) : Int)), (vI (valB (((x.drop 16).take 12).drop 8))), (vI (valB (((x.drop 16).take 16).drop 12)))] (vs := [(.int .u64 (((valB ((x.drop 16).take 8)) : Nat) : Int)), (vI (valB (((x.drop 16).take 12).drop 8))), (vI (valB (((x.drop 16).take 16).drop 12)))]) rfl rfl (by kernel_rfl) rfl rfl rfl (by kernel_rfl) rfl (by simp) (by simp [Value.oneCell']) rfl ?_
    refine anyNext [cAt b4 103 [(.int .u64 0), (.int .i64 0), (.int .i64 0)], cAt b8 103 [(.int .u64 (((valB ((x.drop 16).take 8)) : Nat) : Int)), (vI (valB (((x.drop 16).take 12).drop 8))), (vI (valB (((x.drop 16).take 16).drop 12)))]] (fun _ h => h.pick [0] rfl rfl) (fun _ h => h) ?_
    refine anyDone (by kernel_rfl) ?_
    refine qThen ?_
    exact stMeet (b8) trivial ⟨rfl, rfl, rfl, rfl, rfl, rfl, rfl, rfl, rfl, rfl, rfl, rfl, rfl, rfl, rfl, rfl, rfl, rfl, rfl, rfl, rfl, rfl, rfl, rfl, rfl, rfl, rfl, rfl, trivial⟩ (fun _ h => h)
  ·refine opAlloc [(.int .u64 0), (.int .i64 0), (.int .i64 0)] rfl rfl (by kernel_rfl) (by kernel_rfl) (fun b8 => ?_)
   refine St.to [cAt b4 103 [(.int .u64 0), (.int .i64 0), (.int .i64 0)], cAt b8 103 [(.int .u64 0), (.int .i64 0), (.int .i64 0)]] (by kernel_rfl) ?_
   refine anyNext [cAt b4 103 [(.int .u64 0), (.int .i64 0), (.int .i64 0)]] (fun _ h => h) (fun _ h => h.pick [0] rfl rfl) ?_
   refine a1 2 ?_
   refine opK0 (fun w hM => (cVal_any (if c = 16 then A else A.map (·.add (16 * 1))) (c - 16) ((x.drop 16).take 8) w (rs20.go0 hM) (by simp only [List.length_take, List.length_drop]; omega)).mono ?_)
   rintro e w' ⟨rfl, hP⟩
   refine ⟨_, _, rfl, hP, ?_⟩; clear hP hM
   refine anyNext [cAt b4 103 [(.int .u64 0), (.int .i64 0), (.int .i64 0)]] (fun _ h => h) (fun _ h => h.pick [0] rfl rfl) ?_
   refine a1 5 ?_
   refine opK0 (fun w hM => (cVal_any (if c - 16 = 8 then (if c = 16 then A else A.map (·.add (16 * 1))) else (if c = 16 then A else A.map (·.add (16 * 1))).map (·.add (8 * 1))) ((c - 16) - 8) (((x.drop 16).take 12).drop 8) w (rs23.go0 hM) (by simp only [List.length_take, List.length_drop]; omega)).mono ?_)
   rintro e w' ⟨rfl, hP⟩
   refine ⟨_, _, rfl, hP, ?_⟩; clear hP hM
   refine anyNext [cAt b4 103 [(.int .u64 0), (.int .i64 0), (.int .i64 0)]] (fun _ h => h) (fun _ h => h.pick [0] rfl rfl) ?_
   refine av 6 (vI (valB (((x.drop 16).take 12).drop 8))) rfl (rIntC _ (fun _ => by kernel_rfl) rfl rfl (wrap64_id (by omega) (by have h1 := valB_lt (((x.drop 16).take 12).drop 8); have h2 : 256 ^ (((x.drop 16).take 12).drop 8).length ≤ 256 ^ 4 := Nat.pow_le_pow_right (by omega) (by rw [List.length_drop, List.length_take]; omega); omega))) ?_
   refine a1 9 ?_
   refine opK0 (fun w hM => (cVal_any (if c - 16 = 12 then (if c = 16 then A else A.map (·.add (16 * 1))) else (if c = 16 then A else A.map (·.add (16 * 1))).map (·.add (12 * 1))) ((c - 16) - 12) (((x.drop 16).take 16).drop 12) w (rs27.go0 hM) (by simp only [List.length_take, List.length_drop]; omega)).mono ?_)
   rintro e w' ⟨rfl, hP⟩
   refine ⟨_, _, rfl, hP, ?_⟩; clear hP hM
   refine anyNext [cAt b4 103 [(.int .u64 0), (.int .i64 0), (.int .i64 0)]] (fun _ h => h) (fun _ h => h.pick [0] rfl rfl) ?_
   refine av 10 (vI (valB (((x.drop 16).take 16).drop 12))) rfl (rIntC _ (fun _ => by kernel_rfl) rfl rfl (wrap64_id (by omega) (by have h1 := valB_lt (((x.drop 16).take 16).drop 12); have h2 : 256 ^ (((x.drop 16).take 16).drop 12).length ≤ 256 ^ 4 := Nat.pow_le_pow_right (by omega) (by rw [List.length_drop, List.length_take]; omega); omega))) ?_
   refine ac 11 (.agg #[(.int .u64 (((valB ((x.drop 16).take 8)) : Nat) : Int)), (vI (valB (((x.drop 16).take 12).drop 8))), (vI (valB (((x.drop 16).take 16).drop 12)))]) ?_
   refine a1 13 ?_
   refine opStoreN 1 [(.int .u64 (((valB ((x.drop 16).take 8)) : Nat) : Int)), (vI (valB (((x.drop 16).take 12).drop 8))), (vI (valB (((x.drop 16).take 16).drop 12)))] (vs := [(.int .u64 (((valB ((x.drop 16).take 8)) : Nat) : Int)), (vI (valB (((x.drop 16).take 12).drop 8))), (vI (valB (((x.drop 16).take 16).drop 12)))]) rfl rfl (by kernel_rfl) rfl rfl rfl (by kernel_rfl) rfl (by simp) (by simp [Value.oneCell']) rfl ?_
   refine anyNext [cAt b4 103 [(.int .u64 0), (.int .i64 0), (.int .i64 0)], cAt b8 103 [(.int .u64 (((valB ((x.drop 16).take 8)) : Nat) : Int)), (vI (valB (((x.drop 16).take 12).drop 8))), (vI (valB (((x.drop 16).take 16).drop 12)))]] (fun _ h => h.pick [0] rfl rfl) (fun _ h => h) ?_
   refine anyDone (by kernel_rfl) ?_
   refine qThen ?_
   exact stMeet (b8) trivial ⟨rfl, rfl, rfl, rfl, rfl, rfl, rfl, rfl, rfl, rfl, rfl, rfl, rfl, rfl, rfl, rfl, rfl, rfl, rfl, rfl, rfl, rfl, rfl, rfl, rfl, rfl, rfl, rfl, trivial⟩ (fun _ h => h)
 ·rintro b8 -
  show St _ _ _ [(0, (vI s)), (1, (vL A x c)), (4, (vP b4 0)), (5, (.slice none 0 0)), (6, (.bool false)), (9, (vL A x c)), (10, (vL (if c = 16 then A else A.map (·.add (16 * 1))) (x.drop 16) (c - 16))), (7, (vL (if c = 16 then A else A.map (·.add (16 * 1))) (x.drop 16) (c - 16))), (11, (vI s)), (12, (vL (if c = 16 then A else A.map (·.add (16 * 1))) (x.drop 16) (c - 16))), (14, (vL A x c)), (15, (vL A (x.take 16) c)), (16, (vS (x.take 16))), (13, (vS (chkB s (x.drop 16)))), (17, (.bool (!decide ((chkB s (x.drop 16)) = (x.take 16))))), (19, (vL (if c = 16 then A else A.map (·.add (16 * 1))) (x.drop 16) (c - 16))), (20, (vL (if c = 16 then A else A.map (·.add (16 * 1))) ((x.drop 16).take 8) (c - 16))), (22, (vL (if c = 16 then A else A.map (·.add (16 * 1))) (x.drop 16) (c - 16))), (23, (vL (if c - 16 = 8 then (if c = 16 then A else A.map (·.add (16 * 1))) else (if c = 16 then A else A.map (·.add (16 * 1))).map (·.add (8 * 1))) (((x.drop 16).take 12).drop 8) ((c - 16) - 8))), (26, (vL (if c = 16 then A else A.map (·.add (16 * 1))) (x.drop 16) (c - 16))), (27, (vL (if c - 16 = 12 then (if c = 16 then A else A.map (·.add (16 * 1))) else (if c = 16 then A else A.map (·.add (16 * 1))).map (·.add (12 * 1))) (((x.drop 16).take 16).drop 12) ((c - 16) - 12))), (21, (.int .u64 (((valB ((x.drop 16).take 8)) : Nat) : Int))), (24, (.int .u64 (((valB (((x.drop 16).take 12).drop 8)) : Nat) : Int))), (25, (vI (valB (((x.drop 16).take 12).drop 8)))), (28, (.int .u64 (((valB (((x.drop 16).take 16).drop 12)) : Nat) : Int))), (29, (vI (valB (((x.drop 16).take 16).drop 12)))), (30, (.agg #[(.int .u64 (((valB ((x.drop 16).take 8)) : Nat) : Int)), (vI (valB (((x.drop 16).take 12).drop 8))), (vI (valB (((x.drop 16).take 16).drop 12)))])), (8, (vP b8 0))] [cAt b4 103 [(.int .u64 0), (.int .i64 0), (.int .i64 0)], cAt b8 103 [(.int .u64 (((valB ((x.drop 16).take 8)) : Nat) : Int)), (vI (valB (((x.drop 16).take 12).drop 8))), (vI (valB (((x.drop 16).take 16).drop 12)))]] _
  refine stSeq ?_
  refine St.to [cAt b4 103 [(.int .u64 0), (.int .i64 0), (.int .i64 0)], cAt b8 103 [(.int .u64 (((valB ((x.drop 16).take 8)) : Nat) : Int)), (vI (valB (((x.drop 16).take 12).drop 8))), (vI (valB (((x.drop 16).take 16).drop 12)))]] (by kernel_rfl) ?_
  refine anyBegin [cAt b4 103 [(.int .u64 0), (.int .i64 0), (.int .i64 0)], cAt b8 103 [(.int .u64 (((valB ((x.drop 16).take 8)) : Nat) : Int)), (vI (valB (((x.drop 16).take 12).drop 8))), (vI (valB (((x.drop 16).take 16).drop 12)))]] 3 (by kernel_rfl) (fun _ h => h) ?_
  refine av 0 (.agg #[(.int .u64 (((valB ((x.drop 16).take 8)) : Nat) : Int)), (vI (valB (((x.drop 16).take 12).drop 8))), (vI (valB (((x.drop 16).take 16).drop 12)))]) rfl (rLoadA [(.int .u64 (((valB ((x.drop 16).take 8)) : Nat) : Int)), (vI (valB (((x.drop 16).take 12).drop 8))), (vI (valB (((x.drop 16).take 16).drop 12)))] rfl rfl (by kernel_rfl) (by kernel_rfl) (segAt (i := 1) rfl (by intro j v hj; first | (rw [Nat.zero_add]; exact hj) | (match j, hj with | 0, h => exact h | 1, h => exact h | 2, h => exact h)))) ?_
  refine am 1 ?_
  have rs33 := rs10.imp (fun _ hrow => rowDrop 16 (hrow) (hbc))
  refine avP 2 (vL (if c - 16 = 16 then (if c = 16 then A else A.map (·.add (16 * 1))) else (if c = 16 then A else A.map (·.add (16 * 1))).map (·.add (16 * 1))) ((x.drop 16).drop 16) ((c - 16) - 16)) rfl (fun _ => rConv (rSliceLo (e := 5) (sz := 1) (k := 16) rfl (by kernel_rfl) (by kernel_rfl) rfl rfl (by omega)) (by show Value.slice _ _ _ = Value.slice _ _ _; simp only [List.length_drop])) ?_
  refine a1 3 ?_
  refine opStoreN 0 [(.int .u64 (((valB ((x.drop 16).take 8)) : Nat) : Int)), (vI (valB (((x.drop 16).take 12).drop 8))), (vI (valB (((x.drop 16).take 16).drop 12)))] (vs := [(.int .u64 (((valB ((x.drop 16).take 8)) : Nat) : Int)), (vI (valB (((x.drop 16).take 12).drop 8))), (vI (valB (((x.drop 16).take 16).drop 12)))]) rfl rfl (by kernel_rfl) rfl rfl rfl (by kernel_rfl) rfl (by simp) (by simp [Value.oneCell']) rfl ?_
  refine anyPhase [cAt b4 103 [(.int .u64 (((valB ((x.drop 16).take 8)) : Nat) : Int)), (vI (valB (((x.drop 16).take 12).drop 8))), (vI (valB (((x.drop 16).take 16).drop 12)))], cAt b8 103 [(.int .u64 (((valB ((x.drop 16).take 8)) : Nat) : Int)), (vI (valB (((x.drop 16).take 12).drop 8))), (vI (valB (((x.drop 16).take 16).drop 12)))]] 6 rfl (fun _ h => h) ?_
  refine aa 4 ?_
  refine aa 5 ?_
  refine anyDone (by kernel_rfl) ?_
  refine qThen (stRet ?_)
  refine stEnd [(.agg #[(.int .u64 (((valB ((x.drop 16).take 8)) : Nat) : Int)), (vI (valB (((x.drop 16).take 12).drop 8))), (vI (valB (((x.drop 16).take 16).drop 12)))]), (vL (if c - 16 = 16 then (if c = 16 then A else A.map (·.add (16 * 1))) else (if c = 16 then A else A.map (·.add (16 * 1))).map (·.add (16 * 1))) ((x.drop 16).drop 16) ((c - 16) - 16)), (.bool true)] rfl ⟨⟨_, rfl, fun w hM => run_loadVarA (by kernel_rfl) (by kernel_rfl) (segAt (i := 0) (off := 0) rfl (by intro j v hj; rw [Nat.zero_add]; exact hj) w hM)⟩, rfl, rfl, trivial⟩ (fun w hM => ?_)
  refine ⟨_, _, congrArg _ (congrArg (fun n => Value.tuple #[_, Value.slice _ n _, _]) (by rw [List.drop_drop])), Mm.of_fr hM.fr, fun w h => ?_⟩
  have h2 := rowDrop 16 (rowDrop 16 h hcap) hbc
  rwa [List.drop_drop] at h2
end Go.Proofs.YtaiggifiefnjnaaGreatDoor
namespace Go.Proofs.YtaiggifiefnjnaaGreatDoor
open Go.RowKit
theorem divB_some {s k sm d : Bs} (h : divB s = some (k, sm, d)) : 33 ≤ s.length ∧ ∃ x, s[0]? = some x ∧ 1 ≤ x.toNat ∧ x.toNat ≤ 64 ∧ 33 + x.toNat ≤ s.length ∧ k = (s.take (33 + x.toNat)).drop 33 ∧ sm = (s.take 33).drop 1 ∧ d = s.drop (33 + x.toNat) ∧ d.length ≤ 65536 ∧ sha d = sm := by
 unfold divB at h
 split at h
 ·cases h
 rename_i h1
 obtain ⟨x, hx⟩ : ∃ x, s[0]? = some x := ⟨_, List.getElem?_eq_getElem (by omega)⟩
 have hd : s.headD 0 = x := by cases s with | nil => simp at hx | cons a l => simp at hx; simp [hx]
 rw [hd] at h
 simp only at h
 split at h
 ·cases h
 rename_i h2
 split at h
 ·cases h
 rename_i h3
 simp only [Option.some.injEq, Prod.mk.injEq] at h
 obtain ⟨rfl, rfl, rfl⟩ := h
 refine ⟨by omega, x, hx, by omega, by omega, by omega, rfl, rfl, rfl, by omega, ?_⟩
 exact Classical.byContradiction fun e => h3 (.inr e)
theorem row_none {w : World} {bs : Bs} (h : RowIn w none (B8 bs)) : bs = [] := by
 cases bs with
 | nil => rfl
 | cons a l => obtain ⟨b, o, hA, _⟩ := h 0 _ rfl; cases hA
theorem cClone_any (A : Option Addr) (c : Nat) (bs : List UInt8) (w : World) (r0 : Rf [] w (fun w => RowIn w A (B8 bs))) (hl : bs.length ≤ 1000000) :
  Calls Tryz.prog 65 #[(vL A bs c)] w fun e w' => ∃ (B : Option Addr) (cb : Nat), e = .returned (vL B bs cb) ∧ Back [] w [cRw B (B8 bs)] w' ∧ (bs.length ≤ cb) := by
 have _u0 := r0
 have _u1 := hl
 clear _u0 _u1
 refine stEnter (args := [(vL A bs c)]) (fps []) Tryz.func65 rfl 8 rfl [(0, (vL A bs c))] ⟨rfl, trivial⟩ [] (Mm.start w []) ?_
 refine stSeq (reg ?_)
 refine la ?_
 refine liNil (qThen (stSeq (stSeq ?_)))
 rcases A with _ | ⟨ab, ao, an⟩
 ·obtain rfl : bs = [] := row_none r0.here
  refine reg ?_
  refine lm ?_
  refine lc (.bool true) ?_
  refine liNil (qThen (stTrue rfl (stSeq (reg ?_))))
  refine la ?_
  refine liNil (qThen (stRet (qThenR ?_)))
  refine stEnd [(.slice none 0 0)] rfl ⟨rfl, trivial⟩ (fun w hM => ?_)
  exact ⟨none, 0, rfl, hM.nilRw none, Nat.zero_le _⟩
 ·refine reg ?_
  refine lm ?_
  refine lc (.bool false) ?_
  refine liNil (qThen (stFalse rfl (stSkip (qThen (stSeq (reg (li rfl ?_)))))))
  refine opNew (v := fun b => .slice (some ⟨b, 0, none⟩) 0 0) 5 [] rfl (by kernel_rfl) (fun _ => by kernel_rfl) (fun b5 => ?_)
  refine lm ?_
  refine li rfl ?_
  refine opMem (fun w hM => hM.toOwn0 0 rfl 1) ?_
  refine opAppend el_u8 0 (B8 bs) rfl rfl (by kernel_rfl) rfl rfl rfl (by simp [B8]) (fun w hM => CellsAt.of_row (r0.now hM)) ((B8_one _)) (by omega) ((bs).length) (by first | exact (List.length_append ..).symm | (simp; done) | (simp; omega)) (B8 (bs)) (by simp [B8]) (fun A7 c7 => ?_)
  refine la ?_
  refine liNil (qThen (stRet ?_))
  refine stEnd [(vL A7 (bs) c7)] rfl ⟨rfl, trivial⟩ (fun w hM => ?_)
  exact ⟨A7, c7, rfl, hM.toRw 0 rfl, own_cap (hM.at (i := 0) rfl)⟩
theorem cDiv_ok (A : Option Addr) (c : Nat) (s : List UInt8) (k : List UInt8) (sm : List UInt8) (d : List UInt8) (w : World) (r0 : Rf [] w (Vars)) (r1 : Rf [] w (fun w => RowIn w A (B8 s))) (hl : s.length ≤ 1000000) (hcap : s.length ≤ c) (hd : divB s = some (k, sm, d)) :
  Calls Tryz.prog 47 #[(vL A s c)] w fun e w' => ∃ (B : Option Addr) (cb : Nat), e = .returned (.tuple #[(vS k), (vS sm), (vL B d cb), (.bool true)]) ∧ Back [] w [cRw B (B8 d)] w' := by
 have _u0 := r0
 have _u1 := r1
 have _u2 := hl
 have _u3 := hcap
 have _u4 := hd
 clear _u0 _u1 _u2 _u3 _u4
 obtain ⟨g0, y, gy, g1, g2, g3, gk, gm, gd, g4, g5⟩ := divB_some hd
 rw [gd] at g4 g5
 rw [gm] at g5
 refine stEnter (args := [(vL A s c)]) (fps []) Tryz.func47 rfl 53 rfl [(0, (vL A s c))] ⟨rfl, trivial⟩ [] (Mm.start w []) ?_
 refine stSeq (reg ?_)
 refine la ?_
 refine la ?_
 refine la ?_
 refine la ?_
 refine liNil (qThen (stSeq (stSeq (reg ?_))))
 refine lm ?_
 refine lc (vI s.length) ?_
 refine lc (.bool (decide (((s.length : Nat) : Int) < 33))) ?_
 refine liNil (qThen ?_)
 refine stFalseK rfl (by simp; omega) ?_
 refine stSkip (qThen (stSeq (reg ?_)))
 refine lm ?_
 obtain ⟨x0, hx0⟩ : ∃ ξ, (s)[0]? = some ξ := ⟨_, List.getElem?_eq_getElem (by omega)⟩
 refine St.rowPtr (fun w hM => r1.now hM) (B8_at hx0) (fun p13 q13 hA13 hc13 => ?_)
 refine lv (v := (vP p13 (q13 + 0))) (rIndexRow (e := 5) rfl (by kernel_rfl) (by kernel_rfl) rfl rfl hA13 (by omega)) ?_
 refine lv (v := (.int .u8 ((x0.toNat : Nat) : Int))) (rLoadW rfl rfl (by kernel_rfl) hc13) ?_
 refine lv (v := (vI x0.toNat)) (rIntC _ (fun _ => by kernel_rfl) rfl rfl (wrap64_id (by omega) (by have := UInt8.toNat_lt x0; omega))) ?_
 obtain rfl : x0 = y := by rw [hx0] at gy; exact Option.some.inj gy
 have hx8 := UInt8.toNat_lt x0
 refine la ?_
 refine liNil (qThen (stSeq (stSeq (reg ?_))))
 refine lm ?_
 refine lc (.bool (decide (((x0.toNat : Nat) : Int) < 1))) ?_
 refine lm ?_
 refine St.known 18 (b' := false) rfl (by simp; omega) ?_
 refine lgm ?_
 refine lgc (.bool (decide (((x0.toNat : Nat) : Int) > 64))) ?_
 refine lc (.bool (decide (((x0.toNat : Nat) : Int) > 64))) ?_
 refine lm ?_
 refine St.known 22 (b' := false) rfl (by simp; omega) ?_
 refine lgm ?_
 refine lgc (vI s.length) ?_
 refine lgm ?_
 refine lgv (v := (vI (33 + x0.toNat))) (rAdd _ rfl rfl rfl (by omega) (by omega) (by omega)) ?_
 refine lgc (.bool (decide (((s.length : Nat) : Int) < ((33 + x0.toNat : Nat) : Int)))) ?_
 refine lc (.bool (decide (((s.length : Nat) : Int) < ((33 + x0.toNat : Nat) : Int)))) ?_
 refine liNil (qThen ?_)
 refine stFalseK rfl (by simp; omega) ?_
 refine stSkip (qThen (stSeq (reg ?_)))
 refine lm ?_
 have rs30 := r1.imp (fun _ hrow => rowMid 1 33 (hrow) (hcap))
 refine lv (v := (vL (if c = 1 then A else A.map (·.add (1 * 1))) ((s.take 33).drop 1) (c - 1))) (rConv (rSliceLH (e := 5) (sz := 1) (k := 1) (m := 33) rfl (by kernel_rfl) (by kernel_rfl) rfl rfl rfl (by omega) (by have := hcap; omega)) (by show Value.slice _ _ _ = Value.slice _ _ _; rw [List.length_drop, List.length_take, Nat.min_eq_left (by omega)])) ?_
 refine lv (v := (vS ((s.take 33).drop 1))) (rStr (e := 5) ((s.take 33).drop 1) rfl (by kernel_rfl) (by kernel_rfl) (by kernel_rfl) rfl rfl (fun w hM => rs30.now hM)) ?_
 refine la ?_
 refine liNil (qThen (stSeq (reg ?_)))
 refine lm ?_
 refine lm ?_
 refine lv (v := (vI (33 + x0.toNat))) (rAdd _ rfl rfl rfl (by omega) (by omega) (by omega)) ?_
 have rs35 := r1.imp (fun _ hrow => rowDrop (33 + x0.toNat) (hrow) (hcap))
 refine lv (v := (vL (if c = 33 + x0.toNat then A else A.map (·.add ((33 + x0.toNat) * 1))) (s.drop (33 + x0.toNat)) (c - (33 + x0.toNat)))) (rConv (rSliceLo (e := 5) (sz := 1) (k := 33 + x0.toNat) rfl (by kernel_rfl) (by kernel_rfl) rfl rfl (by omega)) (by show Value.slice _ _ _ = Value.slice _ _ _; simp only [List.length_drop])) ?_
 refine li rfl ?_
 refine opK0 (fun w hM => (cClone_any (if c = 33 + x0.toNat then A else A.map (·.add ((33 + x0.toNat) * 1))) (c - (33 + x0.toNat)) (s.drop (33 + x0.toNat)) w (rs35.go0 hM) (by rw [List.length_drop]; omega)).mono ?_)
 rintro e w' ⟨B36, cb36, rfl, hP, hcap36⟩
 refine ⟨_, _, rfl, hP, ?_⟩; clear hP hM
 refine la ?_
 refine liNil (qThen (stSeq (stSeq (reg ?_))))
 refine lm ?_
 refine lc (vI ((s.drop (33 + x0.toNat)).length)) ?_
 refine lc (.bool (decide ((((s.drop (33 + x0.toNat)).length : Nat) : Int) > 65536))) ?_
 refine lm ?_
 refine St.known 40 (b' := false) rfl (by simp only [List.length_drop] at *; simp; omega) ?_
 refine lgm ?_
 refine liGo rfl rfl ?_
 refine opK0 (fun w hM => (cSum_any B36 cb36 (s.drop (33 + x0.toNat)) w (r0.go0 hM) (hM.keep0 (j := 0) rfl (fun _ h => cRw_row h)) (hcap36) (by simp only [List.length_drop]; omega)).mono ?_)
 rintro e w' ⟨rfl, hP⟩
 refine ⟨_, _, rfl, hP, ?_⟩; clear hP hM
 refine lgm ?_
 refine lgv (v := (.bool (!decide (sha (s.drop (33 + x0.toNat)) = ((s.take 33).drop 1))))) (rStrNe rfl rfl rfl) ?_
 refine lc (.bool (!decide (sha (s.drop (33 + x0.toNat)) = ((s.take 33).drop 1)))) ?_
 refine liNil (qThen ?_)
 refine stFalseK rfl (by simpa using g5) ?_
 refine stSkip (qThen (stSeq (reg ?_)))
 refine lm ?_
 refine lm ?_
 refine lv (v := (vI (33 + x0.toNat))) (rAdd _ rfl rfl rfl (by omega) (by omega) (by omega)) ?_
 have rs49 := r1.imp (fun _ hrow => rowMid 33 (33 + x0.toNat) (hrow) (hcap))
 refine lv (v := (vL (if c = 33 then A else A.map (·.add (33 * 1))) ((s.take (33 + x0.toNat)).drop 33) (c - 33))) (rConv (rSliceLH (e := 5) (sz := 1) (k := 33) (m := 33 + x0.toNat) rfl (by kernel_rfl) (by kernel_rfl) rfl rfl rfl (by omega) (by have := hcap; omega)) (by show Value.slice _ _ _ = Value.slice _ _ _; rw [List.length_drop, List.length_take, Nat.min_eq_left (by omega)])) ?_
 refine lv (v := (vS ((s.take (33 + x0.toNat)).drop 33))) (rStr (e := 5) ((s.take (33 + x0.toNat)).drop 33) rfl (by kernel_rfl) (by kernel_rfl) (by kernel_rfl) rfl rfl (fun w hM => rs49.now hM)) ?_
 refine lm ?_
 refine lm ?_
 refine la ?_
 refine la ?_
 refine la ?_
 refine la ?_
 refine liNil (qThen (stRet ?_))
 refine stEnd [(vS ((s.take (33 + x0.toNat)).drop 33)), (vS ((s.take 33).drop 1)), (vL B36 (s.drop (33 + x0.toNat)) cb36), (.bool true)] rfl ⟨rfl, rfl, rfl, rfl, trivial⟩ (fun w hM => ?_)
 subst gk gm gd
 exact ⟨B36, cb36, rfl, hM⟩
end Go.Proofs.YtaiggifiefnjnaaGreatDoor
namespace Go.Proofs.YtaiggifiefnjnaaGreatDoor
open Go.RowKit Go.Maps Go.Sort Go.Shelf
abbrev encU : Int → Value := Value.int .u64
theorem encU_inj {x y : Int} (h : encU x = encU y) : x = y := by simpa [encU] using h
theorem keyOf_u64 {key : Value} {kl : Lit} (h : keyOf Tryz.prog 62 key = some kl) : ∃ x : Int, key = encU x ∧ kl = .int .u64 x ∧ (Lit.int .u64 x).wf = true := by
 have hk := Tryz.underlying62
 cases key <;> simp [keyOf, hk, mapKey] at h
 rename_i q a
 obtain ⟨⟨rfl, hw⟩, rfl⟩ := h
 exact ⟨a, rfl, rfl, hw⟩
def ColU (D0 : DataW Unit) (left : Lit → Bool) (ss : List Int) : Prop := ss.Nodup ∧ ∀ x, x ∈ ss ↔ (Maps.has D0 (.int .u64 x) = true ∧ left (.int .u64 x) = false)
def GivesU (D0 : DataW Unit) (ss : List Int) : Prop := ss.Nodup ∧ ∀ x, x ∈ ss ↔ Maps.has D0 (.int .u64 x) = true
theorem ColU.start (D0 : DataW Unit) : ColU D0 (Maps.has D0) [] := ⟨List.nodup_nil, fun x => by cases Maps.has D0 (.int .u64 x) <;> simp⟩
theorem ColU.step {D0 : DataW Unit} {left : Lit → Bool} {ss : List Int} (h : ColU D0 left ss) {x : Int} {y : DataW Unit} (hlk : left (.int .u64 x) = true) (hat : ∀ zd, D0.atKey (.int .u64 x) zd = y) : ColU D0 (fun z => left z && !z.sameKey (.int .u64 x)) (ss ++ [x]) := by
 have hhas : Maps.has D0 (.int .u64 x) = true := has_true_of_atKey hat
 have hnew : x ∉ ss := fun hx => by rw [((h.2 x).1 hx).2] at hlk; cases hlk
 refine ⟨List.nodup_append.2 ⟨h.1, by simp, fun a ha b hb e => ?_⟩, fun y => ?_⟩
 ·rw [List.mem_singleton] at hb
  exact hnew (hb ▸ e ▸ ha)
 ·by_cases hy : y = x
  ·subst hy; simp [hhas, Lit.sameKey]
  ·simp [h.2 y, hy, Lit.sameKey]
theorem ColU.gives {D0 : DataW Unit} {left : Lit → Bool} {ss : List Int} (h : ColU D0 left ss) (hl : ∀ kl, left kl = false) : GivesU D0 ss := ⟨h.1, fun x => by rw [h.2 x, hl]; simp⟩
set_option maxHeartbeats 2000000 in
theorem Us.keys1N_in (F : Fence) (n : Nat) (h10 : F.fn 64) (hro : F.round = none) (hn : 1 ≤ n) (l Bm b nn : Nat) (D0 : DataW Unit) (J : List Int → World → Prop)
  (hY : ∀ pre x W, J pre W → pre.length < Maps.size D0 → YieldAt F (n - 1) Tryz.prog l #[encU x] W fun e W' => e = .returned (.bool true) ∧ J (pre ++ [x]) W' ∧ KeepsWalks W W')
  (W : World) (hJ : AbidesFrom W.heap.size J) (hm : W.cell? ⟨Bm, 0, none⟩ = some (.map (some b))) (hown : W.ownsMap Tryz.prog 62 R0 b nn D0) (h0 : J [] W) :
  CallsIn F n Tryz.prog 64 #[.func (.yield l) #[] #[], .pointer (some ⟨Bm, 0, none⟩)] W fun e W' => (∃ v, e = .returned v) ∧ ∃ ss : List Int, GivesU D0 ss ∧ J ss W' := by
 refine callsIn_of_wp Tryz.func64 rfl h10 ?_ hro
 simp only [Tryz.ntmps64, List.size_toArray, List.length_cons, List.length_nil, Nat.reduceAdd, Nat.reduceSub, Array.replicate_succ, Array.replicate_zero, List.push_toArray, List.append_toArray, List.nil_append, List.cons_append]
 gi_wp2_with (first
  | (gi_at_range; refine wpListIn_range_own _ rfl _ 85 rfl 62 93 (Maps.int_keyed Tryz.underlying62) Tryz.underlying85 _ b nn _ rfl hown ?_; intro w0 hrg0 hg0 hs0)
  | gi_in)
 go_frame
 gi_loopw [3] (fun _ wr => ∃ (left : Lit → Bool) (cnt : Nat) (ss : List Int), wr.ranges Tryz.prog 62 R0 b W.heap.size nn D0 left cnt ∧ ss.length + cnt ≤ Maps.size D0 ∧ ColU D0 left ss ∧ J ss wr)
  (fun _ wr => wr.rangeLeft b W.heap.size)
 case atStart =>
  exact ⟨_, _, [], hrg0, by simp, ColU.start D0, hJ [] W w0 none h0 hg0 (fun r e => by cases e)⟩
 case round =>
  obtain ⟨left, cnt, ss, hrg, hcs, hC, hJs⟩ := hrel
  gi_wp2_with (first
   | (gi_at_next; refine wpListIn_next_ranges _ rfl _ rfl 62 (Maps.int_keyed Tryz.underlying62) R0 encU id (fun key kl hk => by obtain ⟨x, hx, _⟩ := keyOf_u64 hk; exact ⟨x, hx⟩) (fun v _ _ => ⟨v, rfl⟩) b W.heap.size nn _ _ _ rfl hrg ?_ ?_)
   | gi_in)
  ·
   intro hc0 hl0
   gi_wp2
   go_end0
   exact ⟨⟨_, rfl⟩, ss, hC.gives hl0, hJs⟩
  ·
   intro x c kl yd yp w2 cnt2 hkey hlk hv hat hrg2 hlt hg2 hs2 hen
   obtain ⟨x', ex, rfl, _⟩ := keyOf_u64 hkey
   obtain rfl : x = x' := encU_inj ex
   have hJ2 : J ss w2 := hJ ss wr w2 (some W.heap.size) hJs hg2 (fun r e => by cases e; exact ⟨Nat.le_refl _, hrg.iter_walk⟩)
   obtain ⟨fn, tmps, assign, body, hy, hR⟩ := hY ss x w2 hJ2 (by omega)
   clear hs2
   gi_wp2
   refine hR.mono ?_
   rintro e W3 ⟨rfl, hJ3, hk3⟩
   gi_wp2
   have hrg3 := hrg2.of_walks hk3
   go_roundw
   case rel => exact ⟨_, cnt2, ss ++ [x], hrg3, by simp; omega, hC.step hlk hat, hJ3⟩
   case measure => rw [hrg3.left_eq, hrg.left_eq]; exact hlt
theorem Us.keys_gives (F : Fence) (n : Nat) (h10 : F.fn 64) (hro : F.round = none) (hn : 1 ≤ n) (Bm b nn : Nat) (D0 : DataW Unit) (w : World) (hBm : Bm < w.heap.size)
  (hm : w.cell? ⟨Bm, 0, none⟩ = some (.map (some b))) (hown : w.ownsMap Tryz.prog 62 R0 b nn D0) :
  SeqGives F n Tryz.prog 64 #[.pointer (some ⟨Bm, 0, none⟩)] encU (fun ss => GivesU D0 ss) (Maps.size D0) w := fun l J W hW hJ hY h0 => by
 have hown' : W.ownsMap Tryz.prog 62 R0 b nn D0 := by
  have hbl := hown.lt
  obtain ⟨es, clock, hb, Ft, hs, hD⟩ := hown
  exact ⟨es, clock, (hW.block b hbl).trans hb, Ft, hs, hD⟩
 exact Us.keys1N_in F n h10 hro hn l Bm b nn D0 J hY W hJ ((hW.cell (p := ⟨Bm, 0, none⟩) hBm).trans hm) hown' h0
def Us.apAssign : Code := (Code.region 2 #[{ dst := some 5, op := Op.assign (Operand.tmp 7), type := 62, pos := "iter.go:51", after := #[], guard := none }] false)
def Us.apBody : Code := (Code.block 1 (Code.region 3 #[{ dst := some 8, op := Op.load 88 (Operand.tmp 2), type := 88, pos := "iter.go:52", after := #[], guard := none }, { dst := some 9, op := Op.move (Operand.tmp 5), type := 62, pos := "iter.go:52", after := #[], guard := none }, { dst := some 10, op := Op.buildSlice 88 1 #[(0, Operand.tmp 9)], type := 88, pos := "iter.go:52", after := #[{ on := 1, ground := Ground.data }], guard := none }, { dst := some 11, op := Op.call { callee := Callee.builtin Builtin.append, args := #[Operand.tmp 8, Operand.tmp 10], argTypes := #[88, 88] }, type := 88, pos := "iter.go:52", after := #[{ on := 0, ground := Ground.data }, { on := 2, ground := Ground.data }], guard := none }, { dst := none, op := Op.store 88 (Operand.tmp 2) (Operand.tmp 11), type := 0, pos := "iter.go:52", after := #[{ on := 3, ground := Ground.data }, { on := 3, ground := Ground.chain }, { on := 0, ground := Ground.phase }, { on := 1, ground := Ground.phase }, { on := 2, ground := Ground.phase }, { on := 3, ground := Ground.phase }], guard := none }] false))
def Us.apRec (fn : FuncId) (sv : Value) (Bs D : Nat) (st : LoopState) (pend : Option Code) : Loop :=
 { state := st, pending := pend, fn, tmps := #[.slice none 0 0, sv, .pointer (some ⟨Bs, 0, none⟩), undef, .slice none 0 0, undef, sv, undef, undef, undef, undef, undef, undef], params := #[7], assign := Us.apAssign, body := Us.apBody, defers := D }
structure Us.ApAt (w0 : World) (fn : FuncId) (sv : Value) (Bs l D : Nat) (ss : List Int) (W : World) : Prop where
 box : ∃ v, W.heap[Bs]? = some (.cells #[v] 88 (0, 0)) ∧ W.ownsRow w0.heap.size 62 1 v ss.length (ss.map encU) ∧ (v = .slice none 0 0 ↔ ss = [])
 L : W.heap[l]? = some (.loop (Us.apRec fn sv Bs D .ready none))
 K : W.heap[D]? = some (.deferred (some []))
 below : Below w0.heap.size w0 W
theorem Us.ap_abides (w0 : World) (fn : FuncId) (sv : Value) (Bs l D B : Nat) (hB : w0.heap.size ≤ B) : AbidesFrom B (Us.ApAt w0 fn sv Bs l D) := fun s W W' row h hg hrow => by
 have hrow' : ∀ r, row = some r → ∃ o : Obj, W.heap[r]? = some o ∧ o.isWalk = true := fun r e => (hrow r e).2
 obtain ⟨v, hv, hr, hn⟩ := h.box
 exact ⟨⟨v, (grownBy_keeps hg hrow' hv rfl).trans hv, ownsRow_abides_a hr hg hrow', hn⟩, (grownBy_keeps hg hrow' h.L rfl).trans h.L, (grownBy_keeps hg hrow' h.K rfl).trans h.K,
  h.below.grown hg h.below.size (fun k e => Nat.le_trans hB (hrow k e).1)⟩
theorem Us.info26 : (Tryz.prog.info? 62).map (fun i => (i.zero, i.size, i.bytes)) = some (some (.int .u64 0), 1, 8) := by kernel_rfl
set_option maxHeartbeats 2000000 in
theorem Us.apYield (F : Fence) (m : Nat) (w0 : World) (fn : FuncId) (hfn : F.fn fn) (sv : Value) (Bs l D : Nat) (hBl : Bs ≠ l) (hDl : D ≠ l) (hDB : D ≠ Bs) (h0B : w0.heap.size ≤ Bs) (h0l : w0.heap.size ≤ l)
  (N : Nat) (hN : N ≤ maxLen) (hNb : N * 8 ≤ 140737488355328) (ss : List Int) (x : Int) (W : World) (h : Us.ApAt w0 fn sv Bs l D ss W) (hlen : ss.length < N) :
  YieldAt F m Tryz.prog l #[encU x] W fun e W' => e = .returned (.bool true) ∧ Us.ApAt w0 fn sv Bs l D (ss ++ [x]) W' ∧ KeepsWalks W W' := by
 obtain ⟨i0, hi, hz0, hz1, hz2⟩ := info_parts Us.info26
 obtain ⟨v, hv, hrow, _⟩ := h.box
 refine ⟨fn, #[.slice none 0 0, sv, .pointer (some ⟨Bs, 0, none⟩), undef, .slice none 0 0, undef, sv, encU x, undef, undef, undef, undef, undef], Us.apAssign, Us.apBody, by simpa [Us.apRec] using run_yield (P := Tryz.prog) (args := #[encU x]) h.L rfl, roundIn_of_wpIn hfn ?_⟩
 have hl : l < W.heap.size := (Array.getElem?_eq_some_iff.1 h.L).1
 have hbr := run_beginRound (P := Tryz.prog) h.L rfl
 obtain ⟨W2, hW2⟩ : ∃ W2, W.putObj l (.loop { Us.apRec fn sv Bs D .ready none with state := .busy }) = W2 := ⟨_, rfl⟩
 rw [hW2] at hbr
 have hg2 : W.grownBy W2 (some l) := by rw [← hW2]; exact grownBy_putObj_a _ _ _
 have hk2 : KeepsWalks W W2 := by rw [← hW2]; exact KeepsWalks.putObj _ h.L rfl
 have hv2 : W2.heap[Bs]? = some (.cells #[v] 88 (0, 0)) := by rw [← hW2]; exact (World.putObj_heap_other hBl).trans hv
 have hK2 : W2.heap[D]? = some (.deferred (some [])) := by rw [← hW2]; exact (World.putObj_heap_other hDl).trans h.K
 have hL2 : W2.heap[l]? = some (.loop { Us.apRec fn sv Bs D .ready none with state := .busy }) := by rw [← hW2]; exact World.putObj_heap_same hl
 have hrow2 : W2.ownsRow w0.heap.size 62 1 v ss.length (ss.map encU) := hrow.kept hg2 (ownsRow_ne_a hrow h.L (fun cur e => by cases e))
 have hb2 : Below w0.heap.size w0 W2 := h.below.grown hg2 h.below.size (fun k e => by cases e; exact h0l)
 obtain ⟨hc2, hf2⟩ := cell_of_box_a hv2
 have hBlt : Bs < W2.heap.size := (Array.getElem?_eq_some_iff.1 hv2).1
 have hl2 : l < W2.heap.size := (Array.getElem?_eq_some_iff.1 hL2).1
 have hDlt : D < W2.heap.size := (Array.getElem?_eq_some_iff.1 hK2).1
 have ne_of : ∀ {j : Nat} {o : Obj}, W2.heap[j]? = some o → (∀ cur, o ≠ .cells cur 62 (0, 0)) → some j ≠ v.ownBlock := fun hj hno => by
  rcases ownsRow_ne_a hrow2 hj hno with e | e
  ·rw [e]; simp
  ·exact fun e' => e e'.symm
 clear hW2
 unfold Us.apAssign
 gi_wp2_with (rw [Oper.semAt_eq _ _ _ (fun c h => by cases h)]; go_simp; try go_bits)
 unfold Us.apBody
 gi_wp2_with (first
  | (
    gi_at_builtin; refine wpListIn_append_own _ rfl _ _ 88 rfl w0.heap.size 62 i0 (.int .u64 0) 1 8 Tryz.underlying88 hi hz0 hz1 hz2 rfl (by decide) _ _ _ rfl (hrow2.alloc _) ⟨W2.heap.size, 0, none⟩ 1 1 [encU x] rfl rfl (cell_one_new _ _ _) (by simp [Value.oneCell', encU]) (by omega) (by omega) (by have := hb2.size; simp; omega) ?_; intro v' w3 hown' hg3 hnil3
    have hv3 : w3.heap[Bs]? = some (.cells #[v] 88 (0, 0)) := (hg3.block Bs (by simp; omega) (ne_of hv2 (fun cur e => by cases e))).trans ((Below.heap_alloc _ _ Bs hBlt).trans hv2)
    obtain ⟨hc3, hf3⟩ := cell_of_box_a hv3
    obtain ⟨g', cap', cur', rfl, hbase', hgb', hr1, hr2, hr3, hr4⟩ : ∃ g' cap' cur', v' = .slice (some ⟨g', 0, none⟩) (ss.length + 1) cap' ∧ w0.heap.size ≤ g' ∧ w3.heap[g']? = some (.cells cur' 62 (0, 0)) ∧ ss.length + 1 ≤ cap' ∧ cap' ≤ maxLen ∧ cur'.size = cap' * 1 ∧ cur'.toList.take ((ss.length + 1) * 1) = ss.map encU ++ [encU x] := by
     rcases hown'.2 with ⟨_, h0⟩ | h'
     ·exact absurd h0 (by omega)
     ·exact h'
    go_frame)
  | (rw [Oper.semAt_eq _ _ _ (fun c h => by cases h)]; go_simp; try go_bits))
 have hg3' : (W2.alloc (.cells #[encU x] 62)).grownBy w3 v.ownBlock := hg3
 have hL3 : w3.heap[l]? = some (.loop { Us.apRec fn sv Bs D .ready none with state := .busy }) := (hg3'.block l (by simp; omega) (ne_of hL2 (fun cur e => by cases e))).trans ((Below.heap_alloc _ _ l hl2).trans hL2)
 have hK3 : w3.heap[D]? = some (.deferred (some [])) := (hg3'.block D (by simp; omega) (ne_of hK2 (fun cur e => by cases e))).trans ((Below.heap_alloc _ _ D hDlt).trans hK2)
 obtain ⟨w4, hw4⟩ : ∃ w4, w3.setCell ⟨Bs, 0, none⟩ (.slice (some ⟨g', 0, none⟩) (ss.length + 1) cap') = w4 := ⟨_, rfl⟩
 rw [hw4]
 have hg4 : w3.grownBy w4 (some Bs) := by rw [← hw4]; exact grownBy_setCell0_a _ _ _
 have hv4 : w4.heap[Bs]? = some (.cells #[.slice (some ⟨g', 0, none⟩) (ss.length + 1) cap'] 88 (0, 0)) := by rw [← hw4]; exact heap_setCell_box_a _ hv3
 have hL4 : w4.heap[l]? = some (.loop { Us.apRec fn sv Bs D .ready none with state := .busy }) := (hg4.block l (Array.getElem?_eq_some_iff.1 hL3).1 (fun e => hBl (by cases e; rfl))).trans hL3
 have hK4 : w4.heap[D]? = some (.deferred (some [])) := (hg4.block D (Array.getElem?_eq_some_iff.1 hK3).1 (fun e => hDB (by cases e; rfl))).trans hK3
 have hrow4 := hown'.kept hg4 (ownsRow_ne_a hown' hv3 (fun cur e => by cases e))
 have hl4 : l < w4.heap.size := (Array.getElem?_eq_some_iff.1 hL4).1
 have hb3 : Below w0.heap.size w0 w3 := (hb2.alloc hb2.size _).grown hg3' (by have := hb2.size; simp; omega) (fun k e => (hrow2.lt k e).1)
 have hb4 : Below w0.heap.size w0 w4 := hb3.grown hg4 hb3.size (fun k e => by cases e; exact h0B)
 have hk4 : KeepsWalks W w4 := ((hk2.trans (KeepsWalks.alloc _ _)).trans (KeepsWalks.of_grownBy hg3' (ownsRow_not_walk_a (hrow2.alloc _)))).trans (by rw [← hw4]; exact KeepsWalks.setCell _ _ _)
 clear hw4
 refine ⟨_, _, run_endRound none hL4, rfl, ⟨⟨_, (World.putObj_heap_other hBl).trans hv4, ?_, by simp⟩, World.putObj_heap_same hl4, (World.putObj_heap_other hDl).trans hK4, hb4.grown (grownBy_putObj_a _ _ _) hb4.size (fun k e => by cases e; exact h0l)⟩, hk4.trans (KeepsWalks.putObj _ hL4 rfl)⟩
 have := hrow4.kept (grownBy_putObj_a w4 l (.loop { { Us.apRec fn sv Bs D .ready none with state := .busy } with state := if (none : Option Code).isNone then .ready else .done, pending := none })) (ownsRow_ne_a hrow4 hL4 (fun cur e => by cases e))
 simpa using this
set_option maxHeartbeats 2000000 in
theorem Us.appendSeq_in (F : Fence) (n : Nat) (h11 : F.fn 76) (hro : F.round = none) (hn : 2 ≤ n) (g : Nat) (lb : Array Value) (hFg : F.fn g) (eg : ∀ args w, (callFunc g args).run Tryz.prog w = .ok (.enter g args) w)
  (S : List Int → Prop) (N : Nat) (hN : N ≤ maxLen) (hNb : N * 8 ≤ 140737488355328) (w : World) (hseq : SeqGives F (n - 1) Tryz.prog g lb encU S N w) :
  CallsIn F n Tryz.prog 76 #[.slice none 0 0, .func (.func g) #[] lb] w fun e w' => ∃ (v : Value) (ss : List Int), e = .returned v ∧ S ss ∧ w'.ownsRow w.heap.size 62 1 v ss.length (ss.map encU) ∧ (v = .slice none 0 0 ↔ ss = []) ∧ Below w.heap.size w w' := by
 have h1 : 1 ≤ n := by omega
 refine callsIn_of_wp_marks Tryz.func76 rfl h11 ?_ hro
 simp only [Tryz.ntmps76, List.size_toArray, List.length_cons, List.length_nil, Nat.reduceAdd, Nat.reduceSub, Array.replicate_succ, Array.replicate_zero, List.push_toArray, List.append_toArray, List.nil_append, List.cons_append]
 gi_wp2
 refine wpIn_rangeFunc ?_
 intro fn hfn
 rw [hro]
 obtain ⟨W0, hW0⟩ : ∃ W0, w.alloc (.cells #[.slice none 0 0] 88) = W0 := ⟨_, rfl⟩
 have hs0 : W0.heap.size = w.heap.size + 1 := by rw [← hW0]; simp
 have hv0 : W0.heap[w.heap.size]? = some (.cells #[.slice none 0 0] 88 (0, 0)) := by rw [← hW0]; exact World.alloc_heap_new w _
 have hb0 : Below w.heap.size w W0 := by rw [← hW0]; exact (Below.refl _ w).alloc (Nat.le_refl _) _
 rw [hW0]
 obtain ⟨W1, hW1⟩ : ∃ W1, (W0.alloc (.deferred (some []))).alloc (.loop (Us.apRec fn (.func (.func g) #[] lb) w.heap.size W0.heap.size .ready none)) = W1 := ⟨_, rfl⟩
 have hold : ∀ k, k < W0.heap.size → W1.heap[k]? = W0.heap[k]? := fun k hk => by
  rw [← hW1]; exact (Below.heap_alloc _ _ k (by simp; omega)).trans (Below.heap_alloc _ _ k hk)
 have hb1 : Below w.heap.size w W1 := by rw [← hW1]; exact (hb0.alloc hb0.size _).alloc (by have := hb0.size; simp; omega) _
 have hs1 : W1.heap.size = W0.heap.size + 2 := by rw [← hW1]; simp
 have hM : Us.ApAt w fn (.func (.func g) #[] lb) w.heap.size (W0.heap.size + 1) W0.heap.size [] W1 :=
  ⟨⟨_, (hold w.heap.size (by omega)).trans hv0, ⟨rfl, .inl ⟨rfl, rfl⟩⟩, by simp⟩,
   by rw [← hW1]; have := World.alloc_heap_new (W0.alloc (.deferred (some []))) (.loop (Us.apRec fn (.func (.func g) #[] lb) w.heap.size W0.heap.size .ready none)); rwa [World.size_alloc] at this,
   by rw [← hW1]; exact (Below.heap_alloc _ _ _ (by simp)).trans (World.alloc_heap_new W0 _), hb1⟩
 refine ⟨W0.heap.size + 1, [{ target := .collected W0.heap.size, args := #[] }], W1, { target := .fn (.func g) lb, args := #[.func (.yield (W0.heap.size + 1)) #[] #[]] }, W1, g,
  #[.func (.yield (W0.heap.size + 1)) #[] #[]] ++ lb, W1, ?_, ?_, ?_, ?_, fun _ => h1, ?_⟩
 ·rw [← hW1]; exact run_enterLoop_outer _ _ _ _ _
 ·simp [resolve, go_sem]
 ·intro f' hf'; simp [Target.leads] at hf'; subst hf'; exact hFg
 ·simp [invoke, go_sem, eg]
 ·refine (hseq (W0.heap.size + 1) (Us.ApAt w fn (.func (.func g) #[] lb) w.heap.size (W0.heap.size + 1) W0.heap.size) W1 hb1 (Us.ap_abides _ _ _ _ _ _ _ hb1.size)
   (fun pre x W hJ hl => Us.apYield F (n - 1 - 1) w fn hfn _ w.heap.size (W0.heap.size + 1) W0.heap.size (by omega) (by omega) (by omega) (Nat.le_refl _) (by omega) N hN hNb pre x W hJ hl) hM).mono ?_
  rintro e W2 ⟨⟨v0, rfl⟩, ss, hS, h2⟩
  obtain ⟨v, hv, hrow, hnil⟩ := h2.box
  have hend := run_endLoop (P := Tryz.prog) h2.L (by simp [Us.apRec])
  obtain ⟨W3, hW3⟩ : ∃ W3, W2.putObj (W0.heap.size + 1) (.loop { Us.apRec fn (.func (.func g) #[] lb) w.heap.size W0.heap.size .ready none with state := .exhausted }) = W3 := ⟨_, rfl⟩
  rw [hW3] at hend
  have hg3 : W2.grownBy W3 (some (W0.heap.size + 1)) := by rw [← hW3]; exact grownBy_putObj_a _ _ _
  have hv3 : W3.heap[w.heap.size]? = some (.cells #[v] 88 (0, 0)) := by rw [← hW3]; exact (World.putObj_heap_other (by omega)).trans hv
  have hK3 : W3.heap[W0.heap.size]? = some (.deferred (some [])) := by rw [← hW3]; exact (World.putObj_heap_other (by omega)).trans h2.K
  have hrow3 := hrow.kept hg3 (ownsRow_ne_a hrow h2.L (fun cur e => by cases e))
  have hb3 : Below w.heap.size w W3 := h2.below.grown hg3 h2.below.size (fun k e => by cases e; omega)
  obtain ⟨hc3, hf3⟩ := cell_of_box_a hv3
  clear hW3
  refine ⟨none, W3, hend, ?_⟩
  gi_wp2
  rw [← hs0]
  refine ⟨by simp, .inl ⟨_, _, rfl, run_takeDeferred hK3, ?_⟩⟩
  exact ⟨_, results_tmp rfl _ _ _, v, ss, rfl, hS, hrow3.kept (grownBy_putObj_a _ _ _) (ownsRow_ne_a hrow3 hK3 (fun cur e => by cases e)), hnil, hb3.grown (grownBy_putObj_a _ _ _) hb3.size (fun k e => by cases e; omega)⟩
set_option maxHeartbeats 2000000 in
theorem Us.collect_in (F : Fence) (n : Nat) (h8 : F.fn 62) (h11 : F.fn 76) (hro : F.round = none) (hn : 3 ≤ n) (g : Nat) (lb : Array Value) (hFg : F.fn g) (eg : ∀ args w, (callFunc g args).run Tryz.prog w = .ok (.enter g args) w)
  (S : List Int → Prop) (N : Nat) (hN : N ≤ maxLen) (hNb : N * 8 ≤ 140737488355328) (w : World) (hseq : SeqGives F (n - 1 - 1) Tryz.prog g lb encU S N w) :
  CallsIn F n Tryz.prog 62 #[.func (.func g) #[] lb] w fun e w' => ∃ (v : Value) (ss : List Int), e = .returned v ∧ S ss ∧ w'.ownsRow w.heap.size 62 1 v ss.length (ss.map encU) ∧ (v = .slice none 0 0 ↔ ss = []) ∧ Below w.heap.size w w' := by
 have h1 : 1 ≤ n := by omega
 refine callsIn_of_wp Tryz.func62 rfl h8 ?_ hro
 simp only [Tryz.ntmps62, List.size_toArray, List.length_cons, List.length_nil, Nat.reduceAdd, Nat.reduceSub, Array.replicate_succ, Array.replicate_zero, List.push_toArray, List.append_toArray, List.nil_append, List.cons_append]
 gi_wp2_with (gi_at_call 76; refine (Us.appendSeq_in F (n - 1) h11 hro (by omega) g lb hFg eg S N hN hNb _ hseq).mono ?_; rintro e w' ⟨v, ss, rfl, hS, hrow, hnil, hb⟩)
 go_ret
 exact ⟨v, ss, rfl, hS, hrow, hnil, hb⟩
end Go.Proofs.YtaiggifiefnjnaaGreatDoor
namespace Go.Proofs.YtaiggifiefnjnaaGreatDoor
open Go.RowKit
theorem uSift_any (b : Nat) (n : Nat) (c : Nat) (l : List Nat) (rest : List Value) (lo : Nat) (hi : Nat) (first : Nat) (w : World) (hO : Own [cUs b l rest] w) (hn : l.length = n) (he : first + hi ≤ n) (ha : lo ≤ n) (hs : n ≤ 1000000) :
  Calls Tryz.prog 106 #[(.slice (some ⟨b, 0, none⟩) (n) (c)), (vI lo), (vI hi), (vI first)] w fun e w' => ∃ (l2 : List Nat), e = .returned (.tuple #[]) ∧ Back [cUs b l rest] w [cUs b l2 rest] w' ∧ (l2.Perm l) := by
 have _u0 := hn
 have _u1 := he
 have _u2 := ha
 have _u3 := hs
 clear _u0 _u1 _u2 _u3
 refine stEnter (args := [(.slice (some ⟨b, 0, none⟩) (n) (c)), (vI lo), (vI hi), (vI first)]) (fps [cUs b l rest]) Tryz.func106 rfl 76 rfl [(0, (.slice (some ⟨b, 0, none⟩) (n) (c))), (1, (vI lo)), (2, (vI hi)), (3, (vI first))] ⟨rfl, rfl, rfl, rfl, trivial⟩ [cUs b l rest] (hO) ?_
 refine stSeq (reg ?_)
 refine lm ?_
 refine la ?_
 refine liNil (qThen (stBlock ?_))
 refine stLoop (ι := Nat × List Nat) (fun (r, l1) => lo ≤ r ∧ r ≤ hi + lo ∧ l1.Perm l) (fun (r, l1) => hi + lo - r) (fun (r, l1) => [(0, (.slice (some ⟨b, 0, none⟩) (n) (c))), (2, (vI hi)), (3, (vI first)), (8, (vI r))]) (fun (r, l1) => [cUs b l1 rest]) (lo, l) ⟨by omega, by omega, List.Perm.refl _⟩ ⟨rfl, rfl, rfl, rfl, trivial⟩ (fun _ h => h) ?_
 rintro ⟨r, l1⟩ ⟨h0, h1, hp⟩
 have hl1 : l1.length = n := by rw [hp.length_eq]; exact hn
 show St _ _ _ [(0, (.slice (some ⟨b, 0, none⟩) (n) (c))), (2, (vI hi)), (3, (vI first)), (8, (vI r))] [cUs b l1 rest] _
 refine stBlock (stSeq (reg ?_))
 refine lm ?_
 refine lv (v := (vI (2 * r))) (rMul _ rfl rfl rfl (by omega) (by omega) (by omega)) ?_
 refine lv (v := (vI (2 * r + 1))) (rAdd _ rfl rfl rfl (by omega) (by omega) (by omega)) ?_
 refine la ?_
 refine liNil (qThen (stSeq (stSeq (reg ?_))))
 refine lm ?_
 refine lm ?_
 refine lc (.bool (decide (((2 * r + 1 : Nat) : Int) ≥ ((hi : Nat) : Int)))) ?_
 refine liNil (qThen ?_)
 refine stCond rfl (fun hc16 => ?_) (fun hc16 => ?_)
 ·have hd16 := of_decide_eq_true hc16
  refine stExit (qThenX (qBlockY rfl (qThenX (qBlockX ?_))))
  refine stEndN [] rfl trivial (fun w hM => ?_)
  exact ⟨l1, rfl, hM, hp⟩
 ·have hd16 := of_decide_eq_false hc16
  refine stSkip (qThen (stSeq (stSeq ?_)))
  refine anyBegin [cUs b l1 rest] 20 (by kernel_rfl) (fun _ h => h) ?_
  refine am 0 ?_
  refine av 1 (vI (2 * r + 1 + 1)) rfl (rAdd _ rfl rfl rfl (by omega) (by omega) (by omega)) ?_
  refine am 2 ?_
  refine ac 3 (.bool (decide (((2 * r + 1 + 1 : Nat) : Int) < ((hi : Nat) : Int)))) ?_
  refine am 4 ?_
  refine Any.dec 21 rfl (fun hc21 => ?_) (fun hc21 => ?_)
  ·have hd21 := of_decide_eq_true hc21
   refine agm 5 ?_
   refine agm 6 ?_
   refine agm 7 ?_
   refine agv 8 (vI (first + 2 * r + 1)) rfl (rAdd _ rfl rfl rfl (by omega) (by omega) (by omega)) ?_
   refine agv 9 (vP b (0 + (first + 2 * r + 1))) rfl (rIndexAddr1 (e := 62) rfl (by kernel_rfl) (by kernel_rfl) rfl rfl (by omega)) ?_
   obtain ⟨x0, hx0⟩ : ∃ ξ, (l1)[first + 2 * r + 1]? = some ξ := ⟨_, List.getElem?_eq_getElem (by omega)⟩
   refine agv 10 (.int .u64 ((x0 : Nat) : Int)) rfl (rLoadUs 0 rfl rfl (by kernel_rfl) rfl hx0) ?_
   refine agm 11 ?_
   refine agm 12 ?_
   refine agm 13 ?_
   refine agv 14 (vI (first + 2 * r + 1)) rfl (rAdd _ rfl rfl rfl (by omega) (by omega) (by omega)) ?_
   refine agv 15 (vI (first + 2 * r + 1 + 1)) rfl (rAdd _ rfl rfl rfl (by omega) (by omega) (by omega)) ?_
   refine agv 16 (vP b (0 + (first + 2 * r + 1 + 1))) rfl (rIndexAddr1 (e := 62) rfl (by kernel_rfl) (by kernel_rfl) rfl rfl (by omega)) ?_
   obtain ⟨x1, hx1⟩ : ∃ ξ, (l1)[first + 2 * r + 1 + 1]? = some ξ := ⟨_, List.getElem?_eq_getElem (by omega)⟩
   refine agv 17 (.int .u64 ((x1 : Nat) : Int)) rfl (rLoadUs 0 rfl rfl (by kernel_rfl) rfl hx1) ?_
   refine a1g 18 ?_
   refine opK0 (fun w hM => (uLess_any x0 x1 w ).mono ?_)
   rintro e w' ⟨rfl, hP⟩
   refine ⟨_, _, rfl, hP, ?_⟩; clear hP hM
   refine anyNext [cUs b l1 rest] (fun _ h => h) (fun _ h => h) ?_
   refine ac 19 (.bool (decide (((x0 : Nat) : Int) < ((x1 : Nat) : Int)))) ?_
   refine anyDone (by kernel_rfl) ?_
   refine qThen ?_
   refine stCond rfl (fun hc36 => ?_) (fun hc36 => ?_)
   ·have hd36 := of_decide_eq_true hc36
    refine reg ?_
    refine lm ?_
    refine lv (v := (vI (2 * r + 1 + 1))) (rAdd _ rfl rfl rfl (by omega) (by omega) (by omega)) ?_
    refine la ?_
    refine liNil (qThen (stSeq (stSeq ?_)))
    refine anyBegin [cUs b l1 rest] 14 (by kernel_rfl) (fun _ h => h) ?_
    refine am 0 ?_
    refine am 1 ?_
    refine am 2 ?_
    refine av 3 (vI (first + r)) rfl (rAdd _ rfl rfl rfl (by omega) (by omega) (by omega)) ?_
    refine av 4 (vP b (0 + (first + r))) rfl (rIndexAddr1 (e := 62) rfl (by kernel_rfl) (by kernel_rfl) rfl rfl (by omega)) ?_
    obtain ⟨x2, hx2⟩ : ∃ ξ, (l1)[first + r]? = some ξ := ⟨_, List.getElem?_eq_getElem (by omega)⟩
    refine av 5 (.int .u64 ((x2 : Nat) : Int)) rfl (rLoadUs 0 rfl rfl (by kernel_rfl) rfl hx2) ?_
    refine am 6 ?_
    refine am 7 ?_
    refine am 8 ?_
    refine av 9 (vI (first + 2 * r + 1 + 1)) rfl (rAdd _ rfl rfl rfl (by omega) (by omega) (by omega)) ?_
    refine av 10 (vP b (0 + (first + 2 * r + 1 + 1))) rfl (rIndexAddr1 (e := 62) rfl (by kernel_rfl) (by kernel_rfl) rfl rfl (by omega)) ?_
    refine av 11 (.int .u64 ((x1 : Nat) : Int)) rfl (rLoadUs 0 rfl rfl (by kernel_rfl) rfl hx1) ?_
    refine a1 12 ?_
    refine opK0 (fun w hM => (uLess_any x2 x1 w ).mono ?_)
    rintro e w' ⟨rfl, hP⟩
    refine ⟨_, _, rfl, hP, ?_⟩; clear hP hM
    refine anyNext [cUs b l1 rest] (fun _ h => h) (fun _ h => h) ?_
    refine ac 13 (.bool (!(decide (((x2 : Nat) : Int) < ((x1 : Nat) : Int))))) ?_
    refine anyDone (by kernel_rfl) ?_
    refine qThen ?_
    refine stCond rfl (fun hc52 => ?_) (fun hc52 => ?_)
    ·refine stRet (qThenR (qBlockR (qThenR (qBlockR ?_))))
     refine stEnd [] rfl trivial (fun w hM => ?_)
     exact ⟨l1, rfl, hM, hp⟩
    ·refine stSkip (qThen (stSeq ?_))
     refine St.to [cUs b l1 rest] (by kernel_rfl) ?_
     refine anyBegin [cUs b l1 rest] 21 (by kernel_rfl) (fun _ h => h) ?_
     refine am 0 ?_
     refine am 1 ?_
     refine am 2 ?_
     refine av 3 (vI (first + r)) rfl (rAdd _ rfl rfl rfl (by omega) (by omega) (by omega)) ?_
     refine am 4 ?_
     refine am 5 ?_
     refine am 6 ?_
     refine avP 7 (vI (first + 2 * r + 1 + 1)) rfl (fun _ => rAdd _ rfl rfl rfl (by omega) (by omega) (by omega)) ?_
     refine am 8 ?_
     refine am 9 ?_
     refine am 10 ?_
     refine av 11 (vI (first + 2 * r + 1 + 1)) rfl (rAdd _ rfl rfl rfl (by omega) (by omega) (by omega)) ?_
     refine av 12 (vP b (0 + (first + 2 * r + 1 + 1))) rfl (rIndexAddr1 (e := 62) rfl (by kernel_rfl) (by kernel_rfl) rfl rfl (by omega)) ?_
     refine av 13 (.int .u64 ((x1 : Nat) : Int)) rfl (rLoadUs 0 rfl rfl (by kernel_rfl) rfl hx1) ?_
     refine am 14 ?_
     refine am 15 ?_
     refine am 16 ?_
     refine av 17 (vI (first + r)) rfl (rAdd _ rfl rfl rfl (by omega) (by omega) (by omega)) ?_
     refine av 18 (vP b (0 + (first + r))) rfl (rIndexAddr1 (e := 62) rfl (by kernel_rfl) (by kernel_rfl) rfl rfl (by omega)) ?_
     refine av 19 (.int .u64 ((x2 : Nat) : Int)) rfl (rLoadUs 0 rfl rfl (by kernel_rfl) rfl hx2) ?_
     refine av 20 (vP b (0 + (first + r))) rfl (rIndexAddr1 (e := 62) rfl (by kernel_rfl) (by kernel_rfl) rfl rfl (by omega)) ?_
     refine a1 21 ?_
     refine opStoreUs 0 (l1.set (first + r) x1) rfl rfl (by kernel_rfl) rfl rfl (by kernel_rfl) rfl (by omega) (rfl) ?_
     refine anyPhase [cUs b (l1.set (first + r) x1) rest] 23 rfl (fun _ h => h) ?_
     refine av 22 (vP b (0 + (first + 2 * r + 1 + 1))) rfl (rIndexAddr1 (e := 62) rfl (by kernel_rfl) (by kernel_rfl) rfl rfl (by omega)) ?_
     refine a1 23 ?_
     refine opStoreUs 0 (swp l1 (first + r) (first + 2 * r + 1 + 1)) rfl rfl (by kernel_rfl) rfl rfl (by kernel_rfl) rfl (by rw [List.length_set]; omega) (swpA hx2 hx1) ?_
     refine anyLast (by kernel_rfl) rfl ?_
     refine qThen ?_
     refine St.to [cUs b (swp l1 (first + r) (first + 2 * r + 1 + 1)) rest] (by kernel_rfl) ?_
     refine reg ?_
     refine lm ?_
     refine la ?_
     refine liNil (qBlock (qThen ?_))
     exact stAgain (2 * r + 1 + 1, swp l1 (first + r) (first + 2 * r + 1 + 1)) (⟨by omega, by omega, (swp_perm (by omega) (by omega)).trans hp⟩) (by show _ - _ < _ - _; omega) ⟨rfl, rfl, rfl, rfl, trivial⟩ (fun w hM => hM)
   ·have hd36 := of_decide_eq_false hc36
    refine stSkip (qThen (stSeq (stSeq ?_)))
    refine anyBegin [cUs b l1 rest] 14 (by kernel_rfl) (fun _ h => h) ?_
    refine am 0 ?_
    refine am 1 ?_
    refine am 2 ?_
    refine av 3 (vI (first + r)) rfl (rAdd _ rfl rfl rfl (by omega) (by omega) (by omega)) ?_
    refine av 4 (vP b (0 + (first + r))) rfl (rIndexAddr1 (e := 62) rfl (by kernel_rfl) (by kernel_rfl) rfl rfl (by omega)) ?_
    obtain ⟨x2, hx2⟩ : ∃ ξ, (l1)[first + r]? = some ξ := ⟨_, List.getElem?_eq_getElem (by omega)⟩
    refine av 5 (.int .u64 ((x2 : Nat) : Int)) rfl (rLoadUs 0 rfl rfl (by kernel_rfl) rfl hx2) ?_
    refine am 6 ?_
    refine am 7 ?_
    refine am 8 ?_
    refine av 9 (vI (first + 2 * r + 1)) rfl (rAdd _ rfl rfl rfl (by omega) (by omega) (by omega)) ?_
    refine av 10 (vP b (0 + (first + 2 * r + 1))) rfl (rIndexAddr1 (e := 62) rfl (by kernel_rfl) (by kernel_rfl) rfl rfl (by omega)) ?_
    refine av 11 (.int .u64 ((x0 : Nat) : Int)) rfl (rLoadUs 0 rfl rfl (by kernel_rfl) rfl hx0) ?_
    refine a1 12 ?_
    refine opK0 (fun w hM => (uLess_any x2 x0 w ).mono ?_)
    rintro e w' ⟨rfl, hP⟩
    refine ⟨_, _, rfl, hP, ?_⟩; clear hP hM
    refine anyNext [cUs b l1 rest] (fun _ h => h) (fun _ h => h) ?_
    refine ac 13 (.bool (!(decide (((x2 : Nat) : Int) < ((x0 : Nat) : Int))))) ?_
    refine anyDone (by kernel_rfl) ?_
    refine qThen ?_
    refine stCond rfl (fun hc52 => ?_) (fun hc52 => ?_)
    ·refine stRet (qThenR (qBlockR (qThenR (qBlockR ?_))))
     refine stEnd [] rfl trivial (fun w hM => ?_)
     exact ⟨l1, rfl, hM, hp⟩
    ·refine stSkip (qThen (stSeq ?_))
     refine anyBegin [cUs b l1 rest] 21 (by kernel_rfl) (fun _ h => h) ?_
     refine am 0 ?_
     refine am 1 ?_
     refine am 2 ?_
     refine av 3 (vI (first + r)) rfl (rAdd _ rfl rfl rfl (by omega) (by omega) (by omega)) ?_
     refine am 4 ?_
     refine am 5 ?_
     refine am 6 ?_
     refine avP 7 (vI (first + 2 * r + 1)) rfl (fun _ => rAdd _ rfl rfl rfl (by omega) (by omega) (by omega)) ?_
     refine am 8 ?_
     refine am 9 ?_
     refine am 10 ?_
     refine av 11 (vI (first + 2 * r + 1)) rfl (rAdd _ rfl rfl rfl (by omega) (by omega) (by omega)) ?_
     refine av 12 (vP b (0 + (first + 2 * r + 1))) rfl (rIndexAddr1 (e := 62) rfl (by kernel_rfl) (by kernel_rfl) rfl rfl (by omega)) ?_
     refine av 13 (.int .u64 ((x0 : Nat) : Int)) rfl (rLoadUs 0 rfl rfl (by kernel_rfl) rfl hx0) ?_
     refine am 14 ?_
     refine am 15 ?_
     refine am 16 ?_
     refine av 17 (vI (first + r)) rfl (rAdd _ rfl rfl rfl (by omega) (by omega) (by omega)) ?_
     refine av 18 (vP b (0 + (first + r))) rfl (rIndexAddr1 (e := 62) rfl (by kernel_rfl) (by kernel_rfl) rfl rfl (by omega)) ?_
     refine av 19 (.int .u64 ((x2 : Nat) : Int)) rfl (rLoadUs 0 rfl rfl (by kernel_rfl) rfl hx2) ?_
     refine av 20 (vP b (0 + (first + r))) rfl (rIndexAddr1 (e := 62) rfl (by kernel_rfl) (by kernel_rfl) rfl rfl (by omega)) ?_
     refine a1 21 ?_
     refine opStoreUs 0 (l1.set (first + r) x0) rfl rfl (by kernel_rfl) rfl rfl (by kernel_rfl) rfl (by omega) (rfl) ?_
     refine anyPhase [cUs b (l1.set (first + r) x0) rest] 23 rfl (fun _ h => h) ?_
     refine av 22 (vP b (0 + (first + 2 * r + 1))) rfl (rIndexAddr1 (e := 62) rfl (by kernel_rfl) (by kernel_rfl) rfl rfl (by omega)) ?_
     refine a1 23 ?_
     refine opStoreUs 0 (swp l1 (first + r) (first + 2 * r + 1)) rfl rfl (by kernel_rfl) rfl rfl (by kernel_rfl) rfl (by rw [List.length_set]; omega) (swpA hx2 hx0) ?_
     refine St.to [cUs b (swp l1 (first + r) (first + 2 * r + 1)) rest] (by kernel_rfl) ?_
     refine anyLast (by kernel_rfl) rfl ?_
     refine qThen (reg ?_)
     refine lm ?_
     refine la ?_
     refine liNil (qBlock (qThen ?_))
     exact stAgain (2 * r + 1, swp l1 (first + r) (first + 2 * r + 1)) (⟨by omega, by omega, (swp_perm (by omega) (by omega)).trans hp⟩) (by show _ - _ < _ - _; omega) ⟨rfl, rfl, rfl, rfl, trivial⟩ (fun w hM => hM)
  ·have hd21 := of_decide_eq_false hc21
   refine anF 5 ?_
   refine anF 6 ?_
   refine anF 7 ?_
   refine anF 8 ?_
   refine anF 9 ?_
   refine anF 10 ?_
   refine anF 11 ?_
   refine anF 12 ?_
   refine anF 13 ?_
   refine anF 14 ?_
   refine anF 15 ?_
   refine anF 16 ?_
   refine anF 17 ?_
   refine anF 18 ?_
   refine ac 19 (.bool false) ?_
   refine anyDone (by kernel_rfl) ?_
   refine qThen (stFalse rfl (stSkip (qThen (stSeq (stSeq ?_)))))
   refine anyBegin [cUs b l1 rest] 14 (by kernel_rfl) (fun _ h => h) ?_
   refine am 0 ?_
   refine am 1 ?_
   refine am 2 ?_
   refine av 3 (vI (first + r)) rfl (rAdd _ rfl rfl rfl (by omega) (by omega) (by omega)) ?_
   refine av 4 (vP b (0 + (first + r))) rfl (rIndexAddr1 (e := 62) rfl (by kernel_rfl) (by kernel_rfl) rfl rfl (by omega)) ?_
   obtain ⟨x0, hx0⟩ : ∃ ξ, (l1)[first + r]? = some ξ := ⟨_, List.getElem?_eq_getElem (by omega)⟩
   refine av 5 (.int .u64 ((x0 : Nat) : Int)) rfl (rLoadUs 0 rfl rfl (by kernel_rfl) rfl hx0) ?_
   refine am 6 ?_
   refine am 7 ?_
   refine am 8 ?_
   refine av 9 (vI (first + 2 * r + 1)) rfl (rAdd _ rfl rfl rfl (by omega) (by omega) (by omega)) ?_
   refine av 10 (vP b (0 + (first + 2 * r + 1))) rfl (rIndexAddr1 (e := 62) rfl (by kernel_rfl) (by kernel_rfl) rfl rfl (by omega)) ?_
   obtain ⟨x1, hx1⟩ : ∃ ξ, (l1)[first + 2 * r + 1]? = some ξ := ⟨_, List.getElem?_eq_getElem (by omega)⟩
   refine av 11 (.int .u64 ((x1 : Nat) : Int)) rfl (rLoadUs 0 rfl rfl (by kernel_rfl) rfl hx1) ?_
   refine a1 12 ?_
   refine opK0 (fun w hM => (uLess_any x0 x1 w ).mono ?_)
   rintro e w' ⟨rfl, hP⟩
   refine ⟨_, _, rfl, hP, ?_⟩; clear hP hM
   refine anyNext [cUs b l1 rest] (fun _ h => h) (fun _ h => h) ?_
   refine ac 13 (.bool (!(decide (((x0 : Nat) : Int) < ((x1 : Nat) : Int))))) ?_
   refine anyDone (by kernel_rfl) ?_
   refine qThen ?_
   refine stCond rfl (fun hc52 => ?_) (fun hc52 => ?_)
   ·refine stRet (qThenR (qBlockR (qThenR (qBlockR ?_))))
    refine stEnd [] rfl trivial (fun w hM => ?_)
    exact ⟨l1, rfl, hM, hp⟩
   ·refine stSkip (qThen (stSeq ?_))
    refine anyBegin [cUs b l1 rest] 21 (by kernel_rfl) (fun _ h => h) ?_
    refine am 0 ?_
    refine am 1 ?_
    refine am 2 ?_
    refine av 3 (vI (first + r)) rfl (rAdd _ rfl rfl rfl (by omega) (by omega) (by omega)) ?_
    refine am 4 ?_
    refine am 5 ?_
    refine am 6 ?_
    refine avP 7 (vI (first + 2 * r + 1)) rfl (fun _ => rAdd _ rfl rfl rfl (by omega) (by omega) (by omega)) ?_
    refine am 8 ?_
    refine am 9 ?_
    refine am 10 ?_
    refine av 11 (vI (first + 2 * r + 1)) rfl (rAdd _ rfl rfl rfl (by omega) (by omega) (by omega)) ?_
    refine av 12 (vP b (0 + (first + 2 * r + 1))) rfl (rIndexAddr1 (e := 62) rfl (by kernel_rfl) (by kernel_rfl) rfl rfl (by omega)) ?_
    refine av 13 (.int .u64 ((x1 : Nat) : Int)) rfl (rLoadUs 0 rfl rfl (by kernel_rfl) rfl hx1) ?_
    refine am 14 ?_
    refine am 15 ?_
    refine am 16 ?_
    refine av 17 (vI (first + r)) rfl (rAdd _ rfl rfl rfl (by omega) (by omega) (by omega)) ?_
    refine av 18 (vP b (0 + (first + r))) rfl (rIndexAddr1 (e := 62) rfl (by kernel_rfl) (by kernel_rfl) rfl rfl (by omega)) ?_
    refine av 19 (.int .u64 ((x0 : Nat) : Int)) rfl (rLoadUs 0 rfl rfl (by kernel_rfl) rfl hx0) ?_
    refine av 20 (vP b (0 + (first + r))) rfl (rIndexAddr1 (e := 62) rfl (by kernel_rfl) (by kernel_rfl) rfl rfl (by omega)) ?_
    refine a1 21 ?_
    refine opStoreUs 0 (l1.set (first + r) x1) rfl rfl (by kernel_rfl) rfl rfl (by kernel_rfl) rfl (by omega) (rfl) ?_
    refine anyPhase [cUs b (l1.set (first + r) x1) rest] 23 rfl (fun _ h => h) ?_
    refine av 22 (vP b (0 + (first + 2 * r + 1))) rfl (rIndexAddr1 (e := 62) rfl (by kernel_rfl) (by kernel_rfl) rfl rfl (by omega)) ?_
    refine a1 23 ?_
    refine opStoreUs 0 (swp l1 (first + r) (first + 2 * r + 1)) rfl rfl (by kernel_rfl) rfl rfl (by kernel_rfl) rfl (by rw [List.length_set]; omega) (swpA hx0 hx1) ?_
    refine St.to [cUs b (swp l1 (first + r) (first + 2 * r + 1)) rest] (by kernel_rfl) ?_
    refine anyLast (by kernel_rfl) rfl ?_
    refine qThen (reg ?_)
    refine lm ?_
    refine la ?_
    refine liNil (qBlock (qThen ?_))
    exact stAgain (2 * r + 1, swp l1 (first + r) (first + 2 * r + 1)) (⟨by omega, by omega, (swp_perm (by omega) (by omega)).trans hp⟩) (by show _ - _ < _ - _; omega) ⟨rfl, rfl, rfl, rfl, trivial⟩ (fun w hM => hM)
theorem uHeap_any (b : Nat) (n : Nat) (c : Nat) (l : List Nat) (rest : List Value) (a : Nat) (zz : Nat) (w : World) (hO : Own [cUs b l rest] w) (hn : l.length = n) (he : zz ≤ n) (ha : a < zz) (hs : n ≤ 1000000) :
  Calls Tryz.prog 92 #[(.slice (some ⟨b, 0, none⟩) (n) (c)), (vI a), (vI zz)] w fun e w' => ∃ (l2 : List Nat), e = .returned (.tuple #[]) ∧ Back [cUs b l rest] w [cUs b l2 rest] w' ∧ (l2.Perm l) := by
 have _u0 := hn
 have _u1 := he
 have _u2 := ha
 have _u3 := hs
 clear _u0 _u1 _u2 _u3
 refine stEnter (args := [(.slice (some ⟨b, 0, none⟩) (n) (c)), (vI a), (vI zz)]) (fps [cUs b l rest]) Tryz.func92 rfl 56 rfl [(0, (.slice (some ⟨b, 0, none⟩) (n) (c))), (1, (vI a)), (2, (vI zz))] ⟨rfl, rfl, rfl, trivial⟩ [cUs b l rest] (hO) ?_
 refine stSeq (reg ?_)
 refine lm ?_
 refine la ?_
 refine liNil (qThen (stSeq (reg ?_)))
 refine la ?_
 refine liNil (qThen (stSeq (reg ?_)))
 refine lm ?_
 refine lm ?_
 refine lv (v := (vI (zz - a))) (rSubN rfl rfl rfl (by omega) (by omega)) ?_
 refine la ?_
 refine liNil (qThen (stSeq (stSeq (reg ?_))))
 refine lm ?_
 refine lv (v := (vI ((zz - a) - 1))) (rSubN rfl rfl rfl (by omega) (by omega)) ?_
 refine lv (v := (vI (((zz - a) - 1) / 2))) (rQuoN rfl rfl rfl (by omega) (by omega)) ?_
 refine la ?_
 refine liNil (qThen (stBlock ?_))
 refine stLoop (ι := Nat × List Nat) (fun (k, l1) => k ≤ zz - a ∧ l1.Perm l) (fun (k, l1) => k) (fun (k, l1) => [(0, (.slice (some ⟨b, 0, none⟩) (n) (c))), (6, (vI a)), (7, (.int .i64 0)), (8, (vI (zz - a))), (9, (.int .i64 ((k : Int) - 1)))]) (fun (k, l1) => [cUs b l1 rest]) ((zz - a - 1) / 2 + 1, l) ⟨by omega, List.Perm.refl _⟩ ⟨rfl, rfl, rfl, rfl, by show some _ = some _; exact congrArg (fun z => some (Value.int .i64 z)) (by omega), trivial⟩ (fun _ h => h) ?_
 rintro ⟨k, l1⟩ ⟨h1, hp⟩
 have hl1 : l1.length = n := by rw [hp.length_eq]; exact hn
 show St _ _ _ [(0, (.slice (some ⟨b, 0, none⟩) (n) (c))), (6, (vI a)), (7, (.int .i64 0)), (8, (vI (zz - a))), (9, (.int .i64 ((k : Int) - 1)))] [cUs b l1 rest] _
 refine stSeq (stSeq (reg ?_))
 refine lm ?_
 refine lc (.bool (decide (((k : Int) - 1) ≥ 0))) ?_
 refine liNil (qThen ?_)
 refine stCond rfl (fun hc19 => ?_) (fun hc19 => ?_)
 ·have hd19 := of_decide_eq_true hc19
  obtain ⟨k, rfl⟩ : ∃ k', k = k' + 1 := ⟨k - 1, by omega⟩
  refine St.conv 9 rfl (show _ = (.int .i64 ((k : Nat) : Int) : Value) from congrArg (Value.int .i64) (by omega)) ?_
  refine stSkip (qThen (stSeq (stBlock (reg ?_))))
  refine lm ?_
  refine lm ?_
  refine lm ?_
  refine lm ?_
  refine li rfl ?_
  refine opK [0] [cUs b l1 rest] (fun w hM hO => (uSift_any b n c l1 rest k (zz - a) a w hO (by first | assumption | omega) (by omega) (by omega) (by omega)).mono ?_)
  rintro e w' ⟨l226, rfl, hP, hpm26⟩
  refine ⟨_, [cUs b l226 rest], _, rfl, hP, rfl, ?_⟩; clear hP hM hO
  refine liNil (qBlock (qThen (reg ?_)))
  refine lm ?_
  refine lv (v := (.int .i64 (((k : Nat) : Int) - 1))) (rSub _ rfl rfl rfl rfl (by omega) (by omega)) ?_
  refine la ?_
  refine liNil (qThen ?_)
  exact stAgain (k, l226) (⟨by omega, hpm26.trans hp⟩) (by show k < k + 1; omega) ⟨rfl, rfl, rfl, rfl, rfl, trivial⟩ (fun w hM => hM)
 ·have hd19 := of_decide_eq_false hc19
  refine stExit (qThenX (qThenX (qBlockX (qThen (stSeq (reg ?_))))))
  refine lm ?_
  refine lv (v := (vI ((zz - a) - 1))) (rSubN rfl rfl rfl (by omega) (by omega)) ?_
  refine la ?_
  refine liNil (qThen (stBlock ?_))
  refine stLoop (ι := Nat × List Nat) (fun (k, l1) => k ≤ zz - a ∧ l1.Perm l) (fun (k, l1) => k) (fun (k, l1) => [(0, (.slice (some ⟨b, 0, none⟩) (n) (c))), (6, (vI a)), (7, (.int .i64 0)), (10, (.int .i64 ((k : Int) - 1)))]) (fun (k, l1) => [cUs b l1 rest]) (zz - a, l1) ⟨by omega, hp⟩ ⟨rfl, rfl, rfl, by show some _ = some _; exact congrArg (fun z => some (Value.int .i64 z)) (by omega), trivial⟩ (fun _ h => h) ?_
  clear hp h1 hl1
  rintro ⟨k, l1⟩ ⟨h1, hp⟩
  have hl1 : l1.length = n := by rw [hp.length_eq]; exact hn
  show St _ _ _ [(0, (.slice (some ⟨b, 0, none⟩) (n) (c))), (6, (vI a)), (7, (.int .i64 0)), (10, (.int .i64 ((k : Int) - 1)))] [cUs b l1 rest] _
  refine stSeq (stSeq (reg ?_))
  refine lm ?_
  refine lc (.bool (decide (((k : Int) - 1) ≥ 0))) ?_
  refine liNil (qThen ?_)
  refine stCond rfl (fun hc30 => ?_) (fun hc30 => ?_)
  ·have hd30 := of_decide_eq_true hc30
   obtain ⟨k, rfl⟩ : ∃ k', k = k' + 1 := ⟨k - 1, by omega⟩
   refine St.conv 10 rfl (show _ = (.int .i64 ((k : Nat) : Int) : Value) from congrArg (Value.int .i64) (by omega)) ?_
   refine stSkip (qThen (stSeq (stBlock (stSeq ?_))))
   refine anyBegin [cUs b l1 rest] 17 (by kernel_rfl) (fun _ h => h) ?_
   refine am 0 ?_
   refine am 1 ?_
   refine am 2 ?_
   refine am 3 ?_
   refine am 4 ?_
   refine avP 5 (vI (a + k)) rfl (fun _ => rAdd _ rfl rfl rfl (by omega) (by omega) (by omega)) ?_
   refine am 6 ?_
   refine am 7 ?_
   refine am 8 ?_
   refine av 9 (vI (a + k)) rfl (rAdd _ rfl rfl rfl (by omega) (by omega) (by omega)) ?_
   refine av 10 (vP b (0 + (a + k))) rfl (rIndexAddr1 (e := 62) rfl (by kernel_rfl) (by kernel_rfl) rfl rfl (by omega)) ?_
   obtain ⟨x0, hx0⟩ : ∃ ξ, (l1)[a + k]? = some ξ := ⟨_, List.getElem?_eq_getElem (by omega)⟩
   refine av 11 (.int .u64 ((x0 : Nat) : Int)) rfl (rLoadUs 0 rfl rfl (by kernel_rfl) rfl hx0) ?_
   refine am 12 ?_
   refine am 13 ?_
   refine av 14 (vP b (0 + a)) rfl (rIndexAddr1 (e := 62) rfl (by kernel_rfl) (by kernel_rfl) rfl rfl (by omega)) ?_
   obtain ⟨x1, hx1⟩ : ∃ ξ, (l1)[a]? = some ξ := ⟨_, List.getElem?_eq_getElem (by omega)⟩
   refine av 15 (.int .u64 ((x1 : Nat) : Int)) rfl (rLoadUs 0 rfl rfl (by kernel_rfl) rfl hx1) ?_
   refine av 16 (vP b (0 + a)) rfl (rIndexAddr1 (e := 62) rfl (by kernel_rfl) (by kernel_rfl) rfl rfl (by omega)) ?_
   refine a1 17 ?_
   refine opStoreUs 0 (l1.set a x0) rfl rfl (by kernel_rfl) rfl rfl (by kernel_rfl) rfl (by omega) (rfl) ?_
   refine anyPhase [cUs b (l1.set a x0) rest] 19 rfl (fun _ h => h) ?_
   refine av 18 (vP b (0 + (a + k))) rfl (rIndexAddr1 (e := 62) rfl (by kernel_rfl) (by kernel_rfl) rfl rfl (by omega)) ?_
   refine a1 19 ?_
   refine opStoreUs 0 (swp l1 a (a + k)) rfl rfl (by kernel_rfl) rfl rfl (by kernel_rfl) rfl (by rw [List.length_set]; omega) (swpA hx1 hx0) ?_
   refine anyLast (by kernel_rfl) rfl ?_
   refine qThen ?_
   refine St.to [cUs b (swp l1 a (a + k)) rest] (by kernel_rfl) ?_
   refine reg ?_
   refine lm ?_
   refine lm ?_
   refine lm ?_
   refine lm ?_
   refine li rfl ?_
   refine opK [0] [cUs b (swp l1 a (a + k)) rest] (fun w hM hO => (uSift_any b n c (swp l1 a (a + k)) rest 0 k a w hO (by rw [swp_length]; omega) (by omega) (by omega) (by omega)).mono ?_)
   rintro e w' ⟨l255, rfl, hP, hpm55⟩
   refine ⟨_, [cUs b l255 rest], _, rfl, hP, rfl, ?_⟩; clear hP hM hO
   refine liNil (qBlock (qThen (reg ?_)))
   refine lm ?_
   refine lv (v := (.int .i64 (((k : Nat) : Int) - 1))) (rSub _ rfl rfl rfl rfl (by omega) (by omega)) ?_
   refine la ?_
   refine liNil (qThen ?_)
   exact stAgain (k, l255) (⟨by omega, hpm55.trans ((swp_perm (by omega) (by omega)).trans hp)⟩) (by show k < k + 1; omega) ⟨rfl, rfl, rfl, rfl, trivial⟩ (fun w hM => hM)
  ·have hd30 := of_decide_eq_false hc30
   refine stExit (qThenX (qThenX (qBlockX ?_)))
   refine stEndN [] rfl trivial (fun w hM => ?_)
   exact ⟨l1, rfl, hM, hp⟩
end Go.Proofs.YtaiggifiefnjnaaGreatDoor
namespace Go.Proofs.YtaiggifiefnjnaaGreatDoor
open Go.RowKit
theorem uOrd2_any (b : Nat) (n : Nat) (c : Nat) (l : List Nat) (rest : List Value) (p : Nat) (q : Nat) (sp : Nat) (k : Nat) (w : World) (hO : Own [cUs b l rest, cAt sp 3 [(vI k)]] w) (hn : l.length = n) (hp : p < n) (hq : q < n) (hs : n ≤ 1000000) (hk : k ≤ 1000000) :
  Calls Tryz.prog 111 #[(.slice (some ⟨b, 0, none⟩) (n) (c)), (vI p), (vI q), (vP sp 0)] w fun e w' => ∃ (p2 : Nat) (q2 : Nat) (k2 : Nat), e = .returned (.tuple #[(vI p2), (vI q2)]) ∧ Back [cUs b l rest, cAt sp 3 [(vI k)]] w [cUs b l rest, cAt sp 3 [(vI k2)]] w' ∧ ((p2 = p ∧ q2 = q ∨ p2 = q ∧ q2 = p) ∧ k2 ≤ k + 1) := by
 have _u0 := hn
 have _u1 := hp
 have _u2 := hq
 have _u3 := hs
 have _u4 := hk
 clear _u0 _u1 _u2 _u3 _u4
 refine stEnter (args := [(.slice (some ⟨b, 0, none⟩) (n) (c)), (vI p), (vI q), (vP sp 0)]) (fps [cUs b l rest, cAt sp 3 [(vI k)]]) Tryz.func111 rfl 28 rfl [(0, (.slice (some ⟨b, 0, none⟩) (n) (c))), (1, (vI p)), (2, (vI q)), (3, (vP sp 0))] ⟨rfl, rfl, rfl, rfl, trivial⟩ [cUs b l rest, cAt sp 3 [(vI k)]] (hO) ?_
 refine stSeq (reg ?_)
 refine la ?_
 refine la ?_
 refine liNil (qThen (stSeq (stSeq ?_)))
 refine anyBegin [cUs b l rest, cAt sp 3 [(vI k)]] 9 (by kernel_rfl) (fun _ h => h) ?_
 refine am 0 ?_
 refine am 1 ?_
 refine av 2 (vP b (0 + q)) rfl (rIndexAddr1 (e := 62) rfl (by kernel_rfl) (by kernel_rfl) rfl rfl (by omega)) ?_
 obtain ⟨x0, hx0⟩ : ∃ ξ, (l)[q]? = some ξ := ⟨_, List.getElem?_eq_getElem (by omega)⟩
 refine av 3 (.int .u64 ((x0 : Nat) : Int)) rfl (rLoadUs 0 rfl rfl (by kernel_rfl) rfl hx0) ?_
 refine am 4 ?_
 refine am 5 ?_
 refine av 6 (vP b (0 + p)) rfl (rIndexAddr1 (e := 62) rfl (by kernel_rfl) (by kernel_rfl) rfl rfl (by omega)) ?_
 obtain ⟨x1, hx1⟩ : ∃ ξ, (l)[p]? = some ξ := ⟨_, List.getElem?_eq_getElem (by omega)⟩
 refine av 7 (.int .u64 ((x1 : Nat) : Int)) rfl (rLoadUs 0 rfl rfl (by kernel_rfl) rfl hx1) ?_
 refine a1 8 ?_
 refine opK0 (fun w hM => (uLess_any x0 x1 w ).mono ?_)
 rintro e w' ⟨rfl, hP⟩
 refine ⟨_, _, rfl, hP, ?_⟩; clear hP hM
 refine anyNext [cUs b l rest, cAt sp 3 [(vI k)]] (fun _ h => h) (fun _ h => h) ?_
 refine anyDone (by kernel_rfl) ?_
 refine qThen ?_
 refine stCond rfl (fun hc18 => ?_) (fun hc18 => ?_)
 ·have hd18 := of_decide_eq_true hc18
  refine stSeq (reg ?_)
  refine lm ?_
  refine lc (vP sp 0) ?_
  refine lv (v := (vI k)) (rLoad 1 rfl rfl (by kernel_rfl) rfl rfl) ?_
  refine lv (v := (vI (k + 1))) (rAdd _ rfl rfl rfl (by omega) (by omega) (by omega)) ?_
  refine lc (vP sp 0) ?_
  refine li rfl ?_
  refine opStore1 1 rfl rfl (by kernel_rfl) rfl rfl rfl (by kernel_rfl) rfl (by simp) ?_
  refine liNil (qThen (stSeq (reg ?_)))
  refine lm ?_
  refine lm ?_
  refine la ?_
  refine la ?_
  refine liNil (qThen (stRet (qThenR ?_)))
  refine stEnd [(vI q), (vI p)] rfl ⟨rfl, rfl, trivial⟩ (fun w hM => ?_)
  exact ⟨q, p, (k + 1), rfl, hM, ⟨by omega, by omega⟩⟩
 ·have hd18 := of_decide_eq_false hc18
  refine stSkip (qThen (stSeq (reg ?_)))
  refine lm ?_
  refine lm ?_
  refine la ?_
  refine la ?_
  refine liNil (qThen (stRet ?_))
  refine stEnd [(vI p), (vI q)] rfl ⟨rfl, rfl, trivial⟩ (fun w hM => ?_)
  exact ⟨p, q, k, rfl, hM, ⟨by omega, by omega⟩⟩
theorem uMed_any (b : Nat) (n : Nat) (c : Nat) (l : List Nat) (rest : List Value) (p : Nat) (q : Nat) (r : Nat) (sp : Nat) (k : Nat) (w : World) (hO : Own [cUs b l rest, cAt sp 3 [(vI k)]] w) (hn : l.length = n) (hp : p < n) (hq : q < n) (hr : r < n) (hs : n ≤ 1000000) (hk : k ≤ 900000) :
  Calls Tryz.prog 108 #[(.slice (some ⟨b, 0, none⟩) (n) (c)), (vI p), (vI q), (vI r), (vP sp 0)] w fun e w' => ∃ (p2 : Nat) (k2 : Nat), e = .returned (vI p2) ∧ Back [cUs b l rest, cAt sp 3 [(vI k)]] w [cUs b l rest, cAt sp 3 [(vI k2)]] w' ∧ ((p2 = p ∨ p2 = q ∨ p2 = r) ∧ k2 ≤ k + 3) := by
 have _u0 := hn
 have _u1 := hp
 have _u2 := hq
 have _u3 := hr
 have _u4 := hs
 have _u5 := hk
 clear _u0 _u1 _u2 _u3 _u4 _u5
 refine stEnter (args := [(.slice (some ⟨b, 0, none⟩) (n) (c)), (vI p), (vI q), (vI r), (vP sp 0)]) (fps [cUs b l rest, cAt sp 3 [(vI k)]]) Tryz.func108 rfl 36 rfl [(0, (.slice (some ⟨b, 0, none⟩) (n) (c))), (1, (vI p)), (2, (vI q)), (3, (vI r)), (4, (vP sp 0))] ⟨rfl, rfl, rfl, rfl, rfl, trivial⟩ [cUs b l rest, cAt sp 3 [(vI k)]] (hO) ?_
 refine stSeq (reg ?_)
 refine la ?_
 refine liNil (qThen (stSeq (reg ?_)))
 refine lm ?_
 refine lm ?_
 refine lm ?_
 refine lm ?_
 refine li rfl ?_
 refine opK [0, 1] [cUs b l rest, cAt sp 3 [(vI k)]] (fun w hM hO => (uOrd2_any b n c l rest p q sp k w hO (by first | assumption | omega) (by omega) (by omega) (by omega) (by omega)).mono ?_)
 rintro e w' ⟨p216, q216, k216, rfl, hP, heq16⟩
 refine ⟨_, [cUs b l rest, cAt sp 3 [(vI k216)]], _, rfl, hP, rfl, ?_⟩; clear hP hM hO
 refine lm ?_
 refine lc (vI p216) ?_
 refine lc (vI q216) ?_
 refine la ?_
 refine la ?_
 refine liNil (qThen (stSeq (reg ?_)))
 refine lm ?_
 refine lm ?_
 refine lm ?_
 refine lm ?_
 refine li rfl ?_
 refine opK [0, 1] [cUs b l rest, cAt sp 3 [(vI k216)]] (fun w hM hO => (uOrd2_any b n c l rest q216 r sp k216 w hO (by first | assumption | omega) (by omega) (by omega) (by omega) (by omega)).mono ?_)
 rintro e w' ⟨p224, q224, k224, rfl, hP, heq24⟩
 refine ⟨_, [cUs b l rest, cAt sp 3 [(vI k224)]], _, rfl, hP, rfl, ?_⟩; clear hP hM hO
 refine lm ?_
 refine lc (vI p224) ?_
 refine lc (vI q224) ?_
 refine la ?_
 refine la ?_
 refine liNil (qThen (stSeq (reg ?_)))
 refine lm ?_
 refine lm ?_
 refine lm ?_
 refine lm ?_
 refine li rfl ?_
 refine opK [0, 1] [cUs b l rest, cAt sp 3 [(vI k224)]] (fun w hM hO => (uOrd2_any b n c l rest p216 p224 sp k224 w hO (by first | assumption | omega) (by omega) (by omega) (by omega) (by omega)).mono ?_)
 rintro e w' ⟨p232, q232, k232, rfl, hP, heq32⟩
 refine ⟨_, [cUs b l rest, cAt sp 3 [(vI k232)]], _, rfl, hP, rfl, ?_⟩; clear hP hM hO
 refine lm ?_
 refine lc (vI p232) ?_
 refine lc (vI q232) ?_
 refine la ?_
 refine la ?_
 refine liNil (qThen (stSeq (reg ?_)))
 refine lm ?_
 refine la ?_
 refine liNil (qThen (stRet ?_))
 refine stEnd [(vI q232)] rfl ⟨rfl, trivial⟩ (fun w hM => ?_)
 exact ⟨q232, k232, rfl, hM, ⟨by omega, by omega⟩⟩
theorem uMedA_any (b : Nat) (n : Nat) (c : Nat) (l : List Nat) (rest : List Value) (p : Nat) (sp : Nat) (k : Nat) (w : World) (hO : Own [cUs b l rest, cAt sp 3 [(vI k)]] w) (hn : l.length = n) (hp : p + 1 < n) (hp2 : 1 ≤ p) (hs : n ≤ 1000000) (hk : k ≤ 900000) :
  Calls Tryz.prog 107 #[(.slice (some ⟨b, 0, none⟩) (n) (c)), (vI p), (vP sp 0)] w fun e w' => ∃ (p2 : Nat) (k2 : Nat), e = .returned (vI p2) ∧ Back [cUs b l rest, cAt sp 3 [(vI k)]] w [cUs b l rest, cAt sp 3 [(vI k2)]] w' ∧ (p ≤ p2 + 1 ∧ p2 ≤ p + 1 ∧ k2 ≤ k + 3) := by
 have _u0 := hn
 have _u1 := hp
 have _u2 := hp2
 have _u3 := hs
 have _u4 := hk
 clear _u0 _u1 _u2 _u3 _u4
 refine stEnter (args := [(.slice (some ⟨b, 0, none⟩) (n) (c)), (vI p), (vP sp 0)]) (fps [cUs b l rest, cAt sp 3 [(vI k)]]) Tryz.func107 rfl 15 rfl [(0, (.slice (some ⟨b, 0, none⟩) (n) (c))), (1, (vI p)), (2, (vP sp 0))] ⟨rfl, rfl, rfl, trivial⟩ [cUs b l rest, cAt sp 3 [(vI k)]] (hO) ?_
 refine stSeq (reg ?_)
 refine la ?_
 refine liNil (qThen (stSeq (reg ?_)))
 refine lm ?_
 refine lm ?_
 refine lv (v := (vI (p - 1))) (rSubN rfl rfl rfl (by omega) (by omega)) ?_
 refine lm ?_
 refine lm ?_
 refine lv (v := (vI (p + 1))) (rAdd _ rfl rfl rfl (by omega) (by omega) (by omega)) ?_
 refine lm ?_
 refine li rfl ?_
 refine opK [0, 1] [cUs b l rest, cAt sp 3 [(vI k)]] (fun w hM hO => (uMed_any b n c l rest (p - 1) p (p + 1) sp k w hO (by first | assumption | omega) (by omega) (by omega) (by omega) (by omega) (by omega)).mono ?_)
 rintro e w' ⟨p214, k214, rfl, hP, heq14⟩
 refine ⟨_, [cUs b l rest, cAt sp 3 [(vI k214)]], _, rfl, hP, rfl, ?_⟩; clear hP hM hO
 refine la ?_
 refine liNil (qThen (stRet ?_))
 refine stEnd [(vI p214)] rfl ⟨rfl, trivial⟩ (fun w hM => ?_)
 exact ⟨p214, k214, rfl, hM, ⟨by omega, by omega, by omega⟩⟩
theorem uPiv_any (b : Nat) (n : Nat) (c : Nat) (l : List Nat) (rest : List Value) (a : Nat) (zz : Nat) (w : World) (hO : Own [cUs b l rest] w) (hn : l.length = n) (ha : a < zz) (he : zz ≤ n) (hs : n ≤ 1000000) :
  Calls Tryz.prog 94 #[(.slice (some ⟨b, 0, none⟩) (n) (c)), (vI a), (vI zz)] w fun e w' => ∃ (p : Nat) (h : Nat), e = .returned (.tuple #[(vI p), (vI h)]) ∧ Back [cUs b l rest] w [cUs b l rest] w' ∧ (a ≤ p ∧ p < zz) := by
 have _u0 := hn
 have _u1 := ha
 have _u2 := he
 have _u3 := hs
 clear _u0 _u1 _u2 _u3
 refine stEnter (args := [(.slice (some ⟨b, 0, none⟩) (n) (c)), (vI a), (vI zz)]) (fps [cUs b l rest]) Tryz.func94 rfl 57 rfl [(0, (.slice (some ⟨b, 0, none⟩) (n) (c))), (1, (vI a)), (2, (vI zz))] ⟨rfl, rfl, rfl, trivial⟩ [cUs b l rest] (hO) ?_
 refine stSeq (reg ?_)
 refine la ?_
 refine la ?_
 refine liNil (qThen (stSeq (reg ?_)))
 refine lm ?_
 refine lm ?_
 refine lv (v := (vI (zz - a))) (rSubN rfl rfl rfl (by omega) (by omega)) ?_
 refine la ?_
 refine liNil (qThen (stSeq (reg (li rfl ?_))))
 refine opAlloc [(.int .i64 0)] rfl rfl (by kernel_rfl) (by kernel_rfl) (fun b9 => ?_)
 refine liNil (qThen (stSeq (reg ?_)))
 refine lm ?_
 refine lm ?_
 refine lv (v := (vI ((zz - a) / 4))) (rQuoN rfl rfl rfl (by omega) (by omega)) ?_
 refine lv (v := (vI (((zz - a) / 4) * 1))) (rMul _ rfl rfl rfl (by omega) (by omega) (by omega)) ?_
 refine lv (v := (vI (a + ((zz - a) / 4) * 1))) (rAdd _ rfl rfl rfl (by omega) (by omega) (by omega)) ?_
 refine la ?_
 refine liNil (qThen (stSeq (reg ?_)))
 refine lm ?_
 refine lm ?_
 refine lv (v := (vI ((zz - a) / 4))) (rQuoN rfl rfl rfl (by omega) (by omega)) ?_
 refine lv (v := (vI (((zz - a) / 4) * 2))) (rMul _ rfl rfl rfl (by omega) (by omega) (by omega)) ?_
 refine lv (v := (vI (a + ((zz - a) / 4) * 2))) (rAdd _ rfl rfl rfl (by omega) (by omega) (by omega)) ?_
 refine la ?_
 refine liNil (qThen (stSeq (reg ?_)))
 refine lm ?_
 refine lm ?_
 refine lv (v := (vI ((zz - a) / 4))) (rQuoN rfl rfl rfl (by omega) (by omega)) ?_
 refine lv (v := (vI (((zz - a) / 4) * 3))) (rMul _ rfl rfl rfl (by omega) (by omega) (by omega)) ?_
 refine lv (v := (vI (a + ((zz - a) / 4) * 3))) (rAdd _ rfl rfl rfl (by omega) (by omega) (by omega)) ?_
 refine la ?_
 refine liNil (qThen (stSeq (stSeq (reg ?_))))
 refine lm ?_
 refine lc (.bool (decide ((((zz - a) : Nat) : Int) ≥ 8))) ?_
 refine liNil (qThen ?_)
 refine stCond rfl (fun hc32 => ?_) (fun hc32 => ?_)
 ·have hd32 := of_decide_eq_true hc32
  refine stSeq (stSeq (reg ?_))
  refine lm ?_
  refine lc (.bool (decide ((((zz - a) : Nat) : Int) ≥ 50))) ?_
  refine liNil (qThen ?_)
  refine stCond rfl (fun hc34 => ?_) (fun hc34 => ?_)
  ·have hd34 := of_decide_eq_true hc34
   refine stSeq (reg ?_)
   refine lm ?_
   refine lm ?_
   refine li rfl ?_
   refine opK [0, 1] [cUs b l rest, cAt b9 3 [(.int .i64 0)]] (fun w hM hO => (uMedA_any b n c l rest (a + ((zz - a) / 4) * 1) b9 0 w hO (by first | assumption | omega) (by omega) (by omega) (by omega) (by omega)).mono ?_)
   rintro e w' ⟨p237, k237, rfl, hP, heq37⟩
   refine ⟨_, [cUs b l rest, cAt b9 3 [(vI k237)]], _, rfl, hP, rfl, ?_⟩; clear hP hM hO
   refine la ?_
   refine liNil (qThen (stSeq (reg ?_)))
   refine lm ?_
   refine lm ?_
   refine li rfl ?_
   refine opK [0, 1] [cUs b l rest, cAt b9 3 [(vI k237)]] (fun w hM hO => (uMedA_any b n c l rest (a + ((zz - a) / 4) * 2) b9 k237 w hO (by first | assumption | omega) (by omega) (by omega) (by omega) (by omega)).mono ?_)
   rintro e w' ⟨p240, k240, rfl, hP, heq40⟩
   refine ⟨_, [cUs b l rest, cAt b9 3 [(vI k240)]], _, rfl, hP, rfl, ?_⟩; clear hP hM hO
   refine la ?_
   refine liNil (qThen (reg ?_))
   refine lm ?_
   refine lm ?_
   refine li rfl ?_
   refine opK [0, 1] [cUs b l rest, cAt b9 3 [(vI k240)]] (fun w hM hO => (uMedA_any b n c l rest (a + ((zz - a) / 4) * 3) b9 k240 w hO (by first | assumption | omega) (by omega) (by omega) (by omega) (by omega)).mono ?_)
   rintro e w' ⟨p243, k243, rfl, hP, heq43⟩
   refine ⟨_, [cUs b l rest, cAt b9 3 [(vI k243)]], _, rfl, hP, rfl, ?_⟩; clear hP hM hO
   refine la ?_
   refine liNil (qThen ?_)
   refine St.to [cUs b l rest, cAt b9 3 [(vI k243)]] (by kernel_rfl) ?_
   refine reg ?_
   refine lm ?_
   refine lm ?_
   refine lm ?_
   refine lm ?_
   refine li rfl ?_
   refine opK [0, 1] [cUs b l rest, cAt b9 3 [(vI k243)]] (fun w hM hO => (uMed_any b n c l rest p237 p240 p243 b9 k243 w hO (by first | assumption | omega) (by omega) (by omega) (by omega) (by omega) (by omega)).mono ?_)
   rintro e w' ⟨p248, k248, rfl, hP, heq48⟩
   refine ⟨_, [cUs b l rest, cAt b9 3 [(vI k248)]], _, rfl, hP, rfl, ?_⟩; clear hP hM hO
   refine la ?_
   refine liNil (qThen (stSeq (reg ?_)))
   refine lv (v := (vI k248)) (rLoad 1 rfl rfl (by kernel_rfl) rfl rfl) ?_
   refine liNil (qThen (stBlock (stSeq (reg ?_))))
   refine lc (.bool ((((k248 : Nat) : Int) : Int) == 0)) ?_
   refine la ?_
   refine liNil (qThen ?_)
   refine stCond rfl (fun hc51 => ?_) (fun hc51 => ?_)
   ·refine stSeq (reg ?_)
    refine lm ?_
    refine la ?_
    refine la ?_
    refine liNil (qThen (stRet (qBlockR ?_)))
    refine stEnd [(vI p248), (.int .i64 1)] rfl ⟨rfl, rfl, trivial⟩ (fun w hM => ?_)
    exact ⟨p248, 1, rfl, (hM.pick [0] rfl rfl), ⟨by omega, by omega⟩⟩
   ·refine stSeq (reg ?_)
    refine lc (.bool ((((k248 : Nat) : Int) : Int) == 12)) ?_
    refine la ?_
    refine liNil (qThen ?_)
    refine stCond rfl (fun hc54 => ?_) (fun hc54 => ?_)
    ·refine stSeq (reg ?_)
     refine lm ?_
     refine la ?_
     refine la ?_
     refine liNil (qThen (stRet (qBlockR ?_)))
     refine stEnd [(vI p248), (.int .i64 2)] rfl ⟨rfl, rfl, trivial⟩ (fun w hM => ?_)
     exact ⟨p248, 2, rfl, (hM.pick [0] rfl rfl), ⟨by omega, by omega⟩⟩
    ·refine stSeq (reg ?_)
     refine lm ?_
     refine la ?_
     refine la ?_
     refine liNil (qThen (stRet (qBlockR ?_)))
     refine stEnd [(vI p248), (.int .i64 0)] rfl ⟨rfl, rfl, trivial⟩ (fun w hM => ?_)
     exact ⟨p248, 0, rfl, (hM.pick [0] rfl rfl), ⟨by omega, by omega⟩⟩
  ·have hd34 := of_decide_eq_false hc34
   refine stSkip (qThen (reg ?_))
   refine lm ?_
   refine lm ?_
   refine lm ?_
   refine lm ?_
   refine li rfl ?_
   refine opK [0, 1] [cUs b l rest, cAt b9 3 [(.int .i64 0)]] (fun w hM hO => (uMed_any b n c l rest (a + ((zz - a) / 4) * 1) (a + ((zz - a) / 4) * 2) (a + ((zz - a) / 4) * 3) b9 0 w hO (by first | assumption | omega) (by omega) (by omega) (by omega) (by omega) (by omega)).mono ?_)
   rintro e w' ⟨p248, k248, rfl, hP, heq48⟩
   refine ⟨_, [cUs b l rest, cAt b9 3 [(vI k248)]], _, rfl, hP, rfl, ?_⟩; clear hP hM hO
   refine la ?_
   refine liNil (qThen (stSeq (reg ?_)))
   refine lv (v := (vI k248)) (rLoad 1 rfl rfl (by kernel_rfl) rfl rfl) ?_
   refine liNil (qThen (stBlock (stSeq (reg ?_))))
   refine lc (.bool ((((k248 : Nat) : Int) : Int) == 0)) ?_
   refine la ?_
   refine liNil (qThen ?_)
   refine stCond rfl (fun hc51 => ?_) (fun hc51 => ?_)
   ·refine stSeq (reg ?_)
    refine lm ?_
    refine la ?_
    refine la ?_
    refine liNil (qThen (stRet (qBlockR ?_)))
    refine stEnd [(vI p248), (.int .i64 1)] rfl ⟨rfl, rfl, trivial⟩ (fun w hM => ?_)
    exact ⟨p248, 1, rfl, (hM.pick [0] rfl rfl), ⟨by omega, by omega⟩⟩
   ·refine stSeq (reg ?_)
    refine lc (.bool ((((k248 : Nat) : Int) : Int) == 12)) ?_
    refine la ?_
    refine liNil (qThen ?_)
    refine stCond rfl (fun hc54 => ?_) (fun hc54 => ?_)
    ·refine stSeq (reg ?_)
     refine lm ?_
     refine la ?_
     refine la ?_
     refine liNil (qThen (stRet (qBlockR ?_)))
     refine stEnd [(vI p248), (.int .i64 2)] rfl ⟨rfl, rfl, trivial⟩ (fun w hM => ?_)
     exact ⟨p248, 2, rfl, (hM.pick [0] rfl rfl), ⟨by omega, by omega⟩⟩
    ·refine stSeq (reg ?_)
     refine lm ?_
     refine la ?_
     refine la ?_
     refine liNil (qThen (stRet (qBlockR ?_)))
     refine stEnd [(vI p248), (.int .i64 0)] rfl ⟨rfl, rfl, trivial⟩ (fun w hM => ?_)
     exact ⟨p248, 0, rfl, (hM.pick [0] rfl rfl), ⟨by omega, by omega⟩⟩
 ·have hd32 := of_decide_eq_false hc32
  refine stSkip (qThen (stSeq (reg ?_)))
  refine lv (v := (.int .i64 0)) (rLoad 1 rfl rfl (by kernel_rfl) rfl rfl) ?_
  refine liNil (qThen (stBlock (stSeq (reg ?_))))
  refine lc (.bool true) ?_
  refine la ?_
  refine liNil (qThen (stTrue rfl (stSeq (reg ?_))))
  refine lm ?_
  refine la ?_
  refine la ?_
  refine liNil (qThen (stRet (qBlockR ?_)))
  refine stEnd [(vI (a + ((zz - a) / 4) * 2)), (.int .i64 1)] rfl ⟨rfl, rfl, trivial⟩ (fun w hM => ?_)
  exact ⟨(a + ((zz - a) / 4) * 2), 1, rfl, (hM.pick [0] rfl rfl), ⟨by omega, by omega⟩⟩
theorem uRev_any (b : Nat) (n : Nat) (c : Nat) (l : List Nat) (rest : List Value) (a : Nat) (zz : Nat) (w : World) (hO : Own [cUs b l rest] w) (hn : l.length = n) (ha : a < zz) (he : zz ≤ n) (hs : n ≤ 1000000) :
  Calls Tryz.prog 95 #[(.slice (some ⟨b, 0, none⟩) (n) (c)), (vI a), (vI zz)] w fun e w' => ∃ (l2 : List Nat), e = .returned (.tuple #[]) ∧ Back [cUs b l rest] w [cUs b l2 rest] w' ∧ (l2.Perm l) := by
 have _u0 := hn
 have _u1 := ha
 have _u2 := he
 have _u3 := hs
 clear _u0 _u1 _u2 _u3
 refine stEnter (args := [(.slice (some ⟨b, 0, none⟩) (n) (c)), (vI a), (vI zz)]) (fps [cUs b l rest]) Tryz.func95 rfl 32 rfl [(0, (.slice (some ⟨b, 0, none⟩) (n) (c))), (1, (vI a)), (2, (vI zz))] ⟨rfl, rfl, rfl, trivial⟩ [cUs b l rest] (hO) ?_
 refine stSeq (reg ?_)
 refine lm ?_
 refine la ?_
 refine liNil (qThen (stSeq (reg ?_)))
 refine lm ?_
 refine lv (v := (vI (zz - 1))) (rSubN rfl rfl rfl (by omega) (by omega)) ?_
 refine la ?_
 refine liNil (qThen (stBlock ?_))
 refine stLoop (ι := Nat × Nat × List Nat) (fun (i, j, l1) => a ≤ i ∧ j < zz ∧ i ≤ zz ∧ l1.Perm l) (fun (i, j, l1) => j + zz - i) (fun (i, j, l1) => [(0, (.slice (some ⟨b, 0, none⟩) (n) (c))), (6, (vI i)), (7, (vI j))]) (fun (i, j, l1) => [cUs b l1 rest]) (a, zz - 1, l) ⟨by omega, by omega, by omega, List.Perm.refl _⟩ ⟨rfl, rfl, rfl, trivial⟩ (fun _ h => h) ?_
 rintro ⟨i, j, l1⟩ ⟨h0, h1, h2, hp⟩
 have hl1 : l1.length = n := by rw [hp.length_eq]; exact hn
 show St _ _ _ [(0, (.slice (some ⟨b, 0, none⟩) (n) (c))), (6, (vI i)), (7, (vI j))] [cUs b l1 rest] _
 refine stSeq (stSeq (reg ?_))
 refine lm ?_
 refine lm ?_
 refine lc (.bool (decide (((i : Nat) : Int) < ((j : Nat) : Int)))) ?_
 refine liNil (qThen ?_)
 refine stCond rfl (fun hc13 => ?_) (fun hc13 => ?_)
 ·have hd13 := of_decide_eq_true hc13
  refine stSkip (qThen (stBlock (stSeq ?_)))
  refine anyBegin [cUs b l1 rest] 13 (by kernel_rfl) (fun _ h => h) ?_
  refine am 0 ?_
  refine am 1 ?_
  refine am 2 ?_
  refine am 3 ?_
  refine am 4 ?_
  refine am 5 ?_
  refine av 6 (vP b (0 + j)) rfl (rIndexAddr1 (e := 62) rfl (by kernel_rfl) (by kernel_rfl) rfl rfl (by omega)) ?_
  obtain ⟨x0, hx0⟩ : ∃ ξ, (l1)[j]? = some ξ := ⟨_, List.getElem?_eq_getElem (by omega)⟩
  refine av 7 (.int .u64 ((x0 : Nat) : Int)) rfl (rLoadUs 0 rfl rfl (by kernel_rfl) rfl hx0) ?_
  refine am 8 ?_
  refine am 9 ?_
  refine av 10 (vP b (0 + i)) rfl (rIndexAddr1 (e := 62) rfl (by kernel_rfl) (by kernel_rfl) rfl rfl (by omega)) ?_
  obtain ⟨x1, hx1⟩ : ∃ ξ, (l1)[i]? = some ξ := ⟨_, List.getElem?_eq_getElem (by omega)⟩
  refine av 11 (.int .u64 ((x1 : Nat) : Int)) rfl (rLoadUs 0 rfl rfl (by kernel_rfl) rfl hx1) ?_
  refine av 12 (vP b (0 + i)) rfl (rIndexAddr1 (e := 62) rfl (by kernel_rfl) (by kernel_rfl) rfl rfl (by omega)) ?_
  refine a1 13 ?_
  refine opStoreUs 0 (l1.set i x0) rfl rfl (by kernel_rfl) rfl rfl (by kernel_rfl) rfl (by omega) (rfl) ?_
  refine anyPhase [cUs b (l1.set i x0) rest] 15 rfl (fun _ h => h) ?_
  refine av 14 (vP b (0 + j)) rfl (rIndexAddr1 (e := 62) rfl (by kernel_rfl) (by kernel_rfl) rfl rfl (by omega)) ?_
  refine a1 15 ?_
  refine opStoreUs 0 (swp l1 i j) rfl rfl (by kernel_rfl) rfl rfl (by kernel_rfl) rfl (by rw [List.length_set]; omega) (swpA hx1 hx0) ?_
  refine anyLast (by kernel_rfl) rfl ?_
  refine qThen (stSeq ?_)
  refine St.to [cUs b (swp l1 i j) rest] (by kernel_rfl) ?_
  refine reg ?_
  refine lm ?_
  refine lv (v := (vI (i + 1))) (rAdd _ rfl rfl rfl (by omega) (by omega) (by omega)) ?_
  refine la ?_
  refine liNil (qThen (reg ?_))
  refine lm ?_
  refine lv (v := (vI (j - 1))) (rSubN rfl rfl rfl (by omega) (by omega)) ?_
  refine la ?_
  refine liNil (qBlock (qThen ?_))
  exact stAgain (i + 1, j - 1, swp l1 i j) (⟨by omega, by omega, by omega, (swp_perm (by omega) (by omega)).trans hp⟩) (by show _ - _ < _ - _; omega) ⟨rfl, rfl, rfl, trivial⟩ (fun w hM => hM)
 ·have hd13 := of_decide_eq_false hc13
  refine stExit (qThenX (qThenX (qBlockX ?_)))
  refine stEndN [] rfl trivial (fun w hM => ?_)
  exact ⟨l1, rfl, hM, hp⟩
theorem uPins_any (b : Nat) (n : Nat) (c : Nat) (l : List Nat) (rest : List Value) (a : Nat) (zz : Nat) (w : World) (hO : Own [cUs b l rest] w) (hn : l.length = n) (ha : a < zz) (he : zz ≤ n) (hs : n ≤ 49) :
  Calls Tryz.prog 96 #[(.slice (some ⟨b, 0, none⟩) (n) (c)), (vI a), (vI zz)] w fun e w' => ∃ (r : Bool), e = .returned (.bool r) ∧ Back [cUs b l rest] w [cUs b l rest] w' := by
 have _u0 := hn
 have _u1 := ha
 have _u2 := he
 have _u3 := hs
 clear _u0 _u1 _u2 _u3
 refine stEnter (args := [(.slice (some ⟨b, 0, none⟩) (n) (c)), (vI a), (vI zz)]) (fps [cUs b l rest]) Tryz.func96 rfl 133 rfl [(0, (.slice (some ⟨b, 0, none⟩) (n) (c))), (1, (vI a)), (2, (vI zz))] ⟨rfl, rfl, rfl, trivial⟩ [cUs b l rest] (hO) ?_
 refine stSeq (reg ?_)
 refine la ?_
 refine liNil (qThen (stSeq (reg ?_)))
 refine lm ?_
 refine lv (v := (vI (a + 1))) (rAdd _ rfl rfl rfl (by omega) (by omega) (by omega)) ?_
 refine la ?_
 refine liNil (qThen (stSeq (stSeq (reg ?_))))
 refine la ?_
 refine liNil (qThen (stBlock ?_))
 refine stLoop (ι := Unit) (fun _ => True) (fun _ => 0) (fun _ => [(0, (.slice (some ⟨b, 0, none⟩) (n) (c))), (1, (vI a)), (2, (vI zz)), (6, (.bool false)), (7, (vI (a + 1))), (8, (.int .i64 0))]) (fun _ => [cUs b l rest]) () trivial ⟨rfl, rfl, rfl, rfl, rfl, rfl, trivial⟩ (fun _ h => h) ?_
 rintro _ -
 show St _ _ _ [(0, (.slice (some ⟨b, 0, none⟩) (n) (c))), (1, (vI a)), (2, (vI zz)), (6, (.bool false)), (7, (vI (a + 1))), (8, (.int .i64 0))] [cUs b l rest] _
 refine stSeq (stSeq (reg ?_))
 refine lm ?_
 refine lc (.bool true) ?_
 refine liNil (qThen (stTrue rfl (stSkip (qThen (stSeq (stBlock (stSeq (stBlock ?_))))))))
 refine stLoop (ι := Nat) (fun i => a + 1 ≤ i ∧ i ≤ zz) (fun i => zz - i) (fun i => [(0, (.slice (some ⟨b, 0, none⟩) (n) (c))), (1, (vI a)), (2, (vI zz)), (6, (.bool false)), (8, (.int .i64 0)), (7, (vI i))]) (fun i => [cUs b l rest]) (a + 1) ⟨by omega, by omega⟩ ⟨rfl, rfl, rfl, rfl, rfl, rfl, trivial⟩ (fun _ h => h) ?_
 rintro i ⟨h0, h1⟩
 show St _ _ _ [(0, (.slice (some ⟨b, 0, none⟩) (n) (c))), (1, (vI a)), (2, (vI zz)), (6, (.bool false)), (8, (.int .i64 0)), (7, (vI i))] [cUs b l rest] _
 refine stSeq (stSeq ?_)
 refine anyBegin [cUs b l rest] 16 (by kernel_rfl) (fun _ h => h) ?_
 refine am 0 ?_
 refine am 1 ?_
 refine ac 2 (.bool (decide (((i : Nat) : Int) < ((zz : Nat) : Int)))) ?_
 refine am 3 ?_
 refine Any.dec 20 rfl (fun hc20 => ?_) (fun hc20 => ?_)
 ·have hd20 := of_decide_eq_true hc20
  refine agm 4 ?_
  refine agm 5 ?_
  refine agv 6 (vP b (0 + i)) rfl (rIndexAddr1 (e := 62) rfl (by kernel_rfl) (by kernel_rfl) rfl rfl (by omega)) ?_
  obtain ⟨x0, hx0⟩ : ∃ ξ, (l)[i]? = some ξ := ⟨_, List.getElem?_eq_getElem (by omega)⟩
  refine agv 7 (.int .u64 ((x0 : Nat) : Int)) rfl (rLoadUs 0 rfl rfl (by kernel_rfl) rfl hx0) ?_
  refine agm 8 ?_
  refine agm 9 ?_
  refine agv 10 (vI (i - 1)) rfl (rSubN rfl rfl rfl (by omega) (by omega)) ?_
  refine agv 11 (vP b (0 + (i - 1))) rfl (rIndexAddr1 (e := 62) rfl (by kernel_rfl) (by kernel_rfl) rfl rfl (by omega)) ?_
  obtain ⟨x1, hx1⟩ : ∃ ξ, (l)[i - 1]? = some ξ := ⟨_, List.getElem?_eq_getElem (by omega)⟩
  refine agv 12 (.int .u64 ((x1 : Nat) : Int)) rfl (rLoadUs 0 rfl rfl (by kernel_rfl) rfl hx1) ?_
  refine a1g 13 ?_
  refine opK0 (fun w hM => (uLess_any x0 x1 w ).mono ?_)
  rintro e w' ⟨rfl, hP⟩
  refine ⟨_, _, rfl, hP, ?_⟩; clear hP hM
  refine anyNext [cUs b l rest] (fun _ h => h) (fun _ h => h) ?_
  refine agc 14 (.bool (!(decide (((x0 : Nat) : Int) < ((x1 : Nat) : Int))))) ?_
  refine ac 15 (.bool (!(decide (((x0 : Nat) : Int) < ((x1 : Nat) : Int))))) ?_
  refine anyDone (by kernel_rfl) ?_
  refine qThen ?_
  refine stCond rfl (fun hc32 => ?_) (fun hc32 => ?_)
  ·refine stSkip (qThen (stBlock (reg ?_)))
   refine lm ?_
   refine lv (v := (vI (i + 1))) (rAdd _ rfl rfl rfl (by omega) (by omega) (by omega)) ?_
   refine la ?_
   refine liNil (qBlock (qThen ?_))
   exact stAgain (i + 1) (⟨by omega, by omega⟩) (by show _ - _ < _ - _; omega) ⟨rfl, rfl, rfl, rfl, rfl, rfl, trivial⟩ (fun w hM => hM)
  ·refine stExit (qThenX (qThenX (qBlockX (qThen (stSeq (stSeq (reg ?_)))))))
   refine lm ?_
   refine lm ?_
   refine lc (.bool ((((i : Nat) : Int) : Int) == ((zz : Nat) : Int))) ?_
   refine liNil (qThen ?_)
   refine stCond rfl (fun hc37 => ?_) (fun hc37 => ?_)
   ·refine stSeq (reg ?_)
    refine la ?_
    refine liNil (qThen (stRet (qThenR (qBlockR (qThenR (qThenR (qBlockR (qThenR ?_))))))))
    refine stEnd [(.bool true)] rfl ⟨rfl, trivial⟩ (fun w hM => ?_)
    exact ⟨true, rfl, hM⟩
   ·refine stSkip (qThen (stSeq (stSeq (reg ?_))))
    refine lm ?_
    refine lm ?_
    refine lv (v := (vI (zz - a))) (rSubN rfl rfl rfl (by omega) (by omega)) ?_
    refine lc (.bool (decide ((((zz - a) : Nat) : Int) < 50))) ?_
    refine liNil (qThen ?_)
    refine stTrueK rfl (by simp; omega) ?_
    refine stSeq (reg ?_)
    refine la ?_
    refine liNil (qThen (stRet (qThenR (qBlockR (qThenR (qThenR (qBlockR (qThenR ?_))))))))
    refine stEnd [(.bool false)] rfl ⟨rfl, trivial⟩ (fun w hM => ?_)
    exact ⟨false, rfl, hM⟩
 ·have hd20 := of_decide_eq_false hc20
  refine anF 4 ?_
  refine anF 5 ?_
  refine anF 6 ?_
  refine anF 7 ?_
  refine anF 8 ?_
  refine anF 9 ?_
  refine anF 10 ?_
  refine anF 11 ?_
  refine anF 12 ?_
  refine anF 13 ?_
  refine anF 14 ?_
  refine ac 15 (.bool false) ?_
  refine anyDone (by kernel_rfl) ?_
  refine qThen (stFalse rfl (stExit (qThenX (qThenX (qBlockX (qThen (stSeq (stSeq (reg ?_)))))))))
  refine lm ?_
  refine lm ?_
  refine lc (.bool ((((i : Nat) : Int) : Int) == ((zz : Nat) : Int))) ?_
  refine liNil (qThen ?_)
  refine stCond rfl (fun hc37 => ?_) (fun hc37 => ?_)
  ·refine stSeq (reg ?_)
   refine la ?_
   refine liNil (qThen (stRet (qThenR (qBlockR (qThenR (qThenR (qBlockR (qThenR ?_))))))))
   refine stEnd [(.bool true)] rfl ⟨rfl, trivial⟩ (fun w hM => ?_)
   exact ⟨true, rfl, hM⟩
  ·refine stSkip (qThen (stSeq (stSeq (reg ?_))))
   refine lm ?_
   refine lm ?_
   refine lv (v := (vI (zz - a))) (rSubN rfl rfl rfl (by omega) (by omega)) ?_
   refine lc (.bool (decide ((((zz - a) : Nat) : Int) < 50))) ?_
   refine liNil (qThen ?_)
   refine stTrueK rfl (by simp; omega) ?_
   refine stSeq (reg ?_)
   refine la ?_
   refine liNil (qThen (stRet (qThenR (qBlockR (qThenR (qThenR (qBlockR (qThenR ?_))))))))
   refine stEnd [(.bool false)] rfl ⟨rfl, trivial⟩ (fun w hM => ?_)
   exact ⟨false, rfl, hM⟩
end Go.Proofs.YtaiggifiefnjnaaGreatDoor
namespace Go.Proofs.YtaiggifiefnjnaaGreatDoor
open Go.RowKit
theorem uPartE_any (b : Nat) (n : Nat) (c : Nat) (l : List Nat) (rest : List Value) (a : Nat) (zz : Nat) (p : Nat) (w : World) (hO : Own [cUs b l rest] w) (hn : l.length = n) (ha : a ≤ p) (hp : p < zz) (he : zz ≤ n) (hs : n ≤ 1000000) :
  Calls Tryz.prog 98 #[(.slice (some ⟨b, 0, none⟩) (n) (c)), (vI a), (vI zz), (vI p)] w fun e w' => ∃ (l2 : List Nat) (m : Nat), e = .returned (vI m) ∧ Back [cUs b l rest] w [cUs b l2 rest] w' ∧ (l2.Perm l) ∧ (a < m ∧ m ≤ zz) := by
 have _u0 := hn
 have _u1 := ha
 have _u2 := hp
 have _u3 := he
 have _u4 := hs
 clear _u0 _u1 _u2 _u3 _u4
 refine stEnter (args := [(.slice (some ⟨b, 0, none⟩) (n) (c)), (vI a), (vI zz), (vI p)]) (fps [cUs b l rest]) Tryz.func98 rfl 84 rfl [(0, (.slice (some ⟨b, 0, none⟩) (n) (c))), (1, (vI a)), (2, (vI zz)), (3, (vI p))] ⟨rfl, rfl, rfl, rfl, trivial⟩ [cUs b l rest] (hO) ?_
 refine stSeq (reg ?_)
 refine la ?_
 refine liNil (qThen (stSeq ?_))
 refine anyBegin [cUs b l rest] 13 (by kernel_rfl) (fun _ h => h) ?_
 refine am 0 ?_
 refine am 1 ?_
 refine am 2 ?_
 refine am 3 ?_
 refine am 4 ?_
 refine am 5 ?_
 refine av 6 (vP b (0 + p)) rfl (rIndexAddr1 (e := 62) rfl (by kernel_rfl) (by kernel_rfl) rfl rfl (by omega)) ?_
 obtain ⟨x0, hx0⟩ : ∃ ξ, (l)[p]? = some ξ := ⟨_, List.getElem?_eq_getElem (by omega)⟩
 refine av 7 (.int .u64 ((x0 : Nat) : Int)) rfl (rLoadUs 0 rfl rfl (by kernel_rfl) rfl hx0) ?_
 refine am 8 ?_
 refine am 9 ?_
 refine av 10 (vP b (0 + a)) rfl (rIndexAddr1 (e := 62) rfl (by kernel_rfl) (by kernel_rfl) rfl rfl (by omega)) ?_
 obtain ⟨x1, hx1⟩ : ∃ ξ, (l)[a]? = some ξ := ⟨_, List.getElem?_eq_getElem (by omega)⟩
 refine av 11 (.int .u64 ((x1 : Nat) : Int)) rfl (rLoadUs 0 rfl rfl (by kernel_rfl) rfl hx1) ?_
 refine av 12 (vP b (0 + a)) rfl (rIndexAddr1 (e := 62) rfl (by kernel_rfl) (by kernel_rfl) rfl rfl (by omega)) ?_
 refine a1 13 ?_
 refine opStoreUs 0 (l.set a x0) rfl rfl (by kernel_rfl) rfl rfl (by kernel_rfl) rfl (by omega) (rfl) ?_
 refine anyPhase [cUs b (l.set a x0) rest] 15 rfl (fun _ h => h) ?_
 refine av 14 (vP b (0 + p)) rfl (rIndexAddr1 (e := 62) rfl (by kernel_rfl) (by kernel_rfl) rfl rfl (by omega)) ?_
 refine a1 15 ?_
 refine opStoreUs 0 (swp l a p) rfl rfl (by kernel_rfl) rfl rfl (by kernel_rfl) rfl (by rw [List.length_set]; omega) (swpA hx1 hx0) ?_
 refine anyLast (by kernel_rfl) rfl ?_
 refine qThen (stSeq ?_)
 refine St.to [cUs b (swp l a p) rest] (by kernel_rfl) ?_
 have hp0 : (swp l a p).Perm l := swp_perm (by omega) (by omega)
 refine reg ?_
 refine lm ?_
 refine lv (v := (vI (a + 1))) (rAdd _ rfl rfl rfl (by omega) (by omega) (by omega)) ?_
 refine lm ?_
 refine lv (v := (vI (zz - 1))) (rSubN rfl rfl rfl (by omega) (by omega)) ?_
 refine la ?_
 refine la ?_
 refine liNil (qThen (stSeq (stBlock ?_)))
 refine stLoop (ι := Nat × Nat × List Nat) (fun (i0, j0, l1) => a + 1 ≤ i0 ∧ i0 ≤ zz ∧ a ≤ j0 ∧ j0 < zz ∧ l1.Perm l) (fun (i0, j0, l1) => zz + j0 - i0) (fun (i0, j0, l1) => [(0, (.slice (some ⟨b, 0, none⟩) (n) (c))), (1, (vI a)), (8, (.int .i64 0)), (9, (vI i0)), (10, (vI j0))]) (fun (i0, j0, l1) => [cUs b l1 rest]) (a + 1, zz - 1, swp l a p) ⟨by omega, by omega, by omega, by omega, hp0⟩ ⟨rfl, rfl, rfl, rfl, rfl, trivial⟩ (fun _ h => h) ?_
 rintro ⟨i0, j0, l1⟩ ⟨h0, h1, h2, h3, hp1⟩
 have hl1 : l1.length = n := by rw [hp1.length_eq]; exact hn
 show St _ _ _ [(0, (.slice (some ⟨b, 0, none⟩) (n) (c))), (1, (vI a)), (8, (.int .i64 0)), (9, (vI i0)), (10, (vI j0))] [cUs b l1 rest] _
 refine stBlock ?_
 refine stCut (ι := Nat) (fun i => i0 ≤ i ∧ i ≤ zz) (fun i => [(0, (.slice (some ⟨b, 0, none⟩) (n) (c))), (1, (vI a)), (8, (.int .i64 0)), (10, (vI j0)), (9, (vI i))]) (fun i => [cUs b l1 rest]) ?_ ?_
 ·refine stBlock ?_
  refine stLoop (ι := Nat) (fun i => i0 ≤ i ∧ i ≤ zz) (fun i => zz - i) (fun i => [(0, (.slice (some ⟨b, 0, none⟩) (n) (c))), (1, (vI a)), (8, (.int .i64 0)), (10, (vI j0)), (9, (vI i))]) (fun i => [cUs b l1 rest]) i0 ⟨by omega, by omega⟩ ⟨rfl, rfl, rfl, rfl, rfl, trivial⟩ (fun _ h => h) ?_
  rintro i ⟨g0, g1⟩
  show St _ _ _ [(0, (.slice (some ⟨b, 0, none⟩) (n) (c))), (1, (vI a)), (8, (.int .i64 0)), (10, (vI j0)), (9, (vI i))] [cUs b l1 rest] _
  refine stSeq (stSeq ?_)
  refine anyBegin [cUs b l1 rest] 15 (by kernel_rfl) (fun _ h => h) ?_
  refine am 0 ?_
  refine am 1 ?_
  refine ac 2 (.bool (decide (((i : Nat) : Int) ≤ ((j0 : Nat) : Int)))) ?_
  refine am 3 ?_
  refine Any.dec 32 rfl (fun hc32 => ?_) (fun hc32 => ?_)
  ·have hd32 := of_decide_eq_true hc32
   refine agm 4 ?_
   refine agm 5 ?_
   refine agv 6 (vP b (0 + a)) rfl (rIndexAddr1 (e := 62) rfl (by kernel_rfl) (by kernel_rfl) rfl rfl (by omega)) ?_
   obtain ⟨x2, hx2⟩ : ∃ ξ, (l1)[a]? = some ξ := ⟨_, List.getElem?_eq_getElem (by omega)⟩
   refine agv 7 (.int .u64 ((x2 : Nat) : Int)) rfl (rLoadUs 0 rfl rfl (by kernel_rfl) rfl hx2) ?_
   refine agm 8 ?_
   refine agm 9 ?_
   refine agv 10 (vP b (0 + i)) rfl (rIndexAddr1 (e := 62) rfl (by kernel_rfl) (by kernel_rfl) rfl rfl (by omega)) ?_
   obtain ⟨x3, hx3⟩ : ∃ ξ, (l1)[i]? = some ξ := ⟨_, List.getElem?_eq_getElem (by omega)⟩
   refine agv 11 (.int .u64 ((x3 : Nat) : Int)) rfl (rLoadUs 0 rfl rfl (by kernel_rfl) rfl hx3) ?_
   refine a1g 12 ?_
   refine opK0 (fun w hM => (uLess_any x2 x3 w ).mono ?_)
   rintro e w' ⟨rfl, hP⟩
   refine ⟨_, _, rfl, hP, ?_⟩; clear hP hM
   refine anyNext [cUs b l1 rest] (fun _ h => h) (fun _ h => h) ?_
   refine agc 13 (.bool (!(decide (((x2 : Nat) : Int) < ((x3 : Nat) : Int))))) ?_
   refine ac 14 (.bool (!(decide (((x2 : Nat) : Int) < ((x3 : Nat) : Int))))) ?_
   refine anyDone (by kernel_rfl) ?_
   refine qThen ?_
   refine stCond rfl (fun hc43 => ?_) (fun hc43 => ?_)
   ·refine stSkip (qThen (stBlock (reg ?_)))
    refine lm ?_
    refine lv (v := (vI (i + 1))) (rAdd _ rfl rfl rfl (by omega) (by omega) (by omega)) ?_
    refine la ?_
    refine liNil (qBlock (qThen ?_))
    exact stAgain (i + 1) (⟨by omega, by omega⟩) (by show _ - _ < _ - _; omega) ⟨rfl, rfl, rfl, rfl, rfl, trivial⟩ (fun w hM => hM)
   ·refine stExit (qThenX (qThenX (qBlockX (qThen ?_))))
    exact stMeet i (⟨by omega, by omega⟩) ⟨rfl, rfl, rfl, rfl, rfl, trivial⟩ (fun w hM => hM)
  ·have hd32 := of_decide_eq_false hc32
   refine anF 4 ?_
   refine anF 5 ?_
   refine anF 6 ?_
   refine anF 7 ?_
   refine anF 8 ?_
   refine anF 9 ?_
   refine anF 10 ?_
   refine anF 11 ?_
   refine anF 12 ?_
   refine anF 13 ?_
   refine ac 14 (.bool false) ?_
   refine anyDone (by kernel_rfl) ?_
   refine qThen (stFalse rfl (stExit (qThenX (qThenX (qBlockX (qThen ?_))))))
   exact stMeet i (⟨by omega, by omega⟩) ⟨rfl, rfl, rfl, rfl, rfl, trivial⟩ (fun w hM => hM)
 ·rintro i ⟨cia, cib⟩
  show St _ _ _ [(0, (.slice (some ⟨b, 0, none⟩) (n) (c))), (1, (vI a)), (8, (.int .i64 0)), (10, (vI j0)), (9, (vI i))] [cUs b l1 rest] _
  refine stCut (ι := Nat) (fun j => a ≤ j ∧ j ≤ j0) (fun j => [(0, (.slice (some ⟨b, 0, none⟩) (n) (c))), (1, (vI a)), (8, (.int .i64 0)), (9, (vI i)), (10, (vI j))]) (fun j => [cUs b l1 rest]) ?_ ?_
  ·refine stBlock ?_
   refine stLoop (ι := Nat) (fun j => a ≤ j ∧ j ≤ j0) (fun j => j) (fun j => [(0, (.slice (some ⟨b, 0, none⟩) (n) (c))), (1, (vI a)), (8, (.int .i64 0)), (9, (vI i)), (10, (vI j))]) (fun j => [cUs b l1 rest]) j0 ⟨by omega, by omega⟩ ⟨rfl, rfl, rfl, rfl, rfl, trivial⟩ (fun _ h => h) ?_
   rintro j ⟨g2, g3⟩
   show St _ _ _ [(0, (.slice (some ⟨b, 0, none⟩) (n) (c))), (1, (vI a)), (8, (.int .i64 0)), (9, (vI i)), (10, (vI j))] [cUs b l1 rest] _
   refine stSeq (stSeq ?_)
   refine anyBegin [cUs b l1 rest] 14 (by kernel_rfl) (fun _ h => h) ?_
   refine am 0 ?_
   refine am 1 ?_
   refine ac 2 (.bool (decide (((i : Nat) : Int) ≤ ((j : Nat) : Int)))) ?_
   refine am 3 ?_
   refine Any.dec 49 rfl (fun hc49 => ?_) (fun hc49 => ?_)
   ·have hd49 := of_decide_eq_true hc49
    refine agm 4 ?_
    refine agm 5 ?_
    refine agv 6 (vP b (0 + a)) rfl (rIndexAddr1 (e := 62) rfl (by kernel_rfl) (by kernel_rfl) rfl rfl (by omega)) ?_
    obtain ⟨x2, hx2⟩ : ∃ ξ, (l1)[a]? = some ξ := ⟨_, List.getElem?_eq_getElem (by omega)⟩
    refine agv 7 (.int .u64 ((x2 : Nat) : Int)) rfl (rLoadUs 0 rfl rfl (by kernel_rfl) rfl hx2) ?_
    refine agm 8 ?_
    refine agm 9 ?_
    refine agv 10 (vP b (0 + j)) rfl (rIndexAddr1 (e := 62) rfl (by kernel_rfl) (by kernel_rfl) rfl rfl (by omega)) ?_
    obtain ⟨x3, hx3⟩ : ∃ ξ, (l1)[j]? = some ξ := ⟨_, List.getElem?_eq_getElem (by omega)⟩
    refine agv 11 (.int .u64 ((x3 : Nat) : Int)) rfl (rLoadUs 0 rfl rfl (by kernel_rfl) rfl hx3) ?_
    refine a1g 12 ?_
    refine opK0 (fun w hM => (uLess_any x2 x3 w ).mono ?_)
    rintro e w' ⟨rfl, hP⟩
    refine ⟨_, _, rfl, hP, ?_⟩; clear hP hM
    refine anyNext [cUs b l1 rest] (fun _ h => h) (fun _ h => h) ?_
    refine ac 13 (.bool (decide (((x2 : Nat) : Int) < ((x3 : Nat) : Int)))) ?_
    refine anyDone (by kernel_rfl) ?_
    refine qThen ?_
    refine stCond rfl (fun hc59 => ?_) (fun hc59 => ?_)
    ·have hd59 := of_decide_eq_true hc59
     refine stSkip (qThen (stBlock (reg ?_)))
     refine lm ?_
     refine lv (v := (vI (j - 1))) (rSubN rfl rfl rfl (by omega) (by omega)) ?_
     refine la ?_
     refine liNil (qBlock (qThen ?_))
     exact stAgain (j - 1) (⟨by omega, by omega⟩) (by show _ - _ < _; omega) ⟨rfl, rfl, rfl, rfl, rfl, trivial⟩ (fun w hM => hM)
    ·have hd59 := of_decide_eq_false hc59
     refine stExit (qThenX (qThenX (qBlockX (qThen ?_))))
     exact stMeet j (⟨by omega, by omega⟩) ⟨rfl, rfl, rfl, rfl, rfl, trivial⟩ (fun w hM => hM)
   ·have hd49 := of_decide_eq_false hc49
    refine anF 4 ?_
    refine anF 5 ?_
    refine anF 6 ?_
    refine anF 7 ?_
    refine anF 8 ?_
    refine anF 9 ?_
    refine anF 10 ?_
    refine anF 11 ?_
    refine anF 12 ?_
    refine ac 13 (.bool false) ?_
    refine anyDone (by kernel_rfl) ?_
    refine qThen (stFalse rfl (stExit (qThenX (qThenX (qBlockX (qThen ?_))))))
    exact stMeet j (⟨by omega, by omega⟩) ⟨rfl, rfl, rfl, rfl, rfl, trivial⟩ (fun w hM => hM)
  ·rintro j ⟨cja, cjb⟩
   show St _ _ _ [(0, (.slice (some ⟨b, 0, none⟩) (n) (c))), (1, (vI a)), (8, (.int .i64 0)), (9, (vI i)), (10, (vI j))] [cUs b l1 rest] _
   refine stSeq (stSeq (reg ?_))
   refine lm ?_
   refine lm ?_
   refine lc (.bool (decide (((i : Nat) : Int) > ((j : Nat) : Int)))) ?_
   refine liNil (qThen ?_)
   refine stCond rfl (fun hc64 => ?_) (fun hc64 => ?_)
   ·have hd64 := of_decide_eq_true hc64
    refine stExit (qThenX (qBlockY rfl (qThenX (qBlockX (qThen (stSeq (reg ?_)))))))
    refine lm ?_
    refine la ?_
    refine liNil (qThen (stRet ?_))
    refine stEnd [(vI i)] rfl ⟨rfl, trivial⟩ (fun w hM => ?_)
    exact ⟨l1, i, rfl, hM, hp1, ⟨by omega, by omega⟩⟩
   ·have hd64 := of_decide_eq_false hc64
    refine stSkip (qThen (stSeq ?_))
    refine anyBegin [cUs b l1 rest] 13 (by kernel_rfl) (fun _ h => h) ?_
    refine am 0 ?_
    refine am 1 ?_
    refine am 2 ?_
    refine am 3 ?_
    refine am 4 ?_
    refine am 5 ?_
    refine av 6 (vP b (0 + j)) rfl (rIndexAddr1 (e := 62) rfl (by kernel_rfl) (by kernel_rfl) rfl rfl (by omega)) ?_
    obtain ⟨x2, hx2⟩ : ∃ ξ, (l1)[j]? = some ξ := ⟨_, List.getElem?_eq_getElem (by omega)⟩
    refine av 7 (.int .u64 ((x2 : Nat) : Int)) rfl (rLoadUs 0 rfl rfl (by kernel_rfl) rfl hx2) ?_
    refine am 8 ?_
    refine am 9 ?_
    refine av 10 (vP b (0 + i)) rfl (rIndexAddr1 (e := 62) rfl (by kernel_rfl) (by kernel_rfl) rfl rfl (by omega)) ?_
    obtain ⟨x3, hx3⟩ : ∃ ξ, (l1)[i]? = some ξ := ⟨_, List.getElem?_eq_getElem (by omega)⟩
    refine av 11 (.int .u64 ((x3 : Nat) : Int)) rfl (rLoadUs 0 rfl rfl (by kernel_rfl) rfl hx3) ?_
    refine av 12 (vP b (0 + i)) rfl (rIndexAddr1 (e := 62) rfl (by kernel_rfl) (by kernel_rfl) rfl rfl (by omega)) ?_
    refine a1 13 ?_
    refine opStoreUs 0 (l1.set i x2) rfl rfl (by kernel_rfl) rfl rfl (by kernel_rfl) rfl (by omega) (rfl) ?_
    refine anyPhase [cUs b (l1.set i x2) rest] 15 rfl (fun _ h => h) ?_
    refine av 14 (vP b (0 + j)) rfl (rIndexAddr1 (e := 62) rfl (by kernel_rfl) (by kernel_rfl) rfl rfl (by omega)) ?_
    refine a1 15 ?_
    refine opStoreUs 0 (swp l1 i j) rfl rfl (by kernel_rfl) rfl rfl (by kernel_rfl) rfl (by rw [List.length_set]; omega) (swpA hx3 hx2) ?_
    refine anyLast (by kernel_rfl) rfl ?_
    refine qThen (stSeq ?_)
    refine St.to [cUs b (swp l1 i j) rest] (by kernel_rfl) ?_
    refine reg ?_
    refine lm ?_
    refine lv (v := (vI (i + 1))) (rAdd _ rfl rfl rfl (by omega) (by omega) (by omega)) ?_
    refine la ?_
    refine liNil (qThen (reg ?_))
    refine lm ?_
    refine lv (v := (vI (j - 1))) (rSubN rfl rfl rfl (by omega) (by omega)) ?_
    refine la ?_
    refine liNil (qBlock (qThen ?_))
    exact stAgain (i + 1, j - 1, swp l1 i j) (⟨by omega, by omega, by omega, by omega, (swp_perm (by omega) (by omega)).trans hp1⟩) (by show _ - _ < _ - _; omega) ⟨rfl, rfl, rfl, rfl, rfl, trivial⟩ (fun w hM => hM)
theorem uPart_any (b : Nat) (n : Nat) (c : Nat) (l : List Nat) (rest : List Value) (a : Nat) (zz : Nat) (p : Nat) (w : World) (hO : Own [cUs b l rest] w) (hn : l.length = n) (ha : a ≤ p) (hp : p < zz) (he : zz ≤ n) (hs : n ≤ 1000000) :
  Calls Tryz.prog 99 #[(.slice (some ⟨b, 0, none⟩) (n) (c)), (vI a), (vI zz), (vI p)] w fun e w' => ∃ (l2 : List Nat) (m : Nat) (r : Bool), e = .returned (.tuple #[(vI m), (.bool r)]) ∧ Back [cUs b l rest] w [cUs b l2 rest] w' ∧ (l2.Perm l) ∧ (a ≤ m ∧ m < zz) := by
 have _u0 := hn
 have _u1 := ha
 have _u2 := hp
 have _u3 := he
 have _u4 := hs
 clear _u0 _u1 _u2 _u3 _u4
 refine stEnter (args := [(.slice (some ⟨b, 0, none⟩) (n) (c)), (vI a), (vI zz), (vI p)]) (fps [cUs b l rest]) Tryz.func99 rfl 168 rfl [(0, (.slice (some ⟨b, 0, none⟩) (n) (c))), (1, (vI a)), (2, (vI zz)), (3, (vI p))] ⟨rfl, rfl, rfl, rfl, trivial⟩ [cUs b l rest] (hO) ?_
 refine stSeq (reg ?_)
 refine la ?_
 refine la ?_
 refine liNil (qThen (stSeq ?_))
 refine anyBegin [cUs b l rest] 13 (by kernel_rfl) (fun _ h => h) ?_
 refine am 0 ?_
 refine am 1 ?_
 refine am 2 ?_
 refine am 3 ?_
 refine am 4 ?_
 refine am 5 ?_
 refine av 6 (vP b (0 + p)) rfl (rIndexAddr1 (e := 62) rfl (by kernel_rfl) (by kernel_rfl) rfl rfl (by omega)) ?_
 obtain ⟨x0, hx0⟩ : ∃ ξ, (l)[p]? = some ξ := ⟨_, List.getElem?_eq_getElem (by omega)⟩
 refine av 7 (.int .u64 ((x0 : Nat) : Int)) rfl (rLoadUs 0 rfl rfl (by kernel_rfl) rfl hx0) ?_
 refine am 8 ?_
 refine am 9 ?_
 refine av 10 (vP b (0 + a)) rfl (rIndexAddr1 (e := 62) rfl (by kernel_rfl) (by kernel_rfl) rfl rfl (by omega)) ?_
 obtain ⟨x1, hx1⟩ : ∃ ξ, (l)[a]? = some ξ := ⟨_, List.getElem?_eq_getElem (by omega)⟩
 refine av 11 (.int .u64 ((x1 : Nat) : Int)) rfl (rLoadUs 0 rfl rfl (by kernel_rfl) rfl hx1) ?_
 refine av 12 (vP b (0 + a)) rfl (rIndexAddr1 (e := 62) rfl (by kernel_rfl) (by kernel_rfl) rfl rfl (by omega)) ?_
 refine a1 13 ?_
 refine opStoreUs 0 (l.set a x0) rfl rfl (by kernel_rfl) rfl rfl (by kernel_rfl) rfl (by omega) (rfl) ?_
 refine anyPhase [cUs b (l.set a x0) rest] 15 rfl (fun _ h => h) ?_
 refine av 14 (vP b (0 + p)) rfl (rIndexAddr1 (e := 62) rfl (by kernel_rfl) (by kernel_rfl) rfl rfl (by omega)) ?_
 refine a1 15 ?_
 refine opStoreUs 0 (swp l a p) rfl rfl (by kernel_rfl) rfl rfl (by kernel_rfl) rfl (by rw [List.length_set]; omega) (swpA hx1 hx0) ?_
 refine anyLast (by kernel_rfl) rfl ?_
 refine qThen (stSeq ?_)
 refine St.to [cUs b (swp l a p) rest] (by kernel_rfl) ?_
 have hp0 : (swp l a p).Perm l := swp_perm (by omega) (by omega)
 have hl0 : (swp l a p).length = n := by rw [swp_length]; exact hn
 refine reg ?_
 refine lm ?_
 refine lv (v := (vI (a + 1))) (rAdd _ rfl rfl rfl (by omega) (by omega) (by omega)) ?_
 refine lm ?_
 refine lv (v := (vI (zz - 1))) (rSubN rfl rfl rfl (by omega) (by omega)) ?_
 refine la ?_
 refine la ?_
 refine liNil (qThen ?_)
 obtain ⟨l0, hl0e⟩ : ∃ l0, l0 = swp l a p := ⟨_, rfl⟩
 rw [← hl0e] at hp0 hl0 ⊢
 refine stCut (ι := Nat) (fun i => a + 1 ≤ i ∧ i ≤ zz) (fun i => [(0, (.slice (some ⟨b, 0, none⟩) (n) (c))), (1, (vI a)), (8, (.int .i64 0)), (9, (.bool false)), (11, (vI (zz - 1))), (10, (vI i))]) (fun i => [cUs b l0 rest]) ?_ ?_
 ·refine stBlock ?_
  refine stLoop (ι := Nat) (fun i => a + 1 ≤ i ∧ i ≤ zz) (fun i => zz - i) (fun i => [(0, (.slice (some ⟨b, 0, none⟩) (n) (c))), (1, (vI a)), (8, (.int .i64 0)), (9, (.bool false)), (11, (vI (zz - 1))), (10, (vI i))]) (fun i => [cUs b l0 rest]) (a + 1) ⟨by omega, by omega⟩ ⟨rfl, rfl, rfl, rfl, rfl, rfl, trivial⟩ (fun _ h => h) ?_
  rintro i ⟨g0, g1⟩
  show St _ _ _ [(0, (.slice (some ⟨b, 0, none⟩) (n) (c))), (1, (vI a)), (8, (.int .i64 0)), (9, (.bool false)), (11, (vI (zz - 1))), (10, (vI i))] [cUs b l0 rest] _
  refine stSeq (stSeq ?_)
  refine anyBegin [cUs b l0 rest] 14 (by kernel_rfl) (fun _ h => h) ?_
  refine am 0 ?_
  refine am 1 ?_
  refine ac 2 (.bool (decide (((i : Nat) : Int) ≤ (((zz - 1) : Nat) : Int)))) ?_
  refine am 3 ?_
  refine Any.dec 33 rfl (fun hc33 => ?_) (fun hc33 => ?_)
  ·have hd33 := of_decide_eq_true hc33
   refine agm 4 ?_
   refine agm 5 ?_
   refine agv 6 (vP b (0 + i)) rfl (rIndexAddr1 (e := 62) rfl (by kernel_rfl) (by kernel_rfl) rfl rfl (by omega)) ?_
   obtain ⟨x2, hx2⟩ : ∃ ξ, (l0)[i]? = some ξ := ⟨_, List.getElem?_eq_getElem (by omega)⟩
   refine agv 7 (.int .u64 ((x2 : Nat) : Int)) rfl (rLoadUs 0 rfl rfl (by kernel_rfl) rfl hx2) ?_
   refine agm 8 ?_
   refine agm 9 ?_
   refine agv 10 (vP b (0 + a)) rfl (rIndexAddr1 (e := 62) rfl (by kernel_rfl) (by kernel_rfl) rfl rfl (by omega)) ?_
   obtain ⟨x3, hx3⟩ : ∃ ξ, (l0)[a]? = some ξ := ⟨_, List.getElem?_eq_getElem (by omega)⟩
   refine agv 11 (.int .u64 ((x3 : Nat) : Int)) rfl (rLoadUs 0 rfl rfl (by kernel_rfl) rfl hx3) ?_
   refine a1g 12 ?_
   refine opK0 (fun w hM => (uLess_any x2 x3 w ).mono ?_)
   rintro e w' ⟨rfl, hP⟩
   refine ⟨_, _, rfl, hP, ?_⟩; clear hP hM
   refine anyNext [cUs b l0 rest] (fun _ h => h) (fun _ h => h) ?_
   refine ac 13 (.bool (decide (((x2 : Nat) : Int) < ((x3 : Nat) : Int)))) ?_
   refine anyDone (by kernel_rfl) ?_
   refine qThen ?_
   refine stCond rfl (fun hc43 => ?_) (fun hc43 => ?_)
   ·have hd43 := of_decide_eq_true hc43
    refine stSkip (qThen (stBlock (reg ?_)))
    refine lm ?_
    refine lv (v := (vI (i + 1))) (rAdd _ rfl rfl rfl (by omega) (by omega) (by omega)) ?_
    refine la ?_
    refine liNil (qBlock (qThen ?_))
    exact stAgain (i + 1) (⟨by omega, by omega⟩) (by show _ - _ < _ - _; omega) ⟨rfl, rfl, rfl, rfl, rfl, rfl, trivial⟩ (fun w hM => hM)
   ·have hd43 := of_decide_eq_false hc43
    refine stExit (qThenX (qThenX (qBlockX (qThen ?_))))
    exact stMeet i (⟨by omega, by omega⟩) ⟨rfl, rfl, rfl, rfl, rfl, rfl, trivial⟩ (fun w hM => hM)
  ·have hd33 := of_decide_eq_false hc33
   refine anF 4 ?_
   refine anF 5 ?_
   refine anF 6 ?_
   refine anF 7 ?_
   refine anF 8 ?_
   refine anF 9 ?_
   refine anF 10 ?_
   refine anF 11 ?_
   refine anF 12 ?_
   refine ac 13 (.bool false) ?_
   refine anyDone (by kernel_rfl) ?_
   refine qThen (stFalse rfl (stExit (qThenX (qThenX (qBlockX (qThen ?_))))))
   exact stMeet i (⟨by omega, by omega⟩) ⟨rfl, rfl, rfl, rfl, rfl, rfl, trivial⟩ (fun w hM => hM)
 ·rintro i ⟨cia, cib⟩
  show St _ _ _ [(0, (.slice (some ⟨b, 0, none⟩) (n) (c))), (1, (vI a)), (8, (.int .i64 0)), (9, (.bool false)), (11, (vI (zz - 1))), (10, (vI i))] [cUs b l0 rest] _
  refine stCut (ι := Nat) (fun j => a ≤ j ∧ j ≤ zz - 1) (fun j => [(0, (.slice (some ⟨b, 0, none⟩) (n) (c))), (1, (vI a)), (8, (.int .i64 0)), (9, (.bool false)), (10, (vI i)), (11, (vI j))]) (fun j => [cUs b l0 rest]) ?_ ?_
  ·refine stBlock ?_
   refine stLoop (ι := Nat) (fun j => a ≤ j ∧ j < zz) (fun j => j) (fun j => [(0, (.slice (some ⟨b, 0, none⟩) (n) (c))), (1, (vI a)), (8, (.int .i64 0)), (9, (.bool false)), (10, (vI i)), (11, (vI j))]) (fun j => [cUs b l0 rest]) (zz - 1) ⟨by omega, by omega⟩ ⟨rfl, rfl, rfl, rfl, rfl, rfl, trivial⟩ (fun _ h => h) ?_
   rintro j ⟨g2, g3⟩
   show St _ _ _ [(0, (.slice (some ⟨b, 0, none⟩) (n) (c))), (1, (vI a)), (8, (.int .i64 0)), (9, (.bool false)), (10, (vI i)), (11, (vI j))] [cUs b l0 rest] _
   refine stSeq (stSeq ?_)
   refine anyBegin [cUs b l0 rest] 15 (by kernel_rfl) (fun _ h => h) ?_
   refine am 0 ?_
   refine am 1 ?_
   refine ac 2 (.bool (decide (((i : Nat) : Int) ≤ ((j : Nat) : Int)))) ?_
   refine am 3 ?_
   refine Any.dec 49 rfl (fun hc49 => ?_) (fun hc49 => ?_)
   ·have hd49 := of_decide_eq_true hc49
    refine agm 4 ?_
    refine agm 5 ?_
    refine agv 6 (vP b (0 + j)) rfl (rIndexAddr1 (e := 62) rfl (by kernel_rfl) (by kernel_rfl) rfl rfl (by omega)) ?_
    obtain ⟨x2, hx2⟩ : ∃ ξ, (l0)[j]? = some ξ := ⟨_, List.getElem?_eq_getElem (by omega)⟩
    refine agv 7 (.int .u64 ((x2 : Nat) : Int)) rfl (rLoadUs 0 rfl rfl (by kernel_rfl) rfl hx2) ?_
    refine agm 8 ?_
    refine agm 9 ?_
    refine agv 10 (vP b (0 + a)) rfl (rIndexAddr1 (e := 62) rfl (by kernel_rfl) (by kernel_rfl) rfl rfl (by omega)) ?_
    obtain ⟨x3, hx3⟩ : ∃ ξ, (l0)[a]? = some ξ := ⟨_, List.getElem?_eq_getElem (by omega)⟩
    refine agv 11 (.int .u64 ((x3 : Nat) : Int)) rfl (rLoadUs 0 rfl rfl (by kernel_rfl) rfl hx3) ?_
    refine a1g 12 ?_
    refine opK0 (fun w hM => (uLess_any x2 x3 w ).mono ?_)
    rintro e w' ⟨rfl, hP⟩
    refine ⟨_, _, rfl, hP, ?_⟩; clear hP hM
    refine anyNext [cUs b l0 rest] (fun _ h => h) (fun _ h => h) ?_
    refine agc 13 (.bool (!(decide (((x2 : Nat) : Int) < ((x3 : Nat) : Int))))) ?_
    refine ac 14 (.bool (!(decide (((x2 : Nat) : Int) < ((x3 : Nat) : Int))))) ?_
    refine anyDone (by kernel_rfl) ?_
    refine qThen ?_
    refine stCond rfl (fun hc60 => ?_) (fun hc60 => ?_)
    ·refine stSkip (qThen (stBlock (reg ?_)))
     refine lm ?_
     refine lv (v := (vI (j - 1))) (rSubN rfl rfl rfl (by omega) (by omega)) ?_
     refine la ?_
     refine liNil (qBlock (qThen ?_))
     exact stAgain (j - 1) (⟨by omega, by omega⟩) (by show _ - _ < _; omega) ⟨rfl, rfl, rfl, rfl, rfl, rfl, trivial⟩ (fun w hM => hM)
    ·refine stExit (qThenX (qThenX (qBlockX (qThen ?_))))
     exact stMeet j (⟨by omega, by omega⟩) ⟨rfl, rfl, rfl, rfl, rfl, rfl, trivial⟩ (fun w hM => hM)
   ·have hd49 := of_decide_eq_false hc49
    refine anF 4 ?_
    refine anF 5 ?_
    refine anF 6 ?_
    refine anF 7 ?_
    refine anF 8 ?_
    refine anF 9 ?_
    refine anF 10 ?_
    refine anF 11 ?_
    refine anF 12 ?_
    refine anF 13 ?_
    refine ac 14 (.bool false) ?_
    refine anyDone (by kernel_rfl) ?_
    refine qThen (stFalse rfl (stExit (qThenX (qThenX (qBlockX (qThen ?_))))))
    exact stMeet j (⟨by omega, by omega⟩) ⟨rfl, rfl, rfl, rfl, rfl, rfl, trivial⟩ (fun w hM => hM)
  ·rintro j ⟨cja, cjb⟩
   show St _ _ _ [(0, (.slice (some ⟨b, 0, none⟩) (n) (c))), (1, (vI a)), (8, (.int .i64 0)), (9, (.bool false)), (10, (vI i)), (11, (vI j))] [cUs b l0 rest] _
   refine stSeq (stSeq (reg ?_))
   refine lm ?_
   refine lm ?_
   refine lc (.bool (decide (((i : Nat) : Int) > ((j : Nat) : Int)))) ?_
   refine liNil (qThen ?_)
   refine stCond rfl (fun hc65 => ?_) (fun hc65 => ?_)
   ·have hd65 := of_decide_eq_true hc65
    refine stSeq ?_
    refine anyBegin [cUs b l0 rest] 13 (by kernel_rfl) (fun _ h => h) ?_
    refine am 0 ?_
    refine am 1 ?_
    refine am 2 ?_
    refine am 3 ?_
    refine am 4 ?_
    refine am 5 ?_
    refine av 6 (vP b (0 + a)) rfl (rIndexAddr1 (e := 62) rfl (by kernel_rfl) (by kernel_rfl) rfl rfl (by omega)) ?_
    obtain ⟨x2, hx2⟩ : ∃ ξ, (l0)[a]? = some ξ := ⟨_, List.getElem?_eq_getElem (by omega)⟩
    refine av 7 (.int .u64 ((x2 : Nat) : Int)) rfl (rLoadUs 0 rfl rfl (by kernel_rfl) rfl hx2) ?_
    refine am 8 ?_
    refine am 9 ?_
    refine av 10 (vP b (0 + j)) rfl (rIndexAddr1 (e := 62) rfl (by kernel_rfl) (by kernel_rfl) rfl rfl (by omega)) ?_
    obtain ⟨x3, hx3⟩ : ∃ ξ, (l0)[j]? = some ξ := ⟨_, List.getElem?_eq_getElem (by omega)⟩
    refine av 11 (.int .u64 ((x3 : Nat) : Int)) rfl (rLoadUs 0 rfl rfl (by kernel_rfl) rfl hx3) ?_
    refine av 12 (vP b (0 + j)) rfl (rIndexAddr1 (e := 62) rfl (by kernel_rfl) (by kernel_rfl) rfl rfl (by omega)) ?_
    refine a1 13 ?_
    refine opStoreUs 0 (l0.set j x2) rfl rfl (by kernel_rfl) rfl rfl (by kernel_rfl) rfl (by omega) (rfl) ?_
    refine anyPhase [cUs b (l0.set j x2) rest] 15 rfl (fun _ h => h) ?_
    refine av 14 (vP b (0 + a)) rfl (rIndexAddr1 (e := 62) rfl (by kernel_rfl) (by kernel_rfl) rfl rfl (by omega)) ?_
    refine a1 15 ?_
    refine opStoreUs 0 (swp l0 j a) rfl rfl (by kernel_rfl) rfl rfl (by kernel_rfl) rfl (by rw [List.length_set]; omega) (swpA hx3 hx2) ?_
    refine anyLast (by kernel_rfl) rfl ?_
    refine qThen (stSeq ?_)
    refine St.to [cUs b (swp l0 j a) rest] (by kernel_rfl) ?_
    refine reg ?_
    refine lm ?_
    refine la ?_
    refine la ?_
    refine liNil (qThen (stRet (qThenR ?_)))
    refine stEnd [(vI j), (.bool true)] rfl ⟨rfl, rfl, trivial⟩ (fun w hM => ?_)
    exact ⟨(swp l0 j a), j, true, rfl, hM, (swp_perm (by omega) (by omega)).trans hp0, ⟨by omega, by omega⟩⟩
   ·have hd65 := of_decide_eq_false hc65
    refine stSkip (qThen (stSeq ?_))
    refine anyBegin [cUs b l0 rest] 13 (by kernel_rfl) (fun _ h => h) ?_
    refine am 0 ?_
    refine am 1 ?_
    refine am 2 ?_
    refine am 3 ?_
    refine am 4 ?_
    refine am 5 ?_
    refine av 6 (vP b (0 + j)) rfl (rIndexAddr1 (e := 62) rfl (by kernel_rfl) (by kernel_rfl) rfl rfl (by omega)) ?_
    obtain ⟨x2, hx2⟩ : ∃ ξ, (l0)[j]? = some ξ := ⟨_, List.getElem?_eq_getElem (by omega)⟩
    refine av 7 (.int .u64 ((x2 : Nat) : Int)) rfl (rLoadUs 0 rfl rfl (by kernel_rfl) rfl hx2) ?_
    refine am 8 ?_
    refine am 9 ?_
    refine av 10 (vP b (0 + i)) rfl (rIndexAddr1 (e := 62) rfl (by kernel_rfl) (by kernel_rfl) rfl rfl (by omega)) ?_
    obtain ⟨x3, hx3⟩ : ∃ ξ, (l0)[i]? = some ξ := ⟨_, List.getElem?_eq_getElem (by omega)⟩
    refine av 11 (.int .u64 ((x3 : Nat) : Int)) rfl (rLoadUs 0 rfl rfl (by kernel_rfl) rfl hx3) ?_
    refine av 12 (vP b (0 + i)) rfl (rIndexAddr1 (e := 62) rfl (by kernel_rfl) (by kernel_rfl) rfl rfl (by omega)) ?_
    refine a1 13 ?_
    refine opStoreUs 0 (l0.set i x2) rfl rfl (by kernel_rfl) rfl rfl (by kernel_rfl) rfl (by omega) (rfl) ?_
    refine anyPhase [cUs b (l0.set i x2) rest] 15 rfl (fun _ h => h) ?_
    refine av 14 (vP b (0 + j)) rfl (rIndexAddr1 (e := 62) rfl (by kernel_rfl) (by kernel_rfl) rfl rfl (by omega)) ?_
    refine a1 15 ?_
    refine opStoreUs 0 (swp l0 i j) rfl rfl (by kernel_rfl) rfl rfl (by kernel_rfl) rfl (by rw [List.length_set]; omega) (swpA hx3 hx2) ?_
    refine anyLast (by kernel_rfl) rfl ?_
    refine qThen (stSeq ?_)
    refine St.to [cUs b (swp l0 i j) rest] (by kernel_rfl) ?_
    have hp2 : (swp l0 i j).Perm l := (swp_perm (by omega) (by omega)).trans hp0
    refine reg ?_
    refine lm ?_
    refine lv (v := (vI (i + 1))) (rAdd _ rfl rfl rfl (by omega) (by omega) (by omega)) ?_
    refine la ?_
    refine liNil (qThen (stSeq (reg ?_)))
    refine lm ?_
    refine lv (v := (vI (j - 1))) (rSubN rfl rfl rfl (by omega) (by omega)) ?_
    refine la ?_
    refine liNil (qThen (stSeq (stBlock ?_)))
    refine stLoop (ι := Nat × Nat × List Nat) (fun (i0, j0, l1) => a + 1 ≤ i0 ∧ i0 ≤ zz ∧ a ≤ j0 ∧ j0 < zz ∧ l1.Perm l) (fun (i0, j0, l1) => zz + j0 - i0) (fun (i0, j0, l1) => [(0, (.slice (some ⟨b, 0, none⟩) (n) (c))), (1, (vI a)), (8, (.int .i64 0)), (9, (.bool false)), (10, (vI i0)), (11, (vI j0))]) (fun (i0, j0, l1) => [cUs b l1 rest]) (i + 1, j - 1, swp l0 i j) ⟨by omega, by omega, by omega, by omega, hp2⟩ ⟨rfl, rfl, rfl, rfl, rfl, rfl, trivial⟩ (fun _ h => h) ?_
    clear cia cib cja cjb
    rintro ⟨i0, j0, l1⟩ ⟨h0, h1, h2, h3, hp1⟩
    have hl1 : l1.length = n := by rw [hp1.length_eq]; exact hn
    show St _ _ _ [(0, (.slice (some ⟨b, 0, none⟩) (n) (c))), (1, (vI a)), (8, (.int .i64 0)), (9, (.bool false)), (10, (vI i0)), (11, (vI j0))] [cUs b l1 rest] _
    refine stBlock ?_
    refine stCut (ι := Nat) (fun i => i0 ≤ i ∧ i ≤ zz) (fun i => [(0, (.slice (some ⟨b, 0, none⟩) (n) (c))), (1, (vI a)), (8, (.int .i64 0)), (9, (.bool false)), (11, (vI j0)), (10, (vI i))]) (fun i => [cUs b l1 rest]) ?_ ?_
    ·refine stBlock ?_
     refine stLoop (ι := Nat) (fun i => i0 ≤ i ∧ i ≤ zz) (fun i => zz - i) (fun i => [(0, (.slice (some ⟨b, 0, none⟩) (n) (c))), (1, (vI a)), (8, (.int .i64 0)), (9, (.bool false)), (11, (vI j0)), (10, (vI i))]) (fun i => [cUs b l1 rest]) i0 ⟨by omega, by omega⟩ ⟨rfl, rfl, rfl, rfl, rfl, rfl, trivial⟩ (fun _ h => h) ?_
     rintro i ⟨g0, g1⟩
     show St _ _ _ [(0, (.slice (some ⟨b, 0, none⟩) (n) (c))), (1, (vI a)), (8, (.int .i64 0)), (9, (.bool false)), (11, (vI j0)), (10, (vI i))] [cUs b l1 rest] _
     refine stSeq (stSeq ?_)
     refine anyBegin [cUs b l1 rest] 14 (by kernel_rfl) (fun _ h => h) ?_
     refine am 0 ?_
     refine am 1 ?_
     refine ac 2 (.bool (decide (((i : Nat) : Int) ≤ ((j0 : Nat) : Int)))) ?_
     refine am 3 ?_
     refine Any.dec 102 rfl (fun hc102 => ?_) (fun hc102 => ?_)
     ·have hd102 := of_decide_eq_true hc102
      refine agm 4 ?_
      refine agm 5 ?_
      refine agv 6 (vP b (0 + i)) rfl (rIndexAddr1 (e := 62) rfl (by kernel_rfl) (by kernel_rfl) rfl rfl (by omega)) ?_
      obtain ⟨x4, hx4⟩ : ∃ ξ, (l1)[i]? = some ξ := ⟨_, List.getElem?_eq_getElem (by omega)⟩
      refine agv 7 (.int .u64 ((x4 : Nat) : Int)) rfl (rLoadUs 0 rfl rfl (by kernel_rfl) rfl hx4) ?_
      refine agm 8 ?_
      refine agm 9 ?_
      refine agv 10 (vP b (0 + a)) rfl (rIndexAddr1 (e := 62) rfl (by kernel_rfl) (by kernel_rfl) rfl rfl (by omega)) ?_
      obtain ⟨x5, hx5⟩ : ∃ ξ, (l1)[a]? = some ξ := ⟨_, List.getElem?_eq_getElem (by omega)⟩
      refine agv 11 (.int .u64 ((x5 : Nat) : Int)) rfl (rLoadUs 0 rfl rfl (by kernel_rfl) rfl hx5) ?_
      refine a1g 12 ?_
      refine opK0 (fun w hM => (uLess_any x4 x5 w ).mono ?_)
      rintro e w' ⟨rfl, hP⟩
      refine ⟨_, _, rfl, hP, ?_⟩; clear hP hM
      refine anyNext [cUs b l1 rest] (fun _ h => h) (fun _ h => h) ?_
      refine ac 13 (.bool (decide (((x4 : Nat) : Int) < ((x5 : Nat) : Int)))) ?_
      refine anyDone (by kernel_rfl) ?_
      refine qThen ?_
      refine stCond rfl (fun hc112 => ?_) (fun hc112 => ?_)
      ·have hd112 := of_decide_eq_true hc112
       refine stSkip (qThen (stBlock (reg ?_)))
       refine lm ?_
       refine lv (v := (vI (i + 1))) (rAdd _ rfl rfl rfl (by omega) (by omega) (by omega)) ?_
       refine la ?_
       refine liNil (qBlock (qThen ?_))
       exact stAgain (i + 1) (⟨by omega, by omega⟩) (by show _ - _ < _ - _; omega) ⟨rfl, rfl, rfl, rfl, rfl, rfl, trivial⟩ (fun w hM => hM)
      ·have hd112 := of_decide_eq_false hc112
       refine stExit (qThenX (qThenX (qBlockX (qThen ?_))))
       exact stMeet i (⟨by omega, by omega⟩) ⟨rfl, rfl, rfl, rfl, rfl, rfl, trivial⟩ (fun w hM => hM)
     ·have hd102 := of_decide_eq_false hc102
      refine anF 4 ?_
      refine anF 5 ?_
      refine anF 6 ?_
      refine anF 7 ?_
      refine anF 8 ?_
      refine anF 9 ?_
      refine anF 10 ?_
      refine anF 11 ?_
      refine anF 12 ?_
      refine ac 13 (.bool false) ?_
      refine anyDone (by kernel_rfl) ?_
      refine qThen (stFalse rfl (stExit (qThenX (qThenX (qBlockX (qThen ?_))))))
      exact stMeet i (⟨by omega, by omega⟩) ⟨rfl, rfl, rfl, rfl, rfl, rfl, trivial⟩ (fun w hM => hM)
    ·rintro i ⟨cia, cib⟩
     show St _ _ _ [(0, (.slice (some ⟨b, 0, none⟩) (n) (c))), (1, (vI a)), (8, (.int .i64 0)), (9, (.bool false)), (11, (vI j0)), (10, (vI i))] [cUs b l1 rest] _
     refine stCut (ι := Nat) (fun j => a ≤ j ∧ j ≤ j0) (fun j => [(0, (.slice (some ⟨b, 0, none⟩) (n) (c))), (1, (vI a)), (8, (.int .i64 0)), (9, (.bool false)), (10, (vI i)), (11, (vI j))]) (fun j => [cUs b l1 rest]) ?_ ?_
     ·refine stBlock ?_
      refine stLoop (ι := Nat) (fun j => a ≤ j ∧ j ≤ j0) (fun j => j) (fun j => [(0, (.slice (some ⟨b, 0, none⟩) (n) (c))), (1, (vI a)), (8, (.int .i64 0)), (9, (.bool false)), (10, (vI i)), (11, (vI j))]) (fun j => [cUs b l1 rest]) j0 ⟨by omega, by omega⟩ ⟨rfl, rfl, rfl, rfl, rfl, rfl, trivial⟩ (fun _ h => h) ?_
      rintro j ⟨g2, g3⟩
      show St _ _ _ [(0, (.slice (some ⟨b, 0, none⟩) (n) (c))), (1, (vI a)), (8, (.int .i64 0)), (9, (.bool false)), (10, (vI i)), (11, (vI j))] [cUs b l1 rest] _
      refine stSeq (stSeq ?_)
      refine anyBegin [cUs b l1 rest] 15 (by kernel_rfl) (fun _ h => h) ?_
      refine am 0 ?_
      refine am 1 ?_
      refine ac 2 (.bool (decide (((i : Nat) : Int) ≤ ((j : Nat) : Int)))) ?_
      refine am 3 ?_
      refine Any.dec 118 rfl (fun hc118 => ?_) (fun hc118 => ?_)
      ·have hd118 := of_decide_eq_true hc118
       refine agm 4 ?_
       refine agm 5 ?_
       refine agv 6 (vP b (0 + j)) rfl (rIndexAddr1 (e := 62) rfl (by kernel_rfl) (by kernel_rfl) rfl rfl (by omega)) ?_
       obtain ⟨x4, hx4⟩ : ∃ ξ, (l1)[j]? = some ξ := ⟨_, List.getElem?_eq_getElem (by omega)⟩
       refine agv 7 (.int .u64 ((x4 : Nat) : Int)) rfl (rLoadUs 0 rfl rfl (by kernel_rfl) rfl hx4) ?_
       refine agm 8 ?_
       refine agm 9 ?_
       refine agv 10 (vP b (0 + a)) rfl (rIndexAddr1 (e := 62) rfl (by kernel_rfl) (by kernel_rfl) rfl rfl (by omega)) ?_
       obtain ⟨x5, hx5⟩ : ∃ ξ, (l1)[a]? = some ξ := ⟨_, List.getElem?_eq_getElem (by omega)⟩
       refine agv 11 (.int .u64 ((x5 : Nat) : Int)) rfl (rLoadUs 0 rfl rfl (by kernel_rfl) rfl hx5) ?_
       refine a1g 12 ?_
       refine opK0 (fun w hM => (uLess_any x4 x5 w ).mono ?_)
       rintro e w' ⟨rfl, hP⟩
       refine ⟨_, _, rfl, hP, ?_⟩; clear hP hM
       refine anyNext [cUs b l1 rest] (fun _ h => h) (fun _ h => h) ?_
       refine agc 13 (.bool (!(decide (((x4 : Nat) : Int) < ((x5 : Nat) : Int))))) ?_
       refine ac 14 (.bool (!(decide (((x4 : Nat) : Int) < ((x5 : Nat) : Int))))) ?_
       refine anyDone (by kernel_rfl) ?_
       refine qThen ?_
       refine stCond rfl (fun hc129 => ?_) (fun hc129 => ?_)
       ·refine stSkip (qThen (stBlock (reg ?_)))
        refine lm ?_
        refine lv (v := (vI (j - 1))) (rSubN rfl rfl rfl (by omega) (by omega)) ?_
        refine la ?_
        refine liNil (qBlock (qThen ?_))
        exact stAgain (j - 1) (⟨by omega, by omega⟩) (by show _ - _ < _; omega) ⟨rfl, rfl, rfl, rfl, rfl, rfl, trivial⟩ (fun w hM => hM)
       ·refine stExit (qThenX (qThenX (qBlockX (qThen ?_))))
        exact stMeet j (⟨by omega, by omega⟩) ⟨rfl, rfl, rfl, rfl, rfl, rfl, trivial⟩ (fun w hM => hM)
      ·have hd118 := of_decide_eq_false hc118
       refine anF 4 ?_
       refine anF 5 ?_
       refine anF 6 ?_
       refine anF 7 ?_
       refine anF 8 ?_
       refine anF 9 ?_
       refine anF 10 ?_
       refine anF 11 ?_
       refine anF 12 ?_
       refine anF 13 ?_
       refine ac 14 (.bool false) ?_
       refine anyDone (by kernel_rfl) ?_
       refine qThen (stFalse rfl (stExit (qThenX (qThenX (qBlockX (qThen ?_))))))
       exact stMeet j (⟨by omega, by omega⟩) ⟨rfl, rfl, rfl, rfl, rfl, rfl, trivial⟩ (fun w hM => hM)
     ·rintro j ⟨cja, cjb⟩
      show St _ _ _ [(0, (.slice (some ⟨b, 0, none⟩) (n) (c))), (1, (vI a)), (8, (.int .i64 0)), (9, (.bool false)), (10, (vI i)), (11, (vI j))] [cUs b l1 rest] _
      refine stSeq (stSeq (reg ?_))
      refine lm ?_
      refine lm ?_
      refine lc (.bool (decide (((i : Nat) : Int) > ((j : Nat) : Int)))) ?_
      refine liNil (qThen ?_)
      refine stCond rfl (fun hc134 => ?_) (fun hc134 => ?_)
      ·have hd134 := of_decide_eq_true hc134
       refine stExit (qThenX (qBlockY rfl (qThenX (qBlockX (qThen (stSeq ?_))))))
       refine anyBegin [cUs b l1 rest] 13 (by kernel_rfl) (fun _ h => h) ?_
       refine am 0 ?_
       refine am 1 ?_
       refine am 2 ?_
       refine am 3 ?_
       refine am 4 ?_
       refine am 5 ?_
       refine av 6 (vP b (0 + a)) rfl (rIndexAddr1 (e := 62) rfl (by kernel_rfl) (by kernel_rfl) rfl rfl (by omega)) ?_
       obtain ⟨x4, hx4⟩ : ∃ ξ, (l1)[a]? = some ξ := ⟨_, List.getElem?_eq_getElem (by omega)⟩
       refine av 7 (.int .u64 ((x4 : Nat) : Int)) rfl (rLoadUs 0 rfl rfl (by kernel_rfl) rfl hx4) ?_
       refine am 8 ?_
       refine am 9 ?_
       refine av 10 (vP b (0 + j)) rfl (rIndexAddr1 (e := 62) rfl (by kernel_rfl) (by kernel_rfl) rfl rfl (by omega)) ?_
       obtain ⟨x5, hx5⟩ : ∃ ξ, (l1)[j]? = some ξ := ⟨_, List.getElem?_eq_getElem (by omega)⟩
       refine av 11 (.int .u64 ((x5 : Nat) : Int)) rfl (rLoadUs 0 rfl rfl (by kernel_rfl) rfl hx5) ?_
       refine av 12 (vP b (0 + j)) rfl (rIndexAddr1 (e := 62) rfl (by kernel_rfl) (by kernel_rfl) rfl rfl (by omega)) ?_
       refine a1 13 ?_
       refine opStoreUs 0 (l1.set j x4) rfl rfl (by kernel_rfl) rfl rfl (by kernel_rfl) rfl (by omega) (rfl) ?_
       refine anyPhase [cUs b (l1.set j x4) rest] 15 rfl (fun _ h => h) ?_
       refine av 14 (vP b (0 + a)) rfl (rIndexAddr1 (e := 62) rfl (by kernel_rfl) (by kernel_rfl) rfl rfl (by omega)) ?_
       refine a1 15 ?_
       refine opStoreUs 0 (swp l1 j a) rfl rfl (by kernel_rfl) rfl rfl (by kernel_rfl) rfl (by rw [List.length_set]; omega) (swpA hx5 hx4) ?_
       refine anyLast (by kernel_rfl) rfl ?_
       refine qThen (stSeq ?_)
       refine St.to [cUs b (swp l1 j a) rest] (by kernel_rfl) ?_
       refine reg ?_
       refine lm ?_
       refine la ?_
       refine la ?_
       refine liNil (qThen (stRet ?_))
       refine stEnd [(vI j), (.bool false)] rfl ⟨rfl, rfl, trivial⟩ (fun w hM => ?_)
       exact ⟨(swp l1 j a), j, false, rfl, hM, (swp_perm (by omega) (by omega)).trans hp1, ⟨by omega, by omega⟩⟩
      ·have hd134 := of_decide_eq_false hc134
       refine stSkip (qThen (stSeq ?_))
       refine anyBegin [cUs b l1 rest] 13 (by kernel_rfl) (fun _ h => h) ?_
       refine am 0 ?_
       refine am 1 ?_
       refine am 2 ?_
       refine am 3 ?_
       refine am 4 ?_
       refine am 5 ?_
       refine av 6 (vP b (0 + j)) rfl (rIndexAddr1 (e := 62) rfl (by kernel_rfl) (by kernel_rfl) rfl rfl (by omega)) ?_
       obtain ⟨x4, hx4⟩ : ∃ ξ, (l1)[j]? = some ξ := ⟨_, List.getElem?_eq_getElem (by omega)⟩
       refine av 7 (.int .u64 ((x4 : Nat) : Int)) rfl (rLoadUs 0 rfl rfl (by kernel_rfl) rfl hx4) ?_
       refine am 8 ?_
       refine am 9 ?_
       refine av 10 (vP b (0 + i)) rfl (rIndexAddr1 (e := 62) rfl (by kernel_rfl) (by kernel_rfl) rfl rfl (by omega)) ?_
       obtain ⟨x5, hx5⟩ : ∃ ξ, (l1)[i]? = some ξ := ⟨_, List.getElem?_eq_getElem (by omega)⟩
       refine av 11 (.int .u64 ((x5 : Nat) : Int)) rfl (rLoadUs 0 rfl rfl (by kernel_rfl) rfl hx5) ?_
       refine av 12 (vP b (0 + i)) rfl (rIndexAddr1 (e := 62) rfl (by kernel_rfl) (by kernel_rfl) rfl rfl (by omega)) ?_
       refine a1 13 ?_
       refine opStoreUs 0 (l1.set i x4) rfl rfl (by kernel_rfl) rfl rfl (by kernel_rfl) rfl (by omega) (rfl) ?_
       refine anyPhase [cUs b (l1.set i x4) rest] 15 rfl (fun _ h => h) ?_
       refine av 14 (vP b (0 + j)) rfl (rIndexAddr1 (e := 62) rfl (by kernel_rfl) (by kernel_rfl) rfl rfl (by omega)) ?_
       refine a1 15 ?_
       refine opStoreUs 0 (swp l1 i j) rfl rfl (by kernel_rfl) rfl rfl (by kernel_rfl) rfl (by rw [List.length_set]; omega) (swpA hx5 hx4) ?_
       refine anyLast (by kernel_rfl) rfl ?_
       refine qThen (stSeq ?_)
       refine St.to [cUs b (swp l1 i j) rest] (by kernel_rfl) ?_
       refine reg ?_
       refine lm ?_
       refine lv (v := (vI (i + 1))) (rAdd _ rfl rfl rfl (by omega) (by omega) (by omega)) ?_
       refine la ?_
       refine liNil (qThen (reg ?_))
       refine lm ?_
       refine lv (v := (vI (j - 1))) (rSubN rfl rfl rfl (by omega) (by omega)) ?_
       refine la ?_
       refine liNil (qBlock (qThen ?_))
       exact stAgain (i + 1, j - 1, swp l1 i j) (⟨by omega, by omega, by omega, by omega, (swp_perm (by omega) (by omega)).trans hp1⟩) (by show _ - _ < _ - _; omega) ⟨rfl, rfl, rfl, rfl, rfl, rfl, trivial⟩ (fun w hM => hM)
end Go.Proofs.YtaiggifiefnjnaaGreatDoor
namespace Go.Proofs.YtaiggifiefnjnaaGreatDoor
open Go.RowKit
theorem uPdq_fuel : ∀ (f : Nat) (b : Nat) (n : Nat) (c : Nat) (l : List Nat) (rest : List Value) (a : Nat) (zz : Nat) (lim : Nat) (w : World) (_ : Own [cUs b l rest] w) (_ : l.length = n) (_ : a ≤ zz) (_ : zz ≤ n) (_ : n ≤ 49) (_ : lim ≤ 1000) (_ : zz - a < f),
  Calls Tryz.prog 77 #[(.slice (some ⟨b, 0, none⟩) (n) (c)), (vI a), (vI zz), (vI lim)] w fun e w' => ∃ (l2 : List Nat), e = .returned (.tuple #[]) ∧ Back [cUs b l rest] w [cUs b l2 rest] w' ∧ (l2.Perm l) := by
 intro f
 induction f with
 | zero => intros; omega
 | succ f ih =>
   intro b n c l rest a zz lim w hO hn ha he hs hlim hf
   have _hs := hs; clear _hs
   refine stEnter (args := [(.slice (some ⟨b, 0, none⟩) (n) (c)), (vI a), (vI zz), (vI lim)]) (fps [cUs b l rest]) Tryz.func77 rfl 134 rfl [(0, (.slice (some ⟨b, 0, none⟩) (n) (c))), (1, (vI a)), (2, (vI zz)), (3, (vI lim))] ⟨rfl, rfl, rfl, rfl, trivial⟩ [cUs b l rest] hO ?_
   refine stSeq (reg ?_)
   refine la ?_
   refine liNil (qThen (stSeq (reg ?_)))
   refine la ?_
   refine liNil (qThen (stBlock ?_))
   refine stLoop (ι := Nat × Nat × Nat × Bool × Bool × List Nat) (fun (x, y, lq, wb, wp, l1) => a ≤ x ∧ x ≤ y ∧ y ≤ zz ∧ lq ≤ lim ∧ l1.Perm l) (fun (x, y, lq, wb, wp, l1) => y - x) (fun (x, y, lq, wb, wp, l1) => [(0, (.slice (some ⟨b, 0, none⟩) (n) (c))), (1, (vI x)), (2, (vI y)), (3, (vI lq)), (8, (.bool wb)), (9, (.bool wp))]) (fun (x, y, lq, wb, wp, l1) => [cUs b l1 rest]) (a, zz, lim, true, true, l) ⟨by omega, by omega, by omega, by omega, List.Perm.refl _⟩ ⟨rfl, rfl, rfl, rfl, rfl, rfl, trivial⟩ (fun _ h => h) ?_
   rintro ⟨x, y, lq, wb, wp, l1⟩ ⟨h0, h1, h2, hlq, hp1⟩
   have hl1 : l1.length = n := by rw [hp1.length_eq]; exact hn
   show St _ _ _ [(0, (.slice (some ⟨b, 0, none⟩) (n) (c))), (1, (vI x)), (2, (vI y)), (3, (vI lq)), (8, (.bool wb)), (9, (.bool wp))] [cUs b l1 rest] _
   refine stBlock (stSeq (reg ?_))
   refine lm ?_
   refine lm ?_
   refine lv (v := (vI (y - x))) (rSubN rfl rfl rfl (by omega) (by omega)) ?_
   refine la ?_
   refine liNil (qThen (stSeq (stSeq (reg ?_))))
   refine lm ?_
   refine lc (.bool (decide ((((y - x) : Nat) : Int) ≤ 12))) ?_
   refine liNil (qThen ?_)
   refine stCond rfl (fun hc23 => ?_) (fun hc23 => ?_)
   ·have hd23 := of_decide_eq_true hc23
    refine stSeq (reg ?_)
    refine lm ?_
    refine lm ?_
    refine lm ?_
    refine li rfl ?_
    refine opK [0] [cUs b l1 rest] (fun w hM hO => (uIns_any b n c l1 rest x y w hO (by first | assumption | omega) (by omega) (by omega) (by omega)).mono ?_)
    rintro e w' ⟨l227, rfl, hP, hpm27⟩
    refine ⟨_, [cUs b l227 rest], _, rfl, hP, rfl, ?_⟩; clear hP hM hO
    refine liNil (qThen (stRet (qThenR (qBlockR (qThenR (qBlockR ?_))))))
    refine stEnd [] rfl trivial (fun w hM => ?_)
    exact ⟨l227, rfl, hM, hpm27.trans hp1⟩
   ·have hd23 := of_decide_eq_false hc23
    refine stSkip (qThen (stSeq (stSeq (reg ?_))))
    refine lm ?_
    refine lc (.bool ((((lq : Nat) : Int) : Int) == 0)) ?_
    refine liNil (qThen ?_)
    refine stCond rfl (fun hc29 => ?_) (fun hc29 => ?_)
    ·refine stSeq (reg ?_)
     refine lm ?_
     refine lm ?_
     refine lm ?_
     refine li rfl ?_
     refine opK [0] [cUs b l1 rest] (fun w hM hO => (uHeap_any b n c l1 rest x y w hO (by first | assumption | omega) (by omega) (by omega) (by omega)).mono ?_)
     rintro e w' ⟨l233, rfl, hP, hpm33⟩
     refine ⟨_, [cUs b l233 rest], _, rfl, hP, rfl, ?_⟩; clear hP hM hO
     refine liNil (qThen (stRet (qThenR (qBlockR (qThenR (qBlockR ?_))))))
     refine stEnd [] rfl trivial (fun w hM => ?_)
     exact ⟨l233, rfl, hM, hpm33.trans hp1⟩
    ·have hlm : lq ≠ 0 := by simpa using hc29
     refine stSkip (qThen ?_)
     refine stCut (ι := Nat × List Nat) (fun (lk, l2) => lk ≤ lim ∧ l2.Perm l) (fun (lk, l2) => [(0, (.slice (some ⟨b, 0, none⟩) (n) (c))), (1, (vI x)), (2, (vI y)), (8, (.bool wb)), (9, (.bool wp)), (10, (vI (y - x))), (3, (vI lk))]) (fun (lk, l2) => [cUs b l2 rest]) ?_ ?_
     ·refine stSeq (reg ?_)
      refine lm ?_
      refine lc (.bool (!wb)) ?_
      refine liNil (qThen ?_)
      refine stCond rfl (fun hc35 => ?_) (fun hc35 => ?_)
      ·refine stSeq (reg ?_)
       refine lm ?_
       refine lm ?_
       refine lm ?_
       refine li rfl ?_
       refine opK [0] [cUs b l1 rest] (fun w hM hO => (uBrk_any b n c l1 rest x y w hO (by first | assumption | omega) (by omega) (by omega) (by omega)).mono ?_)
       rintro e w' ⟨l239, rfl, hP, hpm39⟩
       refine ⟨_, [cUs b l239 rest], _, rfl, hP, rfl, ?_⟩; clear hP hM hO
       refine liNil (qThen (reg ?_))
       refine lm ?_
       refine lv (v := (vI (lq - 1))) (rSubN rfl rfl rfl (by omega) (by omega)) ?_
       refine la ?_
       refine liNil (qThen ?_)
       exact stMeet ((lq - 1), l239) (⟨by omega, by first | exact hp1 | exact hpm39.trans hp1⟩) ⟨rfl, rfl, rfl, rfl, rfl, rfl, rfl, trivial⟩ (fun w hM => hM)
      ·refine stSkip (qThen ?_)
       exact stMeet (lq, l1) (⟨by omega, by first | exact hp1 | exact hpm39.trans hp1⟩) ⟨rfl, rfl, rfl, rfl, rfl, rfl, rfl, trivial⟩ (fun w hM => hM)
     ·rintro ⟨lk, l2⟩ ⟨hlk, hp2⟩
      have hl2 : l2.length = n := by rw [hp2.length_eq]; exact hn
      show St _ _ _ [(0, (.slice (some ⟨b, 0, none⟩) (n) (c))), (1, (vI x)), (2, (vI y)), (8, (.bool wb)), (9, (.bool wp)), (10, (vI (y - x))), (3, (vI lk))] [cUs b l2 rest] _
      refine stSeq (reg ?_)
      refine lm ?_
      refine lm ?_
      refine lm ?_
      refine li rfl ?_
      refine opK [0] [cUs b l2 rest] (fun w hM hO => (uPiv_any b n c l2 rest x y w hO (by first | assumption | omega) (by omega) (by omega) (by omega)).mono ?_)
      rintro e w' ⟨p46, h46, rfl, hP, heq46⟩
      refine ⟨_, [cUs b l2 rest], _, rfl, hP, rfl, ?_⟩; clear hP hM hO
      refine lm ?_
      refine lc (vI p46) ?_
      refine lc (vI h46) ?_
      refine la ?_
      refine la ?_
      refine liNil (qThen ?_)
      refine stCut (ι := Nat × Nat × List Nat) (fun (p, h, l4) => x ≤ p ∧ p < y ∧ l4.Perm l) (fun (p, h, l4) => [(0, (.slice (some ⟨b, 0, none⟩) (n) (c))), (1, (vI x)), (2, (vI y)), (3, (vI lk)), (8, (.bool wb)), (9, (.bool wp)), (10, (vI (y - x))), (11, (vI p)), (12, (vI h))]) (fun (p, h, l4) => [cUs b l4 rest]) ?_ ?_
      ·refine stSeq (reg ?_)
       refine lm ?_
       refine lc (.bool ((((h46 : Nat) : Int) : Int) == 2)) ?_
       refine liNil (qThen ?_)
       refine stCond rfl (fun hc50 => ?_) (fun hc50 => ?_)
       ·refine stSeq (reg ?_)
        refine lm ?_
        refine lm ?_
        refine lm ?_
        refine li rfl ?_
        refine opK [0] [cUs b l2 rest] (fun w hM hO => (uRev_any b n c l2 rest x y w hO (by first | assumption | omega) (by omega) (by omega) (by omega)).mono ?_)
        rintro e w' ⟨l254, rfl, hP, hpm54⟩
        refine ⟨_, [cUs b l254 rest], _, rfl, hP, rfl, ?_⟩; clear hP hM hO
        refine liNil (qThen (stSeq (reg ?_)))
        refine lm ?_
        refine lv (v := (vI (y - 1))) (rSubN rfl rfl rfl (by omega) (by omega)) ?_
        refine lm ?_
        refine lm ?_
        refine lv (v := (vI (p46 - x))) (rSubN rfl rfl rfl (by omega) (by omega)) ?_
        refine lv (v := (vI ((y - 1) - (p46 - x)))) (rSubN rfl rfl rfl (by omega) (by omega)) ?_
        refine la ?_
        refine liNil (qThen (reg ?_))
        refine la ?_
        refine liNil (qThen ?_)
        exact stMeet (((y - 1) - (p46 - x)), 1, l254) (⟨by omega, by omega, by first | exact hp2 | exact hpm54.trans hp2⟩) ⟨rfl, rfl, rfl, rfl, rfl, rfl, rfl, rfl, rfl, trivial⟩ (fun w hM => hM)
       ·refine stSkip (qThen ?_)
        exact stMeet (p46, h46, l2) (⟨by omega, by omega, by first | exact hp2 | exact hpm54.trans hp2⟩) ⟨rfl, rfl, rfl, rfl, rfl, rfl, rfl, rfl, rfl, trivial⟩ (fun w hM => hM)
      ·rintro ⟨p, h, l4⟩ ⟨g0, g1, hp4⟩
       have hl4 : l4.length = n := by rw [hp4.length_eq]; exact hn
       show St _ _ _ [(0, (.slice (some ⟨b, 0, none⟩) (n) (c))), (1, (vI x)), (2, (vI y)), (3, (vI lk)), (8, (.bool wb)), (9, (.bool wp)), (10, (vI (y - x))), (11, (vI p)), (12, (vI h))] [cUs b l4 rest] _
       refine stCut (ι := Unit) (fun _ => True) (fun _ => [(0, (.slice (some ⟨b, 0, none⟩) (n) (c))), (1, (vI x)), (2, (vI y)), (3, (vI lk)), (8, (.bool wb)), (9, (.bool wp)), (10, (vI (y - x))), (11, (vI p))]) (fun _ => [cUs b l4 rest]) ?_ ?_
       ·refine stSeq (reg ?_)
        refine lm ?_
        refine lm ?_
        refine St.dec 62 rfl (fun hc62 => ?_) (fun hc62 => ?_)
        ·refine lgm ?_
         refine lc (.bool wp) ?_
         refine lm ?_
         refine St.dec 65 rfl (fun hc65 => ?_) (fun hc65 => ?_)
         ·refine lgm ?_
          refine lgc (.bool ((((h : Nat) : Int) : Int) == 1)) ?_
          refine lc (.bool ((((h : Nat) : Int) : Int) == 1)) ?_
          refine liNil (qThen ?_)
          refine stCond rfl (fun hc68 => ?_) (fun hc68 => ?_)
          ·refine stSeq (reg ?_)
           refine lm ?_
           refine lm ?_
           refine lm ?_
           refine li rfl ?_
           refine opK [0] [cUs b l4 rest] (fun w hM hO => (uPins_any b n c l4 rest x y w hO (by first | assumption | omega) (by omega) (by omega) (by omega)).mono ?_)
           rintro e w' ⟨r72, rfl, hP⟩
           refine ⟨_, [cUs b l4 rest], _, rfl, hP, rfl, ?_⟩; clear hP hM hO
           refine liNil (qThen ?_)
           refine stCond rfl (fun hc72 => ?_) (fun hc72 => ?_)
           ·refine stRet (qThenR (qBlockR (qThenR (qBlockR ?_))))
            refine stEnd [] rfl trivial (fun w hM => ?_)
            exact ⟨l4, rfl, hM, hp4⟩
           ·refine stSkip (qThen ?_)
            exact stMeet () (trivial) ⟨rfl, rfl, rfl, rfl, rfl, rfl, rfl, rfl, trivial⟩ (fun w hM => hM)
          ·refine stSkip (qThen ?_)
           exact stMeet () (trivial) ⟨rfl, rfl, rfl, rfl, rfl, rfl, rfl, rfl, trivial⟩ (fun w hM => hM)
         ·refine lnF ?_
          refine lnF ?_
          refine lc (.bool false) ?_
          refine liNil (qThen (stFalse rfl (stSkip (qThen ?_))))
          exact stMeet () (trivial) ⟨rfl, rfl, rfl, rfl, rfl, rfl, rfl, rfl, trivial⟩ (fun w hM => hM)
        ·refine lnF ?_
         refine lc (.bool false) ?_
         refine lm ?_
         refine lnF ?_
         refine lnF ?_
         refine lc (.bool false) ?_
         refine liNil (qThen (stFalse rfl (stSkip (qThen ?_))))
         exact stMeet () (trivial) ⟨rfl, rfl, rfl, rfl, rfl, rfl, rfl, rfl, trivial⟩ (fun w hM => hM)
       ·rintro _ -
        show St _ _ _ [(0, (.slice (some ⟨b, 0, none⟩) (n) (c))), (1, (vI x)), (2, (vI y)), (3, (vI lk)), (8, (.bool wb)), (9, (.bool wp)), (10, (vI (y - x))), (11, (vI p))] [cUs b l4 rest] _
        refine stCut (ι := Unit) (fun _ => True) (fun _ => [(0, (.slice (some ⟨b, 0, none⟩) (n) (c))), (1, (vI x)), (2, (vI y)), (3, (vI lk)), (8, (.bool wb)), (9, (.bool wp)), (10, (vI (y - x))), (11, (vI p))]) (fun _ => [cUs b l4 rest]) ?_ ?_
        ·refine stSeq ?_
         refine anyBegin [cUs b l4 rest] 15 (by kernel_rfl) (fun _ h => h) ?_
         refine am 0 ?_
         refine ac 1 (.bool (decide (((x : Nat) : Int) > 0))) ?_
         refine am 2 ?_
         refine Any.dec 75 rfl (fun hc75 => ?_) (fun hc75 => ?_)
         ·have hd75 := of_decide_eq_true hc75
          refine agm 3 ?_
          refine agm 4 ?_
          refine agv 5 (vI (x - 1)) rfl (rSubN rfl rfl rfl (by omega) (by omega)) ?_
          refine agv 6 (vP b (0 + (x - 1))) rfl (rIndexAddr1 (e := 62) rfl (by kernel_rfl) (by kernel_rfl) rfl rfl (by omega)) ?_
          obtain ⟨x0, hx0⟩ : ∃ ξ, (l4)[x - 1]? = some ξ := ⟨_, List.getElem?_eq_getElem (by omega)⟩
          refine agv 7 (.int .u64 ((x0 : Nat) : Int)) rfl (rLoadUs 0 rfl rfl (by kernel_rfl) rfl hx0) ?_
          refine agm 8 ?_
          refine agm 9 ?_
          refine agv 10 (vP b (0 + p)) rfl (rIndexAddr1 (e := 62) rfl (by kernel_rfl) (by kernel_rfl) rfl rfl (by omega)) ?_
          obtain ⟨x1, hx1⟩ : ∃ ξ, (l4)[p]? = some ξ := ⟨_, List.getElem?_eq_getElem (by omega)⟩
          refine agv 11 (.int .u64 ((x1 : Nat) : Int)) rfl (rLoadUs 0 rfl rfl (by kernel_rfl) rfl hx1) ?_
          refine a1g 12 ?_
          refine opK0 (fun w hM => (uLess_any x0 x1 w ).mono ?_)
          rintro e w' ⟨rfl, hP⟩
          refine ⟨_, _, rfl, hP, ?_⟩; clear hP hM
          refine anyNext [cUs b l4 rest] (fun _ h => h) (fun _ h => h) ?_
          refine agc 13 (.bool (!(decide (((x0 : Nat) : Int) < ((x1 : Nat) : Int))))) ?_
          refine ac 14 (.bool (!(decide (((x0 : Nat) : Int) < ((x1 : Nat) : Int))))) ?_
          refine anyDone (by kernel_rfl) ?_
          refine qThen ?_
          refine stCond rfl (fun hc87 => ?_) (fun hc87 => ?_)
          ·refine stSeq (reg ?_)
           refine lm ?_
           refine lm ?_
           refine lm ?_
           refine lm ?_
           refine li rfl ?_
           refine opK [0] [cUs b l4 rest] (fun w hM hO => (uPartE_any b n c l4 rest x y p w hO (by first | assumption | omega) (by omega) (by omega) (by omega) (by omega)).mono ?_)
           rintro e w' ⟨l292, m92, rfl, hP, hpm92, hmid92⟩
           refine ⟨_, [cUs b l292 rest], _, rfl, hP, rfl, ?_⟩; clear hP hM hO
           refine la ?_
           refine liNil (qThen (stSeq (reg ?_)))
           refine lm ?_
           refine la ?_
           refine liNil (qThen (stExit (qThenX (qBlockX (qThen ?_)))))
           exact stAgain (m92, y, lk, wb, wp, l292) (⟨by omega, by omega, by omega, by omega, by first | exact hpm132.trans (hpm99.trans hp4) | exact hpm121.trans (hpm99.trans hp4) | exact hpm92.trans hp4⟩) (by show _ - _ < _ - _; omega) ⟨rfl, rfl, rfl, rfl, rfl, rfl, trivial⟩ (fun w hM => hM)
          ·refine stSkip (qThen ?_)
           exact stMeet () (trivial) ⟨rfl, rfl, rfl, rfl, rfl, rfl, rfl, rfl, trivial⟩ (fun w hM => hM)
         ·have hd75 := of_decide_eq_false hc75
          refine anF 3 ?_
          refine anF 4 ?_
          refine anF 5 ?_
          refine anF 6 ?_
          refine anF 7 ?_
          refine anF 8 ?_
          refine anF 9 ?_
          refine anF 10 ?_
          refine anF 11 ?_
          refine anF 12 ?_
          refine anF 13 ?_
          refine ac 14 (.bool false) ?_
          refine anyDone (by kernel_rfl) ?_
          refine qThen (stFalse rfl (stSkip (qThen ?_)))
          exact stMeet () (trivial) ⟨rfl, rfl, rfl, rfl, rfl, rfl, rfl, rfl, trivial⟩ (fun w hM => hM)
        ·rintro _ -
         show St _ _ _ [(0, (.slice (some ⟨b, 0, none⟩) (n) (c))), (1, (vI x)), (2, (vI y)), (3, (vI lk)), (8, (.bool wb)), (9, (.bool wp)), (10, (vI (y - x))), (11, (vI p))] [cUs b l4 rest] _
         refine stSeq (reg ?_)
         refine lm ?_
         refine lm ?_
         refine lm ?_
         refine lm ?_
         refine li rfl ?_
         refine opK [0] [cUs b l4 rest] (fun w hM hO => (uPart_any b n c l4 rest x y p w hO (by first | assumption | omega) (by omega) (by omega) (by omega) (by omega)).mono ?_)
         rintro e w' ⟨l299, m99, r99, rfl, hP, hpm99, hmid99⟩
         refine ⟨_, [cUs b l299 rest], _, rfl, hP, rfl, ?_⟩; clear hP hM hO
         refine lm ?_
         refine lc (vI m99) ?_
         refine lc (.bool r99) ?_
         refine la ?_
         refine la ?_
         refine liNil (qThen (stSeq (reg ?_)))
         refine lm ?_
         refine la ?_
         refine liNil (qThen (stSeq (reg ?_)))
         refine lm ?_
         refine lm ?_
         refine lv (v := (vI (m99 - x))) (rSubN rfl rfl rfl (by omega) (by omega)) ?_
         refine lm ?_
         refine lm ?_
         refine lv (v := (vI (y - m99))) (rSubN rfl rfl rfl (by omega) (by omega)) ?_
         refine la ?_
         refine la ?_
         refine liNil (qThen (stSeq (reg ?_)))
         refine lm ?_
         refine lv (v := (vI ((y - x) / 8))) (rQuoN rfl rfl rfl (by omega) (by omega)) ?_
         refine la ?_
         refine liNil (qThen (stSeq (reg ?_)))
         refine lm ?_
         refine lm ?_
         refine lc (.bool (decide ((((m99 - x) : Nat) : Int) < (((y - m99) : Nat) : Int)))) ?_
         refine liNil (qThen ?_)
         refine stCond rfl (fun hc113 => ?_) (fun hc113 => ?_)
         ·have hd113 := of_decide_eq_true hc113
          refine stSeq (reg ?_)
          refine lm ?_
          refine lm ?_
          refine lc (.bool (decide ((((m99 - x) : Nat) : Int) ≥ ((((y - x) / 8) : Nat) : Int)))) ?_
          refine la ?_
          refine liNil (qThen (stSeq (reg ?_)))
          refine lm ?_
          refine lm ?_
          refine lm ?_
          refine lm ?_
          refine li rfl ?_
          refine opK [0] [cUs b l299 rest] (fun w hM hO => (ih b n c l299 rest x m99 lk w hO (by rw [hpm99.length_eq]; omega) (by omega) (by omega) (by omega) (by omega) (by omega)).mono ?_)
          rintro e w' ⟨l2121, rfl, hP, hpm121⟩
          refine ⟨_, [cUs b l2121 rest], _, rfl, hP, rfl, ?_⟩; clear hP hM hO
          refine liNil (qThen (reg ?_))
          refine lm ?_
          refine lv (v := (vI (m99 + 1))) (rAdd _ rfl rfl rfl (by omega) (by omega) (by omega)) ?_
          refine la ?_
          refine liNil (qBlock (qThen ?_))
          exact stAgain (m99 + 1, y, lk, (decide ((((m99 - x) : Nat) : Int) ≥ ((((y - x) / 8) : Nat) : Int))), r99, l2121) (⟨by omega, by omega, by omega, by omega, by first | exact hpm132.trans (hpm99.trans hp4) | exact hpm121.trans (hpm99.trans hp4) | exact hpm92.trans hp4⟩) (by show _ - _ < _ - _; omega) ⟨rfl, rfl, rfl, rfl, rfl, rfl, trivial⟩ (fun w hM => hM)
         ·have hd113 := of_decide_eq_false hc113
          refine stSeq (reg ?_)
          refine lm ?_
          refine lm ?_
          refine lc (.bool (decide ((((y - m99) : Nat) : Int) ≥ ((((y - x) / 8) : Nat) : Int)))) ?_
          refine la ?_
          refine liNil (qThen (stSeq (reg ?_)))
          refine lm ?_
          refine lm ?_
          refine lv (v := (vI (m99 + 1))) (rAdd _ rfl rfl rfl (by omega) (by omega) (by omega)) ?_
          refine lm ?_
          refine lm ?_
          refine li rfl ?_
          refine opK [0] [cUs b l299 rest] (fun w hM hO => (ih b n c l299 rest (m99 + 1) y lk w hO (by rw [hpm99.length_eq]; omega) (by omega) (by omega) (by omega) (by omega) (by omega)).mono ?_)
          rintro e w' ⟨l2132, rfl, hP, hpm132⟩
          refine ⟨_, [cUs b l2132 rest], _, rfl, hP, rfl, ?_⟩; clear hP hM hO
          refine liNil (qThen (reg ?_))
          refine lm ?_
          refine la ?_
          refine liNil (qBlock (qThen ?_))
          exact stAgain (x, m99, lk, (decide ((((y - m99) : Nat) : Int) ≥ ((((y - x) / 8) : Nat) : Int))), r99, l2132) (⟨by omega, by omega, by omega, by omega, by first | exact hpm132.trans (hpm99.trans hp4) | exact hpm121.trans (hpm99.trans hp4) | exact hpm92.trans hp4⟩) (by show _ - _ < _ - _; omega) ⟨rfl, rfl, rfl, rfl, rfl, rfl, trivial⟩ (fun w hM => hM)
theorem uPdq_any (b : Nat) (n : Nat) (c : Nat) (l : List Nat) (rest : List Value) (a : Nat) (zz : Nat) (lim : Nat) (w : World) (hO : Own [cUs b l rest] w) (hn : l.length = n) (ha : a ≤ zz) (he : zz ≤ n) (hs : n ≤ 49) (hlim : lim ≤ 1000) :
  Calls Tryz.prog 77 #[(.slice (some ⟨b, 0, none⟩) (n) (c)), (vI a), (vI zz), (vI lim)] w fun e w' => ∃ (l2 : List Nat), e = .returned (.tuple #[]) ∧ Back [cUs b l rest] w [cUs b l2 rest] w' ∧ (l2.Perm l) := uPdq_fuel (zz - a + 1) b n c l rest a zz lim w hO hn ha he hs hlim (by omega)
theorem uSort_any (b : Nat) (n : Nat) (c : Nat) (l : List Nat) (rest : List Value) (w : World) (hO : Own [cUs b l rest] w) (hn : l.length = n) (hs : n ≤ 49) :
  Calls Tryz.prog 63 #[(.slice (some ⟨b, 0, none⟩) (n) (c))] w fun e w' => ∃ (l2 : List Nat), e = .returned (.tuple #[]) ∧ Back [cUs b l rest] w [cUs b l2 rest] w' ∧ (l2.Perm l) := by
 have _u0 := hn
 have _u1 := hs
 clear _u0 _u1
 refine stEnter (args := [(.slice (some ⟨b, 0, none⟩) (n) (c))]) (fps [cUs b l rest]) Tryz.func63 rfl 11 rfl [(0, (.slice (some ⟨b, 0, none⟩) (n) (c)))] ⟨rfl, trivial⟩ [cUs b l rest] (hO) ?_
 refine stSeq (reg ?_)
 refine lm ?_
 refine lc (vI n) ?_
 refine la ?_
 refine liNil (qThen (reg ?_))
 refine lm ?_
 refine lm ?_
 refine lm ?_
 refine lv (v := (.int .u64 ((n : Nat) : Int))) (rIntC _ (fun _ => by kernel_rfl) rfl rfl (wrapU64_id (by omega) (by omega))) ?_
 refine li rfl ?_
 refine opK0 (fun w hM => (uLen_any n w (by omega)).mono ?_)
 rintro e w' ⟨k9, rfl, hP, heq9⟩
 refine ⟨_, _, rfl, hP, ?_⟩; clear hP hM
 have hb := bitLen_le n; rw [← heq9] at hb
 refine li rfl ?_
 refine opK [0] [cUs b l rest] (fun w hM hO => (uPdq_any b n c l rest 0 n k9 w hO (by first | assumption | omega) (by omega) (by omega) (by omega) (by omega)).mono ?_)
 rintro e w' ⟨l210, rfl, hP, hpm10⟩
 refine ⟨_, [cUs b l210 rest], _, rfl, hP, rfl, ?_⟩; clear hP hM hO
 refine liNil ?_
 refine stEndN [] rfl trivial (fun w hM => ?_)
 exact ⟨l210, rfl, hM, hpm10⟩
end Go.Proofs.YtaiggifiefnjnaaGreatDoor
namespace Go.Proofs.YtaiggifiefnjnaaGreatDoor
open Go.RowKit
abbrev SlV := Option Addr × Nat × Nat
def slv (s : SlV) : Value := .slice s.1 s.2.1 s.2.2
theorem wf_us64 (a : Nat) (h : a < 18446744073709551616) : (Lit.int .u64 (a : Int)).wf = true := by
 simp [Lit.wf, IntKind.min, IntKind.max, IntKind.bits, IntKind.signed]
 omega
def kU : Kd Tryz.prog 62 Nat := kInt Tryz.prog 62 .u64 Tryz.underlying62 18446744073709551616 wf_us64
theorem gives_perm {Dt : DataW Unit} {kv : List (Nat × SlV)} (hh : ∀ l, Maps.has Dt l = kv.any fun p => (kU.lit p.1).sameKey l) (hn : (kvKeys kv).Nodup) {ss : List Int} (h : GivesU Dt ss) :
  (ss.map Int.toNat).Perm (kvKeys kv) ∧ ss.map encU = (ss.map Int.toNat).map uV := by
 have key : ∀ x, x ∈ ss ↔ ∃ a ∈ kvKeys kv, (a : Int) = x := by
  intro x
  rw [h.2 x, hh, List.any_eq_true]
  constructor
  ·rintro ⟨p, hp, h1⟩
   exact ⟨p.1, List.mem_map.2 ⟨p, hp, rfl⟩, by simpa [kU, kInt, Lit.sameKey] using h1⟩
  ·rintro ⟨a, ha, rfl⟩
   obtain ⟨p, hp, rfl⟩ := List.mem_map.1 ha
   exact ⟨p, hp, by simp [kU, kInt, Lit.sameKey]⟩
 have hcast : ∀ x ∈ ss, ((x.toNat : Nat) : Int) = x := fun x hx => by
  obtain ⟨a, _, rfl⟩ := (key x).1 hx
  simp
 refine ⟨(List.perm_ext_iff_of_nodup ?_ hn).2 fun a => ?_, ?_⟩
 ·have h1 := h.1
  unfold List.Nodup at h1 ⊢
  rw [List.pairwise_map]
  refine h1.imp_of_mem fun {x y} hx hy hne e => hne ?_
  rw [← hcast x hx, ← hcast y hy, e]
 ·rw [List.mem_map]
  constructor
  ·rintro ⟨x, hx, rfl⟩
   obtain ⟨a, ha, rfl⟩ := (key x).1 hx
   simpa using ha
  ·exact fun ha => ⟨(a : Int), (key _).2 ⟨a, ha, rfl⟩, by simp⟩
 ·rw [List.map_map]
  refine List.map_congr_left fun x hx => ?_
  show Value.int .u64 x = uV x.toNat
  rw [uV, hcast x hx]
theorem uCollect (bk nm : Nat) (kv : List (Nat × SlV)) (w : World) (r0 : Rf [] w (fun w => At w bk 85 [(.map (some nm))])) (r1 : Rf [] w (fun w => MapAt kU slv w nm kv)) (hlen : kv.length ≤ 1000000) :
  Calls Tryz.prog 62 #[.func (.func 64) #[] #[(vP bk 0)]] w fun e w' => ∃ v ss, e = .returned v ∧ (ss.map Int.toNat).Perm (kvKeys kv) ∧ ss.map encU = (ss.map Int.toNat).map uV ∧ w'.ownsRow w.heap.size 62 1 v ss.length (ss.map encU) ∧ (v = .slice none 0 0 ↔ ss = []) ∧ Below w.heap.size w w' := by
 have hm : w.cell? ⟨bk, 0, none⟩ = some (.map (some nm)) := by have h := r0.here; rw [h.cell]; rfl
 have hBm : bk < w.heap.size := by have h := r0.here; exact h.lt
 have hown : MapAt kU slv w nm kv := r1.here
 obtain ⟨Dt, ho, hs, hh⟩ := hown.owns (by unfold maxLen; omega)
 have hseq : SeqGives Fence.wide 1 Tryz.prog 64 #[.pointer (some ⟨bk, 0, none⟩)] encU (fun ss => GivesU Dt ss) (Maps.size Dt) w :=
  Us.keys_gives Fence.wide 1 trivial rfl (by omega) bk nm kv.length Dt w hBm hm ho
 have hC := (callsIn_wide (n := 3)).1 (Us.collect_in Fence.wide 3 trivial trivial rfl (by omega) 64 #[.pointer (some ⟨bk, 0, none⟩)] trivial (enters_of Tryz.func64 (by kernel_rfl) rfl) _ (Maps.size Dt) (by unfold maxLen; omega) (by omega) w hseq)
 refine hC.mono ?_
 rintro e w' ⟨v, ss, rfl, hg, hrow, hnil, hb⟩
 obtain ⟨h1, h2⟩ := gives_perm hh hown.nodup hg
 exact ⟨v, ss, rfl, h1, h2, hrow, hnil, hb⟩
theorem uCol_nil (bk : Nat) (nm : Nat) (kv : List (Nat × SlV)) (w : World) (r0 : Rf [] w (fun w => At w bk 85 [(.map (some nm))])) (r1 : Rf [] w (fun w => MapAt kU slv w nm kv)) (h0 : kv = []) :
  Calls Tryz.prog 62 #[(.func (.func 64) #[] #[(vP bk 0)])] w fun e w' => e = .returned (.slice none 0 0) ∧ Back [] w [] w' := by
 refine (uCollect bk nm kv w r0 r1 (by rw [h0]; simp)).mono ?_
 rintro e w' ⟨v, ss, rfl, h1, _, _, hnil, hb⟩
 subst h0
 have hs : ss = [] := by have := h1.length_eq; simpa [kvKeys] using this
 exact ⟨congrArg _ (hnil.2 hs), Mm.of_fr (Fr.of_below hb [])⟩
theorem uCol_any (bk : Nat) (nm : Nat) (kv : List (Nat × SlV)) (w : World) (r0 : Rf [] w (fun w => At w bk 85 [(.map (some nm))])) (r1 : Rf [] w (fun w => MapAt kU slv w nm kv)) (h0 : kv ≠ []) (hlen : kv.length ≤ 49) :
  Calls Tryz.prog 62 #[(.func (.func 64) #[] #[(vP bk 0)])] w fun e w' => ∃ (b : Nat) (n : Nat) (c : Nat) (l : List Nat) (rest : List Value), e = .returned (.slice (some ⟨b, 0, none⟩) (n) (c)) ∧ Back [] w [cUs b l rest] w' ∧ (l.Perm (kvKeys kv) ∧ l.length = n) := by
 refine (uCollect bk nm kv w r0 r1 (by omega)).mono ?_
 rintro e w' ⟨v, ss, rfl, h1, h2, hrow, hnil, hb⟩
 have hne : ss ≠ [] := fun e => by
  subst e
  have := h1.length_eq
  simp [kvKeys] at this
  exact h0 (List.eq_nil_of_length_eq_zero this.symm)
 rcases hrow.2 with ⟨hv, _⟩ | ⟨g, cap, cur, rfl, hge, hg, hn, _, hcs, ht⟩
 ·exact (hne (hnil.1 hv)).elim
 ·refine ⟨g, ss.length, cap, ss.map Int.toNat, cur.toList.drop ss.length, rfl, ?_, h1, by simp⟩
  refine (Mm.start w []).push (c := cUs g (ss.map Int.toNat) (cur.toList.drop ss.length)) (Fr.of_below hb []) ?_ (by simp [cAt]; exact hge) (by simp [cAt])
  show At w' g 62 _
  unfold At
  rw [← h2, ← ht, Nat.mul_one, List.take_append_drop]
  simpa using hg
theorem uKeys_any (nm : Nat) (w : World) :
  Calls Tryz.prog 44 #[(.map (some nm))] w fun e w' => ∃ (bk : Nat), e = .returned (.func (.func 64) #[] #[(vP bk 0)]) ∧ Back [] w [cAt bk 85 [(.map (some nm))]] w' := by
 refine stEnter (args := [(.map (some nm))]) (fps []) Tryz.func44 rfl 4 rfl [(0, (.map (some nm)))] ⟨rfl, trivial⟩ [] (Mm.start w []) ?_
 refine stSeq (reg (li rfl ?_))
 refine opBox [(.map (some nm))] rfl rfl (by kernel_rfl) rfl rfl (fun b1 => ?_)
 refine la ?_
 refine liNil (qThen (stSeq (reg ?_)))
 refine lc (.func (.func 64) #[] #[(vP b1 0)]) ?_
 refine la ?_
 refine liNil (qThen (stRet ?_))
 refine stEnd [(.func (.func 64) #[] #[(vP b1 0)])] rfl ⟨rfl, trivial⟩ (fun w hM => ?_)
 exact ⟨b1, rfl, hM⟩
theorem uIns_nil (w : World) :
  Calls Tryz.prog 91 #[(.slice none 0 0), (.int .i64 0), (.int .i64 0)] w fun e w' => e = .returned (.tuple #[]) ∧ Back [] w [] w' := by
 refine stEnter (args := [(.slice none 0 0), (.int .i64 0), (.int .i64 0)]) (fps []) Tryz.func91 rfl 49 rfl [(0, (.slice none 0 0)), (1, (.int .i64 0)), (2, (.int .i64 0))] ⟨rfl, rfl, rfl, trivial⟩ [] (Mm.start w []) ?_
 refine stSeq (reg ?_)
 refine lm ?_
 refine lc (.int .i64 1) ?_
 refine la ?_
 refine liNil (qThen (stBlock ?_))
 refine stLoop (ι := Unit) (fun _ => True) (fun _ => 0) (fun _ => [(0, (.slice none 0 0)), (1, (.int .i64 0)), (2, (.int .i64 0)), (6, (.int .i64 1))]) (fun _ => []) () trivial ⟨rfl, rfl, rfl, rfl, trivial⟩ (fun _ h => h) ?_
 rintro _ -
 show St _ _ _ [(0, (.slice none 0 0)), (1, (.int .i64 0)), (2, (.int .i64 0)), (6, (.int .i64 1))] [] _
 refine stSeq (stSeq (reg ?_))
 refine lm ?_
 refine lm ?_
 refine lc (.bool false) ?_
 refine liNil (qThen (stFalse rfl (stExit (qThenX (qThenX (qBlockX ?_))))))
 refine stEndN [] rfl trivial (fun w hM => ?_)
 exact ⟨rfl, hM⟩
theorem uPdq_nil (lim : Nat) (w : World) :
  Calls Tryz.prog 77 #[(.slice none 0 0), (.int .i64 0), (.int .i64 0), (vI lim)] w fun e w' => e = .returned (.tuple #[]) ∧ Back [] w [] w' := by
 refine stEnter (args := [(.slice none 0 0), (.int .i64 0), (.int .i64 0), (vI lim)]) (fps []) Tryz.func77 rfl 134 rfl [(0, (.slice none 0 0)), (1, (.int .i64 0)), (2, (.int .i64 0)), (3, (vI lim))] ⟨rfl, rfl, rfl, rfl, trivial⟩ [] (Mm.start w []) ?_
 refine stSeq (reg ?_)
 refine la ?_
 refine liNil (qThen (stSeq (reg ?_)))
 refine la ?_
 refine liNil (qThen (stBlock ?_))
 refine stLoop (ι := Unit) (fun _ => True) (fun _ => 0) (fun _ => [(0, (.slice none 0 0)), (1, (.int .i64 0)), (2, (.int .i64 0)), (3, (vI lim)), (8, (.bool true)), (9, (.bool true))]) (fun _ => []) () trivial ⟨rfl, rfl, rfl, rfl, rfl, rfl, trivial⟩ (fun _ h => h) ?_
 rintro _ -
 show St _ _ _ [(0, (.slice none 0 0)), (1, (.int .i64 0)), (2, (.int .i64 0)), (3, (vI lim)), (8, (.bool true)), (9, (.bool true))] [] _
 refine stBlock (stSeq (reg ?_))
 refine lm ?_
 refine lm ?_
 refine lc (.int .i64 0) ?_
 refine la ?_
 refine liNil (qThen (stSeq (stSeq (reg ?_))))
 refine lm ?_
 refine lc (.bool true) ?_
 refine liNil (qThen (stTrue rfl (stSeq (reg ?_))))
 refine lm ?_
 refine lm ?_
 refine lm ?_
 refine li rfl ?_
 refine opK0 (fun w hM => (uIns_nil  w ).mono ?_)
 rintro e w' ⟨rfl, hP⟩
 refine ⟨_, _, rfl, hP, ?_⟩; clear hP hM
 refine liNil (qThen (stRet (qThenR (qBlockR (qThenR (qBlockR ?_))))))
 refine stEnd [] rfl trivial (fun w hM => ?_)
 exact ⟨rfl, hM⟩
theorem uSort_nil (w : World) :
  Calls Tryz.prog 63 #[(.slice none 0 0)] w fun e w' => e = .returned (.tuple #[]) ∧ Back [] w [] w' := by
 refine stEnter (args := [(.slice none 0 0)]) (fps []) Tryz.func63 rfl 11 rfl [(0, (.slice none 0 0))] ⟨rfl, trivial⟩ [] (Mm.start w []) ?_
 refine stSeq (reg ?_)
 refine lm ?_
 refine lc (.int .i64 0) ?_
 refine la ?_
 refine liNil (qThen (reg ?_))
 refine lm ?_
 refine lm ?_
 refine lm ?_
 refine lc (.int .u64 0) ?_
 refine li rfl ?_
 refine opK0 (fun w hM => (uLen_any 0 w (by omega)).mono ?_)
 rintro e w' ⟨k9, rfl, hP, heq9⟩
 refine ⟨_, _, rfl, hP, ?_⟩; clear hP hM
 refine li rfl ?_
 refine opK0 (fun w hM => (uPdq_nil k9 w ).mono ?_)
 rintro e w' ⟨rfl, hP⟩
 refine ⟨_, _, rfl, hP, ?_⟩; clear hP hM
 refine liNil ?_
 refine stEndN [] rfl trivial (fun w hM => ?_)
 exact ⟨rfl, hM⟩
theorem uSorted_nil (bk : Nat) (nm : Nat) (kv : List (Nat × SlV)) (w : World) (r0 : Rf [] w (fun w => At w bk 85 [(.map (some nm))])) (r1 : Rf [] w (fun w => MapAt kU slv w nm kv)) (h0 : kv = []) :
  Calls Tryz.prog 43 #[(.func (.func 64) #[] #[(vP bk 0)])] w fun e w' => e = .returned (.slice none 0 0) ∧ Back [] w [] w' := by
 have _u0 := r0
 have _u1 := r1
 have _u2 := h0
 clear _u0 _u1 _u2
 refine stEnter (args := [(.func (.func 64) #[] #[(vP bk 0)])]) (fps []) Tryz.func43 rfl 9 rfl [(0, (.func (.func 64) #[] #[(vP bk 0)]))] ⟨rfl, trivial⟩ [] (Mm.start w []) ?_
 refine stSeq (reg ?_)
 refine la ?_
 refine liNil (qThen (stSeq (reg ?_)))
 refine lm ?_
 refine li rfl ?_
 refine opK0 (fun w hM => (uCol_nil bk nm kv w (r0.go0 hM) (r1.go0 hM) (by assumption)).mono ?_)
 rintro e w' ⟨rfl, hP⟩
 refine ⟨_, _, rfl, hP, ?_⟩; clear hP hM
 refine la ?_
 refine liNil (qThen (stSeq (reg ?_)))
 refine lm ?_
 refine li rfl ?_
 refine opK0 (fun w hM => (uSort_nil  w ).mono ?_)
 rintro e w' ⟨rfl, hP⟩
 refine ⟨_, _, rfl, hP, ?_⟩; clear hP hM
 refine liNil (qThen (stSeq (reg ?_)))
 refine lm ?_
 refine la ?_
 refine liNil (qThen (stRet ?_))
 refine stEnd [(.slice none 0 0)] rfl ⟨rfl, trivial⟩ (fun w hM => ?_)
 exact ⟨rfl, hM⟩
theorem uSorted_any (bk : Nat) (nm : Nat) (kv : List (Nat × SlV)) (w : World) (r0 : Rf [] w (fun w => At w bk 85 [(.map (some nm))])) (r1 : Rf [] w (fun w => MapAt kU slv w nm kv)) (h0 : kv ≠ []) (hlen : kv.length ≤ 49) :
  Calls Tryz.prog 43 #[(.func (.func 64) #[] #[(vP bk 0)])] w fun e w' => ∃ (b : Nat) (n : Nat) (c : Nat) (l : List Nat) (rest : List Value), e = .returned (.slice (some ⟨b, 0, none⟩) (n) (c)) ∧ Back [] w [cUs b l rest] w' ∧ (l.Perm (kvKeys kv) ∧ l.length = n) := by
 have _u0 := r0
 have _u1 := r1
 have _u2 := h0
 have _u3 := hlen
 clear _u0 _u1 _u2 _u3
 refine stEnter (args := [(.func (.func 64) #[] #[(vP bk 0)])]) (fps []) Tryz.func43 rfl 9 rfl [(0, (.func (.func 64) #[] #[(vP bk 0)]))] ⟨rfl, trivial⟩ [] (Mm.start w []) ?_
 refine stSeq (reg ?_)
 refine la ?_
 refine liNil (qThen (stSeq (reg ?_)))
 refine lm ?_
 refine li rfl ?_
 refine opK0 (fun w hM => (uCol_any bk nm kv w (r0.go0 hM) (r1.go0 hM) (by assumption) (by assumption)).mono ?_)
 rintro e w' ⟨b5, n5, c5, l5, rest5, rfl, hP, heq5⟩
 refine ⟨_, _, rfl, hP, ?_⟩; clear hP hM
 refine la ?_
 refine liNil (qThen (stSeq (reg ?_)))
 refine lm ?_
 refine li rfl ?_
 refine opK [0] [cUs b5 l5 rest5] (fun w hM hO => (uSort_any b5 n5 c5 l5 rest5 w hO (heq5.2) (by have h := heq5.1.length_eq; rw [heq5.2] at h; have h2 : (kvKeys kv).length = kv.length := List.length_map ..; omega)).mono ?_)
 rintro e w' ⟨l27, rfl, hP, hpm7⟩
 refine ⟨_, [cUs b5 l27 rest5], _, rfl, hP, rfl, ?_⟩; clear hP hM hO
 refine liNil (qThen (stSeq (reg ?_)))
 refine lm ?_
 refine la ?_
 refine liNil (qThen (stRet ?_))
 refine stEnd [(.slice (some ⟨b5, 0, none⟩) (n5) (c5))] rfl ⟨rfl, trivial⟩ (fun w hM => ?_)
 exact ⟨b5, n5, c5, l27, rest5, rfl, hM, ⟨hpm7.trans heq5.1, by rw [hpm7.length_eq]; exact heq5.2⟩⟩
end Go.Proofs.YtaiggifiefnjnaaGreatDoor
namespace Go.Proofs.YtaiggifiefnjnaaGreatDoor
open Go.RowKit
/-! ### Several pieces as one -/
def cPack (l : List Ch) (p : Prop) : Ch where
 fp := l.flatMap Ch.fp
 holds w := (∀ c ∈ l, c.holds w) ∧ (l.flatMap Ch.fp).Nodup ∧ p
 ok w w' hb h := ⟨fun c hc => c.ok w w' (fun b hbc => hb b (List.mem_flatMap.2 ⟨c, hc, hbc⟩)) (h.1 c hc), h.2⟩
 lt w h b hb := by
  obtain ⟨c, hc, hbc⟩ := List.mem_flatMap.1 hb
  exact c.lt w (h.1 c hc) b hbc
section
variable {w0 w : World} {F : List Nat} {A B l : List Ch} {p : Prop}
theorem pack_fp (A B l : List Ch) (p : Prop) : (A ++ cPack l p :: B).flatMap Ch.fp = (A ++ l ++ B).flatMap Ch.fp := by
 simp [List.flatMap_append, List.flatMap_cons, cPack]
theorem Mm.unpack (h : Mm w0 F (A ++ cPack l p :: B) w) : Mm w0 F (A ++ l ++ B) w ∧ p := by
 have hh := h.hold (cPack l p) (by simp)
 refine ⟨⟨h.fr, fun c hc => ?_, by rw [← pack_fp A B l p]; exact h.nodup, fun b hb => h.own b (by rw [pack_fp]; exact hb)⟩, hh.2.2⟩
 rcases List.mem_append.1 hc with hc | hc
 ·rcases List.mem_append.1 hc with hc | hc
  ·exact h.hold c (by simp [hc])
  ·exact hh.1 c hc
 ·exact h.hold c (by simp [hc])
theorem Mm.pack (h : Mm w0 F (A ++ l ++ B) w) (hp : p) : Mm w0 F (A ++ cPack l p :: B) w := by
 refine ⟨h.fr, fun c hc => ?_, by rw [pack_fp]; exact h.nodup, fun b hb => h.own b (by rw [← pack_fp A B l p]; exact hb)⟩
 rcases List.mem_append.1 hc with hc | hc
 ·exact h.hold c (by simp [hc])
 ·rcases List.mem_cons.1 hc with rfl | hc
  ·refine ⟨fun c hc => h.hold c (by simp [hc]), ?_, hp⟩
   have hn := h.nodup
   rw [List.flatMap_append, List.flatMap_append, List.nodup_append, List.nodup_append] at hn
   exact hn.1.2.1
  ·exact h.hold c (by simp [hc])
end
abbrev rowCh (p : Nat × Bs) : Ch := cAt p.1 5 (B8 p.2)
def cRows (L : List (Nat × Bs)) : Ch := cPack (L.map rowCh) True
section
variable {w0 w : World} {F : List Nat} {cs : List Ch} {L : List (Nat × Bs)}
theorem rows_row (h : (cRows L).holds w) {b : Nat} {s : Bs} (hm : (b, s) ∈ L) : RowIn w (some ⟨b, 0, none⟩) (B8 s) :=
 rowAtI (h.1 (rowCh (b, s)) (List.mem_map.2 ⟨_, hm, rfl⟩)) rfl
theorem Mm.newRows (h : Mm w0 F cs w) : Mm w0 F (cs ++ [cRows []]) w :=
 h.push (c := cRows []) (Fr.refl _ _) ⟨by simp, by simp, trivial⟩ (by simp [cRows, cPack]) (by simp [cRows, cPack])
theorem Mm.joinRow {b : Nat} {s : Bs} (h : Mm w0 F (cs ++ [cRows L, rowCh (b, s)]) w) : Mm w0 F (cs ++ [cRows (L ++ [(b, s)])]) w := by
 have h1 := (Mm.unpack (A := cs) (B := [rowCh (b, s)]) (l := L.map rowCh) (p := True) (by simpa [cRows] using h)).1
 have h2 : Mm w0 F (cs ++ (L ++ [(b, s)]).map rowCh ++ []) w := by simpa using h1
 exact Mm.pack (A := cs) (B := []) (l := (L ++ [(b, s)]).map rowCh) (p := True) h2 trivial
end
section
variable {P : Program} {Q : Exit → Act → World → Prop} {n : Nat} {w0 : World} {F : List Nat} {E : Env} {cs : List Ch} {X : Act → World → Prop} {K : Act → World → Prop} {o : Oper} {d : Nat} {e : TypeId}
theorem own_some {w : World} {sz m c : Nat} {A : Option Addr} {xs : List Value} (h : (cOwn e sz A m c xs).holds w) (hm : 0 < m) : ∃ g, A = some ⟨g, 0, none⟩ := by
 rcases h.2 with ⟨_, h0⟩ | ⟨g, cap, cur, hv, _⟩
 ·omega
 ·simp only [Value.slice.injEq] at hv
  exact ⟨g, hv.1⟩
theorem St.ownSome (i : Nat) {sz m c : Nat} {A : Option Addr} {xs : List Value} (hi : cs[i]? = some (cOwn e sz A m c xs)) (hm : 0 < m) (h : ∀ g, A = some ⟨g, 0, none⟩ → St n w0 F E cs X) : St n w0 F E cs X := fun a w ha hM => by
 obtain ⟨g, hg⟩ := own_some (hM.at hi) hm
 exact h g hg a w ha hM
theorem own_cell {w : World} {sz m c g : Nat} {xs : List Value} (h : (cOwn e sz (some ⟨g, 0, none⟩) m c xs).holds w) (j : Nat) (v : Value) (hj : xs[j]? = some v) : w.cell? ⟨g, j, none⟩ = some v := by
 rcases h.2 with ⟨hv, _⟩ | ⟨g', cap, cur, hv, _, hg, _, _, hcs, ht⟩
 ·cases hv
 ·simp only [Value.slice.injEq, Option.some.injEq, Addr.mk.injEq] at hv
  obtain ⟨⟨rfl, _⟩, _, rfl⟩ := hv
  have hat : At w g e cur.toList := by unfold At; simpa using hg
  rw [hat.cell]
  rw [← ht, List.getElem?_take] at hj
  split at hj
  ·exact hj
  ·cases hj
theorem rLoadOwn {ty : TypeId} {x : Operand} {m c g j : Nat} {xs : List Value} {v : Value} (i : Nat) (ho : o.op = .load ty x) (hx : evO E x = some (.pointer (some ⟨g, 0 + j, none⟩))) (hs : isScalar P ty = true) (hi : cs[i]? = some (cOwn e 1 (some ⟨g, 0, none⟩) m c xs)) (hj : xs[j]? = some v) : RunV P w0 F cs E o v :=
 rLoadW ho hx hs fun w hM => by rw [Nat.zero_add]; exact own_cell (hM.at hi) j v hj
theorem opStoreOwn {ty : TypeId} {x y : Operand} {m c g j : Nat} {xs : List Value} {v : Value} (i : Nat) (xs' : List Value) (ho : o.op = .store ty x y) (hd : o.dst = none) (hk : opOk n E o = true) (hx : evO E x = some (.pointer (some ⟨g, 0 + j, none⟩))) (hy : evO E y = some v) (h1 : v.oneCell' = true) (hsz : sizeT P ty = some 1) (hi : cs[i]? = some (cOwn e 1 (some ⟨g, 0, none⟩) m c xs)) (hj : j < xs.length) (hxs : xs.set j v = xs')
  (h : St n w0 F E (cs.set i (cOwn e 1 (some ⟨g, 0, none⟩) m c xs')) K) : OpW P Q n w0 F E cs o K := fun a w ha hM => by
 subst hxs
 have hown : w.ownsRow 0 e 1 (.slice (some ⟨g, 0, none⟩) m c) m xs := hM.at hi
 have hlt := (List.getElem?_eq_some_iff.1 hi).1
 rcases hown.2 with ⟨hv, _⟩ | ⟨g', cap, cur, hv, hb, hg, hnc, hcm, hcs, ht⟩
 ·cases hv
 ·simp only [Value.slice.injEq, Option.some.injEq, Addr.mk.injEq] at hv
  obtain ⟨⟨rfl, _⟩, _, rfl⟩ := hv
  have hxl : xs.length = m := by have := hown.1; omega
  have hM2 : Mm w0 F (cs.set i (cAt g e cur.toList)) w := hM.swap i hi (c' := cAt g e cur.toList) (Fr.refl _ _) (by show At w g e _; unfold At; simpa using hg) (fun b hb => .inl hb) (by simp [cAt])
  refine opStore1 (P := P) (Q := Q) (w0 := w0) (F := F) (K := K) (cs := cs.set i (cAt g e cur.toList)) (l := cur.toList) i ho hd hk hx hy h1 hsz (List.getElem?_set_self hlt) (by simp; omega) ?_ a w ha hM2
  intro a2 w2 ha2 hM3
  rw [List.set_set] at hM3
  refine h a2 w2 ha2 ?_
  have hat : At w2 g e (cur.toList.set (0 + j) v) := hM3.at (List.getElem?_set_self hlt)
  have := hM3.swap i (c := cAt g e (cur.toList.set (0 + j) v)) (c' := cOwn e 1 (some ⟨g, 0, none⟩) m c (xs.set j v)) (List.getElem?_set_self hlt) (Fr.refl _ _) ⟨by rw [List.length_set]; exact hown.1, .inr ⟨g, c, (cur.toList.set (0 + j) v).toArray, rfl, Nat.zero_le _, by unfold At at hat; simpa using hat, hnc, hcm, by simpa using hcs, by
   rw [List.toList_toArray, Nat.zero_add, List.take_set, ht]⟩⟩ (fun b hb => .inl hb) (by simp [cOwn, ownFp])
  rwa [List.set_set] at this
end
/-! ### The disk -/
theorem wf_is64 (a : Nat) (h : a < 9223372036854775808) : (Lit.int .i64 (a : Int)).wf = true := by
 simp [Lit.wf, IntKind.min, IntKind.max, IntKind.bits, IntKind.signed]
 omega
def kI : Kd Tryz.prog 3 Nat := kInt Tryz.prog 3 .i64 Tryz.underlying3 9223372036854775808 wf_is64
def natV (n : Nat) : Value := vI n
structure DX where
 lat : Nat
 Ad : Option Addr
 cd : Nat
 Ap : Option Addr
 cp : Nat
 dv : List SlV
 pv : List (Nat × SlV)
 kv : List (Nat × Nat)
 L : List (Nat × Bs)
abbrev PW (l : List (Nat × SlV)) : List Value := l.flatMap fun p => [vI p.1, slv p.2]
def Rd (sz : Nat) (L : List (Nat × Bs)) (v : SlV) (s : Bs) : Prop := s.length = sz ∧ ((v = (none, 0, 0) ∧ s = zerosB sz) ∨ ∃ b, v = (some ⟨b, 0, none⟩, sz, sz) ∧ (b, s) ∈ L)
structure DW (X : DX) (sz : Nat) (secs : List Bs) (pend : List (Nat × Bs)) : Prop where
 dl : X.dv.length = secs.length
 pl : X.pv.length = pend.length
 dr : ∀ (i : Nat) (s : Bs) (v : SlV), secs[i]? = some s → X.dv[i]? = some v → Rd sz X.L v s
 pr : ∀ (i : Nat) (p : Nat × Bs) (q : Nat × SlV), pend[i]? = some p → X.pv[i]? = some q → q.1 = p.1 ∧ p.1 < secs.length ∧ Rd sz X.L q.2 p.2
 calm : pend = [] → X.kv = []
 s1 : 1 ≤ sz
 s2 : sz ≤ 4096
 n1 : 1 ≤ secs.length
 n2 : secs.length ≤ 65536
def cDisk (bd : Nat) (X : DX) (sz : Nat) (secs : List Bs) (pend : List (Nat × Bs)) : Ch :=
 cPack [cAt bd 59 [vI sz, .slice X.Ad X.dv.length X.cd, .slice X.Ap X.pv.length X.cp, .map (some X.lat), .int .i64 (-1), .bool false],
  cOwn 41 1 X.Ad X.dv.length X.cd (X.dv.map slv), cOwn 61 2 X.Ap X.pv.length X.cp (PW X.pv), cMap kI natV X.lat X.kv, cRows X.L] (DW X sz secs pend)
theorem PW_append (a b : List (Nat × SlV)) : PW (a ++ b) = PW a ++ PW b := by simp [PW]
theorem PW_at {l : List (Nat × SlV)} {i : Nat} {p : Nat × SlV} (h : l[i]? = some p) : (PW l)[i * 2]? = some (vI p.1) ∧ (PW l)[i * 2 + 1]? = some (slv p.2) := by
 induction l generalizing i with
 | nil => simp at h
 | cons q l ih =>
   cases i with
   | zero => simp at h; subst h; exact ⟨rfl, rfl⟩
   | succ i =>
     have h2 := ih (i := i) (by simpa using h)
     rw [show (i + 1) * 2 = i * 2 + 1 + 1 by omega]
     exact ⟨by rw [show PW (q :: l) = vI q.1 :: slv q.2 :: PW l from rfl, List.getElem?_cons_succ, List.getElem?_cons_succ]; exact h2.1, by rw [show PW (q :: l) = vI q.1 :: slv q.2 :: PW l from rfl, List.getElem?_cons_succ, List.getElem?_cons_succ]; exact h2.2⟩
theorem Rd.more {sz : Nat} {L : List (Nat × Bs)} {v : SlV} {s : Bs} (h : Rd sz L v s) (x : Nat × Bs) : Rd sz (L ++ [x]) v s := by
 obtain ⟨h1, h2 | ⟨b, h2, h3⟩⟩ := h
 ·exact ⟨h1, .inl h2⟩
 ·exact ⟨h1, .inr ⟨b, h2, List.mem_append_left _ h3⟩⟩
theorem disk_at {w : World} {bd sz : Nat} {X : DX} {secs : List Bs} {pend : List (Nat × Bs)} (h : (cDisk bd X sz secs pend).holds w) : At w bd 59 [vI sz, .slice X.Ad X.dv.length X.cd, .slice X.Ap X.pv.length X.cp, .map (some X.lat), .int .i64 (-1), .bool false] := h.1 (cAt bd 59 _) (List.mem_cons_self ..)
def applyW (secs : List Bs) (pend : List (Nat × Bs)) : List Bs := pend.foldl (fun s p => s.set p.1 p.2) secs
theorem applyW_len (secs : List Bs) (pend : List (Nat × Bs)) : (applyW secs pend).length = secs.length := by
 unfold applyW
 induction pend generalizing secs with
 | nil => rfl
 | cons p l ih => rw [List.foldl_cons, ih, List.length_set]
theorem el_by : Elem Tryz.prog 55 41 (.slice none 0 0) 1 24 := ⟨Tryz.underlying55, by kernel_rfl, rfl, by omega, by omega⟩
theorem el_wr : Elem Tryz.prog 57 61 (.agg #[.int .i64 0, .slice none 0 0]) 2 32 := ⟨Tryz.underlying57, by kernel_rfl, rfl, by omega, by omega⟩
end Go.Proofs.YtaiggifiefnjnaaGreatDoor
namespace Go.Proofs.YtaiggifiefnjnaaGreatDoor
open Go.RowKit
theorem dSize_any (bd : Nat) (sz : Nat) (v1 : Value) (v2 : Value) (v3 : Value) (v4 : Value) (v5 : Value) (w : World) (r0 : Rf [] w (fun w => At w bd 59 [(vI sz), v1, v2, v3, v4, v5])) :
  Calls Tryz.prog 25 #[(vP bd 0)] w fun e w' => e = .returned (vI sz) ∧ Back [] w [] w' := by
 have _u0 := r0
 clear _u0
 refine stEnter (args := [(vP bd 0)]) (fps []) Tryz.func25 rfl 7 rfl [(0, (vP bd 0))] ⟨rfl, trivial⟩ [] (Mm.start w []) ?_
 refine stSeq (reg ?_)
 refine la ?_
 refine liNil (qThen (stSeq (reg ?_)))
 refine lm ?_
 refine lc (vP bd 0) ?_
 refine lc (vP bd 0) ?_
 refine lv (v := (vI sz)) (rLoadW rfl rfl (by kernel_rfl) (fun w hM => At.cell (r0.now hM) 0)) ?_
 refine la ?_
 refine liNil (qThen (stRet ?_))
 refine stEnd [(vI sz)] rfl ⟨rfl, trivial⟩ (fun w hM => ?_)
 exact ⟨rfl, hM⟩
theorem dSect_any (bd : Nat) (v0 : Value) (A : Option Addr) (n : Nat) (c : Nat) (v2 : Value) (v3 : Value) (v4 : Value) (v5 : Value) (w : World) (r0 : Rf [] w (fun w => At w bd 59 [v0, (.slice A (n) (c)), v2, v3, v4, v5])) :
  Calls Tryz.prog 21 #[(vP bd 0)] w fun e w' => e = .returned (vI n) ∧ Back [] w [] w' := by
 have _u0 := r0
 clear _u0
 refine stEnter (args := [(vP bd 0)]) (fps []) Tryz.func21 rfl 8 rfl [(0, (vP bd 0))] ⟨rfl, trivial⟩ [] (Mm.start w []) ?_
 refine stSeq (reg ?_)
 refine la ?_
 refine liNil (qThen (stSeq (reg ?_)))
 refine lm ?_
 refine lc (vP bd 0) ?_
 refine lc (vP bd 1) ?_
 refine lv (v := (.slice A (n) (c))) (rLoadW rfl rfl (by kernel_rfl) (fun w hM => At.cell (r0.now hM) 1)) ?_
 refine lc (vI n) ?_
 refine la ?_
 refine liNil (qThen (stRet ?_))
 refine stEnd [(vI n)] rfl ⟨rfl, trivial⟩ (fun w hM => ?_)
 exact ⟨rfl, hM⟩
theorem dDown_any (bd : Nat) (v0 : Value) (v1 : Value) (v2 : Value) (v3 : Value) (v4 : Value) (b : Bool) (w : World) (r0 : Rf [] w (fun w => At w bd 59 [v0, v1, v2, v3, v4, (.bool b)])) :
  Calls Tryz.prog 26 #[(vP bd 0)] w fun e w' => e = .returned (.bool b) ∧ Back [] w [] w' := by
 have _u0 := r0
 clear _u0
 refine stEnter (args := [(vP bd 0)]) (fps []) Tryz.func26 rfl 7 rfl [(0, (vP bd 0))] ⟨rfl, trivial⟩ [] (Mm.start w []) ?_
 refine stSeq (reg ?_)
 refine la ?_
 refine liNil (qThen (stSeq (reg ?_)))
 refine lm ?_
 refine lc (vP bd 0) ?_
 refine lc (vP bd 5) ?_
 refine lv (v := (.bool b)) (rLoadW rfl rfl (by kernel_rfl) (fun w hM => At.cell (r0.now hM) 5)) ?_
 refine la ?_
 refine liNil (qThen (stRet ?_))
 refine stEnd [(.bool b)] rfl ⟨rfl, trivial⟩ (fun w hM => ?_)
 exact ⟨rfl, hM⟩
theorem dValid_any (bd : Nat) (v0 : Value) (A : Option Addr) (n : Nat) (c : Nat) (v2 : Value) (v3 : Value) (v4 : Value) (v5 : Value) (i : Nat) (w : World) (r0 : Rf [] w (fun w => At w bd 59 [v0, (.slice A (n) (c)), v2, v3, v4, v5])) (hi : i < n) :
  Calls Tryz.prog 68 #[(vP bd 0), (vI i)] w fun e w' => e = .returned (.bool true) ∧ Back [] w [] w' := by
 have _u0 := r0
 have _u1 := hi
 clear _u0 _u1
 refine stEnter (args := [(vP bd 0), (vI i)]) (fps []) Tryz.func68 rfl 16 rfl [(0, (vP bd 0)), (1, (vI i))] ⟨rfl, rfl, trivial⟩ [] (Mm.start w []) ?_
 refine stSeq (reg ?_)
 refine la ?_
 refine liNil (qThen (stSeq (reg ?_)))
 refine lm ?_
 refine lc (.bool (decide ((0 : Int) ≤ ((i : Nat) : Int)))) ?_
 refine lm ?_
 refine St.known 7 (b' := true) rfl (by simp) ?_
 refine lgm ?_
 refine lgm ?_
 refine lgc (vP bd 0) ?_
 refine lgc (vP bd 1) ?_
 refine lgv (v := (.slice A (n) (c))) (rLoadW rfl rfl (by kernel_rfl) (fun w hM => At.cell (r0.now hM) 1)) ?_
 refine lgc (vI n) ?_
 refine lgc (.bool (decide (((i : Nat) : Int) < ((n : Nat) : Int)))) ?_
 refine lc (.bool (decide (((i : Nat) : Int) < ((n : Nat) : Int)))) ?_
 refine la ?_
 refine liNil (qThen (stRet ?_))
 refine stEnd [(.bool (decide (((i : Nat) : Int) < ((n : Nat) : Int))))] rfl ⟨rfl, trivial⟩ (fun w hM => ?_)
 exact ⟨ret_bool (by simp; omega), hM⟩
theorem dFails_no (bd : Nat) (v0 : Value) (v1 : Value) (v2 : Value) (v3 : Value) (v5 : Value) (w : World) (r0 : Rf [] w (fun w => At w bd 59 [v0, v1, v2, v3, (.int .i64 (-1)), v5])) :
  Calls Tryz.prog 23 #[(vP bd 0)] w fun e w' => e = .returned (.bool false) ∧ Back [] w [] w' := by
 have _u0 := r0
 clear _u0
 refine stEnter (args := [(vP bd 0)]) (fps []) Tryz.func23 rfl 27 rfl [(0, (vP bd 0))] ⟨rfl, trivial⟩ [] (Mm.start w []) ?_
 refine stSeq (reg ?_)
 refine la ?_
 refine liNil (qThen (stSeq (stSeq (reg ?_))))
 refine lm ?_
 refine lc (vP bd 0) ?_
 refine lc (vP bd 4) ?_
 refine lv (v := (.int .i64 (-1))) (rLoadW rfl rfl (by kernel_rfl) (fun w hM => At.cell (r0.now hM) 4)) ?_
 refine lc (.bool true) ?_
 refine liNil (qThen (stTrue rfl (stSeq (reg ?_))))
 refine la ?_
 refine liNil (qThen (stRet (qThenR ?_)))
 refine stEnd [(.bool false)] rfl ⟨rfl, trivial⟩ (fun w hM => ?_)
 exact ⟨rfl, hM⟩
theorem dFill_any (bd : Nat) (sz : Nat) (v1 : Value) (v2 : Value) (v3 : Value) (v4 : Value) (v5 : Value) (A : Option Addr) (c : Nat) (bs : List UInt8) (w : World) (r0 : Rf [] w (fun w => At w bd 59 [(vI sz), v1, v2, v3, v4, v5])) (r1 : Rf [] w (fun w => RowIn w A (B8 bs))) (hl : bs.length ≤ sz) (hz : sz ≤ 4096) :
  Calls Tryz.prog 40 #[(vP bd 0), (vL A bs c)] w fun e w' => ∃ (b : Nat), e = .returned (.slice (some ⟨b, 0, none⟩) (sz) (sz)) ∧ Back [] w [cAt b 5 (B8 (bs ++ zerosB (sz - bs.length)))] w' := by
 have _u0 := r0
 have _u1 := r1
 have _u2 := hl
 have _u3 := hz
 clear _u0 _u1 _u2 _u3
 refine stEnter (args := [(vP bd 0), (vL A bs c)]) (fps []) Tryz.func40 rfl 15 rfl [(0, (vP bd 0)), (1, (vL A bs c))] ⟨rfl, rfl, trivial⟩ [] (Mm.start w []) ?_
 refine stSeq (reg ?_)
 refine la ?_
 refine liNil (qThen (stSeq (reg ?_)))
 refine lm ?_
 refine lc (vP bd 0) ?_
 refine lc (vP bd 0) ?_
 refine lv (v := (vI sz)) (rLoadW rfl rfl (by kernel_rfl) (fun w hM => At.cell (r0.now hM) 0)) ?_
 refine li rfl ?_
 refine opMkN el_u8 sz (by omega) (B8 (zerosB sz)) rfl rfl (by kernel_rfl) rfl rfl rfl (by simp [B8, zerosB]) (fun b => ?_)
 refine la ?_
 refine liNil (qThen (stSeq (reg ?_)))
 refine lm ?_
 refine lm ?_
 refine li rfl ?_
 refine opCopyAt (elem := 5) (news := B8 bs) 0 (B8 (bs ++ zerosB (sz - bs.length))) rfl rfl (by kernel_rfl) (by kernel_rfl) (by kernel_rfl) rfl rfl rfl (fun w hM => CellsAt.of_row (r1.now hM)) (B8_length _) hl (by simp [B8_length, zerosB]; omega) (B8_one _) (by simp [B8, zerosB]) ?_
 refine liNil (qThen (stSeq (reg ?_)))
 refine lm ?_
 refine la ?_
 refine liNil (qThen (stRet ?_))
 refine stEnd [(.slice (some ⟨b, 0, none⟩) (sz) (sz))] rfl ⟨rfl, trivial⟩ (fun w hM => ?_)
 exact ⟨b, rfl, hM⟩
theorem dForget_any (bd : Nat) (v0 : Value) (v1 : Value) (v2 : Value) (v3 : Value) (v4 : Value) (v5 : Value) (w : World) (hO : Own [cAt bd 59 [v0, v1, v2, v3, v4, v5]] w) (h0 : v0.oneCell' = true ∧ v1.oneCell' = true) :
  Calls Tryz.prog 24 #[(vP bd 0)] w fun e w' => ∃ (lat : Nat), e = .returned (.tuple #[]) ∧ Back [cAt bd 59 [v0, v1, v2, v3, v4, v5]] w [cAt bd 59 [v0, v1, (.slice none 0 0), (.map (some lat)), v4, v5], cMap kI natV lat []] w' := by
 have _u0 := h0
 clear _u0
 refine stEnter (args := [(vP bd 0)]) (fps [cAt bd 59 [v0, v1, v2, v3, v4, v5]]) Tryz.func24 rfl 9 rfl [(0, (vP bd 0))] ⟨rfl, trivial⟩ [cAt bd 59 [v0, v1, v2, v3, v4, v5]] (hO) ?_
 refine stSeq (reg ?_)
 refine lm ?_
 refine lc (vP bd 0) ?_
 refine lc (vP bd 2) ?_
 refine li rfl ?_
 refine opStore1 0 rfl rfl (by kernel_rfl) rfl rfl rfl (by kernel_rfl) rfl (by simp) ?_
 refine liNil (qThen (reg ?_))
 refine lm ?_
 refine li rfl ?_
 refine opMakeMapK kI natV rfl rfl (by kernel_rfl) (fun m6 => ?_)
 refine lc (vP bd 0) ?_
 refine lc (vP bd 3) ?_
 refine li rfl ?_
 refine opStore1 0 rfl rfl (by kernel_rfl) rfl rfl rfl (by kernel_rfl) rfl (by simp) ?_
 refine liNil ?_
 refine stEndN [] rfl trivial (fun w hM => ?_)
 exact ⟨m6, rfl, hM⟩
end Go.Proofs.YtaiggifiefnjnaaGreatDoor
