/- rangesum: a run. -/
import Derived.Test.YtlepfnihpdhcaaaGreatDoorRs12
import Derived.Test.YtlepfnihpdhcaaaGreatDoorRsKeys
namespace Go.Proofs.YtlepfnihpdhcaaaGreatDoor
open Go.RowKit

set_option maxRecDepth 100000 in
set_option maxHeartbeats 1000000 in
theorem rsRun_bad1 (A : Option Addr) (c : Nat) (a : List (List UInt8)) (A2 : Option Addr) (c2 : Nat) (b : List (List UInt8)) (fan : Int) (leaf : Int) (w : World) (r0 : Rf [] w (Vars)) (r1 : Rf [] w (fun w => RowIn w A (SS a))) (r2 : Rf [] w (fun w => RowIn w A2 (SS b))) (hla : a.length ≤ 9223372036854775807) (hlb : b.length ≤ 9223372036854775807) (he : newE fan leaf a ≠ 0) :
    Calls Tryz.prog 23 #[(.slice A (a.length) (c)), (.slice A2 (b.length) (c2)), (.agg #[(.int .i64 fan), (.int .i64 leaf)])] w fun e w' => e = .returned (.tuple #[(.slice none 0 0), (.slice none 0 0), (.int .i64 0), (.int .i64 0), (.int .i64 (newE fan leaf a))]) ∧ Back [] w [] w' := by
  have _u0 := r0
  have _u1 := r1
  have _u2 := r2
  have _u3 := hla
  have _u4 := hlb
  have _u5 := he
  clear _u0 _u1 _u2 _u3 _u4 _u5
  refine stEnter (args := [(.slice A (a.length) (c)), (.slice A2 (b.length) (c2)), (.agg #[(.int .i64 fan), (.int .i64 leaf)])]) (fps []) Tryz.func23 rfl 67 rfl [(0, (.slice A (a.length) (c))), (1, (.slice A2 (b.length) (c2))), (2, (.agg #[(.int .i64 fan), (.int .i64 leaf)]))] ⟨rfl, rfl, rfl, trivial⟩ [] (Mm.start w []) ?_
  refine stSeq (reg (li rfl ?_))
  refine opBox [(.int .i64 fan), (.int .i64 leaf)] rfl rfl (by kernel_rfl) rfl rfl (fun b5 => ?_)
  refine la ?_
  refine la ?_
  refine la ?_
  refine la ?_
  refine la ?_
  refine liNil (qThen (stSeq (reg ?_)))
  refine lm ?_
  refine lv (v := (.agg #[(.int .i64 fan), (.int .i64 leaf)])) (rLoadA [(.int .i64 fan), (.int .i64 leaf)] rfl rfl (by kernel_rfl) (by kernel_rfl) (segAt (i := 0) rfl (by intro j v hj; first | (rw [Nat.zero_add]; exact hj) | (match j, hj with | 0, h => exact h | 1, h => exact h)))) ?_
  refine li rfl ?_
  refine opK0 (fun w hM => (rsNew_bad A c a fan leaf w (r1.go0 hM) (by omega) (by assumption)).mono ?_)
  rintro e w' ⟨rfl, hP⟩
  refine ⟨_, _, rfl, hP, ?_⟩; clear hP hM
  refine lm ?_
  refine lc (.pointer none) ?_
  refine lc (.int .i64 (newE fan leaf a)) ?_
  refine la ?_
  refine la ?_
  refine liNil (qThen (stSeq (stSeq ?_)))
  refine St.to [cAt b5 33 [(.int .i64 fan), (.int .i64 leaf)]] (by kernel_rfl) ?_
  refine reg ?_
  refine lm ?_
  refine lc (.bool (((newE fan leaf a) : Int) != 0)) ?_
  refine liNil (qThen ?_)
  refine stTrueK rfl (by simpa using he) ?_
  refine stSeq (reg ?_)
  refine lm ?_
  refine la ?_
  refine la ?_
  refine la ?_
  refine la ?_
  refine la ?_
  refine liNil (qThen (stRet (qThenR ?_)))
  refine stEnd [(.slice none 0 0), (.slice none 0 0), (.int .i64 0), (.int .i64 0), (.int .i64 (newE fan leaf a))] rfl ⟨rfl, rfl, rfl, rfl, rfl, trivial⟩ (fun w hM => ?_)
  exact ⟨rfl, (fun (w : World) (h : Mm _ _ _ w) => Mm.sub h (.cons _ .slnil)) w hM⟩

set_option maxRecDepth 100000 in
set_option maxHeartbeats 1000000 in
theorem rsRun_bad2 (A : Option Addr) (c : Nat) (a : List (List UInt8)) (A2 : Option Addr) (c2 : Nat) (b : List (List UInt8)) (fan : Nat) (leaf : Nat) (w : World) (r0 : Rf [] w (Vars)) (r1 : Rf [] w (fun w => RowIn w A (SS a))) (r2 : Rf [] w (fun w => RowIn w A2 (SS b))) (hla : a.length ≤ 9223372036854775807) (hlb : b.length ≤ 9223372036854775807) (hp : okP (fan : Int) (leaf : Int) = true) (ha : setE a = 0) (hb : setE b ≠ 0) :
    Calls Tryz.prog 23 #[(.slice A (a.length) (c)), (.slice A2 (b.length) (c2)), (.agg #[(.int .i64 ((fan : Nat) : Int)), (.int .i64 ((leaf : Nat) : Int))])] w fun e w' => e = .returned (.tuple #[(.slice none 0 0), (.slice none 0 0), (.int .i64 0), (.int .i64 0), (.int .i64 (newE fan leaf b))]) ∧ Back [] w [] w' := by
  have _u0 := r0
  have _u1 := r1
  have _u2 := r2
  have _u3 := hla
  have _u4 := hlb
  have _u5 := hp
  have _u6 := ha
  have _u7 := hb
  clear _u0 _u1 _u2 _u3 _u4 _u5 _u6 _u7
  refine stEnter (args := [(.slice A (a.length) (c)), (.slice A2 (b.length) (c2)), (.agg #[(.int .i64 ((fan : Nat) : Int)), (.int .i64 ((leaf : Nat) : Int))])]) (fps []) Tryz.func23 rfl 67 rfl [(0, (.slice A (a.length) (c))), (1, (.slice A2 (b.length) (c2))), (2, (.agg #[(.int .i64 ((fan : Nat) : Int)), (.int .i64 ((leaf : Nat) : Int))]))] ⟨rfl, rfl, rfl, trivial⟩ [] (Mm.start w []) ?_
  refine stSeq (reg (li rfl ?_))
  refine opBox [(.int .i64 ((fan : Nat) : Int)), (.int .i64 ((leaf : Nat) : Int))] rfl rfl (by kernel_rfl) rfl rfl (fun b5 => ?_)
  refine la ?_
  refine la ?_
  refine la ?_
  refine la ?_
  refine la ?_
  refine liNil (qThen (stSeq ?_))
  have hea : newE fan leaf a = 0 := by rw [newE, if_pos hp]; exact ha
  have heb : newE fan leaf b ≠ 0 := by rw [newE, if_pos hp]; exact hb
  have hal := (setE_zero ha).1
  refine reg ?_
  refine lm ?_
  refine lv (v := (.agg #[(.int .i64 ((fan : Nat) : Int)), (.int .i64 ((leaf : Nat) : Int))])) (rLoadA [(.int .i64 ((fan : Nat) : Int)), (.int .i64 ((leaf : Nat) : Int))] rfl rfl (by kernel_rfl) (by kernel_rfl) (segAt (i := 0) rfl (by intro j v hj; first | (rw [Nat.zero_add]; exact hj) | (match j, hj with | 0, h => exact h | 1, h => exact h)))) ?_
  refine li rfl ?_
  refine opK0 (fun w hM => (rsNew_ok A c a fan leaf w (r1.go0 hM) (by omega) (by assumption) (by assumption)).mono ?_)
  rintro e w' ⟨bs19, A219, c219, nm19, om19, rfl, hP⟩
  refine ⟨_, _, rfl, hP, ?_⟩; clear hP hM
  refine lm ?_
  refine lc (.pointer (some ⟨bs19, 0, none⟩)) ?_
  refine lc (.int .i64 0) ?_
  refine la ?_
  refine la ?_
  refine liNil (qThen (stSeq (stSeq ?_)))
  refine St.to [cAt b5 33 [(.int .i64 ((fan : Nat) : Int)), (.int .i64 ((leaf : Nat) : Int))], cAt bs19 66 [(.slice A219 (a.length) (c219)), (.int .i64 ((fan : Nat) : Int)), (.int .i64 ((leaf : Nat) : Int)), (.map (some nm19)), (.map (some om19))], cOwn 9 1 A219 (a.length) (c219) (SS a), cSet nm19 ([]), cSet om19 ([])] (by kernel_rfl) ?_
  refine reg ?_
  refine lm ?_
  refine lc (.bool false) ?_
  refine liNil (qThen (stFalse rfl (stSkip (qThen (stSeq (reg ?_))))))
  refine lm ?_
  refine lv (v := (.agg #[(.int .i64 ((fan : Nat) : Int)), (.int .i64 ((leaf : Nat) : Int))])) (rLoadA [(.int .i64 ((fan : Nat) : Int)), (.int .i64 ((leaf : Nat) : Int))] rfl rfl (by kernel_rfl) (by kernel_rfl) (segAt (i := 0) rfl (by intro j v hj; first | (rw [Nat.zero_add]; exact hj) | (match j, hj with | 0, h => exact h | 1, h => exact h)))) ?_
  refine li rfl ?_
  refine opK0 (fun w hM => (rsNew_bad A2 c2 b ((fan : Nat) : Int) ((leaf : Nat) : Int) w (r2.go0 hM) (by omega) (by assumption)).mono ?_)
  rintro e w' ⟨rfl, hP⟩
  refine ⟨_, _, rfl, hP, ?_⟩; clear hP hM
  refine lm ?_
  refine lc (.pointer none) ?_
  refine lc (.int .i64 (newE ((fan : Nat) : Int) ((leaf : Nat) : Int) b)) ?_
  refine la ?_
  refine la ?_
  refine liNil (qThen (stSeq (stSeq (reg ?_))))
  refine lm ?_
  refine lc (.bool (((newE ((fan : Nat) : Int) ((leaf : Nat) : Int) b) : Int) != 0)) ?_
  refine liNil (qThen ?_)
  refine stTrueK rfl (by simpa using heb) ?_
  refine stSeq (reg ?_)
  refine lm ?_
  refine la ?_
  refine la ?_
  refine la ?_
  refine la ?_
  refine la ?_
  refine liNil (qThen (stRet (qThenR ?_)))
  refine stEnd [(.slice none 0 0), (.slice none 0 0), (.int .i64 0), (.int .i64 0), (.int .i64 (newE ((fan : Nat) : Int) ((leaf : Nat) : Int) b))] rfl ⟨rfl, rfl, rfl, rfl, rfl, trivial⟩ (fun w hM => ?_)
  -- ret: (.tuple #[(.slice none 0 0), (.slice none 0 0), (.int .i64 0), (.int .i64 0), (.int .i64 (newE fan leaf b))]) / [(.slice none 0 0), (.slice none 0 0), (.int .i64 0), (.int .i64 0), (.int .i64 (newE ((fan : Nat) : Int) ((leaf : Nat) : Int) b))]
  exact ⟨rfl, (fun (w : World) (h : Mm _ _ _ w) => Mm.sub h (.cons _ (.cons _ (.cons _ (.cons _ (.cons _ .slnil)))))) w hM⟩

set_option maxRecDepth 100000 in
set_option maxHeartbeats 1000000 in
theorem rsRun_ok (A : Option Addr) (c : Nat) (a : List (List UInt8)) (A2 : Option Addr) (c2 : Nat) (b : List (List UInt8)) (fan : Nat) (leaf : Nat) (K : Nat) (w : World) (r0 : Rf [] w (Vars)) (r1 : Rf [] w (fun w => RowIn w A (SS a))) (r2 : Rf [] w (fun w => RowIn w A2 (SS b))) (hp : okP (fan : Int) (leaf : Int) = true) (hf : 2 ≤ fan) (hf2 : fan ≤ 16) (hl1 : 1 ≤ leaf) (hl2 : leaf ≤ 64) (hsa : okSet a) (hsb : okSet b) (ha4 : a.length ≤ 40) (hb4 : b.length ≤ 40) (hK : RunEnds a b fan leaf K) :
    Calls Tryz.prog 23 #[(.slice A (a.length) (c)), (.slice A2 (b.length) (c2)), (.agg #[(.int .i64 ((fan : Nat) : Int)), (.int .i64 ((leaf : Nat) : Int))])] w fun e w' => ∃ (B1 : Option Addr) (cb1 : Nat) (B2 : Option Addr) (cb2 : Nat), e = .returned (.tuple #[(.slice B1 ((withL [] (runN a b fan leaf 1 K).2).length) (cb1)), (.slice B2 ((withL [] (runN a b fan leaf 1 K).1).length) (cb2)), (.int .i64 ((K : Nat) : Int)), (.int .i64 (((runB a b fan leaf K) : Nat) : Int)), (.int .i64 0)]) ∧ Back [] w [cOwn 9 1 B1 ((withL [] (runN a b fan leaf 1 K).2).length) (cb1) (SS (withL [] (runN a b fan leaf 1 K).2)), cOwn 9 1 B2 ((withL [] (runN a b fan leaf 1 K).1).length) (cb2) (SS (withL [] (runN a b fan leaf 1 K).1))] w' := by
  refine stEnter (args := [(.slice A (a.length) (c)), (.slice A2 (b.length) (c2)), (.agg #[(.int .i64 ((fan : Nat) : Int)), (.int .i64 ((leaf : Nat) : Int))])]) (fps []) Tryz.func23 rfl 67 rfl [(0, (.slice A (a.length) (c))), (1, (.slice A2 (b.length) (c2))), (2, (.agg #[(.int .i64 ((fan : Nat) : Int)), (.int .i64 ((leaf : Nat) : Int))]))] ⟨rfl, rfl, rfl, trivial⟩ [] (Mm.start w []) ?_
  refine stSeq (reg (li rfl ?_))
  refine opBox [(.int .i64 ((fan : Nat) : Int)), (.int .i64 ((leaf : Nat) : Int))] rfl rfl (by kernel_rfl) rfl rfl (fun b5 => ?_)
  refine la ?_
  refine la ?_
  refine la ?_
  refine la ?_
  refine la ?_
  refine liNil (qThen (stSeq ?_))
  have hea : setE a = 0 := setE_ok (by omega) hsa
  have heb : setE b = 0 := setE_ok (by omega) hsb
  have ha1 : a.length ≤ 1000 := by omega
  have hb1 : b.length ≤ 1000 := by omega
  refine reg ?_
  refine lm ?_
  refine lv (v := (.agg #[(.int .i64 ((fan : Nat) : Int)), (.int .i64 ((leaf : Nat) : Int))])) (rLoadA [(.int .i64 ((fan : Nat) : Int)), (.int .i64 ((leaf : Nat) : Int))] rfl rfl (by kernel_rfl) (by kernel_rfl) (segAt (i := 0) rfl (by intro j v hj; first | (rw [Nat.zero_add]; exact hj) | (match j, hj with | 0, h => exact h | 1, h => exact h)))) ?_
  refine li rfl ?_
  refine opK0 (fun w hM => (rsNew_ok A c a fan leaf w (r1.go0 hM) (by omega) (by assumption) (by assumption)).mono ?_)
  rintro e w' ⟨bs19, A219, c219, nm19, om19, rfl, hP⟩
  refine ⟨_, _, rfl, hP, ?_⟩; clear hP hM
  refine lm ?_
  refine lc (.pointer (some ⟨bs19, 0, none⟩)) ?_
  refine lc (.int .i64 0) ?_
  refine la ?_
  refine la ?_
  refine liNil (qThen (stSeq (stSeq ?_)))
  refine St.to [cAt b5 33 [(.int .i64 ((fan : Nat) : Int)), (.int .i64 ((leaf : Nat) : Int))], cAt bs19 66 [(.slice A219 (a.length) (c219)), (.int .i64 ((fan : Nat) : Int)), (.int .i64 ((leaf : Nat) : Int)), (.map (some nm19)), (.map (some om19))], cOwn 9 1 A219 (a.length) (c219) (SS a), cSet nm19 ([]), cSet om19 ([])] (by kernel_rfl) ?_
  refine reg ?_
  refine lm ?_
  refine lc (.bool false) ?_
  refine liNil (qThen (stFalse rfl (stSkip (qThen (stSeq (reg ?_))))))
  refine lm ?_
  refine lv (v := (.agg #[(.int .i64 ((fan : Nat) : Int)), (.int .i64 ((leaf : Nat) : Int))])) (rLoadA [(.int .i64 ((fan : Nat) : Int)), (.int .i64 ((leaf : Nat) : Int))] rfl rfl (by kernel_rfl) (by kernel_rfl) (segAt (i := 0) rfl (by intro j v hj; first | (rw [Nat.zero_add]; exact hj) | (match j, hj with | 0, h => exact h | 1, h => exact h)))) ?_
  refine li rfl ?_
  refine opK0 (fun w hM => (rsNew_ok A2 c2 b fan leaf w (r2.go0 hM) (by omega) (by assumption) (by assumption)).mono ?_)
  rintro e w' ⟨bs28, A228, c228, nm28, om28, rfl, hP⟩
  refine ⟨_, _, rfl, hP, ?_⟩; clear hP hM
  refine lm ?_
  refine lc (.pointer (some ⟨bs28, 0, none⟩)) ?_
  refine lc (.int .i64 0) ?_
  refine la ?_
  refine la ?_
  refine liNil (qThen (stSeq (stSeq (reg ?_))))
  refine lm ?_
  refine lc (.bool false) ?_
  refine liNil (qThen (stFalse rfl (stSkip (qThen (stSeq (reg ?_))))))
  refine lm ?_
  refine lm ?_
  refine lc (.agg #[(.pointer (some ⟨bs28, 0, none⟩)), (.pointer (some ⟨bs19, 0, none⟩))]) ?_
  refine li rfl ?_
  refine opAlloc [(.pointer none), (.pointer none)] rfl rfl (by kernel_rfl) (by kernel_rfl) (fun b13 => ?_)
  refine li rfl ?_
  refine opStoreN 9 [(.pointer (some ⟨bs28, 0, none⟩)), (.pointer (some ⟨bs19, 0, none⟩))] (vs := [(.pointer (some ⟨bs28, 0, none⟩)), (.pointer (some ⟨bs19, 0, none⟩))]) rfl rfl (by kernel_rfl) rfl rfl rfl (by kernel_rfl) rfl (by simp) (by simp [Value.oneCell']) rfl ?_
  refine liNil (qThen (stSeq ?_))
  refine St.to [cAt b5 33 [(.int .i64 ((fan : Nat) : Int)), (.int .i64 ((leaf : Nat) : Int))], cAt bs19 66 [(.slice A219 (a.length) (c219)), (.int .i64 ((fan : Nat) : Int)), (.int .i64 ((leaf : Nat) : Int)), (.map (some nm19)), (.map (some om19))], cOwn 9 1 A219 (a.length) (c219) (SS a), cSet nm19 ([]), cSet om19 ([]), cAt bs28 66 [(.slice A228 (b.length) (c228)), (.int .i64 ((fan : Nat) : Int)), (.int .i64 ((leaf : Nat) : Int)), (.map (some nm28)), (.map (some om28))], cOwn 9 1 A228 (b.length) (c228) (SS b), cSet nm28 ([]), cSet om28 ([]), cAt b13 102 [(.pointer (some ⟨bs28, 0, none⟩)), (.pointer (some ⟨bs19, 0, none⟩))]] (by kernel_rfl) ?_
  refine St.fact (fun w hM => own_cap (hM.at (i := 2) rfl)) (fun hcapa => ?_)
  refine St.fact (fun w hM => own_cap (hM.at (i := 6) rfl)) (fun hcapb => ?_)
  refine reg ?_
  refine lm ?_
  refine li rfl ?_
  refine opK0 (fun w hM => (rsStart_any bs19 A219 c219 a fan leaf nm19 om19 w (r0.go0 hM) (((hM.keep0 (j := 1) rfl (fun _ h => h)).and (hM.keep0 (j := 2) rfl (fun _ h => RowIn.of_own h))).imp (fun _ h => ⟨h.1, h.2⟩)) (by assumption) (by assumption) (by assumption) (by assumption)).mono ?_)
  rintro e w' ⟨B38, cb38, rfl, hP⟩
  refine ⟨_, _, rfl, hP, ?_⟩; clear hP hM
  refine la ?_
  refine liNil (qThen (stSeq (stBlock ?_)))
  refine stLoop (ι := Nat × Option Addr × Nat) (fun (j, BX, cX) => j ≤ K) (fun (j, BX, cX) => K - j) (fun (j, BX, cX) => [(6, (.slice none 0 0)), (7, (.slice none 0 0)), (11, (.pointer (some ⟨bs19, 0, none⟩))), (13, (.pointer (some ⟨b13, 0, none⟩))), (8, (.int .i64 ((j : Nat) : Int))), (9, (.int .i64 (((runB a b fan leaf j) : Nat) : Int))), (10, (.int .i64 0)), (14, (.slice BX ((runM a b fan leaf j).length) (cX)))]) (fun (j, BX, cX) => [cAt b5 33 [(.int .i64 ((fan : Nat) : Int)), (.int .i64 ((leaf : Nat) : Int))], cAt bs19 66 [(.slice A219 (a.length) (c219)), (.int .i64 ((fan : Nat) : Int)), (.int .i64 ((leaf : Nat) : Int)), (.map (some nm19)), (.map (some om19))], cOwn 9 1 A219 (a.length) (c219) (SS a), cSet nm19 ((runN a b fan leaf 1 j).1), cSet om19 ((runN a b fan leaf 1 j).2), cAt bs28 66 [(.slice A228 (b.length) (c228)), (.int .i64 ((fan : Nat) : Int)), (.int .i64 ((leaf : Nat) : Int)), (.map (some nm28)), (.map (some om28))], cOwn 9 1 A228 (b.length) (c228) (SS b), cSet nm28 ((runN a b fan leaf 0 j).1), cSet om28 ((runN a b fan leaf 0 j).2), cAt b13 102 [(.pointer (some ⟨bs28, 0, none⟩)), (.pointer (some ⟨bs19, 0, none⟩))], cOwn 5 1 BX ((runM a b fan leaf j).length) (cX) (B8 (runM a b fan leaf j))]) (0, B38, cb38) (Nat.zero_le _) ⟨rfl, rfl, rfl, rfl, rfl, rfl, rfl, rfl, trivial⟩ (fun w hM => by show Mm _ _ [cAt b5 33 [(.int .i64 ((fan : Nat) : Int)), (.int .i64 ((leaf : Nat) : Int))], cAt bs19 66 [(.slice A219 (a.length) (c219)), (.int .i64 ((fan : Nat) : Int)), (.int .i64 ((leaf : Nat) : Int)), (.map (some nm19)), (.map (some om19))], cOwn 9 1 A219 (a.length) (c219) (SS a), cSet nm19 ((runN a b fan leaf 1 0).1), cSet om19 ((runN a b fan leaf 1 0).2), cAt bs28 66 [(.slice A228 (b.length) (c228)), (.int .i64 ((fan : Nat) : Int)), (.int .i64 ((leaf : Nat) : Int)), (.map (some nm28)), (.map (some om28))], cOwn 9 1 A228 (b.length) (c228) (SS b), cSet nm28 ((runN a b fan leaf 0 0).1), cSet om28 ((runN a b fan leaf 0 0).2), cAt b13 102 [(.pointer (some ⟨bs28, 0, none⟩)), (.pointer (some ⟨bs19, 0, none⟩))], cOwn 5 1 B38 ((runM a b fan leaf 0).length) (cb38) (B8 (runM a b fan leaf 0))] w; exact hM) ?_
  rintro ⟨j, BX, cX⟩ (hok : j ≤ K)
  show St _ _ _ [(6, (.slice none 0 0)), (7, (.slice none 0 0)), (11, (.pointer (some ⟨bs19, 0, none⟩))), (13, (.pointer (some ⟨b13, 0, none⟩))), (8, (.int .i64 ((j : Nat) : Int))), (9, (.int .i64 (((runB a b fan leaf j) : Nat) : Int))), (10, (.int .i64 0)), (14, (.slice BX ((runM a b fan leaf j).length) (cX)))] [cAt b5 33 [(.int .i64 ((fan : Nat) : Int)), (.int .i64 ((leaf : Nat) : Int))], cAt bs19 66 [(.slice A219 (a.length) (c219)), (.int .i64 ((fan : Nat) : Int)), (.int .i64 ((leaf : Nat) : Int)), (.map (some nm19)), (.map (some om19))], cOwn 9 1 A219 (a.length) (c219) (SS a), cSet nm19 ((runN a b fan leaf 1 j).1), cSet om19 ((runN a b fan leaf 1 j).2), cAt bs28 66 [(.slice A228 (b.length) (c228)), (.int .i64 ((fan : Nat) : Int)), (.int .i64 ((leaf : Nat) : Int)), (.map (some nm28)), (.map (some om28))], cOwn 9 1 A228 (b.length) (c228) (SS b), cSet nm28 ((runN a b fan leaf 0 j).1), cSet om28 ((runN a b fan leaf 0 j).2), cAt b13 102 [(.pointer (some ⟨bs28, 0, none⟩)), (.pointer (some ⟨bs19, 0, none⟩))], cOwn 5 1 BX ((runM a b fan leaf j).length) (cX) (B8 (runM a b fan leaf j))] _
  refine stSeq (stSeq (reg ?_))
  refine lm ?_
  refine lc (.int .i64 (((runM a b fan leaf j).length : Nat) : Int)) ?_
  refine lc (.bool (decide ((((runM a b fan leaf j).length : Nat) : Int) > 0))) ?_
  refine liNil (qThen ?_)
  refine stCond rfl (fun hc41 => ?_) (fun hc41 => ?_)
  · have hd41 := of_decide_eq_true hc41
    have hKl := hK.le
    have hjK : j < K := hK.lt hok (by omega)
    have hml := runM_len (b := b) ha4 fan leaf j; have hbl := runB_le (b := b) ha4 fan leaf j
    have hn0 := runN_len (fan := fan) (leaf := leaf) (par := 0) hsa hsb ha4 hb4 j; have hn1 := runN_len (fan := fan) (leaf := leaf) (par := 1) hsa hsb ha4 hb4 j
    refine stSkip (qThen (stBlock (stSeq ?_)))
    cases hpb : (decide (j % 2 = 0)) with
    | true =>
      have hpar : j % 2 = 0 := by have h := of_decide_eq_true hpb; omega
      have hR : stepA b fan leaf (runM a b fan leaf j) = runR a b fan leaf j := by unfold runR sideOf; rw [if_pos hpar]
      refine reg ?_
      refine lm ?_
      refine lv (v := (.int .i64 0)) (rRem 0 rfl rfl rfl (by decide) (by rw [Int.tmod_eq_emod_of_nonneg (by omega)]; omega)) ?_
      refine lc (.pointer (some ⟨b13, 0, none⟩)) ?_
      refine lv (v := (.pointer (some ⟨bs28, 0, none⟩))) (rLoad 9 rfl rfl (by kernel_rfl) rfl rfl) ?_
      refine la ?_
      refine liNil (qThen (stSeq (reg ?_)))
      refine lm ?_
      refine lv (v := (.int .i64 ((j + 1 : Nat) : Int))) (rAdd _ rfl rfl rfl (by omega) (by omega) (by omega)) ?_
      refine la ?_
      refine liNil (qThen (stSeq (reg ?_)))
      refine lm ?_
      refine lm ?_
      refine lc (.int .i64 (((runM a b fan leaf j).length : Nat) : Int)) ?_
      refine lv (v := (.int .i64 (((runB a b fan leaf j) + (runM a b fan leaf j).length : Nat) : Int))) (rAdd _ rfl rfl rfl (by omega) (by omega) (by omega)) ?_
      refine la ?_
      refine liNil (qThen (stSeq (reg ?_)))
      refine lm ?_
      refine lm ?_
      refine li rfl ?_
      refine opK [7, 8] [cSet nm28 ((runN a b fan leaf 0 j).1), cSet om28 ((runN a b fan leaf 0 j).2)] (fun w hM hO => (rsStep_any bs28 A228 c228 b fan leaf nm28 om28 BX cX (runM a b fan leaf j) ((runN a b fan leaf 0 j).1) ((runN a b fan leaf 0 j).2) w hO (r0.goS hM [7, 8]) (((hM.keepS [7, 8] (j := 5) rfl (fun _ h => h)).and (hM.keepS [7, 8] (j := 6) rfl (fun _ h => RowIn.of_own h))).imp (fun _ h => ⟨h.1, h.2⟩)) (hM.keepS [7, 8] (j := 10) rfl (fun _ h => RowIn.of_own h)) (by assumption) (by assumption) (by assumption) (by assumption) (by assumption) (by assumption) (by assumption) (by assumption) (by omega) (by omega) (by omega)).mono ?_)
      rintro e w' ⟨B55, cb55, rfl, hP⟩
      refine ⟨_, [cSet nm28 (((runN a b fan leaf 0 j).1) ++ (stepA b fan leaf (runM a b fan leaf j)).need), cSet om28 (((runN a b fan leaf 0 j).2) ++ (stepA b fan leaf (runM a b fan leaf j)).off)], _, rfl, hP, rfl, ?_⟩; clear hP hM hO
      rw [show stepA b fan leaf (runM a b fan leaf j) = runR a b fan leaf j from hR]
      refine lm ?_
      refine lc (.slice B55 (((runR a b fan leaf j).reply).length) (cb55)) ?_
      refine lc (.int .i64 (runR a b fan leaf j).err) ?_
      refine la ?_
      refine la ?_
      refine liNil (qThen (stSeq (reg ?_)))
      refine lm ?_
      refine lc (.bool (((runR a b fan leaf j).err : Int) != 0)) ?_
      refine liNil (qThen ?_)
      refine stFalseK rfl (by rw [(hK.go j hjK).2]; simp) ?_
      refine stSkip (qBlock (qThen ?_))
      have hN0 : runN a b fan leaf 0 (j + 1) = ((runN a b fan leaf 0 j).1 ++ (runR a b fan leaf j).need, (runN a b fan leaf 0 j).2 ++ (runR a b fan leaf j).off) := by rw [runN, if_pos hpar]
      have hN1 : runN a b fan leaf 1 (j + 1) = runN a b fan leaf 1 j := by rw [runN, if_neg (by omega)]
      rw [show ((runN a b fan leaf 0 j).1) ++ (runR a b fan leaf j).need = (runN a b fan leaf 0 (j + 1)).1 from by rw [hN0]]
      rw [show (runN a b fan leaf 1 j).1 = (runN a b fan leaf 1 (j + 1)).1 from by rw [hN1]]
      rw [show ((runN a b fan leaf 0 j).2) ++ (runR a b fan leaf j).off = (runN a b fan leaf 0 (j + 1)).2 from by rw [hN0]]
      rw [show (runN a b fan leaf 1 j).2 = (runN a b fan leaf 1 (j + 1)).2 from by rw [hN1]]
      rw [show (runR a b fan leaf j).reply = runM a b fan leaf (j + 1) from rfl]
      rw [show (runR a b fan leaf j).err = 0 from (hK.go j hjK).2]
      exact stAgain (j + 1, B55, cb55) (by show _ ≤ _; omega) (by show K - (j + 1) < K - j; omega) ⟨rfl, rfl, rfl, rfl, rfl, rfl, rfl, rfl, trivial⟩ (fun w hM => by show Mm _ _ [cAt b5 33 [(.int .i64 ((fan : Nat) : Int)), (.int .i64 ((leaf : Nat) : Int))], cAt bs19 66 [(.slice A219 (a.length) (c219)), (.int .i64 ((fan : Nat) : Int)), (.int .i64 ((leaf : Nat) : Int)), (.map (some nm19)), (.map (some om19))], cOwn 9 1 A219 (a.length) (c219) (SS a), cSet nm19 ((runN a b fan leaf 1 (j + 1)).1), cSet om19 ((runN a b fan leaf 1 (j + 1)).2), cAt bs28 66 [(.slice A228 (b.length) (c228)), (.int .i64 ((fan : Nat) : Int)), (.int .i64 ((leaf : Nat) : Int)), (.map (some nm28)), (.map (some om28))], cOwn 9 1 A228 (b.length) (c228) (SS b), cSet nm28 ((runN a b fan leaf 0 (j + 1)).1), cSet om28 ((runN a b fan leaf 0 (j + 1)).2), cAt b13 102 [(.pointer (some ⟨bs28, 0, none⟩)), (.pointer (some ⟨bs19, 0, none⟩))], cOwn 5 1 B55 ((runM a b fan leaf (j + 1)).length) (cb55) (B8 (runM a b fan leaf (j + 1)))] w; exact (fun (w : World) (h : Mm _ _ _ w) => Mm.sub h (.cons_cons _ (.cons_cons _ (.cons_cons _ (.cons_cons _ (.cons_cons _ (.cons_cons _ (.cons_cons _ (.cons_cons _ (.cons_cons _ (.cons_cons _ (.cons _ (.cons_cons _ .slnil))))))))))))) w hM)
    | false =>
      have hpar : j % 2 = 1 := by have h := of_decide_eq_false hpb; omega
      have hR : stepA a fan leaf (runM a b fan leaf j) = runR a b fan leaf j := by unfold runR sideOf; rw [if_neg (by omega)]
      refine reg ?_
      refine lm ?_
      refine lv (v := (.int .i64 1)) (rRem 1 rfl rfl rfl (by decide) (by rw [Int.tmod_eq_emod_of_nonneg (by omega)]; omega)) ?_
      refine lc (.pointer (some ⟨b13, 1, none⟩)) ?_
      refine lv (v := (.pointer (some ⟨bs19, 0, none⟩))) (rLoad 9 rfl rfl (by kernel_rfl) rfl rfl) ?_
      refine la ?_
      refine liNil (qThen (stSeq (reg ?_)))
      refine lm ?_
      refine lv (v := (.int .i64 ((j + 1 : Nat) : Int))) (rAdd _ rfl rfl rfl (by omega) (by omega) (by omega)) ?_
      refine la ?_
      refine liNil (qThen (stSeq (reg ?_)))
      refine lm ?_
      refine lm ?_
      refine lc (.int .i64 (((runM a b fan leaf j).length : Nat) : Int)) ?_
      refine lv (v := (.int .i64 (((runB a b fan leaf j) + (runM a b fan leaf j).length : Nat) : Int))) (rAdd _ rfl rfl rfl (by omega) (by omega) (by omega)) ?_
      refine la ?_
      refine liNil (qThen (stSeq (reg ?_)))
      refine lm ?_
      refine lm ?_
      refine li rfl ?_
      refine opK [3, 4] [cSet nm19 ((runN a b fan leaf 1 j).1), cSet om19 ((runN a b fan leaf 1 j).2)] (fun w hM hO => (rsStep_any bs19 A219 c219 a fan leaf nm19 om19 BX cX (runM a b fan leaf j) ((runN a b fan leaf 1 j).1) ((runN a b fan leaf 1 j).2) w hO (r0.goS hM [3, 4]) (((hM.keepS [3, 4] (j := 1) rfl (fun _ h => h)).and (hM.keepS [3, 4] (j := 2) rfl (fun _ h => RowIn.of_own h))).imp (fun _ h => ⟨h.1, h.2⟩)) (hM.keepS [3, 4] (j := 10) rfl (fun _ h => RowIn.of_own h)) (by assumption) (by assumption) (by assumption) (by assumption) (by assumption) (by assumption) (by assumption) (by assumption) (by omega) (by omega) (by omega)).mono ?_)
      rintro e w' ⟨B55, cb55, rfl, hP⟩
      refine ⟨_, [cSet nm19 (((runN a b fan leaf 1 j).1) ++ (stepA a fan leaf (runM a b fan leaf j)).need), cSet om19 (((runN a b fan leaf 1 j).2) ++ (stepA a fan leaf (runM a b fan leaf j)).off)], _, rfl, hP, rfl, ?_⟩; clear hP hM hO
      rw [show stepA a fan leaf (runM a b fan leaf j) = runR a b fan leaf j from hR]
      refine lm ?_
      refine lc (.slice B55 (((runR a b fan leaf j).reply).length) (cb55)) ?_
      refine lc (.int .i64 (runR a b fan leaf j).err) ?_
      refine la ?_
      refine la ?_
      refine liNil (qThen (stSeq ?_))
      refine St.to [cAt b5 33 [(.int .i64 ((fan : Nat) : Int)), (.int .i64 ((leaf : Nat) : Int))], cAt bs19 66 [(.slice A219 (a.length) (c219)), (.int .i64 ((fan : Nat) : Int)), (.int .i64 ((leaf : Nat) : Int)), (.map (some nm19)), (.map (some om19))], cOwn 9 1 A219 (a.length) (c219) (SS a), cSet nm19 (((runN a b fan leaf 1 j).1) ++ (runR a b fan leaf j).need), cSet om19 (((runN a b fan leaf 1 j).2) ++ (runR a b fan leaf j).off), cAt bs28 66 [(.slice A228 (b.length) (c228)), (.int .i64 ((fan : Nat) : Int)), (.int .i64 ((leaf : Nat) : Int)), (.map (some nm28)), (.map (some om28))], cOwn 9 1 A228 (b.length) (c228) (SS b), cSet nm28 ((runN a b fan leaf 0 j).1), cSet om28 ((runN a b fan leaf 0 j).2), cAt b13 102 [(.pointer (some ⟨bs28, 0, none⟩)), (.pointer (some ⟨bs19, 0, none⟩))], cOwn 5 1 BX ((runM a b fan leaf j).length) (cX) (B8 (runM a b fan leaf j)), cOwn 5 1 B55 (((runR a b fan leaf j).reply).length) (cb55) (B8 ((runR a b fan leaf j).reply))] (by kernel_rfl) ?_
      refine reg ?_
      refine lm ?_
      refine lc (.bool (((runR a b fan leaf j).err : Int) != 0)) ?_
      refine liNil (qThen ?_)
      refine stFalseK rfl (by rw [(hK.go j hjK).2]; simp) ?_
      refine stSkip (qBlock (qThen ?_))
      have hN1 : runN a b fan leaf 1 (j + 1) = ((runN a b fan leaf 1 j).1 ++ (runR a b fan leaf j).need, (runN a b fan leaf 1 j).2 ++ (runR a b fan leaf j).off) := by rw [runN, if_pos hpar]
      have hN0 : runN a b fan leaf 0 (j + 1) = runN a b fan leaf 0 j := by rw [runN, if_neg (by omega)]
      rw [show ((runN a b fan leaf 1 j).1) ++ (runR a b fan leaf j).need = (runN a b fan leaf 1 (j + 1)).1 from by rw [hN1]]
      rw [show (runN a b fan leaf 0 j).1 = (runN a b fan leaf 0 (j + 1)).1 from by rw [hN0]]
      rw [show ((runN a b fan leaf 1 j).2) ++ (runR a b fan leaf j).off = (runN a b fan leaf 1 (j + 1)).2 from by rw [hN1]]
      rw [show (runN a b fan leaf 0 j).2 = (runN a b fan leaf 0 (j + 1)).2 from by rw [hN0]]
      rw [show (runR a b fan leaf j).reply = runM a b fan leaf (j + 1) from rfl]
      rw [show (runR a b fan leaf j).err = 0 from (hK.go j hjK).2]
      exact stAgain (j + 1, B55, cb55) (by show _ ≤ _; omega) (by show K - (j + 1) < K - j; omega) ⟨rfl, rfl, rfl, rfl, rfl, rfl, rfl, rfl, trivial⟩ (fun w hM => by show Mm _ _ [cAt b5 33 [(.int .i64 ((fan : Nat) : Int)), (.int .i64 ((leaf : Nat) : Int))], cAt bs19 66 [(.slice A219 (a.length) (c219)), (.int .i64 ((fan : Nat) : Int)), (.int .i64 ((leaf : Nat) : Int)), (.map (some nm19)), (.map (some om19))], cOwn 9 1 A219 (a.length) (c219) (SS a), cSet nm19 ((runN a b fan leaf 1 (j + 1)).1), cSet om19 ((runN a b fan leaf 1 (j + 1)).2), cAt bs28 66 [(.slice A228 (b.length) (c228)), (.int .i64 ((fan : Nat) : Int)), (.int .i64 ((leaf : Nat) : Int)), (.map (some nm28)), (.map (some om28))], cOwn 9 1 A228 (b.length) (c228) (SS b), cSet nm28 ((runN a b fan leaf 0 (j + 1)).1), cSet om28 ((runN a b fan leaf 0 (j + 1)).2), cAt b13 102 [(.pointer (some ⟨bs28, 0, none⟩)), (.pointer (some ⟨bs19, 0, none⟩))], cOwn 5 1 B55 ((runM a b fan leaf (j + 1)).length) (cb55) (B8 (runM a b fan leaf (j + 1)))] w; exact (fun (w : World) (h : Mm _ _ _ w) => Mm.sub h (.cons_cons _ (.cons_cons _ (.cons_cons _ (.cons_cons _ (.cons_cons _ (.cons_cons _ (.cons_cons _ (.cons_cons _ (.cons_cons _ (.cons_cons _ (.cons _ (.cons_cons _ .slnil))))))))))))) w hM)
  · have hd41 := of_decide_eq_false hc41
    have hKl := hK.le
    obtain rfl : j = K := hK.eq hok (by omega)
    have hn1 := runN_len (fan := fan) (leaf := leaf) (par := 1) hsa hsb ha4 hb4 j
    refine stExit (qThenX (qThenX (qBlockX (qThen (stSeq (reg ?_))))))
    refine lm ?_
    refine li rfl ?_
    refine opK0 (fun w hM => (rsOffer_any bs19 A219 c219 a fan leaf nm19 om19 ((runN a b fan leaf 1 j).2) w (hM.keep0 (j := 1) rfl (fun _ h => h)) (hM.keep0 (j := 4) rfl (fun _ h => h)) (by omega)).mono ?_)
    rintro e w' ⟨B62, cb62, rfl, hP⟩
    refine ⟨_, _, rfl, hP, ?_⟩; clear hP hM
    refine lm ?_
    refine li rfl ?_
    refine opK0 (fun w hM => (rsNeed_any bs19 A219 c219 a fan leaf nm19 om19 ((runN a b fan leaf 1 j).1) w (hM.keep0 (j := 1) rfl (fun _ h => h)) (hM.keep0 (j := 3) rfl (fun _ h => h)) (by omega)).mono ?_)
    rintro e w' ⟨B64, cb64, rfl, hP⟩
    refine ⟨_, _, rfl, hP, ?_⟩; clear hP hM
    refine lm ?_
    refine lm ?_
    refine la ?_
    refine la ?_
    refine la ?_
    refine la ?_
    refine la ?_
    refine liNil (qThen (stRet ?_))
    refine stEnd [(.slice B62 ((withL [] ((runN a b fan leaf 1 j).2)).length) (cb62)), (.slice B64 ((withL [] ((runN a b fan leaf 1 j).1)).length) (cb64)), (.int .i64 ((j : Nat) : Int)), (.int .i64 (((runB a b fan leaf j) : Nat) : Int)), (.int .i64 0)] rfl ⟨rfl, rfl, rfl, rfl, rfl, trivial⟩ (fun w hM => ?_)
    exact ⟨B62, cb62, B64, cb64, rfl, (fun (w : World) (h : Mm _ _ _ w) => Mm.sub h (.cons _ (.cons _ (.cons _ (.cons _ (.cons _ (.cons _ (.cons _ (.cons _ (.cons _ (.cons _ (.cons _ (.cons_cons _ (.cons_cons _ .slnil)))))))))))))) w hM⟩

end Go.Proofs.YtlepfnihpdhcaaaGreatDoor
