/- Part 5 of a proof about rangesum: what its row uses. -/
import Derived.Test.YtlepfnihpdhcaaaGreatDoorRu04
set_option maxRecDepth 100000
set_option maxHeartbeats 1000000
namespace Go.Proofs.YtlepfnihpdhcaaaGreatDoor
open Go.RowKit
theorem rsCompare_any (bs : Nat) (A : Option Addr) (c : Nat) (its : List (List UInt8)) (fan : Nat) (leaf : Nat) (nm : Nat) (om : Nat) (lo : List UInt8) (hi : List UInt8) (n : Nat) (f : List UInt8) (bo : Nat) (R : Option Addr) (rc : Nat) (ps : List PV) (N : Value) (O : Value) (w : World) (hO : Own [cAt bo 85 [(vL R (ps) rc), N, O], cP R (ps) rc] w) (r0 : Rf [cAt bo 85 [(vL R (ps) rc), N, O], cP R (ps) rc] w (Vars)) (r1 : Rf [cAt bo 85 [(vL R (ps) rc), N, O], cP R (ps) rc] w (SessAt bs A c its fan leaf nm om)) (hs : okSet its) (hn : its.length ≤ 1000) (hcap : its.length ≤ c) (hf : 2 ≤ fan) (hf2 : fan ≤ 16) (hl1 : 1 ≤ leaf) (hl2 : leaf ≤ 64) (hps : ps.length ≤ 4294967296) :
  Calls Tryz.prog 41 #[(vP bs 0), (.agg #[(vS lo), (vS hi)]), (.agg #[(vI n), (vS f)]), (vP bo 0)] w fun e w' => ∃ (R2 : Option Addr) (rc2 : Nat) (ps2 : List PV), e = .returned (.tuple #[]) ∧ Back [cAt bo 85 [(vL R (ps) rc), N, O], cP R (ps) rc] w [cAt bo 85 [(vL R2 (ps ++ ps2) rc2), N, O], cP R2 (ps ++ ps2) rc2] w' ∧ (ps2.map PV.abs = cmpA its fan leaf lo hi n f) ∧ (SrcOk [] A its ps2) := by
 have ra := r1.imp (fun _ h => h.1)
 have rb := r1.imp (fun _ h => h.2)
 refine stEnter (args := [(vP bs 0), (.agg #[(vS lo), (vS hi)]), (.agg #[(vI n), (vS f)]), (vP bo 0)]) (fps [cAt bo 85 [(vL R (ps) rc), N, O], cP R (ps) rc]) Tryz.func41 rfl 110 rfl [(0, (vP bs 0)), (1, (.agg #[(vS lo), (vS hi)])), (2, (.agg #[(vI n), (vS f)])), (3, (vP bo 0))] ⟨rfl, rfl, rfl, rfl, trivial⟩ [cAt bo 85 [(vL R (ps) rc), N, O], cP R (ps) rc] (hO) ?_
 refine stSeq (reg (li rfl ?_))
 refine opBox [(vS lo), (vS hi)] rfl rfl (by kernel_rfl) rfl rfl (fun b5 => ?_)
 refine li rfl ?_
 refine opBox [(vI n), (vS f)] rfl rfl (by kernel_rfl) rfl rfl (fun b6 => ?_)
 refine liNil (qThen (stSeq (stSeq ?_)))
 refine anyBegin [cAt bo 85 [(vL R (ps) rc), N, O], cP R (ps) rc, cAt b5 69 [(vS lo), (vS hi)], cAt b6 71 [(vI n), (vS f)]] 5 (by kernel_rfl) (fun _ h => h) ?_
 refine am 0 ?_
 refine av 1 (.agg #[(vS lo), (vS hi)]) rfl (rLoadA [(vS lo), (vS hi)] rfl rfl (by kernel_rfl) (by kernel_rfl) (segAt (i := 2) rfl (by intro j v hj; first | (rw [Nat.zero_add]; exact hj) | (match j, hj with | 0, h => exact h | 1, h => exact h)))) ?_
 refine av 3 (.agg #[(vI n), (vS f)]) rfl (rLoadA [(vI n), (vS f)] rfl rfl (by kernel_rfl) (by kernel_rfl) (segAt (i := 3) rfl (by intro j v hj; first | (rw [Nat.zero_add]; exact hj) | (match j, hj with | 0, h => exact h | 1, h => exact h)))) ?_
 refine a1 2 ?_
 refine opK0 (fun w hM => (rsSum_any bs A c its fan leaf nm om lo hi w (r0.go0 hM) (r1.go0 hM) (by assumption) (by assumption) (by assumption)).mono ?_)
 rintro e w' ⟨rfl, hP⟩
 refine ⟨_, _, rfl, hP, ?_⟩; clear hP hM
 refine anyNext [cAt bo 85 [(vL R (ps) rc), N, O], cP R (ps) rc, cAt b5 69 [(vS lo), (vS hi)], cAt b6 71 [(vI n), (vS f)]] (fun _ h => h) (fun _ h => h) ?_
 refine av 4 (.bool (decide ((inL its lo hi).length = n ∧ fpB (inL its lo hi) = f))) rfl (rEqSummed rfl rfl rfl) ?_
 refine anyDone (by kernel_rfl) ?_
 refine qThen ?_
 refine stCond rfl (fun hc19 => ?_) (fun hc19 => ?_)
 ·have hd19 := of_decide_eq_true hc19
  have hd19 := of_decide_eq_true hc19
  refine stRet (qThenR ?_)
  refine stEnd [] rfl trivial (fun w hM => ?_)
  exact ⟨R, rc, [], rfl, by rw [List.append_nil]; exact (hM.pick [0, 1] rfl rfl), by simp [cmpA, hd19], SrcOk.nil⟩
 ·have hd19 := of_decide_eq_false hc19
  have hd19 := of_decide_eq_false hc19
  refine stSkip (qThen (stSeq ?_))
  refine St.to [cAt bo 85 [(vL R (ps) rc), N, O], cP R (ps) rc, cAt b5 69 [(vS lo), (vS hi)], cAt b6 71 [(vI n), (vS f)]] (by kernel_rfl) ?_
  refine reg ?_
  refine lm ?_
  refine lv (v := (.agg #[(vS lo), (vS hi)])) (rLoadA [(vS lo), (vS hi)] rfl rfl (by kernel_rfl) (by kernel_rfl) (segAt (i := 2) rfl (by intro j v hj; first | (rw [Nat.zero_add]; exact hj) | (match j, hj with | 0, h => exact h | 1, h => exact h)))) ?_
  refine li rfl ?_
  refine opK0 (fun w hM => (rsWithin_any bs A c its fan leaf nm om lo hi w (r1.go0 hM) (by assumption) (by assumption) (by assumption)).mono ?_)
  rintro e w' ⟨B22, cb22, rfl, hP, hsub22⟩
  refine ⟨_, _, rfl, hP, ?_⟩; clear hP hM
  have rs22 := Ro.imp (Ψ := fun w => RowIn w B22 (SS (inL its lo hi))) rb hsub22
  refine la ?_
  refine liNil (qThen (stSeq (reg ?_)))
  refine lm ?_
  refine lc (vI ((inL its lo hi).length)) ?_
  refine la ?_
  refine liNil (qThen (stSeq (stSeq (reg ?_))))
  refine lm ?_
  refine lm ?_
  refine lc (vP bs 0) ?_
  refine lc (vP bs 1) ?_
  refine lc (vP bs 2) ?_
  refine lv (v := (vI leaf)) (rLoadW rfl rfl (by kernel_rfl) (fun w hM => At.cell (ra.now hM) 2)) ?_
  refine lc (.bool (decide ((((inL its lo hi).length : Nat) : Int) ≤ ((leaf : Nat) : Int)))) ?_
  refine liNil (qThen ?_)
  refine stCond rfl (fun hc31 => ?_) (fun hc31 => ?_)
  ·have hd31 := of_decide_eq_true hc31
   refine stSeq ?_
   refine anyBegin [cAt bo 85 [(vL R (ps) rc), N, O], cAt b5 69 [(vS lo), (vS hi)], cAt b6 71 [(vI n), (vS f)]] 14 (by kernel_rfl) (fun _ h => h.pick [0, 2, 3] rfl rfl) ?_
   refine am 0 ?_
   refine am 1 ?_
   refine ac 2 (vP bo 0) ?_
   refine ac 3 (vP bo 0) ?_
   refine av 4 (vL R (ps) rc) rfl (rLoad 0 rfl rfl (by kernel_rfl) rfl rfl) ?_
   refine av 5 (.agg #[(vS lo), (vS hi)]) rfl (rLoadA [(vS lo), (vS hi)] rfl rfl (by kernel_rfl) (by kernel_rfl) (segAt (i := 1) rfl (by intro j v hj; first | (rw [Nat.zero_add]; exact hj) | (match j, hj with | 0, h => exact h | 1, h => exact h)))) ?_
   refine am 6 ?_
   refine ac 7 (.agg #[(vL B22 (inL its lo hi) cb22)]) ?_
   refine ac 8 (.iface 89 (.agg #[(vL B22 (inL its lo hi) cb22)])) ?_
   refine ac 9 (.agg #[(vS lo), (vS hi), (.iface 89 (.agg #[(vL B22 (inL its lo hi) cb22)]))]) ?_
   refine a1 10 ?_
   refine opNew (v := fun b => .slice (some ⟨b, 0, none⟩) 1 1) 76 [(vS lo), (vS hi), (.iface 89 (.agg #[(vL B22 (inL its lo hi) cb22)]))] rfl (by kernel_rfl) (fun _ => by kernel_rfl) (fun b42 => ?_)
   refine anyNext [cAt bo 85 [(vL R (ps) rc), N, O], cAt b5 69 [(vS lo), (vS hi)], cAt b6 71 [(vI n), (vS f)], cAt b42 76 [(vS lo), (vS hi), (.iface 89 (.agg #[(vL B22 (inL its lo hi) cb22)]))]] (fun _ h => h.pick [0, 1, 2] rfl rfl) (fun _ h => h.pick [0, 2, 3, 4] rfl rfl) ?_
   refine a1 11 ?_
   refine opAppend el_part 1 ([(vS lo), (vS hi), (.iface 89 (.agg #[(vL B22 (inL its lo hi) cb22)]))]) rfl rfl (by kernel_rfl) rfl rfl rfl (rfl) (srcAt (i := 4) rfl (fun j v h => by rw [Nat.zero_add]; exact h)) (PS_one (ps := [PV.mk lo hi (.list B22 cb22 (inL its lo hi))])) (by omega) ((ps ++ [PV.mk lo hi (.list B22 cb22 (inL its lo hi))]).length) (by first | exact (List.length_append ..).symm | (simp; done) | (simp; omega)) (PS (ps ++ [PV.mk lo hi (.list B22 cb22 (inL its lo hi))])) ((PS_append _ ([PV.mk lo hi (.list B22 cb22 (inL its lo hi))])).symm) (fun A43 c43 => ?_)
   refine St.to [cAt bo 85 [(vL R (ps) rc), N, O], cP A43 (ps ++ [PV.mk lo hi (.list B22 cb22 (inL its lo hi))]) c43, cAt b5 69 [(vS lo), (vS hi)], cAt b6 71 [(vI n), (vS f)], cAt b42 76 [(vS lo), (vS hi), (.iface 89 (.agg #[(vL B22 (inL its lo hi) cb22)]))]] (by kernel_rfl) ?_
   refine anyNext [cAt bo 85 [(vL R (ps) rc), N, O], cAt b5 69 [(vS lo), (vS hi)], cAt b6 71 [(vI n), (vS f)], cAt b42 76 [(vS lo), (vS hi), (.iface 89 (.agg #[(vL B22 (inL its lo hi) cb22)]))]] (fun _ h => h) (fun _ h => h.pick [0, 2, 3, 4] rfl rfl) ?_
   refine ac 12 (vP bo 0) ?_
   refine ac 13 (vP bo 0) ?_
   refine a1 14 ?_
   refine opStore1 0 rfl rfl (by kernel_rfl) rfl rfl rfl (by kernel_rfl) rfl (by simp) ?_
   refine anyLast (by kernel_rfl) rfl ?_
   refine qThen (stRet (qThenR ?_))
   refine stEnd [] rfl trivial (fun w hM => ?_)
   exact ⟨A43, c43, [PV.mk lo hi (.list B22 cb22 (inL its lo hi))], rfl, (hM.pick [0, 1] rfl rfl), by rw [cmpA, if_neg hd19, if_pos (by have := of_decide_eq_true hc31; omega)]; rfl, fun p hp r hr => .inr (by rw [List.mem_singleton.1 hp] at hr; rw [List.mem_singleton.1 hr]; exact hsub22)⟩
  ·have hd31 := of_decide_eq_false hc31
   refine stSkip (qThen (stSeq (reg ?_)))
   refine lc (vP b5 0) ?_
   refine lv (v := (vS lo)) (rLoad 2 rfl rfl (by kernel_rfl) rfl rfl) ?_
   refine la ?_
   refine liNil (qThen (stSeq (stSeq (reg ?_))))
   refine la ?_
   refine liNil (qThen (stBlock ?_))
   have h2 := List.length_filter_le (inR lo hi) its; change (inL its lo hi).length ≤ its.length at h2
   refine stLoop (ι := Nat × Option Addr × Nat) (fun (k, RX, rcX) => k + 1 ≤ fan) (fun (k, RX, rcX) => fan - k) (fun (k, RX, rcX) => [(0, (vP bs 0)), (3, (vP bo 0)), (5, (vP b5 0)), (8, (vL B22 (inL its lo hi) cb22)), (9, (vI ((inL its lo hi).length))), (10, (vS ((divP its (inL its lo hi) fan lo k).1))), (11, (vI (k + 1)))]) (fun (k, RX, rcX) => [cAt bo 85 [(vL RX (ps ++ (divP its (inL its lo hi) fan lo k).2) rcX), N, O], cP RX (ps ++ (divP its (inL its lo hi) fan lo k).2) rcX, cAt b5 69 [(vS lo), (vS hi)], cAt b6 71 [(vI n), (vS f)]]) (0, R, rc) (by show 0 + 1 ≤ fan; omega) ⟨rfl, rfl, rfl, rfl, rfl, rfl, rfl, trivial⟩ (fun w hM => by show Mm _ _ [cAt bo 85 [(vL R (ps ++ (divP its (inL its lo hi) fan lo 0).2) rc), N, O], cP R (ps ++ (divP its (inL its lo hi) fan lo 0).2) rc, cAt b5 69 [(vS lo), (vS hi)], cAt b6 71 [(vI n), (vS f)]] w; rw [show ps ++ (divP its (inL its lo hi) fan lo 0).2 = ps from List.append_nil _]; exact hM) ?_
   rintro ⟨k, RX, rcX⟩ (hok : k + 1 ≤ fan)
   show St _ _ _ [(0, (vP bs 0)), (3, (vP bo 0)), (5, (vP b5 0)), (8, (vL B22 (inL its lo hi) cb22)), (9, (vI ((inL its lo hi).length))), (10, (vS ((divP its (inL its lo hi) fan lo k).1))), (11, (vI (k + 1)))] [cAt bo 85 [(vL RX (ps ++ (divP its (inL its lo hi) fan lo k).2) rcX), N, O], cP RX (ps ++ (divP its (inL its lo hi) fan lo k).2) rcX, cAt b5 69 [(vS lo), (vS hi)], cAt b6 71 [(vI n), (vS f)]] _
   refine stSeq (stSeq (reg ?_))
   refine lm ?_
   refine lm ?_
   refine lc (vP bs 0) ?_
   refine lc (vP bs 1) ?_
   refine lc (vP bs 1) ?_
   refine lv (v := (vI fan)) (rLoadW rfl rfl (by kernel_rfl) (fun w hM => At.cell (ra.now hM) 1)) ?_
   refine lc (.bool (decide ((((k + 1) : Nat) : Int) < ((fan : Nat) : Int)))) ?_
   refine liNil (qThen ?_)
   refine stCond rfl (fun hc54 => ?_) (fun hc54 => ?_)
   ·have hd54 := of_decide_eq_true hc54
    have hk : k + 1 < fan := by have := of_decide_eq_true hc54; omega
    refine stSkip (qThen (stSeq (stBlock (stSeq ?_))))
    have hm1 : (k + 1) * (inL its lo hi).length ≤ 16 * 1000 := Nat.mul_le_mul (by omega) (by omega)
    have hm2 : (k + 1) * (inL its lo hi).length / fan < (inL its lo hi).length := by
     rw [Nat.div_lt_iff_lt_mul (by omega), Nat.mul_comm]
     exact Nat.mul_lt_mul_of_pos_left hk (by have := of_decide_eq_false hc31; omega)
    refine reg ?_
    refine lm ?_
    refine lm ?_
    refine lm ?_
    refine lv (v := (vI ((k + 1) * (inL its lo hi).length))) (rMul _ rfl rfl rfl (by omega) (by omega) (by omega)) ?_
    refine lm ?_
    refine lc (vP bs 0) ?_
    refine lc (vP bs 1) ?_
    refine lc (vP bs 1) ?_
    refine lv (v := (vI fan)) (rLoadW rfl rfl (by kernel_rfl) (fun w hM => At.cell (ra.now hM) 1)) ?_
    refine lv (v := (vI ((k + 1) * (inL its lo hi).length / fan))) (rQuoN rfl rfl rfl (by omega) (by omega)) ?_
    obtain ⟨x0, hx0⟩ : ∃ ξ, (inL its lo hi)[(k + 1) * (inL its lo hi).length / fan]? = some ξ := ⟨_, List.getElem?_eq_getElem (by omega)⟩
    refine St.rowPtr (fun w hM => rs22.now hM) (SS_at hx0) (fun p67 q67 hA67 hc67 => ?_)
    refine lv (v := (vP p67 (q67 + ((k + 1) * (inL its lo hi).length / fan)))) (rIndexRow (e := 9) rfl (by kernel_rfl) (by kernel_rfl) rfl rfl hA67 (by omega)) ?_
    refine lv (v := (vS x0)) (rLoadW rfl rfl (by kernel_rfl) hc67) ?_
    refine la ?_
    refine liNil (qThen (stSeq (reg ?_)))
    refine lm ?_
    refine lm ?_
    refine lv (v := (.bool (!decide (x0 = (divP its (inL its lo hi) fan lo k).1)))) (rStrNe rfl rfl rfl) ?_
    refine liNil (qThen ?_)
    refine stCond rfl (fun hc71 => ?_) (fun hc71 => ?_)
    ·refine stSeq (reg ?_)
     refine lm ?_
     refine lm ?_
     refine lc (.agg #[(vS ((divP its (inL its lo hi) fan lo k).1)), (vS x0)]) ?_
     refine li rfl ?_
     refine opAlloc [(.string ⟨#[]⟩), (.string ⟨#[]⟩)] rfl rfl (by kernel_rfl) (by kernel_rfl) (fun b13 => ?_)
     refine li rfl ?_
     refine opStoreN 4 [(vS ((divP its (inL its lo hi) fan lo k).1)), (vS x0)] (vs := [(vS ((divP its (inL its lo hi) fan lo k).1)), (vS x0)]) rfl rfl (by kernel_rfl) rfl rfl rfl (by kernel_rfl) rfl (by simp) (by simp [Value.oneCell']) rfl ?_
     refine liNil (qThen (stSeq ?_))
     refine anyBegin [cAt bo 85 [(vL RX (ps ++ (divP its (inL its lo hi) fan lo k).2) rcX), N, O], cAt b5 69 [(vS lo), (vS hi)], cAt b6 71 [(vI n), (vS f)], cAt b13 69 [(vS ((divP its (inL its lo hi) fan lo k).1)), (vS x0)]] 15 (by kernel_rfl) (fun _ h => h.pick [0, 2, 3, 4] rfl rfl) ?_
     refine am 0 ?_
     refine am 1 ?_
     refine ac 2 (vP bo 0) ?_
     refine ac 3 (vP bo 0) ?_
     refine av 4 (vL RX (ps ++ (divP its (inL its lo hi) fan lo k).2) rcX) rfl (rLoad 0 rfl rfl (by kernel_rfl) rfl rfl) ?_
     refine av 5 (.agg #[(vS ((divP its (inL its lo hi) fan lo k).1)), (vS x0)]) rfl (rLoadA [(vS ((divP its (inL its lo hi) fan lo k).1)), (vS x0)] rfl rfl (by kernel_rfl) (by kernel_rfl) (segAt (i := 3) rfl (by intro j v hj; first | (rw [Nat.zero_add]; exact hj) | (match j, hj with | 0, h => exact h | 1, h => exact h)))) ?_
     refine am 6 ?_
     refine av 7 (.agg #[(vS ((divP its (inL its lo hi) fan lo k).1)), (vS x0)]) rfl (rLoadA [(vS ((divP its (inL its lo hi) fan lo k).1)), (vS x0)] rfl rfl (by kernel_rfl) (by kernel_rfl) (segAt (i := 3) rfl (by intro j v hj; first | (rw [Nat.zero_add]; exact hj) | (match j, hj with | 0, h => exact h | 1, h => exact h)))) ?_
     refine a1 8 ?_
     refine opK0 (fun w hM => (rsSum_any bs A c its fan leaf nm om ((divP its (inL its lo hi) fan lo k).1) x0 w (r0.go0 hM) (r1.go0 hM) (by assumption) (by assumption) (by assumption)).mono ?_)
     rintro e w' ⟨rfl, hP⟩
     refine ⟨_, _, rfl, hP, ?_⟩; clear hP hM
     refine St.to [cAt bo 85 [(vL RX (ps ++ (divP its (inL its lo hi) fan lo k).2) rcX), N, O], cP RX (ps ++ (divP its (inL its lo hi) fan lo k).2) rcX, cAt b5 69 [(vS lo), (vS hi)], cAt b6 71 [(vI n), (vS f)], cAt b13 69 [(vS ((divP its (inL its lo hi) fan lo k).1)), (vS x0)]] (by kernel_rfl) ?_
     refine anyNext [cAt bo 85 [(vL RX (ps ++ (divP its (inL its lo hi) fan lo k).2) rcX), N, O], cAt b5 69 [(vS lo), (vS hi)], cAt b6 71 [(vI n), (vS f)], cAt b13 69 [(vS ((divP its (inL its lo hi) fan lo k).1)), (vS x0)]] (fun _ h => h) (fun _ h => h.pick [0, 2, 3, 4] rfl rfl) ?_
     refine ac 9 (.iface 71 (.agg #[(vI ((inL its ((divP its (inL its lo hi) fan lo k).1) x0).length)), (vS (fpB (inL its ((divP its (inL its lo hi) fan lo k).1) x0)))])) ?_
     refine ac 10 (.agg #[(vS ((divP its (inL its lo hi) fan lo k).1)), (vS x0), (.iface 71 (.agg #[(vI ((inL its ((divP its (inL its lo hi) fan lo k).1) x0).length)), (vS (fpB (inL its ((divP its (inL its lo hi) fan lo k).1) x0)))]))]) ?_
     refine a1 11 ?_
     refine opNew (v := fun b => .slice (some ⟨b, 0, none⟩) 1 1) 76 [(vS ((divP its (inL its lo hi) fan lo k).1)), (vS x0), (.iface 71 (.agg #[(vI ((inL its ((divP its (inL its lo hi) fan lo k).1) x0).length)), (vS (fpB (inL its ((divP its (inL its lo hi) fan lo k).1) x0)))]))] rfl (by kernel_rfl) (fun _ => by kernel_rfl) (fun b86 => ?_)
     refine anyNext [cAt bo 85 [(vL RX (ps ++ (divP its (inL its lo hi) fan lo k).2) rcX), N, O], cAt b5 69 [(vS lo), (vS hi)], cAt b6 71 [(vI n), (vS f)], cAt b13 69 [(vS ((divP its (inL its lo hi) fan lo k).1)), (vS x0)], cAt b86 76 [(vS ((divP its (inL its lo hi) fan lo k).1)), (vS x0), (.iface 71 (.agg #[(vI ((inL its ((divP its (inL its lo hi) fan lo k).1) x0).length)), (vS (fpB (inL its ((divP its (inL its lo hi) fan lo k).1) x0)))]))]] (fun _ h => h.pick [0, 1, 2, 3] rfl rfl) (fun _ h => h.pick [0, 2, 3, 4, 5] rfl rfl) ?_
     refine a1 12 ?_
     refine opAppend el_part 1 ([(vS ((divP its (inL its lo hi) fan lo k).1)), (vS x0), (.iface 71 (.agg #[(vI ((inL its ((divP its (inL its lo hi) fan lo k).1) x0).length)), (vS (fpB (inL its ((divP its (inL its lo hi) fan lo k).1) x0)))]))]) rfl rfl (by kernel_rfl) rfl rfl rfl (rfl) (srcAt (i := 5) rfl (fun j v h => by rw [Nat.zero_add]; exact h)) (by intro u hu; exact PS_one (ps := [sumP its _ _]) u hu) (by have := divP_len its (inL its lo hi) fan lo k; simp only [List.length_append] at *; omega) ((ps ++ (divP its (inL its lo hi) fan lo k).2 ++ [sumP its (divP its (inL its lo hi) fan lo k).1 x0]).length) (by first | exact (List.length_append ..).symm | (simp; done) | (simp; omega)) (PS (ps ++ (divP its (inL its lo hi) fan lo k).2 ++ [sumP its (divP its (inL its lo hi) fan lo k).1 x0])) ((PS_append _ ([sumP its (divP its (inL its lo hi) fan lo k).1 x0])).symm) (fun A87 c87 => ?_)
     refine anyNext [cAt bo 85 [(vL RX (ps ++ (divP its (inL its lo hi) fan lo k).2) rcX), N, O], cAt b5 69 [(vS lo), (vS hi)], cAt b6 71 [(vI n), (vS f)], cAt b13 69 [(vS ((divP its (inL its lo hi) fan lo k).1)), (vS x0)], cAt b86 76 [(vS ((divP its (inL its lo hi) fan lo k).1)), (vS x0), (.iface 71 (.agg #[(vI ((inL its ((divP its (inL its lo hi) fan lo k).1) x0).length)), (vS (fpB (inL its ((divP its (inL its lo hi) fan lo k).1) x0)))]))]] (fun _ h => h) (fun _ h => h.pick [0, 2, 3, 4, 5] rfl rfl) ?_
     refine ac 13 (vP bo 0) ?_
     refine ac 14 (vP bo 0) ?_
     refine a1 15 ?_
     refine opStore1 0 rfl rfl (by kernel_rfl) rfl rfl rfl (by kernel_rfl) rfl (by simp) ?_
     refine anyLast (by kernel_rfl) rfl ?_
     refine qThen (reg ?_)
     refine lm ?_
     refine la ?_
     refine liNil (qBlock (qThen (reg ?_)))
     refine lm ?_
     refine lv (v := (vI ((k + 1) + 1))) (rAdd _ rfl rfl rfl (by omega) (by omega) (by omega)) ?_
     refine la ?_
     refine liNil (qThen ?_)
     rw [show ps ++ (divP its (inL its lo hi) fan lo k).2 ++ [sumP its (divP its (inL its lo hi) fan lo k).1 x0] = ps ++ (divP its (inL its lo hi) fan lo (k + 1)).2 from by rw [divP_yes hx0 hc71, ← List.append_assoc]]
     rw [show x0 = (divP its (inL its lo hi) fan lo (k + 1)).1 from by rw [divP_yes hx0 hc71]]
     exact stAgain (k + 1, A87, c87) (by show _ ≤ _; omega) (by show fan - (k + 1) < fan - k; omega) ⟨rfl, rfl, rfl, rfl, rfl, rfl, rfl, trivial⟩ (fun w hM => (hM.pick [0, 1, 2, 3] rfl rfl))
    ·refine stSkip (qBlock (qThen (reg ?_)))
     refine lm ?_
     refine lv (v := (vI ((k + 1) + 1))) (rAdd _ rfl rfl rfl (by omega) (by omega) (by omega)) ?_
     refine la ?_
     refine liNil (qThen ?_)
     rw [show divP its (inL its lo hi) fan lo k = divP its (inL its lo hi) fan lo (k + 1) from (divP_no hx0 hc71).symm]
     exact stAgain (k + 1, RX, rcX) (by show _ ≤ _; omega) (by show fan - (k + 1) < fan - k; omega) ⟨rfl, rfl, rfl, rfl, rfl, rfl, rfl, trivial⟩ (fun w hM => hM)
   ·have hd54 := of_decide_eq_false hc54
    obtain rfl : k = fan - 1 := by have := of_decide_eq_false hc54; omega
    refine stExit (qThenX (qThenX (qBlockX (qThen (stSeq (reg ?_))))))
    refine lm ?_
    refine lc (vP b5 1) ?_
    refine lv (v := (vS hi)) (rLoad 2 rfl rfl (by kernel_rfl) rfl rfl) ?_
    refine lc (.agg #[(vS ((divP its (inL its lo hi) fan lo (fan - 1)).1)), (vS hi)]) ?_
    refine li rfl ?_
    refine opAlloc [(.string ⟨#[]⟩), (.string ⟨#[]⟩)] rfl rfl (by kernel_rfl) (by kernel_rfl) (fun b14 => ?_)
    refine li rfl ?_
    refine opStoreN 4 [(vS ((divP its (inL its lo hi) fan lo (fan - 1)).1)), (vS hi)] (vs := [(vS ((divP its (inL its lo hi) fan lo (fan - 1)).1)), (vS hi)]) rfl rfl (by kernel_rfl) rfl rfl rfl (by kernel_rfl) rfl (by simp) (by simp [Value.oneCell']) rfl ?_
    refine liNil (qThen ?_)
    refine St.to [cAt bo 85 [(vL RX (ps ++ (divP its (inL its lo hi) fan lo (fan - 1)).2) rcX), N, O], cP RX (ps ++ (divP its (inL its lo hi) fan lo (fan - 1)).2) rcX, cAt b5 69 [(vS lo), (vS hi)], cAt b6 71 [(vI n), (vS f)], cAt b14 69 [(vS ((divP its (inL its lo hi) fan lo (fan - 1)).1)), (vS hi)]] (by kernel_rfl) ?_
    refine anyBegin [cAt bo 85 [(vL RX (ps ++ (divP its (inL its lo hi) fan lo (fan - 1)).2) rcX), N, O], cAt b5 69 [(vS lo), (vS hi)], cAt b6 71 [(vI n), (vS f)], cAt b14 69 [(vS ((divP its (inL its lo hi) fan lo (fan - 1)).1)), (vS hi)]] 15 (by kernel_rfl) (fun _ h => h.pick [0, 2, 3, 4] rfl rfl) ?_
    refine am 0 ?_
    refine am 1 ?_
    refine ac 2 (vP bo 0) ?_
    refine ac 3 (vP bo 0) ?_
    refine av 4 (vL RX (ps ++ (divP its (inL its lo hi) fan lo (fan - 1)).2) rcX) rfl (rLoad 0 rfl rfl (by kernel_rfl) rfl rfl) ?_
    refine av 5 (.agg #[(vS ((divP its (inL its lo hi) fan lo (fan - 1)).1)), (vS hi)]) rfl (rLoadA [(vS ((divP its (inL its lo hi) fan lo (fan - 1)).1)), (vS hi)] rfl rfl (by kernel_rfl) (by kernel_rfl) (segAt (i := 3) rfl (by intro j v hj; first | (rw [Nat.zero_add]; exact hj) | (match j, hj with | 0, h => exact h | 1, h => exact h)))) ?_
    refine am 6 ?_
    refine av 7 (.agg #[(vS ((divP its (inL its lo hi) fan lo (fan - 1)).1)), (vS hi)]) rfl (rLoadA [(vS ((divP its (inL its lo hi) fan lo (fan - 1)).1)), (vS hi)] rfl rfl (by kernel_rfl) (by kernel_rfl) (segAt (i := 3) rfl (by intro j v hj; first | (rw [Nat.zero_add]; exact hj) | (match j, hj with | 0, h => exact h | 1, h => exact h)))) ?_
    refine a1 8 ?_
    refine opK0 (fun w hM => (rsSum_any bs A c its fan leaf nm om ((divP its (inL its lo hi) fan lo (fan - 1)).1) hi w (r0.go0 hM) (r1.go0 hM) (by assumption) (by assumption) (by assumption)).mono ?_)
    rintro e w' ⟨rfl, hP⟩
    refine ⟨_, _, rfl, hP, ?_⟩; clear hP hM
    refine anyNext [cAt bo 85 [(vL RX (ps ++ (divP its (inL its lo hi) fan lo (fan - 1)).2) rcX), N, O], cAt b5 69 [(vS lo), (vS hi)], cAt b6 71 [(vI n), (vS f)], cAt b14 69 [(vS ((divP its (inL its lo hi) fan lo (fan - 1)).1)), (vS hi)]] (fun _ h => h) (fun _ h => h.pick [0, 2, 3, 4] rfl rfl) ?_
    refine ac 9 (.iface 71 (.agg #[(vI ((inL its ((divP its (inL its lo hi) fan lo (fan - 1)).1) hi).length)), (vS (fpB (inL its ((divP its (inL its lo hi) fan lo (fan - 1)).1) hi)))])) ?_
    refine ac 10 (.agg #[(vS ((divP its (inL its lo hi) fan lo (fan - 1)).1)), (vS hi), (.iface 71 (.agg #[(vI ((inL its ((divP its (inL its lo hi) fan lo (fan - 1)).1) hi).length)), (vS (fpB (inL its ((divP its (inL its lo hi) fan lo (fan - 1)).1) hi)))]))]) ?_
    refine a1 11 ?_
    refine opNew (v := fun b => .slice (some ⟨b, 0, none⟩) 1 1) 76 [(vS ((divP its (inL its lo hi) fan lo (fan - 1)).1)), (vS hi), (.iface 71 (.agg #[(vI ((inL its ((divP its (inL its lo hi) fan lo (fan - 1)).1) hi).length)), (vS (fpB (inL its ((divP its (inL its lo hi) fan lo (fan - 1)).1) hi)))]))] rfl (by kernel_rfl) (fun _ => by kernel_rfl) (fun b106 => ?_)
    refine St.to [cAt bo 85 [(vL RX (ps ++ (divP its (inL its lo hi) fan lo (fan - 1)).2) rcX), N, O], cP RX (ps ++ (divP its (inL its lo hi) fan lo (fan - 1)).2) rcX, cAt b5 69 [(vS lo), (vS hi)], cAt b6 71 [(vI n), (vS f)], cAt b14 69 [(vS ((divP its (inL its lo hi) fan lo (fan - 1)).1)), (vS hi)], cAt b106 76 [(vS ((divP its (inL its lo hi) fan lo (fan - 1)).1)), (vS hi), (.iface 71 (.agg #[(vI ((inL its ((divP its (inL its lo hi) fan lo (fan - 1)).1) hi).length)), (vS (fpB (inL its ((divP its (inL its lo hi) fan lo (fan - 1)).1) hi)))]))]] (by kernel_rfl) ?_
    refine anyNext [cAt bo 85 [(vL RX (ps ++ (divP its (inL its lo hi) fan lo (fan - 1)).2) rcX), N, O], cAt b5 69 [(vS lo), (vS hi)], cAt b6 71 [(vI n), (vS f)], cAt b14 69 [(vS ((divP its (inL its lo hi) fan lo (fan - 1)).1)), (vS hi)], cAt b106 76 [(vS ((divP its (inL its lo hi) fan lo (fan - 1)).1)), (vS hi), (.iface 71 (.agg #[(vI ((inL its ((divP its (inL its lo hi) fan lo (fan - 1)).1) hi).length)), (vS (fpB (inL its ((divP its (inL its lo hi) fan lo (fan - 1)).1) hi)))]))]] (fun _ h => h.pick [0, 1, 2, 3] rfl rfl) (fun _ h => h.pick [0, 2, 3, 4, 5] rfl rfl) ?_
    refine a1 12 ?_
    refine opAppend el_part 1 ([(vS ((divP its (inL its lo hi) fan lo (fan - 1)).1)), (vS hi), (.iface 71 (.agg #[(vI ((inL its ((divP its (inL its lo hi) fan lo (fan - 1)).1) hi).length)), (vS (fpB (inL its ((divP its (inL its lo hi) fan lo (fan - 1)).1) hi)))]))]) rfl rfl (by kernel_rfl) rfl rfl rfl (rfl) (srcAt (i := 5) rfl (fun j v h => by rw [Nat.zero_add]; exact h)) (by intro u hu; exact PS_one (ps := [sumP its _ _]) u hu) (by have := divP_len its (inL its lo hi) fan lo (fan - 1); simp only [List.length_append] at *; omega) ((ps ++ (divP its (inL its lo hi) fan lo (fan - 1)).2 ++ [sumP its (divP its (inL its lo hi) fan lo (fan - 1)).1 hi]).length) (by first | exact (List.length_append ..).symm | (simp; done) | (simp; omega)) (PS (ps ++ (divP its (inL its lo hi) fan lo (fan - 1)).2 ++ [sumP its (divP its (inL its lo hi) fan lo (fan - 1)).1 hi])) ((PS_append _ ([sumP its (divP its (inL its lo hi) fan lo (fan - 1)).1 hi])).symm) (fun A107 c107 => ?_)
    refine anyNext [cAt bo 85 [(vL RX (ps ++ (divP its (inL its lo hi) fan lo (fan - 1)).2) rcX), N, O], cAt b5 69 [(vS lo), (vS hi)], cAt b6 71 [(vI n), (vS f)], cAt b14 69 [(vS ((divP its (inL its lo hi) fan lo (fan - 1)).1)), (vS hi)], cAt b106 76 [(vS ((divP its (inL its lo hi) fan lo (fan - 1)).1)), (vS hi), (.iface 71 (.agg #[(vI ((inL its ((divP its (inL its lo hi) fan lo (fan - 1)).1) hi).length)), (vS (fpB (inL its ((divP its (inL its lo hi) fan lo (fan - 1)).1) hi)))]))]] (fun _ h => h) (fun _ h => h.pick [0, 2, 3, 4, 5] rfl rfl) ?_
    refine ac 13 (vP bo 0) ?_
    refine ac 14 (vP bo 0) ?_
    refine a1 15 ?_
    refine opStore1 0 rfl rfl (by kernel_rfl) rfl rfl rfl (by kernel_rfl) rfl (by simp) ?_
    refine anyLast (by kernel_rfl) rfl ?_
    refine stEndN [] rfl trivial (fun w hM => ?_)
    refine ⟨A107, c107, (divP its (inL its lo hi) fan lo (fan - 1)).2 ++ [sumP its (divP its (inL its lo hi) fan lo (fan - 1)).1 hi], rfl, ?_, ?_, ?_⟩
    ·rw [← List.append_assoc]; exact (hM.pick [0, 1] rfl rfl)
    ·rw [cmpA, if_neg hd19, if_neg (by have := of_decide_eq_false hc31; omega), List.map_append, (divP_abs its (inL its lo hi) fan lo (fan - 1)).2, ← (divP_abs its (inL its lo hi) fan lo (fan - 1)).1]; rfl
    ·exact SrcOk.append (L := []) (SrcOk.noRows (divP_sum _ _ _ _ _)) (SrcOk.noRows (by intro p hp; rw [List.mem_singleton.1 hp]; rfl))
theorem rsAnswer_any (bs : Nat) (A : Option Addr) (c : Nat) (its : List (List UInt8)) (fan : Nat) (leaf : Nat) (nm : Nat) (om : Nat) (lo : List UInt8) (hi : List UInt8) (A1 : Option Addr) (c1 : Nat) (xs : List (List UInt8)) (bo : Nat) (R : Option Addr) (rc : Nat) (ps : List PV) (N : Option Addr) (nc : Nat) (nl : List (List UInt8)) (O : Option Addr) (oc : Nat) (ol : List (List UInt8)) (w : World) (hO : Own [cAt bo 85 [(vL R (ps) rc), (vL N (nl) nc), (vL O (ol) oc)], cP R (ps) rc, cS N (nl) nc, cS O (ol) oc] w) (r0 : Rf [cAt bo 85 [(vL R (ps) rc), (vL N (nl) nc), (vL O (ol) oc)], cP R (ps) rc, cS N (nl) nc, cS O (ol) oc] w (SessAt bs A c its fan leaf nm om)) (r1 : Rf [cAt bo 85 [(vL R (ps) rc), (vL N (nl) nc), (vL O (ol) oc)], cP R (ps) rc, cS N (nl) nc, cS O (ol) oc] w (fun w => RowIn w A1 (SS xs))) (hs : okSet its) (hn : its.length ≤ 1000) (hcap : its.length ≤ c) (hps : ps.length ≤ 4294967296) (hxl : xs.length ≤ 4294967296) (hxs : ∀ x ∈ xs, x.length ≤ 1000) (hnl : nl.length ≤ 68719476736) (hol : ol.length ≤ 68719476736) :
  Calls Tryz.prog 42 #[(vP bs 0), (.agg #[(vS lo), (vS hi)]), (.agg #[(vL A1 xs c1)]), (vP bo 0)] w fun e w' => ∃ (R2 : Option Addr) (rc2 : Nat) (ps2 : List PV) (N2 : Option Addr) (nc2 : Nat) (O2 : Option Addr) (oc2 : Nat) (L2 : List (Option Addr × List (List UInt8))), e = .returned (.tuple #[]) ∧ Back [cAt bo 85 [(vL R (ps) rc), (vL N (nl) nc), (vL O (ol) oc)], cP R (ps) rc, cS N (nl) nc, cS O (ol) oc] w [cAt bo 85 [(vL R2 (ps ++ ps2) rc2), (vL N2 (nl ++ without xs its) nc2), (vL O2 (ol ++ without (inL its lo hi) xs) oc2)], cP R2 (ps ++ ps2) rc2, cS N2 (nl ++ without xs its) nc2, cS O2 (ol ++ without (inL its lo hi) xs) oc2, cBag (L2)] w' ∧ (ps2.map PV.abs = ansA its lo hi xs) ∧ (SrcOk L2 A its ps2) := by
 have ra := r0.imp (fun _ h => h.1)
 have rb := r0.imp (fun _ h => h.2)
 refine stEnter (args := [(vP bs 0), (.agg #[(vS lo), (vS hi)]), (.agg #[(vL A1 xs c1)]), (vP bo 0)]) (fps [cAt bo 85 [(vL R (ps) rc), (vL N (nl) nc), (vL O (ol) oc)], cP R (ps) rc, cS N (nl) nc, cS O (ol) oc]) Tryz.func42 rfl 95 rfl [(0, (vP bs 0)), (1, (.agg #[(vS lo), (vS hi)])), (2, (.agg #[(vL A1 xs c1)])), (3, (vP bo 0))] ⟨rfl, rfl, rfl, rfl, trivial⟩ [cAt bo 85 [(vL R (ps) rc), (vL N (nl) nc), (vL O (ol) oc)], cP R (ps) rc, cS N (nl) nc, cS O (ol) oc] (hO) ?_
 refine stSeq (reg (li rfl ?_))
 refine opBox [(vS lo), (vS hi)] rfl rfl (by kernel_rfl) rfl rfl (fun b5 => ?_)
 refine li rfl ?_
 refine opBox [(vL A1 xs c1)] rfl rfl (by kernel_rfl) rfl rfl (fun b6 => ?_)
 refine liNil (qThen (stSeq (reg (li rfl ?_))))
 refine opMakeSet rfl rfl (by kernel_rfl) (fun m14 => ?_)
 refine la ?_
 refine liNil (qThen (stSeq (reg (li rfl ?_))))
 refine opAlloc [(.slice none 0 0), (.slice none 0 0)] rfl rfl (by kernel_rfl) (by kernel_rfl) (fun b9 => ?_)
 refine liNil (qThen (stSeq (stSeq ?_)))
 refine St.to [cAt bo 85 [(vL R (ps) rc), (vL N (nl) nc), (vL O (ol) oc)], cP R (ps) rc, cS N (nl) nc, cS O (ol) oc, cAt b5 69 [(vS lo), (vS hi)], cAt b6 89 [(vL A1 xs c1)], cSet m14 ([]), cAt b9 92 [(.slice none 0 0), (.slice none 0 0)]] (by kernel_rfl) ?_
 refine St.mem (fun w hM => hM.nilOwn 9 1) ?_
 refine St.mem (fun w hM => hM.nilOwn 9 1) ?_
 refine reg ?_
 refine lc (vP b6 0) ?_
 refine lv (v := (vL A1 xs c1)) (rLoad 5 rfl rfl (by kernel_rfl) rfl rfl) ?_
 refine lc (vI xs.length) ?_
 refine lm ?_
 refine liNil (qThen (stBlock ?_))
 refine stLoop (ι := Nat × Option Addr × Nat) (fun (i, N32, nc32) => i ≤ xs.length) (fun (i, N32, nc32) => xs.length - i) (fun (i, N32, nc32) => [(0, (vP bs 0)), (3, (vP bo 0)), (5, (vP b5 0)), (8, (.map (some m14))), (9, (vP b9 0)), (16, (vL A1 xs c1)), (17, (vI xs.length)), (18, (vI i))]) (fun (i, N32, nc32) => [cAt bo 85 [(vL R (ps) rc), (vL N (nl) nc), (vL O (ol) oc)], cP R (ps) rc, cS N (nl) nc, cS O (ol) oc, cAt b5 69 [(vS lo), (vS hi)], cAt b6 89 [(vL A1 xs c1)], cSet m14 (xs.take i), cAt b9 92 [(.slice none 0 0), (vL N32 (without (xs.take i) its) nc32)], cOwn 9 1 none (0) (0) ([]), cS N32 (without (xs.take i) its) nc32]) (0, none, 0) (Nat.zero_le _) ⟨rfl, rfl, rfl, rfl, rfl, rfl, rfl, rfl, trivial⟩ (fun w hM => by show Mm _ _ [cAt bo 85 [(vL R (ps) rc), (vL N (nl) nc), (vL O (ol) oc)], cP R (ps) rc, cS N (nl) nc, cS O (ol) oc, cAt b5 69 [(vS lo), (vS hi)], cAt b6 89 [(vL A1 xs c1)], cSet m14 (xs.take 0), cAt b9 92 [(.slice none 0 0), (vL none (without (xs.take 0) its) 0)], cOwn 9 1 none (0) (0) ([]), cS none (without (xs.take 0) its) 0] w; exact hM) ?_
 rintro ⟨i, N32, nc32⟩ (hok : i ≤ xs.length)
 show St _ _ _ [(0, (vP bs 0)), (3, (vP bo 0)), (5, (vP b5 0)), (8, (.map (some m14))), (9, (vP b9 0)), (16, (vL A1 xs c1)), (17, (vI xs.length)), (18, (vI i))] [cAt bo 85 [(vL R (ps) rc), (vL N (nl) nc), (vL O (ol) oc)], cP R (ps) rc, cS N (nl) nc, cS O (ol) oc, cAt b5 69 [(vS lo), (vS hi)], cAt b6 89 [(vL A1 xs c1)], cSet m14 (xs.take i), cAt b9 92 [(.slice none 0 0), (vL N32 (without (xs.take i) its) nc32)], cOwn 9 1 none (0) (0) ([]), cS N32 (without (xs.take i) its) nc32] _
 refine stSeq (reg ?_)
 refine lc (.bool (decide (((i : Nat) : Int) < ((xs.length : Nat) : Int)))) ?_
 refine liNil (qThen (stSeq ?_))
 refine stCond rfl (fun hc19 => ?_) (fun hc19 => ?_)
 ·have hd19 := of_decide_eq_true hc19
  refine stSkip (qThen (stSeq (stBlock (stSeq (reg ?_)))))
  obtain ⟨x0, hx0⟩ : ∃ ξ, (xs)[i]? = some ξ := ⟨_, List.getElem?_eq_getElem (by omega)⟩
  refine St.rowPtr (fun w hM => r1.now hM) (SS_at hx0) (fun p20 q20 hA20 hc20 => ?_)
  refine lv (v := (vP p20 (q20 + i))) (rIndexRow (e := 9) rfl (by kernel_rfl) (by kernel_rfl) rfl rfl hA20 (by omega)) ?_
  refine lv (v := (vS x0)) (rLoadW rfl rfl (by kernel_rfl) hc20) ?_
  refine la ?_
  refine liNil (qThen (stSeq (reg ?_)))
  refine lm ?_
  refine lm ?_
  refine li rfl ?_
  refine opSetPut 6 rfl rfl (by kernel_rfl) rfl rfl rfl rfl (by have := hxs _ (List.mem_of_getElem? hx0); omega) (by rw [List.length_take]; omega) ?_
  refine liNil (qThen (stSeq (reg ?_)))
  refine lm ?_
  refine lm ?_
  refine li rfl ?_
  refine opK0 (fun w hM => (rsSHas_any bs A c its fan leaf nm om x0 w (r0.go0 hM) (by assumption) (by assumption)).mono ?_)
  rintro e w' ⟨rfl, hP⟩
  refine ⟨_, _, rfl, hP, ?_⟩; clear hP hM
  refine lc (.bool (!(its.contains x0))) ?_
  refine liNil (qThen ?_)
  refine stCond rfl (fun hc27 => ?_) (fun hc27 => ?_)
  ·refine reg ?_
   refine lc (vP b9 1) ?_
   refine lv (v := (vL N32 (without (xs.take i) its) nc32)) (rLoad 7 rfl rfl (by kernel_rfl) rfl rfl) ?_
   refine lm ?_
   refine li rfl ?_
   refine opNew (v := fun b => .slice (some ⟨b, 0, none⟩) 1 1) 9 [(vS x0)] rfl (by kernel_rfl) (fun _ => by kernel_rfl) (fun b31 => ?_)
   refine li rfl ?_
   refine opAppend el_strC 9 ([(vS x0)]) rfl rfl (by kernel_rfl) rfl rfl rfl (rfl) (srcAt (i := 10) rfl (fun j v h => by rw [Nat.zero_add]; exact h)) (by simp [Value.oneCell']) (by have h := without_len (xs.take i) its; simp only [List.length_take] at h; omega) ((without (xs.take i) its ++ [x0]).length) (by first | exact (List.length_append ..).symm | (simp; done) | (simp; omega)) (SS (without (xs.take i) its ++ [x0])) (by simp [SS]) (fun A32 c32 => ?_)
   refine lc (vP b9 1) ?_
   refine li rfl ?_
   refine opStore1 7 rfl rfl (by kernel_rfl) rfl rfl rfl (by kernel_rfl) rfl (by simp) ?_
   refine liNil (qBlock (qThen ?_))
   refine St.to [cAt bo 85 [(vL R (ps) rc), (vL N (nl) nc), (vL O (ol) oc)], cP R (ps) rc, cS N (nl) nc, cS O (ol) oc, cAt b5 69 [(vS lo), (vS hi)], cAt b6 89 [(vL A1 xs c1)], cSet m14 (xs.take i ++ [x0]), cAt b9 92 [(.slice none 0 0), (vL A32 (without (xs.take i) its ++ [x0]) c32)], cOwn 9 1 none (0) (0) ([]), cS A32 (without (xs.take i) its ++ [x0]) c32, cAt b31 9 [(vS x0)]] (by kernel_rfl) ?_
   refine reg ?_
   refine lv (v := (vI (i + 1))) (rAdd _ rfl rfl rfl (by omega) (by omega) (by omega)) ?_
   refine lm ?_
   refine liNil (qThen ?_)
   rw [show xs.take i ++ [x0] = xs.take (i + 1) from take_snoc hx0]
   rw [show without (xs.take i) its ++ [x0] = without (xs.take (i + 1)) its from by rw [without_yes hx0 (by simpa using hc27)]]
   exact stAgain (i + 1, A32, c32) (by show _ ≤ _; omega) (by show xs.length - (i + 1) < xs.length - i; omega) ⟨rfl, rfl, rfl, rfl, rfl, rfl, rfl, rfl, trivial⟩ (fun w hM => (hM.pick [0, 1, 2, 3, 4, 5, 6, 7, 8, 9] rfl rfl))
  ·refine stSkip (qBlock (qThen (reg ?_)))
   refine lv (v := (vI (i + 1))) (rAdd _ rfl rfl rfl (by omega) (by omega) (by omega)) ?_
   refine lm ?_
   refine liNil (qThen ?_)
   rw [show xs.take i ++ [x0] = xs.take (i + 1) from take_snoc hx0]
   rw [show without (xs.take i) its = without (xs.take (i + 1)) its from by rw [without_no hx0 (by simpa using hc27)]]
   exact stAgain (i + 1, N32, nc32) (by show _ ≤ _; omega) (by show xs.length - (i + 1) < xs.length - i; omega) ⟨rfl, rfl, rfl, rfl, rfl, rfl, rfl, rfl, trivial⟩ (fun w hM => hM)
 ·have hd19 := of_decide_eq_false hc19
  obtain rfl : i = xs.length := by omega
  rw [List.take_length]
  refine stExit (qThenX (qThenX (qBlockX (qThen (stSeq (stSeq (reg ?_)))))))
  refine lm ?_
  refine lv (v := (.agg #[(vS lo), (vS hi)])) (rLoadA [(vS lo), (vS hi)] rfl rfl (by kernel_rfl) (by kernel_rfl) (segAt (i := 4) rfl (by intro j v hj; first | (rw [Nat.zero_add]; exact hj) | (match j, hj with | 0, h => exact h | 1, h => exact h)))) ?_
  refine li rfl ?_
  refine opK0 (fun w hM => (rsWithin_any bs A c its fan leaf nm om lo hi w (r0.go0 hM) (by assumption) (by assumption) (by assumption)).mono ?_)
  rintro e w' ⟨B37, cb37, rfl, hP, hsub37⟩
  refine ⟨_, _, rfl, hP, ?_⟩; clear hP hM
  have rs37 := Ro.imp (Ψ := fun w => RowIn w B37 (SS (inL its lo hi))) rb hsub37
  have hl2 := List.length_filter_le (inR lo hi) its; change (inL its lo hi).length ≤ its.length at hl2
  refine lc (vI ((inL its lo hi).length)) ?_
  refine lm ?_
  refine liNil (qThen (stBlock ?_))
  refine stLoop (ι := Nat × Option Addr × Nat) (fun (i, N51, nc51) => i ≤ (inL its lo hi).length) (fun (i, N51, nc51) => (inL its lo hi).length - i) (fun (i, N51, nc51) => [(3, (vP bo 0)), (5, (vP b5 0)), (8, (.map (some m14))), (9, (vP b9 0)), (37, (vL B37 (inL its lo hi) cb37)), (38, (vI ((inL its lo hi).length))), (39, (vI i))]) (fun (i, N51, nc51) => [cAt bo 85 [(vL R (ps) rc), (vL N (nl) nc), (vL O (ol) oc)], cP R (ps) rc, cS N (nl) nc, cS O (ol) oc, cAt b5 69 [(vS lo), (vS hi)], cAt b6 89 [(vL A1 xs c1)], cSet m14 (xs), cAt b9 92 [(vL N51 (without ((inL its lo hi).take i) xs) nc51), (vL N32 (without xs its) nc32)], cS N51 (without ((inL its lo hi).take i) xs) nc51, cS N32 (without xs its) nc32]) (0, none, 0) (Nat.zero_le _) ⟨rfl, rfl, rfl, rfl, rfl, rfl, rfl, trivial⟩ (fun w hM => by show Mm _ _ [cAt bo 85 [(vL R (ps) rc), (vL N (nl) nc), (vL O (ol) oc)], cP R (ps) rc, cS N (nl) nc, cS O (ol) oc, cAt b5 69 [(vS lo), (vS hi)], cAt b6 89 [(vL A1 xs c1)], cSet m14 (xs), cAt b9 92 [(vL none (without ((inL its lo hi).take 0) xs) 0), (vL N32 (without xs its) nc32)], cS none (without ((inL its lo hi).take 0) xs) 0, cS N32 (without xs its) nc32] w; exact hM) ?_
  rintro ⟨i, N51, nc51⟩ (hok : i ≤ (inL its lo hi).length)
  show St _ _ _ [(3, (vP bo 0)), (5, (vP b5 0)), (8, (.map (some m14))), (9, (vP b9 0)), (37, (vL B37 (inL its lo hi) cb37)), (38, (vI ((inL its lo hi).length))), (39, (vI i))] [cAt bo 85 [(vL R (ps) rc), (vL N (nl) nc), (vL O (ol) oc)], cP R (ps) rc, cS N (nl) nc, cS O (ol) oc, cAt b5 69 [(vS lo), (vS hi)], cAt b6 89 [(vL A1 xs c1)], cSet m14 (xs), cAt b9 92 [(vL N51 (without ((inL its lo hi).take i) xs) nc51), (vL N32 (without xs its) nc32)], cS N51 (without ((inL its lo hi).take i) xs) nc51, cS N32 (without xs its) nc32] _
  refine stSeq (reg ?_)
  refine lc (.bool (decide (((i : Nat) : Int) < (((inL its lo hi).length : Nat) : Int)))) ?_
  refine liNil (qThen (stSeq ?_))
  refine stCond rfl (fun hc40 => ?_) (fun hc40 => ?_)
  ·have hd40 := of_decide_eq_true hc40
   refine stSkip (qThen (stSeq (stBlock (stSeq (reg ?_)))))
   obtain ⟨x0, hx0⟩ : ∃ ξ, (inL its lo hi)[i]? = some ξ := ⟨_, List.getElem?_eq_getElem (by omega)⟩
   refine St.rowPtr (fun w hM => rs37.now hM) (SS_at hx0) (fun p41 q41 hA41 hc41 => ?_)
   refine lv (v := (vP p41 (q41 + i))) (rIndexRow (e := 9) rfl (by kernel_rfl) (by kernel_rfl) rfl rfl hA41 (by omega)) ?_
   refine lv (v := (vS x0)) (rLoadW rfl rfl (by kernel_rfl) hc41) ?_
   refine la ?_
   refine liNil (qThen (stSeq (reg ?_)))
   refine lm ?_
   refine lm ?_
   refine lv (v := (.bool (xs.contains x0))) (rSetGet 6 rfl rfl rfl rfl (by have := (hs.1 _ (List.mem_filter.1 (List.mem_of_getElem? hx0)).1); omega)) ?_
   refine lc (.bool (!(xs.contains x0))) ?_
   refine liNil (qThen ?_)
   refine stCond rfl (fun hc46 => ?_) (fun hc46 => ?_)
   ·refine reg ?_
    refine lc (vP b9 0) ?_
    refine lv (v := (vL N51 (without ((inL its lo hi).take i) xs) nc51)) (rLoad 7 rfl rfl (by kernel_rfl) rfl rfl) ?_
    refine lm ?_
    refine li rfl ?_
    refine opNew (v := fun b => .slice (some ⟨b, 0, none⟩) 1 1) 9 [(vS x0)] rfl (by kernel_rfl) (fun _ => by kernel_rfl) (fun b50 => ?_)
    refine li rfl ?_
    refine opAppend el_strC 8 ([(vS x0)]) rfl rfl (by kernel_rfl) rfl rfl rfl (rfl) (srcAt (i := 10) rfl (fun j v h => by rw [Nat.zero_add]; exact h)) (by simp [Value.oneCell']) (by have h := without_len ((inL its lo hi).take i) xs; simp only [List.length_take] at h; omega) ((without ((inL its lo hi).take i) xs ++ [x0]).length) (by first | exact (List.length_append ..).symm | (simp; done) | (simp; omega)) (SS (without ((inL its lo hi).take i) xs ++ [x0])) (by simp [SS]) (fun A51 c51 => ?_)
    refine lc (vP b9 0) ?_
    refine li rfl ?_
    refine opStore1 7 rfl rfl (by kernel_rfl) rfl rfl rfl (by kernel_rfl) rfl (by simp) ?_
    refine liNil (qBlock (qThen (reg ?_)))
    refine lv (v := (vI (i + 1))) (rAdd _ rfl rfl rfl (by omega) (by omega) (by omega)) ?_
    refine lm ?_
    refine liNil (qThen ?_)
    rw [show without ((inL its lo hi).take i) xs ++ [x0] = without ((inL its lo hi).take (i + 1)) xs from by rw [without_yes hx0 (by simpa using hc46)]]
    exact stAgain (i + 1, A51, c51) (by show _ ≤ _; omega) (by show (inL its lo hi).length - (i + 1) < (inL its lo hi).length - i; omega) ⟨rfl, rfl, rfl, rfl, rfl, rfl, rfl, trivial⟩ (fun w hM => (hM.pick [0, 1, 2, 3, 4, 5, 6, 7, 8, 9] rfl rfl))
   ·refine stSkip (qBlock (qThen (reg ?_)))
    refine lv (v := (vI (i + 1))) (rAdd _ rfl rfl rfl (by omega) (by omega) (by omega)) ?_
    refine lm ?_
    refine liNil (qThen ?_)
    rw [show without ((inL its lo hi).take i) xs = without ((inL its lo hi).take (i + 1)) xs from by rw [without_no hx0 (by simpa using hc46)]]
    exact stAgain (i + 1, N51, nc51) (by show _ ≤ _; omega) (by show (inL its lo hi).length - (i + 1) < (inL its lo hi).length - i; omega) ⟨rfl, rfl, rfl, rfl, rfl, rfl, rfl, trivial⟩ (fun w hM => hM)
  ·have hd40 := of_decide_eq_false hc40
   obtain rfl : i = (inL its lo hi).length := by omega
   rw [List.take_length]
   refine stExit (qThenX (qThenX (qBlockX (qThen (stSeq ?_)))))
   have hw1 := without_len xs its; have hw2 := without_len (inL its lo hi) xs
   refine anyBegin [cAt bo 85 [(vL R (ps) rc), (vL N (nl) nc), (vL O (ol) oc)], cP R (ps) rc, cS O (ol) oc, cAt b5 69 [(vS lo), (vS hi)], cAt b6 89 [(vL A1 xs c1)], cSet m14 (xs), cAt b9 92 [(vL N51 (without (inL its lo hi) xs) nc51), (vL N32 (without xs its) nc32)], cS N51 (without (inL its lo hi) xs) nc51, cS N32 (without xs its) nc32] 10 (by kernel_rfl) (fun _ h => h.pick [0, 1, 3, 4, 5, 6, 7, 8, 9] rfl rfl) ?_
   refine am 0 ?_
   refine am 1 ?_
   refine ac 2 (vP bo 0) ?_
   refine ac 3 (vP bo 1) ?_
   refine av 4 (vL N (nl) nc) rfl (rLoad 0 rfl rfl (by kernel_rfl) rfl rfl) ?_
   refine ac 5 (vP b9 1) ?_
   refine av 6 (vL N32 (without xs its) nc32) rfl (rLoad 6 rfl rfl (by kernel_rfl) rfl rfl) ?_
   refine a1 7 ?_
   refine opAppend el_strC 2 (SS (without xs its)) rfl rfl (by kernel_rfl) rfl rfl rfl (by simp) (fun w hM => CellsAt.of_row (rowOwn (i := 9) rfl w hM)) (SS_one) (by omega) ((nl ++ (without xs its)).length) (by first | exact (List.length_append ..).symm | (simp; done) | (simp; omega)) (SS (nl ++ (without xs its))) (by simp [SS]) (fun A61 c61 => ?_)
   refine St.to [cAt bo 85 [(vL R (ps) rc), (vL N (nl) nc), (vL O (ol) oc)], cP R (ps) rc, cS A61 (nl ++ (without xs its)) c61, cS O (ol) oc, cAt b5 69 [(vS lo), (vS hi)], cAt b6 89 [(vL A1 xs c1)], cSet m14 (xs), cAt b9 92 [(vL N51 (without (inL its lo hi) xs) nc51), (vL N32 (without xs its) nc32)], cS N51 (without (inL its lo hi) xs) nc51, cS N32 (without xs its) nc32] (by kernel_rfl) ?_
   refine anyNext [cAt bo 85 [(vL R (ps) rc), (vL N (nl) nc), (vL O (ol) oc)], cP R (ps) rc, cS O (ol) oc, cAt b5 69 [(vS lo), (vS hi)], cAt b6 89 [(vL A1 xs c1)], cSet m14 (xs), cAt b9 92 [(vL N51 (without (inL its lo hi) xs) nc51), (vL N32 (without xs its) nc32)], cS N51 (without (inL its lo hi) xs) nc51, cS N32 (without xs its) nc32] (fun _ h => h) (fun _ h => h.pick [0, 1, 3, 4, 5, 6, 7, 8, 9] rfl rfl) ?_
   refine ac 8 (vP bo 0) ?_
   refine ac 9 (vP bo 1) ?_
   refine a1 10 ?_
   refine opStore1 0 rfl rfl (by kernel_rfl) rfl rfl rfl (by kernel_rfl) rfl (by simp) ?_
   refine anyLast (by kernel_rfl) rfl ?_
   refine qThen (stSeq ?_)
   refine anyBegin [cAt bo 85 [(vL R (ps) rc), (vL A61 (nl ++ (without xs its)) c61), (vL O (ol) oc)], cP R (ps) rc, cS A61 (nl ++ (without xs its)) c61, cAt b5 69 [(vS lo), (vS hi)], cAt b6 89 [(vL A1 xs c1)], cSet m14 (xs), cAt b9 92 [(vL N51 (without (inL its lo hi) xs) nc51), (vL N32 (without xs its) nc32)], cS N51 (without (inL its lo hi) xs) nc51, cS N32 (without xs its) nc32] 10 (by kernel_rfl) (fun _ h => h.pick [0, 1, 2, 4, 5, 6, 7, 8, 9] rfl rfl) ?_
   refine am 0 ?_
   refine am 1 ?_
   refine ac 2 (vP bo 0) ?_
   refine ac 3 (vP bo 2) ?_
   refine av 4 (vL O (ol) oc) rfl (rLoad 0 rfl rfl (by kernel_rfl) rfl rfl) ?_
   refine ac 5 (vP b9 0) ?_
   refine av 6 (vL N51 (without (inL its lo hi) xs) nc51) rfl (rLoad 6 rfl rfl (by kernel_rfl) rfl rfl) ?_
   refine a1 7 ?_
   refine opAppend el_strC 3 (SS (without (inL its lo hi) xs)) rfl rfl (by kernel_rfl) rfl rfl rfl (by simp) (fun w hM => CellsAt.of_row (rowOwn (i := 8) rfl w hM)) (SS_one) (by omega) ((ol ++ (without (inL its lo hi) xs)).length) (by first | exact (List.length_append ..).symm | (simp; done) | (simp; omega)) (SS (ol ++ (without (inL its lo hi) xs))) (by simp [SS]) (fun A71 c71 => ?_)
   refine anyNext [cAt bo 85 [(vL R (ps) rc), (vL A61 (nl ++ (without xs its)) c61), (vL O (ol) oc)], cP R (ps) rc, cS A61 (nl ++ (without xs its)) c61, cAt b5 69 [(vS lo), (vS hi)], cAt b6 89 [(vL A1 xs c1)], cSet m14 (xs), cAt b9 92 [(vL N51 (without (inL its lo hi) xs) nc51), (vL N32 (without xs its) nc32)], cS N51 (without (inL its lo hi) xs) nc51, cS N32 (without xs its) nc32] (fun _ h => h) (fun _ h => h.pick [0, 1, 2, 4, 5, 6, 7, 8, 9] rfl rfl) ?_
   refine ac 8 (vP bo 0) ?_
   refine ac 9 (vP bo 2) ?_
   refine a1 10 ?_
   refine opStore1 0 rfl rfl (by kernel_rfl) rfl rfl rfl (by kernel_rfl) rfl (by simp) ?_
   refine anyLast (by kernel_rfl) rfl ?_
   refine qThen (stSeq ?_)
   refine St.to [cAt bo 85 [(vL R (ps) rc), (vL A61 (nl ++ (without xs its)) c61), (vL A71 (ol ++ (without (inL its lo hi) xs)) c71)], cP R (ps) rc, cS A61 (nl ++ (without xs its)) c61, cS A71 (ol ++ (without (inL its lo hi) xs)) c71, cAt b5 69 [(vS lo), (vS hi)], cAt b6 89 [(vL A1 xs c1)], cSet m14 (xs), cAt b9 92 [(vL N51 (without (inL its lo hi) xs) nc51), (vL N32 (without xs its) nc32)], cS N51 (without (inL its lo hi) xs) nc51, cS N32 (without xs its) nc32] (by kernel_rfl) ?_
   refine reg ?_
   refine lc (vP b9 0) ?_
   refine lv (v := (vL N51 (without (inL its lo hi) xs) nc51)) (rLoad 7 rfl rfl (by kernel_rfl) rfl rfl) ?_
   refine lc (vI ((without (inL its lo hi) xs).length)) ?_
   refine lc (vP b9 1) ?_
   refine lv (v := (vL N32 (without xs its) nc32)) (rLoad 7 rfl rfl (by kernel_rfl) rfl rfl) ?_
   refine lc (vI ((without xs its).length)) ?_
   refine lv (v := (vI ((without (inL its lo hi) xs).length + (without xs its).length))) (rAdd _ rfl rfl rfl (by omega) (by omega) (by omega)) ?_
   refine lc (.bool (decide ((((without (inL its lo hi) xs).length + (without xs its).length : Nat) : Int) > 0))) ?_
   refine liNil (qThen ?_)
   refine stCond rfl (fun hc81 => ?_) (fun hc81 => ?_)
   ·have hd81 := of_decide_eq_true hc81
    refine anyBegin [cAt bo 85 [(vL R (ps) rc), (vL A61 (nl ++ (without xs its)) c61), (vL A71 (ol ++ (without (inL its lo hi) xs)) c71)], cS A61 (nl ++ (without xs its)) c61, cS A71 (ol ++ (without (inL its lo hi) xs)) c71, cAt b5 69 [(vS lo), (vS hi)], cAt b6 89 [(vL A1 xs c1)], cSet m14 (xs), cAt b9 92 [(vL N51 (without (inL its lo hi) xs) nc51), (vL N32 (without xs its) nc32)], cS N51 (without (inL its lo hi) xs) nc51, cS N32 (without xs its) nc32] 13 (by kernel_rfl) (fun _ h => h.pick [0, 2, 3, 4, 5, 6, 7, 8, 9] rfl rfl) ?_
    refine am 0 ?_
    refine am 1 ?_
    refine ac 2 (vP bo 0) ?_
    refine ac 3 (vP bo 0) ?_
    refine av 4 (vL R (ps) rc) rfl (rLoad 0 rfl rfl (by kernel_rfl) rfl rfl) ?_
    refine av 5 (.agg #[(vS lo), (vS hi)]) rfl (rLoadA [(vS lo), (vS hi)] rfl rfl (by kernel_rfl) (by kernel_rfl) (segAt (i := 3) rfl (by intro j v hj; first | (rw [Nat.zero_add]; exact hj) | (match j, hj with | 0, h => exact h | 1, h => exact h)))) ?_
    refine av 6 (.agg #[(vL N51 (without (inL its lo hi) xs) nc51), (vL N32 (without xs its) nc32)]) rfl (rLoadA [(vL N51 (without (inL its lo hi) xs) nc51), (vL N32 (without xs its) nc32)] rfl rfl (by kernel_rfl) (by kernel_rfl) (segAt (i := 6) rfl (by intro j v hj; first | (rw [Nat.zero_add]; exact hj) | (match j, hj with | 0, h => exact h | 1, h => exact h)))) ?_
    refine ac 7 (.iface 92 (.agg #[(vL N51 (without (inL its lo hi) xs) nc51), (vL N32 (without xs its) nc32)])) ?_
    refine ac 8 (.agg #[(vS lo), (vS hi), (.iface 92 (.agg #[(vL N51 (without (inL its lo hi) xs) nc51), (vL N32 (without xs its) nc32)]))]) ?_
    refine a1 9 ?_
    refine opNew (v := fun b => .slice (some ⟨b, 0, none⟩) 1 1) 76 [(vS lo), (vS hi), (.iface 92 (.agg #[(vL N51 (without (inL its lo hi) xs) nc51), (vL N32 (without xs its) nc32)]))] rfl (by kernel_rfl) (fun _ => by kernel_rfl) (fun b91 => ?_)
    refine anyNext [cAt bo 85 [(vL R (ps) rc), (vL A61 (nl ++ (without xs its)) c61), (vL A71 (ol ++ (without (inL its lo hi) xs)) c71)], cS A61 (nl ++ (without xs its)) c61, cS A71 (ol ++ (without (inL its lo hi) xs)) c71, cAt b5 69 [(vS lo), (vS hi)], cAt b6 89 [(vL A1 xs c1)], cSet m14 (xs), cAt b9 92 [(vL N51 (without (inL its lo hi) xs) nc51), (vL N32 (without xs its) nc32)], cS N51 (without (inL its lo hi) xs) nc51, cS N32 (without xs its) nc32, cAt b91 76 [(vS lo), (vS hi), (.iface 92 (.agg #[(vL N51 (without (inL its lo hi) xs) nc51), (vL N32 (without xs its) nc32)]))]] (fun _ h => h.pick [0, 1, 2, 3, 4, 5, 6, 7, 8] rfl rfl) (fun _ h => h.pick [0, 2, 3, 4, 5, 6, 7, 8, 9, 10] rfl rfl) ?_
    refine a1 10 ?_
    refine opAppend el_part 1 ([(vS lo), (vS hi), (.iface 92 (.agg #[(vL N51 (without (inL its lo hi) xs) nc51), (vL N32 (without xs its) nc32)]))]) rfl rfl (by kernel_rfl) rfl rfl rfl (rfl) (srcAt (i := 10) rfl (fun j v h => by rw [Nat.zero_add]; exact h)) (by intro u hu; exact PS_one (ps := [PV.mk lo hi (.ans N51 nc51 (without (inL its lo hi) xs) N32 nc32 (without xs its))]) u hu) (by omega) ((ps ++ [PV.mk lo hi (.ans N51 nc51 (without (inL its lo hi) xs) N32 nc32 (without xs its))]).length) (by first | exact (List.length_append ..).symm | (simp; done) | (simp; omega)) (PS (ps ++ [PV.mk lo hi (.ans N51 nc51 (without (inL its lo hi) xs) N32 nc32 (without xs its))])) ((PS_append _ ([PV.mk lo hi (.ans N51 nc51 (without (inL its lo hi) xs) N32 nc32 (without xs its))])).symm) (fun A92 c92 => ?_)
    refine anyNext [cAt bo 85 [(vL R (ps) rc), (vL A61 (nl ++ (without xs its)) c61), (vL A71 (ol ++ (without (inL its lo hi) xs)) c71)], cS A61 (nl ++ (without xs its)) c61, cS A71 (ol ++ (without (inL its lo hi) xs)) c71, cAt b5 69 [(vS lo), (vS hi)], cAt b6 89 [(vL A1 xs c1)], cSet m14 (xs), cAt b9 92 [(vL N51 (without (inL its lo hi) xs) nc51), (vL N32 (without xs its) nc32)], cS N51 (without (inL its lo hi) xs) nc51, cS N32 (without xs its) nc32, cAt b91 76 [(vS lo), (vS hi), (.iface 92 (.agg #[(vL N51 (without (inL its lo hi) xs) nc51), (vL N32 (without xs its) nc32)]))]] (fun _ h => h) (fun _ h => h.pick [0, 2, 3, 4, 5, 6, 7, 8, 9, 10] rfl rfl) ?_
    refine ac 11 (vP bo 0) ?_
    refine ac 12 (vP bo 0) ?_
    refine a1 13 ?_
    refine opStore1 0 rfl rfl (by kernel_rfl) rfl rfl rfl (by kernel_rfl) rfl (by simp) ?_
    refine St.to [cAt bo 85 [(vL A92 (ps ++ [PV.mk lo hi (.ans N51 nc51 (without (inL its lo hi) xs) N32 nc32 (without xs its))]) c92), (vL A61 (nl ++ (without xs its)) c61), (vL A71 (ol ++ (without (inL its lo hi) xs)) c71)], cP A92 (ps ++ [PV.mk lo hi (.ans N51 nc51 (without (inL its lo hi) xs) N32 nc32 (without xs its))]) c92, cS A61 (nl ++ (without xs its)) c61, cS A71 (ol ++ (without (inL its lo hi) xs)) c71, cAt b5 69 [(vS lo), (vS hi)], cAt b6 89 [(vL A1 xs c1)], cSet m14 (xs), cAt b9 92 [(vL N51 (without (inL its lo hi) xs) nc51), (vL N32 (without xs its) nc32)], cS N51 (without (inL its lo hi) xs) nc51, cS N32 (without xs its) nc32, cAt b91 76 [(vS lo), (vS hi), (.iface 92 (.agg #[(vL N51 (without (inL its lo hi) xs) nc51), (vL N32 (without xs its) nc32)]))]] (by kernel_rfl) ?_
    refine anyLast (by kernel_rfl) rfl ?_
    refine stEndN [] rfl trivial (fun w hM => ?_)
    replace hM : Mm _ _ [cAt bo 85 [(vL A92 (ps ++ [PV.mk lo hi (.ans N51 nc51 (without (inL its lo hi) xs) N32 nc32 (without xs its))]) c92), (vL A61 (nl ++ (without xs its)) c61), (vL A71 (ol ++ (without (inL its lo hi) xs)) c71)], cP A92 (ps ++ [PV.mk lo hi (.ans N51 nc51 (without (inL its lo hi) xs) N32 nc32 (without xs its))]) c92, cS A61 (nl ++ (without xs its)) c61, cS A71 (ol ++ (without (inL its lo hi) xs)) c71, cAt b5 69 [(vS lo), (vS hi)], cAt b6 89 [(vL A1 xs c1)], cSet m14 (xs), cAt b9 92 [(vL N51 (without (inL its lo hi) xs) nc51), (vL N32 (without xs its) nc32)], cBag ([(N51, without (inL its lo hi) xs)]), cS N32 (without xs its) nc32, cAt b91 76 [(vS lo), (vS hi), (.iface 92 (.agg #[(vL N51 (without (inL its lo hi) xs) nc51), (vL N32 (without xs its) nc32)]))]] w := hM.toBag 8 rfl
    replace hM : Mm _ _ [cAt bo 85 [(vL A92 (ps ++ [PV.mk lo hi (.ans N51 nc51 (without (inL its lo hi) xs) N32 nc32 (without xs its))]) c92), (vL A61 (nl ++ (without xs its)) c61), (vL A71 (ol ++ (without (inL its lo hi) xs)) c71)], cP A92 (ps ++ [PV.mk lo hi (.ans N51 nc51 (without (inL its lo hi) xs) N32 nc32 (without xs its))]) c92, cS A61 (nl ++ (without xs its)) c61, cS A71 (ol ++ (without (inL its lo hi) xs)) c71, cAt b5 69 [(vS lo), (vS hi)], cAt b6 89 [(vL A1 xs c1)], cSet m14 (xs), cAt b9 92 [(vL N51 (without (inL its lo hi) xs) nc51), (vL N32 (without xs its) nc32)], cBag ([(N51, without (inL its lo hi) xs)]), cBag ([(N32, without xs its)]), cAt b91 76 [(vS lo), (vS hi), (.iface 92 (.agg #[(vL N51 (without (inL its lo hi) xs) nc51), (vL N32 (without xs its) nc32)]))]] w := hM.toBag 9 rfl
    refine ⟨A92, c92, [PV.mk lo hi (.ans N51 nc51 (without (inL its lo hi) xs) N32 nc32 (without xs its))], A61, c61, A71, c71, [(N51, without (inL its lo hi) xs), (N32, without xs its)], rfl, Mm.join (cs := [_, _, _, _]) (L := [(N51, without (inL its lo hi) xs)]) (M := [(N32, without xs its)]) ?_, ?_, ?_⟩
    ·exact (hM.pick [0, 1, 2, 3, 8, 9] rfl rfl)
    ·rw [ansA, if_pos (by have := of_decide_eq_true hc81; omega)]; rfl
    ·intro p hp r hr; rw [List.mem_singleton.1 hp] at hr; exact .inl hr
   ·have hd81 := of_decide_eq_false hc81
    refine stSkip ?_
    refine stEndN [] rfl trivial (fun w hM => ?_)
    replace hM : Mm _ _ [cAt bo 85 [(vL R (ps) rc), (vL A61 (nl ++ (without xs its)) c61), (vL A71 (ol ++ (without (inL its lo hi) xs)) c71)], cP R (ps) rc, cS A61 (nl ++ (without xs its)) c61, cS A71 (ol ++ (without (inL its lo hi) xs)) c71, cAt b5 69 [(vS lo), (vS hi)], cAt b6 89 [(vL A1 xs c1)], cSet m14 (xs), cAt b9 92 [(vL N51 (without (inL its lo hi) xs) nc51), (vL N32 (without xs its) nc32)], cBag ([(N51, without (inL its lo hi) xs)]), cS N32 (without xs its) nc32] w := hM.toBag 8 rfl
    replace hM : Mm _ _ [cAt bo 85 [(vL R (ps) rc), (vL A61 (nl ++ (without xs its)) c61), (vL A71 (ol ++ (without (inL its lo hi) xs)) c71)], cP R (ps) rc, cS A61 (nl ++ (without xs its)) c61, cS A71 (ol ++ (without (inL its lo hi) xs)) c71, cAt b5 69 [(vS lo), (vS hi)], cAt b6 89 [(vL A1 xs c1)], cSet m14 (xs), cAt b9 92 [(vL N51 (without (inL its lo hi) xs) nc51), (vL N32 (without xs its) nc32)], cBag ([(N51, without (inL its lo hi) xs)]), cBag ([(N32, without xs its)])] w := hM.toBag 9 rfl
    refine ⟨R, rc, [], A61, c61, A71, c71, [(N51, without (inL its lo hi) xs), (N32, without xs its)], rfl, Mm.join (cs := [_, _, _, _]) (L := [(N51, without (inL its lo hi) xs)]) (M := [(N32, without xs its)]) ?_, ?_, ?_⟩
    ·rw [List.append_nil]; exact (hM.pick [0, 1, 2, 3, 8, 9] rfl rfl)
    ·rw [ansA, if_neg (by have := of_decide_eq_false hc81; omega)]; rfl
    ·exact SrcOk.nil
end Go.Proofs.YtlepfnihpdhcaaaGreatDoor
namespace Go.Proofs.YtlepfnihpdhcaaaGreatDoor
open Go.RowKit
theorem rsWItems_any (bw : Nat) (A : Option Addr) (c : Nat) (xs : List UInt8) (A1 : Option Addr) (c1 : Nat) (l : List (List UInt8)) (w : World) (hO : Own [cAt bw 138 [(vL A (xs) c), (.int .i64 0)], cB A (xs) c] w) (r0 : Rf [cAt bw 138 [(vL A (xs) c), (.int .i64 0)], cB A (xs) c] w (fun w => RowIn w A1 (SS l))) (hl : l.length ≤ 16384) (h32 : ∀ x ∈ l, x.length = 32) (hx : xs.length ≤ 4294400000) :
  Calls Tryz.prog 151 #[(vP bw 0), (vL A1 l c1)] w fun e w' => ∃ (A2 : Option Addr) (c2 : Nat), e = .returned (.tuple #[]) ∧ Back [cAt bw 138 [(vL A (xs) c), (.int .i64 0)], cB A (xs) c] w [cAt bw 138 [(vL A2 (xs ++ (num l.length ++ l.flatten)) c2), (.int .i64 0)], cB A2 (xs ++ (num l.length ++ l.flatten)) c2] w' := by
 refine stEnter (args := [(vP bw 0), (vL A1 l c1)]) (fps [cAt bw 138 [(vL A (xs) c), (.int .i64 0)], cB A (xs) c]) Tryz.func151 rfl 20 rfl [(0, (vP bw 0)), (1, (vL A1 l c1))] ⟨rfl, rfl, trivial⟩ [cAt bw 138 [(vL A (xs) c), (.int .i64 0)], cB A (xs) c] (hO) ?_
 refine stSeq (reg ?_)
 refine lm ?_
 refine lm ?_
 refine lc (vI l.length) ?_
 refine li rfl ?_
 refine opK [0, 1] [cAt bw 138 [(vL A (xs) c), (.int .i64 0)], cB A (xs) c] (fun w hM hO => (rsWCount_any bw A c xs l.length w hO (by omega) (by omega)).mono ?_)
 rintro e w' ⟨A29, c29, rfl, hP⟩
 refine ⟨_, [cAt bw 138 [(vL A29 (xs ++ num l.length) c29), (.int .i64 0)], cB A29 (xs ++ num l.length) c29], _, rfl, hP, rfl, ?_⟩; clear hP hM hO
 refine liNil (qThen (stSeq (reg ?_)))
 refine lm ?_
 refine lc (vI l.length) ?_
 refine lm ?_
 refine liNil (qThen (stBlock ?_))
 refine stLoop (ι := Nat × Option Addr × Nat) (fun (i, AX, cX) => i ≤ l.length) (fun (i, AX, cX) => l.length - i) (fun (i, AX, cX) => [(0, (vP bw 0)), (10, (vL A1 l c1)), (11, (vI l.length)), (12, (vI i))]) (fun (i, AX, cX) => [cAt bw 138 [(vL AX (xs ++ num l.length ++ (l.take i).flatten) cX), (.int .i64 0)], cB AX (xs ++ num l.length ++ (l.take i).flatten) cX]) (0, A29, c29) (Nat.zero_le _) ⟨rfl, rfl, rfl, rfl, trivial⟩ (fun w hM => by show Mm _ _ [cAt bw 138 [(vL A29 (xs ++ num l.length ++ (l.take 0).flatten) c29), (.int .i64 0)], cB A29 (xs ++ num l.length ++ (l.take 0).flatten) c29] w; rw [show xs ++ num l.length ++ (l.take 0).flatten = xs ++ num l.length from List.append_nil _]; exact hM) ?_
 rintro ⟨i, AX, cX⟩ (hok : i ≤ l.length)
 show St _ _ _ [(0, (vP bw 0)), (10, (vL A1 l c1)), (11, (vI l.length)), (12, (vI i))] [cAt bw 138 [(vL AX (xs ++ num l.length ++ (l.take i).flatten) cX), (.int .i64 0)], cB AX (xs ++ num l.length ++ (l.take i).flatten) cX] _
 refine stSeq (reg ?_)
 refine lc (.bool (decide (((i : Nat) : Int) < ((l.length : Nat) : Int)))) ?_
 refine liNil (qThen (stSeq ?_))
 refine stCond rfl (fun hc13 => ?_) (fun hc13 => ?_)
 ·have hd13 := of_decide_eq_true hc13
  have hfl := flat32 (l.take i) (fun x hx => h32 x (List.mem_of_mem_take hx)); rw [List.length_take] at hfl; have hnl := num_length l.length (by omega)
  refine stSkip (qThen (stSeq (stBlock (stSeq (reg ?_)))))
  obtain ⟨x0, hx0⟩ : ∃ ξ, (l)[i]? = some ξ := ⟨_, List.getElem?_eq_getElem (by omega)⟩
  refine St.rowPtr (fun w hM => r0.now hM) (SS_at hx0) (fun p14 q14 hA14 hc14 => ?_)
  refine lv (v := (vP p14 (q14 + i))) (rIndexRow (e := 9) rfl (by kernel_rfl) (by kernel_rfl) rfl rfl hA14 (by omega)) ?_
  refine lv (v := (vS x0)) (rLoadW rfl rfl (by kernel_rfl) hc14) ?_
  refine la ?_
  refine liNil (qThen (reg ?_))
  refine lm ?_
  refine lm ?_
  refine li rfl ?_
  refine opK [0, 1] [cAt bw 138 [(vL AX (xs ++ num l.length ++ (l.take i).flatten) cX), (.int .i64 0)], cB AX (xs ++ num l.length ++ (l.take i).flatten) cX] (fun w hM hO => (rsWSum_any bw AX cX (xs ++ num l.length ++ (l.take i).flatten) x0 w hO (h32 _ (List.mem_of_getElem? hx0)) (by simp only [List.length_append]; omega)).mono ?_)
  rintro e w' ⟨A218, c218, rfl, hP⟩
  refine ⟨_, [cAt bw 138 [(vL A218 ((xs ++ num l.length ++ (l.take i).flatten) ++ x0) c218), (.int .i64 0)], cB A218 ((xs ++ num l.length ++ (l.take i).flatten) ++ x0) c218], _, rfl, hP, rfl, ?_⟩; clear hP hM hO
  refine liNil (qBlock (qThen (reg ?_)))
  refine lv (v := (vI (i + 1))) (rAdd _ rfl rfl rfl (by omega) (by omega) (by omega)) ?_
  refine lm ?_
  refine liNil (qThen ?_)
  rw [show (xs ++ num l.length ++ (l.take i).flatten) ++ x0 = xs ++ num l.length ++ (l.take (i + 1)).flatten from by rw [List.append_assoc, flatten_take hx0]]
  exact stAgain (i + 1, A218, c218) (by show _ ≤ _; omega) (by show l.length - (i + 1) < l.length - i; omega) ⟨rfl, rfl, rfl, rfl, trivial⟩ (fun w hM => hM)
 ·have hd13 := of_decide_eq_false hc13
  obtain rfl : i = l.length := by omega
  rw [List.take_length]
  refine stExit (qThenX (qThenX (qBlockX ?_)))
  refine stEndN [] rfl trivial (fun w hM => ?_)
  refine ⟨AX, cX, rfl, ?_⟩
  rw [← List.append_assoc]
  exact hM
theorem rsSWrite_any (bw : Nat) (A : Option Addr) (c : Nat) (xs : List UInt8) (n : Nat) (f : List UInt8) (w : World) (hO : Own [cAt bw 138 [(vL A (xs) c), (.int .i64 0)], cB A (xs) c] w) (hn : n ≤ 16384) (hf : f.length = 32) (hx : xs.length ≤ 4293800000) :
  Calls Tryz.prog 146 #[(.agg #[(vI n), (vS f)]), (vP bw 0)] w fun e w' => ∃ (A2 : Option Addr) (c2 : Nat), e = .returned (.tuple #[]) ∧ Back [cAt bw 138 [(vL A (xs) c), (.int .i64 0)], cB A (xs) c] w [cAt bw 138 [(vL A2 (xs ++ ((num 1 ++ num n) ++ f)) c2), (.int .i64 0)], cB A2 (xs ++ ((num 1 ++ num n) ++ f)) c2] w' := by
 refine stEnter (args := [(.agg #[(vI n), (vS f)]), (vP bw 0)]) (fps [cAt bw 138 [(vL A (xs) c), (.int .i64 0)], cB A (xs) c]) Tryz.func146 rfl 14 rfl [(0, (.agg #[(vI n), (vS f)])), (1, (vP bw 0))] ⟨rfl, rfl, trivial⟩ [cAt bw 138 [(vL A (xs) c), (.int .i64 0)], cB A (xs) c] (hO) ?_
 refine stSeq (reg (li rfl ?_))
 refine opBox [(vI n), (vS f)] rfl rfl (by kernel_rfl) rfl rfl (fun b2 => ?_)
 refine liNil (qThen (stSeq (reg ?_)))
 refine lm ?_
 refine li rfl ?_
 refine opK [0, 1] [cAt bw 138 [(vL A (xs) c), (.int .i64 0)], cB A (xs) c] (fun w hM hO => (rsWUint_any bw A c xs 1 w hO (by omega) (by omega)).mono ?_)
 rintro e w' ⟨A25, c25, rfl, hP⟩
 refine ⟨_, [cAt bw 138 [(vL A25 (xs ++ num 1) c25), (.int .i64 0)], cB A25 (xs ++ num 1) c25], _, rfl, hP, rfl, ?_⟩; clear hP hM hO
 have hn1 := num_length 1 (by omega); have hn2 := num_length n (by omega)
 refine liNil (qThen (stSeq (reg ?_)))
 refine lm ?_
 refine lc (vP b2 0) ?_
 refine lv (v := (vI n)) (rLoad 2 rfl rfl (by kernel_rfl) rfl rfl) ?_
 refine li rfl ?_
 refine opK [0, 1] [cAt bw 138 [(vL A25 (xs ++ num 1) c25), (.int .i64 0)], cB A25 (xs ++ num 1) c25] (fun w hM hO => (rsWCount_any bw A25 c25 (xs ++ num 1) n w hO (by omega) (by simp only [List.length_append]; omega)).mono ?_)
 rintro e w' ⟨A29, c29, rfl, hP⟩
 refine ⟨_, [cAt bw 138 [(vL A29 ((xs ++ num 1) ++ num n) c29), (.int .i64 0)], cB A29 ((xs ++ num 1) ++ num n) c29], _, rfl, hP, rfl, ?_⟩; clear hP hM hO
 refine liNil (qThen (reg ?_))
 refine lm ?_
 refine lc (vP b2 1) ?_
 refine lv (v := (vS f)) (rLoad 2 rfl rfl (by kernel_rfl) rfl rfl) ?_
 refine li rfl ?_
 refine opK [0, 1] [cAt bw 138 [(vL A29 ((xs ++ num 1) ++ num n) c29), (.int .i64 0)], cB A29 ((xs ++ num 1) ++ num n) c29] (fun w hM hO => (rsWSum_any bw A29 c29 ((xs ++ num 1) ++ num n) f w hO (by assumption) (by simp only [List.length_append]; omega)).mono ?_)
 rintro e w' ⟨A213, c213, rfl, hP⟩
 refine ⟨_, [cAt bw 138 [(vL A213 (((xs ++ num 1) ++ num n) ++ f) c213), (.int .i64 0)], cB A213 (((xs ++ num 1) ++ num n) ++ f) c213], _, rfl, hP, rfl, ?_⟩; clear hP hM hO
 refine liNil ?_
 refine stEndN [] rfl trivial (fun w hM => ?_)
 refine ⟨A213, c213, rfl, ?_⟩
 simp only [← List.append_assoc] at hM ⊢
 exact (hM.pick [0, 1] rfl rfl)
theorem rsLWrite_any (bw : Nat) (A : Option Addr) (c : Nat) (xs : List UInt8) (A1 : Option Addr) (c1 : Nat) (l : List (List UInt8)) (w : World) (hO : Own [cAt bw 138 [(vL A (xs) c), (.int .i64 0)], cB A (xs) c] w) (r0 : Rf [cAt bw 138 [(vL A (xs) c), (.int .i64 0)], cB A (xs) c] w (fun w => RowIn w A1 (SS l))) (hl : l.length ≤ 16384) (h32 : ∀ x ∈ l, x.length = 32) (hx : xs.length ≤ 4293800000) :
  Calls Tryz.prog 149 #[(.agg #[(vL A1 l c1)]), (vP bw 0)] w fun e w' => ∃ (A2 : Option Addr) (c2 : Nat), e = .returned (.tuple #[]) ∧ Back [cAt bw 138 [(vL A (xs) c), (.int .i64 0)], cB A (xs) c] w [cAt bw 138 [(vL A2 (xs ++ (num 2 ++ (num l.length ++ l.flatten))) c2), (.int .i64 0)], cB A2 (xs ++ (num 2 ++ (num l.length ++ l.flatten))) c2] w' := by
 refine stEnter (args := [(.agg #[(vL A1 l c1)]), (vP bw 0)]) (fps [cAt bw 138 [(vL A (xs) c), (.int .i64 0)], cB A (xs) c]) Tryz.func149 rfl 10 rfl [(0, (.agg #[(vL A1 l c1)])), (1, (vP bw 0))] ⟨rfl, rfl, trivial⟩ [cAt bw 138 [(vL A (xs) c), (.int .i64 0)], cB A (xs) c] (hO) ?_
 refine stSeq (reg (li rfl ?_))
 refine opBox [(vL A1 l c1)] rfl rfl (by kernel_rfl) rfl rfl (fun b2 => ?_)
 refine liNil (qThen (stSeq (reg ?_)))
 refine lm ?_
 refine li rfl ?_
 refine opK [0, 1] [cAt bw 138 [(vL A (xs) c), (.int .i64 0)], cB A (xs) c] (fun w hM hO => (rsWUint_any bw A c xs 2 w hO (by omega) (by omega)).mono ?_)
 rintro e w' ⟨A25, c25, rfl, hP⟩
 refine ⟨_, [cAt bw 138 [(vL A25 (xs ++ num 2) c25), (.int .i64 0)], cB A25 (xs ++ num 2) c25], _, rfl, hP, rfl, ?_⟩; clear hP hM hO
 have hn1 := num_length 2 (by omega)
 refine liNil (qThen (reg ?_))
 refine lm ?_
 refine lc (vP b2 0) ?_
 refine lv (v := (vL A1 l c1)) (rLoad 2 rfl rfl (by kernel_rfl) rfl rfl) ?_
 refine li rfl ?_
 refine opK [0, 1] [cAt bw 138 [(vL A25 (xs ++ num 2) c25), (.int .i64 0)], cB A25 (xs ++ num 2) c25] (fun w hM hO => (rsWItems_any bw A25 c25 (xs ++ num 2) A1 c1 l w hO (r0.goS hM [0, 1]) (by omega) (by assumption) (by simp only [List.length_append]; omega)).mono ?_)
 rintro e w' ⟨A29, c29, rfl, hP⟩
 refine ⟨_, [cAt bw 138 [(vL A29 ((xs ++ num 2) ++ (num l.length ++ l.flatten)) c29), (.int .i64 0)], cB A29 ((xs ++ num 2) ++ (num l.length ++ l.flatten)) c29], _, rfl, hP, rfl, ?_⟩; clear hP hM hO
 refine liNil ?_
 refine stEndN [] rfl trivial (fun w hM => ?_)
 refine ⟨A29, c29, rfl, ?_⟩
 simp only [← List.append_assoc] at hM ⊢
 exact (hM.pick [0, 1] rfl rfl)
theorem rsAWrite_any (bw : Nat) (A : Option Addr) (c : Nat) (xs : List UInt8) (A1 : Option Addr) (c1 : Nat) (l : List (List UInt8)) (A3 : Option Addr) (c3 : Nat) (m : List (List UInt8)) (w : World) (hO : Own [cAt bw 138 [(vL A (xs) c), (.int .i64 0)], cB A (xs) c] w) (r0 : Rf [cAt bw 138 [(vL A (xs) c), (.int .i64 0)], cB A (xs) c] w (fun w => RowIn w A1 (SS l))) (r1 : Rf [cAt bw 138 [(vL A (xs) c), (.int .i64 0)], cB A (xs) c] w (fun w => RowIn w A3 (SS m))) (hl : l.length ≤ 16384) (h32 : ∀ x ∈ l, x.length = 32) (hm : m.length ≤ 16384) (hm32 : ∀ x ∈ m, x.length = 32) (hx : xs.length ≤ 4293800000) :
  Calls Tryz.prog 154 #[(.agg #[(vL A1 l c1), (vL A3 m c3)]), (vP bw 0)] w fun e w' => ∃ (A2 : Option Addr) (c2 : Nat), e = .returned (.tuple #[]) ∧ Back [cAt bw 138 [(vL A (xs) c), (.int .i64 0)], cB A (xs) c] w [cAt bw 138 [(vL A2 (xs ++ ((num 3 ++ (num l.length ++ l.flatten)) ++ (num m.length ++ m.flatten))) c2), (.int .i64 0)], cB A2 (xs ++ ((num 3 ++ (num l.length ++ l.flatten)) ++ (num m.length ++ m.flatten))) c2] w' := by
 refine stEnter (args := [(.agg #[(vL A1 l c1), (vL A3 m c3)]), (vP bw 0)]) (fps [cAt bw 138 [(vL A (xs) c), (.int .i64 0)], cB A (xs) c]) Tryz.func154 rfl 14 rfl [(0, (.agg #[(vL A1 l c1), (vL A3 m c3)])), (1, (vP bw 0))] ⟨rfl, rfl, trivial⟩ [cAt bw 138 [(vL A (xs) c), (.int .i64 0)], cB A (xs) c] (hO) ?_
 refine stSeq (reg (li rfl ?_))
 refine opBox [(vL A1 l c1), (vL A3 m c3)] rfl rfl (by kernel_rfl) rfl rfl (fun b2 => ?_)
 refine liNil (qThen (stSeq (reg ?_)))
 refine lm ?_
 refine li rfl ?_
 refine opK [0, 1] [cAt bw 138 [(vL A (xs) c), (.int .i64 0)], cB A (xs) c] (fun w hM hO => (rsWUint_any bw A c xs 3 w hO (by omega) (by omega)).mono ?_)
 rintro e w' ⟨A25, c25, rfl, hP⟩
 refine ⟨_, [cAt bw 138 [(vL A25 (xs ++ num 3) c25), (.int .i64 0)], cB A25 (xs ++ num 3) c25], _, rfl, hP, rfl, ?_⟩; clear hP hM hO
 have hn1 := num_length 3 (by omega); have hn2 := num_length l.length (by omega); have hfl := flat32 l h32
 refine liNil (qThen (stSeq (reg ?_)))
 refine lm ?_
 refine lc (vP b2 0) ?_
 refine lv (v := (vL A1 l c1)) (rLoad 2 rfl rfl (by kernel_rfl) rfl rfl) ?_
 refine li rfl ?_
 refine opK [0, 1] [cAt bw 138 [(vL A25 (xs ++ num 3) c25), (.int .i64 0)], cB A25 (xs ++ num 3) c25] (fun w hM hO => (rsWItems_any bw A25 c25 (xs ++ num 3) A1 c1 l w hO (r0.goS hM [0, 1]) (by omega) (by assumption) (by simp only [List.length_append]; omega)).mono ?_)
 rintro e w' ⟨A29, c29, rfl, hP⟩
 refine ⟨_, [cAt bw 138 [(vL A29 ((xs ++ num 3) ++ (num l.length ++ l.flatten)) c29), (.int .i64 0)], cB A29 ((xs ++ num 3) ++ (num l.length ++ l.flatten)) c29], _, rfl, hP, rfl, ?_⟩; clear hP hM hO
 refine liNil (qThen (reg ?_))
 refine lm ?_
 refine lc (vP b2 1) ?_
 refine lv (v := (vL A3 m c3)) (rLoad 2 rfl rfl (by kernel_rfl) rfl rfl) ?_
 refine li rfl ?_
 refine opK [0, 1] [cAt bw 138 [(vL A29 ((xs ++ num 3) ++ (num l.length ++ l.flatten)) c29), (.int .i64 0)], cB A29 ((xs ++ num 3) ++ (num l.length ++ l.flatten)) c29] (fun w hM hO => (rsWItems_any bw A29 c29 ((xs ++ num 3) ++ (num l.length ++ l.flatten)) A3 c3 m w hO (r1.goS hM [0, 1]) (by omega) (by assumption) (by simp only [List.length_append]; omega)).mono ?_)
 rintro e w' ⟨A213, c213, rfl, hP⟩
 refine ⟨_, [cAt bw 138 [(vL A213 (((xs ++ num 3) ++ (num l.length ++ l.flatten)) ++ (num m.length ++ m.flatten)) c213), (.int .i64 0)], cB A213 (((xs ++ num 3) ++ (num l.length ++ l.flatten)) ++ (num m.length ++ m.flatten)) c213], _, rfl, hP, rfl, ?_⟩; clear hP hM hO
 refine liNil ?_
 refine stEndN [] rfl trivial (fun w hM => ?_)
 refine ⟨A213, c213, rfl, ?_⟩
 simp only [← List.append_assoc] at hM ⊢
 exact (hM.pick [0, 1] rfl rfl)
theorem rsPWrite_any (v : CV) (hfit : v.abs.fit) (bw : Nat) (A : Option Addr) (c : Nat) (xs : List UInt8) (w : World) (hO : Own [cAt bw 138 [(vL A (xs) c), (.int .i64 0)], cB A (xs) c] w) (r : Rf [cAt bw 138 [(vL A (xs) c), (.int .i64 0)], cB A (xs) c] w (fun w => ∀ q ∈ v.rows, RowIn w q.1 (SS q.2))) (hx : xs.length ≤ 4293800000) :
  Calls Tryz.prog v.wfn #[v.pay, .pointer (some ⟨bw, 0, none⟩)] w fun e w' => ∃ (A2 : Option Addr) (c2 : Nat), e = .returned (.tuple #[]) ∧ Back [cAt bw 138 [(vL A (xs) c), (.int .i64 0)], cB A (xs) c] w [cAt bw 138 [(vL A2 (xs ++ v.abs.enc) c2), (.int .i64 0)], cB A2 (xs ++ v.abs.enc) c2] w' := by
 cases v with
 | sum n f => exact rsSWrite_any bw A c xs n f w hO hfit.1 hfit.2 hx
 | list A1 c1 l => exact rsLWrite_any bw A c xs A1 c1 l w hO (r.imp fun _ h => h (A1, l) (by simp [CV.rows])) hfit.1 hfit.2 hx
 | ans A1 c1 l A3 c3 m => exact rsAWrite_any bw A c xs A1 c1 l A3 c3 m w hO (r.imp fun _ h => h (A1, l) (by simp [CV.rows])) (r.imp fun _ h => h (A3, m) (by simp [CV.rows])) hfit.1.1 hfit.1.2 hfit.2.1 hfit.2.2 hx
theorem rsEncode_nil (A1 : Option Addr) (c1 : Nat) (ps : List PV) (w : World) (h0 : ps.length = 0) :
  Calls Tryz.prog 37 #[(vL A1 ps c1)] w fun e w' => e = .returned (.tuple #[(.slice none 0 0), (.int .i64 0)]) ∧ Back [] w [] w' := by
 refine stEnter (args := [(vL A1 ps c1)]) (fps []) Tryz.func37 rfl 40 rfl [(0, (vL A1 ps c1))] ⟨rfl, trivial⟩ [] (Mm.start w []) ?_
 refine stSeq (reg ?_)
 refine la ?_
 refine la ?_
 refine liNil (qThen (stSeq (stSeq (reg ?_))))
 refine lm ?_
 refine lc (vI ps.length) ?_
 refine lc (.bool ((((ps.length : Nat) : Int) : Int) == 0)) ?_
 refine liNil (qThen ?_)
 refine stTrueK rfl (by simp [h0]) ?_
 refine stSeq (reg ?_)
 refine la ?_
 refine la ?_
 refine liNil (qThen (stRet (qThenR ?_)))
 refine stEnd [(.slice none 0 0), (.int .i64 0)] rfl ⟨rfl, rfl, trivial⟩ (fun w hM => ?_)
 exact ⟨rfl, hM⟩
theorem rsEncode_big (A1 : Option Addr) (c1 : Nat) (ps : List PV) (w : World) (r0 : Rf [] w (fun w => RowIn w A1 (PS ps))) (r1 : Rf [] w (PsOk ps)) (hfit : ∀ p ∈ ps.map PV.abs, p.fit) (hne : ps.length ≠ 0) (hsz : 1048576 < (encA (ps.map PV.abs)).length) (hsz2 : (encA (ps.map PV.abs)).length ≤ 4293800000) :
  Calls Tryz.prog 37 #[(vL A1 ps c1)] w fun e w' => e = .returned (.tuple #[(.slice none 0 0), (.int .i64 2)]) ∧ Back [] w [] w' := by
 refine stEnter (args := [(vL A1 ps c1)]) (fps []) Tryz.func37 rfl 40 rfl [(0, (vL A1 ps c1))] ⟨rfl, trivial⟩ [] (Mm.start w []) ?_
 refine stSeq (reg ?_)
 refine la ?_
 refine la ?_
 refine liNil (qThen (stSeq (stSeq (reg ?_))))
 refine lm ?_
 refine lc (vI ps.length) ?_
 refine lc (.bool ((((ps.length : Nat) : Int) : Int) == 0)) ?_
 refine liNil (qThen ?_)
 refine stFalseK rfl (by simpa using hne) ?_
 refine stSkip (qThen (stSeq (reg (li rfl ?_))))
 refine opK0 (fun w hM => (rsNewW_any  w ).mono ?_)
 rintro e w' ⟨bw10, rfl, hP⟩
 refine ⟨_, _, rfl, hP, ?_⟩; clear hP hM
 refine la ?_
 refine liNil (qThen (stSeq ?_))
 have henc : encA (ps.map PV.abs) = num ps.length ++ (ps.map PV.abs).flatMap AP.enc := by rw [encA, if_neg (by simpa using hne), List.length_map]
 have hel : (num ps.length).length + ((ps.map PV.abs).flatMap AP.enc).length ≤ 4293800000 := by have e := congrArg List.length henc; rw [List.length_append] at e; omega
 have hpl : ps.length ≤ ((ps.map PV.abs).flatMap AP.enc).length := by rw [← List.length_map (f := PV.abs)]; exact enc_ge _
 have hnb : noB.length = 0 := rfl
 refine St.mem (fun w hM => hM.nilOwn 5 1) ?_
 refine reg ?_
 refine lm ?_
 refine lm ?_
 refine lc (vI ps.length) ?_
 refine li rfl ?_
 refine opK [0, 1] [cAt bw10 138 [(vL none (noB) 0), (.int .i64 0)], cB none (noB) 0] (fun w hM hO => (rsWCount_any bw10 none 0 noB ps.length w hO (by omega) (by omega)).mono ?_)
 rintro e w' ⟨A214, c214, rfl, hP⟩
 refine ⟨_, [cAt bw10 138 [(vL A214 (noB ++ num ps.length) c214), (.int .i64 0)], cB A214 (noB ++ num ps.length) c214], _, rfl, hP, rfl, ?_⟩; clear hP hM hO
 refine liNil (qThen (stSeq (stSeq (reg ?_))))
 refine lm ?_
 refine lc (vI ps.length) ?_
 refine lm ?_
 refine liNil (qThen (stBlock ?_))
 refine stLoop (ι := Nat × Option Addr × Nat) (fun (i, AX, cX) => i ≤ ps.length) (fun (i, AX, cX) => ps.length - i) (fun (i, AX, cX) => [(2, (.slice none 0 0)), (3, (.int .i64 0)), (4, (vP bw10 0)), (15, (vL A1 ps c1)), (16, (vI ps.length)), (17, (vI i))]) (fun (i, AX, cX) => [cAt bw10 138 [(vL AX (noB ++ num ps.length ++ ((ps.map PV.abs).take i).flatMap AP.enc) cX), (.int .i64 0)], cB AX (noB ++ num ps.length ++ ((ps.map PV.abs).take i).flatMap AP.enc) cX]) (0, A214, c214) (Nat.zero_le _) ⟨rfl, rfl, rfl, rfl, rfl, rfl, trivial⟩ (fun w hM => by show Mm _ _ [cAt bw10 138 [(vL A214 (noB ++ num ps.length ++ ((ps.map PV.abs).take 0).flatMap AP.enc) c214), (.int .i64 0)], cB A214 (noB ++ num ps.length ++ ((ps.map PV.abs).take 0).flatMap AP.enc) c214] w; rw [show noB ++ num ps.length ++ ((ps.map PV.abs).take 0).flatMap AP.enc = noB ++ num ps.length from List.append_nil _]; exact hM) ?_
 rintro ⟨i, AX, cX⟩ (hok : i ≤ ps.length)
 show St _ _ _ [(2, (.slice none 0 0)), (3, (.int .i64 0)), (4, (vP bw10 0)), (15, (vL A1 ps c1)), (16, (vI ps.length)), (17, (vI i))] [cAt bw10 138 [(vL AX (noB ++ num ps.length ++ ((ps.map PV.abs).take i).flatMap AP.enc) cX), (.int .i64 0)], cB AX (noB ++ num ps.length ++ ((ps.map PV.abs).take i).flatMap AP.enc) cX] _
 refine stSeq (reg ?_)
 refine lc (.bool (decide (((i : Nat) : Int) < ((ps.length : Nat) : Int)))) ?_
 refine liNil (qThen (stSeq ?_))
 refine stCond rfl (fun hc18 => ?_) (fun hc18 => ?_)
 ·have hd18 := of_decide_eq_true hc18
  refine stSkip (qThen (stSeq (stBlock (stSeq (reg ?_)))))
  obtain ⟨x0, hx0⟩ : ∃ ξ, (ps)[i]? = some ξ := ⟨_, List.getElem?_eq_getElem (by omega)⟩
  refine St.partPtr (fun w hM => r0.now hM) hx0 (fun p19 q19 hA19 hc19 => ?_)
  refine lv (v := (vP p19 (q19 + i * 3))) (rIndexRow3 (e := 76) rfl (by kernel_rfl) (by kernel_rfl) rfl rfl hA19 (by omega)) ?_
  refine lv (v := (.agg #[(vS x0.lo), (vS x0.hi), x0.c.val])) (rLoadA [(vS x0.lo), (vS x0.hi), x0.c.val] rfl rfl (by kernel_rfl) (by kernel_rfl) (hc19)) ?_
  refine li rfl ?_
  refine opAlloc [(.string ⟨#[]⟩), (.string ⟨#[]⟩), .nilIface] rfl rfl (by kernel_rfl) (by kernel_rfl) (fun b6 => ?_)
  refine li rfl ?_
  refine opStoreN 2 [(vS x0.lo), (vS x0.hi), x0.c.val] (vs := [(vS x0.lo), (vS x0.hi), x0.c.val]) rfl rfl (by kernel_rfl) rfl rfl rfl (by kernel_rfl) rfl (by simp) (PV.one x0) rfl ?_
  refine liNil (qThen (stSeq ?_))
  have hf0 := hfit _ (List.mem_map_of_mem (List.mem_of_getElem? hx0))
  have hxa : (ps.map PV.abs)[i]? = some x0.abs := by rw [List.getElem?_map, hx0]; rfl
  have hle := enc_le hxa
  have hpe : x0.abs.enc.length = (num x0.lo.length).length + x0.lo.length + ((num x0.hi.length).length + x0.hi.length) + x0.c.abs.enc.length := by simp only [AP.enc, PV.abs, List.length_append]
  have hf1 : x0.lo.length ≤ 32 := hf0.1
  have hf2 : x0.hi.length ≤ 32 := hf0.2.1
  refine reg ?_
  refine lm ?_
  refine lc (vP b6 0) ?_
  refine lc (vP b6 0) ?_
  refine lv (v := (vS x0.lo)) (rLoad 2 rfl rfl (by kernel_rfl) rfl rfl) ?_
  refine li rfl ?_
  refine opK [0, 1] [cAt bw10 138 [(vL AX (noB ++ num ps.length ++ ((ps.map PV.abs).take i).flatMap AP.enc) cX), (.int .i64 0)], cB AX (noB ++ num ps.length ++ ((ps.map PV.abs).take i).flatMap AP.enc) cX] (fun w hM hO => (rsWText_any bw10 AX cX (noB ++ num ps.length ++ ((ps.map PV.abs).take i).flatMap AP.enc) x0.lo w hO (by omega) (by simp only [List.length_append]; omega)).mono ?_)
  rintro e w' ⟨A225, c225, rfl, hP⟩
  refine ⟨_, [cAt bw10 138 [(vL A225 ((noB ++ num ps.length ++ ((ps.map PV.abs).take i).flatMap AP.enc) ++ num x0.lo.length ++ x0.lo) c225), (.int .i64 0)], cB A225 ((noB ++ num ps.length ++ ((ps.map PV.abs).take i).flatMap AP.enc) ++ num x0.lo.length ++ x0.lo) c225], _, rfl, hP, rfl, ?_⟩; clear hP hM hO
  refine liNil (qThen (stSeq (reg ?_)))
  refine lm ?_
  refine lc (vP b6 0) ?_
  refine lc (vP b6 1) ?_
  refine lv (v := (vS x0.hi)) (rLoad 2 rfl rfl (by kernel_rfl) rfl rfl) ?_
  refine li rfl ?_
  refine opK [0, 1] [cAt bw10 138 [(vL A225 ((noB ++ num ps.length ++ ((ps.map PV.abs).take i).flatMap AP.enc) ++ num x0.lo.length ++ x0.lo) c225), (.int .i64 0)], cB A225 ((noB ++ num ps.length ++ ((ps.map PV.abs).take i).flatMap AP.enc) ++ num x0.lo.length ++ x0.lo) c225] (fun w hM hO => (rsWText_any bw10 A225 c225 ((noB ++ num ps.length ++ ((ps.map PV.abs).take i).flatMap AP.enc) ++ num x0.lo.length ++ x0.lo) x0.hi w hO (by omega) (by simp only [List.length_append]; omega)).mono ?_)
  rintro e w' ⟨A230, c230, rfl, hP⟩
  refine ⟨_, [cAt bw10 138 [(vL A230 (((noB ++ num ps.length ++ ((ps.map PV.abs).take i).flatMap AP.enc) ++ num x0.lo.length ++ x0.lo) ++ num x0.hi.length ++ x0.hi) c230), (.int .i64 0)], cB A230 (((noB ++ num ps.length ++ ((ps.map PV.abs).take i).flatMap AP.enc) ++ num x0.lo.length ++ x0.lo) ++ num x0.hi.length ++ x0.hi) c230], _, rfl, hP, rfl, ?_⟩; clear hP hM hO
  refine liNil (qThen ?_)
  refine St.to [cAt bw10 138 [(vL A230 (((noB ++ num ps.length ++ ((ps.map PV.abs).take i).flatMap AP.enc) ++ num x0.lo.length ++ x0.lo) ++ num x0.hi.length ++ x0.hi) c230), (.int .i64 0)], cB A230 (((noB ++ num ps.length ++ ((ps.map PV.abs).take i).flatMap AP.enc) ++ num x0.lo.length ++ x0.lo) ++ num x0.hi.length ++ x0.hi) c230, cAt b6 76 [(vS x0.lo), (vS x0.hi), x0.c.val]] (by kernel_rfl) ?_
  refine reg ?_
  refine lc (vP b6 2) ?_
  refine lv (v := x0.c.val) (rLoad 2 rfl rfl (by kernel_rfl) rfl rfl) ?_
  refine lm ?_
  refine li rfl ?_
  refine opK [0, 1] [cAt bw10 138 [(vL A230 (((noB ++ num ps.length ++ ((ps.map PV.abs).take i).flatMap AP.enc) ++ num x0.lo.length ++ x0.lo) ++ num x0.hi.length ++ x0.hi) c230), (.int .i64 0)], cB A230 (((noB ++ num ps.length ++ ((ps.map PV.abs).take i).flatMap AP.enc) ++ num x0.lo.length ++ x0.lo) ++ num x0.hi.length ++ x0.hi) c230] (fun w hM hO => (rsPWrite_any x0.c hf0.2.2 bw10 A230 c230 (((noB ++ num ps.length ++ ((ps.map PV.abs).take i).flatMap AP.enc) ++ num x0.lo.length ++ x0.lo) ++ num x0.hi.length ++ x0.hi) w hO ((r1.goS hM [0, 1]).imp fun _ h => h x0 (List.mem_of_getElem? hx0)) (by simp only [List.length_append]; omega)).mono ?_) rfl rfl rfl (by kernel_rfl) (hrWrite rfl rfl rfl)
  rintro e w' ⟨A34, c34, rfl, hP⟩
  refine ⟨_, [cAt bw10 138 [(vL A34 ((((noB ++ num ps.length ++ ((ps.map PV.abs).take i).flatMap AP.enc) ++ num x0.lo.length ++ x0.lo) ++ num x0.hi.length ++ x0.hi) ++ x0.c.abs.enc) c34), (.int .i64 0)], cB A34 ((((noB ++ num ps.length ++ ((ps.map PV.abs).take i).flatMap AP.enc) ++ num x0.lo.length ++ x0.lo) ++ num x0.hi.length ++ x0.hi) ++ x0.c.abs.enc) c34], _, rfl, hP, rfl, ?_⟩; clear hP hM hO
  refine liNil (qBlock (qThen (reg ?_)))
  refine lv (v := (vI (i + 1))) (rAdd _ rfl rfl rfl (by omega) (by omega) (by omega)) ?_
  refine lm ?_
  refine liNil (qThen ?_)
  rw [show (((noB ++ num ps.length ++ ((ps.map PV.abs).take i).flatMap AP.enc) ++ num x0.lo.length ++ x0.lo) ++ num x0.hi.length ++ x0.hi) ++ x0.c.abs.enc = noB ++ num ps.length ++ ((ps.map PV.abs).take (i + 1)).flatMap AP.enc from by rw [← enc_step hxa]; simp only [AP.enc, PV.abs, List.append_assoc]]
  exact stAgain (i + 1, A34, c34) (by show _ ≤ _; omega) (by show ps.length - (i + 1) < ps.length - i; omega) ⟨rfl, rfl, rfl, rfl, rfl, rfl, trivial⟩ (fun w hM => (hM.pick [0, 1] rfl rfl))
 ·have hd18 := of_decide_eq_false hc18
  obtain rfl : i = ps.length := by omega
  rw [show (ps.map PV.abs).take ps.length = ps.map PV.abs from by rw [← List.length_map (f := PV.abs), List.take_length]]
  refine stExit (qThenX (qThenX (qBlockX (qThen (stSeq ?_)))))
  have hxe : noB ++ num ps.length ++ (ps.map PV.abs).flatMap AP.enc = encA (ps.map PV.abs) := by rw [henc]; rfl
  rw [hxe]
  refine reg ?_
  refine lm ?_
  refine li rfl ?_
  refine opK [0, 1] [cAt bw10 138 [(vL AX (encA (ps.map PV.abs)) cX), (.int .i64 0)], cB AX (encA (ps.map PV.abs)) cX] (fun w hM hO => (rsDone_big bw10 AX cX (encA (ps.map PV.abs)) w hO (by assumption)).mono ?_)
  rintro e w' ⟨rfl, hP⟩
  refine ⟨_, [cAt bw10 138 [(vL AX ((encA (ps.map PV.abs))) cX), (.int .i64 0)], cB AX ((encA (ps.map PV.abs))) cX], _, rfl, hP, rfl, ?_⟩; clear hP hM hO
  refine lc (.slice none 0 0) ?_
  refine lc (.int .i64 2) ?_
  refine la ?_
  refine la ?_
  refine liNil (qThen (stRet ?_))
  refine stEnd [(.slice none 0 0), (.int .i64 2)] rfl ⟨rfl, rfl, trivial⟩ (fun w hM => ?_)
  exact ⟨rfl, (hM.pick [] rfl rfl)⟩
theorem rsEncode_ok (A1 : Option Addr) (c1 : Nat) (ps : List PV) (w : World) (r0 : Rf [] w (fun w => RowIn w A1 (PS ps))) (r1 : Rf [] w (PsOk ps)) (hfit : ∀ p ∈ ps.map PV.abs, p.fit) (hne : ps.length ≠ 0) (hsz : (encA (ps.map PV.abs)).length ≤ 1048576) :
  Calls Tryz.prog 37 #[(vL A1 ps c1)] w fun e w' => ∃ (B : Option Addr) (cb : Nat), e = .returned (.tuple #[(vL B (encA (ps.map PV.abs)) cb), (.int .i64 0)]) ∧ Back [] w [cB B (encA (ps.map PV.abs)) cb] w' := by
 refine stEnter (args := [(vL A1 ps c1)]) (fps []) Tryz.func37 rfl 40 rfl [(0, (vL A1 ps c1))] ⟨rfl, trivial⟩ [] (Mm.start w []) ?_
 refine stSeq (reg ?_)
 refine la ?_
 refine la ?_
 refine liNil (qThen (stSeq (stSeq (reg ?_))))
 refine lm ?_
 refine lc (vI ps.length) ?_
 refine lc (.bool ((((ps.length : Nat) : Int) : Int) == 0)) ?_
 refine liNil (qThen ?_)
 refine stFalseK rfl (by simpa using hne) ?_
 refine stSkip (qThen (stSeq (reg (li rfl ?_))))
 refine opK0 (fun w hM => (rsNewW_any  w ).mono ?_)
 rintro e w' ⟨bw10, rfl, hP⟩
 refine ⟨_, _, rfl, hP, ?_⟩; clear hP hM
 refine la ?_
 refine liNil (qThen (stSeq ?_))
 have henc : encA (ps.map PV.abs) = num ps.length ++ (ps.map PV.abs).flatMap AP.enc := by rw [encA, if_neg (by simpa using hne), List.length_map]
 have hel : (num ps.length).length + ((ps.map PV.abs).flatMap AP.enc).length ≤ 4293800000 := by have e := congrArg List.length henc; rw [List.length_append] at e; omega
 have hpl : ps.length ≤ ((ps.map PV.abs).flatMap AP.enc).length := by rw [← List.length_map (f := PV.abs)]; exact enc_ge _
 have hnb : noB.length = 0 := rfl
 refine St.mem (fun w hM => hM.nilOwn 5 1) ?_
 refine reg ?_
 refine lm ?_
 refine lm ?_
 refine lc (vI ps.length) ?_
 refine li rfl ?_
 refine opK [0, 1] [cAt bw10 138 [(vL none (noB) 0), (.int .i64 0)], cB none (noB) 0] (fun w hM hO => (rsWCount_any bw10 none 0 noB ps.length w hO (by omega) (by omega)).mono ?_)
 rintro e w' ⟨A214, c214, rfl, hP⟩
 refine ⟨_, [cAt bw10 138 [(vL A214 (noB ++ num ps.length) c214), (.int .i64 0)], cB A214 (noB ++ num ps.length) c214], _, rfl, hP, rfl, ?_⟩; clear hP hM hO
 refine liNil (qThen (stSeq (stSeq (reg ?_))))
 refine lm ?_
 refine lc (vI ps.length) ?_
 refine lm ?_
 refine liNil (qThen (stBlock ?_))
 refine stLoop (ι := Nat × Option Addr × Nat) (fun (i, AX, cX) => i ≤ ps.length) (fun (i, AX, cX) => ps.length - i) (fun (i, AX, cX) => [(2, (.slice none 0 0)), (3, (.int .i64 0)), (4, (vP bw10 0)), (15, (vL A1 ps c1)), (16, (vI ps.length)), (17, (vI i))]) (fun (i, AX, cX) => [cAt bw10 138 [(vL AX (noB ++ num ps.length ++ ((ps.map PV.abs).take i).flatMap AP.enc) cX), (.int .i64 0)], cB AX (noB ++ num ps.length ++ ((ps.map PV.abs).take i).flatMap AP.enc) cX]) (0, A214, c214) (Nat.zero_le _) ⟨rfl, rfl, rfl, rfl, rfl, rfl, trivial⟩ (fun w hM => by show Mm _ _ [cAt bw10 138 [(vL A214 (noB ++ num ps.length ++ ((ps.map PV.abs).take 0).flatMap AP.enc) c214), (.int .i64 0)], cB A214 (noB ++ num ps.length ++ ((ps.map PV.abs).take 0).flatMap AP.enc) c214] w; rw [show noB ++ num ps.length ++ ((ps.map PV.abs).take 0).flatMap AP.enc = noB ++ num ps.length from List.append_nil _]; exact hM) ?_
 rintro ⟨i, AX, cX⟩ (hok : i ≤ ps.length)
 show St _ _ _ [(2, (.slice none 0 0)), (3, (.int .i64 0)), (4, (vP bw10 0)), (15, (vL A1 ps c1)), (16, (vI ps.length)), (17, (vI i))] [cAt bw10 138 [(vL AX (noB ++ num ps.length ++ ((ps.map PV.abs).take i).flatMap AP.enc) cX), (.int .i64 0)], cB AX (noB ++ num ps.length ++ ((ps.map PV.abs).take i).flatMap AP.enc) cX] _
 refine stSeq (reg ?_)
 refine lc (.bool (decide (((i : Nat) : Int) < ((ps.length : Nat) : Int)))) ?_
 refine liNil (qThen (stSeq ?_))
 refine stCond rfl (fun hc18 => ?_) (fun hc18 => ?_)
 ·have hd18 := of_decide_eq_true hc18
  refine stSkip (qThen (stSeq (stBlock (stSeq (reg ?_)))))
  obtain ⟨x0, hx0⟩ : ∃ ξ, (ps)[i]? = some ξ := ⟨_, List.getElem?_eq_getElem (by omega)⟩
  refine St.partPtr (fun w hM => r0.now hM) hx0 (fun p19 q19 hA19 hc19 => ?_)
  refine lv (v := (vP p19 (q19 + i * 3))) (rIndexRow3 (e := 76) rfl (by kernel_rfl) (by kernel_rfl) rfl rfl hA19 (by omega)) ?_
  refine lv (v := (.agg #[(vS x0.lo), (vS x0.hi), x0.c.val])) (rLoadA [(vS x0.lo), (vS x0.hi), x0.c.val] rfl rfl (by kernel_rfl) (by kernel_rfl) (hc19)) ?_
  refine li rfl ?_
  refine opAlloc [(.string ⟨#[]⟩), (.string ⟨#[]⟩), .nilIface] rfl rfl (by kernel_rfl) (by kernel_rfl) (fun b6 => ?_)
  refine li rfl ?_
  refine opStoreN 2 [(vS x0.lo), (vS x0.hi), x0.c.val] (vs := [(vS x0.lo), (vS x0.hi), x0.c.val]) rfl rfl (by kernel_rfl) rfl rfl rfl (by kernel_rfl) rfl (by simp) (PV.one x0) rfl ?_
  refine liNil (qThen (stSeq ?_))
  have hf0 := hfit _ (List.mem_map_of_mem (List.mem_of_getElem? hx0))
  have hxa : (ps.map PV.abs)[i]? = some x0.abs := by rw [List.getElem?_map, hx0]; rfl
  have hle := enc_le hxa
  have hpe : x0.abs.enc.length = (num x0.lo.length).length + x0.lo.length + ((num x0.hi.length).length + x0.hi.length) + x0.c.abs.enc.length := by simp only [AP.enc, PV.abs, List.length_append]
  have hf1 : x0.lo.length ≤ 32 := hf0.1
  have hf2 : x0.hi.length ≤ 32 := hf0.2.1
  refine reg ?_
  refine lm ?_
  refine lc (vP b6 0) ?_
  refine lc (vP b6 0) ?_
  refine lv (v := (vS x0.lo)) (rLoad 2 rfl rfl (by kernel_rfl) rfl rfl) ?_
  refine li rfl ?_
  refine opK [0, 1] [cAt bw10 138 [(vL AX (noB ++ num ps.length ++ ((ps.map PV.abs).take i).flatMap AP.enc) cX), (.int .i64 0)], cB AX (noB ++ num ps.length ++ ((ps.map PV.abs).take i).flatMap AP.enc) cX] (fun w hM hO => (rsWText_any bw10 AX cX (noB ++ num ps.length ++ ((ps.map PV.abs).take i).flatMap AP.enc) x0.lo w hO (by omega) (by simp only [List.length_append]; omega)).mono ?_)
  rintro e w' ⟨A225, c225, rfl, hP⟩
  refine ⟨_, [cAt bw10 138 [(vL A225 ((noB ++ num ps.length ++ ((ps.map PV.abs).take i).flatMap AP.enc) ++ num x0.lo.length ++ x0.lo) c225), (.int .i64 0)], cB A225 ((noB ++ num ps.length ++ ((ps.map PV.abs).take i).flatMap AP.enc) ++ num x0.lo.length ++ x0.lo) c225], _, rfl, hP, rfl, ?_⟩; clear hP hM hO
  refine liNil (qThen (stSeq (reg ?_)))
  refine lm ?_
  refine lc (vP b6 0) ?_
  refine lc (vP b6 1) ?_
  refine lv (v := (vS x0.hi)) (rLoad 2 rfl rfl (by kernel_rfl) rfl rfl) ?_
  refine li rfl ?_
  refine opK [0, 1] [cAt bw10 138 [(vL A225 ((noB ++ num ps.length ++ ((ps.map PV.abs).take i).flatMap AP.enc) ++ num x0.lo.length ++ x0.lo) c225), (.int .i64 0)], cB A225 ((noB ++ num ps.length ++ ((ps.map PV.abs).take i).flatMap AP.enc) ++ num x0.lo.length ++ x0.lo) c225] (fun w hM hO => (rsWText_any bw10 A225 c225 ((noB ++ num ps.length ++ ((ps.map PV.abs).take i).flatMap AP.enc) ++ num x0.lo.length ++ x0.lo) x0.hi w hO (by omega) (by simp only [List.length_append]; omega)).mono ?_)
  rintro e w' ⟨A230, c230, rfl, hP⟩
  refine ⟨_, [cAt bw10 138 [(vL A230 (((noB ++ num ps.length ++ ((ps.map PV.abs).take i).flatMap AP.enc) ++ num x0.lo.length ++ x0.lo) ++ num x0.hi.length ++ x0.hi) c230), (.int .i64 0)], cB A230 (((noB ++ num ps.length ++ ((ps.map PV.abs).take i).flatMap AP.enc) ++ num x0.lo.length ++ x0.lo) ++ num x0.hi.length ++ x0.hi) c230], _, rfl, hP, rfl, ?_⟩; clear hP hM hO
  refine liNil (qThen ?_)
  refine St.to [cAt bw10 138 [(vL A230 (((noB ++ num ps.length ++ ((ps.map PV.abs).take i).flatMap AP.enc) ++ num x0.lo.length ++ x0.lo) ++ num x0.hi.length ++ x0.hi) c230), (.int .i64 0)], cB A230 (((noB ++ num ps.length ++ ((ps.map PV.abs).take i).flatMap AP.enc) ++ num x0.lo.length ++ x0.lo) ++ num x0.hi.length ++ x0.hi) c230, cAt b6 76 [(vS x0.lo), (vS x0.hi), x0.c.val]] (by kernel_rfl) ?_
  refine reg ?_
  refine lc (vP b6 2) ?_
  refine lv (v := x0.c.val) (rLoad 2 rfl rfl (by kernel_rfl) rfl rfl) ?_
  refine lm ?_
  refine li rfl ?_
  refine opK [0, 1] [cAt bw10 138 [(vL A230 (((noB ++ num ps.length ++ ((ps.map PV.abs).take i).flatMap AP.enc) ++ num x0.lo.length ++ x0.lo) ++ num x0.hi.length ++ x0.hi) c230), (.int .i64 0)], cB A230 (((noB ++ num ps.length ++ ((ps.map PV.abs).take i).flatMap AP.enc) ++ num x0.lo.length ++ x0.lo) ++ num x0.hi.length ++ x0.hi) c230] (fun w hM hO => (rsPWrite_any x0.c hf0.2.2 bw10 A230 c230 (((noB ++ num ps.length ++ ((ps.map PV.abs).take i).flatMap AP.enc) ++ num x0.lo.length ++ x0.lo) ++ num x0.hi.length ++ x0.hi) w hO ((r1.goS hM [0, 1]).imp fun _ h => h x0 (List.mem_of_getElem? hx0)) (by simp only [List.length_append]; omega)).mono ?_) rfl rfl rfl (by kernel_rfl) (hrWrite rfl rfl rfl)
  rintro e w' ⟨A34, c34, rfl, hP⟩
  refine ⟨_, [cAt bw10 138 [(vL A34 ((((noB ++ num ps.length ++ ((ps.map PV.abs).take i).flatMap AP.enc) ++ num x0.lo.length ++ x0.lo) ++ num x0.hi.length ++ x0.hi) ++ x0.c.abs.enc) c34), (.int .i64 0)], cB A34 ((((noB ++ num ps.length ++ ((ps.map PV.abs).take i).flatMap AP.enc) ++ num x0.lo.length ++ x0.lo) ++ num x0.hi.length ++ x0.hi) ++ x0.c.abs.enc) c34], _, rfl, hP, rfl, ?_⟩; clear hP hM hO
  refine liNil (qBlock (qThen (reg ?_)))
  refine lv (v := (vI (i + 1))) (rAdd _ rfl rfl rfl (by omega) (by omega) (by omega)) ?_
  refine lm ?_
  refine liNil (qThen ?_)
  rw [show (((noB ++ num ps.length ++ ((ps.map PV.abs).take i).flatMap AP.enc) ++ num x0.lo.length ++ x0.lo) ++ num x0.hi.length ++ x0.hi) ++ x0.c.abs.enc = noB ++ num ps.length ++ ((ps.map PV.abs).take (i + 1)).flatMap AP.enc from by rw [← enc_step hxa]; simp only [AP.enc, PV.abs, List.append_assoc]]
  exact stAgain (i + 1, A34, c34) (by show _ ≤ _; omega) (by show ps.length - (i + 1) < ps.length - i; omega) ⟨rfl, rfl, rfl, rfl, rfl, rfl, trivial⟩ (fun w hM => (hM.pick [0, 1] rfl rfl))
 ·have hd18 := of_decide_eq_false hc18
  obtain rfl : i = ps.length := by omega
  rw [show (ps.map PV.abs).take ps.length = ps.map PV.abs from by rw [← List.length_map (f := PV.abs), List.take_length]]
  refine stExit (qThenX (qThenX (qBlockX (qThen (stSeq ?_)))))
  have hxe : noB ++ num ps.length ++ (ps.map PV.abs).flatMap AP.enc = encA (ps.map PV.abs) := by rw [henc]; rfl
  rw [hxe]
  refine reg ?_
  refine lm ?_
  refine li rfl ?_
  refine opK [0, 1] [cAt bw10 138 [(vL AX (encA (ps.map PV.abs)) cX), (.int .i64 0)], cB AX (encA (ps.map PV.abs)) cX] (fun w hM hO => (rsDone_ok bw10 AX cX (encA (ps.map PV.abs)) w hO (by assumption)).mono ?_)
  rintro e w' ⟨A237, c237, rfl, hP⟩
  refine ⟨_, [cAt bw10 138 [(vL AX ((encA (ps.map PV.abs))) cX), (.int .i64 0)], cB AX ((encA (ps.map PV.abs))) cX], _, rfl, hP, rfl, ?_⟩; clear hP hM hO
  refine lc (vL A237 (encA (ps.map PV.abs)) c237) ?_
  refine lc (.int .i64 0) ?_
  refine la ?_
  refine la ?_
  refine liNil (qThen (stRet ?_))
  refine stEnd [(vL A237 (encA (ps.map PV.abs)) c237), (.int .i64 0)] rfl ⟨rfl, rfl, trivial⟩ (fun w hM => ?_)
  exact ⟨A237, c237, rfl, (hM.pick [2] rfl rfl)⟩
end Go.Proofs.YtlepfnihpdhcaaaGreatDoor
namespace Go.Proofs.YtlepfnihpdhcaaaGreatDoor
open Go.RowKit
abbrev noB2 : List Bs := []
structure StepInv (its : List Bs) (fan leaf : Nat) (A : Option Addr) (pvs : List PV) (i : Nat) (rp : List PV) (nl ol : List Bs) (L : List (Option Addr × List Bs)) : Prop where
 le : i ≤ pvs.length
 rep : rp.map PV.abs = (pvs.take i).flatMap fun p => repA its fan leaf p.abs
 need : nl = (pvs.take i).flatMap fun p => needA its p.abs
 off : ol = (pvs.take i).flatMap fun p => offA its p.abs
 src : SrcOk L A its rp
 len1 : rp.length ≤ i * 17
 len2 : nl.length ≤ i * 16384
 len3 : ol.length ≤ i * 16384
section
variable {its : List Bs} {fan leaf : Nat} {A : Option Addr} {pvs rp ps2 : List PV} {i : Nat} {nl ol : List Bs} {L M : List (Option Addr × List Bs)} {lo hi : Bs}
theorem StepInv.zero : StepInv its fan leaf A pvs 0 [] [] [] [] := ⟨Nat.zero_le _, rfl, rfl, rfl, SrcOk.nil, by rw [Nat.zero_mul]; exact Nat.le_refl 0, by rw [Nat.zero_mul]; exact Nat.le_refl 0, by rw [Nat.zero_mul]; exact Nat.le_refl 0⟩
theorem lt_at {α : Type} {l : List α} {i : Nat} {x : α} (h : l[i]? = some x) : i + 1 ≤ l.length := (List.getElem?_eq_some_iff.1 h).1
theorem SrcOk.app0 (h : SrcOk L A its rp) (k : SrcOk [] A its ps2) : SrcOk L A its (rp ++ ps2) := by have := h.append k; rwa [List.append_nil] at this
theorem rep_len {c : CV} (h : ps2.map PV.abs = repA its fan leaf (PV.abs ⟨lo, hi, c⟩)) (hr : RepOk (repA its fan leaf (PV.abs ⟨lo, hi, c⟩))) : ps2.length ≤ 17 := by rw [← List.length_map (f := PV.abs), h]; exact hr.cnt
theorem StepInv.sum (h : StepInv its fan leaf A pvs i rp nl ol L) {n : Nat} {f : Bs} (hx : pvs[i]? = some ⟨lo, hi, .sum n f⟩) (he : ps2.map PV.abs = cmpA its fan leaf lo hi n f) (hs : SrcOk [] A its ps2) (hr : RepOk (repA its fan leaf (PV.abs ⟨lo, hi, .sum n f⟩))) : StepInv its fan leaf A pvs (i + 1) (rp ++ ps2) nl ol L := by
 have hl := rep_len (c := .sum n f) he hr
 have h1 := h.len1
 have h2 := h.len2
 have h3 := h.len3
 refine ⟨lt_at hx, ?_, h.need.trans (flat_step0 hx rfl), h.off.trans (flat_step0 hx rfl), h.src.app0 hs, ?_, Nat.le_trans h2 (Nat.mul_le_mul_right _ (Nat.le_succ i)), Nat.le_trans h3 (Nat.mul_le_mul_right _ (Nat.le_succ i))⟩
 ·rw [List.map_append, h.rep, he]; exact flat_step (g := fun p => repA its fan leaf p.abs) hx
 ·rw [List.length_append]; omega
theorem StepInv.list (h : StepInv its fan leaf A pvs i rp nl ol L) {B : Option Addr} {c : Nat} {xs : List Bs} (hx : pvs[i]? = some ⟨lo, hi, .list B c xs⟩) (he : ps2.map PV.abs = ansA its lo hi xs) (hs : SrcOk M A its ps2) (hr : RepOk (repA its fan leaf (PV.abs ⟨lo, hi, .list B c xs⟩))) (hn : (needA its (PV.abs ⟨lo, hi, .list B c xs⟩)).length ≤ 16384 ∧ all32 (needA its (PV.abs ⟨lo, hi, .list B c xs⟩))) (ho : (offA its (PV.abs ⟨lo, hi, .list B c xs⟩)).length ≤ 16384 ∧ all32 (offA its (PV.abs ⟨lo, hi, .list B c xs⟩))) :
  StepInv its fan leaf A pvs (i + 1) (rp ++ ps2) (nl ++ without xs its) (ol ++ without (inL its lo hi) xs) (L ++ M) := by
 have hl := rep_len (c := .list B c xs) he hr
 have h1 := h.len1
 have h2 := h.len2
 have h3 := h.len3
 have h4 : (without xs its).length ≤ 16384 := hn.1
 have h5 : (without (inL its lo hi) xs).length ≤ 16384 := ho.1
 refine ⟨lt_at hx, ?_, ?_, ?_, h.src.append hs, ?_, ?_, ?_⟩
 ·rw [List.map_append, h.rep, he]; exact flat_step (g := fun p => repA its fan leaf p.abs) hx
 ·rw [h.need]; exact flat_step (g := fun p => needA its p.abs) hx
 ·rw [h.off]; exact flat_step (g := fun p => offA its p.abs) hx
 all_goals rw [List.length_append]; omega
theorem StepInv.ans (h : StepInv its fan leaf A pvs i rp nl ol L) {B B2 : Option Addr} {c c2 : Nat} {xs ms : List Bs} (hx : pvs[i]? = some ⟨lo, hi, .ans B c xs B2 c2 ms⟩) (hn : (needA its (PV.abs ⟨lo, hi, .ans B c xs B2 c2 ms⟩)).length ≤ 16384 ∧ all32 (needA its (PV.abs ⟨lo, hi, .ans B c xs B2 c2 ms⟩))) (ho : (offA its (PV.abs ⟨lo, hi, .ans B c xs B2 c2 ms⟩)).length ≤ 16384 ∧ all32 (offA its (PV.abs ⟨lo, hi, .ans B c xs B2 c2 ms⟩))) :
  StepInv its fan leaf A pvs (i + 1) rp (nl ++ without xs its) (ol ++ keepIn ms its) L := by
 have h1 := h.len1
 have h2 := h.len2
 have h3 := h.len3
 have h4 : (without xs its).length ≤ 16384 := hn.1
 have h5 : (keepIn ms its).length ≤ 16384 := ho.1
 refine ⟨lt_at hx, h.rep.trans (flat_step0 hx rfl), ?_, ?_, h.src, by omega, ?_, ?_⟩
 ·rw [h.need]; exact flat_step (g := fun p => needA its p.abs) hx
 ·rw [h.off]; exact flat_step (g := fun p => offA its p.abs) hx
 all_goals rw [List.length_append]; omega
theorem flat_abs {β : Type} (g : AP → List β) {ps : List AP} (h : pvs.map PV.abs = ps) : (pvs.take pvs.length).flatMap (fun p => g p.abs) = ps.flatMap g := by rw [← h, List.take_length, List.flatMap_map]
theorem StepInv.endR (h : StepInv its fan leaf A pvs pvs.length rp nl ol L) {ps : List AP} (he : pvs.map PV.abs = ps) : rp.map PV.abs = replyA its fan leaf ps := h.rep.trans (flat_abs _ he)
theorem StepInv.endN (h : StepInv its fan leaf A pvs pvs.length rp nl ol L) {ps : List AP} (he : pvs.map PV.abs = ps) : nl = ps.flatMap (needA its) := h.need.trans (flat_abs _ he)
theorem StepInv.endO (h : StepInv its fan leaf A pvs pvs.length rp nl ol L) {ps : List AP} (he : pvs.map PV.abs = ps) : ol = ps.flatMap (offA its) := h.off.trans (flat_abs _ he)
end
abbrev noPV : List PV := []
theorem rsEncode_any (A1 : Option Addr) (c1 : Nat) (ps : List PV) (w : World) (r0 : Rf [] w (fun w => RowIn w A1 (PS ps))) (r1 : Rf [] w (PsOk ps)) (hfit : ∀ p ∈ ps.map PV.abs, p.fit) (hsz : (encA (ps.map PV.abs)).length ≤ 1048576) :
  Calls Tryz.prog 37 #[(vL A1 ps c1)] w fun e w' => ∃ (B : Option Addr) (cb : Nat), e = .returned (.tuple #[(vL B (encA (ps.map PV.abs)) cb), (.int .i64 0)]) ∧ Back [] w [cB B (encA (ps.map PV.abs)) cb] w' := by
 by_cases h0 : ps.length = 0
 ·refine (rsEncode_nil A1 c1 ps w h0).mono ?_
  rintro e w' ⟨rfl, hB⟩
  have e0 : encA (ps.map PV.abs) = [] := by rw [encA, if_pos (by rw [List.length_map]; exact h0)]
  rw [e0]
  exact ⟨none, 0, rfl, hB.nilOwn 5 1⟩
 ·exact rsEncode_ok A1 c1 ps w r0 r1 hfit h0 hsz
theorem rsStep_nil (bs : Nat) (A : Option Addr) (c : Nat) (its : List (List UInt8)) (fan : Nat) (leaf : Nat) (nm : Nat) (om : Nat) (A1 : Option Addr) (c1 : Nat) (D : List UInt8) (S : List (List UInt8)) (S2 : List (List UInt8)) (w : World) (hO : Own [cSet nm (S), cSet om (S2)] w) (r0 : Rf [cSet nm (S), cSet om (S2)] w (Vars)) (r1 : Rf [cSet nm (S), cSet om (S2)] w (SessAt bs A c its fan leaf nm om)) (r2 : Rf [cSet nm (S), cSet om (S2)] w (fun w => RowIn w A1 (B8 D))) (hs : okSet its) (hn : its.length ≤ 1000) (hcap : its.length ≤ c) (h40 : its.length ≤ 40) (hf : 2 ≤ fan) (hf2 : fan ≤ 16) (hl1 : 1 ≤ leaf) (hl2 : leaf ≤ 64) (hD : D.length ≤ 1048576) (hS : S.length ≤ 549755813888) (hT : S2.length ≤ 549755813888) (h0 : D.length = 0) :
  Calls Tryz.prog 17 #[(vP bs 0), (vL A1 D c1)] w fun e w' => e = .returned (.tuple #[(.slice none 0 0), (.int .i64 0)]) ∧ Back [cSet nm (S), cSet om (S2)] w [cSet nm (S), cSet om (S2)] w' := by
 have ra := r1.imp (fun _ h => h.1)
 have rb := r1.imp (fun _ h => h.2)
 have _u0 := r0
 have _u1 := r1
 have _u2 := r2
 have _u3 := hs
 have _u4 := hn
 have _u5 := hcap
 have _u6 := h40
 have _u7 := hf
 have _u8 := hf2
 have _u9 := hl1
 have _u10 := hl2
 have _u11 := hD
 have _u12 := hS
 have _u13 := hT
 have _u14 := h0
 clear _u0 _u1 _u2 _u3 _u4 _u5 _u6 _u7 _u8 _u9 _u10 _u11 _u12 _u13 _u14
 refine stEnter (args := [(vP bs 0), (vL A1 D c1)]) (fps [cSet nm (S), cSet om (S2)]) Tryz.func17 rfl 110 rfl [(0, (vP bs 0)), (1, (vL A1 D c1))] ⟨rfl, rfl, trivial⟩ [cSet nm (S), cSet om (S2)] (hO) ?_
 refine stSeq (reg ?_)
 refine la ?_
 refine la ?_
 refine liNil (qThen (stSeq (stSeq (reg ?_))))
 refine lm ?_
 refine lc (vI D.length) ?_
 refine lc (.bool ((((D.length : Nat) : Int) : Int) == 0)) ?_
 refine liNil (qThen ?_)
 refine stTrueK rfl (by simp [h0]) ?_
 refine stSeq (reg ?_)
 refine la ?_
 refine la ?_
 refine liNil (qThen (stRet (qThenR ?_)))
 refine stEnd [(.slice none 0 0), (.int .i64 0)] rfl ⟨rfl, rfl, trivial⟩ (fun w hM => ?_)
 exact ⟨rfl, hM⟩
theorem rsStep_bad (bs : Nat) (A : Option Addr) (c : Nat) (its : List (List UInt8)) (fan : Nat) (leaf : Nat) (nm : Nat) (om : Nat) (A1 : Option Addr) (c1 : Nat) (D : List UInt8) (S : List (List UInt8)) (S2 : List (List UInt8)) (w : World) (hO : Own [cSet nm (S), cSet om (S2)] w) (r0 : Rf [cSet nm (S), cSet om (S2)] w (Vars)) (r1 : Rf [cSet nm (S), cSet om (S2)] w (SessAt bs A c its fan leaf nm om)) (r2 : Rf [cSet nm (S), cSet om (S2)] w (fun w => RowIn w A1 (B8 D))) (hs : okSet its) (hn : its.length ≤ 1000) (hcap : its.length ≤ c) (h40 : its.length ≤ 40) (hf : 2 ≤ fan) (hf2 : fan ≤ 16) (hl1 : 1 ≤ leaf) (hl2 : leaf ≤ 64) (hD : D.length ≤ 1048576) (hS : S.length ≤ 549755813888) (hT : S2.length ≤ 549755813888) (hne : ¬ D.length = 0) (hd : decA D = none) :
  Calls Tryz.prog 17 #[(vP bs 0), (vL A1 D c1)] w fun e w' => e = .returned (.tuple #[(.slice none 0 0), (.int .i64 3)]) ∧ Back [cSet nm (S), cSet om (S2)] w [cSet nm (S), cSet om (S2)] w' := by
 have ra := r1.imp (fun _ h => h.1)
 have rb := r1.imp (fun _ h => h.2)
 have _u0 := r0
 have _u1 := r1
 have _u2 := r2
 have _u3 := hs
 have _u4 := hn
 have _u5 := hcap
 have _u6 := h40
 have _u7 := hf
 have _u8 := hf2
 have _u9 := hl1
 have _u10 := hl2
 have _u11 := hD
 have _u12 := hS
 have _u13 := hT
 have _u14 := hne
 have _u15 := hd
 clear _u0 _u1 _u2 _u3 _u4 _u5 _u6 _u7 _u8 _u9 _u10 _u11 _u12 _u13 _u14 _u15
 refine stEnter (args := [(vP bs 0), (vL A1 D c1)]) (fps [cSet nm (S), cSet om (S2)]) Tryz.func17 rfl 110 rfl [(0, (vP bs 0)), (1, (vL A1 D c1))] ⟨rfl, rfl, trivial⟩ [cSet nm (S), cSet om (S2)] (hO) ?_
 refine stSeq (reg ?_)
 refine la ?_
 refine la ?_
 refine liNil (qThen (stSeq (stSeq (reg ?_))))
 refine lm ?_
 refine lc (vI D.length) ?_
 refine lc (.bool ((((D.length : Nat) : Int) : Int) == 0)) ?_
 refine liNil (qThen ?_)
 refine stFalseK rfl (by simpa using hne) ?_
 refine stSkip (qThen (stSeq (reg ?_)))
 refine lm ?_
 refine li rfl ?_
 refine opK0 (fun w hM => (rsDecode_bad A1 c1 D w (r2.go0 hM) (by assumption) (by assumption)).mono ?_)
 rintro e w' ⟨rfl, hP⟩
 refine ⟨_, _, rfl, hP, ?_⟩; clear hP hM
 refine lm ?_
 refine lc (.slice none 0 0) ?_
 refine lc (.int .i64 3) ?_
 refine la ?_
 refine la ?_
 refine liNil (qThen (stSeq (stSeq (reg ?_))))
 refine lm ?_
 refine lc (.bool true) ?_
 refine liNil (qThen (stTrue rfl (stSeq (reg ?_))))
 refine lm ?_
 refine la ?_
 refine la ?_
 refine liNil (qThen (stRet (qThenR ?_)))
 refine stEnd [(.slice none 0 0), (.int .i64 3)] rfl ⟨rfl, rfl, trivial⟩ (fun w hM => ?_)
 exact ⟨rfl, hM⟩
theorem rsStep_big (bs : Nat) (A : Option Addr) (c : Nat) (its : List (List UInt8)) (fan : Nat) (leaf : Nat) (nm : Nat) (om : Nat) (A1 : Option Addr) (c1 : Nat) (D : List UInt8) (S : List (List UInt8)) (S2 : List (List UInt8)) (ps : List AP) (w : World) (hO : Own [cSet nm (S), cSet om (S2)] w) (r0 : Rf [cSet nm (S), cSet om (S2)] w (Vars)) (r1 : Rf [cSet nm (S), cSet om (S2)] w (SessAt bs A c its fan leaf nm om)) (r2 : Rf [cSet nm (S), cSet om (S2)] w (fun w => RowIn w A1 (B8 D))) (hs : okSet its) (hn : its.length ≤ 1000) (hcap : its.length ≤ c) (h40 : its.length ≤ 40) (hf : 2 ≤ fan) (hf2 : fan ≤ 16) (hl1 : 1 ≤ leaf) (hl2 : leaf ≤ 64) (hD : D.length ≤ 1048576) (hS : S.length ≤ 549755813888) (hT : S2.length ≤ 549755813888) (hne : ¬ D.length = 0) (hd : decA D = some ps) (hsz : 1048576 < (encA (replyA its fan leaf ps)).length) :
  Calls Tryz.prog 17 #[(vP bs 0), (vL A1 D c1)] w fun e w' => e = .returned (.tuple #[(.slice none 0 0), (.int .i64 2)]) ∧ Back [cSet nm (S), cSet om (S2)] w [cSet nm (S), cSet om (S2)] w' := by
 have ra := r1.imp (fun _ h => h.1)
 have rb := r1.imp (fun _ h => h.2)
 have _u0 := r0
 have _u1 := r1
 have _u2 := r2
 have _u3 := hs
 have _u4 := hn
 have _u5 := hcap
 have _u6 := h40
 have _u7 := hf
 have _u8 := hf2
 have _u9 := hl1
 have _u10 := hl2
 have _u11 := hD
 have _u12 := hS
 have _u13 := hT
 have _u14 := hne
 have _u15 := hd
 have _u16 := hsz
 clear _u0 _u1 _u2 _u3 _u4 _u5 _u6 _u7 _u8 _u9 _u10 _u11 _u12 _u13 _u14 _u15 _u16
 refine stEnter (args := [(vP bs 0), (vL A1 D c1)]) (fps [cSet nm (S), cSet om (S2)]) Tryz.func17 rfl 110 rfl [(0, (vP bs 0)), (1, (vL A1 D c1))] ⟨rfl, rfl, trivial⟩ [cSet nm (S), cSet om (S2)] (hO) ?_
 refine stSeq (reg ?_)
 refine la ?_
 refine la ?_
 refine liNil (qThen (stSeq (stSeq (reg ?_))))
 refine lm ?_
 refine lc (vI D.length) ?_
 refine lc (.bool ((((D.length : Nat) : Int) : Int) == 0)) ?_
 refine liNil (qThen ?_)
 refine stFalseK rfl (by simpa using hne) ?_
 refine stSkip (qThen (stSeq (reg ?_)))
 refine lm ?_
 refine li rfl ?_
 refine opK0 (fun w hM => (rsDecode_ok A1 c1 D ps w (r2.go0 hM) (by assumption) (by assumption)).mono ?_)
 rintro e w' ⟨R24, rc24, pvs24, L24, rfl, hP, heq24, hsrc24⟩
 refine ⟨_, _, rfl, hP, ?_⟩; clear hP hM
 obtain ⟨_, hmsg, hpl⟩ := decA_sound hd
 have hok : ∀ p ∈ ps, p.ok := hmsg.2.1
 have hpl2 : pvs24.length = ps.length := by rw [← heq24, List.length_map]
 refine lm ?_
 refine lc (vL R24 (pvs24) rc24) ?_
 refine lc (.int .i64 0) ?_
 refine la ?_
 refine la ?_
 refine liNil (qThen (stSeq (stSeq (reg ?_))))
 refine lm ?_
 refine lc (.bool false) ?_
 refine liNil (qThen (stFalse rfl (stSkip (qThen (stSeq (reg (li rfl ?_)))))))
 refine opAlloc [(.slice none 0 0), (.slice none 0 0), (.slice none 0 0)] rfl rfl (by kernel_rfl) (by kernel_rfl) (fun b8 => ?_)
 refine liNil (qThen (stSeq (stSeq (reg ?_))))
 refine lm ?_
 refine lc (vI ((pvs24).length)) ?_
 refine lm ?_
 refine liNil (qThen (stBlock ?_))
 refine St.mem (fun w hM => hM.nilOwn 76 3) ?_
 refine St.mem (fun w hM => hM.nilOwn 9 1) ?_
 refine St.mem (fun w hM => hM.nilOwn 9 1) ?_
 refine St.mem (fun w hM => Mm.noBag hM) ?_
 refine stLoop (ι := Nat × Option Addr × Nat × List PV × Option Addr × Nat × List (List UInt8) × Option Addr × Nat × List (List UInt8) × List (Option Addr × List (List UInt8))) (fun (i, RX, rcX, rp, NX, ncX, nl, OX, ocX, ol, LX) => StepInv its fan leaf A pvs24 i rp nl ol LX) (fun (i, RX, rcX, rp, NX, ncX, nl, OX, ocX, ol, LX) => pvs24.length - i) (fun (i, RX, rcX, rp, NX, ncX, nl, OX, ocX, ol, LX) => [(0, (vP bs 0)), (4, (.slice none 0 0)), (5, (.int .i64 0)), (7, (.int .i64 0)), (8, (vP b8 0)), (30, (vL R24 (pvs24) rc24)), (31, (vI ((pvs24).length))), (32, (vI i))]) (fun (i, RX, rcX, rp, NX, ncX, nl, OX, ocX, ol, LX) => [cSet nm (S), cSet om (S2), cP R24 (pvs24) rc24, cBag (L24), cAt b8 85 [(vL RX (rp) rcX), (vL NX (nl) ncX), (vL OX (ol) ocX)], cP RX (rp) rcX, cS NX (nl) ncX, cS OX (ol) ocX, cBag (LX)]) (0, none, 0, noPV, none, 0, noB2, none, 0, noB2, []) StepInv.zero ⟨rfl, rfl, rfl, rfl, rfl, rfl, rfl, rfl, trivial⟩ (fun w hM => by show Mm _ _ [cSet nm (S), cSet om (S2), cP R24 (pvs24) rc24, cBag (L24), cAt b8 85 [(vL none (noPV) 0), (vL none (noB2) 0), (vL none (noB2) 0)], cP none (noPV) 0, cS none (noB2) 0, cS none (noB2) 0, cBag ([])] w; exact hM) ?_
 rintro ⟨i, RX, rcX, rp, NX, ncX, nl, OX, ocX, ol, LX⟩ (hinv : StepInv its fan leaf A pvs24 i rp nl ol LX)
 show St _ _ _ [(0, (vP bs 0)), (4, (.slice none 0 0)), (5, (.int .i64 0)), (7, (.int .i64 0)), (8, (vP b8 0)), (30, (vL R24 (pvs24) rc24)), (31, (vI ((pvs24).length))), (32, (vI i))] [cSet nm (S), cSet om (S2), cP R24 (pvs24) rc24, cBag (L24), cAt b8 85 [(vL RX (rp) rcX), (vL NX (nl) ncX), (vL OX (ol) ocX)], cP RX (rp) rcX, cS NX (nl) ncX, cS OX (ol) ocX, cBag (LX)] _
 refine stSeq (reg ?_)
 refine lc (.bool (decide (((i : Nat) : Int) < (((pvs24).length : Nat) : Int)))) ?_
 refine liNil (qThen (stSeq ?_))
 refine stCond rfl (fun hc33 => ?_) (fun hc33 => ?_)
 ·have hd33 := of_decide_eq_true hc33
  have hil := hinv.le; have hil1 := hinv.len1; have hil2 := hinv.len2; have hil3 := hinv.len3
  refine stSkip (qThen (stSeq (stBlock (stSeq (reg ?_)))))
  obtain ⟨x0, hx0⟩ : ∃ ξ, (pvs24)[i]? = some ξ := ⟨_, List.getElem?_eq_getElem (by omega)⟩
  refine St.partPtr (fun w hM => rowOwn3 (i := 2) rfl w hM) hx0 (fun p34 q34 hA34 hc34 => ?_)
  refine lv (v := (vP p34 (q34 + i * 3))) (rIndexRow3 (e := 76) rfl (by kernel_rfl) (by kernel_rfl) rfl rfl hA34 (by omega)) ?_
  refine lv (v := (.agg #[(vS x0.lo), (vS x0.hi), x0.c.val])) (rLoadA [(vS x0.lo), (vS x0.hi), x0.c.val] rfl rfl (by kernel_rfl) (by kernel_rfl) (hc34)) ?_
  refine li rfl ?_
  refine opAlloc [(.string ⟨#[]⟩), (.string ⟨#[]⟩), .nilIface] rfl rfl (by kernel_rfl) (by kernel_rfl) (fun b10 => ?_)
  refine li rfl ?_
  refine opStoreN 9 [(vS x0.lo), (vS x0.hi), x0.c.val] (vs := [(vS x0.lo), (vS x0.hi), x0.c.val]) rfl rfl (by kernel_rfl) rfl rfl rfl (by kernel_rfl) rfl (by simp) (PV.one x0) rfl ?_
  refine liNil (qThen (stSeq (reg ?_)))
  refine lc (vP b10 2) ?_
  refine lv (v := x0.c.val) (rLoad 9 rfl rfl (by kernel_rfl) rfl rfl) ?_
  refine liNil (qThen (stBlock (stSeq ?_)))
  refine St.to [cSet nm (S), cSet om (S2), cP R24 (pvs24) rc24, cBag (L24), cAt b8 85 [(vL RX (rp) rcX), (vL NX (nl) ncX), (vL OX (ol) ocX)], cP RX (rp) rcX, cS NX (nl) ncX, cS OX (ol) ocX, cBag (LX), cAt b10 76 [(vS x0.lo), (vS x0.hi), x0.c.val]] (by kernel_rfl) ?_
  have hp0 : x0.abs.ok := hok _ (by rw [← heq24]; exact List.mem_map_of_mem (List.mem_of_getElem? hx0))
  obtain ⟨xlo, xhi, xc⟩ := x0
  cases xc with
  | sum xn xf =>
   refine St.to [cSet nm (S), cSet om (S2), cP R24 (pvs24) rc24, cBag (L24), cAt b8 85 [(vL RX (rp) rcX), (vL NX (nl) ncX), (vL OX (ol) ocX)], cP RX (rp) rcX, cS NX (nl) ncX, cS OX (ol) ocX, cBag (LX), cAt b10 76 [(vS xlo), (vS xhi), (.iface 71 (.agg #[(vI xn), (vS xf)]))]] (by kernel_rfl) ?_
   refine reg ?_
   refine lc (.tuple #[(.agg #[(vI xn), (vS xf)]), (.bool true)]) ?_
   refine lc (.bool true) ?_
   refine lc (.agg #[(vI xn), (vS xf)]) ?_
   refine liNil (qThen (stTrue rfl (stSeq (reg (li rfl ?_)))))
   refine opAlloc [(.int .i64 0), (.string ⟨#[]⟩)] rfl rfl (by kernel_rfl) (by kernel_rfl) (fun b11 => ?_)
   refine li rfl ?_
   refine opStoreN 10 [(vI xn), (vS xf)] (vs := [(vI xn), (vS xf)]) rfl rfl (by kernel_rfl) rfl rfl rfl (by kernel_rfl) rfl (by simp) (by simp [Value.oneCell']) rfl ?_
   refine liNil (qThen (reg ?_))
   refine lm ?_
   refine lc (vP b10 0) ?_
   refine lv (v := (.agg #[(vS xlo), (vS xhi)])) (rLoadA [(vS xlo), (vS xhi)] rfl rfl (by kernel_rfl) (by kernel_rfl) (segAt (i := 9) rfl (by intro j v hj; first | (rw [Nat.zero_add]; exact hj) | (match j, hj with | 0, h => exact h | 1, h => exact h)))) ?_
   refine lv (v := (.agg #[(vI xn), (vS xf)])) (rLoadA [(vI xn), (vS xf)] rfl rfl (by kernel_rfl) (by kernel_rfl) (segAt (i := 10) rfl (by intro j v hj; first | (rw [Nat.zero_add]; exact hj) | (match j, hj with | 0, h => exact h | 1, h => exact h)))) ?_
   refine li rfl ?_
   refine opK [4, 5] [cAt b8 85 [(vL RX (rp) rcX), (vL NX (nl) ncX), (vL OX (ol) ocX)], cP RX (rp) rcX] (fun w hM hO => (rsCompare_any bs A c its fan leaf nm om xlo xhi xn xf b8 RX rcX rp (vL NX (nl) ncX) (vL OX (ol) ocX) w hO (r0.goS hM [4, 5]) (r1.goS hM [4, 5]) (by assumption) (by assumption) (by assumption) (by omega) (by omega) (by omega) (by omega) (by omega)).mono ?_)
   rintro e w' ⟨R245, rc245, ps245, rfl, hP, heq45, hsrc45⟩
   refine ⟨_, [cAt b8 85 [(vL R245 (rp ++ ps245) rc245), (vL NX (nl) ncX), (vL OX (ol) ocX)], cP R245 (rp ++ ps245) rc245], _, rfl, hP, rfl, ?_⟩; clear hP hM hO
   refine liNil (qBlock (qBlock (qThen (reg ?_))))
   refine lv (v := (vI (i + 1))) (rAdd _ rfl rfl rfl (by omega) (by omega) (by omega)) ?_
   refine lm ?_
   refine liNil (qThen ?_)
   have hnext : StepInv its fan leaf A pvs24 (i + 1) (rp ++ ps245) nl ol LX := hinv.sum hx0 heq45 hsrc45 (repA_ok hs h40 hf hf2 hl1 hp0)
   exact stAgain (i + 1, R245, rc245, rp ++ ps245, NX, ncX, nl, OX, ocX, ol, LX) (hnext) (by show pvs24.length - (i + 1) < pvs24.length - i; omega) ⟨rfl, rfl, rfl, rfl, rfl, rfl, rfl, rfl, trivial⟩ (fun w hM => (hM.pick [0, 1, 2, 3, 4, 5, 6, 7, 8] rfl rfl))
  | list XA xca xl =>
   refine St.to [cSet nm (S), cSet om (S2), cP R24 (pvs24) rc24, cBag (L24), cAt b8 85 [(vL RX (rp) rcX), (vL NX (nl) ncX), (vL OX (ol) ocX)], cP RX (rp) rcX, cS NX (nl) ncX, cS OX (ol) ocX, cBag (LX), cAt b10 76 [(vS xlo), (vS xhi), (.iface 89 (.agg #[(vL XA xl xca)]))]] (by kernel_rfl) ?_
   have hsx : (XA, xl) ∈ L24 := hsrc24 _ (List.mem_of_getElem? hx0) (XA, xl) (by simp [CV.rows])
   refine reg ?_
   refine lc (.tuple #[(.agg #[(.int .i64 0), (.string ⟨#[]⟩)]), (.bool false)]) ?_
   refine lc (.bool false) ?_
   refine lc (.agg #[(.int .i64 0), (.string ⟨#[]⟩)]) ?_
   refine liNil (qThen (stFalse rfl (stSeq (reg ?_))))
   refine lc (.tuple #[(.agg #[(vL XA xl xca)]), (.bool true)]) ?_
   refine lc (.bool true) ?_
   refine lc (.agg #[(vL XA xl xca)]) ?_
   refine liNil (qThen (stTrue rfl (stSeq (reg (li rfl ?_)))))
   refine opAlloc [(.slice none 0 0)] rfl rfl (by kernel_rfl) (by kernel_rfl) (fun b12 => ?_)
   refine li rfl ?_
   refine opStoreN 10 [(vL XA xl xca)] (vs := [(vL XA xl xca)]) rfl rfl (by kernel_rfl) rfl rfl rfl (by kernel_rfl) rfl (by simp) (by simp [Value.oneCell']) rfl ?_
   refine liNil (qThen (reg ?_))
   refine lm ?_
   refine lc (vP b10 0) ?_
   refine lv (v := (.agg #[(vS xlo), (vS xhi)])) (rLoadA [(vS xlo), (vS xhi)] rfl rfl (by kernel_rfl) (by kernel_rfl) (segAt (i := 9) rfl (by intro j v hj; first | (rw [Nat.zero_add]; exact hj) | (match j, hj with | 0, h => exact h | 1, h => exact h)))) ?_
   refine lv (v := (.agg #[(vL XA xl xca)])) (rLoadA [(vL XA xl xca)] rfl rfl (by kernel_rfl) (by kernel_rfl) (segAt (i := 10) rfl (by intro j v hj; first | (rw [Nat.zero_add]; exact hj) | (match j, hj with | 0, h => exact h)))) ?_
   refine li rfl ?_
   refine opK [4, 5, 6, 7] [cAt b8 85 [(vL RX (rp) rcX), (vL NX (nl) ncX), (vL OX (ol) ocX)], cP RX (rp) rcX, cS NX (nl) ncX, cS OX (ol) ocX] (fun w hM hO => (rsAnswer_any bs A c its fan leaf nm om xlo xhi XA xca xl b8 RX rcX rp NX ncX nl OX ocX ol w hO (r1.goS hM [4, 5, 6, 7]) (hM.keepS [4, 5, 6, 7] (j := 3) rfl (fun w h => (h (XA, xl) hsx).1)) (by assumption) (by assumption) (by assumption) (by omega) (Nat.le_trans hp0.2.1 (by omega)) (fun x hx => Nat.le_trans (Nat.le_of_eq (hp0.2.2.1 x hx)) (by omega)) (by omega) (by omega)).mono ?_)
   rintro e w' ⟨R253, rc253, ps253, N253, nc253, O253, oc253, L253, rfl, hP, heq53, hsrc53⟩
   refine ⟨_, [cAt b8 85 [(vL R253 (rp ++ ps253) rc253), (vL N253 (nl ++ without xl its) nc253), (vL O253 (ol ++ without (inL its xlo xhi) xl) oc253)], cP R253 (rp ++ ps253) rc253, cS N253 (nl ++ without xl its) nc253, cS O253 (ol ++ without (inL its xlo xhi) xl) oc253], _, rfl, hP, rfl, ?_⟩; clear hP hM hO
   refine liNil (qBlock (qBlock (qThen (reg ?_))))
   refine lv (v := (vI (i + 1))) (rAdd _ rfl rfl rfl (by omega) (by omega) (by omega)) ?_
   refine lm ?_
   refine liNil (qThen ?_)
   have hnext : StepInv its fan leaf A pvs24 (i + 1) (rp ++ ps253) (nl ++ without xl its) (ol ++ without (inL its xlo xhi) xl) (LX ++ L253) := hinv.list hx0 heq53 hsrc53 (repA_ok hs h40 hf hf2 hl1 hp0) (needA_len hp0) (offA_len hs h40 hp0)
   exact stAgain (i + 1, R253, rc253, rp ++ ps253, N253, nc253, nl ++ without xl its, O253, oc253, ol ++ without (inL its xlo xhi) xl, LX ++ L253) (hnext) (by show pvs24.length - (i + 1) < pvs24.length - i; omega) ⟨rfl, rfl, rfl, rfl, rfl, rfl, rfl, rfl, trivial⟩ (fun w hM => by show Mm _ _ [cSet nm (S), cSet om (S2), cP R24 (pvs24) rc24, cBag (L24), cAt b8 85 [(vL R253 (rp ++ ps253) rc253), (vL N253 (nl ++ without xl its) nc253), (vL O253 (ol ++ without (inL its xlo xhi) xl) oc253)], cP R253 (rp ++ ps253) rc253, cS N253 (nl ++ without xl its) nc253, cS O253 (ol ++ without (inL its xlo xhi) xl) oc253, cBag (LX ++ L253)] w; exact Mm.join (cs := [cSet nm (S), cSet om (S2), cP R24 (pvs24) rc24, cBag (L24), cAt b8 85 [(vL R253 (rp ++ ps253) rc253), (vL N253 (nl ++ without xl its) nc253), (vL O253 (ol ++ without (inL its xlo xhi) xl) oc253)], cP R253 (rp ++ ps253) rc253, cS N253 (nl ++ without xl its) nc253, cS O253 (ol ++ without (inL its xlo xhi) xl) oc253]) (L := LX) (M := L253) ((hM.pick [0, 1, 2, 3, 4, 5, 6, 7, 8, 11] rfl rfl)))
  | ans XA xca xl XB xcb xm =>
   refine St.to [cSet nm (S), cSet om (S2), cP R24 (pvs24) rc24, cBag (L24), cAt b8 85 [(vL RX (rp) rcX), (vL NX (nl) ncX), (vL OX (ol) ocX)], cP RX (rp) rcX, cS NX (nl) ncX, cS OX (ol) ocX, cBag (LX), cAt b10 76 [(vS xlo), (vS xhi), (.iface 92 (.agg #[(vL XA xl xca), (vL XB xm xcb)]))]] (by kernel_rfl) ?_
   have hsx : (XA, xl) ∈ L24 := hsrc24 _ (List.mem_of_getElem? hx0) (XA, xl) (by simp [CV.rows])
   have hsm : (XB, xm) ∈ L24 := hsrc24 _ (List.mem_of_getElem? hx0) (XB, xm) (by simp [CV.rows])
   refine reg ?_
   refine lc (.tuple #[(.agg #[(.int .i64 0), (.string ⟨#[]⟩)]), (.bool false)]) ?_
   refine lc (.bool false) ?_
   refine lc (.agg #[(.int .i64 0), (.string ⟨#[]⟩)]) ?_
   refine liNil (qThen (stFalse rfl (stSeq (reg ?_))))
   refine lc (.tuple #[(.agg #[(.slice none 0 0)]), (.bool false)]) ?_
   refine lc (.bool false) ?_
   refine lc (.agg #[(.slice none 0 0)]) ?_
   refine liNil (qThen (stFalse rfl (stSeq (reg ?_))))
   refine lc (.tuple #[(.agg #[(vL XA xl xca), (vL XB xm xcb)]), (.bool true)]) ?_
   refine lc (.bool true) ?_
   refine lc (.agg #[(vL XA xl xca), (vL XB xm xcb)]) ?_
   refine liNil (qThen (stTrue rfl (stSeq (reg (li rfl ?_)))))
   refine opAlloc [(.slice none 0 0), (.slice none 0 0)] rfl rfl (by kernel_rfl) (by kernel_rfl) (fun b13 => ?_)
   refine li rfl ?_
   refine opStoreN 10 [(vL XA xl xca), (vL XB xm xcb)] (vs := [(vL XA xl xca), (vL XB xm xcb)]) rfl rfl (by kernel_rfl) rfl rfl rfl (by kernel_rfl) rfl (by simp) (by simp [Value.oneCell']) rfl ?_
   refine liNil (qThen (reg ?_))
   refine lm ?_
   refine lv (v := (.agg #[(vL XA xl xca), (vL XB xm xcb)])) (rLoadA [(vL XA xl xca), (vL XB xm xcb)] rfl rfl (by kernel_rfl) (by kernel_rfl) (segAt (i := 10) rfl (by intro j v hj; first | (rw [Nat.zero_add]; exact hj) | (match j, hj with | 0, h => exact h | 1, h => exact h)))) ?_
   refine li rfl ?_
   refine opK [4, 6, 7] [cAt b8 85 [(vL RX (rp) rcX), (vL NX (nl) ncX), (vL OX (ol) ocX)], cS NX (nl) ncX, cS OX (ol) ocX] (fun w hM hO => (rsLearn_any bs A c its fan leaf nm om XA xca xl XB xcb xm b8 (vL RX (rp) rcX) NX ncX nl OX ocX ol w hO (r1.goS hM [4, 6, 7]) (hM.keepS [4, 6, 7] (j := 3) rfl (fun w h => (h (XA, xl) hsx).1)) (hM.keepS [4, 6, 7] (j := 3) rfl (fun w h => (h (XB, xm) hsm).1)) (by assumption) (by assumption) (Nat.le_trans hp0.2.1.1 (by omega)) (Nat.le_trans hp0.2.2.1 (by omega)) (by omega) (by omega) (rfl)).mono ?_)
   rintro e w' ⟨N259, nc259, O259, oc259, rfl, hP⟩
   refine ⟨_, [cAt b8 85 [(vL RX (rp) rcX), (vL N259 (nl ++ without xl its) nc259), (vL O259 (ol ++ keepIn xm its) oc259)], cS N259 (nl ++ without xl its) nc259, cS O259 (ol ++ keepIn xm its) oc259], _, rfl, hP, rfl, ?_⟩; clear hP hM hO
   refine liNil (qBlock (qBlock (qThen (reg ?_))))
   refine lv (v := (vI (i + 1))) (rAdd _ rfl rfl rfl (by omega) (by omega) (by omega)) ?_
   refine lm ?_
   refine liNil (qThen ?_)
   have hnext : StepInv its fan leaf A pvs24 (i + 1) rp (nl ++ without xl its) (ol ++ keepIn xm its) LX := hinv.ans hx0 (needA_len hp0) (offA_len hs h40 hp0)
   exact stAgain (i + 1, RX, rcX, rp, N259, nc259, nl ++ without xl its, O259, oc259, ol ++ keepIn xm its, LX) (hnext) (by show pvs24.length - (i + 1) < pvs24.length - i; omega) ⟨rfl, rfl, rfl, rfl, rfl, rfl, rfl, rfl, trivial⟩ (fun w hM => (hM.pick [0, 1, 2, 3, 4, 5, 6, 7, 8] rfl rfl))
 ·have hd33 := of_decide_eq_false hc33
  have hil := hinv.le; have hil1 := hinv.len1; have hil2 := hinv.len2; have hil3 := hinv.len3
  obtain rfl : i = pvs24.length := by omega
  have hrp' : rp.map PV.abs = replyA its fan leaf ps := hinv.endR heq24
  have hnl' : nl = ps.flatMap (needA its) := hinv.endN heq24
  have hol' : ol = ps.flatMap (offA its) := hinv.endO heq24
  have hrfit : ∀ p ∈ rp.map PV.abs, p.fit := by rw [hrp']; exact replyA_fit hs h40 hf hf2 hl1 hok
  have hn32 : ∀ x ∈ nl, x.length = 32 := by rw [hnl']; exact flat32m fun p hp => (needA_len (hok p hp)).2
  have ho32 : ∀ x ∈ ol, x.length = 32 := by rw [hol']; exact flat32m fun p hp => (offA_len hs h40 (hok p hp)).2
  have henc := replyA_enc hs h40 hf hf2 hl1 (leaf := leaf) hok
  have hrl : rp.length = (replyA its fan leaf ps).length := by rw [← hrp', List.length_map]
  refine stExit (qThenX (qThenX (qBlockX (qThen (stSeq (reg ?_))))))
  refine lc (vP b8 0) ?_
  refine lv (v := (vL RX (rp) rcX)) (rLoad 4 rfl rfl (by kernel_rfl) rfl rfl) ?_
  refine li rfl ?_
  refine opK0 (fun w hM => (rsEncode_big RX rcX rp w (hM.keep0 (j := 5) rfl (fun _ h => own3_row h)) ((Ro.and (hM.keep0 (j := 8) rfl (fun w h => h)) (rb.go0 hM)).imp (fun w h => hinv.src.ok h.1 h.2)) (hrfit) (by intro h0; rw [hrl] at h0; rw [encA, if_pos h0] at hsz; simp at hsz) (by rw [hrp']; exact hsz) (by rw [hrp']; have h := encA_le (replyA its fan leaf ps) (by omega); omega)).mono ?_)
  rintro e w' ⟨rfl, hP⟩
  refine ⟨_, _, rfl, hP, ?_⟩; clear hP hM
  refine lm ?_
  refine lc (.slice none 0 0) ?_
  refine lc (.int .i64 2) ?_
  refine la ?_
  refine la ?_
  refine liNil (qThen (stSeq (stSeq ?_)))
  refine St.to [cSet nm (S), cSet om (S2), cP R24 (pvs24) rc24, cBag (L24), cAt b8 85 [(vL RX (rp) rcX), (vL NX (nl) ncX), (vL OX (ol) ocX)], cP RX (rp) rcX, cS NX (nl) ncX, cS OX (ol) ocX, cBag (LX)] (by kernel_rfl) ?_
  refine reg ?_
  refine lm ?_
  refine lc (.bool true) ?_
  refine liNil (qThen (stTrue rfl (stSeq (reg ?_))))
  refine lm ?_
  refine la ?_
  refine la ?_
  refine liNil (qThen (stRet (qThenR ?_)))
  refine stEnd [(.slice none 0 0), (.int .i64 2)] rfl ⟨rfl, rfl, trivial⟩ (fun w hM => ?_)
  exact ⟨rfl, (hM.pick [0, 1] rfl rfl)⟩
theorem rsStep_ok (bs : Nat) (A : Option Addr) (c : Nat) (its : List (List UInt8)) (fan : Nat) (leaf : Nat) (nm : Nat) (om : Nat) (A1 : Option Addr) (c1 : Nat) (D : List UInt8) (S : List (List UInt8)) (S2 : List (List UInt8)) (ps : List AP) (w : World) (hO : Own [cSet nm (S), cSet om (S2)] w) (r0 : Rf [cSet nm (S), cSet om (S2)] w (Vars)) (r1 : Rf [cSet nm (S), cSet om (S2)] w (SessAt bs A c its fan leaf nm om)) (r2 : Rf [cSet nm (S), cSet om (S2)] w (fun w => RowIn w A1 (B8 D))) (hs : okSet its) (hn : its.length ≤ 1000) (hcap : its.length ≤ c) (h40 : its.length ≤ 40) (hf : 2 ≤ fan) (hf2 : fan ≤ 16) (hl1 : 1 ≤ leaf) (hl2 : leaf ≤ 64) (hD : D.length ≤ 1048576) (hS : S.length ≤ 549755813888) (hT : S2.length ≤ 549755813888) (hne : ¬ D.length = 0) (hd : decA D = some ps) (hsz : (encA (replyA its fan leaf ps)).length ≤ 1048576) :
  Calls Tryz.prog 17 #[(vP bs 0), (vL A1 D c1)] w fun e w' => ∃ (B : Option Addr) (cb : Nat), e = .returned (.tuple #[(vL B (encA (replyA its fan leaf ps)) cb), (.int .i64 0)]) ∧ Back [cSet nm (S), cSet om (S2)] w [cSet nm (S ++ ps.flatMap (needA its)), cSet om (S2 ++ ps.flatMap (offA its)), cB B (encA (replyA its fan leaf ps)) cb] w' := by
 have ra := r1.imp (fun _ h => h.1)
 have rb := r1.imp (fun _ h => h.2)
 have _u0 := r0
 have _u1 := r1
 have _u2 := r2
 have _u3 := hs
 have _u4 := hn
 have _u5 := hcap
 have _u6 := h40
 have _u7 := hf
 have _u8 := hf2
 have _u9 := hl1
 have _u10 := hl2
 have _u11 := hD
 have _u12 := hS
 have _u13 := hT
 have _u14 := hne
 have _u15 := hd
 have _u16 := hsz
 clear _u0 _u1 _u2 _u3 _u4 _u5 _u6 _u7 _u8 _u9 _u10 _u11 _u12 _u13 _u14 _u15 _u16
 refine stEnter (args := [(vP bs 0), (vL A1 D c1)]) (fps [cSet nm (S), cSet om (S2)]) Tryz.func17 rfl 110 rfl [(0, (vP bs 0)), (1, (vL A1 D c1))] ⟨rfl, rfl, trivial⟩ [cSet nm (S), cSet om (S2)] (hO) ?_
 refine stSeq (reg ?_)
 refine la ?_
 refine la ?_
 refine liNil (qThen (stSeq (stSeq (reg ?_))))
 refine lm ?_
 refine lc (vI D.length) ?_
 refine lc (.bool ((((D.length : Nat) : Int) : Int) == 0)) ?_
 refine liNil (qThen ?_)
 refine stFalseK rfl (by simpa using hne) ?_
 refine stSkip (qThen (stSeq (reg ?_)))
 refine lm ?_
 refine li rfl ?_
 refine opK0 (fun w hM => (rsDecode_ok A1 c1 D ps w (r2.go0 hM) (by assumption) (by assumption)).mono ?_)
 rintro e w' ⟨R24, rc24, pvs24, L24, rfl, hP, heq24, hsrc24⟩
 refine ⟨_, _, rfl, hP, ?_⟩; clear hP hM
 obtain ⟨_, hmsg, hpl⟩ := decA_sound hd
 have hok : ∀ p ∈ ps, p.ok := hmsg.2.1
 have hpl2 : pvs24.length = ps.length := by rw [← heq24, List.length_map]
 refine lm ?_
 refine lc (vL R24 (pvs24) rc24) ?_
 refine lc (.int .i64 0) ?_
 refine la ?_
 refine la ?_
 refine liNil (qThen (stSeq (stSeq (reg ?_))))
 refine lm ?_
 refine lc (.bool false) ?_
 refine liNil (qThen (stFalse rfl (stSkip (qThen (stSeq (reg (li rfl ?_)))))))
 refine opAlloc [(.slice none 0 0), (.slice none 0 0), (.slice none 0 0)] rfl rfl (by kernel_rfl) (by kernel_rfl) (fun b8 => ?_)
 refine liNil (qThen (stSeq (stSeq (reg ?_))))
 refine lm ?_
 refine lc (vI ((pvs24).length)) ?_
 refine lm ?_
 refine liNil (qThen (stBlock ?_))
 refine St.mem (fun w hM => hM.nilOwn 76 3) ?_
 refine St.mem (fun w hM => hM.nilOwn 9 1) ?_
 refine St.mem (fun w hM => hM.nilOwn 9 1) ?_
 refine St.mem (fun w hM => Mm.noBag hM) ?_
 refine stLoop (ι := Nat × Option Addr × Nat × List PV × Option Addr × Nat × List (List UInt8) × Option Addr × Nat × List (List UInt8) × List (Option Addr × List (List UInt8))) (fun (i, RX, rcX, rp, NX, ncX, nl, OX, ocX, ol, LX) => StepInv its fan leaf A pvs24 i rp nl ol LX) (fun (i, RX, rcX, rp, NX, ncX, nl, OX, ocX, ol, LX) => pvs24.length - i) (fun (i, RX, rcX, rp, NX, ncX, nl, OX, ocX, ol, LX) => [(0, (vP bs 0)), (4, (.slice none 0 0)), (5, (.int .i64 0)), (7, (.int .i64 0)), (8, (vP b8 0)), (30, (vL R24 (pvs24) rc24)), (31, (vI ((pvs24).length))), (32, (vI i))]) (fun (i, RX, rcX, rp, NX, ncX, nl, OX, ocX, ol, LX) => [cSet nm (S), cSet om (S2), cP R24 (pvs24) rc24, cBag (L24), cAt b8 85 [(vL RX (rp) rcX), (vL NX (nl) ncX), (vL OX (ol) ocX)], cP RX (rp) rcX, cS NX (nl) ncX, cS OX (ol) ocX, cBag (LX)]) (0, none, 0, noPV, none, 0, noB2, none, 0, noB2, []) StepInv.zero ⟨rfl, rfl, rfl, rfl, rfl, rfl, rfl, rfl, trivial⟩ (fun w hM => by show Mm _ _ [cSet nm (S), cSet om (S2), cP R24 (pvs24) rc24, cBag (L24), cAt b8 85 [(vL none (noPV) 0), (vL none (noB2) 0), (vL none (noB2) 0)], cP none (noPV) 0, cS none (noB2) 0, cS none (noB2) 0, cBag ([])] w; exact hM) ?_
 rintro ⟨i, RX, rcX, rp, NX, ncX, nl, OX, ocX, ol, LX⟩ (hinv : StepInv its fan leaf A pvs24 i rp nl ol LX)
 show St _ _ _ [(0, (vP bs 0)), (4, (.slice none 0 0)), (5, (.int .i64 0)), (7, (.int .i64 0)), (8, (vP b8 0)), (30, (vL R24 (pvs24) rc24)), (31, (vI ((pvs24).length))), (32, (vI i))] [cSet nm (S), cSet om (S2), cP R24 (pvs24) rc24, cBag (L24), cAt b8 85 [(vL RX (rp) rcX), (vL NX (nl) ncX), (vL OX (ol) ocX)], cP RX (rp) rcX, cS NX (nl) ncX, cS OX (ol) ocX, cBag (LX)] _
 refine stSeq (reg ?_)
 refine lc (.bool (decide (((i : Nat) : Int) < (((pvs24).length : Nat) : Int)))) ?_
 refine liNil (qThen (stSeq ?_))
 refine stCond rfl (fun hc33 => ?_) (fun hc33 => ?_)
 ·have hd33 := of_decide_eq_true hc33
  have hil := hinv.le; have hil1 := hinv.len1; have hil2 := hinv.len2; have hil3 := hinv.len3
  refine stSkip (qThen (stSeq (stBlock (stSeq (reg ?_)))))
  obtain ⟨x0, hx0⟩ : ∃ ξ, (pvs24)[i]? = some ξ := ⟨_, List.getElem?_eq_getElem (by omega)⟩
  refine St.partPtr (fun w hM => rowOwn3 (i := 2) rfl w hM) hx0 (fun p34 q34 hA34 hc34 => ?_)
  refine lv (v := (vP p34 (q34 + i * 3))) (rIndexRow3 (e := 76) rfl (by kernel_rfl) (by kernel_rfl) rfl rfl hA34 (by omega)) ?_
  refine lv (v := (.agg #[(vS x0.lo), (vS x0.hi), x0.c.val])) (rLoadA [(vS x0.lo), (vS x0.hi), x0.c.val] rfl rfl (by kernel_rfl) (by kernel_rfl) (hc34)) ?_
  refine li rfl ?_
  refine opAlloc [(.string ⟨#[]⟩), (.string ⟨#[]⟩), .nilIface] rfl rfl (by kernel_rfl) (by kernel_rfl) (fun b10 => ?_)
  refine li rfl ?_
  refine opStoreN 9 [(vS x0.lo), (vS x0.hi), x0.c.val] (vs := [(vS x0.lo), (vS x0.hi), x0.c.val]) rfl rfl (by kernel_rfl) rfl rfl rfl (by kernel_rfl) rfl (by simp) (PV.one x0) rfl ?_
  refine liNil (qThen (stSeq (reg ?_)))
  refine lc (vP b10 2) ?_
  refine lv (v := x0.c.val) (rLoad 9 rfl rfl (by kernel_rfl) rfl rfl) ?_
  refine liNil (qThen (stBlock (stSeq ?_)))
  refine St.to [cSet nm (S), cSet om (S2), cP R24 (pvs24) rc24, cBag (L24), cAt b8 85 [(vL RX (rp) rcX), (vL NX (nl) ncX), (vL OX (ol) ocX)], cP RX (rp) rcX, cS NX (nl) ncX, cS OX (ol) ocX, cBag (LX), cAt b10 76 [(vS x0.lo), (vS x0.hi), x0.c.val]] (by kernel_rfl) ?_
  have hp0 : x0.abs.ok := hok _ (by rw [← heq24]; exact List.mem_map_of_mem (List.mem_of_getElem? hx0))
  obtain ⟨xlo, xhi, xc⟩ := x0
  cases xc with
  | sum xn xf =>
   refine St.to [cSet nm (S), cSet om (S2), cP R24 (pvs24) rc24, cBag (L24), cAt b8 85 [(vL RX (rp) rcX), (vL NX (nl) ncX), (vL OX (ol) ocX)], cP RX (rp) rcX, cS NX (nl) ncX, cS OX (ol) ocX, cBag (LX), cAt b10 76 [(vS xlo), (vS xhi), (.iface 71 (.agg #[(vI xn), (vS xf)]))]] (by kernel_rfl) ?_
   refine reg ?_
   refine lc (.tuple #[(.agg #[(vI xn), (vS xf)]), (.bool true)]) ?_
   refine lc (.bool true) ?_
   refine lc (.agg #[(vI xn), (vS xf)]) ?_
   refine liNil (qThen (stTrue rfl (stSeq (reg (li rfl ?_)))))
   refine opAlloc [(.int .i64 0), (.string ⟨#[]⟩)] rfl rfl (by kernel_rfl) (by kernel_rfl) (fun b11 => ?_)
   refine li rfl ?_
   refine opStoreN 10 [(vI xn), (vS xf)] (vs := [(vI xn), (vS xf)]) rfl rfl (by kernel_rfl) rfl rfl rfl (by kernel_rfl) rfl (by simp) (by simp [Value.oneCell']) rfl ?_
   refine liNil (qThen (reg ?_))
   refine lm ?_
   refine lc (vP b10 0) ?_
   refine lv (v := (.agg #[(vS xlo), (vS xhi)])) (rLoadA [(vS xlo), (vS xhi)] rfl rfl (by kernel_rfl) (by kernel_rfl) (segAt (i := 9) rfl (by intro j v hj; first | (rw [Nat.zero_add]; exact hj) | (match j, hj with | 0, h => exact h | 1, h => exact h)))) ?_
   refine lv (v := (.agg #[(vI xn), (vS xf)])) (rLoadA [(vI xn), (vS xf)] rfl rfl (by kernel_rfl) (by kernel_rfl) (segAt (i := 10) rfl (by intro j v hj; first | (rw [Nat.zero_add]; exact hj) | (match j, hj with | 0, h => exact h | 1, h => exact h)))) ?_
   refine li rfl ?_
   refine opK [4, 5] [cAt b8 85 [(vL RX (rp) rcX), (vL NX (nl) ncX), (vL OX (ol) ocX)], cP RX (rp) rcX] (fun w hM hO => (rsCompare_any bs A c its fan leaf nm om xlo xhi xn xf b8 RX rcX rp (vL NX (nl) ncX) (vL OX (ol) ocX) w hO (r0.goS hM [4, 5]) (r1.goS hM [4, 5]) (by assumption) (by assumption) (by assumption) (by omega) (by omega) (by omega) (by omega) (by omega)).mono ?_)
   rintro e w' ⟨R245, rc245, ps245, rfl, hP, heq45, hsrc45⟩
   refine ⟨_, [cAt b8 85 [(vL R245 (rp ++ ps245) rc245), (vL NX (nl) ncX), (vL OX (ol) ocX)], cP R245 (rp ++ ps245) rc245], _, rfl, hP, rfl, ?_⟩; clear hP hM hO
   refine liNil (qBlock (qBlock (qThen (reg ?_))))
   refine lv (v := (vI (i + 1))) (rAdd _ rfl rfl rfl (by omega) (by omega) (by omega)) ?_
   refine lm ?_
   refine liNil (qThen ?_)
   have hnext : StepInv its fan leaf A pvs24 (i + 1) (rp ++ ps245) nl ol LX := hinv.sum hx0 heq45 hsrc45 (repA_ok hs h40 hf hf2 hl1 hp0)
   exact stAgain (i + 1, R245, rc245, rp ++ ps245, NX, ncX, nl, OX, ocX, ol, LX) (hnext) (by show pvs24.length - (i + 1) < pvs24.length - i; omega) ⟨rfl, rfl, rfl, rfl, rfl, rfl, rfl, rfl, trivial⟩ (fun w hM => (hM.pick [0, 1, 2, 3, 4, 5, 6, 7, 8] rfl rfl))
  | list XA xca xl =>
   refine St.to [cSet nm (S), cSet om (S2), cP R24 (pvs24) rc24, cBag (L24), cAt b8 85 [(vL RX (rp) rcX), (vL NX (nl) ncX), (vL OX (ol) ocX)], cP RX (rp) rcX, cS NX (nl) ncX, cS OX (ol) ocX, cBag (LX), cAt b10 76 [(vS xlo), (vS xhi), (.iface 89 (.agg #[(vL XA xl xca)]))]] (by kernel_rfl) ?_
   have hsx : (XA, xl) ∈ L24 := hsrc24 _ (List.mem_of_getElem? hx0) (XA, xl) (by simp [CV.rows])
   refine reg ?_
   refine lc (.tuple #[(.agg #[(.int .i64 0), (.string ⟨#[]⟩)]), (.bool false)]) ?_
   refine lc (.bool false) ?_
   refine lc (.agg #[(.int .i64 0), (.string ⟨#[]⟩)]) ?_
   refine liNil (qThen (stFalse rfl (stSeq (reg ?_))))
   refine lc (.tuple #[(.agg #[(vL XA xl xca)]), (.bool true)]) ?_
   refine lc (.bool true) ?_
   refine lc (.agg #[(vL XA xl xca)]) ?_
   refine liNil (qThen (stTrue rfl (stSeq (reg (li rfl ?_)))))
   refine opAlloc [(.slice none 0 0)] rfl rfl (by kernel_rfl) (by kernel_rfl) (fun b12 => ?_)
   refine li rfl ?_
   refine opStoreN 10 [(vL XA xl xca)] (vs := [(vL XA xl xca)]) rfl rfl (by kernel_rfl) rfl rfl rfl (by kernel_rfl) rfl (by simp) (by simp [Value.oneCell']) rfl ?_
   refine liNil (qThen (reg ?_))
   refine lm ?_
   refine lc (vP b10 0) ?_
   refine lv (v := (.agg #[(vS xlo), (vS xhi)])) (rLoadA [(vS xlo), (vS xhi)] rfl rfl (by kernel_rfl) (by kernel_rfl) (segAt (i := 9) rfl (by intro j v hj; first | (rw [Nat.zero_add]; exact hj) | (match j, hj with | 0, h => exact h | 1, h => exact h)))) ?_
   refine lv (v := (.agg #[(vL XA xl xca)])) (rLoadA [(vL XA xl xca)] rfl rfl (by kernel_rfl) (by kernel_rfl) (segAt (i := 10) rfl (by intro j v hj; first | (rw [Nat.zero_add]; exact hj) | (match j, hj with | 0, h => exact h)))) ?_
   refine li rfl ?_
   refine opK [4, 5, 6, 7] [cAt b8 85 [(vL RX (rp) rcX), (vL NX (nl) ncX), (vL OX (ol) ocX)], cP RX (rp) rcX, cS NX (nl) ncX, cS OX (ol) ocX] (fun w hM hO => (rsAnswer_any bs A c its fan leaf nm om xlo xhi XA xca xl b8 RX rcX rp NX ncX nl OX ocX ol w hO (r1.goS hM [4, 5, 6, 7]) (hM.keepS [4, 5, 6, 7] (j := 3) rfl (fun w h => (h (XA, xl) hsx).1)) (by assumption) (by assumption) (by assumption) (by omega) (Nat.le_trans hp0.2.1 (by omega)) (fun x hx => Nat.le_trans (Nat.le_of_eq (hp0.2.2.1 x hx)) (by omega)) (by omega) (by omega)).mono ?_)
   rintro e w' ⟨R253, rc253, ps253, N253, nc253, O253, oc253, L253, rfl, hP, heq53, hsrc53⟩
   refine ⟨_, [cAt b8 85 [(vL R253 (rp ++ ps253) rc253), (vL N253 (nl ++ without xl its) nc253), (vL O253 (ol ++ without (inL its xlo xhi) xl) oc253)], cP R253 (rp ++ ps253) rc253, cS N253 (nl ++ without xl its) nc253, cS O253 (ol ++ without (inL its xlo xhi) xl) oc253], _, rfl, hP, rfl, ?_⟩; clear hP hM hO
   refine liNil (qBlock (qBlock (qThen (reg ?_))))
   refine lv (v := (vI (i + 1))) (rAdd _ rfl rfl rfl (by omega) (by omega) (by omega)) ?_
   refine lm ?_
   refine liNil (qThen ?_)
   have hnext : StepInv its fan leaf A pvs24 (i + 1) (rp ++ ps253) (nl ++ without xl its) (ol ++ without (inL its xlo xhi) xl) (LX ++ L253) := hinv.list hx0 heq53 hsrc53 (repA_ok hs h40 hf hf2 hl1 hp0) (needA_len hp0) (offA_len hs h40 hp0)
   exact stAgain (i + 1, R253, rc253, rp ++ ps253, N253, nc253, nl ++ without xl its, O253, oc253, ol ++ without (inL its xlo xhi) xl, LX ++ L253) (hnext) (by show pvs24.length - (i + 1) < pvs24.length - i; omega) ⟨rfl, rfl, rfl, rfl, rfl, rfl, rfl, rfl, trivial⟩ (fun w hM => by show Mm _ _ [cSet nm (S), cSet om (S2), cP R24 (pvs24) rc24, cBag (L24), cAt b8 85 [(vL R253 (rp ++ ps253) rc253), (vL N253 (nl ++ without xl its) nc253), (vL O253 (ol ++ without (inL its xlo xhi) xl) oc253)], cP R253 (rp ++ ps253) rc253, cS N253 (nl ++ without xl its) nc253, cS O253 (ol ++ without (inL its xlo xhi) xl) oc253, cBag (LX ++ L253)] w; exact Mm.join (cs := [cSet nm (S), cSet om (S2), cP R24 (pvs24) rc24, cBag (L24), cAt b8 85 [(vL R253 (rp ++ ps253) rc253), (vL N253 (nl ++ without xl its) nc253), (vL O253 (ol ++ without (inL its xlo xhi) xl) oc253)], cP R253 (rp ++ ps253) rc253, cS N253 (nl ++ without xl its) nc253, cS O253 (ol ++ without (inL its xlo xhi) xl) oc253]) (L := LX) (M := L253) ((hM.pick [0, 1, 2, 3, 4, 5, 6, 7, 8, 11] rfl rfl)))
  | ans XA xca xl XB xcb xm =>
   refine St.to [cSet nm (S), cSet om (S2), cP R24 (pvs24) rc24, cBag (L24), cAt b8 85 [(vL RX (rp) rcX), (vL NX (nl) ncX), (vL OX (ol) ocX)], cP RX (rp) rcX, cS NX (nl) ncX, cS OX (ol) ocX, cBag (LX), cAt b10 76 [(vS xlo), (vS xhi), (.iface 92 (.agg #[(vL XA xl xca), (vL XB xm xcb)]))]] (by kernel_rfl) ?_
   have hsx : (XA, xl) ∈ L24 := hsrc24 _ (List.mem_of_getElem? hx0) (XA, xl) (by simp [CV.rows])
   have hsm : (XB, xm) ∈ L24 := hsrc24 _ (List.mem_of_getElem? hx0) (XB, xm) (by simp [CV.rows])
   refine reg ?_
   refine lc (.tuple #[(.agg #[(.int .i64 0), (.string ⟨#[]⟩)]), (.bool false)]) ?_
   refine lc (.bool false) ?_
   refine lc (.agg #[(.int .i64 0), (.string ⟨#[]⟩)]) ?_
   refine liNil (qThen (stFalse rfl (stSeq (reg ?_))))
   refine lc (.tuple #[(.agg #[(.slice none 0 0)]), (.bool false)]) ?_
   refine lc (.bool false) ?_
   refine lc (.agg #[(.slice none 0 0)]) ?_
   refine liNil (qThen (stFalse rfl (stSeq (reg ?_))))
   refine lc (.tuple #[(.agg #[(vL XA xl xca), (vL XB xm xcb)]), (.bool true)]) ?_
   refine lc (.bool true) ?_
   refine lc (.agg #[(vL XA xl xca), (vL XB xm xcb)]) ?_
   refine liNil (qThen (stTrue rfl (stSeq (reg (li rfl ?_)))))
   refine opAlloc [(.slice none 0 0), (.slice none 0 0)] rfl rfl (by kernel_rfl) (by kernel_rfl) (fun b13 => ?_)
   refine li rfl ?_
   refine opStoreN 10 [(vL XA xl xca), (vL XB xm xcb)] (vs := [(vL XA xl xca), (vL XB xm xcb)]) rfl rfl (by kernel_rfl) rfl rfl rfl (by kernel_rfl) rfl (by simp) (by simp [Value.oneCell']) rfl ?_
   refine liNil (qThen (reg ?_))
   refine lm ?_
   refine lv (v := (.agg #[(vL XA xl xca), (vL XB xm xcb)])) (rLoadA [(vL XA xl xca), (vL XB xm xcb)] rfl rfl (by kernel_rfl) (by kernel_rfl) (segAt (i := 10) rfl (by intro j v hj; first | (rw [Nat.zero_add]; exact hj) | (match j, hj with | 0, h => exact h | 1, h => exact h)))) ?_
   refine li rfl ?_
   refine opK [4, 6, 7] [cAt b8 85 [(vL RX (rp) rcX), (vL NX (nl) ncX), (vL OX (ol) ocX)], cS NX (nl) ncX, cS OX (ol) ocX] (fun w hM hO => (rsLearn_any bs A c its fan leaf nm om XA xca xl XB xcb xm b8 (vL RX (rp) rcX) NX ncX nl OX ocX ol w hO (r1.goS hM [4, 6, 7]) (hM.keepS [4, 6, 7] (j := 3) rfl (fun w h => (h (XA, xl) hsx).1)) (hM.keepS [4, 6, 7] (j := 3) rfl (fun w h => (h (XB, xm) hsm).1)) (by assumption) (by assumption) (Nat.le_trans hp0.2.1.1 (by omega)) (Nat.le_trans hp0.2.2.1 (by omega)) (by omega) (by omega) (rfl)).mono ?_)
   rintro e w' ⟨N259, nc259, O259, oc259, rfl, hP⟩
   refine ⟨_, [cAt b8 85 [(vL RX (rp) rcX), (vL N259 (nl ++ without xl its) nc259), (vL O259 (ol ++ keepIn xm its) oc259)], cS N259 (nl ++ without xl its) nc259, cS O259 (ol ++ keepIn xm its) oc259], _, rfl, hP, rfl, ?_⟩; clear hP hM hO
   refine liNil (qBlock (qBlock (qThen (reg ?_))))
   refine lv (v := (vI (i + 1))) (rAdd _ rfl rfl rfl (by omega) (by omega) (by omega)) ?_
   refine lm ?_
   refine liNil (qThen ?_)
   have hnext : StepInv its fan leaf A pvs24 (i + 1) rp (nl ++ without xl its) (ol ++ keepIn xm its) LX := hinv.ans hx0 (needA_len hp0) (offA_len hs h40 hp0)
   exact stAgain (i + 1, RX, rcX, rp, N259, nc259, nl ++ without xl its, O259, oc259, ol ++ keepIn xm its, LX) (hnext) (by show pvs24.length - (i + 1) < pvs24.length - i; omega) ⟨rfl, rfl, rfl, rfl, rfl, rfl, rfl, rfl, trivial⟩ (fun w hM => (hM.pick [0, 1, 2, 3, 4, 5, 6, 7, 8] rfl rfl))
 ·have hd33 := of_decide_eq_false hc33
  have hil := hinv.le; have hil1 := hinv.len1; have hil2 := hinv.len2; have hil3 := hinv.len3
  obtain rfl : i = pvs24.length := by omega
  have hrp' : rp.map PV.abs = replyA its fan leaf ps := hinv.endR heq24
  have hnl' : nl = ps.flatMap (needA its) := hinv.endN heq24
  have hol' : ol = ps.flatMap (offA its) := hinv.endO heq24
  have hrfit : ∀ p ∈ rp.map PV.abs, p.fit := by rw [hrp']; exact replyA_fit hs h40 hf hf2 hl1 hok
  have hn32 : ∀ x ∈ nl, x.length = 32 := by rw [hnl']; exact flat32m fun p hp => (needA_len (hok p hp)).2
  have ho32 : ∀ x ∈ ol, x.length = 32 := by rw [hol']; exact flat32m fun p hp => (offA_len hs h40 (hok p hp)).2
  have henc := replyA_enc hs h40 hf hf2 hl1 (leaf := leaf) hok
  have hrl : rp.length = (replyA its fan leaf ps).length := by rw [← hrp', List.length_map]
  refine stExit (qThenX (qThenX (qBlockX (qThen (stSeq (reg ?_))))))
  refine lc (vP b8 0) ?_
  refine lv (v := (vL RX (rp) rcX)) (rLoad 4 rfl rfl (by kernel_rfl) rfl rfl) ?_
  refine li rfl ?_
  refine opK0 (fun w hM => (rsEncode_any RX rcX rp w (hM.keep0 (j := 5) rfl (fun _ h => own3_row h)) ((Ro.and (hM.keep0 (j := 8) rfl (fun w h => h)) (rb.go0 hM)).imp (fun w h => hinv.src.ok h.1 h.2)) (hrfit) (by rw [hrp']; exact hsz)).mono ?_)
  rintro e w' ⟨B64, cb64, rfl, hP⟩
  refine ⟨_, _, rfl, hP, ?_⟩; clear hP hM
  rw [show rp.map PV.abs = replyA its fan leaf ps from hrp']
  refine lm ?_
  refine lc (vL B64 (encA (replyA its fan leaf ps)) cb64) ?_
  refine lc (.int .i64 0) ?_
  refine la ?_
  refine la ?_
  refine liNil (qThen (stSeq (stSeq ?_)))
  refine St.to [cSet nm (S), cSet om (S2), cP R24 (pvs24) rc24, cBag (L24), cAt b8 85 [(vL RX (rp) rcX), (vL NX (nl) ncX), (vL OX (ol) ocX)], cP RX (rp) rcX, cS NX (nl) ncX, cS OX (ol) ocX, cBag (LX), cB B64 (encA (replyA its fan leaf ps)) cb64] (by kernel_rfl) ?_
  refine reg ?_
  refine lm ?_
  refine lc (.bool false) ?_
  refine liNil (qThen (stFalse rfl (stSkip (qThen (stSeq (stSeq (reg ?_)))))))
  refine lm ?_
  refine lc (vP bs 0) ?_
  refine lc (vP bs 3) ?_
  refine lv (v := (.map (some nm))) (rLoadW rfl rfl (by kernel_rfl) (fun w hM => At.cell (ra.now hM) 3)) ?_
  refine lc (.bool false) ?_
  refine liNil (qThen (stFalse rfl (stSkip (qThen (stSeq (stSeq (reg ?_)))))))
  refine lc (vP b8 1) ?_
  refine lv (v := (vL NX (nl) ncX)) (rLoad 4 rfl rfl (by kernel_rfl) rfl rfl) ?_
  refine lc (vI ((nl).length)) ?_
  refine lm ?_
  refine liNil (qThen (stBlock ?_))
  refine stLoop (ι := Nat) (fun j => j ≤ nl.length) (fun j => nl.length - j) (fun j => [(0, (vP bs 0)), (4, (.slice none 0 0)), (5, (.int .i64 0)), (8, (vP b8 0)), (14, (vL B64 (encA (replyA its fan leaf ps)) cb64)), (84, (vL NX (nl) ncX)), (85, (vI ((nl).length))), (86, (vI j))]) (fun j => [cSet nm (S ++ nl.take j), cSet om (S2), cP R24 (pvs24) rc24, cBag (L24), cAt b8 85 [(vL RX (rp) rcX), (vL NX (nl) ncX), (vL OX (ol) ocX)], cP RX (rp) rcX, cS NX (nl) ncX, cS OX (ol) ocX, cBag (LX), cB B64 (encA (replyA its fan leaf ps)) cb64]) 0 (Nat.zero_le _) ⟨rfl, rfl, rfl, rfl, rfl, rfl, rfl, rfl, trivial⟩ (fun w hM => by show Mm _ _ [cSet nm (S ++ nl.take 0), cSet om (S2), cP R24 (pvs24) rc24, cBag (L24), cAt b8 85 [(vL RX (rp) rcX), (vL NX (nl) ncX), (vL OX (ol) ocX)], cP RX (rp) rcX, cS NX (nl) ncX, cS OX (ol) ocX, cBag (LX), cB B64 (encA (replyA its fan leaf ps)) cb64] w; rw [List.take_zero, List.append_nil]; exact hM) ?_
  intro j hj
  show St _ _ _ [(0, (vP bs 0)), (4, (.slice none 0 0)), (5, (.int .i64 0)), (8, (vP b8 0)), (14, (vL B64 (encA (replyA its fan leaf ps)) cb64)), (84, (vL NX (nl) ncX)), (85, (vI ((nl).length))), (86, (vI j))] [cSet nm (S ++ nl.take j), cSet om (S2), cP R24 (pvs24) rc24, cBag (L24), cAt b8 85 [(vL RX (rp) rcX), (vL NX (nl) ncX), (vL OX (ol) ocX)], cP RX (rp) rcX, cS NX (nl) ncX, cS OX (ol) ocX, cBag (LX), cB B64 (encA (replyA its fan leaf ps)) cb64] _
  refine stSeq (reg ?_)
  refine lc (.bool (decide (((j : Nat) : Int) < (((nl).length : Nat) : Int)))) ?_
  refine liNil (qThen (stSeq ?_))
  refine stCond rfl (fun hc87 => ?_) (fun hc87 => ?_)
  ·have hd87 := of_decide_eq_true hc87
   refine stSkip (qThen (stSeq (stBlock (stSeq (reg ?_)))))
   obtain ⟨x0, hx0⟩ : ∃ ξ, (nl)[j]? = some ξ := ⟨_, List.getElem?_eq_getElem (by omega)⟩
   refine St.rowPtr (fun w hM => rowOwn (i := 6) rfl w hM) (SS_at hx0) (fun p88 q88 hA88 hc88 => ?_)
   refine lv (v := (vP p88 (q88 + j))) (rIndexRow (e := 9) rfl (by kernel_rfl) (by kernel_rfl) rfl rfl hA88 (by omega)) ?_
   refine lv (v := (vS x0)) (rLoadW rfl rfl (by kernel_rfl) hc88) ?_
   refine la ?_
   refine liNil (qThen (reg ?_))
   refine lm ?_
   refine lc (vP bs 0) ?_
   refine lc (vP bs 3) ?_
   refine lv (v := (.map (some nm))) (rLoadW rfl rfl (by kernel_rfl) (fun w hM => At.cell (ra.now hM) 3)) ?_
   refine lm ?_
   refine li rfl ?_
   refine opSetPut 0 rfl rfl (by kernel_rfl) rfl rfl rfl rfl (by have h := hn32 _ (List.mem_of_getElem? hx0); omega) (by rw [List.length_append, List.length_take]; omega) ?_
   refine liNil (qBlock (qThen (reg ?_)))
   refine lv (v := (vI (j + 1))) (rAdd _ rfl rfl rfl (by omega) (by omega) (by omega)) ?_
   refine lm ?_
   refine liNil (qThen ?_)
   rw [show S ++ nl.take j ++ [x0] = S ++ nl.take (j + 1) from by rw [List.append_assoc, take_snoc hx0]]
   exact stAgain (j + 1) (by show _ ≤ _; omega) (by show nl.length - (j + 1) < nl.length - j; omega) ⟨rfl, rfl, rfl, rfl, rfl, rfl, rfl, rfl, trivial⟩ (fun w hM => hM)
  ·have hd87 := of_decide_eq_false hc87
   obtain rfl : j = nl.length := by omega
   rw [List.take_length]
   refine stExit (qThenX (qThenX (qBlockX (qThen (stSeq (stSeq (reg ?_)))))))
   refine lc (vP b8 2) ?_
   refine lv (v := (vL OX (ol) ocX)) (rLoad 4 rfl rfl (by kernel_rfl) rfl rfl) ?_
   refine lc (vI ((ol).length)) ?_
   refine lm ?_
   refine liNil (qThen (stBlock ?_))
   refine stLoop (ι := Nat) (fun j => j ≤ ol.length) (fun j => ol.length - j) (fun j => [(0, (vP bs 0)), (4, (.slice none 0 0)), (5, (.int .i64 0)), (14, (vL B64 (encA (replyA its fan leaf ps)) cb64)), (97, (vL OX (ol) ocX)), (98, (vI ((ol).length))), (99, (vI j))]) (fun j => [cSet nm (S ++ nl), cSet om (S2 ++ ol.take j), cP R24 (pvs24) rc24, cBag (L24), cAt b8 85 [(vL RX (rp) rcX), (vL NX (nl) ncX), (vL OX (ol) ocX)], cP RX (rp) rcX, cS NX (nl) ncX, cS OX (ol) ocX, cBag (LX), cB B64 (encA (replyA its fan leaf ps)) cb64]) 0 (Nat.zero_le _) ⟨rfl, rfl, rfl, rfl, rfl, rfl, rfl, trivial⟩ (fun w hM => by show Mm _ _ [cSet nm (S ++ nl), cSet om (S2 ++ ol.take 0), cP R24 (pvs24) rc24, cBag (L24), cAt b8 85 [(vL RX (rp) rcX), (vL NX (nl) ncX), (vL OX (ol) ocX)], cP RX (rp) rcX, cS NX (nl) ncX, cS OX (ol) ocX, cBag (LX), cB B64 (encA (replyA its fan leaf ps)) cb64] w; rw [List.take_zero, List.append_nil]; exact hM) ?_
   intro j hj
   show St _ _ _ [(0, (vP bs 0)), (4, (.slice none 0 0)), (5, (.int .i64 0)), (14, (vL B64 (encA (replyA its fan leaf ps)) cb64)), (97, (vL OX (ol) ocX)), (98, (vI ((ol).length))), (99, (vI j))] [cSet nm (S ++ nl), cSet om (S2 ++ ol.take j), cP R24 (pvs24) rc24, cBag (L24), cAt b8 85 [(vL RX (rp) rcX), (vL NX (nl) ncX), (vL OX (ol) ocX)], cP RX (rp) rcX, cS NX (nl) ncX, cS OX (ol) ocX, cBag (LX), cB B64 (encA (replyA its fan leaf ps)) cb64] _
   refine stSeq (reg ?_)
   refine lc (.bool (decide (((j : Nat) : Int) < (((ol).length : Nat) : Int)))) ?_
   refine liNil (qThen (stSeq ?_))
   refine stCond rfl (fun hc100 => ?_) (fun hc100 => ?_)
   ·have hd100 := of_decide_eq_true hc100
    refine stSkip (qThen (stSeq (stBlock (stSeq (reg ?_)))))
    obtain ⟨x0, hx0⟩ : ∃ ξ, (ol)[j]? = some ξ := ⟨_, List.getElem?_eq_getElem (by omega)⟩
    refine St.rowPtr (fun w hM => rowOwn (i := 7) rfl w hM) (SS_at hx0) (fun p101 q101 hA101 hc101 => ?_)
    refine lv (v := (vP p101 (q101 + j))) (rIndexRow (e := 9) rfl (by kernel_rfl) (by kernel_rfl) rfl rfl hA101 (by omega)) ?_
    refine lv (v := (vS x0)) (rLoadW rfl rfl (by kernel_rfl) hc101) ?_
    refine la ?_
    refine liNil (qThen (reg ?_))
    refine lm ?_
    refine lc (vP bs 0) ?_
    refine lc (vP bs 4) ?_
    refine lv (v := (.map (some om))) (rLoadW rfl rfl (by kernel_rfl) (fun w hM => At.cell (ra.now hM) 4)) ?_
    refine lm ?_
    refine li rfl ?_
    refine opSetPut 1 rfl rfl (by kernel_rfl) rfl rfl rfl rfl (by have h := ho32 _ (List.mem_of_getElem? hx0); omega) (by rw [List.length_append, List.length_take]; omega) ?_
    refine liNil (qBlock (qThen (reg ?_)))
    refine lv (v := (vI (j + 1))) (rAdd _ rfl rfl rfl (by omega) (by omega) (by omega)) ?_
    refine lm ?_
    refine liNil (qThen ?_)
    rw [show S2 ++ ol.take j ++ [x0] = S2 ++ ol.take (j + 1) from by rw [List.append_assoc, take_snoc hx0]]
    exact stAgain (j + 1) (by show _ ≤ _; omega) (by show ol.length - (j + 1) < ol.length - j; omega) ⟨rfl, rfl, rfl, rfl, rfl, rfl, rfl, trivial⟩ (fun w hM => hM)
   ·have hd100 := of_decide_eq_false hc100
    obtain rfl : j = ol.length := by omega
    rw [List.take_length]
    refine stExit (qThenX (qThenX (qBlockX (qThen (stSeq (reg ?_))))))
    refine lm ?_
    refine la ?_
    refine la ?_
    refine liNil (qThen (stRet ?_))
    refine stEnd [(vL B64 (encA (replyA its fan leaf ps)) cb64), (.int .i64 0)] rfl ⟨rfl, rfl, trivial⟩ (fun w hM => ?_)
    refine ⟨B64, cb64, rfl, ?_⟩
    rw [← hnl', ← hol']
    exact (hM.pick [0, 1, 9] rfl rfl)
theorem rsStep_any (bs : Nat) (A : Option Addr) (c : Nat) (its : List (List UInt8)) (fan : Nat) (leaf : Nat) (nm : Nat) (om : Nat) (A1 : Option Addr) (c1 : Nat) (D : List UInt8) (S : List (List UInt8)) (S2 : List (List UInt8)) (w : World) (hO : Own [cSet nm (S), cSet om (S2)] w) (r0 : Rf [cSet nm (S), cSet om (S2)] w (Vars)) (r1 : Rf [cSet nm (S), cSet om (S2)] w (SessAt bs A c its fan leaf nm om)) (r2 : Rf [cSet nm (S), cSet om (S2)] w (fun w => RowIn w A1 (B8 D))) (hs : okSet its) (hn : its.length ≤ 1000) (hcap : its.length ≤ c) (h40 : its.length ≤ 40) (hf : 2 ≤ fan) (hf2 : fan ≤ 16) (hl1 : 1 ≤ leaf) (hl2 : leaf ≤ 64) (hD : D.length ≤ 1048576) (hS : S.length ≤ 549755813888) (hT : S2.length ≤ 549755813888) :
  Calls Tryz.prog 17 #[(vP bs 0), (vL A1 D c1)] w fun e w' => ∃ (B : Option Addr) (cb : Nat), e = .returned (.tuple #[(vL B ((stepA its fan leaf D).reply) cb), (.int .i64 (stepA its fan leaf D).err)]) ∧ Back [cSet nm (S), cSet om (S2)] w [cSet nm (S ++ (stepA its fan leaf D).need), cSet om (S2 ++ (stepA its fan leaf D).off), cB B ((stepA its fan leaf D).reply) cb] w' := by
 by_cases h0 : D.length = 0
 ·have e : stepA its fan leaf D = ⟨[], 0, [], []⟩ := by unfold stepA; rw [if_pos (List.eq_nil_of_length_eq_zero h0)]
  refine (rsStep_nil bs A c its fan leaf nm om A1 c1 D S S2 w hO r0 r1 r2 hs hn hcap h40 hf hf2 hl1 hl2 hD hS hT h0).mono ?_
  rintro _ w' ⟨rfl, hB⟩
  rw [e]
  refine ⟨none, 0, rfl, ?_⟩
  rw [List.append_nil, List.append_nil]
  exact hB.nilOwn 5 1
 ·have hDn : ¬ D = [] := fun e => h0 (by rw [e]; rfl)
  cases hd : decA D with
  | none =>
   have e : stepA its fan leaf D = ⟨[], 3, [], []⟩ := by unfold stepA; rw [if_neg hDn, hd]
   refine (rsStep_bad bs A c its fan leaf nm om A1 c1 D S S2 w hO r0 r1 r2 hs hn hcap h40 hf hf2 hl1 hl2 hD hS hT h0 hd).mono ?_
   rintro _ w' ⟨rfl, hB⟩
   rw [e]
   refine ⟨none, 0, rfl, ?_⟩
   rw [List.append_nil, List.append_nil]
   exact hB.nilOwn 5 1
  | some ps =>
   by_cases hsz : 1048576 < (encA (replyA its fan leaf ps)).length
   ·have e : stepA its fan leaf D = ⟨[], 2, [], []⟩ := by unfold stepA; rw [if_neg hDn, hd]; dsimp only; rw [if_pos hsz]
    refine (rsStep_big bs A c its fan leaf nm om A1 c1 D S S2 ps w hO r0 r1 r2 hs hn hcap h40 hf hf2 hl1 hl2 hD hS hT h0 hd hsz).mono ?_
    rintro _ w' ⟨rfl, hB⟩
    rw [e]
    refine ⟨none, 0, rfl, ?_⟩
    rw [List.append_nil, List.append_nil]
    exact hB.nilOwn 5 1
   ·have e : stepA its fan leaf D = ⟨encA (replyA its fan leaf ps), 0, ps.flatMap (needA its), ps.flatMap (offA its)⟩ := by unfold stepA; rw [if_neg hDn, hd]; dsimp only; rw [if_neg hsz]
    rw [e]
    exact rsStep_ok bs A c its fan leaf nm om A1 c1 D S S2 ps w hO r0 r1 r2 hs hn hcap h40 hf hf2 hl1 hl2 hD hS hT h0 hd (by omega)
end Go.Proofs.YtlepfnihpdhcaaaGreatDoor
namespace Go.Proofs.YtlepfnihpdhcaaaGreatDoor
open Go.RowKit
theorem rsRStep_any (A : Option Addr) (c : Nat) (its : List (List UInt8)) (fan : Nat) (leaf : Nat) (NA : Option Addr) (nc : Nat) (N : List (List UInt8)) (OA : Option Addr) (oc : Nat) (O : List (List UInt8)) (A1 : Option Addr) (c1 : Nat) (D : List UInt8) (w : World) (hO : Own [cS NA (withL [] N) nc, cS OA (withL [] O) oc] w) (r0 : Rf [cS NA (withL [] N) nc, cS OA (withL [] O) oc] w (fun w => RowIn w A (SS its))) (r1 : Rf [cS NA (withL [] N) nc, cS OA (withL [] O) oc] w (fun w => RowIn w A1 (B8 D))) (hs : okSet its) (h40 : its.length ≤ 40) (hf : 2 ≤ fan) (hf2 : fan ≤ 16) (hl1 : 1 ≤ leaf) (hl2 : leaf ≤ 64) (hD : D.length ≤ 1048576) (hc : D.length ≤ c1) (hNb : (withL [] N).length ≤ 2000000000) (hOb : (withL [] O).length ≤ 2000000000) (h2 : (stepA its fan leaf D).err ≠ 2) :
  Calls Tryz.prog 18 #[(.agg #[(vL A its c), (vI fan), (vI leaf), (vL NA (withL [] N) nc), (vL OA (withL [] O) oc)]), (vL A1 D c1)] w fun e w' => ∃ (NA2 : Option Addr) (nc2 : Nat) (OA2 : Option Addr) (oc2 : Nat) (B : Option Addr) (cb : Nat), e = .returned (.tuple #[(.agg #[(vL A its c), (vI fan), (vI leaf), (vL NA2 (withL [] (N ++ (stepA its fan leaf D).need)) nc2), (vL OA2 (withL [] (O ++ (stepA its fan leaf D).off)) oc2)]), (vL B ((stepA its fan leaf D).reply) cb), (.int .i64 (stepA its fan leaf D).err)]) ∧ Back [cS NA (withL [] N) nc, cS OA (withL [] O) oc] w [cS NA2 (withL [] (N ++ (stepA its fan leaf D).need)) nc2, cS OA2 (withL [] (O ++ (stepA its fan leaf D).off)) oc2, cB B ((stepA its fan leaf D).reply) cb] w' := by
 refine stEnter (args := [(.agg #[(vL A its c), (vI fan), (vI leaf), (vL NA (withL [] N) nc), (vL OA (withL [] O) oc)]), (vL A1 D c1)]) (fps [cS NA (withL [] N) nc, cS OA (withL [] O) oc]) Tryz.func18 rfl 145 rfl [(0, (.agg #[(vL A its c), (vI fan), (vI leaf), (vL NA (withL [] N) nc), (vL OA (withL [] O) oc)])), (1, (vL A1 D c1))] ⟨rfl, rfl, trivial⟩ [cS NA (withL [] N) nc, cS OA (withL [] O) oc] (hO) ?_
 refine stSeq (reg (li rfl ?_))
 refine opBox [(vL A its c), (vI fan), (vI leaf), (vL NA (withL [] N) nc), (vL OA (withL [] O) oc)] rfl rfl (by kernel_rfl) rfl rfl (fun b2 => ?_)
 refine li rfl ?_
 refine opAlloc [(.slice none 0 0), (.int .i64 0), (.int .i64 0), (.slice none 0 0), (.slice none 0 0)] rfl rfl (by kernel_rfl) (by kernel_rfl) (fun b4 => ?_)
 refine la ?_
 refine la ?_
 refine liNil (qThen (stSeq (stSeq (reg ?_))))
 refine lm ?_
 refine lc (vI D.length) ?_
 refine lc (.bool ((((D.length : Nat) : Int) : Int) == 0)) ?_
 refine liNil (qThen ?_)
 refine stCond rfl (fun hc19 => ?_) (fun hc19 => ?_)
 ·have hnil : D = [] := by have h := hc19; simp at h; exact h
  refine stSeq (reg ?_)
  refine lv (v := (.agg #[(vL A its c), (vI fan), (vI leaf), (vL NA (withL [] N) nc), (vL OA (withL [] O) oc)])) (rLoadA [(vL A its c), (vI fan), (vI leaf), (vL NA (withL [] N) nc), (vL OA (withL [] O) oc)] rfl rfl (by kernel_rfl) (by kernel_rfl) (segAt (i := 2) rfl (by intro j v hj; first | (rw [Nat.zero_add]; exact hj) | (match j, hj with | 0, h => exact h | 1, h => exact h | 2, h => exact h | 3, h => exact h | 4, h => exact h)))) ?_
  refine li rfl ?_
  refine opStoreN 3 [(vL A its c), (vI fan), (vI leaf), (vL NA (withL [] N) nc), (vL OA (withL [] O) oc)] (vs := [(vL A its c), (vI fan), (vI leaf), (vL NA (withL [] N) nc), (vL OA (withL [] O) oc)]) rfl rfl (by kernel_rfl) rfl rfl rfl (by kernel_rfl) rfl (by simp) (by simp [Value.oneCell']) rfl ?_
  refine la ?_
  refine la ?_
  refine liNil (qThen (stRet (qThenR ?_)))
  refine stEnd [(.agg #[(vL A its c), (vI fan), (vI leaf), (vL NA (withL [] N) nc), (vL OA (withL [] O) oc)]), (.slice none 0 0), (.int .i64 0)] rfl ⟨⟨_, rfl, fun w hM => run_loadVarA (by kernel_rfl) (by kernel_rfl) (segAt (i := 3) (off := 0) rfl (by intro j v hj; rw [Nat.zero_add]; exact hj) w hM)⟩, rfl, rfl, trivial⟩ (fun w hM => ?_)
  rw [hnil, stepA_nil]; dsimp only; simp only [List.append_nil]
  exact ⟨NA, nc, OA, oc, none, 0, rfl, ((hM.pick [0, 1] rfl rfl)).nilOwn 5 1⟩
 ·have hne : D ≠ [] := by have h := hc19; simp at h; exact h
  refine stSkip (qThen (stSeq (reg ?_)))
  refine lm ?_
  refine li rfl ?_
  refine opK0 (fun w hM => (rsRDec_any A1 c1 D w (r1.go0 hM) (by assumption) (by assumption)).mono ?_)
  rintro e w' ⟨RX23, rcX23, qs23, LX23, rfl, hP, hqc23, hqr23⟩
  refine ⟨_, _, rfl, hP, ?_⟩; clear hP hM
  refine lm ?_
  refine lc (vL RX23 qs23 rcX23) ?_
  refine lc (.bool (dcOk D)) ?_
  refine la ?_
  refine la ?_
  refine liNil (qThen (stSeq (stSeq ?_)))
  refine St.to [cS NA (withL [] N) nc, cS OA (withL [] O) oc, cAt b2 36 [(vL A its c), (vI fan), (vI leaf), (vL NA (withL [] N) nc), (vL OA (withL [] O) oc)], cAt b4 36 [(.slice none 0 0), (.int .i64 0), (.int .i64 0), (.slice none 0 0), (.slice none 0 0)], cQ RX23 (qs23) rcX23, cBag (LX23)] (by kernel_rfl) ?_
  refine reg ?_
  refine lm ?_
  refine lc (.bool (!(dcOk D))) ?_
  refine liNil (qThen ?_)
  refine stCond rfl (fun hc27 => ?_) (fun hc27 => ?_)
  ·have hbad := stepA_bad (its := its) (fan := fan) (leaf := leaf) hne (dcR_none (by simpa using hc27) hD)
   refine stSeq (reg ?_)
   refine lv (v := (.agg #[(vL A its c), (vI fan), (vI leaf), (vL NA (withL [] N) nc), (vL OA (withL [] O) oc)])) (rLoadA [(vL A its c), (vI fan), (vI leaf), (vL NA (withL [] N) nc), (vL OA (withL [] O) oc)] rfl rfl (by kernel_rfl) (by kernel_rfl) (segAt (i := 2) rfl (by intro j v hj; first | (rw [Nat.zero_add]; exact hj) | (match j, hj with | 0, h => exact h | 1, h => exact h | 2, h => exact h | 3, h => exact h | 4, h => exact h)))) ?_
   refine li rfl ?_
   refine opStoreN 3 [(vL A its c), (vI fan), (vI leaf), (vL NA (withL [] N) nc), (vL OA (withL [] O) oc)] (vs := [(vL A its c), (vI fan), (vI leaf), (vL NA (withL [] N) nc), (vL OA (withL [] O) oc)]) rfl rfl (by kernel_rfl) rfl rfl rfl (by kernel_rfl) rfl (by simp) (by simp [Value.oneCell']) rfl ?_
   refine la ?_
   refine la ?_
   refine liNil (qThen (stRet (qThenR ?_)))
   refine stEnd [(.agg #[(vL A its c), (vI fan), (vI leaf), (vL NA (withL [] N) nc), (vL OA (withL [] O) oc)]), (.slice none 0 0), (.int .i64 3)] rfl ⟨⟨_, rfl, fun w hM => run_loadVarA (by kernel_rfl) (by kernel_rfl) (segAt (i := 3) (off := 0) rfl (by intro j v hj; rw [Nat.zero_add]; exact hj) w hM)⟩, rfl, rfl, trivial⟩ (fun w hM => ?_)
   rw [hbad]; dsimp only; simp only [List.append_nil]
   exact ⟨NA, nc, OA, oc, none, 0, rfl, ((hM.pick [0, 1] rfl rfl)).nilOwn 5 1⟩
  ·obtain ⟨hd, hkk⟩ := dcR_qs hqc23 (by simpa using hc27) hD
   obtain ⟨hsz, hst⟩ := stepA_ok hne hd h2
   have hokp := (decA_sound hd).2.1.2.1
   have hql := parts_le hd hD; rw [List.length_map] at hql
   have hS : SideOk its fan leaf := ⟨hs, h40, hf, hf2, hl1⟩
   refine stSkip (qThen (stSeq (reg ?_)))
   refine lv (v := (.agg #[(vL A its c), (vI fan), (vI leaf), (vL NA (withL [] N) nc), (vL OA (withL [] O) oc)])) (rLoadA [(vL A its c), (vI fan), (vI leaf), (vL NA (withL [] N) nc), (vL OA (withL [] O) oc)] rfl rfl (by kernel_rfl) (by kernel_rfl) (segAt (i := 2) rfl (by intro j v hj; first | (rw [Nat.zero_add]; exact hj) | (match j, hj with | 0, h => exact h | 1, h => exact h | 2, h => exact h | 3, h => exact h | 4, h => exact h)))) ?_
   refine li rfl ?_
   refine opAlloc [(.slice none 0 0), (.int .i64 0), (.int .i64 0), (.slice none 0 0), (.slice none 0 0)] rfl rfl (by kernel_rfl) (by kernel_rfl) (fun b9 => ?_)
   refine li rfl ?_
   refine opStoreN 6 [(vL A its c), (vI fan), (vI leaf), (vL NA (withL [] N) nc), (vL OA (withL [] O) oc)] (vs := [(vL A its c), (vI fan), (vI leaf), (vL NA (withL [] N) nc), (vL OA (withL [] O) oc)]) rfl rfl (by kernel_rfl) rfl rfl rfl (by kernel_rfl) rfl (by simp) (by simp [Value.oneCell']) rfl ?_
   refine liNil (qThen (stSeq (reg ?_)))
   refine la ?_
   refine liNil (qThen (stSeq (stSeq (reg ?_))))
   refine lm ?_
   refine lc (vI qs23.length) ?_
   refine lm ?_
   refine liNil (qThen (stBlock ?_))
   refine St.mem (fun w hM => hM.nilOwn 80 7) ?_
   refine St.mem (fun w hM => Mm.noBag hM) ?_
   refine stLoop (ι := Nat × Option Addr × Nat × List QV × Option Addr × Nat × List (List UInt8) × Option Addr × Nat × List (List UInt8) × RL) (fun (i, RY, rcY, rp, NX, nX, nl, OX, oX, ol, LY) => QInv its fan leaf qs23 i rp nl ol LY) (fun (i, RY, rcY, rp, NX, nX, nl, OX, oX, ol, LY) => qs23.length - i) (fun (i, RY, rcY, rp, NX, nX, nl, OX, oX, ol, LY) => [(2, (vP b2 0)), (4, (vP b4 0)), (5, (.slice none 0 0)), (6, (.int .i64 0)), (9, (vP b9 0)), (30, (vL RX23 qs23 rcX23)), (31, (vI qs23.length)), (10, (vL RY (rp) rcY)), (32, (vI i))]) (fun (i, RY, rcY, rp, NX, nX, nl, OX, oX, ol, LY) => [cS NX (withL [] (N ++ nl)) nX, cS OX (withL [] (O ++ ol)) oX, cAt b2 36 [(vL A its c), (vI fan), (vI leaf), (vL NA (withL [] N) nc), (vL OA (withL [] O) oc)], cAt b4 36 [(.slice none 0 0), (.int .i64 0), (.int .i64 0), (.slice none 0 0), (.slice none 0 0)], cQ RX23 (qs23) rcX23, cBag (LX23), cAt b9 36 [(vL A its c), (vI fan), (vI leaf), (vL NX (withL [] (N ++ nl)) nX), (vL OX (withL [] (O ++ ol)) oX)], cQ RY (rp) rcY, cBag (LY)]) (0, none, 0, [], NA, nc, noB2, OA, oc, noB2, []) QInv.zero ⟨rfl, rfl, rfl, rfl, rfl, rfl, rfl, rfl, rfl, trivial⟩ (fun w hM => by show Mm _ _ [cS NA (withL [] (N ++ noB2)) nc, cS OA (withL [] (O ++ noB2)) oc, cAt b2 36 [(vL A its c), (vI fan), (vI leaf), (vL NA (withL [] N) nc), (vL OA (withL [] O) oc)], cAt b4 36 [(.slice none 0 0), (.int .i64 0), (.int .i64 0), (.slice none 0 0), (.slice none 0 0)], cQ RX23 (qs23) rcX23, cBag (LX23), cAt b9 36 [(vL A its c), (vI fan), (vI leaf), (vL NA (withL [] (N ++ noB2)) nc), (vL OA (withL [] (O ++ noB2)) oc)], cOwn 80 7 none (([]).length) (0) (QS ([])), cBag ([])] w; rw [show N ++ noB2 = N from List.append_nil N, show O ++ noB2 = O from List.append_nil O]; exact hM) ?_
   rintro ⟨i, RY, rcY, rp, NX, nX, nl, OX, oX, ol, LY⟩ (hinv : QInv its fan leaf qs23 i rp nl ol LY)
   show St _ _ _ [(2, (vP b2 0)), (4, (vP b4 0)), (5, (.slice none 0 0)), (6, (.int .i64 0)), (9, (vP b9 0)), (30, (vL RX23 qs23 rcX23)), (31, (vI qs23.length)), (10, (vL RY (rp) rcY)), (32, (vI i))] [cS NX (withL [] (N ++ nl)) nX, cS OX (withL [] (O ++ ol)) oX, cAt b2 36 [(vL A its c), (vI fan), (vI leaf), (vL NA (withL [] N) nc), (vL OA (withL [] O) oc)], cAt b4 36 [(.slice none 0 0), (.int .i64 0), (.int .i64 0), (.slice none 0 0), (.slice none 0 0)], cQ RX23 (qs23) rcX23, cBag (LX23), cAt b9 36 [(vL A its c), (vI fan), (vI leaf), (vL NX (withL [] (N ++ nl)) nX), (vL OX (withL [] (O ++ ol)) oX)], cQ RY (rp) rcY, cBag (LY)] _
   refine stSeq (reg ?_)
   refine lc (.bool (decide (((i : Nat) : Int) < ((qs23.length : Nat) : Int)))) ?_
   refine liNil (qThen (stSeq ?_))
   refine stCond rfl (fun hc33 => ?_) (fun hc33 => ?_)
   ·have hd33 := of_decide_eq_true hc33
    have hil1 := hinv.len1; have hil2 := hinv.len2; have hil3 := hinv.len3; have hile := hinv.le
    have hlt : i < qs23.length := by have := of_decide_eq_true hc33; omega
    have hwN := withL_le N nl; have hwO := withL_le O ol
    refine stSkip (qThen (stSeq (stBlock (stSeq (reg ?_)))))
    obtain ⟨x0, hx0⟩ : ∃ ξ, (qs23)[i]? = some ξ := ⟨_, List.getElem?_eq_getElem (by omega)⟩
    refine St.qPtr (fun w hM => rowOwn3 (i := 4) rfl w hM) hx0 (fun p34 q34 hA34 hc34 => ?_)
    refine lv (v := (vP p34 (q34 + i * 7))) (rIndexRowK (e := 80) rfl (by kernel_rfl) (by kernel_rfl) rfl rfl hA34 (by omega)) ?_
    refine lv (v := (.agg #[(vS x0.lo), (vS x0.hi), (vI x0.k), (vI x0.n), (vS x0.f), (vL x0.A x0.xs (x0.c)), (vL x0.B x0.ms (x0.d))])) (rLoadA [(vS x0.lo), (vS x0.hi), (vI x0.k), (vI x0.n), (vS x0.f), (vL x0.A x0.xs (x0.c)), (vL x0.B x0.ms (x0.d))] rfl rfl (by kernel_rfl) (by kernel_rfl) (hc34)) ?_
    refine li rfl ?_
    refine opAlloc [(.string ⟨#[]⟩), (.string ⟨#[]⟩), (.int .i64 0), (.int .i64 0), (.string ⟨#[]⟩), (.slice none 0 0), (.slice none 0 0)] rfl rfl (by kernel_rfl) (by kernel_rfl) (fun b12 => ?_)
    refine li rfl ?_
    refine opStoreN 9 [(vS x0.lo), (vS x0.hi), (vI x0.k), (vI x0.n), (vS x0.f), (vL x0.A x0.xs (x0.c)), (vL x0.B x0.ms (x0.d))] (vs := [(vS x0.lo), (vS x0.hi), (vI x0.k), (vI x0.n), (vS x0.f), (vL x0.A x0.xs (x0.c)), (vL x0.B x0.ms (x0.d))]) rfl rfl (by kernel_rfl) rfl rfl rfl (by kernel_rfl) rfl (by simp) (QV.one x0) rfl ?_
    refine liNil (qThen (stSeq ?_))
    have hp0 : x0.abs.ok := hokp _ (List.mem_map_of_mem (List.mem_of_getElem? hx0))
    have hil := inL_len its x0.lo x0.hi; have hfl := inL_flat hs x0.lo x0.hi
    refine reg ?_
    refine lc (vP b2 0) ?_
    refine lv (v := (vL A its c)) (rLoad 2 rfl rfl (by kernel_rfl) rfl rfl) ?_
    refine lc (vP b12 0) ?_
    refine lv (v := (vS x0.lo)) (rLoad 9 rfl rfl (by kernel_rfl) rfl rfl) ?_
    refine lc (vP b12 1) ?_
    refine lv (v := (vS x0.hi)) (rLoad 9 rfl rfl (by kernel_rfl) rfl rfl) ?_
    refine li rfl ?_
    refine opK0 (fun w hM => (rsIn_any A c its x0.lo x0.hi w (r0.go0 hM) (by omega)).mono ?_)
    rintro e w' ⟨B42, cb42, rfl, hP⟩
    refine ⟨_, _, rfl, hP, ?_⟩; clear hP hM
    refine la ?_
    refine liNil (qThen (stSeq (reg ?_)))
    refine lc (vP b12 2) ?_
    refine lv (v := (vI x0.k)) (rLoad 9 rfl rfl (by kernel_rfl) rfl rfl) ?_
    refine liNil (qThen (stBlock (stSeq (reg ?_))))
    refine lc (.bool ((((x0.k : Nat) : Int) : Int) == 1)) ?_
    refine la ?_
    refine liNil (qThen ?_)
    refine stCond rfl (fun hc45 => ?_) (fun hc45 => ?_)
    ·have hk1 : x0.k = 1 := eqb_yes hc45
     refine stSeq (stSeq ?_)
     refine anyBegin [cS NX (withL [] (N ++ nl)) nX, cS OX (withL [] (O ++ ol)) oX, cAt b2 36 [(vL A its c), (vI fan), (vI leaf), (vL NA (withL [] N) nc), (vL OA (withL [] O) oc)], cAt b4 36 [(.slice none 0 0), (.int .i64 0), (.int .i64 0), (.slice none 0 0), (.slice none 0 0)], cQ RX23 (qs23) rcX23, cBag (LX23), cAt b9 36 [(vL A its c), (vI fan), (vI leaf), (vL NX (withL [] (N ++ nl)) nX), (vL OX (withL [] (O ++ ol)) oX)], cQ RY (rp) rcY, cBag (LY), cAt b12 80 [(vS x0.lo), (vS x0.hi), (vI x0.k), (vI x0.n), (vS x0.f), (vL x0.A x0.xs (x0.c)), (vL x0.B x0.ms (x0.d))], cS B42 (inL its x0.lo x0.hi) cb42] 12 (by kernel_rfl) (fun _ h => h) ?_
     refine ac 0 (vP b12 3) ?_
     refine av 1 (vI x0.n) rfl (rLoad 9 rfl rfl (by kernel_rfl) rfl rfl) ?_
     refine am 2 ?_
     refine ac 3 (vI ((inL its x0.lo x0.hi).length)) ?_
     refine ac 4 (.bool ((((x0.n : Nat) : Int) : Int) == (((inL its x0.lo x0.hi).length : Nat) : Int))) ?_
     refine am 5 ?_
     refine Any.dec 52 rfl (fun hc52 => ?_) (fun hc52 => ?_)
     ·have hn52 : (inL its x0.lo x0.hi).length = x0.n := by have h := hc52; simp at h; omega
      refine agc 6 (vP b12 4) ?_
      refine agv 7 (vS x0.f) rfl (rLoad 9 rfl rfl (by kernel_rfl) rfl rfl) ?_
      refine agm 8 ?_
      refine a1g 9 ?_
      refine opK0 (fun w hM => (rsRefFp_any B42 cb42 (inL its x0.lo x0.hi) w (hM.keep0 (j := 10) rfl (fun _ h => RowIn.of_own h)) (by omega) (by omega)).mono ?_)
      rintro e w' ⟨rfl, hP⟩
      refine ⟨_, _, rfl, hP, ?_⟩; clear hP hM
      refine anyNext [cS NX (withL [] (N ++ nl)) nX, cS OX (withL [] (O ++ ol)) oX, cAt b2 36 [(vL A its c), (vI fan), (vI leaf), (vL NA (withL [] N) nc), (vL OA (withL [] O) oc)], cAt b4 36 [(.slice none 0 0), (.int .i64 0), (.int .i64 0), (.slice none 0 0), (.slice none 0 0)], cQ RX23 (qs23) rcX23, cBag (LX23), cAt b9 36 [(vL A its c), (vI fan), (vI leaf), (vL NX (withL [] (N ++ nl)) nX), (vL OX (withL [] (O ++ ol)) oX)], cQ RY (rp) rcY, cBag (LY), cAt b12 80 [(vS x0.lo), (vS x0.hi), (vI x0.k), (vI x0.n), (vS x0.f), (vL x0.A x0.xs (x0.c)), (vL x0.B x0.ms (x0.d))], cS B42 (inL its x0.lo x0.hi) cb42] (fun _ h => h) (fun _ h => h) ?_
      refine agv 10 (.bool (decide (x0.f = (fpB (inL its x0.lo x0.hi))))) rfl (rStrEq rfl rfl rfl) ?_
      refine ac 11 (.bool (decide (x0.f = (fpB (inL its x0.lo x0.hi))))) ?_
      refine anyDone (by kernel_rfl) ?_
      refine qThen ?_
      refine stCond rfl (fun hc58 => ?_) (fun hc58 => ?_)
      ·have hd58 := of_decide_eq_true hc58
       have he : (inL its x0.lo x0.hi).length = x0.n ∧ fpB (inL its x0.lo x0.hi) = x0.f := ⟨hn52, (of_decide_eq_true hc58).symm⟩
       refine stExit (qThenX (qBlockY rfl (qBlockX (qThen ?_))))
       refine St.to [cS NX (withL [] (N ++ nl)) nX, cS OX (withL [] (O ++ ol)) oX, cAt b2 36 [(vL A its c), (vI fan), (vI leaf), (vL NA (withL [] N) nc), (vL OA (withL [] O) oc)], cAt b4 36 [(.slice none 0 0), (.int .i64 0), (.int .i64 0), (.slice none 0 0), (.slice none 0 0)], cQ RX23 (qs23) rcX23, cBag (LX23), cAt b9 36 [(vL A its c), (vI fan), (vI leaf), (vL NX (withL [] (N ++ nl)) nX), (vL OX (withL [] (O ++ ol)) oX)], cQ RY (rp) rcY, cBag (LY), cAt b12 80 [(vS x0.lo), (vS x0.hi), (vI x0.k), (vI x0.n), (vS x0.f), (vL x0.A x0.xs (x0.c)), (vL x0.B x0.ms (x0.d))], cS B42 (inL its x0.lo x0.hi) cb42] (by kernel_rfl) ?_
       refine reg ?_
       refine lv (v := (vI (i + 1))) (rAdd _ rfl rfl rfl (by omega) (by omega) (by omega)) ?_
       refine lm ?_
       refine liNil (qThen ?_)
       have hnext := hinv.sum0 hS hx0 hp0 hk1 he
       exact stAgain (i + 1, RY, rcY, rp, NX, nX, nl, OX, oX, ol, LY) (hnext) (by show qs23.length - (i + 1) < qs23.length - i; omega) ⟨rfl, rfl, rfl, rfl, rfl, rfl, rfl, rfl, rfl, trivial⟩ (fun w hM => (hM.pick [0, 1, 2, 3, 4, 5, 6, 7, 8] rfl rfl))
      ·have hd58 := of_decide_eq_false hc58
       have he : ¬ ((inL its x0.lo x0.hi).length = x0.n ∧ fpB (inL its x0.lo x0.hi) = x0.f) := fun h => of_decide_eq_false hc58 h.2.symm
       refine stSkip (qThen (stSeq (reg ?_)))
       refine lm ?_
       refine lc (vI ((inL its x0.lo x0.hi).length)) ?_
       refine lc (vP b2 1) ?_
       refine lc (vP b2 2) ?_
       refine lv (v := (vI leaf)) (rLoad 2 rfl rfl (by kernel_rfl) rfl rfl) ?_
       refine lc (.bool (decide ((((inL its x0.lo x0.hi).length : Nat) : Int) ≤ ((leaf : Nat) : Int)))) ?_
       refine liNil (qThen ?_)
       refine stCond rfl (fun hc64 => ?_) (fun hc64 => ?_)
       ·have hd64 := of_decide_eq_true hc64
        have hle : (inL its x0.lo x0.hi).length ≤ leaf := by have := of_decide_eq_true hc64; omega
        refine reg ?_
        refine lm ?_
        refine lc (vP b12 0) ?_
        refine lv (v := (vS x0.lo)) (rLoad 9 rfl rfl (by kernel_rfl) rfl rfl) ?_
        refine lc (vP b12 1) ?_
        refine lv (v := (vS x0.hi)) (rLoad 9 rfl rfl (by kernel_rfl) rfl rfl) ?_
        refine lm ?_
        refine lc (.agg #[(vS x0.lo), (vS x0.hi), (.int .i64 2), (.int .i64 0), (.string ⟨#[]⟩), (vL B42 (inL its x0.lo x0.hi) cb42), (.slice none 0 0)]) ?_
        refine li rfl ?_
        refine opNew (v := fun b => .slice (some ⟨b, 0, none⟩) 1 1) 80 [(vS x0.lo), (vS x0.hi), (.int .i64 2), (.int .i64 0), (.string ⟨#[]⟩), (vL B42 (inL its x0.lo x0.hi) cb42), (.slice none 0 0)] rfl (by kernel_rfl) (fun _ => by kernel_rfl) (fun b72 => ?_)
        refine li rfl ?_
        refine opAppend el_qpart 7 ([(vS x0.lo), (vS x0.hi), (.int .i64 2), (.int .i64 0), (.string ⟨#[]⟩), (vL B42 (inL its x0.lo x0.hi) cb42), (.slice none 0 0)]) rfl rfl (by kernel_rfl) rfl rfl rfl (rfl) (srcAt (i := 11) rfl (fun j v h => by rw [Nat.zero_add]; exact h)) (QV.one (QV.mk x0.lo x0.hi 2 0 [] B42 cb42 (inL its x0.lo x0.hi) none 0 [])) (by omega) ((rp ++ ([QV.mk x0.lo x0.hi 2 0 [] B42 cb42 (inL its x0.lo x0.hi) none 0 []])).length) (by first | exact (List.length_append ..).symm | (simp; done) | (simp; omega)) (QS (rp ++ ([QV.mk x0.lo x0.hi 2 0 [] B42 cb42 (inL its x0.lo x0.hi) none 0 []]))) ((QS_append _ ([QV.mk x0.lo x0.hi 2 0 [] B42 cb42 (inL its x0.lo x0.hi) none 0 []])).symm) (fun A73 c73 => ?_)
        refine la ?_
        refine liNil (qBlock (qBlock (qThen (reg ?_))))
        refine lv (v := (vI (i + 1))) (rAdd _ rfl rfl rfl (by omega) (by omega) (by omega)) ?_
        refine lm ?_
        refine liNil (qThen ?_)
        have hnext := hinv.sum1 hS hx0 hp0 hk1 he hle (B := B42) (cb := cb42)
        exact stAgain (i + 1, A73, c73, rp ++ [QV.mk x0.lo x0.hi 2 0 [] B42 cb42 (inL its x0.lo x0.hi) none 0 []], NX, nX, nl, OX, oX, ol, LY ++ [(B42, inL its x0.lo x0.hi)]) (hnext) (by show qs23.length - (i + 1) < qs23.length - i; omega) ⟨rfl, rfl, rfl, rfl, rfl, rfl, rfl, rfl, rfl, trivial⟩ (fun w hM => ((hM).toBag 10 rfl).joinP [0, 1, 2, 3, 4, 5, 6, 7] 8 10 rfl rfl rfl rfl)
       ·have hd64 := of_decide_eq_false hc64
        have hle : ¬ (inL its x0.lo x0.hi).length ≤ leaf := by have := of_decide_eq_false hc64; omega
        refine reg ?_
        refine lm ?_
        refine lv (v := (.agg #[(vL A its c), (vI fan), (vI leaf), (vL NA (withL [] N) nc), (vL OA (withL [] O) oc)])) (rLoadA [(vL A its c), (vI fan), (vI leaf), (vL NA (withL [] N) nc), (vL OA (withL [] O) oc)] rfl rfl (by kernel_rfl) (by kernel_rfl) (segAt (i := 2) rfl (by intro j v hj; first | (rw [Nat.zero_add]; exact hj) | (match j, hj with | 0, h => exact h | 1, h => exact h | 2, h => exact h | 3, h => exact h | 4, h => exact h)))) ?_
        refine lv (v := (.agg #[(vS x0.lo), (vS x0.hi), (vI x0.k), (vI x0.n), (vS x0.f), (vL x0.A x0.xs (x0.c)), (vL x0.B x0.ms (x0.d))])) (rLoadA [(vS x0.lo), (vS x0.hi), (vI x0.k), (vI x0.n), (vS x0.f), (vL x0.A x0.xs (x0.c)), (vL x0.B x0.ms (x0.d))] rfl rfl (by kernel_rfl) (by kernel_rfl) (segAt (i := 9) rfl (by intro j v hj; first | (rw [Nat.zero_add]; exact hj) | (match j, hj with | 0, h => exact h | 1, h => exact h | 2, h => exact h | 3, h => exact h | 4, h => exact h | 5, h => exact h | 6, h => exact h)))) ?_
        refine li rfl ?_
        refine opK0 (fun w hM => (rsRDiv_any A c its fan leaf NA nc (withL [] N) OA oc (withL [] O) x0.lo x0.hi x0.k x0.n x0.f x0.A x0.c x0.xs x0.B x0.d x0.ms w (r0.go0 hM) (by assumption) (by assumption) (by assumption) (by assumption) (by omega)).mono ?_)
        rintro e w' ⟨B77, cb77, rfl, hP⟩
        refine ⟨_, _, rfl, hP, ?_⟩; clear hP hM
        refine li rfl ?_
        refine opAppend el_qpart 7 (QS (dividQ its fan x0.lo x0.hi)) rfl rfl (by kernel_rfl) rfl rfl rfl (QS_length _) (fun w hM => CellsAt.of_row (rowOwn3 (i := 11) rfl w hM)) (QS_one) (by have := dividQ_len its fan x0.lo x0.hi (by omega); omega) ((rp ++ (dividQ its fan x0.lo x0.hi)).length) (by first | exact (List.length_append ..).symm | (simp; done) | (simp; omega)) (QS (rp ++ (dividQ its fan x0.lo x0.hi))) ((QS_append _ ((dividQ its fan x0.lo x0.hi))).symm) (fun A78 c78 => ?_)
        refine la ?_
        refine liNil (qBlock (qBlock (qThen ?_)))
        refine St.to [cS NX (withL [] (N ++ nl)) nX, cS OX (withL [] (O ++ ol)) oX, cAt b2 36 [(vL A its c), (vI fan), (vI leaf), (vL NA (withL [] N) nc), (vL OA (withL [] O) oc)], cAt b4 36 [(.slice none 0 0), (.int .i64 0), (.int .i64 0), (.slice none 0 0), (.slice none 0 0)], cQ RX23 (qs23) rcX23, cBag (LX23), cAt b9 36 [(vL A its c), (vI fan), (vI leaf), (vL NX (withL [] (N ++ nl)) nX), (vL OX (withL [] (O ++ ol)) oX)], cQ A78 (rp ++ (dividQ its fan x0.lo x0.hi)) c78, cBag (LY), cAt b12 80 [(vS x0.lo), (vS x0.hi), (vI x0.k), (vI x0.n), (vS x0.f), (vL x0.A x0.xs (x0.c)), (vL x0.B x0.ms (x0.d))], cS B42 (inL its x0.lo x0.hi) cb42, cQ B77 (dividQ its fan x0.lo x0.hi) cb77] (by kernel_rfl) ?_
        refine reg ?_
        refine lv (v := (vI (i + 1))) (rAdd _ rfl rfl rfl (by omega) (by omega) (by omega)) ?_
        refine lm ?_
        refine liNil (qThen ?_)
        have hnext := hinv.sum2 hS hx0 hp0 hk1 he hle
        exact stAgain (i + 1, A78, c78, rp ++ dividQ its fan x0.lo x0.hi, NX, nX, nl, OX, oX, ol, LY) (hnext) (by show qs23.length - (i + 1) < qs23.length - i; omega) ⟨rfl, rfl, rfl, rfl, rfl, rfl, rfl, rfl, rfl, trivial⟩ (fun w hM => (hM.pick [0, 1, 2, 3, 4, 5, 6, 7, 8] rfl rfl))
     ·have hn52 : ¬ (inL its x0.lo x0.hi).length = x0.n := by have h := hc52; simp at h; omega
      have he : ¬ ((inL its x0.lo x0.hi).length = x0.n ∧ fpB (inL its x0.lo x0.hi) = x0.f) := fun h => hn52 h.1
      refine anF 6 ?_
      refine anF 7 ?_
      refine anF 8 ?_
      refine anF 9 ?_
      refine anF 10 ?_
      refine ac 11 (.bool false) ?_
      refine anyDone (by kernel_rfl) ?_
      refine qThen (stFalse rfl (stSkip (qThen (stSeq (reg ?_)))))
      refine lm ?_
      refine lc (vI ((inL its x0.lo x0.hi).length)) ?_
      refine lc (vP b2 1) ?_
      refine lc (vP b2 2) ?_
      refine lv (v := (vI leaf)) (rLoad 2 rfl rfl (by kernel_rfl) rfl rfl) ?_
      refine lc (.bool (decide ((((inL its x0.lo x0.hi).length : Nat) : Int) ≤ ((leaf : Nat) : Int)))) ?_
      refine liNil (qThen ?_)
      refine stCond rfl (fun hc64 => ?_) (fun hc64 => ?_)
      ·have hd64 := of_decide_eq_true hc64
       have hle : (inL its x0.lo x0.hi).length ≤ leaf := by have := of_decide_eq_true hc64; omega
       refine reg ?_
       refine lm ?_
       refine lc (vP b12 0) ?_
       refine lv (v := (vS x0.lo)) (rLoad 9 rfl rfl (by kernel_rfl) rfl rfl) ?_
       refine lc (vP b12 1) ?_
       refine lv (v := (vS x0.hi)) (rLoad 9 rfl rfl (by kernel_rfl) rfl rfl) ?_
       refine lm ?_
       refine lc (.agg #[(vS x0.lo), (vS x0.hi), (.int .i64 2), (.int .i64 0), (.string ⟨#[]⟩), (vL B42 (inL its x0.lo x0.hi) cb42), (.slice none 0 0)]) ?_
       refine li rfl ?_
       refine opNew (v := fun b => .slice (some ⟨b, 0, none⟩) 1 1) 80 [(vS x0.lo), (vS x0.hi), (.int .i64 2), (.int .i64 0), (.string ⟨#[]⟩), (vL B42 (inL its x0.lo x0.hi) cb42), (.slice none 0 0)] rfl (by kernel_rfl) (fun _ => by kernel_rfl) (fun b72 => ?_)
       refine li rfl ?_
       refine opAppend el_qpart 7 ([(vS x0.lo), (vS x0.hi), (.int .i64 2), (.int .i64 0), (.string ⟨#[]⟩), (vL B42 (inL its x0.lo x0.hi) cb42), (.slice none 0 0)]) rfl rfl (by kernel_rfl) rfl rfl rfl (rfl) (srcAt (i := 11) rfl (fun j v h => by rw [Nat.zero_add]; exact h)) (QV.one (QV.mk x0.lo x0.hi 2 0 [] B42 cb42 (inL its x0.lo x0.hi) none 0 [])) (by omega) ((rp ++ ([QV.mk x0.lo x0.hi 2 0 [] B42 cb42 (inL its x0.lo x0.hi) none 0 []])).length) (by first | exact (List.length_append ..).symm | (simp; done) | (simp; omega)) (QS (rp ++ ([QV.mk x0.lo x0.hi 2 0 [] B42 cb42 (inL its x0.lo x0.hi) none 0 []]))) ((QS_append _ ([QV.mk x0.lo x0.hi 2 0 [] B42 cb42 (inL its x0.lo x0.hi) none 0 []])).symm) (fun A73 c73 => ?_)
       refine la ?_
       refine liNil (qBlock (qBlock (qThen (reg ?_))))
       refine lv (v := (vI (i + 1))) (rAdd _ rfl rfl rfl (by omega) (by omega) (by omega)) ?_
       refine lm ?_
       refine liNil (qThen ?_)
       have hnext := hinv.sum1 hS hx0 hp0 hk1 he hle (B := B42) (cb := cb42)
       exact stAgain (i + 1, A73, c73, rp ++ [QV.mk x0.lo x0.hi 2 0 [] B42 cb42 (inL its x0.lo x0.hi) none 0 []], NX, nX, nl, OX, oX, ol, LY ++ [(B42, inL its x0.lo x0.hi)]) (hnext) (by show qs23.length - (i + 1) < qs23.length - i; omega) ⟨rfl, rfl, rfl, rfl, rfl, rfl, rfl, rfl, rfl, trivial⟩ (fun w hM => ((hM).toBag 10 rfl).joinP [0, 1, 2, 3, 4, 5, 6, 7] 8 10 rfl rfl rfl rfl)
      ·have hd64 := of_decide_eq_false hc64
       have hle : ¬ (inL its x0.lo x0.hi).length ≤ leaf := by have := of_decide_eq_false hc64; omega
       refine reg ?_
       refine lm ?_
       refine lv (v := (.agg #[(vL A its c), (vI fan), (vI leaf), (vL NA (withL [] N) nc), (vL OA (withL [] O) oc)])) (rLoadA [(vL A its c), (vI fan), (vI leaf), (vL NA (withL [] N) nc), (vL OA (withL [] O) oc)] rfl rfl (by kernel_rfl) (by kernel_rfl) (segAt (i := 2) rfl (by intro j v hj; first | (rw [Nat.zero_add]; exact hj) | (match j, hj with | 0, h => exact h | 1, h => exact h | 2, h => exact h | 3, h => exact h | 4, h => exact h)))) ?_
       refine lv (v := (.agg #[(vS x0.lo), (vS x0.hi), (vI x0.k), (vI x0.n), (vS x0.f), (vL x0.A x0.xs (x0.c)), (vL x0.B x0.ms (x0.d))])) (rLoadA [(vS x0.lo), (vS x0.hi), (vI x0.k), (vI x0.n), (vS x0.f), (vL x0.A x0.xs (x0.c)), (vL x0.B x0.ms (x0.d))] rfl rfl (by kernel_rfl) (by kernel_rfl) (segAt (i := 9) rfl (by intro j v hj; first | (rw [Nat.zero_add]; exact hj) | (match j, hj with | 0, h => exact h | 1, h => exact h | 2, h => exact h | 3, h => exact h | 4, h => exact h | 5, h => exact h | 6, h => exact h)))) ?_
       refine li rfl ?_
       refine opK0 (fun w hM => (rsRDiv_any A c its fan leaf NA nc (withL [] N) OA oc (withL [] O) x0.lo x0.hi x0.k x0.n x0.f x0.A x0.c x0.xs x0.B x0.d x0.ms w (r0.go0 hM) (by assumption) (by assumption) (by assumption) (by assumption) (by omega)).mono ?_)
       rintro e w' ⟨B77, cb77, rfl, hP⟩
       refine ⟨_, _, rfl, hP, ?_⟩; clear hP hM
       refine li rfl ?_
       refine opAppend el_qpart 7 (QS (dividQ its fan x0.lo x0.hi)) rfl rfl (by kernel_rfl) rfl rfl rfl (QS_length _) (fun w hM => CellsAt.of_row (rowOwn3 (i := 11) rfl w hM)) (QS_one) (by have := dividQ_len its fan x0.lo x0.hi (by omega); omega) ((rp ++ (dividQ its fan x0.lo x0.hi)).length) (by first | exact (List.length_append ..).symm | (simp; done) | (simp; omega)) (QS (rp ++ (dividQ its fan x0.lo x0.hi))) ((QS_append _ ((dividQ its fan x0.lo x0.hi))).symm) (fun A78 c78 => ?_)
       refine la ?_
       refine liNil (qBlock (qBlock (qThen ?_)))
       refine St.to [cS NX (withL [] (N ++ nl)) nX, cS OX (withL [] (O ++ ol)) oX, cAt b2 36 [(vL A its c), (vI fan), (vI leaf), (vL NA (withL [] N) nc), (vL OA (withL [] O) oc)], cAt b4 36 [(.slice none 0 0), (.int .i64 0), (.int .i64 0), (.slice none 0 0), (.slice none 0 0)], cQ RX23 (qs23) rcX23, cBag (LX23), cAt b9 36 [(vL A its c), (vI fan), (vI leaf), (vL NX (withL [] (N ++ nl)) nX), (vL OX (withL [] (O ++ ol)) oX)], cQ A78 (rp ++ (dividQ its fan x0.lo x0.hi)) c78, cBag (LY), cAt b12 80 [(vS x0.lo), (vS x0.hi), (vI x0.k), (vI x0.n), (vS x0.f), (vL x0.A x0.xs (x0.c)), (vL x0.B x0.ms (x0.d))], cS B42 (inL its x0.lo x0.hi) cb42, cQ B77 (dividQ its fan x0.lo x0.hi) cb77] (by kernel_rfl) ?_
       refine reg ?_
       refine lv (v := (vI (i + 1))) (rAdd _ rfl rfl rfl (by omega) (by omega) (by omega)) ?_
       refine lm ?_
       refine liNil (qThen ?_)
       have hnext := hinv.sum2 hS hx0 hp0 hk1 he hle
       exact stAgain (i + 1, A78, c78, rp ++ dividQ its fan x0.lo x0.hi, NX, nX, nl, OX, oX, ol, LY) (hnext) (by show qs23.length - (i + 1) < qs23.length - i; omega) ⟨rfl, rfl, rfl, rfl, rfl, rfl, rfl, rfl, rfl, trivial⟩ (fun w hM => (hM.pick [0, 1, 2, 3, 4, 5, 6, 7, 8] rfl rfl))
    ·have hk1 : ¬ x0.k = 1 := eqb_no hc45
     refine stSeq (reg ?_)
     refine lc (.bool ((((x0.k : Nat) : Int) : Int) == 2)) ?_
     refine la ?_
     refine liNil (qThen ?_)
     refine stCond rfl (fun hc79 => ?_) (fun hc79 => ?_)
     ·have hk2 : x0.k = 2 := eqb_yes hc79
      have hq2 := (ok2 hp0 hk2).1
      have hm1 := without_len x0.xs (inL its x0.lo x0.hi); have hm2 := without_len (inL its x0.lo x0.hi) x0.xs
      refine stSeq ?_
      refine anyBegin [cS NX (withL [] (N ++ nl)) nX, cS OX (withL [] (O ++ ol)) oX, cAt b2 36 [(vL A its c), (vI fan), (vI leaf), (vL NA (withL [] N) nc), (vL OA (withL [] O) oc)], cAt b4 36 [(.slice none 0 0), (.int .i64 0), (.int .i64 0), (.slice none 0 0), (.slice none 0 0)], cQ RX23 (qs23) rcX23, cBag (LX23), cAt b9 36 [(vL A its c), (vI fan), (vI leaf), (vL NX (withL [] (N ++ nl)) nX), (vL OX (withL [] (O ++ ol)) oX)], cQ RY (rp) rcY, cBag (LY), cAt b12 80 [(vS x0.lo), (vS x0.hi), (vI x0.k), (vI x0.n), (vS x0.f), (vL x0.A x0.xs (x0.c)), (vL x0.B x0.ms (x0.d))], cS B42 (inL its x0.lo x0.hi) cb42] 10 (by kernel_rfl) (fun _ h => h) ?_
      refine ac 0 (vP b12 5) ?_
      refine av 1 (vL x0.A x0.xs (x0.c)) rfl (rLoad 9 rfl rfl (by kernel_rfl) rfl rfl) ?_
      refine am 2 ?_
      refine am 4 ?_
      refine ac 5 (vP b12 5) ?_
      refine av 6 (vL x0.A x0.xs (x0.c)) rfl (rLoad 9 rfl rfl (by kernel_rfl) rfl rfl) ?_
      refine a1 3 ?_
      refine opK0 (fun w hM => (rsWithout_any x0.A x0.c x0.xs B42 cb42 (inL its x0.lo x0.hi) w (hM.keep0 (j := 5) rfl (fun w h => (hqr23.row h hx0).1)) (hM.keep0 (j := 10) rfl (fun _ h => RowIn.of_own h)) (by omega) (by omega)).mono ?_)
      rintro e w' ⟨B84, cb84, rfl, hP⟩
      refine ⟨_, _, rfl, hP, ?_⟩; clear hP hM
      refine anyNext [cS NX (withL [] (N ++ nl)) nX, cS OX (withL [] (O ++ ol)) oX, cAt b2 36 [(vL A its c), (vI fan), (vI leaf), (vL NA (withL [] N) nc), (vL OA (withL [] O) oc)], cAt b4 36 [(.slice none 0 0), (.int .i64 0), (.int .i64 0), (.slice none 0 0), (.slice none 0 0)], cQ RX23 (qs23) rcX23, cBag (LX23), cAt b9 36 [(vL A its c), (vI fan), (vI leaf), (vL NX (withL [] (N ++ nl)) nX), (vL OX (withL [] (O ++ ol)) oX)], cQ RY (rp) rcY, cBag (LY), cAt b12 80 [(vS x0.lo), (vS x0.hi), (vI x0.k), (vI x0.n), (vS x0.f), (vL x0.A x0.xs (x0.c)), (vL x0.B x0.ms (x0.d))], cS B42 (inL its x0.lo x0.hi) cb42, cS B84 (without x0.xs (inL its x0.lo x0.hi)) cb84] (fun _ h => h.pick [0, 1, 2, 3, 4, 5, 6, 7, 8, 9, 10] rfl rfl) (fun _ h => h) ?_
      refine a1 7 ?_
      refine opK0 (fun w hM => (rsWithout_any B42 cb42 (inL its x0.lo x0.hi) x0.A x0.c x0.xs w (hM.keep0 (j := 10) rfl (fun _ h => RowIn.of_own h)) (hM.keep0 (j := 5) rfl (fun w h => (hqr23.row h hx0).1)) (by omega) (by omega)).mono ?_)
      rintro e w' ⟨B88, cb88, rfl, hP⟩
      refine ⟨_, _, rfl, hP, ?_⟩; clear hP hM
      refine anyNext [cS NX (withL [] (N ++ nl)) nX, cS OX (withL [] (O ++ ol)) oX, cAt b2 36 [(vL A its c), (vI fan), (vI leaf), (vL NA (withL [] N) nc), (vL OA (withL [] O) oc)], cAt b4 36 [(.slice none 0 0), (.int .i64 0), (.int .i64 0), (.slice none 0 0), (.slice none 0 0)], cQ RX23 (qs23) rcX23, cBag (LX23), cAt b9 36 [(vL A its c), (vI fan), (vI leaf), (vL NX (withL [] (N ++ nl)) nX), (vL OX (withL [] (O ++ ol)) oX)], cQ RY (rp) rcY, cBag (LY), cAt b12 80 [(vS x0.lo), (vS x0.hi), (vI x0.k), (vI x0.n), (vS x0.f), (vL x0.A x0.xs (x0.c)), (vL x0.B x0.ms (x0.d))], cS B42 (inL its x0.lo x0.hi) cb42, cS B84 (without x0.xs (inL its x0.lo x0.hi)) cb84, cS B88 (without (inL its x0.lo x0.hi) x0.xs) cb88] (fun _ h => h.pick [0, 1, 2, 3, 4, 5, 6, 7, 8, 9, 10, 11] rfl rfl) (fun _ h => h) ?_
      refine aa 8 ?_
      refine aa 9 ?_
      refine anyDone (by kernel_rfl) ?_
      refine qThen ?_
      refine stCut (ι := Option Addr × Nat × Option Addr × Nat) (fun _ => True) (fun (B92, cb92, B96, cb96) => [(2, (vP b2 0)), (4, (vP b4 0)), (5, (.slice none 0 0)), (6, (.int .i64 0)), (9, (vP b9 0)), (30, (vL RX23 qs23 rcX23)), (31, (vI qs23.length)), (10, (vL RY (rp) rcY)), (32, (vI i)), (33, (.bool (decide (((i : Nat) : Int) < ((qs23.length : Nat) : Int))))), (34, (vP p34 (q34 + i * 7))), (35, (.agg #[(vS x0.lo), (vS x0.hi), (vI x0.k), (vI x0.n), (vS x0.f), (vL x0.A x0.xs (x0.c)), (vL x0.B x0.ms (x0.d))])), (12, (vP b12 0)), (36, (vP b2 0)), (37, (vL A its c)), (38, (vP b12 0)), (39, (vS x0.lo)), (40, (vP b12 1)), (41, (vS x0.hi)), (42, (vL B42 (inL its x0.lo x0.hi) cb42)), (13, (vL B42 (inL its x0.lo x0.hi) cb42)), (43, (vP b12 2)), (44, (vI x0.k)), (46, (.bool ((((x0.k : Nat) : Int) : Int) == 1))), (45, (.bool ((((x0.k : Nat) : Int) : Int) == 1))), (80, (.bool ((((x0.k : Nat) : Int) : Int) == 2))), (79, (.bool ((((x0.k : Nat) : Int) : Int) == 2))), (81, (vP b12 5)), (82, (vL x0.A x0.xs (x0.c))), (83, (vL B42 (inL its x0.lo x0.hi) cb42)), (85, (vL B42 (inL its x0.lo x0.hi) cb42)), (86, (vP b12 5)), (87, (vL x0.A x0.xs (x0.c))), (84, (vL B84 (without x0.xs (inL its x0.lo x0.hi)) cb84)), (88, (vL B88 (without (inL its x0.lo x0.hi) x0.xs) cb88)), (14, (vL B84 (without x0.xs (inL its x0.lo x0.hi)) cb84)), (15, (vL B88 (without (inL its x0.lo x0.hi) x0.xs) cb88)), (89, (vP b9 3)), (91, (vL B84 (without x0.xs (inL its x0.lo x0.hi)) cb84)), (93, (vP b9 4)), (95, (vL B88 (without (inL its x0.lo x0.hi) x0.xs) cb88)), (90, (vL NX (withL [] (N ++ nl)) nX)), (92, (vL B92 (withL (withL [] (N ++ nl)) (without x0.xs (inL its x0.lo x0.hi))) cb92)), (94, (vL OX (withL [] (O ++ ol)) oX)), (97, (vP b9 3)), (96, (vL B96 (withL (withL [] (O ++ ol)) (without (inL its x0.lo x0.hi) x0.xs)) cb96)), (98, (vP b9 4))]) (fun (B92, cb92, B96, cb96) => [cS NX (withL [] (N ++ nl)) nX, cS OX (withL [] (O ++ ol)) oX, cAt b2 36 [(vL A its c), (vI fan), (vI leaf), (vL NA (withL [] N) nc), (vL OA (withL [] O) oc)], cAt b4 36 [(.slice none 0 0), (.int .i64 0), (.int .i64 0), (.slice none 0 0), (.slice none 0 0)], cQ RX23 (qs23) rcX23, cBag (LX23), cAt b9 36 [(vL A its c), (vI fan), (vI leaf), (vL B92 (withL (withL [] (N ++ nl)) (without x0.xs (inL its x0.lo x0.hi))) cb92), (vL B96 (withL (withL [] (O ++ ol)) (without (inL its x0.lo x0.hi) x0.xs)) cb96)], cQ RY (rp) rcY, cBag (LY), cAt b12 80 [(vS x0.lo), (vS x0.hi), (vI x0.k), (vI x0.n), (vS x0.f), (vL x0.A x0.xs (x0.c)), (vL x0.B x0.ms (x0.d))], cS B42 (inL its x0.lo x0.hi) cb42, cS B84 (without x0.xs (inL its x0.lo x0.hi)) cb84, cS B88 (without (inL its x0.lo x0.hi) x0.xs) cb88, cS B92 (withL (withL [] (N ++ nl)) (without x0.xs (inL its x0.lo x0.hi))) cb92, cS B96 (withL (withL [] (O ++ ol)) (without (inL its x0.lo x0.hi) x0.xs)) cb96]) ?_ ?_
      ·refine St.to [cS NX (withL [] (N ++ nl)) nX, cS OX (withL [] (O ++ ol)) oX, cAt b2 36 [(vL A its c), (vI fan), (vI leaf), (vL NA (withL [] N) nc), (vL OA (withL [] O) oc)], cAt b4 36 [(.slice none 0 0), (.int .i64 0), (.int .i64 0), (.slice none 0 0), (.slice none 0 0)], cQ RX23 (qs23) rcX23, cBag (LX23), cAt b9 36 [(vL A its c), (vI fan), (vI leaf), (vL NX (withL [] (N ++ nl)) nX), (vL OX (withL [] (O ++ ol)) oX)], cQ RY (rp) rcY, cBag (LY), cAt b12 80 [(vS x0.lo), (vS x0.hi), (vI x0.k), (vI x0.n), (vS x0.f), (vL x0.A x0.xs (x0.c)), (vL x0.B x0.ms (x0.d))], cS B42 (inL its x0.lo x0.hi) cb42, cS B84 (without x0.xs (inL its x0.lo x0.hi)) cb84, cS B88 (without (inL its x0.lo x0.hi) x0.xs) cb88] (by kernel_rfl) ?_
       refine anyBegin [cS NX (withL [] (N ++ nl)) nX, cS OX (withL [] (O ++ ol)) oX, cAt b2 36 [(vL A its c), (vI fan), (vI leaf), (vL NA (withL [] N) nc), (vL OA (withL [] O) oc)], cAt b4 36 [(.slice none 0 0), (.int .i64 0), (.int .i64 0), (.slice none 0 0), (.slice none 0 0)], cQ RX23 (qs23) rcX23, cBag (LX23), cQ RY (rp) rcY, cBag (LY), cAt b12 80 [(vS x0.lo), (vS x0.hi), (vI x0.k), (vI x0.n), (vS x0.f), (vL x0.A x0.xs (x0.c)), (vL x0.B x0.ms (x0.d))], cS B42 (inL its x0.lo x0.hi) cb42, cS B84 (without x0.xs (inL its x0.lo x0.hi)) cb84, cS B88 (without (inL its x0.lo x0.hi) x0.xs) cb88] 11 (by kernel_rfl) (fun _ h => h.pick [0, 1, 2, 3, 4, 5, 7, 8, 9, 10, 11, 12] rfl rfl) ?_
       refine ac 0 (vP b9 3) ?_
       refine am 2 ?_
       refine ac 4 (vP b9 4) ?_
       refine am 6 ?_
       refine anyTwo (i := 1) (j := 5) (by kernel_rfl) rfl rfl rfl rfl ?_ ?_
       ·refine opVal (vL NX (withL [] (N ++ nl)) nX) rfl (by kernel_rfl) (rLoad 6 rfl rfl (by kernel_rfl) rfl rfl) ?_
        refine St.to [cS NX (withL [] (N ++ nl)) nX, cS OX (withL [] (O ++ ol)) oX, cAt b2 36 [(vL A its c), (vI fan), (vI leaf), (vL NA (withL [] N) nc), (vL OA (withL [] O) oc)], cAt b4 36 [(.slice none 0 0), (.int .i64 0), (.int .i64 0), (.slice none 0 0), (.slice none 0 0)], cQ RX23 (qs23) rcX23, cBag (LX23), cAt b9 36 [(vL A its c), (vI fan), (vI leaf), (vL NX (withL [] (N ++ nl)) nX), (vL OX (withL [] (O ++ ol)) oX)], cQ RY (rp) rcY, cBag (LY), cAt b12 80 [(vS x0.lo), (vS x0.hi), (vI x0.k), (vI x0.n), (vS x0.f), (vL x0.A x0.xs (x0.c)), (vL x0.B x0.ms (x0.d))], cS B42 (inL its x0.lo x0.hi) cb42, cS B84 (without x0.xs (inL its x0.lo x0.hi)) cb84, cS B88 (without (inL its x0.lo x0.hi) x0.xs) cb88] (by kernel_rfl) ?_
        refine anyNext [cS NX (withL [] (N ++ nl)) nX, cS OX (withL [] (O ++ ol)) oX, cAt b2 36 [(vL A its c), (vI fan), (vI leaf), (vL NA (withL [] N) nc), (vL OA (withL [] O) oc)], cAt b4 36 [(.slice none 0 0), (.int .i64 0), (.int .i64 0), (.slice none 0 0), (.slice none 0 0)], cQ RX23 (qs23) rcX23, cBag (LX23), cQ RY (rp) rcY, cBag (LY), cAt b12 80 [(vS x0.lo), (vS x0.hi), (vI x0.k), (vI x0.n), (vS x0.f), (vL x0.A x0.xs (x0.c)), (vL x0.B x0.ms (x0.d))], cS B42 (inL its x0.lo x0.hi) cb42, cS B84 (without x0.xs (inL its x0.lo x0.hi)) cb84, cS B88 (without (inL its x0.lo x0.hi) x0.xs) cb88] (fun _ h => h) (fun _ h => h.pick [0, 1, 2, 3, 4, 5, 7, 8, 9, 10, 11, 12] rfl rfl) ?_
        refine anyTwo (i := 3) (j := 5) (by kernel_rfl) rfl rfl rfl rfl ?_ ?_
        ·refine opK0 (fun w hM => (rsWith_any NX nX (withL [] (N ++ nl)) B84 cb84 (without x0.xs (inL its x0.lo x0.hi)) w (hM.keep0 (j := 0) rfl (fun _ h => RowIn.of_own h)) (hM.keep0 (j := 11) rfl (fun _ h => RowIn.of_own h)) (by omega) (by omega)).mono ?_)
         rintro e w' ⟨B92, cb92, rfl, hP⟩
         refine ⟨_, _, rfl, hP, ?_⟩; clear hP hM
         refine anyNext [cS NX (withL [] (N ++ nl)) nX, cS OX (withL [] (O ++ ol)) oX, cAt b2 36 [(vL A its c), (vI fan), (vI leaf), (vL NA (withL [] N) nc), (vL OA (withL [] O) oc)], cAt b4 36 [(.slice none 0 0), (.int .i64 0), (.int .i64 0), (.slice none 0 0), (.slice none 0 0)], cQ RX23 (qs23) rcX23, cBag (LX23), cQ RY (rp) rcY, cBag (LY), cAt b12 80 [(vS x0.lo), (vS x0.hi), (vI x0.k), (vI x0.n), (vS x0.f), (vL x0.A x0.xs (x0.c)), (vL x0.B x0.ms (x0.d))], cS B42 (inL its x0.lo x0.hi) cb42, cS B84 (without x0.xs (inL its x0.lo x0.hi)) cb84, cS B88 (without (inL its x0.lo x0.hi) x0.xs) cb88, cS B92 (withL (withL [] (N ++ nl)) (without x0.xs (inL its x0.lo x0.hi))) cb92] (fun _ h => h.pick [0, 1, 2, 3, 4, 5, 6, 7, 8, 9, 10, 11] rfl rfl) (fun _ h => h.pick [0, 1, 2, 3, 4, 5, 7, 8, 9, 10, 11, 12, 13] rfl rfl) ?_
         refine a1 5 ?_
         refine opVal (vL OX (withL [] (O ++ ol)) oX) rfl (by kernel_rfl) (rLoad 6 rfl rfl (by kernel_rfl) rfl rfl) ?_
         refine anyNext [cS NX (withL [] (N ++ nl)) nX, cS OX (withL [] (O ++ ol)) oX, cAt b2 36 [(vL A its c), (vI fan), (vI leaf), (vL NA (withL [] N) nc), (vL OA (withL [] O) oc)], cAt b4 36 [(.slice none 0 0), (.int .i64 0), (.int .i64 0), (.slice none 0 0), (.slice none 0 0)], cQ RX23 (qs23) rcX23, cBag (LX23), cQ RY (rp) rcY, cBag (LY), cAt b12 80 [(vS x0.lo), (vS x0.hi), (vI x0.k), (vI x0.n), (vS x0.f), (vL x0.A x0.xs (x0.c)), (vL x0.B x0.ms (x0.d))], cS B42 (inL its x0.lo x0.hi) cb42, cS B84 (without x0.xs (inL its x0.lo x0.hi)) cb84, cS B88 (without (inL its x0.lo x0.hi) x0.xs) cb88, cS B92 (withL (withL [] (N ++ nl)) (without x0.xs (inL its x0.lo x0.hi))) cb92] (fun _ h => h) (fun _ h => h.pick [0, 1, 2, 3, 4, 5, 7, 8, 9, 10, 11, 12, 13] rfl rfl) ?_
         refine ac 8 (vP b9 3) ?_
         refine a1 7 ?_
         refine opK0 (fun w hM => (rsWith_any OX oX (withL [] (O ++ ol)) B88 cb88 (without (inL its x0.lo x0.hi) x0.xs) w (hM.keep0 (j := 1) rfl (fun _ h => RowIn.of_own h)) (hM.keep0 (j := 12) rfl (fun _ h => RowIn.of_own h)) (by omega) (by omega)).mono ?_)
         rintro e w' ⟨B96, cb96, rfl, hP⟩
         refine ⟨_, _, rfl, hP, ?_⟩; clear hP hM
         refine anyNext [cS NX (withL [] (N ++ nl)) nX, cS OX (withL [] (O ++ ol)) oX, cAt b2 36 [(vL A its c), (vI fan), (vI leaf), (vL NA (withL [] N) nc), (vL OA (withL [] O) oc)], cAt b4 36 [(.slice none 0 0), (.int .i64 0), (.int .i64 0), (.slice none 0 0), (.slice none 0 0)], cQ RX23 (qs23) rcX23, cBag (LX23), cQ RY (rp) rcY, cBag (LY), cAt b12 80 [(vS x0.lo), (vS x0.hi), (vI x0.k), (vI x0.n), (vS x0.f), (vL x0.A x0.xs (x0.c)), (vL x0.B x0.ms (x0.d))], cS B42 (inL its x0.lo x0.hi) cb42, cS B84 (without x0.xs (inL its x0.lo x0.hi)) cb84, cS B88 (without (inL its x0.lo x0.hi) x0.xs) cb88, cS B92 (withL (withL [] (N ++ nl)) (without x0.xs (inL its x0.lo x0.hi))) cb92, cS B96 (withL (withL [] (O ++ ol)) (without (inL its x0.lo x0.hi) x0.xs)) cb96] (fun _ h => h.pick [0, 1, 2, 3, 4, 5, 6, 7, 8, 9, 10, 11, 12] rfl rfl) (fun _ h => h.pick [0, 1, 2, 3, 4, 5, 7, 8, 9, 10, 11, 12, 13, 14] rfl rfl) ?_
         refine a1 9 ?_
         refine opStore1 6 rfl rfl (by kernel_rfl) rfl rfl rfl (by kernel_rfl) rfl (by simp) ?_
         refine anyNext [cS NX (withL [] (N ++ nl)) nX, cS OX (withL [] (O ++ ol)) oX, cAt b2 36 [(vL A its c), (vI fan), (vI leaf), (vL NA (withL [] N) nc), (vL OA (withL [] O) oc)], cAt b4 36 [(.slice none 0 0), (.int .i64 0), (.int .i64 0), (.slice none 0 0), (.slice none 0 0)], cQ RX23 (qs23) rcX23, cBag (LX23), cQ RY (rp) rcY, cBag (LY), cAt b12 80 [(vS x0.lo), (vS x0.hi), (vI x0.k), (vI x0.n), (vS x0.f), (vL x0.A x0.xs (x0.c)), (vL x0.B x0.ms (x0.d))], cS B42 (inL its x0.lo x0.hi) cb42, cS B84 (without x0.xs (inL its x0.lo x0.hi)) cb84, cS B88 (without (inL its x0.lo x0.hi) x0.xs) cb88, cS B92 (withL (withL [] (N ++ nl)) (without x0.xs (inL its x0.lo x0.hi))) cb92, cS B96 (withL (withL [] (O ++ ol)) (without (inL its x0.lo x0.hi) x0.xs)) cb96] (fun _ h => h) (fun _ h => h.pick [0, 1, 2, 3, 4, 5, 7, 8, 9, 10, 11, 12, 13, 14] rfl rfl) ?_
         refine ac 10 (vP b9 4) ?_
         refine a1 11 ?_
         refine opStore1 6 rfl rfl (by kernel_rfl) rfl rfl rfl (by kernel_rfl) rfl (by simp) ?_
         refine anyLast (by kernel_rfl) rfl ?_
         refine qThen ?_
         exact stMeet (B92, cb92, B96, cb96) trivial ⟨rfl, rfl, rfl, rfl, rfl, rfl, rfl, rfl, rfl, rfl, rfl, rfl, rfl, rfl, rfl, rfl, rfl, rfl, rfl, rfl, rfl, rfl, rfl, rfl, rfl, rfl, rfl, rfl, rfl, rfl, rfl, rfl, rfl, rfl, rfl, rfl, rfl, rfl, rfl, rfl, rfl, rfl, rfl, rfl, rfl, rfl, rfl, trivial⟩ (fun _ h => h)
        ·refine opVal (vL OX (withL [] (O ++ ol)) oX) rfl (by kernel_rfl) (rLoad 6 rfl rfl (by kernel_rfl) rfl rfl) ?_
         refine St.to [cS NX (withL [] (N ++ nl)) nX, cS OX (withL [] (O ++ ol)) oX, cAt b2 36 [(vL A its c), (vI fan), (vI leaf), (vL NA (withL [] N) nc), (vL OA (withL [] O) oc)], cAt b4 36 [(.slice none 0 0), (.int .i64 0), (.int .i64 0), (.slice none 0 0), (.slice none 0 0)], cQ RX23 (qs23) rcX23, cBag (LX23), cAt b9 36 [(vL A its c), (vI fan), (vI leaf), (vL NX (withL [] (N ++ nl)) nX), (vL OX (withL [] (O ++ ol)) oX)], cQ RY (rp) rcY, cBag (LY), cAt b12 80 [(vS x0.lo), (vS x0.hi), (vI x0.k), (vI x0.n), (vS x0.f), (vL x0.A x0.xs (x0.c)), (vL x0.B x0.ms (x0.d))], cS B42 (inL its x0.lo x0.hi) cb42, cS B84 (without x0.xs (inL its x0.lo x0.hi)) cb84, cS B88 (without (inL its x0.lo x0.hi) x0.xs) cb88] (by kernel_rfl) ?_
         refine anyNext [cS NX (withL [] (N ++ nl)) nX, cS OX (withL [] (O ++ ol)) oX, cAt b2 36 [(vL A its c), (vI fan), (vI leaf), (vL NA (withL [] N) nc), (vL OA (withL [] O) oc)], cAt b4 36 [(.slice none 0 0), (.int .i64 0), (.int .i64 0), (.slice none 0 0), (.slice none 0 0)], cQ RX23 (qs23) rcX23, cBag (LX23), cQ RY (rp) rcY, cBag (LY), cAt b12 80 [(vS x0.lo), (vS x0.hi), (vI x0.k), (vI x0.n), (vS x0.f), (vL x0.A x0.xs (x0.c)), (vL x0.B x0.ms (x0.d))], cS B42 (inL its x0.lo x0.hi) cb42, cS B84 (without x0.xs (inL its x0.lo x0.hi)) cb84, cS B88 (without (inL its x0.lo x0.hi) x0.xs) cb88] (fun _ h => h) (fun _ h => h.pick [0, 1, 2, 3, 4, 5, 7, 8, 9, 10, 11, 12] rfl rfl) ?_
         refine a1 3 ?_
         refine opK0 (fun w hM => (rsWith_any NX nX (withL [] (N ++ nl)) B84 cb84 (without x0.xs (inL its x0.lo x0.hi)) w (hM.keep0 (j := 0) rfl (fun _ h => RowIn.of_own h)) (hM.keep0 (j := 11) rfl (fun _ h => RowIn.of_own h)) (by omega) (by omega)).mono ?_)
         rintro e w' ⟨B92, cb92, rfl, hP⟩
         refine ⟨_, _, rfl, hP, ?_⟩; clear hP hM
         refine anyNext [cS NX (withL [] (N ++ nl)) nX, cS OX (withL [] (O ++ ol)) oX, cAt b2 36 [(vL A its c), (vI fan), (vI leaf), (vL NA (withL [] N) nc), (vL OA (withL [] O) oc)], cAt b4 36 [(.slice none 0 0), (.int .i64 0), (.int .i64 0), (.slice none 0 0), (.slice none 0 0)], cQ RX23 (qs23) rcX23, cBag (LX23), cQ RY (rp) rcY, cBag (LY), cAt b12 80 [(vS x0.lo), (vS x0.hi), (vI x0.k), (vI x0.n), (vS x0.f), (vL x0.A x0.xs (x0.c)), (vL x0.B x0.ms (x0.d))], cS B42 (inL its x0.lo x0.hi) cb42, cS B84 (without x0.xs (inL its x0.lo x0.hi)) cb84, cS B88 (without (inL its x0.lo x0.hi) x0.xs) cb88, cS B92 (withL (withL [] (N ++ nl)) (without x0.xs (inL its x0.lo x0.hi))) cb92] (fun _ h => h.pick [0, 1, 2, 3, 4, 5, 6, 7, 8, 9, 10, 11] rfl rfl) (fun _ h => h.pick [0, 1, 2, 3, 4, 5, 7, 8, 9, 10, 11, 12, 13] rfl rfl) ?_
         refine ac 8 (vP b9 3) ?_
         refine a1 7 ?_
         refine opK0 (fun w hM => (rsWith_any OX oX (withL [] (O ++ ol)) B88 cb88 (without (inL its x0.lo x0.hi) x0.xs) w (hM.keep0 (j := 1) rfl (fun _ h => RowIn.of_own h)) (hM.keep0 (j := 12) rfl (fun _ h => RowIn.of_own h)) (by omega) (by omega)).mono ?_)
         rintro e w' ⟨B96, cb96, rfl, hP⟩
         refine ⟨_, _, rfl, hP, ?_⟩; clear hP hM
         refine anyNext [cS NX (withL [] (N ++ nl)) nX, cS OX (withL [] (O ++ ol)) oX, cAt b2 36 [(vL A its c), (vI fan), (vI leaf), (vL NA (withL [] N) nc), (vL OA (withL [] O) oc)], cAt b4 36 [(.slice none 0 0), (.int .i64 0), (.int .i64 0), (.slice none 0 0), (.slice none 0 0)], cQ RX23 (qs23) rcX23, cBag (LX23), cQ RY (rp) rcY, cBag (LY), cAt b12 80 [(vS x0.lo), (vS x0.hi), (vI x0.k), (vI x0.n), (vS x0.f), (vL x0.A x0.xs (x0.c)), (vL x0.B x0.ms (x0.d))], cS B42 (inL its x0.lo x0.hi) cb42, cS B84 (without x0.xs (inL its x0.lo x0.hi)) cb84, cS B88 (without (inL its x0.lo x0.hi) x0.xs) cb88, cS B92 (withL (withL [] (N ++ nl)) (without x0.xs (inL its x0.lo x0.hi))) cb92, cS B96 (withL (withL [] (O ++ ol)) (without (inL its x0.lo x0.hi) x0.xs)) cb96] (fun _ h => h.pick [0, 1, 2, 3, 4, 5, 6, 7, 8, 9, 10, 11, 12] rfl rfl) (fun _ h => h.pick [0, 1, 2, 3, 4, 5, 7, 8, 9, 10, 11, 12, 13, 14] rfl rfl) ?_
         refine a1 9 ?_
         refine opStore1 6 rfl rfl (by kernel_rfl) rfl rfl rfl (by kernel_rfl) rfl (by simp) ?_
         refine anyNext [cS NX (withL [] (N ++ nl)) nX, cS OX (withL [] (O ++ ol)) oX, cAt b2 36 [(vL A its c), (vI fan), (vI leaf), (vL NA (withL [] N) nc), (vL OA (withL [] O) oc)], cAt b4 36 [(.slice none 0 0), (.int .i64 0), (.int .i64 0), (.slice none 0 0), (.slice none 0 0)], cQ RX23 (qs23) rcX23, cBag (LX23), cQ RY (rp) rcY, cBag (LY), cAt b12 80 [(vS x0.lo), (vS x0.hi), (vI x0.k), (vI x0.n), (vS x0.f), (vL x0.A x0.xs (x0.c)), (vL x0.B x0.ms (x0.d))], cS B42 (inL its x0.lo x0.hi) cb42, cS B84 (without x0.xs (inL its x0.lo x0.hi)) cb84, cS B88 (without (inL its x0.lo x0.hi) x0.xs) cb88, cS B92 (withL (withL [] (N ++ nl)) (without x0.xs (inL its x0.lo x0.hi))) cb92, cS B96 (withL (withL [] (O ++ ol)) (without (inL its x0.lo x0.hi) x0.xs)) cb96] (fun _ h => h) (fun _ h => h.pick [0, 1, 2, 3, 4, 5, 7, 8, 9, 10, 11, 12, 13, 14] rfl rfl) ?_
         refine ac 10 (vP b9 4) ?_
         refine a1 11 ?_
         refine opStore1 6 rfl rfl (by kernel_rfl) rfl rfl rfl (by kernel_rfl) rfl (by simp) ?_
         refine anyLast (by kernel_rfl) rfl ?_
         refine qThen ?_
         exact stMeet (B92, cb92, B96, cb96) trivial ⟨rfl, rfl, rfl, rfl, rfl, rfl, rfl, rfl, rfl, rfl, rfl, rfl, rfl, rfl, rfl, rfl, rfl, rfl, rfl, rfl, rfl, rfl, rfl, rfl, rfl, rfl, rfl, rfl, rfl, rfl, rfl, rfl, rfl, rfl, rfl, rfl, rfl, rfl, rfl, rfl, rfl, rfl, rfl, rfl, rfl, rfl, rfl, trivial⟩ (fun _ h => h)
       ·refine opVal (vL OX (withL [] (O ++ ol)) oX) rfl (by kernel_rfl) (rLoad 6 rfl rfl (by kernel_rfl) rfl rfl) ?_
        refine anyNext [cS NX (withL [] (N ++ nl)) nX, cS OX (withL [] (O ++ ol)) oX, cAt b2 36 [(vL A its c), (vI fan), (vI leaf), (vL NA (withL [] N) nc), (vL OA (withL [] O) oc)], cAt b4 36 [(.slice none 0 0), (.int .i64 0), (.int .i64 0), (.slice none 0 0), (.slice none 0 0)], cQ RX23 (qs23) rcX23, cBag (LX23), cQ RY (rp) rcY, cBag (LY), cAt b12 80 [(vS x0.lo), (vS x0.hi), (vI x0.k), (vI x0.n), (vS x0.f), (vL x0.A x0.xs (x0.c)), (vL x0.B x0.ms (x0.d))], cS B42 (inL its x0.lo x0.hi) cb42, cS B84 (without x0.xs (inL its x0.lo x0.hi)) cb84, cS B88 (without (inL its x0.lo x0.hi) x0.xs) cb88] (fun _ h => h) (fun _ h => h.pick [0, 1, 2, 3, 4, 5, 7, 8, 9, 10, 11, 12] rfl rfl) ?_
        refine a1 1 ?_
        refine opVal (vL NX (withL [] (N ++ nl)) nX) rfl (by kernel_rfl) (rLoad 6 rfl rfl (by kernel_rfl) rfl rfl) ?_
        refine St.to [cS NX (withL [] (N ++ nl)) nX, cS OX (withL [] (O ++ ol)) oX, cAt b2 36 [(vL A its c), (vI fan), (vI leaf), (vL NA (withL [] N) nc), (vL OA (withL [] O) oc)], cAt b4 36 [(.slice none 0 0), (.int .i64 0), (.int .i64 0), (.slice none 0 0), (.slice none 0 0)], cQ RX23 (qs23) rcX23, cBag (LX23), cAt b9 36 [(vL A its c), (vI fan), (vI leaf), (vL NX (withL [] (N ++ nl)) nX), (vL OX (withL [] (O ++ ol)) oX)], cQ RY (rp) rcY, cBag (LY), cAt b12 80 [(vS x0.lo), (vS x0.hi), (vI x0.k), (vI x0.n), (vS x0.f), (vL x0.A x0.xs (x0.c)), (vL x0.B x0.ms (x0.d))], cS B42 (inL its x0.lo x0.hi) cb42, cS B84 (without x0.xs (inL its x0.lo x0.hi)) cb84, cS B88 (without (inL its x0.lo x0.hi) x0.xs) cb88] (by kernel_rfl) ?_
        refine anyNext [cS NX (withL [] (N ++ nl)) nX, cS OX (withL [] (O ++ ol)) oX, cAt b2 36 [(vL A its c), (vI fan), (vI leaf), (vL NA (withL [] N) nc), (vL OA (withL [] O) oc)], cAt b4 36 [(.slice none 0 0), (.int .i64 0), (.int .i64 0), (.slice none 0 0), (.slice none 0 0)], cQ RX23 (qs23) rcX23, cBag (LX23), cQ RY (rp) rcY, cBag (LY), cAt b12 80 [(vS x0.lo), (vS x0.hi), (vI x0.k), (vI x0.n), (vS x0.f), (vL x0.A x0.xs (x0.c)), (vL x0.B x0.ms (x0.d))], cS B42 (inL its x0.lo x0.hi) cb42, cS B84 (without x0.xs (inL its x0.lo x0.hi)) cb84, cS B88 (without (inL its x0.lo x0.hi) x0.xs) cb88] (fun _ h => h) (fun _ h => h.pick [0, 1, 2, 3, 4, 5, 7, 8, 9, 10, 11, 12] rfl rfl) ?_
        refine a1 3 ?_
        refine opK0 (fun w hM => (rsWith_any NX nX (withL [] (N ++ nl)) B84 cb84 (without x0.xs (inL its x0.lo x0.hi)) w (hM.keep0 (j := 0) rfl (fun _ h => RowIn.of_own h)) (hM.keep0 (j := 11) rfl (fun _ h => RowIn.of_own h)) (by omega) (by omega)).mono ?_)
        rintro e w' ⟨B92, cb92, rfl, hP⟩
        refine ⟨_, _, rfl, hP, ?_⟩; clear hP hM
        refine anyNext [cS NX (withL [] (N ++ nl)) nX, cS OX (withL [] (O ++ ol)) oX, cAt b2 36 [(vL A its c), (vI fan), (vI leaf), (vL NA (withL [] N) nc), (vL OA (withL [] O) oc)], cAt b4 36 [(.slice none 0 0), (.int .i64 0), (.int .i64 0), (.slice none 0 0), (.slice none 0 0)], cQ RX23 (qs23) rcX23, cBag (LX23), cQ RY (rp) rcY, cBag (LY), cAt b12 80 [(vS x0.lo), (vS x0.hi), (vI x0.k), (vI x0.n), (vS x0.f), (vL x0.A x0.xs (x0.c)), (vL x0.B x0.ms (x0.d))], cS B42 (inL its x0.lo x0.hi) cb42, cS B84 (without x0.xs (inL its x0.lo x0.hi)) cb84, cS B88 (without (inL its x0.lo x0.hi) x0.xs) cb88, cS B92 (withL (withL [] (N ++ nl)) (without x0.xs (inL its x0.lo x0.hi))) cb92] (fun _ h => h.pick [0, 1, 2, 3, 4, 5, 6, 7, 8, 9, 10, 11] rfl rfl) (fun _ h => h.pick [0, 1, 2, 3, 4, 5, 7, 8, 9, 10, 11, 12, 13] rfl rfl) ?_
        refine ac 8 (vP b9 3) ?_
        refine a1 7 ?_
        refine opK0 (fun w hM => (rsWith_any OX oX (withL [] (O ++ ol)) B88 cb88 (without (inL its x0.lo x0.hi) x0.xs) w (hM.keep0 (j := 1) rfl (fun _ h => RowIn.of_own h)) (hM.keep0 (j := 12) rfl (fun _ h => RowIn.of_own h)) (by omega) (by omega)).mono ?_)
        rintro e w' ⟨B96, cb96, rfl, hP⟩
        refine ⟨_, _, rfl, hP, ?_⟩; clear hP hM
        refine anyNext [cS NX (withL [] (N ++ nl)) nX, cS OX (withL [] (O ++ ol)) oX, cAt b2 36 [(vL A its c), (vI fan), (vI leaf), (vL NA (withL [] N) nc), (vL OA (withL [] O) oc)], cAt b4 36 [(.slice none 0 0), (.int .i64 0), (.int .i64 0), (.slice none 0 0), (.slice none 0 0)], cQ RX23 (qs23) rcX23, cBag (LX23), cQ RY (rp) rcY, cBag (LY), cAt b12 80 [(vS x0.lo), (vS x0.hi), (vI x0.k), (vI x0.n), (vS x0.f), (vL x0.A x0.xs (x0.c)), (vL x0.B x0.ms (x0.d))], cS B42 (inL its x0.lo x0.hi) cb42, cS B84 (without x0.xs (inL its x0.lo x0.hi)) cb84, cS B88 (without (inL its x0.lo x0.hi) x0.xs) cb88, cS B92 (withL (withL [] (N ++ nl)) (without x0.xs (inL its x0.lo x0.hi))) cb92, cS B96 (withL (withL [] (O ++ ol)) (without (inL its x0.lo x0.hi) x0.xs)) cb96] (fun _ h => h.pick [0, 1, 2, 3, 4, 5, 6, 7, 8, 9, 10, 11, 12] rfl rfl) (fun _ h => h.pick [0, 1, 2, 3, 4, 5, 7, 8, 9, 10, 11, 12, 13, 14] rfl rfl) ?_
        refine a1 9 ?_
        refine opStore1 6 rfl rfl (by kernel_rfl) rfl rfl rfl (by kernel_rfl) rfl (by simp) ?_
        refine anyNext [cS NX (withL [] (N ++ nl)) nX, cS OX (withL [] (O ++ ol)) oX, cAt b2 36 [(vL A its c), (vI fan), (vI leaf), (vL NA (withL [] N) nc), (vL OA (withL [] O) oc)], cAt b4 36 [(.slice none 0 0), (.int .i64 0), (.int .i64 0), (.slice none 0 0), (.slice none 0 0)], cQ RX23 (qs23) rcX23, cBag (LX23), cQ RY (rp) rcY, cBag (LY), cAt b12 80 [(vS x0.lo), (vS x0.hi), (vI x0.k), (vI x0.n), (vS x0.f), (vL x0.A x0.xs (x0.c)), (vL x0.B x0.ms (x0.d))], cS B42 (inL its x0.lo x0.hi) cb42, cS B84 (without x0.xs (inL its x0.lo x0.hi)) cb84, cS B88 (without (inL its x0.lo x0.hi) x0.xs) cb88, cS B92 (withL (withL [] (N ++ nl)) (without x0.xs (inL its x0.lo x0.hi))) cb92, cS B96 (withL (withL [] (O ++ ol)) (without (inL its x0.lo x0.hi) x0.xs)) cb96] (fun _ h => h) (fun _ h => h.pick [0, 1, 2, 3, 4, 5, 7, 8, 9, 10, 11, 12, 13, 14] rfl rfl) ?_
        refine ac 10 (vP b9 4) ?_
        refine a1 11 ?_
        refine opStore1 6 rfl rfl (by kernel_rfl) rfl rfl rfl (by kernel_rfl) rfl (by simp) ?_
        refine anyLast (by kernel_rfl) rfl ?_
        refine qThen ?_
        exact stMeet (B92, cb92, B96, cb96) trivial ⟨rfl, rfl, rfl, rfl, rfl, rfl, rfl, rfl, rfl, rfl, rfl, rfl, rfl, rfl, rfl, rfl, rfl, rfl, rfl, rfl, rfl, rfl, rfl, rfl, rfl, rfl, rfl, rfl, rfl, rfl, rfl, rfl, rfl, rfl, rfl, rfl, rfl, rfl, rfl, rfl, rfl, rfl, rfl, rfl, rfl, rfl, rfl, trivial⟩ (fun _ h => h)
      ·rintro ⟨B92, cb92, B96, cb96⟩ -
       show St _ _ _ [(2, (vP b2 0)), (4, (vP b4 0)), (5, (.slice none 0 0)), (6, (.int .i64 0)), (9, (vP b9 0)), (30, (vL RX23 qs23 rcX23)), (31, (vI qs23.length)), (10, (vL RY (rp) rcY)), (32, (vI i)), (33, (.bool (decide (((i : Nat) : Int) < ((qs23.length : Nat) : Int))))), (34, (vP p34 (q34 + i * 7))), (35, (.agg #[(vS x0.lo), (vS x0.hi), (vI x0.k), (vI x0.n), (vS x0.f), (vL x0.A x0.xs (x0.c)), (vL x0.B x0.ms (x0.d))])), (12, (vP b12 0)), (36, (vP b2 0)), (37, (vL A its c)), (38, (vP b12 0)), (39, (vS x0.lo)), (40, (vP b12 1)), (41, (vS x0.hi)), (42, (vL B42 (inL its x0.lo x0.hi) cb42)), (13, (vL B42 (inL its x0.lo x0.hi) cb42)), (43, (vP b12 2)), (44, (vI x0.k)), (46, (.bool ((((x0.k : Nat) : Int) : Int) == 1))), (45, (.bool ((((x0.k : Nat) : Int) : Int) == 1))), (80, (.bool ((((x0.k : Nat) : Int) : Int) == 2))), (79, (.bool ((((x0.k : Nat) : Int) : Int) == 2))), (81, (vP b12 5)), (82, (vL x0.A x0.xs (x0.c))), (83, (vL B42 (inL its x0.lo x0.hi) cb42)), (85, (vL B42 (inL its x0.lo x0.hi) cb42)), (86, (vP b12 5)), (87, (vL x0.A x0.xs (x0.c))), (84, (vL B84 (without x0.xs (inL its x0.lo x0.hi)) cb84)), (88, (vL B88 (without (inL its x0.lo x0.hi) x0.xs) cb88)), (14, (vL B84 (without x0.xs (inL its x0.lo x0.hi)) cb84)), (15, (vL B88 (without (inL its x0.lo x0.hi) x0.xs) cb88)), (89, (vP b9 3)), (91, (vL B84 (without x0.xs (inL its x0.lo x0.hi)) cb84)), (93, (vP b9 4)), (95, (vL B88 (without (inL its x0.lo x0.hi) x0.xs) cb88)), (90, (vL NX (withL [] (N ++ nl)) nX)), (92, (vL B92 (withL (withL [] (N ++ nl)) (without x0.xs (inL its x0.lo x0.hi))) cb92)), (94, (vL OX (withL [] (O ++ ol)) oX)), (97, (vP b9 3)), (96, (vL B96 (withL (withL [] (O ++ ol)) (without (inL its x0.lo x0.hi) x0.xs)) cb96)), (98, (vP b9 4))] [cS NX (withL [] (N ++ nl)) nX, cS OX (withL [] (O ++ ol)) oX, cAt b2 36 [(vL A its c), (vI fan), (vI leaf), (vL NA (withL [] N) nc), (vL OA (withL [] O) oc)], cAt b4 36 [(.slice none 0 0), (.int .i64 0), (.int .i64 0), (.slice none 0 0), (.slice none 0 0)], cQ RX23 (qs23) rcX23, cBag (LX23), cAt b9 36 [(vL A its c), (vI fan), (vI leaf), (vL B92 (withL (withL [] (N ++ nl)) (without x0.xs (inL its x0.lo x0.hi))) cb92), (vL B96 (withL (withL [] (O ++ ol)) (without (inL its x0.lo x0.hi) x0.xs)) cb96)], cQ RY (rp) rcY, cBag (LY), cAt b12 80 [(vS x0.lo), (vS x0.hi), (vI x0.k), (vI x0.n), (vS x0.f), (vL x0.A x0.xs (x0.c)), (vL x0.B x0.ms (x0.d))], cS B42 (inL its x0.lo x0.hi) cb42, cS B84 (without x0.xs (inL its x0.lo x0.hi)) cb84, cS B88 (without (inL its x0.lo x0.hi) x0.xs) cb88, cS B92 (withL (withL [] (N ++ nl)) (without x0.xs (inL its x0.lo x0.hi))) cb92, cS B96 (withL (withL [] (O ++ ol)) (without (inL its x0.lo x0.hi) x0.xs)) cb96] _
       refine stSeq ?_
       refine St.to [cS NX (withL [] (N ++ nl)) nX, cS OX (withL [] (O ++ ol)) oX, cAt b2 36 [(vL A its c), (vI fan), (vI leaf), (vL NA (withL [] N) nc), (vL OA (withL [] O) oc)], cAt b4 36 [(.slice none 0 0), (.int .i64 0), (.int .i64 0), (.slice none 0 0), (.slice none 0 0)], cQ RX23 (qs23) rcX23, cBag (LX23), cAt b9 36 [(vL A its c), (vI fan), (vI leaf), (vL B92 (withL (withL [] (N ++ nl)) (without x0.xs (inL its x0.lo x0.hi))) cb92), (vL B96 (withL (withL [] (O ++ ol)) (without (inL its x0.lo x0.hi) x0.xs)) cb96)], cQ RY (rp) rcY, cBag (LY), cAt b12 80 [(vS x0.lo), (vS x0.hi), (vI x0.k), (vI x0.n), (vS x0.f), (vL x0.A x0.xs (x0.c)), (vL x0.B x0.ms (x0.d))], cS B42 (inL its x0.lo x0.hi) cb42, cS B84 (without x0.xs (inL its x0.lo x0.hi)) cb84, cS B88 (without (inL its x0.lo x0.hi) x0.xs) cb88, cS B92 (withL (withL [] (N ++ nl)) (without x0.xs (inL its x0.lo x0.hi))) cb92, cS B96 (withL (withL [] (O ++ ol)) (without (inL its x0.lo x0.hi) x0.xs)) cb96] (by kernel_rfl) ?_
       refine reg ?_
       refine lm ?_
       refine lc (vI ((without x0.xs (inL its x0.lo x0.hi)).length)) ?_
       refine lm ?_
       refine lc (vI ((without (inL its x0.lo x0.hi) x0.xs).length)) ?_
       refine lv (v := (vI ((without x0.xs (inL its x0.lo x0.hi)).length + (without (inL its x0.lo x0.hi) x0.xs).length))) (rAdd _ rfl rfl rfl (by omega) (by omega) (by omega)) ?_
       refine lc (.bool (decide (((((without x0.xs (inL its x0.lo x0.hi)).length + (without (inL its x0.lo x0.hi) x0.xs).length) : Nat) : Int) > 0))) ?_
       refine liNil (qThen ?_)
       refine stCond rfl (fun hc104 => ?_) (fun hc104 => ?_)
       ·have hd104 := of_decide_eq_true hc104
        have he : 0 < (without x0.xs (inL its x0.lo x0.hi)).length + (without (inL its x0.lo x0.hi) x0.xs).length := by have := of_decide_eq_true hc104; omega
        refine reg ?_
        refine lm ?_
        refine lc (vP b12 0) ?_
        refine lv (v := (vS x0.lo)) (rLoad 9 rfl rfl (by kernel_rfl) rfl rfl) ?_
        refine lc (vP b12 1) ?_
        refine lv (v := (vS x0.hi)) (rLoad 9 rfl rfl (by kernel_rfl) rfl rfl) ?_
        refine lm ?_
        refine lm ?_
        refine lc (.agg #[(vS x0.lo), (vS x0.hi), (.int .i64 3), (.int .i64 0), (.string ⟨#[]⟩), (vL B88 (without (inL its x0.lo x0.hi) x0.xs) cb88), (vL B84 (without x0.xs (inL its x0.lo x0.hi)) cb84)]) ?_
        refine li rfl ?_
        refine opNew (v := fun b => .slice (some ⟨b, 0, none⟩) 1 1) 80 [(vS x0.lo), (vS x0.hi), (.int .i64 3), (.int .i64 0), (.string ⟨#[]⟩), (vL B88 (without (inL its x0.lo x0.hi) x0.xs) cb88), (vL B84 (without x0.xs (inL its x0.lo x0.hi)) cb84)] rfl (by kernel_rfl) (fun _ => by kernel_rfl) (fun b113 => ?_)
        refine li rfl ?_
        refine opAppend el_qpart 7 ([(vS x0.lo), (vS x0.hi), (.int .i64 3), (.int .i64 0), (.string ⟨#[]⟩), (vL B88 (without (inL its x0.lo x0.hi) x0.xs) cb88), (vL B84 (without x0.xs (inL its x0.lo x0.hi)) cb84)]) rfl rfl (by kernel_rfl) rfl rfl rfl (rfl) (srcAt (i := 15) rfl (fun j v h => by rw [Nat.zero_add]; exact h)) (QV.one (QV.mk x0.lo x0.hi 3 0 [] B88 cb88 (without (inL its x0.lo x0.hi) x0.xs) B84 cb84 (without x0.xs (inL its x0.lo x0.hi)))) (by omega) ((rp ++ ([QV.mk x0.lo x0.hi 3 0 [] B88 cb88 (without (inL its x0.lo x0.hi) x0.xs) B84 cb84 (without x0.xs (inL its x0.lo x0.hi))])).length) (by first | exact (List.length_append ..).symm | (simp; done) | (simp; omega)) (QS (rp ++ ([QV.mk x0.lo x0.hi 3 0 [] B88 cb88 (without (inL its x0.lo x0.hi) x0.xs) B84 cb84 (without x0.xs (inL its x0.lo x0.hi))]))) ((QS_append _ ([QV.mk x0.lo x0.hi 3 0 [] B88 cb88 (without (inL its x0.lo x0.hi) x0.xs) B84 cb84 (without x0.xs (inL its x0.lo x0.hi))])).symm) (fun A114 c114 => ?_)
        refine la ?_
        refine liNil (qBlock (qBlock (qThen (reg ?_))))
        refine lv (v := (vI (i + 1))) (rAdd _ rfl rfl rfl (by omega) (by omega) (by omega)) ?_
        refine lm ?_
        refine liNil (qThen ?_)
        rw [show withL (withL [] (N ++ nl)) (without x0.xs (inL its x0.lo x0.hi)) = withL [] (N ++ (nl ++ without x0.xs (inL its x0.lo x0.hi))) from withL_app3 _ _ _]
        rw [show withL (withL [] (O ++ ol)) (without (inL its x0.lo x0.hi) x0.xs) = withL [] (O ++ (ol ++ without (inL its x0.lo x0.hi) x0.xs)) from withL_app3 _ _ _]
        have hnext := hinv.list1 hS hx0 hp0 hk2 he (A := B88) (c := cb88) (B := B84) (d := cb84)
        exact stAgain (i + 1, A114, c114, rp ++ [QV.mk x0.lo x0.hi 3 0 [] B88 cb88 (without (inL its x0.lo x0.hi) x0.xs) B84 cb84 (without x0.xs (inL its x0.lo x0.hi))], B92, cb92, nl ++ without x0.xs (inL its x0.lo x0.hi), B96, cb96, ol ++ without (inL its x0.lo x0.hi) x0.xs, LY ++ ([(B88, without (inL its x0.lo x0.hi) x0.xs)] ++ [(B84, without x0.xs (inL its x0.lo x0.hi))])) (hnext) (by show qs23.length - (i + 1) < qs23.length - i; omega) ⟨rfl, rfl, rfl, rfl, rfl, rfl, rfl, rfl, rfl, trivial⟩ (fun w hM => ((((hM).toBag 12 rfl).toBag 11 rfl).joinP [13, 14, 2, 3, 4, 5, 6, 7, 8] 12 11 rfl rfl rfl rfl).joinP [0, 1, 2, 3, 4, 5, 6, 7] 8 9 rfl rfl rfl rfl)
       ·have hd104 := of_decide_eq_false hc104
        have he : ¬ 0 < (without x0.xs (inL its x0.lo x0.hi)).length + (without (inL its x0.lo x0.hi) x0.xs).length := by have := of_decide_eq_false hc104; omega
        refine stSkip (qBlock (qBlock (qThen (reg ?_))))
        refine lv (v := (vI (i + 1))) (rAdd _ rfl rfl rfl (by omega) (by omega) (by omega)) ?_
        refine lm ?_
        refine liNil (qThen ?_)
        rw [show withL (withL [] (N ++ nl)) (without x0.xs (inL its x0.lo x0.hi)) = withL [] (N ++ (nl ++ without x0.xs (inL its x0.lo x0.hi))) from withL_app3 _ _ _]
        rw [show withL (withL [] (O ++ ol)) (without (inL its x0.lo x0.hi) x0.xs) = withL [] (O ++ (ol ++ without (inL its x0.lo x0.hi) x0.xs)) from withL_app3 _ _ _]
        have hnext := hinv.list0 hS hx0 hp0 hk2 he
        exact stAgain (i + 1, RY, rcY, rp, B92, cb92, nl ++ without x0.xs (inL its x0.lo x0.hi), B96, cb96, ol ++ without (inL its x0.lo x0.hi) x0.xs, LY) (hnext) (by show qs23.length - (i + 1) < qs23.length - i; omega) ⟨rfl, rfl, rfl, rfl, rfl, rfl, rfl, rfl, rfl, trivial⟩ (fun w hM => (hM.pick [13, 14, 2, 3, 4, 5, 6, 7, 8] rfl rfl))
     ·have hk2 : ¬ x0.k = 2 := eqb_no hc79
      refine stSeq (reg ?_)
      refine lc (.bool ((((x0.k : Nat) : Int) : Int) == 3)) ?_
      refine la ?_
      refine liNil (qThen ?_)
      refine stCond rfl (fun hc115 => ?_) (fun hc115 => ?_)
      ·have hk3 : x0.k = 3 := eqb_yes hc115
       have hq3 := (ok3 hp0 hk3).1.1; have hq4 := (ok3 hp0 hk3).2.1
       have hm1 := without_len x0.xs (inL its x0.lo x0.hi); have hm2 := without_len x0.ms (without x0.ms (inL its x0.lo x0.hi)); have hm3 := without_len x0.ms (inL its x0.lo x0.hi)
       refine stSeq ?_
       refine anyBegin [cS NX (withL [] (N ++ nl)) nX, cS OX (withL [] (O ++ ol)) oX, cAt b2 36 [(vL A its c), (vI fan), (vI leaf), (vL NA (withL [] N) nc), (vL OA (withL [] O) oc)], cAt b4 36 [(.slice none 0 0), (.int .i64 0), (.int .i64 0), (.slice none 0 0), (.slice none 0 0)], cQ RX23 (qs23) rcX23, cBag (LX23), cAt b9 36 [(vL A its c), (vI fan), (vI leaf), (vL NX (withL [] (N ++ nl)) nX), (vL OX (withL [] (O ++ ol)) oX)], cQ RY (rp) rcY, cBag (LY), cAt b12 80 [(vS x0.lo), (vS x0.hi), (vI x0.k), (vI x0.n), (vS x0.f), (vL x0.A x0.xs (x0.c)), (vL x0.B x0.ms (x0.d))], cS B42 (inL its x0.lo x0.hi) cb42] 8 (by kernel_rfl) (fun _ h => h) ?_
       refine ac 0 (vP b9 3) ?_
       refine av 1 (vL NX (withL [] (N ++ nl)) nX) rfl (rLoad 6 rfl rfl (by kernel_rfl) rfl rfl) ?_
       refine ac 2 (vP b12 5) ?_
       refine av 3 (vL x0.A x0.xs (x0.c)) rfl (rLoad 9 rfl rfl (by kernel_rfl) rfl rfl) ?_
       refine am 4 ?_
       refine a1 5 ?_
       refine opK0 (fun w hM => (rsWithout_any x0.A x0.c x0.xs B42 cb42 (inL its x0.lo x0.hi) w (hM.keep0 (j := 5) rfl (fun w h => (hqr23.row h hx0).1)) (hM.keep0 (j := 10) rfl (fun _ h => RowIn.of_own h)) (by omega) (by omega)).mono ?_)
       rintro e w' ⟨B122, cb122, rfl, hP⟩
       refine ⟨_, _, rfl, hP, ?_⟩; clear hP hM
       refine St.to [cS NX (withL [] (N ++ nl)) nX, cS OX (withL [] (O ++ ol)) oX, cAt b2 36 [(vL A its c), (vI fan), (vI leaf), (vL NA (withL [] N) nc), (vL OA (withL [] O) oc)], cAt b4 36 [(.slice none 0 0), (.int .i64 0), (.int .i64 0), (.slice none 0 0), (.slice none 0 0)], cQ RX23 (qs23) rcX23, cBag (LX23), cAt b9 36 [(vL A its c), (vI fan), (vI leaf), (vL NX (withL [] (N ++ nl)) nX), (vL OX (withL [] (O ++ ol)) oX)], cQ RY (rp) rcY, cBag (LY), cAt b12 80 [(vS x0.lo), (vS x0.hi), (vI x0.k), (vI x0.n), (vS x0.f), (vL x0.A x0.xs (x0.c)), (vL x0.B x0.ms (x0.d))], cS B42 (inL its x0.lo x0.hi) cb42, cS B122 (without x0.xs (inL its x0.lo x0.hi)) cb122] (by kernel_rfl) ?_
       refine anyNext [cS NX (withL [] (N ++ nl)) nX, cS OX (withL [] (O ++ ol)) oX, cAt b2 36 [(vL A its c), (vI fan), (vI leaf), (vL NA (withL [] N) nc), (vL OA (withL [] O) oc)], cAt b4 36 [(.slice none 0 0), (.int .i64 0), (.int .i64 0), (.slice none 0 0), (.slice none 0 0)], cQ RX23 (qs23) rcX23, cBag (LX23), cAt b9 36 [(vL A its c), (vI fan), (vI leaf), (vL NX (withL [] (N ++ nl)) nX), (vL OX (withL [] (O ++ ol)) oX)], cQ RY (rp) rcY, cBag (LY), cAt b12 80 [(vS x0.lo), (vS x0.hi), (vI x0.k), (vI x0.n), (vS x0.f), (vL x0.A x0.xs (x0.c)), (vL x0.B x0.ms (x0.d))], cS B42 (inL its x0.lo x0.hi) cb42, cS B122 (without x0.xs (inL its x0.lo x0.hi)) cb122] (fun _ h => h.pick [0, 1, 2, 3, 4, 5, 6, 7, 8, 9, 10] rfl rfl) (fun _ h => h) ?_
       refine a1 6 ?_
       refine opK0 (fun w hM => (rsWith_any NX nX (withL [] (N ++ nl)) B122 cb122 (without x0.xs (inL its x0.lo x0.hi)) w (hM.keep0 (j := 0) rfl (fun _ h => RowIn.of_own h)) (hM.keep0 (j := 11) rfl (fun _ h => RowIn.of_own h)) (by omega) (by omega)).mono ?_)
       rintro e w' ⟨B123, cb123, rfl, hP⟩
       refine ⟨_, _, rfl, hP, ?_⟩; clear hP hM
       refine anyNext [cS NX (withL [] (N ++ nl)) nX, cS OX (withL [] (O ++ ol)) oX, cAt b2 36 [(vL A its c), (vI fan), (vI leaf), (vL NA (withL [] N) nc), (vL OA (withL [] O) oc)], cAt b4 36 [(.slice none 0 0), (.int .i64 0), (.int .i64 0), (.slice none 0 0), (.slice none 0 0)], cQ RX23 (qs23) rcX23, cBag (LX23), cAt b9 36 [(vL A its c), (vI fan), (vI leaf), (vL NX (withL [] (N ++ nl)) nX), (vL OX (withL [] (O ++ ol)) oX)], cQ RY (rp) rcY, cBag (LY), cAt b12 80 [(vS x0.lo), (vS x0.hi), (vI x0.k), (vI x0.n), (vS x0.f), (vL x0.A x0.xs (x0.c)), (vL x0.B x0.ms (x0.d))], cS B42 (inL its x0.lo x0.hi) cb42, cS B122 (without x0.xs (inL its x0.lo x0.hi)) cb122, cS B123 (withL (withL [] (N ++ nl)) (without x0.xs (inL its x0.lo x0.hi))) cb123] (fun _ h => h.pick [0, 1, 2, 3, 4, 5, 6, 7, 8, 9, 10, 11] rfl rfl) (fun _ h => h) ?_
       refine ac 7 (vP b9 3) ?_
       refine a1 8 ?_
       refine opStore1 6 rfl rfl (by kernel_rfl) rfl rfl rfl (by kernel_rfl) rfl (by simp) ?_
       refine anyLast (by kernel_rfl) rfl ?_
       refine qThen ?_
       refine anyBegin [cS NX (withL [] (N ++ nl)) nX, cS OX (withL [] (O ++ ol)) oX, cAt b2 36 [(vL A its c), (vI fan), (vI leaf), (vL NA (withL [] N) nc), (vL OA (withL [] O) oc)], cAt b4 36 [(.slice none 0 0), (.int .i64 0), (.int .i64 0), (.slice none 0 0), (.slice none 0 0)], cQ RX23 (qs23) rcX23, cBag (LX23), cAt b9 36 [(vL A its c), (vI fan), (vI leaf), (vL B123 (withL (withL [] (N ++ nl)) (without x0.xs (inL its x0.lo x0.hi))) cb123), (vL OX (withL [] (O ++ ol)) oX)], cQ RY (rp) rcY, cBag (LY), cAt b12 80 [(vS x0.lo), (vS x0.hi), (vI x0.k), (vI x0.n), (vS x0.f), (vL x0.A x0.xs (x0.c)), (vL x0.B x0.ms (x0.d))], cS B42 (inL its x0.lo x0.hi) cb42, cS B122 (without x0.xs (inL its x0.lo x0.hi)) cb122, cS B123 (withL (withL [] (N ++ nl)) (without x0.xs (inL its x0.lo x0.hi))) cb123] 11 (by kernel_rfl) (fun _ h => h) ?_
       refine ac 0 (vP b9 4) ?_
       refine av 1 (vL OX (withL [] (O ++ ol)) oX) rfl (rLoad 6 rfl rfl (by kernel_rfl) rfl rfl) ?_
       refine ac 2 (vP b12 6) ?_
       refine av 3 (vL x0.B x0.ms (x0.d)) rfl (rLoad 9 rfl rfl (by kernel_rfl) rfl rfl) ?_
       refine ac 4 (vP b12 6) ?_
       refine av 5 (vL x0.B x0.ms (x0.d)) rfl (rLoad 9 rfl rfl (by kernel_rfl) rfl rfl) ?_
       refine am 6 ?_
       refine a1 7 ?_
       refine opK0 (fun w hM => (rsWithout_any x0.B x0.d x0.ms B42 cb42 (inL its x0.lo x0.hi) w (hM.keep0 (j := 5) rfl (fun w h => (hqr23.row h hx0).2)) (hM.keep0 (j := 10) rfl (fun _ h => RowIn.of_own h)) (by omega) (by omega)).mono ?_)
       rintro e w' ⟨B132, cb132, rfl, hP⟩
       refine ⟨_, _, rfl, hP, ?_⟩; clear hP hM
       refine St.to [cS NX (withL [] (N ++ nl)) nX, cS OX (withL [] (O ++ ol)) oX, cAt b2 36 [(vL A its c), (vI fan), (vI leaf), (vL NA (withL [] N) nc), (vL OA (withL [] O) oc)], cAt b4 36 [(.slice none 0 0), (.int .i64 0), (.int .i64 0), (.slice none 0 0), (.slice none 0 0)], cQ RX23 (qs23) rcX23, cBag (LX23), cAt b9 36 [(vL A its c), (vI fan), (vI leaf), (vL B123 (withL (withL [] (N ++ nl)) (without x0.xs (inL its x0.lo x0.hi))) cb123), (vL OX (withL [] (O ++ ol)) oX)], cQ RY (rp) rcY, cBag (LY), cAt b12 80 [(vS x0.lo), (vS x0.hi), (vI x0.k), (vI x0.n), (vS x0.f), (vL x0.A x0.xs (x0.c)), (vL x0.B x0.ms (x0.d))], cS B42 (inL its x0.lo x0.hi) cb42, cS B122 (without x0.xs (inL its x0.lo x0.hi)) cb122, cS B123 (withL (withL [] (N ++ nl)) (without x0.xs (inL its x0.lo x0.hi))) cb123, cS B132 (without x0.ms (inL its x0.lo x0.hi)) cb132] (by kernel_rfl) ?_
       refine anyNext [cS NX (withL [] (N ++ nl)) nX, cS OX (withL [] (O ++ ol)) oX, cAt b2 36 [(vL A its c), (vI fan), (vI leaf), (vL NA (withL [] N) nc), (vL OA (withL [] O) oc)], cAt b4 36 [(.slice none 0 0), (.int .i64 0), (.int .i64 0), (.slice none 0 0), (.slice none 0 0)], cQ RX23 (qs23) rcX23, cBag (LX23), cAt b9 36 [(vL A its c), (vI fan), (vI leaf), (vL B123 (withL (withL [] (N ++ nl)) (without x0.xs (inL its x0.lo x0.hi))) cb123), (vL OX (withL [] (O ++ ol)) oX)], cQ RY (rp) rcY, cBag (LY), cAt b12 80 [(vS x0.lo), (vS x0.hi), (vI x0.k), (vI x0.n), (vS x0.f), (vL x0.A x0.xs (x0.c)), (vL x0.B x0.ms (x0.d))], cS B42 (inL its x0.lo x0.hi) cb42, cS B122 (without x0.xs (inL its x0.lo x0.hi)) cb122, cS B123 (withL (withL [] (N ++ nl)) (without x0.xs (inL its x0.lo x0.hi))) cb123, cS B132 (without x0.ms (inL its x0.lo x0.hi)) cb132] (fun _ h => h.pick [0, 1, 2, 3, 4, 5, 6, 7, 8, 9, 10, 11, 12] rfl rfl) (fun _ h => h) ?_
       refine a1 8 ?_
       refine opK0 (fun w hM => (rsWithout_any x0.B x0.d x0.ms B132 cb132 (without x0.ms (inL its x0.lo x0.hi)) w (hM.keep0 (j := 5) rfl (fun w h => (hqr23.row h hx0).2)) (hM.keep0 (j := 13) rfl (fun _ h => RowIn.of_own h)) (by omega) (by omega)).mono ?_)
       rintro e w' ⟨B133, cb133, rfl, hP⟩
       refine ⟨_, _, rfl, hP, ?_⟩; clear hP hM
       refine anyNext [cS NX (withL [] (N ++ nl)) nX, cS OX (withL [] (O ++ ol)) oX, cAt b2 36 [(vL A its c), (vI fan), (vI leaf), (vL NA (withL [] N) nc), (vL OA (withL [] O) oc)], cAt b4 36 [(.slice none 0 0), (.int .i64 0), (.int .i64 0), (.slice none 0 0), (.slice none 0 0)], cQ RX23 (qs23) rcX23, cBag (LX23), cAt b9 36 [(vL A its c), (vI fan), (vI leaf), (vL B123 (withL (withL [] (N ++ nl)) (without x0.xs (inL its x0.lo x0.hi))) cb123), (vL OX (withL [] (O ++ ol)) oX)], cQ RY (rp) rcY, cBag (LY), cAt b12 80 [(vS x0.lo), (vS x0.hi), (vI x0.k), (vI x0.n), (vS x0.f), (vL x0.A x0.xs (x0.c)), (vL x0.B x0.ms (x0.d))], cS B42 (inL its x0.lo x0.hi) cb42, cS B122 (without x0.xs (inL its x0.lo x0.hi)) cb122, cS B123 (withL (withL [] (N ++ nl)) (without x0.xs (inL its x0.lo x0.hi))) cb123, cS B132 (without x0.ms (inL its x0.lo x0.hi)) cb132, cS B133 (without x0.ms (without x0.ms (inL its x0.lo x0.hi))) cb133] (fun _ h => h.pick [0, 1, 2, 3, 4, 5, 6, 7, 8, 9, 10, 11, 12, 13] rfl rfl) (fun _ h => h) ?_
       refine a1 9 ?_
       refine opK0 (fun w hM => (rsWith_any OX oX (withL [] (O ++ ol)) B133 cb133 (without x0.ms (without x0.ms (inL its x0.lo x0.hi))) w (hM.keep0 (j := 1) rfl (fun _ h => RowIn.of_own h)) (hM.keep0 (j := 14) rfl (fun _ h => RowIn.of_own h)) (by omega) (by omega)).mono ?_)
       rintro e w' ⟨B134, cb134, rfl, hP⟩
       refine ⟨_, _, rfl, hP, ?_⟩; clear hP hM
       refine anyNext [cS NX (withL [] (N ++ nl)) nX, cS OX (withL [] (O ++ ol)) oX, cAt b2 36 [(vL A its c), (vI fan), (vI leaf), (vL NA (withL [] N) nc), (vL OA (withL [] O) oc)], cAt b4 36 [(.slice none 0 0), (.int .i64 0), (.int .i64 0), (.slice none 0 0), (.slice none 0 0)], cQ RX23 (qs23) rcX23, cBag (LX23), cAt b9 36 [(vL A its c), (vI fan), (vI leaf), (vL B123 (withL (withL [] (N ++ nl)) (without x0.xs (inL its x0.lo x0.hi))) cb123), (vL OX (withL [] (O ++ ol)) oX)], cQ RY (rp) rcY, cBag (LY), cAt b12 80 [(vS x0.lo), (vS x0.hi), (vI x0.k), (vI x0.n), (vS x0.f), (vL x0.A x0.xs (x0.c)), (vL x0.B x0.ms (x0.d))], cS B42 (inL its x0.lo x0.hi) cb42, cS B122 (without x0.xs (inL its x0.lo x0.hi)) cb122, cS B123 (withL (withL [] (N ++ nl)) (without x0.xs (inL its x0.lo x0.hi))) cb123, cS B132 (without x0.ms (inL its x0.lo x0.hi)) cb132, cS B133 (without x0.ms (without x0.ms (inL its x0.lo x0.hi))) cb133, cS B134 (withL (withL [] (O ++ ol)) (without x0.ms (without x0.ms (inL its x0.lo x0.hi)))) cb134] (fun _ h => h.pick [0, 1, 2, 3, 4, 5, 6, 7, 8, 9, 10, 11, 12, 13, 14] rfl rfl) (fun _ h => h) ?_
       refine ac 10 (vP b9 4) ?_
       refine a1 11 ?_
       refine opStore1 6 rfl rfl (by kernel_rfl) rfl rfl rfl (by kernel_rfl) rfl (by simp) ?_
       refine anyLast (by kernel_rfl) rfl ?_
       refine qBlock (qBlock (qThen (reg ?_)))
       refine lv (v := (vI (i + 1))) (rAdd _ rfl rfl rfl (by omega) (by omega) (by omega)) ?_
       refine lm ?_
       refine liNil (qThen ?_)
       rw [show withL (withL [] (N ++ nl)) (without x0.xs (inL its x0.lo x0.hi)) = withL [] (N ++ (nl ++ without x0.xs (inL its x0.lo x0.hi))) from withL_app3 _ _ _]
       rw [show withL (withL [] (O ++ ol)) (without x0.ms (without x0.ms (inL its x0.lo x0.hi))) = withL [] (O ++ (ol ++ without x0.ms (without x0.ms (inL its x0.lo x0.hi)))) from withL_app3 _ _ _]
       have hnext := hinv.ans hS hx0 hp0 hk3
       exact stAgain (i + 1, RY, rcY, rp, B123, cb123, nl ++ without x0.xs (inL its x0.lo x0.hi), B134, cb134, ol ++ without x0.ms (without x0.ms (inL its x0.lo x0.hi)), LY) (hnext) (by show qs23.length - (i + 1) < qs23.length - i; omega) ⟨rfl, rfl, rfl, rfl, rfl, rfl, rfl, rfl, rfl, trivial⟩ (fun w hM => (hM.pick [12, 15, 2, 3, 4, 5, 6, 7, 8] rfl rfl))
      ·exact absurd (hkk x0 (List.mem_of_getElem? hx0)) (by have h3 := eqb_no (n := 3) hc115; rintro (h | h | h) <;> contradiction)
   ·have hd33 := of_decide_eq_false hc33
    have hil1 := hinv.len1; have hil2 := hinv.len2; have hil3 := hinv.len3; have hile := hinv.le
    obtain rfl : i = qs23.length := by have := of_decide_eq_false hc33; omega
    have hrf : ∀ p ∈ rp.map QV.abs, p.fit := by rw [hinv.endR]; exact replyA_fit hs h40 hf hf2 hl1 hokp
    refine stExit (qThenX (qThenX (qBlockX (qThen (stSeq (reg ?_))))))
    refine lm ?_
    refine li rfl ?_
    refine opK0 (fun w hM => (rsREnc_any RY rcY rp w (hM.keep0 (j := 7) rfl (fun _ h => own3_row h)) ((hM.keep0 (j := 8) rfl (fun w h => h)).imp (fun w h => hinv.src.ok h)) (hinv.kok) (hrf) (by rw [hinv.endR]; omega)).mono ?_)
    rintro e w' ⟨B138, cb138, rfl, hP⟩
    refine ⟨_, _, rfl, hP, ?_⟩; clear hP hM
    rw [show rp.map QV.abs = replyA its fan leaf (qs23.map QV.abs) from hinv.endR]
    refine la ?_
    refine liNil (qThen (stSeq (stSeq ?_)))
    refine St.to [cS NX (withL [] (N ++ nl)) nX, cS OX (withL [] (O ++ ol)) oX, cAt b2 36 [(vL A its c), (vI fan), (vI leaf), (vL NA (withL [] N) nc), (vL OA (withL [] O) oc)], cAt b4 36 [(.slice none 0 0), (.int .i64 0), (.int .i64 0), (.slice none 0 0), (.slice none 0 0)], cQ RX23 (qs23) rcX23, cBag (LX23), cAt b9 36 [(vL A its c), (vI fan), (vI leaf), (vL NX (withL [] (N ++ nl)) nX), (vL OX (withL [] (O ++ ol)) oX)], cQ RY (rp) rcY, cBag (LY), cB B138 (encA (replyA its fan leaf (qs23.map QV.abs))) cb138] (by kernel_rfl) ?_
    refine reg ?_
    refine lm ?_
    refine lc (vI ((encA (replyA its fan leaf (qs23.map QV.abs))).length)) ?_
    refine lc (.bool (decide ((((encA (replyA its fan leaf (qs23.map QV.abs))).length : Nat) : Int) > 1048576))) ?_
    refine liNil (qThen ?_)
    refine stFalseK rfl (by simp; omega) ?_
    refine stSkip (qThen (stSeq (reg ?_)))
    refine lv (v := (.agg #[(vL A its c), (vI fan), (vI leaf), (vL NX (withL [] (N ++ nl)) nX), (vL OX (withL [] (O ++ ol)) oX)])) (rLoadA [(vL A its c), (vI fan), (vI leaf), (vL NX (withL [] (N ++ nl)) nX), (vL OX (withL [] (O ++ ol)) oX)] rfl rfl (by kernel_rfl) (by kernel_rfl) (segAt (i := 6) rfl (by intro j v hj; first | (rw [Nat.zero_add]; exact hj) | (match j, hj with | 0, h => exact h | 1, h => exact h | 2, h => exact h | 3, h => exact h | 4, h => exact h)))) ?_
    refine lm ?_
    refine li rfl ?_
    refine opStoreN 3 [(vL A its c), (vI fan), (vI leaf), (vL NX (withL [] (N ++ nl)) nX), (vL OX (withL [] (O ++ ol)) oX)] (vs := [(vL A its c), (vI fan), (vI leaf), (vL NX (withL [] (N ++ nl)) nX), (vL OX (withL [] (O ++ ol)) oX)]) rfl rfl (by kernel_rfl) rfl rfl rfl (by kernel_rfl) rfl (by simp) (by simp [Value.oneCell']) rfl ?_
    refine la ?_
    refine la ?_
    refine liNil (qThen (stRet ?_))
    refine stEnd [(.agg #[(vL A its c), (vI fan), (vI leaf), (vL NX (withL [] (N ++ nl)) nX), (vL OX (withL [] (O ++ ol)) oX)]), (vL B138 (encA (replyA its fan leaf (qs23.map QV.abs))) cb138), (.int .i64 0)] rfl ⟨⟨_, rfl, fun w hM => run_loadVarA (by kernel_rfl) (by kernel_rfl) (segAt (i := 3) (off := 0) rfl (by intro j v hj; rw [Nat.zero_add]; exact hj) w hM)⟩, rfl, rfl, trivial⟩ (fun w hM => ?_)
    rw [hst, ← hinv.endN, ← hinv.endO]
    exact ⟨NX, nX, OX, oX, B138, cb138, rfl, (hM.pick [0, 1, 9] rfl rfl)⟩
end Go.Proofs.YtlepfnihpdhcaaaGreatDoor
namespace Go.Proofs.YtlepfnihpdhcaaaGreatDoor
open Go.RowKit
theorem rsRRun_any (A : Option Addr) (c : Nat) (a : List (List UInt8)) (A2 : Option Addr) (c2 : Nat) (b : List (List UInt8)) (fan : Nat) (leaf : Nat) (K : Nat) (w : World) (r0 : Rf [] w (fun w => RowIn w A (SS a))) (r1 : Rf [] w (fun w => RowIn w A2 (SS b))) (hS : Sets a b fan leaf) (hK : RunEnds a b fan leaf K) (hmK : msgA a b fan leaf K = []) :
  Calls Tryz.prog 25 #[(vL A a c), (vL A2 b c2), (.agg #[(vI fan), (vI leaf)])] w fun e w' => ∃ (N1 : Option Addr) (n1 : Nat) (O1 : Option Addr) (o1 : Nat) (N0 : Option Addr) (n0 : Nat) (O0 : Option Addr) (o0 : Nat), e = .returned (.tuple #[(.agg #[(vL A a c), (vI fan), (vI leaf), (vL N1 (withL [] ((runN a b fan leaf 1 K).1)) n1), (vL O1 (withL [] ((runN a b fan leaf 1 K).2)) o1)]), (.agg #[(vL A2 b c2), (vI fan), (vI leaf), (vL N0 (withL [] ((runN a b fan leaf 0 K).1)) n0), (vL O0 (withL [] ((runN a b fan leaf 0 K).2)) o0)]), (vI K), (vI (runB a b fan leaf K)), (.int .i64 0)]) ∧ Back [] w [cS N1 (withL [] ((runN a b fan leaf 1 K).1)) n1, cS O1 (withL [] ((runN a b fan leaf 1 K).2)) o1, cS N0 (withL [] ((runN a b fan leaf 0 K).1)) n0, cS O0 (withL [] ((runN a b fan leaf 0 K).2)) o0] w' := by
 refine stEnter (args := [(vL A a c), (vL A2 b c2), (.agg #[(vI fan), (vI leaf)])]) (fps []) Tryz.func25 rfl 60 rfl [(0, (vL A a c)), (1, (vL A2 b c2)), (2, (.agg #[(vI fan), (vI leaf)]))] ⟨rfl, rfl, rfl, trivial⟩ [] (Mm.start w []) ?_
 refine stSeq (reg (li rfl ?_))
 refine opBox [(vI fan), (vI leaf)] rfl rfl (by kernel_rfl) rfl rfl (fun b5 => ?_)
 refine li rfl ?_
 refine opAlloc [(.slice none 0 0), (.int .i64 0), (.int .i64 0), (.slice none 0 0), (.slice none 0 0)] rfl rfl (by kernel_rfl) (by kernel_rfl) (fun b6 => ?_)
 refine li rfl ?_
 refine opAlloc [(.slice none 0 0), (.int .i64 0), (.int .i64 0), (.slice none 0 0), (.slice none 0 0)] rfl rfl (by kernel_rfl) (by kernel_rfl) (fun b7 => ?_)
 refine la ?_
 refine la ?_
 refine la ?_
 refine liNil (qThen ?_)
 refine stCut (ι := Nat × Nat) (fun _ => True) (fun (b11, b12) => [(0, (vL A a c)), (1, (vL A2 b c2)), (2, (.agg #[(vI fan), (vI leaf)])), (5, (vP b5 0)), (6, (vP b6 0)), (7, (vP b7 0)), (8, (.int .i64 0)), (9, (.int .i64 0)), (10, (.int .i64 0)), (19, (vL A a c)), (20, (.agg #[(vI fan), (vI leaf)])), (21, (.agg #[(vL A a c), (vI fan), (vI leaf), (.slice none 0 0), (.slice none 0 0)])), (22, (vL A2 b c2)), (23, (.agg #[(vI fan), (vI leaf)])), (24, (.agg #[(vL A2 b c2), (vI fan), (vI leaf), (.slice none 0 0), (.slice none 0 0)])), (11, (vP b11 0)), (12, (vP b12 0))]) (fun (b11, b12) => [cAt b5 24 [(vI fan), (vI leaf)], cAt b6 36 [(.slice none 0 0), (.int .i64 0), (.int .i64 0), (.slice none 0 0), (.slice none 0 0)], cAt b7 36 [(.slice none 0 0), (.int .i64 0), (.int .i64 0), (.slice none 0 0), (.slice none 0 0)], cAt b11 36 [(vL A a c), (vI fan), (vI leaf), (.slice none 0 0), (.slice none 0 0)], cAt b12 36 [(vL A2 b c2), (vI fan), (vI leaf), (.slice none 0 0), (.slice none 0 0)]]) ?_ ?_
 ·refine anyBegin [cAt b5 24 [(vI fan), (vI leaf)], cAt b6 36 [(.slice none 0 0), (.int .i64 0), (.int .i64 0), (.slice none 0 0), (.slice none 0 0)], cAt b7 36 [(.slice none 0 0), (.int .i64 0), (.int .i64 0), (.slice none 0 0), (.slice none 0 0)]] 10 (by kernel_rfl) (fun _ h => h) ?_
  refine am 0 ?_
  refine av 1 (.agg #[(vI fan), (vI leaf)]) rfl (rLoadA [(vI fan), (vI leaf)] rfl rfl (by kernel_rfl) (by kernel_rfl) (segAt (i := 0) rfl (by intro j v hj; first | (rw [Nat.zero_add]; exact hj) | (match j, hj with | 0, h => exact h | 1, h => exact h)))) ?_
  refine ac 2 (.agg #[(vL A a c), (vI fan), (vI leaf), (.slice none 0 0), (.slice none 0 0)]) ?_
  refine am 3 ?_
  refine av 4 (.agg #[(vI fan), (vI leaf)]) rfl (rLoadA [(vI fan), (vI leaf)] rfl rfl (by kernel_rfl) (by kernel_rfl) (segAt (i := 0) rfl (by intro j v hj; first | (rw [Nat.zero_add]; exact hj) | (match j, hj with | 0, h => exact h | 1, h => exact h)))) ?_
  refine ac 5 (.agg #[(vL A2 b c2), (vI fan), (vI leaf), (.slice none 0 0), (.slice none 0 0)]) ?_
  refine anyTwo (i := 6) (j := 7) (by kernel_rfl) rfl rfl rfl rfl ?_ ?_
  ·refine opAlloc [(.slice none 0 0), (.int .i64 0), (.int .i64 0), (.slice none 0 0), (.slice none 0 0)] rfl rfl (by kernel_rfl) (by kernel_rfl) (fun b11 => ?_)
   refine St.to [cAt b5 24 [(vI fan), (vI leaf)], cAt b6 36 [(.slice none 0 0), (.int .i64 0), (.int .i64 0), (.slice none 0 0), (.slice none 0 0)], cAt b7 36 [(.slice none 0 0), (.int .i64 0), (.int .i64 0), (.slice none 0 0), (.slice none 0 0)], cAt b11 36 [(.slice none 0 0), (.int .i64 0), (.int .i64 0), (.slice none 0 0), (.slice none 0 0)]] (by kernel_rfl) ?_
   refine anyNext [cAt b5 24 [(vI fan), (vI leaf)], cAt b6 36 [(.slice none 0 0), (.int .i64 0), (.int .i64 0), (.slice none 0 0), (.slice none 0 0)], cAt b7 36 [(.slice none 0 0), (.int .i64 0), (.int .i64 0), (.slice none 0 0), (.slice none 0 0)]] (fun _ h => h) (fun _ h => h.pick [0, 1, 2] rfl rfl) ?_
   refine a1 7 ?_
   refine opAlloc [(.slice none 0 0), (.int .i64 0), (.int .i64 0), (.slice none 0 0), (.slice none 0 0)] rfl rfl (by kernel_rfl) (by kernel_rfl) (fun b12 => ?_)
   refine anyNext [cAt b5 24 [(vI fan), (vI leaf)], cAt b6 36 [(.slice none 0 0), (.int .i64 0), (.int .i64 0), (.slice none 0 0), (.slice none 0 0)], cAt b7 36 [(.slice none 0 0), (.int .i64 0), (.int .i64 0), (.slice none 0 0), (.slice none 0 0)]] (fun _ h => h) (fun _ h => h.pick [0, 1, 2] rfl rfl) ?_
   refine a1 8 ?_
   refine opStoreN 3 [(vL A a c), (vI fan), (vI leaf), (.slice none 0 0), (.slice none 0 0)] (vs := [(vL A a c), (vI fan), (vI leaf), (.slice none 0 0), (.slice none 0 0)]) rfl rfl (by kernel_rfl) rfl rfl rfl (by kernel_rfl) rfl (by simp) (by simp [Value.oneCell']) rfl ?_
   refine anyNext [cAt b5 24 [(vI fan), (vI leaf)], cAt b6 36 [(.slice none 0 0), (.int .i64 0), (.int .i64 0), (.slice none 0 0), (.slice none 0 0)], cAt b7 36 [(.slice none 0 0), (.int .i64 0), (.int .i64 0), (.slice none 0 0), (.slice none 0 0)], cAt b11 36 [(vL A a c), (vI fan), (vI leaf), (.slice none 0 0), (.slice none 0 0)]] (fun _ h => h.pick [0, 1, 2] rfl rfl) (fun _ h => h.pick [0, 1, 2, 3] rfl rfl) ?_
   refine a1 9 ?_
   refine opStoreN 4 [(vL A2 b c2), (vI fan), (vI leaf), (.slice none 0 0), (.slice none 0 0)] (vs := [(vL A2 b c2), (vI fan), (vI leaf), (.slice none 0 0), (.slice none 0 0)]) rfl rfl (by kernel_rfl) rfl rfl rfl (by kernel_rfl) rfl (by simp) (by simp [Value.oneCell']) rfl ?_
   refine anyNext [cAt b5 24 [(vI fan), (vI leaf)], cAt b6 36 [(.slice none 0 0), (.int .i64 0), (.int .i64 0), (.slice none 0 0), (.slice none 0 0)], cAt b7 36 [(.slice none 0 0), (.int .i64 0), (.int .i64 0), (.slice none 0 0), (.slice none 0 0)], cAt b11 36 [(vL A a c), (vI fan), (vI leaf), (.slice none 0 0), (.slice none 0 0)], cAt b12 36 [(vL A2 b c2), (vI fan), (vI leaf), (.slice none 0 0), (.slice none 0 0)]] (fun _ h => h.pick [0, 1, 2, 3] rfl rfl) (fun _ h => h) ?_
   refine anyDone (by kernel_rfl) ?_
   refine qThen ?_
   exact stMeet (b11, b12) trivial ⟨rfl, rfl, rfl, rfl, rfl, rfl, rfl, rfl, rfl, rfl, rfl, rfl, rfl, rfl, rfl, rfl, rfl, trivial⟩ (fun _ h => h)
  ·refine opAlloc [(.slice none 0 0), (.int .i64 0), (.int .i64 0), (.slice none 0 0), (.slice none 0 0)] rfl rfl (by kernel_rfl) (by kernel_rfl) (fun b12 => ?_)
   refine anyNext [cAt b5 24 [(vI fan), (vI leaf)], cAt b6 36 [(.slice none 0 0), (.int .i64 0), (.int .i64 0), (.slice none 0 0), (.slice none 0 0)], cAt b7 36 [(.slice none 0 0), (.int .i64 0), (.int .i64 0), (.slice none 0 0), (.slice none 0 0)]] (fun _ h => h) (fun _ h => h.pick [0, 1, 2] rfl rfl) ?_
   refine a1 6 ?_
   refine opAlloc [(.slice none 0 0), (.int .i64 0), (.int .i64 0), (.slice none 0 0), (.slice none 0 0)] rfl rfl (by kernel_rfl) (by kernel_rfl) (fun b11 => ?_)
   refine anyNext [cAt b5 24 [(vI fan), (vI leaf)], cAt b6 36 [(.slice none 0 0), (.int .i64 0), (.int .i64 0), (.slice none 0 0), (.slice none 0 0)], cAt b7 36 [(.slice none 0 0), (.int .i64 0), (.int .i64 0), (.slice none 0 0), (.slice none 0 0)]] (fun _ h => h) (fun _ h => h.pick [0, 1, 2] rfl rfl) ?_
   refine a1 8 ?_
   refine opStoreN 4 [(vL A a c), (vI fan), (vI leaf), (.slice none 0 0), (.slice none 0 0)] (vs := [(vL A a c), (vI fan), (vI leaf), (.slice none 0 0), (.slice none 0 0)]) rfl rfl (by kernel_rfl) rfl rfl rfl (by kernel_rfl) rfl (by simp) (by simp [Value.oneCell']) rfl ?_
   refine St.to [cAt b5 24 [(vI fan), (vI leaf)], cAt b6 36 [(.slice none 0 0), (.int .i64 0), (.int .i64 0), (.slice none 0 0), (.slice none 0 0)], cAt b7 36 [(.slice none 0 0), (.int .i64 0), (.int .i64 0), (.slice none 0 0), (.slice none 0 0)], cAt b12 36 [(.slice none 0 0), (.int .i64 0), (.int .i64 0), (.slice none 0 0), (.slice none 0 0)], cAt b11 36 [(vL A a c), (vI fan), (vI leaf), (.slice none 0 0), (.slice none 0 0)]] (by kernel_rfl) ?_
   refine anyNext [cAt b5 24 [(vI fan), (vI leaf)], cAt b6 36 [(.slice none 0 0), (.int .i64 0), (.int .i64 0), (.slice none 0 0), (.slice none 0 0)], cAt b7 36 [(.slice none 0 0), (.int .i64 0), (.int .i64 0), (.slice none 0 0), (.slice none 0 0)], cAt b11 36 [(vL A a c), (vI fan), (vI leaf), (.slice none 0 0), (.slice none 0 0)]] (fun _ h => h.pick [0, 1, 2] rfl rfl) (fun _ h => h.pick [0, 1, 2, 4] rfl rfl) ?_
   refine a1 9 ?_
   refine opStoreN 3 [(vL A2 b c2), (vI fan), (vI leaf), (.slice none 0 0), (.slice none 0 0)] (vs := [(vL A2 b c2), (vI fan), (vI leaf), (.slice none 0 0), (.slice none 0 0)]) rfl rfl (by kernel_rfl) rfl rfl rfl (by kernel_rfl) rfl (by simp) (by simp [Value.oneCell']) rfl ?_
   refine anyNext [cAt b5 24 [(vI fan), (vI leaf)], cAt b6 36 [(.slice none 0 0), (.int .i64 0), (.int .i64 0), (.slice none 0 0), (.slice none 0 0)], cAt b7 36 [(.slice none 0 0), (.int .i64 0), (.int .i64 0), (.slice none 0 0), (.slice none 0 0)], cAt b12 36 [(vL A2 b c2), (vI fan), (vI leaf), (.slice none 0 0), (.slice none 0 0)], cAt b11 36 [(vL A a c), (vI fan), (vI leaf), (.slice none 0 0), (.slice none 0 0)]] (fun _ h => h.pick [0, 1, 2, 4] rfl rfl) (fun _ h => h) ?_
   refine anyDone (by kernel_rfl) ?_
   refine qThen ?_
   exact stMeet (b11, b12) trivial ⟨rfl, rfl, rfl, rfl, rfl, rfl, rfl, rfl, rfl, rfl, rfl, rfl, rfl, rfl, rfl, rfl, rfl, trivial⟩ (fun _ h => h.pick [0, 1, 2, 4, 3] rfl rfl)
 ·rintro ⟨b11, b12⟩ -
  show St _ _ _ [(0, (vL A a c)), (1, (vL A2 b c2)), (2, (.agg #[(vI fan), (vI leaf)])), (5, (vP b5 0)), (6, (vP b6 0)), (7, (vP b7 0)), (8, (.int .i64 0)), (9, (.int .i64 0)), (10, (.int .i64 0)), (19, (vL A a c)), (20, (.agg #[(vI fan), (vI leaf)])), (21, (.agg #[(vL A a c), (vI fan), (vI leaf), (.slice none 0 0), (.slice none 0 0)])), (22, (vL A2 b c2)), (23, (.agg #[(vI fan), (vI leaf)])), (24, (.agg #[(vL A2 b c2), (vI fan), (vI leaf), (.slice none 0 0), (.slice none 0 0)])), (11, (vP b11 0)), (12, (vP b12 0))] [cAt b5 24 [(vI fan), (vI leaf)], cAt b6 36 [(.slice none 0 0), (.int .i64 0), (.int .i64 0), (.slice none 0 0), (.slice none 0 0)], cAt b7 36 [(.slice none 0 0), (.int .i64 0), (.int .i64 0), (.slice none 0 0), (.slice none 0 0)], cAt b11 36 [(vL A a c), (vI fan), (vI leaf), (.slice none 0 0), (.slice none 0 0)], cAt b12 36 [(vL A2 b c2), (vI fan), (vI leaf), (.slice none 0 0), (.slice none 0 0)]] _
  refine stSeq (reg ?_)
  refine lv (v := (.agg #[(vL A a c), (vI fan), (vI leaf), (.slice none 0 0), (.slice none 0 0)])) (rLoadA [(vL A a c), (vI fan), (vI leaf), (.slice none 0 0), (.slice none 0 0)] rfl rfl (by kernel_rfl) (by kernel_rfl) (segAt (i := 3) rfl (by intro j v hj; first | (rw [Nat.zero_add]; exact hj) | (match j, hj with | 0, h => exact h | 1, h => exact h | 2, h => exact h | 3, h => exact h | 4, h => exact h)))) ?_
  refine li rfl ?_
  refine opK0 (fun w hM => (rsRFirst_any A c a fan leaf none 0 noB2 none 0 noB2 w (r0.go0 hM) (hS.ha) (hS.ha4)).mono ?_)
  rintro e w' ⟨B26, cb26, rfl, hP⟩
  refine ⟨_, _, rfl, hP, ?_⟩; clear hP hM
  refine la ?_
  refine liNil (qThen (stSeq (reg ?_)))
  refine la ?_
  refine la ?_
  refine liNil (qThen (stSeq (stBlock ?_)))
  refine St.mem (fun w hM => hM.nilOwn 9 1) ?_
  refine St.mem (fun w hM => hM.nilOwn 9 1) ?_
  refine St.mem (fun w hM => hM.nilOwn 9 1) ?_
  refine St.mem (fun w hM => hM.nilOwn 9 1) ?_
  refine St.to [cAt b5 24 [(vI fan), (vI leaf)], cAt b6 36 [(.slice none 0 0), (.int .i64 0), (.int .i64 0), (.slice none 0 0), (.slice none 0 0)], cAt b7 36 [(.slice none 0 0), (.int .i64 0), (.int .i64 0), (.slice none 0 0), (.slice none 0 0)], cAt b11 36 [(vL A a c), (vI fan), (vI leaf), (.slice none 0 0), (.slice none 0 0)], cAt b12 36 [(vL A2 b c2), (vI fan), (vI leaf), (.slice none 0 0), (.slice none 0 0)], cB B26 (encA [sumA a [] []]) cb26, cOwn 9 1 none (0) (0) ([]), cOwn 9 1 none (0) (0) ([]), cOwn 9 1 none (0) (0) ([]), cOwn 9 1 none (0) (0) ([])] (by kernel_rfl) ?_
  refine stLoop (ι := Nat × Option Addr × Nat × Option Addr × Nat × Option Addr × Nat × Option Addr × Nat × Option Addr × Nat × Option Addr × Nat × Option Addr × Nat) (fun (j, XA, xc, XN, xn, XO, xo, YA, yc, YN, yn, YO, yo, BX, cX) => j ≤ K ∧ Turn A c A2 c2 j XA xc YA yc) (fun (j, XA, xc, XN, xn, XO, xo, YA, yc, YN, yn, YO, yo, BX, cX) => K - j) (fun (j, XA, xc, XN, xn, XO, xo, YA, yc, YN, yn, YO, yo, BX, cX) => [(6, (vP b6 0)), (7, (vP b7 0)), (8, (.int .i64 0)), (9, (.int .i64 0)), (10, (.int .i64 0)), (11, (vP b11 0)), (12, (vP b12 0)), (13, (vL BX (runM a b fan leaf j) cX)), (14, (vI j)), (15, (vI (runB a b fan leaf j)))]) (fun (j, XA, xc, XN, xn, XO, xo, YA, yc, YN, yn, YO, yo, BX, cX) => [cAt b5 24 [(vI fan), (vI leaf)], cAt b6 36 [(.slice none 0 0), (.int .i64 0), (.int .i64 0), (.slice none 0 0), (.slice none 0 0)], cAt b7 36 [(.slice none 0 0), (.int .i64 0), (.int .i64 0), (.slice none 0 0), (.slice none 0 0)], cAt b11 36 [(vL XA (sendOf a b j) xc), (vI fan), (vI leaf), (vL XN (withL [] ((runN a b fan leaf ((j + 1) % 2) j).1)) xn), (vL XO (withL [] ((runN a b fan leaf ((j + 1) % 2) j).2)) xo)], cAt b12 36 [(vL YA (sideOf a b j) yc), (vI fan), (vI leaf), (vL YN (withL [] ((runN a b fan leaf (j % 2) j).1)) yn), (vL YO (withL [] ((runN a b fan leaf (j % 2) j).2)) yo)], cB BX (runM a b fan leaf j) cX, cS XN (withL [] ((runN a b fan leaf ((j + 1) % 2) j).1)) xn, cS XO (withL [] ((runN a b fan leaf ((j + 1) % 2) j).2)) xo, cS YN (withL [] ((runN a b fan leaf (j % 2) j).1)) yn, cS YO (withL [] ((runN a b fan leaf (j % 2) j).2)) yo]) (0, A, c, none, 0, none, 0, A2, c2, none, 0, none, 0, B26, cb26) ⟨Nat.zero_le _, .inl ⟨rfl, rfl, rfl, rfl, rfl⟩⟩ ⟨rfl, rfl, rfl, rfl, rfl, rfl, rfl, rfl, rfl, rfl, trivial⟩ (fun w hM => by show Mm _ _ [cAt b5 24 [(vI fan), (vI leaf)], cAt b6 36 [(.slice none 0 0), (.int .i64 0), (.int .i64 0), (.slice none 0 0), (.slice none 0 0)], cAt b7 36 [(.slice none 0 0), (.int .i64 0), (.int .i64 0), (.slice none 0 0), (.slice none 0 0)], cAt b11 36 [(vL A (sendOf a b 0) c), (vI fan), (vI leaf), (vL none (withL [] ((runN a b fan leaf ((0 + 1) % 2) 0).1)) 0), (vL none (withL [] ((runN a b fan leaf ((0 + 1) % 2) 0).2)) 0)], cAt b12 36 [(vL A2 (sideOf a b 0) c2), (vI fan), (vI leaf), (vL none (withL [] ((runN a b fan leaf (0 % 2) 0).1)) 0), (vL none (withL [] ((runN a b fan leaf (0 % 2) 0).2)) 0)], cB B26 (runM a b fan leaf 0) cb26, cS none (withL [] ((runN a b fan leaf ((0 + 1) % 2) 0).1)) 0, cS none (withL [] ((runN a b fan leaf ((0 + 1) % 2) 0).2)) 0, cS none (withL [] ((runN a b fan leaf (0 % 2) 0).1)) 0, cS none (withL [] ((runN a b fan leaf (0 % 2) 0).2)) 0] w; exact hM) ?_
  rintro ⟨j, XA, xc, XN, xn, XO, xo, YA, yc, YN, yn, YO, yo, BX, cX⟩ ⟨hok, hT⟩
  show St _ _ _ [(6, (vP b6 0)), (7, (vP b7 0)), (8, (.int .i64 0)), (9, (.int .i64 0)), (10, (.int .i64 0)), (11, (vP b11 0)), (12, (vP b12 0)), (13, (vL BX (runM a b fan leaf j) cX)), (14, (vI j)), (15, (vI (runB a b fan leaf j)))] [cAt b5 24 [(vI fan), (vI leaf)], cAt b6 36 [(.slice none 0 0), (.int .i64 0), (.int .i64 0), (.slice none 0 0), (.slice none 0 0)], cAt b7 36 [(.slice none 0 0), (.int .i64 0), (.int .i64 0), (.slice none 0 0), (.slice none 0 0)], cAt b11 36 [(vL XA (sendOf a b j) xc), (vI fan), (vI leaf), (vL XN (withL [] ((runN a b fan leaf ((j + 1) % 2) j).1)) xn), (vL XO (withL [] ((runN a b fan leaf ((j + 1) % 2) j).2)) xo)], cAt b12 36 [(vL YA (sideOf a b j) yc), (vI fan), (vI leaf), (vL YN (withL [] ((runN a b fan leaf (j % 2) j).1)) yn), (vL YO (withL [] ((runN a b fan leaf (j % 2) j).2)) yo)], cB BX (runM a b fan leaf j) cX, cS XN (withL [] ((runN a b fan leaf ((j + 1) % 2) j).1)) xn, cS XO (withL [] ((runN a b fan leaf ((j + 1) % 2) j).2)) xo, cS YN (withL [] ((runN a b fan leaf (j % 2) j).1)) yn, cS YO (withL [] ((runN a b fan leaf (j % 2) j).2)) yo] _
  refine stSeq (stSeq (reg ?_))
  refine lm ?_
  refine lc (vI ((runM a b fan leaf j).length)) ?_
  refine lc (.bool (decide ((((runM a b fan leaf j).length : Nat) : Int) > 0))) ?_
  refine liNil (qThen ?_)
  refine stCond rfl (fun hc29 => ?_) (fun hc29 => ?_)
  ·have hd29 := of_decide_eq_true hc29
   have hKl := hK.le
   have hjK : j < K := hK.lt hok (by have := of_decide_eq_true hc29; omega)
   have hml := runM_len (b := b) hS.ha4 fan leaf j; have hbl := runB_le (b := b) hS.ha4 fan leaf j
   obtain ⟨hs, h40⟩ := side_ok hS j; have hf := hS.hf; have hf2 := hS.hf2; have hl1 := hS.hl; have hl2 := hS.hl2
   obtain ⟨hy1, hy2⟩ := run_bnd hS hKl hmK hok (par := j % 2) (by omega)
   have hR : stepA (sideOf a b j) fan leaf (runM a b fan leaf j) = runR a b fan leaf j := rfl
   have h2 : (stepA (sideOf a b j) fan leaf (runM a b fan leaf j)).err ≠ 2 := by rw [hR, (hK.go j hjK).2]; decide
   refine St.fact (fun w hM => own_cap (hM.at (i := 5) rfl)) (fun hcap => ?_)
   have rY := hT.row r0 r1
   refine stSkip (qThen (stBlock (stSeq (reg ?_))))
   refine lm ?_
   refine lv (v := (vI (j + 1))) (rAdd _ rfl rfl rfl (by omega) (by omega) (by omega)) ?_
   refine lm ?_
   refine lm ?_
   refine lc (vI ((runM a b fan leaf j).length)) ?_
   refine lv (v := (vI (runB a b fan leaf (j + 1)))) (rAdd _ rfl rfl rfl (by show _ = ((runB a b fan leaf j + (runM a b fan leaf j).length : Nat) : Int); omega) (by omega) (by show ((runB a b fan leaf j + (runM a b fan leaf j).length : Nat) : Int) ≤ _; omega)) ?_
   refine la ?_
   refine la ?_
   refine liNil (qThen (stSeq (reg ?_)))
   refine lv (v := (.agg #[(vL YA (sideOf a b j) yc), (vI fan), (vI leaf), (vL YN (withL [] ((runN a b fan leaf (j % 2) j).1)) yn), (vL YO (withL [] ((runN a b fan leaf (j % 2) j).2)) yo)])) (rLoadA [(vL YA (sideOf a b j) yc), (vI fan), (vI leaf), (vL YN (withL [] ((runN a b fan leaf (j % 2) j).1)) yn), (vL YO (withL [] ((runN a b fan leaf (j % 2) j).2)) yo)] rfl rfl (by kernel_rfl) (by kernel_rfl) (segAt (i := 4) rfl (by intro j v hj; first | (rw [Nat.zero_add]; exact hj) | (match j, hj with | 0, h => exact h | 1, h => exact h | 2, h => exact h | 3, h => exact h | 4, h => exact h)))) ?_
   refine lm ?_
   refine li rfl ?_
   refine opK [8, 9] [cS YN (withL [] ((runN a b fan leaf (j % 2) j).1)) yn, cS YO (withL [] ((runN a b fan leaf (j % 2) j).2)) yo] (fun w hM hO => (rsRStep_any YA yc (sideOf a b j) fan leaf YN yn ((runN a b fan leaf (j % 2) j).1) YO yo ((runN a b fan leaf (j % 2) j).2) BX cX (runM a b fan leaf j) w hO (rY.goS hM [8, 9]) (hM.keepS [8, 9] (j := 5) rfl (fun _ h => RowIn.of_own h)) (by assumption) (by assumption) (by assumption) (by assumption) (by assumption) (by assumption) (by omega) (by omega) (by omega) (by omega) (by assumption)).mono ?_)
   rintro e w' ⟨NA239, nc239, OA239, oc239, B39, cb39, rfl, hP⟩
   refine ⟨_, [cS NA239 (withL [] (((runN a b fan leaf (j % 2) j).1) ++ (stepA (sideOf a b j) fan leaf (runM a b fan leaf j)).need)) nc239, cS OA239 (withL [] (((runN a b fan leaf (j % 2) j).2) ++ (stepA (sideOf a b j) fan leaf (runM a b fan leaf j)).off)) oc239], _, rfl, hP, rfl, ?_⟩; clear hP hM hO
   rw [show stepA (sideOf a b j) fan leaf (runM a b fan leaf j) = runR a b fan leaf j from hR]
   refine lm ?_
   refine lc (.agg #[(vL YA (sideOf a b j) yc), (vI fan), (vI leaf), (vL NA239 (withL [] (((runN a b fan leaf (j % 2) j).1) ++ (runR a b fan leaf j).need)) nc239), (vL OA239 (withL [] (((runN a b fan leaf (j % 2) j).2) ++ (runR a b fan leaf j).off)) oc239)]) ?_
   refine lc (vL B39 ((runR a b fan leaf j).reply) cb39) ?_
   refine lc (.int .i64 (runR a b fan leaf j).err) ?_
   refine li rfl ?_
   refine opAlloc [(.slice none 0 0), (.int .i64 0), (.int .i64 0), (.slice none 0 0), (.slice none 0 0)] rfl rfl (by kernel_rfl) (by kernel_rfl) (fun b16 => ?_)
   refine li rfl ?_
   refine opStoreN 11 [(vL YA (sideOf a b j) yc), (vI fan), (vI leaf), (vL NA239 (withL [] (((runN a b fan leaf (j % 2) j).1) ++ (runR a b fan leaf j).need)) nc239), (vL OA239 (withL [] (((runN a b fan leaf (j % 2) j).2) ++ (runR a b fan leaf j).off)) oc239)] (vs := [(vL YA (sideOf a b j) yc), (vI fan), (vI leaf), (vL NA239 (withL [] (((runN a b fan leaf (j % 2) j).1) ++ (runR a b fan leaf j).need)) nc239), (vL OA239 (withL [] (((runN a b fan leaf (j % 2) j).2) ++ (runR a b fan leaf j).off)) oc239)]) rfl rfl (by kernel_rfl) rfl rfl rfl (by kernel_rfl) rfl (by simp) (by simp [Value.oneCell']) rfl ?_
   refine la ?_
   refine la ?_
   refine liNil (qThen (stSeq (stSeq (reg ?_))))
   refine lm ?_
   refine lc (.bool (((runR a b fan leaf j).err : Int) != 0)) ?_
   refine liNil (qThen ?_)
   refine stFalseK rfl (by rw [(hK.go j hjK).2]; simp) ?_
   refine stSkip (qThen (reg ?_))
   refine lv (v := (.agg #[(vL YA (sideOf a b j) yc), (vI fan), (vI leaf), (vL NA239 (withL [] (((runN a b fan leaf (j % 2) j).1) ++ (runR a b fan leaf j).need)) nc239), (vL OA239 (withL [] (((runN a b fan leaf (j % 2) j).2) ++ (runR a b fan leaf j).off)) oc239)])) (rLoadA [(vL YA (sideOf a b j) yc), (vI fan), (vI leaf), (vL NA239 (withL [] (((runN a b fan leaf (j % 2) j).1) ++ (runR a b fan leaf j).need)) nc239), (vL OA239 (withL [] (((runN a b fan leaf (j % 2) j).2) ++ (runR a b fan leaf j).off)) oc239)] rfl rfl (by kernel_rfl) (by kernel_rfl) (segAt (i := 11) rfl (by intro j v hj; first | (rw [Nat.zero_add]; exact hj) | (match j, hj with | 0, h => exact h | 1, h => exact h | 2, h => exact h | 3, h => exact h | 4, h => exact h)))) ?_
   refine lv (v := (.agg #[(vL XA (sendOf a b j) xc), (vI fan), (vI leaf), (vL XN (withL [] ((runN a b fan leaf ((j + 1) % 2) j).1)) xn), (vL XO (withL [] ((runN a b fan leaf ((j + 1) % 2) j).2)) xo)])) (rLoadA [(vL XA (sendOf a b j) xc), (vI fan), (vI leaf), (vL XN (withL [] ((runN a b fan leaf ((j + 1) % 2) j).1)) xn), (vL XO (withL [] ((runN a b fan leaf ((j + 1) % 2) j).2)) xo)] rfl rfl (by kernel_rfl) (by kernel_rfl) (segAt (i := 3) rfl (by intro j v hj; first | (rw [Nat.zero_add]; exact hj) | (match j, hj with | 0, h => exact h | 1, h => exact h | 2, h => exact h | 3, h => exact h | 4, h => exact h)))) ?_
   refine lm ?_
   refine li rfl ?_
   refine opStoreN 3 [(vL YA (sideOf a b j) yc), (vI fan), (vI leaf), (vL NA239 (withL [] (((runN a b fan leaf (j % 2) j).1) ++ (runR a b fan leaf j).need)) nc239), (vL OA239 (withL [] (((runN a b fan leaf (j % 2) j).2) ++ (runR a b fan leaf j).off)) oc239)] (vs := [(vL YA (sideOf a b j) yc), (vI fan), (vI leaf), (vL NA239 (withL [] (((runN a b fan leaf (j % 2) j).1) ++ (runR a b fan leaf j).need)) nc239), (vL OA239 (withL [] (((runN a b fan leaf (j % 2) j).2) ++ (runR a b fan leaf j).off)) oc239)]) rfl rfl (by kernel_rfl) rfl rfl rfl (by kernel_rfl) rfl (by simp) (by simp [Value.oneCell']) rfl ?_
   refine li rfl ?_
   refine opStoreN 4 [(vL XA (sendOf a b j) xc), (vI fan), (vI leaf), (vL XN (withL [] ((runN a b fan leaf ((j + 1) % 2) j).1)) xn), (vL XO (withL [] ((runN a b fan leaf ((j + 1) % 2) j).2)) xo)] (vs := [(vL XA (sendOf a b j) xc), (vI fan), (vI leaf), (vL XN (withL [] ((runN a b fan leaf ((j + 1) % 2) j).1)) xn), (vL XO (withL [] ((runN a b fan leaf ((j + 1) % 2) j).2)) xo)]) rfl rfl (by kernel_rfl) rfl rfl rfl (by kernel_rfl) rfl (by simp) (by simp [Value.oneCell']) rfl ?_
   refine la ?_
   refine liNil (qBlock (qThen ?_))
   have hNx := runN_next (a := a) (b := b) (fan := fan) (leaf := leaf) j; have hNk := runN_keep (a := a) (b := b) (fan := fan) (leaf := leaf) j
   rw [show ((runN a b fan leaf (j % 2) j).1) ++ (runR a b fan leaf j).need = (runN a b fan leaf (((j + 1) + 1) % 2) (j + 1)).1 from by rw [hNx]]
   rw [show (runN a b fan leaf ((j + 1) % 2) j).1 = (runN a b fan leaf ((j + 1) % 2) (j + 1)).1 from by rw [hNk]]
   rw [show ((runN a b fan leaf (j % 2) j).2) ++ (runR a b fan leaf j).off = (runN a b fan leaf (((j + 1) + 1) % 2) (j + 1)).2 from by rw [hNx]]
   rw [show (runN a b fan leaf ((j + 1) % 2) j).2 = (runN a b fan leaf ((j + 1) % 2) (j + 1)).2 from by rw [hNk]]
   rw [show (runR a b fan leaf j).reply = runM a b fan leaf (j + 1) from rfl]
   rw [show (runR a b fan leaf j).err = 0 from (hK.go j hjK).2]
   rw [show sendOf a b j = sideOf a b (j + 1) from (side_succ a b j).symm]
   rw [show sideOf a b j = sendOf a b (j + 1) from (send_succ a b j).symm]
   exact stAgain (j + 1, YA, yc, NA239, nc239, OA239, oc239, XA, xc, XN, xn, XO, xo, B39, cb39) (⟨by omega, hT.next⟩) (by show K - (j + 1) < K - j; omega) ⟨rfl, rfl, rfl, rfl, rfl, rfl, rfl, rfl, rfl, rfl, trivial⟩ (fun w hM => (hM.pick [0, 1, 2, 3, 4, 10, 8, 9, 6, 7] rfl rfl))
  ·have hd29 := of_decide_eq_false hc29
   have hKl := hK.le
   obtain rfl : j = K := hK.eq hok (by have := of_decide_eq_false hc29; omega)
   refine stExit (qThenX (qThenX (qBlockX (qThen (stSeq (stSeq ?_))))))
   cases hpb : (decide (j % 2 = 0)) with
   | true =>
    have hpar : j % 2 = 0 := by have h := of_decide_eq_true hpb; omega
    have hpar2 : (j + 1) % 2 = 1 := by omega
    obtain ⟨rfl, rfl, rfl, rfl⟩ := hT.even hpar
    rw [show (j + 1) % 2 = 1 from hpar2]
    rw [show j % 2 = 0 from hpar]
    rw [show sendOf a b j = a from if_pos hpar]
    rw [show sideOf a b j = b from if_pos hpar]
    refine St.to [cAt b5 24 [(vI fan), (vI leaf)], cAt b6 36 [(.slice none 0 0), (.int .i64 0), (.int .i64 0), (.slice none 0 0), (.slice none 0 0)], cAt b7 36 [(.slice none 0 0), (.int .i64 0), (.int .i64 0), (.slice none 0 0), (.slice none 0 0)], cAt b11 36 [(vL A a c), (vI fan), (vI leaf), (vL XN (withL [] ((runN a b fan leaf 1 j).1)) xn), (vL XO (withL [] ((runN a b fan leaf 1 j).2)) xo)], cAt b12 36 [(vL A2 b c2), (vI fan), (vI leaf), (vL YN (withL [] ((runN a b fan leaf 0 j).1)) yn), (vL YO (withL [] ((runN a b fan leaf 0 j).2)) yo)], cB BX (runM a b fan leaf j) cX, cS XN (withL [] ((runN a b fan leaf 1 j).1)) xn, cS XO (withL [] ((runN a b fan leaf 1 j).2)) xo, cS YN (withL [] ((runN a b fan leaf 0 j).1)) yn, cS YO (withL [] ((runN a b fan leaf 0 j).2)) yo] (by kernel_rfl) ?_
    refine reg ?_
    refine lm ?_
    refine lv (v := (.int .i64 0)) (rRem 0 rfl rfl rfl (by decide) (by rw [Int.tmod_eq_emod_of_nonneg (by omega)]; omega)) ?_
    refine lc (.bool false) ?_
    refine liNil (qThen (stFalse rfl (stSkip (qThen (stSeq ?_)))))
    refine anyBegin [cAt b5 24 [(vI fan), (vI leaf)], cAt b11 36 [(vL A a c), (vI fan), (vI leaf), (vL XN (withL [] ((runN a b fan leaf 1 j).1)) xn), (vL XO (withL [] ((runN a b fan leaf 1 j).2)) xo)], cAt b12 36 [(vL A2 b c2), (vI fan), (vI leaf), (vL YN (withL [] ((runN a b fan leaf 0 j).1)) yn), (vL YO (withL [] ((runN a b fan leaf 0 j).2)) yo)], cB BX (runM a b fan leaf j) cX, cS XN (withL [] ((runN a b fan leaf 1 j).1)) xn, cS XO (withL [] ((runN a b fan leaf 1 j).2)) xo, cS YN (withL [] ((runN a b fan leaf 0 j).1)) yn, cS YO (withL [] ((runN a b fan leaf 0 j).2)) yo] 9 (by kernel_rfl) (fun _ h => h.pick [0, 3, 4, 5, 6, 7, 8, 9] rfl rfl) ?_
    refine av 0 (.agg #[(vL A a c), (vI fan), (vI leaf), (vL XN (withL [] ((runN a b fan leaf 1 j).1)) xn), (vL XO (withL [] ((runN a b fan leaf 1 j).2)) xo)]) rfl (rLoadA [(vL A a c), (vI fan), (vI leaf), (vL XN (withL [] ((runN a b fan leaf 1 j).1)) xn), (vL XO (withL [] ((runN a b fan leaf 1 j).2)) xo)] rfl rfl (by kernel_rfl) (by kernel_rfl) (segAt (i := 1) rfl (by intro j v hj; first | (rw [Nat.zero_add]; exact hj) | (match j, hj with | 0, h => exact h | 1, h => exact h | 2, h => exact h | 3, h => exact h | 4, h => exact h)))) ?_
    refine av 1 (.agg #[(vL A2 b c2), (vI fan), (vI leaf), (vL YN (withL [] ((runN a b fan leaf 0 j).1)) yn), (vL YO (withL [] ((runN a b fan leaf 0 j).2)) yo)]) rfl (rLoadA [(vL A2 b c2), (vI fan), (vI leaf), (vL YN (withL [] ((runN a b fan leaf 0 j).1)) yn), (vL YO (withL [] ((runN a b fan leaf 0 j).2)) yo)] rfl rfl (by kernel_rfl) (by kernel_rfl) (segAt (i := 2) rfl (by intro j v hj; first | (rw [Nat.zero_add]; exact hj) | (match j, hj with | 0, h => exact h | 1, h => exact h | 2, h => exact h | 3, h => exact h | 4, h => exact h)))) ?_
    refine am 2 ?_
    refine am 3 ?_
    refine a1 4 ?_
    refine opStoreN 1 [(vL A a c), (vI fan), (vI leaf), (vL XN (withL [] ((runN a b fan leaf 1 j).1)) xn), (vL XO (withL [] ((runN a b fan leaf 1 j).2)) xo)] (vs := [(vL A a c), (vI fan), (vI leaf), (vL XN (withL [] ((runN a b fan leaf 1 j).1)) xn), (vL XO (withL [] ((runN a b fan leaf 1 j).2)) xo)]) rfl rfl (by kernel_rfl) rfl rfl rfl (by kernel_rfl) rfl (by simp) (by simp [Value.oneCell']) rfl ?_
    refine anyNext [cAt b5 24 [(vI fan), (vI leaf)], cAt b11 36 [(vL A a c), (vI fan), (vI leaf), (vL XN (withL [] ((runN a b fan leaf 1 j).1)) xn), (vL XO (withL [] ((runN a b fan leaf 1 j).2)) xo)], cAt b12 36 [(vL A2 b c2), (vI fan), (vI leaf), (vL YN (withL [] ((runN a b fan leaf 0 j).1)) yn), (vL YO (withL [] ((runN a b fan leaf 0 j).2)) yo)], cB BX (runM a b fan leaf j) cX, cS XN (withL [] ((runN a b fan leaf 1 j).1)) xn, cS XO (withL [] ((runN a b fan leaf 1 j).2)) xo, cS YN (withL [] ((runN a b fan leaf 0 j).1)) yn, cS YO (withL [] ((runN a b fan leaf 0 j).2)) yo] (fun _ h => h) (fun _ h => h.pick [0, 3, 4, 5, 6, 7, 8, 9] rfl rfl) ?_
    refine a1 5 ?_
    refine opStoreN 2 [(vL A2 b c2), (vI fan), (vI leaf), (vL YN (withL [] ((runN a b fan leaf 0 j).1)) yn), (vL YO (withL [] ((runN a b fan leaf 0 j).2)) yo)] (vs := [(vL A2 b c2), (vI fan), (vI leaf), (vL YN (withL [] ((runN a b fan leaf 0 j).1)) yn), (vL YO (withL [] ((runN a b fan leaf 0 j).2)) yo)]) rfl rfl (by kernel_rfl) rfl rfl rfl (by kernel_rfl) rfl (by simp) (by simp [Value.oneCell']) rfl ?_
    refine anyNext [cAt b5 24 [(vI fan), (vI leaf)], cAt b11 36 [(vL A a c), (vI fan), (vI leaf), (vL XN (withL [] ((runN a b fan leaf 1 j).1)) xn), (vL XO (withL [] ((runN a b fan leaf 1 j).2)) xo)], cAt b12 36 [(vL A2 b c2), (vI fan), (vI leaf), (vL YN (withL [] ((runN a b fan leaf 0 j).1)) yn), (vL YO (withL [] ((runN a b fan leaf 0 j).2)) yo)], cB BX (runM a b fan leaf j) cX, cS XN (withL [] ((runN a b fan leaf 1 j).1)) xn, cS XO (withL [] ((runN a b fan leaf 1 j).2)) xo, cS YN (withL [] ((runN a b fan leaf 0 j).1)) yn, cS YO (withL [] ((runN a b fan leaf 0 j).2)) yo] (fun _ h => h) (fun _ h => h.pick [0, 3, 4, 5, 6, 7, 8, 9] rfl rfl) ?_
    refine aa 6 ?_
    refine aa 7 ?_
    refine aa 8 ?_
    refine anyDone (by kernel_rfl) ?_
    refine qThen (stRet ?_)
    refine stEnd [(.agg #[(vL A a c), (vI fan), (vI leaf), (vL XN (withL [] ((runN a b fan leaf 1 j).1)) xn), (vL XO (withL [] ((runN a b fan leaf 1 j).2)) xo)]), (.agg #[(vL A2 b c2), (vI fan), (vI leaf), (vL YN (withL [] ((runN a b fan leaf 0 j).1)) yn), (vL YO (withL [] ((runN a b fan leaf 0 j).2)) yo)]), (vI j), (vI (runB a b fan leaf j)), (.int .i64 0)] rfl ⟨⟨_, rfl, fun w hM => run_loadVarA (by kernel_rfl) (by kernel_rfl) (segAt (i := 1) (off := 0) rfl (by intro j v hj; rw [Nat.zero_add]; exact hj) w hM)⟩, ⟨_, rfl, fun w hM => run_loadVarA (by kernel_rfl) (by kernel_rfl) (segAt (i := 2) (off := 0) rfl (by intro j v hj; rw [Nat.zero_add]; exact hj) w hM)⟩, rfl, rfl, rfl, trivial⟩ (fun w hM => ?_)
    exact ⟨XN, xn, XO, xo, YN, yn, YO, yo, rfl, (hM.pick [6, 7, 8, 9] rfl rfl)⟩
   | false =>
    have hpar : j % 2 = 1 := by have h := of_decide_eq_false hpb; omega
    have hpar2 : (j + 1) % 2 = 0 := by omega
    obtain ⟨rfl, rfl, rfl, rfl⟩ := hT.odd hpar
    rw [show (j + 1) % 2 = 0 from hpar2]
    rw [show j % 2 = 1 from hpar]
    rw [show sendOf a b j = b from if_neg (by omega)]
    rw [show sideOf a b j = a from if_neg (by omega)]
    refine St.to [cAt b5 24 [(vI fan), (vI leaf)], cAt b6 36 [(.slice none 0 0), (.int .i64 0), (.int .i64 0), (.slice none 0 0), (.slice none 0 0)], cAt b7 36 [(.slice none 0 0), (.int .i64 0), (.int .i64 0), (.slice none 0 0), (.slice none 0 0)], cAt b11 36 [(vL A2 b c2), (vI fan), (vI leaf), (vL XN (withL [] ((runN a b fan leaf 0 j).1)) xn), (vL XO (withL [] ((runN a b fan leaf 0 j).2)) xo)], cAt b12 36 [(vL A a c), (vI fan), (vI leaf), (vL YN (withL [] ((runN a b fan leaf 1 j).1)) yn), (vL YO (withL [] ((runN a b fan leaf 1 j).2)) yo)], cB BX (runM a b fan leaf j) cX, cS XN (withL [] ((runN a b fan leaf 0 j).1)) xn, cS XO (withL [] ((runN a b fan leaf 0 j).2)) xo, cS YN (withL [] ((runN a b fan leaf 1 j).1)) yn, cS YO (withL [] ((runN a b fan leaf 1 j).2)) yo] (by kernel_rfl) ?_
    refine reg ?_
    refine lm ?_
    refine lv (v := (.int .i64 1)) (rRem 1 rfl rfl rfl (by decide) (by rw [Int.tmod_eq_emod_of_nonneg (by omega)]; omega)) ?_
    refine lc (.bool true) ?_
    refine liNil (qThen (stTrue rfl (reg ?_)))
    refine lv (v := (.agg #[(vL A a c), (vI fan), (vI leaf), (vL YN (withL [] ((runN a b fan leaf 1 j).1)) yn), (vL YO (withL [] ((runN a b fan leaf 1 j).2)) yo)])) (rLoadA [(vL A a c), (vI fan), (vI leaf), (vL YN (withL [] ((runN a b fan leaf 1 j).1)) yn), (vL YO (withL [] ((runN a b fan leaf 1 j).2)) yo)] rfl rfl (by kernel_rfl) (by kernel_rfl) (segAt (i := 4) rfl (by intro j v hj; first | (rw [Nat.zero_add]; exact hj) | (match j, hj with | 0, h => exact h | 1, h => exact h | 2, h => exact h | 3, h => exact h | 4, h => exact h)))) ?_
    refine lv (v := (.agg #[(vL A2 b c2), (vI fan), (vI leaf), (vL XN (withL [] ((runN a b fan leaf 0 j).1)) xn), (vL XO (withL [] ((runN a b fan leaf 0 j).2)) xo)])) (rLoadA [(vL A2 b c2), (vI fan), (vI leaf), (vL XN (withL [] ((runN a b fan leaf 0 j).1)) xn), (vL XO (withL [] ((runN a b fan leaf 0 j).2)) xo)] rfl rfl (by kernel_rfl) (by kernel_rfl) (segAt (i := 3) rfl (by intro j v hj; first | (rw [Nat.zero_add]; exact hj) | (match j, hj with | 0, h => exact h | 1, h => exact h | 2, h => exact h | 3, h => exact h | 4, h => exact h)))) ?_
    refine li rfl ?_
    refine opStoreN 3 [(vL A a c), (vI fan), (vI leaf), (vL YN (withL [] ((runN a b fan leaf 1 j).1)) yn), (vL YO (withL [] ((runN a b fan leaf 1 j).2)) yo)] (vs := [(vL A a c), (vI fan), (vI leaf), (vL YN (withL [] ((runN a b fan leaf 1 j).1)) yn), (vL YO (withL [] ((runN a b fan leaf 1 j).2)) yo)]) rfl rfl (by kernel_rfl) rfl rfl rfl (by kernel_rfl) rfl (by simp) (by simp [Value.oneCell']) rfl ?_
    refine li rfl ?_
    refine opStoreN 4 [(vL A2 b c2), (vI fan), (vI leaf), (vL XN (withL [] ((runN a b fan leaf 0 j).1)) xn), (vL XO (withL [] ((runN a b fan leaf 0 j).2)) xo)] (vs := [(vL A2 b c2), (vI fan), (vI leaf), (vL XN (withL [] ((runN a b fan leaf 0 j).1)) xn), (vL XO (withL [] ((runN a b fan leaf 0 j).2)) xo)]) rfl rfl (by kernel_rfl) rfl rfl rfl (by kernel_rfl) rfl (by simp) (by simp [Value.oneCell']) rfl ?_
    refine liNil (qThen (stSeq ?_))
    refine anyBegin [cAt b5 24 [(vI fan), (vI leaf)], cAt b11 36 [(vL A a c), (vI fan), (vI leaf), (vL YN (withL [] ((runN a b fan leaf 1 j).1)) yn), (vL YO (withL [] ((runN a b fan leaf 1 j).2)) yo)], cAt b12 36 [(vL A2 b c2), (vI fan), (vI leaf), (vL XN (withL [] ((runN a b fan leaf 0 j).1)) xn), (vL XO (withL [] ((runN a b fan leaf 0 j).2)) xo)], cB BX (runM a b fan leaf j) cX, cS XN (withL [] ((runN a b fan leaf 0 j).1)) xn, cS XO (withL [] ((runN a b fan leaf 0 j).2)) xo, cS YN (withL [] ((runN a b fan leaf 1 j).1)) yn, cS YO (withL [] ((runN a b fan leaf 1 j).2)) yo] 9 (by kernel_rfl) (fun _ h => h.pick [0, 3, 4, 5, 6, 7, 8, 9] rfl rfl) ?_
    refine av 0 (.agg #[(vL A a c), (vI fan), (vI leaf), (vL YN (withL [] ((runN a b fan leaf 1 j).1)) yn), (vL YO (withL [] ((runN a b fan leaf 1 j).2)) yo)]) rfl (rLoadA [(vL A a c), (vI fan), (vI leaf), (vL YN (withL [] ((runN a b fan leaf 1 j).1)) yn), (vL YO (withL [] ((runN a b fan leaf 1 j).2)) yo)] rfl rfl (by kernel_rfl) (by kernel_rfl) (segAt (i := 1) rfl (by intro j v hj; first | (rw [Nat.zero_add]; exact hj) | (match j, hj with | 0, h => exact h | 1, h => exact h | 2, h => exact h | 3, h => exact h | 4, h => exact h)))) ?_
    refine av 1 (.agg #[(vL A2 b c2), (vI fan), (vI leaf), (vL XN (withL [] ((runN a b fan leaf 0 j).1)) xn), (vL XO (withL [] ((runN a b fan leaf 0 j).2)) xo)]) rfl (rLoadA [(vL A2 b c2), (vI fan), (vI leaf), (vL XN (withL [] ((runN a b fan leaf 0 j).1)) xn), (vL XO (withL [] ((runN a b fan leaf 0 j).2)) xo)] rfl rfl (by kernel_rfl) (by kernel_rfl) (segAt (i := 2) rfl (by intro j v hj; first | (rw [Nat.zero_add]; exact hj) | (match j, hj with | 0, h => exact h | 1, h => exact h | 2, h => exact h | 3, h => exact h | 4, h => exact h)))) ?_
    refine am 2 ?_
    refine am 3 ?_
    refine a1 4 ?_
    refine opStoreN 1 [(vL A a c), (vI fan), (vI leaf), (vL YN (withL [] ((runN a b fan leaf 1 j).1)) yn), (vL YO (withL [] ((runN a b fan leaf 1 j).2)) yo)] (vs := [(vL A a c), (vI fan), (vI leaf), (vL YN (withL [] ((runN a b fan leaf 1 j).1)) yn), (vL YO (withL [] ((runN a b fan leaf 1 j).2)) yo)]) rfl rfl (by kernel_rfl) rfl rfl rfl (by kernel_rfl) rfl (by simp) (by simp [Value.oneCell']) rfl ?_
    refine anyNext [cAt b5 24 [(vI fan), (vI leaf)], cAt b11 36 [(vL A a c), (vI fan), (vI leaf), (vL YN (withL [] ((runN a b fan leaf 1 j).1)) yn), (vL YO (withL [] ((runN a b fan leaf 1 j).2)) yo)], cAt b12 36 [(vL A2 b c2), (vI fan), (vI leaf), (vL XN (withL [] ((runN a b fan leaf 0 j).1)) xn), (vL XO (withL [] ((runN a b fan leaf 0 j).2)) xo)], cB BX (runM a b fan leaf j) cX, cS XN (withL [] ((runN a b fan leaf 0 j).1)) xn, cS XO (withL [] ((runN a b fan leaf 0 j).2)) xo, cS YN (withL [] ((runN a b fan leaf 1 j).1)) yn, cS YO (withL [] ((runN a b fan leaf 1 j).2)) yo] (fun _ h => h) (fun _ h => h.pick [0, 3, 4, 5, 6, 7, 8, 9] rfl rfl) ?_
    refine a1 5 ?_
    refine opStoreN 2 [(vL A2 b c2), (vI fan), (vI leaf), (vL XN (withL [] ((runN a b fan leaf 0 j).1)) xn), (vL XO (withL [] ((runN a b fan leaf 0 j).2)) xo)] (vs := [(vL A2 b c2), (vI fan), (vI leaf), (vL XN (withL [] ((runN a b fan leaf 0 j).1)) xn), (vL XO (withL [] ((runN a b fan leaf 0 j).2)) xo)]) rfl rfl (by kernel_rfl) rfl rfl rfl (by kernel_rfl) rfl (by simp) (by simp [Value.oneCell']) rfl ?_
    refine St.to [cAt b5 24 [(vI fan), (vI leaf)], cAt b6 36 [(vL A a c), (vI fan), (vI leaf), (vL YN (withL [] ((runN a b fan leaf 1 j).1)) yn), (vL YO (withL [] ((runN a b fan leaf 1 j).2)) yo)], cAt b7 36 [(vL A2 b c2), (vI fan), (vI leaf), (vL XN (withL [] ((runN a b fan leaf 0 j).1)) xn), (vL XO (withL [] ((runN a b fan leaf 0 j).2)) xo)], cAt b11 36 [(vL A a c), (vI fan), (vI leaf), (vL YN (withL [] ((runN a b fan leaf 1 j).1)) yn), (vL YO (withL [] ((runN a b fan leaf 1 j).2)) yo)], cAt b12 36 [(vL A2 b c2), (vI fan), (vI leaf), (vL XN (withL [] ((runN a b fan leaf 0 j).1)) xn), (vL XO (withL [] ((runN a b fan leaf 0 j).2)) xo)], cB BX (runM a b fan leaf j) cX, cS XN (withL [] ((runN a b fan leaf 0 j).1)) xn, cS XO (withL [] ((runN a b fan leaf 0 j).2)) xo, cS YN (withL [] ((runN a b fan leaf 1 j).1)) yn, cS YO (withL [] ((runN a b fan leaf 1 j).2)) yo] (by kernel_rfl) ?_
    refine anyNext [cAt b5 24 [(vI fan), (vI leaf)], cAt b11 36 [(vL A a c), (vI fan), (vI leaf), (vL YN (withL [] ((runN a b fan leaf 1 j).1)) yn), (vL YO (withL [] ((runN a b fan leaf 1 j).2)) yo)], cAt b12 36 [(vL A2 b c2), (vI fan), (vI leaf), (vL XN (withL [] ((runN a b fan leaf 0 j).1)) xn), (vL XO (withL [] ((runN a b fan leaf 0 j).2)) xo)], cB BX (runM a b fan leaf j) cX, cS XN (withL [] ((runN a b fan leaf 0 j).1)) xn, cS XO (withL [] ((runN a b fan leaf 0 j).2)) xo, cS YN (withL [] ((runN a b fan leaf 1 j).1)) yn, cS YO (withL [] ((runN a b fan leaf 1 j).2)) yo] (fun _ h => h) (fun _ h => h.pick [0, 3, 4, 5, 6, 7, 8, 9] rfl rfl) ?_
    refine aa 6 ?_
    refine aa 7 ?_
    refine aa 8 ?_
    refine anyDone (by kernel_rfl) ?_
    refine qThen (stRet ?_)
    refine stEnd [(.agg #[(vL A a c), (vI fan), (vI leaf), (vL YN (withL [] ((runN a b fan leaf 1 j).1)) yn), (vL YO (withL [] ((runN a b fan leaf 1 j).2)) yo)]), (.agg #[(vL A2 b c2), (vI fan), (vI leaf), (vL XN (withL [] ((runN a b fan leaf 0 j).1)) xn), (vL XO (withL [] ((runN a b fan leaf 0 j).2)) xo)]), (vI j), (vI (runB a b fan leaf j)), (.int .i64 0)] rfl ⟨⟨_, rfl, fun w hM => run_loadVarA (by kernel_rfl) (by kernel_rfl) (segAt (i := 1) (off := 0) rfl (by intro j v hj; rw [Nat.zero_add]; exact hj) w hM)⟩, ⟨_, rfl, fun w hM => run_loadVarA (by kernel_rfl) (by kernel_rfl) (segAt (i := 2) (off := 0) rfl (by intro j v hj; rw [Nat.zero_add]; exact hj) w hM)⟩, rfl, rfl, rfl, trivial⟩ (fun w hM => ?_)
    exact ⟨YN, yn, YO, yo, XN, xn, XO, xo, rfl, (hM.pick [8, 9, 6, 7] rfl rfl)⟩
end Go.Proofs.YtlepfnihpdhcaaaGreatDoor
