/- rangesum: compare. -/
import Derived.Test.YtlepfnihpdhcaaaGreatDoorRsMsg
import Derived.Test.YtlepfnihpdhcaaaGreatDoorRs4
import Derived.Test.YtlepfnihpdhcaaaGreatDoorSetCh
namespace Go.Proofs.YtlepfnihpdhcaaaGreatDoor
open Go.RowKit

set_option maxRecDepth 100000 in
set_option maxHeartbeats 1000000 in
theorem rsCompare_any (bs : Nat) (A : Option Addr) (c : Nat) (its : List (List UInt8)) (fan : Nat) (leaf : Nat) (nm : Nat) (om : Nat) (lo : List UInt8) (hi : List UInt8) (n : Nat) (f : List UInt8) (bo : Nat) (R : Option Addr) (rc : Nat) (ps : List PV) (N : Value) (O : Value) (w : World) (hO : Own [cAt bo 85 [(.slice R ((ps).length) (rc)), N, O], cOwn 76 3 R ((ps).length) (rc) (PS (ps))] w) (r0 : Rf [cAt bo 85 [(.slice R ((ps).length) (rc)), N, O], cOwn 76 3 R ((ps).length) (rc) (PS (ps))] w (Vars)) (r1 : Rf [cAt bo 85 [(.slice R ((ps).length) (rc)), N, O], cOwn 76 3 R ((ps).length) (rc) (PS (ps))] w (SessAt bs A c its fan leaf nm om)) (hs : okSet its) (hn : its.length ≤ 1000) (hcap : its.length ≤ c) (hf : 2 ≤ fan) (hf2 : fan ≤ 16) (hl1 : 1 ≤ leaf) (hl2 : leaf ≤ 64) (hps : ps.length ≤ 4294967296) :
    Calls Tryz.prog 41 #[(.pointer (some ⟨bs, 0, none⟩)), (.agg #[(.string (strOf lo)), (.string (strOf hi))]), (.agg #[(.int .i64 ((n : Nat) : Int)), (.string (strOf f))]), (.pointer (some ⟨bo, 0, none⟩))] w fun e w' => ∃ (R2 : Option Addr) (rc2 : Nat) (ps2 : List PV), e = .returned (.tuple #[]) ∧ Back [cAt bo 85 [(.slice R ((ps).length) (rc)), N, O], cOwn 76 3 R ((ps).length) (rc) (PS (ps))] w [cAt bo 85 [(.slice R2 ((ps ++ ps2).length) (rc2)), N, O], cOwn 76 3 R2 ((ps ++ ps2).length) (rc2) (PS (ps ++ ps2))] w' ∧ (ps2.map PV.abs = cmpA its fan leaf lo hi n f) ∧ (SrcOk [] A its ps2) := by
  have ra := r1.imp (fun _ h => h.1)
  have rb := r1.imp (fun _ h => h.2)
  refine stEnter (args := [(.pointer (some ⟨bs, 0, none⟩)), (.agg #[(.string (strOf lo)), (.string (strOf hi))]), (.agg #[(.int .i64 ((n : Nat) : Int)), (.string (strOf f))]), (.pointer (some ⟨bo, 0, none⟩))]) (fps [cAt bo 85 [(.slice R ((ps).length) (rc)), N, O], cOwn 76 3 R ((ps).length) (rc) (PS (ps))]) Tryz.func41 rfl 110 rfl [(0, (.pointer (some ⟨bs, 0, none⟩))), (1, (.agg #[(.string (strOf lo)), (.string (strOf hi))])), (2, (.agg #[(.int .i64 ((n : Nat) : Int)), (.string (strOf f))])), (3, (.pointer (some ⟨bo, 0, none⟩)))] ⟨rfl, rfl, rfl, rfl, trivial⟩ [cAt bo 85 [(.slice R ((ps).length) (rc)), N, O], cOwn 76 3 R ((ps).length) (rc) (PS (ps))] (hO) ?_
  refine stSeq (reg (li rfl ?_))
  refine opBox [(.string (strOf lo)), (.string (strOf hi))] rfl rfl (by kernel_rfl) rfl rfl (fun b5 => ?_)
  refine li rfl ?_
  refine opBox [(.int .i64 ((n : Nat) : Int)), (.string (strOf f))] rfl rfl (by kernel_rfl) rfl rfl (fun b6 => ?_)
  refine liNil (qThen (stSeq (stSeq ?_)))
  refine St.to [cAt bo 85 [(.slice R ((ps).length) (rc)), N, O], cOwn 76 3 R ((ps).length) (rc) (PS (ps)), cAt b5 69 [(.string (strOf lo)), (.string (strOf hi))], cAt b6 71 [(.int .i64 ((n : Nat) : Int)), (.string (strOf f))]] (by kernel_rfl) ?_
  refine anyBegin [cAt bo 85 [(.slice R ((ps).length) (rc)), N, O], cOwn 76 3 R ((ps).length) (rc) (PS (ps)), cAt b5 69 [(.string (strOf lo)), (.string (strOf hi))], cAt b6 71 [(.int .i64 ((n : Nat) : Int)), (.string (strOf f))]] 5 (by kernel_rfl) (fun _ h => h) ?_
  refine am 0 ?_
  refine av 1 (.agg #[(.string (strOf lo)), (.string (strOf hi))]) rfl (rLoadA [(.string (strOf lo)), (.string (strOf hi))] rfl rfl (by kernel_rfl) (by kernel_rfl) (segAt (i := 2) rfl (by intro j v hj; first | (rw [Nat.zero_add]; exact hj) | (match j, hj with | 0, h => exact h | 1, h => exact h)))) ?_
  refine av 3 (.agg #[(.int .i64 ((n : Nat) : Int)), (.string (strOf f))]) rfl (rLoadA [(.int .i64 ((n : Nat) : Int)), (.string (strOf f))] rfl rfl (by kernel_rfl) (by kernel_rfl) (segAt (i := 3) rfl (by intro j v hj; first | (rw [Nat.zero_add]; exact hj) | (match j, hj with | 0, h => exact h | 1, h => exact h)))) ?_
  refine a1 2 ?_
  refine opK0 (fun w hM => (rsSum_any bs A c its fan leaf nm om lo hi w (r0.go0 hM) (r1.go0 hM) (by assumption) (by assumption) (by assumption)).mono ?_)
  rintro e w' ⟨rfl, hP⟩
  refine ⟨_, _, rfl, hP, ?_⟩; clear hP hM
  refine anyNext [cAt bo 85 [(.slice R ((ps).length) (rc)), N, O], cOwn 76 3 R ((ps).length) (rc) (PS (ps)), cAt b5 69 [(.string (strOf lo)), (.string (strOf hi))], cAt b6 71 [(.int .i64 ((n : Nat) : Int)), (.string (strOf f))]] (fun _ h => h) (fun _ h => h) ?_
  refine av 4 (.bool (decide ((inL its lo hi).length = n ∧ fpB (inL its lo hi) = f))) rfl (rEqSummed rfl rfl rfl) ?_
  refine anyDone (by kernel_rfl) ?_
  refine qThen ?_
  refine stCond rfl (fun hc19 => ?_) (fun hc19 => ?_)
  · have hd19 := of_decide_eq_true hc19
    have hd19 := of_decide_eq_true hc19
    refine stRet (qThenR ?_)
    refine stEnd [] rfl trivial (fun w hM => ?_)
    exact ⟨R, rc, [], rfl, by rw [List.append_nil]; exact (fun (w : World) (h : Mm _ _ _ w) => Mm.sub h (.cons_cons _ (.cons_cons _ (.cons _ (.cons _ .slnil))))) w hM, by simp [cmpA, hd19], SrcOk.nil⟩
  · have hd19 := of_decide_eq_false hc19
    have hd19 := of_decide_eq_false hc19
    refine stSkip (qThen (stSeq ?_))
    refine St.to [cAt bo 85 [(.slice R ((ps).length) (rc)), N, O], cOwn 76 3 R ((ps).length) (rc) (PS (ps)), cAt b5 69 [(.string (strOf lo)), (.string (strOf hi))], cAt b6 71 [(.int .i64 ((n : Nat) : Int)), (.string (strOf f))]] (by kernel_rfl) ?_
    refine reg ?_
    refine lm ?_
    refine lv (v := (.agg #[(.string (strOf lo)), (.string (strOf hi))])) (rLoadA [(.string (strOf lo)), (.string (strOf hi))] rfl rfl (by kernel_rfl) (by kernel_rfl) (segAt (i := 2) rfl (by intro j v hj; first | (rw [Nat.zero_add]; exact hj) | (match j, hj with | 0, h => exact h | 1, h => exact h)))) ?_
    refine li rfl ?_
    refine opK0 (fun w hM => (rsWithin_any bs A c its fan leaf nm om lo hi w (r1.go0 hM) (by assumption) (by assumption) (by assumption)).mono ?_)
    rintro e w' ⟨B22, cb22, rfl, hP, hsub22⟩
    refine ⟨_, _, rfl, hP, ?_⟩; clear hP hM
    have rs22 := Ro.imp (Ψ := fun w => RowIn w B22 (SS (inL its lo hi))) rb hsub22
    refine la ?_
    refine liNil (qThen (stSeq (reg ?_)))
    refine lm ?_
    refine lc (.int .i64 (((inL its lo hi).length : Nat) : Int)) ?_
    refine la ?_
    refine liNil (qThen (stSeq (stSeq (reg ?_))))
    refine lm ?_
    refine lm ?_
    refine lc (.pointer (some ⟨bs, 0, none⟩)) ?_
    refine lc (.pointer (some ⟨bs, 1, none⟩)) ?_
    refine lc (.pointer (some ⟨bs, 2, none⟩)) ?_
    refine lv (v := (.int .i64 ((leaf : Nat) : Int))) (rLoadW rfl rfl (by kernel_rfl) (fun w hM => At.cell (ra.now hM) 2)) ?_
    refine lc (.bool (decide ((((inL its lo hi).length : Nat) : Int) ≤ ((leaf : Nat) : Int)))) ?_
    refine liNil (qThen ?_)
    refine stCond rfl (fun hc31 => ?_) (fun hc31 => ?_)
    · have hd31 := of_decide_eq_true hc31
      refine stSeq ?_
      refine anyBegin [cAt bo 85 [(.slice R ((ps).length) (rc)), N, O], cAt b5 69 [(.string (strOf lo)), (.string (strOf hi))], cAt b6 71 [(.int .i64 ((n : Nat) : Int)), (.string (strOf f))]] 14 (by kernel_rfl) (fun _ h => h.sub (.cons_cons _ (.cons _ (.cons_cons _ (.cons_cons _ .slnil))))) ?_
      refine am 0 ?_
      refine am 1 ?_
      refine ac 2 (.pointer (some ⟨bo, 0, none⟩)) ?_
      refine ac 3 (.pointer (some ⟨bo, 0, none⟩)) ?_
      refine av 4 (.slice R ((ps).length) (rc)) rfl (rLoad 0 rfl rfl (by kernel_rfl) rfl rfl) ?_
      refine av 5 (.agg #[(.string (strOf lo)), (.string (strOf hi))]) rfl (rLoadA [(.string (strOf lo)), (.string (strOf hi))] rfl rfl (by kernel_rfl) (by kernel_rfl) (segAt (i := 1) rfl (by intro j v hj; first | (rw [Nat.zero_add]; exact hj) | (match j, hj with | 0, h => exact h | 1, h => exact h)))) ?_
      refine am 6 ?_
      refine ac 7 (.agg #[(.slice B22 ((inL its lo hi).length) (cb22))]) ?_
      refine ac 8 (.iface 89 (.agg #[(.slice B22 ((inL its lo hi).length) (cb22))])) ?_
      refine ac 9 (.agg #[(.string (strOf lo)), (.string (strOf hi)), (.iface 89 (.agg #[(.slice B22 ((inL its lo hi).length) (cb22))]))]) ?_
      refine a1 10 ?_
      refine opNew (v := fun b => .slice (some ⟨b, 0, none⟩) 1 1) 76 [(.string (strOf lo)), (.string (strOf hi)), (.iface 89 (.agg #[(.slice B22 ((inL its lo hi).length) (cb22))]))] rfl (by kernel_rfl) (fun _ => by kernel_rfl) (fun b42 => ?_)
      refine St.to [cAt bo 85 [(.slice R ((ps).length) (rc)), N, O], cOwn 76 3 R ((ps).length) (rc) (PS (ps)), cAt b5 69 [(.string (strOf lo)), (.string (strOf hi))], cAt b6 71 [(.int .i64 ((n : Nat) : Int)), (.string (strOf f))], cAt b42 76 [(.string (strOf lo)), (.string (strOf hi)), (.iface 89 (.agg #[(.slice B22 ((inL its lo hi).length) (cb22))]))]] (by kernel_rfl) ?_
      refine anyNext [cAt bo 85 [(.slice R ((ps).length) (rc)), N, O], cAt b5 69 [(.string (strOf lo)), (.string (strOf hi))], cAt b6 71 [(.int .i64 ((n : Nat) : Int)), (.string (strOf f))], cAt b42 76 [(.string (strOf lo)), (.string (strOf hi)), (.iface 89 (.agg #[(.slice B22 ((inL its lo hi).length) (cb22))]))]] (fun _ h => h.sub (.cons_cons _ (.cons_cons _ (.cons_cons _ (.cons _ .slnil))))) (fun _ h => h.sub (.cons_cons _ (.cons _ (.cons_cons _ (.cons_cons _ (.cons_cons _ .slnil)))))) ?_
      refine a1 11 ?_
      refine opAppend el_part 1 ([(.string (strOf lo)), (.string (strOf hi)), (.iface 89 (.agg #[(.slice B22 ((inL its lo hi).length) (cb22))]))]) rfl rfl (by kernel_rfl) rfl rfl rfl (rfl) (srcAt (i := 4) rfl (fun j v h => by rw [Nat.zero_add]; exact h)) (PS_one (ps := [PV.mk lo hi (.list B22 cb22 (inL its lo hi))])) (by omega) ((ps ++ [PV.mk lo hi (.list B22 cb22 (inL its lo hi))]).length) (by first | exact (List.length_append ..).symm | (simp; done) | (simp; omega)) (PS (ps ++ [PV.mk lo hi (.list B22 cb22 (inL its lo hi))])) ((PS_append _ ([PV.mk lo hi (.list B22 cb22 (inL its lo hi))])).symm) (fun A43 c43 => ?_)
      refine anyNext [cAt bo 85 [(.slice R ((ps).length) (rc)), N, O], cAt b5 69 [(.string (strOf lo)), (.string (strOf hi))], cAt b6 71 [(.int .i64 ((n : Nat) : Int)), (.string (strOf f))], cAt b42 76 [(.string (strOf lo)), (.string (strOf hi)), (.iface 89 (.agg #[(.slice B22 ((inL its lo hi).length) (cb22))]))]] (fun _ h => h) (fun _ h => h.sub (.cons_cons _ (.cons _ (.cons_cons _ (.cons_cons _ (.cons_cons _ .slnil)))))) ?_
      refine ac 12 (.pointer (some ⟨bo, 0, none⟩)) ?_
      refine ac 13 (.pointer (some ⟨bo, 0, none⟩)) ?_
      refine a1 14 ?_
      refine opStore1 0 rfl rfl (by kernel_rfl) rfl rfl rfl (by kernel_rfl) rfl (by simp) ?_
      refine anyLast (by kernel_rfl) rfl ?_
      refine qThen (stRet (qThenR ?_))
      refine stEnd [] rfl trivial (fun w hM => ?_)
      exact ⟨A43, c43, [PV.mk lo hi (.list B22 cb22 (inL its lo hi))], rfl, (fun (w : World) (h : Mm _ _ _ w) => Mm.sub h (.cons_cons _ (.cons_cons _ (.cons _ (.cons _ (.cons _ .slnil)))))) w hM, by rw [cmpA, if_neg hd19, if_pos (by have := of_decide_eq_true hc31; omega)]; rfl, fun p hp r hr => .inr (by rw [List.mem_singleton.1 hp] at hr; rw [List.mem_singleton.1 hr]; exact hsub22)⟩
    · have hd31 := of_decide_eq_false hc31
      refine stSkip (qThen (stSeq ?_))
      refine St.to [cAt bo 85 [(.slice R ((ps).length) (rc)), N, O], cOwn 76 3 R ((ps).length) (rc) (PS (ps)), cAt b5 69 [(.string (strOf lo)), (.string (strOf hi))], cAt b6 71 [(.int .i64 ((n : Nat) : Int)), (.string (strOf f))]] (by kernel_rfl) ?_
      refine reg ?_
      refine lc (.pointer (some ⟨b5, 0, none⟩)) ?_
      refine lv (v := (.string (strOf lo))) (rLoad 2 rfl rfl (by kernel_rfl) rfl rfl) ?_
      refine la ?_
      refine liNil (qThen (stSeq (stSeq (reg ?_))))
      refine la ?_
      refine liNil (qThen (stBlock ?_))
      have h2 := List.length_filter_le (inR lo hi) its; change (inL its lo hi).length ≤ its.length at h2
      refine stLoop (ι := Nat × Option Addr × Nat) (fun (k, RX, rcX) => k + 1 ≤ fan) (fun (k, RX, rcX) => fan - k) (fun (k, RX, rcX) => [(0, (.pointer (some ⟨bs, 0, none⟩))), (3, (.pointer (some ⟨bo, 0, none⟩))), (5, (.pointer (some ⟨b5, 0, none⟩))), (8, (.slice B22 ((inL its lo hi).length) (cb22))), (9, (.int .i64 (((inL its lo hi).length : Nat) : Int))), (10, (.string (strOf (divP its (inL its lo hi) fan lo k).1))), (11, (.int .i64 (((k + 1) : Nat) : Int)))]) (fun (k, RX, rcX) => [cAt bo 85 [(.slice RX ((ps ++ (divP its (inL its lo hi) fan lo k).2).length) (rcX)), N, O], cOwn 76 3 RX ((ps ++ (divP its (inL its lo hi) fan lo k).2).length) (rcX) (PS (ps ++ (divP its (inL its lo hi) fan lo k).2)), cAt b5 69 [(.string (strOf lo)), (.string (strOf hi))], cAt b6 71 [(.int .i64 ((n : Nat) : Int)), (.string (strOf f))]]) (0, R, rc) (by show 0 + 1 ≤ fan; omega) ⟨rfl, rfl, rfl, rfl, rfl, rfl, rfl, trivial⟩ (fun w hM => by show Mm _ _ [cAt bo 85 [(.slice R ((ps ++ (divP its (inL its lo hi) fan lo 0).2).length) (rc)), N, O], cOwn 76 3 R ((ps ++ (divP its (inL its lo hi) fan lo 0).2).length) (rc) (PS (ps ++ (divP its (inL its lo hi) fan lo 0).2)), cAt b5 69 [(.string (strOf lo)), (.string (strOf hi))], cAt b6 71 [(.int .i64 ((n : Nat) : Int)), (.string (strOf f))]] w; rw [show ps ++ (divP its (inL its lo hi) fan lo 0).2 = ps from List.append_nil _]; exact hM) ?_
      rintro ⟨k, RX, rcX⟩ (hok : k + 1 ≤ fan)
      show St _ _ _ [(0, (.pointer (some ⟨bs, 0, none⟩))), (3, (.pointer (some ⟨bo, 0, none⟩))), (5, (.pointer (some ⟨b5, 0, none⟩))), (8, (.slice B22 ((inL its lo hi).length) (cb22))), (9, (.int .i64 (((inL its lo hi).length : Nat) : Int))), (10, (.string (strOf (divP its (inL its lo hi) fan lo k).1))), (11, (.int .i64 (((k + 1) : Nat) : Int)))] [cAt bo 85 [(.slice RX ((ps ++ (divP its (inL its lo hi) fan lo k).2).length) (rcX)), N, O], cOwn 76 3 RX ((ps ++ (divP its (inL its lo hi) fan lo k).2).length) (rcX) (PS (ps ++ (divP its (inL its lo hi) fan lo k).2)), cAt b5 69 [(.string (strOf lo)), (.string (strOf hi))], cAt b6 71 [(.int .i64 ((n : Nat) : Int)), (.string (strOf f))]] _
      refine stSeq (stSeq (reg ?_))
      refine lm ?_
      refine lm ?_
      refine lc (.pointer (some ⟨bs, 0, none⟩)) ?_
      refine lc (.pointer (some ⟨bs, 1, none⟩)) ?_
      refine lc (.pointer (some ⟨bs, 1, none⟩)) ?_
      refine lv (v := (.int .i64 ((fan : Nat) : Int))) (rLoadW rfl rfl (by kernel_rfl) (fun w hM => At.cell (ra.now hM) 1)) ?_
      refine lc (.bool (decide ((((k + 1) : Nat) : Int) < ((fan : Nat) : Int)))) ?_
      refine liNil (qThen ?_)
      refine stCond rfl (fun hc54 => ?_) (fun hc54 => ?_)
      · have hd54 := of_decide_eq_true hc54
        have hk : k + 1 < fan := by have := of_decide_eq_true hc54; omega
        refine stSkip (qThen (stSeq (stBlock (stSeq ?_))))
        have hm1 : (k + 1) * (inL its lo hi).length ≤ 16 * 1000 := Nat.mul_le_mul (by omega) (by omega)
        have hm2 : (k + 1) * (inL its lo hi).length / fan < (inL its lo hi).length := by
          rw [Nat.div_lt_iff_lt_mul (by omega), Nat.mul_comm]
          exact Nat.mul_lt_mul_of_pos_left hk (by have := of_decide_eq_false hc31; omega)
        refine reg ?_
        refine lm ?_
        refine lm ?_
        refine lm ?_
        refine lv (v := (.int .i64 ((((k + 1) * (inL its lo hi).length) : Nat) : Int))) (rMul _ rfl rfl rfl (by omega) (by omega) (by omega)) ?_
        refine lm ?_
        refine lc (.pointer (some ⟨bs, 0, none⟩)) ?_
        refine lc (.pointer (some ⟨bs, 1, none⟩)) ?_
        refine lc (.pointer (some ⟨bs, 1, none⟩)) ?_
        refine lv (v := (.int .i64 ((fan : Nat) : Int))) (rLoadW rfl rfl (by kernel_rfl) (fun w hM => At.cell (ra.now hM) 1)) ?_
        refine lv (v := (.int .i64 ((((k + 1) * (inL its lo hi).length / fan) : Nat) : Int))) (rQuoN rfl rfl rfl (by omega) (by omega)) ?_
        obtain ⟨x0, hx0⟩ : ∃ ξ, (inL its lo hi)[(k + 1) * (inL its lo hi).length / fan]? = some ξ := ⟨_, List.getElem?_eq_getElem (by omega)⟩
        refine St.rowPtr (fun w hM => rs22.now hM) (SS_at hx0) (fun p67 q67 hA67 hc67 => ?_)
        refine lv (v := (.pointer (some ⟨p67, q67 + ((k + 1) * (inL its lo hi).length / fan), none⟩))) (rIndexRow (e := 9) rfl (by kernel_rfl) (by kernel_rfl) rfl rfl hA67 (by omega)) ?_
        refine lv (v := (.string (strOf x0))) (rLoadW rfl rfl (by kernel_rfl) hc67) ?_
        refine la ?_
        refine liNil (qThen (stSeq (reg ?_)))
        refine lm ?_
        refine lm ?_
        refine lv (v := (.bool (!decide (x0 = (divP its (inL its lo hi) fan lo k).1)))) (rStrNe rfl rfl rfl) ?_
        refine liNil (qThen ?_)
        refine stCond rfl (fun hc71 => ?_) (fun hc71 => ?_)
        · refine stSeq (reg ?_)
          refine lm ?_
          refine lm ?_
          refine lc (.agg #[(.string (strOf (divP its (inL its lo hi) fan lo k).1)), (.string (strOf x0))]) ?_
          refine li rfl ?_
          refine opAlloc [(.string ⟨#[]⟩), (.string ⟨#[]⟩)] rfl rfl (by kernel_rfl) (by kernel_rfl) (fun b13 => ?_)
          refine li rfl ?_
          refine opStoreN 4 [(.string (strOf (divP its (inL its lo hi) fan lo k).1)), (.string (strOf x0))] (vs := [(.string (strOf (divP its (inL its lo hi) fan lo k).1)), (.string (strOf x0))]) rfl rfl (by kernel_rfl) rfl rfl rfl (by kernel_rfl) rfl (by simp) (by simp [Value.oneCell']) rfl ?_
          refine liNil (qThen (stSeq ?_))
          refine St.to [cAt bo 85 [(.slice RX ((ps ++ (divP its (inL its lo hi) fan lo k).2).length) (rcX)), N, O], cOwn 76 3 RX ((ps ++ (divP its (inL its lo hi) fan lo k).2).length) (rcX) (PS (ps ++ (divP its (inL its lo hi) fan lo k).2)), cAt b5 69 [(.string (strOf lo)), (.string (strOf hi))], cAt b6 71 [(.int .i64 ((n : Nat) : Int)), (.string (strOf f))], cAt b13 69 [(.string (strOf (divP its (inL its lo hi) fan lo k).1)), (.string (strOf x0))]] (by kernel_rfl) ?_
          refine anyBegin [cAt bo 85 [(.slice RX ((ps ++ (divP its (inL its lo hi) fan lo k).2).length) (rcX)), N, O], cAt b5 69 [(.string (strOf lo)), (.string (strOf hi))], cAt b6 71 [(.int .i64 ((n : Nat) : Int)), (.string (strOf f))], cAt b13 69 [(.string (strOf (divP its (inL its lo hi) fan lo k).1)), (.string (strOf x0))]] 15 (by kernel_rfl) (fun _ h => h.sub (.cons_cons _ (.cons _ (.cons_cons _ (.cons_cons _ (.cons_cons _ .slnil)))))) ?_
          refine am 0 ?_
          refine am 1 ?_
          refine ac 2 (.pointer (some ⟨bo, 0, none⟩)) ?_
          refine ac 3 (.pointer (some ⟨bo, 0, none⟩)) ?_
          refine av 4 (.slice RX ((ps ++ (divP its (inL its lo hi) fan lo k).2).length) (rcX)) rfl (rLoad 0 rfl rfl (by kernel_rfl) rfl rfl) ?_
          refine av 5 (.agg #[(.string (strOf (divP its (inL its lo hi) fan lo k).1)), (.string (strOf x0))]) rfl (rLoadA [(.string (strOf (divP its (inL its lo hi) fan lo k).1)), (.string (strOf x0))] rfl rfl (by kernel_rfl) (by kernel_rfl) (segAt (i := 3) rfl (by intro j v hj; first | (rw [Nat.zero_add]; exact hj) | (match j, hj with | 0, h => exact h | 1, h => exact h)))) ?_
          refine am 6 ?_
          refine av 7 (.agg #[(.string (strOf (divP its (inL its lo hi) fan lo k).1)), (.string (strOf x0))]) rfl (rLoadA [(.string (strOf (divP its (inL its lo hi) fan lo k).1)), (.string (strOf x0))] rfl rfl (by kernel_rfl) (by kernel_rfl) (segAt (i := 3) rfl (by intro j v hj; first | (rw [Nat.zero_add]; exact hj) | (match j, hj with | 0, h => exact h | 1, h => exact h)))) ?_
          refine a1 8 ?_
          refine opK0 (fun w hM => (rsSum_any bs A c its fan leaf nm om ((divP its (inL its lo hi) fan lo k).1) x0 w (r0.go0 hM) (r1.go0 hM) (by assumption) (by assumption) (by assumption)).mono ?_)
          rintro e w' ⟨rfl, hP⟩
          refine ⟨_, _, rfl, hP, ?_⟩; clear hP hM
          refine St.to [cAt bo 85 [(.slice RX ((ps ++ (divP its (inL its lo hi) fan lo k).2).length) (rcX)), N, O], cOwn 76 3 RX ((ps ++ (divP its (inL its lo hi) fan lo k).2).length) (rcX) (PS (ps ++ (divP its (inL its lo hi) fan lo k).2)), cAt b5 69 [(.string (strOf lo)), (.string (strOf hi))], cAt b6 71 [(.int .i64 ((n : Nat) : Int)), (.string (strOf f))], cAt b13 69 [(.string (strOf (divP its (inL its lo hi) fan lo k).1)), (.string (strOf x0))]] (by kernel_rfl) ?_
          refine anyNext [cAt bo 85 [(.slice RX ((ps ++ (divP its (inL its lo hi) fan lo k).2).length) (rcX)), N, O], cAt b5 69 [(.string (strOf lo)), (.string (strOf hi))], cAt b6 71 [(.int .i64 ((n : Nat) : Int)), (.string (strOf f))], cAt b13 69 [(.string (strOf (divP its (inL its lo hi) fan lo k).1)), (.string (strOf x0))]] (fun _ h => h) (fun _ h => h.sub (.cons_cons _ (.cons _ (.cons_cons _ (.cons_cons _ (.cons_cons _ .slnil)))))) ?_
          refine ac 9 (.iface 71 (.agg #[(.int .i64 (((inL its ((divP its (inL its lo hi) fan lo k).1) x0).length : Nat) : Int)), (.string (strOf (fpB (inL its ((divP its (inL its lo hi) fan lo k).1) x0))))])) ?_
          refine ac 10 (.agg #[(.string (strOf (divP its (inL its lo hi) fan lo k).1)), (.string (strOf x0)), (.iface 71 (.agg #[(.int .i64 (((inL its ((divP its (inL its lo hi) fan lo k).1) x0).length : Nat) : Int)), (.string (strOf (fpB (inL its ((divP its (inL its lo hi) fan lo k).1) x0))))]))]) ?_
          refine a1 11 ?_
          refine opNew (v := fun b => .slice (some ⟨b, 0, none⟩) 1 1) 76 [(.string (strOf (divP its (inL its lo hi) fan lo k).1)), (.string (strOf x0)), (.iface 71 (.agg #[(.int .i64 (((inL its ((divP its (inL its lo hi) fan lo k).1) x0).length : Nat) : Int)), (.string (strOf (fpB (inL its ((divP its (inL its lo hi) fan lo k).1) x0))))]))] rfl (by kernel_rfl) (fun _ => by kernel_rfl) (fun b86 => ?_)
          refine anyNext [cAt bo 85 [(.slice RX ((ps ++ (divP its (inL its lo hi) fan lo k).2).length) (rcX)), N, O], cAt b5 69 [(.string (strOf lo)), (.string (strOf hi))], cAt b6 71 [(.int .i64 ((n : Nat) : Int)), (.string (strOf f))], cAt b13 69 [(.string (strOf (divP its (inL its lo hi) fan lo k).1)), (.string (strOf x0))], cAt b86 76 [(.string (strOf (divP its (inL its lo hi) fan lo k).1)), (.string (strOf x0)), (.iface 71 (.agg #[(.int .i64 (((inL its ((divP its (inL its lo hi) fan lo k).1) x0).length : Nat) : Int)), (.string (strOf (fpB (inL its ((divP its (inL its lo hi) fan lo k).1) x0))))]))]] (fun _ h => h.sub (.cons_cons _ (.cons_cons _ (.cons_cons _ (.cons_cons _ (.cons _ .slnil)))))) (fun _ h => h.sub (.cons_cons _ (.cons _ (.cons_cons _ (.cons_cons _ (.cons_cons _ (.cons_cons _ .slnil))))))) ?_
          refine a1 12 ?_
          refine opAppend el_part 1 ([(.string (strOf (divP its (inL its lo hi) fan lo k).1)), (.string (strOf x0)), (.iface 71 (.agg #[(.int .i64 (((inL its ((divP its (inL its lo hi) fan lo k).1) x0).length : Nat) : Int)), (.string (strOf (fpB (inL its ((divP its (inL its lo hi) fan lo k).1) x0))))]))]) rfl rfl (by kernel_rfl) rfl rfl rfl (rfl) (srcAt (i := 5) rfl (fun j v h => by rw [Nat.zero_add]; exact h)) (by intro u hu; exact PS_one (ps := [sumP its _ _]) u hu) (by have := divP_len its (inL its lo hi) fan lo k; simp only [List.length_append] at *; omega) ((ps ++ (divP its (inL its lo hi) fan lo k).2 ++ [sumP its (divP its (inL its lo hi) fan lo k).1 x0]).length) (by first | exact (List.length_append ..).symm | (simp; done) | (simp; omega)) (PS (ps ++ (divP its (inL its lo hi) fan lo k).2 ++ [sumP its (divP its (inL its lo hi) fan lo k).1 x0])) ((PS_append _ ([sumP its (divP its (inL its lo hi) fan lo k).1 x0])).symm) (fun A87 c87 => ?_)
          refine anyNext [cAt bo 85 [(.slice RX ((ps ++ (divP its (inL its lo hi) fan lo k).2).length) (rcX)), N, O], cAt b5 69 [(.string (strOf lo)), (.string (strOf hi))], cAt b6 71 [(.int .i64 ((n : Nat) : Int)), (.string (strOf f))], cAt b13 69 [(.string (strOf (divP its (inL its lo hi) fan lo k).1)), (.string (strOf x0))], cAt b86 76 [(.string (strOf (divP its (inL its lo hi) fan lo k).1)), (.string (strOf x0)), (.iface 71 (.agg #[(.int .i64 (((inL its ((divP its (inL its lo hi) fan lo k).1) x0).length : Nat) : Int)), (.string (strOf (fpB (inL its ((divP its (inL its lo hi) fan lo k).1) x0))))]))]] (fun _ h => h) (fun _ h => h.sub (.cons_cons _ (.cons _ (.cons_cons _ (.cons_cons _ (.cons_cons _ (.cons_cons _ .slnil))))))) ?_
          refine ac 13 (.pointer (some ⟨bo, 0, none⟩)) ?_
          refine ac 14 (.pointer (some ⟨bo, 0, none⟩)) ?_
          refine a1 15 ?_
          refine opStore1 0 rfl rfl (by kernel_rfl) rfl rfl rfl (by kernel_rfl) rfl (by simp) ?_
          refine anyLast (by kernel_rfl) rfl ?_
          refine qThen ?_
          refine St.to [cAt bo 85 [(.slice A87 ((ps ++ (divP its (inL its lo hi) fan lo k).2 ++ [sumP its (divP its (inL its lo hi) fan lo k).1 x0]).length) (c87)), N, O], cOwn 76 3 A87 ((ps ++ (divP its (inL its lo hi) fan lo k).2 ++ [sumP its (divP its (inL its lo hi) fan lo k).1 x0]).length) (c87) (PS (ps ++ (divP its (inL its lo hi) fan lo k).2 ++ [sumP its (divP its (inL its lo hi) fan lo k).1 x0])), cAt b5 69 [(.string (strOf lo)), (.string (strOf hi))], cAt b6 71 [(.int .i64 ((n : Nat) : Int)), (.string (strOf f))], cAt b13 69 [(.string (strOf (divP its (inL its lo hi) fan lo k).1)), (.string (strOf x0))], cAt b86 76 [(.string (strOf (divP its (inL its lo hi) fan lo k).1)), (.string (strOf x0)), (.iface 71 (.agg #[(.int .i64 (((inL its ((divP its (inL its lo hi) fan lo k).1) x0).length : Nat) : Int)), (.string (strOf (fpB (inL its ((divP its (inL its lo hi) fan lo k).1) x0))))]))]] (by kernel_rfl) ?_
          refine reg ?_
          refine lm ?_
          refine la ?_
          refine liNil (qBlock (qThen (reg ?_)))
          refine lm ?_
          refine lv (v := (.int .i64 (((k + 1) + 1 : Nat) : Int))) (rAdd _ rfl rfl rfl (by omega) (by omega) (by omega)) ?_
          refine la ?_
          refine liNil (qThen ?_)
          rw [show ps ++ (divP its (inL its lo hi) fan lo k).2 ++ [sumP its (divP its (inL its lo hi) fan lo k).1 x0] = ps ++ (divP its (inL its lo hi) fan lo (k + 1)).2 from by rw [divP_yes hx0 hc71, ← List.append_assoc]]
          rw [show x0 = (divP its (inL its lo hi) fan lo (k + 1)).1 from by rw [divP_yes hx0 hc71]]
          exact stAgain (k + 1, A87, c87) (by show _ ≤ _; omega) (by show fan - (k + 1) < fan - k; omega) ⟨rfl, rfl, rfl, rfl, rfl, rfl, rfl, trivial⟩ (fun w hM => by show Mm _ _ [cAt bo 85 [(.slice A87 ((ps ++ (divP its (inL its lo hi) fan lo (k + 1)).2).length) (c87)), N, O], cOwn 76 3 A87 ((ps ++ (divP its (inL its lo hi) fan lo (k + 1)).2).length) (c87) (PS (ps ++ (divP its (inL its lo hi) fan lo (k + 1)).2)), cAt b5 69 [(.string (strOf lo)), (.string (strOf hi))], cAt b6 71 [(.int .i64 ((n : Nat) : Int)), (.string (strOf f))]] w; exact (fun (w : World) (h : Mm _ _ _ w) => Mm.sub h (.cons_cons _ (.cons_cons _ (.cons_cons _ (.cons_cons _ (.cons _ (.cons _ .slnil))))))) w hM)
        · refine stSkip (qBlock (qThen (reg ?_)))
          refine lm ?_
          refine lv (v := (.int .i64 (((k + 1) + 1 : Nat) : Int))) (rAdd _ rfl rfl rfl (by omega) (by omega) (by omega)) ?_
          refine la ?_
          refine liNil (qThen ?_)
          rw [show divP its (inL its lo hi) fan lo k = divP its (inL its lo hi) fan lo (k + 1) from (divP_no hx0 hc71).symm]
          exact stAgain (k + 1, RX, rcX) (by show _ ≤ _; omega) (by show fan - (k + 1) < fan - k; omega) ⟨rfl, rfl, rfl, rfl, rfl, rfl, rfl, trivial⟩ (fun w hM => by show Mm _ _ [cAt bo 85 [(.slice RX ((ps ++ (divP its (inL its lo hi) fan lo (k + 1)).2).length) (rcX)), N, O], cOwn 76 3 RX ((ps ++ (divP its (inL its lo hi) fan lo (k + 1)).2).length) (rcX) (PS (ps ++ (divP its (inL its lo hi) fan lo (k + 1)).2)), cAt b5 69 [(.string (strOf lo)), (.string (strOf hi))], cAt b6 71 [(.int .i64 ((n : Nat) : Int)), (.string (strOf f))]] w; exact hM)
      · have hd54 := of_decide_eq_false hc54
        obtain rfl : k = fan - 1 := by have := of_decide_eq_false hc54; omega
        refine stExit (qThenX (qThenX (qBlockX (qThen (stSeq (reg ?_))))))
        refine lm ?_
        refine lc (.pointer (some ⟨b5, 1, none⟩)) ?_
        refine lv (v := (.string (strOf hi))) (rLoad 2 rfl rfl (by kernel_rfl) rfl rfl) ?_
        refine lc (.agg #[(.string (strOf (divP its (inL its lo hi) fan lo (fan - 1)).1)), (.string (strOf hi))]) ?_
        refine li rfl ?_
        refine opAlloc [(.string ⟨#[]⟩), (.string ⟨#[]⟩)] rfl rfl (by kernel_rfl) (by kernel_rfl) (fun b14 => ?_)
        refine li rfl ?_
        refine opStoreN 4 [(.string (strOf (divP its (inL its lo hi) fan lo (fan - 1)).1)), (.string (strOf hi))] (vs := [(.string (strOf (divP its (inL its lo hi) fan lo (fan - 1)).1)), (.string (strOf hi))]) rfl rfl (by kernel_rfl) rfl rfl rfl (by kernel_rfl) rfl (by simp) (by simp [Value.oneCell']) rfl ?_
        refine liNil (qThen ?_)
        refine St.to [cAt bo 85 [(.slice RX ((ps ++ (divP its (inL its lo hi) fan lo (fan - 1)).2).length) (rcX)), N, O], cOwn 76 3 RX ((ps ++ (divP its (inL its lo hi) fan lo (fan - 1)).2).length) (rcX) (PS (ps ++ (divP its (inL its lo hi) fan lo (fan - 1)).2)), cAt b5 69 [(.string (strOf lo)), (.string (strOf hi))], cAt b6 71 [(.int .i64 ((n : Nat) : Int)), (.string (strOf f))], cAt b14 69 [(.string (strOf (divP its (inL its lo hi) fan lo (fan - 1)).1)), (.string (strOf hi))]] (by kernel_rfl) ?_
        refine anyBegin [cAt bo 85 [(.slice RX ((ps ++ (divP its (inL its lo hi) fan lo (fan - 1)).2).length) (rcX)), N, O], cAt b5 69 [(.string (strOf lo)), (.string (strOf hi))], cAt b6 71 [(.int .i64 ((n : Nat) : Int)), (.string (strOf f))], cAt b14 69 [(.string (strOf (divP its (inL its lo hi) fan lo (fan - 1)).1)), (.string (strOf hi))]] 15 (by kernel_rfl) (fun _ h => h.sub (.cons_cons _ (.cons _ (.cons_cons _ (.cons_cons _ (.cons_cons _ .slnil)))))) ?_
        refine am 0 ?_
        refine am 1 ?_
        refine ac 2 (.pointer (some ⟨bo, 0, none⟩)) ?_
        refine ac 3 (.pointer (some ⟨bo, 0, none⟩)) ?_
        refine av 4 (.slice RX ((ps ++ (divP its (inL its lo hi) fan lo (fan - 1)).2).length) (rcX)) rfl (rLoad 0 rfl rfl (by kernel_rfl) rfl rfl) ?_
        refine av 5 (.agg #[(.string (strOf (divP its (inL its lo hi) fan lo (fan - 1)).1)), (.string (strOf hi))]) rfl (rLoadA [(.string (strOf (divP its (inL its lo hi) fan lo (fan - 1)).1)), (.string (strOf hi))] rfl rfl (by kernel_rfl) (by kernel_rfl) (segAt (i := 3) rfl (by intro j v hj; first | (rw [Nat.zero_add]; exact hj) | (match j, hj with | 0, h => exact h | 1, h => exact h)))) ?_
        refine am 6 ?_
        refine av 7 (.agg #[(.string (strOf (divP its (inL its lo hi) fan lo (fan - 1)).1)), (.string (strOf hi))]) rfl (rLoadA [(.string (strOf (divP its (inL its lo hi) fan lo (fan - 1)).1)), (.string (strOf hi))] rfl rfl (by kernel_rfl) (by kernel_rfl) (segAt (i := 3) rfl (by intro j v hj; first | (rw [Nat.zero_add]; exact hj) | (match j, hj with | 0, h => exact h | 1, h => exact h)))) ?_
        refine a1 8 ?_
        refine opK0 (fun w hM => (rsSum_any bs A c its fan leaf nm om ((divP its (inL its lo hi) fan lo (fan - 1)).1) hi w (r0.go0 hM) (r1.go0 hM) (by assumption) (by assumption) (by assumption)).mono ?_)
        rintro e w' ⟨rfl, hP⟩
        refine ⟨_, _, rfl, hP, ?_⟩; clear hP hM
        refine St.to [cAt bo 85 [(.slice RX ((ps ++ (divP its (inL its lo hi) fan lo (fan - 1)).2).length) (rcX)), N, O], cOwn 76 3 RX ((ps ++ (divP its (inL its lo hi) fan lo (fan - 1)).2).length) (rcX) (PS (ps ++ (divP its (inL its lo hi) fan lo (fan - 1)).2)), cAt b5 69 [(.string (strOf lo)), (.string (strOf hi))], cAt b6 71 [(.int .i64 ((n : Nat) : Int)), (.string (strOf f))], cAt b14 69 [(.string (strOf (divP its (inL its lo hi) fan lo (fan - 1)).1)), (.string (strOf hi))]] (by kernel_rfl) ?_
        refine anyNext [cAt bo 85 [(.slice RX ((ps ++ (divP its (inL its lo hi) fan lo (fan - 1)).2).length) (rcX)), N, O], cAt b5 69 [(.string (strOf lo)), (.string (strOf hi))], cAt b6 71 [(.int .i64 ((n : Nat) : Int)), (.string (strOf f))], cAt b14 69 [(.string (strOf (divP its (inL its lo hi) fan lo (fan - 1)).1)), (.string (strOf hi))]] (fun _ h => h) (fun _ h => h.sub (.cons_cons _ (.cons _ (.cons_cons _ (.cons_cons _ (.cons_cons _ .slnil)))))) ?_
        refine ac 9 (.iface 71 (.agg #[(.int .i64 (((inL its ((divP its (inL its lo hi) fan lo (fan - 1)).1) hi).length : Nat) : Int)), (.string (strOf (fpB (inL its ((divP its (inL its lo hi) fan lo (fan - 1)).1) hi))))])) ?_
        refine ac 10 (.agg #[(.string (strOf (divP its (inL its lo hi) fan lo (fan - 1)).1)), (.string (strOf hi)), (.iface 71 (.agg #[(.int .i64 (((inL its ((divP its (inL its lo hi) fan lo (fan - 1)).1) hi).length : Nat) : Int)), (.string (strOf (fpB (inL its ((divP its (inL its lo hi) fan lo (fan - 1)).1) hi))))]))]) ?_
        refine a1 11 ?_
        refine opNew (v := fun b => .slice (some ⟨b, 0, none⟩) 1 1) 76 [(.string (strOf (divP its (inL its lo hi) fan lo (fan - 1)).1)), (.string (strOf hi)), (.iface 71 (.agg #[(.int .i64 (((inL its ((divP its (inL its lo hi) fan lo (fan - 1)).1) hi).length : Nat) : Int)), (.string (strOf (fpB (inL its ((divP its (inL its lo hi) fan lo (fan - 1)).1) hi))))]))] rfl (by kernel_rfl) (fun _ => by kernel_rfl) (fun b106 => ?_)
        refine anyNext [cAt bo 85 [(.slice RX ((ps ++ (divP its (inL its lo hi) fan lo (fan - 1)).2).length) (rcX)), N, O], cAt b5 69 [(.string (strOf lo)), (.string (strOf hi))], cAt b6 71 [(.int .i64 ((n : Nat) : Int)), (.string (strOf f))], cAt b14 69 [(.string (strOf (divP its (inL its lo hi) fan lo (fan - 1)).1)), (.string (strOf hi))], cAt b106 76 [(.string (strOf (divP its (inL its lo hi) fan lo (fan - 1)).1)), (.string (strOf hi)), (.iface 71 (.agg #[(.int .i64 (((inL its ((divP its (inL its lo hi) fan lo (fan - 1)).1) hi).length : Nat) : Int)), (.string (strOf (fpB (inL its ((divP its (inL its lo hi) fan lo (fan - 1)).1) hi))))]))]] (fun _ h => h.sub (.cons_cons _ (.cons_cons _ (.cons_cons _ (.cons_cons _ (.cons _ .slnil)))))) (fun _ h => h.sub (.cons_cons _ (.cons _ (.cons_cons _ (.cons_cons _ (.cons_cons _ (.cons_cons _ .slnil))))))) ?_
        refine a1 12 ?_
        refine opAppend el_part 1 ([(.string (strOf (divP its (inL its lo hi) fan lo (fan - 1)).1)), (.string (strOf hi)), (.iface 71 (.agg #[(.int .i64 (((inL its ((divP its (inL its lo hi) fan lo (fan - 1)).1) hi).length : Nat) : Int)), (.string (strOf (fpB (inL its ((divP its (inL its lo hi) fan lo (fan - 1)).1) hi))))]))]) rfl rfl (by kernel_rfl) rfl rfl rfl (rfl) (srcAt (i := 5) rfl (fun j v h => by rw [Nat.zero_add]; exact h)) (by intro u hu; exact PS_one (ps := [sumP its _ _]) u hu) (by have := divP_len its (inL its lo hi) fan lo (fan - 1); simp only [List.length_append] at *; omega) ((ps ++ (divP its (inL its lo hi) fan lo (fan - 1)).2 ++ [sumP its (divP its (inL its lo hi) fan lo (fan - 1)).1 hi]).length) (by first | exact (List.length_append ..).symm | (simp; done) | (simp; omega)) (PS (ps ++ (divP its (inL its lo hi) fan lo (fan - 1)).2 ++ [sumP its (divP its (inL its lo hi) fan lo (fan - 1)).1 hi])) ((PS_append _ ([sumP its (divP its (inL its lo hi) fan lo (fan - 1)).1 hi])).symm) (fun A107 c107 => ?_)
        refine anyNext [cAt bo 85 [(.slice RX ((ps ++ (divP its (inL its lo hi) fan lo (fan - 1)).2).length) (rcX)), N, O], cAt b5 69 [(.string (strOf lo)), (.string (strOf hi))], cAt b6 71 [(.int .i64 ((n : Nat) : Int)), (.string (strOf f))], cAt b14 69 [(.string (strOf (divP its (inL its lo hi) fan lo (fan - 1)).1)), (.string (strOf hi))], cAt b106 76 [(.string (strOf (divP its (inL its lo hi) fan lo (fan - 1)).1)), (.string (strOf hi)), (.iface 71 (.agg #[(.int .i64 (((inL its ((divP its (inL its lo hi) fan lo (fan - 1)).1) hi).length : Nat) : Int)), (.string (strOf (fpB (inL its ((divP its (inL its lo hi) fan lo (fan - 1)).1) hi))))]))]] (fun _ h => h) (fun _ h => h.sub (.cons_cons _ (.cons _ (.cons_cons _ (.cons_cons _ (.cons_cons _ (.cons_cons _ .slnil))))))) ?_
        refine ac 13 (.pointer (some ⟨bo, 0, none⟩)) ?_
        refine ac 14 (.pointer (some ⟨bo, 0, none⟩)) ?_
        refine a1 15 ?_
        refine opStore1 0 rfl rfl (by kernel_rfl) rfl rfl rfl (by kernel_rfl) rfl (by simp) ?_
        refine anyLast (by kernel_rfl) rfl ?_
        refine stEndN [] rfl trivial (fun w hM => ?_)
        refine ⟨A107, c107, (divP its (inL its lo hi) fan lo (fan - 1)).2 ++ [sumP its (divP its (inL its lo hi) fan lo (fan - 1)).1 hi], rfl, ?_, ?_, ?_⟩
        · rw [← List.append_assoc]; exact (fun (w : World) (h : Mm _ _ _ w) => Mm.sub h (.cons_cons _ (.cons_cons _ (.cons _ (.cons _ (.cons _ (.cons _ .slnil))))))) w hM
        · rw [cmpA, if_neg hd19, if_neg (by have := of_decide_eq_false hc31; omega), List.map_append, (divP_abs its (inL its lo hi) fan lo (fan - 1)).2, ← (divP_abs its (inL its lo hi) fan lo (fan - 1)).1]; rfl
        · exact SrcOk.append (L := []) (SrcOk.noRows (divP_sum _ _ _ _ _)) (SrcOk.noRows (by intro p hp; rw [List.mem_singleton.1 hp]; rfl))

set_option maxRecDepth 100000 in
set_option maxHeartbeats 1000000 in
theorem rsAnswer_any (bs : Nat) (A : Option Addr) (c : Nat) (its : List (List UInt8)) (fan : Nat) (leaf : Nat) (nm : Nat) (om : Nat) (lo : List UInt8) (hi : List UInt8) (A1 : Option Addr) (c1 : Nat) (xs : List (List UInt8)) (bo : Nat) (R : Option Addr) (rc : Nat) (ps : List PV) (N : Option Addr) (nc : Nat) (nl : List (List UInt8)) (O : Option Addr) (oc : Nat) (ol : List (List UInt8)) (w : World) (hO : Own [cAt bo 85 [(.slice R ((ps).length) (rc)), (.slice N ((nl).length) (nc)), (.slice O ((ol).length) (oc))], cOwn 76 3 R ((ps).length) (rc) (PS (ps)), cOwn 9 1 N ((nl).length) (nc) (SS (nl)), cOwn 9 1 O ((ol).length) (oc) (SS (ol))] w) (r0 : Rf [cAt bo 85 [(.slice R ((ps).length) (rc)), (.slice N ((nl).length) (nc)), (.slice O ((ol).length) (oc))], cOwn 76 3 R ((ps).length) (rc) (PS (ps)), cOwn 9 1 N ((nl).length) (nc) (SS (nl)), cOwn 9 1 O ((ol).length) (oc) (SS (ol))] w (SessAt bs A c its fan leaf nm om)) (r1 : Rf [cAt bo 85 [(.slice R ((ps).length) (rc)), (.slice N ((nl).length) (nc)), (.slice O ((ol).length) (oc))], cOwn 76 3 R ((ps).length) (rc) (PS (ps)), cOwn 9 1 N ((nl).length) (nc) (SS (nl)), cOwn 9 1 O ((ol).length) (oc) (SS (ol))] w (fun w => RowIn w A1 (SS xs))) (hs : okSet its) (hn : its.length ≤ 1000) (hcap : its.length ≤ c) (hps : ps.length ≤ 4294967296) (hxl : xs.length ≤ 4294967296) (hxs : ∀ x ∈ xs, x.length ≤ 1000) (hnl : nl.length ≤ 68719476736) (hol : ol.length ≤ 68719476736) :
    Calls Tryz.prog 42 #[(.pointer (some ⟨bs, 0, none⟩)), (.agg #[(.string (strOf lo)), (.string (strOf hi))]), (.agg #[(.slice A1 (xs.length) (c1))]), (.pointer (some ⟨bo, 0, none⟩))] w fun e w' => ∃ (R2 : Option Addr) (rc2 : Nat) (ps2 : List PV) (N2 : Option Addr) (nc2 : Nat) (O2 : Option Addr) (oc2 : Nat) (L2 : List (Option Addr × List (List UInt8))), e = .returned (.tuple #[]) ∧ Back [cAt bo 85 [(.slice R ((ps).length) (rc)), (.slice N ((nl).length) (nc)), (.slice O ((ol).length) (oc))], cOwn 76 3 R ((ps).length) (rc) (PS (ps)), cOwn 9 1 N ((nl).length) (nc) (SS (nl)), cOwn 9 1 O ((ol).length) (oc) (SS (ol))] w [cAt bo 85 [(.slice R2 ((ps ++ ps2).length) (rc2)), (.slice N2 ((nl ++ without xs its).length) (nc2)), (.slice O2 ((ol ++ without (inL its lo hi) xs).length) (oc2))], cOwn 76 3 R2 ((ps ++ ps2).length) (rc2) (PS (ps ++ ps2)), cOwn 9 1 N2 ((nl ++ without xs its).length) (nc2) (SS (nl ++ without xs its)), cOwn 9 1 O2 ((ol ++ without (inL its lo hi) xs).length) (oc2) (SS (ol ++ without (inL its lo hi) xs)), cBag (L2)] w' ∧ (ps2.map PV.abs = ansA its lo hi xs) ∧ (SrcOk L2 A its ps2) := by
  have ra := r0.imp (fun _ h => h.1)
  have rb := r0.imp (fun _ h => h.2)
  refine stEnter (args := [(.pointer (some ⟨bs, 0, none⟩)), (.agg #[(.string (strOf lo)), (.string (strOf hi))]), (.agg #[(.slice A1 (xs.length) (c1))]), (.pointer (some ⟨bo, 0, none⟩))]) (fps [cAt bo 85 [(.slice R ((ps).length) (rc)), (.slice N ((nl).length) (nc)), (.slice O ((ol).length) (oc))], cOwn 76 3 R ((ps).length) (rc) (PS (ps)), cOwn 9 1 N ((nl).length) (nc) (SS (nl)), cOwn 9 1 O ((ol).length) (oc) (SS (ol))]) Tryz.func42 rfl 95 rfl [(0, (.pointer (some ⟨bs, 0, none⟩))), (1, (.agg #[(.string (strOf lo)), (.string (strOf hi))])), (2, (.agg #[(.slice A1 (xs.length) (c1))])), (3, (.pointer (some ⟨bo, 0, none⟩)))] ⟨rfl, rfl, rfl, rfl, trivial⟩ [cAt bo 85 [(.slice R ((ps).length) (rc)), (.slice N ((nl).length) (nc)), (.slice O ((ol).length) (oc))], cOwn 76 3 R ((ps).length) (rc) (PS (ps)), cOwn 9 1 N ((nl).length) (nc) (SS (nl)), cOwn 9 1 O ((ol).length) (oc) (SS (ol))] (hO) ?_
  refine stSeq (reg (li rfl ?_))
  refine opBox [(.string (strOf lo)), (.string (strOf hi))] rfl rfl (by kernel_rfl) rfl rfl (fun b5 => ?_)
  refine li rfl ?_
  refine opBox [(.slice A1 (xs.length) (c1))] rfl rfl (by kernel_rfl) rfl rfl (fun b6 => ?_)
  refine liNil (qThen (stSeq ?_))
  refine St.to [cAt bo 85 [(.slice R ((ps).length) (rc)), (.slice N ((nl).length) (nc)), (.slice O ((ol).length) (oc))], cOwn 76 3 R ((ps).length) (rc) (PS (ps)), cOwn 9 1 N ((nl).length) (nc) (SS (nl)), cOwn 9 1 O ((ol).length) (oc) (SS (ol)), cAt b5 69 [(.string (strOf lo)), (.string (strOf hi))], cAt b6 89 [(.slice A1 (xs.length) (c1))]] (by kernel_rfl) ?_
  refine reg (li rfl ?_)
  refine opMakeSet rfl rfl (by kernel_rfl) (fun m14 => ?_)
  refine la ?_
  refine liNil (qThen (stSeq (reg (li rfl ?_))))
  refine opAlloc [(.slice none 0 0), (.slice none 0 0)] rfl rfl (by kernel_rfl) (by kernel_rfl) (fun b9 => ?_)
  refine liNil (qThen (stSeq (stSeq ?_)))
  refine St.to [cAt bo 85 [(.slice R ((ps).length) (rc)), (.slice N ((nl).length) (nc)), (.slice O ((ol).length) (oc))], cOwn 76 3 R ((ps).length) (rc) (PS (ps)), cOwn 9 1 N ((nl).length) (nc) (SS (nl)), cOwn 9 1 O ((ol).length) (oc) (SS (ol)), cAt b5 69 [(.string (strOf lo)), (.string (strOf hi))], cAt b6 89 [(.slice A1 (xs.length) (c1))], cSet m14 ([]), cAt b9 92 [(.slice none 0 0), (.slice none 0 0)]] (by kernel_rfl) ?_
  refine St.mem (fun w hM => hM.nilOwn 9 1) ?_
  refine St.mem (fun w hM => hM.nilOwn 9 1) ?_
  refine reg ?_
  refine lc (.pointer (some ⟨b6, 0, none⟩)) ?_
  refine lv (v := (.slice A1 (xs.length) (c1))) (rLoad 5 rfl rfl (by kernel_rfl) rfl rfl) ?_
  refine lc (.int .i64 ((xs.length : Nat) : Int)) ?_
  refine lm ?_
  refine liNil (qThen (stBlock ?_))
  refine stLoop (ι := Nat × Option Addr × Nat) (fun (i, N32, nc32) => i ≤ xs.length) (fun (i, N32, nc32) => xs.length - i) (fun (i, N32, nc32) => [(0, (.pointer (some ⟨bs, 0, none⟩))), (3, (.pointer (some ⟨bo, 0, none⟩))), (5, (.pointer (some ⟨b5, 0, none⟩))), (8, (.map (some m14))), (9, (.pointer (some ⟨b9, 0, none⟩))), (16, (.slice A1 (xs.length) (c1))), (17, (.int .i64 ((xs.length : Nat) : Int))), (18, (.int .i64 ((i : Nat) : Int)))]) (fun (i, N32, nc32) => [cAt bo 85 [(.slice R ((ps).length) (rc)), (.slice N ((nl).length) (nc)), (.slice O ((ol).length) (oc))], cOwn 76 3 R ((ps).length) (rc) (PS (ps)), cOwn 9 1 N ((nl).length) (nc) (SS (nl)), cOwn 9 1 O ((ol).length) (oc) (SS (ol)), cAt b5 69 [(.string (strOf lo)), (.string (strOf hi))], cAt b6 89 [(.slice A1 (xs.length) (c1))], cSet m14 (xs.take i), cAt b9 92 [(.slice none 0 0), (.slice N32 ((without (xs.take i) its).length) (nc32))], cOwn 9 1 none (0) (0) ([]), cOwn 9 1 N32 ((without (xs.take i) its).length) (nc32) (SS (without (xs.take i) its))]) (0, none, 0) (Nat.zero_le _) ⟨rfl, rfl, rfl, rfl, rfl, rfl, rfl, rfl, trivial⟩ (fun w hM => by show Mm _ _ [cAt bo 85 [(.slice R ((ps).length) (rc)), (.slice N ((nl).length) (nc)), (.slice O ((ol).length) (oc))], cOwn 76 3 R ((ps).length) (rc) (PS (ps)), cOwn 9 1 N ((nl).length) (nc) (SS (nl)), cOwn 9 1 O ((ol).length) (oc) (SS (ol)), cAt b5 69 [(.string (strOf lo)), (.string (strOf hi))], cAt b6 89 [(.slice A1 (xs.length) (c1))], cSet m14 (xs.take 0), cAt b9 92 [(.slice none 0 0), (.slice none ((without (xs.take 0) its).length) (0))], cOwn 9 1 none (0) (0) ([]), cOwn 9 1 none ((without (xs.take 0) its).length) (0) (SS (without (xs.take 0) its))] w; exact hM) ?_
  rintro ⟨i, N32, nc32⟩ (hok : i ≤ xs.length)
  show St _ _ _ [(0, (.pointer (some ⟨bs, 0, none⟩))), (3, (.pointer (some ⟨bo, 0, none⟩))), (5, (.pointer (some ⟨b5, 0, none⟩))), (8, (.map (some m14))), (9, (.pointer (some ⟨b9, 0, none⟩))), (16, (.slice A1 (xs.length) (c1))), (17, (.int .i64 ((xs.length : Nat) : Int))), (18, (.int .i64 ((i : Nat) : Int)))] [cAt bo 85 [(.slice R ((ps).length) (rc)), (.slice N ((nl).length) (nc)), (.slice O ((ol).length) (oc))], cOwn 76 3 R ((ps).length) (rc) (PS (ps)), cOwn 9 1 N ((nl).length) (nc) (SS (nl)), cOwn 9 1 O ((ol).length) (oc) (SS (ol)), cAt b5 69 [(.string (strOf lo)), (.string (strOf hi))], cAt b6 89 [(.slice A1 (xs.length) (c1))], cSet m14 (xs.take i), cAt b9 92 [(.slice none 0 0), (.slice N32 ((without (xs.take i) its).length) (nc32))], cOwn 9 1 none (0) (0) ([]), cOwn 9 1 N32 ((without (xs.take i) its).length) (nc32) (SS (without (xs.take i) its))] _
  refine stSeq (reg ?_)
  refine lc (.bool (decide (((i : Nat) : Int) < ((xs.length : Nat) : Int)))) ?_
  refine liNil (qThen (stSeq ?_))
  refine stCond rfl (fun hc19 => ?_) (fun hc19 => ?_)
  · have hd19 := of_decide_eq_true hc19
    refine stSkip (qThen (stSeq (stBlock (stSeq (reg ?_)))))
    obtain ⟨x0, hx0⟩ : ∃ ξ, (xs)[i]? = some ξ := ⟨_, List.getElem?_eq_getElem (by omega)⟩
    refine St.rowPtr (fun w hM => r1.now hM) (SS_at hx0) (fun p20 q20 hA20 hc20 => ?_)
    refine lv (v := (.pointer (some ⟨p20, q20 + i, none⟩))) (rIndexRow (e := 9) rfl (by kernel_rfl) (by kernel_rfl) rfl rfl hA20 (by omega)) ?_
    refine lv (v := (.string (strOf x0))) (rLoadW rfl rfl (by kernel_rfl) hc20) ?_
    refine la ?_
    refine liNil (qThen (stSeq (reg ?_)))
    refine lm ?_
    refine lm ?_
    refine li rfl ?_
    refine opSetPut 6 rfl rfl (by kernel_rfl) rfl rfl rfl rfl (by have := hxs _ (List.mem_of_getElem? hx0); omega) (by rw [List.length_take]; omega) ?_
    refine liNil (qThen (stSeq (reg ?_)))
    refine lm ?_
    refine lm ?_
    refine li rfl ?_
    refine opK0 (fun w hM => (rsSHas_any bs A c its fan leaf nm om x0 w (r0.go0 hM) (by assumption) (by assumption)).mono ?_)
    rintro e w' ⟨rfl, hP⟩
    refine ⟨_, _, rfl, hP, ?_⟩; clear hP hM
    refine lc (.bool (!(its.contains x0))) ?_
    refine liNil (qThen ?_)
    refine stCond rfl (fun hc27 => ?_) (fun hc27 => ?_)
    · refine St.to [cAt bo 85 [(.slice R ((ps).length) (rc)), (.slice N ((nl).length) (nc)), (.slice O ((ol).length) (oc))], cOwn 76 3 R ((ps).length) (rc) (PS (ps)), cOwn 9 1 N ((nl).length) (nc) (SS (nl)), cOwn 9 1 O ((ol).length) (oc) (SS (ol)), cAt b5 69 [(.string (strOf lo)), (.string (strOf hi))], cAt b6 89 [(.slice A1 (xs.length) (c1))], cSet m14 (xs.take i ++ [x0]), cAt b9 92 [(.slice none 0 0), (.slice N32 ((without (xs.take i) its).length) (nc32))], cOwn 9 1 none (0) (0) ([]), cOwn 9 1 N32 ((without (xs.take i) its).length) (nc32) (SS (without (xs.take i) its))] (by kernel_rfl) ?_
      refine reg ?_
      refine lc (.pointer (some ⟨b9, 1, none⟩)) ?_
      refine lv (v := (.slice N32 ((without (xs.take i) its).length) (nc32))) (rLoad 7 rfl rfl (by kernel_rfl) rfl rfl) ?_
      refine lm ?_
      refine li rfl ?_
      refine opNew (v := fun b => .slice (some ⟨b, 0, none⟩) 1 1) 9 [(.string (strOf x0))] rfl (by kernel_rfl) (fun _ => by kernel_rfl) (fun b31 => ?_)
      refine li rfl ?_
      refine opAppend el_strC 9 ([(.string (strOf x0))]) rfl rfl (by kernel_rfl) rfl rfl rfl (rfl) (srcAt (i := 10) rfl (fun j v h => by rw [Nat.zero_add]; exact h)) (by simp [Value.oneCell']) (by have h := without_len (xs.take i) its; simp only [List.length_take] at h; omega) ((without (xs.take i) its ++ [x0]).length) (by first | exact (List.length_append ..).symm | (simp; done) | (simp; omega)) (SS (without (xs.take i) its ++ [x0])) (by simp [SS]) (fun A32 c32 => ?_)
      refine lc (.pointer (some ⟨b9, 1, none⟩)) ?_
      refine li rfl ?_
      refine opStore1 7 rfl rfl (by kernel_rfl) rfl rfl rfl (by kernel_rfl) rfl (by simp) ?_
      refine liNil (qBlock (qThen ?_))
      refine St.to [cAt bo 85 [(.slice R ((ps).length) (rc)), (.slice N ((nl).length) (nc)), (.slice O ((ol).length) (oc))], cOwn 76 3 R ((ps).length) (rc) (PS (ps)), cOwn 9 1 N ((nl).length) (nc) (SS (nl)), cOwn 9 1 O ((ol).length) (oc) (SS (ol)), cAt b5 69 [(.string (strOf lo)), (.string (strOf hi))], cAt b6 89 [(.slice A1 (xs.length) (c1))], cSet m14 (xs.take i ++ [x0]), cAt b9 92 [(.slice none 0 0), (.slice A32 ((without (xs.take i) its ++ [x0]).length) (c32))], cOwn 9 1 none (0) (0) ([]), cOwn 9 1 A32 ((without (xs.take i) its ++ [x0]).length) (c32) (SS (without (xs.take i) its ++ [x0])), cAt b31 9 [(.string (strOf x0))]] (by kernel_rfl) ?_
      refine reg ?_
      refine lv (v := (.int .i64 ((i + 1 : Nat) : Int))) (rAdd _ rfl rfl rfl (by omega) (by omega) (by omega)) ?_
      refine lm ?_
      refine liNil (qThen ?_)
      rw [show xs.take i ++ [x0] = xs.take (i + 1) from take_snoc hx0]
      rw [show without (xs.take i) its ++ [x0] = without (xs.take (i + 1)) its from by rw [without_yes hx0 (by simpa using hc27)]]
      exact stAgain (i + 1, A32, c32) (by show _ ≤ _; omega) (by show xs.length - (i + 1) < xs.length - i; omega) ⟨rfl, rfl, rfl, rfl, rfl, rfl, rfl, rfl, trivial⟩ (fun w hM => by show Mm _ _ [cAt bo 85 [(.slice R ((ps).length) (rc)), (.slice N ((nl).length) (nc)), (.slice O ((ol).length) (oc))], cOwn 76 3 R ((ps).length) (rc) (PS (ps)), cOwn 9 1 N ((nl).length) (nc) (SS (nl)), cOwn 9 1 O ((ol).length) (oc) (SS (ol)), cAt b5 69 [(.string (strOf lo)), (.string (strOf hi))], cAt b6 89 [(.slice A1 (xs.length) (c1))], cSet m14 (xs.take (i + 1)), cAt b9 92 [(.slice none 0 0), (.slice A32 ((without (xs.take (i + 1)) its).length) (c32))], cOwn 9 1 none (0) (0) ([]), cOwn 9 1 A32 ((without (xs.take (i + 1)) its).length) (c32) (SS (without (xs.take (i + 1)) its))] w; exact (fun (w : World) (h : Mm _ _ _ w) => Mm.sub h (.cons_cons _ (.cons_cons _ (.cons_cons _ (.cons_cons _ (.cons_cons _ (.cons_cons _ (.cons_cons _ (.cons_cons _ (.cons_cons _ (.cons_cons _ (.cons _ .slnil)))))))))))) w hM)
    · refine stSkip (qBlock (qThen (reg ?_)))
      refine lv (v := (.int .i64 ((i + 1 : Nat) : Int))) (rAdd _ rfl rfl rfl (by omega) (by omega) (by omega)) ?_
      refine lm ?_
      refine liNil (qThen ?_)
      rw [show xs.take i ++ [x0] = xs.take (i + 1) from take_snoc hx0]
      rw [show without (xs.take i) its = without (xs.take (i + 1)) its from by rw [without_no hx0 (by simpa using hc27)]]
      exact stAgain (i + 1, N32, nc32) (by show _ ≤ _; omega) (by show xs.length - (i + 1) < xs.length - i; omega) ⟨rfl, rfl, rfl, rfl, rfl, rfl, rfl, rfl, trivial⟩ (fun w hM => by show Mm _ _ [cAt bo 85 [(.slice R ((ps).length) (rc)), (.slice N ((nl).length) (nc)), (.slice O ((ol).length) (oc))], cOwn 76 3 R ((ps).length) (rc) (PS (ps)), cOwn 9 1 N ((nl).length) (nc) (SS (nl)), cOwn 9 1 O ((ol).length) (oc) (SS (ol)), cAt b5 69 [(.string (strOf lo)), (.string (strOf hi))], cAt b6 89 [(.slice A1 (xs.length) (c1))], cSet m14 (xs.take (i + 1)), cAt b9 92 [(.slice none 0 0), (.slice N32 ((without (xs.take (i + 1)) its).length) (nc32))], cOwn 9 1 none (0) (0) ([]), cOwn 9 1 N32 ((without (xs.take (i + 1)) its).length) (nc32) (SS (without (xs.take (i + 1)) its))] w; exact hM)
  · have hd19 := of_decide_eq_false hc19
    obtain rfl : i = xs.length := by omega
    rw [List.take_length]
    refine stExit (qThenX (qThenX (qBlockX (qThen (stSeq (stSeq (reg ?_)))))))
    refine lm ?_
    refine lv (v := (.agg #[(.string (strOf lo)), (.string (strOf hi))])) (rLoadA [(.string (strOf lo)), (.string (strOf hi))] rfl rfl (by kernel_rfl) (by kernel_rfl) (segAt (i := 4) rfl (by intro j v hj; first | (rw [Nat.zero_add]; exact hj) | (match j, hj with | 0, h => exact h | 1, h => exact h)))) ?_
    refine li rfl ?_
    refine opK0 (fun w hM => (rsWithin_any bs A c its fan leaf nm om lo hi w (r0.go0 hM) (by assumption) (by assumption) (by assumption)).mono ?_)
    rintro e w' ⟨B37, cb37, rfl, hP, hsub37⟩
    refine ⟨_, _, rfl, hP, ?_⟩; clear hP hM
    have rs37 := Ro.imp (Ψ := fun w => RowIn w B37 (SS (inL its lo hi))) rb hsub37
    have hl2 := List.length_filter_le (inR lo hi) its; change (inL its lo hi).length ≤ its.length at hl2
    refine lc (.int .i64 (((inL its lo hi).length : Nat) : Int)) ?_
    refine lm ?_
    refine liNil (qThen (stBlock ?_))
    refine stLoop (ι := Nat × Option Addr × Nat) (fun (i, N51, nc51) => i ≤ (inL its lo hi).length) (fun (i, N51, nc51) => (inL its lo hi).length - i) (fun (i, N51, nc51) => [(3, (.pointer (some ⟨bo, 0, none⟩))), (5, (.pointer (some ⟨b5, 0, none⟩))), (8, (.map (some m14))), (9, (.pointer (some ⟨b9, 0, none⟩))), (37, (.slice B37 ((inL its lo hi).length) (cb37))), (38, (.int .i64 (((inL its lo hi).length : Nat) : Int))), (39, (.int .i64 ((i : Nat) : Int)))]) (fun (i, N51, nc51) => [cAt bo 85 [(.slice R ((ps).length) (rc)), (.slice N ((nl).length) (nc)), (.slice O ((ol).length) (oc))], cOwn 76 3 R ((ps).length) (rc) (PS (ps)), cOwn 9 1 N ((nl).length) (nc) (SS (nl)), cOwn 9 1 O ((ol).length) (oc) (SS (ol)), cAt b5 69 [(.string (strOf lo)), (.string (strOf hi))], cAt b6 89 [(.slice A1 (xs.length) (c1))], cSet m14 (xs), cAt b9 92 [(.slice N51 ((without ((inL its lo hi).take i) xs).length) (nc51)), (.slice N32 ((without xs its).length) (nc32))], cOwn 9 1 N51 ((without ((inL its lo hi).take i) xs).length) (nc51) (SS (without ((inL its lo hi).take i) xs)), cOwn 9 1 N32 ((without xs its).length) (nc32) (SS (without xs its))]) (0, none, 0) (Nat.zero_le _) ⟨rfl, rfl, rfl, rfl, rfl, rfl, rfl, trivial⟩ (fun w hM => by show Mm _ _ [cAt bo 85 [(.slice R ((ps).length) (rc)), (.slice N ((nl).length) (nc)), (.slice O ((ol).length) (oc))], cOwn 76 3 R ((ps).length) (rc) (PS (ps)), cOwn 9 1 N ((nl).length) (nc) (SS (nl)), cOwn 9 1 O ((ol).length) (oc) (SS (ol)), cAt b5 69 [(.string (strOf lo)), (.string (strOf hi))], cAt b6 89 [(.slice A1 (xs.length) (c1))], cSet m14 (xs), cAt b9 92 [(.slice none ((without ((inL its lo hi).take 0) xs).length) (0)), (.slice N32 ((without xs its).length) (nc32))], cOwn 9 1 none ((without ((inL its lo hi).take 0) xs).length) (0) (SS (without ((inL its lo hi).take 0) xs)), cOwn 9 1 N32 ((without xs its).length) (nc32) (SS (without xs its))] w; exact hM) ?_
    rintro ⟨i, N51, nc51⟩ (hok : i ≤ (inL its lo hi).length)
    show St _ _ _ [(3, (.pointer (some ⟨bo, 0, none⟩))), (5, (.pointer (some ⟨b5, 0, none⟩))), (8, (.map (some m14))), (9, (.pointer (some ⟨b9, 0, none⟩))), (37, (.slice B37 ((inL its lo hi).length) (cb37))), (38, (.int .i64 (((inL its lo hi).length : Nat) : Int))), (39, (.int .i64 ((i : Nat) : Int)))] [cAt bo 85 [(.slice R ((ps).length) (rc)), (.slice N ((nl).length) (nc)), (.slice O ((ol).length) (oc))], cOwn 76 3 R ((ps).length) (rc) (PS (ps)), cOwn 9 1 N ((nl).length) (nc) (SS (nl)), cOwn 9 1 O ((ol).length) (oc) (SS (ol)), cAt b5 69 [(.string (strOf lo)), (.string (strOf hi))], cAt b6 89 [(.slice A1 (xs.length) (c1))], cSet m14 (xs), cAt b9 92 [(.slice N51 ((without ((inL its lo hi).take i) xs).length) (nc51)), (.slice N32 ((without xs its).length) (nc32))], cOwn 9 1 N51 ((without ((inL its lo hi).take i) xs).length) (nc51) (SS (without ((inL its lo hi).take i) xs)), cOwn 9 1 N32 ((without xs its).length) (nc32) (SS (without xs its))] _
    refine stSeq (reg ?_)
    refine lc (.bool (decide (((i : Nat) : Int) < (((inL its lo hi).length : Nat) : Int)))) ?_
    refine liNil (qThen (stSeq ?_))
    refine stCond rfl (fun hc40 => ?_) (fun hc40 => ?_)
    · have hd40 := of_decide_eq_true hc40
      refine stSkip (qThen (stSeq (stBlock (stSeq (reg ?_)))))
      obtain ⟨x0, hx0⟩ : ∃ ξ, (inL its lo hi)[i]? = some ξ := ⟨_, List.getElem?_eq_getElem (by omega)⟩
      refine St.rowPtr (fun w hM => rs37.now hM) (SS_at hx0) (fun p41 q41 hA41 hc41 => ?_)
      refine lv (v := (.pointer (some ⟨p41, q41 + i, none⟩))) (rIndexRow (e := 9) rfl (by kernel_rfl) (by kernel_rfl) rfl rfl hA41 (by omega)) ?_
      refine lv (v := (.string (strOf x0))) (rLoadW rfl rfl (by kernel_rfl) hc41) ?_
      refine la ?_
      refine liNil (qThen (stSeq (reg ?_)))
      refine lm ?_
      refine lm ?_
      refine lv (v := (.bool (xs.contains x0))) (rSetGet 6 rfl rfl rfl rfl (by have := (hs.1 _ (List.mem_filter.1 (List.mem_of_getElem? hx0)).1); omega)) ?_
      refine lc (.bool (!(xs.contains x0))) ?_
      refine liNil (qThen ?_)
      refine stCond rfl (fun hc46 => ?_) (fun hc46 => ?_)
      · refine reg ?_
        refine lc (.pointer (some ⟨b9, 0, none⟩)) ?_
        refine lv (v := (.slice N51 ((without ((inL its lo hi).take i) xs).length) (nc51))) (rLoad 7 rfl rfl (by kernel_rfl) rfl rfl) ?_
        refine lm ?_
        refine li rfl ?_
        refine opNew (v := fun b => .slice (some ⟨b, 0, none⟩) 1 1) 9 [(.string (strOf x0))] rfl (by kernel_rfl) (fun _ => by kernel_rfl) (fun b50 => ?_)
        refine li rfl ?_
        refine opAppend el_strC 8 ([(.string (strOf x0))]) rfl rfl (by kernel_rfl) rfl rfl rfl (rfl) (srcAt (i := 10) rfl (fun j v h => by rw [Nat.zero_add]; exact h)) (by simp [Value.oneCell']) (by have h := without_len ((inL its lo hi).take i) xs; simp only [List.length_take] at h; omega) ((without ((inL its lo hi).take i) xs ++ [x0]).length) (by first | exact (List.length_append ..).symm | (simp; done) | (simp; omega)) (SS (without ((inL its lo hi).take i) xs ++ [x0])) (by simp [SS]) (fun A51 c51 => ?_)
        refine lc (.pointer (some ⟨b9, 0, none⟩)) ?_
        refine li rfl ?_
        refine opStore1 7 rfl rfl (by kernel_rfl) rfl rfl rfl (by kernel_rfl) rfl (by simp) ?_
        refine liNil (qBlock (qThen ?_))
        refine St.to [cAt bo 85 [(.slice R ((ps).length) (rc)), (.slice N ((nl).length) (nc)), (.slice O ((ol).length) (oc))], cOwn 76 3 R ((ps).length) (rc) (PS (ps)), cOwn 9 1 N ((nl).length) (nc) (SS (nl)), cOwn 9 1 O ((ol).length) (oc) (SS (ol)), cAt b5 69 [(.string (strOf lo)), (.string (strOf hi))], cAt b6 89 [(.slice A1 (xs.length) (c1))], cSet m14 (xs), cAt b9 92 [(.slice A51 ((without ((inL its lo hi).take i) xs ++ [x0]).length) (c51)), (.slice N32 ((without xs its).length) (nc32))], cOwn 9 1 A51 ((without ((inL its lo hi).take i) xs ++ [x0]).length) (c51) (SS (without ((inL its lo hi).take i) xs ++ [x0])), cOwn 9 1 N32 ((without xs its).length) (nc32) (SS (without xs its)), cAt b50 9 [(.string (strOf x0))]] (by kernel_rfl) ?_
        refine reg ?_
        refine lv (v := (.int .i64 ((i + 1 : Nat) : Int))) (rAdd _ rfl rfl rfl (by omega) (by omega) (by omega)) ?_
        refine lm ?_
        refine liNil (qThen ?_)
        rw [show without ((inL its lo hi).take i) xs ++ [x0] = without ((inL its lo hi).take (i + 1)) xs from by rw [without_yes hx0 (by simpa using hc46)]]
        exact stAgain (i + 1, A51, c51) (by show _ ≤ _; omega) (by show (inL its lo hi).length - (i + 1) < (inL its lo hi).length - i; omega) ⟨rfl, rfl, rfl, rfl, rfl, rfl, rfl, trivial⟩ (fun w hM => by show Mm _ _ [cAt bo 85 [(.slice R ((ps).length) (rc)), (.slice N ((nl).length) (nc)), (.slice O ((ol).length) (oc))], cOwn 76 3 R ((ps).length) (rc) (PS (ps)), cOwn 9 1 N ((nl).length) (nc) (SS (nl)), cOwn 9 1 O ((ol).length) (oc) (SS (ol)), cAt b5 69 [(.string (strOf lo)), (.string (strOf hi))], cAt b6 89 [(.slice A1 (xs.length) (c1))], cSet m14 (xs), cAt b9 92 [(.slice A51 ((without ((inL its lo hi).take (i + 1)) xs).length) (c51)), (.slice N32 ((without xs its).length) (nc32))], cOwn 9 1 A51 ((without ((inL its lo hi).take (i + 1)) xs).length) (c51) (SS (without ((inL its lo hi).take (i + 1)) xs)), cOwn 9 1 N32 ((without xs its).length) (nc32) (SS (without xs its))] w; exact (fun (w : World) (h : Mm _ _ _ w) => Mm.sub h (.cons_cons _ (.cons_cons _ (.cons_cons _ (.cons_cons _ (.cons_cons _ (.cons_cons _ (.cons_cons _ (.cons_cons _ (.cons_cons _ (.cons_cons _ (.cons _ .slnil)))))))))))) w hM)
      · refine stSkip (qBlock (qThen (reg ?_)))
        refine lv (v := (.int .i64 ((i + 1 : Nat) : Int))) (rAdd _ rfl rfl rfl (by omega) (by omega) (by omega)) ?_
        refine lm ?_
        refine liNil (qThen ?_)
        rw [show without ((inL its lo hi).take i) xs = without ((inL its lo hi).take (i + 1)) xs from by rw [without_no hx0 (by simpa using hc46)]]
        exact stAgain (i + 1, N51, nc51) (by show _ ≤ _; omega) (by show (inL its lo hi).length - (i + 1) < (inL its lo hi).length - i; omega) ⟨rfl, rfl, rfl, rfl, rfl, rfl, rfl, trivial⟩ (fun w hM => by show Mm _ _ [cAt bo 85 [(.slice R ((ps).length) (rc)), (.slice N ((nl).length) (nc)), (.slice O ((ol).length) (oc))], cOwn 76 3 R ((ps).length) (rc) (PS (ps)), cOwn 9 1 N ((nl).length) (nc) (SS (nl)), cOwn 9 1 O ((ol).length) (oc) (SS (ol)), cAt b5 69 [(.string (strOf lo)), (.string (strOf hi))], cAt b6 89 [(.slice A1 (xs.length) (c1))], cSet m14 (xs), cAt b9 92 [(.slice N51 ((without ((inL its lo hi).take (i + 1)) xs).length) (nc51)), (.slice N32 ((without xs its).length) (nc32))], cOwn 9 1 N51 ((without ((inL its lo hi).take (i + 1)) xs).length) (nc51) (SS (without ((inL its lo hi).take (i + 1)) xs)), cOwn 9 1 N32 ((without xs its).length) (nc32) (SS (without xs its))] w; exact hM)
    · have hd40 := of_decide_eq_false hc40
      obtain rfl : i = (inL its lo hi).length := by omega
      rw [List.take_length]
      refine stExit (qThenX (qThenX (qBlockX (qThen (stSeq ?_)))))
      have hw1 := without_len xs its; have hw2 := without_len (inL its lo hi) xs
      refine anyBegin [cAt bo 85 [(.slice R ((ps).length) (rc)), (.slice N ((nl).length) (nc)), (.slice O ((ol).length) (oc))], cOwn 76 3 R ((ps).length) (rc) (PS (ps)), cOwn 9 1 O ((ol).length) (oc) (SS (ol)), cAt b5 69 [(.string (strOf lo)), (.string (strOf hi))], cAt b6 89 [(.slice A1 (xs.length) (c1))], cSet m14 (xs), cAt b9 92 [(.slice N51 ((without (inL its lo hi) xs).length) (nc51)), (.slice N32 ((without xs its).length) (nc32))], cOwn 9 1 N51 ((without (inL its lo hi) xs).length) (nc51) (SS (without (inL its lo hi) xs)), cOwn 9 1 N32 ((without xs its).length) (nc32) (SS (without xs its))] 10 (by kernel_rfl) (fun _ h => h.sub (.cons_cons _ (.cons_cons _ (.cons _ (.cons_cons _ (.cons_cons _ (.cons_cons _ (.cons_cons _ (.cons_cons _ (.cons_cons _ (.cons_cons _ .slnil))))))))))) ?_
      refine am 0 ?_
      refine am 1 ?_
      refine ac 2 (.pointer (some ⟨bo, 0, none⟩)) ?_
      refine ac 3 (.pointer (some ⟨bo, 1, none⟩)) ?_
      refine av 4 (.slice N ((nl).length) (nc)) rfl (rLoad 0 rfl rfl (by kernel_rfl) rfl rfl) ?_
      refine ac 5 (.pointer (some ⟨b9, 1, none⟩)) ?_
      refine av 6 (.slice N32 ((without xs its).length) (nc32)) rfl (rLoad 6 rfl rfl (by kernel_rfl) rfl rfl) ?_
      refine a1 7 ?_
      refine opAppend el_strC 2 (SS (without xs its)) rfl rfl (by kernel_rfl) rfl rfl rfl (by simp) (fun w hM => CellsAt.of_row (rowOwn (i := 9) rfl w hM)) (SS_one) (by omega) ((nl ++ (without xs its)).length) (by first | exact (List.length_append ..).symm | (simp; done) | (simp; omega)) (SS (nl ++ (without xs its))) (by simp [SS]) (fun A61 c61 => ?_)
      refine anyNext [cAt bo 85 [(.slice R ((ps).length) (rc)), (.slice N ((nl).length) (nc)), (.slice O ((ol).length) (oc))], cOwn 76 3 R ((ps).length) (rc) (PS (ps)), cOwn 9 1 O ((ol).length) (oc) (SS (ol)), cAt b5 69 [(.string (strOf lo)), (.string (strOf hi))], cAt b6 89 [(.slice A1 (xs.length) (c1))], cSet m14 (xs), cAt b9 92 [(.slice N51 ((without (inL its lo hi) xs).length) (nc51)), (.slice N32 ((without xs its).length) (nc32))], cOwn 9 1 N51 ((without (inL its lo hi) xs).length) (nc51) (SS (without (inL its lo hi) xs)), cOwn 9 1 N32 ((without xs its).length) (nc32) (SS (without xs its))] (fun _ h => h) (fun _ h => h.sub (.cons_cons _ (.cons_cons _ (.cons _ (.cons_cons _ (.cons_cons _ (.cons_cons _ (.cons_cons _ (.cons_cons _ (.cons_cons _ (.cons_cons _ .slnil))))))))))) ?_
      refine ac 8 (.pointer (some ⟨bo, 0, none⟩)) ?_
      refine ac 9 (.pointer (some ⟨bo, 1, none⟩)) ?_
      refine a1 10 ?_
      refine opStore1 0 rfl rfl (by kernel_rfl) rfl rfl rfl (by kernel_rfl) rfl (by simp) ?_
      refine St.to [cAt bo 85 [(.slice R ((ps).length) (rc)), (.slice A61 ((nl ++ (without xs its)).length) (c61)), (.slice O ((ol).length) (oc))], cOwn 76 3 R ((ps).length) (rc) (PS (ps)), cOwn 9 1 A61 ((nl ++ (without xs its)).length) (c61) (SS (nl ++ (without xs its))), cOwn 9 1 O ((ol).length) (oc) (SS (ol)), cAt b5 69 [(.string (strOf lo)), (.string (strOf hi))], cAt b6 89 [(.slice A1 (xs.length) (c1))], cSet m14 (xs), cAt b9 92 [(.slice N51 ((without (inL its lo hi) xs).length) (nc51)), (.slice N32 ((without xs its).length) (nc32))], cOwn 9 1 N51 ((without (inL its lo hi) xs).length) (nc51) (SS (without (inL its lo hi) xs)), cOwn 9 1 N32 ((without xs its).length) (nc32) (SS (without xs its))] (by kernel_rfl) ?_
      refine anyLast (by kernel_rfl) rfl ?_
      refine qThen (stSeq ?_)
      refine anyBegin [cAt bo 85 [(.slice R ((ps).length) (rc)), (.slice A61 ((nl ++ (without xs its)).length) (c61)), (.slice O ((ol).length) (oc))], cOwn 76 3 R ((ps).length) (rc) (PS (ps)), cOwn 9 1 A61 ((nl ++ (without xs its)).length) (c61) (SS (nl ++ (without xs its))), cAt b5 69 [(.string (strOf lo)), (.string (strOf hi))], cAt b6 89 [(.slice A1 (xs.length) (c1))], cSet m14 (xs), cAt b9 92 [(.slice N51 ((without (inL its lo hi) xs).length) (nc51)), (.slice N32 ((without xs its).length) (nc32))], cOwn 9 1 N51 ((without (inL its lo hi) xs).length) (nc51) (SS (without (inL its lo hi) xs)), cOwn 9 1 N32 ((without xs its).length) (nc32) (SS (without xs its))] 10 (by kernel_rfl) (fun _ h => h.sub (.cons_cons _ (.cons_cons _ (.cons_cons _ (.cons _ (.cons_cons _ (.cons_cons _ (.cons_cons _ (.cons_cons _ (.cons_cons _ (.cons_cons _ .slnil))))))))))) ?_
      refine am 0 ?_
      refine am 1 ?_
      refine ac 2 (.pointer (some ⟨bo, 0, none⟩)) ?_
      refine ac 3 (.pointer (some ⟨bo, 2, none⟩)) ?_
      refine av 4 (.slice O ((ol).length) (oc)) rfl (rLoad 0 rfl rfl (by kernel_rfl) rfl rfl) ?_
      refine ac 5 (.pointer (some ⟨b9, 0, none⟩)) ?_
      refine av 6 (.slice N51 ((without (inL its lo hi) xs).length) (nc51)) rfl (rLoad 6 rfl rfl (by kernel_rfl) rfl rfl) ?_
      refine a1 7 ?_
      refine opAppend el_strC 3 (SS (without (inL its lo hi) xs)) rfl rfl (by kernel_rfl) rfl rfl rfl (by simp) (fun w hM => CellsAt.of_row (rowOwn (i := 8) rfl w hM)) (SS_one) (by omega) ((ol ++ (without (inL its lo hi) xs)).length) (by first | exact (List.length_append ..).symm | (simp; done) | (simp; omega)) (SS (ol ++ (without (inL its lo hi) xs))) (by simp [SS]) (fun A71 c71 => ?_)
      refine anyNext [cAt bo 85 [(.slice R ((ps).length) (rc)), (.slice A61 ((nl ++ (without xs its)).length) (c61)), (.slice O ((ol).length) (oc))], cOwn 76 3 R ((ps).length) (rc) (PS (ps)), cOwn 9 1 A61 ((nl ++ (without xs its)).length) (c61) (SS (nl ++ (without xs its))), cAt b5 69 [(.string (strOf lo)), (.string (strOf hi))], cAt b6 89 [(.slice A1 (xs.length) (c1))], cSet m14 (xs), cAt b9 92 [(.slice N51 ((without (inL its lo hi) xs).length) (nc51)), (.slice N32 ((without xs its).length) (nc32))], cOwn 9 1 N51 ((without (inL its lo hi) xs).length) (nc51) (SS (without (inL its lo hi) xs)), cOwn 9 1 N32 ((without xs its).length) (nc32) (SS (without xs its))] (fun _ h => h) (fun _ h => h.sub (.cons_cons _ (.cons_cons _ (.cons_cons _ (.cons _ (.cons_cons _ (.cons_cons _ (.cons_cons _ (.cons_cons _ (.cons_cons _ (.cons_cons _ .slnil))))))))))) ?_
      refine ac 8 (.pointer (some ⟨bo, 0, none⟩)) ?_
      refine ac 9 (.pointer (some ⟨bo, 2, none⟩)) ?_
      refine a1 10 ?_
      refine opStore1 0 rfl rfl (by kernel_rfl) rfl rfl rfl (by kernel_rfl) rfl (by simp) ?_
      refine St.to [cAt bo 85 [(.slice R ((ps).length) (rc)), (.slice A61 ((nl ++ (without xs its)).length) (c61)), (.slice A71 ((ol ++ (without (inL its lo hi) xs)).length) (c71))], cOwn 76 3 R ((ps).length) (rc) (PS (ps)), cOwn 9 1 A61 ((nl ++ (without xs its)).length) (c61) (SS (nl ++ (without xs its))), cOwn 9 1 A71 ((ol ++ (without (inL its lo hi) xs)).length) (c71) (SS (ol ++ (without (inL its lo hi) xs))), cAt b5 69 [(.string (strOf lo)), (.string (strOf hi))], cAt b6 89 [(.slice A1 (xs.length) (c1))], cSet m14 (xs), cAt b9 92 [(.slice N51 ((without (inL its lo hi) xs).length) (nc51)), (.slice N32 ((without xs its).length) (nc32))], cOwn 9 1 N51 ((without (inL its lo hi) xs).length) (nc51) (SS (without (inL its lo hi) xs)), cOwn 9 1 N32 ((without xs its).length) (nc32) (SS (without xs its))] (by kernel_rfl) ?_
      refine anyLast (by kernel_rfl) rfl ?_
      refine qThen (stSeq (reg ?_))
      refine lc (.pointer (some ⟨b9, 0, none⟩)) ?_
      refine lv (v := (.slice N51 ((without (inL its lo hi) xs).length) (nc51))) (rLoad 7 rfl rfl (by kernel_rfl) rfl rfl) ?_
      refine lc (.int .i64 (((without (inL its lo hi) xs).length : Nat) : Int)) ?_
      refine lc (.pointer (some ⟨b9, 1, none⟩)) ?_
      refine lv (v := (.slice N32 ((without xs its).length) (nc32))) (rLoad 7 rfl rfl (by kernel_rfl) rfl rfl) ?_
      refine lc (.int .i64 (((without xs its).length : Nat) : Int)) ?_
      refine lv (v := (.int .i64 (((without (inL its lo hi) xs).length + (without xs its).length : Nat) : Int))) (rAdd _ rfl rfl rfl (by omega) (by omega) (by omega)) ?_
      refine lc (.bool (decide ((((without (inL its lo hi) xs).length + (without xs its).length : Nat) : Int) > 0))) ?_
      refine liNil (qThen ?_)
      refine stCond rfl (fun hc81 => ?_) (fun hc81 => ?_)
      · have hd81 := of_decide_eq_true hc81
        refine anyBegin [cAt bo 85 [(.slice R ((ps).length) (rc)), (.slice A61 ((nl ++ (without xs its)).length) (c61)), (.slice A71 ((ol ++ (without (inL its lo hi) xs)).length) (c71))], cOwn 9 1 A61 ((nl ++ (without xs its)).length) (c61) (SS (nl ++ (without xs its))), cOwn 9 1 A71 ((ol ++ (without (inL its lo hi) xs)).length) (c71) (SS (ol ++ (without (inL its lo hi) xs))), cAt b5 69 [(.string (strOf lo)), (.string (strOf hi))], cAt b6 89 [(.slice A1 (xs.length) (c1))], cSet m14 (xs), cAt b9 92 [(.slice N51 ((without (inL its lo hi) xs).length) (nc51)), (.slice N32 ((without xs its).length) (nc32))], cOwn 9 1 N51 ((without (inL its lo hi) xs).length) (nc51) (SS (without (inL its lo hi) xs)), cOwn 9 1 N32 ((without xs its).length) (nc32) (SS (without xs its))] 13 (by kernel_rfl) (fun _ h => h.sub (.cons_cons _ (.cons _ (.cons_cons _ (.cons_cons _ (.cons_cons _ (.cons_cons _ (.cons_cons _ (.cons_cons _ (.cons_cons _ (.cons_cons _ .slnil))))))))))) ?_
        refine am 0 ?_
        refine am 1 ?_
        refine ac 2 (.pointer (some ⟨bo, 0, none⟩)) ?_
        refine ac 3 (.pointer (some ⟨bo, 0, none⟩)) ?_
        refine av 4 (.slice R ((ps).length) (rc)) rfl (rLoad 0 rfl rfl (by kernel_rfl) rfl rfl) ?_
        refine av 5 (.agg #[(.string (strOf lo)), (.string (strOf hi))]) rfl (rLoadA [(.string (strOf lo)), (.string (strOf hi))] rfl rfl (by kernel_rfl) (by kernel_rfl) (segAt (i := 3) rfl (by intro j v hj; first | (rw [Nat.zero_add]; exact hj) | (match j, hj with | 0, h => exact h | 1, h => exact h)))) ?_
        refine av 6 (.agg #[(.slice N51 ((without (inL its lo hi) xs).length) (nc51)), (.slice N32 ((without xs its).length) (nc32))]) rfl (rLoadA [(.slice N51 ((without (inL its lo hi) xs).length) (nc51)), (.slice N32 ((without xs its).length) (nc32))] rfl rfl (by kernel_rfl) (by kernel_rfl) (segAt (i := 6) rfl (by intro j v hj; first | (rw [Nat.zero_add]; exact hj) | (match j, hj with | 0, h => exact h | 1, h => exact h)))) ?_
        refine ac 7 (.iface 92 (.agg #[(.slice N51 ((without (inL its lo hi) xs).length) (nc51)), (.slice N32 ((without xs its).length) (nc32))])) ?_
        refine ac 8 (.agg #[(.string (strOf lo)), (.string (strOf hi)), (.iface 92 (.agg #[(.slice N51 ((without (inL its lo hi) xs).length) (nc51)), (.slice N32 ((without xs its).length) (nc32))]))]) ?_
        refine a1 9 ?_
        refine opNew (v := fun b => .slice (some ⟨b, 0, none⟩) 1 1) 76 [(.string (strOf lo)), (.string (strOf hi)), (.iface 92 (.agg #[(.slice N51 ((without (inL its lo hi) xs).length) (nc51)), (.slice N32 ((without xs its).length) (nc32))]))] rfl (by kernel_rfl) (fun _ => by kernel_rfl) (fun b91 => ?_)
        refine St.to [cAt bo 85 [(.slice R ((ps).length) (rc)), (.slice A61 ((nl ++ (without xs its)).length) (c61)), (.slice A71 ((ol ++ (without (inL its lo hi) xs)).length) (c71))], cOwn 76 3 R ((ps).length) (rc) (PS (ps)), cOwn 9 1 A61 ((nl ++ (without xs its)).length) (c61) (SS (nl ++ (without xs its))), cOwn 9 1 A71 ((ol ++ (without (inL its lo hi) xs)).length) (c71) (SS (ol ++ (without (inL its lo hi) xs))), cAt b5 69 [(.string (strOf lo)), (.string (strOf hi))], cAt b6 89 [(.slice A1 (xs.length) (c1))], cSet m14 (xs), cAt b9 92 [(.slice N51 ((without (inL its lo hi) xs).length) (nc51)), (.slice N32 ((without xs its).length) (nc32))], cOwn 9 1 N51 ((without (inL its lo hi) xs).length) (nc51) (SS (without (inL its lo hi) xs)), cOwn 9 1 N32 ((without xs its).length) (nc32) (SS (without xs its)), cAt b91 76 [(.string (strOf lo)), (.string (strOf hi)), (.iface 92 (.agg #[(.slice N51 ((without (inL its lo hi) xs).length) (nc51)), (.slice N32 ((without xs its).length) (nc32))]))]] (by kernel_rfl) ?_
        refine anyNext [cAt bo 85 [(.slice R ((ps).length) (rc)), (.slice A61 ((nl ++ (without xs its)).length) (c61)), (.slice A71 ((ol ++ (without (inL its lo hi) xs)).length) (c71))], cOwn 9 1 A61 ((nl ++ (without xs its)).length) (c61) (SS (nl ++ (without xs its))), cOwn 9 1 A71 ((ol ++ (without (inL its lo hi) xs)).length) (c71) (SS (ol ++ (without (inL its lo hi) xs))), cAt b5 69 [(.string (strOf lo)), (.string (strOf hi))], cAt b6 89 [(.slice A1 (xs.length) (c1))], cSet m14 (xs), cAt b9 92 [(.slice N51 ((without (inL its lo hi) xs).length) (nc51)), (.slice N32 ((without xs its).length) (nc32))], cOwn 9 1 N51 ((without (inL its lo hi) xs).length) (nc51) (SS (without (inL its lo hi) xs)), cOwn 9 1 N32 ((without xs its).length) (nc32) (SS (without xs its)), cAt b91 76 [(.string (strOf lo)), (.string (strOf hi)), (.iface 92 (.agg #[(.slice N51 ((without (inL its lo hi) xs).length) (nc51)), (.slice N32 ((without xs its).length) (nc32))]))]] (fun _ h => h.sub (.cons_cons _ (.cons_cons _ (.cons_cons _ (.cons_cons _ (.cons_cons _ (.cons_cons _ (.cons_cons _ (.cons_cons _ (.cons_cons _ (.cons _ .slnil))))))))))) (fun _ h => h.sub (.cons_cons _ (.cons _ (.cons_cons _ (.cons_cons _ (.cons_cons _ (.cons_cons _ (.cons_cons _ (.cons_cons _ (.cons_cons _ (.cons_cons _ (.cons_cons _ .slnil)))))))))))) ?_
        refine a1 10 ?_
        refine opAppend el_part 1 ([(.string (strOf lo)), (.string (strOf hi)), (.iface 92 (.agg #[(.slice N51 ((without (inL its lo hi) xs).length) (nc51)), (.slice N32 ((without xs its).length) (nc32))]))]) rfl rfl (by kernel_rfl) rfl rfl rfl (rfl) (srcAt (i := 10) rfl (fun j v h => by rw [Nat.zero_add]; exact h)) (by intro u hu; exact PS_one (ps := [PV.mk lo hi (.ans N51 nc51 (without (inL its lo hi) xs) N32 nc32 (without xs its))]) u hu) (by omega) ((ps ++ [PV.mk lo hi (.ans N51 nc51 (without (inL its lo hi) xs) N32 nc32 (without xs its))]).length) (by first | exact (List.length_append ..).symm | (simp; done) | (simp; omega)) (PS (ps ++ [PV.mk lo hi (.ans N51 nc51 (without (inL its lo hi) xs) N32 nc32 (without xs its))])) ((PS_append _ ([PV.mk lo hi (.ans N51 nc51 (without (inL its lo hi) xs) N32 nc32 (without xs its))])).symm) (fun A92 c92 => ?_)
        refine anyNext [cAt bo 85 [(.slice R ((ps).length) (rc)), (.slice A61 ((nl ++ (without xs its)).length) (c61)), (.slice A71 ((ol ++ (without (inL its lo hi) xs)).length) (c71))], cOwn 9 1 A61 ((nl ++ (without xs its)).length) (c61) (SS (nl ++ (without xs its))), cOwn 9 1 A71 ((ol ++ (without (inL its lo hi) xs)).length) (c71) (SS (ol ++ (without (inL its lo hi) xs))), cAt b5 69 [(.string (strOf lo)), (.string (strOf hi))], cAt b6 89 [(.slice A1 (xs.length) (c1))], cSet m14 (xs), cAt b9 92 [(.slice N51 ((without (inL its lo hi) xs).length) (nc51)), (.slice N32 ((without xs its).length) (nc32))], cOwn 9 1 N51 ((without (inL its lo hi) xs).length) (nc51) (SS (without (inL its lo hi) xs)), cOwn 9 1 N32 ((without xs its).length) (nc32) (SS (without xs its)), cAt b91 76 [(.string (strOf lo)), (.string (strOf hi)), (.iface 92 (.agg #[(.slice N51 ((without (inL its lo hi) xs).length) (nc51)), (.slice N32 ((without xs its).length) (nc32))]))]] (fun _ h => h) (fun _ h => h.sub (.cons_cons _ (.cons _ (.cons_cons _ (.cons_cons _ (.cons_cons _ (.cons_cons _ (.cons_cons _ (.cons_cons _ (.cons_cons _ (.cons_cons _ (.cons_cons _ .slnil)))))))))))) ?_
        refine ac 11 (.pointer (some ⟨bo, 0, none⟩)) ?_
        refine ac 12 (.pointer (some ⟨bo, 0, none⟩)) ?_
        refine a1 13 ?_
        refine opStore1 0 rfl rfl (by kernel_rfl) rfl rfl rfl (by kernel_rfl) rfl (by simp) ?_
        refine anyLast (by kernel_rfl) rfl ?_
        refine stEndN [] rfl trivial (fun w hM => ?_)
        replace hM : Mm _ _ [cAt bo 85 [(.slice A92 ((ps ++ [PV.mk lo hi (.ans N51 nc51 (without (inL its lo hi) xs) N32 nc32 (without xs its))]).length) (c92)), (.slice A61 ((nl ++ (without xs its)).length) (c61)), (.slice A71 ((ol ++ (without (inL its lo hi) xs)).length) (c71))], cOwn 76 3 A92 ((ps ++ [PV.mk lo hi (.ans N51 nc51 (without (inL its lo hi) xs) N32 nc32 (without xs its))]).length) (c92) (PS (ps ++ [PV.mk lo hi (.ans N51 nc51 (without (inL its lo hi) xs) N32 nc32 (without xs its))])), cOwn 9 1 A61 ((nl ++ (without xs its)).length) (c61) (SS (nl ++ (without xs its))), cOwn 9 1 A71 ((ol ++ (without (inL its lo hi) xs)).length) (c71) (SS (ol ++ (without (inL its lo hi) xs))), cAt b5 69 [(.string (strOf lo)), (.string (strOf hi))], cAt b6 89 [(.slice A1 (xs.length) (c1))], cSet m14 (xs), cAt b9 92 [(.slice N51 ((without (inL its lo hi) xs).length) (nc51)), (.slice N32 ((without xs its).length) (nc32))], cBag ([(N51, without (inL its lo hi) xs)]), cOwn 9 1 N32 ((without xs its).length) (nc32) (SS (without xs its)), cAt b91 76 [(.string (strOf lo)), (.string (strOf hi)), (.iface 92 (.agg #[(.slice N51 ((without (inL its lo hi) xs).length) (nc51)), (.slice N32 ((without xs its).length) (nc32))]))]] w := hM.toBag 8 rfl
        replace hM : Mm _ _ [cAt bo 85 [(.slice A92 ((ps ++ [PV.mk lo hi (.ans N51 nc51 (without (inL its lo hi) xs) N32 nc32 (without xs its))]).length) (c92)), (.slice A61 ((nl ++ (without xs its)).length) (c61)), (.slice A71 ((ol ++ (without (inL its lo hi) xs)).length) (c71))], cOwn 76 3 A92 ((ps ++ [PV.mk lo hi (.ans N51 nc51 (without (inL its lo hi) xs) N32 nc32 (without xs its))]).length) (c92) (PS (ps ++ [PV.mk lo hi (.ans N51 nc51 (without (inL its lo hi) xs) N32 nc32 (without xs its))])), cOwn 9 1 A61 ((nl ++ (without xs its)).length) (c61) (SS (nl ++ (without xs its))), cOwn 9 1 A71 ((ol ++ (without (inL its lo hi) xs)).length) (c71) (SS (ol ++ (without (inL its lo hi) xs))), cAt b5 69 [(.string (strOf lo)), (.string (strOf hi))], cAt b6 89 [(.slice A1 (xs.length) (c1))], cSet m14 (xs), cAt b9 92 [(.slice N51 ((without (inL its lo hi) xs).length) (nc51)), (.slice N32 ((without xs its).length) (nc32))], cBag ([(N51, without (inL its lo hi) xs)]), cBag ([(N32, without xs its)]), cAt b91 76 [(.string (strOf lo)), (.string (strOf hi)), (.iface 92 (.agg #[(.slice N51 ((without (inL its lo hi) xs).length) (nc51)), (.slice N32 ((without xs its).length) (nc32))]))]] w := hM.toBag 9 rfl
        refine ⟨A92, c92, [PV.mk lo hi (.ans N51 nc51 (without (inL its lo hi) xs) N32 nc32 (without xs its))], A61, c61, A71, c71, [(N51, without (inL its lo hi) xs), (N32, without xs its)], rfl, Mm.join (cs := [_, _, _, _]) (L := [(N51, without (inL its lo hi) xs)]) (M := [(N32, without xs its)]) ?_, ?_, ?_⟩
        · exact (fun (w : World) (h : Mm _ _ _ w) => Mm.sub h (.cons_cons _ (.cons_cons _ (.cons_cons _ (.cons_cons _ (.cons _ (.cons _ (.cons _ (.cons _ (.cons_cons _ (.cons_cons _ (.cons _ .slnil)))))))))))) w hM
        · rw [ansA, if_pos (by have := of_decide_eq_true hc81; omega)]; rfl
        · intro p hp r hr; rw [List.mem_singleton.1 hp] at hr; exact .inl hr
      · have hd81 := of_decide_eq_false hc81
        refine stSkip ?_
        refine stEndN [] rfl trivial (fun w hM => ?_)
        replace hM : Mm _ _ [cAt bo 85 [(.slice R ((ps).length) (rc)), (.slice A61 ((nl ++ (without xs its)).length) (c61)), (.slice A71 ((ol ++ (without (inL its lo hi) xs)).length) (c71))], cOwn 76 3 R ((ps).length) (rc) (PS (ps)), cOwn 9 1 A61 ((nl ++ (without xs its)).length) (c61) (SS (nl ++ (without xs its))), cOwn 9 1 A71 ((ol ++ (without (inL its lo hi) xs)).length) (c71) (SS (ol ++ (without (inL its lo hi) xs))), cAt b5 69 [(.string (strOf lo)), (.string (strOf hi))], cAt b6 89 [(.slice A1 (xs.length) (c1))], cSet m14 (xs), cAt b9 92 [(.slice N51 ((without (inL its lo hi) xs).length) (nc51)), (.slice N32 ((without xs its).length) (nc32))], cBag ([(N51, without (inL its lo hi) xs)]), cOwn 9 1 N32 ((without xs its).length) (nc32) (SS (without xs its))] w := hM.toBag 8 rfl
        replace hM : Mm _ _ [cAt bo 85 [(.slice R ((ps).length) (rc)), (.slice A61 ((nl ++ (without xs its)).length) (c61)), (.slice A71 ((ol ++ (without (inL its lo hi) xs)).length) (c71))], cOwn 76 3 R ((ps).length) (rc) (PS (ps)), cOwn 9 1 A61 ((nl ++ (without xs its)).length) (c61) (SS (nl ++ (without xs its))), cOwn 9 1 A71 ((ol ++ (without (inL its lo hi) xs)).length) (c71) (SS (ol ++ (without (inL its lo hi) xs))), cAt b5 69 [(.string (strOf lo)), (.string (strOf hi))], cAt b6 89 [(.slice A1 (xs.length) (c1))], cSet m14 (xs), cAt b9 92 [(.slice N51 ((without (inL its lo hi) xs).length) (nc51)), (.slice N32 ((without xs its).length) (nc32))], cBag ([(N51, without (inL its lo hi) xs)]), cBag ([(N32, without xs its)])] w := hM.toBag 9 rfl
        refine ⟨R, rc, [], A61, c61, A71, c71, [(N51, without (inL its lo hi) xs), (N32, without xs its)], rfl, Mm.join (cs := [_, _, _, _]) (L := [(N51, without (inL its lo hi) xs)]) (M := [(N32, without xs its)]) ?_, ?_, ?_⟩
        · rw [List.append_nil]; exact (fun (w : World) (h : Mm _ _ _ w) => Mm.sub h (.cons_cons _ (.cons_cons _ (.cons_cons _ (.cons_cons _ (.cons _ (.cons _ (.cons _ (.cons _ (.cons_cons _ (.cons_cons _ .slnil))))))))))) w hM
        · rw [ansA, if_neg (by have := of_decide_eq_false hc81; omega)]; rfl
        · exact SrcOk.nil

end Go.Proofs.YtlepfnihpdhcaaaGreatDoor
