/- RangesumFingerprints. -/
import Derived.Test.YtlepfnihpdhcaaaGreatDoorRs14
namespace Go.Proofs.YtlepfnihpdhcaaaGreatDoor
open Go.RowKit

theorem okP_nat {fan leaf : Int} (h : okP fan leaf = true) : (∃ f : Nat, fan = f) ∧ ∃ g : Nat, leaf = g := by
  unfold okP at h
  simp only [Bool.and_eq_true, decide_eq_true_eq] at h
  exact ⟨⟨fan.toNat, by omega⟩, leaf.toNat, by omega⟩
theorem okP_bnds {f g : Nat} (h : okP (f : Int) (g : Int) = true) : 2 ≤ f ∧ f ≤ 16 ∧ 1 ≤ g ∧ g ≤ 64 := by
  unfold okP at h
  simp only [Bool.and_eq_true, decide_eq_true_eq] at h
  omega
theorem not_large {n : Nat} (h : largeB n = false) : n ≤ 40 ∨ 16384 < n := by
  unfold largeB at h
  simp at h
  omega

set_option maxRecDepth 100000 in
set_option maxHeartbeats 1000000 in
theorem lawFingerprints_any (A : Option Addr) (c : Nat) (l : List (List UInt8)) (fan : Int) (leaf : Int) (n : Int) (w : World) (r0 : Rf [] w (Vars)) (r1 : Rf [] w (fun w => RowIn w A (SS l))) (hl : l.length ≤ 9223372036854775807) :
    Calls Tryz.prog 9 #[(.slice A (l.length) (c)), (.agg #[(.int .i64 fan), (.int .i64 leaf)]), (.int .i64 n)] w fun e w' => e = .returned (.bool true) ∧ Back [] w [] w' := by
  refine stEnter (args := [(.slice A (l.length) (c)), (.agg #[(.int .i64 fan), (.int .i64 leaf)]), (.int .i64 n)]) (fps []) Tryz.func9 rfl 110 rfl [(0, (.slice A (l.length) (c))), (1, (.agg #[(.int .i64 fan), (.int .i64 leaf)])), (2, (.int .i64 n))] ⟨rfl, rfl, rfl, trivial⟩ [] (Mm.start w []) ?_
  refine stSeq (reg (li rfl ?_))
  refine opBox [(.int .i64 fan), (.int .i64 leaf)] rfl rfl (by kernel_rfl) rfl rfl (fun b4 => ?_)
  refine la ?_
  refine liNil (qThen (stSeq (stSeq (reg (li rfl ?_)))))
  refine opK0 (fun w hM => (lsAwake_any  w (r0.go0 hM)).mono ?_)
  rintro e w' ⟨rfl, hP⟩
  refine ⟨_, _, rfl, hP, ?_⟩; clear hP hM
  refine lc (.bool false) ?_
  refine liNil (qThen (stFalse rfl (stSkip (qThen (stSeq (stSeq ?_))))))
  refine St.to [cAt b4 24 [(.int .i64 fan), (.int .i64 leaf)]] (by kernel_rfl) ?_
  refine reg ?_
  refine lm ?_
  refine li rfl ?_
  refine opK0 (fun w hM => (lsLarge_any A c l.length w ).mono ?_)
  rintro e w' ⟨rfl, hP⟩
  refine ⟨_, _, rfl, hP, ?_⟩; clear hP hM
  refine liNil (qThen ?_)
  refine stCond rfl (fun hc17 => ?_) (fun hc17 => ?_)
  · refine stSeq (reg ?_)
    refine la ?_
    refine liNil (qThen (stRet (qThenR ?_)))
    refine stEnd [(.bool true)] rfl ⟨rfl, trivial⟩ (fun w hM => ?_)
    exact ⟨ret_bool (by simp), (fun (w : World) (h : Mm _ _ _ w) => Mm.sub h (.cons _ .slnil)) w hM⟩
  · refine stSkip (qThen (stSeq ?_))
    cases hs0 : (decide (setE l = 0)) with
    | true =>
      have hs := of_decide_eq_true hs0
      have h40 : l.length ≤ 40 := by have h1 := (setE_zero hs).1; have h2 := not_large hc17; omega
      refine reg ?_
      refine lm ?_
      refine li rfl ?_
      refine opK0 (fun w hM => (rsFp_ok A c l w (r0.go0 hM) (r1.go0 hM) (by omega) (hs) (by omega)).mono ?_)
      rintro e w' ⟨rfl, hP⟩
      refine ⟨_, _, rfl, hP, ?_⟩; clear hP hM
      refine lm ?_
      refine lc (.string (strOf (fpB l))) ?_
      refine lc (.int .i64 0) ?_
      refine la ?_
      refine la ?_
      refine liNil (qThen (stSeq ?_))
      cases hop : (okP fan leaf) with
      | true =>
        obtain ⟨⟨f, rfl⟩, g, rfl⟩ := okP_nat hop
        obtain ⟨hf, hf2, hl1, hl2⟩ := okP_bnds hop
        refine St.to [cAt b4 24 [(.int .i64 ((f : Nat) : Int)), (.int .i64 ((g : Nat) : Int))]] (by kernel_rfl) ?_
        refine reg ?_
        refine lm ?_
        refine lv (v := (.agg #[(.int .i64 ((f : Nat) : Int)), (.int .i64 ((g : Nat) : Int))])) (rLoadA [(.int .i64 ((f : Nat) : Int)), (.int .i64 ((g : Nat) : Int))] rfl rfl (by kernel_rfl) (by kernel_rfl) (segAt (i := 0) rfl (by intro j v hj; first | (rw [Nat.zero_add]; exact hj) | (match j, hj with | 0, h => exact h | 1, h => exact h)))) ?_
        refine li rfl ?_
        refine opK0 (fun w hM => (lsParams_any ((f : Nat) : Int) ((g : Nat) : Int) w ).mono ?_)
        rintro e w' ⟨rfl, hP⟩
        refine ⟨_, _, rfl, hP, ?_⟩; clear hP hM
        refine li rfl ?_
        refine opK0 (fun w hM => (rsNew_ok A c l f g w (r1.go0 hM) (by omega) (hop) (hs)).mono ?_)
        rintro e w' ⟨bs27, A227, c227, nm27, om27, rfl, hP⟩
        refine ⟨_, _, rfl, hP, ?_⟩; clear hP hM
        refine lm ?_
        refine lc (.pointer (some ⟨bs27, 0, none⟩)) ?_
        refine lc (.int .i64 0) ?_
        refine la ?_
        refine la ?_
        refine liNil (qThen (stSeq ?_))
        cases hnb : (decide (n < 0 ∨ 16384 < n)) with
        | true =>
          have hnr := of_decide_eq_true hnb
          refine St.to [cAt b4 24 [(.int .i64 ((f : Nat) : Int)), (.int .i64 ((g : Nat) : Int))], cAt bs27 66 [(.slice A227 (l.length) (c227)), (.int .i64 ((f : Nat) : Int)), (.int .i64 ((g : Nat) : Int)), (.map (some nm27)), (.map (some om27))], cOwn 9 1 A227 (l.length) (c227) (SS l), cSet nm27 ([]), cSet om27 ([])] (by kernel_rfl) ?_
          refine reg ?_
          refine lm ?_
          refine lv (v := (.agg #[(.int .i64 ((f : Nat) : Int)), (.int .i64 ((g : Nat) : Int))])) (rLoadA [(.int .i64 ((f : Nat) : Int)), (.int .i64 ((g : Nat) : Int))] rfl rfl (by kernel_rfl) (by kernel_rfl) (segAt (i := 0) rfl (by intro j v hj; first | (rw [Nat.zero_add]; exact hj) | (match j, hj with | 0, h => exact h | 1, h => exact h)))) ?_
          refine li rfl ?_
          refine opK0 (fun w hM => (lsParams_any ((f : Nat) : Int) ((g : Nat) : Int) w ).mono ?_)
          rintro e w' ⟨rfl, hP⟩
          refine ⟨_, _, rfl, hP, ?_⟩; clear hP hM
          refine li rfl ?_
          refine opK0 (fun w hM => (rsBound_bad n ((f : Nat) : Int) ((g : Nat) : Int) w (.inr hnr)).mono ?_)
          rintro e w' ⟨rfl, hP⟩
          refine ⟨_, _, rfl, hP, ?_⟩; clear hP hM
          refine lm ?_
          refine lc (.int .i64 0) ?_
          refine lc (.int .i64 1) ?_
          refine la ?_
          refine la ?_
          refine liNil (qThen (stSeq ?_))
          refine St.to [cAt b4 24 [(.int .i64 ((f : Nat) : Int)), (.int .i64 ((g : Nat) : Int))], cAt bs27 66 [(.slice A227 (l.length) (c227)), (.int .i64 ((f : Nat) : Int)), (.int .i64 ((g : Nat) : Int)), (.map (some nm27)), (.map (some om27))], cOwn 9 1 A227 (l.length) (c227) (SS l), cSet nm27 ([]), cSet om27 ([])] (by kernel_rfl) ?_
          refine reg ?_
          refine lm ?_
          refine li rfl ?_
          refine opK0 (fun w hM => (rsSet_any A c l w (r1.go0 hM) (by omega)).mono ?_)
          rintro e w' ⟨rfl, hP⟩
          refine ⟨_, _, rfl, hP, ?_⟩; clear hP hM
          rw [show setE l = 0 from hs]
          refine la ?_
          refine liNil (qThen (stSeq (stSeq (reg ?_))))
          refine lm ?_
          refine lm ?_
          refine lc (.bool false) ?_
          refine lm ?_
          refine lgm ?_
          refine lgc (.bool true) ?_
          refine lgm ?_
          refine lgm ?_
          refine lgm ?_
          refine liGo rfl rfl ?_
          refine opK0 (fun w hM => (rsRefFp_any A c l w (r1.go0 hM) (by omega) (by have := okSet_flat (setE_zero hs); omega)).mono ?_)
          rintro e w' ⟨rfl, hP⟩
          refine ⟨_, _, rfl, hP, ?_⟩; clear hP hM
          refine lgv (v := (.bool false)) (rConv (rStrNe rfl rfl rfl) (by simp)) ?_
          refine lgc (.bool false) ?_
          refine lc (.bool false) ?_
          refine lm ?_
          refine lgm ?_
          refine lgc (.bool false) ?_
          refine lgm ?_
          refine lnF ?_
          refine lnF ?_
          refine lgc (.bool false) ?_
          refine lc (.bool false) ?_
          refine liNil (qThen (stFalse rfl (stSkip (qThen (stSeq (stSeq ?_))))))
          refine St.to [cAt b4 24 [(.int .i64 ((f : Nat) : Int)), (.int .i64 ((g : Nat) : Int))], cAt bs27 66 [(.slice A227 (l.length) (c227)), (.int .i64 ((f : Nat) : Int)), (.int .i64 ((g : Nat) : Int)), (.map (some nm27)), (.map (some om27))], cOwn 9 1 A227 (l.length) (c227) (SS l), cSet nm27 ([]), cSet om27 ([])] (by kernel_rfl) ?_
          refine reg ?_
          refine lv (v := (.agg #[(.int .i64 ((f : Nat) : Int)), (.int .i64 ((g : Nat) : Int))])) (rLoadA [(.int .i64 ((f : Nat) : Int)), (.int .i64 ((g : Nat) : Int))] rfl rfl (by kernel_rfl) (by kernel_rfl) (segAt (i := 0) rfl (by intro j v hj; first | (rw [Nat.zero_add]; exact hj) | (match j, hj with | 0, h => exact h | 1, h => exact h)))) ?_
          refine li rfl ?_
          refine opK0 (fun w hM => (rsValid_any ((f : Nat) : Int) ((g : Nat) : Int) w ).mono ?_)
          rintro e w' ⟨rfl, hP⟩
          refine ⟨_, _, rfl, hP, ?_⟩; clear hP hM
          rw [hop]
          refine lc (.bool false) ?_
          refine liNil (qThen (stFalse rfl (stSkip (qThen (stSeq (stSeq (reg ?_)))))))
          refine lm ?_
          refine lm ?_
          refine lc (.bool false) ?_
          refine lm ?_
          refine lgm ?_
          refine lgc (.bool true) ?_
          refine lgm ?_
          refine lgc (.bool true) ?_
          refine lgv (v := (.bool false)) (rConv (v := .bool !(true == true)) (rClosed fun _ => by kernel_rfl) (by simp)) ?_
          refine lc (.bool false) ?_
          refine liNil (qThen (stFalse rfl (stSkip (qThen (stSeq (stSeq (reg ?_)))))))
          refine lm ?_
          refine lc (.bool (decide ((n : Int) < 0))) ?_
          refine lm ?_
          refine St.dec 89 rfl (fun hc89 => ?_) (fun hc89 => ?_)
          · have hd89 := of_decide_eq_true hc89
            refine lnT ?_
            refine lnT ?_
            refine lc (.bool true) ?_
            refine liNil (qThen (stTrue rfl (stSeq (reg ?_))))
            refine lm ?_
            refine lc (.bool true) ?_
            refine lm ?_
            refine lgm ?_
            refine lgc (.bool true) ?_
            refine lc (.bool true) ?_
            refine la ?_
            refine liNil (qThen (stRet (qThenR ?_)))
            refine stEnd [(.bool true)] rfl ⟨rfl, trivial⟩ (fun w hM => ?_)
            exact ⟨ret_bool (by simp), (fun (w : World) (h : Mm _ _ _ w) => Mm.sub h (.cons _ (.cons _ (.cons _ (.cons _ (.cons _ .slnil)))))) w hM⟩
          · have hd89 := of_decide_eq_false hc89
            refine lgm ?_
            refine lgc (.bool (decide ((n : Int) > 16384))) ?_
            refine lc (.bool (decide ((n : Int) > 16384))) ?_
            refine liNil (qThen ?_)
            refine stTrueK rfl (by simp at hc89 ⊢; omega) ?_
            refine stSeq (reg ?_)
            refine lm ?_
            refine lc (.bool true) ?_
            refine lm ?_
            refine lgm ?_
            refine lgc (.bool true) ?_
            refine lc (.bool true) ?_
            refine la ?_
            refine liNil (qThen (stRet (qThenR ?_)))
            refine stEnd [(.bool true)] rfl ⟨rfl, trivial⟩ (fun w hM => ?_)
            exact ⟨ret_bool (by simp), (fun (w : World) (h : Mm _ _ _ w) => Mm.sub h (.cons _ (.cons _ (.cons _ (.cons _ (.cons _ .slnil)))))) w hM⟩
        | false =>
          have hnr := of_decide_eq_false hnb
          obtain ⟨m, rfl⟩ : ∃ m : Nat, n = m := ⟨n.toNat, by omega⟩
          have hm : m ≤ 16384 := by omega
          have hdl := depthN_pow (fan := f) (leaf := g) hf hl1 14 m (by omega)
          refine reg ?_
          refine lm ?_
          refine lv (v := (.agg #[(.int .i64 ((f : Nat) : Int)), (.int .i64 ((g : Nat) : Int))])) (rLoadA [(.int .i64 ((f : Nat) : Int)), (.int .i64 ((g : Nat) : Int))] rfl rfl (by kernel_rfl) (by kernel_rfl) (segAt (i := 0) rfl (by intro j v hj; first | (rw [Nat.zero_add]; exact hj) | (match j, hj with | 0, h => exact h | 1, h => exact h)))) ?_
          refine li rfl ?_
          refine opK0 (fun w hM => (lsParams_any ((f : Nat) : Int) ((g : Nat) : Int) w ).mono ?_)
          rintro e w' ⟨rfl, hP⟩
          refine ⟨_, _, rfl, hP, ?_⟩; clear hP hM
          refine li rfl ?_
          refine opK0 (fun w hM => (rsBound_ok m f g w (hop) (hf) (hf2) (hl1) (hl2) (hm)).mono ?_)
          rintro e w' ⟨rfl, hP⟩
          refine ⟨_, _, rfl, hP, ?_⟩; clear hP hM
          refine lm ?_
          refine lc (.int .i64 (((2 * depthN f g m + 3) : Nat) : Int)) ?_
          refine lc (.int .i64 0) ?_
          refine la ?_
          refine la ?_
          refine liNil (qThen (stSeq ?_))
          refine St.to [cAt b4 24 [(.int .i64 ((f : Nat) : Int)), (.int .i64 ((g : Nat) : Int))], cAt bs27 66 [(.slice A227 (l.length) (c227)), (.int .i64 ((f : Nat) : Int)), (.int .i64 ((g : Nat) : Int)), (.map (some nm27)), (.map (some om27))], cOwn 9 1 A227 (l.length) (c227) (SS l), cSet nm27 ([]), cSet om27 ([])] (by kernel_rfl) ?_
          refine reg ?_
          refine lm ?_
          refine li rfl ?_
          refine opK0 (fun w hM => (rsSet_any A c l w (r1.go0 hM) (by omega)).mono ?_)
          rintro e w' ⟨rfl, hP⟩
          refine ⟨_, _, rfl, hP, ?_⟩; clear hP hM
          rw [show setE l = 0 from hs]
          refine la ?_
          refine liNil (qThen (stSeq (stSeq (reg ?_))))
          refine lm ?_
          refine lm ?_
          refine lc (.bool false) ?_
          refine lm ?_
          refine lgm ?_
          refine lgc (.bool true) ?_
          refine lgm ?_
          refine lgm ?_
          refine lgm ?_
          refine liGo rfl rfl ?_
          refine opK0 (fun w hM => (rsRefFp_any A c l w (r1.go0 hM) (by omega) (by have := okSet_flat (setE_zero hs); omega)).mono ?_)
          rintro e w' ⟨rfl, hP⟩
          refine ⟨_, _, rfl, hP, ?_⟩; clear hP hM
          refine lgv (v := (.bool false)) (rConv (rStrNe rfl rfl rfl) (by simp)) ?_
          refine lgc (.bool false) ?_
          refine lc (.bool false) ?_
          refine lm ?_
          refine lgm ?_
          refine lgc (.bool false) ?_
          refine lgm ?_
          refine lnF ?_
          refine lnF ?_
          refine lgc (.bool false) ?_
          refine lc (.bool false) ?_
          refine liNil (qThen (stFalse rfl (stSkip (qThen (stSeq (stSeq ?_))))))
          refine St.to [cAt b4 24 [(.int .i64 ((f : Nat) : Int)), (.int .i64 ((g : Nat) : Int))], cAt bs27 66 [(.slice A227 (l.length) (c227)), (.int .i64 ((f : Nat) : Int)), (.int .i64 ((g : Nat) : Int)), (.map (some nm27)), (.map (some om27))], cOwn 9 1 A227 (l.length) (c227) (SS l), cSet nm27 ([]), cSet om27 ([])] (by kernel_rfl) ?_
          refine reg ?_
          refine lv (v := (.agg #[(.int .i64 ((f : Nat) : Int)), (.int .i64 ((g : Nat) : Int))])) (rLoadA [(.int .i64 ((f : Nat) : Int)), (.int .i64 ((g : Nat) : Int))] rfl rfl (by kernel_rfl) (by kernel_rfl) (segAt (i := 0) rfl (by intro j v hj; first | (rw [Nat.zero_add]; exact hj) | (match j, hj with | 0, h => exact h | 1, h => exact h)))) ?_
          refine li rfl ?_
          refine opK0 (fun w hM => (rsValid_any ((f : Nat) : Int) ((g : Nat) : Int) w ).mono ?_)
          rintro e w' ⟨rfl, hP⟩
          refine ⟨_, _, rfl, hP, ?_⟩; clear hP hM
          rw [hop]
          refine lc (.bool false) ?_
          refine liNil (qThen (stFalse rfl (stSkip (qThen (stSeq (stSeq (reg ?_)))))))
          refine lm ?_
          refine lm ?_
          refine lc (.bool false) ?_
          refine lm ?_
          refine lgm ?_
          refine lgc (.bool true) ?_
          refine lgm ?_
          refine lgc (.bool true) ?_
          refine lgv (v := (.bool false)) (rConv (v := .bool !(true == true)) (rClosed fun _ => by kernel_rfl) (by simp)) ?_
          refine lc (.bool false) ?_
          refine liNil (qThen (stFalse rfl (stSkip (qThen (stSeq (stSeq (reg ?_)))))))
          refine lm ?_
          refine lc (.bool (decide (((m : Nat) : Int) < 0))) ?_
          refine lm ?_
          refine St.known 89 (b' := false) rfl (by first | (simp; done) | (simp; omega)) ?_
          refine lgm ?_
          refine lgc (.bool (decide (((m : Nat) : Int) > 16384))) ?_
          refine lc (.bool (decide (((m : Nat) : Int) > 16384))) ?_
          refine liNil (qThen ?_)
          refine stFalseK rfl (by simp; omega) ?_
          refine stSkip (qThen (stSeq (reg ?_)))
          refine lm ?_
          refine lc (.bool true) ?_
          refine lm ?_
          refine lgm ?_
          refine lgm ?_
          refine lgv (v := (.agg #[(.int .i64 ((f : Nat) : Int)), (.int .i64 ((g : Nat) : Int))])) (rLoadA [(.int .i64 ((f : Nat) : Int)), (.int .i64 ((g : Nat) : Int))] rfl rfl (by kernel_rfl) (by kernel_rfl) (segAt (i := 0) rfl (by intro j v hj; first | (rw [Nat.zero_add]; exact hj) | (match j, hj with | 0, h => exact h | 1, h => exact h)))) ?_
          refine liGo rfl rfl ?_
          refine opK0 (fun w hM => (rsDepth_any m f g w (hf) (hf2) (hl1) (hl2) (hm)).mono ?_)
          rintro e w' ⟨rfl, hP⟩
          refine ⟨_, _, rfl, hP, ?_⟩; clear hP hM
          refine lgv (v := (.int .i64 ((2 * (depthN f g m) : Nat) : Int))) (rMul _ rfl rfl rfl (by omega) (by omega) (by omega)) ?_
          refine lgv (v := (.int .i64 ((2 * (depthN f g m) + 3 : Nat) : Int))) (rAdd _ rfl rfl rfl (by omega) (by omega) (by omega)) ?_
          refine lgc (.bool (((((2 * depthN f g m + 3) : Nat) : Int) : Int) == ((2 * (depthN f g m) + 3 : Nat) : Int))) ?_
          refine lc (.bool (((((2 * depthN f g m + 3) : Nat) : Int) : Int) == ((2 * (depthN f g m) + 3 : Nat) : Int))) ?_
          refine la ?_
          refine liNil (qThen (stRet ?_))
          refine stEnd [(.bool (((((2 * depthN f g m + 3) : Nat) : Int) : Int) == ((2 * (depthN f g m) + 3 : Nat) : Int)))] rfl ⟨rfl, trivial⟩ (fun w hM => ?_)
          exact ⟨ret_bool (by simp), (fun (w : World) (h : Mm _ _ _ w) => Mm.sub h (.cons _ (.cons _ (.cons _ (.cons _ (.cons _ .slnil)))))) w hM⟩
      | false =>
        refine St.to [cAt b4 24 [(.int .i64 fan), (.int .i64 leaf)]] (by kernel_rfl) ?_
        refine reg ?_
        refine lm ?_
        refine lv (v := (.agg #[(.int .i64 fan), (.int .i64 leaf)])) (rLoadA [(.int .i64 fan), (.int .i64 leaf)] rfl rfl (by kernel_rfl) (by kernel_rfl) (segAt (i := 0) rfl (by intro j v hj; first | (rw [Nat.zero_add]; exact hj) | (match j, hj with | 0, h => exact h | 1, h => exact h)))) ?_
        refine li rfl ?_
        refine opK0 (fun w hM => (lsParams_any fan leaf w ).mono ?_)
        rintro e w' ⟨rfl, hP⟩
        refine ⟨_, _, rfl, hP, ?_⟩; clear hP hM
        refine li rfl ?_
        refine opK0 (fun w hM => (rsNew_bad A c l fan leaf w (r1.go0 hM) (by omega) (by rw [newE, if_neg (by rw [hop]; decide)]; decide)).mono ?_)
        rintro e w' ⟨rfl, hP⟩
        refine ⟨_, _, rfl, hP, ?_⟩; clear hP hM
        rw [show newE fan leaf l = 1 from by rw [newE, if_neg (by rw [hop]; decide)]]
        refine lm ?_
        refine lc (.pointer none) ?_
        refine lc (.int .i64 1) ?_
        refine la ?_
        refine la ?_
        refine liNil (qThen (stSeq ?_))
        cases hnb : (decide (n < 0 ∨ 16384 < n)) with
        | true =>
          have hnr := of_decide_eq_true hnb
          refine St.to [cAt b4 24 [(.int .i64 fan), (.int .i64 leaf)]] (by kernel_rfl) ?_
          refine reg ?_
          refine lm ?_
          refine lv (v := (.agg #[(.int .i64 fan), (.int .i64 leaf)])) (rLoadA [(.int .i64 fan), (.int .i64 leaf)] rfl rfl (by kernel_rfl) (by kernel_rfl) (segAt (i := 0) rfl (by intro j v hj; first | (rw [Nat.zero_add]; exact hj) | (match j, hj with | 0, h => exact h | 1, h => exact h)))) ?_
          refine li rfl ?_
          refine opK0 (fun w hM => (lsParams_any fan leaf w ).mono ?_)
          rintro e w' ⟨rfl, hP⟩
          refine ⟨_, _, rfl, hP, ?_⟩; clear hP hM
          refine li rfl ?_
          refine opK0 (fun w hM => (rsBound_bad n fan leaf w (.inl hop)).mono ?_)
          rintro e w' ⟨rfl, hP⟩
          refine ⟨_, _, rfl, hP, ?_⟩; clear hP hM
          refine lm ?_
          refine lc (.int .i64 0) ?_
          refine lc (.int .i64 1) ?_
          refine la ?_
          refine la ?_
          refine liNil (qThen (stSeq ?_))
          refine St.to [cAt b4 24 [(.int .i64 fan), (.int .i64 leaf)]] (by kernel_rfl) ?_
          refine reg ?_
          refine lm ?_
          refine li rfl ?_
          refine opK0 (fun w hM => (rsSet_any A c l w (r1.go0 hM) (by omega)).mono ?_)
          rintro e w' ⟨rfl, hP⟩
          refine ⟨_, _, rfl, hP, ?_⟩; clear hP hM
          rw [show setE l = 0 from hs]
          refine la ?_
          refine liNil (qThen (stSeq (stSeq (reg ?_))))
          refine lm ?_
          refine lm ?_
          refine lc (.bool false) ?_
          refine lm ?_
          refine lgm ?_
          refine lgc (.bool true) ?_
          refine lgm ?_
          refine lgm ?_
          refine lgm ?_
          refine liGo rfl rfl ?_
          refine opK0 (fun w hM => (rsRefFp_any A c l w (r1.go0 hM) (by omega) (by have := okSet_flat (setE_zero hs); omega)).mono ?_)
          rintro e w' ⟨rfl, hP⟩
          refine ⟨_, _, rfl, hP, ?_⟩; clear hP hM
          refine lgv (v := (.bool false)) (rConv (rStrNe rfl rfl rfl) (by simp)) ?_
          refine lgc (.bool false) ?_
          refine lc (.bool false) ?_
          refine lm ?_
          refine lgm ?_
          refine lgc (.bool false) ?_
          refine lgm ?_
          refine lnF ?_
          refine lnF ?_
          refine lgc (.bool false) ?_
          refine lc (.bool false) ?_
          refine liNil (qThen (stFalse rfl (stSkip (qThen (stSeq (stSeq ?_))))))
          refine St.to [cAt b4 24 [(.int .i64 fan), (.int .i64 leaf)]] (by kernel_rfl) ?_
          refine reg ?_
          refine lv (v := (.agg #[(.int .i64 fan), (.int .i64 leaf)])) (rLoadA [(.int .i64 fan), (.int .i64 leaf)] rfl rfl (by kernel_rfl) (by kernel_rfl) (segAt (i := 0) rfl (by intro j v hj; first | (rw [Nat.zero_add]; exact hj) | (match j, hj with | 0, h => exact h | 1, h => exact h)))) ?_
          refine li rfl ?_
          refine opK0 (fun w hM => (rsValid_any fan leaf w ).mono ?_)
          rintro e w' ⟨rfl, hP⟩
          refine ⟨_, _, rfl, hP, ?_⟩; clear hP hM
          rw [hop]
          refine lc (.bool true) ?_
          refine liNil (qThen (stTrue rfl (stSeq (reg ?_))))
          refine lm ?_
          refine lc (.bool true) ?_
          refine lm ?_
          refine lgm ?_
          refine lgc (.bool true) ?_
          refine lc (.bool true) ?_
          refine lm ?_
          refine lgm ?_
          refine lgc (.bool true) ?_
          refine lc (.bool true) ?_
          refine lm ?_
          refine lgm ?_
          refine lgc (.bool true) ?_
          refine lc (.bool true) ?_
          refine la ?_
          refine liNil (qThen (stRet (qThenR ?_)))
          refine stEnd [(.bool true)] rfl ⟨rfl, trivial⟩ (fun w hM => ?_)
          exact ⟨ret_bool (by simp), (fun (w : World) (h : Mm _ _ _ w) => Mm.sub h (.cons _ .slnil)) w hM⟩
        | false =>
          have hnr := of_decide_eq_false hnb
          refine reg ?_
          refine lm ?_
          refine lv (v := (.agg #[(.int .i64 fan), (.int .i64 leaf)])) (rLoadA [(.int .i64 fan), (.int .i64 leaf)] rfl rfl (by kernel_rfl) (by kernel_rfl) (segAt (i := 0) rfl (by intro j v hj; first | (rw [Nat.zero_add]; exact hj) | (match j, hj with | 0, h => exact h | 1, h => exact h)))) ?_
          refine li rfl ?_
          refine opK0 (fun w hM => (lsParams_any fan leaf w ).mono ?_)
          rintro e w' ⟨rfl, hP⟩
          refine ⟨_, _, rfl, hP, ?_⟩; clear hP hM
          refine li rfl ?_
          refine opK0 (fun w hM => (rsBound_bad n fan leaf w (.inl hop)).mono ?_)
          rintro e w' ⟨rfl, hP⟩
          refine ⟨_, _, rfl, hP, ?_⟩; clear hP hM
          refine lm ?_
          refine lc (.int .i64 0) ?_
          refine lc (.int .i64 1) ?_
          refine la ?_
          refine la ?_
          refine liNil (qThen (stSeq ?_))
          refine St.to [cAt b4 24 [(.int .i64 fan), (.int .i64 leaf)]] (by kernel_rfl) ?_
          refine reg ?_
          refine lm ?_
          refine li rfl ?_
          refine opK0 (fun w hM => (rsSet_any A c l w (r1.go0 hM) (by omega)).mono ?_)
          rintro e w' ⟨rfl, hP⟩
          refine ⟨_, _, rfl, hP, ?_⟩; clear hP hM
          rw [show setE l = 0 from hs]
          refine la ?_
          refine liNil (qThen (stSeq (stSeq (reg ?_))))
          refine lm ?_
          refine lm ?_
          refine lc (.bool false) ?_
          refine lm ?_
          refine lgm ?_
          refine lgc (.bool true) ?_
          refine lgm ?_
          refine lgm ?_
          refine lgm ?_
          refine liGo rfl rfl ?_
          refine opK0 (fun w hM => (rsRefFp_any A c l w (r1.go0 hM) (by omega) (by have := okSet_flat (setE_zero hs); omega)).mono ?_)
          rintro e w' ⟨rfl, hP⟩
          refine ⟨_, _, rfl, hP, ?_⟩; clear hP hM
          refine lgv (v := (.bool false)) (rConv (rStrNe rfl rfl rfl) (by simp)) ?_
          refine lgc (.bool false) ?_
          refine lc (.bool false) ?_
          refine lm ?_
          refine lgm ?_
          refine lgc (.bool false) ?_
          refine lgm ?_
          refine lnF ?_
          refine lnF ?_
          refine lgc (.bool false) ?_
          refine lc (.bool false) ?_
          refine liNil (qThen (stFalse rfl (stSkip (qThen (stSeq (stSeq ?_))))))
          refine St.to [cAt b4 24 [(.int .i64 fan), (.int .i64 leaf)]] (by kernel_rfl) ?_
          refine reg ?_
          refine lv (v := (.agg #[(.int .i64 fan), (.int .i64 leaf)])) (rLoadA [(.int .i64 fan), (.int .i64 leaf)] rfl rfl (by kernel_rfl) (by kernel_rfl) (segAt (i := 0) rfl (by intro j v hj; first | (rw [Nat.zero_add]; exact hj) | (match j, hj with | 0, h => exact h | 1, h => exact h)))) ?_
          refine li rfl ?_
          refine opK0 (fun w hM => (rsValid_any fan leaf w ).mono ?_)
          rintro e w' ⟨rfl, hP⟩
          refine ⟨_, _, rfl, hP, ?_⟩; clear hP hM
          rw [hop]
          refine lc (.bool true) ?_
          refine liNil (qThen (stTrue rfl (stSeq (reg ?_))))
          refine lm ?_
          refine lc (.bool true) ?_
          refine lm ?_
          refine lgm ?_
          refine lgc (.bool true) ?_
          refine lc (.bool true) ?_
          refine lm ?_
          refine lgm ?_
          refine lgc (.bool true) ?_
          refine lc (.bool true) ?_
          refine lm ?_
          refine lgm ?_
          refine lgc (.bool true) ?_
          refine lc (.bool true) ?_
          refine la ?_
          refine liNil (qThen (stRet (qThenR ?_)))
          refine stEnd [(.bool true)] rfl ⟨rfl, trivial⟩ (fun w hM => ?_)
          exact ⟨ret_bool (by simp), (fun (w : World) (h : Mm _ _ _ w) => Mm.sub h (.cons _ .slnil)) w hM⟩
    | false =>
      have hs := of_decide_eq_false hs0
      refine reg ?_
      refine lm ?_
      refine li rfl ?_
      refine opK0 (fun w hM => (rsFp_bad A c l w (r1.go0 hM) (by omega) (hs)).mono ?_)
      rintro e w' ⟨rfl, hP⟩
      refine ⟨_, _, rfl, hP, ?_⟩; clear hP hM
      refine lm ?_
      refine lc (.string (strOf [])) ?_
      refine lc (.int .i64 (setE l)) ?_
      refine la ?_
      refine la ?_
      refine liNil (qThen (stSeq ?_))
      cases hop : (okP fan leaf) with
      | true =>
        obtain ⟨⟨f, rfl⟩, g, rfl⟩ := okP_nat hop
        obtain ⟨hf, hf2, hl1, hl2⟩ := okP_bnds hop
        refine St.to [cAt b4 24 [(.int .i64 ((f : Nat) : Int)), (.int .i64 ((g : Nat) : Int))]] (by kernel_rfl) ?_
        refine reg ?_
        refine lm ?_
        refine lv (v := (.agg #[(.int .i64 ((f : Nat) : Int)), (.int .i64 ((g : Nat) : Int))])) (rLoadA [(.int .i64 ((f : Nat) : Int)), (.int .i64 ((g : Nat) : Int))] rfl rfl (by kernel_rfl) (by kernel_rfl) (segAt (i := 0) rfl (by intro j v hj; first | (rw [Nat.zero_add]; exact hj) | (match j, hj with | 0, h => exact h | 1, h => exact h)))) ?_
        refine li rfl ?_
        refine opK0 (fun w hM => (lsParams_any ((f : Nat) : Int) ((g : Nat) : Int) w ).mono ?_)
        rintro e w' ⟨rfl, hP⟩
        refine ⟨_, _, rfl, hP, ?_⟩; clear hP hM
        refine li rfl ?_
        refine opK0 (fun w hM => (rsNew_bad A c l ((f : Nat) : Int) ((g : Nat) : Int) w (r1.go0 hM) (by omega) (by rw [newE, if_pos hop]; exact hs)).mono ?_)
        rintro e w' ⟨rfl, hP⟩
        refine ⟨_, _, rfl, hP, ?_⟩; clear hP hM
        rw [show newE ((f : Nat) : Int) ((g : Nat) : Int) l = setE l from by rw [newE, if_pos hop]]
        refine lm ?_
        refine lc (.pointer none) ?_
        refine lc (.int .i64 (setE l)) ?_
        refine la ?_
        refine la ?_
        refine liNil (qThen (stSeq ?_))
        cases hnb : (decide (n < 0 ∨ 16384 < n)) with
        | true =>
          have hnr := of_decide_eq_true hnb
          refine St.to [cAt b4 24 [(.int .i64 ((f : Nat) : Int)), (.int .i64 ((g : Nat) : Int))]] (by kernel_rfl) ?_
          refine reg ?_
          refine lm ?_
          refine lv (v := (.agg #[(.int .i64 ((f : Nat) : Int)), (.int .i64 ((g : Nat) : Int))])) (rLoadA [(.int .i64 ((f : Nat) : Int)), (.int .i64 ((g : Nat) : Int))] rfl rfl (by kernel_rfl) (by kernel_rfl) (segAt (i := 0) rfl (by intro j v hj; first | (rw [Nat.zero_add]; exact hj) | (match j, hj with | 0, h => exact h | 1, h => exact h)))) ?_
          refine li rfl ?_
          refine opK0 (fun w hM => (lsParams_any ((f : Nat) : Int) ((g : Nat) : Int) w ).mono ?_)
          rintro e w' ⟨rfl, hP⟩
          refine ⟨_, _, rfl, hP, ?_⟩; clear hP hM
          refine li rfl ?_
          refine opK0 (fun w hM => (rsBound_bad n ((f : Nat) : Int) ((g : Nat) : Int) w (.inr hnr)).mono ?_)
          rintro e w' ⟨rfl, hP⟩
          refine ⟨_, _, rfl, hP, ?_⟩; clear hP hM
          refine lm ?_
          refine lc (.int .i64 0) ?_
          refine lc (.int .i64 1) ?_
          refine la ?_
          refine la ?_
          refine liNil (qThen (stSeq ?_))
          refine St.to [cAt b4 24 [(.int .i64 ((f : Nat) : Int)), (.int .i64 ((g : Nat) : Int))]] (by kernel_rfl) ?_
          refine reg ?_
          refine lm ?_
          refine li rfl ?_
          refine opK0 (fun w hM => (rsSet_any A c l w (r1.go0 hM) (by omega)).mono ?_)
          rintro e w' ⟨rfl, hP⟩
          refine ⟨_, _, rfl, hP, ?_⟩; clear hP hM
          refine la ?_
          refine liNil (qThen (stSeq (stSeq (reg ?_))))
          refine lm ?_
          refine lm ?_
          refine lv (v := (.bool false)) (rConv (v := .bool (((setE l) : Int) != (setE l))) (rClosed fun _ => by kernel_rfl) (by simp)) ?_
          refine lm ?_
          refine lgm ?_
          refine lgc (.bool (((setE l) : Int) == 0)) ?_
          refine lgm ?_
          refine St.known 45 (b' := false) rfl (by simp [hs]) ?_
          refine lnF ?_
          refine lnF ?_
          refine lnF ?_
          refine lnF ?_
          refine lgc (.bool false) ?_
          refine lc (.bool false) ?_
          refine lm ?_
          refine lgm ?_
          refine lgc (.bool (((setE l) : Int) != 0)) ?_
          refine lgm ?_
          refine St.known 55 (b' := true) rfl (by simp [hs]) ?_
          refine lgm ?_
          refine lgv (v := (.bool false)) (rConv (rStrNe rfl rfl rfl) (by simp)) ?_
          refine lgc (.bool false) ?_
          refine lc (.bool false) ?_
          refine liNil (qThen (stFalse rfl (stSkip (qThen (stSeq (stSeq (reg ?_)))))))
          refine lv (v := (.agg #[(.int .i64 ((f : Nat) : Int)), (.int .i64 ((g : Nat) : Int))])) (rLoadA [(.int .i64 ((f : Nat) : Int)), (.int .i64 ((g : Nat) : Int))] rfl rfl (by kernel_rfl) (by kernel_rfl) (segAt (i := 0) rfl (by intro j v hj; first | (rw [Nat.zero_add]; exact hj) | (match j, hj with | 0, h => exact h | 1, h => exact h)))) ?_
          refine li rfl ?_
          refine opK0 (fun w hM => (rsValid_any ((f : Nat) : Int) ((g : Nat) : Int) w ).mono ?_)
          rintro e w' ⟨rfl, hP⟩
          refine ⟨_, _, rfl, hP, ?_⟩; clear hP hM
          rw [hop]
          refine lc (.bool false) ?_
          refine liNil (qThen (stFalse rfl (stSkip (qThen (stSeq (stSeq ?_))))))
          refine St.to [cAt b4 24 [(.int .i64 ((f : Nat) : Int)), (.int .i64 ((g : Nat) : Int))]] (by kernel_rfl) ?_
          refine reg ?_
          refine lm ?_
          refine lm ?_
          refine lv (v := (.bool false)) (rConv (v := .bool (((setE l) : Int) != (setE l))) (rClosed fun _ => by kernel_rfl) (by simp)) ?_
          refine lm ?_
          refine lgm ?_
          refine lgc (.bool false) ?_
          refine lgm ?_
          refine lgc (.bool (((setE l) : Int) == 0)) ?_
          refine lgc (.bool !(false == (((setE l) : Int) == 0))) ?_
          refine lc (.bool !(false == (((setE l) : Int) == 0))) ?_
          refine liNil (qThen ?_)
          refine stFalseK rfl (by simp [hs]) ?_
          refine stSkip (qThen (stSeq (stSeq (reg ?_))))
          refine lm ?_
          refine lc (.bool (decide ((n : Int) < 0))) ?_
          refine lm ?_
          refine St.dec 89 rfl (fun hc89 => ?_) (fun hc89 => ?_)
          · have hd89 := of_decide_eq_true hc89
            refine lnT ?_
            refine lnT ?_
            refine lc (.bool true) ?_
            refine liNil (qThen (stTrue rfl (stSeq (reg ?_))))
            refine lm ?_
            refine lc (.bool true) ?_
            refine lm ?_
            refine lgm ?_
            refine lgc (.bool true) ?_
            refine lc (.bool true) ?_
            refine la ?_
            refine liNil (qThen (stRet (qThenR ?_)))
            refine stEnd [(.bool true)] rfl ⟨rfl, trivial⟩ (fun w hM => ?_)
            exact ⟨ret_bool (by simp), (fun (w : World) (h : Mm _ _ _ w) => Mm.sub h (.cons _ .slnil)) w hM⟩
          · have hd89 := of_decide_eq_false hc89
            refine lgm ?_
            refine lgc (.bool (decide ((n : Int) > 16384))) ?_
            refine lc (.bool (decide ((n : Int) > 16384))) ?_
            refine liNil (qThen ?_)
            refine stTrueK rfl (by simp at hc89 ⊢; omega) ?_
            refine stSeq (reg ?_)
            refine lm ?_
            refine lc (.bool true) ?_
            refine lm ?_
            refine lgm ?_
            refine lgc (.bool true) ?_
            refine lc (.bool true) ?_
            refine la ?_
            refine liNil (qThen (stRet (qThenR ?_)))
            refine stEnd [(.bool true)] rfl ⟨rfl, trivial⟩ (fun w hM => ?_)
            exact ⟨ret_bool (by simp), (fun (w : World) (h : Mm _ _ _ w) => Mm.sub h (.cons _ .slnil)) w hM⟩
        | false =>
          have hnr := of_decide_eq_false hnb
          obtain ⟨m, rfl⟩ : ∃ m : Nat, n = m := ⟨n.toNat, by omega⟩
          have hm : m ≤ 16384 := by omega
          have hdl := depthN_pow (fan := f) (leaf := g) hf hl1 14 m (by omega)
          refine reg ?_
          refine lm ?_
          refine lv (v := (.agg #[(.int .i64 ((f : Nat) : Int)), (.int .i64 ((g : Nat) : Int))])) (rLoadA [(.int .i64 ((f : Nat) : Int)), (.int .i64 ((g : Nat) : Int))] rfl rfl (by kernel_rfl) (by kernel_rfl) (segAt (i := 0) rfl (by intro j v hj; first | (rw [Nat.zero_add]; exact hj) | (match j, hj with | 0, h => exact h | 1, h => exact h)))) ?_
          refine li rfl ?_
          refine opK0 (fun w hM => (lsParams_any ((f : Nat) : Int) ((g : Nat) : Int) w ).mono ?_)
          rintro e w' ⟨rfl, hP⟩
          refine ⟨_, _, rfl, hP, ?_⟩; clear hP hM
          refine li rfl ?_
          refine opK0 (fun w hM => (rsBound_ok m f g w (hop) (hf) (hf2) (hl1) (hl2) (hm)).mono ?_)
          rintro e w' ⟨rfl, hP⟩
          refine ⟨_, _, rfl, hP, ?_⟩; clear hP hM
          refine lm ?_
          refine lc (.int .i64 (((2 * depthN f g m + 3) : Nat) : Int)) ?_
          refine lc (.int .i64 0) ?_
          refine la ?_
          refine la ?_
          refine liNil (qThen (stSeq ?_))
          refine St.to [cAt b4 24 [(.int .i64 ((f : Nat) : Int)), (.int .i64 ((g : Nat) : Int))]] (by kernel_rfl) ?_
          refine reg ?_
          refine lm ?_
          refine li rfl ?_
          refine opK0 (fun w hM => (rsSet_any A c l w (r1.go0 hM) (by omega)).mono ?_)
          rintro e w' ⟨rfl, hP⟩
          refine ⟨_, _, rfl, hP, ?_⟩; clear hP hM
          refine la ?_
          refine liNil (qThen (stSeq (stSeq (reg ?_))))
          refine lm ?_
          refine lm ?_
          refine lv (v := (.bool false)) (rConv (v := .bool (((setE l) : Int) != (setE l))) (rClosed fun _ => by kernel_rfl) (by simp)) ?_
          refine lm ?_
          refine lgm ?_
          refine lgc (.bool (((setE l) : Int) == 0)) ?_
          refine lgm ?_
          refine St.known 45 (b' := false) rfl (by simp [hs]) ?_
          refine lnF ?_
          refine lnF ?_
          refine lnF ?_
          refine lnF ?_
          refine lgc (.bool false) ?_
          refine lc (.bool false) ?_
          refine lm ?_
          refine lgm ?_
          refine lgc (.bool (((setE l) : Int) != 0)) ?_
          refine lgm ?_
          refine St.known 55 (b' := true) rfl (by simp [hs]) ?_
          refine lgm ?_
          refine lgv (v := (.bool false)) (rConv (rStrNe rfl rfl rfl) (by simp)) ?_
          refine lgc (.bool false) ?_
          refine lc (.bool false) ?_
          refine liNil (qThen (stFalse rfl (stSkip (qThen (stSeq (stSeq (reg ?_)))))))
          refine lv (v := (.agg #[(.int .i64 ((f : Nat) : Int)), (.int .i64 ((g : Nat) : Int))])) (rLoadA [(.int .i64 ((f : Nat) : Int)), (.int .i64 ((g : Nat) : Int))] rfl rfl (by kernel_rfl) (by kernel_rfl) (segAt (i := 0) rfl (by intro j v hj; first | (rw [Nat.zero_add]; exact hj) | (match j, hj with | 0, h => exact h | 1, h => exact h)))) ?_
          refine li rfl ?_
          refine opK0 (fun w hM => (rsValid_any ((f : Nat) : Int) ((g : Nat) : Int) w ).mono ?_)
          rintro e w' ⟨rfl, hP⟩
          refine ⟨_, _, rfl, hP, ?_⟩; clear hP hM
          rw [hop]
          refine lc (.bool false) ?_
          refine liNil (qThen (stFalse rfl (stSkip (qThen (stSeq (stSeq ?_))))))
          refine St.to [cAt b4 24 [(.int .i64 ((f : Nat) : Int)), (.int .i64 ((g : Nat) : Int))]] (by kernel_rfl) ?_
          refine reg ?_
          refine lm ?_
          refine lm ?_
          refine lv (v := (.bool false)) (rConv (v := .bool (((setE l) : Int) != (setE l))) (rClosed fun _ => by kernel_rfl) (by simp)) ?_
          refine lm ?_
          refine lgm ?_
          refine lgc (.bool false) ?_
          refine lgm ?_
          refine lgc (.bool (((setE l) : Int) == 0)) ?_
          refine lgc (.bool !(false == (((setE l) : Int) == 0))) ?_
          refine lc (.bool !(false == (((setE l) : Int) == 0))) ?_
          refine liNil (qThen ?_)
          refine stFalseK rfl (by simp [hs]) ?_
          refine stSkip (qThen (stSeq (stSeq (reg ?_))))
          refine lm ?_
          refine lc (.bool (decide (((m : Nat) : Int) < 0))) ?_
          refine lm ?_
          refine St.known 89 (b' := false) rfl (by first | (simp; done) | (simp; omega)) ?_
          refine lgm ?_
          refine lgc (.bool (decide (((m : Nat) : Int) > 16384))) ?_
          refine lc (.bool (decide (((m : Nat) : Int) > 16384))) ?_
          refine liNil (qThen ?_)
          refine stFalseK rfl (by simp; omega) ?_
          refine stSkip (qThen (stSeq (reg ?_)))
          refine lm ?_
          refine lc (.bool true) ?_
          refine lm ?_
          refine lgm ?_
          refine lgm ?_
          refine lgv (v := (.agg #[(.int .i64 ((f : Nat) : Int)), (.int .i64 ((g : Nat) : Int))])) (rLoadA [(.int .i64 ((f : Nat) : Int)), (.int .i64 ((g : Nat) : Int))] rfl rfl (by kernel_rfl) (by kernel_rfl) (segAt (i := 0) rfl (by intro j v hj; first | (rw [Nat.zero_add]; exact hj) | (match j, hj with | 0, h => exact h | 1, h => exact h)))) ?_
          refine liGo rfl rfl ?_
          refine opK0 (fun w hM => (rsDepth_any m f g w (hf) (hf2) (hl1) (hl2) (hm)).mono ?_)
          rintro e w' ⟨rfl, hP⟩
          refine ⟨_, _, rfl, hP, ?_⟩; clear hP hM
          refine lgv (v := (.int .i64 ((2 * (depthN f g m) : Nat) : Int))) (rMul _ rfl rfl rfl (by omega) (by omega) (by omega)) ?_
          refine lgv (v := (.int .i64 ((2 * (depthN f g m) + 3 : Nat) : Int))) (rAdd _ rfl rfl rfl (by omega) (by omega) (by omega)) ?_
          refine lgc (.bool (((((2 * depthN f g m + 3) : Nat) : Int) : Int) == ((2 * (depthN f g m) + 3 : Nat) : Int))) ?_
          refine lc (.bool (((((2 * depthN f g m + 3) : Nat) : Int) : Int) == ((2 * (depthN f g m) + 3 : Nat) : Int))) ?_
          refine la ?_
          refine liNil (qThen (stRet ?_))
          refine stEnd [(.bool (((((2 * depthN f g m + 3) : Nat) : Int) : Int) == ((2 * (depthN f g m) + 3 : Nat) : Int)))] rfl ⟨rfl, trivial⟩ (fun w hM => ?_)
          exact ⟨ret_bool (by simp), (fun (w : World) (h : Mm _ _ _ w) => Mm.sub h (.cons _ .slnil)) w hM⟩
      | false =>
        refine reg ?_
        refine lm ?_
        refine lv (v := (.agg #[(.int .i64 fan), (.int .i64 leaf)])) (rLoadA [(.int .i64 fan), (.int .i64 leaf)] rfl rfl (by kernel_rfl) (by kernel_rfl) (segAt (i := 0) rfl (by intro j v hj; first | (rw [Nat.zero_add]; exact hj) | (match j, hj with | 0, h => exact h | 1, h => exact h)))) ?_
        refine li rfl ?_
        refine opK0 (fun w hM => (lsParams_any fan leaf w ).mono ?_)
        rintro e w' ⟨rfl, hP⟩
        refine ⟨_, _, rfl, hP, ?_⟩; clear hP hM
        refine li rfl ?_
        refine opK0 (fun w hM => (rsNew_bad A c l fan leaf w (r1.go0 hM) (by omega) (by rw [newE, if_neg (by rw [hop]; decide)]; decide)).mono ?_)
        rintro e w' ⟨rfl, hP⟩
        refine ⟨_, _, rfl, hP, ?_⟩; clear hP hM
        rw [show newE fan leaf l = 1 from by rw [newE, if_neg (by rw [hop]; decide)]]
        refine lm ?_
        refine lc (.pointer none) ?_
        refine lc (.int .i64 1) ?_
        refine la ?_
        refine la ?_
        refine liNil (qThen (stSeq ?_))
        cases hnb : (decide (n < 0 ∨ 16384 < n)) with
        | true =>
          have hnr := of_decide_eq_true hnb
          refine St.to [cAt b4 24 [(.int .i64 fan), (.int .i64 leaf)]] (by kernel_rfl) ?_
          refine reg ?_
          refine lm ?_
          refine lv (v := (.agg #[(.int .i64 fan), (.int .i64 leaf)])) (rLoadA [(.int .i64 fan), (.int .i64 leaf)] rfl rfl (by kernel_rfl) (by kernel_rfl) (segAt (i := 0) rfl (by intro j v hj; first | (rw [Nat.zero_add]; exact hj) | (match j, hj with | 0, h => exact h | 1, h => exact h)))) ?_
          refine li rfl ?_
          refine opK0 (fun w hM => (lsParams_any fan leaf w ).mono ?_)
          rintro e w' ⟨rfl, hP⟩
          refine ⟨_, _, rfl, hP, ?_⟩; clear hP hM
          refine li rfl ?_
          refine opK0 (fun w hM => (rsBound_bad n fan leaf w (.inl hop)).mono ?_)
          rintro e w' ⟨rfl, hP⟩
          refine ⟨_, _, rfl, hP, ?_⟩; clear hP hM
          refine lm ?_
          refine lc (.int .i64 0) ?_
          refine lc (.int .i64 1) ?_
          refine la ?_
          refine la ?_
          refine liNil (qThen (stSeq ?_))
          refine St.to [cAt b4 24 [(.int .i64 fan), (.int .i64 leaf)]] (by kernel_rfl) ?_
          refine reg ?_
          refine lm ?_
          refine li rfl ?_
          refine opK0 (fun w hM => (rsSet_any A c l w (r1.go0 hM) (by omega)).mono ?_)
          rintro e w' ⟨rfl, hP⟩
          refine ⟨_, _, rfl, hP, ?_⟩; clear hP hM
          refine la ?_
          refine liNil (qThen (stSeq (stSeq (reg ?_))))
          refine lm ?_
          refine lm ?_
          refine lv (v := (.bool false)) (rConv (v := .bool (((setE l) : Int) != (setE l))) (rClosed fun _ => by kernel_rfl) (by simp)) ?_
          refine lm ?_
          refine lgm ?_
          refine lgc (.bool (((setE l) : Int) == 0)) ?_
          refine lgm ?_
          refine St.known 45 (b' := false) rfl (by simp [hs]) ?_
          refine lnF ?_
          refine lnF ?_
          refine lnF ?_
          refine lnF ?_
          refine lgc (.bool false) ?_
          refine lc (.bool false) ?_
          refine lm ?_
          refine lgm ?_
          refine lgc (.bool (((setE l) : Int) != 0)) ?_
          refine lgm ?_
          refine St.known 55 (b' := true) rfl (by simp [hs]) ?_
          refine lgm ?_
          refine lgv (v := (.bool false)) (rConv (rStrNe rfl rfl rfl) (by simp)) ?_
          refine lgc (.bool false) ?_
          refine lc (.bool false) ?_
          refine liNil (qThen (stFalse rfl (stSkip (qThen (stSeq (stSeq (reg ?_)))))))
          refine lv (v := (.agg #[(.int .i64 fan), (.int .i64 leaf)])) (rLoadA [(.int .i64 fan), (.int .i64 leaf)] rfl rfl (by kernel_rfl) (by kernel_rfl) (segAt (i := 0) rfl (by intro j v hj; first | (rw [Nat.zero_add]; exact hj) | (match j, hj with | 0, h => exact h | 1, h => exact h)))) ?_
          refine li rfl ?_
          refine opK0 (fun w hM => (rsValid_any fan leaf w ).mono ?_)
          rintro e w' ⟨rfl, hP⟩
          refine ⟨_, _, rfl, hP, ?_⟩; clear hP hM
          rw [hop]
          refine lc (.bool true) ?_
          refine liNil (qThen (stTrue rfl (stSeq ?_)))
          refine St.to [cAt b4 24 [(.int .i64 fan), (.int .i64 leaf)]] (by kernel_rfl) ?_
          refine reg ?_
          refine lm ?_
          refine lc (.bool true) ?_
          refine lm ?_
          refine lgm ?_
          refine lgc (.bool true) ?_
          refine lc (.bool true) ?_
          refine lm ?_
          refine lgm ?_
          refine lgc (.bool true) ?_
          refine lc (.bool true) ?_
          refine lm ?_
          refine lgm ?_
          refine lgc (.bool true) ?_
          refine lc (.bool true) ?_
          refine la ?_
          refine liNil (qThen (stRet (qThenR ?_)))
          refine stEnd [(.bool true)] rfl ⟨rfl, trivial⟩ (fun w hM => ?_)
          exact ⟨ret_bool (by simp), (fun (w : World) (h : Mm _ _ _ w) => Mm.sub h (.cons _ .slnil)) w hM⟩
        | false =>
          have hnr := of_decide_eq_false hnb
          refine reg ?_
          refine lm ?_
          refine lv (v := (.agg #[(.int .i64 fan), (.int .i64 leaf)])) (rLoadA [(.int .i64 fan), (.int .i64 leaf)] rfl rfl (by kernel_rfl) (by kernel_rfl) (segAt (i := 0) rfl (by intro j v hj; first | (rw [Nat.zero_add]; exact hj) | (match j, hj with | 0, h => exact h | 1, h => exact h)))) ?_
          refine li rfl ?_
          refine opK0 (fun w hM => (lsParams_any fan leaf w ).mono ?_)
          rintro e w' ⟨rfl, hP⟩
          refine ⟨_, _, rfl, hP, ?_⟩; clear hP hM
          refine li rfl ?_
          refine opK0 (fun w hM => (rsBound_bad n fan leaf w (.inl hop)).mono ?_)
          rintro e w' ⟨rfl, hP⟩
          refine ⟨_, _, rfl, hP, ?_⟩; clear hP hM
          refine lm ?_
          refine lc (.int .i64 0) ?_
          refine lc (.int .i64 1) ?_
          refine la ?_
          refine la ?_
          refine liNil (qThen (stSeq ?_))
          refine St.to [cAt b4 24 [(.int .i64 fan), (.int .i64 leaf)]] (by kernel_rfl) ?_
          refine reg ?_
          refine lm ?_
          refine li rfl ?_
          refine opK0 (fun w hM => (rsSet_any A c l w (r1.go0 hM) (by omega)).mono ?_)
          rintro e w' ⟨rfl, hP⟩
          refine ⟨_, _, rfl, hP, ?_⟩; clear hP hM
          refine la ?_
          refine liNil (qThen (stSeq (stSeq (reg ?_))))
          refine lm ?_
          refine lm ?_
          refine lv (v := (.bool false)) (rConv (v := .bool (((setE l) : Int) != (setE l))) (rClosed fun _ => by kernel_rfl) (by simp)) ?_
          refine lm ?_
          refine lgm ?_
          refine lgc (.bool (((setE l) : Int) == 0)) ?_
          refine lgm ?_
          refine St.known 45 (b' := false) rfl (by simp [hs]) ?_
          refine lnF ?_
          refine lnF ?_
          refine lnF ?_
          refine lnF ?_
          refine lgc (.bool false) ?_
          refine lc (.bool false) ?_
          refine lm ?_
          refine lgm ?_
          refine lgc (.bool (((setE l) : Int) != 0)) ?_
          refine lgm ?_
          refine St.known 55 (b' := true) rfl (by simp [hs]) ?_
          refine lgm ?_
          refine lgv (v := (.bool false)) (rConv (rStrNe rfl rfl rfl) (by simp)) ?_
          refine lgc (.bool false) ?_
          refine lc (.bool false) ?_
          refine liNil (qThen (stFalse rfl (stSkip (qThen (stSeq (stSeq (reg ?_)))))))
          refine lv (v := (.agg #[(.int .i64 fan), (.int .i64 leaf)])) (rLoadA [(.int .i64 fan), (.int .i64 leaf)] rfl rfl (by kernel_rfl) (by kernel_rfl) (segAt (i := 0) rfl (by intro j v hj; first | (rw [Nat.zero_add]; exact hj) | (match j, hj with | 0, h => exact h | 1, h => exact h)))) ?_
          refine li rfl ?_
          refine opK0 (fun w hM => (rsValid_any fan leaf w ).mono ?_)
          rintro e w' ⟨rfl, hP⟩
          refine ⟨_, _, rfl, hP, ?_⟩; clear hP hM
          rw [hop]
          refine lc (.bool true) ?_
          refine liNil (qThen (stTrue rfl (stSeq ?_)))
          refine St.to [cAt b4 24 [(.int .i64 fan), (.int .i64 leaf)]] (by kernel_rfl) ?_
          refine reg ?_
          refine lm ?_
          refine lc (.bool true) ?_
          refine lm ?_
          refine lgm ?_
          refine lgc (.bool true) ?_
          refine lc (.bool true) ?_
          refine lm ?_
          refine lgm ?_
          refine lgc (.bool true) ?_
          refine lc (.bool true) ?_
          refine lm ?_
          refine lgm ?_
          refine lgc (.bool true) ?_
          refine lc (.bool true) ?_
          refine la ?_
          refine liNil (qThen (stRet (qThenR ?_)))
          refine stEnd [(.bool true)] rfl ⟨rfl, trivial⟩ (fun w hM => ?_)
          exact ⟨ret_bool (by simp), (fun (w : World) (h : Mm _ _ _ w) => Mm.sub h (.cons _ .slnil)) w hM⟩

end Go.Proofs.YtlepfnihpdhcaaaGreatDoor
