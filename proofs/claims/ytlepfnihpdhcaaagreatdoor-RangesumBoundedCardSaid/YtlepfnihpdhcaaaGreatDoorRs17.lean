/- RangesumBounded. -/
import Derived.Test.YtlepfnihpdhcaaaGreatDoorRs16
import Derived.Test.YtlepfnihpdhcaaaGreatDoorRsTh4
namespace Go.Proofs.YtlepfnihpdhcaaaGreatDoor
open Go.RowKit

set_option maxRecDepth 100000 in
set_option maxHeartbeats 1000000 in
theorem lawBounded_any (A : Option Addr) (c : Nat) (a : List (List UInt8)) (A2 : Option Addr) (c2 : Nat) (b : List (List UInt8)) (fan : Int) (leaf : Int) (w : World) (r0 : Rf [] w (Vars)) (r1 : Rf [] w (fun w => RowIn w A (SS a))) (r2 : Rf [] w (fun w => RowIn w A2 (SS b))) (hla : a.length ≤ 9223372036854775807) (hlb : b.length ≤ 9223372036854775807) (hca : a.length ≤ c) (hcb : b.length ≤ c2) :
    Calls Tryz.prog 7 #[(.slice A (a.length) (c)), (.slice A2 (b.length) (c2)), (.agg #[(.int .i64 fan), (.int .i64 leaf)])] w fun e w' => e = .returned (.bool true) ∧ Back [] w [] w' := by
  refine stEnter (args := [(.slice A (a.length) (c)), (.slice A2 (b.length) (c2)), (.agg #[(.int .i64 fan), (.int .i64 leaf)])]) (fps []) Tryz.func7 rfl 102 rfl [(0, (.slice A (a.length) (c))), (1, (.slice A2 (b.length) (c2))), (2, (.agg #[(.int .i64 fan), (.int .i64 leaf)]))] ⟨rfl, rfl, rfl, trivial⟩ [] (Mm.start w []) ?_
  refine stSeq (reg (li rfl ?_))
  refine opBox [(.int .i64 fan), (.int .i64 leaf)] rfl rfl (by kernel_rfl) rfl rfl (fun b5 => ?_)
  refine la ?_
  refine liNil (qThen (stSeq (stSeq (reg (li rfl ?_)))))
  refine opK0 (fun w hM => (lsAwake_any  w (r0.go0 hM)).mono ?_)
  rintro e w' ⟨rfl, hP⟩
  refine ⟨_, _, rfl, hP, ?_⟩; clear hP hM
  refine lc (.bool false) ?_
  refine liNil (qThen (stFalse rfl (stSkip (qThen (stSeq (stSeq ?_))))))
  refine St.to [cAt b5 24 [(.int .i64 fan), (.int .i64 leaf)]] (by kernel_rfl) ?_
  refine reg ?_
  refine lm ?_
  refine li rfl ?_
  refine opK0 (fun w hM => (lsSet_any A c a w (r1.go0 hM) (by omega)).mono ?_)
  rintro e w' ⟨rfl, hP⟩
  refine ⟨_, _, rfl, hP, ?_⟩; clear hP hM
  refine lc (.bool (!(setB a))) ?_
  refine lm ?_
  refine St.dec 20 rfl (fun hc20 => ?_) (fun hc20 => ?_)
  · refine lnT ?_
    refine lnT ?_
    refine lnT ?_
    refine lc (.bool true) ?_
    refine lm ?_
    refine lnT ?_
    refine lnT ?_
    refine lnT ?_
    refine lc (.bool true) ?_
    refine liNil (qThen (stTrue rfl (stSeq (reg ?_))))
    refine la ?_
    refine liNil (qThen (stRet (qThenR ?_)))
    refine stEnd [(.bool true)] rfl ⟨rfl, trivial⟩ (fun w hM => ?_)
    exact ⟨rfl, (fun (w : World) (h : Mm _ _ _ w) => Mm.sub h (.cons _ .slnil)) w hM⟩
  · refine lgm ?_
    refine liGo rfl rfl ?_
    refine opK0 (fun w hM => (lsSet_any A2 c2 b w (r2.go0 hM) (by omega)).mono ?_)
    rintro e w' ⟨rfl, hP⟩
    refine ⟨_, _, rfl, hP, ?_⟩; clear hP hM
    refine lgc (.bool (!(setB b))) ?_
    refine lc (.bool (!(setB b))) ?_
    refine lm ?_
    refine St.dec 25 rfl (fun hc25 => ?_) (fun hc25 => ?_)
    · refine lnT ?_
      refine lnT ?_
      refine lnT ?_
      refine lc (.bool true) ?_
      refine liNil (qThen (stTrue rfl (stSeq ?_)))
      refine St.to [cAt b5 24 [(.int .i64 fan), (.int .i64 leaf)]] (by kernel_rfl) ?_
      refine reg ?_
      refine la ?_
      refine liNil (qThen (stRet (qThenR ?_)))
      refine stEnd [(.bool true)] rfl ⟨rfl, trivial⟩ (fun w hM => ?_)
      exact ⟨rfl, (fun (w : World) (h : Mm _ _ _ w) => Mm.sub h (.cons _ .slnil)) w hM⟩
    · refine lgv (v := (.agg #[(.int .i64 fan), (.int .i64 leaf)])) (rLoadA [(.int .i64 fan), (.int .i64 leaf)] rfl rfl (by kernel_rfl) (by kernel_rfl) (segAt (i := 0) rfl (by intro j v hj; first | (rw [Nat.zero_add]; exact hj) | (match j, hj with | 0, h => exact h | 1, h => exact h)))) ?_
      refine liGo rfl rfl ?_
      refine opK0 (fun w hM => (rsValid_any fan leaf w ).mono ?_)
      rintro e w' ⟨rfl, hP⟩
      refine ⟨_, _, rfl, hP, ?_⟩; clear hP hM
      refine lgc (.bool (!(okP fan leaf))) ?_
      refine lc (.bool (!(okP fan leaf))) ?_
      refine liNil (qThen ?_)
      refine stCond rfl (fun hc29 => ?_) (fun hc29 => ?_)
      · refine stSeq (reg ?_)
        refine la ?_
        refine liNil (qThen (stRet (qThenR ?_)))
        refine stEnd [(.bool true)] rfl ⟨rfl, trivial⟩ (fun w hM => ?_)
        exact ⟨rfl, (fun (w : World) (h : Mm _ _ _ w) => Mm.sub h (.cons _ .slnil)) w hM⟩
      · obtain ⟨hsa, ha4⟩ := setB_ok (by simpa using hc20)
        obtain ⟨hsb, hb4⟩ := setB_ok (by simpa using hc25)
        have hop : okP fan leaf = true := by simpa using hc29
        obtain ⟨⟨f, rfl⟩, g, rfl⟩ := okP_nat hop
        obtain ⟨hf, hf2, hl1, hl2⟩ := okP_bnds hop
        have hS : Sets a b f g := ⟨hsa, hsb, ha4, hb4, hf, hf2, hl1, hl2⟩
        obtain ⟨K, hK, hK1, hKb, hmK, hmj⟩ := run_ends hS
        have hKl := hK.le
        obtain ⟨hlx, hly⟩ := run_small hS hKl hmK
        have hdl := depthN_pow (fan := f) (leaf := g) hf hl1 6 (max a.length b.length) (by omega)
        refine stSkip (qThen (stSeq (reg ?_)))
        refine lm ?_
        refine lm ?_
        refine lv (v := (.agg #[(.int .i64 ((f : Nat) : Int)), (.int .i64 ((g : Nat) : Int))])) (rLoadA [(.int .i64 ((f : Nat) : Int)), (.int .i64 ((g : Nat) : Int))] rfl rfl (by kernel_rfl) (by kernel_rfl) (segAt (i := 0) rfl (by intro j v hj; first | (rw [Nat.zero_add]; exact hj) | (match j, hj with | 0, h => exact h | 1, h => exact h)))) ?_
        refine li rfl ?_
        refine opK0 (fun w hM => (lsParams_any ((f : Nat) : Int) ((g : Nat) : Int) w ).mono ?_)
        rintro e w' ⟨rfl, hP⟩
        refine ⟨_, _, rfl, hP, ?_⟩; clear hP hM
        refine li rfl ?_
        refine opK0 (fun w hM => (rsRun_ok A c a A2 c2 b f g K w (r0.go0 hM) (r1.go0 hM) (r2.go0 hM) (hop) (by assumption) (by assumption) (by assumption) (by assumption) (by assumption) (by assumption) (by assumption) (by assumption) (by assumption)).mono ?_)
        rintro e w' ⟨B135, cb135, B235, cb235, rfl, hP⟩
        refine ⟨_, _, rfl, hP, ?_⟩; clear hP hM
        refine lm ?_
        refine lc (.slice B135 ((withL [] (runN a b f g 1 K).2).length) (cb135)) ?_
        refine lc (.slice B235 ((withL [] (runN a b f g 1 K).1).length) (cb235)) ?_
        refine lc (.int .i64 ((K : Nat) : Int)) ?_
        refine lc (.int .i64 (((runB a b f g K) : Nat) : Int)) ?_
        refine lc (.int .i64 0) ?_
        refine la ?_
        refine la ?_
        refine la ?_
        refine la ?_
        refine la ?_
        refine liNil (qThen (stSeq ?_))
        refine St.to [cAt b5 24 [(.int .i64 ((f : Nat) : Int)), (.int .i64 ((g : Nat) : Int))], cOwn 9 1 B135 ((withL [] (runN a b f g 1 K).2).length) (cb135) (SS (withL [] (runN a b f g 1 K).2)), cOwn 9 1 B235 ((withL [] (runN a b f g 1 K).1).length) (cb235) (SS (withL [] (runN a b f g 1 K).1))] (by kernel_rfl) ?_
        refine reg ?_
        refine lm ?_
        refine lc (.int .i64 ((a.length : Nat) : Int)) ?_
        refine lm ?_
        refine lc (.int .i64 ((b.length : Nat) : Int)) ?_
        refine lv (v := (.int .i64 (((max a.length b.length) : Nat) : Int))) (rMaxN rfl rfl rfl) ?_
        refine lv (v := (.agg #[(.int .i64 ((f : Nat) : Int)), (.int .i64 ((g : Nat) : Int))])) (rLoadA [(.int .i64 ((f : Nat) : Int)), (.int .i64 ((g : Nat) : Int))] rfl rfl (by kernel_rfl) (by kernel_rfl) (segAt (i := 0) rfl (by intro j v hj; first | (rw [Nat.zero_add]; exact hj) | (match j, hj with | 0, h => exact h | 1, h => exact h)))) ?_
        refine li rfl ?_
        refine opK0 (fun w hM => (lsParams_any ((f : Nat) : Int) ((g : Nat) : Int) w ).mono ?_)
        rintro e w' ⟨rfl, hP⟩
        refine ⟨_, _, rfl, hP, ?_⟩; clear hP hM
        refine li rfl ?_
        refine opK0 (fun w hM => (rsBound_ok (max a.length b.length) f g w (hop) (hf) (hf2) (hl1) (hl2) (by omega)).mono ?_)
        rintro e w' ⟨rfl, hP⟩
        refine ⟨_, _, rfl, hP, ?_⟩; clear hP hM
        refine lm ?_
        refine lc (.int .i64 (((2 * depthN f g (max a.length b.length) + 3) : Nat) : Int)) ?_
        refine lc (.int .i64 0) ?_
        refine la ?_
        refine la ?_
        refine liNil (qThen (stSeq (stSeq ?_)))
        refine St.to [cAt b5 24 [(.int .i64 ((f : Nat) : Int)), (.int .i64 ((g : Nat) : Int))], cOwn 9 1 B135 ((withL [] (runN a b f g 1 K).2).length) (cb135) (SS (withL [] (runN a b f g 1 K).2)), cOwn 9 1 B235 ((withL [] (runN a b f g 1 K).1).length) (cb235) (SS (withL [] (runN a b f g 1 K).1))] (by kernel_rfl) ?_
        refine reg ?_
        refine lm ?_
        refine lc (.bool false) ?_
        refine lm ?_
        refine lgm ?_
        refine lgc (.bool false) ?_
        refine lc (.bool false) ?_
        refine lm ?_
        refine lgm ?_
        refine lgm ?_
        refine lgc (.bool (decide (((K : Nat) : Int) > (((2 * depthN f g (max a.length b.length) + 3) : Nat) : Int)))) ?_
        refine lc (.bool (decide (((K : Nat) : Int) > (((2 * depthN f g (max a.length b.length) + 3) : Nat) : Int)))) ?_
        refine lm ?_
        refine St.known 63 (b' := false) rfl (by first | (simp; done) | (simp; omega)) ?_
        refine lgm ?_
        refine lgc (.bool (decide (((K : Nat) : Int) < 1))) ?_
        refine lc (.bool (decide (((K : Nat) : Int) < 1))) ?_
        refine liNil (qThen ?_)
        refine stFalseK rfl (by first | (simp; done) | (simp; omega)) ?_
        refine stSkip (qThen (stSeq (stSeq (reg ?_))))
        refine lm ?_
        refine lm ?_
        refine li rfl ?_
        refine opK0 (fun w hM => (lsSame_any A c a A2 c2 b w (r1.go0 hM) (r2.go0 hM) (by omega) (by omega)).mono ?_)
        rintro e w' ⟨rfl, hP⟩
        refine ⟨_, _, rfl, hP, ?_⟩; clear hP hM
        refine liNil (qThen ?_)
        refine stCond rfl (fun hc69 => ?_) (fun hc69 => ?_)
        · have hd69 := of_decide_eq_true hc69
          obtain ⟨hK1', hB60⟩ := run_same hS (of_decide_eq_true hc69) hK1 hmj
          refine stSeq (reg ?_)
          refine lm ?_
          refine lc (.bool ((((K : Nat) : Int) : Int) == 1)) ?_
          refine lm ?_
          refine St.known 72 (b' := true) rfl (by rw [hK1']; rfl) ?_
          refine lgm ?_
          refine lgc (.bool (decide ((((runB a b f g K) : Nat) : Int) < 60))) ?_
          refine lc (.bool (decide ((((runB a b f g K) : Nat) : Int) < 60))) ?_
          refine la ?_
          refine liNil (qThen (stRet (qThenR ?_)))
          refine stEnd [(.bool (decide ((((runB a b f g K) : Nat) : Int) < 60)))] rfl ⟨rfl, trivial⟩ (fun w hM => ?_)
          exact ⟨ret_bool (by simp; omega), (fun (w : World) (h : Mm _ _ _ w) => Mm.sub h (.cons _ (.cons _ (.cons _ .slnil)))) w hM⟩
        · have hd69 := of_decide_eq_false hc69
          have hab := of_decide_eq_false hc69
          refine stSkip (qThen (stSeq (reg ?_)))
          refine lm ?_
          refine lc (.int .i64 (((withL [] (runN a b f g 1 K).2).length : Nat) : Int)) ?_
          refine lm ?_
          refine lc (.int .i64 (((withL [] (runN a b f g 1 K).1).length : Nat) : Int)) ?_
          refine lv (v := (.int .i64 ((((withL [] (runN a b f g 1 K).2).length + (withL [] (runN a b f g 1 K).1).length) : Nat) : Int))) (rAdd _ rfl rfl rfl (by omega) (by omega) (by omega)) ?_
          refine la ?_
          refine liNil (qThen (stSeq ?_))
          have hq1 : (2 * depthN f g (max a.length b.length) + 3) * (f * 110 + 10) ≤ 15 * 1770 := Nat.mul_le_mul (by omega) (by omega)
          have hq2 : ((withL [] (runN a b f g 1 K).2).length + (withL [] (runN a b f g 1 K).1).length) * ((2 * depthN f g (max a.length b.length) + 3) * (f * 110 + 10) + g * 40 + 300) ≤ 80 * 29410 := Nat.mul_le_mul (by omega) (by omega)
          refine reg ?_
          refine lm ?_
          refine lm ?_
          refine li rfl ?_
          refine opK0 (fun w hM => (lsColl_any A c a A2 c2 b w (r1.go0 hM) (r2.go0 hM) (by assumption) (by assumption) (by assumption) (by assumption) (by assumption) (by assumption)).mono ?_)
          rintro e w' ⟨r83, rfl, hP, hc83⟩
          refine ⟨_, _, rfl, hP, ?_⟩; clear hP hM
          refine lm ?_
          refine St.dec 84 rfl (fun hc84 => ?_) (fun hc84 => ?_)
          · refine lnT ?_
            refine lnT ?_
            refine lnT ?_
            refine lnT ?_
            refine lnT ?_
            refine lnT ?_
            refine lnT ?_
            refine lnT ?_
            refine lnT ?_
            refine lnT ?_
            refine lnT ?_
            refine lnT ?_
            refine lnT ?_
            refine lnT ?_
            refine lnT ?_
            refine lnT ?_
            refine lc (.bool true) ?_
            refine la ?_
            refine liNil (qThen (stRet ?_))
            refine stEnd [(.bool true)] rfl ⟨rfl, trivial⟩ (fun w hM => ?_)
            exact ⟨rfl, (fun (w : World) (h : Mm _ _ _ w) => Mm.sub h (.cons _ (.cons _ (.cons _ .slnil)))) w hM⟩
          · have hcc : ¬ collP a b := fun h => by rw [hc83 h] at hc84; cases hc84
            obtain ⟨hx1, hx2⟩ := run_exact hS hKl hmK hcc
            have hbl := run_bytes_le hS hK1 hKl hKb hab
            have hdd : (dif a b).length = ((withL [] (runN a b f g 1 K).2).length + (withL [] (runN a b f g 1 K).1).length) := by rw [hx1, hx2]; exact List.length_append
            rw [hdd] at hbl
            refine lgm ?_
            refine lgm ?_
            refine lgm ?_
            refine lgc (.pointer (some ⟨b5, 0, none⟩)) ?_
            refine lgv (v := (.int .i64 ((f : Nat) : Int))) (rLoad 0 rfl rfl (by kernel_rfl) rfl rfl) ?_
            refine lgv (v := (.int .i64 (((f * 110) : Nat) : Int))) (rMul _ rfl rfl rfl (by omega) (by omega) (by omega)) ?_
            refine lgv (v := (.int .i64 (((f * 110 + 10) : Nat) : Int))) (rAdd _ rfl rfl rfl (by omega) (by omega) (by omega)) ?_
            refine lgv (v := (.int .i64 ((((2 * depthN f g (max a.length b.length) + 3) * (f * 110 + 10)) : Nat) : Int))) (rMul _ rfl rfl rfl (by omega) (by omega) (by omega)) ?_
            refine lgc (.pointer (some ⟨b5, 1, none⟩)) ?_
            refine lgv (v := (.int .i64 ((g : Nat) : Int))) (rLoad 0 rfl rfl (by kernel_rfl) rfl rfl) ?_
            refine lgv (v := (.int .i64 (((g * 40) : Nat) : Int))) (rMul _ rfl rfl rfl (by omega) (by omega) (by omega)) ?_
            refine lgv (v := (.int .i64 ((((2 * depthN f g (max a.length b.length) + 3) * (f * 110 + 10) + g * 40) : Nat) : Int))) (rAdd _ rfl rfl rfl (by omega) (by omega) (by omega)) ?_
            refine lgv (v := (.int .i64 ((((2 * depthN f g (max a.length b.length) + 3) * (f * 110 + 10) + g * 40 + 300) : Nat) : Int))) (rAdd _ rfl rfl rfl (by omega) (by omega) (by omega)) ?_
            refine lgv (v := (.int .i64 (((((withL [] (runN a b f g 1 K).2).length + (withL [] (runN a b f g 1 K).1).length) * ((2 * depthN f g (max a.length b.length) + 3) * (f * 110 + 10) + g * 40 + 300)) : Nat) : Int))) (rMul _ rfl rfl rfl (by omega) (by omega) (by omega)) ?_
            refine lgv (v := (.int .i64 (((100 + ((withL [] (runN a b f g 1 K).2).length + (withL [] (runN a b f g 1 K).1).length) * ((2 * depthN f g (max a.length b.length) + 3) * (f * 110 + 10) + g * 40 + 300)) : Nat) : Int))) (rAdd _ rfl rfl rfl (by omega) (by omega) (by omega)) ?_
            refine lgc (.bool (decide ((((runB a b f g K) : Nat) : Int) ≤ (((100 + ((withL [] (runN a b f g 1 K).2).length + (withL [] (runN a b f g 1 K).1).length) * ((2 * depthN f g (max a.length b.length) + 3) * (f * 110 + 10) + g * 40 + 300)) : Nat) : Int)))) ?_
            refine lc (.bool (decide ((((runB a b f g K) : Nat) : Int) ≤ (((100 + ((withL [] (runN a b f g 1 K).2).length + (withL [] (runN a b f g 1 K).1).length) * ((2 * depthN f g (max a.length b.length) + 3) * (f * 110 + 10) + g * 40 + 300)) : Nat) : Int)))) ?_
            refine la ?_
            refine liNil (qThen (stRet ?_))
            refine stEnd [(.bool (decide ((((runB a b f g K) : Nat) : Int) ≤ (((100 + ((withL [] (runN a b f g 1 K).2).length + (withL [] (runN a b f g 1 K).1).length) * ((2 * depthN f g (max a.length b.length) + 3) * (f * 110 + 10) + g * 40 + 300)) : Nat) : Int))))] rfl ⟨rfl, trivial⟩ (fun w hM => ?_)
            exact ⟨ret_bool (decide_eq_true (Int.ofNat_le.2 hbl)), (fun (w : World) (h : Mm _ _ _ w) => Mm.sub h (.cons _ (.cons _ (.cons _ .slnil)))) w hM⟩

end Go.Proofs.YtlepfnihpdhcaaaGreatDoor
