/- RangesumStands. -/
import Derived.Test.YtlepfnihpdhcaaaGreatDoorRs14
import Derived.Test.YtlepfnihpdhcaaaGreatDoorRsTh5
import Derived.Test.YtlepfnihpdhcaaaGreatDoorRsMs
namespace Go.Proofs.YtlepfnihpdhcaaaGreatDoor
open Go.RowKit

set_option maxRecDepth 100000 in
set_option maxHeartbeats 1000000 in
theorem lawStands_any (A : Option Addr) (c : Nat) (l : List (List UInt8)) (fan : Int) (leaf : Int) (AM : Option Addr) (cm : Nat) (ms : List (Option Addr × Nat × List UInt8)) (w : World) (r0 : Rf [] w (Vars)) (r1 : Rf [] w (fun w => RowIn w A (SS l))) (r2 : Rf [] w (fun w => RowIn w AM (MS ms))) (r3 : Rf [] w (MsRows ms)) (hl : l.length ≤ 9223372036854775807) (hlm : ms.length ≤ 9223372036854775807) :
    Calls Tryz.prog 8 #[(.slice A (l.length) (c)), (.agg #[(.int .i64 fan), (.int .i64 leaf)]), (.slice AM (ms.length) (cm))] w fun e w' => e = .returned (.bool true) ∧ Back [] w [] w' := by
  refine stEnter (args := [(.slice A (l.length) (c)), (.agg #[(.int .i64 fan), (.int .i64 leaf)]), (.slice AM (ms.length) (cm))]) (fps []) Tryz.func8 rfl 136 rfl [(0, (.slice A (l.length) (c))), (1, (.agg #[(.int .i64 fan), (.int .i64 leaf)])), (2, (.slice AM (ms.length) (cm)))] ⟨rfl, rfl, rfl, trivial⟩ [] (Mm.start w []) ?_
  refine stSeq (reg (li rfl ?_))
  refine opBox [(.int .i64 fan), (.int .i64 leaf)] rfl rfl (by kernel_rfl) rfl rfl (fun b4 => ?_)
  refine la ?_
  refine liNil (qThen (stSeq (stSeq (reg (li rfl ?_)))))
  refine opK0 (fun w hM => (lsAwake_any  w (r0.go0 hM)).mono ?_)
  rintro e w' ⟨rfl, hP⟩
  refine ⟨_, _, rfl, hP, ?_⟩; clear hP hM
  refine lc (.bool false) ?_
  refine liNil (qThen (stFalse rfl (stSkip (qThen (stSeq (stSeq ?_))))))
  refine St.to [cAt b4 24 [(.int .i64 fan), (.int .i64 leaf)]] (by kernel_rfl) ?_
  refine reg ?_
  refine lm ?_
  refine li rfl ?_
  refine opK0 (fun w hM => (lsSet_any A c l w (r1.go0 hM) (by omega)).mono ?_)
  rintro e w' ⟨rfl, hP⟩
  refine ⟨_, _, rfl, hP, ?_⟩; clear hP hM
  refine lc (.bool (!(setB l))) ?_
  refine lm ?_
  refine St.dec 24 rfl (fun hc24 => ?_) (fun hc24 => ?_)
  · refine lnT ?_
    refine lnT ?_
    refine lnT ?_
    refine lc (.bool true) ?_
    refine lm ?_
    refine lnT ?_
    refine lnT ?_
    refine lnT ?_
    refine lc (.bool true) ?_
    refine liNil (qThen (stTrue rfl (stSeq (reg ?_))))
    refine la ?_
    refine liNil (qThen (stRet (qThenR ?_)))
    refine stEnd [(.bool true)] rfl ⟨rfl, trivial⟩ (fun w hM => ?_)
    exact ⟨rfl, (fun (w : World) (h : Mm _ _ _ w) => Mm.sub h (.cons _ .slnil)) w hM⟩
  · refine lgv (v := (.agg #[(.int .i64 fan), (.int .i64 leaf)])) (rLoadA [(.int .i64 fan), (.int .i64 leaf)] rfl rfl (by kernel_rfl) (by kernel_rfl) (segAt (i := 0) rfl (by intro j v hj; first | (rw [Nat.zero_add]; exact hj) | (match j, hj with | 0, h => exact h | 1, h => exact h)))) ?_
    refine liGo rfl rfl ?_
    refine opK0 (fun w hM => (rsValid_any fan leaf w ).mono ?_)
    rintro e w' ⟨rfl, hP⟩
    refine ⟨_, _, rfl, hP, ?_⟩; clear hP hM
    refine lgc (.bool (!(okP fan leaf))) ?_
    refine lc (.bool (!(okP fan leaf))) ?_
    refine lm ?_
    refine St.dec 29 rfl (fun hc29 => ?_) (fun hc29 => ?_)
    · refine lnT ?_
      refine lnT ?_
      refine lnT ?_
      refine lc (.bool true) ?_
      refine liNil (qThen (stTrue rfl (stSeq ?_)))
      refine St.to [cAt b4 24 [(.int .i64 fan), (.int .i64 leaf)]] (by kernel_rfl) ?_
      refine reg ?_
      refine la ?_
      refine liNil (qThen (stRet (qThenR ?_)))
      refine stEnd [(.bool true)] rfl ⟨rfl, trivial⟩ (fun w hM => ?_)
      exact ⟨rfl, (fun (w : World) (h : Mm _ _ _ w) => Mm.sub h (.cons _ .slnil)) w hM⟩
    · refine lgm ?_
      refine lgc (.int .i64 ((ms.length : Nat) : Int)) ?_
      refine lgc (.bool (decide (((ms.length : Nat) : Int) > 4))) ?_
      refine lc (.bool (decide (((ms.length : Nat) : Int) > 4))) ?_
      refine liNil (qThen ?_)
      refine stCond rfl (fun hc33 => ?_) (fun hc33 => ?_)
      · have hd33 := of_decide_eq_true hc33
        refine stSeq (reg ?_)
        refine la ?_
        refine liNil (qThen (stRet (qThenR ?_)))
        refine stEnd [(.bool true)] rfl ⟨rfl, trivial⟩ (fun w hM => ?_)
        exact ⟨rfl, (fun (w : World) (h : Mm _ _ _ w) => Mm.sub h (.cons _ .slnil)) w hM⟩
      · have hd33 := of_decide_eq_false hc33
        obtain ⟨hs, h40⟩ := setB_ok (by simpa using hc24)
        have hop : okP fan leaf = true := by simpa using hc29
        obtain ⟨⟨f, rfl⟩, g, rfl⟩ := okP_nat hop
        obtain ⟨hf, hf2, hl1, hl2⟩ := okP_bnds hop
        have hm4 : ms.length ≤ 4 := by omega
        have hse : setE l = 0 := setE_ok (by omega) hs
        have hn : l.length ≤ 1000 := by omega
        refine stSkip (qThen (stSeq (reg ?_)))
        refine lm ?_
        refine lv (v := (.agg #[(.int .i64 ((f : Nat) : Int)), (.int .i64 ((g : Nat) : Int))])) (rLoadA [(.int .i64 ((f : Nat) : Int)), (.int .i64 ((g : Nat) : Int))] rfl rfl (by kernel_rfl) (by kernel_rfl) (segAt (i := 0) rfl (by intro j v hj; first | (rw [Nat.zero_add]; exact hj) | (match j, hj with | 0, h => exact h | 1, h => exact h)))) ?_
        refine li rfl ?_
        refine opK0 (fun w hM => (lsParams_any ((f : Nat) : Int) ((g : Nat) : Int) w ).mono ?_)
        rintro e w' ⟨rfl, hP⟩
        refine ⟨_, _, rfl, hP, ?_⟩; clear hP hM
        refine li rfl ?_
        refine opK0 (fun w hM => (rsNew_ok A c l f g w (r1.go0 hM) (by omega) (hop) (hse)).mono ?_)
        rintro e w' ⟨bs38, A238, c238, nm38, om38, rfl, hP⟩
        refine ⟨_, _, rfl, hP, ?_⟩; clear hP hM
        refine lm ?_
        refine lc (.pointer (some ⟨bs38, 0, none⟩)) ?_
        refine lc (.int .i64 0) ?_
        refine la ?_
        refine la ?_
        refine liNil (qThen (stSeq (stSeq ?_)))
        refine St.to [cAt b4 24 [(.int .i64 ((f : Nat) : Int)), (.int .i64 ((g : Nat) : Int))], cAt bs38 66 [(.slice A238 (l.length) (c238)), (.int .i64 ((f : Nat) : Int)), (.int .i64 ((g : Nat) : Int)), (.map (some nm38)), (.map (some om38))], cOwn 9 1 A238 (l.length) (c238) (SS l), cSet nm38 ([]), cSet om38 ([])] (by kernel_rfl) ?_
        refine reg ?_
        refine lm ?_
        refine lc (.bool false) ?_
        refine liNil (qThen (stFalse rfl (stSkip (qThen (stSeq (stSeq ?_))))))
        refine St.fact (fun w hM => own_cap (hM.at (i := 2) rfl)) (fun hcap => ?_)
        refine reg ?_
        refine lm ?_
        refine lc (.int .i64 ((ms.length : Nat) : Int)) ?_
        refine lm ?_
        refine liNil (qThen (stBlock ?_))
        refine stLoop (ι := Nat × List (List UInt8) × List (List UInt8)) (fun (i, N, O) => i ≤ ms.length ∧ (∀ x ∈ N, x ∉ l ∧ x.length = 32) ∧ (∀ x ∈ O, x ∈ l) ∧ N.length ≤ i * 200 ∧ O.length ≤ i * 17179869184) (fun (i, N, O) => ms.length - i) (fun (i, N, O) => [(0, (.slice A (l.length) (c))), (6, (.bool false)), (7, (.pointer (some ⟨bs38, 0, none⟩))), (43, (.slice AM (ms.length) (cm))), (44, (.int .i64 ((ms.length : Nat) : Int))), (45, (.int .i64 ((i : Nat) : Int)))]) (fun (i, N, O) => [cAt b4 24 [(.int .i64 ((f : Nat) : Int)), (.int .i64 ((g : Nat) : Int))], cAt bs38 66 [(.slice A238 (l.length) (c238)), (.int .i64 ((f : Nat) : Int)), (.int .i64 ((g : Nat) : Int)), (.map (some nm38)), (.map (some om38))], cOwn 9 1 A238 (l.length) (c238) (SS l), cSet nm38 (N), cSet om38 (O)]) (0, noB2, noB2) ⟨Nat.zero_le _, (fun x hx => by cases hx), (fun x hx => by cases hx), by simp, by simp⟩ ⟨rfl, rfl, rfl, rfl, rfl, rfl, trivial⟩ (fun w hM => by show Mm _ _ [cAt b4 24 [(.int .i64 ((f : Nat) : Int)), (.int .i64 ((g : Nat) : Int))], cAt bs38 66 [(.slice A238 (l.length) (c238)), (.int .i64 ((f : Nat) : Int)), (.int .i64 ((g : Nat) : Int)), (.map (some nm38)), (.map (some om38))], cOwn 9 1 A238 (l.length) (c238) (SS l), cSet nm38 (noB2), cSet om38 (noB2)] w; exact hM) ?_
        rintro ⟨i, N, O⟩ ⟨hi, hN, hO, hNl, hOl⟩
        show St _ _ _ [(0, (.slice A (l.length) (c))), (6, (.bool false)), (7, (.pointer (some ⟨bs38, 0, none⟩))), (43, (.slice AM (ms.length) (cm))), (44, (.int .i64 ((ms.length : Nat) : Int))), (45, (.int .i64 ((i : Nat) : Int)))] [cAt b4 24 [(.int .i64 ((f : Nat) : Int)), (.int .i64 ((g : Nat) : Int))], cAt bs38 66 [(.slice A238 (l.length) (c238)), (.int .i64 ((f : Nat) : Int)), (.int .i64 ((g : Nat) : Int)), (.map (some nm38)), (.map (some om38))], cOwn 9 1 A238 (l.length) (c238) (SS l), cSet nm38 (N), cSet om38 (O)] _
        refine stSeq (reg ?_)
        refine lc (.bool (decide (((i : Nat) : Int) < ((ms.length : Nat) : Int)))) ?_
        refine liNil (qThen (stSeq ?_))
        refine stCond rfl (fun hc46 => ?_) (fun hc46 => ?_)
        · have hd46 := of_decide_eq_true hc46
          refine stSkip (qThen (stSeq (stBlock (stSeq (reg ?_)))))
          obtain ⟨x0, hx0⟩ : ∃ ξ, (ms)[i]? = some ξ := ⟨_, List.getElem?_eq_getElem (by omega)⟩
          refine St.rowPtr (fun w hM => r2.now hM) (MS_at hx0) (fun p47 q47 hA47 hc47 => ?_)
          refine lv (v := (.pointer (some ⟨p47, q47 + i, none⟩))) (rIndexRow (e := 37) rfl (by kernel_rfl) (by kernel_rfl) rfl rfl hA47 (by omega)) ?_
          refine lv (v := (.slice x0.1 (x0.2.2.length) (x0.2.1))) (rLoadW rfl rfl (by kernel_rfl) hc47) ?_
          have rsm := Ro.imp (Ψ := fun w => RowIn w x0.1 (B8 x0.2.2)) r3 (fun w h => h x0 (List.mem_of_getElem? hx0))
          obtain ⟨xA, xc, xD⟩ := x0
          change Ro _ _ (fun w => RowIn w xA (B8 xD)) at rsm
          refine la ?_
          refine liNil (qThen (stSeq (stSeq (reg ?_))))
          refine lm ?_
          refine lc (.int .i64 ((xD.length : Nat) : Int)) ?_
          refine lc (.bool (decide (((xD.length : Nat) : Int) > 6000))) ?_
          refine liNil (qThen ?_)
          refine stCond rfl (fun hc51 => ?_) (fun hc51 => ?_)
          · have hd51 := of_decide_eq_true hc51
            refine stSeq (reg ?_)
            refine la ?_
            refine liNil (qThen (stRet (qThenR (qBlockR (qThenR (qThenR (qBlockR (qThenR ?_))))))))
            refine stEnd [(.bool true)] rfl ⟨rfl, trivial⟩ (fun w hM => ?_)
            exact ⟨rfl, (fun (w : World) (h : Mm _ _ _ w) => Mm.sub h (.cons _ (.cons _ (.cons _ (.cons _ (.cons _ .slnil)))))) w hM⟩
          · have hd51 := of_decide_eq_false hc51
            refine stSkip (qThen (stSeq ?_))
            have hSt := step_sound l f g xD
            have hx6 : xD.length ≤ 6000 := by omega
            have hSl := step_need (its := l) (fan := f) (leaf := g) (D := xD) (by omega) hs h40
            have hcn := hSt.cnt
            have hN2 : ∀ x ∈ N ++ (stepA l f g xD).need, x ∉ l ∧ x.length = 32 := fun x hx => (List.mem_append.1 hx).elim (hN x) (hSt.need x)
            have hO2 : ∀ x ∈ O ++ (stepA l f g xD).off, x ∈ l := fun x hx => (List.mem_append.1 hx).elim (hO x) (hSt.off x)
            have hw1 := withL_len N []; have hw2 := withL_len (N ++ (stepA l f g xD).need) []; simp only [List.length_nil, List.length_append, Nat.zero_add] at hw1 hw2
            have ho1 := setE_off hO hs h40; have ho2 := setE_off hO2 hs h40
            have hb1 := ho1.2; have hb2 := ho2.2
            have hn1 : setE (withL [] (N ++ (stepA l f g xD).need)) = 0 := setE_with (fun x hx => (hN2 x hx).2) (by rw [List.length_append]; omega)
            refine reg ?_
            refine lm ?_
            refine li rfl ?_
            refine opK0 (fun w hM => (rsNeed_any bs38 A238 c238 l f g nm38 om38 N w (hM.keep0 (j := 1) rfl (fun _ h => h)) (hM.keep0 (j := 3) rfl (fun _ h => h)) (by omega)).mono ?_)
            rintro e w' ⟨B53, cb53, rfl, hP⟩
            refine ⟨_, _, rfl, hP, ?_⟩; clear hP hM
            refine lm ?_
            refine li rfl ?_
            refine opK0 (fun w hM => (rsOffer_any bs38 A238 c238 l f g nm38 om38 O w (hM.keep0 (j := 1) rfl (fun _ h => h)) (hM.keep0 (j := 4) rfl (fun _ h => h)) (by omega)).mono ?_)
            rintro e w' ⟨B55, cb55, rfl, hP⟩
            refine ⟨_, _, rfl, hP, ?_⟩; clear hP hM
            refine la ?_
            refine la ?_
            refine liNil (qThen (stSeq ?_))
            refine St.to [cAt b4 24 [(.int .i64 ((f : Nat) : Int)), (.int .i64 ((g : Nat) : Int))], cAt bs38 66 [(.slice A238 (l.length) (c238)), (.int .i64 ((f : Nat) : Int)), (.int .i64 ((g : Nat) : Int)), (.map (some nm38)), (.map (some om38))], cOwn 9 1 A238 (l.length) (c238) (SS l), cSet nm38 (N), cSet om38 (O), cOwn 9 1 B53 ((withL [] N).length) (cb53) (SS (withL [] N)), cOwn 9 1 B55 ((withL [] O).length) (cb55) (SS (withL [] O))] (by kernel_rfl) ?_
            refine reg ?_
            refine lm ?_
            refine lm ?_
            refine li rfl ?_
            refine opK [3, 4] [cSet nm38 (N), cSet om38 (O)] (fun w hM hO => (rsStep_any bs38 A238 c238 l f g nm38 om38 xA xc xD N O w hO (r0.goS hM [3, 4]) (((hM.keepS [3, 4] (j := 1) rfl (fun _ h => h)).and (hM.keepS [3, 4] (j := 2) rfl (fun _ h => RowIn.of_own h))).imp (fun _ h => ⟨h.1, h.2⟩)) (rsm.goS hM [3, 4]) (by assumption) (by assumption) (by assumption) (by assumption) (by assumption) (by assumption) (by assumption) (by assumption) (by omega) (by omega) (by omega)).mono ?_)
            rintro e w' ⟨B59, cb59, rfl, hP⟩
            refine ⟨_, [cSet nm38 (N ++ (stepA l f g xD).need), cSet om38 (O ++ (stepA l f g xD).off)], _, rfl, hP, rfl, ?_⟩; clear hP hM hO
            refine lm ?_
            refine lc (.slice B59 (((stepA l f g xD).reply).length) (cb59)) ?_
            refine lc (.int .i64 (stepA l f g xD).err) ?_
            refine la ?_
            refine la ?_
            refine liNil (qThen (stSeq (stSeq (reg ?_))))
            refine lm ?_
            refine lc (.bool (((stepA l f g xD).err : Int) != 0)) ?_
            refine lm ?_
            refine St.dec 64 rfl (fun hc64 => ?_) (fun hc64 => ?_)
            · obtain ⟨he1, he2, he3⟩ := hSt.err (by simpa using hc64)
              refine lgm ?_
              refine lgc (.int .i64 ((((stepA l f g xD).reply).length : Nat) : Int)) ?_
              refine lgc (.bool (decide (((((stepA l f g xD).reply).length : Nat) : Int) > 0))) ?_
              refine lgm ?_
              refine St.known 68 (b' := false) rfl (by rw [he1]; simp) ?_
              refine lgm ?_
              refine liGo rfl rfl ?_
              refine opK0 (fun w hM => (rsNeed_any bs38 A238 c238 l f g nm38 om38 (N ++ (stepA l f g xD).need) w (hM.keep0 (j := 1) rfl (fun _ h => h)) (hM.keep0 (j := 3) rfl (fun _ h => h)) (by rw [List.length_append]; omega)).mono ?_)
              rintro e w' ⟨B70, cb70, rfl, hP⟩
              refine ⟨_, _, rfl, hP, ?_⟩; clear hP hM
              refine lgm ?_
              refine liGo rfl rfl ?_
              refine opK0 (fun w hM => (lsSame_any B70 cb70 (withL [] (N ++ (stepA l f g xD).need)) B53 cb53 (withL [] N) w (hM.keep0 (j := 8) rfl (fun _ h => RowIn.of_own h)) (hM.keep0 (j := 5) rfl (fun _ h => RowIn.of_own h)) (by omega) (by omega)).mono ?_)
              rintro e w' ⟨rfl, hP⟩
              refine ⟨_, _, rfl, hP, ?_⟩; clear hP hM
              refine lgc (.bool (!(decide ((withL [] (N ++ (stepA l f g xD).need)) = (withL [] N))))) ?_
              refine lgc (.bool (!(decide ((withL [] (N ++ (stepA l f g xD).need)) = (withL [] N))))) ?_
              refine lgm ?_
              refine St.known 75 (b' := false) rfl (by rw [he2, List.append_nil]; simp) ?_
              refine lgm ?_
              refine liGo rfl rfl ?_
              refine opK0 (fun w hM => (rsOffer_any bs38 A238 c238 l f g nm38 om38 (O ++ (stepA l f g xD).off) w (hM.keep0 (j := 1) rfl (fun _ h => h)) (hM.keep0 (j := 4) rfl (fun _ h => h)) (by rw [List.length_append]; omega)).mono ?_)
              rintro e w' ⟨B77, cb77, rfl, hP⟩
              refine ⟨_, _, rfl, hP, ?_⟩; clear hP hM
              refine St.to [cAt b4 24 [(.int .i64 ((f : Nat) : Int)), (.int .i64 ((g : Nat) : Int))], cAt bs38 66 [(.slice A238 (l.length) (c238)), (.int .i64 ((f : Nat) : Int)), (.int .i64 ((g : Nat) : Int)), (.map (some nm38)), (.map (some om38))], cOwn 9 1 A238 (l.length) (c238) (SS l), cSet nm38 (N ++ (stepA l f g xD).need), cSet om38 (O ++ (stepA l f g xD).off), cOwn 9 1 B53 ((withL [] N).length) (cb53) (SS (withL [] N)), cOwn 9 1 B55 ((withL [] O).length) (cb55) (SS (withL [] O)), cOwn 5 1 B59 (((stepA l f g xD).reply).length) (cb59) (B8 ((stepA l f g xD).reply)), cOwn 9 1 B70 ((withL [] (N ++ (stepA l f g xD).need)).length) (cb70) (SS (withL [] (N ++ (stepA l f g xD).need))), cOwn 9 1 B77 ((withL [] (O ++ (stepA l f g xD).off)).length) (cb77) (SS (withL [] (O ++ (stepA l f g xD).off)))] (by kernel_rfl) ?_
              refine lgm ?_
              refine liGo rfl rfl ?_
              refine opK0 (fun w hM => (lsSame_any B77 cb77 (withL [] (O ++ (stepA l f g xD).off)) B55 cb55 (withL [] O) w (hM.keep0 (j := 9) rfl (fun _ h => RowIn.of_own h)) (hM.keep0 (j := 6) rfl (fun _ h => RowIn.of_own h)) (by omega) (by omega)).mono ?_)
              rintro e w' ⟨rfl, hP⟩
              refine ⟨_, _, rfl, hP, ?_⟩; clear hP hM
              refine lgc (.bool (!(decide ((withL [] (O ++ (stepA l f g xD).off)) = (withL [] O))))) ?_
              refine lgc (.bool (!(decide ((withL [] (O ++ (stepA l f g xD).off)) = (withL [] O))))) ?_
              refine lc (.bool (!(decide ((withL [] (O ++ (stepA l f g xD).off)) = (withL [] O))))) ?_
              refine liNil (qThen ?_)
              refine stFalseK rfl (by rw [he3, List.append_nil]; simp) ?_
              refine stSkip (qThen (stSeq (stSeq (reg ?_))))
              refine lm ?_
              refine lm ?_
              refine li rfl ?_
              refine opK0 (fun w hM => (rsNeed_any bs38 A238 c238 l f g nm38 om38 (N ++ (stepA l f g xD).need) w (hM.keep0 (j := 1) rfl (fun _ h => h)) (hM.keep0 (j := 3) rfl (fun _ h => h)) (by rw [List.length_append]; omega)).mono ?_)
              rintro e w' ⟨B85, cb85, rfl, hP⟩
              refine ⟨_, _, rfl, hP, ?_⟩; clear hP hM
              refine li rfl ?_
              refine opK0 (fun w hM => (rsWithout_any B53 cb53 (withL [] N) B85 cb85 (withL [] (N ++ (stepA l f g xD).need)) w (hM.keep0 (j := 5) rfl (fun _ h => RowIn.of_own h)) (hM.keep0 (j := 10) rfl (fun _ h => RowIn.of_own h)) (by omega) (by omega)).mono ?_)
              rintro e w' ⟨B86, cb86, rfl, hP⟩
              refine ⟨_, _, rfl, hP, ?_⟩; clear hP hM
              refine lc (.int .i64 (((without (withL [] N) (withL [] (N ++ (stepA l f g xD).need))).length : Nat) : Int)) ?_
              refine lc (.bool (decide ((((without (withL [] N) (withL [] (N ++ (stepA l f g xD).need))).length : Nat) : Int) > 0))) ?_
              refine lm ?_
              refine St.known 89 (b' := false) rfl (by rw [withL_grow]; simp) ?_
              refine lgm ?_
              refine lgm ?_
              refine liGo rfl rfl ?_
              refine opK0 (fun w hM => (rsOffer_any bs38 A238 c238 l f g nm38 om38 (O ++ (stepA l f g xD).off) w (hM.keep0 (j := 1) rfl (fun _ h => h)) (hM.keep0 (j := 4) rfl (fun _ h => h)) (by rw [List.length_append]; omega)).mono ?_)
              rintro e w' ⟨B92, cb92, rfl, hP⟩
              refine ⟨_, _, rfl, hP, ?_⟩; clear hP hM
              refine St.to [cAt b4 24 [(.int .i64 ((f : Nat) : Int)), (.int .i64 ((g : Nat) : Int))], cAt bs38 66 [(.slice A238 (l.length) (c238)), (.int .i64 ((f : Nat) : Int)), (.int .i64 ((g : Nat) : Int)), (.map (some nm38)), (.map (some om38))], cOwn 9 1 A238 (l.length) (c238) (SS l), cSet nm38 (N ++ (stepA l f g xD).need), cSet om38 (O ++ (stepA l f g xD).off), cOwn 9 1 B53 ((withL [] N).length) (cb53) (SS (withL [] N)), cOwn 9 1 B55 ((withL [] O).length) (cb55) (SS (withL [] O)), cOwn 5 1 B59 (((stepA l f g xD).reply).length) (cb59) (B8 ((stepA l f g xD).reply)), cOwn 9 1 B70 ((withL [] (N ++ (stepA l f g xD).need)).length) (cb70) (SS (withL [] (N ++ (stepA l f g xD).need))), cOwn 9 1 B77 ((withL [] (O ++ (stepA l f g xD).off)).length) (cb77) (SS (withL [] (O ++ (stepA l f g xD).off))), cOwn 9 1 B85 ((withL [] (N ++ (stepA l f g xD).need)).length) (cb85) (SS (withL [] (N ++ (stepA l f g xD).need))), cOwn 9 1 B86 ((without (withL [] N) (withL [] (N ++ (stepA l f g xD).need))).length) (cb86) (SS (without (withL [] N) (withL [] (N ++ (stepA l f g xD).need)))), cOwn 9 1 B92 ((withL [] (O ++ (stepA l f g xD).off)).length) (cb92) (SS (withL [] (O ++ (stepA l f g xD).off)))] (by kernel_rfl) ?_
              refine liGo rfl rfl ?_
              refine opK0 (fun w hM => (rsWithout_any B55 cb55 (withL [] O) B92 cb92 (withL [] (O ++ (stepA l f g xD).off)) w (hM.keep0 (j := 6) rfl (fun _ h => RowIn.of_own h)) (hM.keep0 (j := 12) rfl (fun _ h => RowIn.of_own h)) (by omega) (by omega)).mono ?_)
              rintro e w' ⟨B93, cb93, rfl, hP⟩
              refine ⟨_, _, rfl, hP, ?_⟩; clear hP hM
              refine lgc (.int .i64 (((without (withL [] O) (withL [] (O ++ (stepA l f g xD).off))).length : Nat) : Int)) ?_
              refine lgc (.bool (decide ((((without (withL [] O) (withL [] (O ++ (stepA l f g xD).off))).length : Nat) : Int) > 0))) ?_
              refine lc (.bool (decide ((((without (withL [] O) (withL [] (O ++ (stepA l f g xD).off))).length : Nat) : Int) > 0))) ?_
              refine liNil (qThen ?_)
              refine stFalseK rfl (by rw [withL_grow]; simp) ?_
              refine stSkip (qThen (stSeq (stSeq (reg ?_))))
              refine lm ?_
              refine li rfl ?_
              refine opK0 (fun w hM => (rsNeed_any bs38 A238 c238 l f g nm38 om38 (N ++ (stepA l f g xD).need) w (hM.keep0 (j := 1) rfl (fun _ h => h)) (hM.keep0 (j := 3) rfl (fun _ h => h)) (by rw [List.length_append]; omega)).mono ?_)
              rintro e w' ⟨B98, cb98, rfl, hP⟩
              refine ⟨_, _, rfl, hP, ?_⟩; clear hP hM
              refine lc (.int .i64 (((withL [] (N ++ (stepA l f g xD).need)).length : Nat) : Int)) ?_
              refine lm ?_
              refine liNil (qThen (stBlock ?_))
              refine stLoop (ι := Nat) (fun j => j ≤ (withL [] (N ++ (stepA l f g xD).need)).length) (fun j => (withL [] (N ++ (stepA l f g xD).need)).length - j) (fun j => [(0, (.slice A (l.length) (c))), (6, (.bool false)), (7, (.pointer (some ⟨bs38, 0, none⟩))), (43, (.slice AM (ms.length) (cm))), (44, (.int .i64 ((ms.length : Nat) : Int))), (45, (.int .i64 ((i : Nat) : Int))), (98, (.slice B98 ((withL [] (N ++ (stepA l f g xD).need)).length) (cb98))), (99, (.int .i64 (((withL [] (N ++ (stepA l f g xD).need)).length : Nat) : Int))), (100, (.int .i64 ((j : Nat) : Int)))]) (fun j => [cAt b4 24 [(.int .i64 ((f : Nat) : Int)), (.int .i64 ((g : Nat) : Int))], cAt bs38 66 [(.slice A238 (l.length) (c238)), (.int .i64 ((f : Nat) : Int)), (.int .i64 ((g : Nat) : Int)), (.map (some nm38)), (.map (some om38))], cOwn 9 1 A238 (l.length) (c238) (SS l), cSet nm38 (N ++ (stepA l f g xD).need), cSet om38 (O ++ (stepA l f g xD).off), cOwn 9 1 B53 ((withL [] N).length) (cb53) (SS (withL [] N)), cOwn 9 1 B55 ((withL [] O).length) (cb55) (SS (withL [] O)), cOwn 5 1 B59 (((stepA l f g xD).reply).length) (cb59) (B8 ((stepA l f g xD).reply)), cOwn 9 1 B70 ((withL [] (N ++ (stepA l f g xD).need)).length) (cb70) (SS (withL [] (N ++ (stepA l f g xD).need))), cOwn 9 1 B77 ((withL [] (O ++ (stepA l f g xD).off)).length) (cb77) (SS (withL [] (O ++ (stepA l f g xD).off))), cOwn 9 1 B85 ((withL [] (N ++ (stepA l f g xD).need)).length) (cb85) (SS (withL [] (N ++ (stepA l f g xD).need))), cOwn 9 1 B86 ((without (withL [] N) (withL [] (N ++ (stepA l f g xD).need))).length) (cb86) (SS (without (withL [] N) (withL [] (N ++ (stepA l f g xD).need)))), cOwn 9 1 B92 ((withL [] (O ++ (stepA l f g xD).off)).length) (cb92) (SS (withL [] (O ++ (stepA l f g xD).off))), cOwn 9 1 B93 ((without (withL [] O) (withL [] (O ++ (stepA l f g xD).off))).length) (cb93) (SS (without (withL [] O) (withL [] (O ++ (stepA l f g xD).off)))), cOwn 9 1 B98 ((withL [] (N ++ (stepA l f g xD).need)).length) (cb98) (SS (withL [] (N ++ (stepA l f g xD).need)))]) 0 (Nat.zero_le _) ⟨rfl, rfl, rfl, rfl, rfl, rfl, rfl, rfl, rfl, trivial⟩ (fun _ h => h) ?_
              intro j hj
              show St _ _ _ [(0, (.slice A (l.length) (c))), (6, (.bool false)), (7, (.pointer (some ⟨bs38, 0, none⟩))), (43, (.slice AM (ms.length) (cm))), (44, (.int .i64 ((ms.length : Nat) : Int))), (45, (.int .i64 ((i : Nat) : Int))), (98, (.slice B98 ((withL [] (N ++ (stepA l f g xD).need)).length) (cb98))), (99, (.int .i64 (((withL [] (N ++ (stepA l f g xD).need)).length : Nat) : Int))), (100, (.int .i64 ((j : Nat) : Int)))] [cAt b4 24 [(.int .i64 ((f : Nat) : Int)), (.int .i64 ((g : Nat) : Int))], cAt bs38 66 [(.slice A238 (l.length) (c238)), (.int .i64 ((f : Nat) : Int)), (.int .i64 ((g : Nat) : Int)), (.map (some nm38)), (.map (some om38))], cOwn 9 1 A238 (l.length) (c238) (SS l), cSet nm38 (N ++ (stepA l f g xD).need), cSet om38 (O ++ (stepA l f g xD).off), cOwn 9 1 B53 ((withL [] N).length) (cb53) (SS (withL [] N)), cOwn 9 1 B55 ((withL [] O).length) (cb55) (SS (withL [] O)), cOwn 5 1 B59 (((stepA l f g xD).reply).length) (cb59) (B8 ((stepA l f g xD).reply)), cOwn 9 1 B70 ((withL [] (N ++ (stepA l f g xD).need)).length) (cb70) (SS (withL [] (N ++ (stepA l f g xD).need))), cOwn 9 1 B77 ((withL [] (O ++ (stepA l f g xD).off)).length) (cb77) (SS (withL [] (O ++ (stepA l f g xD).off))), cOwn 9 1 B85 ((withL [] (N ++ (stepA l f g xD).need)).length) (cb85) (SS (withL [] (N ++ (stepA l f g xD).need))), cOwn 9 1 B86 ((without (withL [] N) (withL [] (N ++ (stepA l f g xD).need))).length) (cb86) (SS (without (withL [] N) (withL [] (N ++ (stepA l f g xD).need)))), cOwn 9 1 B92 ((withL [] (O ++ (stepA l f g xD).off)).length) (cb92) (SS (withL [] (O ++ (stepA l f g xD).off))), cOwn 9 1 B93 ((without (withL [] O) (withL [] (O ++ (stepA l f g xD).off))).length) (cb93) (SS (without (withL [] O) (withL [] (O ++ (stepA l f g xD).off)))), cOwn 9 1 B98 ((withL [] (N ++ (stepA l f g xD).need)).length) (cb98) (SS (withL [] (N ++ (stepA l f g xD).need)))] _
              refine stSeq (reg ?_)
              refine lc (.bool (decide (((j : Nat) : Int) < (((withL [] (N ++ (stepA l f g xD).need)).length : Nat) : Int)))) ?_
              refine liNil (qThen (stSeq ?_))
              refine stCond rfl (fun hc101 => ?_) (fun hc101 => ?_)
              · have hd101 := of_decide_eq_true hc101
                refine stSkip (qThen (stSeq (stBlock (stSeq (reg ?_)))))
                obtain ⟨x1, hx1⟩ : ∃ ξ, (withL [] (N ++ (stepA l f g xD).need))[j]? = some ξ := ⟨_, List.getElem?_eq_getElem (by omega)⟩
                refine St.rowPtr (fun w hM => rowOwn (i := 14) rfl w hM) (SS_at hx1) (fun p102 q102 hA102 hc102 => ?_)
                refine lv (v := (.pointer (some ⟨p102, q102 + j, none⟩))) (rIndexRow (e := 9) rfl (by kernel_rfl) (by kernel_rfl) rfl rfl hA102 (by omega)) ?_
                refine lv (v := (.string (strOf x1))) (rLoadW rfl rfl (by kernel_rfl) hc102) ?_
                have hxn := hN2 _ (mem_withL0.1 (List.mem_of_getElem? hx1))
                refine la ?_
                refine liNil (qThen (stSeq (reg ?_)))
                refine lm ?_
                refine lm ?_
                refine li rfl ?_
                refine opK0 (fun w hM => (rsHas_any A c l x1 w (r1.go0 hM) (by omega)).mono ?_)
                rintro e w' ⟨rfl, hP⟩
                refine ⟨_, _, rfl, hP, ?_⟩; clear hP hM
                refine lm ?_
                refine St.known 107 (b' := false) rfl (by simpa using hxn.1) ?_
                refine lgm ?_
                refine lgv (v := (.int .i64 (((x1).length : Nat) : Int))) (rLenS rfl rfl (by kernel_rfl)) ?_
                refine lgc (.bool (((((x1).length : Nat) : Int) : Int) != 32)) ?_
                refine lc (.bool (((((x1).length : Nat) : Int) : Int) != 32)) ?_
                refine liNil (qThen ?_)
                refine stFalseK rfl (by rw [hxn.2]; rfl) ?_
                refine stSkip (qBlock (qThen (reg ?_)))
                refine lv (v := (.int .i64 ((j + 1 : Nat) : Int))) (rAdd _ rfl rfl rfl (by omega) (by omega) (by omega)) ?_
                refine lm ?_
                refine liNil (qThen ?_)
                exact stAgain (j + 1) (by show _ ≤ _; omega) (by show (withL [] (N ++ (stepA l f g xD).need)).length - (j + 1) < (withL [] (N ++ (stepA l f g xD).need)).length - j; omega) ⟨rfl, rfl, rfl, rfl, rfl, rfl, rfl, rfl, rfl, trivial⟩ (fun w hM => by show Mm _ _ [cAt b4 24 [(.int .i64 ((f : Nat) : Int)), (.int .i64 ((g : Nat) : Int))], cAt bs38 66 [(.slice A238 (l.length) (c238)), (.int .i64 ((f : Nat) : Int)), (.int .i64 ((g : Nat) : Int)), (.map (some nm38)), (.map (some om38))], cOwn 9 1 A238 (l.length) (c238) (SS l), cSet nm38 (N ++ (stepA l f g xD).need), cSet om38 (O ++ (stepA l f g xD).off), cOwn 9 1 B53 ((withL [] N).length) (cb53) (SS (withL [] N)), cOwn 9 1 B55 ((withL [] O).length) (cb55) (SS (withL [] O)), cOwn 5 1 B59 (((stepA l f g xD).reply).length) (cb59) (B8 ((stepA l f g xD).reply)), cOwn 9 1 B70 ((withL [] (N ++ (stepA l f g xD).need)).length) (cb70) (SS (withL [] (N ++ (stepA l f g xD).need))), cOwn 9 1 B77 ((withL [] (O ++ (stepA l f g xD).off)).length) (cb77) (SS (withL [] (O ++ (stepA l f g xD).off))), cOwn 9 1 B85 ((withL [] (N ++ (stepA l f g xD).need)).length) (cb85) (SS (withL [] (N ++ (stepA l f g xD).need))), cOwn 9 1 B86 ((without (withL [] N) (withL [] (N ++ (stepA l f g xD).need))).length) (cb86) (SS (without (withL [] N) (withL [] (N ++ (stepA l f g xD).need)))), cOwn 9 1 B92 ((withL [] (O ++ (stepA l f g xD).off)).length) (cb92) (SS (withL [] (O ++ (stepA l f g xD).off))), cOwn 9 1 B93 ((without (withL [] O) (withL [] (O ++ (stepA l f g xD).off))).length) (cb93) (SS (without (withL [] O) (withL [] (O ++ (stepA l f g xD).off)))), cOwn 9 1 B98 ((withL [] (N ++ (stepA l f g xD).need)).length) (cb98) (SS (withL [] (N ++ (stepA l f g xD).need)))] w; exact hM)
              · have hd101 := of_decide_eq_false hc101
                refine stExit (qThenX (qThenX (qBlockX (qThen (stSeq (stSeq (reg ?_)))))))
                refine lm ?_
                refine li rfl ?_
                refine opK0 (fun w hM => (rsOffer_any bs38 A238 c238 l f g nm38 om38 (O ++ (stepA l f g xD).off) w (hM.keep0 (j := 1) rfl (fun _ h => h)) (hM.keep0 (j := 4) rfl (fun _ h => h)) (by rw [List.length_append]; omega)).mono ?_)
                rintro e w' ⟨B114, cb114, rfl, hP⟩
                refine ⟨_, _, rfl, hP, ?_⟩; clear hP hM
                refine lc (.int .i64 (((withL [] (O ++ (stepA l f g xD).off)).length : Nat) : Int)) ?_
                refine lm ?_
                refine liNil (qThen (stBlock ?_))
                refine stLoop (ι := Nat) (fun j => j ≤ (withL [] (O ++ (stepA l f g xD).off)).length) (fun j => (withL [] (O ++ (stepA l f g xD).off)).length - j) (fun j => [(0, (.slice A (l.length) (c))), (6, (.bool false)), (7, (.pointer (some ⟨bs38, 0, none⟩))), (43, (.slice AM (ms.length) (cm))), (44, (.int .i64 ((ms.length : Nat) : Int))), (45, (.int .i64 ((i : Nat) : Int))), (114, (.slice B114 ((withL [] (O ++ (stepA l f g xD).off)).length) (cb114))), (115, (.int .i64 (((withL [] (O ++ (stepA l f g xD).off)).length : Nat) : Int))), (116, (.int .i64 ((j : Nat) : Int)))]) (fun j => [cAt b4 24 [(.int .i64 ((f : Nat) : Int)), (.int .i64 ((g : Nat) : Int))], cAt bs38 66 [(.slice A238 (l.length) (c238)), (.int .i64 ((f : Nat) : Int)), (.int .i64 ((g : Nat) : Int)), (.map (some nm38)), (.map (some om38))], cOwn 9 1 A238 (l.length) (c238) (SS l), cSet nm38 (N ++ (stepA l f g xD).need), cSet om38 (O ++ (stepA l f g xD).off), cOwn 9 1 B53 ((withL [] N).length) (cb53) (SS (withL [] N)), cOwn 9 1 B55 ((withL [] O).length) (cb55) (SS (withL [] O)), cOwn 5 1 B59 (((stepA l f g xD).reply).length) (cb59) (B8 ((stepA l f g xD).reply)), cOwn 9 1 B70 ((withL [] (N ++ (stepA l f g xD).need)).length) (cb70) (SS (withL [] (N ++ (stepA l f g xD).need))), cOwn 9 1 B77 ((withL [] (O ++ (stepA l f g xD).off)).length) (cb77) (SS (withL [] (O ++ (stepA l f g xD).off))), cOwn 9 1 B85 ((withL [] (N ++ (stepA l f g xD).need)).length) (cb85) (SS (withL [] (N ++ (stepA l f g xD).need))), cOwn 9 1 B86 ((without (withL [] N) (withL [] (N ++ (stepA l f g xD).need))).length) (cb86) (SS (without (withL [] N) (withL [] (N ++ (stepA l f g xD).need)))), cOwn 9 1 B92 ((withL [] (O ++ (stepA l f g xD).off)).length) (cb92) (SS (withL [] (O ++ (stepA l f g xD).off))), cOwn 9 1 B93 ((without (withL [] O) (withL [] (O ++ (stepA l f g xD).off))).length) (cb93) (SS (without (withL [] O) (withL [] (O ++ (stepA l f g xD).off)))), cOwn 9 1 B98 ((withL [] (N ++ (stepA l f g xD).need)).length) (cb98) (SS (withL [] (N ++ (stepA l f g xD).need))), cOwn 9 1 B114 ((withL [] (O ++ (stepA l f g xD).off)).length) (cb114) (SS (withL [] (O ++ (stepA l f g xD).off)))]) 0 (Nat.zero_le _) ⟨rfl, rfl, rfl, rfl, rfl, rfl, rfl, rfl, rfl, trivial⟩ (fun _ h => h) ?_
                intro j hj
                show St _ _ _ [(0, (.slice A (l.length) (c))), (6, (.bool false)), (7, (.pointer (some ⟨bs38, 0, none⟩))), (43, (.slice AM (ms.length) (cm))), (44, (.int .i64 ((ms.length : Nat) : Int))), (45, (.int .i64 ((i : Nat) : Int))), (114, (.slice B114 ((withL [] (O ++ (stepA l f g xD).off)).length) (cb114))), (115, (.int .i64 (((withL [] (O ++ (stepA l f g xD).off)).length : Nat) : Int))), (116, (.int .i64 ((j : Nat) : Int)))] [cAt b4 24 [(.int .i64 ((f : Nat) : Int)), (.int .i64 ((g : Nat) : Int))], cAt bs38 66 [(.slice A238 (l.length) (c238)), (.int .i64 ((f : Nat) : Int)), (.int .i64 ((g : Nat) : Int)), (.map (some nm38)), (.map (some om38))], cOwn 9 1 A238 (l.length) (c238) (SS l), cSet nm38 (N ++ (stepA l f g xD).need), cSet om38 (O ++ (stepA l f g xD).off), cOwn 9 1 B53 ((withL [] N).length) (cb53) (SS (withL [] N)), cOwn 9 1 B55 ((withL [] O).length) (cb55) (SS (withL [] O)), cOwn 5 1 B59 (((stepA l f g xD).reply).length) (cb59) (B8 ((stepA l f g xD).reply)), cOwn 9 1 B70 ((withL [] (N ++ (stepA l f g xD).need)).length) (cb70) (SS (withL [] (N ++ (stepA l f g xD).need))), cOwn 9 1 B77 ((withL [] (O ++ (stepA l f g xD).off)).length) (cb77) (SS (withL [] (O ++ (stepA l f g xD).off))), cOwn 9 1 B85 ((withL [] (N ++ (stepA l f g xD).need)).length) (cb85) (SS (withL [] (N ++ (stepA l f g xD).need))), cOwn 9 1 B86 ((without (withL [] N) (withL [] (N ++ (stepA l f g xD).need))).length) (cb86) (SS (without (withL [] N) (withL [] (N ++ (stepA l f g xD).need)))), cOwn 9 1 B92 ((withL [] (O ++ (stepA l f g xD).off)).length) (cb92) (SS (withL [] (O ++ (stepA l f g xD).off))), cOwn 9 1 B93 ((without (withL [] O) (withL [] (O ++ (stepA l f g xD).off))).length) (cb93) (SS (without (withL [] O) (withL [] (O ++ (stepA l f g xD).off)))), cOwn 9 1 B98 ((withL [] (N ++ (stepA l f g xD).need)).length) (cb98) (SS (withL [] (N ++ (stepA l f g xD).need))), cOwn 9 1 B114 ((withL [] (O ++ (stepA l f g xD).off)).length) (cb114) (SS (withL [] (O ++ (stepA l f g xD).off)))] _
                refine stSeq (reg ?_)
                refine lc (.bool (decide (((j : Nat) : Int) < (((withL [] (O ++ (stepA l f g xD).off)).length : Nat) : Int)))) ?_
                refine liNil (qThen (stSeq ?_))
                refine stCond rfl (fun hc117 => ?_) (fun hc117 => ?_)
                · have hd117 := of_decide_eq_true hc117
                  refine stSkip (qThen (stSeq (stBlock (stSeq (reg ?_)))))
                  obtain ⟨x1, hx1⟩ : ∃ ξ, (withL [] (O ++ (stepA l f g xD).off))[j]? = some ξ := ⟨_, List.getElem?_eq_getElem (by omega)⟩
                  refine St.rowPtr (fun w hM => rowOwn (i := 15) rfl w hM) (SS_at hx1) (fun p118 q118 hA118 hc118 => ?_)
                  refine lv (v := (.pointer (some ⟨p118, q118 + j, none⟩))) (rIndexRow (e := 9) rfl (by kernel_rfl) (by kernel_rfl) rfl rfl hA118 (by omega)) ?_
                  refine lv (v := (.string (strOf x1))) (rLoadW rfl rfl (by kernel_rfl) hc118) ?_
                  have hxo := hO2 _ (mem_withL0.1 (List.mem_of_getElem? hx1))
                  refine la ?_
                  refine liNil (qThen (stSeq (reg ?_)))
                  refine lm ?_
                  refine lm ?_
                  refine li rfl ?_
                  refine opK0 (fun w hM => (rsHas_any A c l x1 w (r1.go0 hM) (by omega)).mono ?_)
                  rintro e w' ⟨rfl, hP⟩
                  refine ⟨_, _, rfl, hP, ?_⟩; clear hP hM
                  refine lc (.bool (!(l.contains x1))) ?_
                  refine liNil (qThen ?_)
                  refine stFalseK rfl (by simpa using hxo) ?_
                  refine stSkip (qBlock (qThen (reg ?_)))
                  refine lv (v := (.int .i64 ((j + 1 : Nat) : Int))) (rAdd _ rfl rfl rfl (by omega) (by omega) (by omega)) ?_
                  refine lm ?_
                  refine liNil (qThen ?_)
                  exact stAgain (j + 1) (by show _ ≤ _; omega) (by show (withL [] (O ++ (stepA l f g xD).off)).length - (j + 1) < (withL [] (O ++ (stepA l f g xD).off)).length - j; omega) ⟨rfl, rfl, rfl, rfl, rfl, rfl, rfl, rfl, rfl, trivial⟩ (fun w hM => by show Mm _ _ [cAt b4 24 [(.int .i64 ((f : Nat) : Int)), (.int .i64 ((g : Nat) : Int))], cAt bs38 66 [(.slice A238 (l.length) (c238)), (.int .i64 ((f : Nat) : Int)), (.int .i64 ((g : Nat) : Int)), (.map (some nm38)), (.map (some om38))], cOwn 9 1 A238 (l.length) (c238) (SS l), cSet nm38 (N ++ (stepA l f g xD).need), cSet om38 (O ++ (stepA l f g xD).off), cOwn 9 1 B53 ((withL [] N).length) (cb53) (SS (withL [] N)), cOwn 9 1 B55 ((withL [] O).length) (cb55) (SS (withL [] O)), cOwn 5 1 B59 (((stepA l f g xD).reply).length) (cb59) (B8 ((stepA l f g xD).reply)), cOwn 9 1 B70 ((withL [] (N ++ (stepA l f g xD).need)).length) (cb70) (SS (withL [] (N ++ (stepA l f g xD).need))), cOwn 9 1 B77 ((withL [] (O ++ (stepA l f g xD).off)).length) (cb77) (SS (withL [] (O ++ (stepA l f g xD).off))), cOwn 9 1 B85 ((withL [] (N ++ (stepA l f g xD).need)).length) (cb85) (SS (withL [] (N ++ (stepA l f g xD).need))), cOwn 9 1 B86 ((without (withL [] N) (withL [] (N ++ (stepA l f g xD).need))).length) (cb86) (SS (without (withL [] N) (withL [] (N ++ (stepA l f g xD).need)))), cOwn 9 1 B92 ((withL [] (O ++ (stepA l f g xD).off)).length) (cb92) (SS (withL [] (O ++ (stepA l f g xD).off))), cOwn 9 1 B93 ((without (withL [] O) (withL [] (O ++ (stepA l f g xD).off))).length) (cb93) (SS (without (withL [] O) (withL [] (O ++ (stepA l f g xD).off)))), cOwn 9 1 B98 ((withL [] (N ++ (stepA l f g xD).need)).length) (cb98) (SS (withL [] (N ++ (stepA l f g xD).need))), cOwn 9 1 B114 ((withL [] (O ++ (stepA l f g xD).off)).length) (cb114) (SS (withL [] (O ++ (stepA l f g xD).off)))] w; exact hM)
                · have hd117 := of_decide_eq_false hc117
                  refine stExit (qThenX (qThenX (qBlockX (qThen (stSeq (reg ?_))))))
                  refine lm ?_
                  refine li rfl ?_
                  refine opK0 (fun w hM => (rsNeed_any bs38 A238 c238 l f g nm38 om38 (N ++ (stepA l f g xD).need) w (hM.keep0 (j := 1) rfl (fun _ h => h)) (hM.keep0 (j := 3) rfl (fun _ h => h)) (by rw [List.length_append]; omega)).mono ?_)
                  rintro e w' ⟨B126, cb126, rfl, hP⟩
                  refine ⟨_, _, rfl, hP, ?_⟩; clear hP hM
                  refine li rfl ?_
                  refine opK0 (fun w hM => (rsSet_any B126 cb126 (withL [] (N ++ (stepA l f g xD).need)) w (hM.keep0 (j := 16) rfl (fun _ h => RowIn.of_own h)) (by omega)).mono ?_)
                  rintro e w' ⟨rfl, hP⟩
                  refine ⟨_, _, rfl, hP, ?_⟩; clear hP hM
                  refine lc (.bool (((setE (withL [] (N ++ (stepA l f g xD).need))) : Int) != 0)) ?_
                  refine lm ?_
                  refine St.known 129 (b' := false) rfl (by rw [hn1]; rfl) ?_
                  refine lgm ?_
                  refine liGo rfl rfl ?_
                  refine opK0 (fun w hM => (rsOffer_any bs38 A238 c238 l f g nm38 om38 (O ++ (stepA l f g xD).off) w (hM.keep0 (j := 1) rfl (fun _ h => h)) (hM.keep0 (j := 4) rfl (fun _ h => h)) (by rw [List.length_append]; omega)).mono ?_)
                  rintro e w' ⟨B131, cb131, rfl, hP⟩
                  refine ⟨_, _, rfl, hP, ?_⟩; clear hP hM
                  refine St.to [cAt b4 24 [(.int .i64 ((f : Nat) : Int)), (.int .i64 ((g : Nat) : Int))], cAt bs38 66 [(.slice A238 (l.length) (c238)), (.int .i64 ((f : Nat) : Int)), (.int .i64 ((g : Nat) : Int)), (.map (some nm38)), (.map (some om38))], cOwn 9 1 A238 (l.length) (c238) (SS l), cSet nm38 (N ++ (stepA l f g xD).need), cSet om38 (O ++ (stepA l f g xD).off), cOwn 9 1 B53 ((withL [] N).length) (cb53) (SS (withL [] N)), cOwn 9 1 B55 ((withL [] O).length) (cb55) (SS (withL [] O)), cOwn 5 1 B59 (((stepA l f g xD).reply).length) (cb59) (B8 ((stepA l f g xD).reply)), cOwn 9 1 B70 ((withL [] (N ++ (stepA l f g xD).need)).length) (cb70) (SS (withL [] (N ++ (stepA l f g xD).need))), cOwn 9 1 B77 ((withL [] (O ++ (stepA l f g xD).off)).length) (cb77) (SS (withL [] (O ++ (stepA l f g xD).off))), cOwn 9 1 B85 ((withL [] (N ++ (stepA l f g xD).need)).length) (cb85) (SS (withL [] (N ++ (stepA l f g xD).need))), cOwn 9 1 B86 ((without (withL [] N) (withL [] (N ++ (stepA l f g xD).need))).length) (cb86) (SS (without (withL [] N) (withL [] (N ++ (stepA l f g xD).need)))), cOwn 9 1 B92 ((withL [] (O ++ (stepA l f g xD).off)).length) (cb92) (SS (withL [] (O ++ (stepA l f g xD).off))), cOwn 9 1 B93 ((without (withL [] O) (withL [] (O ++ (stepA l f g xD).off))).length) (cb93) (SS (without (withL [] O) (withL [] (O ++ (stepA l f g xD).off)))), cOwn 9 1 B98 ((withL [] (N ++ (stepA l f g xD).need)).length) (cb98) (SS (withL [] (N ++ (stepA l f g xD).need))), cOwn 9 1 B114 ((withL [] (O ++ (stepA l f g xD).off)).length) (cb114) (SS (withL [] (O ++ (stepA l f g xD).off))), cOwn 9 1 B126 ((withL [] (N ++ (stepA l f g xD).need)).length) (cb126) (SS (withL [] (N ++ (stepA l f g xD).need))), cOwn 9 1 B131 ((withL [] (O ++ (stepA l f g xD).off)).length) (cb131) (SS (withL [] (O ++ (stepA l f g xD).off)))] (by kernel_rfl) ?_
                  refine liGo rfl rfl ?_
                  refine opK0 (fun w hM => (rsSet_any B131 cb131 (withL [] (O ++ (stepA l f g xD).off)) w (hM.keep0 (j := 17) rfl (fun _ h => RowIn.of_own h)) (by omega)).mono ?_)
                  rintro e w' ⟨rfl, hP⟩
                  refine ⟨_, _, rfl, hP, ?_⟩; clear hP hM
                  refine lgc (.bool (((setE (withL [] (O ++ (stepA l f g xD).off))) : Int) != 0)) ?_
                  refine lc (.bool (((setE (withL [] (O ++ (stepA l f g xD).off))) : Int) != 0)) ?_
                  refine liNil (qThen ?_)
                  refine stFalseK rfl (by rw [ho2.1]; rfl) ?_
                  refine stSkip (qBlock (qThen (reg ?_)))
                  refine lv (v := (.int .i64 ((i + 1 : Nat) : Int))) (rAdd _ rfl rfl rfl (by omega) (by omega) (by omega)) ?_
                  refine lm ?_
                  refine liNil (qThen ?_)
                  exact stAgain (i + 1, N ++ (stepA l f g xD).need, O ++ (stepA l f g xD).off) (⟨by omega, hN2, hO2, by rw [List.length_append]; omega, by rw [List.length_append]; omega⟩) (by show ms.length - (i + 1) < ms.length - i; omega) ⟨rfl, rfl, rfl, rfl, rfl, rfl, trivial⟩ (fun w hM => by show Mm _ _ [cAt b4 24 [(.int .i64 ((f : Nat) : Int)), (.int .i64 ((g : Nat) : Int))], cAt bs38 66 [(.slice A238 (l.length) (c238)), (.int .i64 ((f : Nat) : Int)), (.int .i64 ((g : Nat) : Int)), (.map (some nm38)), (.map (some om38))], cOwn 9 1 A238 (l.length) (c238) (SS l), cSet nm38 ((N ++ (stepA l f g xD).need)), cSet om38 ((O ++ (stepA l f g xD).off))] w; exact (fun (w : World) (h : Mm _ _ _ w) => Mm.sub h (.cons_cons _ (.cons_cons _ (.cons_cons _ (.cons_cons _ (.cons_cons _ (.cons _ (.cons _ (.cons _ (.cons _ (.cons _ (.cons _ (.cons _ (.cons _ (.cons _ (.cons _ (.cons _ (.cons _ (.cons _ .slnil))))))))))))))))))) w hM)
            · refine lnF ?_
              refine lnF ?_
              refine lnF ?_
              refine lnF ?_
              refine lnU ?_
              refine lnU ?_
              refine lnU ?_
              refine lnU ?_
              refine lnU ?_
              refine lnF ?_
              refine lnF ?_
              refine lnU ?_
              refine lnU ?_
              refine lnU ?_
              refine lnU ?_
              refine lnU ?_
              refine lnF ?_
              refine lc (.bool false) ?_
              refine liNil (qThen (stFalse rfl (stSkip (qThen (stSeq (stSeq (reg ?_)))))))
              refine lm ?_
              refine lm ?_
              refine li rfl ?_
              refine opK0 (fun w hM => (rsNeed_any bs38 A238 c238 l f g nm38 om38 (N ++ (stepA l f g xD).need) w (hM.keep0 (j := 1) rfl (fun _ h => h)) (hM.keep0 (j := 3) rfl (fun _ h => h)) (by rw [List.length_append]; omega)).mono ?_)
              rintro e w' ⟨B85, cb85, rfl, hP⟩
              refine ⟨_, _, rfl, hP, ?_⟩; clear hP hM
              refine li rfl ?_
              refine opK0 (fun w hM => (rsWithout_any B53 cb53 (withL [] N) B85 cb85 (withL [] (N ++ (stepA l f g xD).need)) w (hM.keep0 (j := 5) rfl (fun _ h => RowIn.of_own h)) (hM.keep0 (j := 8) rfl (fun _ h => RowIn.of_own h)) (by omega) (by omega)).mono ?_)
              rintro e w' ⟨B86, cb86, rfl, hP⟩
              refine ⟨_, _, rfl, hP, ?_⟩; clear hP hM
              refine lc (.int .i64 (((without (withL [] N) (withL [] (N ++ (stepA l f g xD).need))).length : Nat) : Int)) ?_
              refine lc (.bool (decide ((((without (withL [] N) (withL [] (N ++ (stepA l f g xD).need))).length : Nat) : Int) > 0))) ?_
              refine lm ?_
              refine St.known 89 (b' := false) rfl (by rw [withL_grow]; simp) ?_
              refine lgm ?_
              refine lgm ?_
              refine liGo rfl rfl ?_
              refine opK0 (fun w hM => (rsOffer_any bs38 A238 c238 l f g nm38 om38 (O ++ (stepA l f g xD).off) w (hM.keep0 (j := 1) rfl (fun _ h => h)) (hM.keep0 (j := 4) rfl (fun _ h => h)) (by rw [List.length_append]; omega)).mono ?_)
              rintro e w' ⟨B92, cb92, rfl, hP⟩
              refine ⟨_, _, rfl, hP, ?_⟩; clear hP hM
              refine St.to [cAt b4 24 [(.int .i64 ((f : Nat) : Int)), (.int .i64 ((g : Nat) : Int))], cAt bs38 66 [(.slice A238 (l.length) (c238)), (.int .i64 ((f : Nat) : Int)), (.int .i64 ((g : Nat) : Int)), (.map (some nm38)), (.map (some om38))], cOwn 9 1 A238 (l.length) (c238) (SS l), cSet nm38 (N ++ (stepA l f g xD).need), cSet om38 (O ++ (stepA l f g xD).off), cOwn 9 1 B53 ((withL [] N).length) (cb53) (SS (withL [] N)), cOwn 9 1 B55 ((withL [] O).length) (cb55) (SS (withL [] O)), cOwn 5 1 B59 (((stepA l f g xD).reply).length) (cb59) (B8 ((stepA l f g xD).reply)), cOwn 9 1 B85 ((withL [] (N ++ (stepA l f g xD).need)).length) (cb85) (SS (withL [] (N ++ (stepA l f g xD).need))), cOwn 9 1 B86 ((without (withL [] N) (withL [] (N ++ (stepA l f g xD).need))).length) (cb86) (SS (without (withL [] N) (withL [] (N ++ (stepA l f g xD).need)))), cOwn 9 1 B92 ((withL [] (O ++ (stepA l f g xD).off)).length) (cb92) (SS (withL [] (O ++ (stepA l f g xD).off)))] (by kernel_rfl) ?_
              refine liGo rfl rfl ?_
              refine opK0 (fun w hM => (rsWithout_any B55 cb55 (withL [] O) B92 cb92 (withL [] (O ++ (stepA l f g xD).off)) w (hM.keep0 (j := 6) rfl (fun _ h => RowIn.of_own h)) (hM.keep0 (j := 10) rfl (fun _ h => RowIn.of_own h)) (by omega) (by omega)).mono ?_)
              rintro e w' ⟨B93, cb93, rfl, hP⟩
              refine ⟨_, _, rfl, hP, ?_⟩; clear hP hM
              refine lgc (.int .i64 (((without (withL [] O) (withL [] (O ++ (stepA l f g xD).off))).length : Nat) : Int)) ?_
              refine lgc (.bool (decide ((((without (withL [] O) (withL [] (O ++ (stepA l f g xD).off))).length : Nat) : Int) > 0))) ?_
              refine lc (.bool (decide ((((without (withL [] O) (withL [] (O ++ (stepA l f g xD).off))).length : Nat) : Int) > 0))) ?_
              refine liNil (qThen ?_)
              refine stFalseK rfl (by rw [withL_grow]; simp) ?_
              refine stSkip (qThen (stSeq (stSeq (reg ?_))))
              refine lm ?_
              refine li rfl ?_
              refine opK0 (fun w hM => (rsNeed_any bs38 A238 c238 l f g nm38 om38 (N ++ (stepA l f g xD).need) w (hM.keep0 (j := 1) rfl (fun _ h => h)) (hM.keep0 (j := 3) rfl (fun _ h => h)) (by rw [List.length_append]; omega)).mono ?_)
              rintro e w' ⟨B98, cb98, rfl, hP⟩
              refine ⟨_, _, rfl, hP, ?_⟩; clear hP hM
              refine lc (.int .i64 (((withL [] (N ++ (stepA l f g xD).need)).length : Nat) : Int)) ?_
              refine lm ?_
              refine liNil (qThen (stBlock ?_))
              refine stLoop (ι := Nat) (fun j => j ≤ (withL [] (N ++ (stepA l f g xD).need)).length) (fun j => (withL [] (N ++ (stepA l f g xD).need)).length - j) (fun j => [(0, (.slice A (l.length) (c))), (6, (.bool false)), (7, (.pointer (some ⟨bs38, 0, none⟩))), (43, (.slice AM (ms.length) (cm))), (44, (.int .i64 ((ms.length : Nat) : Int))), (45, (.int .i64 ((i : Nat) : Int))), (98, (.slice B98 ((withL [] (N ++ (stepA l f g xD).need)).length) (cb98))), (99, (.int .i64 (((withL [] (N ++ (stepA l f g xD).need)).length : Nat) : Int))), (100, (.int .i64 ((j : Nat) : Int)))]) (fun j => [cAt b4 24 [(.int .i64 ((f : Nat) : Int)), (.int .i64 ((g : Nat) : Int))], cAt bs38 66 [(.slice A238 (l.length) (c238)), (.int .i64 ((f : Nat) : Int)), (.int .i64 ((g : Nat) : Int)), (.map (some nm38)), (.map (some om38))], cOwn 9 1 A238 (l.length) (c238) (SS l), cSet nm38 (N ++ (stepA l f g xD).need), cSet om38 (O ++ (stepA l f g xD).off), cOwn 9 1 B53 ((withL [] N).length) (cb53) (SS (withL [] N)), cOwn 9 1 B55 ((withL [] O).length) (cb55) (SS (withL [] O)), cOwn 5 1 B59 (((stepA l f g xD).reply).length) (cb59) (B8 ((stepA l f g xD).reply)), cOwn 9 1 B85 ((withL [] (N ++ (stepA l f g xD).need)).length) (cb85) (SS (withL [] (N ++ (stepA l f g xD).need))), cOwn 9 1 B86 ((without (withL [] N) (withL [] (N ++ (stepA l f g xD).need))).length) (cb86) (SS (without (withL [] N) (withL [] (N ++ (stepA l f g xD).need)))), cOwn 9 1 B92 ((withL [] (O ++ (stepA l f g xD).off)).length) (cb92) (SS (withL [] (O ++ (stepA l f g xD).off))), cOwn 9 1 B93 ((without (withL [] O) (withL [] (O ++ (stepA l f g xD).off))).length) (cb93) (SS (without (withL [] O) (withL [] (O ++ (stepA l f g xD).off)))), cOwn 9 1 B98 ((withL [] (N ++ (stepA l f g xD).need)).length) (cb98) (SS (withL [] (N ++ (stepA l f g xD).need)))]) 0 (Nat.zero_le _) ⟨rfl, rfl, rfl, rfl, rfl, rfl, rfl, rfl, rfl, trivial⟩ (fun _ h => h) ?_
              intro j hj
              show St _ _ _ [(0, (.slice A (l.length) (c))), (6, (.bool false)), (7, (.pointer (some ⟨bs38, 0, none⟩))), (43, (.slice AM (ms.length) (cm))), (44, (.int .i64 ((ms.length : Nat) : Int))), (45, (.int .i64 ((i : Nat) : Int))), (98, (.slice B98 ((withL [] (N ++ (stepA l f g xD).need)).length) (cb98))), (99, (.int .i64 (((withL [] (N ++ (stepA l f g xD).need)).length : Nat) : Int))), (100, (.int .i64 ((j : Nat) : Int)))] [cAt b4 24 [(.int .i64 ((f : Nat) : Int)), (.int .i64 ((g : Nat) : Int))], cAt bs38 66 [(.slice A238 (l.length) (c238)), (.int .i64 ((f : Nat) : Int)), (.int .i64 ((g : Nat) : Int)), (.map (some nm38)), (.map (some om38))], cOwn 9 1 A238 (l.length) (c238) (SS l), cSet nm38 (N ++ (stepA l f g xD).need), cSet om38 (O ++ (stepA l f g xD).off), cOwn 9 1 B53 ((withL [] N).length) (cb53) (SS (withL [] N)), cOwn 9 1 B55 ((withL [] O).length) (cb55) (SS (withL [] O)), cOwn 5 1 B59 (((stepA l f g xD).reply).length) (cb59) (B8 ((stepA l f g xD).reply)), cOwn 9 1 B85 ((withL [] (N ++ (stepA l f g xD).need)).length) (cb85) (SS (withL [] (N ++ (stepA l f g xD).need))), cOwn 9 1 B86 ((without (withL [] N) (withL [] (N ++ (stepA l f g xD).need))).length) (cb86) (SS (without (withL [] N) (withL [] (N ++ (stepA l f g xD).need)))), cOwn 9 1 B92 ((withL [] (O ++ (stepA l f g xD).off)).length) (cb92) (SS (withL [] (O ++ (stepA l f g xD).off))), cOwn 9 1 B93 ((without (withL [] O) (withL [] (O ++ (stepA l f g xD).off))).length) (cb93) (SS (without (withL [] O) (withL [] (O ++ (stepA l f g xD).off)))), cOwn 9 1 B98 ((withL [] (N ++ (stepA l f g xD).need)).length) (cb98) (SS (withL [] (N ++ (stepA l f g xD).need)))] _
              refine stSeq (reg ?_)
              refine lc (.bool (decide (((j : Nat) : Int) < (((withL [] (N ++ (stepA l f g xD).need)).length : Nat) : Int)))) ?_
              refine liNil (qThen (stSeq ?_))
              refine stCond rfl (fun hc101 => ?_) (fun hc101 => ?_)
              · have hd101 := of_decide_eq_true hc101
                refine stSkip (qThen (stSeq (stBlock (stSeq (reg ?_)))))
                obtain ⟨x1, hx1⟩ : ∃ ξ, (withL [] (N ++ (stepA l f g xD).need))[j]? = some ξ := ⟨_, List.getElem?_eq_getElem (by omega)⟩
                refine St.rowPtr (fun w hM => rowOwn (i := 12) rfl w hM) (SS_at hx1) (fun p102 q102 hA102 hc102 => ?_)
                refine lv (v := (.pointer (some ⟨p102, q102 + j, none⟩))) (rIndexRow (e := 9) rfl (by kernel_rfl) (by kernel_rfl) rfl rfl hA102 (by omega)) ?_
                refine lv (v := (.string (strOf x1))) (rLoadW rfl rfl (by kernel_rfl) hc102) ?_
                have hxn := hN2 _ (mem_withL0.1 (List.mem_of_getElem? hx1))
                refine la ?_
                refine liNil (qThen (stSeq (reg ?_)))
                refine lm ?_
                refine lm ?_
                refine li rfl ?_
                refine opK0 (fun w hM => (rsHas_any A c l x1 w (r1.go0 hM) (by omega)).mono ?_)
                rintro e w' ⟨rfl, hP⟩
                refine ⟨_, _, rfl, hP, ?_⟩; clear hP hM
                refine lm ?_
                refine St.known 107 (b' := false) rfl (by simpa using hxn.1) ?_
                refine lgm ?_
                refine lgv (v := (.int .i64 (((x1).length : Nat) : Int))) (rLenS rfl rfl (by kernel_rfl)) ?_
                refine lgc (.bool (((((x1).length : Nat) : Int) : Int) != 32)) ?_
                refine lc (.bool (((((x1).length : Nat) : Int) : Int) != 32)) ?_
                refine liNil (qThen ?_)
                refine stFalseK rfl (by rw [hxn.2]; rfl) ?_
                refine stSkip (qBlock (qThen (reg ?_)))
                refine lv (v := (.int .i64 ((j + 1 : Nat) : Int))) (rAdd _ rfl rfl rfl (by omega) (by omega) (by omega)) ?_
                refine lm ?_
                refine liNil (qThen ?_)
                exact stAgain (j + 1) (by show _ ≤ _; omega) (by show (withL [] (N ++ (stepA l f g xD).need)).length - (j + 1) < (withL [] (N ++ (stepA l f g xD).need)).length - j; omega) ⟨rfl, rfl, rfl, rfl, rfl, rfl, rfl, rfl, rfl, trivial⟩ (fun w hM => by show Mm _ _ [cAt b4 24 [(.int .i64 ((f : Nat) : Int)), (.int .i64 ((g : Nat) : Int))], cAt bs38 66 [(.slice A238 (l.length) (c238)), (.int .i64 ((f : Nat) : Int)), (.int .i64 ((g : Nat) : Int)), (.map (some nm38)), (.map (some om38))], cOwn 9 1 A238 (l.length) (c238) (SS l), cSet nm38 (N ++ (stepA l f g xD).need), cSet om38 (O ++ (stepA l f g xD).off), cOwn 9 1 B53 ((withL [] N).length) (cb53) (SS (withL [] N)), cOwn 9 1 B55 ((withL [] O).length) (cb55) (SS (withL [] O)), cOwn 5 1 B59 (((stepA l f g xD).reply).length) (cb59) (B8 ((stepA l f g xD).reply)), cOwn 9 1 B85 ((withL [] (N ++ (stepA l f g xD).need)).length) (cb85) (SS (withL [] (N ++ (stepA l f g xD).need))), cOwn 9 1 B86 ((without (withL [] N) (withL [] (N ++ (stepA l f g xD).need))).length) (cb86) (SS (without (withL [] N) (withL [] (N ++ (stepA l f g xD).need)))), cOwn 9 1 B92 ((withL [] (O ++ (stepA l f g xD).off)).length) (cb92) (SS (withL [] (O ++ (stepA l f g xD).off))), cOwn 9 1 B93 ((without (withL [] O) (withL [] (O ++ (stepA l f g xD).off))).length) (cb93) (SS (without (withL [] O) (withL [] (O ++ (stepA l f g xD).off)))), cOwn 9 1 B98 ((withL [] (N ++ (stepA l f g xD).need)).length) (cb98) (SS (withL [] (N ++ (stepA l f g xD).need)))] w; exact hM)
              · have hd101 := of_decide_eq_false hc101
                refine stExit (qThenX (qThenX (qBlockX (qThen (stSeq (stSeq (reg ?_)))))))
                refine lm ?_
                refine li rfl ?_
                refine opK0 (fun w hM => (rsOffer_any bs38 A238 c238 l f g nm38 om38 (O ++ (stepA l f g xD).off) w (hM.keep0 (j := 1) rfl (fun _ h => h)) (hM.keep0 (j := 4) rfl (fun _ h => h)) (by rw [List.length_append]; omega)).mono ?_)
                rintro e w' ⟨B114, cb114, rfl, hP⟩
                refine ⟨_, _, rfl, hP, ?_⟩; clear hP hM
                refine lc (.int .i64 (((withL [] (O ++ (stepA l f g xD).off)).length : Nat) : Int)) ?_
                refine lm ?_
                refine liNil (qThen (stBlock ?_))
                refine stLoop (ι := Nat) (fun j => j ≤ (withL [] (O ++ (stepA l f g xD).off)).length) (fun j => (withL [] (O ++ (stepA l f g xD).off)).length - j) (fun j => [(0, (.slice A (l.length) (c))), (6, (.bool false)), (7, (.pointer (some ⟨bs38, 0, none⟩))), (43, (.slice AM (ms.length) (cm))), (44, (.int .i64 ((ms.length : Nat) : Int))), (45, (.int .i64 ((i : Nat) : Int))), (114, (.slice B114 ((withL [] (O ++ (stepA l f g xD).off)).length) (cb114))), (115, (.int .i64 (((withL [] (O ++ (stepA l f g xD).off)).length : Nat) : Int))), (116, (.int .i64 ((j : Nat) : Int)))]) (fun j => [cAt b4 24 [(.int .i64 ((f : Nat) : Int)), (.int .i64 ((g : Nat) : Int))], cAt bs38 66 [(.slice A238 (l.length) (c238)), (.int .i64 ((f : Nat) : Int)), (.int .i64 ((g : Nat) : Int)), (.map (some nm38)), (.map (some om38))], cOwn 9 1 A238 (l.length) (c238) (SS l), cSet nm38 (N ++ (stepA l f g xD).need), cSet om38 (O ++ (stepA l f g xD).off), cOwn 9 1 B53 ((withL [] N).length) (cb53) (SS (withL [] N)), cOwn 9 1 B55 ((withL [] O).length) (cb55) (SS (withL [] O)), cOwn 5 1 B59 (((stepA l f g xD).reply).length) (cb59) (B8 ((stepA l f g xD).reply)), cOwn 9 1 B85 ((withL [] (N ++ (stepA l f g xD).need)).length) (cb85) (SS (withL [] (N ++ (stepA l f g xD).need))), cOwn 9 1 B86 ((without (withL [] N) (withL [] (N ++ (stepA l f g xD).need))).length) (cb86) (SS (without (withL [] N) (withL [] (N ++ (stepA l f g xD).need)))), cOwn 9 1 B92 ((withL [] (O ++ (stepA l f g xD).off)).length) (cb92) (SS (withL [] (O ++ (stepA l f g xD).off))), cOwn 9 1 B93 ((without (withL [] O) (withL [] (O ++ (stepA l f g xD).off))).length) (cb93) (SS (without (withL [] O) (withL [] (O ++ (stepA l f g xD).off)))), cOwn 9 1 B98 ((withL [] (N ++ (stepA l f g xD).need)).length) (cb98) (SS (withL [] (N ++ (stepA l f g xD).need))), cOwn 9 1 B114 ((withL [] (O ++ (stepA l f g xD).off)).length) (cb114) (SS (withL [] (O ++ (stepA l f g xD).off)))]) 0 (Nat.zero_le _) ⟨rfl, rfl, rfl, rfl, rfl, rfl, rfl, rfl, rfl, trivial⟩ (fun _ h => h) ?_
                intro j hj
                show St _ _ _ [(0, (.slice A (l.length) (c))), (6, (.bool false)), (7, (.pointer (some ⟨bs38, 0, none⟩))), (43, (.slice AM (ms.length) (cm))), (44, (.int .i64 ((ms.length : Nat) : Int))), (45, (.int .i64 ((i : Nat) : Int))), (114, (.slice B114 ((withL [] (O ++ (stepA l f g xD).off)).length) (cb114))), (115, (.int .i64 (((withL [] (O ++ (stepA l f g xD).off)).length : Nat) : Int))), (116, (.int .i64 ((j : Nat) : Int)))] [cAt b4 24 [(.int .i64 ((f : Nat) : Int)), (.int .i64 ((g : Nat) : Int))], cAt bs38 66 [(.slice A238 (l.length) (c238)), (.int .i64 ((f : Nat) : Int)), (.int .i64 ((g : Nat) : Int)), (.map (some nm38)), (.map (some om38))], cOwn 9 1 A238 (l.length) (c238) (SS l), cSet nm38 (N ++ (stepA l f g xD).need), cSet om38 (O ++ (stepA l f g xD).off), cOwn 9 1 B53 ((withL [] N).length) (cb53) (SS (withL [] N)), cOwn 9 1 B55 ((withL [] O).length) (cb55) (SS (withL [] O)), cOwn 5 1 B59 (((stepA l f g xD).reply).length) (cb59) (B8 ((stepA l f g xD).reply)), cOwn 9 1 B85 ((withL [] (N ++ (stepA l f g xD).need)).length) (cb85) (SS (withL [] (N ++ (stepA l f g xD).need))), cOwn 9 1 B86 ((without (withL [] N) (withL [] (N ++ (stepA l f g xD).need))).length) (cb86) (SS (without (withL [] N) (withL [] (N ++ (stepA l f g xD).need)))), cOwn 9 1 B92 ((withL [] (O ++ (stepA l f g xD).off)).length) (cb92) (SS (withL [] (O ++ (stepA l f g xD).off))), cOwn 9 1 B93 ((without (withL [] O) (withL [] (O ++ (stepA l f g xD).off))).length) (cb93) (SS (without (withL [] O) (withL [] (O ++ (stepA l f g xD).off)))), cOwn 9 1 B98 ((withL [] (N ++ (stepA l f g xD).need)).length) (cb98) (SS (withL [] (N ++ (stepA l f g xD).need))), cOwn 9 1 B114 ((withL [] (O ++ (stepA l f g xD).off)).length) (cb114) (SS (withL [] (O ++ (stepA l f g xD).off)))] _
                refine stSeq (reg ?_)
                refine lc (.bool (decide (((j : Nat) : Int) < (((withL [] (O ++ (stepA l f g xD).off)).length : Nat) : Int)))) ?_
                refine liNil (qThen (stSeq ?_))
                refine stCond rfl (fun hc117 => ?_) (fun hc117 => ?_)
                · have hd117 := of_decide_eq_true hc117
                  refine stSkip (qThen (stSeq (stBlock (stSeq (reg ?_)))))
                  obtain ⟨x1, hx1⟩ : ∃ ξ, (withL [] (O ++ (stepA l f g xD).off))[j]? = some ξ := ⟨_, List.getElem?_eq_getElem (by omega)⟩
                  refine St.rowPtr (fun w hM => rowOwn (i := 13) rfl w hM) (SS_at hx1) (fun p118 q118 hA118 hc118 => ?_)
                  refine lv (v := (.pointer (some ⟨p118, q118 + j, none⟩))) (rIndexRow (e := 9) rfl (by kernel_rfl) (by kernel_rfl) rfl rfl hA118 (by omega)) ?_
                  refine lv (v := (.string (strOf x1))) (rLoadW rfl rfl (by kernel_rfl) hc118) ?_
                  have hxo := hO2 _ (mem_withL0.1 (List.mem_of_getElem? hx1))
                  refine la ?_
                  refine liNil (qThen (stSeq (reg ?_)))
                  refine lm ?_
                  refine lm ?_
                  refine li rfl ?_
                  refine opK0 (fun w hM => (rsHas_any A c l x1 w (r1.go0 hM) (by omega)).mono ?_)
                  rintro e w' ⟨rfl, hP⟩
                  refine ⟨_, _, rfl, hP, ?_⟩; clear hP hM
                  refine lc (.bool (!(l.contains x1))) ?_
                  refine liNil (qThen ?_)
                  refine stFalseK rfl (by simpa using hxo) ?_
                  refine stSkip (qBlock (qThen (reg ?_)))
                  refine lv (v := (.int .i64 ((j + 1 : Nat) : Int))) (rAdd _ rfl rfl rfl (by omega) (by omega) (by omega)) ?_
                  refine lm ?_
                  refine liNil (qThen ?_)
                  exact stAgain (j + 1) (by show _ ≤ _; omega) (by show (withL [] (O ++ (stepA l f g xD).off)).length - (j + 1) < (withL [] (O ++ (stepA l f g xD).off)).length - j; omega) ⟨rfl, rfl, rfl, rfl, rfl, rfl, rfl, rfl, rfl, trivial⟩ (fun w hM => by show Mm _ _ [cAt b4 24 [(.int .i64 ((f : Nat) : Int)), (.int .i64 ((g : Nat) : Int))], cAt bs38 66 [(.slice A238 (l.length) (c238)), (.int .i64 ((f : Nat) : Int)), (.int .i64 ((g : Nat) : Int)), (.map (some nm38)), (.map (some om38))], cOwn 9 1 A238 (l.length) (c238) (SS l), cSet nm38 (N ++ (stepA l f g xD).need), cSet om38 (O ++ (stepA l f g xD).off), cOwn 9 1 B53 ((withL [] N).length) (cb53) (SS (withL [] N)), cOwn 9 1 B55 ((withL [] O).length) (cb55) (SS (withL [] O)), cOwn 5 1 B59 (((stepA l f g xD).reply).length) (cb59) (B8 ((stepA l f g xD).reply)), cOwn 9 1 B85 ((withL [] (N ++ (stepA l f g xD).need)).length) (cb85) (SS (withL [] (N ++ (stepA l f g xD).need))), cOwn 9 1 B86 ((without (withL [] N) (withL [] (N ++ (stepA l f g xD).need))).length) (cb86) (SS (without (withL [] N) (withL [] (N ++ (stepA l f g xD).need)))), cOwn 9 1 B92 ((withL [] (O ++ (stepA l f g xD).off)).length) (cb92) (SS (withL [] (O ++ (stepA l f g xD).off))), cOwn 9 1 B93 ((without (withL [] O) (withL [] (O ++ (stepA l f g xD).off))).length) (cb93) (SS (without (withL [] O) (withL [] (O ++ (stepA l f g xD).off)))), cOwn 9 1 B98 ((withL [] (N ++ (stepA l f g xD).need)).length) (cb98) (SS (withL [] (N ++ (stepA l f g xD).need))), cOwn 9 1 B114 ((withL [] (O ++ (stepA l f g xD).off)).length) (cb114) (SS (withL [] (O ++ (stepA l f g xD).off)))] w; exact hM)
                · have hd117 := of_decide_eq_false hc117
                  refine stExit (qThenX (qThenX (qBlockX (qThen (stSeq (reg ?_))))))
                  refine lm ?_
                  refine li rfl ?_
                  refine opK0 (fun w hM => (rsNeed_any bs38 A238 c238 l f g nm38 om38 (N ++ (stepA l f g xD).need) w (hM.keep0 (j := 1) rfl (fun _ h => h)) (hM.keep0 (j := 3) rfl (fun _ h => h)) (by rw [List.length_append]; omega)).mono ?_)
                  rintro e w' ⟨B126, cb126, rfl, hP⟩
                  refine ⟨_, _, rfl, hP, ?_⟩; clear hP hM
                  refine li rfl ?_
                  refine opK0 (fun w hM => (rsSet_any B126 cb126 (withL [] (N ++ (stepA l f g xD).need)) w (hM.keep0 (j := 14) rfl (fun _ h => RowIn.of_own h)) (by omega)).mono ?_)
                  rintro e w' ⟨rfl, hP⟩
                  refine ⟨_, _, rfl, hP, ?_⟩; clear hP hM
                  refine lc (.bool (((setE (withL [] (N ++ (stepA l f g xD).need))) : Int) != 0)) ?_
                  refine lm ?_
                  refine St.known 129 (b' := false) rfl (by rw [hn1]; rfl) ?_
                  refine lgm ?_
                  refine liGo rfl rfl ?_
                  refine opK0 (fun w hM => (rsOffer_any bs38 A238 c238 l f g nm38 om38 (O ++ (stepA l f g xD).off) w (hM.keep0 (j := 1) rfl (fun _ h => h)) (hM.keep0 (j := 4) rfl (fun _ h => h)) (by rw [List.length_append]; omega)).mono ?_)
                  rintro e w' ⟨B131, cb131, rfl, hP⟩
                  refine ⟨_, _, rfl, hP, ?_⟩; clear hP hM
                  refine St.to [cAt b4 24 [(.int .i64 ((f : Nat) : Int)), (.int .i64 ((g : Nat) : Int))], cAt bs38 66 [(.slice A238 (l.length) (c238)), (.int .i64 ((f : Nat) : Int)), (.int .i64 ((g : Nat) : Int)), (.map (some nm38)), (.map (some om38))], cOwn 9 1 A238 (l.length) (c238) (SS l), cSet nm38 (N ++ (stepA l f g xD).need), cSet om38 (O ++ (stepA l f g xD).off), cOwn 9 1 B53 ((withL [] N).length) (cb53) (SS (withL [] N)), cOwn 9 1 B55 ((withL [] O).length) (cb55) (SS (withL [] O)), cOwn 5 1 B59 (((stepA l f g xD).reply).length) (cb59) (B8 ((stepA l f g xD).reply)), cOwn 9 1 B85 ((withL [] (N ++ (stepA l f g xD).need)).length) (cb85) (SS (withL [] (N ++ (stepA l f g xD).need))), cOwn 9 1 B86 ((without (withL [] N) (withL [] (N ++ (stepA l f g xD).need))).length) (cb86) (SS (without (withL [] N) (withL [] (N ++ (stepA l f g xD).need)))), cOwn 9 1 B92 ((withL [] (O ++ (stepA l f g xD).off)).length) (cb92) (SS (withL [] (O ++ (stepA l f g xD).off))), cOwn 9 1 B93 ((without (withL [] O) (withL [] (O ++ (stepA l f g xD).off))).length) (cb93) (SS (without (withL [] O) (withL [] (O ++ (stepA l f g xD).off)))), cOwn 9 1 B98 ((withL [] (N ++ (stepA l f g xD).need)).length) (cb98) (SS (withL [] (N ++ (stepA l f g xD).need))), cOwn 9 1 B114 ((withL [] (O ++ (stepA l f g xD).off)).length) (cb114) (SS (withL [] (O ++ (stepA l f g xD).off))), cOwn 9 1 B126 ((withL [] (N ++ (stepA l f g xD).need)).length) (cb126) (SS (withL [] (N ++ (stepA l f g xD).need))), cOwn 9 1 B131 ((withL [] (O ++ (stepA l f g xD).off)).length) (cb131) (SS (withL [] (O ++ (stepA l f g xD).off)))] (by kernel_rfl) ?_
                  refine liGo rfl rfl ?_
                  refine opK0 (fun w hM => (rsSet_any B131 cb131 (withL [] (O ++ (stepA l f g xD).off)) w (hM.keep0 (j := 15) rfl (fun _ h => RowIn.of_own h)) (by omega)).mono ?_)
                  rintro e w' ⟨rfl, hP⟩
                  refine ⟨_, _, rfl, hP, ?_⟩; clear hP hM
                  refine lgc (.bool (((setE (withL [] (O ++ (stepA l f g xD).off))) : Int) != 0)) ?_
                  refine lc (.bool (((setE (withL [] (O ++ (stepA l f g xD).off))) : Int) != 0)) ?_
                  refine liNil (qThen ?_)
                  refine stFalseK rfl (by rw [ho2.1]; rfl) ?_
                  refine stSkip (qBlock (qThen (reg ?_)))
                  refine lv (v := (.int .i64 ((i + 1 : Nat) : Int))) (rAdd _ rfl rfl rfl (by omega) (by omega) (by omega)) ?_
                  refine lm ?_
                  refine liNil (qThen ?_)
                  exact stAgain (i + 1, N ++ (stepA l f g xD).need, O ++ (stepA l f g xD).off) (⟨by omega, hN2, hO2, by rw [List.length_append]; omega, by rw [List.length_append]; omega⟩) (by show ms.length - (i + 1) < ms.length - i; omega) ⟨rfl, rfl, rfl, rfl, rfl, rfl, trivial⟩ (fun w hM => by show Mm _ _ [cAt b4 24 [(.int .i64 ((f : Nat) : Int)), (.int .i64 ((g : Nat) : Int))], cAt bs38 66 [(.slice A238 (l.length) (c238)), (.int .i64 ((f : Nat) : Int)), (.int .i64 ((g : Nat) : Int)), (.map (some nm38)), (.map (some om38))], cOwn 9 1 A238 (l.length) (c238) (SS l), cSet nm38 ((N ++ (stepA l f g xD).need)), cSet om38 ((O ++ (stepA l f g xD).off))] w; exact (fun (w : World) (h : Mm _ _ _ w) => Mm.sub h (.cons_cons _ (.cons_cons _ (.cons_cons _ (.cons_cons _ (.cons_cons _ (.cons _ (.cons _ (.cons _ (.cons _ (.cons _ (.cons _ (.cons _ (.cons _ (.cons _ (.cons _ (.cons _ .slnil))))))))))))))))) w hM)
        · have hd46 := of_decide_eq_false hc46
          refine stExit (qThenX (qThenX (qBlockX (qThen (stSeq (reg ?_))))))
          refine la ?_
          refine liNil (qThen (stRet ?_))
          refine stEnd [(.bool true)] rfl ⟨rfl, trivial⟩ (fun w hM => ?_)
          exact ⟨rfl, (fun (w : World) (h : Mm _ _ _ w) => Mm.sub h (.cons _ (.cons _ (.cons _ (.cons _ (.cons _ .slnil)))))) w hM⟩

end Go.Proofs.YtlepfnihpdhcaaaGreatDoor
