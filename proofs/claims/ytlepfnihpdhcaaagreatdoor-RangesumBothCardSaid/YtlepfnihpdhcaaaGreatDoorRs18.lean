/- RangesumBoth. -/
import Derived.Test.YtlepfnihpdhcaaaGreatDoorRs16
import Derived.LaidEql
namespace Go.Proofs.YtlepfnihpdhcaaaGreatDoor
open Go.RowKit

theorem coll_symm {a b : List Bs} (h : ¬ collP a b) : ¬ collP b a := by
  rintro ⟨i, j, k, h1, h2, h3, h4, h5, h6⟩
  have e : i + (k + j - i) - k = j := by omega
  exact h ⟨k, k + j - i, i, by omega, h4, by omega, by rw [e]; exact h2, by rw [e]; exact fun q => h5 q.symm, by rw [e]; exact h6.symm⟩
theorem run_eql_ptr {P : Program} {ty te : TypeId} {n : Nat} {a b : Addr} {r : Bool} {w : World} (ht : P.underlying ty = some (.pointer te)) (hsz : sizeT P te = some (n + 1)) (h : (sameAddr a b).run P w = .ok r w) : (binOp .eql ty (.pointer (some a)) (.pointer (some b))).run P w = .ok (.bool r) w := by
  unfold sizeT at hsz
  cases hi : P.info? te with
  | none => rw [hi] at hsz; cases hsz
  | some j =>
    rw [hi] at hsz
    have hn : j.size = n + 1 := by simpa using hsz
    have hE : ∀ q, (Op.equalIn (q + 1) ty (.pointer (some a)) (.pointer (some b))).run P w = .ok r w := fun q => by simp [Op.equalIn, run_underlying ht, typeInfo, sizeOf, hi, hn, h]
    simp only [binOp]
    simp [Op.equal, Op.maxDepth, hE 9999]
section
variable {P : Program} {w0 : World} {F : List Nat} {E : Env} {cs : List Ch} {o : Oper}
theorem rPtrSame {ty te u : TypeId} {n : Nat} {x y : Operand} {a : Addr} (ho : o.op = .binOp .eql ty x y u) (hx : evO E x = some (.pointer (some a))) (hy : evO E y = some (.pointer (some a))) (ht : P.underlying ty = some (.pointer te)) (hsz : sizeT P te = some (n + 1)) : RunV P w0 F cs E o (.bool true) := fun w _ => by
  have hb := run_eql_ptr ht hsz (run_sameAddr_same w a)
  unfold execOp
  simp only [ho, evE_of hx, evE_of hy]
  simp [eqGuard, hb]
theorem rPtrNe {ty te u t t' : TypeId} {n i j b b' : Nat} {x y : Operand} {l l' : List Value} (ho : o.op = .binOp .eql ty x y u) (hx : evO E x = some (.pointer (some ⟨b, 0, none⟩))) (hy : evO E y = some (.pointer (some ⟨b', 0, none⟩))) (ht : P.underlying ty = some (.pointer te)) (hsz : sizeT P te = some (n + 1)) (hi : cs[i]? = some (cAt b t l)) (hj : cs[j]? = some (cAt b' t' l')) (hij : i ≠ j) : RunV P w0 F cs E o (.bool false) := fun w hM => by
  have h1 : At w b t l := hM.at hi
  have h2 : At w b' t' l' := hM.at hj
  have hne : b ≠ b' := fun e => nodup_flat_ne hM.nodup hi hj hij b (by simp [cAt]) (by simp [cAt, e])
  have hb := run_eql_ptr ht hsz (run_sameAddr_other w (a := ⟨b, 0, none⟩) (b := ⟨b', 0, none⟩) (fun e => hne (congrArg Addr.block e)) h1 h2)
  unfold execOp
  simp only [ho, evE_of hx, evE_of hy]
  simp [eqGuard, hb]
end

set_option maxRecDepth 100000 in
set_option maxHeartbeats 1000000 in
theorem lawBoth_any (A : Option Addr) (c : Nat) (a : List (List UInt8)) (A2 : Option Addr) (c2 : Nat) (b : List (List UInt8)) (fan : Int) (leaf : Int) (w : World) (r0 : Rf [] w (Vars)) (r1 : Rf [] w (fun w => RowIn w A (SS a))) (r2 : Rf [] w (fun w => RowIn w A2 (SS b))) (hla : a.length ≤ 9223372036854775807) (hlb : b.length ≤ 9223372036854775807) (hca : a.length ≤ c) (hcb : b.length ≤ c2) :
    Calls Tryz.prog 6 #[(.slice A (a.length) (c)), (.slice A2 (b.length) (c2)), (.agg #[(.int .i64 fan), (.int .i64 leaf)])] w fun e w' => e = .returned (.bool true) ∧ Back [] w [] w' := by
  refine stEnter (args := [(.slice A (a.length) (c)), (.slice A2 (b.length) (c2)), (.agg #[(.int .i64 fan), (.int .i64 leaf)])]) (fps []) Tryz.func6 rfl 176 rfl [(0, (.slice A (a.length) (c))), (1, (.slice A2 (b.length) (c2))), (2, (.agg #[(.int .i64 fan), (.int .i64 leaf)]))] ⟨rfl, rfl, rfl, trivial⟩ [] (Mm.start w []) ?_
  refine stSeq (reg (li rfl ?_))
  refine opBox [(.int .i64 fan), (.int .i64 leaf)] rfl rfl (by kernel_rfl) rfl rfl (fun b5 => ?_)
  refine la ?_
  refine liNil (qThen (stSeq (stSeq (reg (li rfl ?_)))))
  refine opK0 (fun w hM => (lsAwake_any  w (r0.go0 hM)).mono ?_)
  rintro e w' ⟨rfl, hP⟩
  refine ⟨_, _, rfl, hP, ?_⟩; clear hP hM
  refine lc (.bool false) ?_
  refine liNil (qThen (stFalse rfl (stSkip (qThen (stSeq (stSeq ?_))))))
  refine St.to [cAt b5 24 [(.int .i64 fan), (.int .i64 leaf)]] (by kernel_rfl) ?_
  refine reg ?_
  refine lm ?_
  refine li rfl ?_
  refine opK0 (fun w hM => (lsSet_any A c a w (r1.go0 hM) (by omega)).mono ?_)
  rintro e w' ⟨rfl, hP⟩
  refine ⟨_, _, rfl, hP, ?_⟩; clear hP hM
  refine lc (.bool (!(setB a))) ?_
  refine lm ?_
  refine St.dec 32 rfl (fun hc32 => ?_) (fun hc32 => ?_)
  · refine lnT ?_
    refine lnT ?_
    refine lnT ?_
    refine lc (.bool true) ?_
    refine lm ?_
    refine lnT ?_
    refine lnT ?_
    refine lnT ?_
    refine lc (.bool true) ?_
    refine liNil (qThen (stTrue rfl (stSeq (reg ?_))))
    refine la ?_
    refine liNil (qThen (stRet (qThenR ?_)))
    refine stEnd [(.bool true)] rfl ⟨rfl, trivial⟩ (fun w hM => ?_)
    exact ⟨rfl, (fun (w : World) (h : Mm _ _ _ w) => Mm.sub h (.cons _ .slnil)) w hM⟩
  · refine lgm ?_
    refine liGo rfl rfl ?_
    refine opK0 (fun w hM => (lsSet_any A2 c2 b w (r2.go0 hM) (by omega)).mono ?_)
    rintro e w' ⟨rfl, hP⟩
    refine ⟨_, _, rfl, hP, ?_⟩; clear hP hM
    refine lgc (.bool (!(setB b))) ?_
    refine lc (.bool (!(setB b))) ?_
    refine lm ?_
    refine St.dec 37 rfl (fun hc37 => ?_) (fun hc37 => ?_)
    · refine lnT ?_
      refine lnT ?_
      refine lnT ?_
      refine lc (.bool true) ?_
      refine liNil (qThen (stTrue rfl (stSeq ?_)))
      refine St.to [cAt b5 24 [(.int .i64 fan), (.int .i64 leaf)]] (by kernel_rfl) ?_
      refine reg ?_
      refine la ?_
      refine liNil (qThen (stRet (qThenR ?_)))
      refine stEnd [(.bool true)] rfl ⟨rfl, trivial⟩ (fun w hM => ?_)
      exact ⟨rfl, (fun (w : World) (h : Mm _ _ _ w) => Mm.sub h (.cons _ .slnil)) w hM⟩
    · refine lgv (v := (.agg #[(.int .i64 fan), (.int .i64 leaf)])) (rLoadA [(.int .i64 fan), (.int .i64 leaf)] rfl rfl (by kernel_rfl) (by kernel_rfl) (segAt (i := 0) rfl (by intro j v hj; first | (rw [Nat.zero_add]; exact hj) | (match j, hj with | 0, h => exact h | 1, h => exact h)))) ?_
      refine liGo rfl rfl ?_
      refine opK0 (fun w hM => (rsValid_any fan leaf w ).mono ?_)
      rintro e w' ⟨rfl, hP⟩
      refine ⟨_, _, rfl, hP, ?_⟩; clear hP hM
      refine lgc (.bool (!(okP fan leaf))) ?_
      refine lc (.bool (!(okP fan leaf))) ?_
      refine liNil (qThen ?_)
      refine stCond rfl (fun hc41 => ?_) (fun hc41 => ?_)
      · refine stSeq (reg ?_)
        refine la ?_
        refine liNil (qThen (stRet (qThenR ?_)))
        refine stEnd [(.bool true)] rfl ⟨rfl, trivial⟩ (fun w hM => ?_)
        exact ⟨rfl, (fun (w : World) (h : Mm _ _ _ w) => Mm.sub h (.cons _ .slnil)) w hM⟩
      · obtain ⟨hsa, ha4⟩ := setB_ok (by simpa using hc32)
        obtain ⟨hsb, hb4⟩ := setB_ok (by simpa using hc37)
        have hop : okP fan leaf = true := by simpa using hc41
        obtain ⟨⟨f, rfl⟩, g, rfl⟩ := okP_nat hop
        obtain ⟨hf, hf2, hl1, hl2⟩ := okP_bnds hop
        have hS : Sets a b f g := ⟨hsa, hsb, ha4, hb4, hf, hf2, hl1, hl2⟩
        obtain ⟨K, hK, hK1, hKb, hmK, hmj⟩ := run_ends hS
        have hKl := hK.le
        obtain ⟨hlx, hly⟩ := run_small hS hKl hmK
        have hS2 : Sets b a f g := ⟨hsb, hsa, hb4, ha4, hf, hf2, hl1, hl2⟩
        obtain ⟨K2, hK2, hK12, hKb2, hmK2, hmj2⟩ := run_ends hS2
        have hKl2 := hK2.le
        obtain ⟨hlx2, hly2⟩ := run_small hS2 hKl2 hmK2
        have hea : setE a = 0 := setE_ok (by omega) hsa
        have heb : setE b = 0 := setE_ok (by omega) hsb
        have ha1 : a.length ≤ 1000 := by omega
        have hb1 : b.length ≤ 1000 := by omega
        obtain ⟨hbo1, hbo2⟩ := run_both hS hKl hmK
        refine stSkip (qThen (stSeq (reg ?_)))
        refine lm ?_
        refine lv (v := (.agg #[(.int .i64 ((f : Nat) : Int)), (.int .i64 ((g : Nat) : Int))])) (rLoadA [(.int .i64 ((f : Nat) : Int)), (.int .i64 ((g : Nat) : Int))] rfl rfl (by kernel_rfl) (by kernel_rfl) (segAt (i := 0) rfl (by intro j v hj; first | (rw [Nat.zero_add]; exact hj) | (match j, hj with | 0, h => exact h | 1, h => exact h)))) ?_
        refine li rfl ?_
        refine opK0 (fun w hM => (lsParams_any ((f : Nat) : Int) ((g : Nat) : Int) w ).mono ?_)
        rintro e w' ⟨rfl, hP⟩
        refine ⟨_, _, rfl, hP, ?_⟩; clear hP hM
        refine li rfl ?_
        refine opK0 (fun w hM => (rsNew_ok A c a f g w (r1.go0 hM) (by omega) (hop) (by assumption)).mono ?_)
        rintro e w' ⟨bs46, A246, c246, nm46, om46, rfl, hP⟩
        refine ⟨_, _, rfl, hP, ?_⟩; clear hP hM
        refine lm ?_
        refine lc (.pointer (some ⟨bs46, 0, none⟩)) ?_
        refine lc (.int .i64 0) ?_
        refine la ?_
        refine la ?_
        refine liNil (qThen (stSeq ?_))
        refine St.to [cAt b5 24 [(.int .i64 ((f : Nat) : Int)), (.int .i64 ((g : Nat) : Int))], cAt bs46 66 [(.slice A246 (a.length) (c246)), (.int .i64 ((f : Nat) : Int)), (.int .i64 ((g : Nat) : Int)), (.map (some nm46)), (.map (some om46))], cOwn 9 1 A246 (a.length) (c246) (SS a), cSet nm46 ([]), cSet om46 ([])] (by kernel_rfl) ?_
        refine reg ?_
        refine lm ?_
        refine lv (v := (.agg #[(.int .i64 ((f : Nat) : Int)), (.int .i64 ((g : Nat) : Int))])) (rLoadA [(.int .i64 ((f : Nat) : Int)), (.int .i64 ((g : Nat) : Int))] rfl rfl (by kernel_rfl) (by kernel_rfl) (segAt (i := 0) rfl (by intro j v hj; first | (rw [Nat.zero_add]; exact hj) | (match j, hj with | 0, h => exact h | 1, h => exact h)))) ?_
        refine li rfl ?_
        refine opK0 (fun w hM => (lsParams_any ((f : Nat) : Int) ((g : Nat) : Int) w ).mono ?_)
        rintro e w' ⟨rfl, hP⟩
        refine ⟨_, _, rfl, hP, ?_⟩; clear hP hM
        refine li rfl ?_
        refine opK0 (fun w hM => (rsNew_ok A2 c2 b f g w (r2.go0 hM) (by omega) (hop) (by assumption)).mono ?_)
        rintro e w' ⟨bs53, A253, c253, nm53, om53, rfl, hP⟩
        refine ⟨_, _, rfl, hP, ?_⟩; clear hP hM
        refine lm ?_
        refine lc (.pointer (some ⟨bs53, 0, none⟩)) ?_
        refine lc (.int .i64 0) ?_
        refine la ?_
        refine la ?_
        refine liNil (qThen (stSeq (stSeq ?_)))
        refine St.to [cAt b5 24 [(.int .i64 ((f : Nat) : Int)), (.int .i64 ((g : Nat) : Int))], cAt bs46 66 [(.slice A246 (a.length) (c246)), (.int .i64 ((f : Nat) : Int)), (.int .i64 ((g : Nat) : Int)), (.map (some nm46)), (.map (some om46))], cOwn 9 1 A246 (a.length) (c246) (SS a), cSet nm46 ([]), cSet om46 ([]), cAt bs53 66 [(.slice A253 (b.length) (c253)), (.int .i64 ((f : Nat) : Int)), (.int .i64 ((g : Nat) : Int)), (.map (some nm53)), (.map (some om53))], cOwn 9 1 A253 (b.length) (c253) (SS b), cSet nm53 ([]), cSet om53 ([])] (by kernel_rfl) ?_
        refine reg ?_
        refine lm ?_
        refine lc (.bool false) ?_
        refine lm ?_
        refine lgm ?_
        refine lgc (.bool false) ?_
        refine lc (.bool false) ?_
        refine liNil (qThen (stFalse rfl (stSkip (qThen (stSeq ?_)))))
        refine St.fact (fun w hM => own_cap (hM.at (i := 2) rfl)) (fun hcapa => ?_)
        refine St.fact (fun w hM => own_cap (hM.at (i := 6) rfl)) (fun hcapb => ?_)
        refine reg ?_
        refine lm ?_
        refine li rfl ?_
        refine opK0 (fun w hM => (rsStart_any bs46 A246 c246 a f g nm46 om46 w (r0.go0 hM) (((hM.keep0 (j := 1) rfl (fun _ h => h)).and (hM.keep0 (j := 2) rfl (fun _ h => RowIn.of_own h))).imp (fun _ h => ⟨h.1, h.2⟩)) (by assumption) (by assumption) (by assumption) (by assumption)).mono ?_)
        rintro e w' ⟨B63, cb63, rfl, hP⟩
        refine ⟨_, _, rfl, hP, ?_⟩; clear hP hM
        refine la ?_
        refine liNil (qThen (stSeq (reg ?_)))
        refine lm ?_
        refine la ?_
        refine la ?_
        refine la ?_
        refine liNil (qThen (stSeq (stBlock ?_)))
        refine stLoop (ι := Nat × Option Addr × Nat) (fun (j, BX, cX) => j ≤ K) (fun (j, BX, cX) => K - j) (fun (j, BX, cX) => [(0, (.slice A (a.length) (c))), (1, (.slice A2 (b.length) (c2))), (5, (.pointer (some ⟨b5, 0, none⟩))), (6, (.bool false)), (7, (.pointer (some ⟨bs46, 0, none⟩))), (9, (.pointer (some ⟨bs53, 0, none⟩))), (11, (.slice BX ((runM a b f g j).length) (cX))), (12, (.pointer (some ⟨(if j % 2 = 0 then bs53 else bs46), 0, none⟩))), (13, (.int .i64 ((j : Nat) : Int))), (14, (.int .i64 (((runB a b f g j) : Nat) : Int)))]) (fun (j, BX, cX) => [cAt b5 24 [(.int .i64 ((f : Nat) : Int)), (.int .i64 ((g : Nat) : Int))], cAt bs46 66 [(.slice A246 (a.length) (c246)), (.int .i64 ((f : Nat) : Int)), (.int .i64 ((g : Nat) : Int)), (.map (some nm46)), (.map (some om46))], cOwn 9 1 A246 (a.length) (c246) (SS a), cSet nm46 ((runN a b f g 1 j).1), cSet om46 ((runN a b f g 1 j).2), cAt bs53 66 [(.slice A253 (b.length) (c253)), (.int .i64 ((f : Nat) : Int)), (.int .i64 ((g : Nat) : Int)), (.map (some nm53)), (.map (some om53))], cOwn 9 1 A253 (b.length) (c253) (SS b), cSet nm53 ((runN a b f g 0 j).1), cSet om53 ((runN a b f g 0 j).2), cOwn 5 1 BX ((runM a b f g j).length) (cX) (B8 (runM a b f g j))]) (0, B63, cb63) (Nat.zero_le _) ⟨rfl, rfl, rfl, rfl, rfl, rfl, rfl, rfl, rfl, rfl, trivial⟩ (fun w hM => by show Mm _ _ [cAt b5 24 [(.int .i64 ((f : Nat) : Int)), (.int .i64 ((g : Nat) : Int))], cAt bs46 66 [(.slice A246 (a.length) (c246)), (.int .i64 ((f : Nat) : Int)), (.int .i64 ((g : Nat) : Int)), (.map (some nm46)), (.map (some om46))], cOwn 9 1 A246 (a.length) (c246) (SS a), cSet nm46 ((runN a b f g 1 0).1), cSet om46 ((runN a b f g 1 0).2), cAt bs53 66 [(.slice A253 (b.length) (c253)), (.int .i64 ((f : Nat) : Int)), (.int .i64 ((g : Nat) : Int)), (.map (some nm53)), (.map (some om53))], cOwn 9 1 A253 (b.length) (c253) (SS b), cSet nm53 ((runN a b f g 0 0).1), cSet om53 ((runN a b f g 0 0).2), cOwn 5 1 B63 ((runM a b f g 0).length) (cb63) (B8 (runM a b f g 0))] w; exact hM) ?_
        rintro ⟨j, BX, cX⟩ (hok : j ≤ K)
        show St _ _ _ [(0, (.slice A (a.length) (c))), (1, (.slice A2 (b.length) (c2))), (5, (.pointer (some ⟨b5, 0, none⟩))), (6, (.bool false)), (7, (.pointer (some ⟨bs46, 0, none⟩))), (9, (.pointer (some ⟨bs53, 0, none⟩))), (11, (.slice BX ((runM a b f g j).length) (cX))), (12, (.pointer (some ⟨(if j % 2 = 0 then bs53 else bs46), 0, none⟩))), (13, (.int .i64 ((j : Nat) : Int))), (14, (.int .i64 (((runB a b f g j) : Nat) : Int)))] [cAt b5 24 [(.int .i64 ((f : Nat) : Int)), (.int .i64 ((g : Nat) : Int))], cAt bs46 66 [(.slice A246 (a.length) (c246)), (.int .i64 ((f : Nat) : Int)), (.int .i64 ((g : Nat) : Int)), (.map (some nm46)), (.map (some om46))], cOwn 9 1 A246 (a.length) (c246) (SS a), cSet nm46 ((runN a b f g 1 j).1), cSet om46 ((runN a b f g 1 j).2), cAt bs53 66 [(.slice A253 (b.length) (c253)), (.int .i64 ((f : Nat) : Int)), (.int .i64 ((g : Nat) : Int)), (.map (some nm53)), (.map (some om53))], cOwn 9 1 A253 (b.length) (c253) (SS b), cSet nm53 ((runN a b f g 0 j).1), cSet om53 ((runN a b f g 0 j).2), cOwn 5 1 BX ((runM a b f g j).length) (cX) (B8 (runM a b f g j))] _
        refine stSeq (stSeq (reg ?_))
        refine lm ?_
        refine lc (.int .i64 (((runM a b f g j).length : Nat) : Int)) ?_
        refine lc (.bool (decide ((((runM a b f g j).length : Nat) : Int) > 0))) ?_
        refine lm ?_
        refine St.dec 68 rfl (fun hc68 => ?_) (fun hc68 => ?_)
        · have hd68 := of_decide_eq_true hc68
          have hjK : j < K := hK.lt hok (by omega)
          have hml := runM_len (b := b) ha4 f g j; have hbl := runB_le (b := b) ha4 f g j
          have hn0 := runN_len (fan := f) (leaf := g) (par := 0) hsa hsb ha4 hb4 j; have hn1 := runN_len (fan := f) (leaf := g) (par := 1) hsa hsb ha4 hb4 j
          refine lgm ?_
          refine lgc (.bool (decide (((j : Nat) : Int) < 100))) ?_
          refine lc (.bool (decide (((j : Nat) : Int) < 100))) ?_
          refine liNil (qThen ?_)
          refine stTrueK rfl (by first | (simp; done) | (simp; omega)) ?_
          refine stSkip (qThen (stBlock (stSeq ?_)))
          cases hpb : (decide (j % 2 = 0)) with
          | true =>
            have hpar : j % 2 = 0 := by have h := of_decide_eq_true hpb; omega
            have hR : stepA b f g (runM a b f g j) = runR a b f g j := by unfold runR sideOf; rw [if_pos hpar]
            rw [show (if j % 2 = 0 then bs53 else bs46) = bs53 from if_pos hpar]
            refine reg ?_
            refine lm ?_
            refine lv (v := (.int .i64 ((j + 1 : Nat) : Int))) (rAdd _ rfl rfl rfl (by omega) (by omega) (by omega)) ?_
            refine lm ?_
            refine lm ?_
            refine lc (.int .i64 (((runM a b f g j).length : Nat) : Int)) ?_
            refine lv (v := (.int .i64 (((runB a b f g j) + (runM a b f g j).length : Nat) : Int))) (rAdd _ rfl rfl rfl (by omega) (by omega) (by omega)) ?_
            refine la ?_
            refine la ?_
            refine liNil (qThen (stSeq (reg ?_)))
            refine lm ?_
            refine lm ?_
            refine li rfl ?_
            refine opK [7, 8] [cSet nm53 ((runN a b f g 0 j).1), cSet om53 ((runN a b f g 0 j).2)] (fun w hM hO => (rsStep_any bs53 A253 c253 b f g nm53 om53 BX cX (runM a b f g j) ((runN a b f g 0 j).1) ((runN a b f g 0 j).2) w hO (r0.goS hM [7, 8]) (((hM.keepS [7, 8] (j := 5) rfl (fun _ h => h)).and (hM.keepS [7, 8] (j := 6) rfl (fun _ h => RowIn.of_own h))).imp (fun _ h => ⟨h.1, h.2⟩)) (hM.keepS [7, 8] (j := 9) rfl (fun _ h => RowIn.of_own h)) (by assumption) (by assumption) (by assumption) (by assumption) (by assumption) (by assumption) (by assumption) (by assumption) (by omega) (by omega) (by omega)).mono ?_)
            rintro e w' ⟨B81, cb81, rfl, hP⟩
            refine ⟨_, [cSet nm53 (((runN a b f g 0 j).1) ++ (stepA b f g (runM a b f g j)).need), cSet om53 (((runN a b f g 0 j).2) ++ (stepA b f g (runM a b f g j)).off)], _, rfl, hP, rfl, ?_⟩; clear hP hM hO
            rw [show stepA b f g (runM a b f g j) = runR a b f g j from hR]
            rw [show (runR a b f g j).err = 0 from (hK.go j hjK).2]
            refine lm ?_
            refine lc (.slice B81 (((runR a b f g j).reply).length) (cb81)) ?_
            refine lc (.int .i64 0) ?_
            refine la ?_
            refine la ?_
            refine liNil (qThen (stSeq (stSeq (reg ?_))))
            refine lm ?_
            refine lc (.bool false) ?_
            refine liNil (qThen (stFalse rfl (stSkip (qThen (stSeq (reg ?_))))))
            refine lm ?_
            refine la ?_
            refine liNil (qThen (stSeq (reg ?_)))
            refine lm ?_
            refine lm ?_
            refine lv (v := (.bool true)) (rPtrSame (te := 66) (n := 4) rfl rfl rfl (by kernel_rfl) (by kernel_rfl)) ?_
            refine liNil (qThen (stTrue rfl (reg ?_)))
            refine lm ?_
            refine la ?_
            refine liNil (qBlock (qThen ?_))
            have hN0 : runN a b f g 0 (j + 1) = ((runN a b f g 0 j).1 ++ (runR a b f g j).need, (runN a b f g 0 j).2 ++ (runR a b f g j).off) := by rw [runN, if_pos hpar]
            have hN1 : runN a b f g 1 (j + 1) = runN a b f g 1 j := by rw [runN, if_neg (by omega)]
            rw [show ((runN a b f g 0 j).1) ++ (runR a b f g j).need = (runN a b f g 0 (j + 1)).1 from by rw [hN0]]
            rw [show (runN a b f g 1 j).1 = (runN a b f g 1 (j + 1)).1 from by rw [hN1]]
            rw [show ((runN a b f g 0 j).2) ++ (runR a b f g j).off = (runN a b f g 0 (j + 1)).2 from by rw [hN0]]
            rw [show (runN a b f g 1 j).2 = (runN a b f g 1 (j + 1)).2 from by rw [hN1]]
            rw [show (runR a b f g j).reply = runM a b f g (j + 1) from rfl]
            have htn : bs46 = (if (j + 1) % 2 = 0 then bs53 else bs46) := by rw [if_neg (by omega)]
            exact stAgain (j + 1, B81, cb81) (by show _ ≤ _; omega) (by show K - (j + 1) < K - j; omega) ⟨rfl, rfl, rfl, rfl, rfl, rfl, rfl, congrArg (fun z => some (Value.pointer (some ⟨z, 0, none⟩))) htn, rfl, rfl, trivial⟩ (fun w hM => by show Mm _ _ [cAt b5 24 [(.int .i64 ((f : Nat) : Int)), (.int .i64 ((g : Nat) : Int))], cAt bs46 66 [(.slice A246 (a.length) (c246)), (.int .i64 ((f : Nat) : Int)), (.int .i64 ((g : Nat) : Int)), (.map (some nm46)), (.map (some om46))], cOwn 9 1 A246 (a.length) (c246) (SS a), cSet nm46 ((runN a b f g 1 (j + 1)).1), cSet om46 ((runN a b f g 1 (j + 1)).2), cAt bs53 66 [(.slice A253 (b.length) (c253)), (.int .i64 ((f : Nat) : Int)), (.int .i64 ((g : Nat) : Int)), (.map (some nm53)), (.map (some om53))], cOwn 9 1 A253 (b.length) (c253) (SS b), cSet nm53 ((runN a b f g 0 (j + 1)).1), cSet om53 ((runN a b f g 0 (j + 1)).2), cOwn 5 1 B81 ((runM a b f g (j + 1)).length) (cb81) (B8 (runM a b f g (j + 1)))] w; exact (fun (w : World) (h : Mm _ _ _ w) => Mm.sub h (.cons_cons _ (.cons_cons _ (.cons_cons _ (.cons_cons _ (.cons_cons _ (.cons_cons _ (.cons_cons _ (.cons_cons _ (.cons_cons _ (.cons _ (.cons_cons _ .slnil)))))))))))) w hM)
          | false =>
            have hpar : j % 2 = 1 := by have h := of_decide_eq_false hpb; omega
            have hR : stepA a f g (runM a b f g j) = runR a b f g j := by unfold runR sideOf; rw [if_neg (by omega)]
            rw [show (if j % 2 = 0 then bs53 else bs46) = bs46 from if_neg (by omega)]
            refine reg ?_
            refine lm ?_
            refine lv (v := (.int .i64 ((j + 1 : Nat) : Int))) (rAdd _ rfl rfl rfl (by omega) (by omega) (by omega)) ?_
            refine lm ?_
            refine lm ?_
            refine lc (.int .i64 (((runM a b f g j).length : Nat) : Int)) ?_
            refine lv (v := (.int .i64 (((runB a b f g j) + (runM a b f g j).length : Nat) : Int))) (rAdd _ rfl rfl rfl (by omega) (by omega) (by omega)) ?_
            refine la ?_
            refine la ?_
            refine liNil (qThen (stSeq (reg ?_)))
            refine lm ?_
            refine lm ?_
            refine li rfl ?_
            refine opK [3, 4] [cSet nm46 ((runN a b f g 1 j).1), cSet om46 ((runN a b f g 1 j).2)] (fun w hM hO => (rsStep_any bs46 A246 c246 a f g nm46 om46 BX cX (runM a b f g j) ((runN a b f g 1 j).1) ((runN a b f g 1 j).2) w hO (r0.goS hM [3, 4]) (((hM.keepS [3, 4] (j := 1) rfl (fun _ h => h)).and (hM.keepS [3, 4] (j := 2) rfl (fun _ h => RowIn.of_own h))).imp (fun _ h => ⟨h.1, h.2⟩)) (hM.keepS [3, 4] (j := 9) rfl (fun _ h => RowIn.of_own h)) (by assumption) (by assumption) (by assumption) (by assumption) (by assumption) (by assumption) (by assumption) (by assumption) (by omega) (by omega) (by omega)).mono ?_)
            rintro e w' ⟨B81, cb81, rfl, hP⟩
            refine ⟨_, [cSet nm46 (((runN a b f g 1 j).1) ++ (stepA a f g (runM a b f g j)).need), cSet om46 (((runN a b f g 1 j).2) ++ (stepA a f g (runM a b f g j)).off)], _, rfl, hP, rfl, ?_⟩; clear hP hM hO
            rw [show stepA a f g (runM a b f g j) = runR a b f g j from hR]
            rw [show (runR a b f g j).err = 0 from (hK.go j hjK).2]
            refine lm ?_
            refine lc (.slice B81 (((runR a b f g j).reply).length) (cb81)) ?_
            refine lc (.int .i64 0) ?_
            refine la ?_
            refine la ?_
            refine liNil (qThen (stSeq (stSeq ?_)))
            refine St.to [cAt b5 24 [(.int .i64 ((f : Nat) : Int)), (.int .i64 ((g : Nat) : Int))], cAt bs46 66 [(.slice A246 (a.length) (c246)), (.int .i64 ((f : Nat) : Int)), (.int .i64 ((g : Nat) : Int)), (.map (some nm46)), (.map (some om46))], cOwn 9 1 A246 (a.length) (c246) (SS a), cSet nm46 (((runN a b f g 1 j).1) ++ (runR a b f g j).need), cSet om46 (((runN a b f g 1 j).2) ++ (runR a b f g j).off), cAt bs53 66 [(.slice A253 (b.length) (c253)), (.int .i64 ((f : Nat) : Int)), (.int .i64 ((g : Nat) : Int)), (.map (some nm53)), (.map (some om53))], cOwn 9 1 A253 (b.length) (c253) (SS b), cSet nm53 ((runN a b f g 0 j).1), cSet om53 ((runN a b f g 0 j).2), cOwn 5 1 BX ((runM a b f g j).length) (cX) (B8 (runM a b f g j)), cOwn 5 1 B81 (((runR a b f g j).reply).length) (cb81) (B8 ((runR a b f g j).reply))] (by kernel_rfl) ?_
            refine reg ?_
            refine lm ?_
            refine lc (.bool false) ?_
            refine liNil (qThen (stFalse rfl (stSkip (qThen (stSeq (reg ?_))))))
            refine lm ?_
            refine la ?_
            refine liNil (qThen (stSeq (reg ?_)))
            refine lm ?_
            refine lm ?_
            refine lv (v := (.bool false)) (rPtrNe (te := 66) (n := 4) (i := 1) (j := 5) rfl rfl rfl (by kernel_rfl) (by kernel_rfl) rfl rfl (by decide)) ?_
            refine liNil (qThen (stFalse rfl (reg ?_)))
            refine lm ?_
            refine la ?_
            refine liNil (qBlock (qThen ?_))
            have hN1 : runN a b f g 1 (j + 1) = ((runN a b f g 1 j).1 ++ (runR a b f g j).need, (runN a b f g 1 j).2 ++ (runR a b f g j).off) := by rw [runN, if_pos hpar]
            have hN0 : runN a b f g 0 (j + 1) = runN a b f g 0 j := by rw [runN, if_neg (by omega)]
            rw [show ((runN a b f g 1 j).1) ++ (runR a b f g j).need = (runN a b f g 1 (j + 1)).1 from by rw [hN1]]
            rw [show (runN a b f g 0 j).1 = (runN a b f g 0 (j + 1)).1 from by rw [hN0]]
            rw [show ((runN a b f g 1 j).2) ++ (runR a b f g j).off = (runN a b f g 1 (j + 1)).2 from by rw [hN1]]
            rw [show (runN a b f g 0 j).2 = (runN a b f g 0 (j + 1)).2 from by rw [hN0]]
            rw [show (runR a b f g j).reply = runM a b f g (j + 1) from rfl]
            have htn : bs53 = (if (j + 1) % 2 = 0 then bs53 else bs46) := by rw [if_pos (by omega)]
            exact stAgain (j + 1, B81, cb81) (by show _ ≤ _; omega) (by show K - (j + 1) < K - j; omega) ⟨rfl, rfl, rfl, rfl, rfl, rfl, rfl, congrArg (fun z => some (Value.pointer (some ⟨z, 0, none⟩))) htn, rfl, rfl, trivial⟩ (fun w hM => by show Mm _ _ [cAt b5 24 [(.int .i64 ((f : Nat) : Int)), (.int .i64 ((g : Nat) : Int))], cAt bs46 66 [(.slice A246 (a.length) (c246)), (.int .i64 ((f : Nat) : Int)), (.int .i64 ((g : Nat) : Int)), (.map (some nm46)), (.map (some om46))], cOwn 9 1 A246 (a.length) (c246) (SS a), cSet nm46 ((runN a b f g 1 (j + 1)).1), cSet om46 ((runN a b f g 1 (j + 1)).2), cAt bs53 66 [(.slice A253 (b.length) (c253)), (.int .i64 ((f : Nat) : Int)), (.int .i64 ((g : Nat) : Int)), (.map (some nm53)), (.map (some om53))], cOwn 9 1 A253 (b.length) (c253) (SS b), cSet nm53 ((runN a b f g 0 (j + 1)).1), cSet om53 ((runN a b f g 0 (j + 1)).2), cOwn 5 1 B81 ((runM a b f g (j + 1)).length) (cb81) (B8 (runM a b f g (j + 1)))] w; exact (fun (w : World) (h : Mm _ _ _ w) => Mm.sub h (.cons_cons _ (.cons_cons _ (.cons_cons _ (.cons_cons _ (.cons_cons _ (.cons_cons _ (.cons_cons _ (.cons_cons _ (.cons_cons _ (.cons _ (.cons_cons _ .slnil)))))))))))) w hM)
        · have hd68 := of_decide_eq_false hc68
          obtain rfl : j = K := hK.eq hok (by omega)
          have hn0 := runN_len (fan := f) (leaf := g) (par := 0) hsa hsb ha4 hb4 j; have hn1 := runN_len (fan := f) (leaf := g) (par := 1) hsa hsb ha4 hb4 j
          refine lnF ?_
          refine lnF ?_
          refine lc (.bool false) ?_
          refine liNil (qThen (stFalse rfl (stExit (qThenX (qThenX (qBlockX (qThen (stSeq (reg ?_)))))))))
          refine lm ?_
          refine lm ?_
          refine lv (v := (.agg #[(.int .i64 ((f : Nat) : Int)), (.int .i64 ((g : Nat) : Int))])) (rLoadA [(.int .i64 ((f : Nat) : Int)), (.int .i64 ((g : Nat) : Int))] rfl rfl (by kernel_rfl) (by kernel_rfl) (segAt (i := 0) rfl (by intro j v hj; first | (rw [Nat.zero_add]; exact hj) | (match j, hj with | 0, h => exact h | 1, h => exact h)))) ?_
          refine li rfl ?_
          refine opK0 (fun w hM => (lsParams_any ((f : Nat) : Int) ((g : Nat) : Int) w ).mono ?_)
          rintro e w' ⟨rfl, hP⟩
          refine ⟨_, _, rfl, hP, ?_⟩; clear hP hM
          refine li rfl ?_
          refine opK0 (fun w hM => (rsRun_ok A c a A2 c2 b f g j w (r0.go0 hM) (r1.go0 hM) (r2.go0 hM) (hop) (by assumption) (by assumption) (by assumption) (by assumption) (by assumption) (by assumption) (by assumption) (by assumption) (hK)).mono ?_)
          rintro e w' ⟨B197, cb197, B297, cb297, rfl, hP⟩
          refine ⟨_, _, rfl, hP, ?_⟩; clear hP hM
          refine lm ?_
          refine lc (.slice B197 ((withL [] (runN a b f g 1 j).2).length) (cb197)) ?_
          refine lc (.slice B297 ((withL [] (runN a b f g 1 j).1).length) (cb297)) ?_
          refine lc (.int .i64 ((j : Nat) : Int)) ?_
          refine lc (.int .i64 (((runB a b f g j) : Nat) : Int)) ?_
          refine lc (.int .i64 0) ?_
          refine la ?_
          refine la ?_
          refine la ?_
          refine la ?_
          refine la ?_
          refine liNil (qThen (stSeq (stSeq ?_)))
          refine St.to [cAt b5 24 [(.int .i64 ((f : Nat) : Int)), (.int .i64 ((g : Nat) : Int))], cAt bs46 66 [(.slice A246 (a.length) (c246)), (.int .i64 ((f : Nat) : Int)), (.int .i64 ((g : Nat) : Int)), (.map (some nm46)), (.map (some om46))], cOwn 9 1 A246 (a.length) (c246) (SS a), cSet nm46 ((runN a b f g 1 j).1), cSet om46 ((runN a b f g 1 j).2), cAt bs53 66 [(.slice A253 (b.length) (c253)), (.int .i64 ((f : Nat) : Int)), (.int .i64 ((g : Nat) : Int)), (.map (some nm53)), (.map (some om53))], cOwn 9 1 A253 (b.length) (c253) (SS b), cSet nm53 ((runN a b f g 0 j).1), cSet om53 ((runN a b f g 0 j).2), cOwn 5 1 BX ((runM a b f g j).length) (cX) (B8 (runM a b f g j)), cOwn 9 1 B197 ((withL [] (runN a b f g 1 j).2).length) (cb197) (SS (withL [] (runN a b f g 1 j).2)), cOwn 9 1 B297 ((withL [] (runN a b f g 1 j).1).length) (cb297) (SS (withL [] (runN a b f g 1 j).1))] (by kernel_rfl) ?_
          refine reg ?_
          refine lm ?_
          refine lc (.int .i64 (((runM a b f g j).length : Nat) : Int)) ?_
          refine lc (.bool (decide ((((runM a b f g j).length : Nat) : Int) > 0))) ?_
          refine lm ?_
          refine St.known 106 (b' := false) rfl (by rw [hK.stop]; rfl) ?_
          refine lgm ?_
          refine lgc (.bool false) ?_
          refine lc (.bool false) ?_
          refine lm ?_
          refine lgm ?_
          refine lgm ?_
          refine lgv (v := (.bool false)) (rConv (v := .bool ((((j : Nat) : Int) : Int) != ((j : Nat) : Int))) (rClosed fun _ => by kernel_rfl) (by simp)) ?_
          refine lc (.bool false) ?_
          refine lm ?_
          refine lgm ?_
          refine lgm ?_
          refine lgv (v := (.bool false)) (rConv (v := .bool (((((runB a b f g j) : Nat) : Int) : Int) != (((runB a b f g j) : Nat) : Int))) (rClosed fun _ => by kernel_rfl) (by simp)) ?_
          refine lc (.bool false) ?_
          refine lm ?_
          refine lgm ?_
          refine liGo rfl rfl ?_
          refine opK0 (fun w hM => (rsOffer_any bs46 A246 c246 a f g nm46 om46 ((runN a b f g 1 j).2) w (hM.keep0 (j := 1) rfl (fun _ h => h)) (hM.keep0 (j := 4) rfl (fun _ h => h)) (by omega)).mono ?_)
          rintro e w' ⟨B122, cb122, rfl, hP⟩
          refine ⟨_, _, rfl, hP, ?_⟩; clear hP hM
          refine lgm ?_
          refine liGo rfl rfl ?_
          refine opK0 (fun w hM => (lsSame_any B122 cb122 (withL [] ((runN a b f g 1 j).2)) B197 cb197 (withL [] (runN a b f g 1 j).2) w (hM.keep0 (j := 12) rfl (fun _ h => RowIn.of_own h)) (hM.keep0 (j := 10) rfl (fun _ h => RowIn.of_own h)) (by omega) (by omega)).mono ?_)
          rintro e w' ⟨rfl, hP⟩
          refine ⟨_, _, rfl, hP, ?_⟩; clear hP hM
          refine lgc (.bool (!(decide ((withL [] ((runN a b f g 1 j).2)) = (withL [] (runN a b f g 1 j).2))))) ?_
          refine lc (.bool (!(decide ((withL [] ((runN a b f g 1 j).2)) = (withL [] (runN a b f g 1 j).2))))) ?_
          refine lm ?_
          refine St.known 127 (b' := false) rfl (by simp) ?_
          refine lgm ?_
          refine liGo rfl rfl ?_
          refine opK0 (fun w hM => (rsNeed_any bs46 A246 c246 a f g nm46 om46 ((runN a b f g 1 j).1) w (hM.keep0 (j := 1) rfl (fun _ h => h)) (hM.keep0 (j := 3) rfl (fun _ h => h)) (by omega)).mono ?_)
          rintro e w' ⟨B129, cb129, rfl, hP⟩
          refine ⟨_, _, rfl, hP, ?_⟩; clear hP hM
          refine lgm ?_
          refine liGo rfl rfl ?_
          refine opK0 (fun w hM => (lsSame_any B129 cb129 (withL [] ((runN a b f g 1 j).1)) B297 cb297 (withL [] (runN a b f g 1 j).1) w (hM.keep0 (j := 13) rfl (fun _ h => RowIn.of_own h)) (hM.keep0 (j := 11) rfl (fun _ h => RowIn.of_own h)) (by omega) (by omega)).mono ?_)
          rintro e w' ⟨rfl, hP⟩
          refine ⟨_, _, rfl, hP, ?_⟩; clear hP hM
          refine St.to [cAt b5 24 [(.int .i64 ((f : Nat) : Int)), (.int .i64 ((g : Nat) : Int))], cAt bs46 66 [(.slice A246 (a.length) (c246)), (.int .i64 ((f : Nat) : Int)), (.int .i64 ((g : Nat) : Int)), (.map (some nm46)), (.map (some om46))], cOwn 9 1 A246 (a.length) (c246) (SS a), cSet nm46 ((runN a b f g 1 j).1), cSet om46 ((runN a b f g 1 j).2), cAt bs53 66 [(.slice A253 (b.length) (c253)), (.int .i64 ((f : Nat) : Int)), (.int .i64 ((g : Nat) : Int)), (.map (some nm53)), (.map (some om53))], cOwn 9 1 A253 (b.length) (c253) (SS b), cSet nm53 ((runN a b f g 0 j).1), cSet om53 ((runN a b f g 0 j).2), cOwn 5 1 BX ((runM a b f g j).length) (cX) (B8 (runM a b f g j)), cOwn 9 1 B197 ((withL [] (runN a b f g 1 j).2).length) (cb197) (SS (withL [] (runN a b f g 1 j).2)), cOwn 9 1 B297 ((withL [] (runN a b f g 1 j).1).length) (cb297) (SS (withL [] (runN a b f g 1 j).1)), cOwn 9 1 B122 ((withL [] ((runN a b f g 1 j).2)).length) (cb122) (SS (withL [] ((runN a b f g 1 j).2))), cOwn 9 1 B129 ((withL [] ((runN a b f g 1 j).1)).length) (cb129) (SS (withL [] ((runN a b f g 1 j).1)))] (by kernel_rfl) ?_
          refine lgc (.bool (!(decide ((withL [] ((runN a b f g 1 j).1)) = (withL [] (runN a b f g 1 j).1))))) ?_
          refine lc (.bool (!(decide ((withL [] ((runN a b f g 1 j).1)) = (withL [] (runN a b f g 1 j).1))))) ?_
          refine lm ?_
          refine St.known 134 (b' := false) rfl (by simp) ?_
          refine lgm ?_
          refine liGo rfl rfl ?_
          refine opK0 (fun w hM => (rsNeed_any bs53 A253 c253 b f g nm53 om53 ((runN a b f g 0 j).1) w (hM.keep0 (j := 5) rfl (fun _ h => h)) (hM.keep0 (j := 7) rfl (fun _ h => h)) (by omega)).mono ?_)
          rintro e w' ⟨B136, cb136, rfl, hP⟩
          refine ⟨_, _, rfl, hP, ?_⟩; clear hP hM
          refine lgm ?_
          refine liGo rfl rfl ?_
          refine opK0 (fun w hM => (lsSame_any B136 cb136 (withL [] ((runN a b f g 0 j).1)) B197 cb197 (withL [] (runN a b f g 1 j).2) w (hM.keep0 (j := 14) rfl (fun _ h => RowIn.of_own h)) (hM.keep0 (j := 10) rfl (fun _ h => RowIn.of_own h)) (by rw [hbo1]; omega) (by omega)).mono ?_)
          rintro e w' ⟨rfl, hP⟩
          refine ⟨_, _, rfl, hP, ?_⟩; clear hP hM
          refine lgc (.bool (!(decide ((withL [] ((runN a b f g 0 j).1)) = (withL [] (runN a b f g 1 j).2))))) ?_
          refine lc (.bool (!(decide ((withL [] ((runN a b f g 0 j).1)) = (withL [] (runN a b f g 1 j).2))))) ?_
          refine lm ?_
          refine St.known 141 (b' := false) rfl (by rw [hbo1]; simp) ?_
          refine lgm ?_
          refine liGo rfl rfl ?_
          refine opK0 (fun w hM => (rsOffer_any bs53 A253 c253 b f g nm53 om53 ((runN a b f g 0 j).2) w (hM.keep0 (j := 5) rfl (fun _ h => h)) (hM.keep0 (j := 8) rfl (fun _ h => h)) (by omega)).mono ?_)
          rintro e w' ⟨B143, cb143, rfl, hP⟩
          refine ⟨_, _, rfl, hP, ?_⟩; clear hP hM
          refine lgm ?_
          refine liGo rfl rfl ?_
          refine opK0 (fun w hM => (lsSame_any B143 cb143 (withL [] ((runN a b f g 0 j).2)) B297 cb297 (withL [] (runN a b f g 1 j).1) w (hM.keep0 (j := 15) rfl (fun _ h => RowIn.of_own h)) (hM.keep0 (j := 11) rfl (fun _ h => RowIn.of_own h)) (by rw [hbo2]; omega) (by omega)).mono ?_)
          rintro e w' ⟨rfl, hP⟩
          refine ⟨_, _, rfl, hP, ?_⟩; clear hP hM
          refine St.to [cAt b5 24 [(.int .i64 ((f : Nat) : Int)), (.int .i64 ((g : Nat) : Int))], cAt bs46 66 [(.slice A246 (a.length) (c246)), (.int .i64 ((f : Nat) : Int)), (.int .i64 ((g : Nat) : Int)), (.map (some nm46)), (.map (some om46))], cOwn 9 1 A246 (a.length) (c246) (SS a), cSet nm46 ((runN a b f g 1 j).1), cSet om46 ((runN a b f g 1 j).2), cAt bs53 66 [(.slice A253 (b.length) (c253)), (.int .i64 ((f : Nat) : Int)), (.int .i64 ((g : Nat) : Int)), (.map (some nm53)), (.map (some om53))], cOwn 9 1 A253 (b.length) (c253) (SS b), cSet nm53 ((runN a b f g 0 j).1), cSet om53 ((runN a b f g 0 j).2), cOwn 5 1 BX ((runM a b f g j).length) (cX) (B8 (runM a b f g j)), cOwn 9 1 B197 ((withL [] (runN a b f g 1 j).2).length) (cb197) (SS (withL [] (runN a b f g 1 j).2)), cOwn 9 1 B297 ((withL [] (runN a b f g 1 j).1).length) (cb297) (SS (withL [] (runN a b f g 1 j).1)), cOwn 9 1 B122 ((withL [] ((runN a b f g 1 j).2)).length) (cb122) (SS (withL [] ((runN a b f g 1 j).2))), cOwn 9 1 B129 ((withL [] ((runN a b f g 1 j).1)).length) (cb129) (SS (withL [] ((runN a b f g 1 j).1))), cOwn 9 1 B136 ((withL [] ((runN a b f g 0 j).1)).length) (cb136) (SS (withL [] ((runN a b f g 0 j).1))), cOwn 9 1 B143 ((withL [] ((runN a b f g 0 j).2)).length) (cb143) (SS (withL [] ((runN a b f g 0 j).2)))] (by kernel_rfl) ?_
          refine lgc (.bool (!(decide ((withL [] ((runN a b f g 0 j).2)) = (withL [] (runN a b f g 1 j).1))))) ?_
          refine lc (.bool (!(decide ((withL [] ((runN a b f g 0 j).2)) = (withL [] (runN a b f g 1 j).1))))) ?_
          refine liNil (qThen ?_)
          refine stFalseK rfl (by rw [hbo2]; simp) ?_
          refine stSkip (qThen (stSeq (reg ?_)))
          refine lm ?_
          refine lm ?_
          refine lv (v := (.agg #[(.int .i64 ((f : Nat) : Int)), (.int .i64 ((g : Nat) : Int))])) (rLoadA [(.int .i64 ((f : Nat) : Int)), (.int .i64 ((g : Nat) : Int))] rfl rfl (by kernel_rfl) (by kernel_rfl) (segAt (i := 0) rfl (by intro j v hj; first | (rw [Nat.zero_add]; exact hj) | (match j, hj with | 0, h => exact h | 1, h => exact h)))) ?_
          refine li rfl ?_
          refine opK0 (fun w hM => (lsParams_any ((f : Nat) : Int) ((g : Nat) : Int) w ).mono ?_)
          rintro e w' ⟨rfl, hP⟩
          refine ⟨_, _, rfl, hP, ?_⟩; clear hP hM
          refine li rfl ?_
          refine opK0 (fun w hM => (rsRun_ok A2 c2 b A c a f g K2 w (r0.go0 hM) (r2.go0 hM) (r1.go0 hM) (hop) (by assumption) (by assumption) (by assumption) (by assumption) (by assumption) (by assumption) (by assumption) (by assumption) (hK2)).mono ?_)
          rintro e w' ⟨B1153, cb1153, B2153, cb2153, rfl, hP⟩
          refine ⟨_, _, rfl, hP, ?_⟩; clear hP hM
          refine lm ?_
          refine lc (.slice B1153 ((withL [] (runN b a f g 1 K2).2).length) (cb1153)) ?_
          refine lc (.slice B2153 ((withL [] (runN b a f g 1 K2).1).length) (cb2153)) ?_
          refine lc (.int .i64 ((K2 : Nat) : Int)) ?_
          refine lc (.int .i64 (((runB b a f g K2) : Nat) : Int)) ?_
          refine lc (.int .i64 0) ?_
          refine la ?_
          refine la ?_
          refine la ?_
          refine la ?_
          refine la ?_
          refine liNil (qThen (stSeq ?_))
          refine St.to [cAt b5 24 [(.int .i64 ((f : Nat) : Int)), (.int .i64 ((g : Nat) : Int))], cAt bs46 66 [(.slice A246 (a.length) (c246)), (.int .i64 ((f : Nat) : Int)), (.int .i64 ((g : Nat) : Int)), (.map (some nm46)), (.map (some om46))], cOwn 9 1 A246 (a.length) (c246) (SS a), cSet nm46 ((runN a b f g 1 j).1), cSet om46 ((runN a b f g 1 j).2), cAt bs53 66 [(.slice A253 (b.length) (c253)), (.int .i64 ((f : Nat) : Int)), (.int .i64 ((g : Nat) : Int)), (.map (some nm53)), (.map (some om53))], cOwn 9 1 A253 (b.length) (c253) (SS b), cSet nm53 ((runN a b f g 0 j).1), cSet om53 ((runN a b f g 0 j).2), cOwn 5 1 BX ((runM a b f g j).length) (cX) (B8 (runM a b f g j)), cOwn 9 1 B197 ((withL [] (runN a b f g 1 j).2).length) (cb197) (SS (withL [] (runN a b f g 1 j).2)), cOwn 9 1 B297 ((withL [] (runN a b f g 1 j).1).length) (cb297) (SS (withL [] (runN a b f g 1 j).1)), cOwn 9 1 B122 ((withL [] ((runN a b f g 1 j).2)).length) (cb122) (SS (withL [] ((runN a b f g 1 j).2))), cOwn 9 1 B129 ((withL [] ((runN a b f g 1 j).1)).length) (cb129) (SS (withL [] ((runN a b f g 1 j).1))), cOwn 9 1 B136 ((withL [] ((runN a b f g 0 j).1)).length) (cb136) (SS (withL [] ((runN a b f g 0 j).1))), cOwn 9 1 B143 ((withL [] ((runN a b f g 0 j).2)).length) (cb143) (SS (withL [] ((runN a b f g 0 j).2))), cOwn 9 1 B1153 ((withL [] (runN b a f g 1 K2).2).length) (cb1153) (SS (withL [] (runN b a f g 1 K2).2)), cOwn 9 1 B2153 ((withL [] (runN b a f g 1 K2).1).length) (cb2153) (SS (withL [] (runN b a f g 1 K2).1))] (by kernel_rfl) ?_
          refine reg ?_
          refine lm ?_
          refine lc (.bool true) ?_
          refine lm ?_
          refine lgm ?_
          refine lgm ?_
          refine liGo rfl rfl ?_
          refine opK0 (fun w hM => (lsSame_any B1153 cb1153 (withL [] (runN b a f g 1 K2).2) B297 cb297 (withL [] (runN a b f g 1 j).1) w (hM.keep0 (j := 16) rfl (fun _ h => RowIn.of_own h)) (hM.keep0 (j := 11) rfl (fun _ h => RowIn.of_own h)) (by omega) (by omega)).mono ?_)
          rintro e w' ⟨rfl, hP⟩
          refine ⟨_, _, rfl, hP, ?_⟩; clear hP hM
          refine lgm ?_
          refine St.dec 165 rfl (fun hc165 => ?_) (fun hc165 => ?_)
          · have hd165 := of_decide_eq_true hc165
            refine lgm ?_
            refine lgm ?_
            refine liGo rfl rfl ?_
            refine opK0 (fun w hM => (lsSame_any B2153 cb2153 (withL [] (runN b a f g 1 K2).1) B197 cb197 (withL [] (runN a b f g 1 j).2) w (hM.keep0 (j := 17) rfl (fun _ h => RowIn.of_own h)) (hM.keep0 (j := 10) rfl (fun _ h => RowIn.of_own h)) (by omega) (by omega)).mono ?_)
            rintro e w' ⟨rfl, hP⟩
            refine ⟨_, _, rfl, hP, ?_⟩; clear hP hM
            refine lgc (.bool (decide ((withL [] (runN b a f g 1 K2).1) = (withL [] (runN a b f g 1 j).2)))) ?_
            refine lgm ?_
            refine St.dec 170 rfl (fun hc170 => ?_) (fun hc170 => ?_)
            · have hd170 := of_decide_eq_true hc170
              refine lnT ?_
              refine lnT ?_
              refine lnT ?_
              refine lgc (.bool true) ?_
              refine lc (.bool true) ?_
              refine la ?_
              refine liNil (qThen (stRet ?_))
              refine stEnd [(.bool true)] rfl ⟨rfl, trivial⟩ (fun w hM => ?_)
              exact ⟨rfl, (fun (w : World) (h : Mm _ _ _ w) => Mm.sub h (.cons _ (.cons _ (.cons _ (.cons _ (.cons _ (.cons _ (.cons _ (.cons _ (.cons _ (.cons _ (.cons _ (.cons _ (.cons _ (.cons _ (.cons _ (.cons _ (.cons _ (.cons _ .slnil))))))))))))))))))) w hM⟩
            · have hd170 := of_decide_eq_false hc170
              have hcoll : collP a b := Classical.byContradiction fun hcc => of_decide_eq_false hc170 ((run_exact hS2 hKl2 hmK2 (coll_symm hcc)).2.trans (run_exact hS hKl hmK hcc).1.symm)
              refine lgm ?_
              refine lgm ?_
              refine liGo rfl rfl ?_
              refine opK0 (fun w hM => (lsColl_any A c a A2 c2 b w (r1.go0 hM) (r2.go0 hM) (by assumption) (by assumption) (by assumption) (by assumption) (by assumption) (by assumption)).mono ?_)
              rintro e w' ⟨r173, rfl, hP, hc173⟩
              refine ⟨_, _, rfl, hP, ?_⟩; clear hP hM
              refine lgc (.bool r173) ?_
              refine lc (.bool r173) ?_
              refine la ?_
              refine liNil (qThen (stRet ?_))
              refine stEnd [(.bool r173)] rfl ⟨rfl, trivial⟩ (fun w hM => ?_)
              exact ⟨ret_bool (hc173 hcoll), (fun (w : World) (h : Mm _ _ _ w) => Mm.sub h (.cons _ (.cons _ (.cons _ (.cons _ (.cons _ (.cons _ (.cons _ (.cons _ (.cons _ (.cons _ (.cons _ (.cons _ (.cons _ (.cons _ (.cons _ (.cons _ (.cons _ (.cons _ .slnil))))))))))))))))))) w hM⟩
          · have hd165 := of_decide_eq_false hc165
            have hcoll : collP a b := Classical.byContradiction fun hcc => of_decide_eq_false hc165 ((run_exact hS2 hKl2 hmK2 (coll_symm hcc)).1.trans (run_exact hS hKl hmK hcc).2.symm)
            refine lnF ?_
            refine lnF ?_
            refine lnF ?_
            refine lgc (.bool false) ?_
            refine lgm ?_
            refine lgm ?_
            refine lgm ?_
            refine liGo rfl rfl ?_
            refine opK0 (fun w hM => (lsColl_any A c a A2 c2 b w (r1.go0 hM) (r2.go0 hM) (by assumption) (by assumption) (by assumption) (by assumption) (by assumption) (by assumption)).mono ?_)
            rintro e w' ⟨r173, rfl, hP, hc173⟩
            refine ⟨_, _, rfl, hP, ?_⟩; clear hP hM
            refine St.to [cAt b5 24 [(.int .i64 ((f : Nat) : Int)), (.int .i64 ((g : Nat) : Int))], cAt bs46 66 [(.slice A246 (a.length) (c246)), (.int .i64 ((f : Nat) : Int)), (.int .i64 ((g : Nat) : Int)), (.map (some nm46)), (.map (some om46))], cOwn 9 1 A246 (a.length) (c246) (SS a), cSet nm46 ((runN a b f g 1 j).1), cSet om46 ((runN a b f g 1 j).2), cAt bs53 66 [(.slice A253 (b.length) (c253)), (.int .i64 ((f : Nat) : Int)), (.int .i64 ((g : Nat) : Int)), (.map (some nm53)), (.map (some om53))], cOwn 9 1 A253 (b.length) (c253) (SS b), cSet nm53 ((runN a b f g 0 j).1), cSet om53 ((runN a b f g 0 j).2), cOwn 5 1 BX ((runM a b f g j).length) (cX) (B8 (runM a b f g j)), cOwn 9 1 B197 ((withL [] (runN a b f g 1 j).2).length) (cb197) (SS (withL [] (runN a b f g 1 j).2)), cOwn 9 1 B297 ((withL [] (runN a b f g 1 j).1).length) (cb297) (SS (withL [] (runN a b f g 1 j).1)), cOwn 9 1 B122 ((withL [] ((runN a b f g 1 j).2)).length) (cb122) (SS (withL [] ((runN a b f g 1 j).2))), cOwn 9 1 B129 ((withL [] ((runN a b f g 1 j).1)).length) (cb129) (SS (withL [] ((runN a b f g 1 j).1))), cOwn 9 1 B136 ((withL [] ((runN a b f g 0 j).1)).length) (cb136) (SS (withL [] ((runN a b f g 0 j).1))), cOwn 9 1 B143 ((withL [] ((runN a b f g 0 j).2)).length) (cb143) (SS (withL [] ((runN a b f g 0 j).2))), cOwn 9 1 B1153 ((withL [] (runN b a f g 1 K2).2).length) (cb1153) (SS (withL [] (runN b a f g 1 K2).2)), cOwn 9 1 B2153 ((withL [] (runN b a f g 1 K2).1).length) (cb2153) (SS (withL [] (runN b a f g 1 K2).1))] (by kernel_rfl) ?_
            refine lgc (.bool r173) ?_
            refine lc (.bool r173) ?_
            refine la ?_
            refine liNil (qThen (stRet ?_))
            refine stEnd [(.bool r173)] rfl ⟨rfl, trivial⟩ (fun w hM => ?_)
            exact ⟨ret_bool (hc173 hcoll), (fun (w : World) (h : Mm _ _ _ w) => Mm.sub h (.cons _ (.cons _ (.cons _ (.cons _ (.cons _ (.cons _ (.cons _ (.cons _ (.cons _ (.cons _ (.cons _ (.cons _ (.cons _ (.cons _ (.cons _ (.cons _ (.cons _ (.cons _ .slnil))))))))))))))))))) w hM⟩

end Go.Proofs.YtlepfnihpdhcaaaGreatDoor
