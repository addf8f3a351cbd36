/- rangesum: what a session reads. -/
import Derived.Test.YtlepfnihpdhcaaaGreatDoorRs2
namespace Go.Proofs.YtlepfnihpdhcaaaGreatDoor
open Go.RowKit

/-- A session's block and its items. -/
def SessAt (bs : Nat) (A : Option Addr) (c : Nat) (its : List (List UInt8)) (fan leaf nm om : Nat) (w : World) : Prop := At w bs 66 [(.slice A (its.length) (c)), (.int .i64 ((fan : Nat) : Int)), (.int .i64 ((leaf : Nat) : Int)), (.map (some nm)), (.map (some om))] ∧ RowIn w A (SS its)

set_option maxRecDepth 100000 in
set_option maxHeartbeats 1000000 in
theorem search_any (n : Nat) (g : FuncId) (caps : List Value) (p : Nat → Bool) (w : World) (hn : n ≤ 68719476736) (eg : ∀ args w, (callFunc g args).run Tryz.prog w = .ok (.enter g args) w) (hc : ∀ i, i < n → ∀ w', Fr [] w w' → Calls Tryz.prog g (#[.int .i64 ((i : Nat) : Int)] ++ caps.toArray) w' fun e w'' => e = .returned (.bool (p i)) ∧ Fr [] w' w'') :
    Calls Tryz.prog 80 #[(.int .i64 ((n : Nat) : Int)), (.func (.func g) #[] caps.toArray)] w fun e w' => e = .returned (.int .i64 (((bsr p 0 n) : Nat) : Int)) ∧ Back [] w [] w' := by
  refine stEnter (args := [(.int .i64 ((n : Nat) : Int)), (.func (.func g) #[] caps.toArray)]) (fps []) Tryz.func80 rfl 26 rfl [(0, (.int .i64 ((n : Nat) : Int))), (1, (.func (.func g) #[] caps.toArray))] ⟨rfl, rfl, trivial⟩ [] (Mm.start w []) ?_
  refine stSeq (reg ?_)
  refine la ?_
  refine liNil (qThen (stSeq (reg ?_)))
  refine lm ?_
  refine la ?_
  refine la ?_
  refine liNil (qThen (stSeq (stBlock ?_)))
  refine stLoop (ι := Nat × Nat) (fun (i, j) => i ≤ j ∧ j ≤ n ∧ bsr p i j = bsr p 0 n) (fun (i, j) => j - i) (fun (i, j) => [(1, (.func (.func g) #[] caps.toArray)), (4, (.int .i64 0)), (5, (.int .i64 ((i : Nat) : Int))), (6, (.int .i64 ((j : Nat) : Int)))]) (fun (i, j) => []) (0, n) ⟨Nat.zero_le _, Nat.le_refl _, rfl⟩ ⟨rfl, rfl, rfl, rfl, trivial⟩ (fun _ h => h) ?_
  rintro ⟨i, j⟩ ⟨h1, h2, h3⟩
  show St _ _ _ [(1, (.func (.func g) #[] caps.toArray)), (4, (.int .i64 0)), (5, (.int .i64 ((i : Nat) : Int))), (6, (.int .i64 ((j : Nat) : Int)))] [] _
  refine stSeq (stSeq (reg ?_))
  refine lm ?_
  refine lm ?_
  refine lc (.bool (decide (((i : Nat) : Int) < ((j : Nat) : Int)))) ?_
  refine liNil (qThen ?_)
  refine stCond rfl (fun hc11 => ?_) (fun hc11 => ?_)
  · have hd11 := of_decide_eq_true hc11
    have hij : i < j := by omega
    refine stSkip (qThen (stBlock (stSeq (reg ?_))))
    refine lm ?_
    refine lm ?_
    refine lv (v := (.int .i64 ((i + j : Nat) : Int))) (rAdd _ rfl rfl rfl (by omega) (by omega) (by omega)) ?_
    refine lv (v := (.int .u64 (((i + j) : Nat) : Int))) (rIntC _ (fun _ => by kernel_rfl) rfl rfl (wrapU64_id (by omega) (by omega))) ?_
    refine lv (v := (.int .u64 ((((i + j) / 2) : Nat) : Int))) (rShr1 rfl rfl rfl) ?_
    refine lv (v := (.int .i64 ((((i + j) / 2) : Nat) : Int))) (rIntC _ (fun _ => by kernel_rfl) rfl rfl (wrap64_id (by omega) (by omega))) ?_
    refine la ?_
    refine liNil (qThen (stSeq (reg ?_)))
    refine lm ?_
    refine lm ?_
    refine li rfl ?_
    refine opKF (f := g) (caps := caps.toArray) rfl rfl rfl eg (fun w hM => (hc ((i + j) / 2) (by omega) w hM.fr).mono ?_)
    rintro e w' ⟨rfl, hf⟩
    refine ⟨_, [], rfl, Mm.of_fr hf, ?_⟩; clear hf hM
    refine lc (.bool (!(p ((i + j) / 2)))) ?_
    refine liNil (qThen ?_)
    refine stCond rfl (fun hc21 => ?_) (fun hc21 => ?_)
    · refine reg ?_
      refine lm ?_
      refine lv (v := (.int .i64 ((((i + j) / 2) + 1 : Nat) : Int))) (rAdd _ rfl rfl rfl (by omega) (by omega) (by omega)) ?_
      refine la ?_
      refine liNil (qBlock (qThen ?_))
      exact stAgain (((i + j) / 2) + 1, j) (by refine ⟨by omega, by omega, ?_⟩; rw [← h3]; first | exact (bsr_lo hij (by simpa using hc21)).symm | exact (bsr_hi hij (by simpa using hc21)).symm) (by dsimp only; omega) ⟨rfl, rfl, rfl, rfl, trivial⟩ (fun w hM => by show Mm _ _ [] w; exact hM)
    · refine reg ?_
      refine lm ?_
      refine la ?_
      refine liNil (qBlock (qThen ?_))
      exact stAgain (i, ((i + j) / 2)) (by refine ⟨by omega, by omega, ?_⟩; rw [← h3]; first | exact (bsr_lo hij (by simpa using hc21)).symm | exact (bsr_hi hij (by simpa using hc21)).symm) (by dsimp only; omega) ⟨rfl, rfl, rfl, rfl, trivial⟩ (fun w hM => by show Mm _ _ [] w; exact hM)
  · have hd11 := of_decide_eq_false hc11
    refine stExit (qThenX (qThenX (qBlockX (qThen (stSeq (reg ?_))))))
    refine lm ?_
    refine la ?_
    refine liNil (qThen (stRet ?_))
    refine stEnd [(.int .i64 ((i : Nat) : Int))] rfl ⟨rfl, trivial⟩ (fun w hM => ?_)
    exact ⟨by rw [← h3, bsr_end (by omega)]; rfl, hM⟩

set_option maxRecDepth 100000 in
set_option maxHeartbeats 1000000 in
theorem rsClo1_any (i : Nat) (b2 : Nat) (b3 : Nat) (bs : Nat) (A : Option Addr) (c : Nat) (its : List (List UInt8)) (fan : Nat) (leaf : Nat) (nm : Nat) (om : Nat) (lo : List UInt8) (hi : List UInt8) (w : World) (r0 : Rf [] w (SessAt bs A c its fan leaf nm om)) (r1 : Rf [] w (fun w => At w b2 29 [(.pointer (some ⟨bs, 0, none⟩))])) (r2 : Rf [] w (fun w => At w b3 69 [(.string (strOf lo)), (.string (strOf hi))])) (hi' : i < its.length) :
    Calls Tryz.prog 81 #[(.int .i64 ((i : Nat) : Int)), (.pointer (some ⟨b2, 0, none⟩)), (.pointer (some ⟨b3, 0, none⟩))] w fun e w' => e = .returned (.bool (geP its lo i)) ∧ Back [] w [] w' := by
  have ra := r0.imp (fun _ h => h.1)
  have rb := r0.imp (fun _ h => h.2)
  refine stEnter (args := [(.int .i64 ((i : Nat) : Int)), (.pointer (some ⟨b2, 0, none⟩)), (.pointer (some ⟨b3, 0, none⟩))]) (fps []) Tryz.func81 rfl 15 rfl [(0, (.int .i64 ((i : Nat) : Int))), (1, (.pointer (some ⟨b2, 0, none⟩))), (2, (.pointer (some ⟨b3, 0, none⟩)))] ⟨rfl, rfl, rfl, trivial⟩ [] (Mm.start w []) ?_
  refine stSeq (reg ?_)
  refine la ?_
  refine liNil (qThen (stSeq ?_))
  refine anyBegin [] 11 (by kernel_rfl) (fun _ h => h) ?_
  refine av 0 (.pointer (some ⟨bs, 0, none⟩)) rfl (rLoadW rfl rfl (by kernel_rfl) (fun w hM => At.cell (r1.now hM) 0)) ?_
  refine ac 1 (.pointer (some ⟨bs, 0, none⟩)) ?_
  refine ac 2 (.pointer (some ⟨bs, 0, none⟩)) ?_
  refine av 3 (.slice A (its.length) (c)) rfl (rLoadW rfl rfl (by kernel_rfl) (fun w hM => At.cell (ra.now hM) 0)) ?_
  refine am 4 ?_
  obtain ⟨x0, hx0⟩ : ∃ ξ, (its)[i]? = some ξ := ⟨_, List.getElem?_eq_getElem (by omega)⟩
  refine Any.rowPtr (fun w hM => rb.now hM) (SS_at hx0) (fun p10 q10 hA10 hc10 => ?_)
  refine av 5 (.pointer (some ⟨p10, q10 + i, none⟩)) rfl (rIndexRow (e := 9) rfl (by kernel_rfl) (by kernel_rfl) rfl rfl hA10 (by omega)) ?_
  refine av 6 (.string (strOf x0)) rfl (rLoadW rfl rfl (by kernel_rfl) hc10) ?_
  refine ac 7 (.pointer (some ⟨b3, 0, none⟩)) ?_
  refine av 8 (.string (strOf lo)) rfl (rLoadW rfl rfl (by kernel_rfl) (fun w hM => At.cell (r2.now hM) 0)) ?_
  refine av 9 (.bool (!decide (x0 < lo))) rfl (rStrGe rfl rfl rfl) ?_
  refine aa 10 ?_
  refine anyDone (by kernel_rfl) ?_
  refine qThen (stRet ?_)
  refine stEnd [(.bool (!decide (x0 < lo)))] rfl ⟨rfl, trivial⟩ (fun w hM => ?_)
  exact ⟨ret_bool (geP_at hx0).symm, hM⟩

set_option maxRecDepth 100000 in
set_option maxHeartbeats 1000000 in
theorem rsClo2_any (i : Nat) (b2 : Nat) (b3 : Nat) (bs : Nat) (A : Option Addr) (c : Nat) (its : List (List UInt8)) (fan : Nat) (leaf : Nat) (nm : Nat) (om : Nat) (lo : List UInt8) (hi : List UInt8) (w : World) (r0 : Rf [] w (SessAt bs A c its fan leaf nm om)) (r1 : Rf [] w (fun w => At w b2 29 [(.pointer (some ⟨bs, 0, none⟩))])) (r2 : Rf [] w (fun w => At w b3 69 [(.string (strOf lo)), (.string (strOf hi))])) (hi' : i < its.length) :
    Calls Tryz.prog 82 #[(.int .i64 ((i : Nat) : Int)), (.pointer (some ⟨b2, 0, none⟩)), (.pointer (some ⟨b3, 0, none⟩))] w fun e w' => e = .returned (.bool (geP its hi i)) ∧ Back [] w [] w' := by
  have ra := r0.imp (fun _ h => h.1)
  have rb := r0.imp (fun _ h => h.2)
  refine stEnter (args := [(.int .i64 ((i : Nat) : Int)), (.pointer (some ⟨b2, 0, none⟩)), (.pointer (some ⟨b3, 0, none⟩))]) (fps []) Tryz.func82 rfl 15 rfl [(0, (.int .i64 ((i : Nat) : Int))), (1, (.pointer (some ⟨b2, 0, none⟩))), (2, (.pointer (some ⟨b3, 0, none⟩)))] ⟨rfl, rfl, rfl, trivial⟩ [] (Mm.start w []) ?_
  refine stSeq (reg ?_)
  refine la ?_
  refine liNil (qThen (stSeq ?_))
  refine anyBegin [] 11 (by kernel_rfl) (fun _ h => h) ?_
  refine av 0 (.pointer (some ⟨bs, 0, none⟩)) rfl (rLoadW rfl rfl (by kernel_rfl) (fun w hM => At.cell (r1.now hM) 0)) ?_
  refine ac 1 (.pointer (some ⟨bs, 0, none⟩)) ?_
  refine ac 2 (.pointer (some ⟨bs, 0, none⟩)) ?_
  refine av 3 (.slice A (its.length) (c)) rfl (rLoadW rfl rfl (by kernel_rfl) (fun w hM => At.cell (ra.now hM) 0)) ?_
  refine am 4 ?_
  obtain ⟨x0, hx0⟩ : ∃ ξ, (its)[i]? = some ξ := ⟨_, List.getElem?_eq_getElem (by omega)⟩
  refine Any.rowPtr (fun w hM => rb.now hM) (SS_at hx0) (fun p10 q10 hA10 hc10 => ?_)
  refine av 5 (.pointer (some ⟨p10, q10 + i, none⟩)) rfl (rIndexRow (e := 9) rfl (by kernel_rfl) (by kernel_rfl) rfl rfl hA10 (by omega)) ?_
  refine av 6 (.string (strOf x0)) rfl (rLoadW rfl rfl (by kernel_rfl) hc10) ?_
  refine ac 7 (.pointer (some ⟨b3, 1, none⟩)) ?_
  refine av 8 (.string (strOf hi)) rfl (rLoadW rfl rfl (by kernel_rfl) (fun w hM => At.cell (r2.now hM) 1)) ?_
  refine av 9 (.bool (!decide (x0 < hi))) rfl (rStrGe rfl rfl rfl) ?_
  refine aa 10 ?_
  refine anyDone (by kernel_rfl) ?_
  refine qThen (stRet ?_)
  refine stEnd [(.bool (!decide (x0 < hi)))] rfl ⟨rfl, trivial⟩ (fun w hM => ?_)
  exact ⟨ret_bool (geP_at hx0).symm, hM⟩

set_option maxRecDepth 100000 in
set_option maxHeartbeats 1000000 in
theorem rsClo3_any (i : Nat) (b2 : Nat) (b3 : Nat) (bs : Nat) (A : Option Addr) (c : Nat) (its : List (List UInt8)) (fan : Nat) (leaf : Nat) (nm : Nat) (om : Nat) (x : List UInt8) (w : World) (r0 : Rf [] w (SessAt bs A c its fan leaf nm om)) (r1 : Rf [] w (fun w => At w b2 29 [(.pointer (some ⟨bs, 0, none⟩))])) (r2 : Rf [] w (fun w => At w b3 9 [(.string (strOf x))])) (hi' : i < its.length) :
    Calls Tryz.prog 93 #[(.int .i64 ((i : Nat) : Int)), (.pointer (some ⟨b2, 0, none⟩)), (.pointer (some ⟨b3, 0, none⟩))] w fun e w' => e = .returned (.bool (geP its x i)) ∧ Back [] w [] w' := by
  have ra := r0.imp (fun _ h => h.1)
  have rb := r0.imp (fun _ h => h.2)
  refine stEnter (args := [(.int .i64 ((i : Nat) : Int)), (.pointer (some ⟨b2, 0, none⟩)), (.pointer (some ⟨b3, 0, none⟩))]) (fps []) Tryz.func93 rfl 14 rfl [(0, (.int .i64 ((i : Nat) : Int))), (1, (.pointer (some ⟨b2, 0, none⟩))), (2, (.pointer (some ⟨b3, 0, none⟩)))] ⟨rfl, rfl, rfl, trivial⟩ [] (Mm.start w []) ?_
  refine stSeq (reg ?_)
  refine la ?_
  refine liNil (qThen (stSeq ?_))
  refine anyBegin [] 10 (by kernel_rfl) (fun _ h => h) ?_
  refine av 0 (.pointer (some ⟨bs, 0, none⟩)) rfl (rLoadW rfl rfl (by kernel_rfl) (fun w hM => At.cell (r1.now hM) 0)) ?_
  refine ac 1 (.pointer (some ⟨bs, 0, none⟩)) ?_
  refine ac 2 (.pointer (some ⟨bs, 0, none⟩)) ?_
  refine av 3 (.slice A (its.length) (c)) rfl (rLoadW rfl rfl (by kernel_rfl) (fun w hM => At.cell (ra.now hM) 0)) ?_
  refine am 4 ?_
  obtain ⟨x0, hx0⟩ : ∃ ξ, (its)[i]? = some ξ := ⟨_, List.getElem?_eq_getElem (by omega)⟩
  refine Any.rowPtr (fun w hM => rb.now hM) (SS_at hx0) (fun p10 q10 hA10 hc10 => ?_)
  refine av 5 (.pointer (some ⟨p10, q10 + i, none⟩)) rfl (rIndexRow (e := 9) rfl (by kernel_rfl) (by kernel_rfl) rfl rfl hA10 (by omega)) ?_
  refine av 6 (.string (strOf x0)) rfl (rLoadW rfl rfl (by kernel_rfl) hc10) ?_
  refine av 7 (.string (strOf x)) rfl (rLoadW rfl rfl (by kernel_rfl) (fun w hM => At.cell (r2.now hM) 0)) ?_
  refine av 8 (.bool (!decide (x0 < x))) rfl (rStrGe rfl rfl rfl) ?_
  refine aa 9 ?_
  refine anyDone (by kernel_rfl) ?_
  refine qThen (stRet ?_)
  refine stEnd [(.bool (!decide (x0 < x)))] rfl ⟨rfl, trivial⟩ (fun w hM => ?_)
  exact ⟨ret_bool (geP_at hx0).symm, hM⟩

set_option maxRecDepth 100000 in
set_option maxHeartbeats 1000000 in
theorem rsWithin_any (bs : Nat) (A : Option Addr) (c : Nat) (its : List (List UInt8)) (fan : Nat) (leaf : Nat) (nm : Nat) (om : Nat) (lo : List UInt8) (hi : List UInt8) (w : World) (r0 : Rf [] w (SessAt bs A c its fan leaf nm om)) (hs : okSet its) (hn : its.length ≤ 1000) (hcap : its.length ≤ c) :
    Calls Tryz.prog 57 #[(.pointer (some ⟨bs, 0, none⟩)), (.agg #[(.string (strOf lo)), (.string (strOf hi))])] w fun e w' => ∃ (B : Option Addr) (cb : Nat), e = .returned (.slice B ((inL its lo hi).length) (cb)) ∧ Back [] w [] w' ∧ (∀ w, RowIn w A (SS its) → RowIn w B (SS (inL its lo hi))) := by
  have ra := r0.imp (fun _ h => h.1)
  have rb := r0.imp (fun _ h => h.2)
  refine stEnter (args := [(.pointer (some ⟨bs, 0, none⟩)), (.agg #[(.string (strOf lo)), (.string (strOf hi))])]) (fps []) Tryz.func57 rfl 38 rfl [(0, (.pointer (some ⟨bs, 0, none⟩))), (1, (.agg #[(.string (strOf lo)), (.string (strOf hi))]))] ⟨rfl, rfl, trivial⟩ [] (Mm.start w []) ?_
  refine stSeq (reg (li rfl ?_))
  refine opBox [(.pointer (some ⟨bs, 0, none⟩))] rfl rfl (by kernel_rfl) rfl rfl (fun b2 => ?_)
  refine li rfl ?_
  refine opBox [(.string (strOf lo)), (.string (strOf hi))] rfl rfl (by kernel_rfl) rfl rfl (fun b3 => ?_)
  refine la ?_
  refine liNil (qThen (stSeq ?_))
  refine St.to [cAt b2 29 [(.pointer (some ⟨bs, 0, none⟩))], cAt b3 69 [(.string (strOf lo)), (.string (strOf hi))]] (by kernel_rfl) ?_
  refine reg ?_
  refine lv (v := (.pointer (some ⟨bs, 0, none⟩))) (rLoad 0 rfl rfl (by kernel_rfl) rfl rfl) ?_
  refine lc (.pointer (some ⟨bs, 0, none⟩)) ?_
  refine lc (.pointer (some ⟨bs, 0, none⟩)) ?_
  refine lv (v := (.slice A (its.length) (c))) (rLoadW rfl rfl (by kernel_rfl) (fun w hM => At.cell (ra.now hM) 0)) ?_
  refine lc (.int .i64 ((its.length : Nat) : Int)) ?_
  refine lc (.func (.func 81) #[] #[(.pointer (some ⟨b2, 0, none⟩)), (.pointer (some ⟨b3, 0, none⟩))]) ?_
  refine li rfl ?_
  refine opK0 (fun w hM => (search_any (its.length) 81 [(.pointer (some ⟨b2, 0, none⟩)), (.pointer (some ⟨b3, 0, none⟩))] (geP its lo) w (by omega) (enters Tryz.func81 (by kernel_rfl) rfl) (fun i hlt w' hf => (rsClo1_any i _ _ bs A c its fan leaf nm om lo hi w' (((r0.go0 hM).step hf (by simp))) (((hM.keep0 (j := 0) rfl (fun _ h => h)).step hf (by simp))) (((hM.keep0 (j := 1) rfl (fun _ h => h)).step hf (by simp))) hlt).mono fun e w'' he => ⟨he.1, he.2.fr⟩)).mono ?_)
  rintro e w' ⟨rfl, hP⟩
  refine ⟨_, _, rfl, hP, ?_⟩; clear hP hM
  rw [search_pos hs.2 lo]
  refine la ?_
  refine liNil (qThen (stSeq (reg ?_)))
  refine lv (v := (.pointer (some ⟨bs, 0, none⟩))) (rLoad 0 rfl rfl (by kernel_rfl) rfl rfl) ?_
  refine lc (.pointer (some ⟨bs, 0, none⟩)) ?_
  refine lc (.pointer (some ⟨bs, 0, none⟩)) ?_
  refine lv (v := (.slice A (its.length) (c))) (rLoadW rfl rfl (by kernel_rfl) (fun w hM => At.cell (ra.now hM) 0)) ?_
  refine lc (.int .i64 ((its.length : Nat) : Int)) ?_
  refine la ?_
  refine liNil (qThen (stSeq (stSeq (reg ?_))))
  refine lc (.pointer (some ⟨b3, 1, none⟩)) ?_
  refine lv (v := (.string (strOf hi))) (rLoad 1 rfl rfl (by kernel_rfl) rfl rfl) ?_
  refine lv (v := (.bool (!decide (hi = [])))) (rStrNe rfl rfl rfl) ?_
  refine liNil (qThen ?_)
  refine stCond rfl (fun hc21 => ?_) (fun hc21 => ?_)
  · refine reg ?_
    refine lv (v := (.pointer (some ⟨bs, 0, none⟩))) (rLoad 0 rfl rfl (by kernel_rfl) rfl rfl) ?_
    refine lc (.pointer (some ⟨bs, 0, none⟩)) ?_
    refine lc (.pointer (some ⟨bs, 0, none⟩)) ?_
    refine lv (v := (.slice A (its.length) (c))) (rLoadW rfl rfl (by kernel_rfl) (fun w hM => At.cell (ra.now hM) 0)) ?_
    refine lc (.int .i64 ((its.length : Nat) : Int)) ?_
    refine lc (.func (.func 82) #[] #[(.pointer (some ⟨b2, 0, none⟩)), (.pointer (some ⟨b3, 0, none⟩))]) ?_
    refine li rfl ?_
    refine opK0 (fun w hM => (search_any (its.length) 82 [(.pointer (some ⟨b2, 0, none⟩)), (.pointer (some ⟨b3, 0, none⟩))] (geP its hi) w (by omega) (enters Tryz.func82 (by kernel_rfl) rfl) (fun i hlt w' hf => (rsClo2_any i _ _ bs A c its fan leaf nm om lo hi w' (((r0.go0 hM).step hf (by simp))) (((hM.keep0 (j := 0) rfl (fun _ h => h)).step hf (by simp))) (((hM.keep0 (j := 1) rfl (fun _ h => h)).step hf (by simp))) hlt).mono fun e w'' he => ⟨he.1, he.2.fr⟩)).mono ?_)
    rintro e w' ⟨rfl, hP⟩
    refine ⟨_, _, rfl, hP, ?_⟩; clear hP hM
    rw [search_pos hs.2 hi]
    refine la ?_
    refine liNil (qThen (stSeq ?_))
    refine St.to [cAt b2 29 [(.pointer (some ⟨bs, 0, none⟩))], cAt b3 69 [(.string (strOf lo)), (.string (strOf hi))]] (by kernel_rfl) ?_
    refine reg ?_
    refine lv (v := (.pointer (some ⟨bs, 0, none⟩))) (rLoad 0 rfl rfl (by kernel_rfl) rfl rfl) ?_
    refine lc (.pointer (some ⟨bs, 0, none⟩)) ?_
    refine lc (.pointer (some ⟨bs, 0, none⟩)) ?_
    refine lv (v := (.slice A (its.length) (c))) (rLoadW rfl rfl (by kernel_rfl) (fun w hM => At.cell (ra.now hM) 0)) ?_
    refine lm ?_
    refine lm ?_
    refine lm ?_
    refine lv (v := (.int .i64 (((max (posB its lo) (posB its hi)) : Nat) : Int))) (rMaxN rfl rfl rfl) ?_
    have hp := inL_part hs.2 lo hi
    rw [if_neg (by simpa using hc21)] at hp
    have h1 := posB_le its lo
    have h2 := posB_le its hi
    refine lv (v := (.slice (if c = posB its lo then A else A.map (·.add (posB its lo * 1))) ((inL its lo hi).length) (c - posB its lo))) (rConv (rSliceLH (e := 9) (sz := 1) rfl (by kernel_rfl) (by kernel_rfl) rfl rfl rfl (by omega) (by omega)) (by rw [← hp, List.length_drop, List.length_take, Nat.min_eq_left (by omega)])) ?_
    refine la ?_
    refine liNil (qThen (stRet ?_))
    refine stEnd [(.slice (if c = posB its lo then A else A.map (·.add (posB its lo * 1))) ((inL its lo hi).length) (c - posB its lo))] rfl ⟨rfl, trivial⟩ (fun w hM => ?_)
    exact ⟨_, _, rfl, (fun (w : World) (h : Mm _ _ _ w) => Mm.sub h (.cons _ (.cons _ .slnil))) w hM, fun w h => by rw [← hp]; exact rowMid _ _ h hcap⟩
  · refine stSkip (qThen (stSeq (reg ?_)))
    refine lv (v := (.pointer (some ⟨bs, 0, none⟩))) (rLoad 0 rfl rfl (by kernel_rfl) rfl rfl) ?_
    refine lc (.pointer (some ⟨bs, 0, none⟩)) ?_
    refine lc (.pointer (some ⟨bs, 0, none⟩)) ?_
    refine lv (v := (.slice A (its.length) (c))) (rLoadW rfl rfl (by kernel_rfl) (fun w hM => At.cell (ra.now hM) 0)) ?_
    refine lm ?_
    refine lm ?_
    refine lm ?_
    refine lv (v := (.int .i64 (((max (posB its lo) its.length) : Nat) : Int))) (rMaxN rfl rfl rfl) ?_
    have hp := inL_part hs.2 lo hi
    rw [if_pos (by simpa using hc21)] at hp
    have h1 := posB_le its lo
    have h2 := posB_le its hi
    refine lv (v := (.slice (if c = posB its lo then A else A.map (·.add (posB its lo * 1))) ((inL its lo hi).length) (c - posB its lo))) (rConv (rSliceLH (e := 9) (sz := 1) rfl (by kernel_rfl) (by kernel_rfl) rfl rfl rfl (by omega) (by omega)) (by rw [← hp, List.length_drop, List.length_take, Nat.min_eq_left (by omega)])) ?_
    refine la ?_
    refine liNil (qThen (stRet ?_))
    refine stEnd [(.slice (if c = posB its lo then A else A.map (·.add (posB its lo * 1))) ((inL its lo hi).length) (c - posB its lo))] rfl ⟨rfl, trivial⟩ (fun w hM => ?_)
    exact ⟨_, _, rfl, (fun (w : World) (h : Mm _ _ _ w) => Mm.sub h (.cons _ (.cons _ .slnil))) w hM, fun w h => by rw [← hp]; exact rowMid _ _ h hcap⟩

set_option maxRecDepth 100000 in
set_option maxHeartbeats 1000000 in
theorem rsSHas_any (bs : Nat) (A : Option Addr) (c : Nat) (its : List (List UInt8)) (fan : Nat) (leaf : Nat) (nm : Nat) (om : Nat) (x : List UInt8) (w : World) (r0 : Rf [] w (SessAt bs A c its fan leaf nm om)) (hs : okSet its) (hn : its.length ≤ 1000) :
    Calls Tryz.prog 64 #[(.pointer (some ⟨bs, 0, none⟩)), (.string (strOf x))] w fun e w' => e = .returned (.bool (its.contains x)) ∧ Back [] w [] w' := by
  have ra := r0.imp (fun _ h => h.1)
  have rb := r0.imp (fun _ h => h.2)
  refine stEnter (args := [(.pointer (some ⟨bs, 0, none⟩)), (.string (strOf x))]) (fps []) Tryz.func64 rfl 31 rfl [(0, (.pointer (some ⟨bs, 0, none⟩))), (1, (.string (strOf x)))] ⟨rfl, rfl, trivial⟩ [] (Mm.start w []) ?_
  refine stSeq (reg (li rfl ?_))
  refine opBox [(.pointer (some ⟨bs, 0, none⟩))] rfl rfl (by kernel_rfl) rfl rfl (fun b2 => ?_)
  refine li rfl ?_
  refine opBox [(.string (strOf x))] rfl rfl (by kernel_rfl) rfl rfl (fun b3 => ?_)
  refine la ?_
  refine liNil (qThen (stSeq ?_))
  refine St.to [cAt b2 29 [(.pointer (some ⟨bs, 0, none⟩))], cAt b3 9 [(.string (strOf x))]] (by kernel_rfl) ?_
  refine reg ?_
  refine lv (v := (.pointer (some ⟨bs, 0, none⟩))) (rLoad 0 rfl rfl (by kernel_rfl) rfl rfl) ?_
  refine lc (.pointer (some ⟨bs, 0, none⟩)) ?_
  refine lc (.pointer (some ⟨bs, 0, none⟩)) ?_
  refine lv (v := (.slice A (its.length) (c))) (rLoadW rfl rfl (by kernel_rfl) (fun w hM => At.cell (ra.now hM) 0)) ?_
  refine lc (.int .i64 ((its.length : Nat) : Int)) ?_
  refine lc (.func (.func 93) #[] #[(.pointer (some ⟨b2, 0, none⟩)), (.pointer (some ⟨b3, 0, none⟩))]) ?_
  refine li rfl ?_
  refine opK0 (fun w hM => (search_any (its.length) 93 [(.pointer (some ⟨b2, 0, none⟩)), (.pointer (some ⟨b3, 0, none⟩))] (geP its x) w (by omega) (enters Tryz.func93 (by kernel_rfl) rfl) (fun i hlt w' hf => (rsClo3_any i _ _ bs A c its fan leaf nm om x w' (((r0.go0 hM).step hf (by simp))) (((hM.keep0 (j := 0) rfl (fun _ h => h)).step hf (by simp))) (((hM.keep0 (j := 1) rfl (fun _ h => h)).step hf (by simp))) hlt).mono fun e w'' he => ⟨he.1, he.2.fr⟩)).mono ?_)
  rintro e w' ⟨rfl, hP⟩
  refine ⟨_, _, rfl, hP, ?_⟩; clear hP hM
  rw [search_pos hs.2 x]
  refine la ?_
  refine liNil (qThen (stSeq ?_))
  refine anyBegin [cAt b2 29 [(.pointer (some ⟨bs, 0, none⟩))], cAt b3 9 [(.string (strOf x))]] 19 (by kernel_rfl) (fun _ h => h) ?_
  refine am 0 ?_
  refine av 1 (.pointer (some ⟨bs, 0, none⟩)) rfl (rLoad 0 rfl rfl (by kernel_rfl) rfl rfl) ?_
  refine ac 2 (.pointer (some ⟨bs, 0, none⟩)) ?_
  refine ac 3 (.pointer (some ⟨bs, 0, none⟩)) ?_
  refine av 4 (.slice A (its.length) (c)) rfl (rLoadW rfl rfl (by kernel_rfl) (fun w hM => At.cell (ra.now hM) 0)) ?_
  refine ac 5 (.int .i64 ((its.length : Nat) : Int)) ?_
  refine ac 6 (.bool (decide ((((posB its x) : Nat) : Int) < ((its.length : Nat) : Int)))) ?_
  refine am 7 ?_
  refine Any.dec 20 rfl (fun hc20 => ?_) (fun hc20 => ?_)
  · have hd20 := of_decide_eq_true hc20
    refine agv 8 (.pointer (some ⟨bs, 0, none⟩)) rfl (rLoad 0 rfl rfl (by kernel_rfl) rfl rfl) ?_
    refine agc 9 (.pointer (some ⟨bs, 0, none⟩)) ?_
    refine agc 10 (.pointer (some ⟨bs, 0, none⟩)) ?_
    refine agv 11 (.slice A (its.length) (c)) rfl (rLoadW rfl rfl (by kernel_rfl) (fun w hM => At.cell (ra.now hM) 0)) ?_
    refine agm 12 ?_
    obtain ⟨x0, hx0⟩ : ∃ ξ, (its)[posB its x]? = some ξ := ⟨_, List.getElem?_eq_getElem (by omega)⟩
    refine Any.rowPtr (fun w hM => rb.now hM) (SS_at hx0) (fun p26 q26 hA26 hc26 => ?_)
    refine agv 13 (.pointer (some ⟨p26, q26 + (posB its x), none⟩)) rfl (rIndexRow (e := 9) rfl (by kernel_rfl) (by kernel_rfl) rfl rfl hA26 (by omega)) ?_
    refine agv 14 (.string (strOf x0)) rfl (rLoadW rfl rfl (by kernel_rfl) hc26) ?_
    refine agv 15 (.string (strOf x)) rfl (rLoad 1 rfl rfl (by kernel_rfl) rfl rfl) ?_
    refine agv 16 (.bool (decide (x0 = x))) rfl (rStrEq rfl rfl rfl) ?_
    refine ac 17 (.bool (decide (x0 = x))) ?_
    refine aa 18 ?_
    refine anyDone (by kernel_rfl) ?_
    refine qThen (stRet ?_)
    refine stEnd [(.bool (decide (x0 = x)))] rfl ⟨rfl, trivial⟩ (fun w hM => ?_)
    exact ⟨ret_bool (by rw [has_pos hs.2, hx0]; simp), (fun (w : World) (h : Mm _ _ _ w) => Mm.sub h (.cons _ (.cons _ .slnil))) w hM⟩
  · have hd20 := of_decide_eq_false hc20
    refine anF 8 ?_
    refine anF 9 ?_
    refine anF 10 ?_
    refine anF 11 ?_
    refine anF 12 ?_
    refine anF 13 ?_
    refine anF 14 ?_
    refine anF 15 ?_
    refine anF 16 ?_
    refine ac 17 (.bool false) ?_
    refine aa 18 ?_
    refine anyDone (by kernel_rfl) ?_
    refine qThen (stRet ?_)
    refine stEnd [(.bool false)] rfl ⟨rfl, trivial⟩ (fun w hM => ?_)
    exact ⟨ret_bool (by rw [has_pos hs.2, List.getElem?_eq_none (l := its) (i := posB its x) (by omega)]; simp), (fun (w : World) (h : Mm _ _ _ w) => Mm.sub h (.cons _ (.cons _ .slnil))) w hM⟩

set_option maxRecDepth 100000 in
set_option maxHeartbeats 1000000 in
theorem rsSum_any (bs : Nat) (A : Option Addr) (c : Nat) (its : List (List UInt8)) (fan : Nat) (leaf : Nat) (nm : Nat) (om : Nat) (lo : List UInt8) (hi : List UInt8) (w : World) (r0 : Rf [] w (Vars)) (r1 : Rf [] w (SessAt bs A c its fan leaf nm om)) (hs : okSet its) (hn : its.length ≤ 1000) (hcap : its.length ≤ c) :
    Calls Tryz.prog 38 #[(.pointer (some ⟨bs, 0, none⟩)), (.agg #[(.string (strOf lo)), (.string (strOf hi))])] w fun e w' => e = .returned (.agg #[(.int .i64 (((inL its lo hi).length : Nat) : Int)), (.string (strOf (fpB (inL its lo hi))))]) ∧ Back [] w [] w' := by
  have ra := r1.imp (fun _ h => h.1)
  have rb := r1.imp (fun _ h => h.2)
  refine stEnter (args := [(.pointer (some ⟨bs, 0, none⟩)), (.agg #[(.string (strOf lo)), (.string (strOf hi))])]) (fps []) Tryz.func38 rfl 14 rfl [(0, (.pointer (some ⟨bs, 0, none⟩))), (1, (.agg #[(.string (strOf lo)), (.string (strOf hi))]))] ⟨rfl, rfl, trivial⟩ [] (Mm.start w []) ?_
  refine stSeq (reg (li rfl ?_))
  refine opBox [(.string (strOf lo)), (.string (strOf hi))] rfl rfl (by kernel_rfl) rfl rfl (fun b3 => ?_)
  refine li rfl ?_
  refine opAlloc [(.int .i64 0), (.string ⟨#[]⟩)] rfl rfl (by kernel_rfl) (by kernel_rfl) (fun b4 => ?_)
  refine liNil (qThen (stSeq ?_))
  refine St.to [cAt b3 69 [(.string (strOf lo)), (.string (strOf hi))], cAt b4 71 [(.int .i64 0), (.string ⟨#[]⟩)]] (by kernel_rfl) ?_
  refine reg ?_
  refine lm ?_
  refine lv (v := (.agg #[(.string (strOf lo)), (.string (strOf hi))])) (rLoadA [(.string (strOf lo)), (.string (strOf hi))] rfl rfl (by kernel_rfl) (by kernel_rfl) (segAt (i := 0) rfl (by intro j v hj; first | (rw [Nat.zero_add]; exact hj) | (match j, hj with | 0, h => exact h | 1, h => exact h)))) ?_
  refine li rfl ?_
  refine opK0 (fun w hM => (rsWithin_any bs A c its fan leaf nm om lo hi w (r1.go0 hM) (by assumption) (by assumption) (by assumption)).mono ?_)
  rintro e w' ⟨B8, cb8, rfl, hP, hsub8⟩
  refine ⟨_, _, rfl, hP, ?_⟩; clear hP hM
  have rs8 := Ro.imp (Ψ := fun w => RowIn w B8 (SS (inL its lo hi))) rb hsub8
  refine la ?_
  refine liNil (qThen (stSeq (reg ?_)))
  refine lm ?_
  refine lc (.int .i64 (((inL its lo hi).length : Nat) : Int)) ?_
  refine lm ?_
  refine li rfl ?_
  refine opK0 (fun w hM => (rsJoin_any B8 cb8 (inL its lo hi) w (r0.go0 hM) (rs8.go0 hM) (by have := inL_flat hs lo hi; omega) (by have := inL_len its lo hi; omega)).mono ?_)
  rintro e w' ⟨rfl, hP⟩
  refine ⟨_, _, rfl, hP, ?_⟩; clear hP hM
  refine lc (.agg #[(.int .i64 (((inL its lo hi).length : Nat) : Int)), (.string (strOf (sha (inL its lo hi).flatten)))]) ?_
  refine li rfl ?_
  refine opStoreN 1 [(.int .i64 (((inL its lo hi).length : Nat) : Int)), (.string (strOf (sha (inL its lo hi).flatten)))] (vs := [(.int .i64 (((inL its lo hi).length : Nat) : Int)), (.string (strOf (sha (inL its lo hi).flatten)))]) rfl rfl (by kernel_rfl) rfl rfl rfl (by kernel_rfl) rfl (by simp) (by simp [Value.oneCell']) rfl ?_
  refine liNil (qThen (stRet ?_))
  refine stEnd [(.agg #[(.int .i64 (((inL its lo hi).length : Nat) : Int)), (.string (strOf (sha (inL its lo hi).flatten)))])] rfl ⟨⟨_, rfl, fun w hM => run_loadVarA (by kernel_rfl) (by kernel_rfl) (segAt (i := 1) (off := 0) rfl (by intro j v hj; rw [Nat.zero_add]; exact hj) w hM)⟩, trivial⟩ (fun w hM => ?_)
  exact ⟨rfl, (fun (w : World) (h : Mm _ _ _ w) => Mm.sub h (.cons _ (.cons _ .slnil))) w hM⟩

end Go.Proofs.YtlepfnihpdhcaaaGreatDoor
