/- collision; RangesumExact. -/
import Derived.Test.YtlepfnihpdhcaaaGreatDoorRs14
import Derived.Test.YtlepfnihpdhcaaaGreatDoorRsTh3
namespace Go.Proofs.YtlepfnihpdhcaaaGreatDoor
open Go.RowKit

theorem seg_flat {l : List Bs} (h : okSet l) (h4 : l.length ≤ 40) (i j : Nat) : (seg l i j).length ≤ 40 ∧ (seg l i j).flatten.length ≤ 68719476736 := by
  have h1 : (seg l i j).length ≤ 40 := by unfold seg; rw [List.length_drop, List.length_take]; omega
  have h2 := flat_len (xs := seg l i j) fun x hx => h.1 x (List.mem_of_mem_take (List.mem_of_mem_drop hx))
  omega

set_option maxRecDepth 100000 in
set_option maxHeartbeats 1000000 in
theorem lsColl_any (A : Option Addr) (c : Nat) (a : List (List UInt8)) (A2 : Option Addr) (c2 : Nat) (b : List (List UInt8)) (w : World) (r0 : Rf [] w (fun w => RowIn w A (SS a))) (r1 : Rf [] w (fun w => RowIn w A2 (SS b))) (hsa : okSet a) (hsb : okSet b) (ha4 : a.length ≤ 40) (hb4 : b.length ≤ 40) (hca : a.length ≤ c) (hcb : b.length ≤ c2) :
    Calls Tryz.prog 27 #[(.slice A (a.length) (c)), (.slice A2 (b.length) (c2))] w fun e w' => ∃ (r : Bool), e = .returned (.bool r) ∧ Back [] w [] w' ∧ (collP a b → r = true) := by
  refine stEnter (args := [(.slice A (a.length) (c)), (.slice A2 (b.length) (c2))]) (fps []) Tryz.func27 rfl 62 rfl [(0, (.slice A (a.length) (c))), (1, (.slice A2 (b.length) (c2)))] ⟨rfl, rfl, trivial⟩ [] (Mm.start w []) ?_
  refine stSeq (reg ?_)
  refine la ?_
  refine liNil (qThen (stSeq (stSeq (reg ?_))))
  refine la ?_
  refine liNil (qThen (stBlock ?_))
  refine stLoop (ι := Nat) (fun i => i ≤ a.length + 1 ∧ ∀ q, q < i → ∀ j k, ¬ collAt a b q j k) (fun i => a.length + 1 - i) (fun i => [(0, (.slice A (a.length) (c))), (1, (.slice A2 (b.length) (c2))), (4, (.bool false)), (5, (.int .i64 ((i : Nat) : Int)))]) (fun i => []) 0 ⟨by omega, fun q hq => absurd hq (Nat.not_lt_zero q)⟩ ⟨rfl, rfl, rfl, rfl, trivial⟩ (fun _ h => h) ?_
  rintro i ⟨hi, hin⟩
  show St _ _ _ [(0, (.slice A (a.length) (c))), (1, (.slice A2 (b.length) (c2))), (4, (.bool false)), (5, (.int .i64 ((i : Nat) : Int)))] [] _
  refine stSeq (stSeq (reg ?_))
  refine lm ?_
  refine lm ?_
  refine lc (.int .i64 ((a.length : Nat) : Int)) ?_
  refine lc (.bool (decide (((i : Nat) : Int) ≤ ((a.length : Nat) : Int)))) ?_
  refine liNil (qThen ?_)
  refine stCond rfl (fun hc12 => ?_) (fun hc12 => ?_)
  · have hd12 := of_decide_eq_true hc12
    refine stSkip (qThen (stSeq (stBlock (stSeq (reg ?_)))))
    refine lm ?_
    refine la ?_
    refine liNil (qThen (stBlock ?_))
    refine stLoop (ι := Nat) (fun j => i ≤ j ∧ j ≤ a.length + 1 ∧ ∀ q, q < j → ∀ k, ¬ collAt a b i q k) (fun j => a.length + 1 - j) (fun j => [(0, (.slice A (a.length) (c))), (1, (.slice A2 (b.length) (c2))), (4, (.bool false)), (5, (.int .i64 ((i : Nat) : Int))), (6, (.int .i64 ((j : Nat) : Int)))]) (fun j => []) i ⟨by omega, by omega, fun q hq k h => by have := h.1; omega⟩ ⟨rfl, rfl, rfl, rfl, rfl, trivial⟩ (fun _ h => h) ?_
    rintro j ⟨hij, hj, hjn⟩
    show St _ _ _ [(0, (.slice A (a.length) (c))), (1, (.slice A2 (b.length) (c2))), (4, (.bool false)), (5, (.int .i64 ((i : Nat) : Int))), (6, (.int .i64 ((j : Nat) : Int)))] [] _
    refine stSeq (stSeq (reg ?_))
    refine lm ?_
    refine lm ?_
    refine lc (.int .i64 ((a.length : Nat) : Int)) ?_
    refine lc (.bool (decide (((j : Nat) : Int) ≤ ((a.length : Nat) : Int)))) ?_
    refine liNil (qThen ?_)
    refine stCond rfl (fun hc19 => ?_) (fun hc19 => ?_)
    · have hd19 := of_decide_eq_true hc19
      refine stSkip (qThen (stSeq (stBlock (stSeq (reg ?_)))))
      refine la ?_
      refine liNil (qThen (stBlock ?_))
      refine stLoop (ι := Nat) (fun k => k ≤ b.length + 1 ∧ ∀ q, q < k → ¬ collAt a b i j q) (fun k => b.length + 1 - k) (fun k => [(0, (.slice A (a.length) (c))), (1, (.slice A2 (b.length) (c2))), (4, (.bool false)), (5, (.int .i64 ((i : Nat) : Int))), (6, (.int .i64 ((j : Nat) : Int))), (7, (.int .i64 ((k : Nat) : Int)))]) (fun k => []) 0 ⟨by omega, fun q hq => absurd hq (Nat.not_lt_zero q)⟩ ⟨rfl, rfl, rfl, rfl, rfl, rfl, trivial⟩ (fun _ h => h) ?_
      rintro k ⟨hk, hkn⟩
      show St _ _ _ [(0, (.slice A (a.length) (c))), (1, (.slice A2 (b.length) (c2))), (4, (.bool false)), (5, (.int .i64 ((i : Nat) : Int))), (6, (.int .i64 ((j : Nat) : Int))), (7, (.int .i64 ((k : Nat) : Int)))] [] _
      refine stSeq (stSeq (reg ?_))
      refine lm ?_
      refine lm ?_
      refine lc (.int .i64 ((b.length : Nat) : Int)) ?_
      refine lc (.bool (decide (((k : Nat) : Int) ≤ ((b.length : Nat) : Int)))) ?_
      refine liNil (qThen ?_)
      refine stCond rfl (fun hc25 => ?_) (fun hc25 => ?_)
      · have hd25 := of_decide_eq_true hc25
        refine stSkip (qThen (stSeq (stBlock (stSeq (reg ?_)))))
        refine lm ?_
        refine lm ?_
        refine lv (v := (.int .i64 ((k + j : Nat) : Int))) (rAdd _ rfl rfl rfl (by omega) (by omega) (by omega)) ?_
        refine lm ?_
        refine lv (v := (.int .i64 (((k + j - i) : Nat) : Int))) (rSub _ rfl rfl rfl (by omega) (by omega) (by omega)) ?_
        refine la ?_
        refine liNil (qThen (stSeq ?_))
        refine anyBegin [] 29 (by kernel_rfl) (fun _ h => h) ?_
        refine am 0 ?_
        refine am 1 ?_
        refine ac 2 (.int .i64 ((b.length : Nat) : Int)) ?_
        refine ac 3 (.bool (decide ((((k + j - i) : Nat) : Int) ≤ ((b.length : Nat) : Int)))) ?_
        refine am 4 ?_
        refine Any.dec 37 rfl (fun hc37 => ?_) (fun hc37 => ?_)
        · have hd37 := of_decide_eq_true hc37
          refine agm 5 ?_
          refine agm 6 ?_
          refine agm 7 ?_
          refine agv 8 (.slice (if c = i then A else A.map (·.add (i * 1))) ((seg a i j).length) (c - i)) rfl (rConv (rSliceLH (e := 9) (sz := 1) rfl (by kernel_rfl) (by kernel_rfl) rfl rfl rfl (by omega) (by omega)) (by rw [show (seg a i j).length = j - i by unfold seg; rw [List.length_drop, List.length_take, Nat.min_eq_left (by omega)]])) ?_
          have rs41 := Ro.imp (Ψ := fun w => RowIn w (if c = i then A else A.map (·.add (i * 1))) (SS (seg a i j))) r0 (fun w h => rowMid i j h hca)
          refine agm 9 ?_
          refine agm 10 ?_
          refine agm 11 ?_
          refine agv 12 (.slice (if c2 = k then A2 else A2.map (·.add (k * 1))) ((seg b k (k + j - i)).length) (c2 - k)) rfl (rConv (rSliceLH (e := 9) (sz := 1) rfl (by kernel_rfl) (by kernel_rfl) rfl rfl rfl (by omega) (by omega)) (by rw [show (seg b k (k + j - i)).length = (k + j - i) - k by unfold seg; rw [List.length_drop, List.length_take, Nat.min_eq_left (by omega)]])) ?_
          have rs45 := Ro.imp (Ψ := fun w => RowIn w (if c2 = k then A2 else A2.map (·.add (k * 1))) (SS (seg b k (k + j - i)))) r1 (fun w h => rowMid k (k + j - i) h hcb)
          refine a1g 13 ?_
          refine opK0 (fun w hM => (lsSame_any (if c = i then A else A.map (·.add (i * 1))) (c - i) (seg a i j) (if c2 = k then A2 else A2.map (·.add (k * 1))) (c2 - k) (seg b k (k + j - i)) w (rs41.go0 hM) (rs45.go0 hM) (Nat.le_trans (seg_flat hsa ha4 i j).1 (by omega)) (Nat.le_trans (seg_flat hsb hb4 k (k + j - i)).1 (by omega))).mono ?_)
          rintro e w' ⟨rfl, hP⟩
          refine ⟨_, _, rfl, hP, ?_⟩; clear hP hM
          refine St.to [] (by kernel_rfl) ?_
          refine anyNext [] (fun _ h => h) (fun _ h => h) ?_
          refine agc 14 (.bool (!(decide ((seg a i j) = (seg b k (k + j - i)))))) ?_
          refine ac 15 (.bool (!(decide ((seg a i j) = (seg b k (k + j - i)))))) ?_
          refine am 16 ?_
          refine Any.dec 49 rfl (fun hc49 => ?_) (fun hc49 => ?_)
          · refine agm 17 ?_
            refine agm 18 ?_
            refine agm 19 ?_
            refine agv 20 (.slice (if c = i then A else A.map (·.add (i * 1))) ((seg a i j).length) (c - i)) rfl (rConv (rSliceLH (e := 9) (sz := 1) rfl (by kernel_rfl) (by kernel_rfl) rfl rfl rfl (by omega) (by omega)) (by rw [show (seg a i j).length = j - i by unfold seg; rw [List.length_drop, List.length_take, Nat.min_eq_left (by omega)]])) ?_
            have rs53 := Ro.imp (Ψ := fun w => RowIn w (if c = i then A else A.map (·.add (i * 1))) (SS (seg a i j))) r0 (fun w h => rowMid i j h hca)
            refine agm 22 ?_
            refine agm 23 ?_
            refine agm 24 ?_
            refine agv 25 (.slice (if c2 = k then A2 else A2.map (·.add (k * 1))) ((seg b k (k + j - i)).length) (c2 - k)) rfl (rConv (rSliceLH (e := 9) (sz := 1) rfl (by kernel_rfl) (by kernel_rfl) rfl rfl rfl (by omega) (by omega)) (by rw [show (seg b k (k + j - i)).length = (k + j - i) - k by unfold seg; rw [List.length_drop, List.length_take, Nat.min_eq_left (by omega)]])) ?_
            have rs58 := Ro.imp (Ψ := fun w => RowIn w (if c2 = k then A2 else A2.map (·.add (k * 1))) (SS (seg b k (k + j - i)))) r1 (fun w h => rowMid k (k + j - i) h hcb)
            refine a1g 21 ?_
            refine opK0 (fun w hM => (rsRefFp_any (if c = i then A else A.map (·.add (i * 1))) (c - i) (seg a i j) w (rs41.go0 hM) (Nat.le_trans (seg_flat hsa ha4 i j).1 (by omega)) ((seg_flat hsa ha4 i j).2)).mono ?_)
            rintro e w' ⟨rfl, hP⟩
            refine ⟨_, _, rfl, hP, ?_⟩; clear hP hM
            refine anyNext [] (fun _ h => h) (fun _ h => h) ?_
            refine a1g 26 ?_
            refine opK0 (fun w hM => (rsRefFp_any (if c2 = k then A2 else A2.map (·.add (k * 1))) (c2 - k) (seg b k (k + j - i)) w (rs45.go0 hM) (Nat.le_trans (seg_flat hsb hb4 k (k + j - i)).1 (by omega)) ((seg_flat hsb hb4 k (k + j - i)).2)).mono ?_)
            rintro e w' ⟨rfl, hP⟩
            refine ⟨_, _, rfl, hP, ?_⟩; clear hP hM
            refine anyNext [] (fun _ h => h) (fun _ h => h) ?_
            refine agv 27 (.bool (decide ((fpB (seg a i j)) = (fpB (seg b k (k + j - i)))))) rfl (rStrEq rfl rfl rfl) ?_
            refine ac 28 (.bool (decide ((fpB (seg a i j)) = (fpB (seg b k (k + j - i)))))) ?_
            refine anyDone (by kernel_rfl) ?_
            refine qThen ?_
            refine stCond rfl (fun hc61 => ?_) (fun hc61 => ?_)
            · have hd61 := of_decide_eq_true hc61
              refine stSeq ?_
              refine St.to [] (by kernel_rfl) ?_
              refine reg ?_
              refine la ?_
              refine liNil (qThen (stRet (qBlockR (qThenR (qThenR (qBlockR (qBlockR (qThenR (qThenR (qBlockR (qBlockR (qThenR (qThenR (qBlockR (qThenR ?_)))))))))))))))
              refine stEnd [(.bool true)] rfl ⟨rfl, trivial⟩ (fun w hM => ?_)
              exact ⟨true, rfl, hM, fun _ => rfl⟩
            · have hd61 := of_decide_eq_false hc61
              have hnk : ¬ collAt a b i j k := fun h => absurd h.2.2.2.2.2 (of_decide_eq_false hc61)
              refine stSkip (qBlock (qThen (reg ?_)))
              refine lm ?_
              refine lv (v := (.int .i64 ((k + 1 : Nat) : Int))) (rAdd _ rfl rfl rfl (by omega) (by omega) (by omega)) ?_
              refine la ?_
              refine liNil (qThen ?_)
              exact stAgain (k + 1) (⟨by omega, fun q hq => by
                      rcases Nat.lt_or_ge q k with h | h
                      · exact hkn q h
                      · obtain rfl : q = k := by omega
                        exact hnk⟩) (by show b.length + 1 - (k + 1) < b.length + 1 - k; omega) ⟨rfl, rfl, rfl, rfl, rfl, rfl, trivial⟩ (fun w hM => by show Mm _ _ [] w; exact hM)
          · have hnk : ¬ collAt a b i j k := fun h => h.2.2.2.2.1 (by simpa using hc49)
            refine anF 17 ?_
            refine anF 18 ?_
            refine anF 19 ?_
            refine anF 20 ?_
            refine anF 22 ?_
            refine anF 23 ?_
            refine anF 24 ?_
            refine anF 25 ?_
            refine anF 21 ?_
            refine anF 26 ?_
            refine anF 27 ?_
            refine ac 28 (.bool false) ?_
            refine anyDone (by kernel_rfl) ?_
            refine qThen (stFalse rfl (stSkip (qBlock (qThen (reg ?_)))))
            refine lm ?_
            refine lv (v := (.int .i64 ((k + 1 : Nat) : Int))) (rAdd _ rfl rfl rfl (by omega) (by omega) (by omega)) ?_
            refine la ?_
            refine liNil (qThen ?_)
            exact stAgain (k + 1) (⟨by omega, fun q hq => by
                      rcases Nat.lt_or_ge q k with h | h
                      · exact hkn q h
                      · obtain rfl : q = k := by omega
                        exact hnk⟩) (by show b.length + 1 - (k + 1) < b.length + 1 - k; omega) ⟨rfl, rfl, rfl, rfl, rfl, rfl, trivial⟩ (fun w hM => by show Mm _ _ [] w; exact hM)
        · have hd37 := of_decide_eq_false hc37
          have hnk : ¬ collAt a b i j k := fun h => by have := h.2.2.2.1; omega
          refine anF 5 ?_
          refine anF 6 ?_
          refine anF 7 ?_
          refine anF 8 ?_
          refine anF 9 ?_
          refine anF 10 ?_
          refine anF 11 ?_
          refine anF 12 ?_
          refine anF 13 ?_
          refine anF 14 ?_
          refine ac 15 (.bool false) ?_
          refine am 16 ?_
          refine anF 17 ?_
          refine anF 18 ?_
          refine anF 19 ?_
          refine anF 20 ?_
          refine anF 22 ?_
          refine anF 23 ?_
          refine anF 24 ?_
          refine anF 25 ?_
          refine anF 21 ?_
          refine anF 26 ?_
          refine anF 27 ?_
          refine ac 28 (.bool false) ?_
          refine anyDone (by kernel_rfl) ?_
          refine qThen (stFalse rfl (stSkip (qBlock (qThen (reg ?_)))))
          refine lm ?_
          refine lv (v := (.int .i64 ((k + 1 : Nat) : Int))) (rAdd _ rfl rfl rfl (by omega) (by omega) (by omega)) ?_
          refine la ?_
          refine liNil (qThen ?_)
          exact stAgain (k + 1) (⟨by omega, fun q hq => by
                      rcases Nat.lt_or_ge q k with h | h
                      · exact hkn q h
                      · obtain rfl : q = k := by omega
                        exact hnk⟩) (by show b.length + 1 - (k + 1) < b.length + 1 - k; omega) ⟨rfl, rfl, rfl, rfl, rfl, rfl, trivial⟩ (fun w hM => by show Mm _ _ [] w; exact hM)
      · have hd25 := of_decide_eq_false hc25
        have hnj : ∀ q, ¬ collAt a b i j q := fun q h => hkn q (by have := h.2.2.1; omega) h
        refine stExit (qThenX (qThenX (qBlockX (qBlock (qThen (reg ?_))))))
        refine lm ?_
        refine lv (v := (.int .i64 ((j + 1 : Nat) : Int))) (rAdd _ rfl rfl rfl (by omega) (by omega) (by omega)) ?_
        refine la ?_
        refine liNil (qThen ?_)
        exact stAgain (j + 1) (⟨by omega, by omega, fun q hq => by
                      rcases Nat.lt_or_ge q j with h | h
                      · exact hjn q h
                      · obtain rfl : q = j := by omega
                        exact hnj⟩) (by show a.length + 1 - (j + 1) < a.length + 1 - j; omega) ⟨rfl, rfl, rfl, rfl, rfl, trivial⟩ (fun w hM => by show Mm _ _ [] w; exact hM)
    · have hd19 := of_decide_eq_false hc19
      have hni : ∀ q r, ¬ collAt a b i q r := fun q r h => hjn q (by have := h.2.1; omega) r h
      refine stExit (qThenX (qThenX (qBlockX (qBlock (qThen (reg ?_))))))
      refine lm ?_
      refine lv (v := (.int .i64 ((i + 1 : Nat) : Int))) (rAdd _ rfl rfl rfl (by omega) (by omega) (by omega)) ?_
      refine la ?_
      refine liNil (qThen ?_)
      exact stAgain (i + 1) (⟨by omega, fun q hq => by
                      rcases Nat.lt_or_ge q i with h | h
                      · exact hin q h
                      · obtain rfl : q = i := by omega
                        exact hni⟩) (by show a.length + 1 - (i + 1) < a.length + 1 - i; omega) ⟨rfl, rfl, rfl, rfl, trivial⟩ (fun w hM => by show Mm _ _ [] w; exact hM)
  · have hd12 := of_decide_eq_false hc12
    refine stExit (qThenX (qThenX (qBlockX (qThen (stSeq (reg ?_))))))
    refine la ?_
    refine liNil (qThen (stRet ?_))
    refine stEnd [(.bool false)] rfl ⟨rfl, trivial⟩ (fun w hM => ?_)
    exact ⟨false, rfl, hM, fun ⟨q, r, t, h⟩ => absurd h (hin q (by have := h.1; have := h.2.1; omega) r t)⟩

set_option maxRecDepth 100000 in
set_option maxHeartbeats 1000000 in
theorem lawExact_any (A : Option Addr) (c : Nat) (a : List (List UInt8)) (A2 : Option Addr) (c2 : Nat) (b : List (List UInt8)) (fan : Int) (leaf : Int) (w : World) (r0 : Rf [] w (Vars)) (r1 : Rf [] w (fun w => RowIn w A (SS a))) (r2 : Rf [] w (fun w => RowIn w A2 (SS b))) (hla : a.length ≤ 9223372036854775807) (hlb : b.length ≤ 9223372036854775807) (hca : a.length ≤ c) (hcb : b.length ≤ c2) :
    Calls Tryz.prog 5 #[(.slice A (a.length) (c)), (.slice A2 (b.length) (c2)), (.agg #[(.int .i64 fan), (.int .i64 leaf)])] w fun e w' => e = .returned (.bool true) ∧ Back [] w [] w' := by
  refine stEnter (args := [(.slice A (a.length) (c)), (.slice A2 (b.length) (c2)), (.agg #[(.int .i64 fan), (.int .i64 leaf)])]) (fps []) Tryz.func5 rfl 55 rfl [(0, (.slice A (a.length) (c))), (1, (.slice A2 (b.length) (c2))), (2, (.agg #[(.int .i64 fan), (.int .i64 leaf)]))] ⟨rfl, rfl, rfl, trivial⟩ [] (Mm.start w []) ?_
  refine stSeq (reg (li rfl ?_))
  refine opBox [(.int .i64 fan), (.int .i64 leaf)] rfl rfl (by kernel_rfl) rfl rfl (fun b5 => ?_)
  refine la ?_
  refine liNil (qThen (stSeq (stSeq (reg (li rfl ?_)))))
  refine opK0 (fun w hM => (lsAwake_any  w (r0.go0 hM)).mono ?_)
  rintro e w' ⟨rfl, hP⟩
  refine ⟨_, _, rfl, hP, ?_⟩; clear hP hM
  refine lc (.bool false) ?_
  refine liNil (qThen (stFalse rfl (stSkip (qThen (stSeq (stSeq ?_))))))
  refine St.to [cAt b5 24 [(.int .i64 fan), (.int .i64 leaf)]] (by kernel_rfl) ?_
  refine reg ?_
  refine lm ?_
  refine li rfl ?_
  refine opK0 (fun w hM => (lsSet_any A c a w (r1.go0 hM) (by omega)).mono ?_)
  rintro e w' ⟨rfl, hP⟩
  refine ⟨_, _, rfl, hP, ?_⟩; clear hP hM
  refine lc (.bool (!(setB a))) ?_
  refine lm ?_
  refine St.dec 17 rfl (fun hc17 => ?_) (fun hc17 => ?_)
  · refine lnT ?_
    refine lnT ?_
    refine lnT ?_
    refine lc (.bool true) ?_
    refine lm ?_
    refine lnT ?_
    refine lnT ?_
    refine lnT ?_
    refine lc (.bool true) ?_
    refine liNil (qThen (stTrue rfl (stSeq (reg ?_))))
    refine la ?_
    refine liNil (qThen (stRet (qThenR ?_)))
    refine stEnd [(.bool true)] rfl ⟨rfl, trivial⟩ (fun w hM => ?_)
    exact ⟨rfl, (fun (w : World) (h : Mm _ _ _ w) => Mm.sub h (.cons _ .slnil)) w hM⟩
  · refine lgm ?_
    refine liGo rfl rfl ?_
    refine opK0 (fun w hM => (lsSet_any A2 c2 b w (r2.go0 hM) (by omega)).mono ?_)
    rintro e w' ⟨rfl, hP⟩
    refine ⟨_, _, rfl, hP, ?_⟩; clear hP hM
    refine lgc (.bool (!(setB b))) ?_
    refine lc (.bool (!(setB b))) ?_
    refine lm ?_
    refine St.dec 22 rfl (fun hc22 => ?_) (fun hc22 => ?_)
    · refine lnT ?_
      refine lnT ?_
      refine lnT ?_
      refine lc (.bool true) ?_
      refine liNil (qThen (stTrue rfl (stSeq ?_)))
      refine St.to [cAt b5 24 [(.int .i64 fan), (.int .i64 leaf)]] (by kernel_rfl) ?_
      refine reg ?_
      refine la ?_
      refine liNil (qThen (stRet (qThenR ?_)))
      refine stEnd [(.bool true)] rfl ⟨rfl, trivial⟩ (fun w hM => ?_)
      exact ⟨rfl, (fun (w : World) (h : Mm _ _ _ w) => Mm.sub h (.cons _ .slnil)) w hM⟩
    · refine lgv (v := (.agg #[(.int .i64 fan), (.int .i64 leaf)])) (rLoadA [(.int .i64 fan), (.int .i64 leaf)] rfl rfl (by kernel_rfl) (by kernel_rfl) (segAt (i := 0) rfl (by intro j v hj; first | (rw [Nat.zero_add]; exact hj) | (match j, hj with | 0, h => exact h | 1, h => exact h)))) ?_
      refine liGo rfl rfl ?_
      refine opK0 (fun w hM => (rsValid_any fan leaf w ).mono ?_)
      rintro e w' ⟨rfl, hP⟩
      refine ⟨_, _, rfl, hP, ?_⟩; clear hP hM
      refine lgc (.bool (!(okP fan leaf))) ?_
      refine lc (.bool (!(okP fan leaf))) ?_
      refine liNil (qThen ?_)
      refine stCond rfl (fun hc26 => ?_) (fun hc26 => ?_)
      · refine stSeq (reg ?_)
        refine la ?_
        refine liNil (qThen (stRet (qThenR ?_)))
        refine stEnd [(.bool true)] rfl ⟨rfl, trivial⟩ (fun w hM => ?_)
        exact ⟨rfl, (fun (w : World) (h : Mm _ _ _ w) => Mm.sub h (.cons _ .slnil)) w hM⟩
      · obtain ⟨hsa, ha4⟩ := setB_ok (by simpa using hc17)
        obtain ⟨hsb, hb4⟩ := setB_ok (by simpa using hc22)
        have hop : okP fan leaf = true := by simpa using hc26
        obtain ⟨⟨f, rfl⟩, g, rfl⟩ := okP_nat hop
        obtain ⟨hf, hf2, hl1, hl2⟩ := okP_bnds hop
        have hS : Sets a b f g := ⟨hsa, hsb, ha4, hb4, hf, hf2, hl1, hl2⟩
        obtain ⟨K, hK, hK1, hKb, hmK, hmj⟩ := run_ends hS
        have hKl := hK.le
        obtain ⟨hlx, hly⟩ := run_small hS hKl hmK
        refine stSkip (qThen (stSeq (reg ?_)))
        refine lm ?_
        refine lm ?_
        refine lv (v := (.agg #[(.int .i64 ((f : Nat) : Int)), (.int .i64 ((g : Nat) : Int))])) (rLoadA [(.int .i64 ((f : Nat) : Int)), (.int .i64 ((g : Nat) : Int))] rfl rfl (by kernel_rfl) (by kernel_rfl) (segAt (i := 0) rfl (by intro j v hj; first | (rw [Nat.zero_add]; exact hj) | (match j, hj with | 0, h => exact h | 1, h => exact h)))) ?_
        refine li rfl ?_
        refine opK0 (fun w hM => (lsParams_any ((f : Nat) : Int) ((g : Nat) : Int) w ).mono ?_)
        rintro e w' ⟨rfl, hP⟩
        refine ⟨_, _, rfl, hP, ?_⟩; clear hP hM
        refine li rfl ?_
        refine opK0 (fun w hM => (rsRun_ok A c a A2 c2 b f g K w (r0.go0 hM) (r1.go0 hM) (r2.go0 hM) (hop) (by assumption) (by assumption) (by assumption) (by assumption) (by assumption) (by assumption) (by assumption) (by assumption) (by assumption)).mono ?_)
        rintro e w' ⟨B132, cb132, B232, cb232, rfl, hP⟩
        refine ⟨_, _, rfl, hP, ?_⟩; clear hP hM
        refine lm ?_
        refine lc (.slice B132 ((withL [] (runN a b f g 1 K).2).length) (cb132)) ?_
        refine lc (.slice B232 ((withL [] (runN a b f g 1 K).1).length) (cb232)) ?_
        refine lc (.int .i64 ((K : Nat) : Int)) ?_
        refine lc (.int .i64 (((runB a b f g K) : Nat) : Int)) ?_
        refine lc (.int .i64 0) ?_
        refine la ?_
        refine la ?_
        refine la ?_
        refine la ?_
        refine la ?_
        refine liNil (qThen (stSeq (stSeq ?_)))
        refine St.to [cAt b5 24 [(.int .i64 ((f : Nat) : Int)), (.int .i64 ((g : Nat) : Int))], cOwn 9 1 B132 ((withL [] (runN a b f g 1 K).2).length) (cb132) (SS (withL [] (runN a b f g 1 K).2)), cOwn 9 1 B232 ((withL [] (runN a b f g 1 K).1).length) (cb232) (SS (withL [] (runN a b f g 1 K).1))] (by kernel_rfl) ?_
        refine reg ?_
        refine lm ?_
        refine lc (.bool false) ?_
        refine liNil (qThen (stFalse rfl (stSkip (qThen (stSeq (stSeq ?_))))))
        have hw1 := without_len a b; have hw2 := without_len b a
        refine reg ?_
        refine lm ?_
        refine lm ?_
        refine lm ?_
        refine li rfl ?_
        refine opK0 (fun w hM => (rsWithout_any A c a A2 c2 b w (r1.go0 hM) (r2.go0 hM) (by omega) (by omega)).mono ?_)
        rintro e w' ⟨B43, cb43, rfl, hP⟩
        refine ⟨_, _, rfl, hP, ?_⟩; clear hP hM
        refine li rfl ?_
        refine opK0 (fun w hM => (lsSame_any B132 cb132 (withL [] (runN a b f g 1 K).2) B43 cb43 (without a b) w (hM.keep0 (j := 1) rfl (fun _ h => RowIn.of_own h)) (hM.keep0 (j := 3) rfl (fun _ h => RowIn.of_own h)) (by omega) (by omega)).mono ?_)
        rintro e w' ⟨rfl, hP⟩
        refine ⟨_, _, rfl, hP, ?_⟩; clear hP hM
        refine lm ?_
        refine St.dec 45 rfl (fun hc45 => ?_) (fun hc45 => ?_)
        · have hd45 := of_decide_eq_true hc45
          refine lgm ?_
          refine lgm ?_
          refine lgm ?_
          refine liGo rfl rfl ?_
          refine opK0 (fun w hM => (rsWithout_any A2 c2 b A c a w (r2.go0 hM) (r1.go0 hM) (by omega) (by omega)).mono ?_)
          rintro e w' ⟨B49, cb49, rfl, hP⟩
          refine ⟨_, _, rfl, hP, ?_⟩; clear hP hM
          refine liGo rfl rfl ?_
          refine opK0 (fun w hM => (lsSame_any B232 cb232 (withL [] (runN a b f g 1 K).1) B49 cb49 (without b a) w (hM.keep0 (j := 2) rfl (fun _ h => RowIn.of_own h)) (hM.keep0 (j := 4) rfl (fun _ h => RowIn.of_own h)) (by omega) (by omega)).mono ?_)
          rintro e w' ⟨rfl, hP⟩
          refine ⟨_, _, rfl, hP, ?_⟩; clear hP hM
          refine St.to [cAt b5 24 [(.int .i64 ((f : Nat) : Int)), (.int .i64 ((g : Nat) : Int))], cOwn 9 1 B132 ((withL [] (runN a b f g 1 K).2).length) (cb132) (SS (withL [] (runN a b f g 1 K).2)), cOwn 9 1 B232 ((withL [] (runN a b f g 1 K).1).length) (cb232) (SS (withL [] (runN a b f g 1 K).1)), cOwn 9 1 B43 ((without a b).length) (cb43) (SS (without a b)), cOwn 9 1 B49 ((without b a).length) (cb49) (SS (without b a))] (by kernel_rfl) ?_
          refine lc (.bool (decide ((withL [] (runN a b f g 1 K).1) = (without b a)))) ?_
          refine liNil (qThen ?_)
          refine stCond rfl (fun hc51 => ?_) (fun hc51 => ?_)
          · have hd51 := of_decide_eq_true hc51
            refine stSeq (reg ?_)
            refine la ?_
            refine liNil (qThen (stRet (qThenR ?_)))
            refine stEnd [(.bool true)] rfl ⟨rfl, trivial⟩ (fun w hM => ?_)
            exact ⟨rfl, (fun (w : World) (h : Mm _ _ _ w) => Mm.sub h (.cons _ (.cons _ (.cons _ (.cons _ (.cons _ .slnil)))))) w hM⟩
          · have hd51 := of_decide_eq_false hc51
            have hcoll : collP a b := Classical.byContradiction fun hcc => of_decide_eq_false hc51 (run_exact hS hKl hmK hcc).2
            refine stSkip (qThen (stSeq (reg ?_)))
            refine lm ?_
            refine lm ?_
            refine li rfl ?_
            refine opK0 (fun w hM => (lsColl_any A c a A2 c2 b w (r1.go0 hM) (r2.go0 hM) (by assumption) (by assumption) (by assumption) (by assumption) (by assumption) (by assumption)).mono ?_)
            rintro e w' ⟨r54, rfl, hP, hc54⟩
            refine ⟨_, _, rfl, hP, ?_⟩; clear hP hM
            refine la ?_
            refine liNil (qThen (stRet ?_))
            refine stEnd [(.bool r54)] rfl ⟨rfl, trivial⟩ (fun w hM => ?_)
            exact ⟨ret_bool (hc54 hcoll), (fun (w : World) (h : Mm _ _ _ w) => Mm.sub h (.cons _ (.cons _ (.cons _ (.cons _ (.cons _ .slnil)))))) w hM⟩
        · have hd45 := of_decide_eq_false hc45
          have hcoll : collP a b := Classical.byContradiction fun hcc => of_decide_eq_false hc45 (run_exact hS hKl hmK hcc).1
          refine lnF ?_
          refine lnF ?_
          refine lnF ?_
          refine lnF ?_
          refine lnF ?_
          refine lc (.bool false) ?_
          refine liNil (qThen (stFalse rfl (stSkip (qThen (stSeq (reg ?_))))))
          refine lm ?_
          refine lm ?_
          refine li rfl ?_
          refine opK0 (fun w hM => (lsColl_any A c a A2 c2 b w (r1.go0 hM) (r2.go0 hM) (by assumption) (by assumption) (by assumption) (by assumption) (by assumption) (by assumption)).mono ?_)
          rintro e w' ⟨r54, rfl, hP, hc54⟩
          refine ⟨_, _, rfl, hP, ?_⟩; clear hP hM
          refine la ?_
          refine liNil (qThen (stRet ?_))
          refine stEnd [(.bool r54)] rfl ⟨rfl, trivial⟩ (fun w hM => ?_)
          exact ⟨ret_bool (hc54 hcoll), (fun (w : World) (h : Mm _ _ _ w) => Mm.sub h (.cons _ (.cons _ (.cons _ (.cons _ .slnil))))) w hM⟩

end Go.Proofs.YtlepfnihpdhcaaaGreatDoor
