/- Contracts of the reference of layer 39: insert of what is not there. -/
import Derived.Test.YtnhagokkamobaaaDoorBlRefKeys1
namespace Go.Proofs.YtnhagokkamobaaaDoor
open Go.RowKit

theorem S8_one_take (l : List Key8) (k : Nat) : ∀ u ∈ (l.map S8v).take k, u.oneCell' = true := by
  intro u hu
  obtain ⟨x, _, rfl⟩ := List.mem_map.1 (List.mem_of_mem_take hu)
  rfl
theorem S8_one_drop (l : List Key8) (k : Nat) : ∀ u ∈ (l.map S8v).drop k, u.oneCell' = true := by
  intro u hu
  obtain ⟨x, _, rfl⟩ := List.mem_map.1 (List.mem_of_mem_drop hu)
  rfl

set_option maxRecDepth 100000 in
set_option maxHeartbeats 1000000 in
theorem refInsert_new (A : Option Addr) (c : Nat) (l : List Key8) (p : Key8) (w : World) (hr : RowIn w A (l.map S8v)) (hl : l.length ≤ 1000000) (hlc : l.length ≤ c) (hfound : insF l p = false) :
    Calls Tryd.prog 53 #[.slice A l.length c, .string (strOf p)] w fun e w' => ∃ A' c', e = .returned (.tuple #[.slice A' (l.length + 1) c', .bool false]) ∧ Mm w [] [cOwn 9 1 A' (l.length + 1) c' ((insL l p).map S8v)] w' := by
  have HR := Lib.hid hr
  have hple := insPos_le l p
  clear hr
  refine stEnter (args := [.slice A l.length c, .string (strOf p)]) [] Tryd.func53 rfl 46 rfl [(0, .slice A l.length c), (1, .string (strOf p))] ⟨rfl, rfl, trivial⟩ [] (Mm.start w []) ?_
  refine stSeq ?_
  refine reg ?_
  refine li rfl (opVal (.slice none 0 0) rfl (by kernel_rfl) (rAssign rfl rfl) ?_)
  refine li rfl (opVal (.bool false) rfl (by kernel_rfl) (rAssign rfl rfl) ?_)
  refine liNil ?_
  refine qThen ?_
  refine stSeq ?_
  refine reg ?_
  refine li rfl (opVal (.int .i64 0) rfl (by kernel_rfl) (rAssign rfl rfl) ?_)
  refine liNil ?_
  refine qThen ?_
  refine stSeq ?_
  refine stBlock ?_
  refine stLoop (ι := Nat) (fun k => k ≤ insPos l p) (fun k => insPos l p - k) (fun k => [(0, (.slice A (l.length) (c))), (1, (.string (strOf p))), (6, (.int .i64 ((k : Nat) : Int)))]) (fun k => []) 0 (Nat.zero_le _) ⟨rfl, rfl, rfl, trivial⟩ (fun _ h => h) ?_
  intro k (hk : k ≤ insPos l p)
  show St _ _ _ [(0, (.slice A (l.length) (c))), (1, (.string (strOf p))), (6, (.int .i64 ((k : Nat) : Int)))] [] _
  refine stSeq ?_
  refine stSeq ?_
  refine reg ?_
  refine li rfl (opVal (.int .i64 ((k : Nat) : Int)) rfl (by kernel_rfl) (rMove rfl rfl) ?_)
  refine li rfl (opVal (.slice A (l.length) (c)) rfl (by kernel_rfl) (rMove rfl rfl) ?_)
  refine li rfl (opVal (.int .i64 ((l.length : Nat) : Int)) rfl (by kernel_rfl) (rClosed fun _ => by kernel_rfl) ?_)
  refine li rfl (opVal (.bool (decide (((k : Nat) : Int) < ((l.length : Nat) : Int)))) rfl (by kernel_rfl) (rClosed fun _ => by kernel_rfl) ?_)
  refine li rfl (opVal (.bool (decide (((k : Nat) : Int) < ((l.length : Nat) : Int)))) rfl (by kernel_rfl) (rMove rfl rfl) ?_)
  refine St.dec 11 rfl (fun hc11 => ?_) (fun hc11 => ?_)
  · have hd11 := of_decide_eq_true hc11
    have hlt : k < l.length := by omega
    obtain ⟨x, hx⟩ : ∃ x, l[k]? = some x := ⟨_, List.getElem?_eq_getElem hlt⟩
    obtain ⟨b, o, hA, hbl, hck⟩ := HR.out k (S8v x) (by rw [List.getElem?_map, hx]; rfl)
    subst hA
    refine liGo rfl rfl (opVal (.slice (some ⟨b, o, none⟩) (l.length) (c)) rfl (by kernel_rfl) (rMove rfl rfl) ?_)
    refine liGo rfl rfl (opVal (.int .i64 ((k : Nat) : Int)) rfl (by kernel_rfl) (rMove rfl rfl) ?_)
    refine liGo rfl rfl (opVal (.pointer (some ⟨b, o + k, none⟩)) rfl (by kernel_rfl) (rIndexAddr1 (e := 9) rfl (by kernel_rfl) (by kernel_rfl) rfl rfl (by omega)) ?_)
    refine liGo rfl rfl (opVal (.string (strOf x)) rfl (by kernel_rfl) (rLoadW rfl rfl (by kernel_rfl) (fun w hM => hM.old hck (by simp))) ?_)
    refine liGo rfl rfl (opVal (.string (strOf p)) rfl (by kernel_rfl) (rMove rfl rfl) ?_)
    refine liGo rfl rfl (opVal (.bool (decide (x < p))) rfl (by kernel_rfl) (rStrLt rfl rfl rfl) ?_)
    refine li rfl (opVal (.bool (decide (x < p))) rfl (by kernel_rfl) (rClosed fun _ => by kernel_rfl) ?_)
    refine liNil ?_
    refine qThen ?_
    refine stCond rfl (fun hc18 => ?_) (fun hc18 => ?_)
    · have hd18 := of_decide_eq_true hc18
      have hstep := (insPos_step hk hx).1 hd18
      refine stSkip ?_
      refine qThen ?_
      refine stBlock ?_
      refine reg ?_
      refine li rfl (opVal (.int .i64 ((k : Nat) : Int)) rfl (by kernel_rfl) (rMove rfl rfl) ?_)
      refine li rfl (opVal (.int .i64 ((k + 1 : Nat) : Int)) rfl (by kernel_rfl) (rAdd _ rfl rfl rfl (by omega) (by omega) (by omega)) ?_)
      refine li rfl (opVal (.int .i64 ((k + 1 : Nat) : Int)) rfl (by kernel_rfl) (rAssign rfl rfl) ?_)
      refine liNil ?_
      refine qBlock ?_
      refine qThen ?_
      exact stAgain (k + 1) (by show _ ≤ _; omega) (by show insPos l p - (k + 1) < insPos l p - k; omega) ⟨rfl, rfl, rfl, trivial⟩ (fun _ h => h)
    · have hd18 := of_decide_eq_false hc18
      have hend : k = insPos l p := by have := mt (insPos_step hk hx).2 hd18; omega
      refine stExit ?_
      refine qThenX ?_
      refine qThenX ?_
      refine qBlockX ?_
      refine qThen ?_
      refine stSeq ?_
      refine stSeq ?_
      refine reg ?_
      refine li rfl (opVal (.int .i64 ((k : Nat) : Int)) rfl (by kernel_rfl) (rMove rfl rfl) ?_)
      refine li rfl (opVal (.slice (some ⟨b, o, none⟩) (l.length) (c)) rfl (by kernel_rfl) (rMove rfl rfl) ?_)
      refine li rfl (opVal (.int .i64 ((l.length : Nat) : Int)) rfl (by kernel_rfl) (rClosed fun _ => by kernel_rfl) ?_)
      refine li rfl (opVal (.bool (decide (((k : Nat) : Int) < ((l.length : Nat) : Int)))) rfl (by kernel_rfl) (rClosed fun _ => by kernel_rfl) ?_)
      refine li rfl (opVal (.bool (decide (((k : Nat) : Int) < ((l.length : Nat) : Int)))) rfl (by kernel_rfl) (rMove rfl rfl) ?_)
      refine St.dec 25 rfl (fun hc25 => ?_) (fun hc25 => ?_)
      · have hd25 := of_decide_eq_true hc25
        have hxp : x ≠ p := by rintro rfl; have h := hfound; rw [insF, decide_eq_false_iff_not, ← hend] at h; exact h hx
        refine liGo rfl rfl (opVal (.slice (some ⟨b, o, none⟩) (l.length) (c)) rfl (by kernel_rfl) (rMove rfl rfl) ?_)
        refine liGo rfl rfl (opVal (.int .i64 ((k : Nat) : Int)) rfl (by kernel_rfl) (rMove rfl rfl) ?_)
        refine liGo rfl rfl (opVal (.pointer (some ⟨b, o + k, none⟩)) rfl (by kernel_rfl) (rIndexAddr1 (e := 9) rfl (by kernel_rfl) (by kernel_rfl) rfl rfl (by omega)) ?_)
        refine liGo rfl rfl (opVal (.string (strOf x)) rfl (by kernel_rfl) (rLoadW rfl rfl (by kernel_rfl) (fun w hM => hM.old hck (by simp))) ?_)
        refine liGo rfl rfl (opVal (.string (strOf p)) rfl (by kernel_rfl) (rMove rfl rfl) ?_)
        refine liGo rfl rfl (opVal (.bool (decide (x = p))) rfl (by kernel_rfl) (rStrEq rfl rfl rfl) ?_)
        refine li rfl (opVal (.bool (decide (x = p))) rfl (by kernel_rfl) (rClosed fun _ => by kernel_rfl) ?_)
        refine liNil ?_
        refine qThen ?_
        refine stFalseK rfl (by simp [hxp]) ?_
        refine stSkip ?_
        refine qThen ?_
        refine stCut (ι := Nat × Option Addr × Nat × Nat × Option Addr × Nat × Option Addr × Nat) (fun _ => True) (fun (b34, A38, c38, b40, A41, c41, A45, c45) => [(0, (.slice (some ⟨b, o, none⟩) (l.length) (c))), (1, (.string (strOf p))), (6, (.int .i64 ((k : Nat) : Int))), (7, (.int .i64 ((k : Nat) : Int))), (8, (.slice (some ⟨b, o, none⟩) (l.length) (c))), (9, (.int .i64 ((l.length : Nat) : Int))), (10, (.bool (decide (((k : Nat) : Int) < ((l.length : Nat) : Int))))), (11, (.bool true)), (12, (.slice (some ⟨b, o, none⟩) (l.length) (c))), (13, (.int .i64 ((k : Nat) : Int))), (14, (.pointer (some ⟨b, o + k, none⟩))), (15, (.string (strOf x))), (16, (.string (strOf p))), (17, (.bool (decide (x < p)))), (18, (.bool (decide (x < p)))), (21, (.int .i64 ((k : Nat) : Int))), (22, (.slice (some ⟨b, o, none⟩) (l.length) (c))), (23, (.int .i64 ((l.length : Nat) : Int))), (24, (.bool (decide (((k : Nat) : Int) < ((l.length : Nat) : Int))))), (25, (.bool true)), (26, (.slice (some ⟨b, o, none⟩) (l.length) (c))), (27, (.int .i64 ((k : Nat) : Int))), (28, (.pointer (some ⟨b, o + k, none⟩))), (29, (.string (strOf x))), (30, (.string (strOf p))), (31, (.bool (decide (x = p)))), (32, (.bool (decide (x = p)))), (35, (.slice (some ⟨b, o, none⟩) (l.length) (c))), (36, (.int .i64 ((k : Nat) : Int))), (37, (.slice (some ⟨b, o, none⟩) (k) (c))), (39, (.string (strOf p))), (42, (.slice (some ⟨b, o, none⟩) (l.length) (c))), (43, (.int .i64 ((k : Nat) : Int))), (44, (.slice (if c = k then (some ⟨b, o, none⟩) else ((some ⟨b, o, none⟩) : Option Addr).map (·.add (k * 1))) (l.length - k) (c - k))), (34, (.slice (some ⟨b34, 0, none⟩) (0) (0))), (38, (.slice A38 (k) (c38))), (40, (.slice (some ⟨b40, 0, none⟩) (1) (1))), (41, (.slice A41 (k + 1) (c41))), (45, (.slice A45 (l.length + 1) (c45))), (4, (.slice A45 (l.length + 1) (c45))), (5, (.bool false))]) (fun (b34, A38, c38, b40, A41, c41, A45, c45) => [cOwn 9 1 A45 (l.length + 1) (c45) ((insL l p).map S8v), cAt b40 9 [(.string (strOf p))]]) ?_ ?_
        · refine anyBegin [] 14 (by kernel_rfl) (fun _ h => h) ?_
          refine anyVal (i := 1) (.slice (some ⟨b, o, none⟩) (l.length) (c)) rfl rfl rfl (by kernel_rfl) (by kernel_rfl) (fun _ _ _ h => h) (rMove rfl rfl) ?_
          refine anyVal (i := 2) (.int .i64 ((k : Nat) : Int)) rfl rfl rfl (by kernel_rfl) (by kernel_rfl) (fun _ _ _ h => h) (rMove rfl rfl) ?_
          refine anyVal (i := 3) (.slice (some ⟨b, o, none⟩) (k) (c)) rfl rfl rfl (by kernel_rfl) (by kernel_rfl) (fun _ _ _ h => h) (rSliceHi (e := 9) rfl (by kernel_rfl) (by kernel_rfl) rfl rfl (by omega)) ?_
          refine anyVal (i := 5) (.string (strOf p)) rfl rfl rfl (by kernel_rfl) (by kernel_rfl) (fun _ _ _ h => h) (rMove rfl rfl) ?_
          refine anyVal (i := 8) (.slice (some ⟨b, o, none⟩) (l.length) (c)) rfl rfl rfl (by kernel_rfl) (by kernel_rfl) (fun _ _ _ h => h) (rMove rfl rfl) ?_
          refine anyVal (i := 9) (.int .i64 ((k : Nat) : Int)) rfl rfl rfl (by kernel_rfl) (by kernel_rfl) (fun _ _ _ h => h) (rMove rfl rfl) ?_
          refine anyVal (i := 10) (.slice (if c = k then (some ⟨b, o, none⟩) else ((some ⟨b, o, none⟩) : Option Addr).map (·.add (k * 1))) (l.length - k) (c - k)) rfl rfl rfl (by kernel_rfl) (by kernel_rfl) (fun _ _ _ h => h) (rSliceLo (e := 9) (sz := 1) rfl (by kernel_rfl) (by kernel_rfl) rfl rfl (by omega)) ?_
          refine anyTwo (i := 0) (j := 6) (by kernel_rfl) rfl rfl rfl rfl ?_ ?_
          · refine opNew (v := fun b => .slice (some ⟨b, 0, none⟩) 0 0) 9 [] rfl (by kernel_rfl) (fun _ => by kernel_rfl) (fun b34 => ?_)
            refine anyNext [] (fun _ h => h) (fun _ h => h.sub (.cons _ .slnil)) ?_
            refine anyTwo (i := 4) (j := 6) (by kernel_rfl) rfl rfl rfl rfl ?_ ?_
            · refine opAppendAt el_str 0 ((l.map S8v).take k) rfl rfl (by kernel_rfl) rfl rfl rfl (by rw [List.length_take, List.length_map]; omega) (fun w hM => srcTake (HR.out.fr0 hM.fr) k) (S8_one_take l k) (by omega) k rfl ((l.take k).map S8v) (by rw [List.map_take]) (fun A38 c38 => ?_)
              refine anyNext [] (fun _ h => h) (fun _ h => h.sub (.cons _ .slnil)) ?_
              refine anyOne (i := 6) (by kernel_rfl) rfl rfl ?_
              refine opNew (v := fun b => .slice (some ⟨b, 0, none⟩) 1 1) 9 [(.string (strOf p))] rfl (by kernel_rfl) (fun _ => by kernel_rfl) (fun b40 => ?_)
              refine anyNext [cAt b40 9 [(.string (strOf p))]] (fun _ h => h.sub (.cons _ .slnil)) (fun _ h => h.sub (.cons _ (.cons_cons _ .slnil))) ?_
              refine anyOne (i := 7) (by kernel_rfl) rfl rfl ?_
              refine opAppend el_str 0 [S8v p] rfl rfl (by kernel_rfl) rfl rfl rfl rfl (srcAt (i := 1) (off := 0) rfl (fun j v hj => by rw [Nat.zero_add]; exact hj)) (by simp [S8v, Value.oneCell']) (by omega) (k + 1) rfl ((l.take k ++ [p]).map S8v) (by simp) (fun A41 c41 => ?_)
              refine anyNext [cAt b40 9 [(.string (strOf p))]] (fun _ h => h) (fun _ h => h.sub (.cons _ (.cons_cons _ .slnil))) ?_
              refine anyOne (i := 11) (by kernel_rfl) rfl rfl ?_
              refine opAppend el_str 0 ((l.map S8v).drop k) rfl rfl (by kernel_rfl) rfl rfl rfl (by rw [List.length_drop, List.length_map, Nat.mul_one]) (fun w hM => srcDrop (HR.out.fr0 hM.fr) (by rw [List.length_map]; exact hlc)) (S8_one_drop l k) (by omega) (l.length + 1) (by omega) ((insL l p).map S8v) (by unfold insL; rw [← hend]; simp) (fun A45 c45 => ?_)
              refine anyNext [cOwn 9 1 A45 (l.length + 1) (c45) ((insL l p).map S8v), cAt b40 9 [(.string (strOf p))]] (fun _ h => h.sub (.cons _ (.cons_cons _ .slnil))) (fun _ h => h) ?_
              refine anyVal (i := 12) (.slice A45 (l.length + 1) (c45)) rfl rfl rfl (by kernel_rfl) (by kernel_rfl) (fun _ _ _ h => h) (rAssign rfl rfl) ?_
              refine anyVal (i := 13) (.bool false) rfl rfl rfl (by kernel_rfl) (by kernel_rfl) (fun _ _ _ h => h) (rAssign rfl rfl) ?_
              refine anyDone (by kernel_rfl) ?_
              refine qThen ?_
              exact stMeet (b34, A38, c38, b40, A41, c41, A45, c45) trivial ⟨rfl, rfl, rfl, rfl, rfl, rfl, rfl, rfl, rfl, rfl, rfl, rfl, rfl, rfl, rfl, rfl, rfl, rfl, rfl, rfl, rfl, rfl, rfl, rfl, rfl, rfl, rfl, rfl, rfl, rfl, rfl, rfl, rfl, rfl, rfl, rfl, rfl, rfl, rfl, rfl, rfl, trivial⟩ (fun _ h => h)
            · refine opNew (v := fun b => .slice (some ⟨b, 0, none⟩) 1 1) 9 [(.string (strOf p))] rfl (by kernel_rfl) (fun _ => by kernel_rfl) (fun b40 => ?_)
              refine anyNext [cAt b40 9 [(.string (strOf p))]] (fun _ h => h.sub (.cons _ .slnil)) (fun _ h => h.sub (.cons _ (.cons_cons _ .slnil))) ?_
              refine anyOne (i := 4) (by kernel_rfl) rfl rfl ?_
              refine opAppendAt el_str 0 ((l.map S8v).take k) rfl rfl (by kernel_rfl) rfl rfl rfl (by rw [List.length_take, List.length_map]; omega) (fun w hM => srcTake (HR.out.fr0 hM.fr) k) (S8_one_take l k) (by omega) k rfl ((l.take k).map S8v) (by rw [List.map_take]) (fun A38 c38 => ?_)
              refine anyNext [cAt b40 9 [(.string (strOf p))]] (fun _ h => h) (fun _ h => h.sub (.cons _ (.cons_cons _ .slnil))) ?_
              refine anyOne (i := 7) (by kernel_rfl) rfl rfl ?_
              refine opAppend el_str 0 [S8v p] rfl rfl (by kernel_rfl) rfl rfl rfl rfl (srcAt (i := 1) (off := 0) rfl (fun j v hj => by rw [Nat.zero_add]; exact hj)) (by simp [S8v, Value.oneCell']) (by omega) (k + 1) rfl ((l.take k ++ [p]).map S8v) (by simp) (fun A41 c41 => ?_)
              refine anyNext [cAt b40 9 [(.string (strOf p))]] (fun _ h => h) (fun _ h => h.sub (.cons _ (.cons_cons _ .slnil))) ?_
              refine anyOne (i := 11) (by kernel_rfl) rfl rfl ?_
              refine opAppend el_str 0 ((l.map S8v).drop k) rfl rfl (by kernel_rfl) rfl rfl rfl (by rw [List.length_drop, List.length_map, Nat.mul_one]) (fun w hM => srcDrop (HR.out.fr0 hM.fr) (by rw [List.length_map]; exact hlc)) (S8_one_drop l k) (by omega) (l.length + 1) (by omega) ((insL l p).map S8v) (by unfold insL; rw [← hend]; simp) (fun A45 c45 => ?_)
              refine anyNext [cOwn 9 1 A45 (l.length + 1) (c45) ((insL l p).map S8v), cAt b40 9 [(.string (strOf p))]] (fun _ h => h.sub (.cons _ (.cons_cons _ .slnil))) (fun _ h => h) ?_
              refine anyVal (i := 12) (.slice A45 (l.length + 1) (c45)) rfl rfl rfl (by kernel_rfl) (by kernel_rfl) (fun _ _ _ h => h) (rAssign rfl rfl) ?_
              refine anyVal (i := 13) (.bool false) rfl rfl rfl (by kernel_rfl) (by kernel_rfl) (fun _ _ _ h => h) (rAssign rfl rfl) ?_
              refine anyDone (by kernel_rfl) ?_
              refine qThen ?_
              exact stMeet (b34, A38, c38, b40, A41, c41, A45, c45) trivial ⟨rfl, rfl, rfl, rfl, rfl, rfl, rfl, rfl, rfl, rfl, rfl, rfl, rfl, rfl, rfl, rfl, rfl, rfl, rfl, rfl, rfl, rfl, rfl, rfl, rfl, rfl, rfl, rfl, rfl, rfl, rfl, rfl, rfl, rfl, rfl, rfl, rfl, rfl, rfl, rfl, rfl, trivial⟩ (fun _ h => h)
          · refine opNew (v := fun b => .slice (some ⟨b, 0, none⟩) 1 1) 9 [(.string (strOf p))] rfl (by kernel_rfl) (fun _ => by kernel_rfl) (fun b40 => ?_)
            refine anyNext [cAt b40 9 [(.string (strOf p))]] (fun _ h => h.sub (.cons _ .slnil)) (fun _ h => h) ?_
            refine anyOne (i := 0) (by kernel_rfl) rfl rfl ?_
            refine opNew (v := fun b => .slice (some ⟨b, 0, none⟩) 0 0) 9 [] rfl (by kernel_rfl) (fun _ => by kernel_rfl) (fun b34 => ?_)
            refine anyNext [cAt b40 9 [(.string (strOf p))]] (fun _ h => h) (fun _ h => h.sub (.cons_cons _ (.cons _ .slnil))) ?_
            refine anyOne (i := 4) (by kernel_rfl) rfl rfl ?_
            refine opAppendAt el_str 1 ((l.map S8v).take k) rfl rfl (by kernel_rfl) rfl rfl rfl (by rw [List.length_take, List.length_map]; omega) (fun w hM => srcTake (HR.out.fr0 hM.fr) k) (S8_one_take l k) (by omega) k rfl ((l.take k).map S8v) (by rw [List.map_take]) (fun A38 c38 => ?_)
            refine anyNext [cAt b40 9 [(.string (strOf p))]] (fun _ h => h) (fun _ h => h.sub (.cons_cons _ (.cons _ .slnil))) ?_
            refine anyOne (i := 7) (by kernel_rfl) rfl rfl ?_
            refine opAppend el_str 1 [S8v p] rfl rfl (by kernel_rfl) rfl rfl rfl rfl (srcAt (i := 0) (off := 0) rfl (fun j v hj => by rw [Nat.zero_add]; exact hj)) (by simp [S8v, Value.oneCell']) (by omega) (k + 1) rfl ((l.take k ++ [p]).map S8v) (by simp) (fun A41 c41 => ?_)
            refine anyNext [cAt b40 9 [(.string (strOf p))]] (fun _ h => h) (fun _ h => h.sub (.cons_cons _ (.cons _ .slnil))) ?_
            refine anyOne (i := 11) (by kernel_rfl) rfl rfl ?_
            refine opAppend el_str 1 ((l.map S8v).drop k) rfl rfl (by kernel_rfl) rfl rfl rfl (by rw [List.length_drop, List.length_map, Nat.mul_one]) (fun w hM => srcDrop (HR.out.fr0 hM.fr) (by rw [List.length_map]; exact hlc)) (S8_one_drop l k) (by omega) (l.length + 1) (by omega) ((insL l p).map S8v) (by unfold insL; rw [← hend]; simp) (fun A45 c45 => ?_)
            refine anyNext [cAt b40 9 [(.string (strOf p))], cOwn 9 1 A45 (l.length + 1) (c45) ((insL l p).map S8v)] (fun _ h => h.sub (.cons_cons _ (.cons _ .slnil))) (fun _ h => h) ?_
            refine anyVal (i := 12) (.slice A45 (l.length + 1) (c45)) rfl rfl rfl (by kernel_rfl) (by kernel_rfl) (fun _ _ _ h => h) (rAssign rfl rfl) ?_
            refine anyVal (i := 13) (.bool false) rfl rfl rfl (by kernel_rfl) (by kernel_rfl) (fun _ _ _ h => h) (rAssign rfl rfl) ?_
            refine anyDone (by kernel_rfl) ?_
            refine qThen ?_
            exact stMeet (b34, A38, c38, b40, A41, c41, A45, c45) trivial ⟨rfl, rfl, rfl, rfl, rfl, rfl, rfl, rfl, rfl, rfl, rfl, rfl, rfl, rfl, rfl, rfl, rfl, rfl, rfl, rfl, rfl, rfl, rfl, rfl, rfl, rfl, rfl, rfl, rfl, rfl, rfl, rfl, rfl, rfl, rfl, rfl, rfl, rfl, rfl, rfl, rfl, trivial⟩ (fun _ h => h.perm (.swap _ _ _))
        · rintro ⟨b34, A38, c38, b40, A41, c41, A45, c45⟩ -
          show St _ _ _ [(0, (.slice (some ⟨b, o, none⟩) (l.length) (c))), (1, (.string (strOf p))), (6, (.int .i64 ((k : Nat) : Int))), (7, (.int .i64 ((k : Nat) : Int))), (8, (.slice (some ⟨b, o, none⟩) (l.length) (c))), (9, (.int .i64 ((l.length : Nat) : Int))), (10, (.bool (decide (((k : Nat) : Int) < ((l.length : Nat) : Int))))), (11, (.bool true)), (12, (.slice (some ⟨b, o, none⟩) (l.length) (c))), (13, (.int .i64 ((k : Nat) : Int))), (14, (.pointer (some ⟨b, o + k, none⟩))), (15, (.string (strOf x))), (16, (.string (strOf p))), (17, (.bool (decide (x < p)))), (18, (.bool (decide (x < p)))), (21, (.int .i64 ((k : Nat) : Int))), (22, (.slice (some ⟨b, o, none⟩) (l.length) (c))), (23, (.int .i64 ((l.length : Nat) : Int))), (24, (.bool (decide (((k : Nat) : Int) < ((l.length : Nat) : Int))))), (25, (.bool true)), (26, (.slice (some ⟨b, o, none⟩) (l.length) (c))), (27, (.int .i64 ((k : Nat) : Int))), (28, (.pointer (some ⟨b, o + k, none⟩))), (29, (.string (strOf x))), (30, (.string (strOf p))), (31, (.bool (decide (x = p)))), (32, (.bool (decide (x = p)))), (35, (.slice (some ⟨b, o, none⟩) (l.length) (c))), (36, (.int .i64 ((k : Nat) : Int))), (37, (.slice (some ⟨b, o, none⟩) (k) (c))), (39, (.string (strOf p))), (42, (.slice (some ⟨b, o, none⟩) (l.length) (c))), (43, (.int .i64 ((k : Nat) : Int))), (44, (.slice (if c = k then (some ⟨b, o, none⟩) else ((some ⟨b, o, none⟩) : Option Addr).map (·.add (k * 1))) (l.length - k) (c - k))), (34, (.slice (some ⟨b34, 0, none⟩) (0) (0))), (38, (.slice A38 (k) (c38))), (40, (.slice (some ⟨b40, 0, none⟩) (1) (1))), (41, (.slice A41 (k + 1) (c41))), (45, (.slice A45 (l.length + 1) (c45))), (4, (.slice A45 (l.length + 1) (c45))), (5, (.bool false))] [cOwn 9 1 A45 (l.length + 1) (c45) ((insL l p).map S8v), cAt b40 9 [(.string (strOf p))]] _
          refine stRet ?_
          refine stEnd [(.slice A45 (l.length + 1) (c45)), (.bool false)] rfl ⟨rfl, rfl, trivial⟩ (fun w hM => ?_)
          exact ⟨A45, c45, rfl, (fun (w : World) (h : Mm _ _ _ w) => Mm.sub h (.cons_cons _ (.cons _ .slnil))) w hM⟩
      · have hd25 := of_decide_eq_false hc25
        refine liNot (b := false) rfl rfl (by kernel_rfl) rfl ?_
        refine liNot (b := false) rfl rfl (by kernel_rfl) rfl ?_
        refine liNot (b := false) rfl rfl (by kernel_rfl) rfl ?_
        refine liNot (b := false) rfl rfl (by kernel_rfl) rfl ?_
        refine liNot (b := false) rfl rfl (by kernel_rfl) rfl ?_
        refine liNot (b := false) rfl rfl (by kernel_rfl) rfl ?_
        refine li rfl (opVal (.bool false) rfl (by kernel_rfl) (rClosed fun _ => by kernel_rfl) ?_)
        refine liNil ?_
        refine qThen ?_
        refine stFalse rfl ?_
        refine stSkip ?_
        refine qThen ?_
        refine stCut (ι := Nat × Option Addr × Nat × Nat × Option Addr × Nat × Option Addr × Nat) (fun _ => True) (fun (b34, A38, c38, b40, A41, c41, A45, c45) => [(0, (.slice (some ⟨b, o, none⟩) (l.length) (c))), (1, (.string (strOf p))), (6, (.int .i64 ((k : Nat) : Int))), (7, (.int .i64 ((k : Nat) : Int))), (8, (.slice (some ⟨b, o, none⟩) (l.length) (c))), (9, (.int .i64 ((l.length : Nat) : Int))), (10, (.bool (decide (((k : Nat) : Int) < ((l.length : Nat) : Int))))), (11, (.bool true)), (12, (.slice (some ⟨b, o, none⟩) (l.length) (c))), (13, (.int .i64 ((k : Nat) : Int))), (14, (.pointer (some ⟨b, o + k, none⟩))), (15, (.string (strOf x))), (16, (.string (strOf p))), (17, (.bool (decide (x < p)))), (18, (.bool (decide (x < p)))), (21, (.int .i64 ((k : Nat) : Int))), (22, (.slice (some ⟨b, o, none⟩) (l.length) (c))), (23, (.int .i64 ((l.length : Nat) : Int))), (24, (.bool (decide (((k : Nat) : Int) < ((l.length : Nat) : Int))))), (25, (.bool false)), (26, undef), (27, undef), (28, undef), (29, undef), (30, undef), (31, undef), (32, (.bool false)), (35, (.slice (some ⟨b, o, none⟩) (l.length) (c))), (36, (.int .i64 ((k : Nat) : Int))), (37, (.slice (some ⟨b, o, none⟩) (k) (c))), (39, (.string (strOf p))), (42, (.slice (some ⟨b, o, none⟩) (l.length) (c))), (43, (.int .i64 ((k : Nat) : Int))), (44, (.slice (if c = k then (some ⟨b, o, none⟩) else ((some ⟨b, o, none⟩) : Option Addr).map (·.add (k * 1))) (l.length - k) (c - k))), (34, (.slice (some ⟨b34, 0, none⟩) (0) (0))), (38, (.slice A38 (k) (c38))), (40, (.slice (some ⟨b40, 0, none⟩) (1) (1))), (41, (.slice A41 (k + 1) (c41))), (45, (.slice A45 (l.length + 1) (c45))), (4, (.slice A45 (l.length + 1) (c45))), (5, (.bool false))]) (fun (b34, A38, c38, b40, A41, c41, A45, c45) => [cOwn 9 1 A45 (l.length + 1) (c45) ((insL l p).map S8v), cAt b40 9 [(.string (strOf p))]]) ?_ ?_
        · refine anyBegin [] 14 (by kernel_rfl) (fun _ h => h) ?_
          refine anyVal (i := 1) (.slice (some ⟨b, o, none⟩) (l.length) (c)) rfl rfl rfl (by kernel_rfl) (by kernel_rfl) (fun _ _ _ h => h) (rMove rfl rfl) ?_
          refine anyVal (i := 2) (.int .i64 ((k : Nat) : Int)) rfl rfl rfl (by kernel_rfl) (by kernel_rfl) (fun _ _ _ h => h) (rMove rfl rfl) ?_
          refine anyVal (i := 3) (.slice (some ⟨b, o, none⟩) (k) (c)) rfl rfl rfl (by kernel_rfl) (by kernel_rfl) (fun _ _ _ h => h) (rSliceHi (e := 9) rfl (by kernel_rfl) (by kernel_rfl) rfl rfl (by omega)) ?_
          refine anyVal (i := 5) (.string (strOf p)) rfl rfl rfl (by kernel_rfl) (by kernel_rfl) (fun _ _ _ h => h) (rMove rfl rfl) ?_
          refine anyVal (i := 8) (.slice (some ⟨b, o, none⟩) (l.length) (c)) rfl rfl rfl (by kernel_rfl) (by kernel_rfl) (fun _ _ _ h => h) (rMove rfl rfl) ?_
          refine anyVal (i := 9) (.int .i64 ((k : Nat) : Int)) rfl rfl rfl (by kernel_rfl) (by kernel_rfl) (fun _ _ _ h => h) (rMove rfl rfl) ?_
          refine anyVal (i := 10) (.slice (if c = k then (some ⟨b, o, none⟩) else ((some ⟨b, o, none⟩) : Option Addr).map (·.add (k * 1))) (l.length - k) (c - k)) rfl rfl rfl (by kernel_rfl) (by kernel_rfl) (fun _ _ _ h => h) (rSliceLo (e := 9) (sz := 1) rfl (by kernel_rfl) (by kernel_rfl) rfl rfl (by omega)) ?_
          refine anyTwo (i := 0) (j := 6) (by kernel_rfl) rfl rfl rfl rfl ?_ ?_
          · refine opNew (v := fun b => .slice (some ⟨b, 0, none⟩) 0 0) 9 [] rfl (by kernel_rfl) (fun _ => by kernel_rfl) (fun b34 => ?_)
            refine anyNext [] (fun _ h => h) (fun _ h => h.sub (.cons _ .slnil)) ?_
            refine anyTwo (i := 4) (j := 6) (by kernel_rfl) rfl rfl rfl rfl ?_ ?_
            · refine opAppendAt el_str 0 ((l.map S8v).take k) rfl rfl (by kernel_rfl) rfl rfl rfl (by rw [List.length_take, List.length_map]; omega) (fun w hM => srcTake (HR.out.fr0 hM.fr) k) (S8_one_take l k) (by omega) k rfl ((l.take k).map S8v) (by rw [List.map_take]) (fun A38 c38 => ?_)
              refine anyNext [] (fun _ h => h) (fun _ h => h.sub (.cons _ .slnil)) ?_
              refine anyOne (i := 6) (by kernel_rfl) rfl rfl ?_
              refine opNew (v := fun b => .slice (some ⟨b, 0, none⟩) 1 1) 9 [(.string (strOf p))] rfl (by kernel_rfl) (fun _ => by kernel_rfl) (fun b40 => ?_)
              refine anyNext [cAt b40 9 [(.string (strOf p))]] (fun _ h => h.sub (.cons _ .slnil)) (fun _ h => h.sub (.cons _ (.cons_cons _ .slnil))) ?_
              refine anyOne (i := 7) (by kernel_rfl) rfl rfl ?_
              refine opAppend el_str 0 [S8v p] rfl rfl (by kernel_rfl) rfl rfl rfl rfl (srcAt (i := 1) (off := 0) rfl (fun j v hj => by rw [Nat.zero_add]; exact hj)) (by simp [S8v, Value.oneCell']) (by omega) (k + 1) rfl ((l.take k ++ [p]).map S8v) (by simp) (fun A41 c41 => ?_)
              refine anyNext [cAt b40 9 [(.string (strOf p))]] (fun _ h => h) (fun _ h => h.sub (.cons _ (.cons_cons _ .slnil))) ?_
              refine anyOne (i := 11) (by kernel_rfl) rfl rfl ?_
              refine opAppend el_str 0 ((l.map S8v).drop k) rfl rfl (by kernel_rfl) rfl rfl rfl (by rw [List.length_drop, List.length_map, Nat.mul_one]) (fun w hM => srcDrop (HR.out.fr0 hM.fr) (by rw [List.length_map]; exact hlc)) (S8_one_drop l k) (by omega) (l.length + 1) (by omega) ((insL l p).map S8v) (by unfold insL; rw [← hend]; simp) (fun A45 c45 => ?_)
              refine anyNext [cOwn 9 1 A45 (l.length + 1) (c45) ((insL l p).map S8v), cAt b40 9 [(.string (strOf p))]] (fun _ h => h.sub (.cons _ (.cons_cons _ .slnil))) (fun _ h => h) ?_
              refine anyVal (i := 12) (.slice A45 (l.length + 1) (c45)) rfl rfl rfl (by kernel_rfl) (by kernel_rfl) (fun _ _ _ h => h) (rAssign rfl rfl) ?_
              refine anyVal (i := 13) (.bool false) rfl rfl rfl (by kernel_rfl) (by kernel_rfl) (fun _ _ _ h => h) (rAssign rfl rfl) ?_
              refine anyDone (by kernel_rfl) ?_
              refine qThen ?_
              exact stMeet (b34, A38, c38, b40, A41, c41, A45, c45) trivial ⟨rfl, rfl, rfl, rfl, rfl, rfl, rfl, rfl, rfl, rfl, rfl, rfl, rfl, rfl, rfl, rfl, rfl, rfl, rfl, rfl, rfl, rfl, rfl, rfl, rfl, rfl, rfl, rfl, rfl, rfl, rfl, rfl, rfl, rfl, rfl, rfl, rfl, rfl, rfl, rfl, rfl, trivial⟩ (fun _ h => h)
            · refine opNew (v := fun b => .slice (some ⟨b, 0, none⟩) 1 1) 9 [(.string (strOf p))] rfl (by kernel_rfl) (fun _ => by kernel_rfl) (fun b40 => ?_)
              refine anyNext [cAt b40 9 [(.string (strOf p))]] (fun _ h => h.sub (.cons _ .slnil)) (fun _ h => h.sub (.cons _ (.cons_cons _ .slnil))) ?_
              refine anyOne (i := 4) (by kernel_rfl) rfl rfl ?_
              refine opAppendAt el_str 0 ((l.map S8v).take k) rfl rfl (by kernel_rfl) rfl rfl rfl (by rw [List.length_take, List.length_map]; omega) (fun w hM => srcTake (HR.out.fr0 hM.fr) k) (S8_one_take l k) (by omega) k rfl ((l.take k).map S8v) (by rw [List.map_take]) (fun A38 c38 => ?_)
              refine anyNext [cAt b40 9 [(.string (strOf p))]] (fun _ h => h) (fun _ h => h.sub (.cons _ (.cons_cons _ .slnil))) ?_
              refine anyOne (i := 7) (by kernel_rfl) rfl rfl ?_
              refine opAppend el_str 0 [S8v p] rfl rfl (by kernel_rfl) rfl rfl rfl rfl (srcAt (i := 1) (off := 0) rfl (fun j v hj => by rw [Nat.zero_add]; exact hj)) (by simp [S8v, Value.oneCell']) (by omega) (k + 1) rfl ((l.take k ++ [p]).map S8v) (by simp) (fun A41 c41 => ?_)
              refine anyNext [cAt b40 9 [(.string (strOf p))]] (fun _ h => h) (fun _ h => h.sub (.cons _ (.cons_cons _ .slnil))) ?_
              refine anyOne (i := 11) (by kernel_rfl) rfl rfl ?_
              refine opAppend el_str 0 ((l.map S8v).drop k) rfl rfl (by kernel_rfl) rfl rfl rfl (by rw [List.length_drop, List.length_map, Nat.mul_one]) (fun w hM => srcDrop (HR.out.fr0 hM.fr) (by rw [List.length_map]; exact hlc)) (S8_one_drop l k) (by omega) (l.length + 1) (by omega) ((insL l p).map S8v) (by unfold insL; rw [← hend]; simp) (fun A45 c45 => ?_)
              refine anyNext [cOwn 9 1 A45 (l.length + 1) (c45) ((insL l p).map S8v), cAt b40 9 [(.string (strOf p))]] (fun _ h => h.sub (.cons _ (.cons_cons _ .slnil))) (fun _ h => h) ?_
              refine anyVal (i := 12) (.slice A45 (l.length + 1) (c45)) rfl rfl rfl (by kernel_rfl) (by kernel_rfl) (fun _ _ _ h => h) (rAssign rfl rfl) ?_
              refine anyVal (i := 13) (.bool false) rfl rfl rfl (by kernel_rfl) (by kernel_rfl) (fun _ _ _ h => h) (rAssign rfl rfl) ?_
              refine anyDone (by kernel_rfl) ?_
              refine qThen ?_
              exact stMeet (b34, A38, c38, b40, A41, c41, A45, c45) trivial ⟨rfl, rfl, rfl, rfl, rfl, rfl, rfl, rfl, rfl, rfl, rfl, rfl, rfl, rfl, rfl, rfl, rfl, rfl, rfl, rfl, rfl, rfl, rfl, rfl, rfl, rfl, rfl, rfl, rfl, rfl, rfl, rfl, rfl, rfl, rfl, rfl, rfl, rfl, rfl, rfl, rfl, trivial⟩ (fun _ h => h)
          · refine opNew (v := fun b => .slice (some ⟨b, 0, none⟩) 1 1) 9 [(.string (strOf p))] rfl (by kernel_rfl) (fun _ => by kernel_rfl) (fun b40 => ?_)
            refine anyNext [cAt b40 9 [(.string (strOf p))]] (fun _ h => h.sub (.cons _ .slnil)) (fun _ h => h) ?_
            refine anyOne (i := 0) (by kernel_rfl) rfl rfl ?_
            refine opNew (v := fun b => .slice (some ⟨b, 0, none⟩) 0 0) 9 [] rfl (by kernel_rfl) (fun _ => by kernel_rfl) (fun b34 => ?_)
            refine anyNext [cAt b40 9 [(.string (strOf p))]] (fun _ h => h) (fun _ h => h.sub (.cons_cons _ (.cons _ .slnil))) ?_
            refine anyOne (i := 4) (by kernel_rfl) rfl rfl ?_
            refine opAppendAt el_str 1 ((l.map S8v).take k) rfl rfl (by kernel_rfl) rfl rfl rfl (by rw [List.length_take, List.length_map]; omega) (fun w hM => srcTake (HR.out.fr0 hM.fr) k) (S8_one_take l k) (by omega) k rfl ((l.take k).map S8v) (by rw [List.map_take]) (fun A38 c38 => ?_)
            refine anyNext [cAt b40 9 [(.string (strOf p))]] (fun _ h => h) (fun _ h => h.sub (.cons_cons _ (.cons _ .slnil))) ?_
            refine anyOne (i := 7) (by kernel_rfl) rfl rfl ?_
            refine opAppend el_str 1 [S8v p] rfl rfl (by kernel_rfl) rfl rfl rfl rfl (srcAt (i := 0) (off := 0) rfl (fun j v hj => by rw [Nat.zero_add]; exact hj)) (by simp [S8v, Value.oneCell']) (by omega) (k + 1) rfl ((l.take k ++ [p]).map S8v) (by simp) (fun A41 c41 => ?_)
            refine anyNext [cAt b40 9 [(.string (strOf p))]] (fun _ h => h) (fun _ h => h.sub (.cons_cons _ (.cons _ .slnil))) ?_
            refine anyOne (i := 11) (by kernel_rfl) rfl rfl ?_
            refine opAppend el_str 1 ((l.map S8v).drop k) rfl rfl (by kernel_rfl) rfl rfl rfl (by rw [List.length_drop, List.length_map, Nat.mul_one]) (fun w hM => srcDrop (HR.out.fr0 hM.fr) (by rw [List.length_map]; exact hlc)) (S8_one_drop l k) (by omega) (l.length + 1) (by omega) ((insL l p).map S8v) (by unfold insL; rw [← hend]; simp) (fun A45 c45 => ?_)
            refine anyNext [cAt b40 9 [(.string (strOf p))], cOwn 9 1 A45 (l.length + 1) (c45) ((insL l p).map S8v)] (fun _ h => h.sub (.cons_cons _ (.cons _ .slnil))) (fun _ h => h) ?_
            refine anyVal (i := 12) (.slice A45 (l.length + 1) (c45)) rfl rfl rfl (by kernel_rfl) (by kernel_rfl) (fun _ _ _ h => h) (rAssign rfl rfl) ?_
            refine anyVal (i := 13) (.bool false) rfl rfl rfl (by kernel_rfl) (by kernel_rfl) (fun _ _ _ h => h) (rAssign rfl rfl) ?_
            refine anyDone (by kernel_rfl) ?_
            refine qThen ?_
            exact stMeet (b34, A38, c38, b40, A41, c41, A45, c45) trivial ⟨rfl, rfl, rfl, rfl, rfl, rfl, rfl, rfl, rfl, rfl, rfl, rfl, rfl, rfl, rfl, rfl, rfl, rfl, rfl, rfl, rfl, rfl, rfl, rfl, rfl, rfl, rfl, rfl, rfl, rfl, rfl, rfl, rfl, rfl, rfl, rfl, rfl, rfl, rfl, rfl, rfl, trivial⟩ (fun _ h => h.perm (.swap _ _ _))
        · rintro ⟨b34, A38, c38, b40, A41, c41, A45, c45⟩ -
          show St _ _ _ [(0, (.slice (some ⟨b, o, none⟩) (l.length) (c))), (1, (.string (strOf p))), (6, (.int .i64 ((k : Nat) : Int))), (7, (.int .i64 ((k : Nat) : Int))), (8, (.slice (some ⟨b, o, none⟩) (l.length) (c))), (9, (.int .i64 ((l.length : Nat) : Int))), (10, (.bool (decide (((k : Nat) : Int) < ((l.length : Nat) : Int))))), (11, (.bool true)), (12, (.slice (some ⟨b, o, none⟩) (l.length) (c))), (13, (.int .i64 ((k : Nat) : Int))), (14, (.pointer (some ⟨b, o + k, none⟩))), (15, (.string (strOf x))), (16, (.string (strOf p))), (17, (.bool (decide (x < p)))), (18, (.bool (decide (x < p)))), (21, (.int .i64 ((k : Nat) : Int))), (22, (.slice (some ⟨b, o, none⟩) (l.length) (c))), (23, (.int .i64 ((l.length : Nat) : Int))), (24, (.bool (decide (((k : Nat) : Int) < ((l.length : Nat) : Int))))), (25, (.bool false)), (26, undef), (27, undef), (28, undef), (29, undef), (30, undef), (31, undef), (32, (.bool false)), (35, (.slice (some ⟨b, o, none⟩) (l.length) (c))), (36, (.int .i64 ((k : Nat) : Int))), (37, (.slice (some ⟨b, o, none⟩) (k) (c))), (39, (.string (strOf p))), (42, (.slice (some ⟨b, o, none⟩) (l.length) (c))), (43, (.int .i64 ((k : Nat) : Int))), (44, (.slice (if c = k then (some ⟨b, o, none⟩) else ((some ⟨b, o, none⟩) : Option Addr).map (·.add (k * 1))) (l.length - k) (c - k))), (34, (.slice (some ⟨b34, 0, none⟩) (0) (0))), (38, (.slice A38 (k) (c38))), (40, (.slice (some ⟨b40, 0, none⟩) (1) (1))), (41, (.slice A41 (k + 1) (c41))), (45, (.slice A45 (l.length + 1) (c45))), (4, (.slice A45 (l.length + 1) (c45))), (5, (.bool false))] [cOwn 9 1 A45 (l.length + 1) (c45) ((insL l p).map S8v), cAt b40 9 [(.string (strOf p))]] _
          refine stRet ?_
          refine stEnd [(.slice A45 (l.length + 1) (c45)), (.bool false)] rfl ⟨rfl, rfl, trivial⟩ (fun w hM => ?_)
          exact ⟨A45, c45, rfl, (fun (w : World) (h : Mm _ _ _ w) => Mm.sub h (.cons_cons _ (.cons _ .slnil))) w hM⟩
  · have hd11 := of_decide_eq_false hc11
    have hend := insPos_end hk (by simpa using hc11)
    refine liNot (b := false) rfl rfl (by kernel_rfl) rfl ?_
    refine liNot (b := false) rfl rfl (by kernel_rfl) rfl ?_
    refine liNot (b := false) rfl rfl (by kernel_rfl) rfl ?_
    refine liNot (b := false) rfl rfl (by kernel_rfl) rfl ?_
    refine liNot (b := false) rfl rfl (by kernel_rfl) rfl ?_
    refine liNot (b := false) rfl rfl (by kernel_rfl) rfl ?_
    refine li rfl (opVal (.bool false) rfl (by kernel_rfl) (rClosed fun _ => by kernel_rfl) ?_)
    refine liNil ?_
    refine qThen ?_
    refine stFalse rfl ?_
    refine stExit ?_
    refine qThenX ?_
    refine qThenX ?_
    refine qBlockX ?_
    refine qThen ?_
    refine stSeq ?_
    refine stSeq ?_
    refine reg ?_
    refine li rfl (opVal (.int .i64 ((k : Nat) : Int)) rfl (by kernel_rfl) (rMove rfl rfl) ?_)
    refine li rfl (opVal (.slice A (l.length) (c)) rfl (by kernel_rfl) (rMove rfl rfl) ?_)
    refine li rfl (opVal (.int .i64 ((l.length : Nat) : Int)) rfl (by kernel_rfl) (rClosed fun _ => by kernel_rfl) ?_)
    refine li rfl (opVal (.bool (decide (((k : Nat) : Int) < ((l.length : Nat) : Int)))) rfl (by kernel_rfl) (rClosed fun _ => by kernel_rfl) ?_)
    refine li rfl (opVal (.bool (decide (((k : Nat) : Int) < ((l.length : Nat) : Int)))) rfl (by kernel_rfl) (rMove rfl rfl) ?_)
    refine St.dec 25 rfl (fun hc25 => ?_) (fun hc25 => ?_)
    · have hd25 := of_decide_eq_true hc25
      have hlt : k < l.length := by omega
      obtain ⟨x, hx⟩ : ∃ x, l[k]? = some x := ⟨_, List.getElem?_eq_getElem hlt⟩
      obtain ⟨b, o, hA, hbl, hck⟩ := HR.out k (S8v x) (by rw [List.getElem?_map, hx]; rfl)
      subst hA
      have hxp : x ≠ p := by rintro rfl; have h := hfound; rw [insF, decide_eq_false_iff_not, ← hend] at h; exact h hx
      refine liGo rfl rfl (opVal (.slice (some ⟨b, o, none⟩) (l.length) (c)) rfl (by kernel_rfl) (rMove rfl rfl) ?_)
      refine liGo rfl rfl (opVal (.int .i64 ((k : Nat) : Int)) rfl (by kernel_rfl) (rMove rfl rfl) ?_)
      refine liGo rfl rfl (opVal (.pointer (some ⟨b, o + k, none⟩)) rfl (by kernel_rfl) (rIndexAddr1 (e := 9) rfl (by kernel_rfl) (by kernel_rfl) rfl rfl (by omega)) ?_)
      refine liGo rfl rfl (opVal (.string (strOf x)) rfl (by kernel_rfl) (rLoadW rfl rfl (by kernel_rfl) (fun w hM => hM.old hck (by simp))) ?_)
      refine liGo rfl rfl (opVal (.string (strOf p)) rfl (by kernel_rfl) (rMove rfl rfl) ?_)
      refine liGo rfl rfl (opVal (.bool (decide (x = p))) rfl (by kernel_rfl) (rStrEq rfl rfl rfl) ?_)
      refine li rfl (opVal (.bool (decide (x = p))) rfl (by kernel_rfl) (rClosed fun _ => by kernel_rfl) ?_)
      refine liNil ?_
      refine qThen ?_
      refine stFalseK rfl (by simp [hxp]) ?_
      refine stSkip ?_
      refine qThen ?_
      refine stCut (ι := Nat × Option Addr × Nat × Nat × Option Addr × Nat × Option Addr × Nat) (fun _ => True) (fun (b34, A38, c38, b40, A41, c41, A45, c45) => [(0, (.slice (some ⟨b, o, none⟩) (l.length) (c))), (1, (.string (strOf p))), (6, (.int .i64 ((k : Nat) : Int))), (7, (.int .i64 ((k : Nat) : Int))), (8, (.slice (some ⟨b, o, none⟩) (l.length) (c))), (9, (.int .i64 ((l.length : Nat) : Int))), (10, (.bool (decide (((k : Nat) : Int) < ((l.length : Nat) : Int))))), (11, (.bool false)), (12, undef), (13, undef), (14, undef), (15, undef), (16, undef), (17, undef), (18, (.bool false)), (21, (.int .i64 ((k : Nat) : Int))), (22, (.slice (some ⟨b, o, none⟩) (l.length) (c))), (23, (.int .i64 ((l.length : Nat) : Int))), (24, (.bool (decide (((k : Nat) : Int) < ((l.length : Nat) : Int))))), (25, (.bool true)), (26, (.slice (some ⟨b, o, none⟩) (l.length) (c))), (27, (.int .i64 ((k : Nat) : Int))), (28, (.pointer (some ⟨b, o + k, none⟩))), (29, (.string (strOf x))), (30, (.string (strOf p))), (31, (.bool (decide (x = p)))), (32, (.bool (decide (x = p)))), (35, (.slice (some ⟨b, o, none⟩) (l.length) (c))), (36, (.int .i64 ((k : Nat) : Int))), (37, (.slice (some ⟨b, o, none⟩) (k) (c))), (39, (.string (strOf p))), (42, (.slice (some ⟨b, o, none⟩) (l.length) (c))), (43, (.int .i64 ((k : Nat) : Int))), (44, (.slice (if c = k then (some ⟨b, o, none⟩) else ((some ⟨b, o, none⟩) : Option Addr).map (·.add (k * 1))) (l.length - k) (c - k))), (34, (.slice (some ⟨b34, 0, none⟩) (0) (0))), (38, (.slice A38 (k) (c38))), (40, (.slice (some ⟨b40, 0, none⟩) (1) (1))), (41, (.slice A41 (k + 1) (c41))), (45, (.slice A45 (l.length + 1) (c45))), (4, (.slice A45 (l.length + 1) (c45))), (5, (.bool false))]) (fun (b34, A38, c38, b40, A41, c41, A45, c45) => [cOwn 9 1 A45 (l.length + 1) (c45) ((insL l p).map S8v), cAt b40 9 [(.string (strOf p))]]) ?_ ?_
      · refine anyBegin [] 14 (by kernel_rfl) (fun _ h => h) ?_
        refine anyVal (i := 1) (.slice (some ⟨b, o, none⟩) (l.length) (c)) rfl rfl rfl (by kernel_rfl) (by kernel_rfl) (fun _ _ _ h => h) (rMove rfl rfl) ?_
        refine anyVal (i := 2) (.int .i64 ((k : Nat) : Int)) rfl rfl rfl (by kernel_rfl) (by kernel_rfl) (fun _ _ _ h => h) (rMove rfl rfl) ?_
        refine anyVal (i := 3) (.slice (some ⟨b, o, none⟩) (k) (c)) rfl rfl rfl (by kernel_rfl) (by kernel_rfl) (fun _ _ _ h => h) (rSliceHi (e := 9) rfl (by kernel_rfl) (by kernel_rfl) rfl rfl (by omega)) ?_
        refine anyVal (i := 5) (.string (strOf p)) rfl rfl rfl (by kernel_rfl) (by kernel_rfl) (fun _ _ _ h => h) (rMove rfl rfl) ?_
        refine anyVal (i := 8) (.slice (some ⟨b, o, none⟩) (l.length) (c)) rfl rfl rfl (by kernel_rfl) (by kernel_rfl) (fun _ _ _ h => h) (rMove rfl rfl) ?_
        refine anyVal (i := 9) (.int .i64 ((k : Nat) : Int)) rfl rfl rfl (by kernel_rfl) (by kernel_rfl) (fun _ _ _ h => h) (rMove rfl rfl) ?_
        refine anyVal (i := 10) (.slice (if c = k then (some ⟨b, o, none⟩) else ((some ⟨b, o, none⟩) : Option Addr).map (·.add (k * 1))) (l.length - k) (c - k)) rfl rfl rfl (by kernel_rfl) (by kernel_rfl) (fun _ _ _ h => h) (rSliceLo (e := 9) (sz := 1) rfl (by kernel_rfl) (by kernel_rfl) rfl rfl (by omega)) ?_
        refine anyTwo (i := 0) (j := 6) (by kernel_rfl) rfl rfl rfl rfl ?_ ?_
        · refine opNew (v := fun b => .slice (some ⟨b, 0, none⟩) 0 0) 9 [] rfl (by kernel_rfl) (fun _ => by kernel_rfl) (fun b34 => ?_)
          refine anyNext [] (fun _ h => h) (fun _ h => h.sub (.cons _ .slnil)) ?_
          refine anyTwo (i := 4) (j := 6) (by kernel_rfl) rfl rfl rfl rfl ?_ ?_
          · refine opAppendAt el_str 0 ((l.map S8v).take k) rfl rfl (by kernel_rfl) rfl rfl rfl (by rw [List.length_take, List.length_map]; omega) (fun w hM => srcTake (HR.out.fr0 hM.fr) k) (S8_one_take l k) (by omega) k rfl ((l.take k).map S8v) (by rw [List.map_take]) (fun A38 c38 => ?_)
            refine anyNext [] (fun _ h => h) (fun _ h => h.sub (.cons _ .slnil)) ?_
            refine anyOne (i := 6) (by kernel_rfl) rfl rfl ?_
            refine opNew (v := fun b => .slice (some ⟨b, 0, none⟩) 1 1) 9 [(.string (strOf p))] rfl (by kernel_rfl) (fun _ => by kernel_rfl) (fun b40 => ?_)
            refine anyNext [cAt b40 9 [(.string (strOf p))]] (fun _ h => h.sub (.cons _ .slnil)) (fun _ h => h.sub (.cons _ (.cons_cons _ .slnil))) ?_
            refine anyOne (i := 7) (by kernel_rfl) rfl rfl ?_
            refine opAppend el_str 0 [S8v p] rfl rfl (by kernel_rfl) rfl rfl rfl rfl (srcAt (i := 1) (off := 0) rfl (fun j v hj => by rw [Nat.zero_add]; exact hj)) (by simp [S8v, Value.oneCell']) (by omega) (k + 1) rfl ((l.take k ++ [p]).map S8v) (by simp) (fun A41 c41 => ?_)
            refine anyNext [cAt b40 9 [(.string (strOf p))]] (fun _ h => h) (fun _ h => h.sub (.cons _ (.cons_cons _ .slnil))) ?_
            refine anyOne (i := 11) (by kernel_rfl) rfl rfl ?_
            refine opAppend el_str 0 ((l.map S8v).drop k) rfl rfl (by kernel_rfl) rfl rfl rfl (by rw [List.length_drop, List.length_map, Nat.mul_one]) (fun w hM => srcDrop (HR.out.fr0 hM.fr) (by rw [List.length_map]; exact hlc)) (S8_one_drop l k) (by omega) (l.length + 1) (by omega) ((insL l p).map S8v) (by unfold insL; rw [← hend]; simp) (fun A45 c45 => ?_)
            refine anyNext [cOwn 9 1 A45 (l.length + 1) (c45) ((insL l p).map S8v), cAt b40 9 [(.string (strOf p))]] (fun _ h => h.sub (.cons _ (.cons_cons _ .slnil))) (fun _ h => h) ?_
            refine anyVal (i := 12) (.slice A45 (l.length + 1) (c45)) rfl rfl rfl (by kernel_rfl) (by kernel_rfl) (fun _ _ _ h => h) (rAssign rfl rfl) ?_
            refine anyVal (i := 13) (.bool false) rfl rfl rfl (by kernel_rfl) (by kernel_rfl) (fun _ _ _ h => h) (rAssign rfl rfl) ?_
            refine anyDone (by kernel_rfl) ?_
            refine qThen ?_
            exact stMeet (b34, A38, c38, b40, A41, c41, A45, c45) trivial ⟨rfl, rfl, rfl, rfl, rfl, rfl, rfl, rfl, rfl, rfl, rfl, rfl, rfl, rfl, rfl, rfl, rfl, rfl, rfl, rfl, rfl, rfl, rfl, rfl, rfl, rfl, rfl, rfl, rfl, rfl, rfl, rfl, rfl, rfl, rfl, rfl, rfl, rfl, rfl, rfl, rfl, trivial⟩ (fun _ h => h)
          · refine opNew (v := fun b => .slice (some ⟨b, 0, none⟩) 1 1) 9 [(.string (strOf p))] rfl (by kernel_rfl) (fun _ => by kernel_rfl) (fun b40 => ?_)
            refine anyNext [cAt b40 9 [(.string (strOf p))]] (fun _ h => h.sub (.cons _ .slnil)) (fun _ h => h.sub (.cons _ (.cons_cons _ .slnil))) ?_
            refine anyOne (i := 4) (by kernel_rfl) rfl rfl ?_
            refine opAppendAt el_str 0 ((l.map S8v).take k) rfl rfl (by kernel_rfl) rfl rfl rfl (by rw [List.length_take, List.length_map]; omega) (fun w hM => srcTake (HR.out.fr0 hM.fr) k) (S8_one_take l k) (by omega) k rfl ((l.take k).map S8v) (by rw [List.map_take]) (fun A38 c38 => ?_)
            refine anyNext [cAt b40 9 [(.string (strOf p))]] (fun _ h => h) (fun _ h => h.sub (.cons _ (.cons_cons _ .slnil))) ?_
            refine anyOne (i := 7) (by kernel_rfl) rfl rfl ?_
            refine opAppend el_str 0 [S8v p] rfl rfl (by kernel_rfl) rfl rfl rfl rfl (srcAt (i := 1) (off := 0) rfl (fun j v hj => by rw [Nat.zero_add]; exact hj)) (by simp [S8v, Value.oneCell']) (by omega) (k + 1) rfl ((l.take k ++ [p]).map S8v) (by simp) (fun A41 c41 => ?_)
            refine anyNext [cAt b40 9 [(.string (strOf p))]] (fun _ h => h) (fun _ h => h.sub (.cons _ (.cons_cons _ .slnil))) ?_
            refine anyOne (i := 11) (by kernel_rfl) rfl rfl ?_
            refine opAppend el_str 0 ((l.map S8v).drop k) rfl rfl (by kernel_rfl) rfl rfl rfl (by rw [List.length_drop, List.length_map, Nat.mul_one]) (fun w hM => srcDrop (HR.out.fr0 hM.fr) (by rw [List.length_map]; exact hlc)) (S8_one_drop l k) (by omega) (l.length + 1) (by omega) ((insL l p).map S8v) (by unfold insL; rw [← hend]; simp) (fun A45 c45 => ?_)
            refine anyNext [cOwn 9 1 A45 (l.length + 1) (c45) ((insL l p).map S8v), cAt b40 9 [(.string (strOf p))]] (fun _ h => h.sub (.cons _ (.cons_cons _ .slnil))) (fun _ h => h) ?_
            refine anyVal (i := 12) (.slice A45 (l.length + 1) (c45)) rfl rfl rfl (by kernel_rfl) (by kernel_rfl) (fun _ _ _ h => h) (rAssign rfl rfl) ?_
            refine anyVal (i := 13) (.bool false) rfl rfl rfl (by kernel_rfl) (by kernel_rfl) (fun _ _ _ h => h) (rAssign rfl rfl) ?_
            refine anyDone (by kernel_rfl) ?_
            refine qThen ?_
            exact stMeet (b34, A38, c38, b40, A41, c41, A45, c45) trivial ⟨rfl, rfl, rfl, rfl, rfl, rfl, rfl, rfl, rfl, rfl, rfl, rfl, rfl, rfl, rfl, rfl, rfl, rfl, rfl, rfl, rfl, rfl, rfl, rfl, rfl, rfl, rfl, rfl, rfl, rfl, rfl, rfl, rfl, rfl, rfl, rfl, rfl, rfl, rfl, rfl, rfl, trivial⟩ (fun _ h => h)
        · refine opNew (v := fun b => .slice (some ⟨b, 0, none⟩) 1 1) 9 [(.string (strOf p))] rfl (by kernel_rfl) (fun _ => by kernel_rfl) (fun b40 => ?_)
          refine anyNext [cAt b40 9 [(.string (strOf p))]] (fun _ h => h.sub (.cons _ .slnil)) (fun _ h => h) ?_
          refine anyOne (i := 0) (by kernel_rfl) rfl rfl ?_
          refine opNew (v := fun b => .slice (some ⟨b, 0, none⟩) 0 0) 9 [] rfl (by kernel_rfl) (fun _ => by kernel_rfl) (fun b34 => ?_)
          refine anyNext [cAt b40 9 [(.string (strOf p))]] (fun _ h => h) (fun _ h => h.sub (.cons_cons _ (.cons _ .slnil))) ?_
          refine anyOne (i := 4) (by kernel_rfl) rfl rfl ?_
          refine opAppendAt el_str 1 ((l.map S8v).take k) rfl rfl (by kernel_rfl) rfl rfl rfl (by rw [List.length_take, List.length_map]; omega) (fun w hM => srcTake (HR.out.fr0 hM.fr) k) (S8_one_take l k) (by omega) k rfl ((l.take k).map S8v) (by rw [List.map_take]) (fun A38 c38 => ?_)
          refine anyNext [cAt b40 9 [(.string (strOf p))]] (fun _ h => h) (fun _ h => h.sub (.cons_cons _ (.cons _ .slnil))) ?_
          refine anyOne (i := 7) (by kernel_rfl) rfl rfl ?_
          refine opAppend el_str 1 [S8v p] rfl rfl (by kernel_rfl) rfl rfl rfl rfl (srcAt (i := 0) (off := 0) rfl (fun j v hj => by rw [Nat.zero_add]; exact hj)) (by simp [S8v, Value.oneCell']) (by omega) (k + 1) rfl ((l.take k ++ [p]).map S8v) (by simp) (fun A41 c41 => ?_)
          refine anyNext [cAt b40 9 [(.string (strOf p))]] (fun _ h => h) (fun _ h => h.sub (.cons_cons _ (.cons _ .slnil))) ?_
          refine anyOne (i := 11) (by kernel_rfl) rfl rfl ?_
          refine opAppend el_str 1 ((l.map S8v).drop k) rfl rfl (by kernel_rfl) rfl rfl rfl (by rw [List.length_drop, List.length_map, Nat.mul_one]) (fun w hM => srcDrop (HR.out.fr0 hM.fr) (by rw [List.length_map]; exact hlc)) (S8_one_drop l k) (by omega) (l.length + 1) (by omega) ((insL l p).map S8v) (by unfold insL; rw [← hend]; simp) (fun A45 c45 => ?_)
          refine anyNext [cAt b40 9 [(.string (strOf p))], cOwn 9 1 A45 (l.length + 1) (c45) ((insL l p).map S8v)] (fun _ h => h.sub (.cons_cons _ (.cons _ .slnil))) (fun _ h => h) ?_
          refine anyVal (i := 12) (.slice A45 (l.length + 1) (c45)) rfl rfl rfl (by kernel_rfl) (by kernel_rfl) (fun _ _ _ h => h) (rAssign rfl rfl) ?_
          refine anyVal (i := 13) (.bool false) rfl rfl rfl (by kernel_rfl) (by kernel_rfl) (fun _ _ _ h => h) (rAssign rfl rfl) ?_
          refine anyDone (by kernel_rfl) ?_
          refine qThen ?_
          exact stMeet (b34, A38, c38, b40, A41, c41, A45, c45) trivial ⟨rfl, rfl, rfl, rfl, rfl, rfl, rfl, rfl, rfl, rfl, rfl, rfl, rfl, rfl, rfl, rfl, rfl, rfl, rfl, rfl, rfl, rfl, rfl, rfl, rfl, rfl, rfl, rfl, rfl, rfl, rfl, rfl, rfl, rfl, rfl, rfl, rfl, rfl, rfl, rfl, rfl, trivial⟩ (fun _ h => h.perm (.swap _ _ _))
      · rintro ⟨b34, A38, c38, b40, A41, c41, A45, c45⟩ -
        show St _ _ _ [(0, (.slice (some ⟨b, o, none⟩) (l.length) (c))), (1, (.string (strOf p))), (6, (.int .i64 ((k : Nat) : Int))), (7, (.int .i64 ((k : Nat) : Int))), (8, (.slice (some ⟨b, o, none⟩) (l.length) (c))), (9, (.int .i64 ((l.length : Nat) : Int))), (10, (.bool (decide (((k : Nat) : Int) < ((l.length : Nat) : Int))))), (11, (.bool false)), (12, undef), (13, undef), (14, undef), (15, undef), (16, undef), (17, undef), (18, (.bool false)), (21, (.int .i64 ((k : Nat) : Int))), (22, (.slice (some ⟨b, o, none⟩) (l.length) (c))), (23, (.int .i64 ((l.length : Nat) : Int))), (24, (.bool (decide (((k : Nat) : Int) < ((l.length : Nat) : Int))))), (25, (.bool true)), (26, (.slice (some ⟨b, o, none⟩) (l.length) (c))), (27, (.int .i64 ((k : Nat) : Int))), (28, (.pointer (some ⟨b, o + k, none⟩))), (29, (.string (strOf x))), (30, (.string (strOf p))), (31, (.bool (decide (x = p)))), (32, (.bool (decide (x = p)))), (35, (.slice (some ⟨b, o, none⟩) (l.length) (c))), (36, (.int .i64 ((k : Nat) : Int))), (37, (.slice (some ⟨b, o, none⟩) (k) (c))), (39, (.string (strOf p))), (42, (.slice (some ⟨b, o, none⟩) (l.length) (c))), (43, (.int .i64 ((k : Nat) : Int))), (44, (.slice (if c = k then (some ⟨b, o, none⟩) else ((some ⟨b, o, none⟩) : Option Addr).map (·.add (k * 1))) (l.length - k) (c - k))), (34, (.slice (some ⟨b34, 0, none⟩) (0) (0))), (38, (.slice A38 (k) (c38))), (40, (.slice (some ⟨b40, 0, none⟩) (1) (1))), (41, (.slice A41 (k + 1) (c41))), (45, (.slice A45 (l.length + 1) (c45))), (4, (.slice A45 (l.length + 1) (c45))), (5, (.bool false))] [cOwn 9 1 A45 (l.length + 1) (c45) ((insL l p).map S8v), cAt b40 9 [(.string (strOf p))]] _
        refine stRet ?_
        refine stEnd [(.slice A45 (l.length + 1) (c45)), (.bool false)] rfl ⟨rfl, rfl, trivial⟩ (fun w hM => ?_)
        exact ⟨A45, c45, rfl, (fun (w : World) (h : Mm _ _ _ w) => Mm.sub h (.cons_cons _ (.cons _ .slnil))) w hM⟩
    · have hd25 := of_decide_eq_false hc25
      refine liNot (b := false) rfl rfl (by kernel_rfl) rfl ?_
      refine liNot (b := false) rfl rfl (by kernel_rfl) rfl ?_
      refine liNot (b := false) rfl rfl (by kernel_rfl) rfl ?_
      refine liNot (b := false) rfl rfl (by kernel_rfl) rfl ?_
      refine liNot (b := false) rfl rfl (by kernel_rfl) rfl ?_
      refine liNot (b := false) rfl rfl (by kernel_rfl) rfl ?_
      refine li rfl (opVal (.bool false) rfl (by kernel_rfl) (rClosed fun _ => by kernel_rfl) ?_)
      refine liNil ?_
      refine qThen ?_
      refine stFalse rfl ?_
      refine stSkip ?_
      refine qThen ?_
      refine stCut (ι := Nat × Option Addr × Nat × Nat × Option Addr × Nat × Option Addr × Nat) (fun _ => True) (fun (b34, A38, c38, b40, A41, c41, A45, c45) => [(0, (.slice A (l.length) (c))), (1, (.string (strOf p))), (6, (.int .i64 ((k : Nat) : Int))), (7, (.int .i64 ((k : Nat) : Int))), (8, (.slice A (l.length) (c))), (9, (.int .i64 ((l.length : Nat) : Int))), (10, (.bool (decide (((k : Nat) : Int) < ((l.length : Nat) : Int))))), (11, (.bool false)), (12, undef), (13, undef), (14, undef), (15, undef), (16, undef), (17, undef), (18, (.bool false)), (21, (.int .i64 ((k : Nat) : Int))), (22, (.slice A (l.length) (c))), (23, (.int .i64 ((l.length : Nat) : Int))), (24, (.bool (decide (((k : Nat) : Int) < ((l.length : Nat) : Int))))), (25, (.bool false)), (26, undef), (27, undef), (28, undef), (29, undef), (30, undef), (31, undef), (32, (.bool false)), (35, (.slice A (l.length) (c))), (36, (.int .i64 ((k : Nat) : Int))), (37, (.slice A (k) (c))), (39, (.string (strOf p))), (42, (.slice A (l.length) (c))), (43, (.int .i64 ((k : Nat) : Int))), (44, (.slice (if c = k then A else (A : Option Addr).map (·.add (k * 1))) (l.length - k) (c - k))), (34, (.slice (some ⟨b34, 0, none⟩) (0) (0))), (38, (.slice A38 (k) (c38))), (40, (.slice (some ⟨b40, 0, none⟩) (1) (1))), (41, (.slice A41 (k + 1) (c41))), (45, (.slice A45 (l.length + 1) (c45))), (4, (.slice A45 (l.length + 1) (c45))), (5, (.bool false))]) (fun (b34, A38, c38, b40, A41, c41, A45, c45) => [cOwn 9 1 A45 (l.length + 1) (c45) ((insL l p).map S8v), cAt b40 9 [(.string (strOf p))]]) ?_ ?_
      · refine anyBegin [] 14 (by kernel_rfl) (fun _ h => h) ?_
        refine anyVal (i := 1) (.slice A (l.length) (c)) rfl rfl rfl (by kernel_rfl) (by kernel_rfl) (fun _ _ _ h => h) (rMove rfl rfl) ?_
        refine anyVal (i := 2) (.int .i64 ((k : Nat) : Int)) rfl rfl rfl (by kernel_rfl) (by kernel_rfl) (fun _ _ _ h => h) (rMove rfl rfl) ?_
        refine anyVal (i := 3) (.slice A (k) (c)) rfl rfl rfl (by kernel_rfl) (by kernel_rfl) (fun _ _ _ h => h) (rSliceHi (e := 9) rfl (by kernel_rfl) (by kernel_rfl) rfl rfl (by omega)) ?_
        refine anyVal (i := 5) (.string (strOf p)) rfl rfl rfl (by kernel_rfl) (by kernel_rfl) (fun _ _ _ h => h) (rMove rfl rfl) ?_
        refine anyVal (i := 8) (.slice A (l.length) (c)) rfl rfl rfl (by kernel_rfl) (by kernel_rfl) (fun _ _ _ h => h) (rMove rfl rfl) ?_
        refine anyVal (i := 9) (.int .i64 ((k : Nat) : Int)) rfl rfl rfl (by kernel_rfl) (by kernel_rfl) (fun _ _ _ h => h) (rMove rfl rfl) ?_
        refine anyVal (i := 10) (.slice (if c = k then A else (A : Option Addr).map (·.add (k * 1))) (l.length - k) (c - k)) rfl rfl rfl (by kernel_rfl) (by kernel_rfl) (fun _ _ _ h => h) (rSliceLo (e := 9) (sz := 1) rfl (by kernel_rfl) (by kernel_rfl) rfl rfl (by omega)) ?_
        refine anyTwo (i := 0) (j := 6) (by kernel_rfl) rfl rfl rfl rfl ?_ ?_
        · refine opNew (v := fun b => .slice (some ⟨b, 0, none⟩) 0 0) 9 [] rfl (by kernel_rfl) (fun _ => by kernel_rfl) (fun b34 => ?_)
          refine anyNext [] (fun _ h => h) (fun _ h => h.sub (.cons _ .slnil)) ?_
          refine anyTwo (i := 4) (j := 6) (by kernel_rfl) rfl rfl rfl rfl ?_ ?_
          · refine opAppendAt el_str 0 ((l.map S8v).take k) rfl rfl (by kernel_rfl) rfl rfl rfl (by rw [List.length_take, List.length_map]; omega) (fun w hM => srcTake (HR.out.fr0 hM.fr) k) (S8_one_take l k) (by omega) k rfl ((l.take k).map S8v) (by rw [List.map_take]) (fun A38 c38 => ?_)
            refine anyNext [] (fun _ h => h) (fun _ h => h.sub (.cons _ .slnil)) ?_
            refine anyOne (i := 6) (by kernel_rfl) rfl rfl ?_
            refine opNew (v := fun b => .slice (some ⟨b, 0, none⟩) 1 1) 9 [(.string (strOf p))] rfl (by kernel_rfl) (fun _ => by kernel_rfl) (fun b40 => ?_)
            refine anyNext [cAt b40 9 [(.string (strOf p))]] (fun _ h => h.sub (.cons _ .slnil)) (fun _ h => h.sub (.cons _ (.cons_cons _ .slnil))) ?_
            refine anyOne (i := 7) (by kernel_rfl) rfl rfl ?_
            refine opAppend el_str 0 [S8v p] rfl rfl (by kernel_rfl) rfl rfl rfl rfl (srcAt (i := 1) (off := 0) rfl (fun j v hj => by rw [Nat.zero_add]; exact hj)) (by simp [S8v, Value.oneCell']) (by omega) (k + 1) rfl ((l.take k ++ [p]).map S8v) (by simp) (fun A41 c41 => ?_)
            refine anyNext [cAt b40 9 [(.string (strOf p))]] (fun _ h => h) (fun _ h => h.sub (.cons _ (.cons_cons _ .slnil))) ?_
            refine anyOne (i := 11) (by kernel_rfl) rfl rfl ?_
            refine opAppend el_str 0 ((l.map S8v).drop k) rfl rfl (by kernel_rfl) rfl rfl rfl (by rw [List.length_drop, List.length_map, Nat.mul_one]) (fun w hM => srcDrop (HR.out.fr0 hM.fr) (by rw [List.length_map]; exact hlc)) (S8_one_drop l k) (by omega) (l.length + 1) (by omega) ((insL l p).map S8v) (by unfold insL; rw [← hend]; simp) (fun A45 c45 => ?_)
            refine anyNext [cOwn 9 1 A45 (l.length + 1) (c45) ((insL l p).map S8v), cAt b40 9 [(.string (strOf p))]] (fun _ h => h.sub (.cons _ (.cons_cons _ .slnil))) (fun _ h => h) ?_
            refine anyVal (i := 12) (.slice A45 (l.length + 1) (c45)) rfl rfl rfl (by kernel_rfl) (by kernel_rfl) (fun _ _ _ h => h) (rAssign rfl rfl) ?_
            refine anyVal (i := 13) (.bool false) rfl rfl rfl (by kernel_rfl) (by kernel_rfl) (fun _ _ _ h => h) (rAssign rfl rfl) ?_
            refine anyDone (by kernel_rfl) ?_
            refine qThen ?_
            exact stMeet (b34, A38, c38, b40, A41, c41, A45, c45) trivial ⟨rfl, rfl, rfl, rfl, rfl, rfl, rfl, rfl, rfl, rfl, rfl, rfl, rfl, rfl, rfl, rfl, rfl, rfl, rfl, rfl, rfl, rfl, rfl, rfl, rfl, rfl, rfl, rfl, rfl, rfl, rfl, rfl, rfl, rfl, rfl, rfl, rfl, rfl, rfl, rfl, rfl, trivial⟩ (fun _ h => h)
          · refine opNew (v := fun b => .slice (some ⟨b, 0, none⟩) 1 1) 9 [(.string (strOf p))] rfl (by kernel_rfl) (fun _ => by kernel_rfl) (fun b40 => ?_)
            refine anyNext [cAt b40 9 [(.string (strOf p))]] (fun _ h => h.sub (.cons _ .slnil)) (fun _ h => h.sub (.cons _ (.cons_cons _ .slnil))) ?_
            refine anyOne (i := 4) (by kernel_rfl) rfl rfl ?_
            refine opAppendAt el_str 0 ((l.map S8v).take k) rfl rfl (by kernel_rfl) rfl rfl rfl (by rw [List.length_take, List.length_map]; omega) (fun w hM => srcTake (HR.out.fr0 hM.fr) k) (S8_one_take l k) (by omega) k rfl ((l.take k).map S8v) (by rw [List.map_take]) (fun A38 c38 => ?_)
            refine anyNext [cAt b40 9 [(.string (strOf p))]] (fun _ h => h) (fun _ h => h.sub (.cons _ (.cons_cons _ .slnil))) ?_
            refine anyOne (i := 7) (by kernel_rfl) rfl rfl ?_
            refine opAppend el_str 0 [S8v p] rfl rfl (by kernel_rfl) rfl rfl rfl rfl (srcAt (i := 1) (off := 0) rfl (fun j v hj => by rw [Nat.zero_add]; exact hj)) (by simp [S8v, Value.oneCell']) (by omega) (k + 1) rfl ((l.take k ++ [p]).map S8v) (by simp) (fun A41 c41 => ?_)
            refine anyNext [cAt b40 9 [(.string (strOf p))]] (fun _ h => h) (fun _ h => h.sub (.cons _ (.cons_cons _ .slnil))) ?_
            refine anyOne (i := 11) (by kernel_rfl) rfl rfl ?_
            refine opAppend el_str 0 ((l.map S8v).drop k) rfl rfl (by kernel_rfl) rfl rfl rfl (by rw [List.length_drop, List.length_map, Nat.mul_one]) (fun w hM => srcDrop (HR.out.fr0 hM.fr) (by rw [List.length_map]; exact hlc)) (S8_one_drop l k) (by omega) (l.length + 1) (by omega) ((insL l p).map S8v) (by unfold insL; rw [← hend]; simp) (fun A45 c45 => ?_)
            refine anyNext [cOwn 9 1 A45 (l.length + 1) (c45) ((insL l p).map S8v), cAt b40 9 [(.string (strOf p))]] (fun _ h => h.sub (.cons _ (.cons_cons _ .slnil))) (fun _ h => h) ?_
            refine anyVal (i := 12) (.slice A45 (l.length + 1) (c45)) rfl rfl rfl (by kernel_rfl) (by kernel_rfl) (fun _ _ _ h => h) (rAssign rfl rfl) ?_
            refine anyVal (i := 13) (.bool false) rfl rfl rfl (by kernel_rfl) (by kernel_rfl) (fun _ _ _ h => h) (rAssign rfl rfl) ?_
            refine anyDone (by kernel_rfl) ?_
            refine qThen ?_
            exact stMeet (b34, A38, c38, b40, A41, c41, A45, c45) trivial ⟨rfl, rfl, rfl, rfl, rfl, rfl, rfl, rfl, rfl, rfl, rfl, rfl, rfl, rfl, rfl, rfl, rfl, rfl, rfl, rfl, rfl, rfl, rfl, rfl, rfl, rfl, rfl, rfl, rfl, rfl, rfl, rfl, rfl, rfl, rfl, rfl, rfl, rfl, rfl, rfl, rfl, trivial⟩ (fun _ h => h)
        · refine opNew (v := fun b => .slice (some ⟨b, 0, none⟩) 1 1) 9 [(.string (strOf p))] rfl (by kernel_rfl) (fun _ => by kernel_rfl) (fun b40 => ?_)
          refine anyNext [cAt b40 9 [(.string (strOf p))]] (fun _ h => h.sub (.cons _ .slnil)) (fun _ h => h) ?_
          refine anyOne (i := 0) (by kernel_rfl) rfl rfl ?_
          refine opNew (v := fun b => .slice (some ⟨b, 0, none⟩) 0 0) 9 [] rfl (by kernel_rfl) (fun _ => by kernel_rfl) (fun b34 => ?_)
          refine anyNext [cAt b40 9 [(.string (strOf p))]] (fun _ h => h) (fun _ h => h.sub (.cons_cons _ (.cons _ .slnil))) ?_
          refine anyOne (i := 4) (by kernel_rfl) rfl rfl ?_
          refine opAppendAt el_str 1 ((l.map S8v).take k) rfl rfl (by kernel_rfl) rfl rfl rfl (by rw [List.length_take, List.length_map]; omega) (fun w hM => srcTake (HR.out.fr0 hM.fr) k) (S8_one_take l k) (by omega) k rfl ((l.take k).map S8v) (by rw [List.map_take]) (fun A38 c38 => ?_)
          refine anyNext [cAt b40 9 [(.string (strOf p))]] (fun _ h => h) (fun _ h => h.sub (.cons_cons _ (.cons _ .slnil))) ?_
          refine anyOne (i := 7) (by kernel_rfl) rfl rfl ?_
          refine opAppend el_str 1 [S8v p] rfl rfl (by kernel_rfl) rfl rfl rfl rfl (srcAt (i := 0) (off := 0) rfl (fun j v hj => by rw [Nat.zero_add]; exact hj)) (by simp [S8v, Value.oneCell']) (by omega) (k + 1) rfl ((l.take k ++ [p]).map S8v) (by simp) (fun A41 c41 => ?_)
          refine anyNext [cAt b40 9 [(.string (strOf p))]] (fun _ h => h) (fun _ h => h.sub (.cons_cons _ (.cons _ .slnil))) ?_
          refine anyOne (i := 11) (by kernel_rfl) rfl rfl ?_
          refine opAppend el_str 1 ((l.map S8v).drop k) rfl rfl (by kernel_rfl) rfl rfl rfl (by rw [List.length_drop, List.length_map, Nat.mul_one]) (fun w hM => srcDrop (HR.out.fr0 hM.fr) (by rw [List.length_map]; exact hlc)) (S8_one_drop l k) (by omega) (l.length + 1) (by omega) ((insL l p).map S8v) (by unfold insL; rw [← hend]; simp) (fun A45 c45 => ?_)
          refine anyNext [cAt b40 9 [(.string (strOf p))], cOwn 9 1 A45 (l.length + 1) (c45) ((insL l p).map S8v)] (fun _ h => h.sub (.cons_cons _ (.cons _ .slnil))) (fun _ h => h) ?_
          refine anyVal (i := 12) (.slice A45 (l.length + 1) (c45)) rfl rfl rfl (by kernel_rfl) (by kernel_rfl) (fun _ _ _ h => h) (rAssign rfl rfl) ?_
          refine anyVal (i := 13) (.bool false) rfl rfl rfl (by kernel_rfl) (by kernel_rfl) (fun _ _ _ h => h) (rAssign rfl rfl) ?_
          refine anyDone (by kernel_rfl) ?_
          refine qThen ?_
          exact stMeet (b34, A38, c38, b40, A41, c41, A45, c45) trivial ⟨rfl, rfl, rfl, rfl, rfl, rfl, rfl, rfl, rfl, rfl, rfl, rfl, rfl, rfl, rfl, rfl, rfl, rfl, rfl, rfl, rfl, rfl, rfl, rfl, rfl, rfl, rfl, rfl, rfl, rfl, rfl, rfl, rfl, rfl, rfl, rfl, rfl, rfl, rfl, rfl, rfl, trivial⟩ (fun _ h => h.perm (.swap _ _ _))
      · rintro ⟨b34, A38, c38, b40, A41, c41, A45, c45⟩ -
        show St _ _ _ [(0, (.slice A (l.length) (c))), (1, (.string (strOf p))), (6, (.int .i64 ((k : Nat) : Int))), (7, (.int .i64 ((k : Nat) : Int))), (8, (.slice A (l.length) (c))), (9, (.int .i64 ((l.length : Nat) : Int))), (10, (.bool (decide (((k : Nat) : Int) < ((l.length : Nat) : Int))))), (11, (.bool false)), (12, undef), (13, undef), (14, undef), (15, undef), (16, undef), (17, undef), (18, (.bool false)), (21, (.int .i64 ((k : Nat) : Int))), (22, (.slice A (l.length) (c))), (23, (.int .i64 ((l.length : Nat) : Int))), (24, (.bool (decide (((k : Nat) : Int) < ((l.length : Nat) : Int))))), (25, (.bool false)), (26, undef), (27, undef), (28, undef), (29, undef), (30, undef), (31, undef), (32, (.bool false)), (35, (.slice A (l.length) (c))), (36, (.int .i64 ((k : Nat) : Int))), (37, (.slice A (k) (c))), (39, (.string (strOf p))), (42, (.slice A (l.length) (c))), (43, (.int .i64 ((k : Nat) : Int))), (44, (.slice (if c = k then A else (A : Option Addr).map (·.add (k * 1))) (l.length - k) (c - k))), (34, (.slice (some ⟨b34, 0, none⟩) (0) (0))), (38, (.slice A38 (k) (c38))), (40, (.slice (some ⟨b40, 0, none⟩) (1) (1))), (41, (.slice A41 (k + 1) (c41))), (45, (.slice A45 (l.length + 1) (c45))), (4, (.slice A45 (l.length + 1) (c45))), (5, (.bool false))] [cOwn 9 1 A45 (l.length + 1) (c45) ((insL l p).map S8v), cAt b40 9 [(.string (strOf p))]] _
        refine stRet ?_
        refine stEnd [(.slice A45 (l.length + 1) (c45)), (.bool false)] rfl ⟨rfl, rfl, trivial⟩ (fun w hM => ?_)
        exact ⟨A45, c45, rfl, (fun (w : World) (h : Mm _ _ _ w) => Mm.sub h (.cons_cons _ (.cons _ .slnil))) w hM⟩

end Go.Proofs.YtnhagokkamobaaaDoor
