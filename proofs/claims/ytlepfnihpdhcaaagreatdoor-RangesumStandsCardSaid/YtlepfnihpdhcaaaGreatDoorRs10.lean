/- rangesum: a message read. -/
import Derived.Test.YtlepfnihpdhcaaaGreatDoorRs9
import Derived.Test.YtlepfnihpdhcaaaGreatDoorRsDec
namespace Go.Proofs.YtlepfnihpdhcaaaGreatDoor
open Go.RowKit
theorem rows_snoc {pvs : List PV} {pv : PV} {L M : List (Option Addr × List Bs)} (h : ∀ p ∈ pvs, ∀ q ∈ p.c.rows, q ∈ L) (k : ∀ q ∈ pv.c.rows, q ∈ M) : ∀ p ∈ pvs ++ [pv], ∀ q ∈ p.c.rows, q ∈ L ++ M := by
  intro p hp q hq
  rcases List.mem_append.1 hp with hp | hp
  · exact List.mem_append_left _ (h p hp q hq)
  · rw [List.mem_singleton.1 hp] at hq
    exact List.mem_append_right _ (k q hq)

set_option maxRecDepth 100000 in
set_option maxHeartbeats 1000000 in
theorem rsDecode_bad (A : Option Addr) (c : Nat) (D : List UInt8) (w : World) (r0 : Rf [] w (fun w => RowIn w A (B8 D))) (hD : D.length ≤ 1048576) (hd : decA D = none) :
    Calls Tryz.prog 40 #[(.slice A (D.length) (c))] w fun e w' => e = .returned (.tuple #[(.slice none 0 0), (.int .i64 3)]) ∧ Back [] w [] w' := by
  refine stEnter (args := [(.slice A (D.length) (c))]) (fps []) Tryz.func40 rfl 74 rfl [(0, (.slice A (D.length) (c)))] ⟨rfl, trivial⟩ [] (Mm.start w []) ?_
  refine stSeq (reg ?_)
  refine la ?_
  refine la ?_
  refine liNil (qThen (stSeq (stSeq (reg ?_))))
  refine lm ?_
  refine lc (.int .i64 ((D.length : Nat) : Int)) ?_
  refine lc (.bool (decide (((D.length : Nat) : Int) > 1048576))) ?_
  refine liNil (qThen ?_)
  refine stFalseK rfl (by have := hD; simp; omega) ?_
  refine stSkip (qThen (stSeq (reg ?_)))
  refine lm ?_
  refine li rfl ?_
  refine opK0 (fun w hM => (rsRNew_any A c D w (r0.go0 hM) (by omega)).mono ?_)
  rintro e w' ⟨X16, br16, rfl, hP⟩
  refine ⟨_, _, rfl, hP, ?_⟩; clear hP hM
  refine la ?_
  refine liNil (qThen (stSeq (reg ?_)))
  refine lm ?_
  refine lm ?_
  refine lc (.int .i64 ((D.length : Nat) : Int)) ?_
  refine li rfl ?_
  refine opK [0] [cRd X16 br16 (Rd.mk D 0 0 0)] (fun w hM hO => (rsRCount_v X16 br16 (Rd.mk D 0 0 0) D.length w hO (by omega)).mono ?_)
  rintro e w' ⟨n20, r220, rfl, hP, heq20⟩
  refine ⟨_, [cRd X16 br16 (r220)], _, rfl, hP, rfl, ?_⟩; clear hP hM hO
  have hnl : n20 ≤ D.length := by have h := (Rd.mk D 0 0 0).cnt_le D.length; rw [heq20] at h; exact h
  refine la ?_
  refine liNil (qThen (stSeq (stSeq ?_)))
  refine St.to [cRd X16 br16 (r220)] (by kernel_rfl) ?_
  refine reg ?_
  refine lm ?_
  refine lc (.bool ((((n20 : Nat) : Int) : Int) == 0)) ?_
  refine liNil (qThen ?_)
  refine stCond rfl (fun hc22 => ?_) (fun hc22 => ?_)
  · refine stSeq (reg ?_)
    refine la ?_
    refine la ?_
    refine liNil (qThen (stRet (qThenR ?_)))
    refine stEnd [(.slice none 0 0), (.int .i64 3)] rfl ⟨rfl, rfl, trivial⟩ (fun w hM => ?_)
    exact ⟨rfl, (fun (w : World) (h : Mm _ _ _ w) => Mm.sub h (.cons _ .slnil)) w hM⟩
  · have hn0 : ¬ n20 = 0 := eqb_no hc22
    refine stSkip (qThen (stSeq (reg ?_)))
    refine la ?_
    refine liNil (qThen (stSeq (stSeq (reg ?_))))
    refine lm ?_
    refine lm ?_
    refine liNil (qThen (stBlock ?_))
    refine St.mem (fun w hM => hM.nilOwn 76 3) ?_
    refine St.mem (fun w hM => Mm.noBag hM) ?_
    refine stLoop (ι := Nat × Option Addr × Nat × List PV × Rd × List (Option Addr × List (List UInt8))) (fun (i, RX, rcX, pvs, rX, LX) => i ≤ n20 ∧ r220.parts i = (some (pvs.map PV.abs), rX) ∧ ∀ p ∈ pvs, ∀ q ∈ p.c.rows, q ∈ LX) (fun (i, RX, rcX, pvs, rX, LX) => n20 - i) (fun (i, RX, rcX, pvs, rX, LX) => [(2, (.slice none 0 0)), (3, (.int .i64 0)), (4, (.pointer (some ⟨br16, 0, none⟩))), (23, (.int .i64 ((n20 : Nat) : Int))), (6, (.slice RX ((pvs).length) (rcX))), (24, (.int .i64 ((i : Nat) : Int)))]) (fun (i, RX, rcX, pvs, rX, LX) => [cRd X16 br16 (rX), cOwn 76 3 RX ((pvs).length) (rcX) (PS (pvs)), cBag (LX)]) (0, none, 0, [], r220, []) ⟨Nat.zero_le _, rfl, fun p hp => by cases hp⟩ ⟨rfl, rfl, rfl, rfl, rfl, rfl, trivial⟩ (fun w hM => by show Mm _ _ [cRd X16 br16 (r220), cOwn 76 3 none (([]).length) (0) (PS ([])), cBag ([])] w; exact hM) ?_
    rintro ⟨i, RX, rcX, pvs, rX, LX⟩ ⟨hi, hpt, hrows⟩
    show St _ _ _ [(2, (.slice none 0 0)), (3, (.int .i64 0)), (4, (.pointer (some ⟨br16, 0, none⟩))), (23, (.int .i64 ((n20 : Nat) : Int))), (6, (.slice RX ((pvs).length) (rcX))), (24, (.int .i64 ((i : Nat) : Int)))] [cRd X16 br16 (rX), cOwn 76 3 RX ((pvs).length) (rcX) (PS (pvs)), cBag (LX)] _
    refine stSeq (reg ?_)
    refine lc (.bool (decide (((i : Nat) : Int) < ((n20 : Nat) : Int)))) ?_
    refine liNil (qThen (stSeq ?_))
    refine stCond rfl (fun hc25 => ?_) (fun hc25 => ?_)
    · have hd25 := of_decide_eq_true hc25
      have hlt : i < n20 := by omega
      have hpl : pvs.length = i := by have h := Rd.parts_len hpt; simpa using h
      refine stSkip (qThen (stSeq (stBlock (stSeq (reg ?_)))))
      refine lm ?_
      refine la ?_
      refine liNil (qThen (stSeq (reg ?_)))
      refine lm ?_
      refine li rfl ?_
      refine opK [0] [cRd X16 br16 (rX)] (fun w hM hO => (rsRPart_any X16 br16 rX w hO).mono ?_)
      rintro e w' ⟨cl29, L29, o29, r229, rfl, hP, heq29, hhl29, hhv29⟩
      refine ⟨_, [cRd X16 br16 (r229)], _, rfl, hP, rfl, ?_⟩; clear hP hM hO
      refine lm ?_
      refine lc (.agg (cl29).toArray) ?_
      refine lc (.bool o29.isSome) ?_
      refine li rfl ?_
      refine opAlloc [(.string ⟨#[]⟩), (.string ⟨#[]⟩), .nilIface] rfl rfl (by kernel_rfl) (by kernel_rfl) (fun b8 => ?_)
      refine li rfl ?_
      refine opStoreN 4 (cl29) (vs := cl29) rfl rfl (by kernel_rfl) rfl rfl rfl (by rw [hhl29.1]; kernel_rfl) rfl (by rw [hhl29.1]; decide) hhl29.2 (by rw [hhl29.1]; simp) ?_
      refine la ?_
      refine liNil (qThen (stSeq (stSeq ?_)))
      cases hfk : o29.isSome with
      | true =>
        obtain ⟨p29, rfl⟩ := Option.isSome_iff_exists.1 hfk
        obtain ⟨pv, rfl, hab, hrw⟩ := hhv29 p29 rfl
        refine St.to [cRd X16 br16 (r229), cOwn 76 3 RX ((pvs).length) (rcX) (PS (pvs)), cBag (LX), cBag (L29), cAt b8 76 [(.string (strOf pv.lo)), (.string (strOf pv.hi)), pv.c.val]] (by kernel_rfl) ?_
        refine anyBegin [cRd X16 br16 (r229), cOwn 76 3 RX ((pvs).length) (rcX) (PS (pvs)), cBag (LX), cBag (L29), cAt b8 76 [(.string (strOf pv.lo)), (.string (strOf pv.hi)), pv.c.val]] 29 (by kernel_rfl) (fun _ h => h) ?_
        refine am 0 ?_
        refine ac 1 (.bool false) ?_
        refine am 2 ?_
        refine agm 3 ?_
        refine agc 4 (.bool (decide (((i : Nat) : Int) > 0))) ?_
        refine agm 5 ?_
        refine Any.dec 37 rfl (fun hc37 => ?_) (fun hc37 => ?_)
        · have hd37 := of_decide_eq_true hc37
          have hip : 0 < i := by omega
          refine agm 6 ?_
          refine agm 7 ?_
          refine agv 8 (.int .i64 (((i - 1) : Nat) : Int)) rfl (rSub _ rfl rfl rfl (by omega) (by omega) (by omega)) ?_
          obtain ⟨x0, hx0⟩ : ∃ ξ, (pvs)[i - 1]? = some ξ := ⟨_, List.getElem?_eq_getElem (by omega)⟩
          refine Any.partPtr (fun w hM => rowOwn3 (i := 1) rfl w hM) hx0 (fun p41 q41 hA41 hc41 => ?_)
          refine agv 9 (.pointer (some ⟨p41, q41 + (i - 1) * 3, none⟩)) rfl (rIndexRow3 (e := 76) rfl (by kernel_rfl) (by kernel_rfl) rfl rfl hA41 (by omega)) ?_
          refine agc 10 (.pointer (some ⟨p41, q41 + (i - 1) * 3, none⟩)) ?_
          refine agc 11 (.pointer (some ⟨p41, q41 + (i - 1) * 3 + 1, none⟩)) ?_
          refine agv 12 (.string (strOf x0.hi)) rfl (rLoadW rfl rfl (by kernel_rfl) (fun w hM => hc41 w hM 1 _ rfl)) ?_
          refine agv 13 (.bool (decide (x0.hi = []))) rfl (rStrEq rfl rfl rfl) ?_
          refine agm 14 ?_
          refine Any.dec 46 rfl (fun hc46 => ?_) (fun hc46 => ?_)
          · have hd46 := of_decide_eq_true hc46
            refine anT 15 ?_
            refine anT 16 ?_
            refine anT 17 ?_
            refine anT 18 ?_
            refine anT 19 ?_
            refine anT 20 ?_
            refine anT 21 ?_
            refine anT 22 ?_
            refine anT 23 ?_
            refine anT 24 ?_
            refine anT 25 ?_
            refine agc 26 (.bool true) ?_
            refine agc 27 (.bool true) ?_
            refine ac 28 (.bool true) ?_
            refine anyDone (by kernel_rfl) ?_
            refine qThen (stTrue rfl (stSeq (reg ?_)))
            refine la ?_
            refine la ?_
            refine liNil (qThen (stRet (qThenR (qBlockR (qThenR (qThenR (qBlockR (qThenR ?_))))))))
            refine stEnd [(.slice none 0 0), (.int .i64 3)] rfl ⟨rfl, rfl, trivial⟩ (fun w hM => ?_)
            exact ⟨rfl, (fun (w : World) (h : Mm _ _ _ w) => Mm.sub h (.cons _ (.cons _ (.cons _ (.cons _ (.cons _ .slnil)))))) w hM⟩
          · have hd46 := of_decide_eq_false hc46
            refine agm 15 ?_
            refine agm 16 ?_
            refine agv 17 (.int .i64 (((i - 1) : Nat) : Int)) rfl (rSub _ rfl rfl rfl (by omega) (by omega) (by omega)) ?_
            refine Any.partPtr (fun w hM => rowOwn3 (i := 1) rfl w hM) hx0 (fun p50 q50 hA50 hc50 => ?_)
            refine agv 18 (.pointer (some ⟨p50, q50 + (i - 1) * 3, none⟩)) rfl (rIndexRow3 (e := 76) rfl (by kernel_rfl) (by kernel_rfl) rfl rfl hA50 (by omega)) ?_
            refine agc 19 (.pointer (some ⟨p50, q50 + (i - 1) * 3, none⟩)) ?_
            refine agc 20 (.pointer (some ⟨p50, q50 + (i - 1) * 3 + 1, none⟩)) ?_
            refine agv 21 (.string (strOf x0.hi)) rfl (rLoadW rfl rfl (by kernel_rfl) (fun w hM => hc50 w hM 1 _ rfl)) ?_
            refine agc 22 (.pointer (some ⟨b8, 0, none⟩)) ?_
            refine agc 23 (.pointer (some ⟨b8, 0, none⟩)) ?_
            refine agv 24 (.string (strOf pv.lo)) rfl (rLoad 4 rfl rfl (by kernel_rfl) rfl rfl) ?_
            refine agv 25 (.bool (!(decide (x0.hi < pv.lo) || decide (x0.hi = pv.lo)))) rfl (rStrGt rfl rfl rfl) ?_
            refine agc 26 (.bool (!(decide (x0.hi < pv.lo) || decide (x0.hi = pv.lo)))) ?_
            refine agc 27 (.bool (!(decide (x0.hi < pv.lo) || decide (x0.hi = pv.lo)))) ?_
            refine ac 28 (.bool (!(decide (x0.hi < pv.lo) || decide (x0.hi = pv.lo)))) ?_
            refine anyDone (by kernel_rfl) ?_
            refine qThen ?_
            refine stCond rfl (fun hc60 => ?_) (fun hc60 => ?_)
            · refine stSeq (reg ?_)
              refine la ?_
              refine la ?_
              refine liNil (qThen (stRet (qThenR (qBlockR (qThenR (qThenR (qBlockR (qThenR ?_))))))))
              refine stEnd [(.slice none 0 0), (.int .i64 3)] rfl ⟨rfl, rfl, trivial⟩ (fun w hM => ?_)
              exact ⟨rfl, (fun (w : World) (h : Mm _ _ _ w) => Mm.sub h (.cons _ (.cons _ (.cons _ (.cons _ (.cons _ .slnil)))))) w hM⟩
            · have hfo : follows (pvs.map PV.abs) p29 = true := by rw [(follows_at (i := i - 1) (q := x0.abs) (by rw [List.getElem?_map, hx0]; rfl) (by rw [List.length_map]; omega))]; rw [gtr_iff] at hc60; rw [← hab]; have e := of_decide_eq_false hc46; have e2 := of_decide_eq_false hc60; simp [PV.abs, e, e2]
              refine stSkip (qThen (reg ?_))
              refine lm ?_
              refine lv (v := (.agg #[(.string (strOf pv.lo)), (.string (strOf pv.hi)), pv.c.val])) (rLoadA [(.string (strOf pv.lo)), (.string (strOf pv.hi)), pv.c.val] rfl rfl (by kernel_rfl) (by kernel_rfl) (segAt (i := 4) rfl (by intro j v hj; first | (rw [Nat.zero_add]; exact hj) | (match j, hj with | 0, h => exact h | 1, h => exact h | 2, h => exact h)))) ?_
              refine li rfl ?_
              refine opNew (v := fun b => .slice (some ⟨b, 0, none⟩) 1 1) 76 [(.string (strOf pv.lo)), (.string (strOf pv.hi)), pv.c.val] rfl (by kernel_rfl) (fun _ => by kernel_rfl) (fun b63 => ?_)
              refine li rfl ?_
              refine opAppend el_part 1 ([(.string (strOf pv.lo)), (.string (strOf pv.hi)), pv.c.val]) rfl rfl (by kernel_rfl) rfl rfl rfl (rfl) (srcAt (i := 5) rfl (fun j v h => by rw [Nat.zero_add]; exact h)) (PV.one pv) (by omega) ((pvs ++ [pv]).length) (by first | exact (List.length_append ..).symm | (simp; done) | (simp; omega)) (PS (pvs ++ [pv])) ((PS_append _ ([pv])).symm) (fun A64 c64 => ?_)
              refine la ?_
              refine liNil (qBlock (qThen ?_))
              refine St.to [cRd X16 br16 (r229), cOwn 76 3 A64 ((pvs ++ [pv]).length) (c64) (PS (pvs ++ [pv])), cBag (LX), cBag (L29), cAt b8 76 [(.string (strOf pv.lo)), (.string (strOf pv.hi)), pv.c.val], cAt b63 76 [(.string (strOf pv.lo)), (.string (strOf pv.hi)), pv.c.val]] (by kernel_rfl) ?_
              refine reg ?_
              refine lv (v := (.int .i64 ((i + 1 : Nat) : Int))) (rAdd _ rfl rfl rfl (by omega) (by omega) (by omega)) ?_
              refine lm ?_
              refine liNil (qThen ?_)
              exact stAgain (i + 1, A64, c64, pvs ++ [pv], r229, LX ++ L29) (⟨by omega, by rw [Rd.parts_some hpt heq29 hfo, ← hab, List.map_append]; rfl, rows_snoc hrows hrw⟩) (by show n20 - (i + 1) < n20 - i; omega) ⟨rfl, rfl, rfl, rfl, rfl, rfl, trivial⟩ (fun w hM => by show Mm _ _ [cRd X16 br16 (r229), cOwn 76 3 A64 ((pvs ++ [pv]).length) (c64) (PS (pvs ++ [pv])), cBag (LX ++ L29)] w; exact Mm.join (cs := [cRd X16 br16 (r229), cOwn 76 3 A64 ((pvs ++ [pv]).length) (c64) (PS (pvs ++ [pv]))]) (L := LX) (M := L29) ((fun (w : World) (h : Mm _ _ _ w) => Mm.sub h (.cons_cons _ (.cons_cons _ (.cons_cons _ (.cons_cons _ (.cons _ (.cons _ .slnil))))))) w hM))
        · have hd37 := of_decide_eq_false hc37
          have hi0 : i = 0 := by omega
          have hfo : follows (pvs.map PV.abs) p29 = true := by rw [List.eq_nil_of_length_eq_zero (hpl.trans hi0)]; rfl
          refine anF 6 ?_
          refine anF 7 ?_
          refine anF 8 ?_
          refine anF 9 ?_
          refine anF 10 ?_
          refine anF 11 ?_
          refine anF 12 ?_
          refine anF 13 ?_
          refine anF 14 ?_
          refine anU 15 ?_
          refine anU 16 ?_
          refine anU 17 ?_
          refine anU 18 ?_
          refine anU 19 ?_
          refine anU 20 ?_
          refine anU 21 ?_
          refine anU 22 ?_
          refine anU 23 ?_
          refine anU 24 ?_
          refine anU 25 ?_
          refine anF 26 ?_
          refine agc 27 (.bool false) ?_
          refine ac 28 (.bool false) ?_
          refine anyDone (by kernel_rfl) ?_
          refine qThen (stFalse rfl (stSkip (qThen (reg ?_))))
          refine lm ?_
          refine lv (v := (.agg #[(.string (strOf pv.lo)), (.string (strOf pv.hi)), pv.c.val])) (rLoadA [(.string (strOf pv.lo)), (.string (strOf pv.hi)), pv.c.val] rfl rfl (by kernel_rfl) (by kernel_rfl) (segAt (i := 4) rfl (by intro j v hj; first | (rw [Nat.zero_add]; exact hj) | (match j, hj with | 0, h => exact h | 1, h => exact h | 2, h => exact h)))) ?_
          refine li rfl ?_
          refine opNew (v := fun b => .slice (some ⟨b, 0, none⟩) 1 1) 76 [(.string (strOf pv.lo)), (.string (strOf pv.hi)), pv.c.val] rfl (by kernel_rfl) (fun _ => by kernel_rfl) (fun b63 => ?_)
          refine li rfl ?_
          refine opAppend el_part 1 ([(.string (strOf pv.lo)), (.string (strOf pv.hi)), pv.c.val]) rfl rfl (by kernel_rfl) rfl rfl rfl (rfl) (srcAt (i := 5) rfl (fun j v h => by rw [Nat.zero_add]; exact h)) (PV.one pv) (by omega) ((pvs ++ [pv]).length) (by first | exact (List.length_append ..).symm | (simp; done) | (simp; omega)) (PS (pvs ++ [pv])) ((PS_append _ ([pv])).symm) (fun A64 c64 => ?_)
          refine la ?_
          refine liNil (qBlock (qThen ?_))
          refine St.to [cRd X16 br16 (r229), cOwn 76 3 A64 ((pvs ++ [pv]).length) (c64) (PS (pvs ++ [pv])), cBag (LX), cBag (L29), cAt b8 76 [(.string (strOf pv.lo)), (.string (strOf pv.hi)), pv.c.val], cAt b63 76 [(.string (strOf pv.lo)), (.string (strOf pv.hi)), pv.c.val]] (by kernel_rfl) ?_
          refine reg ?_
          refine lv (v := (.int .i64 ((i + 1 : Nat) : Int))) (rAdd _ rfl rfl rfl (by omega) (by omega) (by omega)) ?_
          refine lm ?_
          refine liNil (qThen ?_)
          exact stAgain (i + 1, A64, c64, pvs ++ [pv], r229, LX ++ L29) (⟨by omega, by rw [Rd.parts_some hpt heq29 hfo, ← hab, List.map_append]; rfl, rows_snoc hrows hrw⟩) (by show n20 - (i + 1) < n20 - i; omega) ⟨rfl, rfl, rfl, rfl, rfl, rfl, trivial⟩ (fun w hM => by show Mm _ _ [cRd X16 br16 (r229), cOwn 76 3 A64 ((pvs ++ [pv]).length) (c64) (PS (pvs ++ [pv])), cBag (LX ++ L29)] w; exact Mm.join (cs := [cRd X16 br16 (r229), cOwn 76 3 A64 ((pvs ++ [pv]).length) (c64) (PS (pvs ++ [pv]))]) (L := LX) (M := L29) ((fun (w : World) (h : Mm _ _ _ w) => Mm.sub h (.cons_cons _ (.cons_cons _ (.cons_cons _ (.cons_cons _ (.cons _ (.cons _ .slnil))))))) w hM))
      | false =>
        obtain rfl : o29 = none := by cases o29 with | none => rfl | some _ => cases hfk
        refine anyBegin [cRd X16 br16 (r229), cOwn 76 3 RX ((pvs).length) (rcX) (PS (pvs)), cBag (LX), cBag (L29), cAt b8 76 (cl29)] 29 (by kernel_rfl) (fun _ h => h) ?_
        refine am 0 ?_
        refine ac 1 (.bool true) ?_
        refine am 2 ?_
        refine anT 3 ?_
        refine anT 4 ?_
        refine anT 5 ?_
        refine anU 6 ?_
        refine anU 7 ?_
        refine anU 8 ?_
        refine anU 9 ?_
        refine anU 10 ?_
        refine anU 11 ?_
        refine anU 12 ?_
        refine anU 13 ?_
        refine anU 14 ?_
        refine anU 15 ?_
        refine anU 16 ?_
        refine anU 17 ?_
        refine anU 18 ?_
        refine anU 19 ?_
        refine anU 20 ?_
        refine anU 21 ?_
        refine anU 22 ?_
        refine anU 23 ?_
        refine anU 24 ?_
        refine anU 25 ?_
        refine anU 26 ?_
        refine anT 27 ?_
        refine ac 28 (.bool true) ?_
        refine anyDone (by kernel_rfl) ?_
        refine qThen (stTrue rfl (stSeq (reg ?_)))
        refine la ?_
        refine la ?_
        refine liNil (qThen (stRet (qThenR (qBlockR (qThenR (qThenR (qBlockR (qThenR ?_))))))))
        refine stEnd [(.slice none 0 0), (.int .i64 3)] rfl ⟨rfl, rfl, trivial⟩ (fun w hM => ?_)
        exact ⟨rfl, (fun (w : World) (h : Mm _ _ _ w) => Mm.sub h (.cons _ (.cons _ (.cons _ (.cons _ (.cons _ .slnil)))))) w hM⟩
    · have hd25 := of_decide_eq_false hc25
      obtain rfl : i = n20 := by omega
      refine stExit (qThenX (qThenX (qBlockX (qThen (stSeq (stSeq (reg ?_)))))))
      refine lm ?_
      refine li rfl ?_
      refine opK [0] [cRd X16 br16 (rX)] (fun w hM hO => (rsREnd_any X16 br16 rX w hO).mono ?_)
      rintro e w' ⟨rfl, hP⟩
      refine ⟨_, [cRd X16 br16 (rX)], _, rfl, hP, rfl, ?_⟩; clear hP hM hO
      refine lm ?_
      refine lc (.int .i64 ((rX.off : Nat) : Int)) ?_
      refine lc (.int .i64 rX.end_) ?_
      refine la ?_
      refine la ?_
      refine liNil (qThen (stSeq (reg ?_)))
      refine lm ?_
      refine lc (.bool ((rX.end_ : Int) != 0)) ?_
      refine liNil (qThen ?_)
      refine stCond rfl (fun hc72 => ?_) (fun hc72 => ?_)
      · refine stSeq (reg ?_)
        refine la ?_
        refine la ?_
        refine liNil (qThen (stRet (qThenR ?_)))
        refine stEnd [(.slice none 0 0), (.int .i64 3)] rfl ⟨rfl, rfl, trivial⟩ (fun w hM => ?_)
        exact ⟨rfl, (fun (w : World) (h : Mm _ _ _ w) => Mm.sub h (.cons _ (.cons _ (.cons _ .slnil)))) w hM⟩
      · have hok : decA D = some (pvs.map PV.abs) := decA_ok heq20 hn0 hpt (by simpa using hc72)
        refine stSkip (qThen (stSeq (reg ?_)))
        refine lm ?_
        refine la ?_
        refine la ?_
        refine liNil (qThen (stRet ?_))
        refine stEnd [(.slice RX ((pvs).length) (rcX)), (.int .i64 0)] rfl ⟨rfl, rfl, trivial⟩ (fun w hM => ?_)
        exact absurd (hok.symm.trans hd) (by simp)

set_option maxRecDepth 100000 in
set_option maxHeartbeats 1000000 in
theorem rsDecode_ok (A : Option Addr) (c : Nat) (D : List UInt8) (ps : List AP) (w : World) (r0 : Rf [] w (fun w => RowIn w A (B8 D))) (hD : D.length ≤ 1048576) (hd : decA D = some ps) :
    Calls Tryz.prog 40 #[(.slice A (D.length) (c))] w fun e w' => ∃ (R : Option Addr) (rc : Nat) (pvs : List PV) (L : List (Option Addr × List (List UInt8))), e = .returned (.tuple #[(.slice R ((pvs).length) (rc)), (.int .i64 0)]) ∧ Back [] w [cOwn 76 3 R ((pvs).length) (rc) (PS (pvs)), cBag (L)] w' ∧ (pvs.map PV.abs = ps) ∧ (∀ p ∈ pvs, ∀ q ∈ p.c.rows, q ∈ L) := by
  refine stEnter (args := [(.slice A (D.length) (c))]) (fps []) Tryz.func40 rfl 74 rfl [(0, (.slice A (D.length) (c)))] ⟨rfl, trivial⟩ [] (Mm.start w []) ?_
  refine stSeq (reg ?_)
  refine la ?_
  refine la ?_
  refine liNil (qThen (stSeq (stSeq (reg ?_))))
  refine lm ?_
  refine lc (.int .i64 ((D.length : Nat) : Int)) ?_
  refine lc (.bool (decide (((D.length : Nat) : Int) > 1048576))) ?_
  refine liNil (qThen ?_)
  refine stFalseK rfl (by have := hD; simp; omega) ?_
  refine stSkip (qThen (stSeq (reg ?_)))
  refine lm ?_
  refine li rfl ?_
  refine opK0 (fun w hM => (rsRNew_any A c D w (r0.go0 hM) (by omega)).mono ?_)
  rintro e w' ⟨X16, br16, rfl, hP⟩
  refine ⟨_, _, rfl, hP, ?_⟩; clear hP hM
  refine la ?_
  refine liNil (qThen (stSeq (reg ?_)))
  refine lm ?_
  refine lm ?_
  refine lc (.int .i64 ((D.length : Nat) : Int)) ?_
  refine li rfl ?_
  refine opK [0] [cRd X16 br16 (Rd.mk D 0 0 0)] (fun w hM hO => (rsRCount_v X16 br16 (Rd.mk D 0 0 0) D.length w hO (by omega)).mono ?_)
  rintro e w' ⟨n20, r220, rfl, hP, heq20⟩
  refine ⟨_, [cRd X16 br16 (r220)], _, rfl, hP, rfl, ?_⟩; clear hP hM hO
  have hnl : n20 ≤ D.length := by have h := (Rd.mk D 0 0 0).cnt_le D.length; rw [heq20] at h; exact h
  refine la ?_
  refine liNil (qThen (stSeq (stSeq ?_)))
  refine St.to [cRd X16 br16 (r220)] (by kernel_rfl) ?_
  refine reg ?_
  refine lm ?_
  refine lc (.bool ((((n20 : Nat) : Int) : Int) == 0)) ?_
  refine liNil (qThen ?_)
  refine stCond rfl (fun hc22 => ?_) (fun hc22 => ?_)
  · refine stSeq (reg ?_)
    refine la ?_
    refine la ?_
    refine liNil (qThen (stRet (qThenR ?_)))
    refine stEnd [(.slice none 0 0), (.int .i64 3)] rfl ⟨rfl, rfl, trivial⟩ (fun w hM => ?_)
    exact absurd ((decA_zero heq20 (eqb_yes hc22)).symm.trans hd) (by simp)
  · have hn0 : ¬ n20 = 0 := eqb_no hc22
    refine stSkip (qThen (stSeq (reg ?_)))
    refine la ?_
    refine liNil (qThen (stSeq (stSeq (reg ?_))))
    refine lm ?_
    refine lm ?_
    refine liNil (qThen (stBlock ?_))
    refine St.mem (fun w hM => hM.nilOwn 76 3) ?_
    refine St.mem (fun w hM => Mm.noBag hM) ?_
    refine stLoop (ι := Nat × Option Addr × Nat × List PV × Rd × List (Option Addr × List (List UInt8))) (fun (i, RX, rcX, pvs, rX, LX) => i ≤ n20 ∧ r220.parts i = (some (pvs.map PV.abs), rX) ∧ ∀ p ∈ pvs, ∀ q ∈ p.c.rows, q ∈ LX) (fun (i, RX, rcX, pvs, rX, LX) => n20 - i) (fun (i, RX, rcX, pvs, rX, LX) => [(2, (.slice none 0 0)), (3, (.int .i64 0)), (4, (.pointer (some ⟨br16, 0, none⟩))), (23, (.int .i64 ((n20 : Nat) : Int))), (6, (.slice RX ((pvs).length) (rcX))), (24, (.int .i64 ((i : Nat) : Int)))]) (fun (i, RX, rcX, pvs, rX, LX) => [cRd X16 br16 (rX), cOwn 76 3 RX ((pvs).length) (rcX) (PS (pvs)), cBag (LX)]) (0, none, 0, [], r220, []) ⟨Nat.zero_le _, rfl, fun p hp => by cases hp⟩ ⟨rfl, rfl, rfl, rfl, rfl, rfl, trivial⟩ (fun w hM => by show Mm _ _ [cRd X16 br16 (r220), cOwn 76 3 none (([]).length) (0) (PS ([])), cBag ([])] w; exact hM) ?_
    rintro ⟨i, RX, rcX, pvs, rX, LX⟩ ⟨hi, hpt, hrows⟩
    show St _ _ _ [(2, (.slice none 0 0)), (3, (.int .i64 0)), (4, (.pointer (some ⟨br16, 0, none⟩))), (23, (.int .i64 ((n20 : Nat) : Int))), (6, (.slice RX ((pvs).length) (rcX))), (24, (.int .i64 ((i : Nat) : Int)))] [cRd X16 br16 (rX), cOwn 76 3 RX ((pvs).length) (rcX) (PS (pvs)), cBag (LX)] _
    refine stSeq (reg ?_)
    refine lc (.bool (decide (((i : Nat) : Int) < ((n20 : Nat) : Int)))) ?_
    refine liNil (qThen (stSeq ?_))
    refine stCond rfl (fun hc25 => ?_) (fun hc25 => ?_)
    · have hd25 := of_decide_eq_true hc25
      have hlt : i < n20 := by omega
      have hpl : pvs.length = i := by have h := Rd.parts_len hpt; simpa using h
      refine stSkip (qThen (stSeq (stBlock (stSeq (reg ?_)))))
      refine lm ?_
      refine la ?_
      refine liNil (qThen (stSeq (reg ?_)))
      refine lm ?_
      refine li rfl ?_
      refine opK [0] [cRd X16 br16 (rX)] (fun w hM hO => (rsRPart_any X16 br16 rX w hO).mono ?_)
      rintro e w' ⟨cl29, L29, o29, r229, rfl, hP, heq29, hhl29, hhv29⟩
      refine ⟨_, [cRd X16 br16 (r229)], _, rfl, hP, rfl, ?_⟩; clear hP hM hO
      refine lm ?_
      refine lc (.agg (cl29).toArray) ?_
      refine lc (.bool o29.isSome) ?_
      refine li rfl ?_
      refine opAlloc [(.string ⟨#[]⟩), (.string ⟨#[]⟩), .nilIface] rfl rfl (by kernel_rfl) (by kernel_rfl) (fun b8 => ?_)
      refine li rfl ?_
      refine opStoreN 4 (cl29) (vs := cl29) rfl rfl (by kernel_rfl) rfl rfl rfl (by rw [hhl29.1]; kernel_rfl) rfl (by rw [hhl29.1]; decide) hhl29.2 (by rw [hhl29.1]; simp) ?_
      refine la ?_
      refine liNil (qThen (stSeq (stSeq ?_)))
      cases hfk : o29.isSome with
      | true =>
        obtain ⟨p29, rfl⟩ := Option.isSome_iff_exists.1 hfk
        obtain ⟨pv, rfl, hab, hrw⟩ := hhv29 p29 rfl
        refine St.to [cRd X16 br16 (r229), cOwn 76 3 RX ((pvs).length) (rcX) (PS (pvs)), cBag (LX), cBag (L29), cAt b8 76 [(.string (strOf pv.lo)), (.string (strOf pv.hi)), pv.c.val]] (by kernel_rfl) ?_
        refine anyBegin [cRd X16 br16 (r229), cOwn 76 3 RX ((pvs).length) (rcX) (PS (pvs)), cBag (LX), cBag (L29), cAt b8 76 [(.string (strOf pv.lo)), (.string (strOf pv.hi)), pv.c.val]] 29 (by kernel_rfl) (fun _ h => h) ?_
        refine am 0 ?_
        refine ac 1 (.bool false) ?_
        refine am 2 ?_
        refine agm 3 ?_
        refine agc 4 (.bool (decide (((i : Nat) : Int) > 0))) ?_
        refine agm 5 ?_
        refine Any.dec 37 rfl (fun hc37 => ?_) (fun hc37 => ?_)
        · have hd37 := of_decide_eq_true hc37
          have hip : 0 < i := by omega
          refine agm 6 ?_
          refine agm 7 ?_
          refine agv 8 (.int .i64 (((i - 1) : Nat) : Int)) rfl (rSub _ rfl rfl rfl (by omega) (by omega) (by omega)) ?_
          obtain ⟨x0, hx0⟩ : ∃ ξ, (pvs)[i - 1]? = some ξ := ⟨_, List.getElem?_eq_getElem (by omega)⟩
          refine Any.partPtr (fun w hM => rowOwn3 (i := 1) rfl w hM) hx0 (fun p41 q41 hA41 hc41 => ?_)
          refine agv 9 (.pointer (some ⟨p41, q41 + (i - 1) * 3, none⟩)) rfl (rIndexRow3 (e := 76) rfl (by kernel_rfl) (by kernel_rfl) rfl rfl hA41 (by omega)) ?_
          refine agc 10 (.pointer (some ⟨p41, q41 + (i - 1) * 3, none⟩)) ?_
          refine agc 11 (.pointer (some ⟨p41, q41 + (i - 1) * 3 + 1, none⟩)) ?_
          refine agv 12 (.string (strOf x0.hi)) rfl (rLoadW rfl rfl (by kernel_rfl) (fun w hM => hc41 w hM 1 _ rfl)) ?_
          refine agv 13 (.bool (decide (x0.hi = []))) rfl (rStrEq rfl rfl rfl) ?_
          refine agm 14 ?_
          refine Any.dec 46 rfl (fun hc46 => ?_) (fun hc46 => ?_)
          · have hd46 := of_decide_eq_true hc46
            refine anT 15 ?_
            refine anT 16 ?_
            refine anT 17 ?_
            refine anT 18 ?_
            refine anT 19 ?_
            refine anT 20 ?_
            refine anT 21 ?_
            refine anT 22 ?_
            refine anT 23 ?_
            refine anT 24 ?_
            refine anT 25 ?_
            refine agc 26 (.bool true) ?_
            refine agc 27 (.bool true) ?_
            refine ac 28 (.bool true) ?_
            refine anyDone (by kernel_rfl) ?_
            refine qThen (stTrue rfl (stSeq (reg ?_)))
            refine la ?_
            refine la ?_
            refine liNil (qThen (stRet (qThenR (qBlockR (qThenR (qThenR (qBlockR (qThenR ?_))))))))
            refine stEnd [(.slice none 0 0), (.int .i64 3)] rfl ⟨rfl, rfl, trivial⟩ (fun w hM => ?_)
            exact absurd ((decA_stop heq20 (i := i + 1) hlt (Rd.parts_gap hpt heq29 (by rw [(follows_at (i := i - 1) (q := x0.abs) (by rw [List.getElem?_map, hx0]; rfl) (by rw [List.length_map]; omega))]; have e := of_decide_eq_true hc46; simp [PV.abs, e]))).symm.trans hd) (by simp)
          · have hd46 := of_decide_eq_false hc46
            refine agm 15 ?_
            refine agm 16 ?_
            refine agv 17 (.int .i64 (((i - 1) : Nat) : Int)) rfl (rSub _ rfl rfl rfl (by omega) (by omega) (by omega)) ?_
            refine Any.partPtr (fun w hM => rowOwn3 (i := 1) rfl w hM) hx0 (fun p50 q50 hA50 hc50 => ?_)
            refine agv 18 (.pointer (some ⟨p50, q50 + (i - 1) * 3, none⟩)) rfl (rIndexRow3 (e := 76) rfl (by kernel_rfl) (by kernel_rfl) rfl rfl hA50 (by omega)) ?_
            refine agc 19 (.pointer (some ⟨p50, q50 + (i - 1) * 3, none⟩)) ?_
            refine agc 20 (.pointer (some ⟨p50, q50 + (i - 1) * 3 + 1, none⟩)) ?_
            refine agv 21 (.string (strOf x0.hi)) rfl (rLoadW rfl rfl (by kernel_rfl) (fun w hM => hc50 w hM 1 _ rfl)) ?_
            refine agc 22 (.pointer (some ⟨b8, 0, none⟩)) ?_
            refine agc 23 (.pointer (some ⟨b8, 0, none⟩)) ?_
            refine agv 24 (.string (strOf pv.lo)) rfl (rLoad 4 rfl rfl (by kernel_rfl) rfl rfl) ?_
            refine agv 25 (.bool (!(decide (x0.hi < pv.lo) || decide (x0.hi = pv.lo)))) rfl (rStrGt rfl rfl rfl) ?_
            refine agc 26 (.bool (!(decide (x0.hi < pv.lo) || decide (x0.hi = pv.lo)))) ?_
            refine agc 27 (.bool (!(decide (x0.hi < pv.lo) || decide (x0.hi = pv.lo)))) ?_
            refine ac 28 (.bool (!(decide (x0.hi < pv.lo) || decide (x0.hi = pv.lo)))) ?_
            refine anyDone (by kernel_rfl) ?_
            refine qThen ?_
            refine stCond rfl (fun hc60 => ?_) (fun hc60 => ?_)
            · refine stSeq (reg ?_)
              refine la ?_
              refine la ?_
              refine liNil (qThen (stRet (qThenR (qBlockR (qThenR (qThenR (qBlockR (qThenR ?_))))))))
              refine stEnd [(.slice none 0 0), (.int .i64 3)] rfl ⟨rfl, rfl, trivial⟩ (fun w hM => ?_)
              exact absurd ((decA_stop heq20 (i := i + 1) hlt (Rd.parts_gap hpt heq29 (by rw [(follows_at (i := i - 1) (q := x0.abs) (by rw [List.getElem?_map, hx0]; rfl) (by rw [List.length_map]; omega))]; rw [gtr_iff] at hc60; rw [← hab]; have e := of_decide_eq_true hc60; simp [PV.abs, e]))).symm.trans hd) (by simp)
            · have hfo : follows (pvs.map PV.abs) p29 = true := by rw [(follows_at (i := i - 1) (q := x0.abs) (by rw [List.getElem?_map, hx0]; rfl) (by rw [List.length_map]; omega))]; rw [gtr_iff] at hc60; rw [← hab]; have e := of_decide_eq_false hc46; have e2 := of_decide_eq_false hc60; simp [PV.abs, e, e2]
              refine stSkip (qThen (reg ?_))
              refine lm ?_
              refine lv (v := (.agg #[(.string (strOf pv.lo)), (.string (strOf pv.hi)), pv.c.val])) (rLoadA [(.string (strOf pv.lo)), (.string (strOf pv.hi)), pv.c.val] rfl rfl (by kernel_rfl) (by kernel_rfl) (segAt (i := 4) rfl (by intro j v hj; first | (rw [Nat.zero_add]; exact hj) | (match j, hj with | 0, h => exact h | 1, h => exact h | 2, h => exact h)))) ?_
              refine li rfl ?_
              refine opNew (v := fun b => .slice (some ⟨b, 0, none⟩) 1 1) 76 [(.string (strOf pv.lo)), (.string (strOf pv.hi)), pv.c.val] rfl (by kernel_rfl) (fun _ => by kernel_rfl) (fun b63 => ?_)
              refine li rfl ?_
              refine opAppend el_part 1 ([(.string (strOf pv.lo)), (.string (strOf pv.hi)), pv.c.val]) rfl rfl (by kernel_rfl) rfl rfl rfl (rfl) (srcAt (i := 5) rfl (fun j v h => by rw [Nat.zero_add]; exact h)) (PV.one pv) (by omega) ((pvs ++ [pv]).length) (by first | exact (List.length_append ..).symm | (simp; done) | (simp; omega)) (PS (pvs ++ [pv])) ((PS_append _ ([pv])).symm) (fun A64 c64 => ?_)
              refine la ?_
              refine liNil (qBlock (qThen ?_))
              refine St.to [cRd X16 br16 (r229), cOwn 76 3 A64 ((pvs ++ [pv]).length) (c64) (PS (pvs ++ [pv])), cBag (LX), cBag (L29), cAt b8 76 [(.string (strOf pv.lo)), (.string (strOf pv.hi)), pv.c.val], cAt b63 76 [(.string (strOf pv.lo)), (.string (strOf pv.hi)), pv.c.val]] (by kernel_rfl) ?_
              refine reg ?_
              refine lv (v := (.int .i64 ((i + 1 : Nat) : Int))) (rAdd _ rfl rfl rfl (by omega) (by omega) (by omega)) ?_
              refine lm ?_
              refine liNil (qThen ?_)
              exact stAgain (i + 1, A64, c64, pvs ++ [pv], r229, LX ++ L29) (⟨by omega, by rw [Rd.parts_some hpt heq29 hfo, ← hab, List.map_append]; rfl, rows_snoc hrows hrw⟩) (by show n20 - (i + 1) < n20 - i; omega) ⟨rfl, rfl, rfl, rfl, rfl, rfl, trivial⟩ (fun w hM => by show Mm _ _ [cRd X16 br16 (r229), cOwn 76 3 A64 ((pvs ++ [pv]).length) (c64) (PS (pvs ++ [pv])), cBag (LX ++ L29)] w; exact Mm.join (cs := [cRd X16 br16 (r229), cOwn 76 3 A64 ((pvs ++ [pv]).length) (c64) (PS (pvs ++ [pv]))]) (L := LX) (M := L29) ((fun (w : World) (h : Mm _ _ _ w) => Mm.sub h (.cons_cons _ (.cons_cons _ (.cons_cons _ (.cons_cons _ (.cons _ (.cons _ .slnil))))))) w hM))
        · have hd37 := of_decide_eq_false hc37
          have hi0 : i = 0 := by omega
          have hfo : follows (pvs.map PV.abs) p29 = true := by rw [List.eq_nil_of_length_eq_zero (hpl.trans hi0)]; rfl
          refine anF 6 ?_
          refine anF 7 ?_
          refine anF 8 ?_
          refine anF 9 ?_
          refine anF 10 ?_
          refine anF 11 ?_
          refine anF 12 ?_
          refine anF 13 ?_
          refine anF 14 ?_
          refine anU 15 ?_
          refine anU 16 ?_
          refine anU 17 ?_
          refine anU 18 ?_
          refine anU 19 ?_
          refine anU 20 ?_
          refine anU 21 ?_
          refine anU 22 ?_
          refine anU 23 ?_
          refine anU 24 ?_
          refine anU 25 ?_
          refine anF 26 ?_
          refine agc 27 (.bool false) ?_
          refine ac 28 (.bool false) ?_
          refine anyDone (by kernel_rfl) ?_
          refine qThen (stFalse rfl (stSkip (qThen (reg ?_))))
          refine lm ?_
          refine lv (v := (.agg #[(.string (strOf pv.lo)), (.string (strOf pv.hi)), pv.c.val])) (rLoadA [(.string (strOf pv.lo)), (.string (strOf pv.hi)), pv.c.val] rfl rfl (by kernel_rfl) (by kernel_rfl) (segAt (i := 4) rfl (by intro j v hj; first | (rw [Nat.zero_add]; exact hj) | (match j, hj with | 0, h => exact h | 1, h => exact h | 2, h => exact h)))) ?_
          refine li rfl ?_
          refine opNew (v := fun b => .slice (some ⟨b, 0, none⟩) 1 1) 76 [(.string (strOf pv.lo)), (.string (strOf pv.hi)), pv.c.val] rfl (by kernel_rfl) (fun _ => by kernel_rfl) (fun b63 => ?_)
          refine li rfl ?_
          refine opAppend el_part 1 ([(.string (strOf pv.lo)), (.string (strOf pv.hi)), pv.c.val]) rfl rfl (by kernel_rfl) rfl rfl rfl (rfl) (srcAt (i := 5) rfl (fun j v h => by rw [Nat.zero_add]; exact h)) (PV.one pv) (by omega) ((pvs ++ [pv]).length) (by first | exact (List.length_append ..).symm | (simp; done) | (simp; omega)) (PS (pvs ++ [pv])) ((PS_append _ ([pv])).symm) (fun A64 c64 => ?_)
          refine la ?_
          refine liNil (qBlock (qThen ?_))
          refine St.to [cRd X16 br16 (r229), cOwn 76 3 A64 ((pvs ++ [pv]).length) (c64) (PS (pvs ++ [pv])), cBag (LX), cBag (L29), cAt b8 76 [(.string (strOf pv.lo)), (.string (strOf pv.hi)), pv.c.val], cAt b63 76 [(.string (strOf pv.lo)), (.string (strOf pv.hi)), pv.c.val]] (by kernel_rfl) ?_
          refine reg ?_
          refine lv (v := (.int .i64 ((i + 1 : Nat) : Int))) (rAdd _ rfl rfl rfl (by omega) (by omega) (by omega)) ?_
          refine lm ?_
          refine liNil (qThen ?_)
          exact stAgain (i + 1, A64, c64, pvs ++ [pv], r229, LX ++ L29) (⟨by omega, by rw [Rd.parts_some hpt heq29 hfo, ← hab, List.map_append]; rfl, rows_snoc hrows hrw⟩) (by show n20 - (i + 1) < n20 - i; omega) ⟨rfl, rfl, rfl, rfl, rfl, rfl, trivial⟩ (fun w hM => by show Mm _ _ [cRd X16 br16 (r229), cOwn 76 3 A64 ((pvs ++ [pv]).length) (c64) (PS (pvs ++ [pv])), cBag (LX ++ L29)] w; exact Mm.join (cs := [cRd X16 br16 (r229), cOwn 76 3 A64 ((pvs ++ [pv]).length) (c64) (PS (pvs ++ [pv]))]) (L := LX) (M := L29) ((fun (w : World) (h : Mm _ _ _ w) => Mm.sub h (.cons_cons _ (.cons_cons _ (.cons_cons _ (.cons_cons _ (.cons _ (.cons _ .slnil))))))) w hM))
      | false =>
        obtain rfl : o29 = none := by cases o29 with | none => rfl | some _ => cases hfk
        refine anyBegin [cRd X16 br16 (r229), cOwn 76 3 RX ((pvs).length) (rcX) (PS (pvs)), cBag (LX), cBag (L29), cAt b8 76 (cl29)] 29 (by kernel_rfl) (fun _ h => h) ?_
        refine am 0 ?_
        refine ac 1 (.bool true) ?_
        refine am 2 ?_
        refine anT 3 ?_
        refine anT 4 ?_
        refine anT 5 ?_
        refine anU 6 ?_
        refine anU 7 ?_
        refine anU 8 ?_
        refine anU 9 ?_
        refine anU 10 ?_
        refine anU 11 ?_
        refine anU 12 ?_
        refine anU 13 ?_
        refine anU 14 ?_
        refine anU 15 ?_
        refine anU 16 ?_
        refine anU 17 ?_
        refine anU 18 ?_
        refine anU 19 ?_
        refine anU 20 ?_
        refine anU 21 ?_
        refine anU 22 ?_
        refine anU 23 ?_
        refine anU 24 ?_
        refine anU 25 ?_
        refine anU 26 ?_
        refine anT 27 ?_
        refine ac 28 (.bool true) ?_
        refine anyDone (by kernel_rfl) ?_
        refine qThen (stTrue rfl (stSeq (reg ?_)))
        refine la ?_
        refine la ?_
        refine liNil (qThen (stRet (qThenR (qBlockR (qThenR (qThenR (qBlockR (qThenR ?_))))))))
        refine stEnd [(.slice none 0 0), (.int .i64 3)] rfl ⟨rfl, rfl, trivial⟩ (fun w hM => ?_)
        exact absurd ((decA_stop heq20 (i := i + 1) hlt (Rd.parts_none hpt heq29)).symm.trans hd) (by simp)
    · have hd25 := of_decide_eq_false hc25
      obtain rfl : i = n20 := by omega
      refine stExit (qThenX (qThenX (qBlockX (qThen (stSeq (stSeq (reg ?_)))))))
      refine lm ?_
      refine li rfl ?_
      refine opK [0] [cRd X16 br16 (rX)] (fun w hM hO => (rsREnd_any X16 br16 rX w hO).mono ?_)
      rintro e w' ⟨rfl, hP⟩
      refine ⟨_, [cRd X16 br16 (rX)], _, rfl, hP, rfl, ?_⟩; clear hP hM hO
      refine lm ?_
      refine lc (.int .i64 ((rX.off : Nat) : Int)) ?_
      refine lc (.int .i64 rX.end_) ?_
      refine la ?_
      refine la ?_
      refine liNil (qThen (stSeq (reg ?_)))
      refine lm ?_
      refine lc (.bool ((rX.end_ : Int) != 0)) ?_
      refine liNil (qThen ?_)
      refine stCond rfl (fun hc72 => ?_) (fun hc72 => ?_)
      · refine stSeq (reg ?_)
        refine la ?_
        refine la ?_
        refine liNil (qThen (stRet (qThenR ?_)))
        refine stEnd [(.slice none 0 0), (.int .i64 3)] rfl ⟨rfl, rfl, trivial⟩ (fun w hM => ?_)
        exact absurd ((decA_end heq20 hpt (by simpa using hc72)).symm.trans hd) (by simp)
      · have hok : decA D = some (pvs.map PV.abs) := decA_ok heq20 hn0 hpt (by simpa using hc72)
        refine stSkip (qThen (stSeq (reg ?_)))
        refine lm ?_
        refine la ?_
        refine la ?_
        refine liNil (qThen (stRet ?_))
        refine stEnd [(.slice RX ((pvs).length) (rcX)), (.int .i64 0)] rfl ⟨rfl, rfl, trivial⟩ (fun w hM => ?_)
        exact ⟨RX, rcX, pvs, LX, rfl, (fun (w : World) (h : Mm _ _ _ w) => Mm.sub h (.cons _ (.cons_cons _ (.cons_cons _ .slnil)))) w hM, Option.some.inj (hok.symm.trans hd), hrows⟩

end Go.Proofs.YtlepfnihpdhcaaaGreatDoor
