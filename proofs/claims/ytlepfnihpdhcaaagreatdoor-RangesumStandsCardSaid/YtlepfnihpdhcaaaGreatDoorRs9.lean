/- rangesum: a part read. -/
import Derived.Test.YtlepfnihpdhcaaaGreatDoorRs8
namespace Go.Proofs.YtlepfnihpdhcaaaGreatDoor
open Go.RowKit

theorem ret_part (v : Value) (b : Bool) {p : AP} : (Ending.returned (.tuple #[v, .bool b])) = .returned (.tuple #[v, .bool (if b = true then some p else none).isSome]) := by cases b <;> rfl
theorem ones3 {a b c : Value} (h1 : a.oneCell' = true) (h2 : b.oneCell' = true) (h3 : c.oneCell' = true) : ∀ u ∈ [a, b, c], u.oneCell' = true := by
  intro u hu
  simp only [List.mem_cons, List.not_mem_nil, or_false] at hu
  rcases hu with rfl | rfl | rfl <;> assumption
theorem part_of {b : Bool} {p q : AP} (h : (if b = true then some q else none) = some p) : q = p := by
  cases b
  · cases h
  · exact Option.some.inj h

theorem rsRUint_v (X : Option Addr × Nat) (br : Nat) (r : Rd) (w : World) (hO : Own [cRd X br (r)] w) :
    Calls Tryz.prog 90 #[(.pointer (some ⟨br, 0, none⟩))] w fun e w' => ∃ (n : Nat) (r2 : Rd), e = .returned (.int .u64 ((n : Nat) : Int)) ∧ Back [cRd X br (r)] w [cRd X br (r2)] w' ∧ (r.uint = (n, r2)) :=
  (rsRUint_any X br r w hO).mono fun e w' h => by
    obtain ⟨rfl, hB⟩ := h
    exact ⟨_, _, rfl, hB, rfl⟩

theorem rsRCount_v (X : Option Addr × Nat) (br : Nat) (r : Rd) (most : Nat) (w : World) (hO : Own [cRd X br (r)] w) (hm : most ≤ 4294967296) :
    Calls Tryz.prog 61 #[(.pointer (some ⟨br, 0, none⟩)), (.int .i64 ((most : Nat) : Int))] w fun e w' => ∃ (n : Nat) (r2 : Rd), e = .returned (.int .i64 ((n : Nat) : Int)) ∧ Back [cRd X br (r)] w [cRd X br (r2)] w' ∧ (r.cnt most = (n, r2)) :=
  (rsRCount_any X br r most w hO hm).mono fun e w' h => by
    obtain ⟨rfl, hB⟩ := h
    exact ⟨_, _, rfl, hB, rfl⟩

theorem rsRText_v (X : Option Addr × Nat) (br : Nat) (r : Rd) (most : Nat) (w : World) (hO : Own [cRd X br (r)] w) (hm : most ≤ 4294967296) :
    Calls Tryz.prog 87 #[(.pointer (some ⟨br, 0, none⟩)), (.int .i64 ((most : Nat) : Int))] w fun e w' => ∃ (t : List UInt8) (r2 : Rd), e = .returned (.string (strOf t)) ∧ Back [cRd X br (r)] w [cRd X br (r2)] w' ∧ (r.text most = (t, r2)) :=
  (rsRText_any X br r most w hO hm).mono fun e w' h => by
    obtain ⟨rfl, hB⟩ := h
    exact ⟨_, _, rfl, hB, rfl⟩

theorem rsRSum_v (X : Option Addr × Nat) (br : Nat) (r : Rd) (w : World) (hO : Own [cRd X br (r)] w) :
    Calls Tryz.prog 91 #[(.pointer (some ⟨br, 0, none⟩))] w fun e w' => ∃ (t : List UInt8) (r2 : Rd), e = .returned (.string (strOf t)) ∧ Back [cRd X br (r)] w [cRd X br (r2)] w' ∧ (r.sum = (t, r2)) :=
  (rsRSum_any X br r w hO).mono fun e w' h => by
    obtain ⟨rfl, hB⟩ := h
    exact ⟨_, _, rfl, hB, rfl⟩

theorem rsRItems_v (X : Option Addr × Nat) (br : Nat) (r : Rd) (most : Nat) (w : World) (hO : Own [cRd X br (r)] w) (hm : most ≤ 65536) :
    Calls Tryz.prog 92 #[(.pointer (some ⟨br, 0, none⟩)), (.int .i64 ((most : Nat) : Int))] w fun e w' => ∃ (B : Option Addr) (cb : Nat) (l : List (List UInt8)) (r2 : Rd), e = .returned (.slice B ((l).length) (cb)) ∧ Back [cRd X br (r)] w [cRd X br (r2), cOwn 9 1 B ((l).length) (cb) (SS (l))] w' ∧ (r.items most = (l, r2)) :=
  (rsRItems_any X br r most w hO hm).mono fun e w' h => by
    obtain ⟨B, cb, rfl, hB⟩ := h
    exact ⟨B, cb, _, _, rfl, hB, rfl⟩

set_option maxRecDepth 100000 in
set_option maxHeartbeats 1000000 in
theorem rsRPart_any (X : Option Addr × Nat) (br : Nat) (r : Rd) (w : World) (hO : Own [cRd X br (r)] w) :
    Calls Tryz.prog 62 #[(.pointer (some ⟨br, 0, none⟩))] w fun e w' => ∃ (cl : List Value) (L : List (Option Addr × List (List UInt8))) (o : Option AP) (r2 : Rd), e = .returned (.tuple #[(.agg (cl).toArray), (.bool o.isSome)]) ∧ Back [cRd X br (r)] w [cRd X br (r2), cBag (L)] w' ∧ (r.part = (o, r2)) ∧ (cl.length = 3 ∧ ∀ u ∈ cl, u.oneCell' = true) ∧ (∀ p, o = some p → ∃ pv : PV, cl = pv.cells ∧ pv.abs = p ∧ ∀ q ∈ pv.c.rows, q ∈ L) := by
  refine stEnter (args := [(.pointer (some ⟨br, 0, none⟩))]) (fps [cRd X br (r)]) Tryz.func62 rfl 66 rfl [(0, (.pointer (some ⟨br, 0, none⟩)))] ⟨rfl, trivial⟩ [cRd X br (r)] (hO) ?_
  refine stSeq (reg (li rfl ?_))
  refine opAlloc [(.string ⟨#[]⟩), (.string ⟨#[]⟩), .nilIface] rfl rfl (by kernel_rfl) (by kernel_rfl) (fun b2 => ?_)
  refine la ?_
  refine liNil (qThen (stSeq (reg ?_)))
  refine lm ?_
  refine li rfl ?_
  refine opK [0] [cRd X br (r)] (fun w hM hO => (rsRText_v X br r 32 w hO (by omega)).mono ?_)
  rintro e w' ⟨t9, r29, rfl, hP, heq9⟩
  refine ⟨_, [cRd X br (r29)], _, rfl, hP, rfl, ?_⟩; clear hP hM hO
  refine lm ?_
  refine li rfl ?_
  refine opK [0] [cRd X br (r29)] (fun w hM hO => (rsRText_v X br r29 32 w hO (by omega)).mono ?_)
  rintro e w' ⟨t11, r211, rfl, hP, heq11⟩
  refine ⟨_, [cRd X br (r211)], _, rfl, hP, rfl, ?_⟩; clear hP hM hO
  refine la ?_
  refine la ?_
  refine liNil (qThen (stSeq ?_))
  refine St.to [cRd X br (r211), cAt b2 76 [(.string ⟨#[]⟩), (.string ⟨#[]⟩), .nilIface]] (by kernel_rfl) ?_
  refine reg ?_
  refine lm ?_
  refine lm ?_
  refine lc (.agg #[(.string (strOf t9)), (.string (strOf t11))]) ?_
  refine lc (.agg #[(.string (strOf t9)), (.string (strOf t11)), .nilIface]) ?_
  refine li rfl ?_
  refine opAlloc [(.string ⟨#[]⟩), (.string ⟨#[]⟩), .nilIface] rfl rfl (by kernel_rfl) (by kernel_rfl) (fun b6 => ?_)
  refine li rfl ?_
  refine opStoreN 2 [(.string (strOf t9)), (.string (strOf t11)), .nilIface] (vs := [(.string (strOf t9)), (.string (strOf t11)), .nilIface]) rfl rfl (by kernel_rfl) rfl rfl rfl (by kernel_rfl) rfl (by simp) (by simp [Value.oneCell']) rfl ?_
  refine liNil (qThen (stSeq (stSeq ?_)))
  refine St.to [cRd X br (r211), cAt b2 76 [(.string ⟨#[]⟩), (.string ⟨#[]⟩), .nilIface], cAt b6 76 [(.string (strOf t9)), (.string (strOf t11)), .nilIface]] (by kernel_rfl) ?_
  refine reg ?_
  refine lm ?_
  refine li rfl ?_
  refine opK0 (fun w hM => (rsIsBound_any t9 w ).mono ?_)
  rintro e w' ⟨rfl, hP⟩
  refine ⟨_, _, rfl, hP, ?_⟩; clear hP hM
  refine lc (.bool (!(boundOk t9))) ?_
  refine lm ?_
  refine St.dec 19 rfl (fun hc19 => ?_) (fun hc19 => ?_)
  · refine lnT ?_
    refine lnT ?_
    refine lnT ?_
    refine lc (.bool true) ?_
    refine lm ?_
    refine lnT ?_
    refine lnT ?_
    refine lnT ?_
    refine lnT ?_
    refine lc (.bool true) ?_
    refine liNil (qThen (stTrue rfl (stSeq (reg ?_))))
    refine lc (.agg #[(.string ⟨#[]⟩), (.string ⟨#[]⟩), .nilIface]) ?_
    refine li rfl ?_
    refine opStoreN 1 [(.string ⟨#[]⟩), (.string ⟨#[]⟩), .nilIface] (vs := [(.string ⟨#[]⟩), (.string ⟨#[]⟩), .nilIface]) rfl rfl (by kernel_rfl) rfl rfl rfl (by kernel_rfl) rfl (by simp) (by simp [Value.oneCell']) rfl ?_
    refine la ?_
    refine liNil (qThen (stRet (qThenR ?_)))
    refine stEnd [(.agg #[(.string ⟨#[]⟩), (.string ⟨#[]⟩), .nilIface]), (.bool false)] rfl ⟨⟨_, rfl, fun w hM => run_loadVarA (by kernel_rfl) (by kernel_rfl) (segAt (i := 1) (off := 0) rfl (by intro j v hj; rw [Nat.zero_add]; exact hj) w hM)⟩, rfl, trivial⟩ (fun w hM => ?_)
    have hp : r.part = (none, r211) := Rd.part_bad heq9 heq11 (bad1 hc19)
    exact ⟨[(.string ⟨#[]⟩), (.string ⟨#[]⟩), .nilIface], [], none, r211, rfl, Mm.noBag ((fun (w : World) (h : Mm _ _ _ w) => Mm.sub h (.cons_cons _ (.cons _ (.cons _ .slnil)))) w hM), hp, ⟨rfl, ones3 rfl rfl rfl⟩, fun p hp => by cases hp⟩
  · refine lgm ?_
    refine liGo rfl rfl ?_
    refine opK0 (fun w hM => (rsIsBound_any t11 w ).mono ?_)
    rintro e w' ⟨rfl, hP⟩
    refine ⟨_, _, rfl, hP, ?_⟩; clear hP hM
    refine lgc (.bool (!(boundOk t11))) ?_
    refine lc (.bool (!(boundOk t11))) ?_
    refine lm ?_
    refine St.dec 24 rfl (fun hc24 => ?_) (fun hc24 => ?_)
    · refine lnT ?_
      refine lnT ?_
      refine lnT ?_
      refine lnT ?_
      refine lc (.bool true) ?_
      refine liNil (qThen (stTrue rfl (stSeq ?_)))
      refine St.to [cRd X br (r211), cAt b2 76 [(.string ⟨#[]⟩), (.string ⟨#[]⟩), .nilIface], cAt b6 76 [(.string (strOf t9)), (.string (strOf t11)), .nilIface]] (by kernel_rfl) ?_
      refine reg ?_
      refine lc (.agg #[(.string ⟨#[]⟩), (.string ⟨#[]⟩), .nilIface]) ?_
      refine li rfl ?_
      refine opStoreN 1 [(.string ⟨#[]⟩), (.string ⟨#[]⟩), .nilIface] (vs := [(.string ⟨#[]⟩), (.string ⟨#[]⟩), .nilIface]) rfl rfl (by kernel_rfl) rfl rfl rfl (by kernel_rfl) rfl (by simp) (by simp [Value.oneCell']) rfl ?_
      refine la ?_
      refine liNil (qThen (stRet (qThenR ?_)))
      refine stEnd [(.agg #[(.string ⟨#[]⟩), (.string ⟨#[]⟩), .nilIface]), (.bool false)] rfl ⟨⟨_, rfl, fun w hM => run_loadVarA (by kernel_rfl) (by kernel_rfl) (segAt (i := 1) (off := 0) rfl (by intro j v hj; rw [Nat.zero_add]; exact hj) w hM)⟩, rfl, trivial⟩ (fun w hM => ?_)
      have hp : r.part = (none, r211) := Rd.part_bad heq9 heq11 (bad2 hc24)
      exact ⟨[(.string ⟨#[]⟩), (.string ⟨#[]⟩), .nilIface], [], none, r211, rfl, Mm.noBag ((fun (w : World) (h : Mm _ _ _ w) => Mm.sub h (.cons_cons _ (.cons _ (.cons _ .slnil)))) w hM), hp, ⟨rfl, ones3 rfl rfl rfl⟩, fun p hp => by cases hp⟩
    · refine lgc (.pointer (some ⟨b6, 0, none⟩)) ?_
      refine lgv (v := (.agg #[(.string (strOf t9)), (.string (strOf t11))])) (rLoadA [(.string (strOf t9)), (.string (strOf t11))] rfl rfl (by kernel_rfl) (by kernel_rfl) (segAt (i := 2) rfl (by intro j v hj; first | (rw [Nat.zero_add]; exact hj) | (match j, hj with | 0, h => exact h | 1, h => exact h)))) ?_
      refine liGo rfl rfl ?_
      refine opK0 (fun w hM => (rsSpanValid_any t9 t11 w ).mono ?_)
      rintro e w' ⟨rfl, hP⟩
      refine ⟨_, _, rfl, hP, ?_⟩; clear hP hM
      refine lgc (.bool (!(spanOk t9 t11))) ?_
      refine lc (.bool (!(spanOk t9 t11))) ?_
      refine liNil (qThen ?_)
      refine stCond rfl (fun hc29 => ?_) (fun hc29 => ?_)
      · refine stSeq ?_
        refine St.to [cRd X br (r211), cAt b2 76 [(.string ⟨#[]⟩), (.string ⟨#[]⟩), .nilIface], cAt b6 76 [(.string (strOf t9)), (.string (strOf t11)), .nilIface]] (by kernel_rfl) ?_
        refine reg ?_
        refine lc (.agg #[(.string ⟨#[]⟩), (.string ⟨#[]⟩), .nilIface]) ?_
        refine li rfl ?_
        refine opStoreN 1 [(.string ⟨#[]⟩), (.string ⟨#[]⟩), .nilIface] (vs := [(.string ⟨#[]⟩), (.string ⟨#[]⟩), .nilIface]) rfl rfl (by kernel_rfl) rfl rfl rfl (by kernel_rfl) rfl (by simp) (by simp [Value.oneCell']) rfl ?_
        refine la ?_
        refine liNil (qThen (stRet (qThenR ?_)))
        refine stEnd [(.agg #[(.string ⟨#[]⟩), (.string ⟨#[]⟩), .nilIface]), (.bool false)] rfl ⟨⟨_, rfl, fun w hM => run_loadVarA (by kernel_rfl) (by kernel_rfl) (segAt (i := 1) (off := 0) rfl (by intro j v hj; rw [Nat.zero_add]; exact hj) w hM)⟩, rfl, trivial⟩ (fun w hM => ?_)
        have hp : r.part = (none, r211) := Rd.part_bad heq9 heq11 (bad3 hc29)
        exact ⟨[(.string ⟨#[]⟩), (.string ⟨#[]⟩), .nilIface], [], none, r211, rfl, Mm.noBag ((fun (w : World) (h : Mm _ _ _ w) => Mm.sub h (.cons_cons _ (.cons _ (.cons _ .slnil)))) w hM), hp, ⟨rfl, ones3 rfl rfl rfl⟩, fun p hp => by cases hp⟩
      · refine stSkip (qThen (stSeq (stSeq ?_)))
        have hp0 : r.part = r211.body t9 t11 := Rd.part_go heq9 heq11 (good3 hc19 hc24 hc29)
        refine reg ?_
        refine lm ?_
        refine li rfl ?_
        refine opK [0] [cRd X br (r211)] (fun w hM hO => (rsRUint_v X br r211 w hO).mono ?_)
        rintro e w' ⟨n32, r232, rfl, hP, heq32⟩
        refine ⟨_, [cRd X br (r232)], _, rfl, hP, rfl, ?_⟩; clear hP hM hO
        refine liNil (qThen (stBlock (stSeq ?_)))
        refine St.to [cRd X br (r232), cAt b2 76 [(.string ⟨#[]⟩), (.string ⟨#[]⟩), .nilIface], cAt b6 76 [(.string (strOf t9)), (.string (strOf t11)), .nilIface]] (by kernel_rfl) ?_
        refine reg ?_
        refine lc (.bool ((((n32 : Nat) : Int) : Int) == 1)) ?_
        refine la ?_
        refine liNil (qThen ?_)
        refine stCond rfl (fun hc34 => ?_) (fun hc34 => ?_)
        · have hk : n32 = 1 := eqb_yes hc34
          refine reg ?_
          refine lm ?_
          refine li rfl ?_
          refine opK [0] [cRd X br (r232)] (fun w hM hO => (rsRCount_v X br r232 16384 w hO (by omega)).mono ?_)
          rintro e w' ⟨n37, r237, rfl, hP, heq37⟩
          refine ⟨_, [cRd X br (r237)], _, rfl, hP, rfl, ?_⟩; clear hP hM hO
          refine lm ?_
          refine li rfl ?_
          refine opK [0] [cRd X br (r237)] (fun w hM hO => (rsRSum_v X br r237 w hO).mono ?_)
          rintro e w' ⟨t39, r239, rfl, hP, heq39⟩
          refine ⟨_, [cRd X br (r239)], _, rfl, hP, rfl, ?_⟩; clear hP hM hO
          refine lc (.agg #[(.int .i64 ((n37 : Nat) : Int)), (.string (strOf t39))]) ?_
          refine lc (.iface 71 (.agg #[(.int .i64 ((n37 : Nat) : Int)), (.string (strOf t39))])) ?_
          refine lc (.pointer (some ⟨b6, 2, none⟩)) ?_
          refine li rfl ?_
          refine opStore1 2 rfl rfl (by kernel_rfl) rfl rfl rfl (by kernel_rfl) rfl (by simp) ?_
          refine liNil (qBlock (qThen (stSeq ?_)))
          refine St.to [cRd X br (r239), cAt b2 76 [(.string ⟨#[]⟩), (.string ⟨#[]⟩), .nilIface], cAt b6 76 [(.string (strOf t9)), (.string (strOf t11)), (.iface 71 (.agg #[(.int .i64 ((n37 : Nat) : Int)), (.string (strOf t39))]))]] (by kernel_rfl) ?_
          refine anyBegin [cRd X br (r239), cAt b6 76 [(.string (strOf t9)), (.string (strOf t11)), (.iface 71 (.agg #[(.int .i64 ((n37 : Nat) : Int)), (.string (strOf t39))]))]] 8 (by kernel_rfl) (fun _ h => h.sub (.cons_cons _ (.cons _ (.cons_cons _ .slnil)))) ?_
          refine av 0 (.agg #[(.string (strOf t9)), (.string (strOf t11)), (.iface 71 (.agg #[(.int .i64 ((n37 : Nat) : Int)), (.string (strOf t39))]))]) rfl (rLoadA [(.string (strOf t9)), (.string (strOf t11)), (.iface 71 (.agg #[(.int .i64 ((n37 : Nat) : Int)), (.string (strOf t39))]))] rfl rfl (by kernel_rfl) (by kernel_rfl) (segAt (i := 1) rfl (by intro j v hj; first | (rw [Nat.zero_add]; exact hj) | (match j, hj with | 0, h => exact h | 1, h => exact h | 2, h => exact h)))) ?_
          refine ac 1 (.pointer (some ⟨b6, 2, none⟩)) ?_
          refine av 2 (.iface 71 (.agg #[(.int .i64 ((n37 : Nat) : Int)), (.string (strOf t39))])) rfl (rLoad 1 rfl rfl (by kernel_rfl) rfl rfl) ?_
          refine ac 3 (.pointer (some ⟨b6, 0, none⟩)) ?_
          refine av 4 (.agg #[(.string (strOf t9)), (.string (strOf t11))]) rfl (rLoadA [(.string (strOf t9)), (.string (strOf t11))] rfl rfl (by kernel_rfl) (by kernel_rfl) (segAt (i := 1) rfl (by intro j v hj; first | (rw [Nat.zero_add]; exact hj) | (match j, hj with | 0, h => exact h | 1, h => exact h)))) ?_
          refine a1 5 ?_
          refine opK0 (fun w hM => (rsSFits_any n37 t39 t9 t11 w ).mono ?_)
          rintro e w' ⟨rfl, hP⟩
          refine ⟨_, _, rfl, hP, ?_⟩; clear hP hM
          refine anyNext [cRd X br (r239), cAt b6 76 [(.string (strOf t9)), (.string (strOf t11)), (.iface 71 (.agg #[(.int .i64 ((n37 : Nat) : Int)), (.string (strOf t39))]))]] (fun _ h => h) (fun _ h => h.sub (.cons_cons _ (.cons _ (.cons_cons _ .slnil)))) ?_
          refine a1 6 ?_
          refine opStoreN 1 [(.string (strOf t9)), (.string (strOf t11)), (.iface 71 (.agg #[(.int .i64 ((n37 : Nat) : Int)), (.string (strOf t39))]))] (vs := [(.string (strOf t9)), (.string (strOf t11)), (.iface 71 (.agg #[(.int .i64 ((n37 : Nat) : Int)), (.string (strOf t39))]))]) rfl rfl (by kernel_rfl) rfl rfl rfl (by kernel_rfl) rfl (by simp) (by simp [Value.oneCell']) rfl ?_
          refine St.to [cRd X br (r239), cAt b2 76 [(.string (strOf t9)), (.string (strOf t11)), (.iface 71 (.agg #[(.int .i64 ((n37 : Nat) : Int)), (.string (strOf t39))]))], cAt b6 76 [(.string (strOf t9)), (.string (strOf t11)), (.iface 71 (.agg #[(.int .i64 ((n37 : Nat) : Int)), (.string (strOf t39))]))]] (by kernel_rfl) ?_
          refine anyNext [cRd X br (r239), cAt b6 76 [(.string (strOf t9)), (.string (strOf t11)), (.iface 71 (.agg #[(.int .i64 ((n37 : Nat) : Int)), (.string (strOf t39))]))]] (fun _ h => h) (fun _ h => h.sub (.cons_cons _ (.cons _ (.cons_cons _ .slnil)))) ?_
          refine aa 7 ?_
          refine anyDone (by kernel_rfl) ?_
          refine qThen (stRet ?_)
          refine stEnd [(.agg #[(.string (strOf t9)), (.string (strOf t11)), (.iface 71 (.agg #[(.int .i64 ((n37 : Nat) : Int)), (.string (strOf t39))]))]), (.bool true)] rfl ⟨⟨_, rfl, fun w hM => run_loadVarA (by kernel_rfl) (by kernel_rfl) (segAt (i := 1) (off := 0) rfl (by intro j v hj; rw [Nat.zero_add]; exact hj) w hM)⟩, rfl, trivial⟩ (fun w hM => ?_)
          have hp : r.part = (some (PV.mk t9 t11 (.sum n37 t39)).abs, r239) := hp0.trans (Rd.body_sum heq32 hk heq37 heq39)
          exact ⟨[(.string (strOf t9)), (.string (strOf t11)), (.iface 71 (.agg #[(.int .i64 ((n37 : Nat) : Int)), (.string (strOf t39))]))], [], _, _, rfl, Mm.noBag ((fun (w : World) (h : Mm _ _ _ w) => Mm.sub h (.cons_cons _ (.cons _ (.cons _ .slnil)))) w hM), hp, ⟨rfl, ones3 rfl rfl rfl⟩, fun p hp => ⟨PV.mk t9 t11 (.sum n37 t39), rfl, Option.some.inj hp, fun q hq => by cases hq⟩⟩
        · have hn1 : ¬ n32 = 1 := eqb_no hc34
          refine stSeq (reg ?_)
          refine lc (.bool ((((n32 : Nat) : Int) : Int) == 2)) ?_
          refine la ?_
          refine liNil (qThen ?_)
          refine stCond rfl (fun hc43 => ?_) (fun hc43 => ?_)
          · have hk : n32 = 2 := eqb_yes hc43
            refine reg ?_
            refine lm ?_
            refine li rfl ?_
            refine opK [0] [cRd X br (r232)] (fun w hM hO => (rsRItems_v X br r232 64 w hO (by omega)).mono ?_)
            rintro e w' ⟨B46, cb46, l46, r246, rfl, hP, heq46⟩
            refine ⟨_, [cRd X br (r246)], _, rfl, hP, rfl, ?_⟩; clear hP hM hO
            have hil := Rd.items_len r232 64; rw [heq46] at hil; dsimp only at hil
            refine lc (.agg #[(.slice B46 ((l46).length) (cb46))]) ?_
            refine lc (.iface 89 (.agg #[(.slice B46 ((l46).length) (cb46))])) ?_
            refine lc (.pointer (some ⟨b6, 2, none⟩)) ?_
            refine li rfl ?_
            refine opStore1 2 rfl rfl (by kernel_rfl) rfl rfl rfl (by kernel_rfl) rfl (by simp) ?_
            refine liNil (qBlock (qThen (stSeq ?_)))
            refine St.to [cRd X br (r246), cAt b2 76 [(.string ⟨#[]⟩), (.string ⟨#[]⟩), .nilIface], cAt b6 76 [(.string (strOf t9)), (.string (strOf t11)), (.iface 89 (.agg #[(.slice B46 ((l46).length) (cb46))]))], cOwn 9 1 B46 ((l46).length) (cb46) (SS (l46))] (by kernel_rfl) ?_
            refine anyBegin [cRd X br (r246), cAt b6 76 [(.string (strOf t9)), (.string (strOf t11)), (.iface 89 (.agg #[(.slice B46 ((l46).length) (cb46))]))], cOwn 9 1 B46 ((l46).length) (cb46) (SS (l46))] 8 (by kernel_rfl) (fun _ h => h.sub (.cons_cons _ (.cons _ (.cons_cons _ (.cons_cons _ .slnil))))) ?_
            refine av 0 (.agg #[(.string (strOf t9)), (.string (strOf t11)), (.iface 89 (.agg #[(.slice B46 ((l46).length) (cb46))]))]) rfl (rLoadA [(.string (strOf t9)), (.string (strOf t11)), (.iface 89 (.agg #[(.slice B46 ((l46).length) (cb46))]))] rfl rfl (by kernel_rfl) (by kernel_rfl) (segAt (i := 1) rfl (by intro j v hj; first | (rw [Nat.zero_add]; exact hj) | (match j, hj with | 0, h => exact h | 1, h => exact h | 2, h => exact h)))) ?_
            refine ac 1 (.pointer (some ⟨b6, 2, none⟩)) ?_
            refine av 2 (.iface 89 (.agg #[(.slice B46 ((l46).length) (cb46))])) rfl (rLoad 1 rfl rfl (by kernel_rfl) rfl rfl) ?_
            refine ac 3 (.pointer (some ⟨b6, 0, none⟩)) ?_
            refine av 4 (.agg #[(.string (strOf t9)), (.string (strOf t11))]) rfl (rLoadA [(.string (strOf t9)), (.string (strOf t11))] rfl rfl (by kernel_rfl) (by kernel_rfl) (segAt (i := 1) rfl (by intro j v hj; first | (rw [Nat.zero_add]; exact hj) | (match j, hj with | 0, h => exact h | 1, h => exact h)))) ?_
            refine a1 5 ?_
            refine opK0 (fun w hM => (rsLFits_any B46 cb46 l46 t9 t11 w (hM.keep0 (j := 3) rfl (fun _ h => RowIn.of_own h)) (by omega)).mono ?_)
            rintro e w' ⟨rfl, hP⟩
            refine ⟨_, _, rfl, hP, ?_⟩; clear hP hM
            refine anyNext [cRd X br (r246), cAt b6 76 [(.string (strOf t9)), (.string (strOf t11)), (.iface 89 (.agg #[(.slice B46 ((l46).length) (cb46))]))], cOwn 9 1 B46 ((l46).length) (cb46) (SS (l46))] (fun _ h => h) (fun _ h => h.sub (.cons_cons _ (.cons _ (.cons_cons _ (.cons_cons _ .slnil))))) ?_
            refine a1 6 ?_
            refine opStoreN 1 [(.string (strOf t9)), (.string (strOf t11)), (.iface 89 (.agg #[(.slice B46 ((l46).length) (cb46))]))] (vs := [(.string (strOf t9)), (.string (strOf t11)), (.iface 89 (.agg #[(.slice B46 ((l46).length) (cb46))]))]) rfl rfl (by kernel_rfl) rfl rfl rfl (by kernel_rfl) rfl (by simp) (by simp [Value.oneCell']) rfl ?_
            refine St.to [cRd X br (r246), cAt b2 76 [(.string (strOf t9)), (.string (strOf t11)), (.iface 89 (.agg #[(.slice B46 ((l46).length) (cb46))]))], cAt b6 76 [(.string (strOf t9)), (.string (strOf t11)), (.iface 89 (.agg #[(.slice B46 ((l46).length) (cb46))]))], cOwn 9 1 B46 ((l46).length) (cb46) (SS (l46))] (by kernel_rfl) ?_
            refine anyNext [cRd X br (r246), cAt b6 76 [(.string (strOf t9)), (.string (strOf t11)), (.iface 89 (.agg #[(.slice B46 ((l46).length) (cb46))]))], cOwn 9 1 B46 ((l46).length) (cb46) (SS (l46))] (fun _ h => h) (fun _ h => h.sub (.cons_cons _ (.cons _ (.cons_cons _ (.cons_cons _ .slnil))))) ?_
            refine aa 7 ?_
            refine anyDone (by kernel_rfl) ?_
            refine qThen (stRet ?_)
            refine stEnd [(.agg #[(.string (strOf t9)), (.string (strOf t11)), (.iface 89 (.agg #[(.slice B46 ((l46).length) (cb46))]))]), (.bool (ordOk l46 t9 t11))] rfl ⟨⟨_, rfl, fun w hM => run_loadVarA (by kernel_rfl) (by kernel_rfl) (segAt (i := 1) (off := 0) rfl (by intro j v hj; rw [Nat.zero_add]; exact hj) w hM)⟩, rfl, trivial⟩ (fun w hM => ?_)
            have hp : r.part = (if ordOk l46 t9 t11 then some (PV.mk t9 t11 (.list B46 cb46 l46)).abs else none, r246) := hp0.trans (Rd.body_list heq32 hk heq46)
            replace hM : Mm _ _ [cRd X br (r246), cAt b2 76 [(.string (strOf t9)), (.string (strOf t11)), (.iface 89 (.agg #[(.slice B46 ((l46).length) (cb46))]))], cAt b6 76 [(.string (strOf t9)), (.string (strOf t11)), (.iface 89 (.agg #[(.slice B46 ((l46).length) (cb46))]))], cBag ([(B46, l46)])] w := hM.toBag 3 rfl
            refine ⟨[(.string (strOf t9)), (.string (strOf t11)), (.iface 89 (.agg #[(.slice B46 ((l46).length) (cb46))]))], [(B46, l46)], _, _, ret_part _ _, (fun (w : World) (h : Mm _ _ _ w) => Mm.sub h (.cons_cons _ (.cons _ (.cons _ (.cons_cons _ .slnil))))) w hM, hp, ⟨rfl, ones3 rfl rfl rfl⟩, fun p hp => ⟨PV.mk t9 t11 (.list B46 cb46 l46), rfl, part_of hp, fun q hq => hq⟩⟩
          · have hn2 : ¬ n32 = 2 := eqb_no hc43
            refine stSeq (reg ?_)
            refine lc (.bool ((((n32 : Nat) : Int) : Int) == 3)) ?_
            refine la ?_
            refine liNil (qThen ?_)
            refine stCond rfl (fun hc50 => ?_) (fun hc50 => ?_)
            · have hk : n32 = 3 := eqb_yes hc50
              refine stSeq (reg ?_)
              refine lm ?_
              refine li rfl ?_
              refine opK [0] [cRd X br (r232)] (fun w hM hO => (rsRItems_v X br r232 16384 w hO (by omega)).mono ?_)
              rintro e w' ⟨B53, cb53, l53, r253, rfl, hP, heq53⟩
              refine ⟨_, [cRd X br (r253)], _, rfl, hP, rfl, ?_⟩; clear hP hM hO
              have hil := Rd.items_len r232 16384; rw [heq53] at hil; dsimp only at hil
              refine la ?_
              refine liNil (qThen (reg ?_))
              refine lm ?_
              refine lm ?_
              refine li rfl ?_
              refine opK [0] [cRd X br (r253)] (fun w hM hO => (rsRItems_v X br r253 16384 w hO (by omega)).mono ?_)
              rintro e w' ⟨B56, cb56, l56, r256, rfl, hP, heq56⟩
              refine ⟨_, [cRd X br (r256)], _, rfl, hP, rfl, ?_⟩; clear hP hM hO
              have hil2 := Rd.items_len r253 16384; rw [heq56] at hil2; dsimp only at hil2
              refine lc (.agg #[(.slice B53 ((l53).length) (cb53)), (.slice B56 ((l56).length) (cb56))]) ?_
              refine lc (.iface 92 (.agg #[(.slice B53 ((l53).length) (cb53)), (.slice B56 ((l56).length) (cb56))])) ?_
              refine lc (.pointer (some ⟨b6, 2, none⟩)) ?_
              refine li rfl ?_
              refine opStore1 2 rfl rfl (by kernel_rfl) rfl rfl rfl (by kernel_rfl) rfl (by simp) ?_
              refine liNil (qBlock (qThen (stSeq ?_)))
              refine St.to [cRd X br (r256), cAt b2 76 [(.string ⟨#[]⟩), (.string ⟨#[]⟩), .nilIface], cAt b6 76 [(.string (strOf t9)), (.string (strOf t11)), (.iface 92 (.agg #[(.slice B53 ((l53).length) (cb53)), (.slice B56 ((l56).length) (cb56))]))], cOwn 9 1 B53 ((l53).length) (cb53) (SS (l53)), cOwn 9 1 B56 ((l56).length) (cb56) (SS (l56))] (by kernel_rfl) ?_
              refine anyBegin [cRd X br (r256), cAt b6 76 [(.string (strOf t9)), (.string (strOf t11)), (.iface 92 (.agg #[(.slice B53 ((l53).length) (cb53)), (.slice B56 ((l56).length) (cb56))]))], cOwn 9 1 B53 ((l53).length) (cb53) (SS (l53)), cOwn 9 1 B56 ((l56).length) (cb56) (SS (l56))] 8 (by kernel_rfl) (fun _ h => h.sub (.cons_cons _ (.cons _ (.cons_cons _ (.cons_cons _ (.cons_cons _ .slnil)))))) ?_
              refine av 0 (.agg #[(.string (strOf t9)), (.string (strOf t11)), (.iface 92 (.agg #[(.slice B53 ((l53).length) (cb53)), (.slice B56 ((l56).length) (cb56))]))]) rfl (rLoadA [(.string (strOf t9)), (.string (strOf t11)), (.iface 92 (.agg #[(.slice B53 ((l53).length) (cb53)), (.slice B56 ((l56).length) (cb56))]))] rfl rfl (by kernel_rfl) (by kernel_rfl) (segAt (i := 1) rfl (by intro j v hj; first | (rw [Nat.zero_add]; exact hj) | (match j, hj with | 0, h => exact h | 1, h => exact h | 2, h => exact h)))) ?_
              refine ac 1 (.pointer (some ⟨b6, 2, none⟩)) ?_
              refine av 2 (.iface 92 (.agg #[(.slice B53 ((l53).length) (cb53)), (.slice B56 ((l56).length) (cb56))])) rfl (rLoad 1 rfl rfl (by kernel_rfl) rfl rfl) ?_
              refine ac 3 (.pointer (some ⟨b6, 0, none⟩)) ?_
              refine av 4 (.agg #[(.string (strOf t9)), (.string (strOf t11))]) rfl (rLoadA [(.string (strOf t9)), (.string (strOf t11))] rfl rfl (by kernel_rfl) (by kernel_rfl) (segAt (i := 1) rfl (by intro j v hj; first | (rw [Nat.zero_add]; exact hj) | (match j, hj with | 0, h => exact h | 1, h => exact h)))) ?_
              refine a1 5 ?_
              refine opK0 (fun w hM => (rsAFits_any B53 cb53 l53 B56 cb56 l56 t9 t11 w (hM.keep0 (j := 3) rfl (fun _ h => RowIn.of_own h)) (hM.keep0 (j := 4) rfl (fun _ h => RowIn.of_own h)) (by omega) (by omega)).mono ?_)
              rintro e w' ⟨rfl, hP⟩
              refine ⟨_, _, rfl, hP, ?_⟩; clear hP hM
              refine anyNext [cRd X br (r256), cAt b6 76 [(.string (strOf t9)), (.string (strOf t11)), (.iface 92 (.agg #[(.slice B53 ((l53).length) (cb53)), (.slice B56 ((l56).length) (cb56))]))], cOwn 9 1 B53 ((l53).length) (cb53) (SS (l53)), cOwn 9 1 B56 ((l56).length) (cb56) (SS (l56))] (fun _ h => h) (fun _ h => h.sub (.cons_cons _ (.cons _ (.cons_cons _ (.cons_cons _ (.cons_cons _ .slnil)))))) ?_
              refine a1 6 ?_
              refine opStoreN 1 [(.string (strOf t9)), (.string (strOf t11)), (.iface 92 (.agg #[(.slice B53 ((l53).length) (cb53)), (.slice B56 ((l56).length) (cb56))]))] (vs := [(.string (strOf t9)), (.string (strOf t11)), (.iface 92 (.agg #[(.slice B53 ((l53).length) (cb53)), (.slice B56 ((l56).length) (cb56))]))]) rfl rfl (by kernel_rfl) rfl rfl rfl (by kernel_rfl) rfl (by simp) (by simp [Value.oneCell']) rfl ?_
              refine St.to [cRd X br (r256), cAt b2 76 [(.string (strOf t9)), (.string (strOf t11)), (.iface 92 (.agg #[(.slice B53 ((l53).length) (cb53)), (.slice B56 ((l56).length) (cb56))]))], cAt b6 76 [(.string (strOf t9)), (.string (strOf t11)), (.iface 92 (.agg #[(.slice B53 ((l53).length) (cb53)), (.slice B56 ((l56).length) (cb56))]))], cOwn 9 1 B53 ((l53).length) (cb53) (SS (l53)), cOwn 9 1 B56 ((l56).length) (cb56) (SS (l56))] (by kernel_rfl) ?_
              refine anyNext [cRd X br (r256), cAt b6 76 [(.string (strOf t9)), (.string (strOf t11)), (.iface 92 (.agg #[(.slice B53 ((l53).length) (cb53)), (.slice B56 ((l56).length) (cb56))]))], cOwn 9 1 B53 ((l53).length) (cb53) (SS (l53)), cOwn 9 1 B56 ((l56).length) (cb56) (SS (l56))] (fun _ h => h) (fun _ h => h.sub (.cons_cons _ (.cons _ (.cons_cons _ (.cons_cons _ (.cons_cons _ .slnil)))))) ?_
              refine aa 7 ?_
              refine anyDone (by kernel_rfl) ?_
              refine qThen (stRet ?_)
              refine stEnd [(.agg #[(.string (strOf t9)), (.string (strOf t11)), (.iface 92 (.agg #[(.slice B53 ((l53).length) (cb53)), (.slice B56 ((l56).length) (cb56))]))]), (.bool (ordOk l53 t9 t11 && ordOk l56 t9 t11))] rfl ⟨⟨_, rfl, fun w hM => run_loadVarA (by kernel_rfl) (by kernel_rfl) (segAt (i := 1) (off := 0) rfl (by intro j v hj; rw [Nat.zero_add]; exact hj) w hM)⟩, rfl, trivial⟩ (fun w hM => ?_)
              have hp : r.part = (if (ordOk l53 t9 t11 && ordOk l56 t9 t11) then some (PV.mk t9 t11 (.ans B53 cb53 l53 B56 cb56 l56)).abs else none, r256) := hp0.trans (Rd.body_ans heq32 hk heq53 heq56)
              replace hM : Mm _ _ [cRd X br (r256), cAt b2 76 [(.string (strOf t9)), (.string (strOf t11)), (.iface 92 (.agg #[(.slice B53 ((l53).length) (cb53)), (.slice B56 ((l56).length) (cb56))]))], cAt b6 76 [(.string (strOf t9)), (.string (strOf t11)), (.iface 92 (.agg #[(.slice B53 ((l53).length) (cb53)), (.slice B56 ((l56).length) (cb56))]))], cBag ([(B53, l53)]), cOwn 9 1 B56 ((l56).length) (cb56) (SS (l56))] w := hM.toBag 3 rfl
              replace hM : Mm _ _ [cRd X br (r256), cAt b2 76 [(.string (strOf t9)), (.string (strOf t11)), (.iface 92 (.agg #[(.slice B53 ((l53).length) (cb53)), (.slice B56 ((l56).length) (cb56))]))], cAt b6 76 [(.string (strOf t9)), (.string (strOf t11)), (.iface 92 (.agg #[(.slice B53 ((l53).length) (cb53)), (.slice B56 ((l56).length) (cb56))]))], cBag ([(B53, l53)]), cBag ([(B56, l56)])] w := hM.toBag 4 rfl
              refine ⟨[(.string (strOf t9)), (.string (strOf t11)), (.iface 92 (.agg #[(.slice B53 ((l53).length) (cb53)), (.slice B56 ((l56).length) (cb56))]))], [(B53, l53), (B56, l56)], _, _, ret_part _ _, Mm.join (cs := [_]) (L := [(B53, l53)]) (M := [(B56, l56)]) ((fun (w : World) (h : Mm _ _ _ w) => Mm.sub h (.cons_cons _ (.cons _ (.cons _ (.cons_cons _ (.cons_cons _ .slnil)))))) w hM), hp, ⟨rfl, ones3 rfl rfl rfl⟩, fun p hp => ⟨PV.mk t9 t11 (.ans B53 cb53 l53 B56 cb56 l56), rfl, part_of hp, fun q hq => hq⟩⟩
            · have hn3 : ¬ n32 = 3 := eqb_no hc50
              refine stSeq (reg ?_)
              refine lc (.agg #[(.string ⟨#[]⟩), (.string ⟨#[]⟩), .nilIface]) ?_
              refine li rfl ?_
              refine opStoreN 1 [(.string ⟨#[]⟩), (.string ⟨#[]⟩), .nilIface] (vs := [(.string ⟨#[]⟩), (.string ⟨#[]⟩), .nilIface]) rfl rfl (by kernel_rfl) rfl rfl rfl (by kernel_rfl) rfl (by simp) (by simp [Value.oneCell']) rfl ?_
              refine la ?_
              refine liNil (qThen (stRet (qBlockR (qThenR ?_))))
              refine stEnd [(.agg #[(.string ⟨#[]⟩), (.string ⟨#[]⟩), .nilIface]), (.bool false)] rfl ⟨⟨_, rfl, fun w hM => run_loadVarA (by kernel_rfl) (by kernel_rfl) (segAt (i := 1) (off := 0) rfl (by intro j v hj; rw [Nat.zero_add]; exact hj) w hM)⟩, rfl, trivial⟩ (fun w hM => ?_)
              have hp : r.part = (none, r232) := hp0.trans (Rd.body_none heq32 hn1 hn2 hn3)
              exact ⟨[(.string ⟨#[]⟩), (.string ⟨#[]⟩), .nilIface], [], none, r232, rfl, Mm.noBag ((fun (w : World) (h : Mm _ _ _ w) => Mm.sub h (.cons_cons _ (.cons _ (.cons _ .slnil)))) w hM), hp, ⟨rfl, ones3 rfl rfl rfl⟩, fun p hp => by cases hp⟩

end Go.Proofs.YtlepfnihpdhcaaaGreatDoor
