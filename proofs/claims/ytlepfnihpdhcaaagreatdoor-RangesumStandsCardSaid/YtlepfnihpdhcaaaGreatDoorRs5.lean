/- rangesum: what a message leads to. -/
import Derived.Test.YtlepfnihpdhcaaaGreatDoorRs3
import Derived.Test.YtlepfnihpdhcaaaGreatDoorRs4
import Derived.Test.YtlepfnihpdhcaaaGreatDoorSetCh
namespace Go.Proofs.YtlepfnihpdhcaaaGreatDoor
open Go.RowKit

set_option maxRecDepth 100000 in
set_option maxHeartbeats 1000000 in
theorem rsLearn_any (bs : Nat) (A : Option Addr) (c : Nat) (its : List (List UInt8)) (fan : Nat) (leaf : Nat) (nm : Nat) (om : Nat) (A1 : Option Addr) (c1 : Nat) (l : List (List UInt8)) (A2 : Option Addr) (c2 : Nat) (m : List (List UInt8)) (bo : Nat) (R : Value) (N : Option Addr) (nc : Nat) (nl : List (List UInt8)) (O : Option Addr) (oc : Nat) (ol : List (List UInt8)) (w : World) (hO : Own [cAt bo 85 [R, (.slice N ((nl).length) (nc)), (.slice O ((ol).length) (oc))], cOwn 9 1 N ((nl).length) (nc) (SS (nl)), cOwn 9 1 O ((ol).length) (oc) (SS (ol))] w) (r0 : Rf [cAt bo 85 [R, (.slice N ((nl).length) (nc)), (.slice O ((ol).length) (oc))], cOwn 9 1 N ((nl).length) (nc) (SS (nl)), cOwn 9 1 O ((ol).length) (oc) (SS (ol))] w (SessAt bs A c its fan leaf nm om)) (r1 : Rf [cAt bo 85 [R, (.slice N ((nl).length) (nc)), (.slice O ((ol).length) (oc))], cOwn 9 1 N ((nl).length) (nc) (SS (nl)), cOwn 9 1 O ((ol).length) (oc) (SS (ol))] w (fun w => RowIn w A1 (SS l))) (r2 : Rf [cAt bo 85 [R, (.slice N ((nl).length) (nc)), (.slice O ((ol).length) (oc))], cOwn 9 1 N ((nl).length) (nc) (SS (nl)), cOwn 9 1 O ((ol).length) (oc) (SS (ol))] w (fun w => RowIn w A2 (SS m))) (hs : okSet its) (hn : its.length ≤ 1000) (hl : l.length ≤ 4294967296) (hm : m.length ≤ 4294967296) (hnl : nl.length ≤ 68719476736) (hol : ol.length ≤ 68719476736) (hR : R.oneCell' = true) :
    Calls Tryz.prog 43 #[(.pointer (some ⟨bs, 0, none⟩)), (.agg #[(.slice A1 (l.length) (c1)), (.slice A2 (m.length) (c2))]), (.pointer (some ⟨bo, 0, none⟩))] w fun e w' => ∃ (N2 : Option Addr) (nc2 : Nat) (O2 : Option Addr) (oc2 : Nat), e = .returned (.tuple #[]) ∧ Back [cAt bo 85 [R, (.slice N ((nl).length) (nc)), (.slice O ((ol).length) (oc))], cOwn 9 1 N ((nl).length) (nc) (SS (nl)), cOwn 9 1 O ((ol).length) (oc) (SS (ol))] w [cAt bo 85 [R, (.slice N2 ((nl ++ without l its).length) (nc2)), (.slice O2 ((ol ++ keepIn m its).length) (oc2))], cOwn 9 1 N2 ((nl ++ without l its).length) (nc2) (SS (nl ++ without l its)), cOwn 9 1 O2 ((ol ++ keepIn m its).length) (oc2) (SS (ol ++ keepIn m its))] w' := by
  have ra := r0.imp (fun _ h => h.1)
  have rb := r0.imp (fun _ h => h.2)
  have _u0 := r0
  have _u1 := r1
  have _u2 := r2
  have _u3 := hs
  have _u4 := hn
  have _u5 := hl
  have _u6 := hm
  have _u7 := hnl
  have _u8 := hol
  have _u9 := hR
  clear _u0 _u1 _u2 _u3 _u4 _u5 _u6 _u7 _u8 _u9
  refine stEnter (args := [(.pointer (some ⟨bs, 0, none⟩)), (.agg #[(.slice A1 (l.length) (c1)), (.slice A2 (m.length) (c2))]), (.pointer (some ⟨bo, 0, none⟩))]) (fps [cAt bo 85 [R, (.slice N ((nl).length) (nc)), (.slice O ((ol).length) (oc))], cOwn 9 1 N ((nl).length) (nc) (SS (nl)), cOwn 9 1 O ((ol).length) (oc) (SS (ol))]) Tryz.func43 rfl 53 rfl [(0, (.pointer (some ⟨bs, 0, none⟩))), (1, (.agg #[(.slice A1 (l.length) (c1)), (.slice A2 (m.length) (c2))])), (2, (.pointer (some ⟨bo, 0, none⟩)))] ⟨rfl, rfl, rfl, trivial⟩ [cAt bo 85 [R, (.slice N ((nl).length) (nc)), (.slice O ((ol).length) (oc))], cOwn 9 1 N ((nl).length) (nc) (SS (nl)), cOwn 9 1 O ((ol).length) (oc) (SS (ol))] (hO) ?_
  refine stSeq (reg (li rfl ?_))
  refine opBox [(.slice A1 (l.length) (c1)), (.slice A2 (m.length) (c2))] rfl rfl (by kernel_rfl) rfl rfl (fun b4 => ?_)
  refine liNil (qThen (stSeq (stSeq (reg ?_))))
  refine lc (.pointer (some ⟨b4, 0, none⟩)) ?_
  refine lv (v := (.slice A1 (l.length) (c1))) (rLoad 3 rfl rfl (by kernel_rfl) rfl rfl) ?_
  refine lc (.int .i64 ((l.length : Nat) : Int)) ?_
  refine lm ?_
  refine liNil (qThen (stBlock ?_))
  refine stLoop (ι := Nat × Option Addr × Nat) (fun (i, N28, nc28) => i ≤ l.length) (fun (i, N28, nc28) => l.length - i) (fun (i, N28, nc28) => [(0, (.pointer (some ⟨bs, 0, none⟩))), (2, (.pointer (some ⟨bo, 0, none⟩))), (4, (.pointer (some ⟨b4, 0, none⟩))), (11, (.slice A1 (l.length) (c1))), (12, (.int .i64 ((l.length : Nat) : Int))), (13, (.int .i64 ((i : Nat) : Int)))]) (fun (i, N28, nc28) => [cAt bo 85 [R, (.slice N28 ((nl ++ without (l.take i) its).length) (nc28)), (.slice O ((ol).length) (oc))], cOwn 9 1 N28 ((nl ++ without (l.take i) its).length) (nc28) (SS (nl ++ without (l.take i) its)), cOwn 9 1 O ((ol).length) (oc) (SS (ol)), cAt b4 92 [(.slice A1 (l.length) (c1)), (.slice A2 (m.length) (c2))]]) (0, N, nc) (Nat.zero_le _) ⟨rfl, rfl, rfl, rfl, rfl, rfl, trivial⟩ (fun w hM => by show Mm _ _ [cAt bo 85 [R, (.slice N ((nl ++ without (l.take 0) its).length) (nc)), (.slice O ((ol).length) (oc))], cOwn 9 1 N ((nl ++ without (l.take 0) its).length) (nc) (SS (nl ++ without (l.take 0) its)), cOwn 9 1 O ((ol).length) (oc) (SS (ol)), cAt b4 92 [(.slice A1 (l.length) (c1)), (.slice A2 (m.length) (c2))]] w; rw [show nl ++ without (l.take 0) its = nl from List.append_nil _]; exact hM) ?_
  rintro ⟨i, N28, nc28⟩ (hok : i ≤ l.length)
  show St _ _ _ [(0, (.pointer (some ⟨bs, 0, none⟩))), (2, (.pointer (some ⟨bo, 0, none⟩))), (4, (.pointer (some ⟨b4, 0, none⟩))), (11, (.slice A1 (l.length) (c1))), (12, (.int .i64 ((l.length : Nat) : Int))), (13, (.int .i64 ((i : Nat) : Int)))] [cAt bo 85 [R, (.slice N28 ((nl ++ without (l.take i) its).length) (nc28)), (.slice O ((ol).length) (oc))], cOwn 9 1 N28 ((nl ++ without (l.take i) its).length) (nc28) (SS (nl ++ without (l.take i) its)), cOwn 9 1 O ((ol).length) (oc) (SS (ol)), cAt b4 92 [(.slice A1 (l.length) (c1)), (.slice A2 (m.length) (c2))]] _
  refine stSeq (reg ?_)
  refine lc (.bool (decide (((i : Nat) : Int) < ((l.length : Nat) : Int)))) ?_
  refine liNil (qThen (stSeq ?_))
  refine stCond rfl (fun hc14 => ?_) (fun hc14 => ?_)
  · have hd14 := of_decide_eq_true hc14
    refine stSkip (qThen (stSeq (stBlock (stSeq (reg ?_)))))
    obtain ⟨x0, hx0⟩ : ∃ ξ, (l)[i]? = some ξ := ⟨_, List.getElem?_eq_getElem (by omega)⟩
    refine St.rowPtr (fun w hM => r1.now hM) (SS_at hx0) (fun p15 q15 hA15 hc15 => ?_)
    refine lv (v := (.pointer (some ⟨p15, q15 + i, none⟩))) (rIndexRow (e := 9) rfl (by kernel_rfl) (by kernel_rfl) rfl rfl hA15 (by omega)) ?_
    refine lv (v := (.string (strOf x0))) (rLoadW rfl rfl (by kernel_rfl) hc15) ?_
    refine la ?_
    refine liNil (qThen (stSeq (reg ?_)))
    refine lm ?_
    refine lm ?_
    refine li rfl ?_
    refine opK0 (fun w hM => (rsSHas_any bs A c its fan leaf nm om x0 w (r0.go0 hM) (by assumption) (by assumption)).mono ?_)
    rintro e w' ⟨rfl, hP⟩
    refine ⟨_, _, rfl, hP, ?_⟩; clear hP hM
    refine lc (.bool (!(its.contains x0))) ?_
    refine liNil (qThen ?_)
    refine stCond rfl (fun hc20 => ?_) (fun hc20 => ?_)
    · refine reg ?_
      refine lm ?_
      refine lm ?_
      refine lc (.pointer (some ⟨bo, 0, none⟩)) ?_
      refine lc (.pointer (some ⟨bo, 1, none⟩)) ?_
      refine lv (v := (.slice N28 ((nl ++ without (l.take i) its).length) (nc28))) (rLoad 0 rfl rfl (by kernel_rfl) rfl rfl) ?_
      refine lm ?_
      refine li rfl ?_
      refine opNew (v := fun b => .slice (some ⟨b, 0, none⟩) 1 1) 9 [(.string (strOf x0))] rfl (by kernel_rfl) (fun _ => by kernel_rfl) (fun b27 => ?_)
      refine li rfl ?_
      refine opAppend el_strC 1 ([(.string (strOf x0))]) rfl rfl (by kernel_rfl) rfl rfl rfl (rfl) (srcAt (i := 4) rfl (fun j v h => by rw [Nat.zero_add]; exact h)) (by simp [Value.oneCell']) (by have h := without_len (l.take i) its; simp only [List.length_append, List.length_take] at *; omega) ((nl ++ without (l.take i) its ++ [x0]).length) (by first | exact (List.length_append ..).symm | (simp; done) | (simp; omega)) (SS (nl ++ without (l.take i) its ++ [x0])) (by simp [SS]) (fun A28 c28 => ?_)
      refine lc (.pointer (some ⟨bo, 0, none⟩)) ?_
      refine lc (.pointer (some ⟨bo, 1, none⟩)) ?_
      refine li rfl ?_
      refine opStore1 0 rfl rfl (by kernel_rfl) rfl rfl rfl (by kernel_rfl) rfl (by simp) ?_
      refine St.to [cAt bo 85 [R, (.slice A28 ((nl ++ without (l.take i) its ++ [x0]).length) (c28)), (.slice O ((ol).length) (oc))], cOwn 9 1 A28 ((nl ++ without (l.take i) its ++ [x0]).length) (c28) (SS (nl ++ without (l.take i) its ++ [x0])), cOwn 9 1 O ((ol).length) (oc) (SS (ol)), cAt b4 92 [(.slice A1 (l.length) (c1)), (.slice A2 (m.length) (c2))], cAt b27 9 [(.string (strOf x0))]] (by kernel_rfl) ?_
      refine liNil (qBlock (qThen (reg ?_)))
      refine lv (v := (.int .i64 ((i + 1 : Nat) : Int))) (rAdd _ rfl rfl rfl (by omega) (by omega) (by omega)) ?_
      refine lm ?_
      refine liNil (qThen ?_)
      rw [show nl ++ without (l.take i) its ++ [x0] = nl ++ without (l.take (i + 1)) its from by rw [List.append_assoc, without_yes hx0 (by simpa using hc20)]]
      exact stAgain (i + 1, A28, c28) (by show _ ≤ _; omega) (by show l.length - (i + 1) < l.length - i; omega) ⟨rfl, rfl, rfl, rfl, rfl, rfl, trivial⟩ (fun w hM => by show Mm _ _ [cAt bo 85 [R, (.slice A28 ((nl ++ without (l.take (i + 1)) its).length) (c28)), (.slice O ((ol).length) (oc))], cOwn 9 1 A28 ((nl ++ without (l.take (i + 1)) its).length) (c28) (SS (nl ++ without (l.take (i + 1)) its)), cOwn 9 1 O ((ol).length) (oc) (SS (ol)), cAt b4 92 [(.slice A1 (l.length) (c1)), (.slice A2 (m.length) (c2))]] w; exact (fun (w : World) (h : Mm _ _ _ w) => Mm.sub h (.cons_cons _ (.cons_cons _ (.cons_cons _ (.cons_cons _ (.cons _ .slnil)))))) w hM)
    · refine stSkip (qBlock (qThen (reg ?_)))
      refine lv (v := (.int .i64 ((i + 1 : Nat) : Int))) (rAdd _ rfl rfl rfl (by omega) (by omega) (by omega)) ?_
      refine lm ?_
      refine liNil (qThen ?_)
      rw [show nl ++ without (l.take i) its = nl ++ without (l.take (i + 1)) its from by rw [without_no hx0 (by simpa using hc20)]]
      exact stAgain (i + 1, N28, nc28) (by show _ ≤ _; omega) (by show l.length - (i + 1) < l.length - i; omega) ⟨rfl, rfl, rfl, rfl, rfl, rfl, trivial⟩ (fun w hM => by show Mm _ _ [cAt bo 85 [R, (.slice N28 ((nl ++ without (l.take (i + 1)) its).length) (nc28)), (.slice O ((ol).length) (oc))], cOwn 9 1 N28 ((nl ++ without (l.take (i + 1)) its).length) (nc28) (SS (nl ++ without (l.take (i + 1)) its)), cOwn 9 1 O ((ol).length) (oc) (SS (ol)), cAt b4 92 [(.slice A1 (l.length) (c1)), (.slice A2 (m.length) (c2))]] w; exact hM)
  · have hd14 := of_decide_eq_false hc14
    obtain rfl : i = l.length := by omega
    rw [List.take_length]
    refine stExit (qThenX (qThenX (qBlockX (qThen (stSeq (reg ?_))))))
    refine lc (.pointer (some ⟨b4, 1, none⟩)) ?_
    refine lv (v := (.slice A2 (m.length) (c2))) (rLoad 3 rfl rfl (by kernel_rfl) rfl rfl) ?_
    refine lc (.int .i64 ((m.length : Nat) : Int)) ?_
    refine lm ?_
    refine liNil (qThen (stBlock ?_))
    refine stLoop (ι := Nat × Option Addr × Nat) (fun (i, N49, nc49) => i ≤ m.length) (fun (i, N49, nc49) => m.length - i) (fun (i, N49, nc49) => [(0, (.pointer (some ⟨bs, 0, none⟩))), (2, (.pointer (some ⟨bo, 0, none⟩))), (33, (.slice A2 (m.length) (c2))), (34, (.int .i64 ((m.length : Nat) : Int))), (35, (.int .i64 ((i : Nat) : Int)))]) (fun (i, N49, nc49) => [cAt bo 85 [R, (.slice N28 ((nl ++ without l its).length) (nc28)), (.slice N49 ((ol ++ keepIn (m.take i) its).length) (nc49))], cOwn 9 1 N28 ((nl ++ without l its).length) (nc28) (SS (nl ++ without l its)), cOwn 9 1 N49 ((ol ++ keepIn (m.take i) its).length) (nc49) (SS (ol ++ keepIn (m.take i) its)), cAt b4 92 [(.slice A1 (l.length) (c1)), (.slice A2 (m.length) (c2))]]) (0, O, oc) (Nat.zero_le _) ⟨rfl, rfl, rfl, rfl, rfl, trivial⟩ (fun w hM => by show Mm _ _ [cAt bo 85 [R, (.slice N28 ((nl ++ without l its).length) (nc28)), (.slice O ((ol ++ keepIn (m.take 0) its).length) (oc))], cOwn 9 1 N28 ((nl ++ without l its).length) (nc28) (SS (nl ++ without l its)), cOwn 9 1 O ((ol ++ keepIn (m.take 0) its).length) (oc) (SS (ol ++ keepIn (m.take 0) its)), cAt b4 92 [(.slice A1 (l.length) (c1)), (.slice A2 (m.length) (c2))]] w; rw [show ol ++ keepIn (m.take 0) its = ol from List.append_nil _]; exact hM) ?_
    rintro ⟨i, N49, nc49⟩ (hok : i ≤ m.length)
    show St _ _ _ [(0, (.pointer (some ⟨bs, 0, none⟩))), (2, (.pointer (some ⟨bo, 0, none⟩))), (33, (.slice A2 (m.length) (c2))), (34, (.int .i64 ((m.length : Nat) : Int))), (35, (.int .i64 ((i : Nat) : Int)))] [cAt bo 85 [R, (.slice N28 ((nl ++ without l its).length) (nc28)), (.slice N49 ((ol ++ keepIn (m.take i) its).length) (nc49))], cOwn 9 1 N28 ((nl ++ without l its).length) (nc28) (SS (nl ++ without l its)), cOwn 9 1 N49 ((ol ++ keepIn (m.take i) its).length) (nc49) (SS (ol ++ keepIn (m.take i) its)), cAt b4 92 [(.slice A1 (l.length) (c1)), (.slice A2 (m.length) (c2))]] _
    refine stSeq (reg ?_)
    refine lc (.bool (decide (((i : Nat) : Int) < ((m.length : Nat) : Int)))) ?_
    refine liNil (qThen (stSeq ?_))
    refine stCond rfl (fun hc36 => ?_) (fun hc36 => ?_)
    · have hd36 := of_decide_eq_true hc36
      refine stSkip (qThen (stSeq (stBlock (stSeq (reg ?_)))))
      obtain ⟨x0, hx0⟩ : ∃ ξ, (m)[i]? = some ξ := ⟨_, List.getElem?_eq_getElem (by omega)⟩
      refine St.rowPtr (fun w hM => r2.now hM) (SS_at hx0) (fun p37 q37 hA37 hc37 => ?_)
      refine lv (v := (.pointer (some ⟨p37, q37 + i, none⟩))) (rIndexRow (e := 9) rfl (by kernel_rfl) (by kernel_rfl) rfl rfl hA37 (by omega)) ?_
      refine lv (v := (.string (strOf x0))) (rLoadW rfl rfl (by kernel_rfl) hc37) ?_
      refine la ?_
      refine liNil (qThen (stSeq (reg ?_)))
      refine lm ?_
      refine lm ?_
      refine li rfl ?_
      refine opK0 (fun w hM => (rsSHas_any bs A c its fan leaf nm om x0 w (r0.go0 hM) (by assumption) (by assumption)).mono ?_)
      rintro e w' ⟨rfl, hP⟩
      refine ⟨_, _, rfl, hP, ?_⟩; clear hP hM
      refine liNil (qThen ?_)
      refine stCond rfl (fun hc41 => ?_) (fun hc41 => ?_)
      · refine reg ?_
        refine lm ?_
        refine lm ?_
        refine lc (.pointer (some ⟨bo, 0, none⟩)) ?_
        refine lc (.pointer (some ⟨bo, 2, none⟩)) ?_
        refine lv (v := (.slice N49 ((ol ++ keepIn (m.take i) its).length) (nc49))) (rLoad 0 rfl rfl (by kernel_rfl) rfl rfl) ?_
        refine lm ?_
        refine li rfl ?_
        refine opNew (v := fun b => .slice (some ⟨b, 0, none⟩) 1 1) 9 [(.string (strOf x0))] rfl (by kernel_rfl) (fun _ => by kernel_rfl) (fun b48 => ?_)
        refine li rfl ?_
        refine opAppend el_strC 2 ([(.string (strOf x0))]) rfl rfl (by kernel_rfl) rfl rfl rfl (rfl) (srcAt (i := 4) rfl (fun j v h => by rw [Nat.zero_add]; exact h)) (by simp [Value.oneCell']) (by have h := keepIn_len (m.take i) its; simp only [List.length_append, List.length_take] at *; omega) ((ol ++ keepIn (m.take i) its ++ [x0]).length) (by first | exact (List.length_append ..).symm | (simp; done) | (simp; omega)) (SS (ol ++ keepIn (m.take i) its ++ [x0])) (by simp [SS]) (fun A49 c49 => ?_)
        refine lc (.pointer (some ⟨bo, 0, none⟩)) ?_
        refine lc (.pointer (some ⟨bo, 2, none⟩)) ?_
        refine li rfl ?_
        refine opStore1 0 rfl rfl (by kernel_rfl) rfl rfl rfl (by kernel_rfl) rfl (by simp) ?_
        refine St.to [cAt bo 85 [R, (.slice N28 ((nl ++ without l its).length) (nc28)), (.slice A49 ((ol ++ keepIn (m.take i) its ++ [x0]).length) (c49))], cOwn 9 1 N28 ((nl ++ without l its).length) (nc28) (SS (nl ++ without l its)), cOwn 9 1 A49 ((ol ++ keepIn (m.take i) its ++ [x0]).length) (c49) (SS (ol ++ keepIn (m.take i) its ++ [x0])), cAt b4 92 [(.slice A1 (l.length) (c1)), (.slice A2 (m.length) (c2))], cAt b48 9 [(.string (strOf x0))]] (by kernel_rfl) ?_
        refine liNil (qBlock (qThen (reg ?_)))
        refine lv (v := (.int .i64 ((i + 1 : Nat) : Int))) (rAdd _ rfl rfl rfl (by omega) (by omega) (by omega)) ?_
        refine lm ?_
        refine liNil (qThen ?_)
        rw [show ol ++ keepIn (m.take i) its ++ [x0] = ol ++ keepIn (m.take (i + 1)) its from by rw [List.append_assoc, keepIn_yes hx0 hc41]]
        exact stAgain (i + 1, A49, c49) (by show _ ≤ _; omega) (by show m.length - (i + 1) < m.length - i; omega) ⟨rfl, rfl, rfl, rfl, rfl, trivial⟩ (fun w hM => by show Mm _ _ [cAt bo 85 [R, (.slice N28 ((nl ++ without l its).length) (nc28)), (.slice A49 ((ol ++ keepIn (m.take (i + 1)) its).length) (c49))], cOwn 9 1 N28 ((nl ++ without l its).length) (nc28) (SS (nl ++ without l its)), cOwn 9 1 A49 ((ol ++ keepIn (m.take (i + 1)) its).length) (c49) (SS (ol ++ keepIn (m.take (i + 1)) its)), cAt b4 92 [(.slice A1 (l.length) (c1)), (.slice A2 (m.length) (c2))]] w; exact (fun (w : World) (h : Mm _ _ _ w) => Mm.sub h (.cons_cons _ (.cons_cons _ (.cons_cons _ (.cons_cons _ (.cons _ .slnil)))))) w hM)
      · refine stSkip (qBlock (qThen (reg ?_)))
        refine lv (v := (.int .i64 ((i + 1 : Nat) : Int))) (rAdd _ rfl rfl rfl (by omega) (by omega) (by omega)) ?_
        refine lm ?_
        refine liNil (qThen ?_)
        rw [show ol ++ keepIn (m.take i) its = ol ++ keepIn (m.take (i + 1)) its from by rw [keepIn_no hx0 hc41]]
        exact stAgain (i + 1, N49, nc49) (by show _ ≤ _; omega) (by show m.length - (i + 1) < m.length - i; omega) ⟨rfl, rfl, rfl, rfl, rfl, trivial⟩ (fun w hM => by show Mm _ _ [cAt bo 85 [R, (.slice N28 ((nl ++ without l its).length) (nc28)), (.slice N49 ((ol ++ keepIn (m.take (i + 1)) its).length) (nc49))], cOwn 9 1 N28 ((nl ++ without l its).length) (nc28) (SS (nl ++ without l its)), cOwn 9 1 N49 ((ol ++ keepIn (m.take (i + 1)) its).length) (nc49) (SS (ol ++ keepIn (m.take (i + 1)) its)), cAt b4 92 [(.slice A1 (l.length) (c1)), (.slice A2 (m.length) (c2))]] w; exact hM)
    · have hd36 := of_decide_eq_false hc36
      obtain rfl : i = m.length := by omega
      rw [List.take_length]
      refine stExit (qThenX (qThenX (qBlockX ?_)))
      refine stEndN [] rfl trivial (fun w hM => ?_)
      exact ⟨N28, nc28, N49, nc49, rfl, (fun (w : World) (h : Mm _ _ _ w) => Mm.sub h (.cons_cons _ (.cons_cons _ (.cons_cons _ (.cons _ .slnil))))) w hM⟩

end Go.Proofs.YtlepfnihpdhcaaaGreatDoor
