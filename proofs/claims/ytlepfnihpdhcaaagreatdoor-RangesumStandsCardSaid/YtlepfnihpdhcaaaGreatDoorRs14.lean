/- The statements' example. -/
import Derived.Test.YtlepfnihpdhcaaaGreatDoorRs13
import Derived.Test.YtlepfnihpdhcaaaGreatDoorRsTh2
namespace Go.Proofs.YtlepfnihpdhcaaaGreatDoor
open Go.RowKit

theorem lsItemN_any (n : Nat) (w : World) (hn : n < 256) :
    Calls Tryz.prog 33 #[(.int .u8 ((n : Nat) : Int))] w fun e w' => e = .returned (.string (strOf (awI n))) ∧ Back [] w [] w' := by
  have h := lsItem_any (UInt8.ofNat n) w
  rw [show (UInt8.ofNat n).toNat = n from by simp; omega] at h
  exact h

set_option maxRecDepth 100000 in
set_option maxHeartbeats 1000000 in
theorem lsAwake_any (w : World) (r0 : Rf [] w (Vars)) :
    Calls Tryz.prog 10 #[] w fun e w' => e = .returned (.bool true) ∧ Back [] w [] w' := by
  refine stEnter (args := []) (fps []) Tryz.func10 rfl 94 rfl [] trivial [] (Mm.start w []) ?_
  refine stSeq (reg ?_)
  refine la ?_
  refine liNil (qThen (stSeq (reg ?_)))
  refine lc (.agg #[(.int .i64 2), (.int .i64 1)]) ?_
  refine li rfl ?_
  refine opAlloc [(.int .i64 0), (.int .i64 0)] rfl rfl (by kernel_rfl) (by kernel_rfl) (fun b1 => ?_)
  refine li rfl ?_
  refine opStoreN 0 [(.int .i64 2), (.int .i64 1)] (vs := [(.int .i64 2), (.int .i64 1)]) rfl rfl (by kernel_rfl) rfl rfl rfl (by kernel_rfl) rfl (by simp) (by simp [Value.oneCell']) rfl ?_
  refine liNil (qThen ?_)
  refine stCut (ι := Nat × Nat × Option Addr × Nat × Option Addr × Nat) (fun _ => True) (fun (b18, b21, B123, cb123, B223, cb223) => [(0, (.bool false)), (13, (.agg #[(.int .i64 2), (.int .i64 1)])), (1, (.pointer (some ⟨b1, 0, none⟩))), (22, (.agg #[(.int .i64 2), (.int .i64 1)])), (15, (.string (strOf (awI 65)))), (16, (.string (strOf (awI 66)))), (17, (.string (strOf (awI 67)))), (18, (.slice (some ⟨b18, 0, none⟩) (([(awI 65), (awI 66), (awI 67)]).length) (3))), (19, (.string (strOf (awI 66)))), (20, (.string (strOf (awI 68)))), (21, (.slice (some ⟨b21, 0, none⟩) (([(awI 66), (awI 68)]).length) (2))), (23, (.tuple #[(.slice B123 ((withL [] (runN [(awI 65), (awI 66), (awI 67)] [(awI 66), (awI 68)] 2 1 1 5).2).length) (cb123)), (.slice B223 ((withL [] (runN [(awI 65), (awI 66), (awI 67)] [(awI 66), (awI 68)] 2 1 1 5).1).length) (cb223)), (.int .i64 ((5 : Nat) : Int)), (.int .i64 (((runB [(awI 65), (awI 66), (awI 67)] [(awI 66), (awI 68)] 2 1 5) : Nat) : Int)), (.int .i64 0)])), (14, (.tuple #[(.slice B123 ((withL [] (runN [(awI 65), (awI 66), (awI 67)] [(awI 66), (awI 68)] 2 1 1 5).2).length) (cb123)), (.slice B223 ((withL [] (runN [(awI 65), (awI 66), (awI 67)] [(awI 66), (awI 68)] 2 1 1 5).1).length) (cb223)), (.int .i64 ((5 : Nat) : Int)), (.int .i64 (((runB [(awI 65), (awI 66), (awI 67)] [(awI 66), (awI 68)] 2 1 5) : Nat) : Int)), (.int .i64 0)])), (24, (.slice B123 ((withL [] (runN [(awI 65), (awI 66), (awI 67)] [(awI 66), (awI 68)] 2 1 1 5).2).length) (cb123))), (25, (.slice B223 ((withL [] (runN [(awI 65), (awI 66), (awI 67)] [(awI 66), (awI 68)] 2 1 1 5).1).length) (cb223))), (26, (.int .i64 ((5 : Nat) : Int))), (27, (.int .i64 (((runB [(awI 65), (awI 66), (awI 67)] [(awI 66), (awI 68)] 2 1 5) : Nat) : Int))), (28, (.int .i64 0)), (2, (.slice B123 ((withL [] (runN [(awI 65), (awI 66), (awI 67)] [(awI 66), (awI 68)] 2 1 1 5).2).length) (cb123))), (3, (.slice B223 ((withL [] (runN [(awI 65), (awI 66), (awI 67)] [(awI 66), (awI 68)] 2 1 1 5).1).length) (cb223))), (4, (.int .i64 ((5 : Nat) : Int))), (5, (.int .i64 (((runB [(awI 65), (awI 66), (awI 67)] [(awI 66), (awI 68)] 2 1 5) : Nat) : Int))), (6, (.int .i64 0))]) (fun (b18, b21, B123, cb123, B223, cb223) => [cAt b1 33 [(.int .i64 2), (.int .i64 1)], cAt b18 9 [(.string (strOf (awI 65))), (.string (strOf (awI 66))), (.string (strOf (awI 67)))], cAt b21 9 [(.string (strOf (awI 66))), (.string (strOf (awI 68)))], cOwn 9 1 B123 ((withL [] (runN [(awI 65), (awI 66), (awI 67)] [(awI 66), (awI 68)] 2 1 1 5).2).length) (cb123) (SS (withL [] (runN [(awI 65), (awI 66), (awI 67)] [(awI 66), (awI 68)] 2 1 1 5).2)), cOwn 9 1 B223 ((withL [] (runN [(awI 65), (awI 66), (awI 67)] [(awI 66), (awI 68)] 2 1 1 5).1).length) (cb223) (SS (withL [] (runN [(awI 65), (awI 66), (awI 67)] [(awI 66), (awI 68)] 2 1 1 5).1))]) ?_ ?_
  · refine St.to [cAt b1 33 [(.int .i64 2), (.int .i64 1)]] (by kernel_rfl) ?_
    refine anyBegin [cAt b1 33 [(.int .i64 2), (.int .i64 1)]] 20 (by kernel_rfl) (fun _ h => h) ?_
    refine av 7 (.agg #[(.int .i64 2), (.int .i64 1)]) rfl (rLoadA [(.int .i64 2), (.int .i64 1)] rfl rfl (by kernel_rfl) (by kernel_rfl) (segAt (i := 0) rfl (by intro j v hj; first | (rw [Nat.zero_add]; exact hj) | (match j, hj with | 0, h => exact h | 1, h => exact h)))) ?_
    refine a1 0 ?_
    refine opK0 (fun w hM => (lsItemN_any 65 w (by decide)).mono ?_)
    rintro e w' ⟨rfl, hP⟩
    refine ⟨_, _, rfl, hP, ?_⟩; clear hP hM
    refine St.to [cAt b1 33 [(.int .i64 2), (.int .i64 1)]] (by kernel_rfl) ?_
    refine anyNext [cAt b1 33 [(.int .i64 2), (.int .i64 1)]] (fun _ h => h) (fun _ h => h) ?_
    refine a1 1 ?_
    refine opK0 (fun w hM => (lsItemN_any 66 w (by decide)).mono ?_)
    rintro e w' ⟨rfl, hP⟩
    refine ⟨_, _, rfl, hP, ?_⟩; clear hP hM
    refine anyNext [cAt b1 33 [(.int .i64 2), (.int .i64 1)]] (fun _ h => h) (fun _ h => h) ?_
    refine a1 2 ?_
    refine opK0 (fun w hM => (lsItemN_any 67 w (by decide)).mono ?_)
    rintro e w' ⟨rfl, hP⟩
    refine ⟨_, _, rfl, hP, ?_⟩; clear hP hM
    refine anyNext [cAt b1 33 [(.int .i64 2), (.int .i64 1)]] (fun _ h => h) (fun _ h => h) ?_
    refine anyTwo (i := 3) (j := 4) (by kernel_rfl) rfl rfl rfl rfl ?_ ?_
    · refine opNew (v := fun b => .slice (some ⟨b, 0, none⟩) 3 3) 9 [(.string (strOf (awI 65))), (.string (strOf (awI 66))), (.string (strOf (awI 67)))] rfl (by kernel_rfl) (fun _ => by kernel_rfl) (fun b18 => ?_)
      refine anyNext [cAt b1 33 [(.int .i64 2), (.int .i64 1)], cAt b18 9 [(.string (strOf (awI 65))), (.string (strOf (awI 66))), (.string (strOf (awI 67)))]] (fun _ h => h.sub (.cons_cons _ (.cons _ .slnil))) (fun _ h => h) ?_
      refine a1 4 ?_
      refine opK0 (fun w hM => (lsItemN_any 66 w (by decide)).mono ?_)
      rintro e w' ⟨rfl, hP⟩
      refine ⟨_, _, rfl, hP, ?_⟩; clear hP hM
      refine St.to [cAt b1 33 [(.int .i64 2), (.int .i64 1)], cAt b18 9 [(.string (strOf (awI 65))), (.string (strOf (awI 66))), (.string (strOf (awI 67)))]] (by kernel_rfl) ?_
      refine anyNext [cAt b1 33 [(.int .i64 2), (.int .i64 1)], cAt b18 9 [(.string (strOf (awI 65))), (.string (strOf (awI 66))), (.string (strOf (awI 67)))]] (fun _ h => h) (fun _ h => h) ?_
      refine a1 5 ?_
      refine opK0 (fun w hM => (lsItemN_any 68 w (by decide)).mono ?_)
      rintro e w' ⟨rfl, hP⟩
      refine ⟨_, _, rfl, hP, ?_⟩; clear hP hM
      refine anyNext [cAt b1 33 [(.int .i64 2), (.int .i64 1)], cAt b18 9 [(.string (strOf (awI 65))), (.string (strOf (awI 66))), (.string (strOf (awI 67)))]] (fun _ h => h) (fun _ h => h) ?_
      refine a1 6 ?_
      refine opNew (v := fun b => .slice (some ⟨b, 0, none⟩) 2 2) 9 [(.string (strOf (awI 66))), (.string (strOf (awI 68)))] rfl (by kernel_rfl) (fun _ => by kernel_rfl) (fun b21 => ?_)
      refine anyNext [cAt b1 33 [(.int .i64 2), (.int .i64 1)], cAt b18 9 [(.string (strOf (awI 65))), (.string (strOf (awI 66))), (.string (strOf (awI 67)))], cAt b21 9 [(.string (strOf (awI 66))), (.string (strOf (awI 68)))]] (fun _ h => h.sub (.cons_cons _ (.cons_cons _ (.cons _ .slnil)))) (fun _ h => h) ?_
      refine a1 8 ?_
      refine opK0 (fun w hM => (rsRun_ok (some ⟨b18, 0, none⟩) 3 [(awI 65), (awI 66), (awI 67)] (some ⟨b21, 0, none⟩) 2 [(awI 66), (awI 68)] 2 1 5 w (r0.go0 hM) (hM.keep0 (j := 1) rfl (fun _ h => rowAtI h rfl)) (hM.keep0 (j := 2) rfl (fun _ h => rowAtI h rfl)) (by decide) (by decide) (by decide) (by decide) (by decide) (aw_sets.ha) (aw_sets.hb) (by decide) (by decide) (aw_ends)).mono ?_)
      rintro e w' ⟨B123, cb123, B223, cb223, rfl, hP⟩
      refine ⟨_, _, rfl, hP, ?_⟩; clear hP hM
      refine anyNext [cAt b1 33 [(.int .i64 2), (.int .i64 1)], cAt b18 9 [(.string (strOf (awI 65))), (.string (strOf (awI 66))), (.string (strOf (awI 67)))], cAt b21 9 [(.string (strOf (awI 66))), (.string (strOf (awI 68)))], cOwn 9 1 B123 ((withL [] (runN [(awI 65), (awI 66), (awI 67)] [(awI 66), (awI 68)] 2 1 1 5).2).length) (cb123) (SS (withL [] (runN [(awI 65), (awI 66), (awI 67)] [(awI 66), (awI 68)] 2 1 1 5).2)), cOwn 9 1 B223 ((withL [] (runN [(awI 65), (awI 66), (awI 67)] [(awI 66), (awI 68)] 2 1 1 5).1).length) (cb223) (SS (withL [] (runN [(awI 65), (awI 66), (awI 67)] [(awI 66), (awI 68)] 2 1 1 5).1))] (fun _ h => h.sub (.cons_cons _ (.cons_cons _ (.cons_cons _ (.cons _ (.cons _ .slnil)))))) (fun _ h => h) ?_
      refine am 9 ?_
      refine ac 10 (.slice B123 ((withL [] (runN [(awI 65), (awI 66), (awI 67)] [(awI 66), (awI 68)] 2 1 1 5).2).length) (cb123)) ?_
      refine ac 11 (.slice B223 ((withL [] (runN [(awI 65), (awI 66), (awI 67)] [(awI 66), (awI 68)] 2 1 1 5).1).length) (cb223)) ?_
      refine ac 12 (.int .i64 ((5 : Nat) : Int)) ?_
      refine ac 13 (.int .i64 (((runB [(awI 65), (awI 66), (awI 67)] [(awI 66), (awI 68)] 2 1 5) : Nat) : Int)) ?_
      refine ac 14 (.int .i64 0) ?_
      refine aa 15 ?_
      refine aa 16 ?_
      refine aa 17 ?_
      refine aa 18 ?_
      refine aa 19 ?_
      refine anyDone (by kernel_rfl) ?_
      refine qThen ?_
      exact stMeet (b18, b21, B123, cb123, B223, cb223) trivial ⟨rfl, rfl, rfl, rfl, rfl, rfl, rfl, rfl, rfl, rfl, rfl, rfl, rfl, rfl, rfl, rfl, rfl, rfl, rfl, rfl, rfl, rfl, rfl, trivial⟩ (fun _ h => h)
    · refine opK0 (fun w hM => (lsItemN_any 66 w (by decide)).mono ?_)
      rintro e w' ⟨rfl, hP⟩
      refine ⟨_, _, rfl, hP, ?_⟩; clear hP hM
      refine St.to [cAt b1 33 [(.int .i64 2), (.int .i64 1)]] (by kernel_rfl) ?_
      refine anyNext [cAt b1 33 [(.int .i64 2), (.int .i64 1)]] (fun _ h => h) (fun _ h => h) ?_
      refine anyTwo (i := 3) (j := 5) (by kernel_rfl) rfl rfl rfl rfl ?_ ?_
      · refine opNew (v := fun b => .slice (some ⟨b, 0, none⟩) 3 3) 9 [(.string (strOf (awI 65))), (.string (strOf (awI 66))), (.string (strOf (awI 67)))] rfl (by kernel_rfl) (fun _ => by kernel_rfl) (fun b18 => ?_)
        refine anyNext [cAt b1 33 [(.int .i64 2), (.int .i64 1)], cAt b18 9 [(.string (strOf (awI 65))), (.string (strOf (awI 66))), (.string (strOf (awI 67)))]] (fun _ h => h.sub (.cons_cons _ (.cons _ .slnil))) (fun _ h => h) ?_
        refine a1 5 ?_
        refine opK0 (fun w hM => (lsItemN_any 68 w (by decide)).mono ?_)
        rintro e w' ⟨rfl, hP⟩
        refine ⟨_, _, rfl, hP, ?_⟩; clear hP hM
        refine anyNext [cAt b1 33 [(.int .i64 2), (.int .i64 1)], cAt b18 9 [(.string (strOf (awI 65))), (.string (strOf (awI 66))), (.string (strOf (awI 67)))]] (fun _ h => h) (fun _ h => h) ?_
        refine a1 6 ?_
        refine opNew (v := fun b => .slice (some ⟨b, 0, none⟩) 2 2) 9 [(.string (strOf (awI 66))), (.string (strOf (awI 68)))] rfl (by kernel_rfl) (fun _ => by kernel_rfl) (fun b21 => ?_)
        refine anyNext [cAt b1 33 [(.int .i64 2), (.int .i64 1)], cAt b18 9 [(.string (strOf (awI 65))), (.string (strOf (awI 66))), (.string (strOf (awI 67)))], cAt b21 9 [(.string (strOf (awI 66))), (.string (strOf (awI 68)))]] (fun _ h => h.sub (.cons_cons _ (.cons_cons _ (.cons _ .slnil)))) (fun _ h => h) ?_
        refine a1 8 ?_
        refine opK0 (fun w hM => (rsRun_ok (some ⟨b18, 0, none⟩) 3 [(awI 65), (awI 66), (awI 67)] (some ⟨b21, 0, none⟩) 2 [(awI 66), (awI 68)] 2 1 5 w (r0.go0 hM) (hM.keep0 (j := 1) rfl (fun _ h => rowAtI h rfl)) (hM.keep0 (j := 2) rfl (fun _ h => rowAtI h rfl)) (by decide) (by decide) (by decide) (by decide) (by decide) (aw_sets.ha) (aw_sets.hb) (by decide) (by decide) (aw_ends)).mono ?_)
        rintro e w' ⟨B123, cb123, B223, cb223, rfl, hP⟩
        refine ⟨_, _, rfl, hP, ?_⟩; clear hP hM
        refine St.to [cAt b1 33 [(.int .i64 2), (.int .i64 1)], cAt b18 9 [(.string (strOf (awI 65))), (.string (strOf (awI 66))), (.string (strOf (awI 67)))], cAt b21 9 [(.string (strOf (awI 66))), (.string (strOf (awI 68)))], cOwn 9 1 B123 ((withL [] (runN [(awI 65), (awI 66), (awI 67)] [(awI 66), (awI 68)] 2 1 1 5).2).length) (cb123) (SS (withL [] (runN [(awI 65), (awI 66), (awI 67)] [(awI 66), (awI 68)] 2 1 1 5).2)), cOwn 9 1 B223 ((withL [] (runN [(awI 65), (awI 66), (awI 67)] [(awI 66), (awI 68)] 2 1 1 5).1).length) (cb223) (SS (withL [] (runN [(awI 65), (awI 66), (awI 67)] [(awI 66), (awI 68)] 2 1 1 5).1))] (by kernel_rfl) ?_
        refine anyNext [cAt b1 33 [(.int .i64 2), (.int .i64 1)], cAt b18 9 [(.string (strOf (awI 65))), (.string (strOf (awI 66))), (.string (strOf (awI 67)))], cAt b21 9 [(.string (strOf (awI 66))), (.string (strOf (awI 68)))], cOwn 9 1 B123 ((withL [] (runN [(awI 65), (awI 66), (awI 67)] [(awI 66), (awI 68)] 2 1 1 5).2).length) (cb123) (SS (withL [] (runN [(awI 65), (awI 66), (awI 67)] [(awI 66), (awI 68)] 2 1 1 5).2)), cOwn 9 1 B223 ((withL [] (runN [(awI 65), (awI 66), (awI 67)] [(awI 66), (awI 68)] 2 1 1 5).1).length) (cb223) (SS (withL [] (runN [(awI 65), (awI 66), (awI 67)] [(awI 66), (awI 68)] 2 1 1 5).1))] (fun _ h => h.sub (.cons_cons _ (.cons_cons _ (.cons_cons _ (.cons _ (.cons _ .slnil)))))) (fun _ h => h) ?_
        refine am 9 ?_
        refine ac 10 (.slice B123 ((withL [] (runN [(awI 65), (awI 66), (awI 67)] [(awI 66), (awI 68)] 2 1 1 5).2).length) (cb123)) ?_
        refine ac 11 (.slice B223 ((withL [] (runN [(awI 65), (awI 66), (awI 67)] [(awI 66), (awI 68)] 2 1 1 5).1).length) (cb223)) ?_
        refine ac 12 (.int .i64 ((5 : Nat) : Int)) ?_
        refine ac 13 (.int .i64 (((runB [(awI 65), (awI 66), (awI 67)] [(awI 66), (awI 68)] 2 1 5) : Nat) : Int)) ?_
        refine ac 14 (.int .i64 0) ?_
        refine aa 15 ?_
        refine aa 16 ?_
        refine aa 17 ?_
        refine aa 18 ?_
        refine aa 19 ?_
        refine anyDone (by kernel_rfl) ?_
        refine qThen ?_
        exact stMeet (b18, b21, B123, cb123, B223, cb223) trivial ⟨rfl, rfl, rfl, rfl, rfl, rfl, rfl, rfl, rfl, rfl, rfl, rfl, rfl, rfl, rfl, rfl, rfl, rfl, rfl, rfl, rfl, rfl, rfl, trivial⟩ (fun _ h => h)
      · refine opK0 (fun w hM => (lsItemN_any 68 w (by decide)).mono ?_)
        rintro e w' ⟨rfl, hP⟩
        refine ⟨_, _, rfl, hP, ?_⟩; clear hP hM
        refine anyNext [cAt b1 33 [(.int .i64 2), (.int .i64 1)]] (fun _ h => h) (fun _ h => h) ?_
        refine anyTwo (i := 3) (j := 6) (by kernel_rfl) rfl rfl rfl rfl ?_ ?_
        · refine opNew (v := fun b => .slice (some ⟨b, 0, none⟩) 3 3) 9 [(.string (strOf (awI 65))), (.string (strOf (awI 66))), (.string (strOf (awI 67)))] rfl (by kernel_rfl) (fun _ => by kernel_rfl) (fun b18 => ?_)
          refine anyNext [cAt b1 33 [(.int .i64 2), (.int .i64 1)], cAt b18 9 [(.string (strOf (awI 65))), (.string (strOf (awI 66))), (.string (strOf (awI 67)))]] (fun _ h => h.sub (.cons_cons _ (.cons _ .slnil))) (fun _ h => h) ?_
          refine a1 6 ?_
          refine opNew (v := fun b => .slice (some ⟨b, 0, none⟩) 2 2) 9 [(.string (strOf (awI 66))), (.string (strOf (awI 68)))] rfl (by kernel_rfl) (fun _ => by kernel_rfl) (fun b21 => ?_)
          refine anyNext [cAt b1 33 [(.int .i64 2), (.int .i64 1)], cAt b18 9 [(.string (strOf (awI 65))), (.string (strOf (awI 66))), (.string (strOf (awI 67)))], cAt b21 9 [(.string (strOf (awI 66))), (.string (strOf (awI 68)))]] (fun _ h => h.sub (.cons_cons _ (.cons_cons _ (.cons _ .slnil)))) (fun _ h => h) ?_
          refine a1 8 ?_
          refine opK0 (fun w hM => (rsRun_ok (some ⟨b18, 0, none⟩) 3 [(awI 65), (awI 66), (awI 67)] (some ⟨b21, 0, none⟩) 2 [(awI 66), (awI 68)] 2 1 5 w (r0.go0 hM) (hM.keep0 (j := 1) rfl (fun _ h => rowAtI h rfl)) (hM.keep0 (j := 2) rfl (fun _ h => rowAtI h rfl)) (by decide) (by decide) (by decide) (by decide) (by decide) (aw_sets.ha) (aw_sets.hb) (by decide) (by decide) (aw_ends)).mono ?_)
          rintro e w' ⟨B123, cb123, B223, cb223, rfl, hP⟩
          refine ⟨_, _, rfl, hP, ?_⟩; clear hP hM
          refine St.to [cAt b1 33 [(.int .i64 2), (.int .i64 1)], cAt b18 9 [(.string (strOf (awI 65))), (.string (strOf (awI 66))), (.string (strOf (awI 67)))], cAt b21 9 [(.string (strOf (awI 66))), (.string (strOf (awI 68)))], cOwn 9 1 B123 ((withL [] (runN [(awI 65), (awI 66), (awI 67)] [(awI 66), (awI 68)] 2 1 1 5).2).length) (cb123) (SS (withL [] (runN [(awI 65), (awI 66), (awI 67)] [(awI 66), (awI 68)] 2 1 1 5).2)), cOwn 9 1 B223 ((withL [] (runN [(awI 65), (awI 66), (awI 67)] [(awI 66), (awI 68)] 2 1 1 5).1).length) (cb223) (SS (withL [] (runN [(awI 65), (awI 66), (awI 67)] [(awI 66), (awI 68)] 2 1 1 5).1))] (by kernel_rfl) ?_
          refine anyNext [cAt b1 33 [(.int .i64 2), (.int .i64 1)], cAt b18 9 [(.string (strOf (awI 65))), (.string (strOf (awI 66))), (.string (strOf (awI 67)))], cAt b21 9 [(.string (strOf (awI 66))), (.string (strOf (awI 68)))], cOwn 9 1 B123 ((withL [] (runN [(awI 65), (awI 66), (awI 67)] [(awI 66), (awI 68)] 2 1 1 5).2).length) (cb123) (SS (withL [] (runN [(awI 65), (awI 66), (awI 67)] [(awI 66), (awI 68)] 2 1 1 5).2)), cOwn 9 1 B223 ((withL [] (runN [(awI 65), (awI 66), (awI 67)] [(awI 66), (awI 68)] 2 1 1 5).1).length) (cb223) (SS (withL [] (runN [(awI 65), (awI 66), (awI 67)] [(awI 66), (awI 68)] 2 1 1 5).1))] (fun _ h => h.sub (.cons_cons _ (.cons_cons _ (.cons_cons _ (.cons _ (.cons _ .slnil)))))) (fun _ h => h) ?_
          refine am 9 ?_
          refine ac 10 (.slice B123 ((withL [] (runN [(awI 65), (awI 66), (awI 67)] [(awI 66), (awI 68)] 2 1 1 5).2).length) (cb123)) ?_
          refine ac 11 (.slice B223 ((withL [] (runN [(awI 65), (awI 66), (awI 67)] [(awI 66), (awI 68)] 2 1 1 5).1).length) (cb223)) ?_
          refine ac 12 (.int .i64 ((5 : Nat) : Int)) ?_
          refine ac 13 (.int .i64 (((runB [(awI 65), (awI 66), (awI 67)] [(awI 66), (awI 68)] 2 1 5) : Nat) : Int)) ?_
          refine ac 14 (.int .i64 0) ?_
          refine aa 15 ?_
          refine aa 16 ?_
          refine aa 17 ?_
          refine aa 18 ?_
          refine aa 19 ?_
          refine anyDone (by kernel_rfl) ?_
          refine qThen ?_
          exact stMeet (b18, b21, B123, cb123, B223, cb223) trivial ⟨rfl, rfl, rfl, rfl, rfl, rfl, rfl, rfl, rfl, rfl, rfl, rfl, rfl, rfl, rfl, rfl, rfl, rfl, rfl, rfl, rfl, rfl, rfl, trivial⟩ (fun _ h => h)
        · refine opNew (v := fun b => .slice (some ⟨b, 0, none⟩) 2 2) 9 [(.string (strOf (awI 66))), (.string (strOf (awI 68)))] rfl (by kernel_rfl) (fun _ => by kernel_rfl) (fun b21 => ?_)
          refine anyNext [cAt b1 33 [(.int .i64 2), (.int .i64 1)], cAt b21 9 [(.string (strOf (awI 66))), (.string (strOf (awI 68)))]] (fun _ h => h.sub (.cons_cons _ (.cons _ .slnil))) (fun _ h => h) ?_
          refine a1 3 ?_
          refine opNew (v := fun b => .slice (some ⟨b, 0, none⟩) 3 3) 9 [(.string (strOf (awI 65))), (.string (strOf (awI 66))), (.string (strOf (awI 67)))] rfl (by kernel_rfl) (fun _ => by kernel_rfl) (fun b18 => ?_)
          refine anyNext [cAt b1 33 [(.int .i64 2), (.int .i64 1)], cAt b21 9 [(.string (strOf (awI 66))), (.string (strOf (awI 68)))], cAt b18 9 [(.string (strOf (awI 65))), (.string (strOf (awI 66))), (.string (strOf (awI 67)))]] (fun _ h => h.sub (.cons_cons _ (.cons_cons _ (.cons _ .slnil)))) (fun _ h => h) ?_
          refine a1 8 ?_
          refine opK0 (fun w hM => (rsRun_ok (some ⟨b18, 0, none⟩) 3 [(awI 65), (awI 66), (awI 67)] (some ⟨b21, 0, none⟩) 2 [(awI 66), (awI 68)] 2 1 5 w (r0.go0 hM) (hM.keep0 (j := 2) rfl (fun _ h => rowAtI h rfl)) (hM.keep0 (j := 1) rfl (fun _ h => rowAtI h rfl)) (by decide) (by decide) (by decide) (by decide) (by decide) (aw_sets.ha) (aw_sets.hb) (by decide) (by decide) (aw_ends)).mono ?_)
          rintro e w' ⟨B123, cb123, B223, cb223, rfl, hP⟩
          refine ⟨_, _, rfl, hP, ?_⟩; clear hP hM
          refine anyNext [cAt b1 33 [(.int .i64 2), (.int .i64 1)], cAt b21 9 [(.string (strOf (awI 66))), (.string (strOf (awI 68)))], cAt b18 9 [(.string (strOf (awI 65))), (.string (strOf (awI 66))), (.string (strOf (awI 67)))], cOwn 9 1 B123 ((withL [] (runN [(awI 65), (awI 66), (awI 67)] [(awI 66), (awI 68)] 2 1 1 5).2).length) (cb123) (SS (withL [] (runN [(awI 65), (awI 66), (awI 67)] [(awI 66), (awI 68)] 2 1 1 5).2)), cOwn 9 1 B223 ((withL [] (runN [(awI 65), (awI 66), (awI 67)] [(awI 66), (awI 68)] 2 1 1 5).1).length) (cb223) (SS (withL [] (runN [(awI 65), (awI 66), (awI 67)] [(awI 66), (awI 68)] 2 1 1 5).1))] (fun _ h => h.sub (.cons_cons _ (.cons_cons _ (.cons_cons _ (.cons _ (.cons _ .slnil)))))) (fun _ h => h) ?_
          refine am 9 ?_
          refine ac 10 (.slice B123 ((withL [] (runN [(awI 65), (awI 66), (awI 67)] [(awI 66), (awI 68)] 2 1 1 5).2).length) (cb123)) ?_
          refine ac 11 (.slice B223 ((withL [] (runN [(awI 65), (awI 66), (awI 67)] [(awI 66), (awI 68)] 2 1 1 5).1).length) (cb223)) ?_
          refine ac 12 (.int .i64 ((5 : Nat) : Int)) ?_
          refine ac 13 (.int .i64 (((runB [(awI 65), (awI 66), (awI 67)] [(awI 66), (awI 68)] 2 1 5) : Nat) : Int)) ?_
          refine ac 14 (.int .i64 0) ?_
          refine aa 15 ?_
          refine aa 16 ?_
          refine aa 17 ?_
          refine aa 18 ?_
          refine aa 19 ?_
          refine anyDone (by kernel_rfl) ?_
          refine qThen ?_
          exact stMeet (b18, b21, B123, cb123, B223, cb223) trivial ⟨rfl, rfl, rfl, rfl, rfl, rfl, rfl, rfl, rfl, rfl, rfl, rfl, rfl, rfl, rfl, rfl, rfl, rfl, rfl, rfl, rfl, rfl, rfl, trivial⟩ (fun _ h => h.perm (.cons _ (.swap _ _ _)))
  · rintro ⟨b18, b21, B123, cb123, B223, cb223⟩ -
    show St _ _ _ [(0, (.bool false)), (13, (.agg #[(.int .i64 2), (.int .i64 1)])), (1, (.pointer (some ⟨b1, 0, none⟩))), (22, (.agg #[(.int .i64 2), (.int .i64 1)])), (15, (.string (strOf (awI 65)))), (16, (.string (strOf (awI 66)))), (17, (.string (strOf (awI 67)))), (18, (.slice (some ⟨b18, 0, none⟩) (([(awI 65), (awI 66), (awI 67)]).length) (3))), (19, (.string (strOf (awI 66)))), (20, (.string (strOf (awI 68)))), (21, (.slice (some ⟨b21, 0, none⟩) (([(awI 66), (awI 68)]).length) (2))), (23, (.tuple #[(.slice B123 ((withL [] (runN [(awI 65), (awI 66), (awI 67)] [(awI 66), (awI 68)] 2 1 1 5).2).length) (cb123)), (.slice B223 ((withL [] (runN [(awI 65), (awI 66), (awI 67)] [(awI 66), (awI 68)] 2 1 1 5).1).length) (cb223)), (.int .i64 ((5 : Nat) : Int)), (.int .i64 (((runB [(awI 65), (awI 66), (awI 67)] [(awI 66), (awI 68)] 2 1 5) : Nat) : Int)), (.int .i64 0)])), (14, (.tuple #[(.slice B123 ((withL [] (runN [(awI 65), (awI 66), (awI 67)] [(awI 66), (awI 68)] 2 1 1 5).2).length) (cb123)), (.slice B223 ((withL [] (runN [(awI 65), (awI 66), (awI 67)] [(awI 66), (awI 68)] 2 1 1 5).1).length) (cb223)), (.int .i64 ((5 : Nat) : Int)), (.int .i64 (((runB [(awI 65), (awI 66), (awI 67)] [(awI 66), (awI 68)] 2 1 5) : Nat) : Int)), (.int .i64 0)])), (24, (.slice B123 ((withL [] (runN [(awI 65), (awI 66), (awI 67)] [(awI 66), (awI 68)] 2 1 1 5).2).length) (cb123))), (25, (.slice B223 ((withL [] (runN [(awI 65), (awI 66), (awI 67)] [(awI 66), (awI 68)] 2 1 1 5).1).length) (cb223))), (26, (.int .i64 ((5 : Nat) : Int))), (27, (.int .i64 (((runB [(awI 65), (awI 66), (awI 67)] [(awI 66), (awI 68)] 2 1 5) : Nat) : Int))), (28, (.int .i64 0)), (2, (.slice B123 ((withL [] (runN [(awI 65), (awI 66), (awI 67)] [(awI 66), (awI 68)] 2 1 1 5).2).length) (cb123))), (3, (.slice B223 ((withL [] (runN [(awI 65), (awI 66), (awI 67)] [(awI 66), (awI 68)] 2 1 1 5).1).length) (cb223))), (4, (.int .i64 ((5 : Nat) : Int))), (5, (.int .i64 (((runB [(awI 65), (awI 66), (awI 67)] [(awI 66), (awI 68)] 2 1 5) : Nat) : Int))), (6, (.int .i64 0))] [cAt b1 33 [(.int .i64 2), (.int .i64 1)], cAt b18 9 [(.string (strOf (awI 65))), (.string (strOf (awI 66))), (.string (strOf (awI 67)))], cAt b21 9 [(.string (strOf (awI 66))), (.string (strOf (awI 68)))], cOwn 9 1 B123 ((withL [] (runN [(awI 65), (awI 66), (awI 67)] [(awI 66), (awI 68)] 2 1 1 5).2).length) (cb123) (SS (withL [] (runN [(awI 65), (awI 66), (awI 67)] [(awI 66), (awI 68)] 2 1 1 5).2)), cOwn 9 1 B223 ((withL [] (runN [(awI 65), (awI 66), (awI 67)] [(awI 66), (awI 68)] 2 1 1 5).1).length) (cb223) (SS (withL [] (runN [(awI 65), (awI 66), (awI 67)] [(awI 66), (awI 68)] 2 1 1 5).1))] _
    refine stSeq ?_
    refine St.to [cAt b1 33 [(.int .i64 2), (.int .i64 1)], cAt b18 9 [(.string (strOf (awI 65))), (.string (strOf (awI 66))), (.string (strOf (awI 67)))], cAt b21 9 [(.string (strOf (awI 66))), (.string (strOf (awI 68)))], cOwn 9 1 B123 ((withL [] (runN [(awI 65), (awI 66), (awI 67)] [(awI 66), (awI 68)] 2 1 1 5).2).length) (cb123) (SS (withL [] (runN [(awI 65), (awI 66), (awI 67)] [(awI 66), (awI 68)] 2 1 1 5).2)), cOwn 9 1 B223 ((withL [] (runN [(awI 65), (awI 66), (awI 67)] [(awI 66), (awI 68)] 2 1 1 5).1).length) (cb223) (SS (withL [] (runN [(awI 65), (awI 66), (awI 67)] [(awI 66), (awI 68)] 2 1 1 5).1))] (by kernel_rfl) ?_
    refine reg ?_
    refine lv (v := (.agg #[(.int .i64 2), (.int .i64 1)])) (rLoadA [(.int .i64 2), (.int .i64 1)] rfl rfl (by kernel_rfl) (by kernel_rfl) (segAt (i := 0) rfl (by intro j v hj; first | (rw [Nat.zero_add]; exact hj) | (match j, hj with | 0, h => exact h | 1, h => exact h)))) ?_
    refine li rfl ?_
    refine opK0 (fun w hM => (rsBound_ok 3 2 1 w (by decide) (by decide) (by decide) (by decide) (by decide) (by decide)).mono ?_)
    rintro e w' ⟨rfl, hP⟩
    refine ⟨_, _, rfl, hP, ?_⟩; clear hP hM
    refine lm ?_
    refine lc (.int .i64 (((2 * depthN 2 1 3 + 3) : Nat) : Int)) ?_
    refine lc (.int .i64 0) ?_
    refine la ?_
    refine la ?_
    refine liNil (qThen (stSeq ?_))
    refine anyBegin [cAt b1 33 [(.int .i64 2), (.int .i64 1)], cAt b18 9 [(.string (strOf (awI 65))), (.string (strOf (awI 66))), (.string (strOf (awI 67)))], cAt b21 9 [(.string (strOf (awI 66))), (.string (strOf (awI 68)))], cOwn 9 1 B123 ((withL [] (runN [(awI 65), (awI 66), (awI 67)] [(awI 66), (awI 68)] 2 1 1 5).2).length) (cb123) (SS (withL [] (runN [(awI 65), (awI 66), (awI 67)] [(awI 66), (awI 68)] 2 1 1 5).2)), cOwn 9 1 B223 ((withL [] (runN [(awI 65), (awI 66), (awI 67)] [(awI 66), (awI 68)] 2 1 1 5).1).length) (cb223) (SS (withL [] (runN [(awI 65), (awI 66), (awI 67)] [(awI 66), (awI 68)] 2 1 1 5).1))] 9 (by kernel_rfl) (fun _ h => h) ?_
    refine av 2 (.agg #[(.int .i64 2), (.int .i64 1)]) rfl (rLoadA [(.int .i64 2), (.int .i64 1)] rfl rfl (by kernel_rfl) (by kernel_rfl) (segAt (i := 0) rfl (by intro j v hj; first | (rw [Nat.zero_add]; exact hj) | (match j, hj with | 0, h => exact h | 1, h => exact h)))) ?_
    refine a1 0 ?_
    refine opK0 (fun w hM => (lsItemN_any 65 w (by decide)).mono ?_)
    rintro e w' ⟨rfl, hP⟩
    refine ⟨_, _, rfl, hP, ?_⟩; clear hP hM
    refine St.to [cAt b1 33 [(.int .i64 2), (.int .i64 1)], cAt b18 9 [(.string (strOf (awI 65))), (.string (strOf (awI 66))), (.string (strOf (awI 67)))], cAt b21 9 [(.string (strOf (awI 66))), (.string (strOf (awI 68)))], cOwn 9 1 B123 ((withL [] (runN [(awI 65), (awI 66), (awI 67)] [(awI 66), (awI 68)] 2 1 1 5).2).length) (cb123) (SS (withL [] (runN [(awI 65), (awI 66), (awI 67)] [(awI 66), (awI 68)] 2 1 1 5).2)), cOwn 9 1 B223 ((withL [] (runN [(awI 65), (awI 66), (awI 67)] [(awI 66), (awI 68)] 2 1 1 5).1).length) (cb223) (SS (withL [] (runN [(awI 65), (awI 66), (awI 67)] [(awI 66), (awI 68)] 2 1 1 5).1))] (by kernel_rfl) ?_
    refine anyNext [cAt b1 33 [(.int .i64 2), (.int .i64 1)], cAt b18 9 [(.string (strOf (awI 65))), (.string (strOf (awI 66))), (.string (strOf (awI 67)))], cAt b21 9 [(.string (strOf (awI 66))), (.string (strOf (awI 68)))], cOwn 9 1 B123 ((withL [] (runN [(awI 65), (awI 66), (awI 67)] [(awI 66), (awI 68)] 2 1 1 5).2).length) (cb123) (SS (withL [] (runN [(awI 65), (awI 66), (awI 67)] [(awI 66), (awI 68)] 2 1 1 5).2)), cOwn 9 1 B223 ((withL [] (runN [(awI 65), (awI 66), (awI 67)] [(awI 66), (awI 68)] 2 1 1 5).1).length) (cb223) (SS (withL [] (runN [(awI 65), (awI 66), (awI 67)] [(awI 66), (awI 68)] 2 1 1 5).1))] (fun _ h => h) (fun _ h => h) ?_
    refine a1 1 ?_
    refine opNew (v := fun b => .slice (some ⟨b, 0, none⟩) 1 1) 9 [(.string (strOf (awI 65)))] rfl (by kernel_rfl) (fun _ => by kernel_rfl) (fun b36 => ?_)
    refine anyNext [cAt b1 33 [(.int .i64 2), (.int .i64 1)], cAt b18 9 [(.string (strOf (awI 65))), (.string (strOf (awI 66))), (.string (strOf (awI 67)))], cAt b21 9 [(.string (strOf (awI 66))), (.string (strOf (awI 68)))], cOwn 9 1 B123 ((withL [] (runN [(awI 65), (awI 66), (awI 67)] [(awI 66), (awI 68)] 2 1 1 5).2).length) (cb123) (SS (withL [] (runN [(awI 65), (awI 66), (awI 67)] [(awI 66), (awI 68)] 2 1 1 5).2)), cOwn 9 1 B223 ((withL [] (runN [(awI 65), (awI 66), (awI 67)] [(awI 66), (awI 68)] 2 1 1 5).1).length) (cb223) (SS (withL [] (runN [(awI 65), (awI 66), (awI 67)] [(awI 66), (awI 68)] 2 1 1 5).1)), cAt b36 9 [(.string (strOf (awI 65)))]] (fun _ h => h.sub (.cons_cons _ (.cons_cons _ (.cons_cons _ (.cons_cons _ (.cons_cons _ (.cons _ .slnil))))))) (fun _ h => h) ?_
    refine a1 3 ?_
    refine opK0 (fun w hM => (rsNew_ok (some ⟨b36, 0, none⟩) 1 [(awI 65)] 2 1 w (hM.keep0 (j := 5) rfl (fun _ h => rowAtI h rfl)) (by decide) (by decide) (setE_ok (by decide) aw_one)).mono ?_)
    rintro e w' ⟨bs38, A238, c238, nm38, om38, rfl, hP⟩
    refine ⟨_, _, rfl, hP, ?_⟩; clear hP hM
    refine anyNext [cAt b1 33 [(.int .i64 2), (.int .i64 1)], cAt b18 9 [(.string (strOf (awI 65))), (.string (strOf (awI 66))), (.string (strOf (awI 67)))], cAt b21 9 [(.string (strOf (awI 66))), (.string (strOf (awI 68)))], cOwn 9 1 B123 ((withL [] (runN [(awI 65), (awI 66), (awI 67)] [(awI 66), (awI 68)] 2 1 1 5).2).length) (cb123) (SS (withL [] (runN [(awI 65), (awI 66), (awI 67)] [(awI 66), (awI 68)] 2 1 1 5).2)), cOwn 9 1 B223 ((withL [] (runN [(awI 65), (awI 66), (awI 67)] [(awI 66), (awI 68)] 2 1 1 5).1).length) (cb223) (SS (withL [] (runN [(awI 65), (awI 66), (awI 67)] [(awI 66), (awI 68)] 2 1 1 5).1)), cAt b36 9 [(.string (strOf (awI 65)))], cAt bs38 66 [(.slice A238 ([(awI 65)].length) (c238)), (.int .i64 ((2 : Nat) : Int)), (.int .i64 ((1 : Nat) : Int)), (.map (some nm38)), (.map (some om38))], cOwn 9 1 A238 ([(awI 65)].length) (c238) (SS [(awI 65)]), cSet nm38 ([]), cSet om38 ([])] (fun _ h => h.sub (.cons_cons _ (.cons_cons _ (.cons_cons _ (.cons_cons _ (.cons_cons _ (.cons_cons _ (.cons _ (.cons _ (.cons _ (.cons _ .slnil))))))))))) (fun _ h => h) ?_
    refine am 4 ?_
    refine ac 5 (.pointer (some ⟨bs38, 0, none⟩)) ?_
    refine ac 6 (.int .i64 0) ?_
    refine aa 7 ?_
    refine aa 8 ?_
    refine anyDone (by kernel_rfl) ?_
    refine qThen (stSeq (stSeq ?_))
    refine St.to [cAt b1 33 [(.int .i64 2), (.int .i64 1)], cAt b18 9 [(.string (strOf (awI 65))), (.string (strOf (awI 66))), (.string (strOf (awI 67)))], cAt b21 9 [(.string (strOf (awI 66))), (.string (strOf (awI 68)))], cOwn 9 1 B123 ((withL [] (runN [(awI 65), (awI 66), (awI 67)] [(awI 66), (awI 68)] 2 1 1 5).2).length) (cb123) (SS (withL [] (runN [(awI 65), (awI 66), (awI 67)] [(awI 66), (awI 68)] 2 1 1 5).2)), cOwn 9 1 B223 ((withL [] (runN [(awI 65), (awI 66), (awI 67)] [(awI 66), (awI 68)] 2 1 1 5).1).length) (cb223) (SS (withL [] (runN [(awI 65), (awI 66), (awI 67)] [(awI 66), (awI 68)] 2 1 1 5).1)), cAt b36 9 [(.string (strOf (awI 65)))], cAt bs38 66 [(.slice A238 ([(awI 65)].length) (c238)), (.int .i64 ((2 : Nat) : Int)), (.int .i64 ((1 : Nat) : Int)), (.map (some nm38)), (.map (some om38))], cOwn 9 1 A238 ([(awI 65)].length) (c238) (SS [(awI 65)]), cSet nm38 ([]), cSet om38 ([])] (by kernel_rfl) ?_
    refine reg ?_
    refine lm ?_
    refine lc (.bool false) ?_
    refine lm ?_
    refine lgm ?_
    refine lgc (.bool false) ?_
    refine lc (.bool false) ?_
    refine lm ?_
    refine lgm ?_
    refine lgc (.bool false) ?_
    refine lc (.bool false) ?_
    refine lm ?_
    refine lgm ?_
    refine lgc (.bool false) ?_
    refine lc (.bool false) ?_
    refine liNil (qThen (stFalse rfl (stSkip (qThen (stSeq ?_)))))
    refine St.fact (fun w hM => own_cap (hM.at (i := 7) rfl)) (fun hcap => ?_)
    refine reg ?_
    refine lm ?_
    refine li rfl ?_
    refine opNew (v := fun b => .slice (some ⟨b, 0, none⟩) 1 1) 5 [(.int .u8 0)] rfl (by kernel_rfl) (fun _ => by kernel_rfl) (fun b57 => ?_)
    refine li rfl ?_
    refine opK [8, 9] [cSet nm38 ([]), cSet om38 ([])] (fun w hM hO => (rsStep_any bs38 A238 c238 [(awI 65)] 2 1 nm38 om38 (some ⟨b57, 0, none⟩) 1 [(0 : UInt8)] [] [] w hO (r0.goS hM [8, 9]) (((hM.keepS [8, 9] (j := 6) rfl (fun _ h => h)).and (hM.keepS [8, 9] (j := 7) rfl (fun _ h => RowIn.of_own h))).imp (fun _ h => ⟨h.1, h.2⟩)) (hM.keepS [8, 9] (j := 10) rfl (fun _ h => rowAtI h rfl)) (aw_one) (by decide) (hcap) (by decide) (by decide) (by decide) (by decide) (by decide) (by decide) (by decide) (by decide)).mono ?_)
    rintro e w' ⟨B58, cb58, rfl, hP⟩
    refine ⟨_, [cSet nm38 ([] ++ (stepA [(awI 65)] 2 1 [(0 : UInt8)]).need), cSet om38 ([] ++ (stepA [(awI 65)] 2 1 [(0 : UInt8)]).off)], _, rfl, hP, rfl, ?_⟩; clear hP hM hO
    refine lm ?_
    refine lc (.slice B58 (((stepA [(awI 65)] 2 1 [(0 : UInt8)]).reply).length) (cb58)) ?_
    refine lc (.int .i64 (stepA [(awI 65)] 2 1 [(0 : UInt8)]).err) ?_
    refine la ?_
    refine la ?_
    refine liNil (qThen (stSeq ?_))
    refine St.to [cAt b1 33 [(.int .i64 2), (.int .i64 1)], cAt b18 9 [(.string (strOf (awI 65))), (.string (strOf (awI 66))), (.string (strOf (awI 67)))], cAt b21 9 [(.string (strOf (awI 66))), (.string (strOf (awI 68)))], cOwn 9 1 B123 ((withL [] (runN [(awI 65), (awI 66), (awI 67)] [(awI 66), (awI 68)] 2 1 1 5).2).length) (cb123) (SS (withL [] (runN [(awI 65), (awI 66), (awI 67)] [(awI 66), (awI 68)] 2 1 1 5).2)), cOwn 9 1 B223 ((withL [] (runN [(awI 65), (awI 66), (awI 67)] [(awI 66), (awI 68)] 2 1 1 5).1).length) (cb223) (SS (withL [] (runN [(awI 65), (awI 66), (awI 67)] [(awI 66), (awI 68)] 2 1 1 5).1)), cAt b36 9 [(.string (strOf (awI 65)))], cAt bs38 66 [(.slice A238 ([(awI 65)].length) (c238)), (.int .i64 ((2 : Nat) : Int)), (.int .i64 ((1 : Nat) : Int)), (.map (some nm38)), (.map (some om38))], cOwn 9 1 A238 ([(awI 65)].length) (c238) (SS [(awI 65)]), cSet nm38 ([] ++ (stepA [(awI 65)] 2 1 [(0 : UInt8)]).need), cSet om38 ([] ++ (stepA [(awI 65)] 2 1 [(0 : UInt8)]).off), cAt b57 5 [(.int .u8 0)], cOwn 5 1 B58 (((stepA [(awI 65)] 2 1 [(0 : UInt8)]).reply).length) (cb58) (B8 ((stepA [(awI 65)] 2 1 [(0 : UInt8)]).reply))] (by kernel_rfl) ?_
    refine reg ?_
    refine lm ?_
    refine li rfl ?_
    refine opK0 (fun w hM => (lsItemN_any 65 w (by decide)).mono ?_)
    rintro e w' ⟨rfl, hP⟩
    refine ⟨_, _, rfl, hP, ?_⟩; clear hP hM
    refine li rfl ?_
    refine opK0 (fun w hM => (lsItemN_any 67 w (by decide)).mono ?_)
    rintro e w' ⟨rfl, hP⟩
    refine ⟨_, _, rfl, hP, ?_⟩; clear hP hM
    refine li rfl ?_
    refine opNew (v := fun b => .slice (some ⟨b, 0, none⟩) 2 2) 9 [(.string (strOf (awI 65))), (.string (strOf (awI 67)))] rfl (by kernel_rfl) (fun _ => by kernel_rfl) (fun b64 => ?_)
    refine li rfl ?_
    refine opK0 (fun w hM => (lsSame_any B123 cb123 (withL [] (runN [(awI 65), (awI 66), (awI 67)] [(awI 66), (awI 68)] 2 1 1 5).2) (some ⟨b64, 0, none⟩) 2 [(awI 65), (awI 67)] w (hM.keep0 (j := 3) rfl (fun _ h => RowIn.of_own h)) (hM.keep0 (j := 12) rfl (fun _ h => rowAtI h rfl)) (by rw [aw_off]; decide) (by decide)).mono ?_)
    rintro e w' ⟨rfl, hP⟩
    refine ⟨_, _, rfl, hP, ?_⟩; clear hP hM
    refine St.to [cAt b1 33 [(.int .i64 2), (.int .i64 1)], cAt b18 9 [(.string (strOf (awI 65))), (.string (strOf (awI 66))), (.string (strOf (awI 67)))], cAt b21 9 [(.string (strOf (awI 66))), (.string (strOf (awI 68)))], cOwn 9 1 B123 ((withL [] (runN [(awI 65), (awI 66), (awI 67)] [(awI 66), (awI 68)] 2 1 1 5).2).length) (cb123) (SS (withL [] (runN [(awI 65), (awI 66), (awI 67)] [(awI 66), (awI 68)] 2 1 1 5).2)), cOwn 9 1 B223 ((withL [] (runN [(awI 65), (awI 66), (awI 67)] [(awI 66), (awI 68)] 2 1 1 5).1).length) (cb223) (SS (withL [] (runN [(awI 65), (awI 66), (awI 67)] [(awI 66), (awI 68)] 2 1 1 5).1)), cAt b36 9 [(.string (strOf (awI 65)))], cAt bs38 66 [(.slice A238 ([(awI 65)].length) (c238)), (.int .i64 ((2 : Nat) : Int)), (.int .i64 ((1 : Nat) : Int)), (.map (some nm38)), (.map (some om38))], cOwn 9 1 A238 ([(awI 65)].length) (c238) (SS [(awI 65)]), cSet nm38 ([] ++ (stepA [(awI 65)] 2 1 [(0 : UInt8)]).need), cSet om38 ([] ++ (stepA [(awI 65)] 2 1 [(0 : UInt8)]).off), cAt b57 5 [(.int .u8 0)], cOwn 5 1 B58 (((stepA [(awI 65)] 2 1 [(0 : UInt8)]).reply).length) (cb58) (B8 ((stepA [(awI 65)] 2 1 [(0 : UInt8)]).reply)), cAt b64 9 [(.string (strOf (awI 65))), (.string (strOf (awI 67)))]] (by kernel_rfl) ?_
    refine lm ?_
    refine St.known 66 (b' := true) rfl (decide_eq_true aw_off) ?_
    refine lgm ?_
    refine liGo rfl rfl ?_
    refine opK0 (fun w hM => (lsItemN_any 68 w (by decide)).mono ?_)
    rintro e w' ⟨rfl, hP⟩
    refine ⟨_, _, rfl, hP, ?_⟩; clear hP hM
    refine liGo rfl rfl ?_
    refine opNew (v := fun b => .slice (some ⟨b, 0, none⟩) 1 1) 9 [(.string (strOf (awI 68)))] rfl (by kernel_rfl) (fun _ => by kernel_rfl) (fun b69 => ?_)
    refine liGo rfl rfl ?_
    refine opK0 (fun w hM => (lsSame_any B223 cb223 (withL [] (runN [(awI 65), (awI 66), (awI 67)] [(awI 66), (awI 68)] 2 1 1 5).1) (some ⟨b69, 0, none⟩) 1 [(awI 68)] w (hM.keep0 (j := 4) rfl (fun _ h => RowIn.of_own h)) (hM.keep0 (j := 13) rfl (fun _ h => rowAtI h rfl)) (by rw [aw_need]; decide) (by decide)).mono ?_)
    rintro e w' ⟨rfl, hP⟩
    refine ⟨_, _, rfl, hP, ?_⟩; clear hP hM
    refine lc (.bool (decide ((withL [] (runN [(awI 65), (awI 66), (awI 67)] [(awI 66), (awI 68)] 2 1 1 5).1) = [(awI 68)]))) ?_
    refine lm ?_
    refine St.known 72 (b' := true) rfl (decide_eq_true aw_need) ?_
    refine lgm ?_
    refine lgc (.bool true) ?_
    refine lc (.bool true) ?_
    refine lm ?_
    refine lgm ?_
    refine lgc (.bool (decide ((((runB [(awI 65), (awI 66), (awI 67)] [(awI 66), (awI 68)] 2 1 5) : Nat) : Int) > 0))) ?_
    refine lc (.bool (decide ((((runB [(awI 65), (awI 66), (awI 67)] [(awI 66), (awI 68)] 2 1 5) : Nat) : Int) > 0))) ?_
    refine lm ?_
    refine St.known 80 (b' := true) rfl (by have h := aw_bytes; simp; omega) ?_
    refine lgm ?_
    refine lgc (.bool (((((2 * depthN 2 1 3 + 3) : Nat) : Int) : Int) == 7)) ?_
    refine lc (.bool (((((2 * depthN 2 1 3 + 3) : Nat) : Int) : Int) == 7)) ?_
    refine lm ?_
    refine St.known 84 (b' := true) rfl (by rw [aw_depth]; rfl) ?_
    refine lgm ?_
    refine lgc (.bool (((stepA [(awI 65)] 2 1 [(0 : UInt8)]).err : Int) == 3)) ?_
    refine lc (.bool (((stepA [(awI 65)] 2 1 [(0 : UInt8)]).err : Int) == 3)) ?_
    refine lm ?_
    refine St.known 88 (b' := true) rfl (by rw [aw_step]; rfl) ?_
    refine lgm ?_
    refine liGo rfl rfl ?_
    refine opK0 (fun w hM => (rsStart_any bs38 A238 c238 [(awI 65)] 2 1 nm38 om38 w (r0.go0 hM) (((hM.keep0 (j := 6) rfl (fun _ h => h)).and (hM.keep0 (j := 7) rfl (fun _ h => RowIn.of_own h))).imp (fun _ h => ⟨h.1, h.2⟩)) (aw_one) (by decide) (hcap) (by decide)).mono ?_)
    rintro e w' ⟨B90, cb90, rfl, hP⟩
    refine ⟨_, _, rfl, hP, ?_⟩; clear hP hM
    refine St.to [cAt b1 33 [(.int .i64 2), (.int .i64 1)], cAt b18 9 [(.string (strOf (awI 65))), (.string (strOf (awI 66))), (.string (strOf (awI 67)))], cAt b21 9 [(.string (strOf (awI 66))), (.string (strOf (awI 68)))], cOwn 9 1 B123 ((withL [] (runN [(awI 65), (awI 66), (awI 67)] [(awI 66), (awI 68)] 2 1 1 5).2).length) (cb123) (SS (withL [] (runN [(awI 65), (awI 66), (awI 67)] [(awI 66), (awI 68)] 2 1 1 5).2)), cOwn 9 1 B223 ((withL [] (runN [(awI 65), (awI 66), (awI 67)] [(awI 66), (awI 68)] 2 1 1 5).1).length) (cb223) (SS (withL [] (runN [(awI 65), (awI 66), (awI 67)] [(awI 66), (awI 68)] 2 1 1 5).1)), cAt b36 9 [(.string (strOf (awI 65)))], cAt bs38 66 [(.slice A238 ([(awI 65)].length) (c238)), (.int .i64 ((2 : Nat) : Int)), (.int .i64 ((1 : Nat) : Int)), (.map (some nm38)), (.map (some om38))], cOwn 9 1 A238 ([(awI 65)].length) (c238) (SS [(awI 65)]), cSet nm38 ([] ++ (stepA [(awI 65)] 2 1 [(0 : UInt8)]).need), cSet om38 ([] ++ (stepA [(awI 65)] 2 1 [(0 : UInt8)]).off), cAt b57 5 [(.int .u8 0)], cOwn 5 1 B58 (((stepA [(awI 65)] 2 1 [(0 : UInt8)]).reply).length) (cb58) (B8 ((stepA [(awI 65)] 2 1 [(0 : UInt8)]).reply)), cAt b64 9 [(.string (strOf (awI 65))), (.string (strOf (awI 67)))], cAt b69 9 [(.string (strOf (awI 68)))], cOwn 5 1 B90 ((encA [sumA [(awI 65)] [] []]).length) (cb90) (B8 (encA [sumA [(awI 65)] [] []]))] (by kernel_rfl) ?_
    refine lgc (.int .i64 (((encA [sumA [(awI 65)] [] []]).length : Nat) : Int)) ?_
    refine lgc (.bool (decide ((((encA [sumA [(awI 65)] [] []]).length : Nat) : Int) > 0))) ?_
    refine lc (.bool (decide ((((encA [sumA [(awI 65)] [] []]).length : Nat) : Int) > 0))) ?_
    refine la ?_
    refine liNil (qThen (stRet ?_))
    refine stEnd [(.bool (decide ((((encA [sumA [(awI 65)] [] []]).length : Nat) : Int) > 0)))] rfl ⟨rfl, trivial⟩ (fun w hM => ?_)
    exact ⟨ret_bool (by have h := aw_first [awI 65] (by decide); simp; omega), (fun (w : World) (h : Mm _ _ _ w) => Mm.sub h (.cons _ (.cons _ (.cons _ (.cons _ (.cons _ (.cons _ (.cons _ (.cons _ (.cons _ (.cons _ (.cons _ (.cons _ (.cons _ (.cons _ (.cons _ .slnil)))))))))))))))) w hM⟩

end Go.Proofs.YtlepfnihpdhcaaaGreatDoor
