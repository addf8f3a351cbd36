/- The law BloomtableGivesBack, walked. -/
import Derived.Test.YtnhagokkamobaaaDoorBlLawOrder
import Derived.Test.YtnhagokkamobaaaDoorBlGive
namespace Go.Proofs.YtnhagokkamobaaaDoor
open Go.RowKit

set_option maxRecDepth 100000 in
set_option maxHeartbeats 1000000 in
theorem lawGives_big (m : Int) (seed : Nat) (A : Option Addr) (c : Nat) (ops : List BOp) (w : World) (hv : Vars w) (hfew : fewB m ops.length = false) :
    Calls Tryd.prog 7 #[Value.int .i64 m, .int .u64 (seed : Int), .slice A ops.length c] w fun e w' => e = .returned (.bool true) ∧ Fr [] w w' := by
  have HV := Lib.hid hv
  clear hv
  refine stEnter (args := [Value.int .i64 m, .int .u64 (seed : Int), .slice A ops.length c]) [] Tryd.func7 rfl 105 rfl [(0, Value.int .i64 m), (1, .int .u64 (seed : Int)), (2, .slice A ops.length c)] ⟨rfl, rfl, rfl, trivial⟩ [] (Mm.start w []) ?_
  refine stSeq ?_
  refine reg ?_
  refine li rfl (opVal (.bool false) rfl (by kernel_rfl) (rAssign rfl rfl) ?_)
  refine liNil ?_
  refine qThen ?_
  refine stSeq ?_
  refine stSeq ?_
  refine reg ?_
  refine li rfl (opVal (.int .i64 m) rfl (by kernel_rfl) (rMove rfl rfl) ?_)
  refine li rfl (opVal (.slice A (ops.length) (c)) rfl (by kernel_rfl) (rMove rfl rfl) ?_)
  refine li rfl ?_
  refine opCall 28 #[(.int .i64 m), (.slice A (ops.length) (c))] rfl (by kernel_rfl) (fun _ => by kernel_rfl) (fun w hM => ?_)
  refine ((by rw [← hfew]; exact few_any _ _ _ _ w : Calls _ _ _ w fun e w' => e = .returned (.bool false) ∧ Fr [] w w')).mono ?_
  rintro e w' ⟨rfl, hf⟩
  have hM' := hM.fr0 hf
  refine ⟨(.bool false), _, rfl, hM', ?_⟩
  clear hM hM' hf
  refine li rfl (opVal (.bool true) rfl (by kernel_rfl) (rClosed fun _ => by kernel_rfl) ?_)
  refine liNil ?_
  refine qThen ?_
  refine stTrue rfl ?_
  refine stSeq ?_
  refine reg ?_
  refine li rfl ?_
  refine opCall 13 #[] rfl (by kernel_rfl) (fun _ => by kernel_rfl) (fun w hM => ?_)
  refine (awake_any w (HV.out.mm hM)).mono ?_
  rintro e w' ⟨rfl, hf⟩
  have hM' := hM.fr0 hf
  refine ⟨(.bool true), _, rfl, hM', ?_⟩
  clear hM hM' hf
  refine li rfl (opVal (.bool true) rfl (by kernel_rfl) (rAssign rfl rfl) ?_)
  refine liNil ?_
  refine qThen ?_
  refine stRet ?_
  refine qThenR ?_
  refine stEnd [(.bool true)] rfl ⟨rfl, trivial⟩ (fun w hM => ?_)
  exact ⟨rfl, hM.fr⟩

set_option maxRecDepth 100000 in
set_option maxHeartbeats 1000000 in
theorem lawGives_bad (m : Int) (seed : Nat) (A : Option Addr) (c : Nat) (ops : List BOp) (w : World) (hv : Vars w) (hfew : fewB m ops.length = true) (hm : isSz m = false) :
    Calls Tryd.prog 7 #[Value.int .i64 m, .int .u64 (seed : Int), .slice A ops.length c] w fun e w' => e = .returned (.bool true) ∧ Fr [] w w' := by
  have HV := Lib.hid hv
  clear hv
  refine stEnter (args := [Value.int .i64 m, .int .u64 (seed : Int), .slice A ops.length c]) [] Tryd.func7 rfl 105 rfl [(0, Value.int .i64 m), (1, .int .u64 (seed : Int)), (2, .slice A ops.length c)] ⟨rfl, rfl, rfl, trivial⟩ [] (Mm.start w []) ?_
  refine stSeq ?_
  refine reg ?_
  refine li rfl (opVal (.bool false) rfl (by kernel_rfl) (rAssign rfl rfl) ?_)
  refine liNil ?_
  refine qThen ?_
  refine stSeq ?_
  refine stSeq ?_
  refine reg ?_
  refine li rfl (opVal (.int .i64 m) rfl (by kernel_rfl) (rMove rfl rfl) ?_)
  refine li rfl (opVal (.slice A (ops.length) (c)) rfl (by kernel_rfl) (rMove rfl rfl) ?_)
  refine li rfl ?_
  refine opCall 28 #[(.int .i64 m), (.slice A (ops.length) (c))] rfl (by kernel_rfl) (fun _ => by kernel_rfl) (fun w hM => ?_)
  refine ((by rw [← hfew]; exact few_any _ _ _ _ w : Calls _ _ _ w fun e w' => e = .returned (.bool true) ∧ Fr [] w w')).mono ?_
  rintro e w' ⟨rfl, hf⟩
  have hM' := hM.fr0 hf
  refine ⟨(.bool true), _, rfl, hM', ?_⟩
  clear hM hM' hf
  refine li rfl (opVal (.bool false) rfl (by kernel_rfl) (rClosed fun _ => by kernel_rfl) ?_)
  refine liNil ?_
  refine qThen ?_
  refine stFalse rfl ?_
  refine stSkip ?_
  refine qThen ?_
  refine stSeq ?_
  refine reg ?_
  refine li rfl (opVal (.int .i64 m) rfl (by kernel_rfl) (rMove rfl rfl) ?_)
  refine li rfl (opVal (.int .u64 ((seed : Nat) : Int)) rfl (by kernel_rfl) (rMove rfl rfl) ?_)
  refine li rfl (opVal (.slice A (ops.length) (c)) rfl (by kernel_rfl) (rMove rfl rfl) ?_)
  refine li rfl ?_
  refine opCall 29 #[(.int .i64 m), (.int .u64 ((seed : Nat) : Int)), (.slice A (ops.length) (c))] rfl (by kernel_rfl) (fun _ => by kernel_rfl) (fun w hM => ?_)
  refine (play_bad m seed A c ops w hm).mono ?_
  rintro e w' ⟨rfl, hf⟩
  have hM' := hM.fr0 hf
  refine ⟨(.tuple #[(.pointer none), (.agg #[(.int .u64 0), (.slice none 0 0)]), (.bool true)]), _, rfl, hM', ?_⟩
  clear hM hM' hf
  refine li rfl (opVal (.tuple #[(.pointer none), (.agg #[(.int .u64 0), (.slice none 0 0)]), (.bool true)]) rfl (by kernel_rfl) (rMove rfl rfl) ?_)
  refine li rfl (opVal (.pointer none) rfl (by kernel_rfl) (rClosed fun _ => by kernel_rfl) ?_)
  refine li rfl (opVal (.agg #[(.int .u64 0), (.slice none 0 0)]) rfl (by kernel_rfl) (rClosed fun _ => by kernel_rfl) ?_)
  refine li rfl (opVal (.bool true) rfl (by kernel_rfl) (rClosed fun _ => by kernel_rfl) ?_)
  refine li rfl ?_
  refine opAlloc [(.int .u64 0), (.slice none 0 0)] rfl rfl (by kernel_rfl) (by kernel_rfl) (fun b8 => ?_)
  refine li rfl (opVal (.pointer none) rfl (by kernel_rfl) (rAssign rfl rfl) ?_)
  refine li rfl ?_
  refine opStoreN 0 [(.int .u64 0), (.slice none 0 0)] (vs := [(.int .u64 0), (.slice none 0 0)]) rfl rfl (by kernel_rfl) rfl rfl rfl (by kernel_rfl) rfl (by simp) (by simp [Value.oneCell']) rfl ?_
  refine li rfl (opVal (.bool true) rfl (by kernel_rfl) (rAssign rfl rfl) ?_)
  refine liNil ?_
  refine qThen ?_
  refine stSeq ?_
  refine stSeq ?_
  refine reg ?_
  refine li rfl (opVal (.bool true) rfl (by kernel_rfl) (rMove rfl rfl) ?_)
  refine li rfl (opVal (.bool false) rfl (by kernel_rfl) (rClosed fun _ => by kernel_rfl) ?_)
  refine li rfl (opVal (.bool false) rfl (by kernel_rfl) (rMove rfl rfl) ?_)
  refine liGo rfl rfl (opVal (.pointer none) rfl (by kernel_rfl) (rMove rfl rfl) ?_)
  refine liGo rfl rfl (opVal (.bool true) rfl (by kernel_rfl) (rClosed fun _ => by kernel_rfl) ?_)
  refine li rfl (opVal (.bool true) rfl (by kernel_rfl) (rClosed fun _ => by kernel_rfl) ?_)
  refine liNil ?_
  refine qThen ?_
  refine stTrue rfl ?_
  refine stSeq ?_
  refine reg ?_
  refine li rfl (opVal (.bool true) rfl (by kernel_rfl) (rMove rfl rfl) ?_)
  refine li rfl (opVal (.bool true) rfl (by kernel_rfl) (rMove rfl rfl) ?_)
  refine liGo rfl rfl ?_
  refine opCall 13 #[] rfl (by kernel_rfl) (fun _ => by kernel_rfl) (fun w hM => ?_)
  refine (awake_any w (HV.out.mm hM)).mono ?_
  rintro e w' ⟨rfl, hf⟩
  have hM' := hM.fr0 hf
  refine ⟨(.bool true), _, rfl, hM', ?_⟩
  clear hM hM' hf
  refine li rfl (opVal (.bool true) rfl (by kernel_rfl) (rClosed fun _ => by kernel_rfl) ?_)
  refine li rfl (opVal (.bool true) rfl (by kernel_rfl) (rAssign rfl rfl) ?_)
  refine liNil ?_
  refine qThen ?_
  refine stRet ?_
  refine qThenR ?_
  refine stEnd [(.bool true)] rfl ⟨rfl, trivial⟩ (fun w hM => ?_)
  exact ⟨rfl, hM.fr⟩

set_option maxRecDepth 100000 in
set_option maxHeartbeats 1000000 in
theorem lawGives_none (n seed : Nat) (A : Option Addr) (c : Nat) (ops : List BOp) (w : World) (hv : Vars w) (hfew : fewB (n : Int) ops.length = true) (hn : isSz (n : Int) = true) (hu : U64 seed) (hr : RowIn w A (opCells ops)) (hl : ops.length ≤ 1000000) (hkey : (runAll (BT.new n seed) ops).keys = none) :
    Calls Tryd.prog 7 #[Value.int .i64 (n : Int), .int .u64 (seed : Int), .slice A ops.length c] w fun e w' => e = .returned (.bool true) ∧ Fr [] w w' := by
  have HV := Lib.hid hv
  clear hv
  have HU := Lib.hid hu
  have HR := Lib.hid hr
  clear hu hr
  obtain ⟨T, HT⟩ : ∃ T, Hid (T = runAll (BT.new n seed) ops) := ⟨_, rfl⟩
  have hTl : T.cells.length = n := by rw [HT.out, runAll_len]; simp [BT.new]
  have hTs : T.seed = seed := by rw [HT.out, runAll_seed]; rfl
  have hTo : T.Ok := by rw [HT.out]; exact BT.Ok.run (BT.Ok.new n seed HU.out) ops
  rw [← HT.out] at hkey
  refine stEnter (args := [Value.int .i64 (n : Int), .int .u64 (seed : Int), .slice A ops.length c]) [] Tryd.func7 rfl 105 rfl [(0, Value.int .i64 (n : Int)), (1, .int .u64 (seed : Int)), (2, .slice A ops.length c)] ⟨rfl, rfl, rfl, trivial⟩ [] (Mm.start w []) ?_
  refine stSeq ?_
  refine reg ?_
  refine li rfl (opVal (.bool false) rfl (by kernel_rfl) (rAssign rfl rfl) ?_)
  refine liNil ?_
  refine qThen ?_
  refine stSeq ?_
  refine stSeq ?_
  refine reg ?_
  refine li rfl (opVal (.int .i64 ((n : Nat) : Int)) rfl (by kernel_rfl) (rMove rfl rfl) ?_)
  refine li rfl (opVal (.slice A (ops.length) (c)) rfl (by kernel_rfl) (rMove rfl rfl) ?_)
  refine li rfl ?_
  refine opCall 28 #[(.int .i64 ((n : Nat) : Int)), (.slice A (ops.length) (c))] rfl (by kernel_rfl) (fun _ => by kernel_rfl) (fun w hM => ?_)
  refine ((by rw [← hfew]; exact few_any _ _ _ _ w : Calls _ _ _ w fun e w' => e = .returned (.bool true) ∧ Fr [] w w')).mono ?_
  rintro e w' ⟨rfl, hf⟩
  have hM' := hM.fr0 hf
  refine ⟨(.bool true), _, rfl, hM', ?_⟩
  clear hM hM' hf
  refine li rfl (opVal (.bool false) rfl (by kernel_rfl) (rClosed fun _ => by kernel_rfl) ?_)
  refine liNil ?_
  refine qThen ?_
  refine stFalse rfl ?_
  refine stSkip ?_
  refine qThen ?_
  refine stSeq ?_
  refine reg ?_
  refine li rfl (opVal (.int .i64 ((n : Nat) : Int)) rfl (by kernel_rfl) (rMove rfl rfl) ?_)
  refine li rfl (opVal (.int .u64 ((seed : Nat) : Int)) rfl (by kernel_rfl) (rMove rfl rfl) ?_)
  refine li rfl (opVal (.slice A (ops.length) (c)) rfl (by kernel_rfl) (rMove rfl rfl) ?_)
  refine li rfl ?_
  refine opCall 29 #[(.int .i64 ((n : Nat) : Int)), (.int .u64 ((seed : Nat) : Int)), (.slice A (ops.length) (c))] rfl (by kernel_rfl) (fun _ => by kernel_rfl) (fun w hM => ?_)
  refine (by have h := play_any n seed A (c) (ops) w hn (HV.out.mm hM) HU.out (HR.out.fr0 hM.fr) (hl); rw [← HT.out] at h; exact h : Calls _ _ _ w (Played n seed T w)).mono ?_
  rintro e w' ⟨bt, bc, cap, rest, g, rc, rr, rfl, hP⟩
  have hM' := hM.lift hP
  refine ⟨_, _, rfl, hM', ?_⟩
  clear hM hM' hP
  refine li rfl (opVal (.tuple #[(.pointer (some ⟨bt, 0, none⟩)), (.agg #[(.int .u64 ((seed : Nat) : Int)), (.slice (some ⟨g, 0, none⟩) (n) (rc))]), (.bool true)]) rfl (by kernel_rfl) (rMove rfl rfl) ?_)
  refine li rfl (opVal (.pointer (some ⟨bt, 0, none⟩)) rfl (by kernel_rfl) (rClosed fun _ => by kernel_rfl) ?_)
  refine li rfl (opVal (.agg #[(.int .u64 ((seed : Nat) : Int)), (.slice (some ⟨g, 0, none⟩) (n) (rc))]) rfl (by kernel_rfl) (rClosed fun _ => by kernel_rfl) ?_)
  refine li rfl (opVal (.bool true) rfl (by kernel_rfl) (rClosed fun _ => by kernel_rfl) ?_)
  refine li rfl ?_
  refine opAlloc [(.int .u64 0), (.slice none 0 0)] rfl rfl (by kernel_rfl) (by kernel_rfl) (fun b8 => ?_)
  refine li rfl (opVal (.pointer (some ⟨bt, 0, none⟩)) rfl (by kernel_rfl) (rAssign rfl rfl) ?_)
  refine li rfl ?_
  refine opStoreN 2 [(.int .u64 ((seed : Nat) : Int)), (.slice (some ⟨g, 0, none⟩) (n) (rc))] (vs := [(.int .u64 ((seed : Nat) : Int)), (.slice (some ⟨g, 0, none⟩) (n) (rc))]) rfl rfl (by kernel_rfl) rfl rfl rfl (by kernel_rfl) rfl (by simp) (by simp [Value.oneCell']) rfl ?_
  refine li rfl (opVal (.bool true) rfl (by kernel_rfl) (rAssign rfl rfl) ?_)
  refine liNil ?_
  refine qThen ?_
  refine stSeq ?_
  refine stSeq ?_
  refine reg ?_
  refine li rfl (opVal (.bool true) rfl (by kernel_rfl) (rMove rfl rfl) ?_)
  refine li rfl (opVal (.bool false) rfl (by kernel_rfl) (rClosed fun _ => by kernel_rfl) ?_)
  refine li rfl (opVal (.bool false) rfl (by kernel_rfl) (rMove rfl rfl) ?_)
  refine liGo rfl rfl (opVal (.pointer (some ⟨bt, 0, none⟩)) rfl (by kernel_rfl) (rMove rfl rfl) ?_)
  refine liGo rfl rfl (opVal (.bool false) rfl (by kernel_rfl) (rClosed fun _ => by kernel_rfl) ?_)
  refine li rfl (opVal (.bool false) rfl (by kernel_rfl) (rClosed fun _ => by kernel_rfl) ?_)
  refine liNil ?_
  refine qThen ?_
  refine stFalse rfl ?_
  refine stSkip ?_
  refine qThen ?_
  refine stSeq ?_
  refine reg ?_
  refine li rfl (opVal (.pointer (some ⟨bt, 0, none⟩)) rfl (by kernel_rfl) (rMove rfl rfl) ?_)
  refine li rfl ?_
  refine opCall 26 #[(.pointer (some ⟨bt, 0, none⟩))] rfl (by kernel_rfl) (fun _ => by kernel_rfl) (fun w hM => ?_)
  refine (keys_none hkey (HV.out.mm hM) (hM.at (i := 0) rfl)).mono ?_
  rintro e w' ⟨rfl, hf⟩
  have hM' := hM.fr0 hf
  refine ⟨_, _, rfl, hM', ?_⟩
  clear hM hM' hf
  refine li rfl (opVal (.tuple #[(.slice none 0 0), (.slice none 0 0), (.int .i64 10)]) rfl (by kernel_rfl) (rMove rfl rfl) ?_)
  refine li rfl (opVal (.slice none 0 0) rfl (by kernel_rfl) (rClosed fun _ => by kernel_rfl) ?_)
  refine li rfl (opVal (.slice none 0 0) rfl (by kernel_rfl) (rClosed fun _ => by kernel_rfl) ?_)
  refine li rfl (opVal (.int .i64 10) rfl (by kernel_rfl) (rClosed fun _ => by kernel_rfl) ?_)
  refine li rfl (opVal (.slice none 0 0) rfl (by kernel_rfl) (rAssign rfl rfl) ?_)
  refine li rfl (opVal (.slice none 0 0) rfl (by kernel_rfl) (rAssign rfl rfl) ?_)
  refine li rfl (opVal (.int .i64 10) rfl (by kernel_rfl) (rAssign rfl rfl) ?_)
  refine liNil ?_
  refine qThen ?_
  refine stSeq ?_
  refine reg ?_
  refine li rfl (opVal (.int .i64 ((n : Nat) : Int)) rfl (by kernel_rfl) (rMove rfl rfl) ?_)
  refine li rfl (opVal (.int .u64 ((seed : Nat) : Int)) rfl (by kernel_rfl) (rMove rfl rfl) ?_)
  refine li rfl ?_
  refine opCall 21 #[(.int .i64 ((n : Nat) : Int)), (.int .u64 ((seed : Nat) : Int))] rfl (by kernel_rfl) (fun _ => by kernel_rfl) (fun w hM => ?_)
  refine (blNew_any n seed w hn HU.out).mono ?_
  rintro e w' ⟨rfl, hf, ht⟩
  obtain ⟨bt2, hbt⟩ : ∃ bt, bt = w.heap.size + 1 := ⟨_, rfl⟩
  obtain ⟨bc2, hbc⟩ : ∃ bc, bc = w.heap.size := ⟨_, rfl⟩
  rw [← hbt] at ht ⊢
  rw [← hbc] at ht
  have hM' := hM.pushTab hf ht (by omega) (by omega)
  refine ⟨_, _, rfl, hM', ?_⟩
  clear hM hM' hf ht hbt hbc
  refine li rfl (opVal (.tuple #[(.pointer (some ⟨bt2, 0, none⟩)), (.int .i64 0)]) rfl (by kernel_rfl) (rMove rfl rfl) ?_)
  refine li rfl (opVal (.pointer (some ⟨bt2, 0, none⟩)) rfl (by kernel_rfl) (rClosed fun _ => by kernel_rfl) ?_)
  refine li rfl (opVal (.int .i64 0) rfl (by kernel_rfl) (rClosed fun _ => by kernel_rfl) ?_)
  refine li rfl (opVal (.pointer (some ⟨bt2, 0, none⟩)) rfl (by kernel_rfl) (rAssign rfl rfl) ?_)
  refine li rfl (opVal (.int .i64 0) rfl (by kernel_rfl) (rAssign rfl rfl) ?_)
  refine liNil ?_
  refine qThen ?_
  refine stSeq ?_
  refine stSeq ?_
  refine reg ?_
  refine li rfl (opVal (.int .i64 10) rfl (by kernel_rfl) (rMove rfl rfl) ?_)
  refine li rfl (opVal (.bool true) rfl (by kernel_rfl) (rClosed fun _ => by kernel_rfl) ?_)
  refine li rfl (opVal (.bool true) rfl (by kernel_rfl) (rMove rfl rfl) ?_)
  refine liNot (b := true) rfl rfl (by kernel_rfl) rfl ?_
  refine liNot (b := true) rfl rfl (by kernel_rfl) rfl ?_
  refine li rfl (opVal (.bool true) rfl (by kernel_rfl) (rClosed fun _ => by kernel_rfl) ?_)
  refine li rfl (opVal (.bool true) rfl (by kernel_rfl) (rMove rfl rfl) ?_)
  refine liNot (b := true) rfl rfl (by kernel_rfl) rfl ?_
  refine liNot (b := true) rfl rfl (by kernel_rfl) rfl ?_
  refine li rfl (opVal (.bool true) rfl (by kernel_rfl) (rClosed fun _ => by kernel_rfl) ?_)
  refine liNil ?_
  refine qThen ?_
  refine stTrue rfl ?_
  refine stSeq ?_
  refine reg ?_
  refine li rfl ?_
  refine opCall 13 #[] rfl (by kernel_rfl) (fun _ => by kernel_rfl) (fun w hM => ?_)
  refine (awake_any w (HV.out.mm hM)).mono ?_
  rintro e w' ⟨rfl, hf⟩
  have hM' := hM.fr0 hf
  refine ⟨(.bool true), _, rfl, hM', ?_⟩
  clear hM hM' hf
  refine li rfl (opVal (.bool true) rfl (by kernel_rfl) (rMove rfl rfl) ?_)
  refine liGo rfl rfl (opVal (.int .i64 0) rfl (by kernel_rfl) (rMove rfl rfl) ?_)
  refine liGo rfl rfl (opVal (.bool true) rfl (by kernel_rfl) (rClosed fun _ => by kernel_rfl) ?_)
  refine li rfl (opVal (.bool true) rfl (by kernel_rfl) (rClosed fun _ => by kernel_rfl) ?_)
  refine li rfl (opVal (.bool true) rfl (by kernel_rfl) (rMove rfl rfl) ?_)
  refine liGo rfl rfl (opVal (.pointer (some ⟨bt2, 0, none⟩)) rfl (by kernel_rfl) (rMove rfl rfl) ?_)
  refine liGo rfl rfl (opVal (.bool true) rfl (by kernel_rfl) (rClosed fun _ => by kernel_rfl) ?_)
  refine li rfl (opVal (.bool true) rfl (by kernel_rfl) (rClosed fun _ => by kernel_rfl) ?_)
  refine li rfl (opVal (.bool true) rfl (by kernel_rfl) (rAssign rfl rfl) ?_)
  refine liNil ?_
  refine qThen ?_
  refine stRet ?_
  refine qThenR ?_
  refine stEnd [(.bool true)] rfl ⟨rfl, trivial⟩ (fun w hM => ?_)
  exact ⟨rfl, hM.fr⟩

set_option maxRecDepth 100000 in
set_option maxHeartbeats 1000000 in
theorem lawGives_some (n seed : Nat) (A : Option Addr) (c : Nat) (ops : List BOp) (w : World) (hv : Vars w) (hfew : fewB (n : Int) ops.length = true) (hn : isSz (n : Int) = true) (hu : U64 seed) (hr : RowIn w A (opCells ops)) (hl : ops.length ≤ 1000000) (la lb : List (List UInt8)) (hkey : (runAll (BT.new n seed) ops).keys = some (la, lb)) (hla : la.length ≤ 1000000) (hlb : lb.length ≤ 1000000) :
    Calls Tryd.prog 7 #[Value.int .i64 (n : Int), .int .u64 (seed : Int), .slice A ops.length c] w fun e w' => e = .returned (.bool true) ∧ Fr [] w w' := by
  have HV := Lib.hid hv
  clear hv
  have HU := Lib.hid hu
  have HR := Lib.hid hr
  clear hu hr
  obtain ⟨T, HT⟩ : ∃ T, Hid (T = runAll (BT.new n seed) ops) := ⟨_, rfl⟩
  have hTl : T.cells.length = n := by rw [HT.out, runAll_len]; simp [BT.new]
  have hTs : T.seed = seed := by rw [HT.out, runAll_seed]; rfl
  have hTo : T.Ok := by rw [HT.out]; exact BT.Ok.run (BT.Ok.new n seed HU.out) ops
  rw [← HT.out] at hkey
  have HGB : Hid (runAll (runAll (BT.new n seed) (insOps la)) (delOps lb) = T) := by
    have h := gives_back hTo hkey
    rw [hTl, hTs] at h
    exact h
  refine stEnter (args := [Value.int .i64 (n : Int), .int .u64 (seed : Int), .slice A ops.length c]) [] Tryd.func7 rfl 105 rfl [(0, Value.int .i64 (n : Int)), (1, .int .u64 (seed : Int)), (2, .slice A ops.length c)] ⟨rfl, rfl, rfl, trivial⟩ [] (Mm.start w []) ?_
  refine stSeq ?_
  refine reg ?_
  refine li rfl (opVal (.bool false) rfl (by kernel_rfl) (rAssign rfl rfl) ?_)
  refine liNil ?_
  refine qThen ?_
  refine stSeq ?_
  refine stSeq ?_
  refine reg ?_
  refine li rfl (opVal (.int .i64 ((n : Nat) : Int)) rfl (by kernel_rfl) (rMove rfl rfl) ?_)
  refine li rfl (opVal (.slice A (ops.length) (c)) rfl (by kernel_rfl) (rMove rfl rfl) ?_)
  refine li rfl ?_
  refine opCall 28 #[(.int .i64 ((n : Nat) : Int)), (.slice A (ops.length) (c))] rfl (by kernel_rfl) (fun _ => by kernel_rfl) (fun w hM => ?_)
  refine ((by rw [← hfew]; exact few_any _ _ _ _ w : Calls _ _ _ w fun e w' => e = .returned (.bool true) ∧ Fr [] w w')).mono ?_
  rintro e w' ⟨rfl, hf⟩
  have hM' := hM.fr0 hf
  refine ⟨(.bool true), _, rfl, hM', ?_⟩
  clear hM hM' hf
  refine li rfl (opVal (.bool false) rfl (by kernel_rfl) (rClosed fun _ => by kernel_rfl) ?_)
  refine liNil ?_
  refine qThen ?_
  refine stFalse rfl ?_
  refine stSkip ?_
  refine qThen ?_
  refine stSeq ?_
  refine reg ?_
  refine li rfl (opVal (.int .i64 ((n : Nat) : Int)) rfl (by kernel_rfl) (rMove rfl rfl) ?_)
  refine li rfl (opVal (.int .u64 ((seed : Nat) : Int)) rfl (by kernel_rfl) (rMove rfl rfl) ?_)
  refine li rfl (opVal (.slice A (ops.length) (c)) rfl (by kernel_rfl) (rMove rfl rfl) ?_)
  refine li rfl ?_
  refine opCall 29 #[(.int .i64 ((n : Nat) : Int)), (.int .u64 ((seed : Nat) : Int)), (.slice A (ops.length) (c))] rfl (by kernel_rfl) (fun _ => by kernel_rfl) (fun w hM => ?_)
  refine (by have h := play_any n seed A (c) (ops) w hn (HV.out.mm hM) HU.out (HR.out.fr0 hM.fr) (hl); rw [← HT.out] at h; exact h : Calls _ _ _ w (Played n seed T w)).mono ?_
  rintro e w' ⟨bt, bc, cap, rest, g, rc, rr, rfl, hP⟩
  have hM' := hM.lift hP
  refine ⟨_, _, rfl, hM', ?_⟩
  clear hM hM' hP
  refine li rfl (opVal (.tuple #[(.pointer (some ⟨bt, 0, none⟩)), (.agg #[(.int .u64 ((seed : Nat) : Int)), (.slice (some ⟨g, 0, none⟩) (n) (rc))]), (.bool true)]) rfl (by kernel_rfl) (rMove rfl rfl) ?_)
  refine li rfl (opVal (.pointer (some ⟨bt, 0, none⟩)) rfl (by kernel_rfl) (rClosed fun _ => by kernel_rfl) ?_)
  refine li rfl (opVal (.agg #[(.int .u64 ((seed : Nat) : Int)), (.slice (some ⟨g, 0, none⟩) (n) (rc))]) rfl (by kernel_rfl) (rClosed fun _ => by kernel_rfl) ?_)
  refine li rfl (opVal (.bool true) rfl (by kernel_rfl) (rClosed fun _ => by kernel_rfl) ?_)
  refine li rfl ?_
  refine opAlloc [(.int .u64 0), (.slice none 0 0)] rfl rfl (by kernel_rfl) (by kernel_rfl) (fun b8 => ?_)
  refine li rfl (opVal (.pointer (some ⟨bt, 0, none⟩)) rfl (by kernel_rfl) (rAssign rfl rfl) ?_)
  refine li rfl ?_
  refine opStoreN 2 [(.int .u64 ((seed : Nat) : Int)), (.slice (some ⟨g, 0, none⟩) (n) (rc))] (vs := [(.int .u64 ((seed : Nat) : Int)), (.slice (some ⟨g, 0, none⟩) (n) (rc))]) rfl rfl (by kernel_rfl) rfl rfl rfl (by kernel_rfl) rfl (by simp) (by simp [Value.oneCell']) rfl ?_
  refine li rfl (opVal (.bool true) rfl (by kernel_rfl) (rAssign rfl rfl) ?_)
  refine liNil ?_
  refine qThen ?_
  refine stSeq ?_
  refine stSeq ?_
  refine reg ?_
  refine li rfl (opVal (.bool true) rfl (by kernel_rfl) (rMove rfl rfl) ?_)
  refine li rfl (opVal (.bool false) rfl (by kernel_rfl) (rClosed fun _ => by kernel_rfl) ?_)
  refine li rfl (opVal (.bool false) rfl (by kernel_rfl) (rMove rfl rfl) ?_)
  refine liGo rfl rfl (opVal (.pointer (some ⟨bt, 0, none⟩)) rfl (by kernel_rfl) (rMove rfl rfl) ?_)
  refine liGo rfl rfl (opVal (.bool false) rfl (by kernel_rfl) (rClosed fun _ => by kernel_rfl) ?_)
  refine li rfl (opVal (.bool false) rfl (by kernel_rfl) (rClosed fun _ => by kernel_rfl) ?_)
  refine liNil ?_
  refine qThen ?_
  refine stFalse rfl ?_
  refine stSkip ?_
  refine qThen ?_
  refine stSeq ?_
  refine reg ?_
  refine li rfl (opVal (.pointer (some ⟨bt, 0, none⟩)) rfl (by kernel_rfl) (rMove rfl rfl) ?_)
  refine li rfl ?_
  refine opCallB 26 #[(.pointer (some ⟨bt, 0, none⟩))] rfl (by kernel_rfl) (fun _ => by kernel_rfl) (fun w hM => ?_)
  refine (keys_some hkey (HV.out.mm hM) (hM.at (i := 0) rfl)).mono ?_
  rintro e w1 ⟨Aa, ca, Ab, cb, rfl, hf, hra, hrb⟩
  have hM1 := hM.fr0 hf
  refine ⟨_, w1, [], [], rfl, Mm.start w1 [], ?_⟩
  have HF1 := Lib.hid hM1.fr
  have HV1 : Hid (Vars w1) := HV.out.mm hM1
  have HT1 : Hid (TabAt w1 bt bc cap rest T) := hM1.at (i := 0) rfl
  have HA := Lib.hid hra
  have HB := Lib.hid hrb
  clear hM hM1 hf hra hrb
  refine li rfl (opVal (.tuple #[(.slice Aa (la.length) (ca)), (.slice Ab (lb.length) (cb)), (.int .i64 0)]) rfl (by kernel_rfl) (rMove rfl rfl) ?_)
  refine li rfl (opVal (.slice Aa (la.length) (ca)) rfl (by kernel_rfl) (rClosed fun _ => by kernel_rfl) ?_)
  refine li rfl (opVal (.slice Ab (lb.length) (cb)) rfl (by kernel_rfl) (rClosed fun _ => by kernel_rfl) ?_)
  refine li rfl (opVal (.int .i64 0) rfl (by kernel_rfl) (rClosed fun _ => by kernel_rfl) ?_)
  refine li rfl (opVal (.slice Aa (la.length) (ca)) rfl (by kernel_rfl) (rAssign rfl rfl) ?_)
  refine li rfl (opVal (.slice Ab (lb.length) (cb)) rfl (by kernel_rfl) (rAssign rfl rfl) ?_)
  refine li rfl (opVal (.int .i64 0) rfl (by kernel_rfl) (rAssign rfl rfl) ?_)
  refine liNil ?_
  refine qThen ?_
  refine stSeq ?_
  refine reg ?_
  refine li rfl (opVal (.int .i64 ((n : Nat) : Int)) rfl (by kernel_rfl) (rMove rfl rfl) ?_)
  refine li rfl (opVal (.int .u64 ((seed : Nat) : Int)) rfl (by kernel_rfl) (rMove rfl rfl) ?_)
  refine li rfl ?_
  refine opCall 21 #[(.int .i64 ((n : Nat) : Int)), (.int .u64 ((seed : Nat) : Int))] rfl (by kernel_rfl) (fun _ => by kernel_rfl) (fun w hM => ?_)
  refine (blNew_any n seed w hn HU.out).mono ?_
  rintro e w' ⟨rfl, hf, ht⟩
  obtain ⟨bt2, hbt⟩ : ∃ bt, bt = w.heap.size + 1 := ⟨_, rfl⟩
  obtain ⟨bc2, hbc⟩ : ∃ bc, bc = w.heap.size := ⟨_, rfl⟩
  rw [← hbt] at ht ⊢
  rw [← hbc] at ht
  have hM' := hM.pushTab hf ht (by omega) (by omega)
  refine ⟨_, _, rfl, hM', ?_⟩
  clear hM hM' hf ht hbt hbc
  refine li rfl (opVal (.tuple #[(.pointer (some ⟨bt2, 0, none⟩)), (.int .i64 0)]) rfl (by kernel_rfl) (rMove rfl rfl) ?_)
  refine li rfl (opVal (.pointer (some ⟨bt2, 0, none⟩)) rfl (by kernel_rfl) (rClosed fun _ => by kernel_rfl) ?_)
  refine li rfl (opVal (.int .i64 0) rfl (by kernel_rfl) (rClosed fun _ => by kernel_rfl) ?_)
  refine li rfl (opVal (.pointer (some ⟨bt2, 0, none⟩)) rfl (by kernel_rfl) (rAssign rfl rfl) ?_)
  refine li rfl (opVal (.int .i64 0) rfl (by kernel_rfl) (rAssign rfl rfl) ?_)
  refine liNil ?_
  refine qThen ?_
  refine stSeq ?_
  refine stSeq ?_
  refine reg ?_
  refine li rfl (opVal (.int .i64 0) rfl (by kernel_rfl) (rMove rfl rfl) ?_)
  refine li rfl (opVal (.bool false) rfl (by kernel_rfl) (rClosed fun _ => by kernel_rfl) ?_)
  refine li rfl (opVal (.bool false) rfl (by kernel_rfl) (rMove rfl rfl) ?_)
  refine liGo rfl rfl (opVal (.int .i64 0) rfl (by kernel_rfl) (rMove rfl rfl) ?_)
  refine liGo rfl rfl (opVal (.bool false) rfl (by kernel_rfl) (rClosed fun _ => by kernel_rfl) ?_)
  refine li rfl (opVal (.bool false) rfl (by kernel_rfl) (rClosed fun _ => by kernel_rfl) ?_)
  refine li rfl (opVal (.bool false) rfl (by kernel_rfl) (rMove rfl rfl) ?_)
  refine liGo rfl rfl (opVal (.pointer (some ⟨bt2, 0, none⟩)) rfl (by kernel_rfl) (rMove rfl rfl) ?_)
  refine liGo rfl rfl (opVal (.bool false) rfl (by kernel_rfl) (rClosed fun _ => by kernel_rfl) ?_)
  refine li rfl (opVal (.bool false) rfl (by kernel_rfl) (rClosed fun _ => by kernel_rfl) ?_)
  refine liNil ?_
  refine qThen ?_
  refine stFalse rfl ?_
  refine stSkip ?_
  refine qThen ?_
  refine stSeq ?_
  refine stSeq ?_
  refine reg ?_
  refine li rfl (opVal (.int .i64 0) rfl (by kernel_rfl) (rAssign rfl rfl) ?_)
  refine liNil ?_
  refine qThen ?_
  refine stBlock ?_
  have e0la := runTo_zero (BT.new n seed) (insOps la)
  refine stLoop (ι := Nat) (fun i => i ≤ la.length) (fun i => la.length - i) (fun i => [(7, (.pointer (some ⟨bt, 0, none⟩))), (10, (.slice Aa (la.length) (ca))), (11, (.slice Ab (lb.length) (cb))), (13, (.pointer (some ⟨bt2, 0, none⟩))), (15, (.int .i64 ((i : Nat) : Int)))]) (fun i => [cTab bt2 bc2 n [] (runTo (BT.new n seed) (insOps la) i)]) 0 (Nat.zero_le _) ⟨rfl, rfl, rfl, rfl, rfl, trivial⟩ (fun w hM => by show Mm _ _ [cTab bt2 bc2 n [] (runTo (BT.new n seed) (insOps la) 0)] w; rw [e0la]; exact hM) ?_
  intro i (hi : i ≤ la.length)
  show St _ _ _ [(7, (.pointer (some ⟨bt, 0, none⟩))), (10, (.slice Aa (la.length) (ca))), (11, (.slice Ab (lb.length) (cb))), (13, (.pointer (some ⟨bt2, 0, none⟩))), (15, (.int .i64 ((i : Nat) : Int)))] [cTab bt2 bc2 n [] (runTo (BT.new n seed) (insOps la) i)] _
  refine stSeq ?_
  refine stSeq ?_
  refine reg ?_
  refine li rfl (opVal (.int .i64 ((i : Nat) : Int)) rfl (by kernel_rfl) (rMove rfl rfl) ?_)
  refine li rfl (opVal (.slice Aa (la.length) (ca)) rfl (by kernel_rfl) (rMove rfl rfl) ?_)
  refine li rfl (opVal (.int .i64 ((la.length : Nat) : Int)) rfl (by kernel_rfl) (rClosed fun _ => by kernel_rfl) ?_)
  refine li rfl (opVal (.bool (decide (((i : Nat) : Int) < ((la.length : Nat) : Int)))) rfl (by kernel_rfl) (rClosed fun _ => by kernel_rfl) ?_)
  refine liNil ?_
  refine qThen ?_
  refine stCond rfl (fun hc74 => ?_) (fun hc74 => ?_)
  · have hd74 := of_decide_eq_true hc74
    have hlt : i < la.length := by omega
    obtain ⟨key, hk⟩ : ∃ key, la[i]? = some key := ⟨_, List.getElem?_eq_getElem hlt⟩
    have HST := Lib.hid (runTo_succ (BT.new n seed) (ops := insOps la) (i := i) (o := (key, false)) (by unfold insOps; rw [List.getElem?_map, hk]; rfl))
    obtain ⟨b, o, hA, hbl, hck⟩ := HA.out i (S8v key) (by rw [List.getElem?_map, hk]; rfl)
    subst hA
    obtain ⟨U, HUU⟩ : ∃ U, Hid (U = runTo (BT.new n seed) (insOps la) i) := ⟨_, rfl⟩
    rw [← HUU.out] at HST ⊢
    refine stSkip ?_
    refine qThen ?_
    refine stSeq ?_
    refine stBlock ?_
    refine reg ?_
    refine li rfl (opVal (.pointer (some ⟨bt2, 0, none⟩)) rfl (by kernel_rfl) (rMove rfl rfl) ?_)
    refine li rfl (opVal (.slice (some ⟨b, o, none⟩) (la.length) (ca)) rfl (by kernel_rfl) (rMove rfl rfl) ?_)
    refine li rfl (opVal (.int .i64 ((i : Nat) : Int)) rfl (by kernel_rfl) (rMove rfl rfl) ?_)
    refine li rfl (opVal (.pointer (some ⟨b, o + i, none⟩)) rfl (by kernel_rfl) (rIndexAddr1 (e := 9) rfl (by kernel_rfl) (by kernel_rfl) rfl rfl (by omega)) ?_)
    refine li rfl (opVal (.string (strOf key)) rfl (by kernel_rfl) (rLoadW rfl rfl (by kernel_rfl) (fun w hM => hM.old hck (by simp))) ?_)
    refine li rfl ?_
    refine opCall 22 #[(.pointer (some ⟨bt2, 0, none⟩)), (.string (strOf key))] rfl (by kernel_rfl) (fun _ => by kernel_rfl) (fun w hM => ?_)
    refine (stepCall_ins bt2 bc2 n [] U key w (HV1.out.mm hM) (hM.at (i := 0) rfl)).mono ?_
    rintro e w' ⟨r, rfl, hf, ht⟩
    have hM' := hM.swapTab 0 rfl hf ht
    refine ⟨_, _, rfl, hM', ?_⟩
    clear hM hM' hf ht
    refine liNil ?_
    refine qBlock ?_
    refine qThen ?_
    refine reg ?_
    refine li rfl (opVal (.int .i64 ((i : Nat) : Int)) rfl (by kernel_rfl) (rMove rfl rfl) ?_)
    refine li rfl (opVal (.int .i64 ((i + 1 : Nat) : Int)) rfl (by kernel_rfl) (rAdd _ rfl rfl rfl (by omega) (by omega) (by omega)) ?_)
    refine li rfl (opVal (.int .i64 ((i + 1 : Nat) : Int)) rfl (by kernel_rfl) (rAssign rfl rfl) ?_)
    refine liNil ?_
    refine qThen ?_
    exact stAgain (i + 1) (by show _ ≤ _; omega) (by show la.length - (i + 1) < la.length - i; omega) ⟨rfl, rfl, rfl, rfl, rfl, trivial⟩ (fun w hM => by show Mm _ _ [cTab bt2 bc2 n [] (runTo (BT.new n seed) (insOps la) (i + 1))] w; rw [HST.out]; exact hM)
  · have hd74 := of_decide_eq_false hc74
    obtain rfl : i = la.length := by omega
    have eallla := runTo_all (BT.new n seed) (insOps la)
    rw [show (insOps la).length = la.length by simp [insOps]] at eallla
    rw [eallla]
    refine stExit ?_
    refine qThenX ?_
    refine qThenX ?_
    refine qBlockX ?_
    refine qThen ?_
    refine stSeq ?_
    refine stSeq ?_
    refine reg ?_
    refine li rfl (opVal (.int .i64 0) rfl (by kernel_rfl) (rAssign rfl rfl) ?_)
    refine liNil ?_
    refine qThen ?_
    refine stBlock ?_
    have e0lb := runTo_zero (runAll (BT.new n seed) (insOps la)) (delOps lb)
    refine stLoop (ι := Nat) (fun i => i ≤ lb.length) (fun i => lb.length - i) (fun i => [(7, (.pointer (some ⟨bt, 0, none⟩))), (10, (.slice Aa (la.length) (ca))), (11, (.slice Ab (lb.length) (cb))), (13, (.pointer (some ⟨bt2, 0, none⟩))), (16, (.int .i64 ((i : Nat) : Int)))]) (fun i => [cTab bt2 bc2 n [] (runTo (runAll (BT.new n seed) (insOps la)) (delOps lb) i)]) 0 (Nat.zero_le _) ⟨rfl, rfl, rfl, rfl, rfl, trivial⟩ (fun w hM => by show Mm _ _ [cTab bt2 bc2 n [] (runTo (runAll (BT.new n seed) (insOps la)) (delOps lb) 0)] w; rw [e0lb]; exact hM) ?_
    intro i (hi : i ≤ lb.length)
    show St _ _ _ [(7, (.pointer (some ⟨bt, 0, none⟩))), (10, (.slice Aa (la.length) (ca))), (11, (.slice Ab (lb.length) (cb))), (13, (.pointer (some ⟨bt2, 0, none⟩))), (16, (.int .i64 ((i : Nat) : Int)))] [cTab bt2 bc2 n [] (runTo (runAll (BT.new n seed) (insOps la)) (delOps lb) i)] _
    refine stSeq ?_
    refine stSeq ?_
    refine reg ?_
    refine li rfl (opVal (.int .i64 ((i : Nat) : Int)) rfl (by kernel_rfl) (rMove rfl rfl) ?_)
    refine li rfl (opVal (.slice Ab (lb.length) (cb)) rfl (by kernel_rfl) (rMove rfl rfl) ?_)
    refine li rfl (opVal (.int .i64 ((lb.length : Nat) : Int)) rfl (by kernel_rfl) (rClosed fun _ => by kernel_rfl) ?_)
    refine li rfl (opVal (.bool (decide (((i : Nat) : Int) < ((lb.length : Nat) : Int)))) rfl (by kernel_rfl) (rClosed fun _ => by kernel_rfl) ?_)
    refine liNil ?_
    refine qThen ?_
    refine stCond rfl (fun hc86 => ?_) (fun hc86 => ?_)
    · have hd86 := of_decide_eq_true hc86
      have hlt : i < lb.length := by omega
      obtain ⟨key, hk⟩ : ∃ key, lb[i]? = some key := ⟨_, List.getElem?_eq_getElem hlt⟩
      have HST := Lib.hid (runTo_succ (runAll (BT.new n seed) (insOps la)) (ops := delOps lb) (i := i) (o := (key, true)) (by unfold delOps; rw [List.getElem?_map, hk]; rfl))
      obtain ⟨b, o, hA, hbl, hck⟩ := HB.out i (S8v key) (by rw [List.getElem?_map, hk]; rfl)
      subst hA
      obtain ⟨U, HUU⟩ : ∃ U, Hid (U = runTo (runAll (BT.new n seed) (insOps la)) (delOps lb) i) := ⟨_, rfl⟩
      rw [← HUU.out] at HST ⊢
      refine stSkip ?_
      refine qThen ?_
      refine stSeq ?_
      refine stBlock ?_
      refine reg ?_
      refine li rfl (opVal (.pointer (some ⟨bt2, 0, none⟩)) rfl (by kernel_rfl) (rMove rfl rfl) ?_)
      refine li rfl (opVal (.slice (some ⟨b, o, none⟩) (lb.length) (cb)) rfl (by kernel_rfl) (rMove rfl rfl) ?_)
      refine li rfl (opVal (.int .i64 ((i : Nat) : Int)) rfl (by kernel_rfl) (rMove rfl rfl) ?_)
      refine li rfl (opVal (.pointer (some ⟨b, o + i, none⟩)) rfl (by kernel_rfl) (rIndexAddr1 (e := 9) rfl (by kernel_rfl) (by kernel_rfl) rfl rfl (by omega)) ?_)
      refine li rfl (opVal (.string (strOf key)) rfl (by kernel_rfl) (rLoadW rfl rfl (by kernel_rfl) (fun w hM => hM.old hck (by simp))) ?_)
      refine li rfl ?_
      refine opCall 33 #[(.pointer (some ⟨bt2, 0, none⟩)), (.string (strOf key))] rfl (by kernel_rfl) (fun _ => by kernel_rfl) (fun w hM => ?_)
      refine (stepCall_del bt2 bc2 n [] U key w (HV1.out.mm hM) (hM.at (i := 0) rfl)).mono ?_
      rintro e w' ⟨r, rfl, hf, ht⟩
      have hM' := hM.swapTab 0 rfl hf ht
      refine ⟨_, _, rfl, hM', ?_⟩
      clear hM hM' hf ht
      refine liNil ?_
      refine qBlock ?_
      refine qThen ?_
      refine reg ?_
      refine li rfl (opVal (.int .i64 ((i : Nat) : Int)) rfl (by kernel_rfl) (rMove rfl rfl) ?_)
      refine li rfl (opVal (.int .i64 ((i + 1 : Nat) : Int)) rfl (by kernel_rfl) (rAdd _ rfl rfl rfl (by omega) (by omega) (by omega)) ?_)
      refine li rfl (opVal (.int .i64 ((i + 1 : Nat) : Int)) rfl (by kernel_rfl) (rAssign rfl rfl) ?_)
      refine liNil ?_
      refine qThen ?_
      exact stAgain (i + 1) (by show _ ≤ _; omega) (by show lb.length - (i + 1) < lb.length - i; omega) ⟨rfl, rfl, rfl, rfl, rfl, trivial⟩ (fun w hM => by show Mm _ _ [cTab bt2 bc2 n [] (runTo (runAll (BT.new n seed) (insOps la)) (delOps lb) (i + 1))] w; rw [HST.out]; exact hM)
    · have hd86 := of_decide_eq_false hc86
      obtain rfl : i = lb.length := by omega
      have ealllb := runTo_all (runAll (BT.new n seed) (insOps la)) (delOps lb)
      rw [show (delOps lb).length = lb.length by simp [delOps]] at ealllb
      rw [ealllb]
      rw [HGB.out]
      refine stExit ?_
      refine qThenX ?_
      refine qThenX ?_
      refine qBlockX ?_
      refine qThen ?_
      refine stSeq ?_
      refine anyBegin [cTab bt2 bc2 n [] T] 11 (by kernel_rfl) (fun _ h => h) ?_
      refine anyOne (i := 0) (by kernel_rfl) rfl rfl ?_
      refine opCall 13 #[] rfl (by kernel_rfl) (fun _ => by kernel_rfl) (fun w hM => ?_)
      refine (awake_any w (HV1.out.mm hM)).mono ?_
      rintro e w' ⟨rfl, hf⟩
      have hM' := hM.fr0 hf
      refine ⟨(.bool true), _, rfl, hM', ?_⟩
      clear hM hM' hf
      refine anyNext [cTab bt2 bc2 n [] T] (fun _ h => h) (fun _ h => h) ?_
      refine anyVal (i := 1) (.bool true) rfl rfl rfl (by kernel_rfl) (by kernel_rfl) (fun _ _ _ h => h) (rMove rfl rfl) ?_
      refine anyValG (i := 2) (.pointer (some ⟨bt2, 0, none⟩)) rfl rfl rfl rfl (by kernel_rfl) (by kernel_rfl) (fun _ _ _ h => h) (rMove rfl rfl) ?_
      refine anyValG (i := 5) (.pointer (some ⟨bt, 0, none⟩)) rfl rfl rfl rfl (by kernel_rfl) (by kernel_rfl) (fun _ _ _ h => h) (rMove rfl rfl) ?_
      refine anyOneG (i := 3) (by kernel_rfl) rfl rfl rfl ?_
      refine opCall 31 #[(.pointer (some ⟨bt2, 0, none⟩))] rfl (by kernel_rfl) (fun _ => by kernel_rfl) (fun w hM => ?_)
      refine (encode_any _ _ _ _ T w (hM.at (i := 0) rfl)).mono ?_
      rintro e w' ⟨v, rfl, hN⟩
      obtain ⟨A98, c98, rfl, hM'⟩ := hM.pushOwn hN.fr hN.own
      refine ⟨_, _, rfl, hM', ?_⟩
      clear hM hN hM'
      refine anyNext [cTab bt2 bc2 n [] T, cOwn 5 1 A98 ((T.enc).length) (c98) (B8 (T.enc))] (fun _ h => h.sub (.cons_cons _ (.cons _ .slnil))) (fun _ h => h) ?_
      refine anyValG (i := 4) (.string (strOf (T.enc))) rfl rfl rfl rfl (by kernel_rfl) (by kernel_rfl) (fun _ _ _ h => h) (rStr (e := 5) (T.enc) rfl (by kernel_rfl) (by kernel_rfl) (by kernel_rfl) rfl rfl (rowOwn (i := 1) rfl)) ?_
      refine anyOneG (i := 6) (by kernel_rfl) rfl rfl rfl ?_
      refine opCall 31 #[(.pointer (some ⟨bt, 0, none⟩))] rfl (by kernel_rfl) (fun _ => by kernel_rfl) (fun w hM => ?_)
      refine (encode_any _ _ _ _ T w (HT1.out.fr hM.fr (by simp) (by simp))).mono ?_
      rintro e w' ⟨v, rfl, hN⟩
      obtain ⟨A101, c101, rfl, hM'⟩ := hM.pushOwn hN.fr hN.own
      refine ⟨_, _, rfl, hM', ?_⟩
      clear hM hN hM'
      refine anyNext [cTab bt2 bc2 n [] T, cOwn 5 1 A98 ((T.enc).length) (c98) (B8 (T.enc)), cOwn 5 1 A101 ((T.enc).length) (c101) (B8 (T.enc))] (fun _ h => h.sub (.cons_cons _ (.cons_cons _ (.cons _ .slnil)))) (fun _ h => h) ?_
      refine anyValG (i := 7) (.string (strOf (T.enc))) rfl rfl rfl rfl (by kernel_rfl) (by kernel_rfl) (fun _ _ _ h => h) (rStr (e := 5) (T.enc) rfl (by kernel_rfl) (by kernel_rfl) (by kernel_rfl) rfl rfl (rowOwn (i := 2) rfl)) ?_
      refine anyValG (i := 8) (.bool true) rfl rfl rfl rfl (by kernel_rfl) (by kernel_rfl) (fun _ _ _ h => h) (rConv (rStrEq rfl rfl rfl) (by simp)) ?_
      refine anyVal (i := 9) (.bool true) rfl rfl rfl (by kernel_rfl) (by kernel_rfl) (fun _ _ _ h => h) (rClosed fun _ => by kernel_rfl) ?_
      refine anyVal (i := 10) (.bool true) rfl rfl rfl (by kernel_rfl) (by kernel_rfl) (fun _ _ _ h => h) (rAssign rfl rfl) ?_
      refine anyDone (by kernel_rfl) ?_
      refine qThen ?_
      refine stRet ?_
      refine stEnd [(.bool true)] rfl ⟨rfl, trivial⟩ (fun w hM => ?_)
      exact ⟨rfl, HF1.out.trans hM.fr⟩

theorem peel_len : ∀ (n : Nat) {s s' : Peel}, peel n s = some s' → s'.added.length ≤ s.added.length + n ∧ s'.removed.length ≤ s.removed.length + n
  | 0, s, s', e => by cases e; exact ⟨Nat.le_refl _, Nat.le_refl _⟩
  | n + 1, s, s', e => by
    unfold peel at e
    cases hf : s.t.first with
    | none => rw [hf] at e; cases e; exact ⟨by omega, by omega⟩
    | some i =>
      rw [hf] at e
      simp only at e
      split at e
      · cases e
      · have := peel_len n e
        unfold Peel.take at this
        simp only at this
        constructor
        · have h := this.1; split at h <;> (try simp only [List.length_append, List.length_cons, List.length_nil] at h) <;> omega
        · have h := this.2; split at h <;> (try simp only [List.length_append, List.length_cons, List.length_nil] at h) <;> omega
theorem keys_len {t : BT} {a b : List (List UInt8)} (hk : t.keys = some (a, b)) : a.length ≤ t.cells.length ∧ b.length ≤ t.cells.length := by
  unfold BT.keys BT.raw at hk
  cases hp : peel t.cells.length ⟨t, [], [], []⟩ with
  | none => rw [hp] at hk; simp at hk
  | some s =>
    rw [hp] at hk
    have hl := peel_len _ hp
    cases he : s.t.empty with
    | false => simp [he] at hk
    | true =>
      simp only [he, if_true, Option.map_some, Option.some.injEq, Prod.mk.injEq] at hk
      rw [← hk.1, ← hk.2]
      simpa [sortS, List.length_mergeSort] using hl

theorem lawGives_any (m : Int) (seed : Nat) (A : Option Addr) (c : Nat) (ops : List BOp) (w : World) (hv : Vars w) (hu : U64 seed) (hr : RowIn w A (opCells ops)) :
    Calls Tryd.prog 7 #[Value.int .i64 m, .int .u64 (seed : Int), .slice A ops.length c] w fun e w' => e = .returned (.bool true) ∧ Fr [] w w' := by
  cases hfew : fewB m ops.length with
  | false => exact lawGives_big m seed A c ops w hv hfew
  | true =>
    cases hm : isSz m with
    | false => exact lawGives_bad m seed A c ops w hv hfew hm
    | true =>
      obtain ⟨n, rfl⟩ := isSz_nat hm
      cases hk : (runAll (BT.new n seed) ops).keys with
      | none => exact lawGives_none n seed A c ops w hv hfew hm hu hr (few_len hfew) hk
      | some p =>
        obtain ⟨la, lb⟩ := p
        have hl := keys_len hk
        have hb := (isSz_bounds hm).2.1
        rw [runAll_len] at hl
        simp only [BT.new, List.length_replicate] at hl
        exact lawGives_some n seed A c ops w hv hfew hm hu hr (few_len hfew) la lb hk (by omega) (by omega)
end Go.Proofs.YtnhagokkamobaaaDoor
