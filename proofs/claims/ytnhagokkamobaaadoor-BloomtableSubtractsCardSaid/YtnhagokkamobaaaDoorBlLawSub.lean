/- The law BloomtableSubtracts, walked. -/
import Derived.Test.YtnhagokkamobaaaDoorBlSub3
import Derived.Test.YtnhagokkamobaaaDoorBlPlay2
namespace Go.Proofs.YtnhagokkamobaaaDoor
open Go.RowKit

set_option maxRecDepth 100000 in
set_option maxHeartbeats 1000000 in
theorem lawSub_big1 (m m2 : Int) (seed seed2 : Nat) (A B : Option Addr) (c c2 : Nat) (ops ops2 : List BOp) (w : World) (hv : Vars w) (hf1 : fewB m ops.length = false) :
    Calls Tryd.prog 10 #[Value.int .i64 m, Value.int .i64 m2, .int .u64 (seed : Int), .int .u64 (seed2 : Int), .slice A ops.length c, .slice B ops2.length c2] w fun e w' => e = .returned (.bool true) ∧ Fr [] w w' := by
  have HV := Lib.hid hv
  clear hv
  refine stEnter (args := [Value.int .i64 m, Value.int .i64 m2, .int .u64 (seed : Int), .int .u64 (seed2 : Int), .slice A ops.length c, .slice B ops2.length c2]) [] Tryd.func10 rfl 128 rfl [(0, Value.int .i64 m), (1, Value.int .i64 m2), (2, .int .u64 (seed : Int)), (3, .int .u64 (seed2 : Int)), (4, .slice A ops.length c), (5, .slice B ops2.length c2)] ⟨rfl, rfl, rfl, rfl, rfl, rfl, trivial⟩ [] (Mm.start w []) ?_
  refine stSeq ?_
  refine reg ?_
  refine li rfl (opVal (.bool false) rfl (by kernel_rfl) (rAssign rfl rfl) ?_)
  refine liNil ?_
  refine qThen ?_
  refine stSeq ?_
  refine stSeq ?_
  refine reg ?_
  refine li rfl (opVal (.int .i64 m) rfl (by kernel_rfl) (rMove rfl rfl) ?_)
  refine li rfl (opVal (.slice A (ops.length) (c)) rfl (by kernel_rfl) (rMove rfl rfl) ?_)
  refine li rfl ?_
  refine opCall 28 #[(.int .i64 m), (.slice A (ops.length) (c))] rfl (by kernel_rfl) (fun _ => by kernel_rfl) (fun w hM => ?_)
  refine ((by rw [← hf1]; exact few_any _ _ _ _ w : Calls _ _ _ w fun e w' => e = .returned (.bool false) ∧ Fr [] w w')).mono ?_
  rintro e w' ⟨rfl, hf⟩
  have hM' := hM.fr0 hf
  refine ⟨(.bool false), _, rfl, hM', ?_⟩
  clear hM hM' hf
  refine li rfl (opVal (.bool true) rfl (by kernel_rfl) (rClosed fun _ => by kernel_rfl) ?_)
  refine li rfl (opVal (.bool true) rfl (by kernel_rfl) (rMove rfl rfl) ?_)
  refine liNot (b := true) rfl rfl (by kernel_rfl) rfl ?_
  refine liNot (b := true) rfl rfl (by kernel_rfl) rfl ?_
  refine liNot (b := true) rfl rfl (by kernel_rfl) rfl ?_
  refine liNot (b := true) rfl rfl (by kernel_rfl) rfl ?_
  refine li rfl (opVal (.bool true) rfl (by kernel_rfl) (rClosed fun _ => by kernel_rfl) ?_)
  refine liNil ?_
  refine qThen ?_
  refine stTrue rfl ?_
  refine stSeq ?_
  refine reg ?_
  refine li rfl ?_
  refine opCall 13 #[] rfl (by kernel_rfl) (fun _ => by kernel_rfl) (fun w hM => ?_)
  refine (awake_any w (HV.out.mm hM)).mono ?_
  rintro e w' ⟨rfl, hf⟩
  have hM' := hM.fr0 hf
  refine ⟨(.bool true), _, rfl, hM', ?_⟩
  clear hM hM' hf
  refine li rfl (opVal (.bool true) rfl (by kernel_rfl) (rAssign rfl rfl) ?_)
  refine liNil ?_
  refine qThen ?_
  refine stRet ?_
  refine qThenR ?_
  refine stEnd [(.bool true)] rfl ⟨rfl, trivial⟩ (fun w hM => ?_)
  exact ⟨rfl, hM.fr⟩

set_option maxRecDepth 100000 in
set_option maxHeartbeats 1000000 in
theorem lawSub_big2 (m m2 : Int) (seed seed2 : Nat) (A B : Option Addr) (c c2 : Nat) (ops ops2 : List BOp) (w : World) (hv : Vars w) (hf1 : fewB m ops.length = true) (hf2 : fewB m2 ops2.length = false) :
    Calls Tryd.prog 10 #[Value.int .i64 m, Value.int .i64 m2, .int .u64 (seed : Int), .int .u64 (seed2 : Int), .slice A ops.length c, .slice B ops2.length c2] w fun e w' => e = .returned (.bool true) ∧ Fr [] w w' := by
  have HV := Lib.hid hv
  clear hv
  refine stEnter (args := [Value.int .i64 m, Value.int .i64 m2, .int .u64 (seed : Int), .int .u64 (seed2 : Int), .slice A ops.length c, .slice B ops2.length c2]) [] Tryd.func10 rfl 128 rfl [(0, Value.int .i64 m), (1, Value.int .i64 m2), (2, .int .u64 (seed : Int)), (3, .int .u64 (seed2 : Int)), (4, .slice A ops.length c), (5, .slice B ops2.length c2)] ⟨rfl, rfl, rfl, rfl, rfl, rfl, trivial⟩ [] (Mm.start w []) ?_
  refine stSeq ?_
  refine reg ?_
  refine li rfl (opVal (.bool false) rfl (by kernel_rfl) (rAssign rfl rfl) ?_)
  refine liNil ?_
  refine qThen ?_
  refine stSeq ?_
  refine stSeq ?_
  refine reg ?_
  refine li rfl (opVal (.int .i64 m) rfl (by kernel_rfl) (rMove rfl rfl) ?_)
  refine li rfl (opVal (.slice A (ops.length) (c)) rfl (by kernel_rfl) (rMove rfl rfl) ?_)
  refine li rfl ?_
  refine opCall 28 #[(.int .i64 m), (.slice A (ops.length) (c))] rfl (by kernel_rfl) (fun _ => by kernel_rfl) (fun w hM => ?_)
  refine ((by rw [← hf1]; exact few_any _ _ _ _ w : Calls _ _ _ w fun e w' => e = .returned (.bool true) ∧ Fr [] w w')).mono ?_
  rintro e w' ⟨rfl, hf⟩
  have hM' := hM.fr0 hf
  refine ⟨(.bool true), _, rfl, hM', ?_⟩
  clear hM hM' hf
  refine li rfl (opVal (.bool false) rfl (by kernel_rfl) (rClosed fun _ => by kernel_rfl) ?_)
  refine li rfl (opVal (.bool false) rfl (by kernel_rfl) (rMove rfl rfl) ?_)
  refine liGo rfl rfl (opVal (.int .i64 m2) rfl (by kernel_rfl) (rMove rfl rfl) ?_)
  refine liGo rfl rfl (opVal (.slice B (ops2.length) (c2)) rfl (by kernel_rfl) (rMove rfl rfl) ?_)
  refine liGo rfl rfl ?_
  refine opCall 28 #[(.int .i64 m2), (.slice B (ops2.length) (c2))] rfl (by kernel_rfl) (fun _ => by kernel_rfl) (fun w hM => ?_)
  refine ((by rw [← hf2]; exact few_any _ _ _ _ w : Calls _ _ _ w fun e w' => e = .returned (.bool false) ∧ Fr [] w w')).mono ?_
  rintro e w' ⟨rfl, hf⟩
  have hM' := hM.fr0 hf
  refine ⟨(.bool false), _, rfl, hM', ?_⟩
  clear hM hM' hf
  refine liGo rfl rfl (opVal (.bool true) rfl (by kernel_rfl) (rClosed fun _ => by kernel_rfl) ?_)
  refine li rfl (opVal (.bool true) rfl (by kernel_rfl) (rClosed fun _ => by kernel_rfl) ?_)
  refine liNil ?_
  refine qThen ?_
  refine stTrue rfl ?_
  refine stSeq ?_
  refine reg ?_
  refine li rfl ?_
  refine opCall 13 #[] rfl (by kernel_rfl) (fun _ => by kernel_rfl) (fun w hM => ?_)
  refine (awake_any w (HV.out.mm hM)).mono ?_
  rintro e w' ⟨rfl, hf⟩
  have hM' := hM.fr0 hf
  refine ⟨(.bool true), _, rfl, hM', ?_⟩
  clear hM hM' hf
  refine li rfl (opVal (.bool true) rfl (by kernel_rfl) (rAssign rfl rfl) ?_)
  refine liNil ?_
  refine qThen ?_
  refine stRet ?_
  refine qThenR ?_
  refine stEnd [(.bool true)] rfl ⟨rfl, trivial⟩ (fun w hM => ?_)
  exact ⟨rfl, hM.fr⟩

set_option maxRecDepth 100000 in
set_option maxHeartbeats 1000000 in
theorem lawSub_bb (m m2 : Int) (seed seed2 : Nat) (A B : Option Addr) (c c2 : Nat) (ops ops2 : List BOp) (w : World) (hv : Vars w) (hf1 : fewB m ops.length = true) (hf2 : fewB m2 ops2.length = true) (hm : isSz m = false) (hm2 : isSz m2 = false) :
    Calls Tryd.prog 10 #[Value.int .i64 m, Value.int .i64 m2, .int .u64 (seed : Int), .int .u64 (seed2 : Int), .slice A ops.length c, .slice B ops2.length c2] w fun e w' => e = .returned (.bool true) ∧ Fr [] w w' := by
  have HV := Lib.hid hv
  clear hv
  refine stEnter (args := [Value.int .i64 m, Value.int .i64 m2, .int .u64 (seed : Int), .int .u64 (seed2 : Int), .slice A ops.length c, .slice B ops2.length c2]) [] Tryd.func10 rfl 128 rfl [(0, Value.int .i64 m), (1, Value.int .i64 m2), (2, .int .u64 (seed : Int)), (3, .int .u64 (seed2 : Int)), (4, .slice A ops.length c), (5, .slice B ops2.length c2)] ⟨rfl, rfl, rfl, rfl, rfl, rfl, trivial⟩ [] (Mm.start w []) ?_
  refine stSeq ?_
  refine reg ?_
  refine li rfl (opVal (.bool false) rfl (by kernel_rfl) (rAssign rfl rfl) ?_)
  refine liNil ?_
  refine qThen ?_
  refine stSeq ?_
  refine stSeq ?_
  refine reg ?_
  refine li rfl (opVal (.int .i64 m) rfl (by kernel_rfl) (rMove rfl rfl) ?_)
  refine li rfl (opVal (.slice A (ops.length) (c)) rfl (by kernel_rfl) (rMove rfl rfl) ?_)
  refine li rfl ?_
  refine opCall 28 #[(.int .i64 m), (.slice A (ops.length) (c))] rfl (by kernel_rfl) (fun _ => by kernel_rfl) (fun w hM => ?_)
  refine ((by rw [← hf1]; exact few_any _ _ _ _ w : Calls _ _ _ w fun e w' => e = .returned (.bool true) ∧ Fr [] w w')).mono ?_
  rintro e w' ⟨rfl, hf⟩
  have hM' := hM.fr0 hf
  refine ⟨(.bool true), _, rfl, hM', ?_⟩
  clear hM hM' hf
  refine li rfl (opVal (.bool false) rfl (by kernel_rfl) (rClosed fun _ => by kernel_rfl) ?_)
  refine li rfl (opVal (.bool false) rfl (by kernel_rfl) (rMove rfl rfl) ?_)
  refine liGo rfl rfl (opVal (.int .i64 m2) rfl (by kernel_rfl) (rMove rfl rfl) ?_)
  refine liGo rfl rfl (opVal (.slice B (ops2.length) (c2)) rfl (by kernel_rfl) (rMove rfl rfl) ?_)
  refine liGo rfl rfl ?_
  refine opCall 28 #[(.int .i64 m2), (.slice B (ops2.length) (c2))] rfl (by kernel_rfl) (fun _ => by kernel_rfl) (fun w hM => ?_)
  refine ((by rw [← hf2]; exact few_any _ _ _ _ w : Calls _ _ _ w fun e w' => e = .returned (.bool true) ∧ Fr [] w w')).mono ?_
  rintro e w' ⟨rfl, hf⟩
  have hM' := hM.fr0 hf
  refine ⟨(.bool true), _, rfl, hM', ?_⟩
  clear hM hM' hf
  refine liGo rfl rfl (opVal (.bool false) rfl (by kernel_rfl) (rClosed fun _ => by kernel_rfl) ?_)
  refine li rfl (opVal (.bool false) rfl (by kernel_rfl) (rClosed fun _ => by kernel_rfl) ?_)
  refine liNil ?_
  refine qThen ?_
  refine stFalse rfl ?_
  refine stSkip ?_
  refine qThen ?_
  refine stSeq ?_
  refine reg ?_
  refine li rfl (opVal (.int .i64 m) rfl (by kernel_rfl) (rMove rfl rfl) ?_)
  refine li rfl (opVal (.int .u64 ((seed : Nat) : Int)) rfl (by kernel_rfl) (rMove rfl rfl) ?_)
  refine li rfl (opVal (.slice A (ops.length) (c)) rfl (by kernel_rfl) (rMove rfl rfl) ?_)
  refine li rfl ?_
  refine opCall 29 #[(.int .i64 m), (.int .u64 ((seed : Nat) : Int)), (.slice A (ops.length) (c))] rfl (by kernel_rfl) (fun _ => by kernel_rfl) (fun w hM => ?_)
  refine (play_bad m seed A c ops w hm).mono ?_
  rintro e w' ⟨rfl, hf⟩
  have hM' := hM.fr0 hf
  refine ⟨(.tuple #[(.pointer none), (.agg #[(.int .u64 0), (.slice none 0 0)]), (.bool true)]), _, rfl, hM', ?_⟩
  clear hM hM' hf
  refine li rfl (opVal (.tuple #[(.pointer none), (.agg #[(.int .u64 0), (.slice none 0 0)]), (.bool true)]) rfl (by kernel_rfl) (rMove rfl rfl) ?_)
  refine li rfl (opVal (.pointer none) rfl (by kernel_rfl) (rClosed fun _ => by kernel_rfl) ?_)
  refine li rfl (opVal (.agg #[(.int .u64 0), (.slice none 0 0)]) rfl (by kernel_rfl) (rClosed fun _ => by kernel_rfl) ?_)
  refine li rfl (opVal (.bool true) rfl (by kernel_rfl) (rClosed fun _ => by kernel_rfl) ?_)
  refine li rfl ?_
  refine opAlloc [(.int .u64 0), (.slice none 0 0)] rfl rfl (by kernel_rfl) (by kernel_rfl) (fun b14 => ?_)
  refine li rfl (opVal (.pointer none) rfl (by kernel_rfl) (rAssign rfl rfl) ?_)
  refine li rfl ?_
  refine opStoreN 0 [(.int .u64 0), (.slice none 0 0)] (vs := [(.int .u64 0), (.slice none 0 0)]) rfl rfl (by kernel_rfl) rfl rfl rfl (by kernel_rfl) rfl (by simp) (by simp [Value.oneCell']) rfl ?_
  refine li rfl (opVal (.bool true) rfl (by kernel_rfl) (rAssign rfl rfl) ?_)
  refine liNil ?_
  refine qThen ?_
  refine stSeq ?_
  refine reg ?_
  refine li rfl (opVal (.int .i64 m2) rfl (by kernel_rfl) (rMove rfl rfl) ?_)
  refine li rfl (opVal (.int .u64 ((seed2 : Nat) : Int)) rfl (by kernel_rfl) (rMove rfl rfl) ?_)
  refine li rfl (opVal (.slice B (ops2.length) (c2)) rfl (by kernel_rfl) (rMove rfl rfl) ?_)
  refine li rfl ?_
  refine opCall 29 #[(.int .i64 m2), (.int .u64 ((seed2 : Nat) : Int)), (.slice B (ops2.length) (c2))] rfl (by kernel_rfl) (fun _ => by kernel_rfl) (fun w hM => ?_)
  refine (play_bad m2 seed2 B c2 ops2 w hm2).mono ?_
  rintro e w' ⟨rfl, hf⟩
  have hM' := hM.fr0 hf
  refine ⟨(.tuple #[(.pointer none), (.agg #[(.int .u64 0), (.slice none 0 0)]), (.bool true)]), _, rfl, hM', ?_⟩
  clear hM hM' hf
  refine li rfl (opVal (.tuple #[(.pointer none), (.agg #[(.int .u64 0), (.slice none 0 0)]), (.bool true)]) rfl (by kernel_rfl) (rMove rfl rfl) ?_)
  refine li rfl (opVal (.pointer none) rfl (by kernel_rfl) (rClosed fun _ => by kernel_rfl) ?_)
  refine li rfl (opVal (.agg #[(.int .u64 0), (.slice none 0 0)]) rfl (by kernel_rfl) (rClosed fun _ => by kernel_rfl) ?_)
  refine li rfl (opVal (.bool true) rfl (by kernel_rfl) (rClosed fun _ => by kernel_rfl) ?_)
  refine li rfl ?_
  refine opAlloc [(.int .u64 0), (.slice none 0 0)] rfl rfl (by kernel_rfl) (by kernel_rfl) (fun b17 => ?_)
  refine li rfl (opVal (.pointer none) rfl (by kernel_rfl) (rAssign rfl rfl) ?_)
  refine li rfl ?_
  refine opStoreN 1 [(.int .u64 0), (.slice none 0 0)] (vs := [(.int .u64 0), (.slice none 0 0)]) rfl rfl (by kernel_rfl) rfl rfl rfl (by kernel_rfl) rfl (by simp) (by simp [Value.oneCell']) rfl ?_
  refine li rfl (opVal (.bool true) rfl (by kernel_rfl) (rAssign rfl rfl) ?_)
  refine liNil ?_
  refine qThen ?_
  refine stSeq ?_
  refine stSeq ?_
  refine reg ?_
  refine li rfl (opVal (.bool true) rfl (by kernel_rfl) (rMove rfl rfl) ?_)
  refine li rfl (opVal (.bool false) rfl (by kernel_rfl) (rClosed fun _ => by kernel_rfl) ?_)
  refine li rfl (opVal (.bool false) rfl (by kernel_rfl) (rMove rfl rfl) ?_)
  refine liGo rfl rfl (opVal (.bool true) rfl (by kernel_rfl) (rMove rfl rfl) ?_)
  refine liGo rfl rfl (opVal (.bool false) rfl (by kernel_rfl) (rClosed fun _ => by kernel_rfl) ?_)
  refine li rfl (opVal (.bool false) rfl (by kernel_rfl) (rClosed fun _ => by kernel_rfl) ?_)
  refine li rfl (opVal (.bool false) rfl (by kernel_rfl) (rMove rfl rfl) ?_)
  refine liGo rfl rfl (opVal (.pointer none) rfl (by kernel_rfl) (rMove rfl rfl) ?_)
  refine liGo rfl rfl (opVal (.bool true) rfl (by kernel_rfl) (rClosed fun _ => by kernel_rfl) ?_)
  refine li rfl (opVal (.bool true) rfl (by kernel_rfl) (rClosed fun _ => by kernel_rfl) ?_)
  refine li rfl (opVal (.bool true) rfl (by kernel_rfl) (rMove rfl rfl) ?_)
  refine liNot (b := true) rfl rfl (by kernel_rfl) rfl ?_
  refine liNot (b := true) rfl rfl (by kernel_rfl) rfl ?_
  refine li rfl (opVal (.bool true) rfl (by kernel_rfl) (rClosed fun _ => by kernel_rfl) ?_)
  refine liNil ?_
  refine qThen ?_
  refine stTrue rfl ?_
  refine stSeq ?_
  refine reg ?_
  refine li rfl (opVal (.bool true) rfl (by kernel_rfl) (rMove rfl rfl) ?_)
  refine li rfl (opVal (.bool true) rfl (by kernel_rfl) (rMove rfl rfl) ?_)
  refine liGo rfl rfl (opVal (.bool true) rfl (by kernel_rfl) (rMove rfl rfl) ?_)
  refine li rfl (opVal (.bool true) rfl (by kernel_rfl) (rClosed fun _ => by kernel_rfl) ?_)
  refine li rfl (opVal (.bool true) rfl (by kernel_rfl) (rMove rfl rfl) ?_)
  refine liGo rfl rfl ?_
  refine opCall 13 #[] rfl (by kernel_rfl) (fun _ => by kernel_rfl) (fun w hM => ?_)
  refine (awake_any w (HV.out.mm hM)).mono ?_
  rintro e w' ⟨rfl, hf⟩
  have hM' := hM.fr0 hf
  refine ⟨(.bool true), _, rfl, hM', ?_⟩
  clear hM hM' hf
  refine li rfl (opVal (.bool true) rfl (by kernel_rfl) (rClosed fun _ => by kernel_rfl) ?_)
  refine li rfl (opVal (.bool true) rfl (by kernel_rfl) (rAssign rfl rfl) ?_)
  refine liNil ?_
  refine qThen ?_
  refine stRet ?_
  refine qThenR ?_
  refine stEnd [(.bool true)] rfl ⟨rfl, trivial⟩ (fun w hM => ?_)
  exact ⟨rfl, hM.fr⟩

set_option maxRecDepth 100000 in
set_option maxHeartbeats 1000000 in
theorem lawSub_bo (m : Int) (n2 : Nat) (seed seed2 : Nat) (A B : Option Addr) (c c2 : Nat) (ops ops2 : List BOp) (w : World) (hv : Vars w) (hf1 : fewB m ops.length = true) (hf2 : fewB (n2 : Int) ops2.length = true) (hm : isSz m = false) (hn2 : isSz (n2 : Int) = true) (hu2 : U64 seed2) (hr2 : RowIn w B (opCells ops2)) (hl2 : ops2.length ≤ 1000000) :
    Calls Tryd.prog 10 #[Value.int .i64 m, Value.int .i64 (n2 : Int), .int .u64 (seed : Int), .int .u64 (seed2 : Int), .slice A ops.length c, .slice B ops2.length c2] w fun e w' => e = .returned (.bool true) ∧ Fr [] w w' := by
  have HV := Lib.hid hv
  clear hv
  have HU2 := Lib.hid hu2
  have HR2 := Lib.hid hr2
  clear hu2 hr2
  obtain ⟨T2, HT2⟩ : ∃ T, Hid (T = runAll (BT.new n2 seed2) ops2) := ⟨_, rfl⟩
  have hTl2 : T2.cells.length = n2 := by rw [HT2.out, runAll_len]; simp [BT.new]
  have hTs2 : T2.seed = seed2 := by rw [HT2.out, runAll_seed]; rfl
  refine stEnter (args := [Value.int .i64 m, Value.int .i64 (n2 : Int), .int .u64 (seed : Int), .int .u64 (seed2 : Int), .slice A ops.length c, .slice B ops2.length c2]) [] Tryd.func10 rfl 128 rfl [(0, Value.int .i64 m), (1, Value.int .i64 (n2 : Int)), (2, .int .u64 (seed : Int)), (3, .int .u64 (seed2 : Int)), (4, .slice A ops.length c), (5, .slice B ops2.length c2)] ⟨rfl, rfl, rfl, rfl, rfl, rfl, trivial⟩ [] (Mm.start w []) ?_
  refine stSeq ?_
  refine reg ?_
  refine li rfl (opVal (.bool false) rfl (by kernel_rfl) (rAssign rfl rfl) ?_)
  refine liNil ?_
  refine qThen ?_
  refine stSeq ?_
  refine stSeq ?_
  refine reg ?_
  refine li rfl (opVal (.int .i64 m) rfl (by kernel_rfl) (rMove rfl rfl) ?_)
  refine li rfl (opVal (.slice A (ops.length) (c)) rfl (by kernel_rfl) (rMove rfl rfl) ?_)
  refine li rfl ?_
  refine opCall 28 #[(.int .i64 m), (.slice A (ops.length) (c))] rfl (by kernel_rfl) (fun _ => by kernel_rfl) (fun w hM => ?_)
  refine ((by rw [← hf1]; exact few_any _ _ _ _ w : Calls _ _ _ w fun e w' => e = .returned (.bool true) ∧ Fr [] w w')).mono ?_
  rintro e w' ⟨rfl, hf⟩
  have hM' := hM.fr0 hf
  refine ⟨(.bool true), _, rfl, hM', ?_⟩
  clear hM hM' hf
  refine li rfl (opVal (.bool false) rfl (by kernel_rfl) (rClosed fun _ => by kernel_rfl) ?_)
  refine li rfl (opVal (.bool false) rfl (by kernel_rfl) (rMove rfl rfl) ?_)
  refine liGo rfl rfl (opVal (.int .i64 ((n2 : Nat) : Int)) rfl (by kernel_rfl) (rMove rfl rfl) ?_)
  refine liGo rfl rfl (opVal (.slice B (ops2.length) (c2)) rfl (by kernel_rfl) (rMove rfl rfl) ?_)
  refine liGo rfl rfl ?_
  refine opCall 28 #[(.int .i64 ((n2 : Nat) : Int)), (.slice B (ops2.length) (c2))] rfl (by kernel_rfl) (fun _ => by kernel_rfl) (fun w hM => ?_)
  refine ((by rw [← hf2]; exact few_any _ _ _ _ w : Calls _ _ _ w fun e w' => e = .returned (.bool true) ∧ Fr [] w w')).mono ?_
  rintro e w' ⟨rfl, hf⟩
  have hM' := hM.fr0 hf
  refine ⟨(.bool true), _, rfl, hM', ?_⟩
  clear hM hM' hf
  refine liGo rfl rfl (opVal (.bool false) rfl (by kernel_rfl) (rClosed fun _ => by kernel_rfl) ?_)
  refine li rfl (opVal (.bool false) rfl (by kernel_rfl) (rClosed fun _ => by kernel_rfl) ?_)
  refine liNil ?_
  refine qThen ?_
  refine stFalse rfl ?_
  refine stSkip ?_
  refine qThen ?_
  refine stSeq ?_
  refine reg ?_
  refine li rfl (opVal (.int .i64 m) rfl (by kernel_rfl) (rMove rfl rfl) ?_)
  refine li rfl (opVal (.int .u64 ((seed : Nat) : Int)) rfl (by kernel_rfl) (rMove rfl rfl) ?_)
  refine li rfl (opVal (.slice A (ops.length) (c)) rfl (by kernel_rfl) (rMove rfl rfl) ?_)
  refine li rfl ?_
  refine opCall 29 #[(.int .i64 m), (.int .u64 ((seed : Nat) : Int)), (.slice A (ops.length) (c))] rfl (by kernel_rfl) (fun _ => by kernel_rfl) (fun w hM => ?_)
  refine (play_bad m seed A c ops w hm).mono ?_
  rintro e w' ⟨rfl, hf⟩
  have hM' := hM.fr0 hf
  refine ⟨(.tuple #[(.pointer none), (.agg #[(.int .u64 0), (.slice none 0 0)]), (.bool true)]), _, rfl, hM', ?_⟩
  clear hM hM' hf
  refine li rfl (opVal (.tuple #[(.pointer none), (.agg #[(.int .u64 0), (.slice none 0 0)]), (.bool true)]) rfl (by kernel_rfl) (rMove rfl rfl) ?_)
  refine li rfl (opVal (.pointer none) rfl (by kernel_rfl) (rClosed fun _ => by kernel_rfl) ?_)
  refine li rfl (opVal (.agg #[(.int .u64 0), (.slice none 0 0)]) rfl (by kernel_rfl) (rClosed fun _ => by kernel_rfl) ?_)
  refine li rfl (opVal (.bool true) rfl (by kernel_rfl) (rClosed fun _ => by kernel_rfl) ?_)
  refine li rfl ?_
  refine opAlloc [(.int .u64 0), (.slice none 0 0)] rfl rfl (by kernel_rfl) (by kernel_rfl) (fun b14 => ?_)
  refine li rfl (opVal (.pointer none) rfl (by kernel_rfl) (rAssign rfl rfl) ?_)
  refine li rfl ?_
  refine opStoreN 0 [(.int .u64 0), (.slice none 0 0)] (vs := [(.int .u64 0), (.slice none 0 0)]) rfl rfl (by kernel_rfl) rfl rfl rfl (by kernel_rfl) rfl (by simp) (by simp [Value.oneCell']) rfl ?_
  refine li rfl (opVal (.bool true) rfl (by kernel_rfl) (rAssign rfl rfl) ?_)
  refine liNil ?_
  refine qThen ?_
  refine stSeq ?_
  refine reg ?_
  refine li rfl (opVal (.int .i64 ((n2 : Nat) : Int)) rfl (by kernel_rfl) (rMove rfl rfl) ?_)
  refine li rfl (opVal (.int .u64 ((seed2 : Nat) : Int)) rfl (by kernel_rfl) (rMove rfl rfl) ?_)
  refine li rfl (opVal (.slice B (ops2.length) (c2)) rfl (by kernel_rfl) (rMove rfl rfl) ?_)
  refine li rfl ?_
  refine opCall 29 #[(.int .i64 ((n2 : Nat) : Int)), (.int .u64 ((seed2 : Nat) : Int)), (.slice B (ops2.length) (c2))] rfl (by kernel_rfl) (fun _ => by kernel_rfl) (fun w hM => ?_)
  refine (by have h := play_any n2 seed2 B (c2) (ops2) w hn2 (HV.out.mm hM) HU2.out (HR2.out.fr0 hM.fr) (hl2); rw [← HT2.out] at h; exact h : Calls _ _ _ w (Played n2 seed2 T2 w)).mono ?_
  rintro e w' ⟨bt2, bc2, cap2, rest2, g2, rc2, rr2, rfl, hP⟩
  have hM' := hM.lift hP
  refine ⟨_, _, rfl, hM', ?_⟩
  clear hM hM' hP
  refine li rfl (opVal (.tuple #[(.pointer (some ⟨bt2, 0, none⟩)), (.agg #[(.int .u64 ((seed2 : Nat) : Int)), (.slice (some ⟨g2, 0, none⟩) (n2) (rc2))]), (.bool true)]) rfl (by kernel_rfl) (rMove rfl rfl) ?_)
  refine li rfl (opVal (.pointer (some ⟨bt2, 0, none⟩)) rfl (by kernel_rfl) (rClosed fun _ => by kernel_rfl) ?_)
  refine li rfl (opVal (.agg #[(.int .u64 ((seed2 : Nat) : Int)), (.slice (some ⟨g2, 0, none⟩) (n2) (rc2))]) rfl (by kernel_rfl) (rClosed fun _ => by kernel_rfl) ?_)
  refine li rfl (opVal (.bool true) rfl (by kernel_rfl) (rClosed fun _ => by kernel_rfl) ?_)
  refine li rfl ?_
  refine opAlloc [(.int .u64 0), (.slice none 0 0)] rfl rfl (by kernel_rfl) (by kernel_rfl) (fun b17 => ?_)
  refine li rfl (opVal (.pointer (some ⟨bt2, 0, none⟩)) rfl (by kernel_rfl) (rAssign rfl rfl) ?_)
  refine li rfl ?_
  refine opStoreN 3 [(.int .u64 ((seed2 : Nat) : Int)), (.slice (some ⟨g2, 0, none⟩) (n2) (rc2))] (vs := [(.int .u64 ((seed2 : Nat) : Int)), (.slice (some ⟨g2, 0, none⟩) (n2) (rc2))]) rfl rfl (by kernel_rfl) rfl rfl rfl (by kernel_rfl) rfl (by simp) (by simp [Value.oneCell']) rfl ?_
  refine li rfl (opVal (.bool true) rfl (by kernel_rfl) (rAssign rfl rfl) ?_)
  refine liNil ?_
  refine qThen ?_
  refine stSeq ?_
  refine stSeq ?_
  refine reg ?_
  refine li rfl (opVal (.bool true) rfl (by kernel_rfl) (rMove rfl rfl) ?_)
  refine li rfl (opVal (.bool false) rfl (by kernel_rfl) (rClosed fun _ => by kernel_rfl) ?_)
  refine li rfl (opVal (.bool false) rfl (by kernel_rfl) (rMove rfl rfl) ?_)
  refine liGo rfl rfl (opVal (.bool true) rfl (by kernel_rfl) (rMove rfl rfl) ?_)
  refine liGo rfl rfl (opVal (.bool false) rfl (by kernel_rfl) (rClosed fun _ => by kernel_rfl) ?_)
  refine li rfl (opVal (.bool false) rfl (by kernel_rfl) (rClosed fun _ => by kernel_rfl) ?_)
  refine li rfl (opVal (.bool false) rfl (by kernel_rfl) (rMove rfl rfl) ?_)
  refine liGo rfl rfl (opVal (.pointer none) rfl (by kernel_rfl) (rMove rfl rfl) ?_)
  refine liGo rfl rfl (opVal (.bool true) rfl (by kernel_rfl) (rClosed fun _ => by kernel_rfl) ?_)
  refine li rfl (opVal (.bool true) rfl (by kernel_rfl) (rClosed fun _ => by kernel_rfl) ?_)
  refine li rfl (opVal (.bool true) rfl (by kernel_rfl) (rMove rfl rfl) ?_)
  refine liNot (b := true) rfl rfl (by kernel_rfl) rfl ?_
  refine liNot (b := true) rfl rfl (by kernel_rfl) rfl ?_
  refine li rfl (opVal (.bool true) rfl (by kernel_rfl) (rClosed fun _ => by kernel_rfl) ?_)
  refine liNil ?_
  refine qThen ?_
  refine stTrue rfl ?_
  refine stSeq ?_
  refine reg ?_
  refine li rfl (opVal (.bool true) rfl (by kernel_rfl) (rMove rfl rfl) ?_)
  refine li rfl (opVal (.bool true) rfl (by kernel_rfl) (rMove rfl rfl) ?_)
  refine liGo rfl rfl (opVal (.bool true) rfl (by kernel_rfl) (rMove rfl rfl) ?_)
  refine li rfl (opVal (.bool true) rfl (by kernel_rfl) (rClosed fun _ => by kernel_rfl) ?_)
  refine li rfl (opVal (.bool true) rfl (by kernel_rfl) (rMove rfl rfl) ?_)
  refine liGo rfl rfl ?_
  refine opCall 13 #[] rfl (by kernel_rfl) (fun _ => by kernel_rfl) (fun w hM => ?_)
  refine (awake_any w (HV.out.mm hM)).mono ?_
  rintro e w' ⟨rfl, hf⟩
  have hM' := hM.fr0 hf
  refine ⟨(.bool true), _, rfl, hM', ?_⟩
  clear hM hM' hf
  refine li rfl (opVal (.bool true) rfl (by kernel_rfl) (rClosed fun _ => by kernel_rfl) ?_)
  refine li rfl (opVal (.bool true) rfl (by kernel_rfl) (rAssign rfl rfl) ?_)
  refine liNil ?_
  refine qThen ?_
  refine stRet ?_
  refine qThenR ?_
  refine stEnd [(.bool true)] rfl ⟨rfl, trivial⟩ (fun w hM => ?_)
  exact ⟨rfl, hM.fr⟩

set_option maxRecDepth 100000 in
set_option maxHeartbeats 1000000 in
theorem lawSub_ob (n : Nat) (m2 : Int) (seed seed2 : Nat) (A B : Option Addr) (c c2 : Nat) (ops ops2 : List BOp) (w : World) (hv : Vars w) (hf1 : fewB (n : Int) ops.length = true) (hf2 : fewB m2 ops2.length = true) (hn : isSz (n : Int) = true) (hu : U64 seed) (hr : RowIn w A (opCells ops)) (hl : ops.length ≤ 1000000) (hm2 : isSz m2 = false) :
    Calls Tryd.prog 10 #[Value.int .i64 (n : Int), Value.int .i64 m2, .int .u64 (seed : Int), .int .u64 (seed2 : Int), .slice A ops.length c, .slice B ops2.length c2] w fun e w' => e = .returned (.bool true) ∧ Fr [] w w' := by
  have HV := Lib.hid hv
  clear hv
  have HU := Lib.hid hu
  have HR := Lib.hid hr
  clear hu hr
  obtain ⟨T1, HT1⟩ : ∃ T, Hid (T = runAll (BT.new n seed) ops) := ⟨_, rfl⟩
  have hTl1 : T1.cells.length = n := by rw [HT1.out, runAll_len]; simp [BT.new]
  have hTs1 : T1.seed = seed := by rw [HT1.out, runAll_seed]; rfl
  refine stEnter (args := [Value.int .i64 (n : Int), Value.int .i64 m2, .int .u64 (seed : Int), .int .u64 (seed2 : Int), .slice A ops.length c, .slice B ops2.length c2]) [] Tryd.func10 rfl 128 rfl [(0, Value.int .i64 (n : Int)), (1, Value.int .i64 m2), (2, .int .u64 (seed : Int)), (3, .int .u64 (seed2 : Int)), (4, .slice A ops.length c), (5, .slice B ops2.length c2)] ⟨rfl, rfl, rfl, rfl, rfl, rfl, trivial⟩ [] (Mm.start w []) ?_
  refine stSeq ?_
  refine reg ?_
  refine li rfl (opVal (.bool false) rfl (by kernel_rfl) (rAssign rfl rfl) ?_)
  refine liNil ?_
  refine qThen ?_
  refine stSeq ?_
  refine stSeq ?_
  refine reg ?_
  refine li rfl (opVal (.int .i64 ((n : Nat) : Int)) rfl (by kernel_rfl) (rMove rfl rfl) ?_)
  refine li rfl (opVal (.slice A (ops.length) (c)) rfl (by kernel_rfl) (rMove rfl rfl) ?_)
  refine li rfl ?_
  refine opCall 28 #[(.int .i64 ((n : Nat) : Int)), (.slice A (ops.length) (c))] rfl (by kernel_rfl) (fun _ => by kernel_rfl) (fun w hM => ?_)
  refine ((by rw [← hf1]; exact few_any _ _ _ _ w : Calls _ _ _ w fun e w' => e = .returned (.bool true) ∧ Fr [] w w')).mono ?_
  rintro e w' ⟨rfl, hf⟩
  have hM' := hM.fr0 hf
  refine ⟨(.bool true), _, rfl, hM', ?_⟩
  clear hM hM' hf
  refine li rfl (opVal (.bool false) rfl (by kernel_rfl) (rClosed fun _ => by kernel_rfl) ?_)
  refine li rfl (opVal (.bool false) rfl (by kernel_rfl) (rMove rfl rfl) ?_)
  refine liGo rfl rfl (opVal (.int .i64 m2) rfl (by kernel_rfl) (rMove rfl rfl) ?_)
  refine liGo rfl rfl (opVal (.slice B (ops2.length) (c2)) rfl (by kernel_rfl) (rMove rfl rfl) ?_)
  refine liGo rfl rfl ?_
  refine opCall 28 #[(.int .i64 m2), (.slice B (ops2.length) (c2))] rfl (by kernel_rfl) (fun _ => by kernel_rfl) (fun w hM => ?_)
  refine ((by rw [← hf2]; exact few_any _ _ _ _ w : Calls _ _ _ w fun e w' => e = .returned (.bool true) ∧ Fr [] w w')).mono ?_
  rintro e w' ⟨rfl, hf⟩
  have hM' := hM.fr0 hf
  refine ⟨(.bool true), _, rfl, hM', ?_⟩
  clear hM hM' hf
  refine liGo rfl rfl (opVal (.bool false) rfl (by kernel_rfl) (rClosed fun _ => by kernel_rfl) ?_)
  refine li rfl (opVal (.bool false) rfl (by kernel_rfl) (rClosed fun _ => by kernel_rfl) ?_)
  refine liNil ?_
  refine qThen ?_
  refine stFalse rfl ?_
  refine stSkip ?_
  refine qThen ?_
  refine stSeq ?_
  refine reg ?_
  refine li rfl (opVal (.int .i64 ((n : Nat) : Int)) rfl (by kernel_rfl) (rMove rfl rfl) ?_)
  refine li rfl (opVal (.int .u64 ((seed : Nat) : Int)) rfl (by kernel_rfl) (rMove rfl rfl) ?_)
  refine li rfl (opVal (.slice A (ops.length) (c)) rfl (by kernel_rfl) (rMove rfl rfl) ?_)
  refine li rfl ?_
  refine opCall 29 #[(.int .i64 ((n : Nat) : Int)), (.int .u64 ((seed : Nat) : Int)), (.slice A (ops.length) (c))] rfl (by kernel_rfl) (fun _ => by kernel_rfl) (fun w hM => ?_)
  refine (by have h := play_any n seed A (c) (ops) w hn (HV.out.mm hM) HU.out (HR.out.fr0 hM.fr) (hl); rw [← HT1.out] at h; exact h : Calls _ _ _ w (Played n seed T1 w)).mono ?_
  rintro e w' ⟨bt1, bc1, cap1, rest1, g1, rc1, rr1, rfl, hP⟩
  have hM' := hM.lift hP
  refine ⟨_, _, rfl, hM', ?_⟩
  clear hM hM' hP
  refine li rfl (opVal (.tuple #[(.pointer (some ⟨bt1, 0, none⟩)), (.agg #[(.int .u64 ((seed : Nat) : Int)), (.slice (some ⟨g1, 0, none⟩) (n) (rc1))]), (.bool true)]) rfl (by kernel_rfl) (rMove rfl rfl) ?_)
  refine li rfl (opVal (.pointer (some ⟨bt1, 0, none⟩)) rfl (by kernel_rfl) (rClosed fun _ => by kernel_rfl) ?_)
  refine li rfl (opVal (.agg #[(.int .u64 ((seed : Nat) : Int)), (.slice (some ⟨g1, 0, none⟩) (n) (rc1))]) rfl (by kernel_rfl) (rClosed fun _ => by kernel_rfl) ?_)
  refine li rfl (opVal (.bool true) rfl (by kernel_rfl) (rClosed fun _ => by kernel_rfl) ?_)
  refine li rfl ?_
  refine opAlloc [(.int .u64 0), (.slice none 0 0)] rfl rfl (by kernel_rfl) (by kernel_rfl) (fun b14 => ?_)
  refine li rfl (opVal (.pointer (some ⟨bt1, 0, none⟩)) rfl (by kernel_rfl) (rAssign rfl rfl) ?_)
  refine li rfl ?_
  refine opStoreN 2 [(.int .u64 ((seed : Nat) : Int)), (.slice (some ⟨g1, 0, none⟩) (n) (rc1))] (vs := [(.int .u64 ((seed : Nat) : Int)), (.slice (some ⟨g1, 0, none⟩) (n) (rc1))]) rfl rfl (by kernel_rfl) rfl rfl rfl (by kernel_rfl) rfl (by simp) (by simp [Value.oneCell']) rfl ?_
  refine li rfl (opVal (.bool true) rfl (by kernel_rfl) (rAssign rfl rfl) ?_)
  refine liNil ?_
  refine qThen ?_
  refine stSeq ?_
  refine reg ?_
  refine li rfl (opVal (.int .i64 m2) rfl (by kernel_rfl) (rMove rfl rfl) ?_)
  refine li rfl (opVal (.int .u64 ((seed2 : Nat) : Int)) rfl (by kernel_rfl) (rMove rfl rfl) ?_)
  refine li rfl (opVal (.slice B (ops2.length) (c2)) rfl (by kernel_rfl) (rMove rfl rfl) ?_)
  refine li rfl ?_
  refine opCall 29 #[(.int .i64 m2), (.int .u64 ((seed2 : Nat) : Int)), (.slice B (ops2.length) (c2))] rfl (by kernel_rfl) (fun _ => by kernel_rfl) (fun w hM => ?_)
  refine (play_bad m2 seed2 B c2 ops2 w hm2).mono ?_
  rintro e w' ⟨rfl, hf⟩
  have hM' := hM.fr0 hf
  refine ⟨(.tuple #[(.pointer none), (.agg #[(.int .u64 0), (.slice none 0 0)]), (.bool true)]), _, rfl, hM', ?_⟩
  clear hM hM' hf
  refine li rfl (opVal (.tuple #[(.pointer none), (.agg #[(.int .u64 0), (.slice none 0 0)]), (.bool true)]) rfl (by kernel_rfl) (rMove rfl rfl) ?_)
  refine li rfl (opVal (.pointer none) rfl (by kernel_rfl) (rClosed fun _ => by kernel_rfl) ?_)
  refine li rfl (opVal (.agg #[(.int .u64 0), (.slice none 0 0)]) rfl (by kernel_rfl) (rClosed fun _ => by kernel_rfl) ?_)
  refine li rfl (opVal (.bool true) rfl (by kernel_rfl) (rClosed fun _ => by kernel_rfl) ?_)
  refine li rfl ?_
  refine opAlloc [(.int .u64 0), (.slice none 0 0)] rfl rfl (by kernel_rfl) (by kernel_rfl) (fun b17 => ?_)
  refine li rfl (opVal (.pointer none) rfl (by kernel_rfl) (rAssign rfl rfl) ?_)
  refine li rfl ?_
  refine opStoreN 3 [(.int .u64 0), (.slice none 0 0)] (vs := [(.int .u64 0), (.slice none 0 0)]) rfl rfl (by kernel_rfl) rfl rfl rfl (by kernel_rfl) rfl (by simp) (by simp [Value.oneCell']) rfl ?_
  refine li rfl (opVal (.bool true) rfl (by kernel_rfl) (rAssign rfl rfl) ?_)
  refine liNil ?_
  refine qThen ?_
  refine stSeq ?_
  refine stSeq ?_
  refine reg ?_
  refine li rfl (opVal (.bool true) rfl (by kernel_rfl) (rMove rfl rfl) ?_)
  refine li rfl (opVal (.bool false) rfl (by kernel_rfl) (rClosed fun _ => by kernel_rfl) ?_)
  refine li rfl (opVal (.bool false) rfl (by kernel_rfl) (rMove rfl rfl) ?_)
  refine liGo rfl rfl (opVal (.bool true) rfl (by kernel_rfl) (rMove rfl rfl) ?_)
  refine liGo rfl rfl (opVal (.bool false) rfl (by kernel_rfl) (rClosed fun _ => by kernel_rfl) ?_)
  refine li rfl (opVal (.bool false) rfl (by kernel_rfl) (rClosed fun _ => by kernel_rfl) ?_)
  refine li rfl (opVal (.bool false) rfl (by kernel_rfl) (rMove rfl rfl) ?_)
  refine liGo rfl rfl (opVal (.pointer (some ⟨bt1, 0, none⟩)) rfl (by kernel_rfl) (rMove rfl rfl) ?_)
  refine liGo rfl rfl (opVal (.bool false) rfl (by kernel_rfl) (rClosed fun _ => by kernel_rfl) ?_)
  refine li rfl (opVal (.bool false) rfl (by kernel_rfl) (rClosed fun _ => by kernel_rfl) ?_)
  refine li rfl (opVal (.bool false) rfl (by kernel_rfl) (rMove rfl rfl) ?_)
  refine liGo rfl rfl (opVal (.pointer none) rfl (by kernel_rfl) (rMove rfl rfl) ?_)
  refine liGo rfl rfl (opVal (.bool true) rfl (by kernel_rfl) (rClosed fun _ => by kernel_rfl) ?_)
  refine li rfl (opVal (.bool true) rfl (by kernel_rfl) (rClosed fun _ => by kernel_rfl) ?_)
  refine liNil ?_
  refine qThen ?_
  refine stTrue rfl ?_
  refine stSeq ?_
  refine reg ?_
  refine li rfl (opVal (.bool true) rfl (by kernel_rfl) (rMove rfl rfl) ?_)
  refine li rfl (opVal (.bool true) rfl (by kernel_rfl) (rMove rfl rfl) ?_)
  refine liGo rfl rfl (opVal (.bool true) rfl (by kernel_rfl) (rMove rfl rfl) ?_)
  refine li rfl (opVal (.bool true) rfl (by kernel_rfl) (rClosed fun _ => by kernel_rfl) ?_)
  refine li rfl (opVal (.bool true) rfl (by kernel_rfl) (rMove rfl rfl) ?_)
  refine liGo rfl rfl ?_
  refine opCall 13 #[] rfl (by kernel_rfl) (fun _ => by kernel_rfl) (fun w hM => ?_)
  refine (awake_any w (HV.out.mm hM)).mono ?_
  rintro e w' ⟨rfl, hf⟩
  have hM' := hM.fr0 hf
  refine ⟨(.bool true), _, rfl, hM', ?_⟩
  clear hM hM' hf
  refine li rfl (opVal (.bool true) rfl (by kernel_rfl) (rClosed fun _ => by kernel_rfl) ?_)
  refine li rfl (opVal (.bool true) rfl (by kernel_rfl) (rAssign rfl rfl) ?_)
  refine liNil ?_
  refine qThen ?_
  refine stRet ?_
  refine qThenR ?_
  refine stEnd [(.bool true)] rfl ⟨rfl, trivial⟩ (fun w hM => ?_)
  exact ⟨rfl, hM.fr⟩

set_option maxRecDepth 100000 in
set_option maxHeartbeats 1000000 in
theorem lawSub_len (n n2 : Nat) (seed seed2 : Nat) (A B : Option Addr) (c c2 : Nat) (ops ops2 : List BOp) (w : World) (hv : Vars w) (hf1 : fewB (n : Int) ops.length = true) (hf2 : fewB (n2 : Int) ops2.length = true) (hn : isSz (n : Int) = true) (hu : U64 seed) (hr : RowIn w A (opCells ops)) (hl : ops.length ≤ 1000000) (hn2 : isSz (n2 : Int) = true) (hu2 : U64 seed2) (hr2 : RowIn w B (opCells ops2)) (hl2 : ops2.length ≤ 1000000) (hne : n ≠ n2) :
    Calls Tryd.prog 10 #[Value.int .i64 (n : Int), Value.int .i64 (n2 : Int), .int .u64 (seed : Int), .int .u64 (seed2 : Int), .slice A ops.length c, .slice B ops2.length c2] w fun e w' => e = .returned (.bool true) ∧ Fr [] w w' := by
  have HV := Lib.hid hv
  clear hv
  have HU := Lib.hid hu
  have HR := Lib.hid hr
  clear hu hr
  obtain ⟨T1, HT1⟩ : ∃ T, Hid (T = runAll (BT.new n seed) ops) := ⟨_, rfl⟩
  have hTl1 : T1.cells.length = n := by rw [HT1.out, runAll_len]; simp [BT.new]
  have hTs1 : T1.seed = seed := by rw [HT1.out, runAll_seed]; rfl
  have HU2 := Lib.hid hu2
  have HR2 := Lib.hid hr2
  clear hu2 hr2
  obtain ⟨T2, HT2⟩ : ∃ T, Hid (T = runAll (BT.new n2 seed2) ops2) := ⟨_, rfl⟩
  have hTl2 : T2.cells.length = n2 := by rw [HT2.out, runAll_len]; simp [BT.new]
  have hTs2 : T2.seed = seed2 := by rw [HT2.out, runAll_seed]; rfl
  refine stEnter (args := [Value.int .i64 (n : Int), Value.int .i64 (n2 : Int), .int .u64 (seed : Int), .int .u64 (seed2 : Int), .slice A ops.length c, .slice B ops2.length c2]) [] Tryd.func10 rfl 128 rfl [(0, Value.int .i64 (n : Int)), (1, Value.int .i64 (n2 : Int)), (2, .int .u64 (seed : Int)), (3, .int .u64 (seed2 : Int)), (4, .slice A ops.length c), (5, .slice B ops2.length c2)] ⟨rfl, rfl, rfl, rfl, rfl, rfl, trivial⟩ [] (Mm.start w []) ?_
  refine stSeq ?_
  refine reg ?_
  refine li rfl (opVal (.bool false) rfl (by kernel_rfl) (rAssign rfl rfl) ?_)
  refine liNil ?_
  refine qThen ?_
  refine stSeq ?_
  refine stSeq ?_
  refine reg ?_
  refine li rfl (opVal (.int .i64 ((n : Nat) : Int)) rfl (by kernel_rfl) (rMove rfl rfl) ?_)
  refine li rfl (opVal (.slice A (ops.length) (c)) rfl (by kernel_rfl) (rMove rfl rfl) ?_)
  refine li rfl ?_
  refine opCall 28 #[(.int .i64 ((n : Nat) : Int)), (.slice A (ops.length) (c))] rfl (by kernel_rfl) (fun _ => by kernel_rfl) (fun w hM => ?_)
  refine ((by rw [← hf1]; exact few_any _ _ _ _ w : Calls _ _ _ w fun e w' => e = .returned (.bool true) ∧ Fr [] w w')).mono ?_
  rintro e w' ⟨rfl, hf⟩
  have hM' := hM.fr0 hf
  refine ⟨(.bool true), _, rfl, hM', ?_⟩
  clear hM hM' hf
  refine li rfl (opVal (.bool false) rfl (by kernel_rfl) (rClosed fun _ => by kernel_rfl) ?_)
  refine li rfl (opVal (.bool false) rfl (by kernel_rfl) (rMove rfl rfl) ?_)
  refine liGo rfl rfl (opVal (.int .i64 ((n2 : Nat) : Int)) rfl (by kernel_rfl) (rMove rfl rfl) ?_)
  refine liGo rfl rfl (opVal (.slice B (ops2.length) (c2)) rfl (by kernel_rfl) (rMove rfl rfl) ?_)
  refine liGo rfl rfl ?_
  refine opCall 28 #[(.int .i64 ((n2 : Nat) : Int)), (.slice B (ops2.length) (c2))] rfl (by kernel_rfl) (fun _ => by kernel_rfl) (fun w hM => ?_)
  refine ((by rw [← hf2]; exact few_any _ _ _ _ w : Calls _ _ _ w fun e w' => e = .returned (.bool true) ∧ Fr [] w w')).mono ?_
  rintro e w' ⟨rfl, hf⟩
  have hM' := hM.fr0 hf
  refine ⟨(.bool true), _, rfl, hM', ?_⟩
  clear hM hM' hf
  refine liGo rfl rfl (opVal (.bool false) rfl (by kernel_rfl) (rClosed fun _ => by kernel_rfl) ?_)
  refine li rfl (opVal (.bool false) rfl (by kernel_rfl) (rClosed fun _ => by kernel_rfl) ?_)
  refine liNil ?_
  refine qThen ?_
  refine stFalse rfl ?_
  refine stSkip ?_
  refine qThen ?_
  refine stSeq ?_
  refine reg ?_
  refine li rfl (opVal (.int .i64 ((n : Nat) : Int)) rfl (by kernel_rfl) (rMove rfl rfl) ?_)
  refine li rfl (opVal (.int .u64 ((seed : Nat) : Int)) rfl (by kernel_rfl) (rMove rfl rfl) ?_)
  refine li rfl (opVal (.slice A (ops.length) (c)) rfl (by kernel_rfl) (rMove rfl rfl) ?_)
  refine li rfl ?_
  refine opCall 29 #[(.int .i64 ((n : Nat) : Int)), (.int .u64 ((seed : Nat) : Int)), (.slice A (ops.length) (c))] rfl (by kernel_rfl) (fun _ => by kernel_rfl) (fun w hM => ?_)
  refine (by have h := play_any n seed A (c) (ops) w hn (HV.out.mm hM) HU.out (HR.out.fr0 hM.fr) (hl); rw [← HT1.out] at h; exact h : Calls _ _ _ w (Played n seed T1 w)).mono ?_
  rintro e w' ⟨bt1, bc1, cap1, rest1, g1, rc1, rr1, rfl, hP⟩
  have hM' := hM.lift hP
  refine ⟨_, _, rfl, hM', ?_⟩
  clear hM hM' hP
  refine li rfl (opVal (.tuple #[(.pointer (some ⟨bt1, 0, none⟩)), (.agg #[(.int .u64 ((seed : Nat) : Int)), (.slice (some ⟨g1, 0, none⟩) (n) (rc1))]), (.bool true)]) rfl (by kernel_rfl) (rMove rfl rfl) ?_)
  refine li rfl (opVal (.pointer (some ⟨bt1, 0, none⟩)) rfl (by kernel_rfl) (rClosed fun _ => by kernel_rfl) ?_)
  refine li rfl (opVal (.agg #[(.int .u64 ((seed : Nat) : Int)), (.slice (some ⟨g1, 0, none⟩) (n) (rc1))]) rfl (by kernel_rfl) (rClosed fun _ => by kernel_rfl) ?_)
  refine li rfl (opVal (.bool true) rfl (by kernel_rfl) (rClosed fun _ => by kernel_rfl) ?_)
  refine li rfl ?_
  refine opAlloc [(.int .u64 0), (.slice none 0 0)] rfl rfl (by kernel_rfl) (by kernel_rfl) (fun b14 => ?_)
  refine li rfl (opVal (.pointer (some ⟨bt1, 0, none⟩)) rfl (by kernel_rfl) (rAssign rfl rfl) ?_)
  refine li rfl ?_
  refine opStoreN 2 [(.int .u64 ((seed : Nat) : Int)), (.slice (some ⟨g1, 0, none⟩) (n) (rc1))] (vs := [(.int .u64 ((seed : Nat) : Int)), (.slice (some ⟨g1, 0, none⟩) (n) (rc1))]) rfl rfl (by kernel_rfl) rfl rfl rfl (by kernel_rfl) rfl (by simp) (by simp [Value.oneCell']) rfl ?_
  refine li rfl (opVal (.bool true) rfl (by kernel_rfl) (rAssign rfl rfl) ?_)
  refine liNil ?_
  refine qThen ?_
  refine stSeq ?_
  refine reg ?_
  refine li rfl (opVal (.int .i64 ((n2 : Nat) : Int)) rfl (by kernel_rfl) (rMove rfl rfl) ?_)
  refine li rfl (opVal (.int .u64 ((seed2 : Nat) : Int)) rfl (by kernel_rfl) (rMove rfl rfl) ?_)
  refine li rfl (opVal (.slice B (ops2.length) (c2)) rfl (by kernel_rfl) (rMove rfl rfl) ?_)
  refine li rfl ?_
  refine opCall 29 #[(.int .i64 ((n2 : Nat) : Int)), (.int .u64 ((seed2 : Nat) : Int)), (.slice B (ops2.length) (c2))] rfl (by kernel_rfl) (fun _ => by kernel_rfl) (fun w hM => ?_)
  refine (by have h := play_any n2 seed2 B (c2) (ops2) w hn2 (HV.out.mm hM) HU2.out (HR2.out.fr0 hM.fr) (hl2); rw [← HT2.out] at h; exact h : Calls _ _ _ w (Played n2 seed2 T2 w)).mono ?_
  rintro e w' ⟨bt2, bc2, cap2, rest2, g2, rc2, rr2, rfl, hP⟩
  have hM' := hM.lift hP
  refine ⟨_, _, rfl, hM', ?_⟩
  clear hM hM' hP
  refine li rfl (opVal (.tuple #[(.pointer (some ⟨bt2, 0, none⟩)), (.agg #[(.int .u64 ((seed2 : Nat) : Int)), (.slice (some ⟨g2, 0, none⟩) (n2) (rc2))]), (.bool true)]) rfl (by kernel_rfl) (rMove rfl rfl) ?_)
  refine li rfl (opVal (.pointer (some ⟨bt2, 0, none⟩)) rfl (by kernel_rfl) (rClosed fun _ => by kernel_rfl) ?_)
  refine li rfl (opVal (.agg #[(.int .u64 ((seed2 : Nat) : Int)), (.slice (some ⟨g2, 0, none⟩) (n2) (rc2))]) rfl (by kernel_rfl) (rClosed fun _ => by kernel_rfl) ?_)
  refine li rfl (opVal (.bool true) rfl (by kernel_rfl) (rClosed fun _ => by kernel_rfl) ?_)
  refine li rfl ?_
  refine opAlloc [(.int .u64 0), (.slice none 0 0)] rfl rfl (by kernel_rfl) (by kernel_rfl) (fun b17 => ?_)
  refine li rfl (opVal (.pointer (some ⟨bt2, 0, none⟩)) rfl (by kernel_rfl) (rAssign rfl rfl) ?_)
  refine li rfl ?_
  refine opStoreN 5 [(.int .u64 ((seed2 : Nat) : Int)), (.slice (some ⟨g2, 0, none⟩) (n2) (rc2))] (vs := [(.int .u64 ((seed2 : Nat) : Int)), (.slice (some ⟨g2, 0, none⟩) (n2) (rc2))]) rfl rfl (by kernel_rfl) rfl rfl rfl (by kernel_rfl) rfl (by simp) (by simp [Value.oneCell']) rfl ?_
  refine li rfl (opVal (.bool true) rfl (by kernel_rfl) (rAssign rfl rfl) ?_)
  refine liNil ?_
  refine qThen ?_
  refine stSeq ?_
  refine stSeq ?_
  refine reg ?_
  refine li rfl (opVal (.bool true) rfl (by kernel_rfl) (rMove rfl rfl) ?_)
  refine li rfl (opVal (.bool false) rfl (by kernel_rfl) (rClosed fun _ => by kernel_rfl) ?_)
  refine li rfl (opVal (.bool false) rfl (by kernel_rfl) (rMove rfl rfl) ?_)
  refine liGo rfl rfl (opVal (.bool true) rfl (by kernel_rfl) (rMove rfl rfl) ?_)
  refine liGo rfl rfl (opVal (.bool false) rfl (by kernel_rfl) (rClosed fun _ => by kernel_rfl) ?_)
  refine li rfl (opVal (.bool false) rfl (by kernel_rfl) (rClosed fun _ => by kernel_rfl) ?_)
  refine li rfl (opVal (.bool false) rfl (by kernel_rfl) (rMove rfl rfl) ?_)
  refine liGo rfl rfl (opVal (.pointer (some ⟨bt1, 0, none⟩)) rfl (by kernel_rfl) (rMove rfl rfl) ?_)
  refine liGo rfl rfl (opVal (.bool false) rfl (by kernel_rfl) (rClosed fun _ => by kernel_rfl) ?_)
  refine li rfl (opVal (.bool false) rfl (by kernel_rfl) (rClosed fun _ => by kernel_rfl) ?_)
  refine li rfl (opVal (.bool false) rfl (by kernel_rfl) (rMove rfl rfl) ?_)
  refine liGo rfl rfl (opVal (.pointer (some ⟨bt2, 0, none⟩)) rfl (by kernel_rfl) (rMove rfl rfl) ?_)
  refine liGo rfl rfl (opVal (.bool false) rfl (by kernel_rfl) (rClosed fun _ => by kernel_rfl) ?_)
  refine li rfl (opVal (.bool false) rfl (by kernel_rfl) (rClosed fun _ => by kernel_rfl) ?_)
  refine liNil ?_
  refine qThen ?_
  refine stFalse rfl ?_
  refine stSkip ?_
  refine qThen ?_
  refine stSeq ?_
  refine reg ?_
  refine li rfl (opVal (.pointer (some ⟨bt1, 0, none⟩)) rfl (by kernel_rfl) (rMove rfl rfl) ?_)
  refine li rfl (opVal (.pointer (some ⟨bt2, 0, none⟩)) rfl (by kernel_rfl) (rMove rfl rfl) ?_)
  refine li rfl ?_
  refine opCall 25 #[(.pointer (some ⟨bt1, 0, none⟩)), (.pointer (some ⟨bt2, 0, none⟩))] rfl (by kernel_rfl) (fun _ => by kernel_rfl) (fun w hM => ?_)
  refine (subtract_len _ _ _ _ _ _ _ _ T1 T2 w (hM.at (i := 0) rfl) (hM.at (i := 3) rfl) (by rw [hTl1, hTl2]; exact hne)).mono ?_
  rintro e w' ⟨rfl, hf⟩
  have hM' := hM.fr0 hf
  refine ⟨_, _, rfl, hM', ?_⟩
  clear hM hM' hf
  refine li rfl (opVal (.tuple #[(.pointer none), (.int .i64 1)]) rfl (by kernel_rfl) (rMove rfl rfl) ?_)
  refine li rfl (opVal (.pointer none) rfl (by kernel_rfl) (rClosed fun _ => by kernel_rfl) ?_)
  refine li rfl (opVal (.int .i64 1) rfl (by kernel_rfl) (rClosed fun _ => by kernel_rfl) ?_)
  refine li rfl (opVal (.pointer none) rfl (by kernel_rfl) (rAssign rfl rfl) ?_)
  refine li rfl (opVal (.int .i64 1) rfl (by kernel_rfl) (rAssign rfl rfl) ?_)
  refine liNil ?_
  refine qThen ?_
  refine stSeq ?_
  refine stSeq ?_
  refine anyBegin [cTab bt1 bc1 cap1 rest1 T1, cRTab g1 rc1 rr1 T1, cAt b14 53 [(.int .u64 ((seed : Nat) : Int)), (.slice (some ⟨g1, 0, none⟩) (n) (rc1))], cTab bt2 bc2 cap2 rest2 T2, cRTab g2 rc2 rr2 T2, cAt b17 53 [(.int .u64 ((seed2 : Nat) : Int)), (.slice (some ⟨g2, 0, none⟩) (n2) (rc2))]] 16 (by kernel_rfl) (fun _ h => h) ?_
  refine anyVal (i := 0) (.pointer (some ⟨bt1, 0, none⟩)) rfl rfl rfl (by kernel_rfl) (by kernel_rfl) (fun _ _ _ h => h) (rMove rfl rfl) ?_
  refine anyVal (i := 3) (.agg #[(.int .u64 ((seed : Nat) : Int)), (.slice (some ⟨g1, 0, none⟩) (n) (rc1))]) rfl rfl rfl (by kernel_rfl) (by kernel_rfl) (fun _ _ _ h => h) (rLoadA [(.int .u64 ((seed : Nat) : Int)), (.slice (some ⟨g1, 0, none⟩) (n) (rc1))] rfl rfl (by kernel_rfl) (by kernel_rfl) (segAt (i := 2) rfl (by intro j v hj; first | (rw [Nat.zero_add]; exact hj) | (match j, hj with | 0, h => exact h | 1, h => exact h)))) ?_
  refine anyOne (i := 1) (by kernel_rfl) rfl rfl ?_
  refine opCall 31 #[(.pointer (some ⟨bt1, 0, none⟩))] rfl (by kernel_rfl) (fun _ => by kernel_rfl) (fun w hM => ?_)
  refine (encode_any _ _ _ _ T1 w (hM.at (i := 0) rfl)).mono ?_
  rintro e w' ⟨v, rfl, hN⟩
  obtain ⟨A76, c76, rfl, hM'⟩ := hM.pushOwn hN.fr hN.own
  refine ⟨_, _, rfl, hM', ?_⟩
  clear hM hN hM'
  refine anyNext [cTab bt1 bc1 cap1 rest1 T1, cRTab g1 rc1 rr1 T1, cAt b14 53 [(.int .u64 ((seed : Nat) : Int)), (.slice (some ⟨g1, 0, none⟩) (n) (rc1))], cTab bt2 bc2 cap2 rest2 T2, cRTab g2 rc2 rr2 T2, cAt b17 53 [(.int .u64 ((seed2 : Nat) : Int)), (.slice (some ⟨g2, 0, none⟩) (n2) (rc2))], cOwn 5 1 A76 ((T1.enc).length) (c76) (B8 (T1.enc))] (fun _ h => h.sub (.cons_cons _ (.cons_cons _ (.cons_cons _ (.cons_cons _ (.cons_cons _ (.cons_cons _ (.cons _ .slnil)))))))) (fun _ h => h) ?_
  refine anyVal (i := 2) (.string (strOf (T1.enc))) rfl rfl rfl (by kernel_rfl) (by kernel_rfl) (fun _ _ _ h => h) (rStr (e := 5) (T1.enc) rfl (by kernel_rfl) (by kernel_rfl) (by kernel_rfl) rfl rfl (rowOwn (i := 6) rfl)) ?_
  refine anyOne (i := 4) (by kernel_rfl) rfl rfl ?_
  refine opCall 32 #[(.agg #[(.int .u64 ((seed : Nat) : Int)), (.slice (some ⟨g1, 0, none⟩) (n) (rc1))])] rfl (by kernel_rfl) (fun _ => by kernel_rfl) (fun w hM => ?_)
  refine (by have h := refEncode_any _ _ _ T1 w (hM.at (i := 1) rfl); rw [hTl1, hTs1] at h; exact h : Calls _ _ _ w (NewRow T1.enc w)).mono ?_
  rintro e w' hN
  obtain ⟨A79, c79, rfl, hM'⟩ := hM.newRow hN
  refine ⟨_, _, rfl, hM', ?_⟩
  clear hM hN hM'
  refine anyNext [cTab bt1 bc1 cap1 rest1 T1, cRTab g1 rc1 rr1 T1, cAt b14 53 [(.int .u64 ((seed : Nat) : Int)), (.slice (some ⟨g1, 0, none⟩) (n) (rc1))], cTab bt2 bc2 cap2 rest2 T2, cRTab g2 rc2 rr2 T2, cAt b17 53 [(.int .u64 ((seed2 : Nat) : Int)), (.slice (some ⟨g2, 0, none⟩) (n2) (rc2))], cOwn 5 1 A76 ((T1.enc).length) (c76) (B8 (T1.enc)), cOwn 5 1 A79 ((T1.enc).length) (c79) (B8 (T1.enc))] (fun _ h => h.sub (.cons_cons _ (.cons_cons _ (.cons_cons _ (.cons_cons _ (.cons_cons _ (.cons_cons _ (.cons_cons _ (.cons _ .slnil))))))))) (fun _ h => h) ?_
  refine anyVal (i := 5) (.string (strOf (T1.enc))) rfl rfl rfl (by kernel_rfl) (by kernel_rfl) (fun _ _ _ h => h) (rStr (e := 5) (T1.enc) rfl (by kernel_rfl) (by kernel_rfl) (by kernel_rfl) rfl rfl (rowOwn (i := 7) rfl)) ?_
  refine anyVal (i := 6) (.bool false) rfl rfl rfl (by kernel_rfl) (by kernel_rfl) (fun _ _ _ h => h) (rConv (rStrNe rfl rfl rfl) (by simp)) ?_
  refine anyVal (i := 7) (.bool false) rfl rfl rfl (by kernel_rfl) (by kernel_rfl) (fun _ _ _ h => h) (rMove rfl rfl) ?_
  refine anyValG (i := 8) (.pointer (some ⟨bt2, 0, none⟩)) rfl rfl rfl rfl (by kernel_rfl) (by kernel_rfl) (fun _ _ _ h => h) (rMove rfl rfl) ?_
  refine anyValG (i := 11) (.agg #[(.int .u64 ((seed2 : Nat) : Int)), (.slice (some ⟨g2, 0, none⟩) (n2) (rc2))]) rfl rfl rfl rfl (by kernel_rfl) (by kernel_rfl) (fun _ _ _ h => h) (rLoadA [(.int .u64 ((seed2 : Nat) : Int)), (.slice (some ⟨g2, 0, none⟩) (n2) (rc2))] rfl rfl (by kernel_rfl) (by kernel_rfl) (segAt (i := 5) rfl (by intro j v hj; first | (rw [Nat.zero_add]; exact hj) | (match j, hj with | 0, h => exact h | 1, h => exact h)))) ?_
  refine anyOneG (i := 9) (by kernel_rfl) rfl rfl rfl ?_
  refine opCall 31 #[(.pointer (some ⟨bt2, 0, none⟩))] rfl (by kernel_rfl) (fun _ => by kernel_rfl) (fun w hM => ?_)
  refine (encode_any _ _ _ _ T2 w (hM.at (i := 3) rfl)).mono ?_
  rintro e w' ⟨v, rfl, hN⟩
  obtain ⟨A84, c84, rfl, hM'⟩ := hM.pushOwn hN.fr hN.own
  refine ⟨_, _, rfl, hM', ?_⟩
  clear hM hN hM'
  refine anyNext [cTab bt1 bc1 cap1 rest1 T1, cRTab g1 rc1 rr1 T1, cAt b14 53 [(.int .u64 ((seed : Nat) : Int)), (.slice (some ⟨g1, 0, none⟩) (n) (rc1))], cTab bt2 bc2 cap2 rest2 T2, cRTab g2 rc2 rr2 T2, cAt b17 53 [(.int .u64 ((seed2 : Nat) : Int)), (.slice (some ⟨g2, 0, none⟩) (n2) (rc2))], cOwn 5 1 A76 ((T1.enc).length) (c76) (B8 (T1.enc)), cOwn 5 1 A79 ((T1.enc).length) (c79) (B8 (T1.enc)), cOwn 5 1 A84 ((T2.enc).length) (c84) (B8 (T2.enc))] (fun _ h => h.sub (.cons_cons _ (.cons_cons _ (.cons_cons _ (.cons_cons _ (.cons_cons _ (.cons_cons _ (.cons_cons _ (.cons_cons _ (.cons _ .slnil)))))))))) (fun _ h => h) ?_
  refine anyValG (i := 10) (.string (strOf (T2.enc))) rfl rfl rfl rfl (by kernel_rfl) (by kernel_rfl) (fun _ _ _ h => h) (rStr (e := 5) (T2.enc) rfl (by kernel_rfl) (by kernel_rfl) (by kernel_rfl) rfl rfl (rowOwn (i := 8) rfl)) ?_
  refine anyOneG (i := 12) (by kernel_rfl) rfl rfl rfl ?_
  refine opCall 32 #[(.agg #[(.int .u64 ((seed2 : Nat) : Int)), (.slice (some ⟨g2, 0, none⟩) (n2) (rc2))])] rfl (by kernel_rfl) (fun _ => by kernel_rfl) (fun w hM => ?_)
  refine (by have h := refEncode_any _ _ _ T2 w (hM.at (i := 4) rfl); rw [hTl2, hTs2] at h; exact h : Calls _ _ _ w (NewRow T2.enc w)).mono ?_
  rintro e w' hN
  obtain ⟨A87, c87, rfl, hM'⟩ := hM.newRow hN
  refine ⟨_, _, rfl, hM', ?_⟩
  clear hM hN hM'
  refine anyNext [cTab bt1 bc1 cap1 rest1 T1, cRTab g1 rc1 rr1 T1, cAt b14 53 [(.int .u64 ((seed : Nat) : Int)), (.slice (some ⟨g1, 0, none⟩) (n) (rc1))], cTab bt2 bc2 cap2 rest2 T2, cRTab g2 rc2 rr2 T2, cAt b17 53 [(.int .u64 ((seed2 : Nat) : Int)), (.slice (some ⟨g2, 0, none⟩) (n2) (rc2))], cOwn 5 1 A76 ((T1.enc).length) (c76) (B8 (T1.enc)), cOwn 5 1 A79 ((T1.enc).length) (c79) (B8 (T1.enc)), cOwn 5 1 A84 ((T2.enc).length) (c84) (B8 (T2.enc)), cOwn 5 1 A87 ((T2.enc).length) (c87) (B8 (T2.enc))] (fun _ h => h.sub (.cons_cons _ (.cons_cons _ (.cons_cons _ (.cons_cons _ (.cons_cons _ (.cons_cons _ (.cons_cons _ (.cons_cons _ (.cons_cons _ (.cons _ .slnil))))))))))) (fun _ h => h) ?_
  refine anyValG (i := 13) (.string (strOf (T2.enc))) rfl rfl rfl rfl (by kernel_rfl) (by kernel_rfl) (fun _ _ _ h => h) (rStr (e := 5) (T2.enc) rfl (by kernel_rfl) (by kernel_rfl) (by kernel_rfl) rfl rfl (rowOwn (i := 9) rfl)) ?_
  refine anyValG (i := 14) (.bool false) rfl rfl rfl rfl (by kernel_rfl) (by kernel_rfl) (fun _ _ _ h => h) (rConv (rStrNe rfl rfl rfl) (by simp)) ?_
  refine anyVal (i := 15) (.bool false) rfl rfl rfl (by kernel_rfl) (by kernel_rfl) (fun _ _ _ h => h) (rClosed fun _ => by kernel_rfl) ?_
  refine anyDone (by kernel_rfl) ?_
  refine qThen ?_
  refine stFalse rfl ?_
  refine stSkip ?_
  refine qThen ?_
  refine stSeq ?_
  refine stSeq ?_
  refine reg ?_
  refine li rfl (opVal (.int .i64 ((n : Nat) : Int)) rfl (by kernel_rfl) (rMove rfl rfl) ?_)
  refine li rfl (opVal (.int .i64 ((n2 : Nat) : Int)) rfl (by kernel_rfl) (rMove rfl rfl) ?_)
  refine li rfl (opVal (.bool ((((n : Nat) : Int) : Int) != ((n2 : Nat) : Int))) rfl (by kernel_rfl) (rClosed fun _ => by kernel_rfl) ?_)
  refine li rfl (opVal (.bool ((((n : Nat) : Int) : Int) != ((n2 : Nat) : Int))) rfl (by kernel_rfl) (rMove rfl rfl) ?_)
  refine St.known 94 (b' := true) rfl (by simp; omega) ?_
  refine liNot (b := true) rfl rfl (by kernel_rfl) rfl ?_
  refine liNot (b := true) rfl rfl (by kernel_rfl) rfl ?_
  refine liNot (b := true) rfl rfl (by kernel_rfl) rfl ?_
  refine li rfl (opVal (.bool true) rfl (by kernel_rfl) (rClosed fun _ => by kernel_rfl) ?_)
  refine liNil ?_
  refine qThen ?_
  refine stTrue rfl ?_
  refine stSeq ?_
  refine reg ?_
  refine li rfl ?_
  refine opCall 13 #[] rfl (by kernel_rfl) (fun _ => by kernel_rfl) (fun w hM => ?_)
  refine (awake_any w (HV.out.mm hM)).mono ?_
  rintro e w' ⟨rfl, hf⟩
  have hM' := hM.fr0 hf
  refine ⟨(.bool true), _, rfl, hM', ?_⟩
  clear hM hM' hf
  refine li rfl (opVal (.bool true) rfl (by kernel_rfl) (rMove rfl rfl) ?_)
  refine liGo rfl rfl (opVal (.int .i64 1) rfl (by kernel_rfl) (rMove rfl rfl) ?_)
  refine liGo rfl rfl (opVal (.bool true) rfl (by kernel_rfl) (rClosed fun _ => by kernel_rfl) ?_)
  refine li rfl (opVal (.bool true) rfl (by kernel_rfl) (rClosed fun _ => by kernel_rfl) ?_)
  refine li rfl (opVal (.bool true) rfl (by kernel_rfl) (rMove rfl rfl) ?_)
  refine liGo rfl rfl (opVal (.pointer none) rfl (by kernel_rfl) (rMove rfl rfl) ?_)
  refine liGo rfl rfl (opVal (.bool true) rfl (by kernel_rfl) (rClosed fun _ => by kernel_rfl) ?_)
  refine li rfl (opVal (.bool true) rfl (by kernel_rfl) (rClosed fun _ => by kernel_rfl) ?_)
  refine li rfl (opVal (.bool true) rfl (by kernel_rfl) (rAssign rfl rfl) ?_)
  refine liNil ?_
  refine qThen ?_
  refine stRet ?_
  refine qThenR ?_
  refine stEnd [(.bool true)] rfl ⟨rfl, trivial⟩ (fun w hM => ?_)
  exact ⟨rfl, hM.fr⟩

set_option maxRecDepth 100000 in
set_option maxHeartbeats 1000000 in
theorem lawSub_seed (n : Nat) (seed seed2 : Nat) (A B : Option Addr) (c c2 : Nat) (ops ops2 : List BOp) (w : World) (hv : Vars w) (hf1 : fewB (n : Int) ops.length = true) (hf2 : fewB (n : Int) ops2.length = true) (hn : isSz (n : Int) = true) (hu : U64 seed) (hr : RowIn w A (opCells ops)) (hl : ops.length ≤ 1000000) (hu2 : U64 seed2) (hr2 : RowIn w B (opCells ops2)) (hl2 : ops2.length ≤ 1000000) (hne : seed ≠ seed2) :
    Calls Tryd.prog 10 #[Value.int .i64 (n : Int), Value.int .i64 (n : Int), .int .u64 (seed : Int), .int .u64 (seed2 : Int), .slice A ops.length c, .slice B ops2.length c2] w fun e w' => e = .returned (.bool true) ∧ Fr [] w w' := by
  have HV := Lib.hid hv
  clear hv
  have HU := Lib.hid hu
  have HR := Lib.hid hr
  clear hu hr
  obtain ⟨T1, HT1⟩ : ∃ T, Hid (T = runAll (BT.new n seed) ops) := ⟨_, rfl⟩
  have hTl1 : T1.cells.length = n := by rw [HT1.out, runAll_len]; simp [BT.new]
  have hTs1 : T1.seed = seed := by rw [HT1.out, runAll_seed]; rfl
  have HU2 := Lib.hid hu2
  have HR2 := Lib.hid hr2
  clear hu2 hr2
  obtain ⟨T2, HT2⟩ : ∃ T, Hid (T = runAll (BT.new n seed2) ops2) := ⟨_, rfl⟩
  have hTl2 : T2.cells.length = n := by rw [HT2.out, runAll_len]; simp [BT.new]
  have hTs2 : T2.seed = seed2 := by rw [HT2.out, runAll_seed]; rfl
  refine stEnter (args := [Value.int .i64 (n : Int), Value.int .i64 (n : Int), .int .u64 (seed : Int), .int .u64 (seed2 : Int), .slice A ops.length c, .slice B ops2.length c2]) [] Tryd.func10 rfl 128 rfl [(0, Value.int .i64 (n : Int)), (1, Value.int .i64 (n : Int)), (2, .int .u64 (seed : Int)), (3, .int .u64 (seed2 : Int)), (4, .slice A ops.length c), (5, .slice B ops2.length c2)] ⟨rfl, rfl, rfl, rfl, rfl, rfl, trivial⟩ [] (Mm.start w []) ?_
  refine stSeq ?_
  refine reg ?_
  refine li rfl (opVal (.bool false) rfl (by kernel_rfl) (rAssign rfl rfl) ?_)
  refine liNil ?_
  refine qThen ?_
  refine stSeq ?_
  refine stSeq ?_
  refine reg ?_
  refine li rfl (opVal (.int .i64 ((n : Nat) : Int)) rfl (by kernel_rfl) (rMove rfl rfl) ?_)
  refine li rfl (opVal (.slice A (ops.length) (c)) rfl (by kernel_rfl) (rMove rfl rfl) ?_)
  refine li rfl ?_
  refine opCall 28 #[(.int .i64 ((n : Nat) : Int)), (.slice A (ops.length) (c))] rfl (by kernel_rfl) (fun _ => by kernel_rfl) (fun w hM => ?_)
  refine ((by rw [← hf1]; exact few_any _ _ _ _ w : Calls _ _ _ w fun e w' => e = .returned (.bool true) ∧ Fr [] w w')).mono ?_
  rintro e w' ⟨rfl, hf⟩
  have hM' := hM.fr0 hf
  refine ⟨(.bool true), _, rfl, hM', ?_⟩
  clear hM hM' hf
  refine li rfl (opVal (.bool false) rfl (by kernel_rfl) (rClosed fun _ => by kernel_rfl) ?_)
  refine li rfl (opVal (.bool false) rfl (by kernel_rfl) (rMove rfl rfl) ?_)
  refine liGo rfl rfl (opVal (.int .i64 ((n : Nat) : Int)) rfl (by kernel_rfl) (rMove rfl rfl) ?_)
  refine liGo rfl rfl (opVal (.slice B (ops2.length) (c2)) rfl (by kernel_rfl) (rMove rfl rfl) ?_)
  refine liGo rfl rfl ?_
  refine opCall 28 #[(.int .i64 ((n : Nat) : Int)), (.slice B (ops2.length) (c2))] rfl (by kernel_rfl) (fun _ => by kernel_rfl) (fun w hM => ?_)
  refine ((by rw [← hf2]; exact few_any _ _ _ _ w : Calls _ _ _ w fun e w' => e = .returned (.bool true) ∧ Fr [] w w')).mono ?_
  rintro e w' ⟨rfl, hf⟩
  have hM' := hM.fr0 hf
  refine ⟨(.bool true), _, rfl, hM', ?_⟩
  clear hM hM' hf
  refine liGo rfl rfl (opVal (.bool false) rfl (by kernel_rfl) (rClosed fun _ => by kernel_rfl) ?_)
  refine li rfl (opVal (.bool false) rfl (by kernel_rfl) (rClosed fun _ => by kernel_rfl) ?_)
  refine liNil ?_
  refine qThen ?_
  refine stFalse rfl ?_
  refine stSkip ?_
  refine qThen ?_
  refine stSeq ?_
  refine reg ?_
  refine li rfl (opVal (.int .i64 ((n : Nat) : Int)) rfl (by kernel_rfl) (rMove rfl rfl) ?_)
  refine li rfl (opVal (.int .u64 ((seed : Nat) : Int)) rfl (by kernel_rfl) (rMove rfl rfl) ?_)
  refine li rfl (opVal (.slice A (ops.length) (c)) rfl (by kernel_rfl) (rMove rfl rfl) ?_)
  refine li rfl ?_
  refine opCall 29 #[(.int .i64 ((n : Nat) : Int)), (.int .u64 ((seed : Nat) : Int)), (.slice A (ops.length) (c))] rfl (by kernel_rfl) (fun _ => by kernel_rfl) (fun w hM => ?_)
  refine (by have h := play_any n seed A (c) (ops) w hn (HV.out.mm hM) HU.out (HR.out.fr0 hM.fr) (hl); rw [← HT1.out] at h; exact h : Calls _ _ _ w (Played n seed T1 w)).mono ?_
  rintro e w' ⟨bt1, bc1, cap1, rest1, g1, rc1, rr1, rfl, hP⟩
  have hM' := hM.lift hP
  refine ⟨_, _, rfl, hM', ?_⟩
  clear hM hM' hP
  refine li rfl (opVal (.tuple #[(.pointer (some ⟨bt1, 0, none⟩)), (.agg #[(.int .u64 ((seed : Nat) : Int)), (.slice (some ⟨g1, 0, none⟩) (n) (rc1))]), (.bool true)]) rfl (by kernel_rfl) (rMove rfl rfl) ?_)
  refine li rfl (opVal (.pointer (some ⟨bt1, 0, none⟩)) rfl (by kernel_rfl) (rClosed fun _ => by kernel_rfl) ?_)
  refine li rfl (opVal (.agg #[(.int .u64 ((seed : Nat) : Int)), (.slice (some ⟨g1, 0, none⟩) (n) (rc1))]) rfl (by kernel_rfl) (rClosed fun _ => by kernel_rfl) ?_)
  refine li rfl (opVal (.bool true) rfl (by kernel_rfl) (rClosed fun _ => by kernel_rfl) ?_)
  refine li rfl ?_
  refine opAlloc [(.int .u64 0), (.slice none 0 0)] rfl rfl (by kernel_rfl) (by kernel_rfl) (fun b14 => ?_)
  refine li rfl (opVal (.pointer (some ⟨bt1, 0, none⟩)) rfl (by kernel_rfl) (rAssign rfl rfl) ?_)
  refine li rfl ?_
  refine opStoreN 2 [(.int .u64 ((seed : Nat) : Int)), (.slice (some ⟨g1, 0, none⟩) (n) (rc1))] (vs := [(.int .u64 ((seed : Nat) : Int)), (.slice (some ⟨g1, 0, none⟩) (n) (rc1))]) rfl rfl (by kernel_rfl) rfl rfl rfl (by kernel_rfl) rfl (by simp) (by simp [Value.oneCell']) rfl ?_
  refine li rfl (opVal (.bool true) rfl (by kernel_rfl) (rAssign rfl rfl) ?_)
  refine liNil ?_
  refine qThen ?_
  refine stSeq ?_
  refine reg ?_
  refine li rfl (opVal (.int .i64 ((n : Nat) : Int)) rfl (by kernel_rfl) (rMove rfl rfl) ?_)
  refine li rfl (opVal (.int .u64 ((seed2 : Nat) : Int)) rfl (by kernel_rfl) (rMove rfl rfl) ?_)
  refine li rfl (opVal (.slice B (ops2.length) (c2)) rfl (by kernel_rfl) (rMove rfl rfl) ?_)
  refine li rfl ?_
  refine opCall 29 #[(.int .i64 ((n : Nat) : Int)), (.int .u64 ((seed2 : Nat) : Int)), (.slice B (ops2.length) (c2))] rfl (by kernel_rfl) (fun _ => by kernel_rfl) (fun w hM => ?_)
  refine (by have h := play_any n seed2 B (c2) (ops2) w hn (HV.out.mm hM) HU2.out (HR2.out.fr0 hM.fr) (hl2); rw [← HT2.out] at h; exact h : Calls _ _ _ w (Played n seed2 T2 w)).mono ?_
  rintro e w' ⟨bt2, bc2, cap2, rest2, g2, rc2, rr2, rfl, hP⟩
  have hM' := hM.lift hP
  refine ⟨_, _, rfl, hM', ?_⟩
  clear hM hM' hP
  refine li rfl (opVal (.tuple #[(.pointer (some ⟨bt2, 0, none⟩)), (.agg #[(.int .u64 ((seed2 : Nat) : Int)), (.slice (some ⟨g2, 0, none⟩) (n) (rc2))]), (.bool true)]) rfl (by kernel_rfl) (rMove rfl rfl) ?_)
  refine li rfl (opVal (.pointer (some ⟨bt2, 0, none⟩)) rfl (by kernel_rfl) (rClosed fun _ => by kernel_rfl) ?_)
  refine li rfl (opVal (.agg #[(.int .u64 ((seed2 : Nat) : Int)), (.slice (some ⟨g2, 0, none⟩) (n) (rc2))]) rfl (by kernel_rfl) (rClosed fun _ => by kernel_rfl) ?_)
  refine li rfl (opVal (.bool true) rfl (by kernel_rfl) (rClosed fun _ => by kernel_rfl) ?_)
  refine li rfl ?_
  refine opAlloc [(.int .u64 0), (.slice none 0 0)] rfl rfl (by kernel_rfl) (by kernel_rfl) (fun b17 => ?_)
  refine li rfl (opVal (.pointer (some ⟨bt2, 0, none⟩)) rfl (by kernel_rfl) (rAssign rfl rfl) ?_)
  refine li rfl ?_
  refine opStoreN 5 [(.int .u64 ((seed2 : Nat) : Int)), (.slice (some ⟨g2, 0, none⟩) (n) (rc2))] (vs := [(.int .u64 ((seed2 : Nat) : Int)), (.slice (some ⟨g2, 0, none⟩) (n) (rc2))]) rfl rfl (by kernel_rfl) rfl rfl rfl (by kernel_rfl) rfl (by simp) (by simp [Value.oneCell']) rfl ?_
  refine li rfl (opVal (.bool true) rfl (by kernel_rfl) (rAssign rfl rfl) ?_)
  refine liNil ?_
  refine qThen ?_
  refine stSeq ?_
  refine stSeq ?_
  refine reg ?_
  refine li rfl (opVal (.bool true) rfl (by kernel_rfl) (rMove rfl rfl) ?_)
  refine li rfl (opVal (.bool false) rfl (by kernel_rfl) (rClosed fun _ => by kernel_rfl) ?_)
  refine li rfl (opVal (.bool false) rfl (by kernel_rfl) (rMove rfl rfl) ?_)
  refine liGo rfl rfl (opVal (.bool true) rfl (by kernel_rfl) (rMove rfl rfl) ?_)
  refine liGo rfl rfl (opVal (.bool false) rfl (by kernel_rfl) (rClosed fun _ => by kernel_rfl) ?_)
  refine li rfl (opVal (.bool false) rfl (by kernel_rfl) (rClosed fun _ => by kernel_rfl) ?_)
  refine li rfl (opVal (.bool false) rfl (by kernel_rfl) (rMove rfl rfl) ?_)
  refine liGo rfl rfl (opVal (.pointer (some ⟨bt1, 0, none⟩)) rfl (by kernel_rfl) (rMove rfl rfl) ?_)
  refine liGo rfl rfl (opVal (.bool false) rfl (by kernel_rfl) (rClosed fun _ => by kernel_rfl) ?_)
  refine li rfl (opVal (.bool false) rfl (by kernel_rfl) (rClosed fun _ => by kernel_rfl) ?_)
  refine li rfl (opVal (.bool false) rfl (by kernel_rfl) (rMove rfl rfl) ?_)
  refine liGo rfl rfl (opVal (.pointer (some ⟨bt2, 0, none⟩)) rfl (by kernel_rfl) (rMove rfl rfl) ?_)
  refine liGo rfl rfl (opVal (.bool false) rfl (by kernel_rfl) (rClosed fun _ => by kernel_rfl) ?_)
  refine li rfl (opVal (.bool false) rfl (by kernel_rfl) (rClosed fun _ => by kernel_rfl) ?_)
  refine liNil ?_
  refine qThen ?_
  refine stFalse rfl ?_
  refine stSkip ?_
  refine qThen ?_
  refine stSeq ?_
  refine reg ?_
  refine li rfl (opVal (.pointer (some ⟨bt1, 0, none⟩)) rfl (by kernel_rfl) (rMove rfl rfl) ?_)
  refine li rfl (opVal (.pointer (some ⟨bt2, 0, none⟩)) rfl (by kernel_rfl) (rMove rfl rfl) ?_)
  refine li rfl ?_
  refine opCall 25 #[(.pointer (some ⟨bt1, 0, none⟩)), (.pointer (some ⟨bt2, 0, none⟩))] rfl (by kernel_rfl) (fun _ => by kernel_rfl) (fun w hM => ?_)
  refine (subtract_seed _ _ _ _ _ _ _ _ T1 T2 w (hM.at (i := 0) rfl) (hM.at (i := 3) rfl) (by rw [hTl1, hTl2]) (by rw [hTs1, hTs2]; exact hne)).mono ?_
  rintro e w' ⟨rfl, hf⟩
  have hM' := hM.fr0 hf
  refine ⟨_, _, rfl, hM', ?_⟩
  clear hM hM' hf
  refine li rfl (opVal (.tuple #[(.pointer none), (.int .i64 1)]) rfl (by kernel_rfl) (rMove rfl rfl) ?_)
  refine li rfl (opVal (.pointer none) rfl (by kernel_rfl) (rClosed fun _ => by kernel_rfl) ?_)
  refine li rfl (opVal (.int .i64 1) rfl (by kernel_rfl) (rClosed fun _ => by kernel_rfl) ?_)
  refine li rfl (opVal (.pointer none) rfl (by kernel_rfl) (rAssign rfl rfl) ?_)
  refine li rfl (opVal (.int .i64 1) rfl (by kernel_rfl) (rAssign rfl rfl) ?_)
  refine liNil ?_
  refine qThen ?_
  refine stSeq ?_
  refine stSeq ?_
  refine anyBegin [cTab bt1 bc1 cap1 rest1 T1, cRTab g1 rc1 rr1 T1, cAt b14 53 [(.int .u64 ((seed : Nat) : Int)), (.slice (some ⟨g1, 0, none⟩) (n) (rc1))], cTab bt2 bc2 cap2 rest2 T2, cRTab g2 rc2 rr2 T2, cAt b17 53 [(.int .u64 ((seed2 : Nat) : Int)), (.slice (some ⟨g2, 0, none⟩) (n) (rc2))]] 16 (by kernel_rfl) (fun _ h => h) ?_
  refine anyVal (i := 0) (.pointer (some ⟨bt1, 0, none⟩)) rfl rfl rfl (by kernel_rfl) (by kernel_rfl) (fun _ _ _ h => h) (rMove rfl rfl) ?_
  refine anyVal (i := 3) (.agg #[(.int .u64 ((seed : Nat) : Int)), (.slice (some ⟨g1, 0, none⟩) (n) (rc1))]) rfl rfl rfl (by kernel_rfl) (by kernel_rfl) (fun _ _ _ h => h) (rLoadA [(.int .u64 ((seed : Nat) : Int)), (.slice (some ⟨g1, 0, none⟩) (n) (rc1))] rfl rfl (by kernel_rfl) (by kernel_rfl) (segAt (i := 2) rfl (by intro j v hj; first | (rw [Nat.zero_add]; exact hj) | (match j, hj with | 0, h => exact h | 1, h => exact h)))) ?_
  refine anyOne (i := 1) (by kernel_rfl) rfl rfl ?_
  refine opCall 31 #[(.pointer (some ⟨bt1, 0, none⟩))] rfl (by kernel_rfl) (fun _ => by kernel_rfl) (fun w hM => ?_)
  refine (encode_any _ _ _ _ T1 w (hM.at (i := 0) rfl)).mono ?_
  rintro e w' ⟨v, rfl, hN⟩
  obtain ⟨A76, c76, rfl, hM'⟩ := hM.pushOwn hN.fr hN.own
  refine ⟨_, _, rfl, hM', ?_⟩
  clear hM hN hM'
  refine anyNext [cTab bt1 bc1 cap1 rest1 T1, cRTab g1 rc1 rr1 T1, cAt b14 53 [(.int .u64 ((seed : Nat) : Int)), (.slice (some ⟨g1, 0, none⟩) (n) (rc1))], cTab bt2 bc2 cap2 rest2 T2, cRTab g2 rc2 rr2 T2, cAt b17 53 [(.int .u64 ((seed2 : Nat) : Int)), (.slice (some ⟨g2, 0, none⟩) (n) (rc2))], cOwn 5 1 A76 ((T1.enc).length) (c76) (B8 (T1.enc))] (fun _ h => h.sub (.cons_cons _ (.cons_cons _ (.cons_cons _ (.cons_cons _ (.cons_cons _ (.cons_cons _ (.cons _ .slnil)))))))) (fun _ h => h) ?_
  refine anyVal (i := 2) (.string (strOf (T1.enc))) rfl rfl rfl (by kernel_rfl) (by kernel_rfl) (fun _ _ _ h => h) (rStr (e := 5) (T1.enc) rfl (by kernel_rfl) (by kernel_rfl) (by kernel_rfl) rfl rfl (rowOwn (i := 6) rfl)) ?_
  refine anyOne (i := 4) (by kernel_rfl) rfl rfl ?_
  refine opCall 32 #[(.agg #[(.int .u64 ((seed : Nat) : Int)), (.slice (some ⟨g1, 0, none⟩) (n) (rc1))])] rfl (by kernel_rfl) (fun _ => by kernel_rfl) (fun w hM => ?_)
  refine (by have h := refEncode_any _ _ _ T1 w (hM.at (i := 1) rfl); rw [hTl1, hTs1] at h; exact h : Calls _ _ _ w (NewRow T1.enc w)).mono ?_
  rintro e w' hN
  obtain ⟨A79, c79, rfl, hM'⟩ := hM.newRow hN
  refine ⟨_, _, rfl, hM', ?_⟩
  clear hM hN hM'
  refine anyNext [cTab bt1 bc1 cap1 rest1 T1, cRTab g1 rc1 rr1 T1, cAt b14 53 [(.int .u64 ((seed : Nat) : Int)), (.slice (some ⟨g1, 0, none⟩) (n) (rc1))], cTab bt2 bc2 cap2 rest2 T2, cRTab g2 rc2 rr2 T2, cAt b17 53 [(.int .u64 ((seed2 : Nat) : Int)), (.slice (some ⟨g2, 0, none⟩) (n) (rc2))], cOwn 5 1 A76 ((T1.enc).length) (c76) (B8 (T1.enc)), cOwn 5 1 A79 ((T1.enc).length) (c79) (B8 (T1.enc))] (fun _ h => h.sub (.cons_cons _ (.cons_cons _ (.cons_cons _ (.cons_cons _ (.cons_cons _ (.cons_cons _ (.cons_cons _ (.cons _ .slnil))))))))) (fun _ h => h) ?_
  refine anyVal (i := 5) (.string (strOf (T1.enc))) rfl rfl rfl (by kernel_rfl) (by kernel_rfl) (fun _ _ _ h => h) (rStr (e := 5) (T1.enc) rfl (by kernel_rfl) (by kernel_rfl) (by kernel_rfl) rfl rfl (rowOwn (i := 7) rfl)) ?_
  refine anyVal (i := 6) (.bool false) rfl rfl rfl (by kernel_rfl) (by kernel_rfl) (fun _ _ _ h => h) (rConv (rStrNe rfl rfl rfl) (by simp)) ?_
  refine anyVal (i := 7) (.bool false) rfl rfl rfl (by kernel_rfl) (by kernel_rfl) (fun _ _ _ h => h) (rMove rfl rfl) ?_
  refine anyValG (i := 8) (.pointer (some ⟨bt2, 0, none⟩)) rfl rfl rfl rfl (by kernel_rfl) (by kernel_rfl) (fun _ _ _ h => h) (rMove rfl rfl) ?_
  refine anyValG (i := 11) (.agg #[(.int .u64 ((seed2 : Nat) : Int)), (.slice (some ⟨g2, 0, none⟩) (n) (rc2))]) rfl rfl rfl rfl (by kernel_rfl) (by kernel_rfl) (fun _ _ _ h => h) (rLoadA [(.int .u64 ((seed2 : Nat) : Int)), (.slice (some ⟨g2, 0, none⟩) (n) (rc2))] rfl rfl (by kernel_rfl) (by kernel_rfl) (segAt (i := 5) rfl (by intro j v hj; first | (rw [Nat.zero_add]; exact hj) | (match j, hj with | 0, h => exact h | 1, h => exact h)))) ?_
  refine anyOneG (i := 9) (by kernel_rfl) rfl rfl rfl ?_
  refine opCall 31 #[(.pointer (some ⟨bt2, 0, none⟩))] rfl (by kernel_rfl) (fun _ => by kernel_rfl) (fun w hM => ?_)
  refine (encode_any _ _ _ _ T2 w (hM.at (i := 3) rfl)).mono ?_
  rintro e w' ⟨v, rfl, hN⟩
  obtain ⟨A84, c84, rfl, hM'⟩ := hM.pushOwn hN.fr hN.own
  refine ⟨_, _, rfl, hM', ?_⟩
  clear hM hN hM'
  refine anyNext [cTab bt1 bc1 cap1 rest1 T1, cRTab g1 rc1 rr1 T1, cAt b14 53 [(.int .u64 ((seed : Nat) : Int)), (.slice (some ⟨g1, 0, none⟩) (n) (rc1))], cTab bt2 bc2 cap2 rest2 T2, cRTab g2 rc2 rr2 T2, cAt b17 53 [(.int .u64 ((seed2 : Nat) : Int)), (.slice (some ⟨g2, 0, none⟩) (n) (rc2))], cOwn 5 1 A76 ((T1.enc).length) (c76) (B8 (T1.enc)), cOwn 5 1 A79 ((T1.enc).length) (c79) (B8 (T1.enc)), cOwn 5 1 A84 ((T2.enc).length) (c84) (B8 (T2.enc))] (fun _ h => h.sub (.cons_cons _ (.cons_cons _ (.cons_cons _ (.cons_cons _ (.cons_cons _ (.cons_cons _ (.cons_cons _ (.cons_cons _ (.cons _ .slnil)))))))))) (fun _ h => h) ?_
  refine anyValG (i := 10) (.string (strOf (T2.enc))) rfl rfl rfl rfl (by kernel_rfl) (by kernel_rfl) (fun _ _ _ h => h) (rStr (e := 5) (T2.enc) rfl (by kernel_rfl) (by kernel_rfl) (by kernel_rfl) rfl rfl (rowOwn (i := 8) rfl)) ?_
  refine anyOneG (i := 12) (by kernel_rfl) rfl rfl rfl ?_
  refine opCall 32 #[(.agg #[(.int .u64 ((seed2 : Nat) : Int)), (.slice (some ⟨g2, 0, none⟩) (n) (rc2))])] rfl (by kernel_rfl) (fun _ => by kernel_rfl) (fun w hM => ?_)
  refine (by have h := refEncode_any _ _ _ T2 w (hM.at (i := 4) rfl); rw [hTl2, hTs2] at h; exact h : Calls _ _ _ w (NewRow T2.enc w)).mono ?_
  rintro e w' hN
  obtain ⟨A87, c87, rfl, hM'⟩ := hM.newRow hN
  refine ⟨_, _, rfl, hM', ?_⟩
  clear hM hN hM'
  refine anyNext [cTab bt1 bc1 cap1 rest1 T1, cRTab g1 rc1 rr1 T1, cAt b14 53 [(.int .u64 ((seed : Nat) : Int)), (.slice (some ⟨g1, 0, none⟩) (n) (rc1))], cTab bt2 bc2 cap2 rest2 T2, cRTab g2 rc2 rr2 T2, cAt b17 53 [(.int .u64 ((seed2 : Nat) : Int)), (.slice (some ⟨g2, 0, none⟩) (n) (rc2))], cOwn 5 1 A76 ((T1.enc).length) (c76) (B8 (T1.enc)), cOwn 5 1 A79 ((T1.enc).length) (c79) (B8 (T1.enc)), cOwn 5 1 A84 ((T2.enc).length) (c84) (B8 (T2.enc)), cOwn 5 1 A87 ((T2.enc).length) (c87) (B8 (T2.enc))] (fun _ h => h.sub (.cons_cons _ (.cons_cons _ (.cons_cons _ (.cons_cons _ (.cons_cons _ (.cons_cons _ (.cons_cons _ (.cons_cons _ (.cons_cons _ (.cons _ .slnil))))))))))) (fun _ h => h) ?_
  refine anyValG (i := 13) (.string (strOf (T2.enc))) rfl rfl rfl rfl (by kernel_rfl) (by kernel_rfl) (fun _ _ _ h => h) (rStr (e := 5) (T2.enc) rfl (by kernel_rfl) (by kernel_rfl) (by kernel_rfl) rfl rfl (rowOwn (i := 9) rfl)) ?_
  refine anyValG (i := 14) (.bool false) rfl rfl rfl rfl (by kernel_rfl) (by kernel_rfl) (fun _ _ _ h => h) (rConv (rStrNe rfl rfl rfl) (by simp)) ?_
  refine anyVal (i := 15) (.bool false) rfl rfl rfl (by kernel_rfl) (by kernel_rfl) (fun _ _ _ h => h) (rClosed fun _ => by kernel_rfl) ?_
  refine anyDone (by kernel_rfl) ?_
  refine qThen ?_
  refine stFalse rfl ?_
  refine stSkip ?_
  refine qThen ?_
  refine stSeq ?_
  refine stSeq ?_
  refine reg ?_
  refine li rfl (opVal (.int .i64 ((n : Nat) : Int)) rfl (by kernel_rfl) (rMove rfl rfl) ?_)
  refine li rfl (opVal (.int .i64 ((n : Nat) : Int)) rfl (by kernel_rfl) (rMove rfl rfl) ?_)
  refine li rfl (opVal (.bool false) rfl (by kernel_rfl) (rConv (v := .bool ((((n : Nat) : Int) : Int) != ((n : Nat) : Int))) (rClosed fun _ => by kernel_rfl) (by simp)) ?_)
  refine li rfl (opVal (.bool false) rfl (by kernel_rfl) (rMove rfl rfl) ?_)
  refine liGo rfl rfl (opVal (.int .u64 ((seed : Nat) : Int)) rfl (by kernel_rfl) (rMove rfl rfl) ?_)
  refine liGo rfl rfl (opVal (.int .u64 ((seed2 : Nat) : Int)) rfl (by kernel_rfl) (rMove rfl rfl) ?_)
  refine liGo rfl rfl (opVal (.bool true) rfl (by kernel_rfl) (rConv (v := .bool (((seed : Nat) : Int) != ((seed2 : Nat) : Int))) (rClosed fun _ => by kernel_rfl) (by simp; omega)) ?_)
  refine li rfl (opVal (.bool true) rfl (by kernel_rfl) (rClosed fun _ => by kernel_rfl) ?_)
  refine liNil ?_
  refine qThen ?_
  refine stTrue rfl ?_
  refine stSeq ?_
  refine reg ?_
  refine li rfl ?_
  refine opCall 13 #[] rfl (by kernel_rfl) (fun _ => by kernel_rfl) (fun w hM => ?_)
  refine (awake_any w (HV.out.mm hM)).mono ?_
  rintro e w' ⟨rfl, hf⟩
  have hM' := hM.fr0 hf
  refine ⟨(.bool true), _, rfl, hM', ?_⟩
  clear hM hM' hf
  refine li rfl (opVal (.bool true) rfl (by kernel_rfl) (rMove rfl rfl) ?_)
  refine liGo rfl rfl (opVal (.int .i64 1) rfl (by kernel_rfl) (rMove rfl rfl) ?_)
  refine liGo rfl rfl (opVal (.bool true) rfl (by kernel_rfl) (rClosed fun _ => by kernel_rfl) ?_)
  refine li rfl (opVal (.bool true) rfl (by kernel_rfl) (rClosed fun _ => by kernel_rfl) ?_)
  refine li rfl (opVal (.bool true) rfl (by kernel_rfl) (rMove rfl rfl) ?_)
  refine liGo rfl rfl (opVal (.pointer none) rfl (by kernel_rfl) (rMove rfl rfl) ?_)
  refine liGo rfl rfl (opVal (.bool true) rfl (by kernel_rfl) (rClosed fun _ => by kernel_rfl) ?_)
  refine li rfl (opVal (.bool true) rfl (by kernel_rfl) (rClosed fun _ => by kernel_rfl) ?_)
  refine li rfl (opVal (.bool true) rfl (by kernel_rfl) (rAssign rfl rfl) ?_)
  refine liNil ?_
  refine qThen ?_
  refine stRet ?_
  refine qThenR ?_
  refine stEnd [(.bool true)] rfl ⟨rfl, trivial⟩ (fun w hM => ?_)
  exact ⟨rfl, hM.fr⟩

set_option maxRecDepth 100000 in
set_option maxHeartbeats 1000000 in
theorem lawSub_ok (n : Nat) (seed : Nat) (A B : Option Addr) (c c2 : Nat) (ops ops2 : List BOp) (w : World) (hv : Vars w) (hf1 : fewB (n : Int) ops.length = true) (hf2 : fewB (n : Int) ops2.length = true) (hn : isSz (n : Int) = true) (hu : U64 seed) (hr : RowIn w A (opCells ops)) (hl : ops.length ≤ 1000000) (hr2 : RowIn w B (opCells ops2)) (hl2 : ops2.length ≤ 1000000) :
    Calls Tryd.prog 10 #[Value.int .i64 (n : Int), Value.int .i64 (n : Int), .int .u64 (seed : Int), .int .u64 (seed : Int), .slice A ops.length c, .slice B ops2.length c2] w fun e w' => e = .returned (.bool true) ∧ Fr [] w w' := by
  have HV := Lib.hid hv
  clear hv
  have HU := Lib.hid hu
  have HR := Lib.hid hr
  clear hu hr
  obtain ⟨T1, HT1⟩ : ∃ T, Hid (T = runAll (BT.new n seed) ops) := ⟨_, rfl⟩
  have hTl1 : T1.cells.length = n := by rw [HT1.out, runAll_len]; simp [BT.new]
  have hTs1 : T1.seed = seed := by rw [HT1.out, runAll_seed]; rfl
  have HR2 := Lib.hid hr2
  clear hr2
  obtain ⟨T2, HT2⟩ : ∃ T, Hid (T = runAll (BT.new n seed) ops2) := ⟨_, rfl⟩
  have hTl2 : T2.cells.length = n := by rw [HT2.out, runAll_len]; simp [BT.new]
  have hTs2 : T2.seed = seed := by rw [HT2.out, runAll_seed]; rfl
  obtain ⟨TD, HTD⟩ : ∃ T, Hid (T = T1.sub T2) := ⟨_, rfl⟩
  have hTl3 : TD.cells.length = n := by rw [HTD.out, sub_len (by rw [hTl1, hTl2]), hTl1]
  have hTs3 : TD.seed = seed := by rw [HTD.out]; exact hTs1
  refine stEnter (args := [Value.int .i64 (n : Int), Value.int .i64 (n : Int), .int .u64 (seed : Int), .int .u64 (seed : Int), .slice A ops.length c, .slice B ops2.length c2]) [] Tryd.func10 rfl 128 rfl [(0, Value.int .i64 (n : Int)), (1, Value.int .i64 (n : Int)), (2, .int .u64 (seed : Int)), (3, .int .u64 (seed : Int)), (4, .slice A ops.length c), (5, .slice B ops2.length c2)] ⟨rfl, rfl, rfl, rfl, rfl, rfl, trivial⟩ [] (Mm.start w []) ?_
  refine stSeq ?_
  refine reg ?_
  refine li rfl (opVal (.bool false) rfl (by kernel_rfl) (rAssign rfl rfl) ?_)
  refine liNil ?_
  refine qThen ?_
  refine stSeq ?_
  refine stSeq ?_
  refine reg ?_
  refine li rfl (opVal (.int .i64 ((n : Nat) : Int)) rfl (by kernel_rfl) (rMove rfl rfl) ?_)
  refine li rfl (opVal (.slice A (ops.length) (c)) rfl (by kernel_rfl) (rMove rfl rfl) ?_)
  refine li rfl ?_
  refine opCall 28 #[(.int .i64 ((n : Nat) : Int)), (.slice A (ops.length) (c))] rfl (by kernel_rfl) (fun _ => by kernel_rfl) (fun w hM => ?_)
  refine ((by rw [← hf1]; exact few_any _ _ _ _ w : Calls _ _ _ w fun e w' => e = .returned (.bool true) ∧ Fr [] w w')).mono ?_
  rintro e w' ⟨rfl, hf⟩
  have hM' := hM.fr0 hf
  refine ⟨(.bool true), _, rfl, hM', ?_⟩
  clear hM hM' hf
  refine li rfl (opVal (.bool false) rfl (by kernel_rfl) (rClosed fun _ => by kernel_rfl) ?_)
  refine li rfl (opVal (.bool false) rfl (by kernel_rfl) (rMove rfl rfl) ?_)
  refine liGo rfl rfl (opVal (.int .i64 ((n : Nat) : Int)) rfl (by kernel_rfl) (rMove rfl rfl) ?_)
  refine liGo rfl rfl (opVal (.slice B (ops2.length) (c2)) rfl (by kernel_rfl) (rMove rfl rfl) ?_)
  refine liGo rfl rfl ?_
  refine opCall 28 #[(.int .i64 ((n : Nat) : Int)), (.slice B (ops2.length) (c2))] rfl (by kernel_rfl) (fun _ => by kernel_rfl) (fun w hM => ?_)
  refine ((by rw [← hf2]; exact few_any _ _ _ _ w : Calls _ _ _ w fun e w' => e = .returned (.bool true) ∧ Fr [] w w')).mono ?_
  rintro e w' ⟨rfl, hf⟩
  have hM' := hM.fr0 hf
  refine ⟨(.bool true), _, rfl, hM', ?_⟩
  clear hM hM' hf
  refine liGo rfl rfl (opVal (.bool false) rfl (by kernel_rfl) (rClosed fun _ => by kernel_rfl) ?_)
  refine li rfl (opVal (.bool false) rfl (by kernel_rfl) (rClosed fun _ => by kernel_rfl) ?_)
  refine liNil ?_
  refine qThen ?_
  refine stFalse rfl ?_
  refine stSkip ?_
  refine qThen ?_
  refine stSeq ?_
  refine reg ?_
  refine li rfl (opVal (.int .i64 ((n : Nat) : Int)) rfl (by kernel_rfl) (rMove rfl rfl) ?_)
  refine li rfl (opVal (.int .u64 ((seed : Nat) : Int)) rfl (by kernel_rfl) (rMove rfl rfl) ?_)
  refine li rfl (opVal (.slice A (ops.length) (c)) rfl (by kernel_rfl) (rMove rfl rfl) ?_)
  refine li rfl ?_
  refine opCall 29 #[(.int .i64 ((n : Nat) : Int)), (.int .u64 ((seed : Nat) : Int)), (.slice A (ops.length) (c))] rfl (by kernel_rfl) (fun _ => by kernel_rfl) (fun w hM => ?_)
  refine (by have h := play_any n seed A (c) (ops) w hn (HV.out.mm hM) HU.out (HR.out.fr0 hM.fr) (hl); rw [← HT1.out] at h; exact h : Calls _ _ _ w (Played n seed T1 w)).mono ?_
  rintro e w' ⟨bt1, bc1, cap1, rest1, g1, rc1, rr1, rfl, hP⟩
  have hM' := hM.lift hP
  refine ⟨_, _, rfl, hM', ?_⟩
  clear hM hM' hP
  refine li rfl (opVal (.tuple #[(.pointer (some ⟨bt1, 0, none⟩)), (.agg #[(.int .u64 ((seed : Nat) : Int)), (.slice (some ⟨g1, 0, none⟩) (n) (rc1))]), (.bool true)]) rfl (by kernel_rfl) (rMove rfl rfl) ?_)
  refine li rfl (opVal (.pointer (some ⟨bt1, 0, none⟩)) rfl (by kernel_rfl) (rClosed fun _ => by kernel_rfl) ?_)
  refine li rfl (opVal (.agg #[(.int .u64 ((seed : Nat) : Int)), (.slice (some ⟨g1, 0, none⟩) (n) (rc1))]) rfl (by kernel_rfl) (rClosed fun _ => by kernel_rfl) ?_)
  refine li rfl (opVal (.bool true) rfl (by kernel_rfl) (rClosed fun _ => by kernel_rfl) ?_)
  refine li rfl ?_
  refine opAlloc [(.int .u64 0), (.slice none 0 0)] rfl rfl (by kernel_rfl) (by kernel_rfl) (fun b14 => ?_)
  refine li rfl (opVal (.pointer (some ⟨bt1, 0, none⟩)) rfl (by kernel_rfl) (rAssign rfl rfl) ?_)
  refine li rfl ?_
  refine opStoreN 2 [(.int .u64 ((seed : Nat) : Int)), (.slice (some ⟨g1, 0, none⟩) (n) (rc1))] (vs := [(.int .u64 ((seed : Nat) : Int)), (.slice (some ⟨g1, 0, none⟩) (n) (rc1))]) rfl rfl (by kernel_rfl) rfl rfl rfl (by kernel_rfl) rfl (by simp) (by simp [Value.oneCell']) rfl ?_
  refine li rfl (opVal (.bool true) rfl (by kernel_rfl) (rAssign rfl rfl) ?_)
  refine liNil ?_
  refine qThen ?_
  refine stSeq ?_
  refine reg ?_
  refine li rfl (opVal (.int .i64 ((n : Nat) : Int)) rfl (by kernel_rfl) (rMove rfl rfl) ?_)
  refine li rfl (opVal (.int .u64 ((seed : Nat) : Int)) rfl (by kernel_rfl) (rMove rfl rfl) ?_)
  refine li rfl (opVal (.slice B (ops2.length) (c2)) rfl (by kernel_rfl) (rMove rfl rfl) ?_)
  refine li rfl ?_
  refine opCall 29 #[(.int .i64 ((n : Nat) : Int)), (.int .u64 ((seed : Nat) : Int)), (.slice B (ops2.length) (c2))] rfl (by kernel_rfl) (fun _ => by kernel_rfl) (fun w hM => ?_)
  refine (by have h := play_any n seed B (c2) (ops2) w hn (HV.out.mm hM) HU.out (HR2.out.fr0 hM.fr) (hl2); rw [← HT2.out] at h; exact h : Calls _ _ _ w (Played n seed T2 w)).mono ?_
  rintro e w' ⟨bt2, bc2, cap2, rest2, g2, rc2, rr2, rfl, hP⟩
  have hM' := hM.lift hP
  refine ⟨_, _, rfl, hM', ?_⟩
  clear hM hM' hP
  refine li rfl (opVal (.tuple #[(.pointer (some ⟨bt2, 0, none⟩)), (.agg #[(.int .u64 ((seed : Nat) : Int)), (.slice (some ⟨g2, 0, none⟩) (n) (rc2))]), (.bool true)]) rfl (by kernel_rfl) (rMove rfl rfl) ?_)
  refine li rfl (opVal (.pointer (some ⟨bt2, 0, none⟩)) rfl (by kernel_rfl) (rClosed fun _ => by kernel_rfl) ?_)
  refine li rfl (opVal (.agg #[(.int .u64 ((seed : Nat) : Int)), (.slice (some ⟨g2, 0, none⟩) (n) (rc2))]) rfl (by kernel_rfl) (rClosed fun _ => by kernel_rfl) ?_)
  refine li rfl (opVal (.bool true) rfl (by kernel_rfl) (rClosed fun _ => by kernel_rfl) ?_)
  refine li rfl ?_
  refine opAlloc [(.int .u64 0), (.slice none 0 0)] rfl rfl (by kernel_rfl) (by kernel_rfl) (fun b17 => ?_)
  refine li rfl (opVal (.pointer (some ⟨bt2, 0, none⟩)) rfl (by kernel_rfl) (rAssign rfl rfl) ?_)
  refine li rfl ?_
  refine opStoreN 5 [(.int .u64 ((seed : Nat) : Int)), (.slice (some ⟨g2, 0, none⟩) (n) (rc2))] (vs := [(.int .u64 ((seed : Nat) : Int)), (.slice (some ⟨g2, 0, none⟩) (n) (rc2))]) rfl rfl (by kernel_rfl) rfl rfl rfl (by kernel_rfl) rfl (by simp) (by simp [Value.oneCell']) rfl ?_
  refine li rfl (opVal (.bool true) rfl (by kernel_rfl) (rAssign rfl rfl) ?_)
  refine liNil ?_
  refine qThen ?_
  refine stSeq ?_
  refine stSeq ?_
  refine reg ?_
  refine li rfl (opVal (.bool true) rfl (by kernel_rfl) (rMove rfl rfl) ?_)
  refine li rfl (opVal (.bool false) rfl (by kernel_rfl) (rClosed fun _ => by kernel_rfl) ?_)
  refine li rfl (opVal (.bool false) rfl (by kernel_rfl) (rMove rfl rfl) ?_)
  refine liGo rfl rfl (opVal (.bool true) rfl (by kernel_rfl) (rMove rfl rfl) ?_)
  refine liGo rfl rfl (opVal (.bool false) rfl (by kernel_rfl) (rClosed fun _ => by kernel_rfl) ?_)
  refine li rfl (opVal (.bool false) rfl (by kernel_rfl) (rClosed fun _ => by kernel_rfl) ?_)
  refine li rfl (opVal (.bool false) rfl (by kernel_rfl) (rMove rfl rfl) ?_)
  refine liGo rfl rfl (opVal (.pointer (some ⟨bt1, 0, none⟩)) rfl (by kernel_rfl) (rMove rfl rfl) ?_)
  refine liGo rfl rfl (opVal (.bool false) rfl (by kernel_rfl) (rClosed fun _ => by kernel_rfl) ?_)
  refine li rfl (opVal (.bool false) rfl (by kernel_rfl) (rClosed fun _ => by kernel_rfl) ?_)
  refine li rfl (opVal (.bool false) rfl (by kernel_rfl) (rMove rfl rfl) ?_)
  refine liGo rfl rfl (opVal (.pointer (some ⟨bt2, 0, none⟩)) rfl (by kernel_rfl) (rMove rfl rfl) ?_)
  refine liGo rfl rfl (opVal (.bool false) rfl (by kernel_rfl) (rClosed fun _ => by kernel_rfl) ?_)
  refine li rfl (opVal (.bool false) rfl (by kernel_rfl) (rClosed fun _ => by kernel_rfl) ?_)
  refine liNil ?_
  refine qThen ?_
  refine stFalse rfl ?_
  refine stSkip ?_
  refine qThen ?_
  refine stSeq ?_
  refine reg ?_
  refine li rfl (opVal (.pointer (some ⟨bt1, 0, none⟩)) rfl (by kernel_rfl) (rMove rfl rfl) ?_)
  refine li rfl (opVal (.pointer (some ⟨bt2, 0, none⟩)) rfl (by kernel_rfl) (rMove rfl rfl) ?_)
  refine li rfl ?_
  refine opCall 25 #[(.pointer (some ⟨bt1, 0, none⟩)), (.pointer (some ⟨bt2, 0, none⟩))] rfl (by kernel_rfl) (fun _ => by kernel_rfl) (fun w hM => ?_)
  refine (by have h := subtract_ok _ _ _ _ _ _ _ _ T1 T2 w (hM.at (i := 0) rfl) (hM.at (i := 3) rfl) (by rw [hTl1, hTl2]) (by rw [hTs1, hTs2]); rw [← HTD.out] at h; exact h : Calls _ _ _ w fun e w' => ∃ btr bcr capr restr, e = .returned (.tuple #[Value.pointer (some ⟨btr, 0, none⟩), Value.int .i64 0]) ∧ Mm w [] [cTab btr bcr capr restr TD] w').mono ?_
  rintro e w' ⟨bt3, bc3, cap3, rest3, rfl, hP⟩
  have hM' := hM.lift hP
  refine ⟨_, _, rfl, hM', ?_⟩
  clear hM hM' hP
  refine li rfl (opVal (.tuple #[(.pointer (some ⟨bt3, 0, none⟩)), (.int .i64 0)]) rfl (by kernel_rfl) (rMove rfl rfl) ?_)
  refine li rfl (opVal (.pointer (some ⟨bt3, 0, none⟩)) rfl (by kernel_rfl) (rClosed fun _ => by kernel_rfl) ?_)
  refine li rfl (opVal (.int .i64 0) rfl (by kernel_rfl) (rClosed fun _ => by kernel_rfl) ?_)
  refine li rfl (opVal (.pointer (some ⟨bt3, 0, none⟩)) rfl (by kernel_rfl) (rAssign rfl rfl) ?_)
  refine li rfl (opVal (.int .i64 0) rfl (by kernel_rfl) (rAssign rfl rfl) ?_)
  refine liNil ?_
  refine qThen ?_
  refine stSeq ?_
  refine stSeq ?_
  refine anyBegin [cTab bt1 bc1 cap1 rest1 T1, cRTab g1 rc1 rr1 T1, cAt b14 53 [(.int .u64 ((seed : Nat) : Int)), (.slice (some ⟨g1, 0, none⟩) (n) (rc1))], cTab bt2 bc2 cap2 rest2 T2, cRTab g2 rc2 rr2 T2, cAt b17 53 [(.int .u64 ((seed : Nat) : Int)), (.slice (some ⟨g2, 0, none⟩) (n) (rc2))], cTab bt3 bc3 cap3 rest3 TD] 16 (by kernel_rfl) (fun _ h => h) ?_
  refine anyVal (i := 0) (.pointer (some ⟨bt1, 0, none⟩)) rfl rfl rfl (by kernel_rfl) (by kernel_rfl) (fun _ _ _ h => h) (rMove rfl rfl) ?_
  refine anyVal (i := 3) (.agg #[(.int .u64 ((seed : Nat) : Int)), (.slice (some ⟨g1, 0, none⟩) (n) (rc1))]) rfl rfl rfl (by kernel_rfl) (by kernel_rfl) (fun _ _ _ h => h) (rLoadA [(.int .u64 ((seed : Nat) : Int)), (.slice (some ⟨g1, 0, none⟩) (n) (rc1))] rfl rfl (by kernel_rfl) (by kernel_rfl) (segAt (i := 2) rfl (by intro j v hj; first | (rw [Nat.zero_add]; exact hj) | (match j, hj with | 0, h => exact h | 1, h => exact h)))) ?_
  refine anyOne (i := 1) (by kernel_rfl) rfl rfl ?_
  refine opCall 31 #[(.pointer (some ⟨bt1, 0, none⟩))] rfl (by kernel_rfl) (fun _ => by kernel_rfl) (fun w hM => ?_)
  refine (encode_any _ _ _ _ T1 w (hM.at (i := 0) rfl)).mono ?_
  rintro e w' ⟨v, rfl, hN⟩
  obtain ⟨A76, c76, rfl, hM'⟩ := hM.pushOwn hN.fr hN.own
  refine ⟨_, _, rfl, hM', ?_⟩
  clear hM hN hM'
  refine anyNext [cTab bt1 bc1 cap1 rest1 T1, cRTab g1 rc1 rr1 T1, cAt b14 53 [(.int .u64 ((seed : Nat) : Int)), (.slice (some ⟨g1, 0, none⟩) (n) (rc1))], cTab bt2 bc2 cap2 rest2 T2, cRTab g2 rc2 rr2 T2, cAt b17 53 [(.int .u64 ((seed : Nat) : Int)), (.slice (some ⟨g2, 0, none⟩) (n) (rc2))], cTab bt3 bc3 cap3 rest3 TD, cOwn 5 1 A76 ((T1.enc).length) (c76) (B8 (T1.enc))] (fun _ h => h.sub (.cons_cons _ (.cons_cons _ (.cons_cons _ (.cons_cons _ (.cons_cons _ (.cons_cons _ (.cons_cons _ (.cons _ .slnil))))))))) (fun _ h => h) ?_
  refine anyVal (i := 2) (.string (strOf (T1.enc))) rfl rfl rfl (by kernel_rfl) (by kernel_rfl) (fun _ _ _ h => h) (rStr (e := 5) (T1.enc) rfl (by kernel_rfl) (by kernel_rfl) (by kernel_rfl) rfl rfl (rowOwn (i := 7) rfl)) ?_
  refine anyOne (i := 4) (by kernel_rfl) rfl rfl ?_
  refine opCall 32 #[(.agg #[(.int .u64 ((seed : Nat) : Int)), (.slice (some ⟨g1, 0, none⟩) (n) (rc1))])] rfl (by kernel_rfl) (fun _ => by kernel_rfl) (fun w hM => ?_)
  refine (by have h := refEncode_any _ _ _ T1 w (hM.at (i := 1) rfl); rw [hTl1, hTs1] at h; exact h : Calls _ _ _ w (NewRow T1.enc w)).mono ?_
  rintro e w' hN
  obtain ⟨A79, c79, rfl, hM'⟩ := hM.newRow hN
  refine ⟨_, _, rfl, hM', ?_⟩
  clear hM hN hM'
  refine anyNext [cTab bt1 bc1 cap1 rest1 T1, cRTab g1 rc1 rr1 T1, cAt b14 53 [(.int .u64 ((seed : Nat) : Int)), (.slice (some ⟨g1, 0, none⟩) (n) (rc1))], cTab bt2 bc2 cap2 rest2 T2, cRTab g2 rc2 rr2 T2, cAt b17 53 [(.int .u64 ((seed : Nat) : Int)), (.slice (some ⟨g2, 0, none⟩) (n) (rc2))], cTab bt3 bc3 cap3 rest3 TD, cOwn 5 1 A76 ((T1.enc).length) (c76) (B8 (T1.enc)), cOwn 5 1 A79 ((T1.enc).length) (c79) (B8 (T1.enc))] (fun _ h => h.sub (.cons_cons _ (.cons_cons _ (.cons_cons _ (.cons_cons _ (.cons_cons _ (.cons_cons _ (.cons_cons _ (.cons_cons _ (.cons _ .slnil)))))))))) (fun _ h => h) ?_
  refine anyVal (i := 5) (.string (strOf (T1.enc))) rfl rfl rfl (by kernel_rfl) (by kernel_rfl) (fun _ _ _ h => h) (rStr (e := 5) (T1.enc) rfl (by kernel_rfl) (by kernel_rfl) (by kernel_rfl) rfl rfl (rowOwn (i := 8) rfl)) ?_
  refine anyVal (i := 6) (.bool false) rfl rfl rfl (by kernel_rfl) (by kernel_rfl) (fun _ _ _ h => h) (rConv (rStrNe rfl rfl rfl) (by simp)) ?_
  refine anyVal (i := 7) (.bool false) rfl rfl rfl (by kernel_rfl) (by kernel_rfl) (fun _ _ _ h => h) (rMove rfl rfl) ?_
  refine anyValG (i := 8) (.pointer (some ⟨bt2, 0, none⟩)) rfl rfl rfl rfl (by kernel_rfl) (by kernel_rfl) (fun _ _ _ h => h) (rMove rfl rfl) ?_
  refine anyValG (i := 11) (.agg #[(.int .u64 ((seed : Nat) : Int)), (.slice (some ⟨g2, 0, none⟩) (n) (rc2))]) rfl rfl rfl rfl (by kernel_rfl) (by kernel_rfl) (fun _ _ _ h => h) (rLoadA [(.int .u64 ((seed : Nat) : Int)), (.slice (some ⟨g2, 0, none⟩) (n) (rc2))] rfl rfl (by kernel_rfl) (by kernel_rfl) (segAt (i := 5) rfl (by intro j v hj; first | (rw [Nat.zero_add]; exact hj) | (match j, hj with | 0, h => exact h | 1, h => exact h)))) ?_
  refine anyOneG (i := 9) (by kernel_rfl) rfl rfl rfl ?_
  refine opCall 31 #[(.pointer (some ⟨bt2, 0, none⟩))] rfl (by kernel_rfl) (fun _ => by kernel_rfl) (fun w hM => ?_)
  refine (encode_any _ _ _ _ T2 w (hM.at (i := 3) rfl)).mono ?_
  rintro e w' ⟨v, rfl, hN⟩
  obtain ⟨A84, c84, rfl, hM'⟩ := hM.pushOwn hN.fr hN.own
  refine ⟨_, _, rfl, hM', ?_⟩
  clear hM hN hM'
  refine anyNext [cTab bt1 bc1 cap1 rest1 T1, cRTab g1 rc1 rr1 T1, cAt b14 53 [(.int .u64 ((seed : Nat) : Int)), (.slice (some ⟨g1, 0, none⟩) (n) (rc1))], cTab bt2 bc2 cap2 rest2 T2, cRTab g2 rc2 rr2 T2, cAt b17 53 [(.int .u64 ((seed : Nat) : Int)), (.slice (some ⟨g2, 0, none⟩) (n) (rc2))], cTab bt3 bc3 cap3 rest3 TD, cOwn 5 1 A76 ((T1.enc).length) (c76) (B8 (T1.enc)), cOwn 5 1 A79 ((T1.enc).length) (c79) (B8 (T1.enc)), cOwn 5 1 A84 ((T2.enc).length) (c84) (B8 (T2.enc))] (fun _ h => h.sub (.cons_cons _ (.cons_cons _ (.cons_cons _ (.cons_cons _ (.cons_cons _ (.cons_cons _ (.cons_cons _ (.cons_cons _ (.cons_cons _ (.cons _ .slnil))))))))))) (fun _ h => h) ?_
  refine anyValG (i := 10) (.string (strOf (T2.enc))) rfl rfl rfl rfl (by kernel_rfl) (by kernel_rfl) (fun _ _ _ h => h) (rStr (e := 5) (T2.enc) rfl (by kernel_rfl) (by kernel_rfl) (by kernel_rfl) rfl rfl (rowOwn (i := 9) rfl)) ?_
  refine anyOneG (i := 12) (by kernel_rfl) rfl rfl rfl ?_
  refine opCall 32 #[(.agg #[(.int .u64 ((seed : Nat) : Int)), (.slice (some ⟨g2, 0, none⟩) (n) (rc2))])] rfl (by kernel_rfl) (fun _ => by kernel_rfl) (fun w hM => ?_)
  refine (by have h := refEncode_any _ _ _ T2 w (hM.at (i := 4) rfl); rw [hTl2, hTs2] at h; exact h : Calls _ _ _ w (NewRow T2.enc w)).mono ?_
  rintro e w' hN
  obtain ⟨A87, c87, rfl, hM'⟩ := hM.newRow hN
  refine ⟨_, _, rfl, hM', ?_⟩
  clear hM hN hM'
  refine anyNext [cTab bt1 bc1 cap1 rest1 T1, cRTab g1 rc1 rr1 T1, cAt b14 53 [(.int .u64 ((seed : Nat) : Int)), (.slice (some ⟨g1, 0, none⟩) (n) (rc1))], cTab bt2 bc2 cap2 rest2 T2, cRTab g2 rc2 rr2 T2, cAt b17 53 [(.int .u64 ((seed : Nat) : Int)), (.slice (some ⟨g2, 0, none⟩) (n) (rc2))], cTab bt3 bc3 cap3 rest3 TD, cOwn 5 1 A76 ((T1.enc).length) (c76) (B8 (T1.enc)), cOwn 5 1 A79 ((T1.enc).length) (c79) (B8 (T1.enc)), cOwn 5 1 A84 ((T2.enc).length) (c84) (B8 (T2.enc)), cOwn 5 1 A87 ((T2.enc).length) (c87) (B8 (T2.enc))] (fun _ h => h.sub (.cons_cons _ (.cons_cons _ (.cons_cons _ (.cons_cons _ (.cons_cons _ (.cons_cons _ (.cons_cons _ (.cons_cons _ (.cons_cons _ (.cons_cons _ (.cons _ .slnil)))))))))))) (fun _ h => h) ?_
  refine anyValG (i := 13) (.string (strOf (T2.enc))) rfl rfl rfl rfl (by kernel_rfl) (by kernel_rfl) (fun _ _ _ h => h) (rStr (e := 5) (T2.enc) rfl (by kernel_rfl) (by kernel_rfl) (by kernel_rfl) rfl rfl (rowOwn (i := 10) rfl)) ?_
  refine anyValG (i := 14) (.bool false) rfl rfl rfl rfl (by kernel_rfl) (by kernel_rfl) (fun _ _ _ h => h) (rConv (rStrNe rfl rfl rfl) (by simp)) ?_
  refine anyVal (i := 15) (.bool false) rfl rfl rfl (by kernel_rfl) (by kernel_rfl) (fun _ _ _ h => h) (rClosed fun _ => by kernel_rfl) ?_
  refine anyDone (by kernel_rfl) ?_
  refine qThen ?_
  refine stFalse rfl ?_
  refine stSkip ?_
  refine qThen ?_
  refine stSeq ?_
  refine stSeq ?_
  refine reg ?_
  refine li rfl (opVal (.int .i64 ((n : Nat) : Int)) rfl (by kernel_rfl) (rMove rfl rfl) ?_)
  refine li rfl (opVal (.int .i64 ((n : Nat) : Int)) rfl (by kernel_rfl) (rMove rfl rfl) ?_)
  refine li rfl (opVal (.bool false) rfl (by kernel_rfl) (rConv (v := .bool ((((n : Nat) : Int) : Int) != ((n : Nat) : Int))) (rClosed fun _ => by kernel_rfl) (by simp)) ?_)
  refine li rfl (opVal (.bool false) rfl (by kernel_rfl) (rMove rfl rfl) ?_)
  refine liGo rfl rfl (opVal (.int .u64 ((seed : Nat) : Int)) rfl (by kernel_rfl) (rMove rfl rfl) ?_)
  refine liGo rfl rfl (opVal (.int .u64 ((seed : Nat) : Int)) rfl (by kernel_rfl) (rMove rfl rfl) ?_)
  refine liGo rfl rfl (opVal (.bool false) rfl (by kernel_rfl) (rConv (v := .bool ((((seed : Nat) : Int) : Int) != ((seed : Nat) : Int))) (rClosed fun _ => by kernel_rfl) (by simp)) ?_)
  refine li rfl (opVal (.bool false) rfl (by kernel_rfl) (rClosed fun _ => by kernel_rfl) ?_)
  refine liNil ?_
  refine qThen ?_
  refine stFalse rfl ?_
  refine stSkip ?_
  refine qThen ?_
  refine stSeq ?_
  refine anyBegin [cTab bt1 bc1 cap1 rest1 T1, cRTab g1 rc1 rr1 T1, cAt b14 53 [(.int .u64 ((seed : Nat) : Int)), (.slice (some ⟨g1, 0, none⟩) (n) (rc1))], cTab bt2 bc2 cap2 rest2 T2, cRTab g2 rc2 rr2 T2, cAt b17 53 [(.int .u64 ((seed : Nat) : Int)), (.slice (some ⟨g2, 0, none⟩) (n) (rc2))], cTab bt3 bc3 cap3 rest3 TD, cOwn 5 1 A76 ((T1.enc).length) (c76) (B8 (T1.enc)), cOwn 5 1 A79 ((T1.enc).length) (c79) (B8 (T1.enc)), cOwn 5 1 A84 ((T2.enc).length) (c84) (B8 (T2.enc)), cOwn 5 1 A87 ((T2.enc).length) (c87) (B8 (T2.enc))] 21 (by kernel_rfl) (fun _ h => h) ?_
  refine anyOne (i := 0) (by kernel_rfl) rfl rfl ?_
  refine opCall 13 #[] rfl (by kernel_rfl) (fun _ => by kernel_rfl) (fun w hM => ?_)
  refine (awake_any w (HV.out.mm hM)).mono ?_
  rintro e w' ⟨rfl, hf⟩
  have hM' := hM.fr0 hf
  refine ⟨(.bool true), _, rfl, hM', ?_⟩
  clear hM hM' hf
  refine anyNext [cTab bt1 bc1 cap1 rest1 T1, cRTab g1 rc1 rr1 T1, cAt b14 53 [(.int .u64 ((seed : Nat) : Int)), (.slice (some ⟨g1, 0, none⟩) (n) (rc1))], cTab bt2 bc2 cap2 rest2 T2, cRTab g2 rc2 rr2 T2, cAt b17 53 [(.int .u64 ((seed : Nat) : Int)), (.slice (some ⟨g2, 0, none⟩) (n) (rc2))], cTab bt3 bc3 cap3 rest3 TD, cOwn 5 1 A76 ((T1.enc).length) (c76) (B8 (T1.enc)), cOwn 5 1 A79 ((T1.enc).length) (c79) (B8 (T1.enc)), cOwn 5 1 A84 ((T2.enc).length) (c84) (B8 (T2.enc)), cOwn 5 1 A87 ((T2.enc).length) (c87) (B8 (T2.enc))] (fun _ h => h) (fun _ h => h) ?_
  refine anyVal (i := 1) (.bool true) rfl rfl rfl (by kernel_rfl) (by kernel_rfl) (fun _ _ _ h => h) (rMove rfl rfl) ?_
  refine anyValG (i := 2) (.int .i64 0) rfl rfl rfl rfl (by kernel_rfl) (by kernel_rfl) (fun _ _ _ h => h) (rMove rfl rfl) ?_
  refine anyValG (i := 3) (.bool true) rfl rfl rfl rfl (by kernel_rfl) (by kernel_rfl) (fun _ _ _ h => h) (rClosed fun _ => by kernel_rfl) ?_
  refine anyVal (i := 4) (.bool true) rfl rfl rfl (by kernel_rfl) (by kernel_rfl) (fun _ _ _ h => h) (rClosed fun _ => by kernel_rfl) ?_
  refine anyVal (i := 5) (.bool true) rfl rfl rfl (by kernel_rfl) (by kernel_rfl) (fun _ _ _ h => h) (rMove rfl rfl) ?_
  refine anyValG (i := 6) (.pointer (some ⟨bt3, 0, none⟩)) rfl rfl rfl rfl (by kernel_rfl) (by kernel_rfl) (fun _ _ _ h => h) (rMove rfl rfl) ?_
  refine anyValG (i := 7) (.bool true) rfl rfl rfl rfl (by kernel_rfl) (by kernel_rfl) (fun _ _ _ h => h) (rClosed fun _ => by kernel_rfl) ?_
  refine anyVal (i := 8) (.bool true) rfl rfl rfl (by kernel_rfl) (by kernel_rfl) (fun _ _ _ h => h) (rClosed fun _ => by kernel_rfl) ?_
  refine anyVal (i := 9) (.bool true) rfl rfl rfl (by kernel_rfl) (by kernel_rfl) (fun _ _ _ h => h) (rMove rfl rfl) ?_
  refine anyValG (i := 10) (.pointer (some ⟨bt3, 0, none⟩)) rfl rfl rfl rfl (by kernel_rfl) (by kernel_rfl) (fun _ _ _ h => h) (rMove rfl rfl) ?_
  refine anyValG (i := 13) (.agg #[(.int .u64 ((seed : Nat) : Int)), (.slice (some ⟨g1, 0, none⟩) (n) (rc1))]) rfl rfl rfl rfl (by kernel_rfl) (by kernel_rfl) (fun _ _ _ h => h) (rLoadA [(.int .u64 ((seed : Nat) : Int)), (.slice (some ⟨g1, 0, none⟩) (n) (rc1))] rfl rfl (by kernel_rfl) (by kernel_rfl) (segAt (i := 2) rfl (by intro j v hj; first | (rw [Nat.zero_add]; exact hj) | (match j, hj with | 0, h => exact h | 1, h => exact h)))) ?_
  refine anyValG (i := 14) (.agg #[(.int .u64 ((seed : Nat) : Int)), (.slice (some ⟨g2, 0, none⟩) (n) (rc2))]) rfl rfl rfl rfl (by kernel_rfl) (by kernel_rfl) (fun _ _ _ h => h) (rLoadA [(.int .u64 ((seed : Nat) : Int)), (.slice (some ⟨g2, 0, none⟩) (n) (rc2))] rfl rfl (by kernel_rfl) (by kernel_rfl) (segAt (i := 5) rfl (by intro j v hj; first | (rw [Nat.zero_add]; exact hj) | (match j, hj with | 0, h => exact h | 1, h => exact h)))) ?_
  refine anyOneG (i := 11) (by kernel_rfl) rfl rfl rfl ?_
  refine opCall 31 #[(.pointer (some ⟨bt3, 0, none⟩))] rfl (by kernel_rfl) (fun _ => by kernel_rfl) (fun w hM => ?_)
  refine (encode_any _ _ _ _ TD w (hM.at (i := 6) rfl)).mono ?_
  rintro e w' ⟨v, rfl, hN⟩
  obtain ⟨A119, c119, rfl, hM'⟩ := hM.pushOwn hN.fr hN.own
  refine ⟨_, _, rfl, hM', ?_⟩
  clear hM hN hM'
  refine anyNext [cTab bt1 bc1 cap1 rest1 T1, cRTab g1 rc1 rr1 T1, cAt b14 53 [(.int .u64 ((seed : Nat) : Int)), (.slice (some ⟨g1, 0, none⟩) (n) (rc1))], cTab bt2 bc2 cap2 rest2 T2, cRTab g2 rc2 rr2 T2, cAt b17 53 [(.int .u64 ((seed : Nat) : Int)), (.slice (some ⟨g2, 0, none⟩) (n) (rc2))], cTab bt3 bc3 cap3 rest3 TD, cOwn 5 1 A76 ((T1.enc).length) (c76) (B8 (T1.enc)), cOwn 5 1 A79 ((T1.enc).length) (c79) (B8 (T1.enc)), cOwn 5 1 A84 ((T2.enc).length) (c84) (B8 (T2.enc)), cOwn 5 1 A87 ((T2.enc).length) (c87) (B8 (T2.enc)), cOwn 5 1 A119 ((TD.enc).length) (c119) (B8 (TD.enc))] (fun _ h => h.sub (.cons_cons _ (.cons_cons _ (.cons_cons _ (.cons_cons _ (.cons_cons _ (.cons_cons _ (.cons_cons _ (.cons_cons _ (.cons_cons _ (.cons_cons _ (.cons_cons _ (.cons _ .slnil))))))))))))) (fun _ h => h) ?_
  refine anyValG (i := 12) (.string (strOf (TD.enc))) rfl rfl rfl rfl (by kernel_rfl) (by kernel_rfl) (fun _ _ _ h => h) (rStr (e := 5) (TD.enc) rfl (by kernel_rfl) (by kernel_rfl) (by kernel_rfl) rfl rfl (rowOwn (i := 11) rfl)) ?_
  refine anyOneG (i := 15) (by kernel_rfl) rfl rfl rfl ?_
  refine opCall 37 #[(.agg #[(.int .u64 ((seed : Nat) : Int)), (.slice (some ⟨g1, 0, none⟩) (n) (rc1))]), (.agg #[(.int .u64 ((seed : Nat) : Int)), (.slice (some ⟨g2, 0, none⟩) (n) (rc2))])] rfl (by kernel_rfl) (fun _ => by kernel_rfl) (fun w hM => ?_)
  refine (by have h := refSubtract_any n seed seed _ _ _ _ _ _ T1 T2 w (hM.at (i := 1) rfl) (hM.at (i := 4) rfl) hTl1.symm hTl2 hTs1.symm; rw [← HTD.out] at h; exact h : Calls _ _ _ w fun e w' => ∃ g c rest, e = .returned (.agg #[.int .u64 (seed : Int), .slice (some ⟨g, 0, none⟩) n c]) ∧ w.heap.size ≤ g ∧ Fr [] w w' ∧ RTab w' g c rest TD).mono ?_
  rintro e w' ⟨g3, rc3, rr3, rfl, hg, hf, ht⟩
  have hM' := hM.pushRTab hf ht hg
  refine ⟨_, _, rfl, hM', ?_⟩
  clear hM hM' hg hf ht
  refine anyNext [cTab bt1 bc1 cap1 rest1 T1, cRTab g1 rc1 rr1 T1, cAt b14 53 [(.int .u64 ((seed : Nat) : Int)), (.slice (some ⟨g1, 0, none⟩) (n) (rc1))], cTab bt2 bc2 cap2 rest2 T2, cRTab g2 rc2 rr2 T2, cAt b17 53 [(.int .u64 ((seed : Nat) : Int)), (.slice (some ⟨g2, 0, none⟩) (n) (rc2))], cTab bt3 bc3 cap3 rest3 TD, cOwn 5 1 A76 ((T1.enc).length) (c76) (B8 (T1.enc)), cOwn 5 1 A79 ((T1.enc).length) (c79) (B8 (T1.enc)), cOwn 5 1 A84 ((T2.enc).length) (c84) (B8 (T2.enc)), cOwn 5 1 A87 ((T2.enc).length) (c87) (B8 (T2.enc)), cOwn 5 1 A119 ((TD.enc).length) (c119) (B8 (TD.enc)), cRTab g3 rc3 rr3 TD] (fun _ h => h.sub (.cons_cons _ (.cons_cons _ (.cons_cons _ (.cons_cons _ (.cons_cons _ (.cons_cons _ (.cons_cons _ (.cons_cons _ (.cons_cons _ (.cons_cons _ (.cons_cons _ (.cons_cons _ (.cons _ .slnil)))))))))))))) (fun _ h => h) ?_
  refine anyOneG (i := 16) (by kernel_rfl) rfl rfl rfl ?_
  refine opCall 32 #[(.agg #[(.int .u64 ((seed : Nat) : Int)), (.slice (some ⟨g3, 0, none⟩) (n) (rc3))])] rfl (by kernel_rfl) (fun _ => by kernel_rfl) (fun w hM => ?_)
  refine (by have h := refEncode_any _ _ _ TD w (hM.at (i := 12) rfl); rw [hTl3, hTs3] at h; exact h : Calls _ _ _ w (NewRow TD.enc w)).mono ?_
  rintro e w' hN
  obtain ⟨A124, c124, rfl, hM'⟩ := hM.newRow hN
  refine ⟨_, _, rfl, hM', ?_⟩
  clear hM hN hM'
  refine anyNext [cTab bt1 bc1 cap1 rest1 T1, cRTab g1 rc1 rr1 T1, cAt b14 53 [(.int .u64 ((seed : Nat) : Int)), (.slice (some ⟨g1, 0, none⟩) (n) (rc1))], cTab bt2 bc2 cap2 rest2 T2, cRTab g2 rc2 rr2 T2, cAt b17 53 [(.int .u64 ((seed : Nat) : Int)), (.slice (some ⟨g2, 0, none⟩) (n) (rc2))], cTab bt3 bc3 cap3 rest3 TD, cOwn 5 1 A76 ((T1.enc).length) (c76) (B8 (T1.enc)), cOwn 5 1 A79 ((T1.enc).length) (c79) (B8 (T1.enc)), cOwn 5 1 A84 ((T2.enc).length) (c84) (B8 (T2.enc)), cOwn 5 1 A87 ((T2.enc).length) (c87) (B8 (T2.enc)), cOwn 5 1 A119 ((TD.enc).length) (c119) (B8 (TD.enc)), cRTab g3 rc3 rr3 TD, cOwn 5 1 A124 ((TD.enc).length) (c124) (B8 (TD.enc))] (fun _ h => h.sub (.cons_cons _ (.cons_cons _ (.cons_cons _ (.cons_cons _ (.cons_cons _ (.cons_cons _ (.cons_cons _ (.cons_cons _ (.cons_cons _ (.cons_cons _ (.cons_cons _ (.cons_cons _ (.cons_cons _ (.cons _ .slnil))))))))))))))) (fun _ h => h) ?_
  refine anyValG (i := 17) (.string (strOf (TD.enc))) rfl rfl rfl rfl (by kernel_rfl) (by kernel_rfl) (fun _ _ _ h => h) (rStr (e := 5) (TD.enc) rfl (by kernel_rfl) (by kernel_rfl) (by kernel_rfl) rfl rfl (rowOwn (i := 13) rfl)) ?_
  refine anyValG (i := 18) (.bool true) rfl rfl rfl rfl (by kernel_rfl) (by kernel_rfl) (fun _ _ _ h => h) (rConv (rStrEq rfl rfl rfl) (by simp)) ?_
  refine anyVal (i := 19) (.bool true) rfl rfl rfl (by kernel_rfl) (by kernel_rfl) (fun _ _ _ h => h) (rClosed fun _ => by kernel_rfl) ?_
  refine anyVal (i := 20) (.bool true) rfl rfl rfl (by kernel_rfl) (by kernel_rfl) (fun _ _ _ h => h) (rAssign rfl rfl) ?_
  refine anyDone (by kernel_rfl) ?_
  refine qThen ?_
  refine stRet ?_
  refine stEnd [(.bool true)] rfl ⟨rfl, trivial⟩ (fun w hM => ?_)
  exact ⟨rfl, hM.fr⟩

theorem lawSub_any (m m2 : Int) (seed seed2 : Nat) (A B : Option Addr) (c c2 : Nat) (ops ops2 : List BOp) (w : World) (hv : Vars w) (hu : U64 seed) (hu2 : U64 seed2) (hr : RowIn w A (opCells ops)) (hr2 : RowIn w B (opCells ops2)) :
    Calls Tryd.prog 10 #[Value.int .i64 m, Value.int .i64 m2, .int .u64 (seed : Int), .int .u64 (seed2 : Int), .slice A ops.length c, .slice B ops2.length c2] w fun e w' => e = .returned (.bool true) ∧ Fr [] w w' := by
  cases hf1 : fewB m ops.length with
  | false => exact lawSub_big1 m m2 seed seed2 A B c c2 ops ops2 w hv hf1
  | true =>
    cases hf2 : fewB m2 ops2.length with
    | false => exact lawSub_big2 m m2 seed seed2 A B c c2 ops ops2 w hv hf1 hf2
    | true =>
      have hl := few_len hf1
      have hl2 := few_len hf2
      cases hm : isSz m with
      | false =>
        cases hm2 : isSz m2 with
        | false => exact lawSub_bb m m2 seed seed2 A B c c2 ops ops2 w hv hf1 hf2 hm hm2
        | true =>
          obtain ⟨n2, rfl⟩ := isSz_nat hm2
          exact lawSub_bo m n2 seed seed2 A B c c2 ops ops2 w hv hf1 hf2 hm hm2 hu2 hr2 hl2
      | true =>
        obtain ⟨n, rfl⟩ := isSz_nat hm
        cases hm2 : isSz m2 with
        | false => exact lawSub_ob n m2 seed seed2 A B c c2 ops ops2 w hv hf1 hf2 hm hu hr hl hm2
        | true =>
          obtain ⟨n2, rfl⟩ := isSz_nat hm2
          by_cases hne : n = n2
          · subst hne
            by_cases hse : seed = seed2
            · subst hse
              exact lawSub_ok n seed A B c c2 ops ops2 w hv hf1 hf2 hm hu hr hl hr2 hl2
            · exact lawSub_seed n seed seed2 A B c c2 ops ops2 w hv hf1 hf2 hm hu hr hl hu2 hr2 hl2 hse
          · exact lawSub_len n n2 seed seed2 A B c c2 ops ops2 w hv hf1 hf2 hm hu hr hl hm2 hu2 hr2 hl2 hne
end Go.Proofs.YtnhagokkamobaaaDoor
