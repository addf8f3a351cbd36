/- Contract of the law's play. -/
import Derived.Test.YtnhagokkamobaaaDoorBlPlay1
import Derived.Test.YtnhagokkamobaaaDoorBlRun
namespace Go.Proofs.YtnhagokkamobaaaDoor
open Go.RowKit

theorem isSz_nat {m : Int} (h : isSz m = true) : ∃ n : Nat, m = (n : Int) := by
  simp only [isSz, Bool.and_eq_true, decide_eq_true_eq] at h
  exact ⟨m.toNat, by omega⟩
theorem few_len {m : Int} {k : Nat} (h : fewB m k = true) : k ≤ 1000000 := by
  simp only [fewB, Bool.and_eq_true, decide_eq_true_eq] at h
  omega

set_option maxRecDepth 100000 in
theorem play_bad (m : Int) (seed : Nat) (A : Option Addr) (c : Nat) (ops : List BOp) (w : World) (hm : isSz m = false) :
    Calls Tryd.prog 29 #[Value.int .i64 m, .int .u64 (seed : Int), .slice A ops.length c] w fun e w' => e = .returned (.tuple #[.pointer none, .agg #[.int .u64 0, .slice none 0 0], .bool true]) ∧ Fr [] w w' := by
  refine stEnter (args := [Value.int .i64 m, .int .u64 (seed : Int), .slice A ops.length c]) [] Tryd.func29 rfl 90 rfl [(0, Value.int .i64 m), (1, .int .u64 (seed : Int)), (2, .slice A ops.length c)] ⟨rfl, rfl, rfl, trivial⟩ [] (Mm.start w []) ?_
  refine stSeq ?_
  refine reg ?_
  refine li rfl (opVal (.pointer none) rfl (by kernel_rfl) (rAssign rfl rfl) ?_)
  refine li rfl ?_
  refine opAlloc [(.int .u64 0), (.slice none 0 0)] rfl rfl (by kernel_rfl) (by kernel_rfl) (fun b7 => ?_)
  refine li rfl (opVal (.bool false) rfl (by kernel_rfl) (rAssign rfl rfl) ?_)
  refine liNil ?_
  refine qThen ?_
  refine stSeq ?_
  refine reg ?_
  refine li rfl (opVal (.int .i64 m) rfl (by kernel_rfl) (rMove rfl rfl) ?_)
  refine li rfl (opVal (.int .u64 ((seed : Nat) : Int)) rfl (by kernel_rfl) (rMove rfl rfl) ?_)
  refine li rfl ?_
  refine opCall 21 #[(.int .i64 m), (.int .u64 ((seed : Nat) : Int))] rfl (by kernel_rfl) (fun _ => by kernel_rfl) (fun w hM => ?_)
  refine (blNew_bad m seed w hm).mono ?_
  rintro e w' ⟨rfl, rfl⟩
  refine ⟨(.tuple #[(.pointer none), (.int .i64 1)]), _, rfl, hM, ?_⟩
  clear hM
  refine li rfl (opVal (.tuple #[(.pointer none), (.int .i64 1)]) rfl (by kernel_rfl) (rMove rfl rfl) ?_)
  refine li rfl (opVal (.pointer none) rfl (by kernel_rfl) (rClosed fun _ => by kernel_rfl) ?_)
  refine li rfl (opVal (.int .i64 1) rfl (by kernel_rfl) (rClosed fun _ => by kernel_rfl) ?_)
  refine li rfl (opVal (.pointer none) rfl (by kernel_rfl) (rAssign rfl rfl) ?_)
  refine li rfl (opVal (.int .i64 1) rfl (by kernel_rfl) (rAssign rfl rfl) ?_)
  refine liNil ?_
  refine qThen ?_
  refine stSeq ?_
  refine stSeq ?_
  refine reg ?_
  refine li rfl (opVal (.int .i64 m) rfl (by kernel_rfl) (rMove rfl rfl) ?_)
  refine li rfl ?_
  refine opCall 16 #[(.int .i64 m)] rfl (by kernel_rfl) (fun _ => by kernel_rfl) (fun w hM => ?_)
  refine ((by rw [← hm]; exact valid_any m w : Calls _ _ _ w fun e w' => e = .returned (.bool false) ∧ w = w')).mono ?_
  rintro e w' ⟨rfl, rfl⟩
  refine ⟨(.bool false), _, rfl, hM, ?_⟩
  clear hM
  refine li rfl (opVal (.bool true) rfl (by kernel_rfl) (rClosed fun _ => by kernel_rfl) ?_)
  refine liNil ?_
  refine qThen ?_
  refine stTrue rfl ?_
  refine stSeq ?_
  refine reg ?_
  refine li rfl (opVal (.agg #[(.int .u64 0), (.slice none 0 0)]) rfl (by kernel_rfl) (rClosed fun _ => by kernel_rfl) ?_)
  refine li rfl (opVal (.int .i64 1) rfl (by kernel_rfl) (rMove rfl rfl) ?_)
  refine li rfl (opVal (.bool true) rfl (by kernel_rfl) (rClosed fun _ => by kernel_rfl) ?_)
  refine li rfl (opVal (.bool true) rfl (by kernel_rfl) (rMove rfl rfl) ?_)
  refine liGo rfl rfl (opVal (.pointer none) rfl (by kernel_rfl) (rMove rfl rfl) ?_)
  refine liGo rfl rfl (opVal (.bool true) rfl (by kernel_rfl) (rClosed fun _ => by kernel_rfl) ?_)
  refine li rfl (opVal (.bool true) rfl (by kernel_rfl) (rClosed fun _ => by kernel_rfl) ?_)
  refine li rfl (opVal (.pointer none) rfl (by kernel_rfl) (rAssign rfl rfl) ?_)
  refine li rfl ?_
  refine opStoreN 0 [(.int .u64 0), (.slice none 0 0)] (vs := [(.int .u64 0), (.slice none 0 0)]) rfl rfl (by kernel_rfl) rfl rfl rfl (by kernel_rfl) rfl (by simp) (by simp [Value.oneCell']) rfl ?_
  refine li rfl (opVal (.bool true) rfl (by kernel_rfl) (rAssign rfl rfl) ?_)
  refine liNil ?_
  refine qThen ?_
  refine stRet ?_
  refine qThenR ?_
  refine stEnd [(.pointer none), (.agg #[(.int .u64 0), (.slice none 0 0)]), (.bool true)] rfl ⟨rfl, ⟨_, rfl, fun w hM => run_loadVarA (by kernel_rfl) (by kernel_rfl) (segAt (i := 0) (off := 0) rfl (by intro j v hj; rw [Nat.zero_add]; exact hj) w hM)⟩, rfl, trivial⟩ (fun w hM => ?_)
  exact ⟨rfl, hM.fr⟩

/-- What play hands back: a table of the program and one of the reference, of the same contents T. -/
def Played (n seed : Nat) (T : BT) (w : World) (e : Ending) (w' : World) : Prop :=
  ∃ bt bc cap rest g c rest2, e = .returned (.tuple #[.pointer (some ⟨bt, 0, none⟩), .agg #[.int .u64 (seed : Int), .slice (some ⟨g, 0, none⟩) n c], .bool true]) ∧ Mm w [] [cTab bt bc cap rest T, cRTab g c rest2 T] w'

set_option maxRecDepth 100000 in
set_option maxHeartbeats 1000000 in
theorem play_any (n seed : Nat) (A : Option Addr) (c : Nat) (ops : List BOp) (w : World) (hn : isSz (n : Int) = true) (hv : Vars w) (hu : U64 seed) (hr : RowIn w A (opCells ops)) (hl : ops.length ≤ 1000000) :
    Calls Tryd.prog 29 #[Value.int .i64 (n : Int), .int .u64 (seed : Int), .slice A ops.length c] w (Played n seed (runAll (BT.new n seed) ops) w) := by
  have HV := Lib.hid hv
  have HU := Lib.hid hu
  have HR := Lib.hid hr
  clear hv hu hr
  refine stEnter (args := [Value.int .i64 (n : Int), .int .u64 (seed : Int), .slice A ops.length c]) [] Tryd.func29 rfl 90 rfl [(0, Value.int .i64 (n : Int)), (1, .int .u64 (seed : Int)), (2, .slice A ops.length c)] ⟨rfl, rfl, rfl, trivial⟩ [] (Mm.start w []) ?_
  refine stSeq ?_
  refine reg ?_
  refine li rfl (opVal (.pointer none) rfl (by kernel_rfl) (rAssign rfl rfl) ?_)
  refine li rfl ?_
  refine opAlloc [(.int .u64 0), (.slice none 0 0)] rfl rfl (by kernel_rfl) (by kernel_rfl) (fun b7 => ?_)
  refine li rfl (opVal (.bool false) rfl (by kernel_rfl) (rAssign rfl rfl) ?_)
  refine liNil ?_
  refine qThen ?_
  refine stSeq ?_
  refine reg ?_
  refine li rfl (opVal (.int .i64 ((n : Nat) : Int)) rfl (by kernel_rfl) (rMove rfl rfl) ?_)
  refine li rfl (opVal (.int .u64 ((seed : Nat) : Int)) rfl (by kernel_rfl) (rMove rfl rfl) ?_)
  refine li rfl ?_
  refine opCall 21 #[(.int .i64 ((n : Nat) : Int)), (.int .u64 ((seed : Nat) : Int))] rfl (by kernel_rfl) (fun _ => by kernel_rfl) (fun w hM => ?_)
  refine (blNew_any n seed w hn HU.out).mono ?_
  rintro e w' ⟨rfl, hf, ht⟩
  obtain ⟨bt, hbt⟩ : ∃ bt, bt = w.heap.size + 1 := ⟨_, rfl⟩
  obtain ⟨bc, hbc⟩ : ∃ bc, bc = w.heap.size := ⟨_, rfl⟩
  rw [← hbt] at ht ⊢
  rw [← hbc] at ht
  have hM' := hM.pushTab hf ht (by omega) (by omega)
  refine ⟨_, _, rfl, hM', ?_⟩
  clear hM hM' hf ht hbt hbc
  refine li rfl (opVal (.tuple #[(.pointer (some ⟨bt, 0, none⟩)), (.int .i64 0)]) rfl (by kernel_rfl) (rMove rfl rfl) ?_)
  refine li rfl (opVal (.pointer (some ⟨bt, 0, none⟩)) rfl (by kernel_rfl) (rClosed fun _ => by kernel_rfl) ?_)
  refine li rfl (opVal (.int .i64 0) rfl (by kernel_rfl) (rClosed fun _ => by kernel_rfl) ?_)
  refine li rfl (opVal (.pointer (some ⟨bt, 0, none⟩)) rfl (by kernel_rfl) (rAssign rfl rfl) ?_)
  refine li rfl (opVal (.int .i64 0) rfl (by kernel_rfl) (rAssign rfl rfl) ?_)
  refine liNil ?_
  refine qThen ?_
  refine stSeq ?_
  refine stSeq ?_
  refine reg ?_
  refine li rfl (opVal (.int .i64 ((n : Nat) : Int)) rfl (by kernel_rfl) (rMove rfl rfl) ?_)
  refine li rfl ?_
  refine opCall 16 #[(.int .i64 ((n : Nat) : Int))] rfl (by kernel_rfl) (fun _ => by kernel_rfl) (fun w hM => ?_)
  refine ((by rw [← hn]; exact valid_any (n : Int) w : Calls _ _ _ w fun e w' => e = .returned (.bool true) ∧ w = w')).mono ?_
  rintro e w' ⟨rfl, rfl⟩
  refine ⟨(.bool true), _, rfl, hM, ?_⟩
  clear hM
  refine li rfl (opVal (.bool false) rfl (by kernel_rfl) (rClosed fun _ => by kernel_rfl) ?_)
  refine liNil ?_
  refine qThen ?_
  refine stFalse rfl ?_
  refine stSkip ?_
  refine qThen ?_
  refine stSeq ?_
  refine stSeq ?_
  refine reg ?_
  refine li rfl (opVal (.int .i64 0) rfl (by kernel_rfl) (rMove rfl rfl) ?_)
  refine li rfl (opVal (.bool false) rfl (by kernel_rfl) (rClosed fun _ => by kernel_rfl) ?_)
  refine li rfl (opVal (.bool false) rfl (by kernel_rfl) (rMove rfl rfl) ?_)
  refine liGo rfl rfl (opVal (.pointer (some ⟨bt, 0, none⟩)) rfl (by kernel_rfl) (rMove rfl rfl) ?_)
  refine liGo rfl rfl (opVal (.bool false) rfl (by kernel_rfl) (rClosed fun _ => by kernel_rfl) ?_)
  refine li rfl (opVal (.bool false) rfl (by kernel_rfl) (rClosed fun _ => by kernel_rfl) ?_)
  refine liNil ?_
  refine qThen ?_
  refine stFalse rfl ?_
  refine stSkip ?_
  refine qThen ?_
  refine stSeq ?_
  refine reg ?_
  refine li rfl (opVal (.int .i64 ((n : Nat) : Int)) rfl (by kernel_rfl) (rMove rfl rfl) ?_)
  refine li rfl (opVal (.int .u64 ((seed : Nat) : Int)) rfl (by kernel_rfl) (rMove rfl rfl) ?_)
  refine li rfl ?_
  refine opCall 50 #[(.int .i64 ((n : Nat) : Int)), (.int .u64 ((seed : Nat) : Int))] rfl (by kernel_rfl) (fun _ => by kernel_rfl) (fun w hM => ?_)
  refine (refNew_any n seed w hn HU.out).mono ?_
  rintro e w' ⟨g, rfl, hg, hf, ht⟩
  have hM' := hM.pushRTab hf ht hg
  refine ⟨_, _, rfl, hM', ?_⟩
  clear hM hM' hf ht hg
  refine li rfl ?_
  refine opAlloc [(.int .u64 0), (.slice none 0 0)] rfl rfl (by kernel_rfl) (by kernel_rfl) (fun b11 => ?_)
  refine li rfl ?_
  refine opStoreN 3 [(.int .u64 ((seed : Nat) : Int)), (.slice (some ⟨g, 0, none⟩) (n) (n))] (vs := [(.int .u64 ((seed : Nat) : Int)), (.slice (some ⟨g, 0, none⟩) (n) (n))]) rfl rfl (by kernel_rfl) rfl rfl rfl (by kernel_rfl) rfl (by simp) (by simp [Value.oneCell']) rfl ?_
  refine liNil ?_
  refine qThen ?_
  refine stSeq ?_
  refine stSeq ?_
  refine reg ?_
  refine li rfl (opVal (.int .i64 0) rfl (by kernel_rfl) (rAssign rfl rfl) ?_)
  refine liNil ?_
  refine qThen ?_
  refine stBlock ?_
  have e0 := runTo_zero (BT.new n seed) ops
  refine stLoop (ι := Nat × Nat × Nat × List Value) (fun (i, g, c2, rest2) => i ≤ ops.length) (fun (i, g, c2, rest2) => ops.length - i) (fun (i, g, c2, rest2) => [(2, (.slice A (ops.length) (c))), (7, (.pointer (some ⟨b7, 0, none⟩))), (9, (.pointer (some ⟨bt, 0, none⟩))), (11, (.pointer (some ⟨b11, 0, none⟩))), (12, (.int .i64 ((i : Nat) : Int)))]) (fun (i, g, c2, rest2) => [cAt b7 53 [(.int .u64 0), (.slice none 0 0)], cTab bt bc n [] (runTo (BT.new n seed) ops i), cAt b11 53 [(.int .u64 ((seed : Nat) : Int)), (.slice (some ⟨g, 0, none⟩) (n) (c2))], cRTab g c2 rest2 (runTo (BT.new n seed) ops i)]) (0, g, n, []) (Nat.zero_le _) ⟨rfl, rfl, rfl, rfl, rfl, trivial⟩ (fun w hM => by show Mm _ _ [cAt b7 53 [(.int .u64 0), (.slice none 0 0)], cTab bt bc n [] (runTo (BT.new n seed) ops 0), cAt b11 53 [(.int .u64 ((seed : Nat) : Int)), (.slice (some ⟨g, 0, none⟩) (n) (n))], cRTab g n [] (runTo (BT.new n seed) ops 0)] w; rw [e0]; exact (fun (w : World) (h : Mm _ _ _ w) => Mm.perm h (.cons _ (.cons _ (.swap _ _ _)))) w (hM)) ?_
  rintro ⟨i, g, c2, rest2⟩ (hok : i ≤ ops.length)
  show St _ _ _ [(2, (.slice A (ops.length) (c))), (7, (.pointer (some ⟨b7, 0, none⟩))), (9, (.pointer (some ⟨bt, 0, none⟩))), (11, (.pointer (some ⟨b11, 0, none⟩))), (12, (.int .i64 ((i : Nat) : Int)))] [cAt b7 53 [(.int .u64 0), (.slice none 0 0)], cTab bt bc n [] (runTo (BT.new n seed) ops i), cAt b11 53 [(.int .u64 ((seed : Nat) : Int)), (.slice (some ⟨g, 0, none⟩) (n) (c2))], cRTab g c2 rest2 (runTo (BT.new n seed) ops i)] _
  refine stSeq ?_
  refine stSeq ?_
  refine reg ?_
  refine li rfl (opVal (.int .i64 ((i : Nat) : Int)) rfl (by kernel_rfl) (rMove rfl rfl) ?_)
  refine li rfl (opVal (.slice A (ops.length) (c)) rfl (by kernel_rfl) (rMove rfl rfl) ?_)
  refine li rfl (opVal (.int .i64 ((ops.length : Nat) : Int)) rfl (by kernel_rfl) (rClosed fun _ => by kernel_rfl) ?_)
  refine li rfl (opVal (.bool (decide (((i : Nat) : Int) < ((ops.length : Nat) : Int)))) rfl (by kernel_rfl) (rClosed fun _ => by kernel_rfl) ?_)
  refine liNil ?_
  refine qThen ?_
  refine stCond rfl (fun hc45 => ?_) (fun hc45 => ?_)
  · have hd45 := of_decide_eq_true hc45
    have hlt : i < ops.length := by omega
    obtain ⟨⟨key, d⟩, ho⟩ : ∃ o, ops[i]? = some o := ⟨_, List.getElem?_eq_getElem hlt⟩
    obtain ⟨hk1, hk2⟩ := opCells_get ho
    obtain ⟨b, o, hA, hbl, hck⟩ := HR.out _ _ hk1
    obtain ⟨b', o', hA', _, hcd⟩ := HR.out _ _ hk2
    subst hA
    injection hA' with hA'
    injection hA' with hb' ho'
    subst hb' ho'
    have HST := Lib.hid (runTo_succ (BT.new n seed) ho)
    obtain ⟨T, HTT⟩ : ∃ T, Hid (T = runTo (BT.new n seed) ops i) := ⟨_, rfl⟩
    have hTl : T.cells.length = n := by rw [HTT.out, runTo_len]; simp [BT.new]
    have hTs : T.seed = seed := by rw [HTT.out, runTo_seed]; rfl
    rw [← HTT.out] at HST ⊢
    refine stSkip ?_
    refine qThen ?_
    refine stSeq ?_
    refine stBlock ?_
    refine stSeq ?_
    refine reg ?_
    refine li rfl (opVal (.int .i64 0) rfl (by kernel_rfl) (rAssign rfl rfl) ?_)
    refine li rfl (opVal (.int .i64 1) rfl (by kernel_rfl) (rAssign rfl rfl) ?_)
    refine liNil ?_
    refine qThen ?_
    refine stSeq ?_
    refine stSeq ?_
    refine reg ?_
    refine li rfl (opVal (.slice (some ⟨b, o, none⟩) (ops.length) (c)) rfl (by kernel_rfl) (rMove rfl rfl) ?_)
    refine li rfl (opVal (.int .i64 ((i : Nat) : Int)) rfl (by kernel_rfl) (rMove rfl rfl) ?_)
    refine li rfl (opVal (.pointer (some ⟨b, o + i * 2, none⟩)) rfl (by kernel_rfl) (rIndexAddr (e := 62) (sz := 2) rfl (by kernel_rfl) (by kernel_rfl) rfl rfl (by omega)) ?_)
    refine li rfl (opVal (.pointer (some ⟨b, o + i * 2, none⟩)) rfl (by kernel_rfl) (rClosed fun _ => by kernel_rfl) ?_)
    refine li rfl (opVal (.string (strOf key)) rfl (by kernel_rfl) (rLoadW rfl rfl (by kernel_rfl) (fun w hM => hM.old hck (by simp))) ?_)
    refine li rfl ?_
    refine opCall 18 #[(.string (strOf key))] rfl (by kernel_rfl) (fun _ => by kernel_rfl) (fun w hM => ?_)
    refine (key_any key w).mono ?_
    rintro e w' ⟨rfl, rfl⟩
    refine ⟨(.bool (decide (key.length = 32))), _, rfl, hM, ?_⟩
    clear hM
    refine li rfl (opVal (.bool (!(decide (key.length = 32)))) rfl (by kernel_rfl) (rClosed fun _ => by kernel_rfl) ?_)
    refine liNil ?_
    refine qThen ?_
    refine stCond rfl (fun hc54 => ?_) (fun hc54 => ?_)
    · have hk32 : key.length ≠ 32 := by simpa using hc54
      refine reg ?_
      refine li rfl (opVal (.int .i64 1) rfl (by kernel_rfl) (rAssign rfl rfl) ?_)
      refine liNil ?_
      refine qThen ?_
      refine stSeq ?_
      refine reg ?_
      refine li rfl (opVal (.int .i64 0) rfl (by kernel_rfl) (rAssign rfl rfl) ?_)
      refine liNil ?_
      refine qThen ?_
      refine stSeq ?_
      refine stSeq ?_
      refine reg ?_
      refine li rfl (opVal (.slice (some ⟨b, o, none⟩) (ops.length) (c)) rfl (by kernel_rfl) (rMove rfl rfl) ?_)
      refine li rfl (opVal (.int .i64 ((i : Nat) : Int)) rfl (by kernel_rfl) (rMove rfl rfl) ?_)
      refine li rfl (opVal (.pointer (some ⟨b, o + i * 2, none⟩)) rfl (by kernel_rfl) (rIndexAddr (e := 62) (sz := 2) rfl (by kernel_rfl) (by kernel_rfl) rfl rfl (by omega)) ?_)
      refine li rfl (opVal (.pointer (some ⟨b, o + i * 2 + 1, none⟩)) rfl (by kernel_rfl) (rClosed fun _ => by kernel_rfl) ?_)
      refine li rfl (opVal (.bool d) rfl (by kernel_rfl) (rLoadW rfl rfl (by kernel_rfl) (fun w hM => hM.old (by rw [Nat.add_assoc]; exact hcd) (by simp))) ?_)
      refine liNil ?_
      refine qThen ?_
      refine stCond rfl (fun hc59 => ?_) (fun hc59 => ?_)
      · subst hc59
        have HST2 : stepOp T (key, true) = T := by simp [stepOp, hk32]
        rw [HST2] at HST
        refine reg ?_
        refine li rfl (opVal (.pointer (some ⟨bt, 0, none⟩)) rfl (by kernel_rfl) (rMove rfl rfl) ?_)
        refine li rfl (opVal (.slice (some ⟨b, o, none⟩) (ops.length) (c)) rfl (by kernel_rfl) (rMove rfl rfl) ?_)
        refine li rfl (opVal (.int .i64 ((i : Nat) : Int)) rfl (by kernel_rfl) (rMove rfl rfl) ?_)
        refine li rfl (opVal (.pointer (some ⟨b, o + i * 2, none⟩)) rfl (by kernel_rfl) (rIndexAddr (e := 62) (sz := 2) rfl (by kernel_rfl) (by kernel_rfl) rfl rfl (by omega)) ?_)
        refine li rfl (opVal (.pointer (some ⟨b, o + i * 2, none⟩)) rfl (by kernel_rfl) (rClosed fun _ => by kernel_rfl) ?_)
        refine li rfl (opVal (.string (strOf key)) rfl (by kernel_rfl) (rLoadW rfl rfl (by kernel_rfl) (fun w hM => hM.old hck (by simp))) ?_)
        refine li rfl ?_
        refine opCall 33 #[(.pointer (some ⟨bt, 0, none⟩)), (.string (strOf key))] rfl (by kernel_rfl) (fun _ => by kernel_rfl) (fun w hM => ?_)
        refine (delete_bad bt key w hk32).mono ?_
        rintro e w' ⟨rfl, rfl⟩
        refine ⟨_, _, rfl, hM, ?_⟩
        clear hM
        refine li rfl (opVal (.int .i64 1) rfl (by kernel_rfl) (rAssign rfl rfl) ?_)
        refine li rfl (opVal (.int .i64 (-1)) rfl (by kernel_rfl) (rAssign rfl rfl) ?_)
        refine liNil ?_
        refine qThen ?_
        refine stSeq ?_
        refine stSeq ?_
        refine reg ?_
        refine li rfl (opVal (.int .i64 1) rfl (by kernel_rfl) (rMove rfl rfl) ?_)
        refine li rfl (opVal (.int .i64 1) rfl (by kernel_rfl) (rMove rfl rfl) ?_)
        refine li rfl (opVal (.bool false) rfl (by kernel_rfl) (rClosed fun _ => by kernel_rfl) ?_)
        refine liNil ?_
        refine qThen ?_
        refine stFalse rfl ?_
        refine stSkip ?_
        refine qThen ?_
        refine stSeq ?_
        refine reg ?_
        refine li rfl (opVal (.int .i64 1) rfl (by kernel_rfl) (rMove rfl rfl) ?_)
        refine li rfl (opVal (.bool false) rfl (by kernel_rfl) (rClosed fun _ => by kernel_rfl) ?_)
        refine liNil ?_
        refine qThen ?_
        refine stFalse rfl ?_
        refine stSkip ?_
        refine qBlock ?_
        refine qThen ?_
        refine reg ?_
        refine li rfl (opVal (.int .i64 ((i : Nat) : Int)) rfl (by kernel_rfl) (rMove rfl rfl) ?_)
        refine li rfl (opVal (.int .i64 ((i + 1 : Nat) : Int)) rfl (by kernel_rfl) (rAdd _ rfl rfl rfl (by omega) (by omega) (by omega)) ?_)
        refine li rfl (opVal (.int .i64 ((i + 1 : Nat) : Int)) rfl (by kernel_rfl) (rAssign rfl rfl) ?_)
        refine liNil ?_
        refine qThen ?_
        exact stAgain (i + 1, g, c2, rest2) (by show _ ≤ _; omega) (by show ops.length - (i + 1) < ops.length - i; omega) ⟨rfl, rfl, rfl, rfl, rfl, trivial⟩ (fun w hM => by show Mm _ _ [cAt b7 53 [(.int .u64 0), (.slice none 0 0)], cTab bt bc n [] (runTo (BT.new n seed) ops (i + 1)), cAt b11 53 [(.int .u64 ((seed : Nat) : Int)), (.slice (some ⟨g, 0, none⟩) (n) (c2))], cRTab g c2 rest2 (runTo (BT.new n seed) ops (i + 1))] w; rw [HST.out]; exact hM)
      · subst hc59
        have HST2 : stepOp T (key, false) = T := by simp [stepOp, hk32]
        rw [HST2] at HST
        refine reg ?_
        refine li rfl (opVal (.pointer (some ⟨bt, 0, none⟩)) rfl (by kernel_rfl) (rMove rfl rfl) ?_)
        refine li rfl (opVal (.slice (some ⟨b, o, none⟩) (ops.length) (c)) rfl (by kernel_rfl) (rMove rfl rfl) ?_)
        refine li rfl (opVal (.int .i64 ((i : Nat) : Int)) rfl (by kernel_rfl) (rMove rfl rfl) ?_)
        refine li rfl (opVal (.pointer (some ⟨b, o + i * 2, none⟩)) rfl (by kernel_rfl) (rIndexAddr (e := 62) (sz := 2) rfl (by kernel_rfl) (by kernel_rfl) rfl rfl (by omega)) ?_)
        refine li rfl (opVal (.pointer (some ⟨b, o + i * 2, none⟩)) rfl (by kernel_rfl) (rClosed fun _ => by kernel_rfl) ?_)
        refine li rfl (opVal (.string (strOf key)) rfl (by kernel_rfl) (rLoadW rfl rfl (by kernel_rfl) (fun w hM => hM.old hck (by simp))) ?_)
        refine li rfl ?_
        refine opCall 22 #[(.pointer (some ⟨bt, 0, none⟩)), (.string (strOf key))] rfl (by kernel_rfl) (fun _ => by kernel_rfl) (fun w hM => ?_)
        refine (insert_bad bt key w hk32).mono ?_
        rintro e w' ⟨rfl, rfl⟩
        refine ⟨_, _, rfl, hM, ?_⟩
        clear hM
        refine li rfl (opVal (.int .i64 1) rfl (by kernel_rfl) (rAssign rfl rfl) ?_)
        refine liNil ?_
        refine qThen ?_
        refine stSeq ?_
        refine stSeq ?_
        refine reg ?_
        refine li rfl (opVal (.int .i64 1) rfl (by kernel_rfl) (rMove rfl rfl) ?_)
        refine li rfl (opVal (.int .i64 1) rfl (by kernel_rfl) (rMove rfl rfl) ?_)
        refine li rfl (opVal (.bool false) rfl (by kernel_rfl) (rClosed fun _ => by kernel_rfl) ?_)
        refine liNil ?_
        refine qThen ?_
        refine stFalse rfl ?_
        refine stSkip ?_
        refine qThen ?_
        refine stSeq ?_
        refine reg ?_
        refine li rfl (opVal (.int .i64 1) rfl (by kernel_rfl) (rMove rfl rfl) ?_)
        refine li rfl (opVal (.bool false) rfl (by kernel_rfl) (rClosed fun _ => by kernel_rfl) ?_)
        refine liNil ?_
        refine qThen ?_
        refine stFalse rfl ?_
        refine stSkip ?_
        refine qBlock ?_
        refine qThen ?_
        refine reg ?_
        refine li rfl (opVal (.int .i64 ((i : Nat) : Int)) rfl (by kernel_rfl) (rMove rfl rfl) ?_)
        refine li rfl (opVal (.int .i64 ((i + 1 : Nat) : Int)) rfl (by kernel_rfl) (rAdd _ rfl rfl rfl (by omega) (by omega) (by omega)) ?_)
        refine li rfl (opVal (.int .i64 ((i + 1 : Nat) : Int)) rfl (by kernel_rfl) (rAssign rfl rfl) ?_)
        refine liNil ?_
        refine qThen ?_
        exact stAgain (i + 1, g, c2, rest2) (by show _ ≤ _; omega) (by show ops.length - (i + 1) < ops.length - i; omega) ⟨rfl, rfl, rfl, rfl, rfl, trivial⟩ (fun w hM => by show Mm _ _ [cAt b7 53 [(.int .u64 0), (.slice none 0 0)], cTab bt bc n [] (runTo (BT.new n seed) ops (i + 1)), cAt b11 53 [(.int .u64 ((seed : Nat) : Int)), (.slice (some ⟨g, 0, none⟩) (n) (c2))], cRTab g c2 rest2 (runTo (BT.new n seed) ops (i + 1))] w; rw [HST.out]; exact hM)
    · have hk32 : key.length = 32 := by simpa using hc54
      refine stSkip ?_
      refine qThen ?_
      refine stSeq ?_
      refine reg ?_
      refine li rfl (opVal (.int .i64 0) rfl (by kernel_rfl) (rAssign rfl rfl) ?_)
      refine liNil ?_
      refine qThen ?_
      refine stSeq ?_
      refine stSeq ?_
      refine reg ?_
      refine li rfl (opVal (.slice (some ⟨b, o, none⟩) (ops.length) (c)) rfl (by kernel_rfl) (rMove rfl rfl) ?_)
      refine li rfl (opVal (.int .i64 ((i : Nat) : Int)) rfl (by kernel_rfl) (rMove rfl rfl) ?_)
      refine li rfl (opVal (.pointer (some ⟨b, o + i * 2, none⟩)) rfl (by kernel_rfl) (rIndexAddr (e := 62) (sz := 2) rfl (by kernel_rfl) (by kernel_rfl) rfl rfl (by omega)) ?_)
      refine li rfl (opVal (.pointer (some ⟨b, o + i * 2 + 1, none⟩)) rfl (by kernel_rfl) (rClosed fun _ => by kernel_rfl) ?_)
      refine li rfl (opVal (.bool d) rfl (by kernel_rfl) (rLoadW rfl rfl (by kernel_rfl) (fun w hM => hM.old (by rw [Nat.add_assoc]; exact hcd) (by simp))) ?_)
      refine liNil ?_
      refine qThen ?_
      refine stCond rfl (fun hc59 => ?_) (fun hc59 => ?_)
      · subst hc59
        have HST2 : stepOp T (key, true) = T.change key (-1) := by simp [stepOp, hk32]
        rw [HST2] at HST
        refine reg ?_
        refine li rfl (opVal (.pointer (some ⟨bt, 0, none⟩)) rfl (by kernel_rfl) (rMove rfl rfl) ?_)
        refine li rfl (opVal (.slice (some ⟨b, o, none⟩) (ops.length) (c)) rfl (by kernel_rfl) (rMove rfl rfl) ?_)
        refine li rfl (opVal (.int .i64 ((i : Nat) : Int)) rfl (by kernel_rfl) (rMove rfl rfl) ?_)
        refine li rfl (opVal (.pointer (some ⟨b, o + i * 2, none⟩)) rfl (by kernel_rfl) (rIndexAddr (e := 62) (sz := 2) rfl (by kernel_rfl) (by kernel_rfl) rfl rfl (by omega)) ?_)
        refine li rfl (opVal (.pointer (some ⟨b, o + i * 2, none⟩)) rfl (by kernel_rfl) (rClosed fun _ => by kernel_rfl) ?_)
        refine li rfl (opVal (.string (strOf key)) rfl (by kernel_rfl) (rLoadW rfl rfl (by kernel_rfl) (fun w hM => hM.old hck (by simp))) ?_)
        refine li rfl ?_
        refine opCall 33 #[(.pointer (some ⟨bt, 0, none⟩)), (.string (strOf key))] rfl (by kernel_rfl) (fun _ => by kernel_rfl) (fun w hM => ?_)
        refine (delete_any bt bc n [] T key w (HV.out.mm hM) (hM.at (i := 1) rfl) hk32).mono ?_
        rintro e w' ⟨rfl, hf, ht⟩
        have hM' := hM.swapTab 1 rfl hf ht
        refine ⟨_, _, rfl, hM', ?_⟩
        clear hM hM' hf ht
        refine li rfl (opVal (.int .i64 0) rfl (by kernel_rfl) (rAssign rfl rfl) ?_)
        refine li rfl (opVal (.int .i64 (-1)) rfl (by kernel_rfl) (rAssign rfl rfl) ?_)
        refine liNil ?_
        refine qThen ?_
        refine stSeq ?_
        refine stSeq ?_
        refine reg ?_
        refine li rfl (opVal (.int .i64 0) rfl (by kernel_rfl) (rMove rfl rfl) ?_)
        refine li rfl (opVal (.int .i64 0) rfl (by kernel_rfl) (rMove rfl rfl) ?_)
        refine li rfl (opVal (.bool false) rfl (by kernel_rfl) (rClosed fun _ => by kernel_rfl) ?_)
        refine liNil ?_
        refine qThen ?_
        refine stFalse rfl ?_
        refine stSkip ?_
        refine qThen ?_
        refine stSeq ?_
        refine reg ?_
        refine li rfl (opVal (.int .i64 0) rfl (by kernel_rfl) (rMove rfl rfl) ?_)
        refine li rfl (opVal (.bool true) rfl (by kernel_rfl) (rClosed fun _ => by kernel_rfl) ?_)
        refine liNil ?_
        refine qThen ?_
        refine stTrue rfl ?_
        refine anyBegin [cAt b7 53 [(.int .u64 0), (.slice none 0 0)], cTab bt bc n [] (T.change key (-1)), cAt b11 53 [(.int .u64 ((seed : Nat) : Int)), (.slice (some ⟨g, 0, none⟩) (n) (c2))], cRTab g c2 rest2 T] 8 (by kernel_rfl) (fun _ h => h) ?_
        refine anyVal (i := 0) (.agg #[(.int .u64 ((seed : Nat) : Int)), (.slice (some ⟨g, 0, none⟩) (n) (c2))]) rfl rfl rfl (by kernel_rfl) (by kernel_rfl) (fun _ _ _ h => h) (rLoadA [(.int .u64 ((seed : Nat) : Int)), (.slice (some ⟨g, 0, none⟩) (n) (c2))] rfl rfl (by kernel_rfl) (by kernel_rfl) (segAt (i := 2) rfl (by intro j v hj; first | (rw [Nat.zero_add]; exact hj) | (match j, hj with | 0, h => exact h | 1, h => exact h)))) ?_
        refine anyVal (i := 1) (.slice (some ⟨b, o, none⟩) (ops.length) (c)) rfl rfl rfl (by kernel_rfl) (by kernel_rfl) (fun _ _ _ h => h) (rMove rfl rfl) ?_
        refine anyVal (i := 2) (.int .i64 ((i : Nat) : Int)) rfl rfl rfl (by kernel_rfl) (by kernel_rfl) (fun _ _ _ h => h) (rMove rfl rfl) ?_
        refine anyVal (i := 3) (.pointer (some ⟨b, o + i * 2, none⟩)) rfl rfl rfl (by kernel_rfl) (by kernel_rfl) (fun _ _ _ h => h) (rIndexAddr (e := 62) (sz := 2) rfl (by kernel_rfl) (by kernel_rfl) rfl rfl (by omega)) ?_
        refine anyVal (i := 4) (.pointer (some ⟨b, o + i * 2, none⟩)) rfl rfl rfl (by kernel_rfl) (by kernel_rfl) (fun _ _ _ h => h) (rClosed fun _ => by kernel_rfl) ?_
        refine anyVal (i := 5) (.string (strOf key)) rfl rfl rfl (by kernel_rfl) (by kernel_rfl) (fun _ _ _ h => h) (rLoadW rfl rfl (by kernel_rfl) (fun w hM => hM.old hck (by simp))) ?_
        refine anyVal (i := 6) (.int .i64 (-1)) rfl rfl rfl (by kernel_rfl) (by kernel_rfl) (fun _ _ _ h => h) (rMove rfl rfl) ?_
        refine anyOne (i := 7) (by kernel_rfl) rfl rfl ?_
        refine opCall 51 #[(.agg #[(.int .u64 ((seed : Nat) : Int)), (.slice (some ⟨g, 0, none⟩) (n) (c2))]), (.string (strOf key)), (.int .i64 (-1))] rfl (by kernel_rfl) (fun _ => by kernel_rfl) (fun w hM => ?_)
        refine (by have h := refAdd_any g c2 rest2 T key (-1) w (hM.at (i := 3) rfl) hk32; rw [hTl, hTs] at h; exact h : Calls _ _ _ w fun e w' => ∃ g c rest, e = .returned (.agg #[.int .u64 (seed : Int), .slice (some ⟨g, 0, none⟩) n c]) ∧ w.heap.size ≤ g ∧ Fr [] w w' ∧ RTab w' g c rest (T.change key (-1))).mono ?_
        rintro e w' ⟨g3, c3, rest3, rfl, hg, hf, ht⟩
        have hM' := hM.pushRTab hf ht hg
        refine ⟨_, _, rfl, hM', ?_⟩
        clear hM hM' hf ht hg
        refine anyNext [cAt b7 53 [(.int .u64 0), (.slice none 0 0)], cTab bt bc n [] (T.change key (-1)), cAt b11 53 [(.int .u64 ((seed : Nat) : Int)), (.slice (some ⟨g, 0, none⟩) (n) (c2))], cRTab g c2 rest2 T, cRTab g3 c3 rest3 (T.change key (-1))] (fun _ h => h.sub (.cons_cons _ (.cons_cons _ (.cons_cons _ (.cons_cons _ (.cons _ .slnil)))))) (fun _ h => h) ?_
        refine anyOne (i := 8) (by kernel_rfl) rfl rfl ?_
        refine opStoreN 2 [(.int .u64 ((seed : Nat) : Int)), (.slice (some ⟨g3, 0, none⟩) (n) (c3))] (vs := [(.int .u64 ((seed : Nat) : Int)), (.slice (some ⟨g3, 0, none⟩) (n) (c3))]) rfl rfl (by kernel_rfl) rfl rfl rfl (by kernel_rfl) rfl (by simp) (by simp [Value.oneCell']) rfl ?_
        refine anyLast (by kernel_rfl) rfl ?_
        refine qBlock ?_
        refine qThen ?_
        refine reg ?_
        refine li rfl (opVal (.int .i64 ((i : Nat) : Int)) rfl (by kernel_rfl) (rMove rfl rfl) ?_)
        refine li rfl (opVal (.int .i64 ((i + 1 : Nat) : Int)) rfl (by kernel_rfl) (rAdd _ rfl rfl rfl (by omega) (by omega) (by omega)) ?_)
        refine li rfl (opVal (.int .i64 ((i + 1 : Nat) : Int)) rfl (by kernel_rfl) (rAssign rfl rfl) ?_)
        refine liNil ?_
        refine qThen ?_
        exact stAgain (i + 1, g3, c3, rest3) (by show _ ≤ _; omega) (by show ops.length - (i + 1) < ops.length - i; omega) ⟨rfl, rfl, rfl, rfl, rfl, trivial⟩ (fun w hM => by show Mm _ _ [cAt b7 53 [(.int .u64 0), (.slice none 0 0)], cTab bt bc n [] (runTo (BT.new n seed) ops (i + 1)), cAt b11 53 [(.int .u64 ((seed : Nat) : Int)), (.slice (some ⟨g3, 0, none⟩) (n) (c3))], cRTab g3 c3 rest3 (runTo (BT.new n seed) ops (i + 1))] w; rw [HST.out]; exact (fun (w : World) (h : Mm _ _ _ w) => Mm.sub h (.cons_cons _ (.cons_cons _ (.cons_cons _ (.cons _ (.cons_cons _ .slnil)))))) w hM)
      · subst hc59
        have HST2 : stepOp T (key, false) = T.change key (1) := by simp [stepOp, hk32]
        rw [HST2] at HST
        refine reg ?_
        refine li rfl (opVal (.pointer (some ⟨bt, 0, none⟩)) rfl (by kernel_rfl) (rMove rfl rfl) ?_)
        refine li rfl (opVal (.slice (some ⟨b, o, none⟩) (ops.length) (c)) rfl (by kernel_rfl) (rMove rfl rfl) ?_)
        refine li rfl (opVal (.int .i64 ((i : Nat) : Int)) rfl (by kernel_rfl) (rMove rfl rfl) ?_)
        refine li rfl (opVal (.pointer (some ⟨b, o + i * 2, none⟩)) rfl (by kernel_rfl) (rIndexAddr (e := 62) (sz := 2) rfl (by kernel_rfl) (by kernel_rfl) rfl rfl (by omega)) ?_)
        refine li rfl (opVal (.pointer (some ⟨b, o + i * 2, none⟩)) rfl (by kernel_rfl) (rClosed fun _ => by kernel_rfl) ?_)
        refine li rfl (opVal (.string (strOf key)) rfl (by kernel_rfl) (rLoadW rfl rfl (by kernel_rfl) (fun w hM => hM.old hck (by simp))) ?_)
        refine li rfl ?_
        refine opCall 22 #[(.pointer (some ⟨bt, 0, none⟩)), (.string (strOf key))] rfl (by kernel_rfl) (fun _ => by kernel_rfl) (fun w hM => ?_)
        refine (insert_any bt bc n [] T key w (HV.out.mm hM) (hM.at (i := 1) rfl) hk32).mono ?_
        rintro e w' ⟨rfl, hf, ht⟩
        have hM' := hM.swapTab 1 rfl hf ht
        refine ⟨_, _, rfl, hM', ?_⟩
        clear hM hM' hf ht
        refine li rfl (opVal (.int .i64 0) rfl (by kernel_rfl) (rAssign rfl rfl) ?_)
        refine liNil ?_
        refine qThen ?_
        refine stSeq ?_
        refine stSeq ?_
        refine reg ?_
        refine li rfl (opVal (.int .i64 0) rfl (by kernel_rfl) (rMove rfl rfl) ?_)
        refine li rfl (opVal (.int .i64 0) rfl (by kernel_rfl) (rMove rfl rfl) ?_)
        refine li rfl (opVal (.bool false) rfl (by kernel_rfl) (rClosed fun _ => by kernel_rfl) ?_)
        refine liNil ?_
        refine qThen ?_
        refine stFalse rfl ?_
        refine stSkip ?_
        refine qThen ?_
        refine stSeq ?_
        refine reg ?_
        refine li rfl (opVal (.int .i64 0) rfl (by kernel_rfl) (rMove rfl rfl) ?_)
        refine li rfl (opVal (.bool true) rfl (by kernel_rfl) (rClosed fun _ => by kernel_rfl) ?_)
        refine liNil ?_
        refine qThen ?_
        refine stTrue rfl ?_
        refine anyBegin [cAt b7 53 [(.int .u64 0), (.slice none 0 0)], cTab bt bc n [] (T.change key (1)), cAt b11 53 [(.int .u64 ((seed : Nat) : Int)), (.slice (some ⟨g, 0, none⟩) (n) (c2))], cRTab g c2 rest2 T] 8 (by kernel_rfl) (fun _ h => h) ?_
        refine anyVal (i := 0) (.agg #[(.int .u64 ((seed : Nat) : Int)), (.slice (some ⟨g, 0, none⟩) (n) (c2))]) rfl rfl rfl (by kernel_rfl) (by kernel_rfl) (fun _ _ _ h => h) (rLoadA [(.int .u64 ((seed : Nat) : Int)), (.slice (some ⟨g, 0, none⟩) (n) (c2))] rfl rfl (by kernel_rfl) (by kernel_rfl) (segAt (i := 2) rfl (by intro j v hj; first | (rw [Nat.zero_add]; exact hj) | (match j, hj with | 0, h => exact h | 1, h => exact h)))) ?_
        refine anyVal (i := 1) (.slice (some ⟨b, o, none⟩) (ops.length) (c)) rfl rfl rfl (by kernel_rfl) (by kernel_rfl) (fun _ _ _ h => h) (rMove rfl rfl) ?_
        refine anyVal (i := 2) (.int .i64 ((i : Nat) : Int)) rfl rfl rfl (by kernel_rfl) (by kernel_rfl) (fun _ _ _ h => h) (rMove rfl rfl) ?_
        refine anyVal (i := 3) (.pointer (some ⟨b, o + i * 2, none⟩)) rfl rfl rfl (by kernel_rfl) (by kernel_rfl) (fun _ _ _ h => h) (rIndexAddr (e := 62) (sz := 2) rfl (by kernel_rfl) (by kernel_rfl) rfl rfl (by omega)) ?_
        refine anyVal (i := 4) (.pointer (some ⟨b, o + i * 2, none⟩)) rfl rfl rfl (by kernel_rfl) (by kernel_rfl) (fun _ _ _ h => h) (rClosed fun _ => by kernel_rfl) ?_
        refine anyVal (i := 5) (.string (strOf key)) rfl rfl rfl (by kernel_rfl) (by kernel_rfl) (fun _ _ _ h => h) (rLoadW rfl rfl (by kernel_rfl) (fun w hM => hM.old hck (by simp))) ?_
        refine anyVal (i := 6) (.int .i64 1) rfl rfl rfl (by kernel_rfl) (by kernel_rfl) (fun _ _ _ h => h) (rMove rfl rfl) ?_
        refine anyOne (i := 7) (by kernel_rfl) rfl rfl ?_
        refine opCall 51 #[(.agg #[(.int .u64 ((seed : Nat) : Int)), (.slice (some ⟨g, 0, none⟩) (n) (c2))]), (.string (strOf key)), (.int .i64 1)] rfl (by kernel_rfl) (fun _ => by kernel_rfl) (fun w hM => ?_)
        refine (by have h := refAdd_any g c2 rest2 T key (1) w (hM.at (i := 3) rfl) hk32; rw [hTl, hTs] at h; exact h : Calls _ _ _ w fun e w' => ∃ g c rest, e = .returned (.agg #[.int .u64 (seed : Int), .slice (some ⟨g, 0, none⟩) n c]) ∧ w.heap.size ≤ g ∧ Fr [] w w' ∧ RTab w' g c rest (T.change key (1))).mono ?_
        rintro e w' ⟨g3, c3, rest3, rfl, hg, hf, ht⟩
        have hM' := hM.pushRTab hf ht hg
        refine ⟨_, _, rfl, hM', ?_⟩
        clear hM hM' hf ht hg
        refine anyNext [cAt b7 53 [(.int .u64 0), (.slice none 0 0)], cTab bt bc n [] (T.change key (1)), cAt b11 53 [(.int .u64 ((seed : Nat) : Int)), (.slice (some ⟨g, 0, none⟩) (n) (c2))], cRTab g c2 rest2 T, cRTab g3 c3 rest3 (T.change key (1))] (fun _ h => h.sub (.cons_cons _ (.cons_cons _ (.cons_cons _ (.cons_cons _ (.cons _ .slnil)))))) (fun _ h => h) ?_
        refine anyOne (i := 8) (by kernel_rfl) rfl rfl ?_
        refine opStoreN 2 [(.int .u64 ((seed : Nat) : Int)), (.slice (some ⟨g3, 0, none⟩) (n) (c3))] (vs := [(.int .u64 ((seed : Nat) : Int)), (.slice (some ⟨g3, 0, none⟩) (n) (c3))]) rfl rfl (by kernel_rfl) rfl rfl rfl (by kernel_rfl) rfl (by simp) (by simp [Value.oneCell']) rfl ?_
        refine anyLast (by kernel_rfl) rfl ?_
        refine qBlock ?_
        refine qThen ?_
        refine reg ?_
        refine li rfl (opVal (.int .i64 ((i : Nat) : Int)) rfl (by kernel_rfl) (rMove rfl rfl) ?_)
        refine li rfl (opVal (.int .i64 ((i + 1 : Nat) : Int)) rfl (by kernel_rfl) (rAdd _ rfl rfl rfl (by omega) (by omega) (by omega)) ?_)
        refine li rfl (opVal (.int .i64 ((i + 1 : Nat) : Int)) rfl (by kernel_rfl) (rAssign rfl rfl) ?_)
        refine liNil ?_
        refine qThen ?_
        exact stAgain (i + 1, g3, c3, rest3) (by show _ ≤ _; omega) (by show ops.length - (i + 1) < ops.length - i; omega) ⟨rfl, rfl, rfl, rfl, rfl, trivial⟩ (fun w hM => by show Mm _ _ [cAt b7 53 [(.int .u64 0), (.slice none 0 0)], cTab bt bc n [] (runTo (BT.new n seed) ops (i + 1)), cAt b11 53 [(.int .u64 ((seed : Nat) : Int)), (.slice (some ⟨g3, 0, none⟩) (n) (c3))], cRTab g3 c3 rest3 (runTo (BT.new n seed) ops (i + 1))] w; rw [HST.out]; exact (fun (w : World) (h : Mm _ _ _ w) => Mm.sub h (.cons_cons _ (.cons_cons _ (.cons_cons _ (.cons _ (.cons_cons _ .slnil)))))) w hM)
  · have hd45 := of_decide_eq_false hc45
    obtain rfl : i = ops.length := by omega
    rw [runTo_all]
    refine stExit ?_
    refine qThenX ?_
    refine qThenX ?_
    refine qBlockX ?_
    refine qThen ?_
    refine stSeq ?_
    refine anyBegin [cTab bt bc n [] (runAll (BT.new n seed) ops), cAt b11 53 [(.int .u64 ((seed : Nat) : Int)), (.slice (some ⟨g, 0, none⟩) (n) (c2))], cRTab g c2 rest2 (runAll (BT.new n seed) ops)] 5 (by kernel_rfl) (fun _ h => h.sub (.cons _ (.cons_cons _ (.cons_cons _ (.cons_cons _ .slnil))))) ?_
    refine anyVal (i := 0) (.pointer (some ⟨bt, 0, none⟩)) rfl rfl rfl (by kernel_rfl) (by kernel_rfl) (fun _ _ _ h => h) (rMove rfl rfl) ?_
    refine anyVal (i := 1) (.agg #[(.int .u64 ((seed : Nat) : Int)), (.slice (some ⟨g, 0, none⟩) (n) (c2))]) rfl rfl rfl (by kernel_rfl) (by kernel_rfl) (fun _ _ _ h => h) (rLoadA [(.int .u64 ((seed : Nat) : Int)), (.slice (some ⟨g, 0, none⟩) (n) (c2))] rfl rfl (by kernel_rfl) (by kernel_rfl) (segAt (i := 1) rfl (by intro j v hj; first | (rw [Nat.zero_add]; exact hj) | (match j, hj with | 0, h => exact h | 1, h => exact h)))) ?_
    refine anyVal (i := 2) (.pointer (some ⟨bt, 0, none⟩)) rfl rfl rfl (by kernel_rfl) (by kernel_rfl) (fun _ _ _ h => h) (rAssign rfl rfl) ?_
    refine anyOne (i := 3) (by kernel_rfl) rfl rfl ?_
    refine opStoreN 0 [(.int .u64 ((seed : Nat) : Int)), (.slice (some ⟨g, 0, none⟩) (n) (c2))] (vs := [(.int .u64 ((seed : Nat) : Int)), (.slice (some ⟨g, 0, none⟩) (n) (c2))]) rfl rfl (by kernel_rfl) rfl rfl rfl (by kernel_rfl) rfl (by simp) (by simp [Value.oneCell']) rfl ?_
    refine anyNext [cTab bt bc n [] (runAll (BT.new n seed) ops), cAt b11 53 [(.int .u64 ((seed : Nat) : Int)), (.slice (some ⟨g, 0, none⟩) (n) (c2))], cRTab g c2 rest2 (runAll (BT.new n seed) ops)] (fun _ h => h) (fun _ h => h.sub (.cons _ (.cons_cons _ (.cons_cons _ (.cons_cons _ .slnil))))) ?_
    refine anyVal (i := 4) (.bool true) rfl rfl rfl (by kernel_rfl) (by kernel_rfl) (fun _ _ _ h => h) (rAssign rfl rfl) ?_
    refine anyDone (by kernel_rfl) ?_
    refine qThen ?_
    refine stRet ?_
    refine stEnd [(.pointer (some ⟨bt, 0, none⟩)), (.agg #[(.int .u64 ((seed : Nat) : Int)), (.slice (some ⟨g, 0, none⟩) (n) (c2))]), (.bool true)] rfl ⟨rfl, ⟨_, rfl, fun w hM => run_loadVarA (by kernel_rfl) (by kernel_rfl) (segAt (i := 0) (off := 0) rfl (by intro j v hj; rw [Nat.zero_add]; exact hj) w hM)⟩, rfl, trivial⟩ (fun w hM => ?_)
    exact ⟨bt, bc, n, [], g, c2, rest2, rfl, (fun (w : World) (h : Mm _ _ _ w) => Mm.sub h (.cons _ (.cons_cons _ (.cons _ (.cons_cons _ .slnil))))) w hM⟩

end Go.Proofs.YtnhagokkamobaaaDoor
