/- The law BloomtableKeys, walked. -/
import Derived.Test.YtnhagokkamobaaaDoorBlLawGives
import Derived.Test.YtnhagokkamobaaaDoorBlRefKeys3
namespace Go.Proofs.YtnhagokkamobaaaDoor
open Go.RowKit

theorem keys_peel (t : BT) : t.keys = match peel t.cells.length ⟨t, [], [], []⟩ with | none => none | some s => if s.t.empty then some (sortS s.added, sortS s.removed) else none := by
  unfold BT.keys BT.raw
  cases peel t.cells.length ⟨t, [], [], []⟩ with
  | none => rfl
  | some s => cases h : s.t.empty <;> simp [h]
theorem refKeys_none (n seed g0 cap0 : Nat) (rest0 : List Value) (t : BT) (w : World) (ht : RTab w g0 cap0 rest0 t) (hn : n = t.cells.length) (hs : seed = t.seed) (hk : t.keys = none) :
    Calls Tryd.prog 30 #[.agg #[.int .u64 (seed : Int), .slice (some ⟨g0, 0, none⟩) n cap0]] w fun e w' => ∃ v1 v2, e = .returned (.tuple #[v1, v2, .bool false]) ∧ Fr [] w w' := by
  refine (refKeys_any n seed g0 cap0 rest0 t w ht hn hs).mono ?_
  rintro e w' ⟨hf, h⟩
  rw [keys_peel, ← hn] at hk
  cases hp : peel n ⟨t, [], [], []⟩ with
  | none => rw [hp] at h; exact ⟨_, _, h, hf⟩
  | some s =>
    rw [hp] at h hk
    dsimp only at hk
    obtain ⟨A1, c1, A2, c2, he, _, _⟩ := h
    cases hem : s.t.empty with
    | true => rw [hem] at hk; simp at hk
    | false => rw [hem] at he; exact ⟨_, _, he, hf⟩
theorem refKeys_some (n seed g0 cap0 : Nat) (rest0 : List Value) (t : BT) (w : World) (ht : RTab w g0 cap0 rest0 t) (hn : n = t.cells.length) (hs : seed = t.seed) {a b : List (List UInt8)} (hk : t.keys = some (a, b)) :
    Calls Tryd.prog 30 #[.agg #[.int .u64 (seed : Int), .slice (some ⟨g0, 0, none⟩) n cap0]] w fun e w' => ∃ A1 c1 A2 c2, e = .returned (.tuple #[.slice A1 a.length c1, .slice A2 b.length c2, .bool true]) ∧ Fr [] w w' ∧ RowIn w' A1 (a.map S8v) ∧ RowIn w' A2 (b.map S8v) := by
  refine (refKeys_any n seed g0 cap0 rest0 t w ht hn hs).mono ?_
  rintro e w' ⟨hf, h⟩
  rw [keys_peel, ← hn] at hk
  cases hp : peel n ⟨t, [], [], []⟩ with
  | none => rw [hp] at hk; cases hk
  | some s =>
    rw [hp] at h hk
    dsimp only at hk
    obtain ⟨A1, c1, A2, c2, he, h1, h2⟩ := h
    cases hem : s.t.empty with
    | false => rw [hem] at hk; simp at hk
    | true =>
      rw [hem] at hk he
      simp only [if_true, Option.some.injEq, Prod.mk.injEq] at hk
      obtain ⟨rfl, rfl⟩ := hk
      exact ⟨A1, c1, A2, c2, by rw [he, sortS_len, sortS_len], hf, h1, h2⟩

set_option maxRecDepth 100000 in
set_option maxHeartbeats 1000000 in
theorem lawKeys_big (m : Int) (seed : Nat) (A : Option Addr) (c : Nat) (ops : List BOp) (w : World) (hv : Vars w) (hfew : fewB m ops.length = false) :
    Calls Tryd.prog 6 #[Value.int .i64 m, .int .u64 (seed : Int), .slice A ops.length c] w fun e w' => e = .returned (.bool true) ∧ Fr [] w w' := by
  have HV := Lib.hid hv
  clear hv
  refine stEnter (args := [Value.int .i64 m, .int .u64 (seed : Int), .slice A ops.length c]) [] Tryd.func6 rfl 90 rfl [(0, Value.int .i64 m), (1, .int .u64 (seed : Int)), (2, .slice A ops.length c)] ⟨rfl, rfl, rfl, trivial⟩ [] (Mm.start w []) ?_
  refine stSeq ?_
  refine reg ?_
  refine li rfl (opVal (.bool false) rfl (by kernel_rfl) (rAssign rfl rfl) ?_)
  refine liNil ?_
  refine qThen ?_
  refine stSeq ?_
  refine stSeq ?_
  refine reg ?_
  refine li rfl (opVal (.int .i64 m) rfl (by kernel_rfl) (rMove rfl rfl) ?_)
  refine li rfl (opVal (.slice A (ops.length) (c)) rfl (by kernel_rfl) (rMove rfl rfl) ?_)
  refine li rfl ?_
  refine opCall 28 #[(.int .i64 m), (.slice A (ops.length) (c))] rfl (by kernel_rfl) (fun _ => by kernel_rfl) (fun w hM => ?_)
  refine ((by rw [← hfew]; exact few_any _ _ _ _ w : Calls _ _ _ w fun e w' => e = .returned (.bool false) ∧ Fr [] w w')).mono ?_
  rintro e w' ⟨rfl, hf⟩
  have hM' := hM.fr0 hf
  refine ⟨(.bool false), _, rfl, hM', ?_⟩
  clear hM hM' hf
  refine li rfl (opVal (.bool true) rfl (by kernel_rfl) (rClosed fun _ => by kernel_rfl) ?_)
  refine liNil ?_
  refine qThen ?_
  refine stTrue rfl ?_
  refine stSeq ?_
  refine reg ?_
  refine li rfl ?_
  refine opCall 13 #[] rfl (by kernel_rfl) (fun _ => by kernel_rfl) (fun w hM => ?_)
  refine (awake_any w (HV.out.mm hM)).mono ?_
  rintro e w' ⟨rfl, hf⟩
  have hM' := hM.fr0 hf
  refine ⟨(.bool true), _, rfl, hM', ?_⟩
  clear hM hM' hf
  refine li rfl (opVal (.bool true) rfl (by kernel_rfl) (rAssign rfl rfl) ?_)
  refine liNil ?_
  refine qThen ?_
  refine stRet ?_
  refine qThenR ?_
  refine stEnd [(.bool true)] rfl ⟨rfl, trivial⟩ (fun w hM => ?_)
  exact ⟨rfl, hM.fr⟩

set_option maxRecDepth 100000 in
set_option maxHeartbeats 1000000 in
theorem lawKeys_bad (m : Int) (seed : Nat) (A : Option Addr) (c : Nat) (ops : List BOp) (w : World) (hv : Vars w) (hfew : fewB m ops.length = true) (hm : isSz m = false) :
    Calls Tryd.prog 6 #[Value.int .i64 m, .int .u64 (seed : Int), .slice A ops.length c] w fun e w' => e = .returned (.bool true) ∧ Fr [] w w' := by
  have HV := Lib.hid hv
  clear hv
  refine stEnter (args := [Value.int .i64 m, .int .u64 (seed : Int), .slice A ops.length c]) [] Tryd.func6 rfl 90 rfl [(0, Value.int .i64 m), (1, .int .u64 (seed : Int)), (2, .slice A ops.length c)] ⟨rfl, rfl, rfl, trivial⟩ [] (Mm.start w []) ?_
  refine stSeq ?_
  refine reg ?_
  refine li rfl (opVal (.bool false) rfl (by kernel_rfl) (rAssign rfl rfl) ?_)
  refine liNil ?_
  refine qThen ?_
  refine stSeq ?_
  refine stSeq ?_
  refine reg ?_
  refine li rfl (opVal (.int .i64 m) rfl (by kernel_rfl) (rMove rfl rfl) ?_)
  refine li rfl (opVal (.slice A (ops.length) (c)) rfl (by kernel_rfl) (rMove rfl rfl) ?_)
  refine li rfl ?_
  refine opCall 28 #[(.int .i64 m), (.slice A (ops.length) (c))] rfl (by kernel_rfl) (fun _ => by kernel_rfl) (fun w hM => ?_)
  refine ((by rw [← hfew]; exact few_any _ _ _ _ w : Calls _ _ _ w fun e w' => e = .returned (.bool true) ∧ Fr [] w w')).mono ?_
  rintro e w' ⟨rfl, hf⟩
  have hM' := hM.fr0 hf
  refine ⟨(.bool true), _, rfl, hM', ?_⟩
  clear hM hM' hf
  refine li rfl (opVal (.bool false) rfl (by kernel_rfl) (rClosed fun _ => by kernel_rfl) ?_)
  refine liNil ?_
  refine qThen ?_
  refine stFalse rfl ?_
  refine stSkip ?_
  refine qThen ?_
  refine stSeq ?_
  refine reg ?_
  refine li rfl (opVal (.int .i64 m) rfl (by kernel_rfl) (rMove rfl rfl) ?_)
  refine li rfl (opVal (.int .u64 ((seed : Nat) : Int)) rfl (by kernel_rfl) (rMove rfl rfl) ?_)
  refine li rfl (opVal (.slice A (ops.length) (c)) rfl (by kernel_rfl) (rMove rfl rfl) ?_)
  refine li rfl ?_
  refine opCall 29 #[(.int .i64 m), (.int .u64 ((seed : Nat) : Int)), (.slice A (ops.length) (c))] rfl (by kernel_rfl) (fun _ => by kernel_rfl) (fun w hM => ?_)
  refine (play_bad m seed A c ops w hm).mono ?_
  rintro e w' ⟨rfl, hf⟩
  have hM' := hM.fr0 hf
  refine ⟨(.tuple #[(.pointer none), (.agg #[(.int .u64 0), (.slice none 0 0)]), (.bool true)]), _, rfl, hM', ?_⟩
  clear hM hM' hf
  refine li rfl (opVal (.tuple #[(.pointer none), (.agg #[(.int .u64 0), (.slice none 0 0)]), (.bool true)]) rfl (by kernel_rfl) (rMove rfl rfl) ?_)
  refine li rfl (opVal (.pointer none) rfl (by kernel_rfl) (rClosed fun _ => by kernel_rfl) ?_)
  refine li rfl (opVal (.agg #[(.int .u64 0), (.slice none 0 0)]) rfl (by kernel_rfl) (rClosed fun _ => by kernel_rfl) ?_)
  refine li rfl (opVal (.bool true) rfl (by kernel_rfl) (rClosed fun _ => by kernel_rfl) ?_)
  refine li rfl ?_
  refine opAlloc [(.int .u64 0), (.slice none 0 0)] rfl rfl (by kernel_rfl) (by kernel_rfl) (fun b8 => ?_)
  refine li rfl (opVal (.pointer none) rfl (by kernel_rfl) (rAssign rfl rfl) ?_)
  refine li rfl ?_
  refine opStoreN 0 [(.int .u64 0), (.slice none 0 0)] (vs := [(.int .u64 0), (.slice none 0 0)]) rfl rfl (by kernel_rfl) rfl rfl rfl (by kernel_rfl) rfl (by simp) (by simp [Value.oneCell']) rfl ?_
  refine li rfl (opVal (.bool true) rfl (by kernel_rfl) (rAssign rfl rfl) ?_)
  refine liNil ?_
  refine qThen ?_
  refine stSeq ?_
  refine stSeq ?_
  refine reg ?_
  refine li rfl (opVal (.bool true) rfl (by kernel_rfl) (rMove rfl rfl) ?_)
  refine li rfl (opVal (.bool false) rfl (by kernel_rfl) (rClosed fun _ => by kernel_rfl) ?_)
  refine li rfl (opVal (.bool false) rfl (by kernel_rfl) (rMove rfl rfl) ?_)
  refine liGo rfl rfl (opVal (.pointer none) rfl (by kernel_rfl) (rMove rfl rfl) ?_)
  refine liGo rfl rfl (opVal (.bool true) rfl (by kernel_rfl) (rClosed fun _ => by kernel_rfl) ?_)
  refine li rfl (opVal (.bool true) rfl (by kernel_rfl) (rClosed fun _ => by kernel_rfl) ?_)
  refine liNil ?_
  refine qThen ?_
  refine stTrue rfl ?_
  refine stSeq ?_
  refine reg ?_
  refine li rfl (opVal (.bool true) rfl (by kernel_rfl) (rMove rfl rfl) ?_)
  refine li rfl (opVal (.bool true) rfl (by kernel_rfl) (rMove rfl rfl) ?_)
  refine liGo rfl rfl ?_
  refine opCall 13 #[] rfl (by kernel_rfl) (fun _ => by kernel_rfl) (fun w hM => ?_)
  refine (awake_any w (HV.out.mm hM)).mono ?_
  rintro e w' ⟨rfl, hf⟩
  have hM' := hM.fr0 hf
  refine ⟨(.bool true), _, rfl, hM', ?_⟩
  clear hM hM' hf
  refine li rfl (opVal (.bool true) rfl (by kernel_rfl) (rClosed fun _ => by kernel_rfl) ?_)
  refine li rfl (opVal (.bool true) rfl (by kernel_rfl) (rAssign rfl rfl) ?_)
  refine liNil ?_
  refine qThen ?_
  refine stRet ?_
  refine qThenR ?_
  refine stEnd [(.bool true)] rfl ⟨rfl, trivial⟩ (fun w hM => ?_)
  exact ⟨rfl, hM.fr⟩

set_option maxRecDepth 100000 in
set_option maxHeartbeats 1000000 in
theorem lawKeys_none (n seed : Nat) (A : Option Addr) (c : Nat) (ops : List BOp) (w : World) (hv : Vars w) (hfew : fewB (n : Int) ops.length = true) (hn : isSz (n : Int) = true) (hu : U64 seed) (hr : RowIn w A (opCells ops)) (hl : ops.length ≤ 1000000) (hkey : (runAll (BT.new n seed) ops).keys = none) :
    Calls Tryd.prog 6 #[Value.int .i64 (n : Int), .int .u64 (seed : Int), .slice A ops.length c] w fun e w' => e = .returned (.bool true) ∧ Fr [] w w' := by
  have HV := Lib.hid hv
  clear hv
  have HU := Lib.hid hu
  have HR := Lib.hid hr
  clear hu hr
  obtain ⟨T, HT⟩ : ∃ T, Hid (T = runAll (BT.new n seed) ops) := ⟨_, rfl⟩
  have hTl : T.cells.length = n := by rw [HT.out, runAll_len]; simp [BT.new]
  have hTs : T.seed = seed := by rw [HT.out, runAll_seed]; rfl
  rw [← HT.out] at hkey
  refine stEnter (args := [Value.int .i64 (n : Int), .int .u64 (seed : Int), .slice A ops.length c]) [] Tryd.func6 rfl 90 rfl [(0, Value.int .i64 (n : Int)), (1, .int .u64 (seed : Int)), (2, .slice A ops.length c)] ⟨rfl, rfl, rfl, trivial⟩ [] (Mm.start w []) ?_
  refine stSeq ?_
  refine reg ?_
  refine li rfl (opVal (.bool false) rfl (by kernel_rfl) (rAssign rfl rfl) ?_)
  refine liNil ?_
  refine qThen ?_
  refine stSeq ?_
  refine stSeq ?_
  refine reg ?_
  refine li rfl (opVal (.int .i64 ((n : Nat) : Int)) rfl (by kernel_rfl) (rMove rfl rfl) ?_)
  refine li rfl (opVal (.slice A (ops.length) (c)) rfl (by kernel_rfl) (rMove rfl rfl) ?_)
  refine li rfl ?_
  refine opCall 28 #[(.int .i64 ((n : Nat) : Int)), (.slice A (ops.length) (c))] rfl (by kernel_rfl) (fun _ => by kernel_rfl) (fun w hM => ?_)
  refine ((by rw [← hfew]; exact few_any _ _ _ _ w : Calls _ _ _ w fun e w' => e = .returned (.bool true) ∧ Fr [] w w')).mono ?_
  rintro e w' ⟨rfl, hf⟩
  have hM' := hM.fr0 hf
  refine ⟨(.bool true), _, rfl, hM', ?_⟩
  clear hM hM' hf
  refine li rfl (opVal (.bool false) rfl (by kernel_rfl) (rClosed fun _ => by kernel_rfl) ?_)
  refine liNil ?_
  refine qThen ?_
  refine stFalse rfl ?_
  refine stSkip ?_
  refine qThen ?_
  refine stSeq ?_
  refine reg ?_
  refine li rfl (opVal (.int .i64 ((n : Nat) : Int)) rfl (by kernel_rfl) (rMove rfl rfl) ?_)
  refine li rfl (opVal (.int .u64 ((seed : Nat) : Int)) rfl (by kernel_rfl) (rMove rfl rfl) ?_)
  refine li rfl (opVal (.slice A (ops.length) (c)) rfl (by kernel_rfl) (rMove rfl rfl) ?_)
  refine li rfl ?_
  refine opCall 29 #[(.int .i64 ((n : Nat) : Int)), (.int .u64 ((seed : Nat) : Int)), (.slice A (ops.length) (c))] rfl (by kernel_rfl) (fun _ => by kernel_rfl) (fun w hM => ?_)
  refine (by have h := play_any n seed A (c) (ops) w hn (HV.out.mm hM) HU.out (HR.out.fr0 hM.fr) (hl); rw [← HT.out] at h; exact h : Calls _ _ _ w (Played n seed T w)).mono ?_
  rintro e w' ⟨bt, bc, cap, rest, g, rc, rr, rfl, hP⟩
  have hM' := hM.lift hP
  refine ⟨_, _, rfl, hM', ?_⟩
  clear hM hM' hP
  refine li rfl (opVal (.tuple #[(.pointer (some ⟨bt, 0, none⟩)), (.agg #[(.int .u64 ((seed : Nat) : Int)), (.slice (some ⟨g, 0, none⟩) (n) (rc))]), (.bool true)]) rfl (by kernel_rfl) (rMove rfl rfl) ?_)
  refine li rfl (opVal (.pointer (some ⟨bt, 0, none⟩)) rfl (by kernel_rfl) (rClosed fun _ => by kernel_rfl) ?_)
  refine li rfl (opVal (.agg #[(.int .u64 ((seed : Nat) : Int)), (.slice (some ⟨g, 0, none⟩) (n) (rc))]) rfl (by kernel_rfl) (rClosed fun _ => by kernel_rfl) ?_)
  refine li rfl (opVal (.bool true) rfl (by kernel_rfl) (rClosed fun _ => by kernel_rfl) ?_)
  refine li rfl ?_
  refine opAlloc [(.int .u64 0), (.slice none 0 0)] rfl rfl (by kernel_rfl) (by kernel_rfl) (fun b8 => ?_)
  refine li rfl (opVal (.pointer (some ⟨bt, 0, none⟩)) rfl (by kernel_rfl) (rAssign rfl rfl) ?_)
  refine li rfl ?_
  refine opStoreN 2 [(.int .u64 ((seed : Nat) : Int)), (.slice (some ⟨g, 0, none⟩) (n) (rc))] (vs := [(.int .u64 ((seed : Nat) : Int)), (.slice (some ⟨g, 0, none⟩) (n) (rc))]) rfl rfl (by kernel_rfl) rfl rfl rfl (by kernel_rfl) rfl (by simp) (by simp [Value.oneCell']) rfl ?_
  refine li rfl (opVal (.bool true) rfl (by kernel_rfl) (rAssign rfl rfl) ?_)
  refine liNil ?_
  refine qThen ?_
  refine stSeq ?_
  refine stSeq ?_
  refine reg ?_
  refine li rfl (opVal (.bool true) rfl (by kernel_rfl) (rMove rfl rfl) ?_)
  refine li rfl (opVal (.bool false) rfl (by kernel_rfl) (rClosed fun _ => by kernel_rfl) ?_)
  refine li rfl (opVal (.bool false) rfl (by kernel_rfl) (rMove rfl rfl) ?_)
  refine liGo rfl rfl (opVal (.pointer (some ⟨bt, 0, none⟩)) rfl (by kernel_rfl) (rMove rfl rfl) ?_)
  refine liGo rfl rfl (opVal (.bool false) rfl (by kernel_rfl) (rClosed fun _ => by kernel_rfl) ?_)
  refine li rfl (opVal (.bool false) rfl (by kernel_rfl) (rClosed fun _ => by kernel_rfl) ?_)
  refine liNil ?_
  refine qThen ?_
  refine stFalse rfl ?_
  refine stSkip ?_
  refine qThen ?_
  refine stSeq ?_
  refine reg ?_
  refine li rfl (opVal (.pointer (some ⟨bt, 0, none⟩)) rfl (by kernel_rfl) (rMove rfl rfl) ?_)
  refine li rfl ?_
  refine opCall 26 #[(.pointer (some ⟨bt, 0, none⟩))] rfl (by kernel_rfl) (fun _ => by kernel_rfl) (fun w hM => ?_)
  refine (keys_none hkey (HV.out.mm hM) (hM.at (i := 0) rfl)).mono ?_
  rintro e w' ⟨rfl, hf⟩
  have hM' := hM.fr0 hf
  refine ⟨_, _, rfl, hM', ?_⟩
  clear hM hM' hf
  refine li rfl (opVal (.tuple #[(.slice none 0 0), (.slice none 0 0), (.int .i64 10)]) rfl (by kernel_rfl) (rMove rfl rfl) ?_)
  refine li rfl (opVal (.slice none 0 0) rfl (by kernel_rfl) (rClosed fun _ => by kernel_rfl) ?_)
  refine li rfl (opVal (.slice none 0 0) rfl (by kernel_rfl) (rClosed fun _ => by kernel_rfl) ?_)
  refine li rfl (opVal (.int .i64 10) rfl (by kernel_rfl) (rClosed fun _ => by kernel_rfl) ?_)
  refine li rfl (opVal (.slice none 0 0) rfl (by kernel_rfl) (rAssign rfl rfl) ?_)
  refine li rfl (opVal (.slice none 0 0) rfl (by kernel_rfl) (rAssign rfl rfl) ?_)
  refine li rfl (opVal (.int .i64 10) rfl (by kernel_rfl) (rAssign rfl rfl) ?_)
  refine liNil ?_
  refine qThen ?_
  refine stSeq ?_
  refine reg ?_
  refine li rfl (opVal (.agg #[(.int .u64 ((seed : Nat) : Int)), (.slice (some ⟨g, 0, none⟩) (n) (rc))]) rfl (by kernel_rfl) (rLoadA [(.int .u64 ((seed : Nat) : Int)), (.slice (some ⟨g, 0, none⟩) (n) (rc))] rfl rfl (by kernel_rfl) (by kernel_rfl) (segAt (i := 2) rfl (by intro j v hj; first | (rw [Nat.zero_add]; exact hj) | (match j, hj with | 0, h => exact h | 1, h => exact h)))) ?_)
  refine li rfl ?_
  refine opCall 30 #[(.agg #[(.int .u64 ((seed : Nat) : Int)), (.slice (some ⟨g, 0, none⟩) (n) (rc))])] rfl (by kernel_rfl) (fun _ => by kernel_rfl) (fun w hM => ?_)
  refine (refKeys_none n seed _ _ _ T w (hM.at (i := 1) rfl) hTl.symm hTs.symm hkey).mono ?_
  rintro e w' ⟨v1, v2, rfl, hf⟩
  have hM' := hM.fr0 hf
  refine ⟨_, _, rfl, hM', ?_⟩
  clear hM hM' hf
  refine li rfl (opVal (.tuple #[v1, v2, (.bool false)]) rfl (by kernel_rfl) (rMove rfl rfl) ?_)
  refine li rfl (opVal v1 rfl (by kernel_rfl) (rClosed fun _ => by kernel_rfl) ?_)
  refine li rfl (opVal v2 rfl (by kernel_rfl) (rClosed fun _ => by kernel_rfl) ?_)
  refine li rfl (opVal (.bool false) rfl (by kernel_rfl) (rClosed fun _ => by kernel_rfl) ?_)
  refine li rfl (opVal v1 rfl (by kernel_rfl) (rAssign rfl rfl) ?_)
  refine li rfl (opVal v2 rfl (by kernel_rfl) (rAssign rfl rfl) ?_)
  refine li rfl (opVal (.bool false) rfl (by kernel_rfl) (rAssign rfl rfl) ?_)
  refine liNil ?_
  refine qThen ?_
  refine stSeq ?_
  refine stSeq ?_
  refine anyBegin [cTab bt bc cap rest T, cRTab g rc rr T, cAt b8 53 [(.int .u64 ((seed : Nat) : Int)), (.slice (some ⟨g, 0, none⟩) (n) (rc))]] 7 (by kernel_rfl) (fun _ h => h) ?_
  refine anyVal (i := 0) (.pointer (some ⟨bt, 0, none⟩)) rfl rfl rfl (by kernel_rfl) (by kernel_rfl) (fun _ _ _ h => h) (rMove rfl rfl) ?_
  refine anyVal (i := 3) (.agg #[(.int .u64 ((seed : Nat) : Int)), (.slice (some ⟨g, 0, none⟩) (n) (rc))]) rfl rfl rfl (by kernel_rfl) (by kernel_rfl) (fun _ _ _ h => h) (rLoadA [(.int .u64 ((seed : Nat) : Int)), (.slice (some ⟨g, 0, none⟩) (n) (rc))] rfl rfl (by kernel_rfl) (by kernel_rfl) (segAt (i := 2) rfl (by intro j v hj; first | (rw [Nat.zero_add]; exact hj) | (match j, hj with | 0, h => exact h | 1, h => exact h)))) ?_
  refine anyOne (i := 1) (by kernel_rfl) rfl rfl ?_
  refine opCall 31 #[(.pointer (some ⟨bt, 0, none⟩))] rfl (by kernel_rfl) (fun _ => by kernel_rfl) (fun w hM => ?_)
  refine (encode_any _ _ _ _ T w (hM.at (i := 0) rfl)).mono ?_
  rintro e w' ⟨v, rfl, hN⟩
  obtain ⟨A52, c52, rfl, hM'⟩ := hM.pushOwn hN.fr hN.own
  refine ⟨_, _, rfl, hM', ?_⟩
  clear hM hN hM'
  refine anyNext [cTab bt bc cap rest T, cRTab g rc rr T, cAt b8 53 [(.int .u64 ((seed : Nat) : Int)), (.slice (some ⟨g, 0, none⟩) (n) (rc))], cOwn 5 1 A52 ((T.enc).length) (c52) (B8 (T.enc))] (fun _ h => h.sub (.cons_cons _ (.cons_cons _ (.cons_cons _ (.cons _ .slnil))))) (fun _ h => h) ?_
  refine anyVal (i := 2) (.string (strOf (T.enc))) rfl rfl rfl (by kernel_rfl) (by kernel_rfl) (fun _ _ _ h => h) (rStr (e := 5) (T.enc) rfl (by kernel_rfl) (by kernel_rfl) (by kernel_rfl) rfl rfl (rowOwn (i := 3) rfl)) ?_
  refine anyOne (i := 4) (by kernel_rfl) rfl rfl ?_
  refine opCall 32 #[(.agg #[(.int .u64 ((seed : Nat) : Int)), (.slice (some ⟨g, 0, none⟩) (n) (rc))])] rfl (by kernel_rfl) (fun _ => by kernel_rfl) (fun w hM => ?_)
  refine (by have h := refEncode_any _ _ _ T w (hM.at (i := 1) rfl); rw [hTl, hTs] at h; exact h : Calls _ _ _ w (NewRow T.enc w)).mono ?_
  rintro e w' hN
  obtain ⟨A55, c55, rfl, hM'⟩ := hM.newRow hN
  refine ⟨_, _, rfl, hM', ?_⟩
  clear hM hN hM'
  refine anyNext [cTab bt bc cap rest T, cRTab g rc rr T, cAt b8 53 [(.int .u64 ((seed : Nat) : Int)), (.slice (some ⟨g, 0, none⟩) (n) (rc))], cOwn 5 1 A52 ((T.enc).length) (c52) (B8 (T.enc)), cOwn 5 1 A55 ((T.enc).length) (c55) (B8 (T.enc))] (fun _ h => h.sub (.cons_cons _ (.cons_cons _ (.cons_cons _ (.cons_cons _ (.cons _ .slnil)))))) (fun _ h => h) ?_
  refine anyVal (i := 5) (.string (strOf (T.enc))) rfl rfl rfl (by kernel_rfl) (by kernel_rfl) (fun _ _ _ h => h) (rStr (e := 5) (T.enc) rfl (by kernel_rfl) (by kernel_rfl) (by kernel_rfl) rfl rfl (rowOwn (i := 4) rfl)) ?_
  refine anyVal (i := 6) (.bool false) rfl rfl rfl (by kernel_rfl) (by kernel_rfl) (fun _ _ _ h => h) (rConv (rStrNe rfl rfl rfl) (by simp)) ?_
  refine anyDone (by kernel_rfl) ?_
  refine qThen ?_
  refine stFalse rfl ?_
  refine stSkip ?_
  refine qThen ?_
  refine stSeq ?_
  refine stSeq ?_
  refine reg ?_
  refine li rfl (opVal (.bool false) rfl (by kernel_rfl) (rMove rfl rfl) ?_)
  refine li rfl (opVal (.bool true) rfl (by kernel_rfl) (rClosed fun _ => by kernel_rfl) ?_)
  refine liNil ?_
  refine qThen ?_
  refine stTrue rfl ?_
  refine stSeq ?_
  refine reg ?_
  refine li rfl ?_
  refine opCall 13 #[] rfl (by kernel_rfl) (fun _ => by kernel_rfl) (fun w hM => ?_)
  refine (awake_any w (HV.out.mm hM)).mono ?_
  rintro e w' ⟨rfl, hf⟩
  have hM' := hM.fr0 hf
  refine ⟨(.bool true), _, rfl, hM', ?_⟩
  clear hM hM' hf
  refine li rfl (opVal (.bool true) rfl (by kernel_rfl) (rMove rfl rfl) ?_)
  refine liGo rfl rfl (opVal (.int .i64 10) rfl (by kernel_rfl) (rMove rfl rfl) ?_)
  refine liGo rfl rfl (opVal (.bool true) rfl (by kernel_rfl) (rClosed fun _ => by kernel_rfl) ?_)
  refine li rfl (opVal (.bool true) rfl (by kernel_rfl) (rClosed fun _ => by kernel_rfl) ?_)
  refine li rfl (opVal (.bool true) rfl (by kernel_rfl) (rMove rfl rfl) ?_)
  refine liGo rfl rfl (opVal (.slice none 0 0) rfl (by kernel_rfl) (rMove rfl rfl) ?_)
  refine liGo rfl rfl (opVal (.int .i64 0) rfl (by kernel_rfl) (rClosed fun _ => by kernel_rfl) ?_)
  refine liGo rfl rfl (opVal (.bool true) rfl (by kernel_rfl) (rClosed fun _ => by kernel_rfl) ?_)
  refine li rfl (opVal (.bool true) rfl (by kernel_rfl) (rClosed fun _ => by kernel_rfl) ?_)
  refine li rfl (opVal (.bool true) rfl (by kernel_rfl) (rMove rfl rfl) ?_)
  refine liGo rfl rfl (opVal (.slice none 0 0) rfl (by kernel_rfl) (rMove rfl rfl) ?_)
  refine liGo rfl rfl (opVal (.int .i64 0) rfl (by kernel_rfl) (rClosed fun _ => by kernel_rfl) ?_)
  refine liGo rfl rfl (opVal (.bool true) rfl (by kernel_rfl) (rClosed fun _ => by kernel_rfl) ?_)
  refine li rfl (opVal (.bool true) rfl (by kernel_rfl) (rClosed fun _ => by kernel_rfl) ?_)
  refine li rfl (opVal (.bool true) rfl (by kernel_rfl) (rAssign rfl rfl) ?_)
  refine liNil ?_
  refine qThen ?_
  refine stRet ?_
  refine qThenR ?_
  refine stEnd [(.bool true)] rfl ⟨rfl, trivial⟩ (fun w hM => ?_)
  exact ⟨rfl, hM.fr⟩

set_option maxRecDepth 100000 in
set_option maxHeartbeats 1000000 in
theorem lawKeys_some (n seed : Nat) (A : Option Addr) (c : Nat) (ops : List BOp) (w : World) (hv : Vars w) (hfew : fewB (n : Int) ops.length = true) (hn : isSz (n : Int) = true) (hu : U64 seed) (hr : RowIn w A (opCells ops)) (hl : ops.length ≤ 1000000) (la lb : List (List UInt8)) (hkey : (runAll (BT.new n seed) ops).keys = some (la, lb)) (hlla : la.length ≤ 1000000) (hllb : lb.length ≤ 1000000) :
    Calls Tryd.prog 6 #[Value.int .i64 (n : Int), .int .u64 (seed : Int), .slice A ops.length c] w fun e w' => e = .returned (.bool true) ∧ Fr [] w w' := by
  have HV := Lib.hid hv
  clear hv
  have HU := Lib.hid hu
  have HR := Lib.hid hr
  clear hu hr
  obtain ⟨T, HT⟩ : ∃ T, Hid (T = runAll (BT.new n seed) ops) := ⟨_, rfl⟩
  have hTl : T.cells.length = n := by rw [HT.out, runAll_len]; simp [BT.new]
  have hTs : T.seed = seed := by rw [HT.out, runAll_seed]; rfl
  rw [← HT.out] at hkey
  refine stEnter (args := [Value.int .i64 (n : Int), .int .u64 (seed : Int), .slice A ops.length c]) [] Tryd.func6 rfl 90 rfl [(0, Value.int .i64 (n : Int)), (1, .int .u64 (seed : Int)), (2, .slice A ops.length c)] ⟨rfl, rfl, rfl, trivial⟩ [] (Mm.start w []) ?_
  refine stSeq ?_
  refine reg ?_
  refine li rfl (opVal (.bool false) rfl (by kernel_rfl) (rAssign rfl rfl) ?_)
  refine liNil ?_
  refine qThen ?_
  refine stSeq ?_
  refine stSeq ?_
  refine reg ?_
  refine li rfl (opVal (.int .i64 ((n : Nat) : Int)) rfl (by kernel_rfl) (rMove rfl rfl) ?_)
  refine li rfl (opVal (.slice A (ops.length) (c)) rfl (by kernel_rfl) (rMove rfl rfl) ?_)
  refine li rfl ?_
  refine opCall 28 #[(.int .i64 ((n : Nat) : Int)), (.slice A (ops.length) (c))] rfl (by kernel_rfl) (fun _ => by kernel_rfl) (fun w hM => ?_)
  refine ((by rw [← hfew]; exact few_any _ _ _ _ w : Calls _ _ _ w fun e w' => e = .returned (.bool true) ∧ Fr [] w w')).mono ?_
  rintro e w' ⟨rfl, hf⟩
  have hM' := hM.fr0 hf
  refine ⟨(.bool true), _, rfl, hM', ?_⟩
  clear hM hM' hf
  refine li rfl (opVal (.bool false) rfl (by kernel_rfl) (rClosed fun _ => by kernel_rfl) ?_)
  refine liNil ?_
  refine qThen ?_
  refine stFalse rfl ?_
  refine stSkip ?_
  refine qThen ?_
  refine stSeq ?_
  refine reg ?_
  refine li rfl (opVal (.int .i64 ((n : Nat) : Int)) rfl (by kernel_rfl) (rMove rfl rfl) ?_)
  refine li rfl (opVal (.int .u64 ((seed : Nat) : Int)) rfl (by kernel_rfl) (rMove rfl rfl) ?_)
  refine li rfl (opVal (.slice A (ops.length) (c)) rfl (by kernel_rfl) (rMove rfl rfl) ?_)
  refine li rfl ?_
  refine opCall 29 #[(.int .i64 ((n : Nat) : Int)), (.int .u64 ((seed : Nat) : Int)), (.slice A (ops.length) (c))] rfl (by kernel_rfl) (fun _ => by kernel_rfl) (fun w hM => ?_)
  refine (by have h := play_any n seed A (c) (ops) w hn (HV.out.mm hM) HU.out (HR.out.fr0 hM.fr) (hl); rw [← HT.out] at h; exact h : Calls _ _ _ w (Played n seed T w)).mono ?_
  rintro e w' ⟨bt, bc, cap, rest, g, rc, rr, rfl, hP⟩
  have hM' := hM.lift hP
  refine ⟨_, _, rfl, hM', ?_⟩
  clear hM hM' hP
  refine li rfl (opVal (.tuple #[(.pointer (some ⟨bt, 0, none⟩)), (.agg #[(.int .u64 ((seed : Nat) : Int)), (.slice (some ⟨g, 0, none⟩) (n) (rc))]), (.bool true)]) rfl (by kernel_rfl) (rMove rfl rfl) ?_)
  refine li rfl (opVal (.pointer (some ⟨bt, 0, none⟩)) rfl (by kernel_rfl) (rClosed fun _ => by kernel_rfl) ?_)
  refine li rfl (opVal (.agg #[(.int .u64 ((seed : Nat) : Int)), (.slice (some ⟨g, 0, none⟩) (n) (rc))]) rfl (by kernel_rfl) (rClosed fun _ => by kernel_rfl) ?_)
  refine li rfl (opVal (.bool true) rfl (by kernel_rfl) (rClosed fun _ => by kernel_rfl) ?_)
  refine li rfl ?_
  refine opAlloc [(.int .u64 0), (.slice none 0 0)] rfl rfl (by kernel_rfl) (by kernel_rfl) (fun b8 => ?_)
  refine li rfl (opVal (.pointer (some ⟨bt, 0, none⟩)) rfl (by kernel_rfl) (rAssign rfl rfl) ?_)
  refine li rfl ?_
  refine opStoreN 2 [(.int .u64 ((seed : Nat) : Int)), (.slice (some ⟨g, 0, none⟩) (n) (rc))] (vs := [(.int .u64 ((seed : Nat) : Int)), (.slice (some ⟨g, 0, none⟩) (n) (rc))]) rfl rfl (by kernel_rfl) rfl rfl rfl (by kernel_rfl) rfl (by simp) (by simp [Value.oneCell']) rfl ?_
  refine li rfl (opVal (.bool true) rfl (by kernel_rfl) (rAssign rfl rfl) ?_)
  refine liNil ?_
  refine qThen ?_
  refine stSeq ?_
  refine stSeq ?_
  refine reg ?_
  refine li rfl (opVal (.bool true) rfl (by kernel_rfl) (rMove rfl rfl) ?_)
  refine li rfl (opVal (.bool false) rfl (by kernel_rfl) (rClosed fun _ => by kernel_rfl) ?_)
  refine li rfl (opVal (.bool false) rfl (by kernel_rfl) (rMove rfl rfl) ?_)
  refine liGo rfl rfl (opVal (.pointer (some ⟨bt, 0, none⟩)) rfl (by kernel_rfl) (rMove rfl rfl) ?_)
  refine liGo rfl rfl (opVal (.bool false) rfl (by kernel_rfl) (rClosed fun _ => by kernel_rfl) ?_)
  refine li rfl (opVal (.bool false) rfl (by kernel_rfl) (rClosed fun _ => by kernel_rfl) ?_)
  refine liNil ?_
  refine qThen ?_
  refine stFalse rfl ?_
  refine stSkip ?_
  refine qThen ?_
  refine stSeq ?_
  refine reg ?_
  refine li rfl (opVal (.pointer (some ⟨bt, 0, none⟩)) rfl (by kernel_rfl) (rMove rfl rfl) ?_)
  refine li rfl ?_
  refine opCallB 26 #[(.pointer (some ⟨bt, 0, none⟩))] rfl (by kernel_rfl) (fun _ => by kernel_rfl) (fun w hM => ?_)
  refine (keys_some hkey (HV.out.mm hM) (hM.at (i := 0) rfl)).mono ?_
  rintro e w1 ⟨Aa, ca, Ab, cb, rfl, hf, hra, hrb⟩
  have hM1 := hM.fr0 hf
  refine ⟨_, w1, [], [], rfl, Mm.start w1 [], ?_⟩
  have HF1 := Lib.hid hM1.fr
  have HV1 : Hid (Vars w1) := HV.out.mm hM1
  have HT1 : Hid (TabAt w1 bt bc cap rest T) := hM1.at (i := 0) rfl
  have HRT : Hid (RTab w1 g rc rr T) := hM1.at (i := 1) rfl
  have HB8 : Hid (At w1 b8 53 [.int .u64 (seed : Int), .slice (some ⟨g, 0, none⟩) n rc]) := hM1.at (i := 2) rfl
  have HA := Lib.hid hra
  have HB := Lib.hid hrb
  clear hM hM1 hf hra hrb
  refine li rfl (opVal (.tuple #[(.slice Aa (la.length) (ca)), (.slice Ab (lb.length) (cb)), (.int .i64 0)]) rfl (by kernel_rfl) (rMove rfl rfl) ?_)
  refine li rfl (opVal (.slice Aa (la.length) (ca)) rfl (by kernel_rfl) (rClosed fun _ => by kernel_rfl) ?_)
  refine li rfl (opVal (.slice Ab (lb.length) (cb)) rfl (by kernel_rfl) (rClosed fun _ => by kernel_rfl) ?_)
  refine li rfl (opVal (.int .i64 0) rfl (by kernel_rfl) (rClosed fun _ => by kernel_rfl) ?_)
  refine li rfl (opVal (.slice Aa (la.length) (ca)) rfl (by kernel_rfl) (rAssign rfl rfl) ?_)
  refine li rfl (opVal (.slice Ab (lb.length) (cb)) rfl (by kernel_rfl) (rAssign rfl rfl) ?_)
  refine li rfl (opVal (.int .i64 0) rfl (by kernel_rfl) (rAssign rfl rfl) ?_)
  refine liNil ?_
  refine qThen ?_
  refine stSeq ?_
  refine reg ?_
  refine li rfl (opVal (.agg #[(.int .u64 ((seed : Nat) : Int)), (.slice (some ⟨g, 0, none⟩) (n) (rc))]) rfl (by kernel_rfl) (rLoadA [.int .u64 (seed : Int), .slice (some ⟨g, 0, none⟩) n rc] rfl rfl (by kernel_rfl) (by kernel_rfl) (fun w hM j v hj => hM.old (by rw [Nat.zero_add, HB8.out.cell]; exact hj) (by simp))) ?_)
  refine li rfl ?_
  refine opCallB 30 #[(.agg #[(.int .u64 ((seed : Nat) : Int)), (.slice (some ⟨g, 0, none⟩) (n) (rc))])] rfl (by kernel_rfl) (fun _ => by kernel_rfl) (fun w hM => ?_)
  refine (refKeys_some n seed _ _ _ T w (HRT.out.fr hM.fr (by simp)) hTl.symm hTs.symm hkey).mono ?_
  rintro e w2 ⟨Ax, cx, Ay, cy, rfl, hf, hrx, hry⟩
  have hM1 := hM.fr0 hf
  refine ⟨_, w2, [], [], rfl, Mm.start w2 [], ?_⟩
  have HF2 : Hid (Fr [] w1 w2) := hM1.fr
  have HV2 : Hid (Vars w2) := HV1.out.mm hM1
  have HT2 : Hid (TabAt w2 bt bc cap rest T) := HT1.out.fr hM1.fr (by simp) (by simp)
  have HRT2 : Hid (RTab w2 g rc rr T) := HRT.out.fr hM1.fr (by simp)
  have HB82 : Hid (At w2 b8 53 [.int .u64 (seed : Int), .slice (some ⟨g, 0, none⟩) n rc]) := HB8.out.fr hM1.fr (by simp)
  have HA2 : Hid (RowIn w2 Aa (la.map S8v)) := HA.out.fr0 hM1.fr
  have HB2 : Hid (RowIn w2 Ab (lb.map S8v)) := HB.out.fr0 hM1.fr
  have HX := Lib.hid hrx
  have HY := Lib.hid hry
  clear hM hM1 hf hrx hry
  refine li rfl (opVal (.tuple #[(.slice Ax (la.length) (cx)), (.slice Ay (lb.length) (cy)), (.bool true)]) rfl (by kernel_rfl) (rMove rfl rfl) ?_)
  refine li rfl (opVal (.slice Ax (la.length) (cx)) rfl (by kernel_rfl) (rClosed fun _ => by kernel_rfl) ?_)
  refine li rfl (opVal (.slice Ay (lb.length) (cy)) rfl (by kernel_rfl) (rClosed fun _ => by kernel_rfl) ?_)
  refine li rfl (opVal (.bool true) rfl (by kernel_rfl) (rClosed fun _ => by kernel_rfl) ?_)
  refine li rfl (opVal (.slice Ax (la.length) (cx)) rfl (by kernel_rfl) (rAssign rfl rfl) ?_)
  refine li rfl (opVal (.slice Ay (lb.length) (cy)) rfl (by kernel_rfl) (rAssign rfl rfl) ?_)
  refine li rfl (opVal (.bool true) rfl (by kernel_rfl) (rAssign rfl rfl) ?_)
  refine liNil ?_
  refine qThen ?_
  refine stSeq ?_
  refine stSeq ?_
  refine anyBegin [] 7 (by kernel_rfl) (fun _ h => h) ?_
  refine anyVal (i := 0) (.pointer (some ⟨bt, 0, none⟩)) rfl rfl rfl (by kernel_rfl) (by kernel_rfl) (fun _ _ _ h => h) (rMove rfl rfl) ?_
  refine anyVal (i := 3) (.agg #[(.int .u64 ((seed : Nat) : Int)), (.slice (some ⟨g, 0, none⟩) (n) (rc))]) rfl rfl rfl (by kernel_rfl) (by kernel_rfl) (fun _ _ _ h => h) (rLoadA [.int .u64 (seed : Int), .slice (some ⟨g, 0, none⟩) n rc] rfl rfl (by kernel_rfl) (by kernel_rfl) (fun w hM j v hj => hM.old (by rw [Nat.zero_add, HB82.out.cell]; exact hj) (by simp))) ?_
  refine anyOne (i := 1) (by kernel_rfl) rfl rfl ?_
  refine opCall 31 #[(.pointer (some ⟨bt, 0, none⟩))] rfl (by kernel_rfl) (fun _ => by kernel_rfl) (fun w hM => ?_)
  refine (encode_any _ _ _ _ T w (HT2.out.fr hM.fr (by simp) (by simp))).mono ?_
  rintro e w' ⟨v, rfl, hN⟩
  obtain ⟨A52, c52, rfl, hM'⟩ := hM.pushOwn hN.fr hN.own
  refine ⟨_, _, rfl, hM', ?_⟩
  clear hM hN hM'
  refine anyNext [cOwn 5 1 A52 ((T.enc).length) (c52) (B8 (T.enc))] (fun _ h => h.sub (.cons _ .slnil)) (fun _ h => h) ?_
  refine anyVal (i := 2) (.string (strOf (T.enc))) rfl rfl rfl (by kernel_rfl) (by kernel_rfl) (fun _ _ _ h => h) (rStr (e := 5) (T.enc) rfl (by kernel_rfl) (by kernel_rfl) (by kernel_rfl) rfl rfl (rowOwn (i := 0) rfl)) ?_
  refine anyOne (i := 4) (by kernel_rfl) rfl rfl ?_
  refine opCall 32 #[(.agg #[(.int .u64 ((seed : Nat) : Int)), (.slice (some ⟨g, 0, none⟩) (n) (rc))])] rfl (by kernel_rfl) (fun _ => by kernel_rfl) (fun w hM => ?_)
  refine (by have h := refEncode_any _ _ _ T w (HRT2.out.fr hM.fr (by simp)); rw [hTl, hTs] at h; exact h : Calls _ _ _ w (NewRow T.enc w)).mono ?_
  rintro e w' hN
  obtain ⟨A55, c55, rfl, hM'⟩ := hM.newRow hN
  refine ⟨_, _, rfl, hM', ?_⟩
  clear hM hN hM'
  refine anyNext [cOwn 5 1 A52 ((T.enc).length) (c52) (B8 (T.enc)), cOwn 5 1 A55 ((T.enc).length) (c55) (B8 (T.enc))] (fun _ h => h.sub (.cons_cons _ (.cons _ .slnil))) (fun _ h => h) ?_
  refine anyVal (i := 5) (.string (strOf (T.enc))) rfl rfl rfl (by kernel_rfl) (by kernel_rfl) (fun _ _ _ h => h) (rStr (e := 5) (T.enc) rfl (by kernel_rfl) (by kernel_rfl) (by kernel_rfl) rfl rfl (rowOwn (i := 1) rfl)) ?_
  refine anyVal (i := 6) (.bool false) rfl rfl rfl (by kernel_rfl) (by kernel_rfl) (fun _ _ _ h => h) (rConv (rStrNe rfl rfl rfl) (by simp)) ?_
  refine anyDone (by kernel_rfl) ?_
  refine qThen ?_
  refine stFalse rfl ?_
  refine stSkip ?_
  refine qThen ?_
  refine stSeq ?_
  refine stSeq ?_
  refine reg ?_
  refine li rfl (opVal (.bool true) rfl (by kernel_rfl) (rMove rfl rfl) ?_)
  refine li rfl (opVal (.bool false) rfl (by kernel_rfl) (rClosed fun _ => by kernel_rfl) ?_)
  refine liNil ?_
  refine qThen ?_
  refine stFalse rfl ?_
  refine stSkip ?_
  refine qThen ?_
  refine stSeq ?_
  refine reg ?_
  refine li rfl ?_
  refine opCall 13 #[] rfl (by kernel_rfl) (fun _ => by kernel_rfl) (fun w hM => ?_)
  refine (awake_any w (HV2.out.mm hM)).mono ?_
  rintro e w' ⟨rfl, hf⟩
  have hM' := hM.fr0 hf
  refine ⟨(.bool true), _, rfl, hM', ?_⟩
  clear hM hM' hf
  refine li rfl (opVal (.bool true) rfl (by kernel_rfl) (rMove rfl rfl) ?_)
  refine liGo rfl rfl (opVal (.int .i64 0) rfl (by kernel_rfl) (rMove rfl rfl) ?_)
  refine liGo rfl rfl (opVal (.bool true) rfl (by kernel_rfl) (rClosed fun _ => by kernel_rfl) ?_)
  refine li rfl (opVal (.bool true) rfl (by kernel_rfl) (rClosed fun _ => by kernel_rfl) ?_)
  refine li rfl (opVal (.bool true) rfl (by kernel_rfl) (rMove rfl rfl) ?_)
  refine liGo rfl rfl (opVal (.slice Aa (la.length) (ca)) rfl (by kernel_rfl) (rMove rfl rfl) ?_)
  refine liGo rfl rfl (opVal (.slice Ax (la.length) (cx)) rfl (by kernel_rfl) (rMove rfl rfl) ?_)
  refine liGo rfl rfl ?_
  refine opCall 27 #[(.slice Aa (la.length) (ca)), (.slice Ax (la.length) (cx))] rfl (by kernel_rfl) (fun _ => by kernel_rfl) (fun w hM => ?_)
  refine ((by have h := same_any Aa Ax ca cx la la w (HA2.out.fr0 hM.fr) (HX.out.fr0 hM.fr) hlla hlla; rw [decide_eq_true rfl] at h; exact h : Calls _ _ _ w fun e w' => e = .returned (.bool true) ∧ Fr [] w w')).mono ?_
  rintro e w' ⟨rfl, hf⟩
  have hM' := hM.fr0 hf
  refine ⟨(.bool true), _, rfl, hM', ?_⟩
  clear hM hM' hf
  refine li rfl (opVal (.bool true) rfl (by kernel_rfl) (rClosed fun _ => by kernel_rfl) ?_)
  refine li rfl (opVal (.bool true) rfl (by kernel_rfl) (rMove rfl rfl) ?_)
  refine liGo rfl rfl (opVal (.slice Ab (lb.length) (cb)) rfl (by kernel_rfl) (rMove rfl rfl) ?_)
  refine liGo rfl rfl (opVal (.slice Ay (lb.length) (cy)) rfl (by kernel_rfl) (rMove rfl rfl) ?_)
  refine liGo rfl rfl ?_
  refine opCall 27 #[(.slice Ab (lb.length) (cb)), (.slice Ay (lb.length) (cy))] rfl (by kernel_rfl) (fun _ => by kernel_rfl) (fun w hM => ?_)
  refine ((by have h := same_any Ab Ay cb cy lb lb w (HB2.out.fr0 hM.fr) (HY.out.fr0 hM.fr) hllb hllb; rw [decide_eq_true rfl] at h; exact h : Calls _ _ _ w fun e w' => e = .returned (.bool true) ∧ Fr [] w w')).mono ?_
  rintro e w' ⟨rfl, hf⟩
  have hM' := hM.fr0 hf
  refine ⟨(.bool true), _, rfl, hM', ?_⟩
  clear hM hM' hf
  refine li rfl (opVal (.bool true) rfl (by kernel_rfl) (rClosed fun _ => by kernel_rfl) ?_)
  refine li rfl (opVal (.bool true) rfl (by kernel_rfl) (rAssign rfl rfl) ?_)
  refine liNil ?_
  refine qThen ?_
  refine stRet ?_
  refine stEnd [(.bool true)] rfl ⟨rfl, trivial⟩ (fun w hM => ?_)
  exact ⟨rfl, (HF1.out.trans HF2.out).trans hM.fr⟩

theorem lawKeys_any (m : Int) (seed : Nat) (A : Option Addr) (c : Nat) (ops : List BOp) (w : World) (hv : Vars w) (hu : U64 seed) (hr : RowIn w A (opCells ops)) :
    Calls Tryd.prog 6 #[Value.int .i64 m, .int .u64 (seed : Int), .slice A ops.length c] w fun e w' => e = .returned (.bool true) ∧ Fr [] w w' := by
  cases hfew : fewB m ops.length with
  | false => exact lawKeys_big m seed A c ops w hv hfew
  | true =>
    cases hm : isSz m with
    | false => exact lawKeys_bad m seed A c ops w hv hfew hm
    | true =>
      obtain ⟨n, rfl⟩ := isSz_nat hm
      cases hk : (runAll (BT.new n seed) ops).keys with
      | none => exact lawKeys_none n seed A c ops w hv hfew hm hu hr (few_len hfew) hk
      | some p =>
        obtain ⟨la, lb⟩ := p
        have hl := keys_len hk
        have hb := (isSz_bounds hm).2.1
        rw [runAll_len] at hl
        simp only [BT.new, List.length_replicate] at hl
        exact lawKeys_some n seed A c ops w hv hfew hm hu hr (few_len hfew) la lb hk (by omega) (by omega)
end Go.Proofs.YtnhagokkamobaaaDoor
