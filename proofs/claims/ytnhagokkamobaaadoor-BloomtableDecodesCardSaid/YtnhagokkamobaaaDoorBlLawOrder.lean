/- The law BloomtableOrder, walked. -/
import Derived.Test.YtnhagokkamobaaaDoorBlLawPlays
import Derived.Test.YtnhagokkamobaaaDoorBlRun
namespace Go.Proofs.YtnhagokkamobaaaDoor
open Go.RowKit

theorem el_op : Elem Tryd.prog 49 62 (.agg #[.string ⟨#[]⟩, .bool false]) 2 24 := ⟨Tryd.underlying49, by kernel_rfl, rfl, by omega, by omega⟩
theorem two_cells {w : World} {b o : Nat} {x y : Value} (h1 : w.cell? ⟨b, o, none⟩ = some x) (h2 : w.cell? ⟨b, o + 1, none⟩ = some y) : ∀ j v, [x, y][j]? = some v → w.cell? ⟨b, o + j, none⟩ = some v := by
  intro j v hj
  match j, hj with
  | 0, h => simp at h; subst h; exact h1
  | 1, h => simp at h; subst h; exact h2
theorem rowOwnN {w0 : World} {F : List Nat} {cs : List Ch} {e : TypeId} {sz i : Nat} {A : Option Addr} {m c : Nat} {xs : List Value} (hi : cs[i]? = some (cOwn e sz A m c xs)) : ∀ w, Mm w0 F cs w → RowIn w A xs := by
  intro w hM j u hu
  have h : w.ownsRow 0 e sz (.slice A m c) m xs := hM.at hi
  rcases h.2 with ⟨_, h0⟩ | ⟨g, cap, cur, hv, _, hg, _⟩
  · have := h.1
    rw [h0, Nat.zero_mul] at this
    rw [List.eq_nil_of_length_eq_zero this] at hu
    simp at hu
  · simp only [Value.slice.injEq] at hv
    obtain ⟨rfl, _⟩ := hv
    have hc := h.cells (g := g) rfl j u hu
    rw [add_none] at hc
    exact ⟨g, 0, rfl, (Array.getElem?_eq_some_iff.1 hg).1, hc⟩
theorem opCells_rev {ops : List BOp} {j : Nat} {key : List UInt8} {d : Bool} (_hlt : ops.length - 1 - j < ops.length) (ho : ops[ops.length - 1 - j]? = some (key, d)) (hj : j < ops.length := by omega) : opCells (ops.reverse.take j) ++ [S8v key, .bool d] = opCells (ops.reverse.take (j + 1)) := by
  have h1 : ops.reverse[j]? = some (key, d) := by rw [List.getElem?_reverse hj]; exact ho
  obtain ⟨h2, h3⟩ := List.getElem?_eq_some_iff.1 h1
  rw [List.take_succ_eq_append_getElem h2, h3]
  simp [opCells]
/-- A call of Insert or Delete whose result is thrown away. -/
theorem stepCall_ins (bt bc cap : Nat) (rest : List Value) (t : BT) (key : List UInt8) (w : World) (hv : Vars w) (ht : TabAt w bt bc cap rest t) :
    Calls Tryd.prog 22 #[Value.pointer (some ⟨bt, 0, none⟩), .string (strOf key)] w fun e w' => ∃ r : Int, e = .returned (Value.int .i64 r) ∧ Fr [bc] w w' ∧ TabAt w' bt bc cap rest (stepOp t (invOp (key, true))) := by
  by_cases hk : key.length = 32
  · refine (insert_any bt bc cap rest t key w hv ht hk).mono ?_
    rintro e w' ⟨rfl, hf, h1⟩
    exact ⟨0, rfl, hf, by simpa [stepOp, invOp, hk] using h1⟩
  · refine (insert_bad bt key w hk).mono ?_
    rintro e w' ⟨rfl, rfl⟩
    exact ⟨1, rfl, Fr.refl _ _, by simpa [stepOp, invOp, hk] using ht⟩
theorem stepCall_del (bt bc cap : Nat) (rest : List Value) (t : BT) (key : List UInt8) (w : World) (hv : Vars w) (ht : TabAt w bt bc cap rest t) :
    Calls Tryd.prog 33 #[Value.pointer (some ⟨bt, 0, none⟩), .string (strOf key)] w fun e w' => ∃ r : Int, e = .returned (Value.int .i64 r) ∧ Fr [bc] w w' ∧ TabAt w' bt bc cap rest (stepOp t (invOp (key, false))) := by
  by_cases hk : key.length = 32
  · refine (delete_any bt bc cap rest t key w hv ht hk).mono ?_
    rintro e w' ⟨rfl, hf, h1⟩
    exact ⟨0, rfl, hf, by simpa [stepOp, invOp, hk] using h1⟩
  · refine (delete_bad bt key w hk).mono ?_
    rintro e w' ⟨rfl, rfl⟩
    exact ⟨1, rfl, Fr.refl _ _, by simpa [stepOp, invOp, hk] using ht⟩

set_option maxRecDepth 100000 in
set_option maxHeartbeats 1000000 in
theorem lawOrder_big (m : Int) (seed : Nat) (A : Option Addr) (c : Nat) (ops : List BOp) (w : World) (hv : Vars w) (hfew : fewB m ops.length = false) :
    Calls Tryd.prog 8 #[Value.int .i64 m, .int .u64 (seed : Int), .slice A ops.length c] w fun e w' => e = .returned (.bool true) ∧ Fr [] w w' := by
  have HV := Lib.hid hv
  clear hv
  refine stEnter (args := [Value.int .i64 m, .int .u64 (seed : Int), .slice A ops.length c]) [] Tryd.func8 rfl 110 rfl [(0, Value.int .i64 m), (1, .int .u64 (seed : Int)), (2, .slice A ops.length c)] ⟨rfl, rfl, rfl, trivial⟩ [] (Mm.start w []) ?_
  refine stSeq ?_
  refine reg ?_
  refine li rfl (opVal (.bool false) rfl (by kernel_rfl) (rAssign rfl rfl) ?_)
  refine liNil ?_
  refine qThen ?_
  refine stSeq ?_
  refine stSeq ?_
  refine reg ?_
  refine li rfl (opVal (.int .i64 m) rfl (by kernel_rfl) (rMove rfl rfl) ?_)
  refine li rfl (opVal (.slice A (ops.length) (c)) rfl (by kernel_rfl) (rMove rfl rfl) ?_)
  refine li rfl ?_
  refine opCall 28 #[(.int .i64 m), (.slice A (ops.length) (c))] rfl (by kernel_rfl) (fun _ => by kernel_rfl) (fun w hM => ?_)
  refine ((by rw [← hfew]; exact few_any _ _ _ _ w : Calls _ _ _ w fun e w' => e = .returned (.bool false) ∧ Fr [] w w')).mono ?_
  rintro e w' ⟨rfl, hf⟩
  have hM' := hM.fr0 hf
  refine ⟨(.bool false), _, rfl, hM', ?_⟩
  clear hM hM' hf
  refine li rfl (opVal (.bool true) rfl (by kernel_rfl) (rClosed fun _ => by kernel_rfl) ?_)
  refine li rfl (opVal (.bool true) rfl (by kernel_rfl) (rMove rfl rfl) ?_)
  refine liNot (b := true) rfl rfl (by kernel_rfl) rfl ?_
  refine liNot (b := true) rfl rfl (by kernel_rfl) rfl ?_
  refine liNot (b := true) rfl rfl (by kernel_rfl) rfl ?_
  refine li rfl (opVal (.bool true) rfl (by kernel_rfl) (rClosed fun _ => by kernel_rfl) ?_)
  refine liNil ?_
  refine qThen ?_
  refine stTrue rfl ?_
  refine stSeq ?_
  refine reg ?_
  refine li rfl ?_
  refine opCall 13 #[] rfl (by kernel_rfl) (fun _ => by kernel_rfl) (fun w hM => ?_)
  refine (awake_any w (HV.out.mm hM)).mono ?_
  rintro e w' ⟨rfl, hf⟩
  have hM' := hM.fr0 hf
  refine ⟨(.bool true), _, rfl, hM', ?_⟩
  clear hM hM' hf
  refine li rfl (opVal (.bool true) rfl (by kernel_rfl) (rAssign rfl rfl) ?_)
  refine liNil ?_
  refine qThen ?_
  refine stRet ?_
  refine qThenR ?_
  refine stEnd [(.bool true)] rfl ⟨rfl, trivial⟩ (fun w hM => ?_)
  exact ⟨rfl, hM.fr⟩

set_option maxRecDepth 100000 in
set_option maxHeartbeats 1000000 in
theorem lawOrder_bad (m : Int) (seed : Nat) (A : Option Addr) (c : Nat) (ops : List BOp) (w : World) (hv : Vars w) (hfew : fewB m ops.length = true) (hm : isSz m = false) :
    Calls Tryd.prog 8 #[Value.int .i64 m, .int .u64 (seed : Int), .slice A ops.length c] w fun e w' => e = .returned (.bool true) ∧ Fr [] w w' := by
  have HV := Lib.hid hv
  clear hv
  refine stEnter (args := [Value.int .i64 m, .int .u64 (seed : Int), .slice A ops.length c]) [] Tryd.func8 rfl 110 rfl [(0, Value.int .i64 m), (1, .int .u64 (seed : Int)), (2, .slice A ops.length c)] ⟨rfl, rfl, rfl, trivial⟩ [] (Mm.start w []) ?_
  refine stSeq ?_
  refine reg ?_
  refine li rfl (opVal (.bool false) rfl (by kernel_rfl) (rAssign rfl rfl) ?_)
  refine liNil ?_
  refine qThen ?_
  refine stSeq ?_
  refine stSeq ?_
  refine reg ?_
  refine li rfl (opVal (.int .i64 m) rfl (by kernel_rfl) (rMove rfl rfl) ?_)
  refine li rfl (opVal (.slice A (ops.length) (c)) rfl (by kernel_rfl) (rMove rfl rfl) ?_)
  refine li rfl ?_
  refine opCall 28 #[(.int .i64 m), (.slice A (ops.length) (c))] rfl (by kernel_rfl) (fun _ => by kernel_rfl) (fun w hM => ?_)
  refine ((by rw [← hfew]; exact few_any _ _ _ _ w : Calls _ _ _ w fun e w' => e = .returned (.bool true) ∧ Fr [] w w')).mono ?_
  rintro e w' ⟨rfl, hf⟩
  have hM' := hM.fr0 hf
  refine ⟨(.bool true), _, rfl, hM', ?_⟩
  clear hM hM' hf
  refine li rfl (opVal (.bool false) rfl (by kernel_rfl) (rClosed fun _ => by kernel_rfl) ?_)
  refine li rfl (opVal (.bool false) rfl (by kernel_rfl) (rMove rfl rfl) ?_)
  refine liGo rfl rfl (opVal (.int .i64 m) rfl (by kernel_rfl) (rMove rfl rfl) ?_)
  refine liGo rfl rfl ?_
  refine opCall 16 #[(.int .i64 m)] rfl (by kernel_rfl) (fun _ => by kernel_rfl) (fun w hM => ?_)
  refine ((by rw [← hm]; exact valid_any m w : Calls _ _ _ w fun e w' => e = .returned (.bool false) ∧ w = w')).mono ?_
  rintro e w' ⟨rfl, rfl⟩
  refine ⟨(.bool false), _, rfl, hM, ?_⟩
  clear hM
  refine liGo rfl rfl (opVal (.bool true) rfl (by kernel_rfl) (rClosed fun _ => by kernel_rfl) ?_)
  refine li rfl (opVal (.bool true) rfl (by kernel_rfl) (rClosed fun _ => by kernel_rfl) ?_)
  refine liNil ?_
  refine qThen ?_
  refine stTrue rfl ?_
  refine stSeq ?_
  refine reg ?_
  refine li rfl ?_
  refine opCall 13 #[] rfl (by kernel_rfl) (fun _ => by kernel_rfl) (fun w hM => ?_)
  refine (awake_any w (HV.out.mm hM)).mono ?_
  rintro e w' ⟨rfl, hf⟩
  have hM' := hM.fr0 hf
  refine ⟨(.bool true), _, rfl, hM', ?_⟩
  clear hM hM' hf
  refine li rfl (opVal (.bool true) rfl (by kernel_rfl) (rAssign rfl rfl) ?_)
  refine liNil ?_
  refine qThen ?_
  refine stRet ?_
  refine qThenR ?_
  refine stEnd [(.bool true)] rfl ⟨rfl, trivial⟩ (fun w hM => ?_)
  exact ⟨rfl, hM.fr⟩

set_option maxRecDepth 100000 in
set_option maxHeartbeats 1000000 in
theorem lawOrder_ok (n seed : Nat) (A : Option Addr) (c : Nat) (ops : List BOp) (w : World) (hv : Vars w) (hfew : fewB (n : Int) ops.length = true) (hn : isSz (n : Int) = true) (hu : U64 seed) (hr : RowIn w A (opCells ops)) (hl : ops.length ≤ 1000000) :
    Calls Tryd.prog 8 #[Value.int .i64 (n : Int), .int .u64 (seed : Int), .slice A ops.length c] w fun e w' => e = .returned (.bool true) ∧ Fr [] w w' := by
  have HV := Lib.hid hv
  clear hv
  have HU := Lib.hid hu
  have HR := Lib.hid hr
  clear hu hr
  have hm := hn
  obtain ⟨T, HT⟩ : ∃ T, Hid (T = runAll (BT.new n seed) ops) := ⟨_, rfl⟩
  have HT2 : Hid (T = runAll (BT.new n seed) ops.reverse) := by show _ = _; rw [run_reverse]; exact HT.out
  have hTl : T.cells.length = n := by rw [HT.out, runAll_len]; simp [BT.new]
  have hTs : T.seed = seed := by rw [HT.out, runAll_seed]; rfl
  refine stEnter (args := [Value.int .i64 (n : Int), .int .u64 (seed : Int), .slice A ops.length c]) [] Tryd.func8 rfl 110 rfl [(0, Value.int .i64 (n : Int)), (1, .int .u64 (seed : Int)), (2, .slice A ops.length c)] ⟨rfl, rfl, rfl, trivial⟩ [] (Mm.start w []) ?_
  refine stSeq ?_
  refine reg ?_
  refine li rfl (opVal (.bool false) rfl (by kernel_rfl) (rAssign rfl rfl) ?_)
  refine liNil ?_
  refine qThen ?_
  refine stSeq ?_
  refine stSeq ?_
  refine reg ?_
  refine li rfl (opVal (.int .i64 ((n : Nat) : Int)) rfl (by kernel_rfl) (rMove rfl rfl) ?_)
  refine li rfl (opVal (.slice A (ops.length) (c)) rfl (by kernel_rfl) (rMove rfl rfl) ?_)
  refine li rfl ?_
  refine opCall 28 #[(.int .i64 ((n : Nat) : Int)), (.slice A (ops.length) (c))] rfl (by kernel_rfl) (fun _ => by kernel_rfl) (fun w hM => ?_)
  refine ((by rw [← hfew]; exact few_any _ _ _ _ w : Calls _ _ _ w fun e w' => e = .returned (.bool true) ∧ Fr [] w w')).mono ?_
  rintro e w' ⟨rfl, hf⟩
  have hM' := hM.fr0 hf
  refine ⟨(.bool true), _, rfl, hM', ?_⟩
  clear hM hM' hf
  refine li rfl (opVal (.bool false) rfl (by kernel_rfl) (rClosed fun _ => by kernel_rfl) ?_)
  refine li rfl (opVal (.bool false) rfl (by kernel_rfl) (rMove rfl rfl) ?_)
  refine liGo rfl rfl (opVal (.int .i64 ((n : Nat) : Int)) rfl (by kernel_rfl) (rMove rfl rfl) ?_)
  refine liGo rfl rfl ?_
  refine opCall 16 #[(.int .i64 ((n : Nat) : Int))] rfl (by kernel_rfl) (fun _ => by kernel_rfl) (fun w hM => ?_)
  refine ((by rw [← hm]; exact valid_any (n : Int) w : Calls _ _ _ w fun e w' => e = .returned (.bool true) ∧ w = w')).mono ?_
  rintro e w' ⟨rfl, rfl⟩
  refine ⟨(.bool true), _, rfl, hM, ?_⟩
  clear hM
  refine liGo rfl rfl (opVal (.bool false) rfl (by kernel_rfl) (rClosed fun _ => by kernel_rfl) ?_)
  refine li rfl (opVal (.bool false) rfl (by kernel_rfl) (rClosed fun _ => by kernel_rfl) ?_)
  refine liNil ?_
  refine qThen ?_
  refine stFalse rfl ?_
  refine stSkip ?_
  refine qThen ?_
  refine stSeq ?_
  refine reg ?_
  refine li rfl (opVal (.int .i64 ((n : Nat) : Int)) rfl (by kernel_rfl) (rMove rfl rfl) ?_)
  refine li rfl (opVal (.int .u64 ((seed : Nat) : Int)) rfl (by kernel_rfl) (rMove rfl rfl) ?_)
  refine li rfl (opVal (.slice A (ops.length) (c)) rfl (by kernel_rfl) (rMove rfl rfl) ?_)
  refine li rfl ?_
  refine opCall 29 #[(.int .i64 ((n : Nat) : Int)), (.int .u64 ((seed : Nat) : Int)), (.slice A (ops.length) (c))] rfl (by kernel_rfl) (fun _ => by kernel_rfl) (fun w hM => ?_)
  refine (by have h := play_any n seed A (c) (ops) w hn (HV.out.mm hM) HU.out (HR.out.fr0 hM.fr) (hl); rw [← HT.out] at h; exact h : Calls _ _ _ w (Played n seed T w)).mono ?_
  rintro e w' ⟨bt, bc, cap, rest, g, rc, rr, rfl, hP⟩
  have hM' := hM.lift hP
  refine ⟨_, _, rfl, hM', ?_⟩
  clear hM hM' hP
  refine li rfl (opVal (.tuple #[(.pointer (some ⟨bt, 0, none⟩)), (.agg #[(.int .u64 ((seed : Nat) : Int)), (.slice (some ⟨g, 0, none⟩) (n) (rc))]), (.bool true)]) rfl (by kernel_rfl) (rMove rfl rfl) ?_)
  refine li rfl (opVal (.pointer (some ⟨bt, 0, none⟩)) rfl (by kernel_rfl) (rClosed fun _ => by kernel_rfl) ?_)
  refine li rfl (opVal (.agg #[(.int .u64 ((seed : Nat) : Int)), (.slice (some ⟨g, 0, none⟩) (n) (rc))]) rfl (by kernel_rfl) (rClosed fun _ => by kernel_rfl) ?_)
  refine li rfl (opVal (.bool true) rfl (by kernel_rfl) (rClosed fun _ => by kernel_rfl) ?_)
  refine li rfl ?_
  refine opAlloc [(.int .u64 0), (.slice none 0 0)] rfl rfl (by kernel_rfl) (by kernel_rfl) (fun b8 => ?_)
  refine li rfl (opVal (.pointer (some ⟨bt, 0, none⟩)) rfl (by kernel_rfl) (rAssign rfl rfl) ?_)
  refine li rfl ?_
  refine opStoreN 2 [(.int .u64 ((seed : Nat) : Int)), (.slice (some ⟨g, 0, none⟩) (n) (rc))] (vs := [(.int .u64 ((seed : Nat) : Int)), (.slice (some ⟨g, 0, none⟩) (n) (rc))]) rfl rfl (by kernel_rfl) rfl rfl rfl (by kernel_rfl) rfl (by simp) (by simp [Value.oneCell']) rfl ?_
  refine li rfl (opVal (.bool true) rfl (by kernel_rfl) (rAssign rfl rfl) ?_)
  refine liNil ?_
  refine qThen ?_
  refine stSeq ?_
  refine reg ?_
  refine li rfl ?_
  refine opNew (v := fun b => .slice (some ⟨b, 0, none⟩) 0 0) 62 [] rfl (by kernel_rfl) (fun _ => by kernel_rfl) (fun b34 => ?_)
  refine li rfl (opVal (.slice (some ⟨b34, 0, none⟩) (0) (0)) rfl (by kernel_rfl) (rAssign rfl rfl) ?_)
  refine liNil ?_
  refine qThen ?_
  refine stSeq ?_
  refine stSeq ?_
  refine St.mem (cs' := [cTab bt bc cap rest T, cRTab g rc rr T, cAt b8 53 [(.int .u64 ((seed : Nat) : Int)), (.slice (some ⟨g, 0, none⟩) (n) (rc))], cOwn 62 2 (some ⟨b34, 0, none⟩) (0) (0) (opCells (ops.reverse.take 0))]) (fun w hM => by rw [List.take_zero]; exact hM.toOwn 3 rfl 2 0 0 rfl (Nat.le_refl _) (by unfold maxLen; omega)) ?_
  refine reg ?_
  refine li rfl (opVal (.slice A (ops.length) (c)) rfl (by kernel_rfl) (rMove rfl rfl) ?_)
  refine li rfl (opVal (.int .i64 ((ops.length : Nat) : Int)) rfl (by kernel_rfl) (rClosed fun _ => by kernel_rfl) ?_)
  refine li rfl (opVal (.int .i64 ((ops.length : Int) - 1 - ((0 : Nat) : Int))) rfl (by kernel_rfl) (rSub _ rfl rfl rfl (by omega) (by omega) (by omega)) ?_)
  refine li rfl (opVal (.int .i64 ((ops.length : Int) - 1 - ((0 : Nat) : Int))) rfl (by kernel_rfl) (rAssign rfl rfl) ?_)
  refine liNil ?_
  refine qThen ?_
  refine stBlock ?_
  refine stLoop (ι := Nat × Option Addr × Nat) (fun (j, A1, c1) => j ≤ ops.length) (fun (j, A1, c1) => ops.length - j) (fun (j, A1, c1) => [(0, (.int .i64 ((n : Nat) : Int))), (1, (.int .u64 ((seed : Nat) : Int))), (2, (.slice A (ops.length) (c))), (7, (.pointer (some ⟨bt, 0, none⟩))), (8, (.pointer (some ⟨b8, 0, none⟩))), (9, (.bool true)), (10, (.slice A1 (j) (c1))), (11, (.int .i64 ((ops.length : Int) - 1 - ((j : Nat) : Int))))]) (fun (j, A1, c1) => [cTab bt bc cap rest T, cRTab g rc rr T, cAt b8 53 [(.int .u64 ((seed : Nat) : Int)), (.slice (some ⟨g, 0, none⟩) (n) (rc))], cOwn 62 2 A1 (j) (c1) (opCells (ops.reverse.take j))]) (0, some ⟨b34, 0, none⟩, 0) (Nat.zero_le _) ⟨rfl, rfl, rfl, rfl, rfl, rfl, rfl, rfl, trivial⟩ (fun _ h => h) ?_
  rintro ⟨j, A1, c1⟩ (hj : j ≤ ops.length)
  show St _ _ _ [(0, (.int .i64 ((n : Nat) : Int))), (1, (.int .u64 ((seed : Nat) : Int))), (2, (.slice A (ops.length) (c))), (7, (.pointer (some ⟨bt, 0, none⟩))), (8, (.pointer (some ⟨b8, 0, none⟩))), (9, (.bool true)), (10, (.slice A1 (j) (c1))), (11, (.int .i64 ((ops.length : Int) - 1 - ((j : Nat) : Int))))] [cTab bt bc cap rest T, cRTab g rc rr T, cAt b8 53 [(.int .u64 ((seed : Nat) : Int)), (.slice (some ⟨g, 0, none⟩) (n) (rc))], cOwn 62 2 A1 (j) (c1) (opCells (ops.reverse.take j))] _
  refine stSeq ?_
  refine stSeq ?_
  refine reg ?_
  refine li rfl (opVal (.int .i64 ((ops.length : Int) - 1 - ((j : Nat) : Int))) rfl (by kernel_rfl) (rMove rfl rfl) ?_)
  refine li rfl (opVal (.bool (decide (((ops.length : Int) - 1 - ((j : Nat) : Int)) ≥ 0))) rfl (by kernel_rfl) (rClosed fun _ => by kernel_rfl) ?_)
  refine liNil ?_
  refine qThen ?_
  refine stCond rfl (fun hc39 => ?_) (fun hc39 => ?_)
  · have hd39 := of_decide_eq_true hc39
    have hlt : ops.length - 1 - j < ops.length := by omega
    obtain ⟨⟨key, d⟩, ho⟩ : ∃ o, ops[ops.length - 1 - j]? = some o := ⟨_, List.getElem?_eq_getElem hlt⟩
    have hrev : opCells (ops.reverse.take j) ++ [S8v key, .bool d] = opCells (ops.reverse.take (j + 1)) := opCells_rev hlt ho
    refine St.conv 11 (v' := .int .i64 ((ops.length - 1 - j : Nat) : Int)) rfl (congrArg (Value.int .i64) (by omega)) ?_
    obtain ⟨hk1, hk2⟩ := opCells_get ho
    obtain ⟨b, o, hA, hbl, hck⟩ := HR.out _ _ hk1
    obtain ⟨b', o', hA', _, hcd⟩ := HR.out _ _ hk2
    subst hA
    injection hA' with hA'
    injection hA' with hb' ho'
    subst hb' ho'
    refine stSkip ?_
    refine qThen ?_
    refine stSeq ?_
    refine stBlock ?_
    refine reg ?_
    refine li rfl (opVal (.slice A1 (j) (c1)) rfl (by kernel_rfl) (rMove rfl rfl) ?_)
    refine li rfl (opVal (.slice (some ⟨b, o, none⟩) (ops.length) (c)) rfl (by kernel_rfl) (rMove rfl rfl) ?_)
    refine li rfl (opVal (.int .i64 ((ops.length - 1 - j : Nat) : Int)) rfl (by kernel_rfl) (rMove rfl rfl) ?_)
    refine li rfl (opVal (.pointer (some ⟨b, o + (ops.length - 1 - j) * 2, none⟩)) rfl (by kernel_rfl) (rIndexAddr (e := 62) (sz := 2) rfl (by kernel_rfl) (by kernel_rfl) rfl rfl (by omega)) ?_)
    refine li rfl (opVal (.agg #[(S8v key), (.bool d)]) rfl (by kernel_rfl) (rLoadA [S8v key, .bool d] rfl rfl (by kernel_rfl) (by kernel_rfl) (fun w hM => two_cells (hM.old hck (by simp)) (hM.old (by rw [Nat.add_assoc]; exact hcd) (by simp)))) ?_)
    refine li rfl ?_
    refine opNew (v := fun b => .slice (some ⟨b, 0, none⟩) 1 1) 62 [(S8v key), (.bool d)] rfl (by kernel_rfl) (fun _ => by kernel_rfl) (fun b47 => ?_)
    refine li rfl ?_
    refine opAppend el_op 3 [S8v key, .bool d] rfl rfl (by kernel_rfl) rfl rfl rfl rfl (srcAt (i := 4) (off := 0) rfl (fun j v hj => by rw [Nat.zero_add]; exact hj)) (by simp [Value.oneCell', S8v]) (by omega) (j + 1) rfl (opCells (ops.reverse.take (j + 1))) hrev (fun A48 c48 => ?_)
    refine li rfl (opVal (.slice A48 (j + 1) (c48)) rfl (by kernel_rfl) (rAssign rfl rfl) ?_)
    refine liNil ?_
    refine qBlock ?_
    refine qThen ?_
    refine reg ?_
    refine li rfl (opVal (.int .i64 ((ops.length - 1 - j : Nat) : Int)) rfl (by kernel_rfl) (rMove rfl rfl) ?_)
    refine li rfl (opVal (.int .i64 ((ops.length : Int) - 1 - ((j + 1 : Nat) : Int))) rfl (by kernel_rfl) (rSub _ rfl rfl rfl (by omega) (by omega) (by omega)) ?_)
    refine li rfl (opVal (.int .i64 ((ops.length : Int) - 1 - ((j + 1 : Nat) : Int))) rfl (by kernel_rfl) (rAssign rfl rfl) ?_)
    refine liNil ?_
    refine qThen ?_
    exact stAgain (j + 1, A48, c48) (by show _ ≤ _; omega) (by show ops.length - (j + 1) < ops.length - j; omega) ⟨rfl, rfl, rfl, rfl, rfl, rfl, rfl, rfl, trivial⟩ (fun _ h => h.sub (.cons_cons _ (.cons_cons _ (.cons_cons _ (.cons_cons _ (.cons _ .slnil))))))
  · have hd39 := of_decide_eq_false hc39
    obtain rfl : j = ops.length := by omega
    have hrl : ops.length = ops.reverse.length := by simp
    refine St.conv 10 (v' := .slice A1 ops.reverse.length c1) rfl (by rw [← hrl]) ?_
    refine St.mem (cs' := [cTab bt bc cap rest T, cRTab g rc rr T, cAt b8 53 [(.int .u64 ((seed : Nat) : Int)), (.slice (some ⟨g, 0, none⟩) (n) (rc))], cOwn 62 2 A1 (ops.reverse.length) (c1) (opCells ops.reverse)]) (fun w hM => by rw [← hrl]; have e : ops.reverse.take ops.length = ops.reverse := (by rw [hrl, List.take_length]); rw [e] at hM; exact hM) ?_
    refine stExit ?_
    refine qThenX ?_
    refine qThenX ?_
    refine qBlockX ?_
    refine qThen ?_
    refine stSeq ?_
    refine reg ?_
    refine li rfl (opVal (.int .i64 ((n : Nat) : Int)) rfl (by kernel_rfl) (rMove rfl rfl) ?_)
    refine li rfl (opVal (.int .u64 ((seed : Nat) : Int)) rfl (by kernel_rfl) (rMove rfl rfl) ?_)
    refine li rfl (opVal (.slice A1 (ops.reverse.length) (c1)) rfl (by kernel_rfl) (rMove rfl rfl) ?_)
    refine li rfl ?_
    refine opCall 29 #[(.int .i64 ((n : Nat) : Int)), (.int .u64 ((seed : Nat) : Int)), (.slice A1 (ops.reverse.length) (c1))] rfl (by kernel_rfl) (fun _ => by kernel_rfl) (fun w hM => ?_)
    refine (by have h := play_any n seed A1 (c1) (ops.reverse) w hn (HV.out.mm hM) HU.out (rowOwnN (i := 3) rfl w hM) (by simpa using hl); rw [← HT2.out] at h; exact h : Calls _ _ _ w (Played n seed T w)).mono ?_
    rintro e w' ⟨bt2, bc2, cap2, rest2, g2, rc2, rr2, rfl, hP⟩
    have hM' := hM.lift hP
    refine ⟨_, _, rfl, hM', ?_⟩
    clear hM hM' hP
    refine li rfl (opVal (.tuple #[(.pointer (some ⟨bt2, 0, none⟩)), (.agg #[(.int .u64 ((seed : Nat) : Int)), (.slice (some ⟨g2, 0, none⟩) (n) (rc2))]), (.bool true)]) rfl (by kernel_rfl) (rMove rfl rfl) ?_)
    refine li rfl (opVal (.pointer (some ⟨bt2, 0, none⟩)) rfl (by kernel_rfl) (rClosed fun _ => by kernel_rfl) ?_)
    refine li rfl (opVal (.agg #[(.int .u64 ((seed : Nat) : Int)), (.slice (some ⟨g2, 0, none⟩) (n) (rc2))]) rfl (by kernel_rfl) (rClosed fun _ => by kernel_rfl) ?_)
    refine li rfl (opVal (.bool true) rfl (by kernel_rfl) (rClosed fun _ => by kernel_rfl) ?_)
    refine li rfl ?_
    refine opAlloc [(.int .u64 0), (.slice none 0 0)] rfl rfl (by kernel_rfl) (by kernel_rfl) (fun b13 => ?_)
    refine li rfl (opVal (.pointer (some ⟨bt2, 0, none⟩)) rfl (by kernel_rfl) (rAssign rfl rfl) ?_)
    refine li rfl ?_
    refine opStoreN 6 [(.int .u64 ((seed : Nat) : Int)), (.slice (some ⟨g2, 0, none⟩) (n) (rc2))] (vs := [(.int .u64 ((seed : Nat) : Int)), (.slice (some ⟨g2, 0, none⟩) (n) (rc2))]) rfl rfl (by kernel_rfl) rfl rfl rfl (by kernel_rfl) rfl (by simp) (by simp [Value.oneCell']) rfl ?_
    refine li rfl (opVal (.bool true) rfl (by kernel_rfl) (rAssign rfl rfl) ?_)
    refine liNil ?_
    refine qThen ?_
    refine stSeq ?_
    refine stSeq ?_
    refine anyBegin [cTab bt bc cap rest T, cRTab g rc rr T, cAt b8 53 [(.int .u64 ((seed : Nat) : Int)), (.slice (some ⟨g, 0, none⟩) (n) (rc))], cOwn 62 2 A1 (ops.reverse.length) (c1) (opCells ops.reverse), cTab bt2 bc2 cap2 rest2 T, cRTab g2 rc2 rr2 T, cAt b13 53 [(.int .u64 ((seed : Nat) : Int)), (.slice (some ⟨g2, 0, none⟩) (n) (rc2))]] 23 (by kernel_rfl) (fun _ h => h) ?_
    refine anyVal (i := 0) (.bool true) rfl rfl rfl (by kernel_rfl) (by kernel_rfl) (fun _ _ _ h => h) (rMove rfl rfl) ?_
    refine anyVal (i := 1) (.bool false) rfl rfl rfl (by kernel_rfl) (by kernel_rfl) (fun _ _ _ h => h) (rClosed fun _ => by kernel_rfl) ?_
    refine anyVal (i := 2) (.bool false) rfl rfl rfl (by kernel_rfl) (by kernel_rfl) (fun _ _ _ h => h) (rMove rfl rfl) ?_
    refine anyValG (i := 3) (.bool true) rfl rfl rfl rfl (by kernel_rfl) (by kernel_rfl) (fun _ _ _ h => h) (rMove rfl rfl) ?_
    refine anyValG (i := 4) (.bool false) rfl rfl rfl rfl (by kernel_rfl) (by kernel_rfl) (fun _ _ _ h => h) (rClosed fun _ => by kernel_rfl) ?_
    refine anyVal (i := 5) (.bool false) rfl rfl rfl (by kernel_rfl) (by kernel_rfl) (fun _ _ _ h => h) (rClosed fun _ => by kernel_rfl) ?_
    refine anyVal (i := 6) (.bool false) rfl rfl rfl (by kernel_rfl) (by kernel_rfl) (fun _ _ _ h => h) (rMove rfl rfl) ?_
    refine anyValG (i := 7) (.pointer (some ⟨bt, 0, none⟩)) rfl rfl rfl rfl (by kernel_rfl) (by kernel_rfl) (fun _ _ _ h => h) (rMove rfl rfl) ?_
    refine anyValG (i := 8) (.bool false) rfl rfl rfl rfl (by kernel_rfl) (by kernel_rfl) (fun _ _ _ h => h) (rClosed fun _ => by kernel_rfl) ?_
    refine anyVal (i := 9) (.bool false) rfl rfl rfl (by kernel_rfl) (by kernel_rfl) (fun _ _ _ h => h) (rClosed fun _ => by kernel_rfl) ?_
    refine anyVal (i := 10) (.bool false) rfl rfl rfl (by kernel_rfl) (by kernel_rfl) (fun _ _ _ h => h) (rMove rfl rfl) ?_
    refine anyValG (i := 11) (.pointer (some ⟨bt2, 0, none⟩)) rfl rfl rfl rfl (by kernel_rfl) (by kernel_rfl) (fun _ _ _ h => h) (rMove rfl rfl) ?_
    refine anyValG (i := 12) (.bool false) rfl rfl rfl rfl (by kernel_rfl) (by kernel_rfl) (fun _ _ _ h => h) (rClosed fun _ => by kernel_rfl) ?_
    refine anyVal (i := 13) (.bool false) rfl rfl rfl (by kernel_rfl) (by kernel_rfl) (fun _ _ _ h => h) (rClosed fun _ => by kernel_rfl) ?_
    refine anyVal (i := 14) (.bool false) rfl rfl rfl (by kernel_rfl) (by kernel_rfl) (fun _ _ _ h => h) (rMove rfl rfl) ?_
    refine anyValG (i := 15) (.pointer (some ⟨bt, 0, none⟩)) rfl rfl rfl rfl (by kernel_rfl) (by kernel_rfl) (fun _ _ _ h => h) (rMove rfl rfl) ?_
    refine anyValG (i := 18) (.pointer (some ⟨bt2, 0, none⟩)) rfl rfl rfl rfl (by kernel_rfl) (by kernel_rfl) (fun _ _ _ h => h) (rMove rfl rfl) ?_
    refine anyOneG (i := 16) (by kernel_rfl) rfl rfl rfl ?_
    refine opCall 31 #[(.pointer (some ⟨bt, 0, none⟩))] rfl (by kernel_rfl) (fun _ => by kernel_rfl) (fun w hM => ?_)
    refine (encode_any _ _ _ _ T w (hM.at (i := 0) rfl)).mono ?_
    rintro e w' ⟨v, rfl, hN⟩
    obtain ⟨A73, c73, rfl, hM'⟩ := hM.pushOwn hN.fr hN.own
    refine ⟨_, _, rfl, hM', ?_⟩
    clear hM hN hM'
    refine anyNext [cTab bt bc cap rest T, cRTab g rc rr T, cAt b8 53 [(.int .u64 ((seed : Nat) : Int)), (.slice (some ⟨g, 0, none⟩) (n) (rc))], cOwn 62 2 A1 (ops.reverse.length) (c1) (opCells ops.reverse), cTab bt2 bc2 cap2 rest2 T, cRTab g2 rc2 rr2 T, cAt b13 53 [(.int .u64 ((seed : Nat) : Int)), (.slice (some ⟨g2, 0, none⟩) (n) (rc2))], cOwn 5 1 A73 ((T.enc).length) (c73) (B8 (T.enc))] (fun _ h => h.sub (.cons_cons _ (.cons_cons _ (.cons_cons _ (.cons_cons _ (.cons_cons _ (.cons_cons _ (.cons_cons _ (.cons _ .slnil))))))))) (fun _ h => h) ?_
    refine anyValG (i := 17) (.string (strOf (T.enc))) rfl rfl rfl rfl (by kernel_rfl) (by kernel_rfl) (fun _ _ _ h => h) (rStr (e := 5) (T.enc) rfl (by kernel_rfl) (by kernel_rfl) (by kernel_rfl) rfl rfl (rowOwn (i := 7) rfl)) ?_
    refine anyOneG (i := 19) (by kernel_rfl) rfl rfl rfl ?_
    refine opCall 31 #[(.pointer (some ⟨bt2, 0, none⟩))] rfl (by kernel_rfl) (fun _ => by kernel_rfl) (fun w hM => ?_)
    refine (encode_any _ _ _ _ T w (hM.at (i := 4) rfl)).mono ?_
    rintro e w' ⟨v, rfl, hN⟩
    obtain ⟨A76, c76, rfl, hM'⟩ := hM.pushOwn hN.fr hN.own
    refine ⟨_, _, rfl, hM', ?_⟩
    clear hM hN hM'
    refine anyNext [cTab bt bc cap rest T, cRTab g rc rr T, cAt b8 53 [(.int .u64 ((seed : Nat) : Int)), (.slice (some ⟨g, 0, none⟩) (n) (rc))], cOwn 62 2 A1 (ops.reverse.length) (c1) (opCells ops.reverse), cTab bt2 bc2 cap2 rest2 T, cRTab g2 rc2 rr2 T, cAt b13 53 [(.int .u64 ((seed : Nat) : Int)), (.slice (some ⟨g2, 0, none⟩) (n) (rc2))], cOwn 5 1 A73 ((T.enc).length) (c73) (B8 (T.enc)), cOwn 5 1 A76 ((T.enc).length) (c76) (B8 (T.enc))] (fun _ h => h.sub (.cons_cons _ (.cons_cons _ (.cons_cons _ (.cons_cons _ (.cons_cons _ (.cons_cons _ (.cons_cons _ (.cons_cons _ (.cons _ .slnil)))))))))) (fun _ h => h) ?_
    refine anyValG (i := 20) (.string (strOf (T.enc))) rfl rfl rfl rfl (by kernel_rfl) (by kernel_rfl) (fun _ _ _ h => h) (rStr (e := 5) (T.enc) rfl (by kernel_rfl) (by kernel_rfl) (by kernel_rfl) rfl rfl (rowOwn (i := 8) rfl)) ?_
    refine anyValG (i := 21) (.bool false) rfl rfl rfl rfl (by kernel_rfl) (by kernel_rfl) (fun _ _ _ h => h) (rConv (rStrNe rfl rfl rfl) (by simp)) ?_
    refine anyVal (i := 22) (.bool false) rfl rfl rfl (by kernel_rfl) (by kernel_rfl) (fun _ _ _ h => h) (rClosed fun _ => by kernel_rfl) ?_
    refine anyDone (by kernel_rfl) ?_
    refine qThen ?_
    refine stFalse rfl ?_
    refine stSkip ?_
    refine qThen ?_
    refine stSeq ?_
    refine stSeq ?_
    have e0 := runTo_zero T (ops.map invOp)
    refine St.mem (cs' := [cTab bt bc cap rest (runTo T (ops.map invOp) 0)]) (fun w hM => by rw [e0]; exact (fun (w : World) (h : Mm _ _ _ w) => Mm.sub h (.cons_cons _ (.cons _ (.cons _ (.cons _ (.cons _ (.cons _ (.cons _ (.cons _ (.cons _ .slnil)))))))))) w hM) ?_
    refine reg ?_
    refine li rfl (opVal (.int .i64 0) rfl (by kernel_rfl) (rAssign rfl rfl) ?_)
    refine liNil ?_
    refine qThen ?_
    refine stBlock ?_
    refine stLoop (ι := Nat) (fun i => i ≤ ops.length) (fun i => ops.length - i) (fun i => [(2, (.slice A (ops.length) (c))), (7, (.pointer (some ⟨bt, 0, none⟩))), (15, (.int .i64 ((i : Nat) : Int)))]) (fun i => [cTab bt bc cap rest (runTo T (ops.map invOp) i)]) 0 (Nat.zero_le _) ⟨rfl, rfl, rfl, trivial⟩ (fun _ h => h) ?_
    intro i (hi : i ≤ ops.length)
    show St _ _ _ [(2, (.slice A (ops.length) (c))), (7, (.pointer (some ⟨bt, 0, none⟩))), (15, (.int .i64 ((i : Nat) : Int)))] [cTab bt bc cap rest (runTo T (ops.map invOp) i)] _
    refine stSeq ?_
    refine stSeq ?_
    refine reg ?_
    refine li rfl (opVal (.int .i64 ((i : Nat) : Int)) rfl (by kernel_rfl) (rMove rfl rfl) ?_)
    refine li rfl (opVal (.slice A (ops.length) (c)) rfl (by kernel_rfl) (rMove rfl rfl) ?_)
    refine li rfl (opVal (.int .i64 ((ops.length : Nat) : Int)) rfl (by kernel_rfl) (rClosed fun _ => by kernel_rfl) ?_)
    refine li rfl (opVal (.bool (decide (((i : Nat) : Int) < ((ops.length : Nat) : Int)))) rfl (by kernel_rfl) (rClosed fun _ => by kernel_rfl) ?_)
    refine liNil ?_
    refine qThen ?_
    refine stCond rfl (fun hc83 => ?_) (fun hc83 => ?_)
    · have hd83 := of_decide_eq_true hc83
      have hlt : i < ops.length := by omega
      obtain ⟨⟨key, d⟩, ho⟩ : ∃ o, ops[i]? = some o := ⟨_, List.getElem?_eq_getElem hlt⟩
      have HST := Lib.hid (runTo_succ T (ops := ops.map invOp) (i := i) (o := invOp (key, d)) (by rw [List.getElem?_map, ho]; rfl))
      obtain ⟨U, HUU⟩ : ∃ U, Hid (U = runTo T (ops.map invOp) i) := ⟨_, rfl⟩
      rw [← HUU.out] at HST ⊢
      obtain ⟨hk1, hk2⟩ := opCells_get ho
      obtain ⟨b, o, hA, hbl, hck⟩ := HR.out _ _ hk1
      obtain ⟨b', o', hA', _, hcd⟩ := HR.out _ _ hk2
      subst hA
      injection hA' with hA'
      injection hA' with hb' ho'
      subst hb' ho'
      refine stSkip ?_
      refine qThen ?_
      refine stSeq ?_
      refine stBlock ?_
      refine stSeq ?_
      refine reg ?_
      refine li rfl (opVal (.slice (some ⟨b, o, none⟩) (ops.length) (c)) rfl (by kernel_rfl) (rMove rfl rfl) ?_)
      refine li rfl (opVal (.int .i64 ((i : Nat) : Int)) rfl (by kernel_rfl) (rMove rfl rfl) ?_)
      refine li rfl (opVal (.pointer (some ⟨b, o + i * 2, none⟩)) rfl (by kernel_rfl) (rIndexAddr (e := 62) (sz := 2) rfl (by kernel_rfl) (by kernel_rfl) rfl rfl (by omega)) ?_)
      refine li rfl (opVal (.pointer (some ⟨b, o + i * 2 + 1, none⟩)) rfl (by kernel_rfl) (rClosed fun _ => by kernel_rfl) ?_)
      refine li rfl (opVal (.bool d) rfl (by kernel_rfl) (rLoadW rfl rfl (by kernel_rfl) (fun w hM => hM.old (by rw [Nat.add_assoc]; exact hcd) (by simp))) ?_)
      refine liNil ?_
      refine qThen ?_
      refine stCond rfl (fun hc90 => ?_) (fun hc90 => ?_)
      · subst hc90
        refine reg ?_
        refine li rfl (opVal (.pointer (some ⟨bt, 0, none⟩)) rfl (by kernel_rfl) (rMove rfl rfl) ?_)
        refine li rfl (opVal (.slice (some ⟨b, o, none⟩) (ops.length) (c)) rfl (by kernel_rfl) (rMove rfl rfl) ?_)
        refine li rfl (opVal (.int .i64 ((i : Nat) : Int)) rfl (by kernel_rfl) (rMove rfl rfl) ?_)
        refine li rfl (opVal (.pointer (some ⟨b, o + i * 2, none⟩)) rfl (by kernel_rfl) (rIndexAddr (e := 62) (sz := 2) rfl (by kernel_rfl) (by kernel_rfl) rfl rfl (by omega)) ?_)
        refine li rfl (opVal (.pointer (some ⟨b, o + i * 2, none⟩)) rfl (by kernel_rfl) (rClosed fun _ => by kernel_rfl) ?_)
        refine li rfl (opVal (.string (strOf key)) rfl (by kernel_rfl) (rLoadW rfl rfl (by kernel_rfl) (fun w hM => hM.old hck (by simp))) ?_)
        refine li rfl ?_
        refine opCall 22 #[(.pointer (some ⟨bt, 0, none⟩)), (.string (strOf key))] rfl (by kernel_rfl) (fun _ => by kernel_rfl) (fun w hM => ?_)
        refine (stepCall_ins bt bc cap rest U key w (HV.out.mm hM) (hM.at (i := 0) rfl)).mono ?_
        rintro e w' ⟨r, rfl, hf, ht⟩
        have hM' := hM.swapTab 0 rfl hf ht
        refine ⟨_, _, rfl, hM', ?_⟩
        clear hM hM' hf ht
        refine liNil ?_
        refine qBlock ?_
        refine qThen ?_
        refine reg ?_
        refine li rfl (opVal (.int .i64 ((i : Nat) : Int)) rfl (by kernel_rfl) (rMove rfl rfl) ?_)
        refine li rfl (opVal (.int .i64 ((i + 1 : Nat) : Int)) rfl (by kernel_rfl) (rAdd _ rfl rfl rfl (by omega) (by omega) (by omega)) ?_)
        refine li rfl (opVal (.int .i64 ((i + 1 : Nat) : Int)) rfl (by kernel_rfl) (rAssign rfl rfl) ?_)
        refine liNil ?_
        refine qThen ?_
        exact stAgain (i + 1) (by show _ ≤ _; omega) (by show ops.length - (i + 1) < ops.length - i; omega) ⟨rfl, rfl, rfl, trivial⟩ (fun w hM => by show Mm _ _ [cTab bt bc cap rest (runTo T (ops.map invOp) (i + 1))] w; rw [HST.out]; exact hM)
      · subst hc90
        refine reg ?_
        refine li rfl (opVal (.pointer (some ⟨bt, 0, none⟩)) rfl (by kernel_rfl) (rMove rfl rfl) ?_)
        refine li rfl (opVal (.slice (some ⟨b, o, none⟩) (ops.length) (c)) rfl (by kernel_rfl) (rMove rfl rfl) ?_)
        refine li rfl (opVal (.int .i64 ((i : Nat) : Int)) rfl (by kernel_rfl) (rMove rfl rfl) ?_)
        refine li rfl (opVal (.pointer (some ⟨b, o + i * 2, none⟩)) rfl (by kernel_rfl) (rIndexAddr (e := 62) (sz := 2) rfl (by kernel_rfl) (by kernel_rfl) rfl rfl (by omega)) ?_)
        refine li rfl (opVal (.pointer (some ⟨b, o + i * 2, none⟩)) rfl (by kernel_rfl) (rClosed fun _ => by kernel_rfl) ?_)
        refine li rfl (opVal (.string (strOf key)) rfl (by kernel_rfl) (rLoadW rfl rfl (by kernel_rfl) (fun w hM => hM.old hck (by simp))) ?_)
        refine li rfl ?_
        refine opCall 33 #[(.pointer (some ⟨bt, 0, none⟩)), (.string (strOf key))] rfl (by kernel_rfl) (fun _ => by kernel_rfl) (fun w hM => ?_)
        refine (stepCall_del bt bc cap rest U key w (HV.out.mm hM) (hM.at (i := 0) rfl)).mono ?_
        rintro e w' ⟨r, rfl, hf, ht⟩
        have hM' := hM.swapTab 0 rfl hf ht
        refine ⟨_, _, rfl, hM', ?_⟩
        clear hM hM' hf ht
        refine liNil ?_
        refine qBlock ?_
        refine qThen ?_
        refine reg ?_
        refine li rfl (opVal (.int .i64 ((i : Nat) : Int)) rfl (by kernel_rfl) (rMove rfl rfl) ?_)
        refine li rfl (opVal (.int .i64 ((i + 1 : Nat) : Int)) rfl (by kernel_rfl) (rAdd _ rfl rfl rfl (by omega) (by omega) (by omega)) ?_)
        refine li rfl (opVal (.int .i64 ((i + 1 : Nat) : Int)) rfl (by kernel_rfl) (rAssign rfl rfl) ?_)
        refine liNil ?_
        refine qThen ?_
        exact stAgain (i + 1) (by show _ ≤ _; omega) (by show ops.length - (i + 1) < ops.length - i; omega) ⟨rfl, rfl, rfl, trivial⟩ (fun w hM => by show Mm _ _ [cTab bt bc cap rest (runTo T (ops.map invOp) (i + 1))] w; rw [HST.out]; exact hM)
    · have hd83 := of_decide_eq_false hc83
      obtain rfl : i = ops.length := by omega
      have HFIN : runTo T (ops.map invOp) ops.length = BT.new n seed := by
        have h1 := runTo_all T (ops.map invOp)
        rw [List.length_map] at h1
        rw [h1, HT.out]
        exact run_undo ops (BT.Ok.new n seed HU.out)
      rw [HFIN]
      refine stExit ?_
      refine qThenX ?_
      refine qThenX ?_
      refine qBlockX ?_
      refine qThen ?_
      refine stSeq ?_
      refine reg ?_
      refine li rfl ?_
      refine opCall 13 #[] rfl (by kernel_rfl) (fun _ => by kernel_rfl) (fun w hM => ?_)
      refine (awake_any w (HV.out.mm hM)).mono ?_
      rintro e w' ⟨rfl, hf⟩
      have hM' := hM.fr0 hf
      refine ⟨(.bool true), _, rfl, hM', ?_⟩
      clear hM hM' hf
      refine li rfl (opVal (.bool true) rfl (by kernel_rfl) (rMove rfl rfl) ?_)
      refine liGo rfl rfl (opVal (.pointer (some ⟨bt, 0, none⟩)) rfl (by kernel_rfl) (rMove rfl rfl) ?_)
      refine liGo rfl rfl ?_
      refine opCall 34 #[(.pointer (some ⟨bt, 0, none⟩))] rfl (by kernel_rfl) (fun _ => by kernel_rfl) (fun w hM => ?_)
      refine ((by have h := empty_any _ _ _ _ (BT.new n seed) w (hM.at (i := 0) rfl); rw [new_empty] at h; exact h : Calls _ _ _ w fun e w' => e = .returned (.bool true) ∧ Fr [] w w')).mono ?_
      rintro e w' ⟨rfl, hf⟩
      have hM' := hM.fr0 hf
      refine ⟨_, _, rfl, hM', ?_⟩
      clear hM hM' hf
      refine li rfl (opVal (.bool true) rfl (by kernel_rfl) (rClosed fun _ => by kernel_rfl) ?_)
      refine li rfl (opVal (.bool true) rfl (by kernel_rfl) (rAssign rfl rfl) ?_)
      refine liNil ?_
      refine qThen ?_
      refine stRet ?_
      refine stEnd [(.bool true)] rfl ⟨rfl, trivial⟩ (fun w hM => ?_)
      exact ⟨rfl, hM.fr⟩

theorem lawOrder_any (m : Int) (seed : Nat) (A : Option Addr) (c : Nat) (ops : List BOp) (w : World) (hv : Vars w) (hu : U64 seed) (hr : RowIn w A (opCells ops)) :
    Calls Tryd.prog 8 #[Value.int .i64 m, .int .u64 (seed : Int), .slice A ops.length c] w fun e w' => e = .returned (.bool true) ∧ Fr [] w w' := by
  cases hfew : fewB m ops.length with
  | false => exact lawOrder_big m seed A c ops w hv hfew
  | true =>
    cases hm : isSz m with
    | false => exact lawOrder_bad m seed A c ops w hv hfew hm
    | true =>
      obtain ⟨n, rfl⟩ := isSz_nat hm
      exact lawOrder_ok n seed A c ops w hv hfew hm hu hr (few_len hfew)
end Go.Proofs.YtnhagokkamobaaaDoor
