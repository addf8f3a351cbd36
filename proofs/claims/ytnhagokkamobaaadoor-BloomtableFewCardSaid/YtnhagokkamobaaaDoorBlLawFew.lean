/- The law BloomtableFew, walked. -/
import Derived.Test.YtnhagokkamobaaaDoorBlPlay2
import Derived.Test.YtnhagokkamobaaaDoorBlSub2
import Derived.Test.YtnhagokkamobaaaDoorBlIns
import Derived.Test.YtnhagokkamobaaaDoorFewPlain
import Derived.Test.YtnhagokkamobaaaDoorFewSha
namespace Go.Proofs.YtnhagokkamobaaaDoor
open Go.RowKit

def opsT (cm : List UInt8) : List BOp := cm.map fun b => (sha [b], false)
theorem opsT_len (cm : List UInt8) : (opsT cm).length = cm.length := by simp [opsT]
theorem opsT_get {cm : List UInt8} {i : Nat} {b : UInt8} (h : cm[i]? = some b) : (opsT cm)[i]? = some (sha [b], false) := by simp [opsT, h]
theorem opsU_get {cm : List UInt8} {i : Nat} {b : UInt8} (hi : i < cm.length) (h : cm[cm.length - 1 - i]? = some b) : (opsT cm).reverse[i]? = some (sha [b], false) := by
  rw [List.getElem?_reverse (by rw [opsT_len]; exact hi), opsT_len]
  exact opsT_get h
theorem B8_map (l : List UInt8) (i : Nat) : (B8 l)[i]? = (l[i]?).map fun y => .int .u8 ((y.toNat : Nat) : Int) := by simp [B8]
theorem wrap_u8 (x : Nat) : IntKind.u8.wrap (x : Int) = (((UInt8.ofNat x).toNat : Nat) : Int) := by
  rw [IntKind.wrap_u8, UInt8.toNat_ofNat']
  omega
def minB (p q : List UInt8) : List UInt8 := if decide (p < q) || decide (p = q) then p else q
def maxB (p q : List UInt8) : List UInt8 := if !decide (p < q) then p else q
theorem sort_two (p q : List UInt8) : sortS [p, q] = [minB p q, maxB p q] := by
  refine sorted_eq ((sortS_perm _).trans ?_) (sortS_sorted _) ?_
  · unfold minB maxB
    by_cases h : p < q
    · simp [h]
    · by_cases h2 : p = q
      · simp [h2]
      · simp [h, h2]
        exact List.Perm.swap _ _ _
  · rw [List.pairwise_pair]
    unfold minB maxB
    by_cases h : p < q
    · simp [h]
      exact k_le_of_lt h
    · by_cases h2 : p = q
      · simp [h2]
      · simp [h, h2]
        exact k_not_lt.1 h
theorem places_ne {n seed : Nat} {k l : List UInt8} (h : ¬ placesL n seed k = placesL n seed l) : ∃ j, j < 3 ∧ bplace n seed k j ≠ bplace n seed l j := by
  by_cases h0 : bplace n seed k 0 = bplace n seed l 0
  · by_cases h1 : bplace n seed k 1 = bplace n seed l 1
    · by_cases h2 : bplace n seed k 2 = bplace n seed l 2
      · exact (h (by unfold placesL; rw [h0, h1, h2])).elim
      · exact ⟨2, by omega, h2⟩
    · exact ⟨1, by omega, h1⟩
  · exact ⟨0, by omega, h0⟩
theorem places_eq {n seed : Nat} {k l : List UInt8} (h : placesL n seed k = placesL n seed l) : ∀ j, j < 3 → bplace n seed k j = bplace n seed l j := by
  unfold placesL at h
  simp only [List.cons.injEq, and_true] at h
  intro j hj
  match j, hj with
  | 0, _ => omega
  | 1, _ => omega
  | 2, _ => omega
theorem rowIn_at {w : World} {b : Nat} {t : TypeId} {l xs : List Value} (h : At w b t l) (e : xs = l) : RowIn w (some ⟨b, 0, none⟩) xs := fun j v hj => ⟨b, 0, rfl, h.lt, by rw [h.cell, Nat.zero_add, ← e]; exact hj⟩
section
variable {P : Program} {w0 : World} {F : List Nat} {E : Env} {cs : List Ch} {o : Oper}
theorem rShr8 {ty u : TypeId} {x : Operand} {a : Nat} (ho : o.op = .binOp .shr ty x (.const (.int .u64 8)) u) (hx : evO E x = some (.int .u16 (a : Int))) (_h : True = True) : RunV P w0 F cs E o (.int .u16 ((a / 256 : Nat) : Int)) := fun w _ => by
  unfold execOp
  have e : (a : Int).fdiv (2 ^ 8) = ((a / 256 : Nat) : Int) := by
    rw [Int.fdiv_eq_ediv_of_nonneg _ (by decide)]
    omega
  have h8 : ((8 : Int).toNat) = 8 := rfl
  simp only [ho, evE_of hx, evE_of (show evO E (.const (.int .u64 8)) = some (.int .u64 8) from rfl), Sem.run_bind, run_eqGuard_int, Result.andThen_ok, binOp, Op.shift]
  have hb : min 8 IntKind.u16.bits = 8 := rfl
  simp [h8, hb]
  exact Int.fdiv_eq_ediv_of_nonneg _ (by decide)
theorem rMinS {x y : Operand} {t1 t2 : TypeId} {p q : List UInt8} (ho : o.op = .call { callee := .builtin .min, args := #[x, y], argTypes := #[t1, t2] }) (hx : evO E x = some (.string (strOf p))) (hy : evO E y = some (.string (strOf q))) : RunV P w0 F cs E o (.string (strOf (minB p q))) := fun w _ => by
  unfold execOp
  simp only [ho, resolve, invoke, builtin, Sem.run_bind, Sem.run_pure, Result.andThen_ok, List.map_toArray, List.map_cons, List.map_nil, evE_of hx, evE_of hy, Builtin.min_, List.foldlM_cons, List.foldlM_nil, Builtin.min2, Op.stringOp, strOf_toList, beqL, bytesLess_eq, asBool]
  unfold minB
  split <;> simp_all
theorem rMaxS {x y : Operand} {t1 t2 : TypeId} {p q : List UInt8} (ho : o.op = .call { callee := .builtin .max, args := #[x, y], argTypes := #[t1, t2] }) (hx : evO E x = some (.string (strOf p))) (hy : evO E y = some (.string (strOf q))) : RunV P w0 F cs E o (.string (strOf (maxB p q))) := fun w _ => by
  unfold execOp
  simp only [ho, resolve, invoke, builtin, Sem.run_bind, Sem.run_pure, Result.andThen_ok, List.map_toArray, List.map_cons, List.map_nil, evE_of hx, evE_of hy, Builtin.max_, List.foldlM_cons, List.foldlM_nil, Builtin.max2, Op.stringOp, strOf_toList, bytesLess_eq, asBool]
  unfold maxB
  split <;> simp_all
end

set_option maxRecDepth 100000 in
set_option maxHeartbeats 1000000 in
theorem lawFew_bad (m : Int) (seed : Nat) (A : Option Addr) (c : Nat) (cm : List UInt8) (x y : Nat) (both other : Bool) (w : World) (hv : Vars w) (hm : isSz m = false) :
    Calls Tryd.prog 5 #[Value.int .i64 m, .int .u64 (seed : Int), .slice A cm.length c, .int .u16 (x : Int), .int .u16 (y : Int), Value.bool both, Value.bool other] w fun e w' => e = .returned (.bool true) ∧ Fr [] w w' := by
  have HV := Lib.hid hv
  clear hv
  refine stEnter (args := [Value.int .i64 m, .int .u64 (seed : Int), .slice A cm.length c, .int .u16 (x : Int), .int .u16 (y : Int), Value.bool both, Value.bool other]) [] Tryd.func5 rfl 196 rfl [(0, Value.int .i64 m), (1, .int .u64 (seed : Int)), (2, .slice A cm.length c), (3, .int .u16 (x : Int)), (4, .int .u16 (y : Int)), (5, Value.bool both), (6, Value.bool other)] ⟨rfl, rfl, rfl, rfl, rfl, rfl, rfl, trivial⟩ [] (Mm.start w []) ?_
  refine stSeq ?_
  refine reg ?_
  refine li rfl (opVal (.bool false) rfl (by kernel_rfl) (rAssign rfl rfl) ?_)
  refine liNil ?_
  refine qThen ?_
  refine stSeq ?_
  refine stSeq ?_
  refine reg ?_
  refine li rfl (opVal (.int .i64 m) rfl (by kernel_rfl) (rMove rfl rfl) ?_)
  refine li rfl ?_
  refine opCall 16 #[(.int .i64 m)] rfl (by kernel_rfl) (fun _ => by kernel_rfl) (fun w hM => ?_)
  refine ((by rw [← hm]; exact valid_any m w : Calls _ _ _ w fun e w' => e = .returned (.bool false) ∧ w = w')).mono ?_
  rintro e w' ⟨rfl, rfl⟩
  refine ⟨(.bool false), _, rfl, hM, ?_⟩
  clear hM
  refine li rfl (opVal (.bool true) rfl (by kernel_rfl) (rClosed fun _ => by kernel_rfl) ?_)
  refine li rfl (opVal (.bool true) rfl (by kernel_rfl) (rMove rfl rfl) ?_)
  refine liNot (b := true) rfl rfl (by kernel_rfl) rfl ?_
  refine liNot (b := true) rfl rfl (by kernel_rfl) rfl ?_
  refine li rfl (opVal (.bool true) rfl (by kernel_rfl) (rClosed fun _ => by kernel_rfl) ?_)
  refine li rfl (opVal (.bool true) rfl (by kernel_rfl) (rMove rfl rfl) ?_)
  refine liNot (b := true) rfl rfl (by kernel_rfl) rfl ?_
  refine liNot (b := true) rfl rfl (by kernel_rfl) rfl ?_
  refine liNot (b := true) rfl rfl (by kernel_rfl) rfl ?_
  refine li rfl (opVal (.bool true) rfl (by kernel_rfl) (rClosed fun _ => by kernel_rfl) ?_)
  refine liNil ?_
  refine qThen ?_
  refine stTrue rfl ?_
  refine stSeq ?_
  refine reg ?_
  refine li rfl ?_
  refine opCall 13 #[] rfl (by kernel_rfl) (fun _ => by kernel_rfl) (fun w hM => ?_)
  refine (awake_any w (HV.out.mm hM)).mono ?_
  rintro e w' ⟨rfl, hf⟩
  have hM' := hM.fr0 hf
  refine ⟨(.bool true), _, rfl, hM', ?_⟩
  clear hM hM' hf
  refine li rfl (opVal (.bool true) rfl (by kernel_rfl) (rAssign rfl rfl) ?_)
  refine liNil ?_
  refine qThen ?_
  refine stRet ?_
  refine qThenR ?_
  refine stEnd [(.bool true)] rfl ⟨rfl, trivial⟩ (fun w hM => ?_)
  exact ⟨rfl, hM.fr⟩

set_option maxRecDepth 100000 in
set_option maxHeartbeats 1000000 in
theorem lawFew_big (n seed : Nat) (A : Option Addr) (c : Nat) (cm : List UInt8) (x y : Nat) (both other : Bool) (w : World) (hv : Vars w) (hm : isSz (n : Int) = true) (h60 : 60 < n) :
    Calls Tryd.prog 5 #[Value.int .i64 (n : Int), .int .u64 (seed : Int), .slice A cm.length c, .int .u16 (x : Int), .int .u16 (y : Int), Value.bool both, Value.bool other] w fun e w' => e = .returned (.bool true) ∧ Fr [] w w' := by
  have HV := Lib.hid hv
  clear hv
  refine stEnter (args := [Value.int .i64 (n : Int), .int .u64 (seed : Int), .slice A cm.length c, .int .u16 (x : Int), .int .u16 (y : Int), Value.bool both, Value.bool other]) [] Tryd.func5 rfl 196 rfl [(0, Value.int .i64 (n : Int)), (1, .int .u64 (seed : Int)), (2, .slice A cm.length c), (3, .int .u16 (x : Int)), (4, .int .u16 (y : Int)), (5, Value.bool both), (6, Value.bool other)] ⟨rfl, rfl, rfl, rfl, rfl, rfl, rfl, trivial⟩ [] (Mm.start w []) ?_
  refine stSeq ?_
  refine reg ?_
  refine li rfl (opVal (.bool false) rfl (by kernel_rfl) (rAssign rfl rfl) ?_)
  refine liNil ?_
  refine qThen ?_
  refine stSeq ?_
  refine stSeq ?_
  refine reg ?_
  refine li rfl (opVal (.int .i64 ((n : Nat) : Int)) rfl (by kernel_rfl) (rMove rfl rfl) ?_)
  refine li rfl ?_
  refine opCall 16 #[(.int .i64 ((n : Nat) : Int))] rfl (by kernel_rfl) (fun _ => by kernel_rfl) (fun w hM => ?_)
  refine ((by rw [← hm]; exact valid_any (n : Int) w : Calls _ _ _ w fun e w' => e = .returned (.bool true) ∧ w = w')).mono ?_
  rintro e w' ⟨rfl, rfl⟩
  refine ⟨(.bool true), _, rfl, hM, ?_⟩
  clear hM
  refine li rfl (opVal (.bool false) rfl (by kernel_rfl) (rClosed fun _ => by kernel_rfl) ?_)
  refine li rfl (opVal (.bool false) rfl (by kernel_rfl) (rMove rfl rfl) ?_)
  refine liGo rfl rfl (opVal (.int .i64 ((n : Nat) : Int)) rfl (by kernel_rfl) (rMove rfl rfl) ?_)
  refine liGo rfl rfl (opVal (.bool (decide (((n : Nat) : Int) > 60))) rfl (by kernel_rfl) (rClosed fun _ => by kernel_rfl) ?_)
  refine li rfl (opVal (.bool (decide (((n : Nat) : Int) > 60))) rfl (by kernel_rfl) (rClosed fun _ => by kernel_rfl) ?_)
  refine li rfl (opVal (.bool (decide (((n : Nat) : Int) > 60))) rfl (by kernel_rfl) (rMove rfl rfl) ?_)
  refine St.known 36 (b' := true) rfl (by simp; omega) ?_
  refine liNot (b := true) rfl rfl (by kernel_rfl) rfl ?_
  refine liNot (b := true) rfl rfl (by kernel_rfl) rfl ?_
  refine liNot (b := true) rfl rfl (by kernel_rfl) rfl ?_
  refine li rfl (opVal (.bool true) rfl (by kernel_rfl) (rClosed fun _ => by kernel_rfl) ?_)
  refine liNil ?_
  refine qThen ?_
  refine stTrue rfl ?_
  refine stSeq ?_
  refine reg ?_
  refine li rfl ?_
  refine opCall 13 #[] rfl (by kernel_rfl) (fun _ => by kernel_rfl) (fun w hM => ?_)
  refine (awake_any w (HV.out.mm hM)).mono ?_
  rintro e w' ⟨rfl, hf⟩
  have hM' := hM.fr0 hf
  refine ⟨(.bool true), _, rfl, hM', ?_⟩
  clear hM hM' hf
  refine li rfl (opVal (.bool true) rfl (by kernel_rfl) (rAssign rfl rfl) ?_)
  refine liNil ?_
  refine qThen ?_
  refine stRet ?_
  refine qThenR ?_
  refine stEnd [(.bool true)] rfl ⟨rfl, trivial⟩ (fun w hM => ?_)
  exact ⟨rfl, hM.fr⟩

set_option maxRecDepth 100000 in
set_option maxHeartbeats 1000000 in
theorem lawFew_long (n seed : Nat) (A : Option Addr) (c : Nat) (cm : List UInt8) (x y : Nat) (both other : Bool) (w : World) (hv : Vars w) (hm : isSz (n : Int) = true) (h60 : n ≤ 60) (h30 : 30 < cm.length) :
    Calls Tryd.prog 5 #[Value.int .i64 (n : Int), .int .u64 (seed : Int), .slice A cm.length c, .int .u16 (x : Int), .int .u16 (y : Int), Value.bool both, Value.bool other] w fun e w' => e = .returned (.bool true) ∧ Fr [] w w' := by
  have HV := Lib.hid hv
  clear hv
  refine stEnter (args := [Value.int .i64 (n : Int), .int .u64 (seed : Int), .slice A cm.length c, .int .u16 (x : Int), .int .u16 (y : Int), Value.bool both, Value.bool other]) [] Tryd.func5 rfl 196 rfl [(0, Value.int .i64 (n : Int)), (1, .int .u64 (seed : Int)), (2, .slice A cm.length c), (3, .int .u16 (x : Int)), (4, .int .u16 (y : Int)), (5, Value.bool both), (6, Value.bool other)] ⟨rfl, rfl, rfl, rfl, rfl, rfl, rfl, trivial⟩ [] (Mm.start w []) ?_
  refine stSeq ?_
  refine reg ?_
  refine li rfl (opVal (.bool false) rfl (by kernel_rfl) (rAssign rfl rfl) ?_)
  refine liNil ?_
  refine qThen ?_
  refine stSeq ?_
  refine stSeq ?_
  refine reg ?_
  refine li rfl (opVal (.int .i64 ((n : Nat) : Int)) rfl (by kernel_rfl) (rMove rfl rfl) ?_)
  refine li rfl ?_
  refine opCall 16 #[(.int .i64 ((n : Nat) : Int))] rfl (by kernel_rfl) (fun _ => by kernel_rfl) (fun w hM => ?_)
  refine ((by rw [← hm]; exact valid_any (n : Int) w : Calls _ _ _ w fun e w' => e = .returned (.bool true) ∧ w = w')).mono ?_
  rintro e w' ⟨rfl, rfl⟩
  refine ⟨(.bool true), _, rfl, hM, ?_⟩
  clear hM
  refine li rfl (opVal (.bool false) rfl (by kernel_rfl) (rClosed fun _ => by kernel_rfl) ?_)
  refine li rfl (opVal (.bool false) rfl (by kernel_rfl) (rMove rfl rfl) ?_)
  refine liGo rfl rfl (opVal (.int .i64 ((n : Nat) : Int)) rfl (by kernel_rfl) (rMove rfl rfl) ?_)
  refine liGo rfl rfl (opVal (.bool (decide (((n : Nat) : Int) > 60))) rfl (by kernel_rfl) (rClosed fun _ => by kernel_rfl) ?_)
  refine li rfl (opVal (.bool (decide (((n : Nat) : Int) > 60))) rfl (by kernel_rfl) (rClosed fun _ => by kernel_rfl) ?_)
  refine li rfl (opVal (.bool (decide (((n : Nat) : Int) > 60))) rfl (by kernel_rfl) (rMove rfl rfl) ?_)
  refine St.known 36 (b' := false) rfl (by simp; omega) ?_
  refine liGo rfl rfl (opVal (.slice A (cm.length) (c)) rfl (by kernel_rfl) (rMove rfl rfl) ?_)
  refine liGo rfl rfl (opVal (.int .i64 ((cm.length : Nat) : Int)) rfl (by kernel_rfl) (rClosed fun _ => by kernel_rfl) ?_)
  refine liGo rfl rfl (opVal (.bool (decide (((cm.length : Nat) : Int) > 30))) rfl (by kernel_rfl) (rClosed fun _ => by kernel_rfl) ?_)
  refine li rfl (opVal (.bool (decide (((cm.length : Nat) : Int) > 30))) rfl (by kernel_rfl) (rClosed fun _ => by kernel_rfl) ?_)
  refine liNil ?_
  refine qThen ?_
  refine stTrueK rfl (by simp; omega) ?_
  refine stSeq ?_
  refine reg ?_
  refine li rfl ?_
  refine opCall 13 #[] rfl (by kernel_rfl) (fun _ => by kernel_rfl) (fun w hM => ?_)
  refine (awake_any w (HV.out.mm hM)).mono ?_
  rintro e w' ⟨rfl, hf⟩
  have hM' := hM.fr0 hf
  refine ⟨(.bool true), _, rfl, hM', ?_⟩
  clear hM hM' hf
  refine li rfl (opVal (.bool true) rfl (by kernel_rfl) (rAssign rfl rfl) ?_)
  refine liNil ?_
  refine qThen ?_
  refine stRet ?_
  refine qThenR ?_
  refine stEnd [(.bool true)] rfl ⟨rfl, trivial⟩ (fun w hM => ?_)
  exact ⟨rfl, hM.fr⟩

set_option maxRecDepth 100000 in
set_option maxHeartbeats 4000000 in
theorem lawFew_one (n seed : Nat) (A : Option Addr) (c : Nat) (cm : List UInt8) (x y : Nat) (other : Bool) (w : World) (hv : Vars w) (hm : isSz (n : Int) = true) (h60 : n ≤ 60) (h30 : cm.length ≤ 30) (hu : U64 seed) (hr : RowIn w A (B8 cm)) (one two : List UInt8) (ho : one = sha (msg 1 x)) (ht : two = sha (msg 2 y)) (h1 : one.length = 32) :
    Calls Tryd.prog 5 #[Value.int .i64 (n : Int), .int .u64 (seed : Int), .slice A cm.length c, .int .u16 (x : Int), .int .u16 (y : Int), Value.bool false, Value.bool other] w fun e w' => e = .returned (.bool true) ∧ Fr [] w w' := by
  have HV := Lib.hid hv
  clear hv
  have HU := Lib.hid hu
  have HR := Lib.hid hr
  have HO := Lib.hid ho
  have HT2 := Lib.hid ht
  clear hu hr ho ht
  obtain ⟨X, HX⟩ : ∃ X, Hid (runAll (BT.new n seed) (opsT cm) = X) := ⟨_, rfl⟩
  have hXo : X.Ok := by rw [← HX.out]; exact (BT.Ok.new n seed HU.out).run _
  have hXl : X.cells.length = n := by rw [← HX.out, runAll_len, new_len]
  have hXs : X.seed = seed := by rw [← HX.out, runAll_seed]; rfl
  have hsl : (X.change one 1).cells.length = X.cells.length := by simp only [change_len]
  have hss : (X.change one 1).seed = X.seed := by simp only [change_seed]
  have HTD : Hid ((X.change one 1).sub X = (BT.new n seed).change one 1) := by show _ = _; rw [sub_change _ _ _ _ rfl, sub_self hXo, hXl, hXs]
  have hkey := few_one (n := n) (seed := seed) (isSz_bounds hm).1 HU.out h1
  refine stEnter (args := [Value.int .i64 (n : Int), .int .u64 (seed : Int), .slice A cm.length c, .int .u16 (x : Int), .int .u16 (y : Int), Value.bool false, Value.bool other]) [] Tryd.func5 rfl 196 rfl [(0, Value.int .i64 (n : Int)), (1, .int .u64 (seed : Int)), (2, .slice A cm.length c), (3, .int .u16 (x : Int)), (4, .int .u16 (y : Int)), (5, Value.bool false), (6, Value.bool other)] ⟨rfl, rfl, rfl, rfl, rfl, rfl, rfl, trivial⟩ [] (Mm.start w []) ?_
  refine stSeq ?_
  refine reg ?_
  refine li rfl (opVal (.bool false) rfl (by kernel_rfl) (rAssign rfl rfl) ?_)
  refine liNil ?_
  refine qThen ?_
  refine stSeq ?_
  refine stSeq ?_
  refine reg ?_
  refine li rfl (opVal (.int .i64 ((n : Nat) : Int)) rfl (by kernel_rfl) (rMove rfl rfl) ?_)
  refine li rfl ?_
  refine opCall 16 #[(.int .i64 ((n : Nat) : Int))] rfl (by kernel_rfl) (fun _ => by kernel_rfl) (fun w hM => ?_)
  refine ((by rw [← hm]; exact valid_any (n : Int) w : Calls _ _ _ w fun e w' => e = .returned (.bool true) ∧ w = w')).mono ?_
  rintro e w' ⟨rfl, rfl⟩
  refine ⟨(.bool true), _, rfl, hM, ?_⟩
  clear hM
  refine li rfl (opVal (.bool false) rfl (by kernel_rfl) (rClosed fun _ => by kernel_rfl) ?_)
  refine li rfl (opVal (.bool false) rfl (by kernel_rfl) (rMove rfl rfl) ?_)
  refine liGo rfl rfl (opVal (.int .i64 ((n : Nat) : Int)) rfl (by kernel_rfl) (rMove rfl rfl) ?_)
  refine liGo rfl rfl (opVal (.bool (decide (((n : Nat) : Int) > 60))) rfl (by kernel_rfl) (rClosed fun _ => by kernel_rfl) ?_)
  refine li rfl (opVal (.bool (decide (((n : Nat) : Int) > 60))) rfl (by kernel_rfl) (rClosed fun _ => by kernel_rfl) ?_)
  refine li rfl (opVal (.bool (decide (((n : Nat) : Int) > 60))) rfl (by kernel_rfl) (rMove rfl rfl) ?_)
  refine St.known 36 (b' := false) rfl (by simp; omega) ?_
  refine liGo rfl rfl (opVal (.slice A (cm.length) (c)) rfl (by kernel_rfl) (rMove rfl rfl) ?_)
  refine liGo rfl rfl (opVal (.int .i64 ((cm.length : Nat) : Int)) rfl (by kernel_rfl) (rClosed fun _ => by kernel_rfl) ?_)
  refine liGo rfl rfl (opVal (.bool (decide (((cm.length : Nat) : Int) > 30))) rfl (by kernel_rfl) (rClosed fun _ => by kernel_rfl) ?_)
  refine li rfl (opVal (.bool (decide (((cm.length : Nat) : Int) > 30))) rfl (by kernel_rfl) (rClosed fun _ => by kernel_rfl) ?_)
  refine liNil ?_
  refine qThen ?_
  refine stFalseK rfl (by simp; omega) ?_
  refine stSkip ?_
  refine qThen ?_
  refine stSeq ?_
  refine reg ?_
  refine li rfl (opVal (.int .i64 ((n : Nat) : Int)) rfl (by kernel_rfl) (rMove rfl rfl) ?_)
  refine li rfl (opVal (.int .u64 ((seed : Nat) : Int)) rfl (by kernel_rfl) (rMove rfl rfl) ?_)
  refine li rfl ?_
  refine opCall 21 #[(.int .i64 ((n : Nat) : Int)), (.int .u64 ((seed : Nat) : Int))] rfl (by kernel_rfl) (fun _ => by kernel_rfl) (fun w hM => ?_)
  refine (blNew_any n seed w hm HU.out).mono ?_
  rintro e w' ⟨rfl, hf, ht⟩
  obtain ⟨bt1, hbt⟩ : ∃ bt, bt = w.heap.size + 1 := ⟨_, rfl⟩
  obtain ⟨bc1, hbc⟩ : ∃ bc, bc = w.heap.size := ⟨_, rfl⟩
  rw [← hbt] at ht ⊢
  rw [← hbc] at ht
  have hM' := hM.pushTab hf ht (by omega) (by omega)
  refine ⟨_, _, rfl, hM', ?_⟩
  clear hM hM' hf ht hbt hbc
  refine li rfl (opVal (.tuple #[(.pointer (some ⟨bt1, 0, none⟩)), (.int .i64 0)]) rfl (by kernel_rfl) (rMove rfl rfl) ?_)
  refine li rfl (opVal (.pointer (some ⟨bt1, 0, none⟩)) rfl (by kernel_rfl) (rClosed fun _ => by kernel_rfl) ?_)
  refine li rfl (opVal (.int .i64 0) rfl (by kernel_rfl) (rClosed fun _ => by kernel_rfl) ?_)
  refine li rfl (opVal (.pointer (some ⟨bt1, 0, none⟩)) rfl (by kernel_rfl) (rAssign rfl rfl) ?_)
  refine li rfl (opVal (.int .i64 0) rfl (by kernel_rfl) (rAssign rfl rfl) ?_)
  refine liNil ?_
  refine qThen ?_
  refine stSeq ?_
  refine reg ?_
  refine li rfl (opVal (.int .i64 ((n : Nat) : Int)) rfl (by kernel_rfl) (rMove rfl rfl) ?_)
  refine li rfl (opVal (.int .u64 ((seed : Nat) : Int)) rfl (by kernel_rfl) (rMove rfl rfl) ?_)
  refine li rfl ?_
  refine opCall 21 #[(.int .i64 ((n : Nat) : Int)), (.int .u64 ((seed : Nat) : Int))] rfl (by kernel_rfl) (fun _ => by kernel_rfl) (fun w hM => ?_)
  refine (blNew_any n seed w hm HU.out).mono ?_
  rintro e w' ⟨rfl, hf, ht⟩
  obtain ⟨bt2, hbt⟩ : ∃ bt, bt = w.heap.size + 1 := ⟨_, rfl⟩
  obtain ⟨bc2, hbc⟩ : ∃ bc, bc = w.heap.size := ⟨_, rfl⟩
  rw [← hbt] at ht ⊢
  rw [← hbc] at ht
  have hM' := hM.pushTab hf ht (by omega) (by omega)
  refine ⟨_, _, rfl, hM', ?_⟩
  clear hM hM' hf ht hbt hbc
  refine li rfl (opVal (.tuple #[(.pointer (some ⟨bt2, 0, none⟩)), (.int .i64 0)]) rfl (by kernel_rfl) (rMove rfl rfl) ?_)
  refine li rfl (opVal (.pointer (some ⟨bt2, 0, none⟩)) rfl (by kernel_rfl) (rClosed fun _ => by kernel_rfl) ?_)
  refine li rfl (opVal (.int .i64 0) rfl (by kernel_rfl) (rClosed fun _ => by kernel_rfl) ?_)
  refine li rfl (opVal (.pointer (some ⟨bt2, 0, none⟩)) rfl (by kernel_rfl) (rAssign rfl rfl) ?_)
  refine li rfl (opVal (.int .i64 0) rfl (by kernel_rfl) (rAssign rfl rfl) ?_)
  refine liNil ?_
  refine qThen ?_
  refine stSeq ?_
  refine stSeq ?_
  refine reg ?_
  refine li rfl (opVal (.int .i64 0) rfl (by kernel_rfl) (rMove rfl rfl) ?_)
  refine li rfl (opVal (.bool false) rfl (by kernel_rfl) (rClosed fun _ => by kernel_rfl) ?_)
  refine li rfl (opVal (.bool false) rfl (by kernel_rfl) (rMove rfl rfl) ?_)
  refine liGo rfl rfl (opVal (.int .i64 0) rfl (by kernel_rfl) (rMove rfl rfl) ?_)
  refine liGo rfl rfl (opVal (.bool false) rfl (by kernel_rfl) (rClosed fun _ => by kernel_rfl) ?_)
  refine li rfl (opVal (.bool false) rfl (by kernel_rfl) (rClosed fun _ => by kernel_rfl) ?_)
  refine li rfl (opVal (.bool false) rfl (by kernel_rfl) (rMove rfl rfl) ?_)
  refine liGo rfl rfl (opVal (.pointer (some ⟨bt1, 0, none⟩)) rfl (by kernel_rfl) (rMove rfl rfl) ?_)
  refine liGo rfl rfl (opVal (.bool false) rfl (by kernel_rfl) (rClosed fun _ => by kernel_rfl) ?_)
  refine li rfl (opVal (.bool false) rfl (by kernel_rfl) (rClosed fun _ => by kernel_rfl) ?_)
  refine li rfl (opVal (.bool false) rfl (by kernel_rfl) (rMove rfl rfl) ?_)
  refine liGo rfl rfl (opVal (.pointer (some ⟨bt2, 0, none⟩)) rfl (by kernel_rfl) (rMove rfl rfl) ?_)
  refine liGo rfl rfl (opVal (.bool false) rfl (by kernel_rfl) (rClosed fun _ => by kernel_rfl) ?_)
  refine li rfl (opVal (.bool false) rfl (by kernel_rfl) (rClosed fun _ => by kernel_rfl) ?_)
  refine liNil ?_
  refine qThen ?_
  refine stFalse rfl ?_
  refine stSkip ?_
  refine qThen ?_
  refine stSeq ?_
  refine stSeq ?_
  refine reg ?_
  refine li rfl (opVal (.int .i64 0) rfl (by kernel_rfl) (rAssign rfl rfl) ?_)
  refine liNil ?_
  refine qThen ?_
  refine stBlock ?_
  have e0 := runTo_zero (BT.new n seed) (opsT cm)
  have e1 := runTo_zero (BT.new n seed) (opsT cm).reverse
  refine stLoop (ι := Nat) (fun i => i ≤ cm.length) (fun i => cm.length - i) (fun i => [(0, (.int .i64 ((n : Nat) : Int))), (1, (.int .u64 ((seed : Nat) : Int))), (2, (.slice A (cm.length) (c))), (3, (.int .u16 ((x : Nat) : Int))), (4, (.int .u16 ((y : Nat) : Int))), (5, (.bool false)), (6, (.bool other)), (15, (.pointer (some ⟨bt1, 0, none⟩))), (17, (.pointer (some ⟨bt2, 0, none⟩))), (19, (.int .i64 ((i : Nat) : Int)))]) (fun i => [cTab bt1 bc1 n [] (runTo (BT.new n seed) (opsT cm) i), cTab bt2 bc2 n [] (runTo (BT.new n seed) (opsT cm).reverse i)]) 0 (Nat.zero_le _) ⟨rfl, rfl, rfl, rfl, rfl, rfl, rfl, rfl, rfl, rfl, trivial⟩ (fun w hM => by show Mm _ _ [cTab bt1 bc1 n [] (runTo (BT.new n seed) (opsT cm) 0), cTab bt2 bc2 n [] (runTo (BT.new n seed) (opsT cm).reverse 0)] w; rw [e0, e1]; exact hM) ?_
  intro i (hi : i ≤ cm.length)
  show St _ _ _ [(0, (.int .i64 ((n : Nat) : Int))), (1, (.int .u64 ((seed : Nat) : Int))), (2, (.slice A (cm.length) (c))), (3, (.int .u16 ((x : Nat) : Int))), (4, (.int .u16 ((y : Nat) : Int))), (5, (.bool false)), (6, (.bool other)), (15, (.pointer (some ⟨bt1, 0, none⟩))), (17, (.pointer (some ⟨bt2, 0, none⟩))), (19, (.int .i64 ((i : Nat) : Int)))] [cTab bt1 bc1 n [] (runTo (BT.new n seed) (opsT cm) i), cTab bt2 bc2 n [] (runTo (BT.new n seed) (opsT cm).reverse i)] _
  refine stSeq ?_
  refine stSeq ?_
  refine reg ?_
  refine li rfl (opVal (.int .i64 ((i : Nat) : Int)) rfl (by kernel_rfl) (rMove rfl rfl) ?_)
  refine li rfl (opVal (.slice A (cm.length) (c)) rfl (by kernel_rfl) (rMove rfl rfl) ?_)
  refine li rfl (opVal (.int .i64 ((cm.length : Nat) : Int)) rfl (by kernel_rfl) (rClosed fun _ => by kernel_rfl) ?_)
  refine li rfl (opVal (.bool (decide (((i : Nat) : Int) < ((cm.length : Nat) : Int)))) rfl (by kernel_rfl) (rClosed fun _ => by kernel_rfl) ?_)
  refine liNil ?_
  refine qThen ?_
  refine stCond rfl (fun hc71 => ?_) (fun hc71 => ?_)
  · have hd71 := of_decide_eq_true hc71
    have hlt : i < cm.length := by omega
    obtain ⟨b0, hb0⟩ : ∃ b, cm[i]? = some b := ⟨_, List.getElem?_eq_getElem hlt⟩
    obtain ⟨b1, hb1⟩ : ∃ b, cm[cm.length - 1 - i]? = some b := ⟨_, List.getElem?_eq_getElem (by omega)⟩
    have HST := Lib.hid (runTo_succ (BT.new n seed) (opsT_get hb0))
    have HSU := Lib.hid (runTo_succ (BT.new n seed) (opsU_get hlt hb1))
    obtain ⟨b, o, hA, hbl, hck0⟩ := HR.out i _ (by rw [B8_map, hb0]; rfl)
    obtain ⟨b', o', hA', _, hck1⟩ := HR.out (cm.length - 1 - i) _ (by rw [B8_map, hb1]; rfl)
    subst hA
    injection hA' with hA'
    injection hA' with hb' ho'
    subst hb' ho'
    obtain ⟨T, HTT⟩ : ∃ T, Hid (T = runTo (BT.new n seed) (opsT cm) i) := ⟨_, rfl⟩
    obtain ⟨U, HUU⟩ : ∃ U, Hid (U = runTo (BT.new n seed) (opsT cm).reverse i) := ⟨_, rfl⟩
    rw [← HTT.out] at HST ⊢
    rw [← HUU.out] at HSU ⊢
    refine stSkip ?_
    refine qThen ?_
    refine stSeq ?_
    refine stBlock ?_
    refine stSeq ?_
    refine reg ?_
    refine li rfl (opVal (.pointer (some ⟨bt1, 0, none⟩)) rfl (by kernel_rfl) (rMove rfl rfl) ?_)
    refine li rfl (opVal (.slice (some ⟨b, o, none⟩) (cm.length) (c)) rfl (by kernel_rfl) (rMove rfl rfl) ?_)
    refine li rfl (opVal (.int .i64 ((i : Nat) : Int)) rfl (by kernel_rfl) (rMove rfl rfl) ?_)
    refine li rfl (opVal (.pointer (some ⟨b, o + i, none⟩)) rfl (by kernel_rfl) (rIndexAddr1 (e := 5) rfl (by kernel_rfl) (by kernel_rfl) rfl rfl (by omega)) ?_)
    refine li rfl (opVal (.int .u8 ((b0.toNat : Nat) : Int)) rfl (by kernel_rfl) (rLoadW rfl rfl (by kernel_rfl) (fun w hM => hM.old hck0 (by simp))) ?_)
    refine li rfl ?_
    refine opCall 23 #[(.int .u8 ((b0.toNat : Nat) : Int))] rfl (by kernel_rfl) (fun _ => by kernel_rfl) (fun w hM => ?_)
    refine (keyOf_any b0 w).mono ?_
    rintro e w' ⟨rfl, hf⟩
    have hM' := hM.fr0 hf
    refine ⟨(.string (strOf (sha [b0]))), _, rfl, hM', ?_⟩
    clear hM hM' hf
    refine li rfl ?_
    refine opCall 22 #[(.pointer (some ⟨bt1, 0, none⟩)), (.string (strOf (sha [b0])))] rfl (by kernel_rfl) (fun _ => by kernel_rfl) (fun w hM => ?_)
    refine (insCall bt1 bc1 n [] T (sha [b0]) w (HV.out.mm hM) (hM.at (i := 0) rfl)).mono ?_
    rintro e w' ⟨rfl, hf, ht⟩
    have hM' := hM.swapTab 0 rfl hf ht
    refine ⟨_, _, rfl, hM', ?_⟩
    clear hM hM' hf ht
    refine liNil ?_
    refine qThen ?_
    refine reg ?_
    refine li rfl (opVal (.pointer (some ⟨bt2, 0, none⟩)) rfl (by kernel_rfl) (rMove rfl rfl) ?_)
    refine li rfl (opVal (.slice (some ⟨b, o, none⟩) (cm.length) (c)) rfl (by kernel_rfl) (rMove rfl rfl) ?_)
    refine li rfl (opVal (.slice (some ⟨b, o, none⟩) (cm.length) (c)) rfl (by kernel_rfl) (rMove rfl rfl) ?_)
    refine li rfl (opVal (.int .i64 ((cm.length : Nat) : Int)) rfl (by kernel_rfl) (rClosed fun _ => by kernel_rfl) ?_)
    refine li rfl (opVal (.int .i64 (((cm.length - 1) : Nat) : Int)) rfl (by kernel_rfl) (rSub _ rfl rfl rfl (by omega) (by omega) (by omega)) ?_)
    refine li rfl (opVal (.int .i64 ((i : Nat) : Int)) rfl (by kernel_rfl) (rMove rfl rfl) ?_)
    refine li rfl (opVal (.int .i64 (((cm.length - 1 - i) : Nat) : Int)) rfl (by kernel_rfl) (rSub _ rfl rfl rfl (by omega) (by omega) (by omega)) ?_)
    refine li rfl (opVal (.pointer (some ⟨b, o + (cm.length - 1 - i), none⟩)) rfl (by kernel_rfl) (rIndexAddr1 (e := 5) rfl (by kernel_rfl) (by kernel_rfl) rfl rfl (by omega)) ?_)
    refine li rfl (opVal (.int .u8 ((b1.toNat : Nat) : Int)) rfl (by kernel_rfl) (rLoadW rfl rfl (by kernel_rfl) (fun w hM => hM.old hck1 (by simp))) ?_)
    refine li rfl ?_
    refine opCall 23 #[(.int .u8 ((b1.toNat : Nat) : Int))] rfl (by kernel_rfl) (fun _ => by kernel_rfl) (fun w hM => ?_)
    refine (keyOf_any b1 w).mono ?_
    rintro e w' ⟨rfl, hf⟩
    have hM' := hM.fr0 hf
    refine ⟨(.string (strOf (sha [b1]))), _, rfl, hM', ?_⟩
    clear hM hM' hf
    refine li rfl ?_
    refine opCall 22 #[(.pointer (some ⟨bt2, 0, none⟩)), (.string (strOf (sha [b1])))] rfl (by kernel_rfl) (fun _ => by kernel_rfl) (fun w hM => ?_)
    refine (insCall bt2 bc2 n [] U (sha [b1]) w (HV.out.mm hM) (hM.at (i := 1) rfl)).mono ?_
    rintro e w' ⟨rfl, hf, ht⟩
    have hM' := hM.swapTab 1 rfl hf ht
    refine ⟨_, _, rfl, hM', ?_⟩
    clear hM hM' hf ht
    refine liNil ?_
    refine qBlock ?_
    refine qThen ?_
    refine reg ?_
    refine li rfl (opVal (.int .i64 ((i : Nat) : Int)) rfl (by kernel_rfl) (rMove rfl rfl) ?_)
    refine li rfl (opVal (.int .i64 ((i + 1 : Nat) : Int)) rfl (by kernel_rfl) (rAdd _ rfl rfl rfl (by omega) (by omega) (by omega)) ?_)
    refine li rfl (opVal (.int .i64 ((i + 1 : Nat) : Int)) rfl (by kernel_rfl) (rAssign rfl rfl) ?_)
    refine liNil ?_
    refine qThen ?_
    exact stAgain (i + 1) (by show _ ≤ _; omega) (by show cm.length - (i + 1) < cm.length - i; omega) ⟨rfl, rfl, rfl, rfl, rfl, rfl, rfl, rfl, rfl, rfl, trivial⟩ (fun w hM => by show Mm _ _ [cTab bt1 bc1 n [] (runTo (BT.new n seed) (opsT cm) (i + 1)), cTab bt2 bc2 n [] (runTo (BT.new n seed) (opsT cm).reverse (i + 1))] w; rw [HST.out, HSU.out]; exact hM)
  · have hd71 := of_decide_eq_false hc71
    obtain rfl : i = cm.length := by omega
    have hT := runTo_all (BT.new n seed) (opsT cm)
    have hUU := runTo_all (BT.new n seed) (opsT cm).reverse
    rw [opsT_len] at hT
    rw [List.length_reverse, opsT_len, run_reverse] at hUU
    rw [hT, hUU, HX.out]
    refine stExit ?_
    refine qThenX ?_
    refine qThenX ?_
    refine qBlockX ?_
    refine qThen ?_
    refine stSeq ?_
    refine reg ?_
    refine li rfl (opVal (.int .u16 ((x : Nat) : Int)) rfl (by kernel_rfl) (rMove rfl rfl) ?_)
    refine li rfl (opVal (.int .u8 (((UInt8.ofNat x).toNat : Nat) : Int)) rfl (by kernel_rfl) (rIntC _ (fun _ => by kernel_rfl) rfl rfl (wrap_u8 x)) ?_)
    refine li rfl (opVal (.int .u16 ((x : Nat) : Int)) rfl (by kernel_rfl) (rMove rfl rfl) ?_)
    refine li rfl (opVal (.int .u16 (((x / 256) : Nat) : Int)) rfl (by kernel_rfl) (rShr8 rfl rfl rfl) ?_)
    refine li rfl (opVal (.int .u8 (((UInt8.ofNat (x / 256)).toNat : Nat) : Int)) rfl (by kernel_rfl) (rIntC _ (fun _ => by kernel_rfl) rfl rfl (wrap_u8 (x / 256))) ?_)
    refine li rfl ?_
    refine opNew (v := fun b => .slice (some ⟨b, 0, none⟩) 3 3) 5 [(.int .u8 1), (.int .u8 (((UInt8.ofNat x).toNat : Nat) : Int)), (.int .u8 (((UInt8.ofNat (x / 256)).toNat : Nat) : Int))] rfl (by kernel_rfl) (fun _ => by kernel_rfl) (fun b97 => ?_)
    refine li rfl ?_
    refine opCall 24 #[(.slice (some ⟨b97, 0, none⟩) (3) (3))] rfl (by kernel_rfl) (fun _ => by kernel_rfl) (fun w hM => ?_)
    refine (by have h := refSum_any (some ⟨b97, 0, none⟩) 3 (msg 1 x) w (rowAt' (i := 2) rfl (fun j v h => by rw [Nat.zero_add]; exact h) w hM) (by simp [msg]); rw [← HO.out] at h; exact h : Calls _ _ _ w fun e w' => e = .returned (.string (strOf one)) ∧ Fr [] w w').mono ?_
    rintro e w' ⟨rfl, hf⟩
    have hM' := hM.fr0 hf
    refine ⟨_, _, rfl, hM', ?_⟩
    clear hM hM' hf
    refine li rfl (opVal (.int .u16 ((y : Nat) : Int)) rfl (by kernel_rfl) (rMove rfl rfl) ?_)
    refine li rfl (opVal (.int .u8 (((UInt8.ofNat y).toNat : Nat) : Int)) rfl (by kernel_rfl) (rIntC _ (fun _ => by kernel_rfl) rfl rfl (wrap_u8 y)) ?_)
    refine li rfl (opVal (.int .u16 ((y : Nat) : Int)) rfl (by kernel_rfl) (rMove rfl rfl) ?_)
    refine li rfl (opVal (.int .u16 (((y / 256) : Nat) : Int)) rfl (by kernel_rfl) (rShr8 rfl rfl rfl) ?_)
    refine li rfl (opVal (.int .u8 (((UInt8.ofNat (y / 256)).toNat : Nat) : Int)) rfl (by kernel_rfl) (rIntC _ (fun _ => by kernel_rfl) rfl rfl (wrap_u8 (y / 256))) ?_)
    refine li rfl ?_
    refine opNew (v := fun b => .slice (some ⟨b, 0, none⟩) 3 3) 5 [(.int .u8 2), (.int .u8 (((UInt8.ofNat y).toNat : Nat) : Int)), (.int .u8 (((UInt8.ofNat (y / 256)).toNat : Nat) : Int))] rfl (by kernel_rfl) (fun _ => by kernel_rfl) (fun b104 => ?_)
    refine li rfl ?_
    refine opCall 24 #[(.slice (some ⟨b104, 0, none⟩) (3) (3))] rfl (by kernel_rfl) (fun _ => by kernel_rfl) (fun w hM => ?_)
    refine (by have h := refSum_any (some ⟨b104, 0, none⟩) 3 (msg 2 y) w (rowAt' (i := 3) rfl (fun j v h => by rw [Nat.zero_add]; exact h) w hM) (by simp [msg]); rw [← HT2.out] at h; exact h : Calls _ _ _ w fun e w' => e = .returned (.string (strOf two)) ∧ Fr [] w w').mono ?_
    rintro e w' ⟨rfl, hf⟩
    have hM' := hM.fr0 hf
    refine ⟨_, _, rfl, hM', ?_⟩
    clear hM hM' hf
    refine li rfl (opVal (.string (strOf one)) rfl (by kernel_rfl) (rAssign rfl rfl) ?_)
    refine li rfl (opVal (.string (strOf two)) rfl (by kernel_rfl) (rAssign rfl rfl) ?_)
    refine liNil ?_
    refine qThen ?_
    refine stSeq ?_
    refine reg ?_
    refine li rfl (opVal (.pointer (some ⟨bt1, 0, none⟩)) rfl (by kernel_rfl) (rMove rfl rfl) ?_)
    refine li rfl (opVal (.string (strOf one)) rfl (by kernel_rfl) (rMove rfl rfl) ?_)
    refine li rfl ?_
    refine opCall 22 #[(.pointer (some ⟨bt1, 0, none⟩)), (.string (strOf one))] rfl (by kernel_rfl) (fun _ => by kernel_rfl) (fun w hM => ?_)
    refine (insert_any bt1 bc1 n [] X one w (HV.out.mm hM) (hM.at (i := 0) rfl) h1).mono ?_
    rintro e w' ⟨rfl, hf, ht⟩
    have hM' := hM.swapTab 0 rfl hf ht
    refine ⟨_, _, rfl, hM', ?_⟩
    clear hM hM' hf ht
    refine liNil ?_
    refine qThen ?_
    refine stSeq ?_
    refine reg ?_
    refine li rfl (opVal (.string (strOf one)) rfl (by kernel_rfl) (rMove rfl rfl) ?_)
    refine li rfl ?_
    refine opNew (v := fun b => .slice (some ⟨b, 0, none⟩) 1 1) 9 [(.string (strOf one))] rfl (by kernel_rfl) (fun _ => by kernel_rfl) (fun b110 => ?_)
    refine li rfl ?_
    refine opNew (v := fun b => .slice (some ⟨b, 0, none⟩) 0 0) 9 [] rfl (by kernel_rfl) (fun _ => by kernel_rfl) (fun b111 => ?_)
    refine li rfl (opVal (.slice (some ⟨b110, 0, none⟩) (1) (1)) rfl (by kernel_rfl) (rAssign rfl rfl) ?_)
    refine li rfl (opVal (.slice (some ⟨b111, 0, none⟩) (0) (0)) rfl (by kernel_rfl) (rAssign rfl rfl) ?_)
    refine liNil ?_
    refine qThen ?_
    refine stSeq ?_
    refine stSeq ?_
    refine reg ?_
    refine li rfl (opVal (.bool false) rfl (by kernel_rfl) (rMove rfl rfl) ?_)
    refine li rfl (opVal (.bool false) rfl (by kernel_rfl) (rMove rfl rfl) ?_)
    refine liNot (b := false) rfl rfl (by kernel_rfl) rfl ?_
    refine li rfl (opVal (.bool false) rfl (by kernel_rfl) (rClosed fun _ => by kernel_rfl) ?_)
    refine liNil ?_
    refine qThen ?_
    refine stFalse rfl ?_
    refine stSkip ?_
    refine qThen ?_
    refine stSeq ?_
    refine stSeq ?_
    refine reg ?_
    refine li rfl (opVal (.bool false) rfl (by kernel_rfl) (rMove rfl rfl) ?_)
    refine li rfl (opVal (.bool false) rfl (by kernel_rfl) (rMove rfl rfl) ?_)
    refine liNot (b := false) rfl rfl (by kernel_rfl) rfl ?_
    refine liNot (b := false) rfl rfl (by kernel_rfl) rfl ?_
    refine li rfl (opVal (.bool false) rfl (by kernel_rfl) (rClosed fun _ => by kernel_rfl) ?_)
    refine liNil ?_
    refine qThen ?_
    refine stFalse rfl ?_
    refine stSkip ?_
    refine qThen ?_
    refine stSeq ?_
    refine reg ?_
    refine li rfl (opVal (.pointer (some ⟨bt1, 0, none⟩)) rfl (by kernel_rfl) (rMove rfl rfl) ?_)
    refine li rfl (opVal (.pointer (some ⟨bt2, 0, none⟩)) rfl (by kernel_rfl) (rMove rfl rfl) ?_)
    refine li rfl ?_
    refine opCall 25 #[(.pointer (some ⟨bt1, 0, none⟩)), (.pointer (some ⟨bt2, 0, none⟩))] rfl (by kernel_rfl) (fun _ => by kernel_rfl) (fun w hM => ?_)
    refine (by have h := subtract_ok _ _ _ _ _ _ _ _ (X.change one 1) X w (hM.at (i := 0) rfl) (hM.at (i := 1) rfl) hsl hss; rw [HTD.out] at h; exact h : Calls _ _ _ w fun e w' => ∃ btr bcr capr restr, e = .returned (.tuple #[Value.pointer (some ⟨btr, 0, none⟩), Value.int .i64 0]) ∧ Mm w [] [cTab btr bcr capr restr ((BT.new n seed).change one 1)] w').mono ?_
    rintro e w' ⟨bt3, bc3, cap3, rest3, rfl, hP⟩
    have hM' := hM.lift hP
    refine ⟨_, _, rfl, hM', ?_⟩
    clear hM hM' hP
    refine li rfl (opVal (.tuple #[(.pointer (some ⟨bt3, 0, none⟩)), (.int .i64 0)]) rfl (by kernel_rfl) (rMove rfl rfl) ?_)
    refine li rfl (opVal (.pointer (some ⟨bt3, 0, none⟩)) rfl (by kernel_rfl) (rClosed fun _ => by kernel_rfl) ?_)
    refine li rfl (opVal (.int .i64 0) rfl (by kernel_rfl) (rClosed fun _ => by kernel_rfl) ?_)
    refine li rfl (opVal (.pointer (some ⟨bt3, 0, none⟩)) rfl (by kernel_rfl) (rAssign rfl rfl) ?_)
    refine li rfl (opVal (.int .i64 0) rfl (by kernel_rfl) (rAssign rfl rfl) ?_)
    refine liNil ?_
    refine qThen ?_
    refine stSeq ?_
    refine stSeq ?_
    refine reg ?_
    refine li rfl (opVal (.int .i64 0) rfl (by kernel_rfl) (rMove rfl rfl) ?_)
    refine li rfl (opVal (.bool false) rfl (by kernel_rfl) (rClosed fun _ => by kernel_rfl) ?_)
    refine li rfl (opVal (.bool false) rfl (by kernel_rfl) (rMove rfl rfl) ?_)
    refine liGo rfl rfl (opVal (.pointer (some ⟨bt3, 0, none⟩)) rfl (by kernel_rfl) (rMove rfl rfl) ?_)
    refine liGo rfl rfl (opVal (.bool false) rfl (by kernel_rfl) (rClosed fun _ => by kernel_rfl) ?_)
    refine li rfl (opVal (.bool false) rfl (by kernel_rfl) (rClosed fun _ => by kernel_rfl) ?_)
    refine liNil ?_
    refine qThen ?_
    refine stFalse rfl ?_
    refine stSkip ?_
    refine qThen ?_
    refine stSeq ?_
    refine reg ?_
    refine li rfl (opVal (.pointer (some ⟨bt3, 0, none⟩)) rfl (by kernel_rfl) (rMove rfl rfl) ?_)
    refine li rfl ?_
    refine opCallB 26 #[(.pointer (some ⟨bt3, 0, none⟩))] rfl (by kernel_rfl) (fun _ => by kernel_rfl) (fun w hM => ?_)
    refine (keys_some hkey (HV.out.mm hM) (hM.at (i := 6) rfl)).mono ?_
    rintro e w1 ⟨Aa, ca, Ab, cb, rfl, hf, hra, hrb⟩
    have hM1 := hM.fr0 hf
    refine ⟨_, w1, [], [], rfl, Mm.start w1 [], ?_⟩
    have HF1 := Lib.hid hM1.fr
    have HV1 : Hid (Vars w1) := HV.out.mm hM1
    have HA := Lib.hid hra
    have HB := Lib.hid hrb
    have HAD : Hid (At w1 b110 9 [(.string (strOf one))]) := hM1.at (i := 4) rfl
    have HRM : Hid (At w1 b111 9 []) := hM1.at (i := 5) rfl
    clear hM hM1 hf hra hrb
    refine li rfl (opVal (.tuple #[(.slice Aa (([one]).length) (ca)), (.slice Ab ((([] : List (List UInt8))).length) (cb)), (.int .i64 0)]) rfl (by kernel_rfl) (rMove rfl rfl) ?_)
    refine li rfl (opVal (.slice Aa (([one]).length) (ca)) rfl (by kernel_rfl) (rClosed fun _ => by kernel_rfl) ?_)
    refine li rfl (opVal (.slice Ab ((([] : List (List UInt8))).length) (cb)) rfl (by kernel_rfl) (rClosed fun _ => by kernel_rfl) ?_)
    refine li rfl (opVal (.int .i64 0) rfl (by kernel_rfl) (rClosed fun _ => by kernel_rfl) ?_)
    refine li rfl (opVal (.slice Aa (([one]).length) (ca)) rfl (by kernel_rfl) (rAssign rfl rfl) ?_)
    refine li rfl (opVal (.slice Ab ((([] : List (List UInt8))).length) (cb)) rfl (by kernel_rfl) (rAssign rfl rfl) ?_)
    refine li rfl (opVal (.int .i64 0) rfl (by kernel_rfl) (rAssign rfl rfl) ?_)
    refine liNil ?_
    refine qThen ?_
    refine stSeq ?_
    refine stSeq ?_
    refine reg ?_
    refine li rfl (opVal (.bool false) rfl (by kernel_rfl) (rMove rfl rfl) ?_)
    refine li rfl (opVal (.bool false) rfl (by kernel_rfl) (rMove rfl rfl) ?_)
    refine liNot (b := false) rfl rfl (by kernel_rfl) rfl ?_
    refine liNot (b := false) rfl rfl (by kernel_rfl) rfl ?_
    refine liNot (b := false) rfl rfl (by kernel_rfl) rfl ?_
    refine liNot (b := false) rfl rfl (by kernel_rfl) rfl ?_
    refine liNot (b := false) rfl rfl (by kernel_rfl) rfl ?_
    refine liNot (b := false) rfl rfl (by kernel_rfl) rfl ?_
    refine liNot (b := false) rfl rfl (by kernel_rfl) rfl ?_
    refine liNot (b := false) rfl rfl (by kernel_rfl) rfl ?_
    refine liNot (b := false) rfl rfl (by kernel_rfl) rfl ?_
    refine li rfl (opVal (.bool false) rfl (by kernel_rfl) (rClosed fun _ => by kernel_rfl) ?_)
    refine liNil ?_
    refine qThen ?_
    refine stFalse rfl ?_
    refine stSkip ?_
    refine qThen ?_
    refine stSeq ?_
    refine reg ?_
    refine li rfl ?_
    refine opCall 13 #[] rfl (by kernel_rfl) (fun _ => by kernel_rfl) (fun w hM => ?_)
    refine (awake_any w (HV1.out.mm hM)).mono ?_
    rintro e w' ⟨rfl, hf⟩
    have hM' := hM.fr0 hf
    refine ⟨(.bool true), _, rfl, hM', ?_⟩
    clear hM hM' hf
    refine li rfl (opVal (.bool true) rfl (by kernel_rfl) (rMove rfl rfl) ?_)
    refine liGo rfl rfl (opVal (.int .i64 0) rfl (by kernel_rfl) (rMove rfl rfl) ?_)
    refine liGo rfl rfl (opVal (.bool true) rfl (by kernel_rfl) (rClosed fun _ => by kernel_rfl) ?_)
    refine li rfl (opVal (.bool true) rfl (by kernel_rfl) (rClosed fun _ => by kernel_rfl) ?_)
    refine li rfl (opVal (.bool true) rfl (by kernel_rfl) (rMove rfl rfl) ?_)
    refine liGo rfl rfl (opVal (.slice Aa (([one]).length) (ca)) rfl (by kernel_rfl) (rMove rfl rfl) ?_)
    refine liGo rfl rfl (opVal (.slice (some ⟨b110, 0, none⟩) (1) (1)) rfl (by kernel_rfl) (rMove rfl rfl) ?_)
    refine liGo rfl rfl ?_
    refine opCall 27 #[(.slice Aa (([one]).length) (ca)), (.slice (some ⟨b110, 0, none⟩) (1) (1))] rfl (by kernel_rfl) (fun _ => by kernel_rfl) (fun w hM => ?_)
    refine ((by have h := same_any Aa _ ca 1 ([one]) ([one])  w (HA.out.fr0 hM.fr) ((rowIn_at HAD.out rfl).fr0 hM.fr) (by simp) (by simp); rw [decide_eq_true rfl] at h; exact h : Calls _ _ _ w fun e w' => e = .returned (.bool true) ∧ Fr [] w w')).mono ?_
    rintro e w' ⟨rfl, hf⟩
    have hM' := hM.fr0 hf
    refine ⟨(.bool true), _, rfl, hM', ?_⟩
    clear hM hM' hf
    refine li rfl (opVal (.bool true) rfl (by kernel_rfl) (rClosed fun _ => by kernel_rfl) ?_)
    refine li rfl (opVal (.bool true) rfl (by kernel_rfl) (rMove rfl rfl) ?_)
    refine liGo rfl rfl (opVal (.slice Ab ((([] : List (List UInt8))).length) (cb)) rfl (by kernel_rfl) (rMove rfl rfl) ?_)
    refine liGo rfl rfl (opVal (.slice (some ⟨b111, 0, none⟩) (0) (0)) rfl (by kernel_rfl) (rMove rfl rfl) ?_)
    refine liGo rfl rfl ?_
    refine opCall 27 #[(.slice Ab ((([] : List (List UInt8))).length) (cb)), (.slice (some ⟨b111, 0, none⟩) (0) (0))] rfl (by kernel_rfl) (fun _ => by kernel_rfl) (fun w hM => ?_)
    refine ((by have h := same_any Ab _ cb 0 (([] : List (List UInt8))) (([] : List (List UInt8)))  w (HB.out.fr0 hM.fr) ((rowIn_at HRM.out rfl).fr0 hM.fr) (by simp) (by simp); rw [decide_eq_true rfl] at h; exact h : Calls _ _ _ w fun e w' => e = .returned (.bool true) ∧ Fr [] w w')).mono ?_
    rintro e w' ⟨rfl, hf⟩
    have hM' := hM.fr0 hf
    refine ⟨(.bool true), _, rfl, hM', ?_⟩
    clear hM hM' hf
    refine li rfl (opVal (.bool true) rfl (by kernel_rfl) (rClosed fun _ => by kernel_rfl) ?_)
    refine li rfl (opVal (.bool true) rfl (by kernel_rfl) (rAssign rfl rfl) ?_)
    refine liNil ?_
    refine qThen ?_
    refine stRet ?_
    refine stEnd [(.bool true)] rfl ⟨rfl, trivial⟩ (fun w hM => ?_)
    exact ⟨rfl, HF1.out.trans hM.fr⟩

set_option maxRecDepth 100000 in
set_option maxHeartbeats 4000000 in
theorem lawFew_other (n seed : Nat) (A : Option Addr) (c : Nat) (cm : List UInt8) (x y : Nat) (w : World) (hv : Vars w) (hm : isSz (n : Int) = true) (h60 : n ≤ 60) (h30 : cm.length ≤ 30) (hu : U64 seed) (hr : RowIn w A (B8 cm)) (one two : List UInt8) (ho : one = sha (msg 1 x)) (ht : two = sha (msg 2 y)) (h1 : one.length = 32) (h2 : two.length = 32) (hne : one ≠ two) (hpl : ¬ placesL n seed one = placesL n seed two) :
    Calls Tryd.prog 5 #[Value.int .i64 (n : Int), .int .u64 (seed : Int), .slice A cm.length c, .int .u16 (x : Int), .int .u16 (y : Int), Value.bool true, Value.bool true] w fun e w' => e = .returned (.bool true) ∧ Fr [] w w' := by
  have HV := Lib.hid hv
  clear hv
  have HU := Lib.hid hu
  have HR := Lib.hid hr
  have HO := Lib.hid ho
  have HT2 := Lib.hid ht
  clear hu hr ho ht
  obtain ⟨X, HX⟩ : ∃ X, Hid (runAll (BT.new n seed) (opsT cm) = X) := ⟨_, rfl⟩
  have hXo : X.Ok := by rw [← HX.out]; exact (BT.Ok.new n seed HU.out).run _
  have hXl : X.cells.length = n := by rw [← HX.out, runAll_len, new_len]
  have hXs : X.seed = seed := by rw [← HX.out, runAll_seed]; rfl
  have hsl : (X.change one 1).cells.length = (X.change two 1).cells.length := by simp only [change_len]
  have hss : (X.change one 1).seed = (X.change two 1).seed := by simp only [change_seed]
  have HTD : Hid ((X.change one 1).sub (X.change two 1) = ((BT.new n seed).change one 1).change two (-1)) := by show _ = _; rw [sub_change2 _ _ _ _ (by rw [change_len]) (by rw [change_seed]), sub_change _ _ _ _ rfl, sub_self hXo, hXl, hXs]
  have hkey : (((BT.new n seed).change one 1).change two (-1)).keys = some ([one], [two]) := by
    obtain ⟨j, hj, hp⟩ := places_ne hpl
    rw [few_two (isSz_bounds hm).1 HU.out h1 h2 hne (.inr rfl) hj hp, if_neg (by decide)]
  refine stEnter (args := [Value.int .i64 (n : Int), .int .u64 (seed : Int), .slice A cm.length c, .int .u16 (x : Int), .int .u16 (y : Int), Value.bool true, Value.bool true]) [] Tryd.func5 rfl 196 rfl [(0, Value.int .i64 (n : Int)), (1, .int .u64 (seed : Int)), (2, .slice A cm.length c), (3, .int .u16 (x : Int)), (4, .int .u16 (y : Int)), (5, Value.bool true), (6, Value.bool true)] ⟨rfl, rfl, rfl, rfl, rfl, rfl, rfl, trivial⟩ [] (Mm.start w []) ?_
  refine stSeq ?_
  refine reg ?_
  refine li rfl (opVal (.bool false) rfl (by kernel_rfl) (rAssign rfl rfl) ?_)
  refine liNil ?_
  refine qThen ?_
  refine stSeq ?_
  refine stSeq ?_
  refine reg ?_
  refine li rfl (opVal (.int .i64 ((n : Nat) : Int)) rfl (by kernel_rfl) (rMove rfl rfl) ?_)
  refine li rfl ?_
  refine opCall 16 #[(.int .i64 ((n : Nat) : Int))] rfl (by kernel_rfl) (fun _ => by kernel_rfl) (fun w hM => ?_)
  refine ((by rw [← hm]; exact valid_any (n : Int) w : Calls _ _ _ w fun e w' => e = .returned (.bool true) ∧ w = w')).mono ?_
  rintro e w' ⟨rfl, rfl⟩
  refine ⟨(.bool true), _, rfl, hM, ?_⟩
  clear hM
  refine li rfl (opVal (.bool false) rfl (by kernel_rfl) (rClosed fun _ => by kernel_rfl) ?_)
  refine li rfl (opVal (.bool false) rfl (by kernel_rfl) (rMove rfl rfl) ?_)
  refine liGo rfl rfl (opVal (.int .i64 ((n : Nat) : Int)) rfl (by kernel_rfl) (rMove rfl rfl) ?_)
  refine liGo rfl rfl (opVal (.bool (decide (((n : Nat) : Int) > 60))) rfl (by kernel_rfl) (rClosed fun _ => by kernel_rfl) ?_)
  refine li rfl (opVal (.bool (decide (((n : Nat) : Int) > 60))) rfl (by kernel_rfl) (rClosed fun _ => by kernel_rfl) ?_)
  refine li rfl (opVal (.bool (decide (((n : Nat) : Int) > 60))) rfl (by kernel_rfl) (rMove rfl rfl) ?_)
  refine St.known 36 (b' := false) rfl (by simp; omega) ?_
  refine liGo rfl rfl (opVal (.slice A (cm.length) (c)) rfl (by kernel_rfl) (rMove rfl rfl) ?_)
  refine liGo rfl rfl (opVal (.int .i64 ((cm.length : Nat) : Int)) rfl (by kernel_rfl) (rClosed fun _ => by kernel_rfl) ?_)
  refine liGo rfl rfl (opVal (.bool (decide (((cm.length : Nat) : Int) > 30))) rfl (by kernel_rfl) (rClosed fun _ => by kernel_rfl) ?_)
  refine li rfl (opVal (.bool (decide (((cm.length : Nat) : Int) > 30))) rfl (by kernel_rfl) (rClosed fun _ => by kernel_rfl) ?_)
  refine liNil ?_
  refine qThen ?_
  refine stFalseK rfl (by simp; omega) ?_
  refine stSkip ?_
  refine qThen ?_
  refine stSeq ?_
  refine reg ?_
  refine li rfl (opVal (.int .i64 ((n : Nat) : Int)) rfl (by kernel_rfl) (rMove rfl rfl) ?_)
  refine li rfl (opVal (.int .u64 ((seed : Nat) : Int)) rfl (by kernel_rfl) (rMove rfl rfl) ?_)
  refine li rfl ?_
  refine opCall 21 #[(.int .i64 ((n : Nat) : Int)), (.int .u64 ((seed : Nat) : Int))] rfl (by kernel_rfl) (fun _ => by kernel_rfl) (fun w hM => ?_)
  refine (blNew_any n seed w hm HU.out).mono ?_
  rintro e w' ⟨rfl, hf, ht⟩
  obtain ⟨bt1, hbt⟩ : ∃ bt, bt = w.heap.size + 1 := ⟨_, rfl⟩
  obtain ⟨bc1, hbc⟩ : ∃ bc, bc = w.heap.size := ⟨_, rfl⟩
  rw [← hbt] at ht ⊢
  rw [← hbc] at ht
  have hM' := hM.pushTab hf ht (by omega) (by omega)
  refine ⟨_, _, rfl, hM', ?_⟩
  clear hM hM' hf ht hbt hbc
  refine li rfl (opVal (.tuple #[(.pointer (some ⟨bt1, 0, none⟩)), (.int .i64 0)]) rfl (by kernel_rfl) (rMove rfl rfl) ?_)
  refine li rfl (opVal (.pointer (some ⟨bt1, 0, none⟩)) rfl (by kernel_rfl) (rClosed fun _ => by kernel_rfl) ?_)
  refine li rfl (opVal (.int .i64 0) rfl (by kernel_rfl) (rClosed fun _ => by kernel_rfl) ?_)
  refine li rfl (opVal (.pointer (some ⟨bt1, 0, none⟩)) rfl (by kernel_rfl) (rAssign rfl rfl) ?_)
  refine li rfl (opVal (.int .i64 0) rfl (by kernel_rfl) (rAssign rfl rfl) ?_)
  refine liNil ?_
  refine qThen ?_
  refine stSeq ?_
  refine reg ?_
  refine li rfl (opVal (.int .i64 ((n : Nat) : Int)) rfl (by kernel_rfl) (rMove rfl rfl) ?_)
  refine li rfl (opVal (.int .u64 ((seed : Nat) : Int)) rfl (by kernel_rfl) (rMove rfl rfl) ?_)
  refine li rfl ?_
  refine opCall 21 #[(.int .i64 ((n : Nat) : Int)), (.int .u64 ((seed : Nat) : Int))] rfl (by kernel_rfl) (fun _ => by kernel_rfl) (fun w hM => ?_)
  refine (blNew_any n seed w hm HU.out).mono ?_
  rintro e w' ⟨rfl, hf, ht⟩
  obtain ⟨bt2, hbt⟩ : ∃ bt, bt = w.heap.size + 1 := ⟨_, rfl⟩
  obtain ⟨bc2, hbc⟩ : ∃ bc, bc = w.heap.size := ⟨_, rfl⟩
  rw [← hbt] at ht ⊢
  rw [← hbc] at ht
  have hM' := hM.pushTab hf ht (by omega) (by omega)
  refine ⟨_, _, rfl, hM', ?_⟩
  clear hM hM' hf ht hbt hbc
  refine li rfl (opVal (.tuple #[(.pointer (some ⟨bt2, 0, none⟩)), (.int .i64 0)]) rfl (by kernel_rfl) (rMove rfl rfl) ?_)
  refine li rfl (opVal (.pointer (some ⟨bt2, 0, none⟩)) rfl (by kernel_rfl) (rClosed fun _ => by kernel_rfl) ?_)
  refine li rfl (opVal (.int .i64 0) rfl (by kernel_rfl) (rClosed fun _ => by kernel_rfl) ?_)
  refine li rfl (opVal (.pointer (some ⟨bt2, 0, none⟩)) rfl (by kernel_rfl) (rAssign rfl rfl) ?_)
  refine li rfl (opVal (.int .i64 0) rfl (by kernel_rfl) (rAssign rfl rfl) ?_)
  refine liNil ?_
  refine qThen ?_
  refine stSeq ?_
  refine stSeq ?_
  refine reg ?_
  refine li rfl (opVal (.int .i64 0) rfl (by kernel_rfl) (rMove rfl rfl) ?_)
  refine li rfl (opVal (.bool false) rfl (by kernel_rfl) (rClosed fun _ => by kernel_rfl) ?_)
  refine li rfl (opVal (.bool false) rfl (by kernel_rfl) (rMove rfl rfl) ?_)
  refine liGo rfl rfl (opVal (.int .i64 0) rfl (by kernel_rfl) (rMove rfl rfl) ?_)
  refine liGo rfl rfl (opVal (.bool false) rfl (by kernel_rfl) (rClosed fun _ => by kernel_rfl) ?_)
  refine li rfl (opVal (.bool false) rfl (by kernel_rfl) (rClosed fun _ => by kernel_rfl) ?_)
  refine li rfl (opVal (.bool false) rfl (by kernel_rfl) (rMove rfl rfl) ?_)
  refine liGo rfl rfl (opVal (.pointer (some ⟨bt1, 0, none⟩)) rfl (by kernel_rfl) (rMove rfl rfl) ?_)
  refine liGo rfl rfl (opVal (.bool false) rfl (by kernel_rfl) (rClosed fun _ => by kernel_rfl) ?_)
  refine li rfl (opVal (.bool false) rfl (by kernel_rfl) (rClosed fun _ => by kernel_rfl) ?_)
  refine li rfl (opVal (.bool false) rfl (by kernel_rfl) (rMove rfl rfl) ?_)
  refine liGo rfl rfl (opVal (.pointer (some ⟨bt2, 0, none⟩)) rfl (by kernel_rfl) (rMove rfl rfl) ?_)
  refine liGo rfl rfl (opVal (.bool false) rfl (by kernel_rfl) (rClosed fun _ => by kernel_rfl) ?_)
  refine li rfl (opVal (.bool false) rfl (by kernel_rfl) (rClosed fun _ => by kernel_rfl) ?_)
  refine liNil ?_
  refine qThen ?_
  refine stFalse rfl ?_
  refine stSkip ?_
  refine qThen ?_
  refine stSeq ?_
  refine stSeq ?_
  refine reg ?_
  refine li rfl (opVal (.int .i64 0) rfl (by kernel_rfl) (rAssign rfl rfl) ?_)
  refine liNil ?_
  refine qThen ?_
  refine stBlock ?_
  have e0 := runTo_zero (BT.new n seed) (opsT cm)
  have e1 := runTo_zero (BT.new n seed) (opsT cm).reverse
  refine stLoop (ι := Nat) (fun i => i ≤ cm.length) (fun i => cm.length - i) (fun i => [(0, (.int .i64 ((n : Nat) : Int))), (1, (.int .u64 ((seed : Nat) : Int))), (2, (.slice A (cm.length) (c))), (3, (.int .u16 ((x : Nat) : Int))), (4, (.int .u16 ((y : Nat) : Int))), (5, (.bool true)), (6, (.bool true)), (15, (.pointer (some ⟨bt1, 0, none⟩))), (17, (.pointer (some ⟨bt2, 0, none⟩))), (19, (.int .i64 ((i : Nat) : Int)))]) (fun i => [cTab bt1 bc1 n [] (runTo (BT.new n seed) (opsT cm) i), cTab bt2 bc2 n [] (runTo (BT.new n seed) (opsT cm).reverse i)]) 0 (Nat.zero_le _) ⟨rfl, rfl, rfl, rfl, rfl, rfl, rfl, rfl, rfl, rfl, trivial⟩ (fun w hM => by show Mm _ _ [cTab bt1 bc1 n [] (runTo (BT.new n seed) (opsT cm) 0), cTab bt2 bc2 n [] (runTo (BT.new n seed) (opsT cm).reverse 0)] w; rw [e0, e1]; exact hM) ?_
  intro i (hi : i ≤ cm.length)
  show St _ _ _ [(0, (.int .i64 ((n : Nat) : Int))), (1, (.int .u64 ((seed : Nat) : Int))), (2, (.slice A (cm.length) (c))), (3, (.int .u16 ((x : Nat) : Int))), (4, (.int .u16 ((y : Nat) : Int))), (5, (.bool true)), (6, (.bool true)), (15, (.pointer (some ⟨bt1, 0, none⟩))), (17, (.pointer (some ⟨bt2, 0, none⟩))), (19, (.int .i64 ((i : Nat) : Int)))] [cTab bt1 bc1 n [] (runTo (BT.new n seed) (opsT cm) i), cTab bt2 bc2 n [] (runTo (BT.new n seed) (opsT cm).reverse i)] _
  refine stSeq ?_
  refine stSeq ?_
  refine reg ?_
  refine li rfl (opVal (.int .i64 ((i : Nat) : Int)) rfl (by kernel_rfl) (rMove rfl rfl) ?_)
  refine li rfl (opVal (.slice A (cm.length) (c)) rfl (by kernel_rfl) (rMove rfl rfl) ?_)
  refine li rfl (opVal (.int .i64 ((cm.length : Nat) : Int)) rfl (by kernel_rfl) (rClosed fun _ => by kernel_rfl) ?_)
  refine li rfl (opVal (.bool (decide (((i : Nat) : Int) < ((cm.length : Nat) : Int)))) rfl (by kernel_rfl) (rClosed fun _ => by kernel_rfl) ?_)
  refine liNil ?_
  refine qThen ?_
  refine stCond rfl (fun hc71 => ?_) (fun hc71 => ?_)
  · have hd71 := of_decide_eq_true hc71
    have hlt : i < cm.length := by omega
    obtain ⟨b0, hb0⟩ : ∃ b, cm[i]? = some b := ⟨_, List.getElem?_eq_getElem hlt⟩
    obtain ⟨b1, hb1⟩ : ∃ b, cm[cm.length - 1 - i]? = some b := ⟨_, List.getElem?_eq_getElem (by omega)⟩
    have HST := Lib.hid (runTo_succ (BT.new n seed) (opsT_get hb0))
    have HSU := Lib.hid (runTo_succ (BT.new n seed) (opsU_get hlt hb1))
    obtain ⟨b, o, hA, hbl, hck0⟩ := HR.out i _ (by rw [B8_map, hb0]; rfl)
    obtain ⟨b', o', hA', _, hck1⟩ := HR.out (cm.length - 1 - i) _ (by rw [B8_map, hb1]; rfl)
    subst hA
    injection hA' with hA'
    injection hA' with hb' ho'
    subst hb' ho'
    obtain ⟨T, HTT⟩ : ∃ T, Hid (T = runTo (BT.new n seed) (opsT cm) i) := ⟨_, rfl⟩
    obtain ⟨U, HUU⟩ : ∃ U, Hid (U = runTo (BT.new n seed) (opsT cm).reverse i) := ⟨_, rfl⟩
    rw [← HTT.out] at HST ⊢
    rw [← HUU.out] at HSU ⊢
    refine stSkip ?_
    refine qThen ?_
    refine stSeq ?_
    refine stBlock ?_
    refine stSeq ?_
    refine reg ?_
    refine li rfl (opVal (.pointer (some ⟨bt1, 0, none⟩)) rfl (by kernel_rfl) (rMove rfl rfl) ?_)
    refine li rfl (opVal (.slice (some ⟨b, o, none⟩) (cm.length) (c)) rfl (by kernel_rfl) (rMove rfl rfl) ?_)
    refine li rfl (opVal (.int .i64 ((i : Nat) : Int)) rfl (by kernel_rfl) (rMove rfl rfl) ?_)
    refine li rfl (opVal (.pointer (some ⟨b, o + i, none⟩)) rfl (by kernel_rfl) (rIndexAddr1 (e := 5) rfl (by kernel_rfl) (by kernel_rfl) rfl rfl (by omega)) ?_)
    refine li rfl (opVal (.int .u8 ((b0.toNat : Nat) : Int)) rfl (by kernel_rfl) (rLoadW rfl rfl (by kernel_rfl) (fun w hM => hM.old hck0 (by simp))) ?_)
    refine li rfl ?_
    refine opCall 23 #[(.int .u8 ((b0.toNat : Nat) : Int))] rfl (by kernel_rfl) (fun _ => by kernel_rfl) (fun w hM => ?_)
    refine (keyOf_any b0 w).mono ?_
    rintro e w' ⟨rfl, hf⟩
    have hM' := hM.fr0 hf
    refine ⟨(.string (strOf (sha [b0]))), _, rfl, hM', ?_⟩
    clear hM hM' hf
    refine li rfl ?_
    refine opCall 22 #[(.pointer (some ⟨bt1, 0, none⟩)), (.string (strOf (sha [b0])))] rfl (by kernel_rfl) (fun _ => by kernel_rfl) (fun w hM => ?_)
    refine (insCall bt1 bc1 n [] T (sha [b0]) w (HV.out.mm hM) (hM.at (i := 0) rfl)).mono ?_
    rintro e w' ⟨rfl, hf, ht⟩
    have hM' := hM.swapTab 0 rfl hf ht
    refine ⟨_, _, rfl, hM', ?_⟩
    clear hM hM' hf ht
    refine liNil ?_
    refine qThen ?_
    refine reg ?_
    refine li rfl (opVal (.pointer (some ⟨bt2, 0, none⟩)) rfl (by kernel_rfl) (rMove rfl rfl) ?_)
    refine li rfl (opVal (.slice (some ⟨b, o, none⟩) (cm.length) (c)) rfl (by kernel_rfl) (rMove rfl rfl) ?_)
    refine li rfl (opVal (.slice (some ⟨b, o, none⟩) (cm.length) (c)) rfl (by kernel_rfl) (rMove rfl rfl) ?_)
    refine li rfl (opVal (.int .i64 ((cm.length : Nat) : Int)) rfl (by kernel_rfl) (rClosed fun _ => by kernel_rfl) ?_)
    refine li rfl (opVal (.int .i64 (((cm.length - 1) : Nat) : Int)) rfl (by kernel_rfl) (rSub _ rfl rfl rfl (by omega) (by omega) (by omega)) ?_)
    refine li rfl (opVal (.int .i64 ((i : Nat) : Int)) rfl (by kernel_rfl) (rMove rfl rfl) ?_)
    refine li rfl (opVal (.int .i64 (((cm.length - 1 - i) : Nat) : Int)) rfl (by kernel_rfl) (rSub _ rfl rfl rfl (by omega) (by omega) (by omega)) ?_)
    refine li rfl (opVal (.pointer (some ⟨b, o + (cm.length - 1 - i), none⟩)) rfl (by kernel_rfl) (rIndexAddr1 (e := 5) rfl (by kernel_rfl) (by kernel_rfl) rfl rfl (by omega)) ?_)
    refine li rfl (opVal (.int .u8 ((b1.toNat : Nat) : Int)) rfl (by kernel_rfl) (rLoadW rfl rfl (by kernel_rfl) (fun w hM => hM.old hck1 (by simp))) ?_)
    refine li rfl ?_
    refine opCall 23 #[(.int .u8 ((b1.toNat : Nat) : Int))] rfl (by kernel_rfl) (fun _ => by kernel_rfl) (fun w hM => ?_)
    refine (keyOf_any b1 w).mono ?_
    rintro e w' ⟨rfl, hf⟩
    have hM' := hM.fr0 hf
    refine ⟨(.string (strOf (sha [b1]))), _, rfl, hM', ?_⟩
    clear hM hM' hf
    refine li rfl ?_
    refine opCall 22 #[(.pointer (some ⟨bt2, 0, none⟩)), (.string (strOf (sha [b1])))] rfl (by kernel_rfl) (fun _ => by kernel_rfl) (fun w hM => ?_)
    refine (insCall bt2 bc2 n [] U (sha [b1]) w (HV.out.mm hM) (hM.at (i := 1) rfl)).mono ?_
    rintro e w' ⟨rfl, hf, ht⟩
    have hM' := hM.swapTab 1 rfl hf ht
    refine ⟨_, _, rfl, hM', ?_⟩
    clear hM hM' hf ht
    refine liNil ?_
    refine qBlock ?_
    refine qThen ?_
    refine reg ?_
    refine li rfl (opVal (.int .i64 ((i : Nat) : Int)) rfl (by kernel_rfl) (rMove rfl rfl) ?_)
    refine li rfl (opVal (.int .i64 ((i + 1 : Nat) : Int)) rfl (by kernel_rfl) (rAdd _ rfl rfl rfl (by omega) (by omega) (by omega)) ?_)
    refine li rfl (opVal (.int .i64 ((i + 1 : Nat) : Int)) rfl (by kernel_rfl) (rAssign rfl rfl) ?_)
    refine liNil ?_
    refine qThen ?_
    exact stAgain (i + 1) (by show _ ≤ _; omega) (by show cm.length - (i + 1) < cm.length - i; omega) ⟨rfl, rfl, rfl, rfl, rfl, rfl, rfl, rfl, rfl, rfl, trivial⟩ (fun w hM => by show Mm _ _ [cTab bt1 bc1 n [] (runTo (BT.new n seed) (opsT cm) (i + 1)), cTab bt2 bc2 n [] (runTo (BT.new n seed) (opsT cm).reverse (i + 1))] w; rw [HST.out, HSU.out]; exact hM)
  · have hd71 := of_decide_eq_false hc71
    obtain rfl : i = cm.length := by omega
    have hT := runTo_all (BT.new n seed) (opsT cm)
    have hUU := runTo_all (BT.new n seed) (opsT cm).reverse
    rw [opsT_len] at hT
    rw [List.length_reverse, opsT_len, run_reverse] at hUU
    rw [hT, hUU, HX.out]
    refine stExit ?_
    refine qThenX ?_
    refine qThenX ?_
    refine qBlockX ?_
    refine qThen ?_
    refine stSeq ?_
    refine reg ?_
    refine li rfl (opVal (.int .u16 ((x : Nat) : Int)) rfl (by kernel_rfl) (rMove rfl rfl) ?_)
    refine li rfl (opVal (.int .u8 (((UInt8.ofNat x).toNat : Nat) : Int)) rfl (by kernel_rfl) (rIntC _ (fun _ => by kernel_rfl) rfl rfl (wrap_u8 x)) ?_)
    refine li rfl (opVal (.int .u16 ((x : Nat) : Int)) rfl (by kernel_rfl) (rMove rfl rfl) ?_)
    refine li rfl (opVal (.int .u16 (((x / 256) : Nat) : Int)) rfl (by kernel_rfl) (rShr8 rfl rfl rfl) ?_)
    refine li rfl (opVal (.int .u8 (((UInt8.ofNat (x / 256)).toNat : Nat) : Int)) rfl (by kernel_rfl) (rIntC _ (fun _ => by kernel_rfl) rfl rfl (wrap_u8 (x / 256))) ?_)
    refine li rfl ?_
    refine opNew (v := fun b => .slice (some ⟨b, 0, none⟩) 3 3) 5 [(.int .u8 1), (.int .u8 (((UInt8.ofNat x).toNat : Nat) : Int)), (.int .u8 (((UInt8.ofNat (x / 256)).toNat : Nat) : Int))] rfl (by kernel_rfl) (fun _ => by kernel_rfl) (fun b97 => ?_)
    refine li rfl ?_
    refine opCall 24 #[(.slice (some ⟨b97, 0, none⟩) (3) (3))] rfl (by kernel_rfl) (fun _ => by kernel_rfl) (fun w hM => ?_)
    refine (by have h := refSum_any (some ⟨b97, 0, none⟩) 3 (msg 1 x) w (rowAt' (i := 2) rfl (fun j v h => by rw [Nat.zero_add]; exact h) w hM) (by simp [msg]); rw [← HO.out] at h; exact h : Calls _ _ _ w fun e w' => e = .returned (.string (strOf one)) ∧ Fr [] w w').mono ?_
    rintro e w' ⟨rfl, hf⟩
    have hM' := hM.fr0 hf
    refine ⟨_, _, rfl, hM', ?_⟩
    clear hM hM' hf
    refine li rfl (opVal (.int .u16 ((y : Nat) : Int)) rfl (by kernel_rfl) (rMove rfl rfl) ?_)
    refine li rfl (opVal (.int .u8 (((UInt8.ofNat y).toNat : Nat) : Int)) rfl (by kernel_rfl) (rIntC _ (fun _ => by kernel_rfl) rfl rfl (wrap_u8 y)) ?_)
    refine li rfl (opVal (.int .u16 ((y : Nat) : Int)) rfl (by kernel_rfl) (rMove rfl rfl) ?_)
    refine li rfl (opVal (.int .u16 (((y / 256) : Nat) : Int)) rfl (by kernel_rfl) (rShr8 rfl rfl rfl) ?_)
    refine li rfl (opVal (.int .u8 (((UInt8.ofNat (y / 256)).toNat : Nat) : Int)) rfl (by kernel_rfl) (rIntC _ (fun _ => by kernel_rfl) rfl rfl (wrap_u8 (y / 256))) ?_)
    refine li rfl ?_
    refine opNew (v := fun b => .slice (some ⟨b, 0, none⟩) 3 3) 5 [(.int .u8 2), (.int .u8 (((UInt8.ofNat y).toNat : Nat) : Int)), (.int .u8 (((UInt8.ofNat (y / 256)).toNat : Nat) : Int))] rfl (by kernel_rfl) (fun _ => by kernel_rfl) (fun b104 => ?_)
    refine li rfl ?_
    refine opCall 24 #[(.slice (some ⟨b104, 0, none⟩) (3) (3))] rfl (by kernel_rfl) (fun _ => by kernel_rfl) (fun w hM => ?_)
    refine (by have h := refSum_any (some ⟨b104, 0, none⟩) 3 (msg 2 y) w (rowAt' (i := 3) rfl (fun j v h => by rw [Nat.zero_add]; exact h) w hM) (by simp [msg]); rw [← HT2.out] at h; exact h : Calls _ _ _ w fun e w' => e = .returned (.string (strOf two)) ∧ Fr [] w w').mono ?_
    rintro e w' ⟨rfl, hf⟩
    have hM' := hM.fr0 hf
    refine ⟨_, _, rfl, hM', ?_⟩
    clear hM hM' hf
    refine li rfl (opVal (.string (strOf one)) rfl (by kernel_rfl) (rAssign rfl rfl) ?_)
    refine li rfl (opVal (.string (strOf two)) rfl (by kernel_rfl) (rAssign rfl rfl) ?_)
    refine liNil ?_
    refine qThen ?_
    refine stSeq ?_
    refine reg ?_
    refine li rfl (opVal (.pointer (some ⟨bt1, 0, none⟩)) rfl (by kernel_rfl) (rMove rfl rfl) ?_)
    refine li rfl (opVal (.string (strOf one)) rfl (by kernel_rfl) (rMove rfl rfl) ?_)
    refine li rfl ?_
    refine opCall 22 #[(.pointer (some ⟨bt1, 0, none⟩)), (.string (strOf one))] rfl (by kernel_rfl) (fun _ => by kernel_rfl) (fun w hM => ?_)
    refine (insert_any bt1 bc1 n [] X one w (HV.out.mm hM) (hM.at (i := 0) rfl) h1).mono ?_
    rintro e w' ⟨rfl, hf, ht⟩
    have hM' := hM.swapTab 0 rfl hf ht
    refine ⟨_, _, rfl, hM', ?_⟩
    clear hM hM' hf ht
    refine liNil ?_
    refine qThen ?_
    refine stSeq ?_
    refine reg ?_
    refine li rfl (opVal (.string (strOf one)) rfl (by kernel_rfl) (rMove rfl rfl) ?_)
    refine li rfl ?_
    refine opNew (v := fun b => .slice (some ⟨b, 0, none⟩) 1 1) 9 [(.string (strOf one))] rfl (by kernel_rfl) (fun _ => by kernel_rfl) (fun b110 => ?_)
    refine li rfl ?_
    refine opNew (v := fun b => .slice (some ⟨b, 0, none⟩) 0 0) 9 [] rfl (by kernel_rfl) (fun _ => by kernel_rfl) (fun b111 => ?_)
    refine li rfl (opVal (.slice (some ⟨b110, 0, none⟩) (1) (1)) rfl (by kernel_rfl) (rAssign rfl rfl) ?_)
    refine li rfl (opVal (.slice (some ⟨b111, 0, none⟩) (0) (0)) rfl (by kernel_rfl) (rAssign rfl rfl) ?_)
    refine liNil ?_
    refine qThen ?_
    refine stSeq ?_
    refine stSeq ?_
    refine reg ?_
    refine li rfl (opVal (.bool true) rfl (by kernel_rfl) (rMove rfl rfl) ?_)
    refine li rfl (opVal (.bool true) rfl (by kernel_rfl) (rMove rfl rfl) ?_)
    refine liGo rfl rfl (opVal (.bool true) rfl (by kernel_rfl) (rMove rfl rfl) ?_)
    refine li rfl (opVal (.bool true) rfl (by kernel_rfl) (rClosed fun _ => by kernel_rfl) ?_)
    refine liNil ?_
    refine qThen ?_
    refine stTrue rfl ?_
    refine stSeq ?_
    refine reg ?_
    refine li rfl (opVal (.pointer (some ⟨bt2, 0, none⟩)) rfl (by kernel_rfl) (rMove rfl rfl) ?_)
    refine li rfl (opVal (.string (strOf two)) rfl (by kernel_rfl) (rMove rfl rfl) ?_)
    refine li rfl ?_
    refine opCall 22 #[(.pointer (some ⟨bt2, 0, none⟩)), (.string (strOf two))] rfl (by kernel_rfl) (fun _ => by kernel_rfl) (fun w hM => ?_)
    refine (insert_any bt2 bc2 n [] X two w (HV.out.mm hM) (hM.at (i := 1) rfl) h2).mono ?_
    rintro e w' ⟨rfl, hf, ht⟩
    have hM' := hM.swapTab 1 rfl hf ht
    refine ⟨_, _, rfl, hM', ?_⟩
    clear hM hM' hf ht
    refine liNil ?_
    refine qThen ?_
    refine reg ?_
    refine li rfl (opVal (.string (strOf two)) rfl (by kernel_rfl) (rMove rfl rfl) ?_)
    refine li rfl ?_
    refine opNew (v := fun b => .slice (some ⟨b, 0, none⟩) 1 1) 9 [(.string (strOf two))] rfl (by kernel_rfl) (fun _ => by kernel_rfl) (fun b120 => ?_)
    refine li rfl (opVal (.slice (some ⟨b120, 0, none⟩) (1) (1)) rfl (by kernel_rfl) (rAssign rfl rfl) ?_)
    refine liNil ?_
    refine qThen ?_
    refine stSeq ?_
    refine stSeq ?_
    refine reg ?_
    refine li rfl (opVal (.bool true) rfl (by kernel_rfl) (rMove rfl rfl) ?_)
    refine li rfl (opVal (.bool true) rfl (by kernel_rfl) (rMove rfl rfl) ?_)
    refine liGo rfl rfl (opVal (.bool true) rfl (by kernel_rfl) (rMove rfl rfl) ?_)
    refine liGo rfl rfl (opVal (.bool false) rfl (by kernel_rfl) (rClosed fun _ => by kernel_rfl) ?_)
    refine li rfl (opVal (.bool false) rfl (by kernel_rfl) (rClosed fun _ => by kernel_rfl) ?_)
    refine liNil ?_
    refine qThen ?_
    refine stFalse rfl ?_
    refine stSkip ?_
    refine qThen ?_
    refine stSeq ?_
    refine reg ?_
    refine li rfl (opVal (.pointer (some ⟨bt1, 0, none⟩)) rfl (by kernel_rfl) (rMove rfl rfl) ?_)
    refine li rfl (opVal (.pointer (some ⟨bt2, 0, none⟩)) rfl (by kernel_rfl) (rMove rfl rfl) ?_)
    refine li rfl ?_
    refine opCall 25 #[(.pointer (some ⟨bt1, 0, none⟩)), (.pointer (some ⟨bt2, 0, none⟩))] rfl (by kernel_rfl) (fun _ => by kernel_rfl) (fun w hM => ?_)
    refine (by have h := subtract_ok _ _ _ _ _ _ _ _ (X.change one 1) (X.change two 1) w (hM.at (i := 0) rfl) (hM.at (i := 1) rfl) hsl hss; rw [HTD.out] at h; exact h : Calls _ _ _ w fun e w' => ∃ btr bcr capr restr, e = .returned (.tuple #[Value.pointer (some ⟨btr, 0, none⟩), Value.int .i64 0]) ∧ Mm w [] [cTab btr bcr capr restr (((BT.new n seed).change one 1).change two (-1))] w').mono ?_
    rintro e w' ⟨bt3, bc3, cap3, rest3, rfl, hP⟩
    have hM' := hM.lift hP
    refine ⟨_, _, rfl, hM', ?_⟩
    clear hM hM' hP
    refine li rfl (opVal (.tuple #[(.pointer (some ⟨bt3, 0, none⟩)), (.int .i64 0)]) rfl (by kernel_rfl) (rMove rfl rfl) ?_)
    refine li rfl (opVal (.pointer (some ⟨bt3, 0, none⟩)) rfl (by kernel_rfl) (rClosed fun _ => by kernel_rfl) ?_)
    refine li rfl (opVal (.int .i64 0) rfl (by kernel_rfl) (rClosed fun _ => by kernel_rfl) ?_)
    refine li rfl (opVal (.pointer (some ⟨bt3, 0, none⟩)) rfl (by kernel_rfl) (rAssign rfl rfl) ?_)
    refine li rfl (opVal (.int .i64 0) rfl (by kernel_rfl) (rAssign rfl rfl) ?_)
    refine liNil ?_
    refine qThen ?_
    refine stSeq ?_
    refine stSeq ?_
    refine reg ?_
    refine li rfl (opVal (.int .i64 0) rfl (by kernel_rfl) (rMove rfl rfl) ?_)
    refine li rfl (opVal (.bool false) rfl (by kernel_rfl) (rClosed fun _ => by kernel_rfl) ?_)
    refine li rfl (opVal (.bool false) rfl (by kernel_rfl) (rMove rfl rfl) ?_)
    refine liGo rfl rfl (opVal (.pointer (some ⟨bt3, 0, none⟩)) rfl (by kernel_rfl) (rMove rfl rfl) ?_)
    refine liGo rfl rfl (opVal (.bool false) rfl (by kernel_rfl) (rClosed fun _ => by kernel_rfl) ?_)
    refine li rfl (opVal (.bool false) rfl (by kernel_rfl) (rClosed fun _ => by kernel_rfl) ?_)
    refine liNil ?_
    refine qThen ?_
    refine stFalse rfl ?_
    refine stSkip ?_
    refine qThen ?_
    refine stSeq ?_
    refine reg ?_
    refine li rfl (opVal (.pointer (some ⟨bt3, 0, none⟩)) rfl (by kernel_rfl) (rMove rfl rfl) ?_)
    refine li rfl ?_
    refine opCallB 26 #[(.pointer (some ⟨bt3, 0, none⟩))] rfl (by kernel_rfl) (fun _ => by kernel_rfl) (fun w hM => ?_)
    refine (keys_some hkey (HV.out.mm hM) (hM.at (i := 7) rfl)).mono ?_
    rintro e w1 ⟨Aa, ca, Ab, cb, rfl, hf, hra, hrb⟩
    have hM1 := hM.fr0 hf
    refine ⟨_, w1, [], [], rfl, Mm.start w1 [], ?_⟩
    have HF1 := Lib.hid hM1.fr
    have HV1 : Hid (Vars w1) := HV.out.mm hM1
    have HA := Lib.hid hra
    have HB := Lib.hid hrb
    have HAD : Hid (At w1 b110 9 [(.string (strOf one))]) := hM1.at (i := 4) rfl
    have HRM : Hid (At w1 b120 9 [(.string (strOf two))]) := hM1.at (i := 6) rfl
    clear hM hM1 hf hra hrb
    refine li rfl (opVal (.tuple #[(.slice Aa (([one]).length) (ca)), (.slice Ab (([two]).length) (cb)), (.int .i64 0)]) rfl (by kernel_rfl) (rMove rfl rfl) ?_)
    refine li rfl (opVal (.slice Aa (([one]).length) (ca)) rfl (by kernel_rfl) (rClosed fun _ => by kernel_rfl) ?_)
    refine li rfl (opVal (.slice Ab (([two]).length) (cb)) rfl (by kernel_rfl) (rClosed fun _ => by kernel_rfl) ?_)
    refine li rfl (opVal (.int .i64 0) rfl (by kernel_rfl) (rClosed fun _ => by kernel_rfl) ?_)
    refine li rfl (opVal (.slice Aa (([one]).length) (ca)) rfl (by kernel_rfl) (rAssign rfl rfl) ?_)
    refine li rfl (opVal (.slice Ab (([two]).length) (cb)) rfl (by kernel_rfl) (rAssign rfl rfl) ?_)
    refine li rfl (opVal (.int .i64 0) rfl (by kernel_rfl) (rAssign rfl rfl) ?_)
    refine liNil ?_
    refine qThen ?_
    refine stSeq ?_
    refine stSeq ?_
    refine reg ?_
    refine li rfl (opVal (.bool true) rfl (by kernel_rfl) (rMove rfl rfl) ?_)
    refine li rfl (opVal (.bool true) rfl (by kernel_rfl) (rMove rfl rfl) ?_)
    refine liGo rfl rfl (opVal (.int .i64 ((n : Nat) : Int)) rfl (by kernel_rfl) (rMove rfl rfl) ?_)
    refine liGo rfl rfl (opVal (.int .u64 ((seed : Nat) : Int)) rfl (by kernel_rfl) (rMove rfl rfl) ?_)
    refine liGo rfl rfl (opVal (.string (strOf one)) rfl (by kernel_rfl) (rMove rfl rfl) ?_)
    refine liGo rfl rfl ?_
    refine opCallB 20 #[(.int .i64 ((n : Nat) : Int)), (.int .u64 ((seed : Nat) : Int)), (.string (strOf one))] rfl (by kernel_rfl) (fun _ => by kernel_rfl) (fun w hM => ?_)
    refine (refPlaces_any n seed one w hm (by omega)).mono ?_
    rintro e w2 ⟨A2, c2, rfl, hf, hra2⟩
    have hM1 := hM.fr0 hf
    refine ⟨_, w2, [], [], rfl, Mm.start w2 [], ?_⟩
    have HF2 : Hid (Fr [] w1 w2) := hM1.fr
    have HV2 : Hid (Vars w2) := HV1.out.mm hM1
    have HP2 := Lib.hid hra2
    have HA2 : Hid (RowIn w2 Aa (([one]).map S8v)) := HA.out.fr0 hM1.fr
    have HB2 : Hid (RowIn w2 Ab (([two]).map S8v)) := HB.out.fr0 hM1.fr
    have HAD2 := Lib.hid (HAD.out.fr hM1.fr (by simp))
    have HRM2 := Lib.hid (HRM.out.fr hM1.fr (by simp))
    clear hM hM1 hf hra2
    refine liGo rfl rfl (opVal (.int .i64 ((n : Nat) : Int)) rfl (by kernel_rfl) (rMove rfl rfl) ?_)
    refine liGo rfl rfl (opVal (.int .u64 ((seed : Nat) : Int)) rfl (by kernel_rfl) (rMove rfl rfl) ?_)
    refine liGo rfl rfl (opVal (.string (strOf two)) rfl (by kernel_rfl) (rMove rfl rfl) ?_)
    refine liGo rfl rfl ?_
    refine opCallB 20 #[(.int .i64 ((n : Nat) : Int)), (.int .u64 ((seed : Nat) : Int)), (.string (strOf two))] rfl (by kernel_rfl) (fun _ => by kernel_rfl) (fun w hM => ?_)
    refine (refPlaces_any n seed two w hm (by omega)).mono ?_
    rintro e w3 ⟨A3, c3, rfl, hf, hra3⟩
    have hM1 := hM.fr0 hf
    refine ⟨_, w3, [], [], rfl, Mm.start w3 [], ?_⟩
    have HF3 : Hid (Fr [] w2 w3) := hM1.fr
    have HV3 : Hid (Vars w3) := HV2.out.mm hM1
    have HP3 := Lib.hid hra3
    have HP23 : Hid (RowIn w3 A2 ((placesL n seed one).map (Value.int .i64))) := HP2.out.fr0 hM1.fr
    have HA3 : Hid (RowIn w3 Aa (([one]).map S8v)) := HA2.out.fr0 hM1.fr
    have HB3 : Hid (RowIn w3 Ab (([two]).map S8v)) := HB2.out.fr0 hM1.fr
    have HAD3 := Lib.hid (HAD2.out.fr hM1.fr (by simp))
    have HRM3 := Lib.hid (HRM2.out.fr hM1.fr (by simp))
    clear hM hM1 hf hra3
    refine liGo rfl rfl ?_
    refine opCall 19 #[(.slice A2 ((placesL n seed one).length) (c2)), (.slice A3 ((placesL n seed two).length) (c3))] rfl (by kernel_rfl) (fun _ => by kernel_rfl) (fun w hM => ?_)
    refine ((by have h := ints_any A2 A3 c2 c3 (placesL n seed one) (placesL n seed two) w (HP23.out.fr0 hM.fr) (HP3.out.fr0 hM.fr) (by simp [placesL]) (by simp [placesL]); rw [decide_eq_false hpl] at h; exact h : Calls _ _ _ w fun e w' => e = .returned (.bool false) ∧ Fr [] w w')).mono ?_
    rintro e w' ⟨rfl, hf⟩
    have hM' := hM.fr0 hf
    refine ⟨(.bool false), _, rfl, hM', ?_⟩
    clear hM hM' hf
    refine li rfl (opVal (.bool false) rfl (by kernel_rfl) (rClosed fun _ => by kernel_rfl) ?_)
    refine liNil ?_
    refine qThen ?_
    refine stFalse rfl ?_
    refine stSkip ?_
    refine qThen ?_
    refine stSeq ?_
    refine reg ?_
    refine li rfl ?_
    refine opCall 13 #[] rfl (by kernel_rfl) (fun _ => by kernel_rfl) (fun w hM => ?_)
    refine (awake_any w (HV3.out.mm hM)).mono ?_
    rintro e w' ⟨rfl, hf⟩
    have hM' := hM.fr0 hf
    refine ⟨(.bool true), _, rfl, hM', ?_⟩
    clear hM hM' hf
    refine li rfl (opVal (.bool true) rfl (by kernel_rfl) (rMove rfl rfl) ?_)
    refine liGo rfl rfl (opVal (.int .i64 0) rfl (by kernel_rfl) (rMove rfl rfl) ?_)
    refine liGo rfl rfl (opVal (.bool true) rfl (by kernel_rfl) (rClosed fun _ => by kernel_rfl) ?_)
    refine li rfl (opVal (.bool true) rfl (by kernel_rfl) (rClosed fun _ => by kernel_rfl) ?_)
    refine li rfl (opVal (.bool true) rfl (by kernel_rfl) (rMove rfl rfl) ?_)
    refine liGo rfl rfl (opVal (.slice Aa (([one]).length) (ca)) rfl (by kernel_rfl) (rMove rfl rfl) ?_)
    refine liGo rfl rfl (opVal (.slice (some ⟨b110, 0, none⟩) (1) (1)) rfl (by kernel_rfl) (rMove rfl rfl) ?_)
    refine liGo rfl rfl ?_
    refine opCall 27 #[(.slice Aa (([one]).length) (ca)), (.slice (some ⟨b110, 0, none⟩) (1) (1))] rfl (by kernel_rfl) (fun _ => by kernel_rfl) (fun w hM => ?_)
    refine ((by have h := same_any Aa _ ca 1 ([one]) ([one])  w (HA3.out.fr0 hM.fr) ((rowIn_at HAD3.out rfl).fr0 hM.fr) (by simp) (by simp); rw [decide_eq_true rfl] at h; exact h : Calls _ _ _ w fun e w' => e = .returned (.bool true) ∧ Fr [] w w')).mono ?_
    rintro e w' ⟨rfl, hf⟩
    have hM' := hM.fr0 hf
    refine ⟨(.bool true), _, rfl, hM', ?_⟩
    clear hM hM' hf
    refine li rfl (opVal (.bool true) rfl (by kernel_rfl) (rClosed fun _ => by kernel_rfl) ?_)
    refine li rfl (opVal (.bool true) rfl (by kernel_rfl) (rMove rfl rfl) ?_)
    refine liGo rfl rfl (opVal (.slice Ab (([two]).length) (cb)) rfl (by kernel_rfl) (rMove rfl rfl) ?_)
    refine liGo rfl rfl (opVal (.slice (some ⟨b120, 0, none⟩) (1) (1)) rfl (by kernel_rfl) (rMove rfl rfl) ?_)
    refine liGo rfl rfl ?_
    refine opCall 27 #[(.slice Ab (([two]).length) (cb)), (.slice (some ⟨b120, 0, none⟩) (1) (1))] rfl (by kernel_rfl) (fun _ => by kernel_rfl) (fun w hM => ?_)
    refine ((by have h := same_any Ab _ cb 1 ([two]) ([two])  w (HB3.out.fr0 hM.fr) ((rowIn_at HRM3.out rfl).fr0 hM.fr) (by simp) (by simp); rw [decide_eq_true rfl] at h; exact h : Calls _ _ _ w fun e w' => e = .returned (.bool true) ∧ Fr [] w w')).mono ?_
    rintro e w' ⟨rfl, hf⟩
    have hM' := hM.fr0 hf
    refine ⟨(.bool true), _, rfl, hM', ?_⟩
    clear hM hM' hf
    refine li rfl (opVal (.bool true) rfl (by kernel_rfl) (rClosed fun _ => by kernel_rfl) ?_)
    refine li rfl (opVal (.bool true) rfl (by kernel_rfl) (rAssign rfl rfl) ?_)
    refine liNil ?_
    refine qThen ?_
    refine stRet ?_
    refine stEnd [(.bool true)] rfl ⟨rfl, trivial⟩ (fun w hM => ?_)
    exact ⟨rfl, ((HF1.out.trans HF2.out).trans HF3.out).trans hM.fr⟩

set_option maxRecDepth 100000 in
set_option maxHeartbeats 4000000 in
theorem lawFew_otherN (n seed : Nat) (A : Option Addr) (c : Nat) (cm : List UInt8) (x y : Nat) (w : World) (hv : Vars w) (hm : isSz (n : Int) = true) (h60 : n ≤ 60) (h30 : cm.length ≤ 30) (hu : U64 seed) (hr : RowIn w A (B8 cm)) (one two : List UInt8) (ho : one = sha (msg 1 x)) (ht : two = sha (msg 2 y)) (h1 : one.length = 32) (h2 : two.length = 32) (hne : one ≠ two) (hpl : placesL n seed one = placesL n seed two) :
    Calls Tryd.prog 5 #[Value.int .i64 (n : Int), .int .u64 (seed : Int), .slice A cm.length c, .int .u16 (x : Int), .int .u16 (y : Int), Value.bool true, Value.bool true] w fun e w' => e = .returned (.bool true) ∧ Fr [] w w' := by
  have HV := Lib.hid hv
  clear hv
  have HU := Lib.hid hu
  have HR := Lib.hid hr
  have HO := Lib.hid ho
  have HT2 := Lib.hid ht
  clear hu hr ho ht
  obtain ⟨X, HX⟩ : ∃ X, Hid (runAll (BT.new n seed) (opsT cm) = X) := ⟨_, rfl⟩
  have hXo : X.Ok := by rw [← HX.out]; exact (BT.Ok.new n seed HU.out).run _
  have hXl : X.cells.length = n := by rw [← HX.out, runAll_len, new_len]
  have hXs : X.seed = seed := by rw [← HX.out, runAll_seed]; rfl
  have hsl : (X.change one 1).cells.length = (X.change two 1).cells.length := by simp only [change_len]
  have hss : (X.change one 1).seed = (X.change two 1).seed := by simp only [change_seed]
  have HTD : Hid ((X.change one 1).sub (X.change two 1) = ((BT.new n seed).change one 1).change two (-1)) := by show _ = _; rw [sub_change2 _ _ _ _ (by rw [change_len]) (by rw [change_seed]), sub_change _ _ _ _ rfl, sub_self hXo, hXl, hXs]
  have hkey : (((BT.new n seed).change one 1).change two (-1)).keys = none := few_none (isSz_bounds hm).1 h1 h2 hne (.inr rfl) (places_eq hpl)
  refine stEnter (args := [Value.int .i64 (n : Int), .int .u64 (seed : Int), .slice A cm.length c, .int .u16 (x : Int), .int .u16 (y : Int), Value.bool true, Value.bool true]) [] Tryd.func5 rfl 196 rfl [(0, Value.int .i64 (n : Int)), (1, .int .u64 (seed : Int)), (2, .slice A cm.length c), (3, .int .u16 (x : Int)), (4, .int .u16 (y : Int)), (5, Value.bool true), (6, Value.bool true)] ⟨rfl, rfl, rfl, rfl, rfl, rfl, rfl, trivial⟩ [] (Mm.start w []) ?_
  refine stSeq ?_
  refine reg ?_
  refine li rfl (opVal (.bool false) rfl (by kernel_rfl) (rAssign rfl rfl) ?_)
  refine liNil ?_
  refine qThen ?_
  refine stSeq ?_
  refine stSeq ?_
  refine reg ?_
  refine li rfl (opVal (.int .i64 ((n : Nat) : Int)) rfl (by kernel_rfl) (rMove rfl rfl) ?_)
  refine li rfl ?_
  refine opCall 16 #[(.int .i64 ((n : Nat) : Int))] rfl (by kernel_rfl) (fun _ => by kernel_rfl) (fun w hM => ?_)
  refine ((by rw [← hm]; exact valid_any (n : Int) w : Calls _ _ _ w fun e w' => e = .returned (.bool true) ∧ w = w')).mono ?_
  rintro e w' ⟨rfl, rfl⟩
  refine ⟨(.bool true), _, rfl, hM, ?_⟩
  clear hM
  refine li rfl (opVal (.bool false) rfl (by kernel_rfl) (rClosed fun _ => by kernel_rfl) ?_)
  refine li rfl (opVal (.bool false) rfl (by kernel_rfl) (rMove rfl rfl) ?_)
  refine liGo rfl rfl (opVal (.int .i64 ((n : Nat) : Int)) rfl (by kernel_rfl) (rMove rfl rfl) ?_)
  refine liGo rfl rfl (opVal (.bool (decide (((n : Nat) : Int) > 60))) rfl (by kernel_rfl) (rClosed fun _ => by kernel_rfl) ?_)
  refine li rfl (opVal (.bool (decide (((n : Nat) : Int) > 60))) rfl (by kernel_rfl) (rClosed fun _ => by kernel_rfl) ?_)
  refine li rfl (opVal (.bool (decide (((n : Nat) : Int) > 60))) rfl (by kernel_rfl) (rMove rfl rfl) ?_)
  refine St.known 36 (b' := false) rfl (by simp; omega) ?_
  refine liGo rfl rfl (opVal (.slice A (cm.length) (c)) rfl (by kernel_rfl) (rMove rfl rfl) ?_)
  refine liGo rfl rfl (opVal (.int .i64 ((cm.length : Nat) : Int)) rfl (by kernel_rfl) (rClosed fun _ => by kernel_rfl) ?_)
  refine liGo rfl rfl (opVal (.bool (decide (((cm.length : Nat) : Int) > 30))) rfl (by kernel_rfl) (rClosed fun _ => by kernel_rfl) ?_)
  refine li rfl (opVal (.bool (decide (((cm.length : Nat) : Int) > 30))) rfl (by kernel_rfl) (rClosed fun _ => by kernel_rfl) ?_)
  refine liNil ?_
  refine qThen ?_
  refine stFalseK rfl (by simp; omega) ?_
  refine stSkip ?_
  refine qThen ?_
  refine stSeq ?_
  refine reg ?_
  refine li rfl (opVal (.int .i64 ((n : Nat) : Int)) rfl (by kernel_rfl) (rMove rfl rfl) ?_)
  refine li rfl (opVal (.int .u64 ((seed : Nat) : Int)) rfl (by kernel_rfl) (rMove rfl rfl) ?_)
  refine li rfl ?_
  refine opCall 21 #[(.int .i64 ((n : Nat) : Int)), (.int .u64 ((seed : Nat) : Int))] rfl (by kernel_rfl) (fun _ => by kernel_rfl) (fun w hM => ?_)
  refine (blNew_any n seed w hm HU.out).mono ?_
  rintro e w' ⟨rfl, hf, ht⟩
  obtain ⟨bt1, hbt⟩ : ∃ bt, bt = w.heap.size + 1 := ⟨_, rfl⟩
  obtain ⟨bc1, hbc⟩ : ∃ bc, bc = w.heap.size := ⟨_, rfl⟩
  rw [← hbt] at ht ⊢
  rw [← hbc] at ht
  have hM' := hM.pushTab hf ht (by omega) (by omega)
  refine ⟨_, _, rfl, hM', ?_⟩
  clear hM hM' hf ht hbt hbc
  refine li rfl (opVal (.tuple #[(.pointer (some ⟨bt1, 0, none⟩)), (.int .i64 0)]) rfl (by kernel_rfl) (rMove rfl rfl) ?_)
  refine li rfl (opVal (.pointer (some ⟨bt1, 0, none⟩)) rfl (by kernel_rfl) (rClosed fun _ => by kernel_rfl) ?_)
  refine li rfl (opVal (.int .i64 0) rfl (by kernel_rfl) (rClosed fun _ => by kernel_rfl) ?_)
  refine li rfl (opVal (.pointer (some ⟨bt1, 0, none⟩)) rfl (by kernel_rfl) (rAssign rfl rfl) ?_)
  refine li rfl (opVal (.int .i64 0) rfl (by kernel_rfl) (rAssign rfl rfl) ?_)
  refine liNil ?_
  refine qThen ?_
  refine stSeq ?_
  refine reg ?_
  refine li rfl (opVal (.int .i64 ((n : Nat) : Int)) rfl (by kernel_rfl) (rMove rfl rfl) ?_)
  refine li rfl (opVal (.int .u64 ((seed : Nat) : Int)) rfl (by kernel_rfl) (rMove rfl rfl) ?_)
  refine li rfl ?_
  refine opCall 21 #[(.int .i64 ((n : Nat) : Int)), (.int .u64 ((seed : Nat) : Int))] rfl (by kernel_rfl) (fun _ => by kernel_rfl) (fun w hM => ?_)
  refine (blNew_any n seed w hm HU.out).mono ?_
  rintro e w' ⟨rfl, hf, ht⟩
  obtain ⟨bt2, hbt⟩ : ∃ bt, bt = w.heap.size + 1 := ⟨_, rfl⟩
  obtain ⟨bc2, hbc⟩ : ∃ bc, bc = w.heap.size := ⟨_, rfl⟩
  rw [← hbt] at ht ⊢
  rw [← hbc] at ht
  have hM' := hM.pushTab hf ht (by omega) (by omega)
  refine ⟨_, _, rfl, hM', ?_⟩
  clear hM hM' hf ht hbt hbc
  refine li rfl (opVal (.tuple #[(.pointer (some ⟨bt2, 0, none⟩)), (.int .i64 0)]) rfl (by kernel_rfl) (rMove rfl rfl) ?_)
  refine li rfl (opVal (.pointer (some ⟨bt2, 0, none⟩)) rfl (by kernel_rfl) (rClosed fun _ => by kernel_rfl) ?_)
  refine li rfl (opVal (.int .i64 0) rfl (by kernel_rfl) (rClosed fun _ => by kernel_rfl) ?_)
  refine li rfl (opVal (.pointer (some ⟨bt2, 0, none⟩)) rfl (by kernel_rfl) (rAssign rfl rfl) ?_)
  refine li rfl (opVal (.int .i64 0) rfl (by kernel_rfl) (rAssign rfl rfl) ?_)
  refine liNil ?_
  refine qThen ?_
  refine stSeq ?_
  refine stSeq ?_
  refine reg ?_
  refine li rfl (opVal (.int .i64 0) rfl (by kernel_rfl) (rMove rfl rfl) ?_)
  refine li rfl (opVal (.bool false) rfl (by kernel_rfl) (rClosed fun _ => by kernel_rfl) ?_)
  refine li rfl (opVal (.bool false) rfl (by kernel_rfl) (rMove rfl rfl) ?_)
  refine liGo rfl rfl (opVal (.int .i64 0) rfl (by kernel_rfl) (rMove rfl rfl) ?_)
  refine liGo rfl rfl (opVal (.bool false) rfl (by kernel_rfl) (rClosed fun _ => by kernel_rfl) ?_)
  refine li rfl (opVal (.bool false) rfl (by kernel_rfl) (rClosed fun _ => by kernel_rfl) ?_)
  refine li rfl (opVal (.bool false) rfl (by kernel_rfl) (rMove rfl rfl) ?_)
  refine liGo rfl rfl (opVal (.pointer (some ⟨bt1, 0, none⟩)) rfl (by kernel_rfl) (rMove rfl rfl) ?_)
  refine liGo rfl rfl (opVal (.bool false) rfl (by kernel_rfl) (rClosed fun _ => by kernel_rfl) ?_)
  refine li rfl (opVal (.bool false) rfl (by kernel_rfl) (rClosed fun _ => by kernel_rfl) ?_)
  refine li rfl (opVal (.bool false) rfl (by kernel_rfl) (rMove rfl rfl) ?_)
  refine liGo rfl rfl (opVal (.pointer (some ⟨bt2, 0, none⟩)) rfl (by kernel_rfl) (rMove rfl rfl) ?_)
  refine liGo rfl rfl (opVal (.bool false) rfl (by kernel_rfl) (rClosed fun _ => by kernel_rfl) ?_)
  refine li rfl (opVal (.bool false) rfl (by kernel_rfl) (rClosed fun _ => by kernel_rfl) ?_)
  refine liNil ?_
  refine qThen ?_
  refine stFalse rfl ?_
  refine stSkip ?_
  refine qThen ?_
  refine stSeq ?_
  refine stSeq ?_
  refine reg ?_
  refine li rfl (opVal (.int .i64 0) rfl (by kernel_rfl) (rAssign rfl rfl) ?_)
  refine liNil ?_
  refine qThen ?_
  refine stBlock ?_
  have e0 := runTo_zero (BT.new n seed) (opsT cm)
  have e1 := runTo_zero (BT.new n seed) (opsT cm).reverse
  refine stLoop (ι := Nat) (fun i => i ≤ cm.length) (fun i => cm.length - i) (fun i => [(0, (.int .i64 ((n : Nat) : Int))), (1, (.int .u64 ((seed : Nat) : Int))), (2, (.slice A (cm.length) (c))), (3, (.int .u16 ((x : Nat) : Int))), (4, (.int .u16 ((y : Nat) : Int))), (5, (.bool true)), (6, (.bool true)), (15, (.pointer (some ⟨bt1, 0, none⟩))), (17, (.pointer (some ⟨bt2, 0, none⟩))), (19, (.int .i64 ((i : Nat) : Int)))]) (fun i => [cTab bt1 bc1 n [] (runTo (BT.new n seed) (opsT cm) i), cTab bt2 bc2 n [] (runTo (BT.new n seed) (opsT cm).reverse i)]) 0 (Nat.zero_le _) ⟨rfl, rfl, rfl, rfl, rfl, rfl, rfl, rfl, rfl, rfl, trivial⟩ (fun w hM => by show Mm _ _ [cTab bt1 bc1 n [] (runTo (BT.new n seed) (opsT cm) 0), cTab bt2 bc2 n [] (runTo (BT.new n seed) (opsT cm).reverse 0)] w; rw [e0, e1]; exact hM) ?_
  intro i (hi : i ≤ cm.length)
  show St _ _ _ [(0, (.int .i64 ((n : Nat) : Int))), (1, (.int .u64 ((seed : Nat) : Int))), (2, (.slice A (cm.length) (c))), (3, (.int .u16 ((x : Nat) : Int))), (4, (.int .u16 ((y : Nat) : Int))), (5, (.bool true)), (6, (.bool true)), (15, (.pointer (some ⟨bt1, 0, none⟩))), (17, (.pointer (some ⟨bt2, 0, none⟩))), (19, (.int .i64 ((i : Nat) : Int)))] [cTab bt1 bc1 n [] (runTo (BT.new n seed) (opsT cm) i), cTab bt2 bc2 n [] (runTo (BT.new n seed) (opsT cm).reverse i)] _
  refine stSeq ?_
  refine stSeq ?_
  refine reg ?_
  refine li rfl (opVal (.int .i64 ((i : Nat) : Int)) rfl (by kernel_rfl) (rMove rfl rfl) ?_)
  refine li rfl (opVal (.slice A (cm.length) (c)) rfl (by kernel_rfl) (rMove rfl rfl) ?_)
  refine li rfl (opVal (.int .i64 ((cm.length : Nat) : Int)) rfl (by kernel_rfl) (rClosed fun _ => by kernel_rfl) ?_)
  refine li rfl (opVal (.bool (decide (((i : Nat) : Int) < ((cm.length : Nat) : Int)))) rfl (by kernel_rfl) (rClosed fun _ => by kernel_rfl) ?_)
  refine liNil ?_
  refine qThen ?_
  refine stCond rfl (fun hc71 => ?_) (fun hc71 => ?_)
  · have hd71 := of_decide_eq_true hc71
    have hlt : i < cm.length := by omega
    obtain ⟨b0, hb0⟩ : ∃ b, cm[i]? = some b := ⟨_, List.getElem?_eq_getElem hlt⟩
    obtain ⟨b1, hb1⟩ : ∃ b, cm[cm.length - 1 - i]? = some b := ⟨_, List.getElem?_eq_getElem (by omega)⟩
    have HST := Lib.hid (runTo_succ (BT.new n seed) (opsT_get hb0))
    have HSU := Lib.hid (runTo_succ (BT.new n seed) (opsU_get hlt hb1))
    obtain ⟨b, o, hA, hbl, hck0⟩ := HR.out i _ (by rw [B8_map, hb0]; rfl)
    obtain ⟨b', o', hA', _, hck1⟩ := HR.out (cm.length - 1 - i) _ (by rw [B8_map, hb1]; rfl)
    subst hA
    injection hA' with hA'
    injection hA' with hb' ho'
    subst hb' ho'
    obtain ⟨T, HTT⟩ : ∃ T, Hid (T = runTo (BT.new n seed) (opsT cm) i) := ⟨_, rfl⟩
    obtain ⟨U, HUU⟩ : ∃ U, Hid (U = runTo (BT.new n seed) (opsT cm).reverse i) := ⟨_, rfl⟩
    rw [← HTT.out] at HST ⊢
    rw [← HUU.out] at HSU ⊢
    refine stSkip ?_
    refine qThen ?_
    refine stSeq ?_
    refine stBlock ?_
    refine stSeq ?_
    refine reg ?_
    refine li rfl (opVal (.pointer (some ⟨bt1, 0, none⟩)) rfl (by kernel_rfl) (rMove rfl rfl) ?_)
    refine li rfl (opVal (.slice (some ⟨b, o, none⟩) (cm.length) (c)) rfl (by kernel_rfl) (rMove rfl rfl) ?_)
    refine li rfl (opVal (.int .i64 ((i : Nat) : Int)) rfl (by kernel_rfl) (rMove rfl rfl) ?_)
    refine li rfl (opVal (.pointer (some ⟨b, o + i, none⟩)) rfl (by kernel_rfl) (rIndexAddr1 (e := 5) rfl (by kernel_rfl) (by kernel_rfl) rfl rfl (by omega)) ?_)
    refine li rfl (opVal (.int .u8 ((b0.toNat : Nat) : Int)) rfl (by kernel_rfl) (rLoadW rfl rfl (by kernel_rfl) (fun w hM => hM.old hck0 (by simp))) ?_)
    refine li rfl ?_
    refine opCall 23 #[(.int .u8 ((b0.toNat : Nat) : Int))] rfl (by kernel_rfl) (fun _ => by kernel_rfl) (fun w hM => ?_)
    refine (keyOf_any b0 w).mono ?_
    rintro e w' ⟨rfl, hf⟩
    have hM' := hM.fr0 hf
    refine ⟨(.string (strOf (sha [b0]))), _, rfl, hM', ?_⟩
    clear hM hM' hf
    refine li rfl ?_
    refine opCall 22 #[(.pointer (some ⟨bt1, 0, none⟩)), (.string (strOf (sha [b0])))] rfl (by kernel_rfl) (fun _ => by kernel_rfl) (fun w hM => ?_)
    refine (insCall bt1 bc1 n [] T (sha [b0]) w (HV.out.mm hM) (hM.at (i := 0) rfl)).mono ?_
    rintro e w' ⟨rfl, hf, ht⟩
    have hM' := hM.swapTab 0 rfl hf ht
    refine ⟨_, _, rfl, hM', ?_⟩
    clear hM hM' hf ht
    refine liNil ?_
    refine qThen ?_
    refine reg ?_
    refine li rfl (opVal (.pointer (some ⟨bt2, 0, none⟩)) rfl (by kernel_rfl) (rMove rfl rfl) ?_)
    refine li rfl (opVal (.slice (some ⟨b, o, none⟩) (cm.length) (c)) rfl (by kernel_rfl) (rMove rfl rfl) ?_)
    refine li rfl (opVal (.slice (some ⟨b, o, none⟩) (cm.length) (c)) rfl (by kernel_rfl) (rMove rfl rfl) ?_)
    refine li rfl (opVal (.int .i64 ((cm.length : Nat) : Int)) rfl (by kernel_rfl) (rClosed fun _ => by kernel_rfl) ?_)
    refine li rfl (opVal (.int .i64 (((cm.length - 1) : Nat) : Int)) rfl (by kernel_rfl) (rSub _ rfl rfl rfl (by omega) (by omega) (by omega)) ?_)
    refine li rfl (opVal (.int .i64 ((i : Nat) : Int)) rfl (by kernel_rfl) (rMove rfl rfl) ?_)
    refine li rfl (opVal (.int .i64 (((cm.length - 1 - i) : Nat) : Int)) rfl (by kernel_rfl) (rSub _ rfl rfl rfl (by omega) (by omega) (by omega)) ?_)
    refine li rfl (opVal (.pointer (some ⟨b, o + (cm.length - 1 - i), none⟩)) rfl (by kernel_rfl) (rIndexAddr1 (e := 5) rfl (by kernel_rfl) (by kernel_rfl) rfl rfl (by omega)) ?_)
    refine li rfl (opVal (.int .u8 ((b1.toNat : Nat) : Int)) rfl (by kernel_rfl) (rLoadW rfl rfl (by kernel_rfl) (fun w hM => hM.old hck1 (by simp))) ?_)
    refine li rfl ?_
    refine opCall 23 #[(.int .u8 ((b1.toNat : Nat) : Int))] rfl (by kernel_rfl) (fun _ => by kernel_rfl) (fun w hM => ?_)
    refine (keyOf_any b1 w).mono ?_
    rintro e w' ⟨rfl, hf⟩
    have hM' := hM.fr0 hf
    refine ⟨(.string (strOf (sha [b1]))), _, rfl, hM', ?_⟩
    clear hM hM' hf
    refine li rfl ?_
    refine opCall 22 #[(.pointer (some ⟨bt2, 0, none⟩)), (.string (strOf (sha [b1])))] rfl (by kernel_rfl) (fun _ => by kernel_rfl) (fun w hM => ?_)
    refine (insCall bt2 bc2 n [] U (sha [b1]) w (HV.out.mm hM) (hM.at (i := 1) rfl)).mono ?_
    rintro e w' ⟨rfl, hf, ht⟩
    have hM' := hM.swapTab 1 rfl hf ht
    refine ⟨_, _, rfl, hM', ?_⟩
    clear hM hM' hf ht
    refine liNil ?_
    refine qBlock ?_
    refine qThen ?_
    refine reg ?_
    refine li rfl (opVal (.int .i64 ((i : Nat) : Int)) rfl (by kernel_rfl) (rMove rfl rfl) ?_)
    refine li rfl (opVal (.int .i64 ((i + 1 : Nat) : Int)) rfl (by kernel_rfl) (rAdd _ rfl rfl rfl (by omega) (by omega) (by omega)) ?_)
    refine li rfl (opVal (.int .i64 ((i + 1 : Nat) : Int)) rfl (by kernel_rfl) (rAssign rfl rfl) ?_)
    refine liNil ?_
    refine qThen ?_
    exact stAgain (i + 1) (by show _ ≤ _; omega) (by show cm.length - (i + 1) < cm.length - i; omega) ⟨rfl, rfl, rfl, rfl, rfl, rfl, rfl, rfl, rfl, rfl, trivial⟩ (fun w hM => by show Mm _ _ [cTab bt1 bc1 n [] (runTo (BT.new n seed) (opsT cm) (i + 1)), cTab bt2 bc2 n [] (runTo (BT.new n seed) (opsT cm).reverse (i + 1))] w; rw [HST.out, HSU.out]; exact hM)
  · have hd71 := of_decide_eq_false hc71
    obtain rfl : i = cm.length := by omega
    have hT := runTo_all (BT.new n seed) (opsT cm)
    have hUU := runTo_all (BT.new n seed) (opsT cm).reverse
    rw [opsT_len] at hT
    rw [List.length_reverse, opsT_len, run_reverse] at hUU
    rw [hT, hUU, HX.out]
    refine stExit ?_
    refine qThenX ?_
    refine qThenX ?_
    refine qBlockX ?_
    refine qThen ?_
    refine stSeq ?_
    refine reg ?_
    refine li rfl (opVal (.int .u16 ((x : Nat) : Int)) rfl (by kernel_rfl) (rMove rfl rfl) ?_)
    refine li rfl (opVal (.int .u8 (((UInt8.ofNat x).toNat : Nat) : Int)) rfl (by kernel_rfl) (rIntC _ (fun _ => by kernel_rfl) rfl rfl (wrap_u8 x)) ?_)
    refine li rfl (opVal (.int .u16 ((x : Nat) : Int)) rfl (by kernel_rfl) (rMove rfl rfl) ?_)
    refine li rfl (opVal (.int .u16 (((x / 256) : Nat) : Int)) rfl (by kernel_rfl) (rShr8 rfl rfl rfl) ?_)
    refine li rfl (opVal (.int .u8 (((UInt8.ofNat (x / 256)).toNat : Nat) : Int)) rfl (by kernel_rfl) (rIntC _ (fun _ => by kernel_rfl) rfl rfl (wrap_u8 (x / 256))) ?_)
    refine li rfl ?_
    refine opNew (v := fun b => .slice (some ⟨b, 0, none⟩) 3 3) 5 [(.int .u8 1), (.int .u8 (((UInt8.ofNat x).toNat : Nat) : Int)), (.int .u8 (((UInt8.ofNat (x / 256)).toNat : Nat) : Int))] rfl (by kernel_rfl) (fun _ => by kernel_rfl) (fun b97 => ?_)
    refine li rfl ?_
    refine opCall 24 #[(.slice (some ⟨b97, 0, none⟩) (3) (3))] rfl (by kernel_rfl) (fun _ => by kernel_rfl) (fun w hM => ?_)
    refine (by have h := refSum_any (some ⟨b97, 0, none⟩) 3 (msg 1 x) w (rowAt' (i := 2) rfl (fun j v h => by rw [Nat.zero_add]; exact h) w hM) (by simp [msg]); rw [← HO.out] at h; exact h : Calls _ _ _ w fun e w' => e = .returned (.string (strOf one)) ∧ Fr [] w w').mono ?_
    rintro e w' ⟨rfl, hf⟩
    have hM' := hM.fr0 hf
    refine ⟨_, _, rfl, hM', ?_⟩
    clear hM hM' hf
    refine li rfl (opVal (.int .u16 ((y : Nat) : Int)) rfl (by kernel_rfl) (rMove rfl rfl) ?_)
    refine li rfl (opVal (.int .u8 (((UInt8.ofNat y).toNat : Nat) : Int)) rfl (by kernel_rfl) (rIntC _ (fun _ => by kernel_rfl) rfl rfl (wrap_u8 y)) ?_)
    refine li rfl (opVal (.int .u16 ((y : Nat) : Int)) rfl (by kernel_rfl) (rMove rfl rfl) ?_)
    refine li rfl (opVal (.int .u16 (((y / 256) : Nat) : Int)) rfl (by kernel_rfl) (rShr8 rfl rfl rfl) ?_)
    refine li rfl (opVal (.int .u8 (((UInt8.ofNat (y / 256)).toNat : Nat) : Int)) rfl (by kernel_rfl) (rIntC _ (fun _ => by kernel_rfl) rfl rfl (wrap_u8 (y / 256))) ?_)
    refine li rfl ?_
    refine opNew (v := fun b => .slice (some ⟨b, 0, none⟩) 3 3) 5 [(.int .u8 2), (.int .u8 (((UInt8.ofNat y).toNat : Nat) : Int)), (.int .u8 (((UInt8.ofNat (y / 256)).toNat : Nat) : Int))] rfl (by kernel_rfl) (fun _ => by kernel_rfl) (fun b104 => ?_)
    refine li rfl ?_
    refine opCall 24 #[(.slice (some ⟨b104, 0, none⟩) (3) (3))] rfl (by kernel_rfl) (fun _ => by kernel_rfl) (fun w hM => ?_)
    refine (by have h := refSum_any (some ⟨b104, 0, none⟩) 3 (msg 2 y) w (rowAt' (i := 3) rfl (fun j v h => by rw [Nat.zero_add]; exact h) w hM) (by simp [msg]); rw [← HT2.out] at h; exact h : Calls _ _ _ w fun e w' => e = .returned (.string (strOf two)) ∧ Fr [] w w').mono ?_
    rintro e w' ⟨rfl, hf⟩
    have hM' := hM.fr0 hf
    refine ⟨_, _, rfl, hM', ?_⟩
    clear hM hM' hf
    refine li rfl (opVal (.string (strOf one)) rfl (by kernel_rfl) (rAssign rfl rfl) ?_)
    refine li rfl (opVal (.string (strOf two)) rfl (by kernel_rfl) (rAssign rfl rfl) ?_)
    refine liNil ?_
    refine qThen ?_
    refine stSeq ?_
    refine reg ?_
    refine li rfl (opVal (.pointer (some ⟨bt1, 0, none⟩)) rfl (by kernel_rfl) (rMove rfl rfl) ?_)
    refine li rfl (opVal (.string (strOf one)) rfl (by kernel_rfl) (rMove rfl rfl) ?_)
    refine li rfl ?_
    refine opCall 22 #[(.pointer (some ⟨bt1, 0, none⟩)), (.string (strOf one))] rfl (by kernel_rfl) (fun _ => by kernel_rfl) (fun w hM => ?_)
    refine (insert_any bt1 bc1 n [] X one w (HV.out.mm hM) (hM.at (i := 0) rfl) h1).mono ?_
    rintro e w' ⟨rfl, hf, ht⟩
    have hM' := hM.swapTab 0 rfl hf ht
    refine ⟨_, _, rfl, hM', ?_⟩
    clear hM hM' hf ht
    refine liNil ?_
    refine qThen ?_
    refine stSeq ?_
    refine reg ?_
    refine li rfl (opVal (.string (strOf one)) rfl (by kernel_rfl) (rMove rfl rfl) ?_)
    refine li rfl ?_
    refine opNew (v := fun b => .slice (some ⟨b, 0, none⟩) 1 1) 9 [(.string (strOf one))] rfl (by kernel_rfl) (fun _ => by kernel_rfl) (fun b110 => ?_)
    refine li rfl ?_
    refine opNew (v := fun b => .slice (some ⟨b, 0, none⟩) 0 0) 9 [] rfl (by kernel_rfl) (fun _ => by kernel_rfl) (fun b111 => ?_)
    refine li rfl (opVal (.slice (some ⟨b110, 0, none⟩) (1) (1)) rfl (by kernel_rfl) (rAssign rfl rfl) ?_)
    refine li rfl (opVal (.slice (some ⟨b111, 0, none⟩) (0) (0)) rfl (by kernel_rfl) (rAssign rfl rfl) ?_)
    refine liNil ?_
    refine qThen ?_
    refine stSeq ?_
    refine stSeq ?_
    refine reg ?_
    refine li rfl (opVal (.bool true) rfl (by kernel_rfl) (rMove rfl rfl) ?_)
    refine li rfl (opVal (.bool true) rfl (by kernel_rfl) (rMove rfl rfl) ?_)
    refine liGo rfl rfl (opVal (.bool true) rfl (by kernel_rfl) (rMove rfl rfl) ?_)
    refine li rfl (opVal (.bool true) rfl (by kernel_rfl) (rClosed fun _ => by kernel_rfl) ?_)
    refine liNil ?_
    refine qThen ?_
    refine stTrue rfl ?_
    refine stSeq ?_
    refine reg ?_
    refine li rfl (opVal (.pointer (some ⟨bt2, 0, none⟩)) rfl (by kernel_rfl) (rMove rfl rfl) ?_)
    refine li rfl (opVal (.string (strOf two)) rfl (by kernel_rfl) (rMove rfl rfl) ?_)
    refine li rfl ?_
    refine opCall 22 #[(.pointer (some ⟨bt2, 0, none⟩)), (.string (strOf two))] rfl (by kernel_rfl) (fun _ => by kernel_rfl) (fun w hM => ?_)
    refine (insert_any bt2 bc2 n [] X two w (HV.out.mm hM) (hM.at (i := 1) rfl) h2).mono ?_
    rintro e w' ⟨rfl, hf, ht⟩
    have hM' := hM.swapTab 1 rfl hf ht
    refine ⟨_, _, rfl, hM', ?_⟩
    clear hM hM' hf ht
    refine liNil ?_
    refine qThen ?_
    refine reg ?_
    refine li rfl (opVal (.string (strOf two)) rfl (by kernel_rfl) (rMove rfl rfl) ?_)
    refine li rfl ?_
    refine opNew (v := fun b => .slice (some ⟨b, 0, none⟩) 1 1) 9 [(.string (strOf two))] rfl (by kernel_rfl) (fun _ => by kernel_rfl) (fun b120 => ?_)
    refine li rfl (opVal (.slice (some ⟨b120, 0, none⟩) (1) (1)) rfl (by kernel_rfl) (rAssign rfl rfl) ?_)
    refine liNil ?_
    refine qThen ?_
    refine stSeq ?_
    refine stSeq ?_
    refine reg ?_
    refine li rfl (opVal (.bool true) rfl (by kernel_rfl) (rMove rfl rfl) ?_)
    refine li rfl (opVal (.bool true) rfl (by kernel_rfl) (rMove rfl rfl) ?_)
    refine liGo rfl rfl (opVal (.bool true) rfl (by kernel_rfl) (rMove rfl rfl) ?_)
    refine liGo rfl rfl (opVal (.bool false) rfl (by kernel_rfl) (rClosed fun _ => by kernel_rfl) ?_)
    refine li rfl (opVal (.bool false) rfl (by kernel_rfl) (rClosed fun _ => by kernel_rfl) ?_)
    refine liNil ?_
    refine qThen ?_
    refine stFalse rfl ?_
    refine stSkip ?_
    refine qThen ?_
    refine stSeq ?_
    refine reg ?_
    refine li rfl (opVal (.pointer (some ⟨bt1, 0, none⟩)) rfl (by kernel_rfl) (rMove rfl rfl) ?_)
    refine li rfl (opVal (.pointer (some ⟨bt2, 0, none⟩)) rfl (by kernel_rfl) (rMove rfl rfl) ?_)
    refine li rfl ?_
    refine opCall 25 #[(.pointer (some ⟨bt1, 0, none⟩)), (.pointer (some ⟨bt2, 0, none⟩))] rfl (by kernel_rfl) (fun _ => by kernel_rfl) (fun w hM => ?_)
    refine (by have h := subtract_ok _ _ _ _ _ _ _ _ (X.change one 1) (X.change two 1) w (hM.at (i := 0) rfl) (hM.at (i := 1) rfl) hsl hss; rw [HTD.out] at h; exact h : Calls _ _ _ w fun e w' => ∃ btr bcr capr restr, e = .returned (.tuple #[Value.pointer (some ⟨btr, 0, none⟩), Value.int .i64 0]) ∧ Mm w [] [cTab btr bcr capr restr (((BT.new n seed).change one 1).change two (-1))] w').mono ?_
    rintro e w' ⟨bt3, bc3, cap3, rest3, rfl, hP⟩
    have hM' := hM.lift hP
    refine ⟨_, _, rfl, hM', ?_⟩
    clear hM hM' hP
    refine li rfl (opVal (.tuple #[(.pointer (some ⟨bt3, 0, none⟩)), (.int .i64 0)]) rfl (by kernel_rfl) (rMove rfl rfl) ?_)
    refine li rfl (opVal (.pointer (some ⟨bt3, 0, none⟩)) rfl (by kernel_rfl) (rClosed fun _ => by kernel_rfl) ?_)
    refine li rfl (opVal (.int .i64 0) rfl (by kernel_rfl) (rClosed fun _ => by kernel_rfl) ?_)
    refine li rfl (opVal (.pointer (some ⟨bt3, 0, none⟩)) rfl (by kernel_rfl) (rAssign rfl rfl) ?_)
    refine li rfl (opVal (.int .i64 0) rfl (by kernel_rfl) (rAssign rfl rfl) ?_)
    refine liNil ?_
    refine qThen ?_
    refine stSeq ?_
    refine stSeq ?_
    refine reg ?_
    refine li rfl (opVal (.int .i64 0) rfl (by kernel_rfl) (rMove rfl rfl) ?_)
    refine li rfl (opVal (.bool false) rfl (by kernel_rfl) (rClosed fun _ => by kernel_rfl) ?_)
    refine li rfl (opVal (.bool false) rfl (by kernel_rfl) (rMove rfl rfl) ?_)
    refine liGo rfl rfl (opVal (.pointer (some ⟨bt3, 0, none⟩)) rfl (by kernel_rfl) (rMove rfl rfl) ?_)
    refine liGo rfl rfl (opVal (.bool false) rfl (by kernel_rfl) (rClosed fun _ => by kernel_rfl) ?_)
    refine li rfl (opVal (.bool false) rfl (by kernel_rfl) (rClosed fun _ => by kernel_rfl) ?_)
    refine liNil ?_
    refine qThen ?_
    refine stFalse rfl ?_
    refine stSkip ?_
    refine qThen ?_
    refine stSeq ?_
    refine reg ?_
    refine li rfl (opVal (.pointer (some ⟨bt3, 0, none⟩)) rfl (by kernel_rfl) (rMove rfl rfl) ?_)
    refine li rfl ?_
    refine opCallB 26 #[(.pointer (some ⟨bt3, 0, none⟩))] rfl (by kernel_rfl) (fun _ => by kernel_rfl) (fun w hM => ?_)
    refine (keys_none hkey (HV.out.mm hM) (hM.at (i := 7) rfl)).mono ?_
    rintro e w1 ⟨rfl, hf⟩
    have hM1 := hM.fr0 hf
    refine ⟨_, w1, [], [], rfl, Mm.start w1 [], ?_⟩
    have HF1 := Lib.hid hM1.fr
    have HV1 : Hid (Vars w1) := HV.out.mm hM1
    clear hM hM1 hf
    refine li rfl (opVal (.tuple #[(.slice none 0 0), (.slice none 0 0), (.int .i64 10)]) rfl (by kernel_rfl) (rMove rfl rfl) ?_)
    refine li rfl (opVal (.slice none 0 0) rfl (by kernel_rfl) (rClosed fun _ => by kernel_rfl) ?_)
    refine li rfl (opVal (.slice none 0 0) rfl (by kernel_rfl) (rClosed fun _ => by kernel_rfl) ?_)
    refine li rfl (opVal (.int .i64 10) rfl (by kernel_rfl) (rClosed fun _ => by kernel_rfl) ?_)
    refine li rfl (opVal (.slice none 0 0) rfl (by kernel_rfl) (rAssign rfl rfl) ?_)
    refine li rfl (opVal (.slice none 0 0) rfl (by kernel_rfl) (rAssign rfl rfl) ?_)
    refine li rfl (opVal (.int .i64 10) rfl (by kernel_rfl) (rAssign rfl rfl) ?_)
    refine liNil ?_
    refine qThen ?_
    refine stSeq ?_
    refine stSeq ?_
    refine reg ?_
    refine li rfl (opVal (.bool true) rfl (by kernel_rfl) (rMove rfl rfl) ?_)
    refine li rfl (opVal (.bool true) rfl (by kernel_rfl) (rMove rfl rfl) ?_)
    refine liGo rfl rfl (opVal (.int .i64 ((n : Nat) : Int)) rfl (by kernel_rfl) (rMove rfl rfl) ?_)
    refine liGo rfl rfl (opVal (.int .u64 ((seed : Nat) : Int)) rfl (by kernel_rfl) (rMove rfl rfl) ?_)
    refine liGo rfl rfl (opVal (.string (strOf one)) rfl (by kernel_rfl) (rMove rfl rfl) ?_)
    refine liGo rfl rfl ?_
    refine opCallB 20 #[(.int .i64 ((n : Nat) : Int)), (.int .u64 ((seed : Nat) : Int)), (.string (strOf one))] rfl (by kernel_rfl) (fun _ => by kernel_rfl) (fun w hM => ?_)
    refine (refPlaces_any n seed one w hm (by omega)).mono ?_
    rintro e w2 ⟨A2, c2, rfl, hf, hra2⟩
    have hM1 := hM.fr0 hf
    refine ⟨_, w2, [], [], rfl, Mm.start w2 [], ?_⟩
    have HF2 : Hid (Fr [] w1 w2) := hM1.fr
    have HV2 : Hid (Vars w2) := HV1.out.mm hM1
    have HP2 := Lib.hid hra2
    clear hM hM1 hf hra2
    refine liGo rfl rfl (opVal (.int .i64 ((n : Nat) : Int)) rfl (by kernel_rfl) (rMove rfl rfl) ?_)
    refine liGo rfl rfl (opVal (.int .u64 ((seed : Nat) : Int)) rfl (by kernel_rfl) (rMove rfl rfl) ?_)
    refine liGo rfl rfl (opVal (.string (strOf two)) rfl (by kernel_rfl) (rMove rfl rfl) ?_)
    refine liGo rfl rfl ?_
    refine opCallB 20 #[(.int .i64 ((n : Nat) : Int)), (.int .u64 ((seed : Nat) : Int)), (.string (strOf two))] rfl (by kernel_rfl) (fun _ => by kernel_rfl) (fun w hM => ?_)
    refine (refPlaces_any n seed two w hm (by omega)).mono ?_
    rintro e w3 ⟨A3, c3, rfl, hf, hra3⟩
    have hM1 := hM.fr0 hf
    refine ⟨_, w3, [], [], rfl, Mm.start w3 [], ?_⟩
    have HF3 : Hid (Fr [] w2 w3) := hM1.fr
    have HV3 : Hid (Vars w3) := HV2.out.mm hM1
    have HP3 := Lib.hid hra3
    have HP23 : Hid (RowIn w3 A2 ((placesL n seed one).map (Value.int .i64))) := HP2.out.fr0 hM1.fr
    clear hM hM1 hf hra3
    refine liGo rfl rfl ?_
    refine opCall 19 #[(.slice A2 ((placesL n seed one).length) (c2)), (.slice A3 ((placesL n seed two).length) (c3))] rfl (by kernel_rfl) (fun _ => by kernel_rfl) (fun w hM => ?_)
    refine ((by have h := ints_any A2 A3 c2 c3 (placesL n seed one) (placesL n seed two) w (HP23.out.fr0 hM.fr) (HP3.out.fr0 hM.fr) (by simp [placesL]) (by simp [placesL]); rw [decide_eq_true hpl] at h; exact h : Calls _ _ _ w fun e w' => e = .returned (.bool true) ∧ Fr [] w w')).mono ?_
    rintro e w' ⟨rfl, hf⟩
    have hM' := hM.fr0 hf
    refine ⟨(.bool true), _, rfl, hM', ?_⟩
    clear hM hM' hf
    refine li rfl (opVal (.bool true) rfl (by kernel_rfl) (rClosed fun _ => by kernel_rfl) ?_)
    refine liNil ?_
    refine qThen ?_
    refine stTrue rfl ?_
    refine stSeq ?_
    refine reg ?_
    refine li rfl ?_
    refine opCall 13 #[] rfl (by kernel_rfl) (fun _ => by kernel_rfl) (fun w hM => ?_)
    refine (awake_any w (HV3.out.mm hM)).mono ?_
    rintro e w' ⟨rfl, hf⟩
    have hM' := hM.fr0 hf
    refine ⟨(.bool true), _, rfl, hM', ?_⟩
    clear hM hM' hf
    refine li rfl (opVal (.bool true) rfl (by kernel_rfl) (rMove rfl rfl) ?_)
    refine liGo rfl rfl (opVal (.int .i64 10) rfl (by kernel_rfl) (rMove rfl rfl) ?_)
    refine liGo rfl rfl (opVal (.bool true) rfl (by kernel_rfl) (rClosed fun _ => by kernel_rfl) ?_)
    refine li rfl (opVal (.bool true) rfl (by kernel_rfl) (rClosed fun _ => by kernel_rfl) ?_)
    refine li rfl (opVal (.bool true) rfl (by kernel_rfl) (rMove rfl rfl) ?_)
    refine liGo rfl rfl (opVal (.slice none 0 0) rfl (by kernel_rfl) (rMove rfl rfl) ?_)
    refine liGo rfl rfl (opVal (.int .i64 0) rfl (by kernel_rfl) (rClosed fun _ => by kernel_rfl) ?_)
    refine liGo rfl rfl (opVal (.bool true) rfl (by kernel_rfl) (rClosed fun _ => by kernel_rfl) ?_)
    refine li rfl (opVal (.bool true) rfl (by kernel_rfl) (rClosed fun _ => by kernel_rfl) ?_)
    refine li rfl (opVal (.bool true) rfl (by kernel_rfl) (rMove rfl rfl) ?_)
    refine liGo rfl rfl (opVal (.slice none 0 0) rfl (by kernel_rfl) (rMove rfl rfl) ?_)
    refine liGo rfl rfl (opVal (.int .i64 0) rfl (by kernel_rfl) (rClosed fun _ => by kernel_rfl) ?_)
    refine liGo rfl rfl (opVal (.bool true) rfl (by kernel_rfl) (rClosed fun _ => by kernel_rfl) ?_)
    refine li rfl (opVal (.bool true) rfl (by kernel_rfl) (rClosed fun _ => by kernel_rfl) ?_)
    refine li rfl (opVal (.bool true) rfl (by kernel_rfl) (rAssign rfl rfl) ?_)
    refine liNil ?_
    refine qThen ?_
    refine stRet ?_
    refine qThenR ?_
    refine stEnd [(.bool true)] rfl ⟨rfl, trivial⟩ (fun w hM => ?_)
    exact ⟨rfl, ((HF1.out.trans HF2.out).trans HF3.out).trans hM.fr⟩

set_option maxRecDepth 100000 in
set_option maxHeartbeats 4000000 in
theorem lawFew_two (n seed : Nat) (A : Option Addr) (c : Nat) (cm : List UInt8) (x y : Nat) (w : World) (hv : Vars w) (hm : isSz (n : Int) = true) (h60 : n ≤ 60) (h30 : cm.length ≤ 30) (hu : U64 seed) (hr : RowIn w A (B8 cm)) (one two : List UInt8) (ho : one = sha (msg 1 x)) (ht : two = sha (msg 2 y)) (h1 : one.length = 32) (h2 : two.length = 32) (hne : one ≠ two) (hpl : ¬ placesL n seed one = placesL n seed two) :
    Calls Tryd.prog 5 #[Value.int .i64 (n : Int), .int .u64 (seed : Int), .slice A cm.length c, .int .u16 (x : Int), .int .u16 (y : Int), Value.bool true, Value.bool false] w fun e w' => e = .returned (.bool true) ∧ Fr [] w w' := by
  have HV := Lib.hid hv
  clear hv
  have HU := Lib.hid hu
  have HR := Lib.hid hr
  have HO := Lib.hid ho
  have HT2 := Lib.hid ht
  clear hu hr ho ht
  obtain ⟨X, HX⟩ : ∃ X, Hid (runAll (BT.new n seed) (opsT cm) = X) := ⟨_, rfl⟩
  have hXo : X.Ok := by rw [← HX.out]; exact (BT.Ok.new n seed HU.out).run _
  have hXl : X.cells.length = n := by rw [← HX.out, runAll_len, new_len]
  have hXs : X.seed = seed := by rw [← HX.out, runAll_seed]; rfl
  have hsl : ((X.change one 1).change two 1).cells.length = X.cells.length := by simp only [change_len]
  have hss : ((X.change one 1).change two 1).seed = X.seed := by simp only [change_seed]
  have HTD : Hid (((X.change one 1).change two 1).sub X = ((BT.new n seed).change one 1).change two 1) := by show _ = _; rw [sub_change _ _ _ _ (by rw [change_len]), sub_change _ _ _ _ rfl, sub_self hXo, hXl, hXs]
  have hkey : (((BT.new n seed).change one 1).change two 1).keys = some ([minB one two, maxB one two], []) := by
    obtain ⟨j, hj, hp⟩ := places_ne hpl
    rw [few_two (isSz_bounds hm).1 HU.out h1 h2 hne (.inl rfl) hj hp, if_pos rfl, sort_two]
  refine stEnter (args := [Value.int .i64 (n : Int), .int .u64 (seed : Int), .slice A cm.length c, .int .u16 (x : Int), .int .u16 (y : Int), Value.bool true, Value.bool false]) [] Tryd.func5 rfl 196 rfl [(0, Value.int .i64 (n : Int)), (1, .int .u64 (seed : Int)), (2, .slice A cm.length c), (3, .int .u16 (x : Int)), (4, .int .u16 (y : Int)), (5, Value.bool true), (6, Value.bool false)] ⟨rfl, rfl, rfl, rfl, rfl, rfl, rfl, trivial⟩ [] (Mm.start w []) ?_
  refine stSeq ?_
  refine reg ?_
  refine li rfl (opVal (.bool false) rfl (by kernel_rfl) (rAssign rfl rfl) ?_)
  refine liNil ?_
  refine qThen ?_
  refine stSeq ?_
  refine stSeq ?_
  refine reg ?_
  refine li rfl (opVal (.int .i64 ((n : Nat) : Int)) rfl (by kernel_rfl) (rMove rfl rfl) ?_)
  refine li rfl ?_
  refine opCall 16 #[(.int .i64 ((n : Nat) : Int))] rfl (by kernel_rfl) (fun _ => by kernel_rfl) (fun w hM => ?_)
  refine ((by rw [← hm]; exact valid_any (n : Int) w : Calls _ _ _ w fun e w' => e = .returned (.bool true) ∧ w = w')).mono ?_
  rintro e w' ⟨rfl, rfl⟩
  refine ⟨(.bool true), _, rfl, hM, ?_⟩
  clear hM
  refine li rfl (opVal (.bool false) rfl (by kernel_rfl) (rClosed fun _ => by kernel_rfl) ?_)
  refine li rfl (opVal (.bool false) rfl (by kernel_rfl) (rMove rfl rfl) ?_)
  refine liGo rfl rfl (opVal (.int .i64 ((n : Nat) : Int)) rfl (by kernel_rfl) (rMove rfl rfl) ?_)
  refine liGo rfl rfl (opVal (.bool (decide (((n : Nat) : Int) > 60))) rfl (by kernel_rfl) (rClosed fun _ => by kernel_rfl) ?_)
  refine li rfl (opVal (.bool (decide (((n : Nat) : Int) > 60))) rfl (by kernel_rfl) (rClosed fun _ => by kernel_rfl) ?_)
  refine li rfl (opVal (.bool (decide (((n : Nat) : Int) > 60))) rfl (by kernel_rfl) (rMove rfl rfl) ?_)
  refine St.known 36 (b' := false) rfl (by simp; omega) ?_
  refine liGo rfl rfl (opVal (.slice A (cm.length) (c)) rfl (by kernel_rfl) (rMove rfl rfl) ?_)
  refine liGo rfl rfl (opVal (.int .i64 ((cm.length : Nat) : Int)) rfl (by kernel_rfl) (rClosed fun _ => by kernel_rfl) ?_)
  refine liGo rfl rfl (opVal (.bool (decide (((cm.length : Nat) : Int) > 30))) rfl (by kernel_rfl) (rClosed fun _ => by kernel_rfl) ?_)
  refine li rfl (opVal (.bool (decide (((cm.length : Nat) : Int) > 30))) rfl (by kernel_rfl) (rClosed fun _ => by kernel_rfl) ?_)
  refine liNil ?_
  refine qThen ?_
  refine stFalseK rfl (by simp; omega) ?_
  refine stSkip ?_
  refine qThen ?_
  refine stSeq ?_
  refine reg ?_
  refine li rfl (opVal (.int .i64 ((n : Nat) : Int)) rfl (by kernel_rfl) (rMove rfl rfl) ?_)
  refine li rfl (opVal (.int .u64 ((seed : Nat) : Int)) rfl (by kernel_rfl) (rMove rfl rfl) ?_)
  refine li rfl ?_
  refine opCall 21 #[(.int .i64 ((n : Nat) : Int)), (.int .u64 ((seed : Nat) : Int))] rfl (by kernel_rfl) (fun _ => by kernel_rfl) (fun w hM => ?_)
  refine (blNew_any n seed w hm HU.out).mono ?_
  rintro e w' ⟨rfl, hf, ht⟩
  obtain ⟨bt1, hbt⟩ : ∃ bt, bt = w.heap.size + 1 := ⟨_, rfl⟩
  obtain ⟨bc1, hbc⟩ : ∃ bc, bc = w.heap.size := ⟨_, rfl⟩
  rw [← hbt] at ht ⊢
  rw [← hbc] at ht
  have hM' := hM.pushTab hf ht (by omega) (by omega)
  refine ⟨_, _, rfl, hM', ?_⟩
  clear hM hM' hf ht hbt hbc
  refine li rfl (opVal (.tuple #[(.pointer (some ⟨bt1, 0, none⟩)), (.int .i64 0)]) rfl (by kernel_rfl) (rMove rfl rfl) ?_)
  refine li rfl (opVal (.pointer (some ⟨bt1, 0, none⟩)) rfl (by kernel_rfl) (rClosed fun _ => by kernel_rfl) ?_)
  refine li rfl (opVal (.int .i64 0) rfl (by kernel_rfl) (rClosed fun _ => by kernel_rfl) ?_)
  refine li rfl (opVal (.pointer (some ⟨bt1, 0, none⟩)) rfl (by kernel_rfl) (rAssign rfl rfl) ?_)
  refine li rfl (opVal (.int .i64 0) rfl (by kernel_rfl) (rAssign rfl rfl) ?_)
  refine liNil ?_
  refine qThen ?_
  refine stSeq ?_
  refine reg ?_
  refine li rfl (opVal (.int .i64 ((n : Nat) : Int)) rfl (by kernel_rfl) (rMove rfl rfl) ?_)
  refine li rfl (opVal (.int .u64 ((seed : Nat) : Int)) rfl (by kernel_rfl) (rMove rfl rfl) ?_)
  refine li rfl ?_
  refine opCall 21 #[(.int .i64 ((n : Nat) : Int)), (.int .u64 ((seed : Nat) : Int))] rfl (by kernel_rfl) (fun _ => by kernel_rfl) (fun w hM => ?_)
  refine (blNew_any n seed w hm HU.out).mono ?_
  rintro e w' ⟨rfl, hf, ht⟩
  obtain ⟨bt2, hbt⟩ : ∃ bt, bt = w.heap.size + 1 := ⟨_, rfl⟩
  obtain ⟨bc2, hbc⟩ : ∃ bc, bc = w.heap.size := ⟨_, rfl⟩
  rw [← hbt] at ht ⊢
  rw [← hbc] at ht
  have hM' := hM.pushTab hf ht (by omega) (by omega)
  refine ⟨_, _, rfl, hM', ?_⟩
  clear hM hM' hf ht hbt hbc
  refine li rfl (opVal (.tuple #[(.pointer (some ⟨bt2, 0, none⟩)), (.int .i64 0)]) rfl (by kernel_rfl) (rMove rfl rfl) ?_)
  refine li rfl (opVal (.pointer (some ⟨bt2, 0, none⟩)) rfl (by kernel_rfl) (rClosed fun _ => by kernel_rfl) ?_)
  refine li rfl (opVal (.int .i64 0) rfl (by kernel_rfl) (rClosed fun _ => by kernel_rfl) ?_)
  refine li rfl (opVal (.pointer (some ⟨bt2, 0, none⟩)) rfl (by kernel_rfl) (rAssign rfl rfl) ?_)
  refine li rfl (opVal (.int .i64 0) rfl (by kernel_rfl) (rAssign rfl rfl) ?_)
  refine liNil ?_
  refine qThen ?_
  refine stSeq ?_
  refine stSeq ?_
  refine reg ?_
  refine li rfl (opVal (.int .i64 0) rfl (by kernel_rfl) (rMove rfl rfl) ?_)
  refine li rfl (opVal (.bool false) rfl (by kernel_rfl) (rClosed fun _ => by kernel_rfl) ?_)
  refine li rfl (opVal (.bool false) rfl (by kernel_rfl) (rMove rfl rfl) ?_)
  refine liGo rfl rfl (opVal (.int .i64 0) rfl (by kernel_rfl) (rMove rfl rfl) ?_)
  refine liGo rfl rfl (opVal (.bool false) rfl (by kernel_rfl) (rClosed fun _ => by kernel_rfl) ?_)
  refine li rfl (opVal (.bool false) rfl (by kernel_rfl) (rClosed fun _ => by kernel_rfl) ?_)
  refine li rfl (opVal (.bool false) rfl (by kernel_rfl) (rMove rfl rfl) ?_)
  refine liGo rfl rfl (opVal (.pointer (some ⟨bt1, 0, none⟩)) rfl (by kernel_rfl) (rMove rfl rfl) ?_)
  refine liGo rfl rfl (opVal (.bool false) rfl (by kernel_rfl) (rClosed fun _ => by kernel_rfl) ?_)
  refine li rfl (opVal (.bool false) rfl (by kernel_rfl) (rClosed fun _ => by kernel_rfl) ?_)
  refine li rfl (opVal (.bool false) rfl (by kernel_rfl) (rMove rfl rfl) ?_)
  refine liGo rfl rfl (opVal (.pointer (some ⟨bt2, 0, none⟩)) rfl (by kernel_rfl) (rMove rfl rfl) ?_)
  refine liGo rfl rfl (opVal (.bool false) rfl (by kernel_rfl) (rClosed fun _ => by kernel_rfl) ?_)
  refine li rfl (opVal (.bool false) rfl (by kernel_rfl) (rClosed fun _ => by kernel_rfl) ?_)
  refine liNil ?_
  refine qThen ?_
  refine stFalse rfl ?_
  refine stSkip ?_
  refine qThen ?_
  refine stSeq ?_
  refine stSeq ?_
  refine reg ?_
  refine li rfl (opVal (.int .i64 0) rfl (by kernel_rfl) (rAssign rfl rfl) ?_)
  refine liNil ?_
  refine qThen ?_
  refine stBlock ?_
  have e0 := runTo_zero (BT.new n seed) (opsT cm)
  have e1 := runTo_zero (BT.new n seed) (opsT cm).reverse
  refine stLoop (ι := Nat) (fun i => i ≤ cm.length) (fun i => cm.length - i) (fun i => [(0, (.int .i64 ((n : Nat) : Int))), (1, (.int .u64 ((seed : Nat) : Int))), (2, (.slice A (cm.length) (c))), (3, (.int .u16 ((x : Nat) : Int))), (4, (.int .u16 ((y : Nat) : Int))), (5, (.bool true)), (6, (.bool false)), (15, (.pointer (some ⟨bt1, 0, none⟩))), (17, (.pointer (some ⟨bt2, 0, none⟩))), (19, (.int .i64 ((i : Nat) : Int)))]) (fun i => [cTab bt1 bc1 n [] (runTo (BT.new n seed) (opsT cm) i), cTab bt2 bc2 n [] (runTo (BT.new n seed) (opsT cm).reverse i)]) 0 (Nat.zero_le _) ⟨rfl, rfl, rfl, rfl, rfl, rfl, rfl, rfl, rfl, rfl, trivial⟩ (fun w hM => by show Mm _ _ [cTab bt1 bc1 n [] (runTo (BT.new n seed) (opsT cm) 0), cTab bt2 bc2 n [] (runTo (BT.new n seed) (opsT cm).reverse 0)] w; rw [e0, e1]; exact hM) ?_
  intro i (hi : i ≤ cm.length)
  show St _ _ _ [(0, (.int .i64 ((n : Nat) : Int))), (1, (.int .u64 ((seed : Nat) : Int))), (2, (.slice A (cm.length) (c))), (3, (.int .u16 ((x : Nat) : Int))), (4, (.int .u16 ((y : Nat) : Int))), (5, (.bool true)), (6, (.bool false)), (15, (.pointer (some ⟨bt1, 0, none⟩))), (17, (.pointer (some ⟨bt2, 0, none⟩))), (19, (.int .i64 ((i : Nat) : Int)))] [cTab bt1 bc1 n [] (runTo (BT.new n seed) (opsT cm) i), cTab bt2 bc2 n [] (runTo (BT.new n seed) (opsT cm).reverse i)] _
  refine stSeq ?_
  refine stSeq ?_
  refine reg ?_
  refine li rfl (opVal (.int .i64 ((i : Nat) : Int)) rfl (by kernel_rfl) (rMove rfl rfl) ?_)
  refine li rfl (opVal (.slice A (cm.length) (c)) rfl (by kernel_rfl) (rMove rfl rfl) ?_)
  refine li rfl (opVal (.int .i64 ((cm.length : Nat) : Int)) rfl (by kernel_rfl) (rClosed fun _ => by kernel_rfl) ?_)
  refine li rfl (opVal (.bool (decide (((i : Nat) : Int) < ((cm.length : Nat) : Int)))) rfl (by kernel_rfl) (rClosed fun _ => by kernel_rfl) ?_)
  refine liNil ?_
  refine qThen ?_
  refine stCond rfl (fun hc71 => ?_) (fun hc71 => ?_)
  · have hd71 := of_decide_eq_true hc71
    have hlt : i < cm.length := by omega
    obtain ⟨b0, hb0⟩ : ∃ b, cm[i]? = some b := ⟨_, List.getElem?_eq_getElem hlt⟩
    obtain ⟨b1, hb1⟩ : ∃ b, cm[cm.length - 1 - i]? = some b := ⟨_, List.getElem?_eq_getElem (by omega)⟩
    have HST := Lib.hid (runTo_succ (BT.new n seed) (opsT_get hb0))
    have HSU := Lib.hid (runTo_succ (BT.new n seed) (opsU_get hlt hb1))
    obtain ⟨b, o, hA, hbl, hck0⟩ := HR.out i _ (by rw [B8_map, hb0]; rfl)
    obtain ⟨b', o', hA', _, hck1⟩ := HR.out (cm.length - 1 - i) _ (by rw [B8_map, hb1]; rfl)
    subst hA
    injection hA' with hA'
    injection hA' with hb' ho'
    subst hb' ho'
    obtain ⟨T, HTT⟩ : ∃ T, Hid (T = runTo (BT.new n seed) (opsT cm) i) := ⟨_, rfl⟩
    obtain ⟨U, HUU⟩ : ∃ U, Hid (U = runTo (BT.new n seed) (opsT cm).reverse i) := ⟨_, rfl⟩
    rw [← HTT.out] at HST ⊢
    rw [← HUU.out] at HSU ⊢
    refine stSkip ?_
    refine qThen ?_
    refine stSeq ?_
    refine stBlock ?_
    refine stSeq ?_
    refine reg ?_
    refine li rfl (opVal (.pointer (some ⟨bt1, 0, none⟩)) rfl (by kernel_rfl) (rMove rfl rfl) ?_)
    refine li rfl (opVal (.slice (some ⟨b, o, none⟩) (cm.length) (c)) rfl (by kernel_rfl) (rMove rfl rfl) ?_)
    refine li rfl (opVal (.int .i64 ((i : Nat) : Int)) rfl (by kernel_rfl) (rMove rfl rfl) ?_)
    refine li rfl (opVal (.pointer (some ⟨b, o + i, none⟩)) rfl (by kernel_rfl) (rIndexAddr1 (e := 5) rfl (by kernel_rfl) (by kernel_rfl) rfl rfl (by omega)) ?_)
    refine li rfl (opVal (.int .u8 ((b0.toNat : Nat) : Int)) rfl (by kernel_rfl) (rLoadW rfl rfl (by kernel_rfl) (fun w hM => hM.old hck0 (by simp))) ?_)
    refine li rfl ?_
    refine opCall 23 #[(.int .u8 ((b0.toNat : Nat) : Int))] rfl (by kernel_rfl) (fun _ => by kernel_rfl) (fun w hM => ?_)
    refine (keyOf_any b0 w).mono ?_
    rintro e w' ⟨rfl, hf⟩
    have hM' := hM.fr0 hf
    refine ⟨(.string (strOf (sha [b0]))), _, rfl, hM', ?_⟩
    clear hM hM' hf
    refine li rfl ?_
    refine opCall 22 #[(.pointer (some ⟨bt1, 0, none⟩)), (.string (strOf (sha [b0])))] rfl (by kernel_rfl) (fun _ => by kernel_rfl) (fun w hM => ?_)
    refine (insCall bt1 bc1 n [] T (sha [b0]) w (HV.out.mm hM) (hM.at (i := 0) rfl)).mono ?_
    rintro e w' ⟨rfl, hf, ht⟩
    have hM' := hM.swapTab 0 rfl hf ht
    refine ⟨_, _, rfl, hM', ?_⟩
    clear hM hM' hf ht
    refine liNil ?_
    refine qThen ?_
    refine reg ?_
    refine li rfl (opVal (.pointer (some ⟨bt2, 0, none⟩)) rfl (by kernel_rfl) (rMove rfl rfl) ?_)
    refine li rfl (opVal (.slice (some ⟨b, o, none⟩) (cm.length) (c)) rfl (by kernel_rfl) (rMove rfl rfl) ?_)
    refine li rfl (opVal (.slice (some ⟨b, o, none⟩) (cm.length) (c)) rfl (by kernel_rfl) (rMove rfl rfl) ?_)
    refine li rfl (opVal (.int .i64 ((cm.length : Nat) : Int)) rfl (by kernel_rfl) (rClosed fun _ => by kernel_rfl) ?_)
    refine li rfl (opVal (.int .i64 (((cm.length - 1) : Nat) : Int)) rfl (by kernel_rfl) (rSub _ rfl rfl rfl (by omega) (by omega) (by omega)) ?_)
    refine li rfl (opVal (.int .i64 ((i : Nat) : Int)) rfl (by kernel_rfl) (rMove rfl rfl) ?_)
    refine li rfl (opVal (.int .i64 (((cm.length - 1 - i) : Nat) : Int)) rfl (by kernel_rfl) (rSub _ rfl rfl rfl (by omega) (by omega) (by omega)) ?_)
    refine li rfl (opVal (.pointer (some ⟨b, o + (cm.length - 1 - i), none⟩)) rfl (by kernel_rfl) (rIndexAddr1 (e := 5) rfl (by kernel_rfl) (by kernel_rfl) rfl rfl (by omega)) ?_)
    refine li rfl (opVal (.int .u8 ((b1.toNat : Nat) : Int)) rfl (by kernel_rfl) (rLoadW rfl rfl (by kernel_rfl) (fun w hM => hM.old hck1 (by simp))) ?_)
    refine li rfl ?_
    refine opCall 23 #[(.int .u8 ((b1.toNat : Nat) : Int))] rfl (by kernel_rfl) (fun _ => by kernel_rfl) (fun w hM => ?_)
    refine (keyOf_any b1 w).mono ?_
    rintro e w' ⟨rfl, hf⟩
    have hM' := hM.fr0 hf
    refine ⟨(.string (strOf (sha [b1]))), _, rfl, hM', ?_⟩
    clear hM hM' hf
    refine li rfl ?_
    refine opCall 22 #[(.pointer (some ⟨bt2, 0, none⟩)), (.string (strOf (sha [b1])))] rfl (by kernel_rfl) (fun _ => by kernel_rfl) (fun w hM => ?_)
    refine (insCall bt2 bc2 n [] U (sha [b1]) w (HV.out.mm hM) (hM.at (i := 1) rfl)).mono ?_
    rintro e w' ⟨rfl, hf, ht⟩
    have hM' := hM.swapTab 1 rfl hf ht
    refine ⟨_, _, rfl, hM', ?_⟩
    clear hM hM' hf ht
    refine liNil ?_
    refine qBlock ?_
    refine qThen ?_
    refine reg ?_
    refine li rfl (opVal (.int .i64 ((i : Nat) : Int)) rfl (by kernel_rfl) (rMove rfl rfl) ?_)
    refine li rfl (opVal (.int .i64 ((i + 1 : Nat) : Int)) rfl (by kernel_rfl) (rAdd _ rfl rfl rfl (by omega) (by omega) (by omega)) ?_)
    refine li rfl (opVal (.int .i64 ((i + 1 : Nat) : Int)) rfl (by kernel_rfl) (rAssign rfl rfl) ?_)
    refine liNil ?_
    refine qThen ?_
    exact stAgain (i + 1) (by show _ ≤ _; omega) (by show cm.length - (i + 1) < cm.length - i; omega) ⟨rfl, rfl, rfl, rfl, rfl, rfl, rfl, rfl, rfl, rfl, trivial⟩ (fun w hM => by show Mm _ _ [cTab bt1 bc1 n [] (runTo (BT.new n seed) (opsT cm) (i + 1)), cTab bt2 bc2 n [] (runTo (BT.new n seed) (opsT cm).reverse (i + 1))] w; rw [HST.out, HSU.out]; exact hM)
  · have hd71 := of_decide_eq_false hc71
    obtain rfl : i = cm.length := by omega
    have hT := runTo_all (BT.new n seed) (opsT cm)
    have hUU := runTo_all (BT.new n seed) (opsT cm).reverse
    rw [opsT_len] at hT
    rw [List.length_reverse, opsT_len, run_reverse] at hUU
    rw [hT, hUU, HX.out]
    refine stExit ?_
    refine qThenX ?_
    refine qThenX ?_
    refine qBlockX ?_
    refine qThen ?_
    refine stSeq ?_
    refine reg ?_
    refine li rfl (opVal (.int .u16 ((x : Nat) : Int)) rfl (by kernel_rfl) (rMove rfl rfl) ?_)
    refine li rfl (opVal (.int .u8 (((UInt8.ofNat x).toNat : Nat) : Int)) rfl (by kernel_rfl) (rIntC _ (fun _ => by kernel_rfl) rfl rfl (wrap_u8 x)) ?_)
    refine li rfl (opVal (.int .u16 ((x : Nat) : Int)) rfl (by kernel_rfl) (rMove rfl rfl) ?_)
    refine li rfl (opVal (.int .u16 (((x / 256) : Nat) : Int)) rfl (by kernel_rfl) (rShr8 rfl rfl rfl) ?_)
    refine li rfl (opVal (.int .u8 (((UInt8.ofNat (x / 256)).toNat : Nat) : Int)) rfl (by kernel_rfl) (rIntC _ (fun _ => by kernel_rfl) rfl rfl (wrap_u8 (x / 256))) ?_)
    refine li rfl ?_
    refine opNew (v := fun b => .slice (some ⟨b, 0, none⟩) 3 3) 5 [(.int .u8 1), (.int .u8 (((UInt8.ofNat x).toNat : Nat) : Int)), (.int .u8 (((UInt8.ofNat (x / 256)).toNat : Nat) : Int))] rfl (by kernel_rfl) (fun _ => by kernel_rfl) (fun b97 => ?_)
    refine li rfl ?_
    refine opCall 24 #[(.slice (some ⟨b97, 0, none⟩) (3) (3))] rfl (by kernel_rfl) (fun _ => by kernel_rfl) (fun w hM => ?_)
    refine (by have h := refSum_any (some ⟨b97, 0, none⟩) 3 (msg 1 x) w (rowAt' (i := 2) rfl (fun j v h => by rw [Nat.zero_add]; exact h) w hM) (by simp [msg]); rw [← HO.out] at h; exact h : Calls _ _ _ w fun e w' => e = .returned (.string (strOf one)) ∧ Fr [] w w').mono ?_
    rintro e w' ⟨rfl, hf⟩
    have hM' := hM.fr0 hf
    refine ⟨_, _, rfl, hM', ?_⟩
    clear hM hM' hf
    refine li rfl (opVal (.int .u16 ((y : Nat) : Int)) rfl (by kernel_rfl) (rMove rfl rfl) ?_)
    refine li rfl (opVal (.int .u8 (((UInt8.ofNat y).toNat : Nat) : Int)) rfl (by kernel_rfl) (rIntC _ (fun _ => by kernel_rfl) rfl rfl (wrap_u8 y)) ?_)
    refine li rfl (opVal (.int .u16 ((y : Nat) : Int)) rfl (by kernel_rfl) (rMove rfl rfl) ?_)
    refine li rfl (opVal (.int .u16 (((y / 256) : Nat) : Int)) rfl (by kernel_rfl) (rShr8 rfl rfl rfl) ?_)
    refine li rfl (opVal (.int .u8 (((UInt8.ofNat (y / 256)).toNat : Nat) : Int)) rfl (by kernel_rfl) (rIntC _ (fun _ => by kernel_rfl) rfl rfl (wrap_u8 (y / 256))) ?_)
    refine li rfl ?_
    refine opNew (v := fun b => .slice (some ⟨b, 0, none⟩) 3 3) 5 [(.int .u8 2), (.int .u8 (((UInt8.ofNat y).toNat : Nat) : Int)), (.int .u8 (((UInt8.ofNat (y / 256)).toNat : Nat) : Int))] rfl (by kernel_rfl) (fun _ => by kernel_rfl) (fun b104 => ?_)
    refine li rfl ?_
    refine opCall 24 #[(.slice (some ⟨b104, 0, none⟩) (3) (3))] rfl (by kernel_rfl) (fun _ => by kernel_rfl) (fun w hM => ?_)
    refine (by have h := refSum_any (some ⟨b104, 0, none⟩) 3 (msg 2 y) w (rowAt' (i := 3) rfl (fun j v h => by rw [Nat.zero_add]; exact h) w hM) (by simp [msg]); rw [← HT2.out] at h; exact h : Calls _ _ _ w fun e w' => e = .returned (.string (strOf two)) ∧ Fr [] w w').mono ?_
    rintro e w' ⟨rfl, hf⟩
    have hM' := hM.fr0 hf
    refine ⟨_, _, rfl, hM', ?_⟩
    clear hM hM' hf
    refine li rfl (opVal (.string (strOf one)) rfl (by kernel_rfl) (rAssign rfl rfl) ?_)
    refine li rfl (opVal (.string (strOf two)) rfl (by kernel_rfl) (rAssign rfl rfl) ?_)
    refine liNil ?_
    refine qThen ?_
    refine stSeq ?_
    refine reg ?_
    refine li rfl (opVal (.pointer (some ⟨bt1, 0, none⟩)) rfl (by kernel_rfl) (rMove rfl rfl) ?_)
    refine li rfl (opVal (.string (strOf one)) rfl (by kernel_rfl) (rMove rfl rfl) ?_)
    refine li rfl ?_
    refine opCall 22 #[(.pointer (some ⟨bt1, 0, none⟩)), (.string (strOf one))] rfl (by kernel_rfl) (fun _ => by kernel_rfl) (fun w hM => ?_)
    refine (insert_any bt1 bc1 n [] X one w (HV.out.mm hM) (hM.at (i := 0) rfl) h1).mono ?_
    rintro e w' ⟨rfl, hf, ht⟩
    have hM' := hM.swapTab 0 rfl hf ht
    refine ⟨_, _, rfl, hM', ?_⟩
    clear hM hM' hf ht
    refine liNil ?_
    refine qThen ?_
    refine stSeq ?_
    refine reg ?_
    refine li rfl (opVal (.string (strOf one)) rfl (by kernel_rfl) (rMove rfl rfl) ?_)
    refine li rfl ?_
    refine opNew (v := fun b => .slice (some ⟨b, 0, none⟩) 1 1) 9 [(.string (strOf one))] rfl (by kernel_rfl) (fun _ => by kernel_rfl) (fun b110 => ?_)
    refine li rfl ?_
    refine opNew (v := fun b => .slice (some ⟨b, 0, none⟩) 0 0) 9 [] rfl (by kernel_rfl) (fun _ => by kernel_rfl) (fun b111 => ?_)
    refine li rfl (opVal (.slice (some ⟨b110, 0, none⟩) (1) (1)) rfl (by kernel_rfl) (rAssign rfl rfl) ?_)
    refine li rfl (opVal (.slice (some ⟨b111, 0, none⟩) (0) (0)) rfl (by kernel_rfl) (rAssign rfl rfl) ?_)
    refine liNil ?_
    refine qThen ?_
    refine stSeq ?_
    refine stSeq ?_
    refine reg ?_
    refine li rfl (opVal (.bool true) rfl (by kernel_rfl) (rMove rfl rfl) ?_)
    refine li rfl (opVal (.bool true) rfl (by kernel_rfl) (rMove rfl rfl) ?_)
    refine liGo rfl rfl (opVal (.bool false) rfl (by kernel_rfl) (rMove rfl rfl) ?_)
    refine li rfl (opVal (.bool false) rfl (by kernel_rfl) (rClosed fun _ => by kernel_rfl) ?_)
    refine liNil ?_
    refine qThen ?_
    refine stFalse rfl ?_
    refine stSkip ?_
    refine qThen ?_
    refine stSeq ?_
    refine stSeq ?_
    refine reg ?_
    refine li rfl (opVal (.bool true) rfl (by kernel_rfl) (rMove rfl rfl) ?_)
    refine li rfl (opVal (.bool true) rfl (by kernel_rfl) (rMove rfl rfl) ?_)
    refine liGo rfl rfl (opVal (.bool false) rfl (by kernel_rfl) (rMove rfl rfl) ?_)
    refine liGo rfl rfl (opVal (.bool true) rfl (by kernel_rfl) (rClosed fun _ => by kernel_rfl) ?_)
    refine li rfl (opVal (.bool true) rfl (by kernel_rfl) (rClosed fun _ => by kernel_rfl) ?_)
    refine liNil ?_
    refine qThen ?_
    refine stTrue rfl ?_
    refine stSeq ?_
    refine reg ?_
    refine li rfl (opVal (.pointer (some ⟨bt1, 0, none⟩)) rfl (by kernel_rfl) (rMove rfl rfl) ?_)
    refine li rfl (opVal (.string (strOf two)) rfl (by kernel_rfl) (rMove rfl rfl) ?_)
    refine li rfl ?_
    refine opCall 22 #[(.pointer (some ⟨bt1, 0, none⟩)), (.string (strOf two))] rfl (by kernel_rfl) (fun _ => by kernel_rfl) (fun w hM => ?_)
    refine (insert_any bt1 bc1 n [] (X.change one 1) two w (HV.out.mm hM) (hM.at (i := 0) rfl) h2).mono ?_
    rintro e w' ⟨rfl, hf, ht⟩
    have hM' := hM.swapTab 0 rfl hf ht
    refine ⟨_, _, rfl, hM', ?_⟩
    clear hM hM' hf ht
    refine liNil ?_
    refine qThen ?_
    refine reg ?_
    refine li rfl (opVal (.string (strOf one)) rfl (by kernel_rfl) (rMove rfl rfl) ?_)
    refine li rfl (opVal (.string (strOf two)) rfl (by kernel_rfl) (rMove rfl rfl) ?_)
    refine li rfl (opVal (.string (strOf (minB one two))) rfl (by kernel_rfl) (rMinS rfl rfl rfl) ?_)
    refine li rfl (opVal (.string (strOf one)) rfl (by kernel_rfl) (rMove rfl rfl) ?_)
    refine li rfl (opVal (.string (strOf two)) rfl (by kernel_rfl) (rMove rfl rfl) ?_)
    refine li rfl (opVal (.string (strOf (maxB one two))) rfl (by kernel_rfl) (rMaxS rfl rfl rfl) ?_)
    refine li rfl ?_
    refine opNew (v := fun b => .slice (some ⟨b, 0, none⟩) 2 2) 9 [(.string (strOf (minB one two))), (.string (strOf (maxB one two)))] rfl (by kernel_rfl) (fun _ => by kernel_rfl) (fun b135 => ?_)
    refine li rfl (opVal (.slice (some ⟨b135, 0, none⟩) (2) (2)) rfl (by kernel_rfl) (rAssign rfl rfl) ?_)
    refine liNil ?_
    refine qThen ?_
    refine stSeq ?_
    refine reg ?_
    refine li rfl (opVal (.pointer (some ⟨bt1, 0, none⟩)) rfl (by kernel_rfl) (rMove rfl rfl) ?_)
    refine li rfl (opVal (.pointer (some ⟨bt2, 0, none⟩)) rfl (by kernel_rfl) (rMove rfl rfl) ?_)
    refine li rfl ?_
    refine opCall 25 #[(.pointer (some ⟨bt1, 0, none⟩)), (.pointer (some ⟨bt2, 0, none⟩))] rfl (by kernel_rfl) (fun _ => by kernel_rfl) (fun w hM => ?_)
    refine (by have h := subtract_ok _ _ _ _ _ _ _ _ ((X.change one 1).change two 1) X w (hM.at (i := 0) rfl) (hM.at (i := 1) rfl) hsl hss; rw [HTD.out] at h; exact h : Calls _ _ _ w fun e w' => ∃ btr bcr capr restr, e = .returned (.tuple #[Value.pointer (some ⟨btr, 0, none⟩), Value.int .i64 0]) ∧ Mm w [] [cTab btr bcr capr restr (((BT.new n seed).change one 1).change two 1)] w').mono ?_
    rintro e w' ⟨bt3, bc3, cap3, rest3, rfl, hP⟩
    have hM' := hM.lift hP
    refine ⟨_, _, rfl, hM', ?_⟩
    clear hM hM' hP
    refine li rfl (opVal (.tuple #[(.pointer (some ⟨bt3, 0, none⟩)), (.int .i64 0)]) rfl (by kernel_rfl) (rMove rfl rfl) ?_)
    refine li rfl (opVal (.pointer (some ⟨bt3, 0, none⟩)) rfl (by kernel_rfl) (rClosed fun _ => by kernel_rfl) ?_)
    refine li rfl (opVal (.int .i64 0) rfl (by kernel_rfl) (rClosed fun _ => by kernel_rfl) ?_)
    refine li rfl (opVal (.pointer (some ⟨bt3, 0, none⟩)) rfl (by kernel_rfl) (rAssign rfl rfl) ?_)
    refine li rfl (opVal (.int .i64 0) rfl (by kernel_rfl) (rAssign rfl rfl) ?_)
    refine liNil ?_
    refine qThen ?_
    refine stSeq ?_
    refine stSeq ?_
    refine reg ?_
    refine li rfl (opVal (.int .i64 0) rfl (by kernel_rfl) (rMove rfl rfl) ?_)
    refine li rfl (opVal (.bool false) rfl (by kernel_rfl) (rClosed fun _ => by kernel_rfl) ?_)
    refine li rfl (opVal (.bool false) rfl (by kernel_rfl) (rMove rfl rfl) ?_)
    refine liGo rfl rfl (opVal (.pointer (some ⟨bt3, 0, none⟩)) rfl (by kernel_rfl) (rMove rfl rfl) ?_)
    refine liGo rfl rfl (opVal (.bool false) rfl (by kernel_rfl) (rClosed fun _ => by kernel_rfl) ?_)
    refine li rfl (opVal (.bool false) rfl (by kernel_rfl) (rClosed fun _ => by kernel_rfl) ?_)
    refine liNil ?_
    refine qThen ?_
    refine stFalse rfl ?_
    refine stSkip ?_
    refine qThen ?_
    refine stSeq ?_
    refine reg ?_
    refine li rfl (opVal (.pointer (some ⟨bt3, 0, none⟩)) rfl (by kernel_rfl) (rMove rfl rfl) ?_)
    refine li rfl ?_
    refine opCallB 26 #[(.pointer (some ⟨bt3, 0, none⟩))] rfl (by kernel_rfl) (fun _ => by kernel_rfl) (fun w hM => ?_)
    refine (keys_some hkey (HV.out.mm hM) (hM.at (i := 7) rfl)).mono ?_
    rintro e w1 ⟨Aa, ca, Ab, cb, rfl, hf, hra, hrb⟩
    have hM1 := hM.fr0 hf
    refine ⟨_, w1, [], [], rfl, Mm.start w1 [], ?_⟩
    have HF1 := Lib.hid hM1.fr
    have HV1 : Hid (Vars w1) := HV.out.mm hM1
    have HA := Lib.hid hra
    have HB := Lib.hid hrb
    have HAD : Hid (At w1 b135 9 [(.string (strOf (minB one two))), (.string (strOf (maxB one two)))]) := hM1.at (i := 6) rfl
    have HRM : Hid (At w1 b111 9 []) := hM1.at (i := 5) rfl
    clear hM hM1 hf hra hrb
    refine li rfl (opVal (.tuple #[(.slice Aa (([minB one two, maxB one two]).length) (ca)), (.slice Ab ((([] : List (List UInt8))).length) (cb)), (.int .i64 0)]) rfl (by kernel_rfl) (rMove rfl rfl) ?_)
    refine li rfl (opVal (.slice Aa (([minB one two, maxB one two]).length) (ca)) rfl (by kernel_rfl) (rClosed fun _ => by kernel_rfl) ?_)
    refine li rfl (opVal (.slice Ab ((([] : List (List UInt8))).length) (cb)) rfl (by kernel_rfl) (rClosed fun _ => by kernel_rfl) ?_)
    refine li rfl (opVal (.int .i64 0) rfl (by kernel_rfl) (rClosed fun _ => by kernel_rfl) ?_)
    refine li rfl (opVal (.slice Aa (([minB one two, maxB one two]).length) (ca)) rfl (by kernel_rfl) (rAssign rfl rfl) ?_)
    refine li rfl (opVal (.slice Ab ((([] : List (List UInt8))).length) (cb)) rfl (by kernel_rfl) (rAssign rfl rfl) ?_)
    refine li rfl (opVal (.int .i64 0) rfl (by kernel_rfl) (rAssign rfl rfl) ?_)
    refine liNil ?_
    refine qThen ?_
    refine stSeq ?_
    refine stSeq ?_
    refine reg ?_
    refine li rfl (opVal (.bool true) rfl (by kernel_rfl) (rMove rfl rfl) ?_)
    refine li rfl (opVal (.bool true) rfl (by kernel_rfl) (rMove rfl rfl) ?_)
    refine liGo rfl rfl (opVal (.int .i64 ((n : Nat) : Int)) rfl (by kernel_rfl) (rMove rfl rfl) ?_)
    refine liGo rfl rfl (opVal (.int .u64 ((seed : Nat) : Int)) rfl (by kernel_rfl) (rMove rfl rfl) ?_)
    refine liGo rfl rfl (opVal (.string (strOf one)) rfl (by kernel_rfl) (rMove rfl rfl) ?_)
    refine liGo rfl rfl ?_
    refine opCallB 20 #[(.int .i64 ((n : Nat) : Int)), (.int .u64 ((seed : Nat) : Int)), (.string (strOf one))] rfl (by kernel_rfl) (fun _ => by kernel_rfl) (fun w hM => ?_)
    refine (refPlaces_any n seed one w hm (by omega)).mono ?_
    rintro e w2 ⟨A2, c2, rfl, hf, hra2⟩
    have hM1 := hM.fr0 hf
    refine ⟨_, w2, [], [], rfl, Mm.start w2 [], ?_⟩
    have HF2 : Hid (Fr [] w1 w2) := hM1.fr
    have HV2 : Hid (Vars w2) := HV1.out.mm hM1
    have HP2 := Lib.hid hra2
    have HA2 : Hid (RowIn w2 Aa (([minB one two, maxB one two]).map S8v)) := HA.out.fr0 hM1.fr
    have HB2 : Hid (RowIn w2 Ab ((([] : List (List UInt8))).map S8v)) := HB.out.fr0 hM1.fr
    have HAD2 := Lib.hid (HAD.out.fr hM1.fr (by simp))
    have HRM2 := Lib.hid (HRM.out.fr hM1.fr (by simp))
    clear hM hM1 hf hra2
    refine liGo rfl rfl (opVal (.int .i64 ((n : Nat) : Int)) rfl (by kernel_rfl) (rMove rfl rfl) ?_)
    refine liGo rfl rfl (opVal (.int .u64 ((seed : Nat) : Int)) rfl (by kernel_rfl) (rMove rfl rfl) ?_)
    refine liGo rfl rfl (opVal (.string (strOf two)) rfl (by kernel_rfl) (rMove rfl rfl) ?_)
    refine liGo rfl rfl ?_
    refine opCallB 20 #[(.int .i64 ((n : Nat) : Int)), (.int .u64 ((seed : Nat) : Int)), (.string (strOf two))] rfl (by kernel_rfl) (fun _ => by kernel_rfl) (fun w hM => ?_)
    refine (refPlaces_any n seed two w hm (by omega)).mono ?_
    rintro e w3 ⟨A3, c3, rfl, hf, hra3⟩
    have hM1 := hM.fr0 hf
    refine ⟨_, w3, [], [], rfl, Mm.start w3 [], ?_⟩
    have HF3 : Hid (Fr [] w2 w3) := hM1.fr
    have HV3 : Hid (Vars w3) := HV2.out.mm hM1
    have HP3 := Lib.hid hra3
    have HP23 : Hid (RowIn w3 A2 ((placesL n seed one).map (Value.int .i64))) := HP2.out.fr0 hM1.fr
    have HA3 : Hid (RowIn w3 Aa (([minB one two, maxB one two]).map S8v)) := HA2.out.fr0 hM1.fr
    have HB3 : Hid (RowIn w3 Ab ((([] : List (List UInt8))).map S8v)) := HB2.out.fr0 hM1.fr
    have HAD3 := Lib.hid (HAD2.out.fr hM1.fr (by simp))
    have HRM3 := Lib.hid (HRM2.out.fr hM1.fr (by simp))
    clear hM hM1 hf hra3
    refine liGo rfl rfl ?_
    refine opCall 19 #[(.slice A2 ((placesL n seed one).length) (c2)), (.slice A3 ((placesL n seed two).length) (c3))] rfl (by kernel_rfl) (fun _ => by kernel_rfl) (fun w hM => ?_)
    refine ((by have h := ints_any A2 A3 c2 c3 (placesL n seed one) (placesL n seed two) w (HP23.out.fr0 hM.fr) (HP3.out.fr0 hM.fr) (by simp [placesL]) (by simp [placesL]); rw [decide_eq_false hpl] at h; exact h : Calls _ _ _ w fun e w' => e = .returned (.bool false) ∧ Fr [] w w')).mono ?_
    rintro e w' ⟨rfl, hf⟩
    have hM' := hM.fr0 hf
    refine ⟨(.bool false), _, rfl, hM', ?_⟩
    clear hM hM' hf
    refine li rfl (opVal (.bool false) rfl (by kernel_rfl) (rClosed fun _ => by kernel_rfl) ?_)
    refine liNil ?_
    refine qThen ?_
    refine stFalse rfl ?_
    refine stSkip ?_
    refine qThen ?_
    refine stSeq ?_
    refine reg ?_
    refine li rfl ?_
    refine opCall 13 #[] rfl (by kernel_rfl) (fun _ => by kernel_rfl) (fun w hM => ?_)
    refine (awake_any w (HV3.out.mm hM)).mono ?_
    rintro e w' ⟨rfl, hf⟩
    have hM' := hM.fr0 hf
    refine ⟨(.bool true), _, rfl, hM', ?_⟩
    clear hM hM' hf
    refine li rfl (opVal (.bool true) rfl (by kernel_rfl) (rMove rfl rfl) ?_)
    refine liGo rfl rfl (opVal (.int .i64 0) rfl (by kernel_rfl) (rMove rfl rfl) ?_)
    refine liGo rfl rfl (opVal (.bool true) rfl (by kernel_rfl) (rClosed fun _ => by kernel_rfl) ?_)
    refine li rfl (opVal (.bool true) rfl (by kernel_rfl) (rClosed fun _ => by kernel_rfl) ?_)
    refine li rfl (opVal (.bool true) rfl (by kernel_rfl) (rMove rfl rfl) ?_)
    refine liGo rfl rfl (opVal (.slice Aa (([minB one two, maxB one two]).length) (ca)) rfl (by kernel_rfl) (rMove rfl rfl) ?_)
    refine liGo rfl rfl (opVal (.slice (some ⟨b135, 0, none⟩) (2) (2)) rfl (by kernel_rfl) (rMove rfl rfl) ?_)
    refine liGo rfl rfl ?_
    refine opCall 27 #[(.slice Aa (([minB one two, maxB one two]).length) (ca)), (.slice (some ⟨b135, 0, none⟩) (2) (2))] rfl (by kernel_rfl) (fun _ => by kernel_rfl) (fun w hM => ?_)
    refine ((by have h := same_any Aa _ ca 2 ([minB one two, maxB one two]) ([minB one two, maxB one two])  w (HA3.out.fr0 hM.fr) ((rowIn_at HAD3.out rfl).fr0 hM.fr) (by simp) (by simp); rw [decide_eq_true rfl] at h; exact h : Calls _ _ _ w fun e w' => e = .returned (.bool true) ∧ Fr [] w w')).mono ?_
    rintro e w' ⟨rfl, hf⟩
    have hM' := hM.fr0 hf
    refine ⟨(.bool true), _, rfl, hM', ?_⟩
    clear hM hM' hf
    refine li rfl (opVal (.bool true) rfl (by kernel_rfl) (rClosed fun _ => by kernel_rfl) ?_)
    refine li rfl (opVal (.bool true) rfl (by kernel_rfl) (rMove rfl rfl) ?_)
    refine liGo rfl rfl (opVal (.slice Ab ((([] : List (List UInt8))).length) (cb)) rfl (by kernel_rfl) (rMove rfl rfl) ?_)
    refine liGo rfl rfl (opVal (.slice (some ⟨b111, 0, none⟩) (0) (0)) rfl (by kernel_rfl) (rMove rfl rfl) ?_)
    refine liGo rfl rfl ?_
    refine opCall 27 #[(.slice Ab ((([] : List (List UInt8))).length) (cb)), (.slice (some ⟨b111, 0, none⟩) (0) (0))] rfl (by kernel_rfl) (fun _ => by kernel_rfl) (fun w hM => ?_)
    refine ((by have h := same_any Ab _ cb 0 (([] : List (List UInt8))) (([] : List (List UInt8)))  w (HB3.out.fr0 hM.fr) ((rowIn_at HRM3.out rfl).fr0 hM.fr) (by simp) (by simp); rw [decide_eq_true rfl] at h; exact h : Calls _ _ _ w fun e w' => e = .returned (.bool true) ∧ Fr [] w w')).mono ?_
    rintro e w' ⟨rfl, hf⟩
    have hM' := hM.fr0 hf
    refine ⟨(.bool true), _, rfl, hM', ?_⟩
    clear hM hM' hf
    refine li rfl (opVal (.bool true) rfl (by kernel_rfl) (rClosed fun _ => by kernel_rfl) ?_)
    refine li rfl (opVal (.bool true) rfl (by kernel_rfl) (rAssign rfl rfl) ?_)
    refine liNil ?_
    refine qThen ?_
    refine stRet ?_
    refine stEnd [(.bool true)] rfl ⟨rfl, trivial⟩ (fun w hM => ?_)
    exact ⟨rfl, ((HF1.out.trans HF2.out).trans HF3.out).trans hM.fr⟩

set_option maxRecDepth 100000 in
set_option maxHeartbeats 4000000 in
theorem lawFew_twoN (n seed : Nat) (A : Option Addr) (c : Nat) (cm : List UInt8) (x y : Nat) (w : World) (hv : Vars w) (hm : isSz (n : Int) = true) (h60 : n ≤ 60) (h30 : cm.length ≤ 30) (hu : U64 seed) (hr : RowIn w A (B8 cm)) (one two : List UInt8) (ho : one = sha (msg 1 x)) (ht : two = sha (msg 2 y)) (h1 : one.length = 32) (h2 : two.length = 32) (hne : one ≠ two) (hpl : placesL n seed one = placesL n seed two) :
    Calls Tryd.prog 5 #[Value.int .i64 (n : Int), .int .u64 (seed : Int), .slice A cm.length c, .int .u16 (x : Int), .int .u16 (y : Int), Value.bool true, Value.bool false] w fun e w' => e = .returned (.bool true) ∧ Fr [] w w' := by
  have HV := Lib.hid hv
  clear hv
  have HU := Lib.hid hu
  have HR := Lib.hid hr
  have HO := Lib.hid ho
  have HT2 := Lib.hid ht
  clear hu hr ho ht
  obtain ⟨X, HX⟩ : ∃ X, Hid (runAll (BT.new n seed) (opsT cm) = X) := ⟨_, rfl⟩
  have hXo : X.Ok := by rw [← HX.out]; exact (BT.Ok.new n seed HU.out).run _
  have hXl : X.cells.length = n := by rw [← HX.out, runAll_len, new_len]
  have hXs : X.seed = seed := by rw [← HX.out, runAll_seed]; rfl
  have hsl : ((X.change one 1).change two 1).cells.length = X.cells.length := by simp only [change_len]
  have hss : ((X.change one 1).change two 1).seed = X.seed := by simp only [change_seed]
  have HTD : Hid (((X.change one 1).change two 1).sub X = ((BT.new n seed).change one 1).change two 1) := by show _ = _; rw [sub_change _ _ _ _ (by rw [change_len]), sub_change _ _ _ _ rfl, sub_self hXo, hXl, hXs]
  have hkey : (((BT.new n seed).change one 1).change two 1).keys = none := few_none (isSz_bounds hm).1 h1 h2 hne (.inl rfl) (places_eq hpl)
  refine stEnter (args := [Value.int .i64 (n : Int), .int .u64 (seed : Int), .slice A cm.length c, .int .u16 (x : Int), .int .u16 (y : Int), Value.bool true, Value.bool false]) [] Tryd.func5 rfl 196 rfl [(0, Value.int .i64 (n : Int)), (1, .int .u64 (seed : Int)), (2, .slice A cm.length c), (3, .int .u16 (x : Int)), (4, .int .u16 (y : Int)), (5, Value.bool true), (6, Value.bool false)] ⟨rfl, rfl, rfl, rfl, rfl, rfl, rfl, trivial⟩ [] (Mm.start w []) ?_
  refine stSeq ?_
  refine reg ?_
  refine li rfl (opVal (.bool false) rfl (by kernel_rfl) (rAssign rfl rfl) ?_)
  refine liNil ?_
  refine qThen ?_
  refine stSeq ?_
  refine stSeq ?_
  refine reg ?_
  refine li rfl (opVal (.int .i64 ((n : Nat) : Int)) rfl (by kernel_rfl) (rMove rfl rfl) ?_)
  refine li rfl ?_
  refine opCall 16 #[(.int .i64 ((n : Nat) : Int))] rfl (by kernel_rfl) (fun _ => by kernel_rfl) (fun w hM => ?_)
  refine ((by rw [← hm]; exact valid_any (n : Int) w : Calls _ _ _ w fun e w' => e = .returned (.bool true) ∧ w = w')).mono ?_
  rintro e w' ⟨rfl, rfl⟩
  refine ⟨(.bool true), _, rfl, hM, ?_⟩
  clear hM
  refine li rfl (opVal (.bool false) rfl (by kernel_rfl) (rClosed fun _ => by kernel_rfl) ?_)
  refine li rfl (opVal (.bool false) rfl (by kernel_rfl) (rMove rfl rfl) ?_)
  refine liGo rfl rfl (opVal (.int .i64 ((n : Nat) : Int)) rfl (by kernel_rfl) (rMove rfl rfl) ?_)
  refine liGo rfl rfl (opVal (.bool (decide (((n : Nat) : Int) > 60))) rfl (by kernel_rfl) (rClosed fun _ => by kernel_rfl) ?_)
  refine li rfl (opVal (.bool (decide (((n : Nat) : Int) > 60))) rfl (by kernel_rfl) (rClosed fun _ => by kernel_rfl) ?_)
  refine li rfl (opVal (.bool (decide (((n : Nat) : Int) > 60))) rfl (by kernel_rfl) (rMove rfl rfl) ?_)
  refine St.known 36 (b' := false) rfl (by simp; omega) ?_
  refine liGo rfl rfl (opVal (.slice A (cm.length) (c)) rfl (by kernel_rfl) (rMove rfl rfl) ?_)
  refine liGo rfl rfl (opVal (.int .i64 ((cm.length : Nat) : Int)) rfl (by kernel_rfl) (rClosed fun _ => by kernel_rfl) ?_)
  refine liGo rfl rfl (opVal (.bool (decide (((cm.length : Nat) : Int) > 30))) rfl (by kernel_rfl) (rClosed fun _ => by kernel_rfl) ?_)
  refine li rfl (opVal (.bool (decide (((cm.length : Nat) : Int) > 30))) rfl (by kernel_rfl) (rClosed fun _ => by kernel_rfl) ?_)
  refine liNil ?_
  refine qThen ?_
  refine stFalseK rfl (by simp; omega) ?_
  refine stSkip ?_
  refine qThen ?_
  refine stSeq ?_
  refine reg ?_
  refine li rfl (opVal (.int .i64 ((n : Nat) : Int)) rfl (by kernel_rfl) (rMove rfl rfl) ?_)
  refine li rfl (opVal (.int .u64 ((seed : Nat) : Int)) rfl (by kernel_rfl) (rMove rfl rfl) ?_)
  refine li rfl ?_
  refine opCall 21 #[(.int .i64 ((n : Nat) : Int)), (.int .u64 ((seed : Nat) : Int))] rfl (by kernel_rfl) (fun _ => by kernel_rfl) (fun w hM => ?_)
  refine (blNew_any n seed w hm HU.out).mono ?_
  rintro e w' ⟨rfl, hf, ht⟩
  obtain ⟨bt1, hbt⟩ : ∃ bt, bt = w.heap.size + 1 := ⟨_, rfl⟩
  obtain ⟨bc1, hbc⟩ : ∃ bc, bc = w.heap.size := ⟨_, rfl⟩
  rw [← hbt] at ht ⊢
  rw [← hbc] at ht
  have hM' := hM.pushTab hf ht (by omega) (by omega)
  refine ⟨_, _, rfl, hM', ?_⟩
  clear hM hM' hf ht hbt hbc
  refine li rfl (opVal (.tuple #[(.pointer (some ⟨bt1, 0, none⟩)), (.int .i64 0)]) rfl (by kernel_rfl) (rMove rfl rfl) ?_)
  refine li rfl (opVal (.pointer (some ⟨bt1, 0, none⟩)) rfl (by kernel_rfl) (rClosed fun _ => by kernel_rfl) ?_)
  refine li rfl (opVal (.int .i64 0) rfl (by kernel_rfl) (rClosed fun _ => by kernel_rfl) ?_)
  refine li rfl (opVal (.pointer (some ⟨bt1, 0, none⟩)) rfl (by kernel_rfl) (rAssign rfl rfl) ?_)
  refine li rfl (opVal (.int .i64 0) rfl (by kernel_rfl) (rAssign rfl rfl) ?_)
  refine liNil ?_
  refine qThen ?_
  refine stSeq ?_
  refine reg ?_
  refine li rfl (opVal (.int .i64 ((n : Nat) : Int)) rfl (by kernel_rfl) (rMove rfl rfl) ?_)
  refine li rfl (opVal (.int .u64 ((seed : Nat) : Int)) rfl (by kernel_rfl) (rMove rfl rfl) ?_)
  refine li rfl ?_
  refine opCall 21 #[(.int .i64 ((n : Nat) : Int)), (.int .u64 ((seed : Nat) : Int))] rfl (by kernel_rfl) (fun _ => by kernel_rfl) (fun w hM => ?_)
  refine (blNew_any n seed w hm HU.out).mono ?_
  rintro e w' ⟨rfl, hf, ht⟩
  obtain ⟨bt2, hbt⟩ : ∃ bt, bt = w.heap.size + 1 := ⟨_, rfl⟩
  obtain ⟨bc2, hbc⟩ : ∃ bc, bc = w.heap.size := ⟨_, rfl⟩
  rw [← hbt] at ht ⊢
  rw [← hbc] at ht
  have hM' := hM.pushTab hf ht (by omega) (by omega)
  refine ⟨_, _, rfl, hM', ?_⟩
  clear hM hM' hf ht hbt hbc
  refine li rfl (opVal (.tuple #[(.pointer (some ⟨bt2, 0, none⟩)), (.int .i64 0)]) rfl (by kernel_rfl) (rMove rfl rfl) ?_)
  refine li rfl (opVal (.pointer (some ⟨bt2, 0, none⟩)) rfl (by kernel_rfl) (rClosed fun _ => by kernel_rfl) ?_)
  refine li rfl (opVal (.int .i64 0) rfl (by kernel_rfl) (rClosed fun _ => by kernel_rfl) ?_)
  refine li rfl (opVal (.pointer (some ⟨bt2, 0, none⟩)) rfl (by kernel_rfl) (rAssign rfl rfl) ?_)
  refine li rfl (opVal (.int .i64 0) rfl (by kernel_rfl) (rAssign rfl rfl) ?_)
  refine liNil ?_
  refine qThen ?_
  refine stSeq ?_
  refine stSeq ?_
  refine reg ?_
  refine li rfl (opVal (.int .i64 0) rfl (by kernel_rfl) (rMove rfl rfl) ?_)
  refine li rfl (opVal (.bool false) rfl (by kernel_rfl) (rClosed fun _ => by kernel_rfl) ?_)
  refine li rfl (opVal (.bool false) rfl (by kernel_rfl) (rMove rfl rfl) ?_)
  refine liGo rfl rfl (opVal (.int .i64 0) rfl (by kernel_rfl) (rMove rfl rfl) ?_)
  refine liGo rfl rfl (opVal (.bool false) rfl (by kernel_rfl) (rClosed fun _ => by kernel_rfl) ?_)
  refine li rfl (opVal (.bool false) rfl (by kernel_rfl) (rClosed fun _ => by kernel_rfl) ?_)
  refine li rfl (opVal (.bool false) rfl (by kernel_rfl) (rMove rfl rfl) ?_)
  refine liGo rfl rfl (opVal (.pointer (some ⟨bt1, 0, none⟩)) rfl (by kernel_rfl) (rMove rfl rfl) ?_)
  refine liGo rfl rfl (opVal (.bool false) rfl (by kernel_rfl) (rClosed fun _ => by kernel_rfl) ?_)
  refine li rfl (opVal (.bool false) rfl (by kernel_rfl) (rClosed fun _ => by kernel_rfl) ?_)
  refine li rfl (opVal (.bool false) rfl (by kernel_rfl) (rMove rfl rfl) ?_)
  refine liGo rfl rfl (opVal (.pointer (some ⟨bt2, 0, none⟩)) rfl (by kernel_rfl) (rMove rfl rfl) ?_)
  refine liGo rfl rfl (opVal (.bool false) rfl (by kernel_rfl) (rClosed fun _ => by kernel_rfl) ?_)
  refine li rfl (opVal (.bool false) rfl (by kernel_rfl) (rClosed fun _ => by kernel_rfl) ?_)
  refine liNil ?_
  refine qThen ?_
  refine stFalse rfl ?_
  refine stSkip ?_
  refine qThen ?_
  refine stSeq ?_
  refine stSeq ?_
  refine reg ?_
  refine li rfl (opVal (.int .i64 0) rfl (by kernel_rfl) (rAssign rfl rfl) ?_)
  refine liNil ?_
  refine qThen ?_
  refine stBlock ?_
  have e0 := runTo_zero (BT.new n seed) (opsT cm)
  have e1 := runTo_zero (BT.new n seed) (opsT cm).reverse
  refine stLoop (ι := Nat) (fun i => i ≤ cm.length) (fun i => cm.length - i) (fun i => [(0, (.int .i64 ((n : Nat) : Int))), (1, (.int .u64 ((seed : Nat) : Int))), (2, (.slice A (cm.length) (c))), (3, (.int .u16 ((x : Nat) : Int))), (4, (.int .u16 ((y : Nat) : Int))), (5, (.bool true)), (6, (.bool false)), (15, (.pointer (some ⟨bt1, 0, none⟩))), (17, (.pointer (some ⟨bt2, 0, none⟩))), (19, (.int .i64 ((i : Nat) : Int)))]) (fun i => [cTab bt1 bc1 n [] (runTo (BT.new n seed) (opsT cm) i), cTab bt2 bc2 n [] (runTo (BT.new n seed) (opsT cm).reverse i)]) 0 (Nat.zero_le _) ⟨rfl, rfl, rfl, rfl, rfl, rfl, rfl, rfl, rfl, rfl, trivial⟩ (fun w hM => by show Mm _ _ [cTab bt1 bc1 n [] (runTo (BT.new n seed) (opsT cm) 0), cTab bt2 bc2 n [] (runTo (BT.new n seed) (opsT cm).reverse 0)] w; rw [e0, e1]; exact hM) ?_
  intro i (hi : i ≤ cm.length)
  show St _ _ _ [(0, (.int .i64 ((n : Nat) : Int))), (1, (.int .u64 ((seed : Nat) : Int))), (2, (.slice A (cm.length) (c))), (3, (.int .u16 ((x : Nat) : Int))), (4, (.int .u16 ((y : Nat) : Int))), (5, (.bool true)), (6, (.bool false)), (15, (.pointer (some ⟨bt1, 0, none⟩))), (17, (.pointer (some ⟨bt2, 0, none⟩))), (19, (.int .i64 ((i : Nat) : Int)))] [cTab bt1 bc1 n [] (runTo (BT.new n seed) (opsT cm) i), cTab bt2 bc2 n [] (runTo (BT.new n seed) (opsT cm).reverse i)] _
  refine stSeq ?_
  refine stSeq ?_
  refine reg ?_
  refine li rfl (opVal (.int .i64 ((i : Nat) : Int)) rfl (by kernel_rfl) (rMove rfl rfl) ?_)
  refine li rfl (opVal (.slice A (cm.length) (c)) rfl (by kernel_rfl) (rMove rfl rfl) ?_)
  refine li rfl (opVal (.int .i64 ((cm.length : Nat) : Int)) rfl (by kernel_rfl) (rClosed fun _ => by kernel_rfl) ?_)
  refine li rfl (opVal (.bool (decide (((i : Nat) : Int) < ((cm.length : Nat) : Int)))) rfl (by kernel_rfl) (rClosed fun _ => by kernel_rfl) ?_)
  refine liNil ?_
  refine qThen ?_
  refine stCond rfl (fun hc71 => ?_) (fun hc71 => ?_)
  · have hd71 := of_decide_eq_true hc71
    have hlt : i < cm.length := by omega
    obtain ⟨b0, hb0⟩ : ∃ b, cm[i]? = some b := ⟨_, List.getElem?_eq_getElem hlt⟩
    obtain ⟨b1, hb1⟩ : ∃ b, cm[cm.length - 1 - i]? = some b := ⟨_, List.getElem?_eq_getElem (by omega)⟩
    have HST := Lib.hid (runTo_succ (BT.new n seed) (opsT_get hb0))
    have HSU := Lib.hid (runTo_succ (BT.new n seed) (opsU_get hlt hb1))
    obtain ⟨b, o, hA, hbl, hck0⟩ := HR.out i _ (by rw [B8_map, hb0]; rfl)
    obtain ⟨b', o', hA', _, hck1⟩ := HR.out (cm.length - 1 - i) _ (by rw [B8_map, hb1]; rfl)
    subst hA
    injection hA' with hA'
    injection hA' with hb' ho'
    subst hb' ho'
    obtain ⟨T, HTT⟩ : ∃ T, Hid (T = runTo (BT.new n seed) (opsT cm) i) := ⟨_, rfl⟩
    obtain ⟨U, HUU⟩ : ∃ U, Hid (U = runTo (BT.new n seed) (opsT cm).reverse i) := ⟨_, rfl⟩
    rw [← HTT.out] at HST ⊢
    rw [← HUU.out] at HSU ⊢
    refine stSkip ?_
    refine qThen ?_
    refine stSeq ?_
    refine stBlock ?_
    refine stSeq ?_
    refine reg ?_
    refine li rfl (opVal (.pointer (some ⟨bt1, 0, none⟩)) rfl (by kernel_rfl) (rMove rfl rfl) ?_)
    refine li rfl (opVal (.slice (some ⟨b, o, none⟩) (cm.length) (c)) rfl (by kernel_rfl) (rMove rfl rfl) ?_)
    refine li rfl (opVal (.int .i64 ((i : Nat) : Int)) rfl (by kernel_rfl) (rMove rfl rfl) ?_)
    refine li rfl (opVal (.pointer (some ⟨b, o + i, none⟩)) rfl (by kernel_rfl) (rIndexAddr1 (e := 5) rfl (by kernel_rfl) (by kernel_rfl) rfl rfl (by omega)) ?_)
    refine li rfl (opVal (.int .u8 ((b0.toNat : Nat) : Int)) rfl (by kernel_rfl) (rLoadW rfl rfl (by kernel_rfl) (fun w hM => hM.old hck0 (by simp))) ?_)
    refine li rfl ?_
    refine opCall 23 #[(.int .u8 ((b0.toNat : Nat) : Int))] rfl (by kernel_rfl) (fun _ => by kernel_rfl) (fun w hM => ?_)
    refine (keyOf_any b0 w).mono ?_
    rintro e w' ⟨rfl, hf⟩
    have hM' := hM.fr0 hf
    refine ⟨(.string (strOf (sha [b0]))), _, rfl, hM', ?_⟩
    clear hM hM' hf
    refine li rfl ?_
    refine opCall 22 #[(.pointer (some ⟨bt1, 0, none⟩)), (.string (strOf (sha [b0])))] rfl (by kernel_rfl) (fun _ => by kernel_rfl) (fun w hM => ?_)
    refine (insCall bt1 bc1 n [] T (sha [b0]) w (HV.out.mm hM) (hM.at (i := 0) rfl)).mono ?_
    rintro e w' ⟨rfl, hf, ht⟩
    have hM' := hM.swapTab 0 rfl hf ht
    refine ⟨_, _, rfl, hM', ?_⟩
    clear hM hM' hf ht
    refine liNil ?_
    refine qThen ?_
    refine reg ?_
    refine li rfl (opVal (.pointer (some ⟨bt2, 0, none⟩)) rfl (by kernel_rfl) (rMove rfl rfl) ?_)
    refine li rfl (opVal (.slice (some ⟨b, o, none⟩) (cm.length) (c)) rfl (by kernel_rfl) (rMove rfl rfl) ?_)
    refine li rfl (opVal (.slice (some ⟨b, o, none⟩) (cm.length) (c)) rfl (by kernel_rfl) (rMove rfl rfl) ?_)
    refine li rfl (opVal (.int .i64 ((cm.length : Nat) : Int)) rfl (by kernel_rfl) (rClosed fun _ => by kernel_rfl) ?_)
    refine li rfl (opVal (.int .i64 (((cm.length - 1) : Nat) : Int)) rfl (by kernel_rfl) (rSub _ rfl rfl rfl (by omega) (by omega) (by omega)) ?_)
    refine li rfl (opVal (.int .i64 ((i : Nat) : Int)) rfl (by kernel_rfl) (rMove rfl rfl) ?_)
    refine li rfl (opVal (.int .i64 (((cm.length - 1 - i) : Nat) : Int)) rfl (by kernel_rfl) (rSub _ rfl rfl rfl (by omega) (by omega) (by omega)) ?_)
    refine li rfl (opVal (.pointer (some ⟨b, o + (cm.length - 1 - i), none⟩)) rfl (by kernel_rfl) (rIndexAddr1 (e := 5) rfl (by kernel_rfl) (by kernel_rfl) rfl rfl (by omega)) ?_)
    refine li rfl (opVal (.int .u8 ((b1.toNat : Nat) : Int)) rfl (by kernel_rfl) (rLoadW rfl rfl (by kernel_rfl) (fun w hM => hM.old hck1 (by simp))) ?_)
    refine li rfl ?_
    refine opCall 23 #[(.int .u8 ((b1.toNat : Nat) : Int))] rfl (by kernel_rfl) (fun _ => by kernel_rfl) (fun w hM => ?_)
    refine (keyOf_any b1 w).mono ?_
    rintro e w' ⟨rfl, hf⟩
    have hM' := hM.fr0 hf
    refine ⟨(.string (strOf (sha [b1]))), _, rfl, hM', ?_⟩
    clear hM hM' hf
    refine li rfl ?_
    refine opCall 22 #[(.pointer (some ⟨bt2, 0, none⟩)), (.string (strOf (sha [b1])))] rfl (by kernel_rfl) (fun _ => by kernel_rfl) (fun w hM => ?_)
    refine (insCall bt2 bc2 n [] U (sha [b1]) w (HV.out.mm hM) (hM.at (i := 1) rfl)).mono ?_
    rintro e w' ⟨rfl, hf, ht⟩
    have hM' := hM.swapTab 1 rfl hf ht
    refine ⟨_, _, rfl, hM', ?_⟩
    clear hM hM' hf ht
    refine liNil ?_
    refine qBlock ?_
    refine qThen ?_
    refine reg ?_
    refine li rfl (opVal (.int .i64 ((i : Nat) : Int)) rfl (by kernel_rfl) (rMove rfl rfl) ?_)
    refine li rfl (opVal (.int .i64 ((i + 1 : Nat) : Int)) rfl (by kernel_rfl) (rAdd _ rfl rfl rfl (by omega) (by omega) (by omega)) ?_)
    refine li rfl (opVal (.int .i64 ((i + 1 : Nat) : Int)) rfl (by kernel_rfl) (rAssign rfl rfl) ?_)
    refine liNil ?_
    refine qThen ?_
    exact stAgain (i + 1) (by show _ ≤ _; omega) (by show cm.length - (i + 1) < cm.length - i; omega) ⟨rfl, rfl, rfl, rfl, rfl, rfl, rfl, rfl, rfl, rfl, trivial⟩ (fun w hM => by show Mm _ _ [cTab bt1 bc1 n [] (runTo (BT.new n seed) (opsT cm) (i + 1)), cTab bt2 bc2 n [] (runTo (BT.new n seed) (opsT cm).reverse (i + 1))] w; rw [HST.out, HSU.out]; exact hM)
  · have hd71 := of_decide_eq_false hc71
    obtain rfl : i = cm.length := by omega
    have hT := runTo_all (BT.new n seed) (opsT cm)
    have hUU := runTo_all (BT.new n seed) (opsT cm).reverse
    rw [opsT_len] at hT
    rw [List.length_reverse, opsT_len, run_reverse] at hUU
    rw [hT, hUU, HX.out]
    refine stExit ?_
    refine qThenX ?_
    refine qThenX ?_
    refine qBlockX ?_
    refine qThen ?_
    refine stSeq ?_
    refine reg ?_
    refine li rfl (opVal (.int .u16 ((x : Nat) : Int)) rfl (by kernel_rfl) (rMove rfl rfl) ?_)
    refine li rfl (opVal (.int .u8 (((UInt8.ofNat x).toNat : Nat) : Int)) rfl (by kernel_rfl) (rIntC _ (fun _ => by kernel_rfl) rfl rfl (wrap_u8 x)) ?_)
    refine li rfl (opVal (.int .u16 ((x : Nat) : Int)) rfl (by kernel_rfl) (rMove rfl rfl) ?_)
    refine li rfl (opVal (.int .u16 (((x / 256) : Nat) : Int)) rfl (by kernel_rfl) (rShr8 rfl rfl rfl) ?_)
    refine li rfl (opVal (.int .u8 (((UInt8.ofNat (x / 256)).toNat : Nat) : Int)) rfl (by kernel_rfl) (rIntC _ (fun _ => by kernel_rfl) rfl rfl (wrap_u8 (x / 256))) ?_)
    refine li rfl ?_
    refine opNew (v := fun b => .slice (some ⟨b, 0, none⟩) 3 3) 5 [(.int .u8 1), (.int .u8 (((UInt8.ofNat x).toNat : Nat) : Int)), (.int .u8 (((UInt8.ofNat (x / 256)).toNat : Nat) : Int))] rfl (by kernel_rfl) (fun _ => by kernel_rfl) (fun b97 => ?_)
    refine li rfl ?_
    refine opCall 24 #[(.slice (some ⟨b97, 0, none⟩) (3) (3))] rfl (by kernel_rfl) (fun _ => by kernel_rfl) (fun w hM => ?_)
    refine (by have h := refSum_any (some ⟨b97, 0, none⟩) 3 (msg 1 x) w (rowAt' (i := 2) rfl (fun j v h => by rw [Nat.zero_add]; exact h) w hM) (by simp [msg]); rw [← HO.out] at h; exact h : Calls _ _ _ w fun e w' => e = .returned (.string (strOf one)) ∧ Fr [] w w').mono ?_
    rintro e w' ⟨rfl, hf⟩
    have hM' := hM.fr0 hf
    refine ⟨_, _, rfl, hM', ?_⟩
    clear hM hM' hf
    refine li rfl (opVal (.int .u16 ((y : Nat) : Int)) rfl (by kernel_rfl) (rMove rfl rfl) ?_)
    refine li rfl (opVal (.int .u8 (((UInt8.ofNat y).toNat : Nat) : Int)) rfl (by kernel_rfl) (rIntC _ (fun _ => by kernel_rfl) rfl rfl (wrap_u8 y)) ?_)
    refine li rfl (opVal (.int .u16 ((y : Nat) : Int)) rfl (by kernel_rfl) (rMove rfl rfl) ?_)
    refine li rfl (opVal (.int .u16 (((y / 256) : Nat) : Int)) rfl (by kernel_rfl) (rShr8 rfl rfl rfl) ?_)
    refine li rfl (opVal (.int .u8 (((UInt8.ofNat (y / 256)).toNat : Nat) : Int)) rfl (by kernel_rfl) (rIntC _ (fun _ => by kernel_rfl) rfl rfl (wrap_u8 (y / 256))) ?_)
    refine li rfl ?_
    refine opNew (v := fun b => .slice (some ⟨b, 0, none⟩) 3 3) 5 [(.int .u8 2), (.int .u8 (((UInt8.ofNat y).toNat : Nat) : Int)), (.int .u8 (((UInt8.ofNat (y / 256)).toNat : Nat) : Int))] rfl (by kernel_rfl) (fun _ => by kernel_rfl) (fun b104 => ?_)
    refine li rfl ?_
    refine opCall 24 #[(.slice (some ⟨b104, 0, none⟩) (3) (3))] rfl (by kernel_rfl) (fun _ => by kernel_rfl) (fun w hM => ?_)
    refine (by have h := refSum_any (some ⟨b104, 0, none⟩) 3 (msg 2 y) w (rowAt' (i := 3) rfl (fun j v h => by rw [Nat.zero_add]; exact h) w hM) (by simp [msg]); rw [← HT2.out] at h; exact h : Calls _ _ _ w fun e w' => e = .returned (.string (strOf two)) ∧ Fr [] w w').mono ?_
    rintro e w' ⟨rfl, hf⟩
    have hM' := hM.fr0 hf
    refine ⟨_, _, rfl, hM', ?_⟩
    clear hM hM' hf
    refine li rfl (opVal (.string (strOf one)) rfl (by kernel_rfl) (rAssign rfl rfl) ?_)
    refine li rfl (opVal (.string (strOf two)) rfl (by kernel_rfl) (rAssign rfl rfl) ?_)
    refine liNil ?_
    refine qThen ?_
    refine stSeq ?_
    refine reg ?_
    refine li rfl (opVal (.pointer (some ⟨bt1, 0, none⟩)) rfl (by kernel_rfl) (rMove rfl rfl) ?_)
    refine li rfl (opVal (.string (strOf one)) rfl (by kernel_rfl) (rMove rfl rfl) ?_)
    refine li rfl ?_
    refine opCall 22 #[(.pointer (some ⟨bt1, 0, none⟩)), (.string (strOf one))] rfl (by kernel_rfl) (fun _ => by kernel_rfl) (fun w hM => ?_)
    refine (insert_any bt1 bc1 n [] X one w (HV.out.mm hM) (hM.at (i := 0) rfl) h1).mono ?_
    rintro e w' ⟨rfl, hf, ht⟩
    have hM' := hM.swapTab 0 rfl hf ht
    refine ⟨_, _, rfl, hM', ?_⟩
    clear hM hM' hf ht
    refine liNil ?_
    refine qThen ?_
    refine stSeq ?_
    refine reg ?_
    refine li rfl (opVal (.string (strOf one)) rfl (by kernel_rfl) (rMove rfl rfl) ?_)
    refine li rfl ?_
    refine opNew (v := fun b => .slice (some ⟨b, 0, none⟩) 1 1) 9 [(.string (strOf one))] rfl (by kernel_rfl) (fun _ => by kernel_rfl) (fun b110 => ?_)
    refine li rfl ?_
    refine opNew (v := fun b => .slice (some ⟨b, 0, none⟩) 0 0) 9 [] rfl (by kernel_rfl) (fun _ => by kernel_rfl) (fun b111 => ?_)
    refine li rfl (opVal (.slice (some ⟨b110, 0, none⟩) (1) (1)) rfl (by kernel_rfl) (rAssign rfl rfl) ?_)
    refine li rfl (opVal (.slice (some ⟨b111, 0, none⟩) (0) (0)) rfl (by kernel_rfl) (rAssign rfl rfl) ?_)
    refine liNil ?_
    refine qThen ?_
    refine stSeq ?_
    refine stSeq ?_
    refine reg ?_
    refine li rfl (opVal (.bool true) rfl (by kernel_rfl) (rMove rfl rfl) ?_)
    refine li rfl (opVal (.bool true) rfl (by kernel_rfl) (rMove rfl rfl) ?_)
    refine liGo rfl rfl (opVal (.bool false) rfl (by kernel_rfl) (rMove rfl rfl) ?_)
    refine li rfl (opVal (.bool false) rfl (by kernel_rfl) (rClosed fun _ => by kernel_rfl) ?_)
    refine liNil ?_
    refine qThen ?_
    refine stFalse rfl ?_
    refine stSkip ?_
    refine qThen ?_
    refine stSeq ?_
    refine stSeq ?_
    refine reg ?_
    refine li rfl (opVal (.bool true) rfl (by kernel_rfl) (rMove rfl rfl) ?_)
    refine li rfl (opVal (.bool true) rfl (by kernel_rfl) (rMove rfl rfl) ?_)
    refine liGo rfl rfl (opVal (.bool false) rfl (by kernel_rfl) (rMove rfl rfl) ?_)
    refine liGo rfl rfl (opVal (.bool true) rfl (by kernel_rfl) (rClosed fun _ => by kernel_rfl) ?_)
    refine li rfl (opVal (.bool true) rfl (by kernel_rfl) (rClosed fun _ => by kernel_rfl) ?_)
    refine liNil ?_
    refine qThen ?_
    refine stTrue rfl ?_
    refine stSeq ?_
    refine reg ?_
    refine li rfl (opVal (.pointer (some ⟨bt1, 0, none⟩)) rfl (by kernel_rfl) (rMove rfl rfl) ?_)
    refine li rfl (opVal (.string (strOf two)) rfl (by kernel_rfl) (rMove rfl rfl) ?_)
    refine li rfl ?_
    refine opCall 22 #[(.pointer (some ⟨bt1, 0, none⟩)), (.string (strOf two))] rfl (by kernel_rfl) (fun _ => by kernel_rfl) (fun w hM => ?_)
    refine (insert_any bt1 bc1 n [] (X.change one 1) two w (HV.out.mm hM) (hM.at (i := 0) rfl) h2).mono ?_
    rintro e w' ⟨rfl, hf, ht⟩
    have hM' := hM.swapTab 0 rfl hf ht
    refine ⟨_, _, rfl, hM', ?_⟩
    clear hM hM' hf ht
    refine liNil ?_
    refine qThen ?_
    refine reg ?_
    refine li rfl (opVal (.string (strOf one)) rfl (by kernel_rfl) (rMove rfl rfl) ?_)
    refine li rfl (opVal (.string (strOf two)) rfl (by kernel_rfl) (rMove rfl rfl) ?_)
    refine li rfl (opVal (.string (strOf (minB one two))) rfl (by kernel_rfl) (rMinS rfl rfl rfl) ?_)
    refine li rfl (opVal (.string (strOf one)) rfl (by kernel_rfl) (rMove rfl rfl) ?_)
    refine li rfl (opVal (.string (strOf two)) rfl (by kernel_rfl) (rMove rfl rfl) ?_)
    refine li rfl (opVal (.string (strOf (maxB one two))) rfl (by kernel_rfl) (rMaxS rfl rfl rfl) ?_)
    refine li rfl ?_
    refine opNew (v := fun b => .slice (some ⟨b, 0, none⟩) 2 2) 9 [(.string (strOf (minB one two))), (.string (strOf (maxB one two)))] rfl (by kernel_rfl) (fun _ => by kernel_rfl) (fun b135 => ?_)
    refine li rfl (opVal (.slice (some ⟨b135, 0, none⟩) (2) (2)) rfl (by kernel_rfl) (rAssign rfl rfl) ?_)
    refine liNil ?_
    refine qThen ?_
    refine stSeq ?_
    refine reg ?_
    refine li rfl (opVal (.pointer (some ⟨bt1, 0, none⟩)) rfl (by kernel_rfl) (rMove rfl rfl) ?_)
    refine li rfl (opVal (.pointer (some ⟨bt2, 0, none⟩)) rfl (by kernel_rfl) (rMove rfl rfl) ?_)
    refine li rfl ?_
    refine opCall 25 #[(.pointer (some ⟨bt1, 0, none⟩)), (.pointer (some ⟨bt2, 0, none⟩))] rfl (by kernel_rfl) (fun _ => by kernel_rfl) (fun w hM => ?_)
    refine (by have h := subtract_ok _ _ _ _ _ _ _ _ ((X.change one 1).change two 1) X w (hM.at (i := 0) rfl) (hM.at (i := 1) rfl) hsl hss; rw [HTD.out] at h; exact h : Calls _ _ _ w fun e w' => ∃ btr bcr capr restr, e = .returned (.tuple #[Value.pointer (some ⟨btr, 0, none⟩), Value.int .i64 0]) ∧ Mm w [] [cTab btr bcr capr restr (((BT.new n seed).change one 1).change two 1)] w').mono ?_
    rintro e w' ⟨bt3, bc3, cap3, rest3, rfl, hP⟩
    have hM' := hM.lift hP
    refine ⟨_, _, rfl, hM', ?_⟩
    clear hM hM' hP
    refine li rfl (opVal (.tuple #[(.pointer (some ⟨bt3, 0, none⟩)), (.int .i64 0)]) rfl (by kernel_rfl) (rMove rfl rfl) ?_)
    refine li rfl (opVal (.pointer (some ⟨bt3, 0, none⟩)) rfl (by kernel_rfl) (rClosed fun _ => by kernel_rfl) ?_)
    refine li rfl (opVal (.int .i64 0) rfl (by kernel_rfl) (rClosed fun _ => by kernel_rfl) ?_)
    refine li rfl (opVal (.pointer (some ⟨bt3, 0, none⟩)) rfl (by kernel_rfl) (rAssign rfl rfl) ?_)
    refine li rfl (opVal (.int .i64 0) rfl (by kernel_rfl) (rAssign rfl rfl) ?_)
    refine liNil ?_
    refine qThen ?_
    refine stSeq ?_
    refine stSeq ?_
    refine reg ?_
    refine li rfl (opVal (.int .i64 0) rfl (by kernel_rfl) (rMove rfl rfl) ?_)
    refine li rfl (opVal (.bool false) rfl (by kernel_rfl) (rClosed fun _ => by kernel_rfl) ?_)
    refine li rfl (opVal (.bool false) rfl (by kernel_rfl) (rMove rfl rfl) ?_)
    refine liGo rfl rfl (opVal (.pointer (some ⟨bt3, 0, none⟩)) rfl (by kernel_rfl) (rMove rfl rfl) ?_)
    refine liGo rfl rfl (opVal (.bool false) rfl (by kernel_rfl) (rClosed fun _ => by kernel_rfl) ?_)
    refine li rfl (opVal (.bool false) rfl (by kernel_rfl) (rClosed fun _ => by kernel_rfl) ?_)
    refine liNil ?_
    refine qThen ?_
    refine stFalse rfl ?_
    refine stSkip ?_
    refine qThen ?_
    refine stSeq ?_
    refine reg ?_
    refine li rfl (opVal (.pointer (some ⟨bt3, 0, none⟩)) rfl (by kernel_rfl) (rMove rfl rfl) ?_)
    refine li rfl ?_
    refine opCallB 26 #[(.pointer (some ⟨bt3, 0, none⟩))] rfl (by kernel_rfl) (fun _ => by kernel_rfl) (fun w hM => ?_)
    refine (keys_none hkey (HV.out.mm hM) (hM.at (i := 7) rfl)).mono ?_
    rintro e w1 ⟨rfl, hf⟩
    have hM1 := hM.fr0 hf
    refine ⟨_, w1, [], [], rfl, Mm.start w1 [], ?_⟩
    have HF1 := Lib.hid hM1.fr
    have HV1 : Hid (Vars w1) := HV.out.mm hM1
    clear hM hM1 hf
    refine li rfl (opVal (.tuple #[(.slice none 0 0), (.slice none 0 0), (.int .i64 10)]) rfl (by kernel_rfl) (rMove rfl rfl) ?_)
    refine li rfl (opVal (.slice none 0 0) rfl (by kernel_rfl) (rClosed fun _ => by kernel_rfl) ?_)
    refine li rfl (opVal (.slice none 0 0) rfl (by kernel_rfl) (rClosed fun _ => by kernel_rfl) ?_)
    refine li rfl (opVal (.int .i64 10) rfl (by kernel_rfl) (rClosed fun _ => by kernel_rfl) ?_)
    refine li rfl (opVal (.slice none 0 0) rfl (by kernel_rfl) (rAssign rfl rfl) ?_)
    refine li rfl (opVal (.slice none 0 0) rfl (by kernel_rfl) (rAssign rfl rfl) ?_)
    refine li rfl (opVal (.int .i64 10) rfl (by kernel_rfl) (rAssign rfl rfl) ?_)
    refine liNil ?_
    refine qThen ?_
    refine stSeq ?_
    refine stSeq ?_
    refine reg ?_
    refine li rfl (opVal (.bool true) rfl (by kernel_rfl) (rMove rfl rfl) ?_)
    refine li rfl (opVal (.bool true) rfl (by kernel_rfl) (rMove rfl rfl) ?_)
    refine liGo rfl rfl (opVal (.int .i64 ((n : Nat) : Int)) rfl (by kernel_rfl) (rMove rfl rfl) ?_)
    refine liGo rfl rfl (opVal (.int .u64 ((seed : Nat) : Int)) rfl (by kernel_rfl) (rMove rfl rfl) ?_)
    refine liGo rfl rfl (opVal (.string (strOf one)) rfl (by kernel_rfl) (rMove rfl rfl) ?_)
    refine liGo rfl rfl ?_
    refine opCallB 20 #[(.int .i64 ((n : Nat) : Int)), (.int .u64 ((seed : Nat) : Int)), (.string (strOf one))] rfl (by kernel_rfl) (fun _ => by kernel_rfl) (fun w hM => ?_)
    refine (refPlaces_any n seed one w hm (by omega)).mono ?_
    rintro e w2 ⟨A2, c2, rfl, hf, hra2⟩
    have hM1 := hM.fr0 hf
    refine ⟨_, w2, [], [], rfl, Mm.start w2 [], ?_⟩
    have HF2 : Hid (Fr [] w1 w2) := hM1.fr
    have HV2 : Hid (Vars w2) := HV1.out.mm hM1
    have HP2 := Lib.hid hra2
    clear hM hM1 hf hra2
    refine liGo rfl rfl (opVal (.int .i64 ((n : Nat) : Int)) rfl (by kernel_rfl) (rMove rfl rfl) ?_)
    refine liGo rfl rfl (opVal (.int .u64 ((seed : Nat) : Int)) rfl (by kernel_rfl) (rMove rfl rfl) ?_)
    refine liGo rfl rfl (opVal (.string (strOf two)) rfl (by kernel_rfl) (rMove rfl rfl) ?_)
    refine liGo rfl rfl ?_
    refine opCallB 20 #[(.int .i64 ((n : Nat) : Int)), (.int .u64 ((seed : Nat) : Int)), (.string (strOf two))] rfl (by kernel_rfl) (fun _ => by kernel_rfl) (fun w hM => ?_)
    refine (refPlaces_any n seed two w hm (by omega)).mono ?_
    rintro e w3 ⟨A3, c3, rfl, hf, hra3⟩
    have hM1 := hM.fr0 hf
    refine ⟨_, w3, [], [], rfl, Mm.start w3 [], ?_⟩
    have HF3 : Hid (Fr [] w2 w3) := hM1.fr
    have HV3 : Hid (Vars w3) := HV2.out.mm hM1
    have HP3 := Lib.hid hra3
    have HP23 : Hid (RowIn w3 A2 ((placesL n seed one).map (Value.int .i64))) := HP2.out.fr0 hM1.fr
    clear hM hM1 hf hra3
    refine liGo rfl rfl ?_
    refine opCall 19 #[(.slice A2 ((placesL n seed one).length) (c2)), (.slice A3 ((placesL n seed two).length) (c3))] rfl (by kernel_rfl) (fun _ => by kernel_rfl) (fun w hM => ?_)
    refine ((by have h := ints_any A2 A3 c2 c3 (placesL n seed one) (placesL n seed two) w (HP23.out.fr0 hM.fr) (HP3.out.fr0 hM.fr) (by simp [placesL]) (by simp [placesL]); rw [decide_eq_true hpl] at h; exact h : Calls _ _ _ w fun e w' => e = .returned (.bool true) ∧ Fr [] w w')).mono ?_
    rintro e w' ⟨rfl, hf⟩
    have hM' := hM.fr0 hf
    refine ⟨(.bool true), _, rfl, hM', ?_⟩
    clear hM hM' hf
    refine li rfl (opVal (.bool true) rfl (by kernel_rfl) (rClosed fun _ => by kernel_rfl) ?_)
    refine liNil ?_
    refine qThen ?_
    refine stTrue rfl ?_
    refine stSeq ?_
    refine reg ?_
    refine li rfl ?_
    refine opCall 13 #[] rfl (by kernel_rfl) (fun _ => by kernel_rfl) (fun w hM => ?_)
    refine (awake_any w (HV3.out.mm hM)).mono ?_
    rintro e w' ⟨rfl, hf⟩
    have hM' := hM.fr0 hf
    refine ⟨(.bool true), _, rfl, hM', ?_⟩
    clear hM hM' hf
    refine li rfl (opVal (.bool true) rfl (by kernel_rfl) (rMove rfl rfl) ?_)
    refine liGo rfl rfl (opVal (.int .i64 10) rfl (by kernel_rfl) (rMove rfl rfl) ?_)
    refine liGo rfl rfl (opVal (.bool true) rfl (by kernel_rfl) (rClosed fun _ => by kernel_rfl) ?_)
    refine li rfl (opVal (.bool true) rfl (by kernel_rfl) (rClosed fun _ => by kernel_rfl) ?_)
    refine li rfl (opVal (.bool true) rfl (by kernel_rfl) (rMove rfl rfl) ?_)
    refine liGo rfl rfl (opVal (.slice none 0 0) rfl (by kernel_rfl) (rMove rfl rfl) ?_)
    refine liGo rfl rfl (opVal (.int .i64 0) rfl (by kernel_rfl) (rClosed fun _ => by kernel_rfl) ?_)
    refine liGo rfl rfl (opVal (.bool true) rfl (by kernel_rfl) (rClosed fun _ => by kernel_rfl) ?_)
    refine li rfl (opVal (.bool true) rfl (by kernel_rfl) (rClosed fun _ => by kernel_rfl) ?_)
    refine li rfl (opVal (.bool true) rfl (by kernel_rfl) (rMove rfl rfl) ?_)
    refine liGo rfl rfl (opVal (.slice none 0 0) rfl (by kernel_rfl) (rMove rfl rfl) ?_)
    refine liGo rfl rfl (opVal (.int .i64 0) rfl (by kernel_rfl) (rClosed fun _ => by kernel_rfl) ?_)
    refine liGo rfl rfl (opVal (.bool true) rfl (by kernel_rfl) (rClosed fun _ => by kernel_rfl) ?_)
    refine li rfl (opVal (.bool true) rfl (by kernel_rfl) (rClosed fun _ => by kernel_rfl) ?_)
    refine li rfl (opVal (.bool true) rfl (by kernel_rfl) (rAssign rfl rfl) ?_)
    refine liNil ?_
    refine qThen ?_
    refine stRet ?_
    refine qThenR ?_
    refine stEnd [(.bool true)] rfl ⟨rfl, trivial⟩ (fun w hM => ?_)
    exact ⟨rfl, ((HF1.out.trans HF2.out).trans HF3.out).trans hM.fr⟩

theorem lawFew_any (m : Int) (seed : Nat) (A : Option Addr) (c : Nat) (cm : List UInt8) (x y : Nat) (both other : Bool) (w : World) (hv : Vars w) (hu : U64 seed) (hr : RowIn w A (B8 cm)) (hx : x < 65536) (hy : y < 65536) :
    Calls Tryd.prog 5 #[Value.int .i64 m, .int .u64 (seed : Int), .slice A cm.length c, .int .u16 (x : Int), .int .u16 (y : Int), Value.bool both, Value.bool other] w fun e w' => e = .returned (.bool true) ∧ Fr [] w w' := by
  cases hm : isSz m with
  | false => exact lawFew_bad m seed A c cm x y both other w hv hm
  | true =>
    obtain ⟨n, rfl⟩ := isSz_nat hm
    rcases Nat.lt_or_ge 60 n with h60 | h60
    · exact lawFew_big n seed A c cm x y both other w hv hm h60
    rcases Nat.lt_or_ge 30 cm.length with h30 | h30
    · exact lawFew_long n seed A c cm x y both other w hv hm h60 h30
    have hne : sha (msg 1 x) ≠ sha (msg 2 y) := few_sha hx hy
    have h1 : (sha (msg 1 x)).length = 32 := sha_len _
    have h2 : (sha (msg 2 y)).length = 32 := sha_len _
    cases both with
    | false => exact lawFew_one n seed A c cm x y other w hv hm h60 h30 hu hr _ _ rfl rfl h1
    | true =>
      by_cases hpl : placesL n seed (sha (msg 1 x)) = placesL n seed (sha (msg 2 y))
      · cases other with
        | true => exact lawFew_otherN n seed A c cm x y w hv hm h60 h30 hu hr _ _ rfl rfl h1 h2 hne hpl
        | false => exact lawFew_twoN n seed A c cm x y w hv hm h60 h30 hu hr _ _ rfl rfl h1 h2 hne hpl
      · cases other with
        | true => exact lawFew_other n seed A c cm x y w hv hm h60 h30 hu hr _ _ rfl rfl h1 h2 hne hpl
        | false => exact lawFew_two n seed A c cm x y w hv hm h60 h30 hu hr _ _ rfl rfl h1 h2 hne hpl
end Go.Proofs.YtnhagokkamobaaaDoor
