/- The laws BloomtableDecodes and BloomtableReads, walked. -/
import Derived.Test.YtnhagokkamobaaaDoorBlPlay2
import Derived.Test.YtnhagokkamobaaaDoorBlDecode
import Derived.Test.YtnhagokkamobaaaDoorBlLawOrder
import Derived.Test.YtnhagokkamobaaaDoorBlIns
namespace Go.Proofs.YtnhagokkamobaaaDoor
open Go.RowKit

/-- What Decode yields. -/
def decd (D : List UInt8) : Option BT := if isSz (decN D : Int) = true ∧ (decEnd D).end_ = 0 then some (decT D) else none
theorem decd_enc {D : List UInt8} {T : BT} (h : decd D = some T) : T.enc = D ∧ isSz (T.cells.length : Int) = true := by
  unfold decd at h
  split at h
  · rename_i h1
    injection h with h
    subst h
    exact ⟨dec_enc h1.2, by rw [decT_len]; exact h1.1⟩
  · cases h
theorem enc_decd {T : BT} (h : T.Ok) (hs : isSz (T.cells.length : Int) = true) : decd T.enc = some T := by
  obtain ⟨h1, h2, h3⟩ := enc_dec h (isSz_bounds hs).2.1
  unfold decd
  rw [if_pos ⟨by rw [h1]; exact hs, h3⟩, h2]
theorem decode_none (A : Option Addr) (c : Nat) (D : List UInt8) (w : World) (hD : D.length ≤ 4294967296) (hrow : RowIn w A (B8 D)) (h : decd D = none) :
    Calls Tryd.prog 38 #[.slice A D.length c] w fun e w' => e = .returned (.tuple #[.pointer none, Value.int .i64 3]) ∧ Fr [] w w' := by
  rcases Nat.lt_or_ge 3072 (decN D) with hb | hb
  · exact decode_big A c D w hD hrow hb
  · cases hs : isSz (decN D : Int) with
    | false => exact decode_size A c D w hD hrow hb hs
    | true =>
      refine (decode_ok A c D w hD hrow hs).mono fun e w' he => ?_
      have hn : (decEnd D).end_ ≠ 0 := fun h0 => by
        unfold decd at h
        rw [if_pos ⟨hs, h0⟩] at h
        cases h
      rwa [if_neg hn] at he
theorem decode_some (A : Option Addr) (c : Nat) (D : List UInt8) (U : BT) (w : World) (hD : D.length ≤ 4294967296) (hrow : RowIn w A (B8 D)) (h : decd D = some U) :
    Calls Tryd.prog 38 #[.slice A D.length c] w fun e w' => ∃ bt bc cap rest, e = .returned (.tuple #[Value.pointer (some ⟨bt, 0, none⟩), Value.int .i64 0]) ∧ Mm w [] [cTab bt bc cap rest U] w' := by
  unfold decd at h
  split at h
  · rename_i h1
    injection h with h
    subst h
    refine (decode_ok A c D w hD hrow h1.1).mono fun e w' he => ?_
    rwa [if_pos h1.2] at he
  · cases h

set_option maxRecDepth 100000 in
set_option maxHeartbeats 1000000 in
theorem lawDecodes_big (A : Option Addr) (c : Nat) (D : List UInt8) (w : World) (hv : Vars w) (hD : 4000 < D.length) :
    Calls Tryd.prog 11 #[.slice A D.length c] w fun e w' => e = .returned (.bool true) ∧ Fr [] w w' := by
  have HV := Lib.hid hv
  clear hv
  refine stEnter (args := [.slice A D.length c]) [] Tryd.func11 rfl 43 rfl [(0, .slice A D.length c)] ⟨rfl, trivial⟩ [] (Mm.start w []) ?_
  refine stSeq ?_
  refine reg ?_
  refine li rfl (opVal (.bool false) rfl (by kernel_rfl) (rAssign rfl rfl) ?_)
  refine liNil ?_
  refine qThen ?_
  refine stSeq ?_
  refine stSeq ?_
  refine reg ?_
  refine li rfl (opVal (.slice A (D.length) (c)) rfl (by kernel_rfl) (rMove rfl rfl) ?_)
  refine li rfl (opVal (.int .i64 ((D.length : Nat) : Int)) rfl (by kernel_rfl) (rClosed fun _ => by kernel_rfl) ?_)
  refine li rfl (opVal (.bool (decide (((D.length : Nat) : Int) > 4000))) rfl (by kernel_rfl) (rClosed fun _ => by kernel_rfl) ?_)
  refine liNil ?_
  refine qThen ?_
  refine stTrueK rfl (by simp; omega) ?_
  refine stSeq ?_
  refine reg ?_
  refine li rfl ?_
  refine opCall 13 #[] rfl (by kernel_rfl) (fun _ => by kernel_rfl) (fun w hM => ?_)
  refine (awake_any w (HV.out.mm hM)).mono ?_
  rintro e w' ⟨rfl, hf⟩
  have hM' := hM.fr0 hf
  refine ⟨(.bool true), _, rfl, hM', ?_⟩
  clear hM hM' hf
  refine li rfl (opVal (.bool true) rfl (by kernel_rfl) (rAssign rfl rfl) ?_)
  refine liNil ?_
  refine qThen ?_
  refine stRet ?_
  refine qThenR ?_
  refine stEnd [(.bool true)] rfl ⟨rfl, trivial⟩ (fun w hM => ?_)
  exact ⟨rfl, hM.fr⟩

set_option maxRecDepth 100000 in
set_option maxHeartbeats 1000000 in
theorem lawDecodes_bad (A : Option Addr) (c : Nat) (D : List UInt8) (w : World) (hv : Vars w) (hr : RowIn w A (B8 D)) (hD : D.length ≤ 4000) (hn : decd D = none) :
    Calls Tryd.prog 11 #[.slice A D.length c] w fun e w' => e = .returned (.bool true) ∧ Fr [] w w' := by
  have HV := Lib.hid hv
  clear hv
  have HR := Lib.hid hr
  clear hr
  refine stEnter (args := [.slice A D.length c]) [] Tryd.func11 rfl 43 rfl [(0, .slice A D.length c)] ⟨rfl, trivial⟩ [] (Mm.start w []) ?_
  refine stSeq ?_
  refine reg ?_
  refine li rfl (opVal (.bool false) rfl (by kernel_rfl) (rAssign rfl rfl) ?_)
  refine liNil ?_
  refine qThen ?_
  refine stSeq ?_
  refine stSeq ?_
  refine reg ?_
  refine li rfl (opVal (.slice A (D.length) (c)) rfl (by kernel_rfl) (rMove rfl rfl) ?_)
  refine li rfl (opVal (.int .i64 ((D.length : Nat) : Int)) rfl (by kernel_rfl) (rClosed fun _ => by kernel_rfl) ?_)
  refine li rfl (opVal (.bool (decide (((D.length : Nat) : Int) > 4000))) rfl (by kernel_rfl) (rClosed fun _ => by kernel_rfl) ?_)
  refine liNil ?_
  refine qThen ?_
  refine stFalseK rfl (by simp; omega) ?_
  refine stSkip ?_
  refine qThen ?_
  refine stSeq ?_
  refine reg ?_
  refine li rfl (opVal (.slice A (D.length) (c)) rfl (by kernel_rfl) (rMove rfl rfl) ?_)
  refine li rfl ?_
  refine opCall 38 #[(.slice A (D.length) (c))] rfl (by kernel_rfl) (fun _ => by kernel_rfl) (fun w hM => ?_)
  refine (decode_none A c D w (by omega) (HR.out.fr0 hM.fr) hn).mono ?_
  rintro e w' ⟨rfl, hf⟩
  have hM' := hM.fr0 hf
  refine ⟨(.tuple #[(.pointer none), (.int .i64 3)]), _, rfl, hM', ?_⟩
  clear hM hM' hf
  refine li rfl (opVal (.tuple #[(.pointer none), (.int .i64 3)]) rfl (by kernel_rfl) (rMove rfl rfl) ?_)
  refine li rfl (opVal (.pointer none) rfl (by kernel_rfl) (rClosed fun _ => by kernel_rfl) ?_)
  refine li rfl (opVal (.int .i64 3) rfl (by kernel_rfl) (rClosed fun _ => by kernel_rfl) ?_)
  refine li rfl (opVal (.pointer none) rfl (by kernel_rfl) (rAssign rfl rfl) ?_)
  refine li rfl (opVal (.int .i64 3) rfl (by kernel_rfl) (rAssign rfl rfl) ?_)
  refine liNil ?_
  refine qThen ?_
  refine stSeq ?_
  refine stSeq ?_
  refine reg ?_
  refine li rfl (opVal (.int .i64 3) rfl (by kernel_rfl) (rMove rfl rfl) ?_)
  refine li rfl (opVal (.bool true) rfl (by kernel_rfl) (rClosed fun _ => by kernel_rfl) ?_)
  refine liNil ?_
  refine qThen ?_
  refine stTrue rfl ?_
  refine stSeq ?_
  refine reg ?_
  refine li rfl ?_
  refine opCall 13 #[] rfl (by kernel_rfl) (fun _ => by kernel_rfl) (fun w hM => ?_)
  refine (awake_any w (HV.out.mm hM)).mono ?_
  rintro e w' ⟨rfl, hf⟩
  have hM' := hM.fr0 hf
  refine ⟨(.bool true), _, rfl, hM', ?_⟩
  clear hM hM' hf
  refine li rfl (opVal (.bool true) rfl (by kernel_rfl) (rMove rfl rfl) ?_)
  refine liGo rfl rfl (opVal (.int .i64 3) rfl (by kernel_rfl) (rMove rfl rfl) ?_)
  refine liGo rfl rfl (opVal (.bool true) rfl (by kernel_rfl) (rClosed fun _ => by kernel_rfl) ?_)
  refine li rfl (opVal (.bool true) rfl (by kernel_rfl) (rClosed fun _ => by kernel_rfl) ?_)
  refine li rfl (opVal (.bool true) rfl (by kernel_rfl) (rMove rfl rfl) ?_)
  refine liGo rfl rfl (opVal (.pointer none) rfl (by kernel_rfl) (rMove rfl rfl) ?_)
  refine liGo rfl rfl (opVal (.bool true) rfl (by kernel_rfl) (rClosed fun _ => by kernel_rfl) ?_)
  refine li rfl (opVal (.bool true) rfl (by kernel_rfl) (rClosed fun _ => by kernel_rfl) ?_)
  refine li rfl (opVal (.bool true) rfl (by kernel_rfl) (rAssign rfl rfl) ?_)
  refine liNil ?_
  refine qThen ?_
  refine stRet ?_
  refine qThenR ?_
  refine stEnd [(.bool true)] rfl ⟨rfl, trivial⟩ (fun w hM => ?_)
  exact ⟨rfl, hM.fr⟩

set_option maxRecDepth 100000 in
set_option maxHeartbeats 1000000 in
theorem lawDecodes_ok (A : Option Addr) (c : Nat) (D : List UInt8) (w : World) (hv : Vars w) (hr : RowIn w A (B8 D)) (hD : D.length ≤ 4000) (U : BT) (hsU : decd D = some U) :
    Calls Tryd.prog 11 #[.slice A D.length c] w fun e w' => e = .returned (.bool true) ∧ Fr [] w w' := by
  have HV := Lib.hid hv
  clear hv
  have HR := Lib.hid hr
  clear hr
  obtain ⟨hUe, hUs⟩ := decd_enc hsU
  refine stEnter (args := [.slice A D.length c]) [] Tryd.func11 rfl 43 rfl [(0, .slice A D.length c)] ⟨rfl, trivial⟩ [] (Mm.start w []) ?_
  refine stSeq ?_
  refine reg ?_
  refine li rfl (opVal (.bool false) rfl (by kernel_rfl) (rAssign rfl rfl) ?_)
  refine liNil ?_
  refine qThen ?_
  refine stSeq ?_
  refine stSeq ?_
  refine reg ?_
  refine li rfl (opVal (.slice A (D.length) (c)) rfl (by kernel_rfl) (rMove rfl rfl) ?_)
  refine li rfl (opVal (.int .i64 ((D.length : Nat) : Int)) rfl (by kernel_rfl) (rClosed fun _ => by kernel_rfl) ?_)
  refine li rfl (opVal (.bool (decide (((D.length : Nat) : Int) > 4000))) rfl (by kernel_rfl) (rClosed fun _ => by kernel_rfl) ?_)
  refine liNil ?_
  refine qThen ?_
  refine stFalseK rfl (by simp; omega) ?_
  refine stSkip ?_
  refine qThen ?_
  refine stSeq ?_
  refine reg ?_
  refine li rfl (opVal (.slice A (D.length) (c)) rfl (by kernel_rfl) (rMove rfl rfl) ?_)
  refine li rfl ?_
  refine opCall 38 #[(.slice A (D.length) (c))] rfl (by kernel_rfl) (fun _ => by kernel_rfl) (fun w hM => ?_)
  refine (decode_some A c D U w (by omega) (HR.out.fr0 hM.fr) hsU).mono ?_
  rintro e w' ⟨bt11, bc11, cap11, rest11, rfl, hP⟩
  have hM' := hM.lift hP
  refine ⟨_, _, rfl, hM', ?_⟩
  clear hM hM' hP
  refine li rfl (opVal (.tuple #[(.pointer (some ⟨bt11, 0, none⟩)), (.int .i64 0)]) rfl (by kernel_rfl) (rMove rfl rfl) ?_)
  refine li rfl (opVal (.pointer (some ⟨bt11, 0, none⟩)) rfl (by kernel_rfl) (rClosed fun _ => by kernel_rfl) ?_)
  refine li rfl (opVal (.int .i64 0) rfl (by kernel_rfl) (rClosed fun _ => by kernel_rfl) ?_)
  refine li rfl (opVal (.pointer (some ⟨bt11, 0, none⟩)) rfl (by kernel_rfl) (rAssign rfl rfl) ?_)
  refine li rfl (opVal (.int .i64 0) rfl (by kernel_rfl) (rAssign rfl rfl) ?_)
  refine liNil ?_
  refine qThen ?_
  refine stSeq ?_
  refine stSeq ?_
  refine reg ?_
  refine li rfl (opVal (.int .i64 0) rfl (by kernel_rfl) (rMove rfl rfl) ?_)
  refine li rfl (opVal (.bool false) rfl (by kernel_rfl) (rClosed fun _ => by kernel_rfl) ?_)
  refine liNil ?_
  refine qThen ?_
  refine stFalse rfl ?_
  refine stSkip ?_
  refine qThen ?_
  refine stSeq ?_
  refine anyBegin [cTab bt11 bc11 cap11 rest11 U] 19 (by kernel_rfl) (fun _ h => h) ?_
  refine anyOne (i := 0) (by kernel_rfl) rfl rfl ?_
  refine opCall 13 #[] rfl (by kernel_rfl) (fun _ => by kernel_rfl) (fun w hM => ?_)
  refine (awake_any w (HV.out.mm hM)).mono ?_
  rintro e w' ⟨rfl, hf⟩
  have hM' := hM.fr0 hf
  refine ⟨(.bool true), _, rfl, hM', ?_⟩
  clear hM hM' hf
  refine anyNext [cTab bt11 bc11 cap11 rest11 U] (fun _ h => h) (fun _ h => h) ?_
  refine anyVal (i := 1) (.bool true) rfl rfl rfl (by kernel_rfl) (by kernel_rfl) (fun _ _ _ h => h) (rMove rfl rfl) ?_
  refine anyValG (i := 2) (.pointer (some ⟨bt11, 0, none⟩)) rfl rfl rfl rfl (by kernel_rfl) (by kernel_rfl) (fun _ _ _ h => h) (rMove rfl rfl) ?_
  refine anyValG (i := 3) (.bool true) rfl rfl rfl rfl (by kernel_rfl) (by kernel_rfl) (fun _ _ _ h => h) (rClosed fun _ => by kernel_rfl) ?_
  refine anyVal (i := 4) (.bool true) rfl rfl rfl (by kernel_rfl) (by kernel_rfl) (fun _ _ _ h => h) (rClosed fun _ => by kernel_rfl) ?_
  refine anyVal (i := 5) (.bool true) rfl rfl rfl (by kernel_rfl) (by kernel_rfl) (fun _ _ _ h => h) (rMove rfl rfl) ?_
  refine anyValG (i := 6) (.pointer (some ⟨bt11, 0, none⟩)) rfl rfl rfl rfl (by kernel_rfl) (by kernel_rfl) (fun _ _ _ h => h) (rMove rfl rfl) ?_
  refine anyOneG (i := 7) (by kernel_rfl) rfl rfl rfl ?_
  refine opCall 35 #[(.pointer (some ⟨bt11, 0, none⟩))] rfl (by kernel_rfl) (fun _ => by kernel_rfl) (fun w hM => ?_)
  refine (cells_any _ _ _ _ U w (hM.at (i := 0) rfl)).mono ?_
  rintro e w' ⟨rfl, rfl⟩
  refine ⟨_, _, rfl, hM, ?_⟩
  clear hM
  refine anyNext [cTab bt11 bc11 cap11 rest11 U] (fun _ h => h) (fun _ h => h) ?_
  refine anyOneG (i := 8) (by kernel_rfl) rfl rfl rfl ?_
  refine opCall 16 #[(.int .i64 ((U.cells.length : Nat) : Int))] rfl (by kernel_rfl) (fun _ => by kernel_rfl) (fun w hM => ?_)
  refine ((by rw [← hUs]; exact valid_any (U.cells.length : Int) w : Calls _ _ _ w fun e w' => e = .returned (.bool true) ∧ w = w')).mono ?_
  rintro e w' ⟨rfl, rfl⟩
  refine ⟨(.bool true), _, rfl, hM, ?_⟩
  clear hM
  refine anyNext [cTab bt11 bc11 cap11 rest11 U] (fun _ h => h) (fun _ h => h) ?_
  refine anyVal (i := 9) (.bool true) rfl rfl rfl (by kernel_rfl) (by kernel_rfl) (fun _ _ _ h => h) (rClosed fun _ => by kernel_rfl) ?_
  refine anyVal (i := 10) (.bool true) rfl rfl rfl (by kernel_rfl) (by kernel_rfl) (fun _ _ _ h => h) (rMove rfl rfl) ?_
  refine anyValG (i := 11) (.pointer (some ⟨bt11, 0, none⟩)) rfl rfl rfl rfl (by kernel_rfl) (by kernel_rfl) (fun _ _ _ h => h) (rMove rfl rfl) ?_
  refine anyValG (i := 14) (.slice A (D.length) (c)) rfl rfl rfl rfl (by kernel_rfl) (by kernel_rfl) (fun _ _ _ h => h) (rMove rfl rfl) ?_
  refine anyValG (i := 15) (.string (strOf D)) rfl rfl rfl rfl (by kernel_rfl) (by kernel_rfl) (fun _ _ _ h => h) (rStr (e := 5) D rfl (by kernel_rfl) (by kernel_rfl) (by kernel_rfl) rfl rfl (fun w hM => HR.out.fr0 hM.fr)) ?_
  refine anyOneG (i := 12) (by kernel_rfl) rfl rfl rfl ?_
  refine opCall 31 #[(.pointer (some ⟨bt11, 0, none⟩))] rfl (by kernel_rfl) (fun _ => by kernel_rfl) (fun w hM => ?_)
  refine (encode_any _ _ _ _ U w (hM.at (i := 0) rfl)).mono ?_
  rintro e w' ⟨v, rfl, hN⟩
  obtain ⟨A37, c37, rfl, hM'⟩ := hM.pushOwn hN.fr hN.own
  refine ⟨_, _, rfl, hM', ?_⟩
  clear hM hN hM'
  refine anyNext [cTab bt11 bc11 cap11 rest11 U, cOwn 5 1 A37 ((U.enc).length) (c37) (B8 (U.enc))] (fun _ h => h.sub (.cons_cons _ (.cons _ .slnil))) (fun _ h => h) ?_
  refine anyValG (i := 13) (.string (strOf (U.enc))) rfl rfl rfl rfl (by kernel_rfl) (by kernel_rfl) (fun _ _ _ h => h) (rStr (e := 5) (U.enc) rfl (by kernel_rfl) (by kernel_rfl) (by kernel_rfl) rfl rfl (rowOwn (i := 1) rfl)) ?_
  refine anyValG (i := 16) (.bool true) rfl rfl rfl rfl (by kernel_rfl) (by kernel_rfl) (fun _ _ _ h => h) (rConv (rStrEq rfl rfl rfl) (by simp [hUe])) ?_
  refine anyVal (i := 17) (.bool true) rfl rfl rfl (by kernel_rfl) (by kernel_rfl) (fun _ _ _ h => h) (rClosed fun _ => by kernel_rfl) ?_
  refine anyVal (i := 18) (.bool true) rfl rfl rfl (by kernel_rfl) (by kernel_rfl) (fun _ _ _ h => h) (rAssign rfl rfl) ?_
  refine anyDone (by kernel_rfl) ?_
  refine qThen ?_
  refine stRet ?_
  refine stEnd [(.bool true)] rfl ⟨rfl, trivial⟩ (fun w hM => ?_)
  exact ⟨rfl, hM.fr⟩

set_option maxRecDepth 100000 in
set_option maxHeartbeats 1000000 in
theorem lawReads_big (m : Int) (seed : Nat) (A : Option Addr) (c : Nat) (ops : List BOp) (key : List UInt8) (w : World) (hv : Vars w) (hfew : fewB m ops.length = false) :
    Calls Tryd.prog 12 #[Value.int .i64 m, .int .u64 (seed : Int), .slice A ops.length c, .string (strOf key)] w fun e w' => e = .returned (.bool true) ∧ Fr [] w w' := by
  have HV := Lib.hid hv
  clear hv
  refine stEnter (args := [Value.int .i64 m, .int .u64 (seed : Int), .slice A ops.length c, .string (strOf key)]) [] Tryd.func12 rfl 74 rfl [(0, Value.int .i64 m), (1, .int .u64 (seed : Int)), (2, .slice A ops.length c), (3, .string (strOf key))] ⟨rfl, rfl, rfl, rfl, trivial⟩ [] (Mm.start w []) ?_
  refine stSeq ?_
  refine reg ?_
  refine li rfl (opVal (.bool false) rfl (by kernel_rfl) (rAssign rfl rfl) ?_)
  refine liNil ?_
  refine qThen ?_
  refine stSeq ?_
  refine stSeq ?_
  refine reg ?_
  refine li rfl (opVal (.int .i64 m) rfl (by kernel_rfl) (rMove rfl rfl) ?_)
  refine li rfl (opVal (.slice A (ops.length) (c)) rfl (by kernel_rfl) (rMove rfl rfl) ?_)
  refine li rfl ?_
  refine opCall 28 #[(.int .i64 m), (.slice A (ops.length) (c))] rfl (by kernel_rfl) (fun _ => by kernel_rfl) (fun w hM => ?_)
  refine ((by rw [← hfew]; exact few_any _ _ _ _ w : Calls _ _ _ w fun e w' => e = .returned (.bool false) ∧ Fr [] w w')).mono ?_
  rintro e w' ⟨rfl, hf⟩
  have hM' := hM.fr0 hf
  refine ⟨(.bool false), _, rfl, hM', ?_⟩
  clear hM hM' hf
  refine li rfl (opVal (.bool true) rfl (by kernel_rfl) (rClosed fun _ => by kernel_rfl) ?_)
  refine liNil ?_
  refine qThen ?_
  refine stTrue rfl ?_
  refine stSeq ?_
  refine reg ?_
  refine li rfl ?_
  refine opCall 13 #[] rfl (by kernel_rfl) (fun _ => by kernel_rfl) (fun w hM => ?_)
  refine (awake_any w (HV.out.mm hM)).mono ?_
  rintro e w' ⟨rfl, hf⟩
  have hM' := hM.fr0 hf
  refine ⟨(.bool true), _, rfl, hM', ?_⟩
  clear hM hM' hf
  refine li rfl (opVal (.bool true) rfl (by kernel_rfl) (rAssign rfl rfl) ?_)
  refine liNil ?_
  refine qThen ?_
  refine stRet ?_
  refine qThenR ?_
  refine stEnd [(.bool true)] rfl ⟨rfl, trivial⟩ (fun w hM => ?_)
  exact ⟨rfl, hM.fr⟩

set_option maxRecDepth 100000 in
set_option maxHeartbeats 1000000 in
theorem lawReads_bad (m : Int) (seed : Nat) (A : Option Addr) (c : Nat) (ops : List BOp) (key : List UInt8) (w : World) (hv : Vars w) (hfew : fewB m ops.length = true) (hm : isSz m = false) :
    Calls Tryd.prog 12 #[Value.int .i64 m, .int .u64 (seed : Int), .slice A ops.length c, .string (strOf key)] w fun e w' => e = .returned (.bool true) ∧ Fr [] w w' := by
  have HV := Lib.hid hv
  clear hv
  refine stEnter (args := [Value.int .i64 m, .int .u64 (seed : Int), .slice A ops.length c, .string (strOf key)]) [] Tryd.func12 rfl 74 rfl [(0, Value.int .i64 m), (1, .int .u64 (seed : Int)), (2, .slice A ops.length c), (3, .string (strOf key))] ⟨rfl, rfl, rfl, rfl, trivial⟩ [] (Mm.start w []) ?_
  refine stSeq ?_
  refine reg ?_
  refine li rfl (opVal (.bool false) rfl (by kernel_rfl) (rAssign rfl rfl) ?_)
  refine liNil ?_
  refine qThen ?_
  refine stSeq ?_
  refine stSeq ?_
  refine reg ?_
  refine li rfl (opVal (.int .i64 m) rfl (by kernel_rfl) (rMove rfl rfl) ?_)
  refine li rfl (opVal (.slice A (ops.length) (c)) rfl (by kernel_rfl) (rMove rfl rfl) ?_)
  refine li rfl ?_
  refine opCall 28 #[(.int .i64 m), (.slice A (ops.length) (c))] rfl (by kernel_rfl) (fun _ => by kernel_rfl) (fun w hM => ?_)
  refine ((by rw [← hfew]; exact few_any _ _ _ _ w : Calls _ _ _ w fun e w' => e = .returned (.bool true) ∧ Fr [] w w')).mono ?_
  rintro e w' ⟨rfl, hf⟩
  have hM' := hM.fr0 hf
  refine ⟨(.bool true), _, rfl, hM', ?_⟩
  clear hM hM' hf
  refine li rfl (opVal (.bool false) rfl (by kernel_rfl) (rClosed fun _ => by kernel_rfl) ?_)
  refine liNil ?_
  refine qThen ?_
  refine stFalse rfl ?_
  refine stSkip ?_
  refine qThen ?_
  refine stSeq ?_
  refine reg ?_
  refine li rfl (opVal (.int .i64 m) rfl (by kernel_rfl) (rMove rfl rfl) ?_)
  refine li rfl (opVal (.int .u64 ((seed : Nat) : Int)) rfl (by kernel_rfl) (rMove rfl rfl) ?_)
  refine li rfl (opVal (.slice A (ops.length) (c)) rfl (by kernel_rfl) (rMove rfl rfl) ?_)
  refine li rfl ?_
  refine opCall 29 #[(.int .i64 m), (.int .u64 ((seed : Nat) : Int)), (.slice A (ops.length) (c))] rfl (by kernel_rfl) (fun _ => by kernel_rfl) (fun w hM => ?_)
  refine (play_bad m seed A c ops w hm).mono ?_
  rintro e w' ⟨rfl, hf⟩
  have hM' := hM.fr0 hf
  refine ⟨(.tuple #[(.pointer none), (.agg #[(.int .u64 0), (.slice none 0 0)]), (.bool true)]), _, rfl, hM', ?_⟩
  clear hM hM' hf
  refine li rfl (opVal (.tuple #[(.pointer none), (.agg #[(.int .u64 0), (.slice none 0 0)]), (.bool true)]) rfl (by kernel_rfl) (rMove rfl rfl) ?_)
  refine li rfl (opVal (.pointer none) rfl (by kernel_rfl) (rClosed fun _ => by kernel_rfl) ?_)
  refine li rfl (opVal (.agg #[(.int .u64 0), (.slice none 0 0)]) rfl (by kernel_rfl) (rClosed fun _ => by kernel_rfl) ?_)
  refine li rfl (opVal (.bool true) rfl (by kernel_rfl) (rClosed fun _ => by kernel_rfl) ?_)
  refine li rfl ?_
  refine opAlloc [(.int .u64 0), (.slice none 0 0)] rfl rfl (by kernel_rfl) (by kernel_rfl) (fun b10 => ?_)
  refine li rfl (opVal (.pointer none) rfl (by kernel_rfl) (rAssign rfl rfl) ?_)
  refine li rfl ?_
  refine opStoreN 0 [(.int .u64 0), (.slice none 0 0)] (vs := [(.int .u64 0), (.slice none 0 0)]) rfl rfl (by kernel_rfl) rfl rfl rfl (by kernel_rfl) rfl (by simp) (by simp [Value.oneCell']) rfl ?_
  refine li rfl (opVal (.bool true) rfl (by kernel_rfl) (rAssign rfl rfl) ?_)
  refine liNil ?_
  refine qThen ?_
  refine stSeq ?_
  refine stSeq ?_
  refine reg ?_
  refine li rfl (opVal (.bool true) rfl (by kernel_rfl) (rMove rfl rfl) ?_)
  refine li rfl (opVal (.bool false) rfl (by kernel_rfl) (rClosed fun _ => by kernel_rfl) ?_)
  refine li rfl (opVal (.bool false) rfl (by kernel_rfl) (rMove rfl rfl) ?_)
  refine liGo rfl rfl (opVal (.pointer none) rfl (by kernel_rfl) (rMove rfl rfl) ?_)
  refine liGo rfl rfl (opVal (.bool true) rfl (by kernel_rfl) (rClosed fun _ => by kernel_rfl) ?_)
  refine li rfl (opVal (.bool true) rfl (by kernel_rfl) (rClosed fun _ => by kernel_rfl) ?_)
  refine liNil ?_
  refine qThen ?_
  refine stTrue rfl ?_
  refine stSeq ?_
  refine reg ?_
  refine li rfl (opVal (.bool true) rfl (by kernel_rfl) (rMove rfl rfl) ?_)
  refine li rfl (opVal (.bool true) rfl (by kernel_rfl) (rMove rfl rfl) ?_)
  refine liGo rfl rfl ?_
  refine opCall 13 #[] rfl (by kernel_rfl) (fun _ => by kernel_rfl) (fun w hM => ?_)
  refine (awake_any w (HV.out.mm hM)).mono ?_
  rintro e w' ⟨rfl, hf⟩
  have hM' := hM.fr0 hf
  refine ⟨(.bool true), _, rfl, hM', ?_⟩
  clear hM hM' hf
  refine li rfl (opVal (.bool true) rfl (by kernel_rfl) (rClosed fun _ => by kernel_rfl) ?_)
  refine li rfl (opVal (.bool true) rfl (by kernel_rfl) (rAssign rfl rfl) ?_)
  refine liNil ?_
  refine qThen ?_
  refine stRet ?_
  refine qThenR ?_
  refine stEnd [(.bool true)] rfl ⟨rfl, trivial⟩ (fun w hM => ?_)
  exact ⟨rfl, hM.fr⟩

set_option maxRecDepth 100000 in
set_option maxHeartbeats 1000000 in
theorem lawReads_ok (n seed : Nat) (A : Option Addr) (c : Nat) (ops : List BOp) (key : List UInt8) (w : World) (hv : Vars w) (hfew : fewB (n : Int) ops.length = true) (hn : isSz (n : Int) = true) (hu : U64 seed) (hr : RowIn w A (opCells ops)) (hl : ops.length ≤ 1000000) :
    Calls Tryd.prog 12 #[Value.int .i64 (n : Int), .int .u64 (seed : Int), .slice A ops.length c, .string (strOf key)] w fun e w' => e = .returned (.bool true) ∧ Fr [] w w' := by
  have HV := Lib.hid hv
  clear hv
  have HU := Lib.hid hu
  have HR := Lib.hid hr
  clear hu hr
  obtain ⟨T, HT⟩ : ∃ T, Hid (T = runAll (BT.new n seed) ops) := ⟨_, rfl⟩
  have hTl : T.cells.length = n := by rw [HT.out, runAll_len]; simp [BT.new]
  have hTok : T.Ok := by rw [HT.out]; exact (BT.Ok.new n seed HU.out).run ops
  have hsU : decd T.enc = some T := enc_decd hTok (by rw [hTl]; exact hn)
  have hle : T.enc.length ≤ 4294967296 := by have := encTo_len hTok (by rw [hTl]; exact (isSz_bounds hn).2.1) T.cells.length; unfold BT.enc; omega
  refine stEnter (args := [Value.int .i64 (n : Int), .int .u64 (seed : Int), .slice A ops.length c, .string (strOf key)]) [] Tryd.func12 rfl 74 rfl [(0, Value.int .i64 (n : Int)), (1, .int .u64 (seed : Int)), (2, .slice A ops.length c), (3, .string (strOf key))] ⟨rfl, rfl, rfl, rfl, trivial⟩ [] (Mm.start w []) ?_
  refine stSeq ?_
  refine reg ?_
  refine li rfl (opVal (.bool false) rfl (by kernel_rfl) (rAssign rfl rfl) ?_)
  refine liNil ?_
  refine qThen ?_
  refine stSeq ?_
  refine stSeq ?_
  refine reg ?_
  refine li rfl (opVal (.int .i64 ((n : Nat) : Int)) rfl (by kernel_rfl) (rMove rfl rfl) ?_)
  refine li rfl (opVal (.slice A (ops.length) (c)) rfl (by kernel_rfl) (rMove rfl rfl) ?_)
  refine li rfl ?_
  refine opCall 28 #[(.int .i64 ((n : Nat) : Int)), (.slice A (ops.length) (c))] rfl (by kernel_rfl) (fun _ => by kernel_rfl) (fun w hM => ?_)
  refine ((by rw [← hfew]; exact few_any _ _ _ _ w : Calls _ _ _ w fun e w' => e = .returned (.bool true) ∧ Fr [] w w')).mono ?_
  rintro e w' ⟨rfl, hf⟩
  have hM' := hM.fr0 hf
  refine ⟨(.bool true), _, rfl, hM', ?_⟩
  clear hM hM' hf
  refine li rfl (opVal (.bool false) rfl (by kernel_rfl) (rClosed fun _ => by kernel_rfl) ?_)
  refine liNil ?_
  refine qThen ?_
  refine stFalse rfl ?_
  refine stSkip ?_
  refine qThen ?_
  refine stSeq ?_
  refine reg ?_
  refine li rfl (opVal (.int .i64 ((n : Nat) : Int)) rfl (by kernel_rfl) (rMove rfl rfl) ?_)
  refine li rfl (opVal (.int .u64 ((seed : Nat) : Int)) rfl (by kernel_rfl) (rMove rfl rfl) ?_)
  refine li rfl (opVal (.slice A (ops.length) (c)) rfl (by kernel_rfl) (rMove rfl rfl) ?_)
  refine li rfl ?_
  refine opCall 29 #[(.int .i64 ((n : Nat) : Int)), (.int .u64 ((seed : Nat) : Int)), (.slice A (ops.length) (c))] rfl (by kernel_rfl) (fun _ => by kernel_rfl) (fun w hM => ?_)
  refine (by have h := play_any n seed A (c) (ops) w hn (HV.out.mm hM) HU.out (HR.out.fr0 hM.fr) (hl); rw [← HT.out] at h; exact h : Calls _ _ _ w (Played n seed T w)).mono ?_
  rintro e w' ⟨bt, bc, cap, rest, g, rc, rr, rfl, hP⟩
  have hM' := hM.lift hP
  refine ⟨_, _, rfl, hM', ?_⟩
  clear hM hM' hP
  refine li rfl (opVal (.tuple #[(.pointer (some ⟨bt, 0, none⟩)), (.agg #[(.int .u64 ((seed : Nat) : Int)), (.slice (some ⟨g, 0, none⟩) (n) (rc))]), (.bool true)]) rfl (by kernel_rfl) (rMove rfl rfl) ?_)
  refine li rfl (opVal (.pointer (some ⟨bt, 0, none⟩)) rfl (by kernel_rfl) (rClosed fun _ => by kernel_rfl) ?_)
  refine li rfl (opVal (.agg #[(.int .u64 ((seed : Nat) : Int)), (.slice (some ⟨g, 0, none⟩) (n) (rc))]) rfl (by kernel_rfl) (rClosed fun _ => by kernel_rfl) ?_)
  refine li rfl (opVal (.bool true) rfl (by kernel_rfl) (rClosed fun _ => by kernel_rfl) ?_)
  refine li rfl ?_
  refine opAlloc [(.int .u64 0), (.slice none 0 0)] rfl rfl (by kernel_rfl) (by kernel_rfl) (fun b10 => ?_)
  refine li rfl (opVal (.pointer (some ⟨bt, 0, none⟩)) rfl (by kernel_rfl) (rAssign rfl rfl) ?_)
  refine li rfl ?_
  refine opStoreN 2 [(.int .u64 ((seed : Nat) : Int)), (.slice (some ⟨g, 0, none⟩) (n) (rc))] (vs := [(.int .u64 ((seed : Nat) : Int)), (.slice (some ⟨g, 0, none⟩) (n) (rc))]) rfl rfl (by kernel_rfl) rfl rfl rfl (by kernel_rfl) rfl (by simp) (by simp [Value.oneCell']) rfl ?_
  refine li rfl (opVal (.bool true) rfl (by kernel_rfl) (rAssign rfl rfl) ?_)
  refine liNil ?_
  refine qThen ?_
  refine stSeq ?_
  refine stSeq ?_
  refine reg ?_
  refine li rfl (opVal (.bool true) rfl (by kernel_rfl) (rMove rfl rfl) ?_)
  refine li rfl (opVal (.bool false) rfl (by kernel_rfl) (rClosed fun _ => by kernel_rfl) ?_)
  refine li rfl (opVal (.bool false) rfl (by kernel_rfl) (rMove rfl rfl) ?_)
  refine liGo rfl rfl (opVal (.pointer (some ⟨bt, 0, none⟩)) rfl (by kernel_rfl) (rMove rfl rfl) ?_)
  refine liGo rfl rfl (opVal (.bool false) rfl (by kernel_rfl) (rClosed fun _ => by kernel_rfl) ?_)
  refine li rfl (opVal (.bool false) rfl (by kernel_rfl) (rClosed fun _ => by kernel_rfl) ?_)
  refine liNil ?_
  refine qThen ?_
  refine stFalse rfl ?_
  refine stSkip ?_
  refine qThen ?_
  refine stSeq ?_
  refine reg ?_
  refine li rfl (opVal (.pointer (some ⟨bt, 0, none⟩)) rfl (by kernel_rfl) (rMove rfl rfl) ?_)
  refine li rfl ?_
  refine opCall 31 #[(.pointer (some ⟨bt, 0, none⟩))] rfl (by kernel_rfl) (fun _ => by kernel_rfl) (fun w hM => ?_)
  refine (encode_any _ _ _ _ T w (hM.at (i := 0) rfl)).mono ?_
  rintro e w' ⟨v, rfl, hN⟩
  obtain ⟨A39, c39, rfl, hM'⟩ := hM.pushOwn hN.fr hN.own
  refine ⟨_, _, rfl, hM', ?_⟩
  clear hM hN hM'
  refine li rfl ?_
  refine opCall 38 #[(.slice A39 ((T.enc).length) (c39))] rfl (by kernel_rfl) (fun _ => by kernel_rfl) (fun w hM => ?_)
  refine (decode_some A39 c39 T.enc T w (by omega) (rowOwn (i := 3) rfl w hM) hsU).mono ?_
  rintro e w' ⟨bu, bv, capu, restu, rfl, hP⟩
  have hM' := hM.lift hP
  refine ⟨_, _, rfl, hM', ?_⟩
  clear hM hM' hP
  refine li rfl (opVal (.tuple #[(.pointer (some ⟨bu, 0, none⟩)), (.int .i64 0)]) rfl (by kernel_rfl) (rMove rfl rfl) ?_)
  refine li rfl (opVal (.pointer (some ⟨bu, 0, none⟩)) rfl (by kernel_rfl) (rClosed fun _ => by kernel_rfl) ?_)
  refine li rfl (opVal (.int .i64 0) rfl (by kernel_rfl) (rClosed fun _ => by kernel_rfl) ?_)
  refine li rfl (opVal (.pointer (some ⟨bu, 0, none⟩)) rfl (by kernel_rfl) (rAssign rfl rfl) ?_)
  refine li rfl (opVal (.int .i64 0) rfl (by kernel_rfl) (rAssign rfl rfl) ?_)
  refine liNil ?_
  refine qThen ?_
  refine stSeq ?_
  refine stSeq ?_
  refine reg ?_
  refine li rfl (opVal (.int .i64 0) rfl (by kernel_rfl) (rMove rfl rfl) ?_)
  refine li rfl (opVal (.bool false) rfl (by kernel_rfl) (rClosed fun _ => by kernel_rfl) ?_)
  refine li rfl (opVal (.bool false) rfl (by kernel_rfl) (rMove rfl rfl) ?_)
  refine liGo rfl rfl (opVal (.pointer (some ⟨bu, 0, none⟩)) rfl (by kernel_rfl) (rMove rfl rfl) ?_)
  refine liGo rfl rfl (opVal (.bool false) rfl (by kernel_rfl) (rClosed fun _ => by kernel_rfl) ?_)
  refine li rfl (opVal (.bool false) rfl (by kernel_rfl) (rClosed fun _ => by kernel_rfl) ?_)
  refine li rfl (opVal (.bool false) rfl (by kernel_rfl) (rMove rfl rfl) ?_)
  refine liGo rfl rfl (opVal (.pointer (some ⟨bu, 0, none⟩)) rfl (by kernel_rfl) (rMove rfl rfl) ?_)
  refine liGo rfl rfl (opVal (.string (strOf key)) rfl (by kernel_rfl) (rMove rfl rfl) ?_)
  refine liGo rfl rfl ?_
  refine opCall 22 #[(.pointer (some ⟨bu, 0, none⟩)), (.string (strOf key))] rfl (by kernel_rfl) (fun _ => by kernel_rfl) (fun w hM => ?_)
  refine (insCall bu bv capu restu T key w (HV.out.mm hM) (hM.at (i := 4) rfl)).mono ?_
  rintro e w' ⟨rfl, hf, ht⟩
  have hM' := hM.swapTab 4 rfl hf ht
  refine ⟨_, _, rfl, hM', ?_⟩
  clear hM hM' hf ht
  refine liGo rfl rfl (opVal (.pointer (some ⟨bt, 0, none⟩)) rfl (by kernel_rfl) (rMove rfl rfl) ?_)
  refine liGo rfl rfl (opVal (.string (strOf key)) rfl (by kernel_rfl) (rMove rfl rfl) ?_)
  refine liGo rfl rfl ?_
  refine opCall 22 #[(.pointer (some ⟨bt, 0, none⟩)), (.string (strOf key))] rfl (by kernel_rfl) (fun _ => by kernel_rfl) (fun w hM => ?_)
  refine (insCall bt bc cap rest T key w (HV.out.mm hM) (hM.at (i := 0) rfl)).mono ?_
  rintro e w' ⟨rfl, hf, ht⟩
  have hM' := hM.swapTab 0 rfl hf ht
  refine ⟨_, _, rfl, hM', ?_⟩
  clear hM hM' hf ht
  refine liGo rfl rfl (opVal (.bool false) rfl (by kernel_rfl) (rConv (v := .bool (((insR key) : Int) != (insR key))) (rClosed fun _ => by kernel_rfl) (by simp)) ?_)
  refine li rfl (opVal (.bool false) rfl (by kernel_rfl) (rClosed fun _ => by kernel_rfl) ?_)
  refine liNil ?_
  refine qThen ?_
  refine stFalse rfl ?_
  refine stSkip ?_
  refine qThen ?_
  refine stSeq ?_
  refine anyBegin [cTab bt bc cap rest (stepOp T (key, false)), cRTab g rc rr T, cAt b10 53 [(.int .u64 ((seed : Nat) : Int)), (.slice (some ⟨g, 0, none⟩) (n) (rc))], cOwn 5 1 A39 ((T.enc).length) (c39) (B8 (T.enc)), cTab bu bv capu restu (stepOp T (key, false))] 17 (by kernel_rfl) (fun _ h => h) ?_
  refine anyOne (i := 0) (by kernel_rfl) rfl rfl ?_
  refine opCall 13 #[] rfl (by kernel_rfl) (fun _ => by kernel_rfl) (fun w hM => ?_)
  refine (awake_any w (HV.out.mm hM)).mono ?_
  rintro e w' ⟨rfl, hf⟩
  have hM' := hM.fr0 hf
  refine ⟨(.bool true), _, rfl, hM', ?_⟩
  clear hM hM' hf
  refine anyNext [cTab bt bc cap rest (stepOp T (key, false)), cRTab g rc rr T, cAt b10 53 [(.int .u64 ((seed : Nat) : Int)), (.slice (some ⟨g, 0, none⟩) (n) (rc))], cOwn 5 1 A39 ((T.enc).length) (c39) (B8 (T.enc)), cTab bu bv capu restu (stepOp T (key, false))] (fun _ h => h) (fun _ h => h) ?_
  refine anyVal (i := 1) (.bool true) rfl rfl rfl (by kernel_rfl) (by kernel_rfl) (fun _ _ _ h => h) (rMove rfl rfl) ?_
  refine anyValG (i := 2) (.pointer (some ⟨bu, 0, none⟩)) rfl rfl rfl rfl (by kernel_rfl) (by kernel_rfl) (fun _ _ _ h => h) (rMove rfl rfl) ?_
  refine anyValG (i := 4) (.int .i64 ((n : Nat) : Int)) rfl rfl rfl rfl (by kernel_rfl) (by kernel_rfl) (fun _ _ _ h => h) (rMove rfl rfl) ?_
  refine anyOneG (i := 3) (by kernel_rfl) rfl rfl rfl ?_
  refine opCall 35 #[(.pointer (some ⟨bu, 0, none⟩))] rfl (by kernel_rfl) (fun _ => by kernel_rfl) (fun w hM => ?_)
  refine (cells_any _ _ _ _ (stepOp T (key, false)) w (hM.at (i := 4) rfl)).mono ?_
  rintro e w' ⟨rfl, rfl⟩
  refine ⟨_, _, rfl, hM, ?_⟩
  clear hM
  refine anyNext [cTab bt bc cap rest (stepOp T (key, false)), cRTab g rc rr T, cAt b10 53 [(.int .u64 ((seed : Nat) : Int)), (.slice (some ⟨g, 0, none⟩) (n) (rc))], cOwn 5 1 A39 ((T.enc).length) (c39) (B8 (T.enc)), cTab bu bv capu restu (stepOp T (key, false))] (fun _ h => h) (fun _ h => h) ?_
  refine anyValG (i := 5) (.bool true) rfl rfl rfl rfl (by kernel_rfl) (by kernel_rfl) (fun _ _ _ h => h) (rConv (v := .bool ((((stepOp T (key, false)).cells.length : Nat) : Int) == ((n : Nat) : Int))) (rClosed fun _ => by kernel_rfl) (by rw [stepOp_len, hTl]; simp)) ?_
  refine anyVal (i := 6) (.bool true) rfl rfl rfl (by kernel_rfl) (by kernel_rfl) (fun _ _ _ h => h) (rClosed fun _ => by kernel_rfl) ?_
  refine anyVal (i := 7) (.bool true) rfl rfl rfl (by kernel_rfl) (by kernel_rfl) (fun _ _ _ h => h) (rMove rfl rfl) ?_
  refine anyValG (i := 8) (.pointer (some ⟨bu, 0, none⟩)) rfl rfl rfl rfl (by kernel_rfl) (by kernel_rfl) (fun _ _ _ h => h) (rMove rfl rfl) ?_
  refine anyValG (i := 11) (.pointer (some ⟨bt, 0, none⟩)) rfl rfl rfl rfl (by kernel_rfl) (by kernel_rfl) (fun _ _ _ h => h) (rMove rfl rfl) ?_
  refine anyOneG (i := 9) (by kernel_rfl) rfl rfl rfl ?_
  refine opCall 31 #[(.pointer (some ⟨bu, 0, none⟩))] rfl (by kernel_rfl) (fun _ => by kernel_rfl) (fun w hM => ?_)
  refine (encode_any _ _ _ _ (stepOp T (key, false)) w (hM.at (i := 4) rfl)).mono ?_
  rintro e w' ⟨v, rfl, hN⟩
  obtain ⟨A67, c67, rfl, hM'⟩ := hM.pushOwn hN.fr hN.own
  refine ⟨_, _, rfl, hM', ?_⟩
  clear hM hN hM'
  refine anyNext [cTab bt bc cap rest (stepOp T (key, false)), cRTab g rc rr T, cAt b10 53 [(.int .u64 ((seed : Nat) : Int)), (.slice (some ⟨g, 0, none⟩) (n) (rc))], cOwn 5 1 A39 ((T.enc).length) (c39) (B8 (T.enc)), cTab bu bv capu restu (stepOp T (key, false)), cOwn 5 1 A67 (((stepOp T (key, false)).enc).length) (c67) (B8 ((stepOp T (key, false)).enc))] (fun _ h => h.sub (.cons_cons _ (.cons_cons _ (.cons_cons _ (.cons_cons _ (.cons_cons _ (.cons _ .slnil))))))) (fun _ h => h) ?_
  refine anyValG (i := 10) (.string (strOf ((stepOp T (key, false)).enc))) rfl rfl rfl rfl (by kernel_rfl) (by kernel_rfl) (fun _ _ _ h => h) (rStr (e := 5) ((stepOp T (key, false)).enc) rfl (by kernel_rfl) (by kernel_rfl) (by kernel_rfl) rfl rfl (rowOwn (i := 5) rfl)) ?_
  refine anyOneG (i := 12) (by kernel_rfl) rfl rfl rfl ?_
  refine opCall 31 #[(.pointer (some ⟨bt, 0, none⟩))] rfl (by kernel_rfl) (fun _ => by kernel_rfl) (fun w hM => ?_)
  refine (encode_any _ _ _ _ (stepOp T (key, false)) w (hM.at (i := 0) rfl)).mono ?_
  rintro e w' ⟨v, rfl, hN⟩
  obtain ⟨A70, c70, rfl, hM'⟩ := hM.pushOwn hN.fr hN.own
  refine ⟨_, _, rfl, hM', ?_⟩
  clear hM hN hM'
  refine anyNext [cTab bt bc cap rest (stepOp T (key, false)), cRTab g rc rr T, cAt b10 53 [(.int .u64 ((seed : Nat) : Int)), (.slice (some ⟨g, 0, none⟩) (n) (rc))], cOwn 5 1 A39 ((T.enc).length) (c39) (B8 (T.enc)), cTab bu bv capu restu (stepOp T (key, false)), cOwn 5 1 A67 (((stepOp T (key, false)).enc).length) (c67) (B8 ((stepOp T (key, false)).enc)), cOwn 5 1 A70 (((stepOp T (key, false)).enc).length) (c70) (B8 ((stepOp T (key, false)).enc))] (fun _ h => h.sub (.cons_cons _ (.cons_cons _ (.cons_cons _ (.cons_cons _ (.cons_cons _ (.cons_cons _ (.cons _ .slnil)))))))) (fun _ h => h) ?_
  refine anyValG (i := 13) (.string (strOf ((stepOp T (key, false)).enc))) rfl rfl rfl rfl (by kernel_rfl) (by kernel_rfl) (fun _ _ _ h => h) (rStr (e := 5) ((stepOp T (key, false)).enc) rfl (by kernel_rfl) (by kernel_rfl) (by kernel_rfl) rfl rfl (rowOwn (i := 6) rfl)) ?_
  refine anyValG (i := 14) (.bool true) rfl rfl rfl rfl (by kernel_rfl) (by kernel_rfl) (fun _ _ _ h => h) (rConv (rStrEq rfl rfl rfl) (by simp)) ?_
  refine anyVal (i := 15) (.bool true) rfl rfl rfl (by kernel_rfl) (by kernel_rfl) (fun _ _ _ h => h) (rClosed fun _ => by kernel_rfl) ?_
  refine anyVal (i := 16) (.bool true) rfl rfl rfl (by kernel_rfl) (by kernel_rfl) (fun _ _ _ h => h) (rAssign rfl rfl) ?_
  refine anyDone (by kernel_rfl) ?_
  refine qThen ?_
  refine stRet ?_
  refine stEnd [(.bool true)] rfl ⟨rfl, trivial⟩ (fun w hM => ?_)
  exact ⟨rfl, hM.fr⟩

theorem lawDecodes_any (A : Option Addr) (c : Nat) (D : List UInt8) (w : World) (hv : Vars w) (hr : RowIn w A (B8 D)) :
    Calls Tryd.prog 11 #[.slice A D.length c] w fun e w' => e = .returned (.bool true) ∧ Fr [] w w' := by
  rcases Nat.lt_or_ge 4000 D.length with hD | hD
  · exact lawDecodes_big A c D w hv hD
  · cases h : decd D with
    | none => exact lawDecodes_bad A c D w hv hr hD h
    | some U => exact lawDecodes_ok A c D w hv hr hD U h
theorem lawReads_any (m : Int) (seed : Nat) (A : Option Addr) (c : Nat) (ops : List BOp) (key : List UInt8) (w : World) (hv : Vars w) (hu : U64 seed) (hr : RowIn w A (opCells ops)) :
    Calls Tryd.prog 12 #[Value.int .i64 m, .int .u64 (seed : Int), .slice A ops.length c, .string (strOf key)] w fun e w' => e = .returned (.bool true) ∧ Fr [] w w' := by
  cases hfew : fewB m ops.length with
  | false => exact lawReads_big m seed A c ops key w hv hfew
  | true =>
    cases hm : isSz m with
    | false => exact lawReads_bad m seed A c ops key w hv hfew hm
    | true =>
      obtain ⟨n, rfl⟩ := isSz_nat hm
      exact lawReads_ok n seed A c ops key w hv hfew hm hu hr (few_len hfew)
end Go.Proofs.YtnhagokkamobaaaDoor
