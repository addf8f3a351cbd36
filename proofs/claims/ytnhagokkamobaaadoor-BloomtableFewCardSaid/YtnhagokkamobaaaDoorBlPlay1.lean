/- Contracts: Empty of the reference; few. -/
import Derived.Test.YtnhagokkamobaaaDoorBlCh
namespace Go.Proofs.YtnhagokkamobaaaDoor
open Go.RowKit

theorem run_neqRCell (c : BC) (hc : c.keys.length = 32) (w : World) : (binOp .neq 95 (.agg c.cells.toArray) (.agg BC.zero.cells.toArray)).run Tryd.prog w = .ok (.bool (!c.isZero)) w :=
  run_neqCells 95 3 83 25 5 "Count" "Keys" "Checks" (by decide) (by decide) (by decide) (by kernel_rfl) (by kernel_rfl) (by kernel_rfl) Tryd.underlying3 Tryd.underlying83 Tryd.underlying25 Tryd.underlying5 (fun w => by kernel_rfl) (fun w => by kernel_rfl) c BC.zero hc rfl w
theorem rNeqCell {P : Program} {w0 : World} {F : List Nat} {cs : List Ch} {E : Env} {o : Oper} {ty u : TypeId} {x y : Operand} {a b v : Value} (ho : o.op = .binOp .neq ty x y u) (hx : evO E x = some a) (hy : evO E y = some b) (hr : ∀ w, (binOp .neq ty a b).run P w = .ok v w) (hg : ∀ w, (eqGuard .neq ty x y a b).run P w = .ok () w := by intro w; kernel_rfl) : RunV P w0 F cs E o v := fun w _ => by
  unfold execOp
  simp only [ho, evE_of hx, evE_of hy, Sem.run_bind, hg, hr, Sem.run_pure, Result.andThen_ok]

set_option maxRecDepth 100000 in
theorem refEmpty_any (g cap : Nat) (rest : List Value) (t : BT) (w : World) (ht : RTab w g cap rest t) :
    Calls Tryd.prog 36 #[.agg #[.int .u64 (t.seed : Int), .slice (some ⟨g, 0, none⟩) t.cells.length cap]] w fun e w' => e = .returned (.bool t.empty) ∧ Fr [] w w' := by
  obtain ⟨n, HN⟩ : ∃ n, Hid (n = t.cells.length) := ⟨_, rfl⟩
  obtain ⟨seed, HS⟩ : ∃ seed, Hid (seed = t.seed) := ⟨_, rfl⟩
  have n4 : n ≤ 3072 := by rw [HN.out]; exact (isSz_bounds ht.size).2.1
  rw [← HN.out, ← HS.out]
  have HT := Lib.hid ht
  clear ht
  refine stEnter (args := [(.agg #[(.int .u64 ((seed : Nat) : Int)), (.slice (some ⟨g, 0, none⟩) (n) (cap))])]) [] Tryd.func36 rfl 18 rfl [(0, (.agg #[(.int .u64 ((seed : Nat) : Int)), (.slice (some ⟨g, 0, none⟩) (n) (cap))]))] ⟨rfl, trivial⟩ [] (Mm.start w []) ?_
  refine stSeq ?_
  refine reg ?_
  refine li rfl ?_
  refine opBox [(.int .u64 ((seed : Nat) : Int)), (.slice (some ⟨g, 0, none⟩) (n) (cap))] rfl rfl (by kernel_rfl) rfl rfl (fun b1 => ?_)
  refine li rfl (opVal (.bool false) rfl (by kernel_rfl) (rAssign rfl rfl) ?_)
  refine liNil ?_
  refine qThen ?_
  refine stSeq ?_
  refine stSeq ?_
  refine reg ?_
  refine li rfl (opVal (.int .i64 0) rfl (by kernel_rfl) (rAssign rfl rfl) ?_)
  refine liNil ?_
  refine qThen ?_
  refine stBlock ?_
  refine stLoop (ι := Nat) (fun i => i ≤ n ∧ (t.cells.take i).all BC.isZero = true) (fun i => n - i) (fun i => [(1, (.pointer (some ⟨b1, 0, none⟩))), (3, (.int .i64 ((i : Nat) : Int)))]) (fun i => [cAt b1 53 [(.int .u64 ((seed : Nat) : Int)), (.slice (some ⟨g, 0, none⟩) (n) (cap))]]) 0 ⟨by omega, by simp⟩ ⟨rfl, rfl, trivial⟩ (fun _ h => h) ?_
  intro i hok
  show St _ _ _ [(1, (.pointer (some ⟨b1, 0, none⟩))), (3, (.int .i64 ((i : Nat) : Int)))] [cAt b1 53 [(.int .u64 ((seed : Nat) : Int)), (.slice (some ⟨g, 0, none⟩) (n) (cap))]] _
  refine stSeq ?_
  refine stSeq ?_
  refine reg ?_
  refine li rfl (opVal (.int .i64 ((i : Nat) : Int)) rfl (by kernel_rfl) (rMove rfl rfl) ?_)
  refine li rfl (opVal (.pointer (some ⟨b1, 1, none⟩)) rfl (by kernel_rfl) (rClosed fun _ => by kernel_rfl) ?_)
  refine li rfl (opVal (.slice (some ⟨g, 0, none⟩) (n) (cap)) rfl (by kernel_rfl) (rLoad 0 rfl rfl (by kernel_rfl) rfl rfl) ?_)
  refine li rfl (opVal (.int .i64 ((n : Nat) : Int)) rfl (by kernel_rfl) (rClosed fun _ => by kernel_rfl) ?_)
  refine li rfl (opVal (.bool (decide (((i : Nat) : Int) < ((n : Nat) : Int)))) rfl (by kernel_rfl) (rClosed fun _ => by kernel_rfl) ?_)
  refine liNil ?_
  refine qThen ?_
  refine stCond rfl (fun hc8 => ?_) (fun hc8 => ?_)
  · have hd8 := of_decide_eq_true hc8
    have hle := hok.1
    obtain ⟨cc, hc⟩ : ∃ cc, t.cells[i]? = some cc := ⟨_, List.getElem?_eq_getElem (by rw [← HN.out]; omega)⟩
    have hlt : i < n := by omega
    have hcok := HT.out.ok.cells cc (List.mem_of_getElem? hc)
    have hclen := BC.cells_len hcok
    refine stSkip ?_
    refine qThen ?_
    refine stSeq ?_
    refine stBlock ?_
    refine stSeq ?_
    refine reg ?_
    refine li rfl (opVal (.pointer (some ⟨b1, 1, none⟩)) rfl (by kernel_rfl) (rClosed fun _ => by kernel_rfl) ?_)
    refine li rfl (opVal (.slice (some ⟨g, 0, none⟩) (n) (cap)) rfl (by kernel_rfl) (rLoad 0 rfl rfl (by kernel_rfl) rfl rfl) ?_)
    refine li rfl (opVal (.int .i64 ((i : Nat) : Int)) rfl (by kernel_rfl) (rMove rfl rfl) ?_)
    refine li rfl (opVal (.pointer (some ⟨g, 0 + i * 34, none⟩)) rfl (by kernel_rfl) (rIndexAddr (e := 95) (sz := 34) rfl (by kernel_rfl) (by kernel_rfl) rfl rfl (by omega)) ?_)
    refine li rfl (opVal (.agg (cc.cells).toArray) rfl (by kernel_rfl) (rLoadA cc.cells rfl rfl (by kernel_rfl) (by rw [hclen]; kernel_rfl) (fun w hM j v hj => by rw [Nat.zero_add]; exact hM.old (refCell HT.out hc j v hj) (by simp))) ?_)
    refine li rfl (opVal (.agg BC.zero.cells.toArray) rfl (by kernel_rfl) (rClosed fun _ => by kernel_rfl) ?_)
    refine li rfl (opVal (.bool (!cc.isZero)) rfl (by kernel_rfl) (rNeqCell rfl rfl rfl (run_neqRCell cc hcok.keys)) ?_)
    refine liNil ?_
    refine qThen ?_
    refine stCond rfl (fun hc17 => ?_) (fun hc17 => ?_)
    · have hem : t.empty = false := by unfold BT.empty; rw [List.all_eq_false]; exact ⟨cc, List.mem_of_getElem? hc, by simpa using hc17⟩
      refine stSeq ?_
      refine reg ?_
      refine li rfl (opVal (.bool false) rfl (by kernel_rfl) (rAssign rfl rfl) ?_)
      refine liNil ?_
      refine qThen ?_
      refine stRet ?_
      refine qBlockR ?_
      refine qThenR ?_
      refine qThenR ?_
      refine qBlockR ?_
      refine qThenR ?_
      refine stEnd [(.bool false)] rfl ⟨rfl, trivial⟩ (fun w hM => ?_)
      exact ⟨by rw [hem]; rfl, hM.fr⟩
    · refine stSkip ?_
      refine qBlock ?_
      refine qThen ?_
      refine reg ?_
      refine li rfl (opVal (.int .i64 ((i : Nat) : Int)) rfl (by kernel_rfl) (rMove rfl rfl) ?_)
      refine li rfl (opVal (.int .i64 ((i + 1 : Nat) : Int)) rfl (by kernel_rfl) (rAdd _ rfl rfl rfl (by omega) (by omega) (by omega)) ?_)
      refine li rfl (opVal (.int .i64 ((i + 1 : Nat) : Int)) rfl (by kernel_rfl) (rAssign rfl rfl) ?_)
      refine liNil ?_
      refine qThen ?_
      exact stAgain (i + 1) ⟨by show _ ≤ _; omega, all_take_succ hc hok.2 (by simpa using hc17)⟩ (by show n - (i + 1) < n - i; omega) ⟨rfl, rfl, trivial⟩ (fun _ h => h)
  · have hd8 := of_decide_eq_false hc8
    have hle := hok.1
    have hia : i = n := by omega
    have hall : t.empty = true := by
      have h2 := hok.2
      rw [hia, HN.out, List.take_length] at h2
      exact h2
    refine stExit ?_
    refine qThenX ?_
    refine qThenX ?_
    refine qBlockX ?_
    refine qThen ?_
    refine stSeq ?_
    refine reg ?_
    refine li rfl (opVal (.bool true) rfl (by kernel_rfl) (rAssign rfl rfl) ?_)
    refine liNil ?_
    refine qThen ?_
    refine stRet ?_
    refine stEnd [(.bool true)] rfl ⟨rfl, trivial⟩ (fun w hM => ?_)
    exact ⟨by rw [hall]; rfl, hM.fr⟩

def fewB (m : Int) (k : Nat) : Bool := (decide (m ≤ 60) || !isSz m) && decide ((k : Int) ≤ 20)
set_option maxRecDepth 100000 in
theorem few_any (m : Int) (A : Option Addr) (k c : Nat) (w : World) : Calls Tryd.prog 28 #[Value.int .i64 m, .slice A k c] w fun e w' => e = .returned (.bool (fewB m k)) ∧ Fr [] w w' := by
  refine stEnter (args := [Value.int .i64 m, .slice A k c]) [] Tryd.func28 rfl 17 rfl [(0, Value.int .i64 m), (1, .slice A k c)] ⟨rfl, rfl, trivial⟩ [] (Mm.start w []) ?_
  refine stSeq ?_
  refine reg ?_
  refine li rfl (opVal (.bool false) rfl (by kernel_rfl) (rAssign rfl rfl) ?_)
  refine liNil ?_
  refine qThen ?_
  refine stSeq ?_
  refine reg ?_
  refine li rfl (opVal (.int .i64 m) rfl (by kernel_rfl) (rMove rfl rfl) ?_)
  refine li rfl (opVal (.bool (decide ((m : Int) ≤ 60))) rfl (by kernel_rfl) (rClosed fun _ => by kernel_rfl) ?_)
  refine li rfl (opVal (.bool (decide ((m : Int) ≤ 60))) rfl (by kernel_rfl) (rMove rfl rfl) ?_)
  refine St.dec 7 rfl (fun hc7 => ?_) (fun hc7 => ?_)
  · have hd7 := of_decide_eq_true hc7
    refine liNot (b := true) rfl rfl (by kernel_rfl) rfl ?_
    refine liNot (b := true) rfl rfl (by kernel_rfl) rfl ?_
    refine liNot (b := true) rfl rfl (by kernel_rfl) rfl ?_
    refine li rfl (opVal (.bool true) rfl (by kernel_rfl) (rClosed fun _ => by kernel_rfl) ?_)
    refine li rfl (opVal (.bool true) rfl (by kernel_rfl) (rMove rfl rfl) ?_)
    refine liGo rfl rfl (opVal (.slice A (k) (c)) rfl (by kernel_rfl) (rMove rfl rfl) ?_)
    refine liGo rfl rfl (opVal (.int .i64 ((k : Nat) : Int)) rfl (by kernel_rfl) (rClosed fun _ => by kernel_rfl) ?_)
    refine liGo rfl rfl (opVal (.bool (decide (((k : Nat) : Int) ≤ 20))) rfl (by kernel_rfl) (rClosed fun _ => by kernel_rfl) ?_)
    refine li rfl (opVal (.bool (decide (((k : Nat) : Int) ≤ 20))) rfl (by kernel_rfl) (rClosed fun _ => by kernel_rfl) ?_)
    refine li rfl (opVal (.bool (decide (((k : Nat) : Int) ≤ 20))) rfl (by kernel_rfl) (rAssign rfl rfl) ?_)
    refine liNil ?_
    refine qThen ?_
    refine stRet ?_
    refine stEnd [(.bool (decide (((k : Nat) : Int) ≤ 20)))] rfl ⟨rfl, trivial⟩ (fun w hM => ?_)
    exact ⟨by simp_all [fewB, tupleOf] <;> omega, hM.fr⟩
  · have hd7 := of_decide_eq_false hc7
    refine liGo rfl rfl (opVal (.int .i64 m) rfl (by kernel_rfl) (rMove rfl rfl) ?_)
    refine liGo rfl rfl ?_
    refine opCall 16 #[(.int .i64 m)] rfl (by kernel_rfl) (fun _ => by kernel_rfl) (fun w hM => ?_)
    refine (valid_any m w).mono ?_
    rintro e w' ⟨rfl, rfl⟩
    refine ⟨(.bool (isSz m)), _, rfl, hM, ?_⟩
    clear hM
    refine liGo rfl rfl (opVal (.bool (!(isSz m))) rfl (by kernel_rfl) (rClosed fun _ => by kernel_rfl) ?_)
    refine li rfl (opVal (.bool (!(isSz m))) rfl (by kernel_rfl) (rClosed fun _ => by kernel_rfl) ?_)
    refine li rfl (opVal (.bool (!(isSz m))) rfl (by kernel_rfl) (rMove rfl rfl) ?_)
    refine St.dec 12 rfl (fun hc12 => ?_) (fun hc12 => ?_)
    · refine liGo rfl rfl (opVal (.slice A (k) (c)) rfl (by kernel_rfl) (rMove rfl rfl) ?_)
      refine liGo rfl rfl (opVal (.int .i64 ((k : Nat) : Int)) rfl (by kernel_rfl) (rClosed fun _ => by kernel_rfl) ?_)
      refine liGo rfl rfl (opVal (.bool (decide (((k : Nat) : Int) ≤ 20))) rfl (by kernel_rfl) (rClosed fun _ => by kernel_rfl) ?_)
      refine li rfl (opVal (.bool (decide (((k : Nat) : Int) ≤ 20))) rfl (by kernel_rfl) (rClosed fun _ => by kernel_rfl) ?_)
      refine li rfl (opVal (.bool (decide (((k : Nat) : Int) ≤ 20))) rfl (by kernel_rfl) (rAssign rfl rfl) ?_)
      refine liNil ?_
      refine qThen ?_
      refine stRet ?_
      refine stEnd [(.bool (decide (((k : Nat) : Int) ≤ 20)))] rfl ⟨rfl, trivial⟩ (fun w hM => ?_)
      exact ⟨by simp_all [fewB, tupleOf] <;> omega, hM.fr⟩
    · refine liNot (b := false) rfl rfl (by kernel_rfl) rfl ?_
      refine liNot (b := false) rfl rfl (by kernel_rfl) rfl ?_
      refine liNot (b := false) rfl rfl (by kernel_rfl) rfl ?_
      refine li rfl (opVal (.bool false) rfl (by kernel_rfl) (rClosed fun _ => by kernel_rfl) ?_)
      refine li rfl (opVal (.bool false) rfl (by kernel_rfl) (rAssign rfl rfl) ?_)
      refine liNil ?_
      refine qThen ?_
      refine stRet ?_
      refine stEnd [(.bool false)] rfl ⟨rfl, trivial⟩ (fun w hM => ?_)
      exact ⟨by simp_all [fewB, tupleOf] <;> omega, hM.fr⟩

end Go.Proofs.YtnhagokkamobaaaDoor
