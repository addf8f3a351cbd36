/- Lists of calls on a table, in plain Lean. -/
import Derived.Test.YtnhagokkamobaaaDoorBlPlain
import Derived.Test.YtnhagokkamobaaaDoorSha5
namespace Go.Proofs.YtnhagokkamobaaaDoor
open Go.RowKit

abbrev BOp := List UInt8 × Bool
def stepOp (t : BT) (o : BOp) : BT := if o.1.length = 32 then t.change o.1 (if o.2 then -1 else 1) else t
def runTo (t : BT) (ops : List BOp) (i : Nat) : BT := (ops.take i).foldl stepOp t
def runAll (t : BT) (ops : List BOp) : BT := ops.foldl stepOp t
theorem runTo_zero (t : BT) (ops : List BOp) : runTo t ops 0 = t := by simp [runTo]
theorem runTo_succ (t : BT) {ops : List BOp} {i : Nat} {o : BOp} (h : ops[i]? = some o) : runTo t ops (i + 1) = stepOp (runTo t ops i) o := by
  obtain ⟨h1, e1⟩ := List.getElem?_eq_some_iff.1 h
  unfold runTo
  rw [List.take_succ_eq_append_getElem h1, e1, List.foldl_append]
  rfl
theorem runTo_all (t : BT) (ops : List BOp) : runTo t ops ops.length = runAll t ops := by simp [runTo, runAll]
theorem change_len (t : BT) (key : List UInt8) (num : Int) : (t.change key num).cells.length = t.cells.length := by rw [← BT.atN_three, BT.atN_len]
theorem change_seed (t : BT) (key : List UInt8) (num : Int) : (t.change key num).seed = t.seed := by rw [← BT.atN_three, BT.atN_seed]
theorem stepOp_len (t : BT) (o : BOp) : (stepOp t o).cells.length = t.cells.length := by
  unfold stepOp; split
  · exact change_len _ _ _
  · rfl
theorem stepOp_seed (t : BT) (o : BOp) : (stepOp t o).seed = t.seed := by
  unfold stepOp; split
  · exact change_seed _ _ _
  · rfl
theorem runAll_len (ops : List BOp) : ∀ t : BT, (runAll t ops).cells.length = t.cells.length := by
  induction ops with
  | nil => intro t; rfl
  | cons o ops ih => intro t; show (runAll (stepOp t o) ops).cells.length = _; rw [ih, stepOp_len]
theorem runAll_seed (ops : List BOp) : ∀ t : BT, (runAll t ops).seed = t.seed := by
  induction ops with
  | nil => intro t; rfl
  | cons o ops ih => intro t; show (runAll (stepOp t o) ops).seed = _; rw [ih, stepOp_seed]
theorem runTo_len (t : BT) (ops : List BOp) (i : Nat) : (runTo t ops i).cells.length = t.cells.length := runAll_len _ t
theorem runTo_seed (t : BT) (ops : List BOp) (i : Nat) : (runTo t ops i).seed = t.seed := runAll_seed _ t

def opCells (ops : List BOp) : List Value := ops.flatMap fun o => [S8v o.1, .bool o.2]
theorem opCells_len (ops : List BOp) : (opCells ops).length = ops.length * 2 := by
  induction ops with
  | nil => rfl
  | cons o ops ih => simp only [opCells, List.flatMap_cons, List.length_append, List.length_cons, List.length_nil]; simp only [opCells] at ih; omega
theorem opCells_get {ops : List BOp} : ∀ {i : Nat} {o : BOp}, ops[i]? = some o → (opCells ops)[i * 2]? = some (S8v o.1) ∧ (opCells ops)[i * 2 + 1]? = some (.bool o.2) := by
  induction ops with
  | nil => intro i o h; simp at h
  | cons p ops ih =>
    intro i o h
    cases i with
    | zero => simp at h; subst h; simp [opCells]
    | succ i =>
      have := ih (by simpa using h)
      simp only [opCells, List.flatMap_cons] at this ⊢
      rw [show (i + 1) * 2 = i * 2 + 2 by omega, show i * 2 + 2 + 1 = (i * 2 + 1) + 2 by omega]
      simpa using this
end Go.Proofs.YtnhagokkamobaaaDoor
