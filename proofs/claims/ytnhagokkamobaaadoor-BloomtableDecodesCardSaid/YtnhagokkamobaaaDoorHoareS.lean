/- Comparisons of strings in the words of the logic for walks. No condition. -/
import Derived.Test.YtnhagokkamobaaaDoorHoare
import Derived.Sort.Walk0
namespace Go.Proofs.YtnhagokkamobaaaDoor
open Go.RowKit

section
variable {P : Program} {w0 : World} {F : List Nat} {E : Env} {cs : List Ch} {o : Oper}
theorem rStrLt {ty u : TypeId} {x y : Operand} {p q : List UInt8} (ho : o.op = .binOp .lss ty x y u) (hx : evO E x = some (.string (strOf p))) (hy : evO E y = some (.string (strOf q))) : RunV P w0 F cs E o (.bool (decide (p < q))) := fun w _ => by
  unfold execOp
  simp only [ho, evE_of hx, evE_of hy, Sem.run_bind, eqGuard, binOp, Op.stringOp, strOf_toList, bytesLess_eq]
  simp
theorem rStrGe {ty u : TypeId} {x y : Operand} {p q : List UInt8} (ho : o.op = .binOp .geq ty x y u) (hx : evO E x = some (.string (strOf p))) (hy : evO E y = some (.string (strOf q))) : RunV P w0 F cs E o (.bool (!decide (p < q))) := fun w _ => by
  unfold execOp
  simp only [ho, evE_of hx, evE_of hy, Sem.run_bind, eqGuard, binOp, Op.stringOp, strOf_toList, bytesLess_eq]
  simp
theorem rStrLe {ty u : TypeId} {x y : Operand} {p q : List UInt8} (ho : o.op = .binOp .leq ty x y u) (hx : evO E x = some (.string (strOf p))) (hy : evO E y = some (.string (strOf q))) : RunV P w0 F cs E o (.bool (decide (p < q) || decide (p = q))) := fun w _ => by
  unfold execOp
  simp only [ho, evE_of hx, evE_of hy, Sem.run_bind, eqGuard, binOp, Op.stringOp, strOf_toList, beqL, bytesLess_eq]
  simp
theorem rStrGt {ty u : TypeId} {x y : Operand} {p q : List UInt8} (ho : o.op = .binOp .gtr ty x y u) (hx : evO E x = some (.string (strOf p))) (hy : evO E y = some (.string (strOf q))) : RunV P w0 F cs E o (.bool (!(decide (p < q) || decide (p = q)))) := fun w _ => by
  unfold execOp
  simp only [ho, evE_of hx, evE_of hy, Sem.run_bind, eqGuard, binOp, Op.stringOp, strOf_toList, beqL, bytesLess_eq]
  simp
theorem run_bound {k y : Nat} {kd : IntKind} (code : BoundsCode) (h : k ≤ y) (w : World) : (Instr.sliceBound (.int kd (k : Int)) y code).run P w = .ok k w := by
  simp only [Instr.sliceBound, asIntOf, Sem.run_bind, Sem.run_pure, Result.andThen_ok]
  rw [if_pos (by omega)]
  simp
theorem map_add0 (A : Option Addr) : A.map (fun x => x.add 0) = A := by cases A <;> simp [Addr.add]
theorem rSliceHi {ty e : TypeId} {x h : Operand} {A : Option Addr} {n c k : Nat} {kd : IntKind} (ho : o.op = .slice ty x none (some h) none) (hu : P.underlying ty = some (.slice e)) (hs : (sizeT P e).isSome = true) (hx : evO E x = some (.slice A n c)) (hh : evO E h = some (.int kd (k : Int))) (hk : k ≤ c) : RunV P w0 F cs E o (.slice A k c) := fun w _ => by
  obtain ⟨sz, hsz⟩ := Option.isSome_iff_exists.1 hs
  unfold execOp
  cases hq : P.info? e with
  | none => simp [sizeT, hq] at hsz
  | some i =>
    simp only [ho, evE_of hx, Option.map_some, Option.map_none, evE_of hh, Instr.sliceAt, Instr.slice, Instr.sliceBounds, Sem.run_bind, Sem.run_pure, Result.andThen_ok, run_underlying hu, run_bound _ hk, sizeOf, typeInfo]
    simp [hq, map_add0]
theorem rSliceLo {ty e : TypeId} {x l : Operand} {A : Option Addr} {n c k sz : Nat} {kd : IntKind} (ho : o.op = .slice ty x (some l) none none) (hu : P.underlying ty = some (.slice e)) (hs : sizeT P e = some sz) (hx : evO E x = some (.slice A n c)) (hl : evO E l = some (.int kd (k : Int))) (hk : k ≤ n) : RunV P w0 F cs E o (.slice (if c = k then A else A.map (·.add (k * sz))) (n - k) (c - k)) := fun w _ => by
  unfold execOp
  cases hq : P.info? e with
  | none => simp [sizeT, hq] at hs
  | some i =>
    have hi : i.size = sz := by simpa [sizeT, hq] using hs
    simp only [ho, evE_of hx, Option.map_some, Option.map_none, evE_of hl, Instr.sliceAt, Instr.slice, Instr.sliceBounds, Sem.run_bind, Sem.run_pure, Result.andThen_ok, run_underlying hu, run_bound _ hk, sizeOf, typeInfo]
    simp [hq, hi]
theorem rSliceLH {ty e : TypeId} {x l h : Operand} {A : Option Addr} {n c k m sz : Nat} {kd kh : IntKind} (ho : o.op = .slice ty x (some l) (some h) none) (hu : P.underlying ty = some (.slice e)) (hs : sizeT P e = some sz) (hx : evO E x = some (.slice A n c)) (hl : evO E l = some (.int kd (k : Int))) (hh : evO E h = some (.int kh (m : Int))) (hk : k ≤ m) (hm : m ≤ c) : RunV P w0 F cs E o (.slice (if c = k then A else A.map (·.add (k * sz))) (m - k) (c - k)) := fun w _ => by
  unfold execOp
  cases hq : P.info? e with
  | none => simp [sizeT, hq] at hs
  | some i =>
    have hi : i.size = sz := by simpa [sizeT, hq] using hs
    simp only [ho, evE_of hx, Option.map_some, Option.map_none, evE_of hl, evE_of hh, Instr.sliceAt, Instr.slice, Instr.sliceBounds, Sem.run_bind, Sem.run_pure, Result.andThen_ok, run_underlying hu, run_bound _ hk, run_bound _ hm, sizeOf, typeInfo]
    simp [hq, hi]
theorem srcDrop {w : World} {A : Option Addr} {xs : List Value} {c k : Nat} (h : RowIn w A xs) (hc : xs.length ≤ c) : CellsAt w (if c = k then A else A.map (·.add (k * 1))) (xs.drop k) := by
  intro j u hu
  rw [List.getElem?_drop] at hu
  have hlt := (List.getElem?_eq_some_iff.1 hu).1
  obtain ⟨b, o, hA, _, hcell⟩ := h _ _ hu
  rw [if_neg (by omega), hA]
  refine ⟨_, rfl, ?_⟩
  show w.cell? (((⟨b, o, none⟩ : Addr).add (k * 1)).add j) = some u
  rw [Nat.mul_one, add_none, add_none, Nat.add_assoc]
  exact hcell
theorem srcTake {w : World} {A : Option Addr} {xs : List Value} (h : RowIn w A xs) (k : Nat) : CellsAt w A (xs.take k) := by
  intro j u hu
  obtain ⟨b, o, hA, _, hcell⟩ := h j u (by
    rw [List.getElem?_take] at hu
    split at hu
    · exact hu
    · cases hu)
  exact ⟨_, hA, by rw [add_none]; exact hcell⟩
end
end Go.Proofs.YtnhagokkamobaaaDoor
