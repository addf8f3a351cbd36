/- A struct or an array by value, stored into a block that is known whole. -/
import Derived.Test.YtnhagokkamobaaaDoorLaws3
namespace Go.Proofs.YtnhagokkamobaaaDoor
open Go.RowKit

section
variable {P : Program}

theorem run_storeVar_at (w : World) (b off : Nat) (ty t : TypeId) (l cs : List Value) (hat : At w b t l) (hfit : off + cs.length ≤ l.length) (hi : (P.info? ty).map (·.size) = some cs.length) (h1 : ∀ v ∈ cs, v.oneCell' = true) :
    ∃ w', (storeVar ty ⟨b, off, none⟩ (.agg cs.toArray)).run P w = .ok () w' ∧ Fr [b] w w' ∧ At w' b t (l.take off ++ cs ++ l.drop (off + cs.length)) := by
  have := run_storeCells_at (P := P) b off t cs 0 l.toArray w hat (by simpa using hfit) h1
  simp only [Nat.add_zero] at this
  refine ⟨_, ?_, Fr.setRow _ _ _, hat.setRow _⟩
  cases hq : P.info? ty with
  | none => simp [hq] at hi
  | some i =>
    have hs : i.size = cs.length := by simpa [hq] using hi
    simp [storeVar, sizeOf, typeInfo, hq, Value.cells, hs, this]

theorem wp_store_at {o : Oper} {a : Act} {w : World} {K : Act → World → Prop} {Q : Exit → Act → World → Prop} (ty : TypeId) (x y : Operand) (ho : o.op = .store ty x y)
    (b off : Nat) (hx : a.eval x = .pointer (some ⟨b, off, none⟩)) (t : TypeId) (l cs : List Value) (hy : a.eval y = .agg cs.toArray) (hat : At w b t l) (hfit : off + cs.length ≤ l.length) (hi : (P.info? ty).map (·.size) = some cs.length) (h1 : ∀ v ∈ cs, v.oneCell' = true)
    (l' : List Value) (hl' : l' = l.take off ++ cs ++ l.drop (off + cs.length)) (h : ∀ w', Fr [b] w w' → At w' b t l' → K (a.put o.dst undef) w') : o.wp P a w K Q := by
  subst hl'
  obtain ⟨w', hrun, hf, ha⟩ := run_storeVar_at w b off ty t l cs hat hfit hi h1
  unfold Oper.wp execOp
  simp only [ho, hx, hy, Instr.storeAt, Instr.sureAddr, Sem.run_bind, Sem.run_pure, Result.andThen_ok, hrun]
  exact h w' hf ha

theorem wpList_store_at {ops : Array Oper} {rest : List Oper} {o : Oper} {a : Act} {w : World} {Q : Exit → Act → World → Prop} (hgd : o.guard = none) (ty : TypeId) (x y : Operand) (ho : o.op = .store ty x y)
    (b off : Nat) (hx : a.eval x = .pointer (some ⟨b, off, none⟩)) (t : TypeId) (l cs : List Value) (hy : a.eval y = .agg cs.toArray) (hat : At w b t l) (hfit : off + cs.length ≤ l.length) (hi : (P.info? ty).map (·.size) = some cs.length) (h1 : ∀ v ∈ cs, v.oneCell' = true)
    (l' : List Value) (hl' : l' = l.take off ++ cs ++ l.drop (off + cs.length)) (h : ∀ w', Fr [b] w w' → At w' b t l' → wpList P ops Q rest (a.put o.dst undef) w') : wpList P ops Q (o :: rest) a w :=
  wpList_plain hgd fun _ hK => wp_store_at ty x y ho b off hx t l cs hy hat hfit hi h1 l' hl' fun w' hf ha => hK _ _ (h w' hf ha)

/-- .. into the block that was made last. -/
theorem wpList_store_new {ops : Array Oper} {rest : List Oper} {o : Oper} {a : Act} {w : World} {Q : Exit → Act → World → Prop} (hgd : o.guard = none) (ty : TypeId) (x y : Operand) (ho : o.op = .store ty x y)
    (hx : a.eval x = .pointer (some ⟨w.heap.size, 0, none⟩)) (t : TypeId) (z : Array Value) (cs : List Value) (hy : a.eval y = .agg cs.toArray) (hz : z.size = cs.length) (hi : (P.info? ty).map (·.size) = some cs.length) (h1 : ∀ v ∈ cs, v.oneCell' = true)
    (h : ∀ w', Fr [] w w' → At w' w.heap.size t cs → wpList P ops Q rest (a.put o.dst undef) w') : wpList P ops Q (o :: rest) a (w.alloc (.cells z t)) := by
  refine wpList_store_at hgd ty x y ho w.heap.size 0 hx t z.toList cs hy (by simpa using At.new w t z.toList) (by simp [hz]) hi h1 cs (by simp [← hz]) ?_
  intro w' hf ha
  exact h w' (((Fr.refl _ _).alloc _).trans' hf (by simp)) ha
end

end Go.Proofs.YtnhagokkamobaaaDoor
