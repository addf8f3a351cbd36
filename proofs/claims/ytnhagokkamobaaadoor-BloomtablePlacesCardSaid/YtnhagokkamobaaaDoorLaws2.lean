/- Laws of single operations: a field of one cell, out of a struct that is held as a value. -/
import Derived.Test.YtnhagokkamobaaaDoorLaws
import Derived.OrdersHeld
namespace Go.Proofs.YtnhagokkamobaaaDoor
open Go.RowKit

section
variable {P : Program}

theorem run_field_agg (t : TypeId) (fs : Array Field) (i : Nat) (f : Field) (cs : List Value) (v : Value) (h : P.underlying t = some (.struct fs)) (hf : fs[i]? = some f) (he : (P.info? f.type).map (·.size) = some 1)
    (hagg : ∀ w : World, (isAgg f.type).run P w = .ok false w) (hv : cs[f.offset]? = some v) (w : World) : (Instr.field t (.agg cs.toArray) i).run P w = .ok v w := by
  cases hq : P.info? f.type with
  | none => simp [hq] at he
  | some j =>
    have hs : j.size = 1 := by simpa [hq] using he
    simp only [Instr.field, run_underlying h, Sem.run_bind, Result.andThen_ok, hf]
    simp [part, asAgg, hagg, sizeOf, typeInfo, hq, hs, hv]

/-- append of ONE element of sz cells, which the statement itself has put into a block of its own. -/
theorem wpList_pushN {t e : TypeId} {z : Value} {sz bt : Nat} (E : Elem P t e z sz bt) {ops : Array Oper} {rest : List Oper} {o : Oper} {a : Act} {w : World} {Q : Exit → Act → World → Prop} (hgd : o.guard = none) (s x : Operand)
    (ho : o.op = .call { callee := .builtin .append, args := #[s, x], argTypes := #[t, t] })
    (base : Nat) (v : Value) (n : Nat) (xs us : List Value) (hs : a.eval s = v) (hown : w.ownsRow base e sz v n xs)
    (hx : a.eval x = .slice (some ⟨w.heap.size, 0, none⟩) 1 1) (hl : us.length = sz) (h1 : ∀ u ∈ us, u.oneCell' = true)
    (hlen : n + 1 ≤ 137438953472) (hbase : base ≤ w.heap.size) (t0 : TypeId)
    (h : ∀ v' w', w'.ownsRow base e sz v' (n + 1) (xs ++ us) → w.grownBy w' v.ownBlock → (v'.ownBlock = v.ownBlock ∨ v'.ownBlock = some (w.heap.size + 1)) → wpList P ops Q rest (a.put o.dst v') w') :
    wpList P ops Q (o :: rest) a (w.alloc (.cells us.toArray t0)) := by
  refine wpList_app E hgd s x ho base v n xs hs (hown.alloc _) (some ⟨w.heap.size, 0, none⟩) 1 1 us hx (by omega) (CellsAt.new w t0 us) h1 hlen (Nat.le_trans hbase (by simp)) ?_
  intro v' w' h2 h3 h5
  refine h v' w' h2 ?_ (by simpa using h5)
  exact ⟨h3.os, h3.tape, h3.output, Nat.le_trans (by simp) h3.size, fun k hk hn => (h3.block k (by simp; omega) hn).trans (Below.heap_alloc w _ k hk)⟩
end

/-- In a region that draws: more may be known of the worlds from here on. -/
theorem wpAnyH_weaken {P : Program} {ops : Array Oper} {Q : Exit → Act → World → Prop} {md : Region.Mode} {S S' : World → Prop} (hs : ∀ w, S' w → S w) :
    ∀ (fuel : Nat) (listed : Array Bool) (a : Act) (w : World), wpAnyH P md ops Q S' fuel listed a w → wpAnyH P md ops Q S fuel listed a w
  | 0, _, _, _, h => h
  | fuel + 1, _, _, _, h => ⟨h.1, fun i hi => wpOp_mono (fun a' w' h' => ⟨hs _ h'.1, wpAnyH_weaken hs fuel _ a' w' h'.2⟩) (h.2 i hi)⟩

end Go.Proofs.YtnhagokkamobaaaDoor
