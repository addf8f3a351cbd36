/- The builtin copy into a block that is known whole. -/
import Derived.Test.YtnhagokkamobaaaDoorLaws2
import Derived.Laws.CopyRow
import Derived.Laws.IdiomCopy
namespace Go.Proofs.YtnhagokkamobaaaDoor
open Go.RowKit

theorem At.setRow {w : World} {g : Nat} {t : TypeId} {l : List Value} (h : At w g t l) (l' : List Value) : At (w.setRow g l'.toArray) g t l' := setRow_heap w g _ _ t (0, 0) h
theorem Fr.setRow (w : World) (g : Nat) (cs : Array Value) : Fr [g] w (w.setRow g cs) :=
  ⟨rfl, rfl, rfl, by simp [World.setRow], fun k _ hn => by
    have hne : g ≠ k := fun e => hn (by simp [e])
    simp [World.setRow, Array.getElem?_modify, hne]⟩

section
variable {P : Program}

theorem run_copy_at {dT sT elem : TypeId} (hu : P.underlying dT = some (.slice elem)) (hs : (P.info? elem).map (·.size) = some 1) (w : World) (ty : TypeId) (g off dLen dCap : Nat) (A : Option Addr) (sLen sCap : Nat) (t : TypeId) (l cs : List Value)
    (hat : At w g t l) (hn : cs.length = Nat.min sLen dLen) (hsrc : CellsAt w A cs) (hfit : off + cs.length ≤ l.length) (h1 : ∀ v ∈ cs, v.oneCell' = true) :
    ∃ w', (Builtin.copy_ #[dT, sT] ty #[.slice (some ⟨g, off, none⟩) dLen dCap, .slice A sLen sCap]).run P w = .ok (.int .i64 (cs.length : Int)) w' ∧ Fr [g] w w' ∧ At w' g t (l.take off ++ cs ++ l.drop (off + cs.length)) := by
  cases A with
  | none =>
    have h0 : cs = [] := by
      cases cs with
      | nil => rfl
      | cons v r =>
        obtain ⟨_, hA, _⟩ := hsrc 0 v rfl
        cases hA
    subst h0
    refine ⟨w, ?_, Fr.refl _ _, by simpa using hat⟩
    rw [run_copy_none w dT sT ty elem _ none dLen dCap sLen sCap hu hs (by simpa using hn.symm)]
    rfl
  | some a =>
    have := run_copy_row (P := P) w dT sT ty elem g off dLen dCap a sLen sCap l.toArray t cs hu hs hat hn (fun j v hv => by
      obtain ⟨ad, hA, hc⟩ := hsrc j v hv
      injection hA with hA
      subst hA
      exact hc) (by simpa using hfit) h1
    exact ⟨_, this, Fr.setRow _ _ _, hat.setRow _⟩

theorem wpList_copy_at {dT sT elem : TypeId} (hu : P.underlying dT = some (.slice elem)) (hs : (P.info? elem).map (·.size) = some 1) {ops : Array Oper} {rest : List Oper} {o : Oper} {a : Act} {w : World} {Q : Exit → Act → World → Prop} (hgd : o.guard = none) (d s : Operand)
    (ho : o.op = .call { callee := .builtin .copy, args := #[d, s], argTypes := #[dT, sT] }) (g off dLen dCap : Nat) (A : Option Addr) (sLen sCap : Nat) (t : TypeId) (l cs : List Value)
    (hd : a.eval d = .slice (some ⟨g, off, none⟩) dLen dCap) (hv : a.eval s = .slice A sLen sCap)
    (hat : At w g t l) (hn : cs.length = Nat.min sLen dLen) (hsrc : CellsAt w A cs) (hfit : off + cs.length ≤ l.length) (h1 : ∀ v ∈ cs, v.oneCell' = true) (nn : Nat) (hnn : cs.length = nn) (l' : List Value) (hl' : l' = l.take off ++ cs ++ l.drop (off + cs.length))
    (h : ∀ w', Fr [g] w w' → At w' g t l' → wpList P ops Q rest (a.put o.dst (.int .i64 (nn : Int))) w') : wpList P ops Q (o :: rest) a w := by
  subst hnn hl'
  obtain ⟨w', hrun, hf, ha⟩ := run_copy_at hu hs w o.type g off dLen dCap A sLen sCap t l cs hat hn hsrc hfit h1
  refine wpList_plain hgd fun K hK => ?_
  unfold Oper.wp execOp
  simp only [ho, resolve, invoke, builtin, Sem.run_bind, Sem.run_pure, Result.andThen_ok, List.map_toArray, List.map_cons, List.map_nil, hd, hv]
  rw [hrun]
  exact hK _ _ (h w' hf ha)
end

end Go.Proofs.YtnhagokkamobaaaDoor
