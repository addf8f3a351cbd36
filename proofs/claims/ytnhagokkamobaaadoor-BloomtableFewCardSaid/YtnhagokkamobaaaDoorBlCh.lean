/- Tables as pieces of memory; New, Insert, Delete in these words. -/
import Derived.Test.YtnhagokkamobaaaDoorBlRefAdd
import Derived.Test.YtnhagokkamobaaaDoorBlAwake
namespace Go.Proofs.YtnhagokkamobaaaDoor
open Go.RowKit

section
variable {w0 w w' : World} {F : List Nat} {cs cs' : List Ch}
/-- What a call made lies beside what there was. -/
theorem Mm.lift (h : Mm w0 F cs w) (h' : Mm w [] cs' w') : Mm w0 F (cs ++ cs') w' := by
  have h0 := h.fr0 h'.fr
  have hsz := h.fr.size
  have lo : ∀ b ∈ cs'.flatMap Ch.fp, w.heap.size ≤ b := fun b hb => (h'.own b hb).elim (fun x => by cases x) id
  refine ⟨h0.fr, ?_, ?_, ?_⟩
  · intro x hx
    rcases List.mem_append.1 hx with hx | hx
    · exact h0.hold x hx
    · exact h'.hold x hx
  · rw [List.flatMap_append, List.nodup_append]
    refine ⟨h.nodup, h'.nodup, fun a ha b hb e => ?_⟩
    subst e
    have h1 := h.ltAll ha
    have h2 := lo a hb
    omega
  · intro b hb
    rw [List.flatMap_append] at hb
    rcases List.mem_append.1 hb with hb | hb
    · exact h.own b hb
    · exact .inr (by have := lo b hb; omega)
theorem Vars.mm (h : Vars w0) (hM : Mm w0 [] cs w) : Vars w := h.fr hM.fr (by simp) (by simp)
end

def cTab (bt bc cap : Nat) (rest : List Value) (t : BT) : Ch where
  fp := [bt, bc]
  holds w := TabAt w bt bc cap rest t
  ok w w' hb h := ⟨(hb bt (by simp)).trans h.tab, (hb bc (by simp)).trans h.cells, h.ok, h.size, h.cap⟩
  lt w h b hb := by
    rcases List.mem_cons.1 hb with rfl | hb
    · exact h.tab.lt
    · rw [List.mem_singleton] at hb
      subst hb
      exact h.cells.lt
theorem cTab_nodup {w : World} {bt bc cap : Nat} {rest : List Value} {t : BT} (h : TabAt w bt bc cap rest t) : (cTab bt bc cap rest t).fp.Nodup := by
  have := h.tab.ne h.cells (by decide)
  simpa [cTab] using this
def cRTab (g c : Nat) (rest : List Value) (t : BT) : Ch where
  fp := [g]
  holds w := RTab w g c rest t
  ok w w' hb h := ⟨(hb g (by simp)).trans h.cells, h.ok, h.size, h.cap⟩
  lt w h b hb := by
    rw [List.mem_singleton] at hb
    subst hb
    exact h.cells.lt

section
variable {w0 w w' : World} {F : List Nat} {cs : List Ch}
theorem Mm.swapTab (h : Mm w0 F cs w) (i : Nat) {bt bc cap : Nat} {rest : List Value} {t t' : BT} (hi : cs[i]? = some (cTab bt bc cap rest t)) (hf : Fr [bc] w w') (ht : TabAt w' bt bc cap rest t') : Mm w0 F (cs.set i (cTab bt bc cap rest t')) w' :=
  h.swap i hi (c' := cTab bt bc cap rest t') (hf.mono fun x hx => .inl (by simp [cTab] at hx ⊢; exact .inr hx)) ht (fun b hb => .inl hb) (cTab_nodup ht)
theorem Mm.pushTab (h : Mm w0 F cs w) {bt bc cap : Nat} {rest : List Value} {t : BT} (hf : Fr [] w w') (ht : TabAt w' bt bc cap rest t) (h1 : w.heap.size ≤ bt) (h2 : w.heap.size ≤ bc) : Mm w0 F (cs ++ [cTab bt bc cap rest t]) w' :=
  h.push (c := cTab bt bc cap rest t) hf ht (fun b hb => by simp [cTab] at hb; omega) (cTab_nodup ht)
theorem Mm.pushRTab (h : Mm w0 F cs w) {g c : Nat} {rest : List Value} {t : BT} (hf : Fr [] w w') (ht : RTab w' g c rest t) (h1 : w.heap.size ≤ g) : Mm w0 F (cs ++ [cRTab g c rest t]) w' :=
  h.push (c := cRTab g c rest t) hf ht (fun b hb => by simp [cRTab] at hb; omega) (by simp [cRTab])
end
end Go.Proofs.YtnhagokkamobaaaDoor
