/- The argument []Op of the laws of bloomtable, opened. -/
import Derived.Test.YtnhagokkamobaaaDoorOpen
import Derived.Test.YtnhagokkamobaaaDoorBlRun
import Derived.Test.YtnhagokkamobaaaDoorLaid
namespace Go.Proofs.YtnhagokkamobaaaDoor
open Go.ChangeShapes Go.WideShapes Go.ChangeAt Go.RowKit

section
variable {H : Type} {enc : TypeId × Value → H} {P : Program} {W : World}
/-- A struct of a string and a bool, out of its cells' reading. -/
theorem open_strbool {e ts tb : TypeId} {f : Nat} {cs : List Value} {x : DataW H × List MemPlace} {fs : Array Field} (he : P.underlying e = some (.struct fs)) (hs : P.underlying ts = some .string) (hb : P.underlying tb = some .bool) (h1 : P.cellsOf ts = 1) (h2 : P.cellsOf tb = 1)
    (hf : fs.toList.map (fun f => (f.type, f.offset)) = [(ts, 0), (tb, 1)]) (h : DataW.trod enc P W 0 (fun _ => true) true f e cs = some x) (hl : cs.length = 2) :
    ∃ (a : List UInt8) (b : Bool), cs = [S8v a, .bool b] := by
  obtain ⟨xs, n, _, _, _, hxl, hg⟩ := DataW.trod_struct he h
  match cs, hl with
  | [c0, c1], _ =>
    have hfs : fs.toList.length = 2 := by have := congrArg List.length hf; simpa using this
    match hfl : fs.toList, hfs with
    | [f0, f1], _ =>
      rw [hfl] at hf
      simp only [List.map_cons, List.map_nil, List.cons.injEq, Prod.mk.injEq, and_true] at hf
      obtain ⟨⟨t0, o0⟩, ⟨t1, o1⟩⟩ := hf
      have hx : ∀ i, i < 2 → ∃ y, xs[i]? = some y := fun i hi => ⟨xs[i]'(by rw [hxl, ← Array.length_toList, hfl]; simpa using hi), List.getElem?_eq_getElem _⟩
      have g0 := hg 0 f0 (by rw [← Array.getElem?_toList, hfl]; rfl)
      have g1 := hg 1 f1 (by rw [← Array.getElem?_toList, hfl]; rfl)
      obtain ⟨y0, e0⟩ := hx 0 (by omega)
      obtain ⟨y1, e1⟩ := hx 1 (by omega)
      rw [t0, o0, h1, e0] at g0
      rw [t1, o1, h2, e1] at g1
      obtain ⟨a, ha, _⟩ := DataW.trod_string hs g0
      obtain ⟨b, hb, _⟩ := DataW.trod_bool hb g1
      simp at ha hb
      exact ⟨a.data.toList, b, by rw [ha, hb]; show _ = [Value.string (strOf a.data.toList), _]; rw [← str_eta]⟩
end

set_option maxRecDepth 100000 in
theorem open_bops {H : Type} {enc : TypeId × Value → H} {W : World} {base : Nat} {v : Value} {d : DataW H} {p : List MemPlace} (hv : Value.okWide Tryd.prog W .any base 49 v)
    (h : DataW.Trod enc Tryd.prog W 0 (fun _ => true) true 49 v d p) : ∃ (A : Option Addr) (cap : Nat) (ops : List BOp), v = .slice A ops.length cap ∧ RowIn W A (opCells ops) := by
  obtain ⟨A, n, cap, rfl, _, _, hr⟩ := open_rows 2 (by omega) Tryd.underlying49 (by kernel_rfl) hv h
  rcases Nat.eq_zero_or_pos n with rfl | hn
  · exact ⟨A, cap, [], rfl, fun i x hx => by simp [opCells] at hx⟩
  · obtain ⟨b, o, rfl, hb, hi⟩ := hr hn
    have hx : ∀ i, i < n → ∃ x : BOp, W.cell? ⟨b, o + i * 2, none⟩ = some (S8v x.1) ∧ W.cell? ⟨b, o + i * 2 + 1, none⟩ = some (.bool x.2) := by
      intro i hin
      obtain ⟨cs, f, x, hl, hc, ht⟩ := hi i hin
      obtain ⟨k, v, rfl⟩ := open_strbool Tryd.underlying62 Tryd.underlying9 Tryd.underlying4 (by kernel_rfl) (by kernel_rfl) (by rfl) ht hl
      have h0 := hc 0 (by omega)
      have h1 := hc 1 (by omega)
      exact ⟨⟨k, v⟩, h0, h1⟩
    let g : Nat → BOp := fun i => if h : i < n then Classical.choose (hx i h) else ([], false)
    refine ⟨some ⟨b, o, none⟩, cap, (List.range n).map g, by simp, ?_⟩
    intro q u hu
    have hq : q < n * 2 := by
      have := (List.getElem?_eq_some_iff.1 hu).1
      rw [opCells_len] at this
      simpa using this
    have hin : q / 2 < n := by omega
    have hgi : ((List.range n).map g)[q / 2]? = some (g (q / 2)) := by simp [hin]
    obtain ⟨c0, c1⟩ := opCells_get hgi
    have hsp := Classical.choose_spec (hx (q / 2) hin)
    have hge : g (q / 2) = Classical.choose (hx (q / 2) hin) := by simp only [g, hin, dif_pos]
    rw [← hge] at hsp
    refine ⟨b, o, rfl, hb, ?_⟩
    rcases Nat.mod_two_eq_zero_or_one q with hm | hm
    · have e : q = q / 2 * 2 := by omega
      rw [e, c0] at hu
      rw [e, hsp.1]
      exact hu
    · have e : q = q / 2 * 2 + 1 := by omega
      rw [e, c1] at hu
      rw [e, ← Nat.add_assoc, hsp.2]
      exact hu
end Go.Proofs.YtnhagokkamobaaaDoor
