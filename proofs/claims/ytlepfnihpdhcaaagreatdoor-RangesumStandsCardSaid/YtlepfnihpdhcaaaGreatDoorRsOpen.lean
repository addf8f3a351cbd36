/- The arguments of rangesum's laws, opened: lists of strings, parameters, lists of lists of bytes. -/
import Derived.Test.YtlepfnihpdhcaaaGreatDoorOpen
import Derived.Test.YtlepfnihpdhcaaaGreatDoorLaid
import Derived.Test.YtlepfnihpdhcaaaGreatDoorCon
namespace Go.Proofs.YtlepfnihpdhcaaaGreatDoor
open Go.ChangeShapes Go.WideShapes Go.ChangeAt Go.RowKit

section
variable {H : Type} {enc : TypeId × Value → H} {P : Program} {W : World}
theorem open_strs {t e : TypeId} {base : Nat} {v : Value} {d : DataW H} {p : List MemPlace} (ht : P.underlying t = some (.slice e)) (he : P.underlying e = some .string) (hC : P.cellsOf e = 1) (hv : Value.okWide P W .any base t v)
    (h : DataW.Trod enc P W 0 (fun _ => true) true t v d p) :
    ∃ (A : Option Addr) (cap : Nat) (l : List (List UInt8)), v = .slice A l.length cap ∧ l.length ≤ 9223372036854775807 ∧ RowIn W A (SS l) ∧ l.length ≤ cap := by
  obtain ⟨A, n, cap, rfl, hnc, hcm, hr⟩ := open_rows 1 (by omega) ht hC hv h
  have hmax : n ≤ 9223372036854775807 := by unfold maxLen at hcm; omega
  rcases Nat.eq_zero_or_pos n with rfl | hn
  · exact ⟨A, cap, [], rfl, Nat.zero_le _, (fun i x hx => by simp at hx), Nat.zero_le _⟩
  · obtain ⟨b, o, rfl, hb, hi⟩ := hr hn
    have hx : ∀ i, i < n → ∃ x : List UInt8, W.cell? ⟨b, o + i, none⟩ = some (.string (strOf x)) := by
      intro i hin
      obtain ⟨cs, f, x, hl, hc, ht⟩ := hi i hin
      obtain ⟨a, ha, _⟩ := DataW.trod_string he ht
      have h0 := hc 0 (by omega)
      rw [Nat.mul_one, ha] at h0
      exact ⟨a.data.toList, by rw [← str_eta]; exact h0⟩
    let g : Nat → List UInt8 := fun i => if h : i < n then Classical.choose (hx i h) else []
    have hgs : ∀ i (hin : i < n), W.cell? ⟨b, o + i, none⟩ = some (.string (strOf (g i))) := by
      intro i hin
      have hgi : g i = Classical.choose (hx i hin) := by simp only [g, hin, dif_pos]
      rw [hgi]
      exact Classical.choose_spec (hx i hin)
    refine ⟨some ⟨b, o, none⟩, cap, (List.range n).map g, by simp, by simp; omega, ?_, by simpa using hnc⟩
    intro i u hu
    have hin : i < n := by
      have := (List.getElem?_eq_some_iff.1 hu).1
      simpa using this
    have hg : Value.string (strOf (g i)) = u := by simpa [hin] using hu
    exact ⟨b, o, rfl, hb, by rw [hgs i hin, hg]⟩
theorem open_int2 {e ti : TypeId} {f : Nat} {cs : List Value} {x : DataW H × List MemPlace} {fs : Array Field} (he : P.underlying e = some (.struct fs)) (hi : P.underlying ti = some (.int .i64)) (h1 : P.cellsOf ti = 1)
    (hf : fs.toList.map (fun f => (f.type, f.offset)) = [(ti, 0), (ti, 1)]) (h : DataW.trod enc P W 0 (fun _ => true) true f e cs = some x) (hl : cs.length = 2) :
    ∃ a b : Int, cs = [.int .i64 a, .int .i64 b] := by
  obtain ⟨xs, n, _, _, _, hxl, hg⟩ := DataW.trod_struct he h
  match cs, hl with
  | [c0, c1], _ =>
    have hfs : fs.toList.length = 2 := by have := congrArg List.length hf; simpa using this
    match hfl : fs.toList, hfs with
    | [f0, f1], _ =>
      rw [hfl] at hf
      simp only [List.map_cons, List.map_nil, List.cons.injEq, Prod.mk.injEq, and_true] at hf
      obtain ⟨⟨t0, o0⟩, ⟨t1, o1⟩⟩ := hf
      have hx : ∀ i, i < 2 → ∃ y, xs[i]? = some y := fun i hi => ⟨xs[i]'(by rw [hxl, ← Array.length_toList, hfl]; simpa using hi), List.getElem?_eq_getElem _⟩
      have g0 := hg 0 f0 (by rw [← Array.getElem?_toList, hfl]; rfl)
      have g1 := hg 1 f1 (by rw [← Array.getElem?_toList, hfl]; rfl)
      obtain ⟨y0, e0⟩ := hx 0 (by omega)
      obtain ⟨y1, e1⟩ := hx 1 (by omega)
      rw [t0, o0, h1, e0] at g0
      rw [t1, o1, h1, e1] at g1
      obtain ⟨a, ha, _, wa⟩ := DataW.trod_int hi g0
      obtain ⟨b, hb, _, wb⟩ := DataW.trod_int hi g1
      simp at ha hb
      exact ⟨a, b, by rw [ha, hb]⟩
theorem open_two {t ti : TypeId} {base : Nat} {v : Value} {d : DataW H} {p : List MemPlace} {fs : Array Field} (he : P.underlying t = some (.struct fs)) (hi : P.underlying ti = some (.int .i64)) (h1 : P.cellsOf ti = 1)
    (hf : fs.toList.map (fun f => (f.type, f.offset)) = [(ti, 0), (ti, 1)]) (hs : P.cellsOf t = 2) (hv : Value.okWide P W .any base t v) (h : DataW.Trod enc P W 0 (fun _ => true) true t v d p) :
    ∃ a b : Int, v = .agg #[.int .i64 a, .int .i64 b] := by
  obtain ⟨cs, rfl, hsz⟩ := okWide_struct he hv
  obtain ⟨f, hf'⟩ := h
  obtain ⟨a, b, e⟩ := open_int2 he hi h1 hf (cs := cs.toList) (by simpa [Value.cells] using hf') (by rw [Array.length_toList, hsz, hs])
  exact ⟨a, b, by rw [show cs = #[.int .i64 a, .int .i64 b] from Array.toList_inj.1 e]⟩
end
end Go.Proofs.YtlepfnihpdhcaaaGreatDoor
