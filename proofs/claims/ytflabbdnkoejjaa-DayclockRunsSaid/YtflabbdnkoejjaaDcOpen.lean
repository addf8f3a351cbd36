/- The argument []Op of the laws of the day clock, opened. -/
import Derived.Test.YtflabbdnkoejjaaOpen
import Derived.Test.YtflabbdnkoejjaaDcRun
namespace Go.Proofs.Ytflabbdnkoejjaa
open Go.ChangeShapes Go.WideShapes Go.ChangeAt Go.RowKit

set_option maxRecDepth 100000 in
theorem open_ops {H : Type} {enc : TypeId × Value → H} {W : World} {base : Nat} {v : Value} {d : DataW H} {p : List MemPlace} (hv : Value.okWide Try.prog W .any base 34 v)
    (h : DataW.Trod enc Try.prog W 0 (fun _ => true) true 34 v d p) : ∃ (A : Option Addr) (cap : Nat) (ops : List Op3), v = .slice A ops.length cap ∧ OpsIn W A ops := by
  obtain ⟨A, n, cap, rfl, _, _, hr⟩ := open_rows 3 (by omega) Try.underlying34 (by kernel_rfl) hv h
  rcases Nat.eq_zero_or_pos n with rfl | hn
  · exact ⟨A, cap, [], rfl, fun i x hx => by simp at hx⟩
  · obtain ⟨b, o, rfl, hb, hi⟩ := hr hn
    have hx : ∀ i, i < n → ∃ x : Op3, x.Fits ∧ W.cell? ⟨b, o + i * 3, none⟩ = some (Value.int .i64 x.kind) ∧ W.cell? ⟨b, o + i * 3 + 1, none⟩ = some (Value.int .i64 x.dev) ∧ W.cell? ⟨b, o + i * 3 + 2, none⟩ = some (Value.int .i64 x.day) := by
      intro i hin
      obtain ⟨cs, f, x, hl, hc, ht⟩ := hi i hin
      obtain ⟨k, v, d, rfl, _, wv, wd⟩ := open_int3 Try.underlying36 Try.underlying3 (by kernel_rfl) (by rfl) ht hl
      have h0 := hc 0 (by omega)
      have h1 := hc 1 (by omega)
      have h2 := hc 2 (by omega)
      exact ⟨⟨k, v, d⟩, ⟨(wf_i64 wd).1, (wf_i64 wd).2, wv⟩, h0, h1, h2⟩
    let g : Nat → Op3 := fun i => if h : i < n then Classical.choose (hx i h) else ⟨0, 0, 0⟩
    refine ⟨some ⟨b, o, none⟩, cap, (List.range n).map g, by simp, ?_⟩
    intro i x hix
    have hin : i < n := by
      have := (List.getElem?_eq_some_iff.1 hix).1
      simpa using this
    have hg : g i = x := by simpa [hin] using hix
    have hsp := Classical.choose_spec (hx i hin)
    have hgi : g i = Classical.choose (hx i hin) := by simp only [g, hin, dif_pos]
    rw [← hgi, hg] at hsp
    exact ⟨hsp.1, b, o, rfl, hb, hsp.2⟩

end Go.Proofs.Ytflabbdnkoejjaa
