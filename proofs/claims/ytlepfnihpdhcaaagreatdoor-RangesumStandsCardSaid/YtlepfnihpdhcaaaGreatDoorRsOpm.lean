/- The messages of a law's argument, opened: a list of lists of bytes. -/
import Derived.Test.YtlepfnihpdhcaaaGreatDoorRsOpen
import Derived.Test.YtlepfnihpdhcaaaGreatDoorRsMs
namespace Go.Proofs.YtlepfnihpdhcaaaGreatDoor
open Go.ChangeShapes Go.WideShapes Go.ChangeAt Go.RowKit

section
variable {H : Type} {enc : TypeId × Value → H} {P : Program} {W : World}
theorem open_u8 {e u : TypeId} {f : Nat} {c : Value} {x : DataW H × List MemPlace} (he : P.underlying e = some (.slice u)) (hu : P.underlying u = some (.int .u8)) (hC : P.cellsOf u = 1)
    (h : DataW.trod enc P W 0 (fun _ => true) true f e [c] = some x) : ∃ (A : Option Addr) (cap : Nat) (bs : List UInt8), c = .slice A bs.length cap ∧ RowIn W A (B8 bs) := by
  rcases Go.Deep.open_slice he h with ⟨h0, _⟩ | ⟨a, len, cap, m, n, D, Pl, hcs, _, hl, hm, hmm, _, hi⟩
  · simp only [List.cons.injEq, and_true] at h0
    exact ⟨none, 0, [], h0, fun i u hu => by simp [B8] at hu⟩
  · simp only [List.cons.injEq, and_true] at hcs
    simp only [if_true] at hmm
    have hx : ∀ i, i < len → ∃ y : UInt8, W.cell? (a.add i) = some (.int .u8 ((y.toNat : Nat) : Int)) := by
      intro i hin
      obtain ⟨cs', hc, ht⟩ := hi i (by omega)
      rw [hC, Nat.mul_one] at hc
      obtain ⟨_, hcl, hat⟩ := World.cells?_some hc
      match cs', hcl with
      | [y], _ =>
        obtain ⟨z, hz, _, wz⟩ := DataW.trod_int hu ht
        have h0 := hat 0 (by omega)
        rw [show (a.add i).add 0 = a.add i by unfold Addr.add; simp] at h0
        simp only [List.cons.injEq, and_true] at hz
        obtain ⟨h1, h2⟩ := wf_u8 wz
        refine ⟨UInt8.ofNat z.toNat, ?_⟩
        have h4 : z.toNat % 256 = z.toNat := Nat.mod_eq_of_lt (by omega)
        have h3 : (((UInt8.ofNat z.toNat).toNat : Nat) : Int) = z := by rw [UInt8.toNat_ofNat', show (2 ^ 8 : Nat) = 256 from rfl, h4]; omega
        rw [h0, hz, h3]
        rfl
    rcases Nat.eq_zero_or_pos len with rfl | hn
    · exact ⟨_, cap, [], hcs, fun i u hu => by simp [B8] at hu⟩
    · obtain ⟨y0, h0⟩ := hx 0 hn
      rw [show a.add 0 = a by unfold Addr.add; simp] at h0
      obtain ⟨b, o, s⟩ := a
      have hs := spot_none h0
      simp only at hs
      subst hs
      obtain ⟨g, hg⟩ := Go.Deep.choose_lt hx
      have hlen : ((List.range len).map g).length = len := by simp
      refine ⟨some ⟨b, o, none⟩, cap, (List.range len).map g, by rw [hlen]; exact hcs, fun i v hv => ?_⟩
      have hin : i < len := by
        have := (List.getElem?_eq_some_iff.1 hv).1
        simpa [B8] using this
      have h1 := hg i hin
      rw [addr_add] at h1
      refine ⟨b, o, rfl, cell_lt h0, ?_⟩
      rw [h1, ← hv]
      simp [B8, hin]
theorem open_msgs {t e u : TypeId} {base : Nat} {v : Value} {d : DataW H} {p : List MemPlace} (ht : P.underlying t = some (.slice e)) (he : P.underlying e = some (.slice u)) (hu : P.underlying u = some (.int .u8)) (hC : P.cellsOf e = 1) (hC1 : P.cellsOf u = 1)
    (hv : Value.okWide P W .any base t v) (h : DataW.Trod enc P W 0 (fun _ => true) true t v d p) :
    ∃ (A : Option Addr) (cap : Nat) (ms : List (Option Addr × Nat × List UInt8)), v = .slice A ms.length cap ∧ ms.length ≤ 9223372036854775807 ∧ RowIn W A (MS ms) ∧ MsRows ms W := by
  obtain ⟨A, n, cap, rfl, hnc, hcm, hr⟩ := open_rows 1 (by omega) ht hC hv h
  have hmax : n ≤ 9223372036854775807 := by unfold maxLen at hcm; omega
  rcases Nat.eq_zero_or_pos n with rfl | hn
  · exact ⟨A, cap, [], rfl, Nat.zero_le _, (fun i x hx => by simp at hx), (fun m hm => by simp at hm)⟩
  · obtain ⟨b, o, rfl, hb, hi⟩ := hr hn
    have hx : ∀ i, i < n → ∃ m : Option Addr × Nat × List UInt8, W.cell? ⟨b, o + i, none⟩ = some (.slice m.1 m.2.2.length m.2.1) ∧ RowIn W m.1 (B8 m.2.2) := by
      intro i hin
      obtain ⟨cs, f, x, hl, hc, htr⟩ := hi i hin
      match cs, hl with
      | [c], _ =>
        obtain ⟨A', cap', bs, hcv, hrow⟩ := open_u8 he hu hC1 htr
        have h0 := hc 0 (by omega)
        rw [Nat.mul_one] at h0
        exact ⟨(A', cap', bs), by rw [show (⟨b, o + i, none⟩ : Addr) = ⟨b, o + i + 0, none⟩ from rfl, h0, hcv]; rfl, hrow⟩
    obtain ⟨g, hg⟩ := Go.Deep.choose_lt hx
    refine ⟨some ⟨b, o, none⟩, cap, (List.range n).map g, by simp, by simp; omega, ?_, ?_⟩
    · intro i w hw
      have hin : i < n := by
        have := (List.getElem?_eq_some_iff.1 hw).1
        simpa using this
      have hgw : Value.slice (g i).1 (g i).2.2.length (g i).2.1 = w := by simpa [MS, hin] using hw
      exact ⟨b, o, rfl, hb, by rw [(hg i hin).1, hgw]⟩
    · intro m hm
      obtain ⟨i, hi', rfl⟩ := List.mem_map.1 hm
      exact (hg i (List.mem_range.1 hi')).2
end
end Go.Proofs.YtlepfnihpdhcaaaGreatDoor
