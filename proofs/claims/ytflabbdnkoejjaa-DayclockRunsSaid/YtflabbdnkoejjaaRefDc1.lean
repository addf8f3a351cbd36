/- Contract of the reference's Supported. -/
import Derived.Test.YtflabbdnkoejjaaRefDcPlain
namespace Go.Proofs.Ytflabbdnkoejjaa
open Go.RowKit

def RClk.cells (c : RClk) (A : Option Addr) (cp : Nat) : List Value := [Value.int .i64 c.first, Value.int .i64 c.day, Value.int .i64 c.leap, Value.int .i64 c.quorum, Value.int .i64 c.own, Value.bool c.has, Value.int .i64 c.ref, .slice A c.told.length cp]

theorem tcell {w : World} {A : Option Addr} {l : List (Int × Int)} (h : RowIn w A (tcells l)) (k : Nat) (p : Int × Int) (hp : l[k]? = some p) :
    ∃ g o, A = some ⟨g, o, none⟩ ∧ g < w.heap.size ∧ w.cell? ⟨g, o + k * 2, none⟩ = some (Value.int .i64 p.1) ∧ w.cell? ⟨g, o + k * 2 + 1, none⟩ = some (Value.int .i64 p.2) := by
  obtain ⟨h1, h2⟩ := tcells_get l k p hp
  obtain ⟨g, o, hA, hg, hc⟩ := h _ _ h1
  obtain ⟨g', o', hA', _, hc'⟩ := h _ _ h2
  rw [hA] at hA'
  injection hA' with hA'
  injection hA' with e1 e2
  subst e1 e2
  exact ⟨g, o, hA, hg, hc, hc'⟩

set_option maxRecDepth 100000 in
set_option maxHeartbeats 4000000 in
theorem refSup_any (c : RClk) (A : Option Addr) (cp : Nat) (w : World) (hrow : RowIn w A (tcells c.told)) (hl : c.told.length ≤ 1000) :
    Calls Try.prog 23 #[.agg (c.cells A cp).toArray] w fun e w' => e = .returned (Value.int .i64 (rsup c.first c.quorum c.told)) ∧ Fr [] w w' := by
  obtain ⟨first, day, leap, quorum, own, has, ref, told⟩ := c
  simp only at hrow hl ⊢
  have H := Lib.hid hrow
  clear hrow
  show Calls Try.prog 23 #[.agg #[Value.int .i64 first, Value.int .i64 day, Value.int .i64 leap, Value.int .i64 quorum, Value.int .i64 own, Value.bool has, Value.int .i64 ref, .slice A told.length cp]] w fun e w' => e = .returned (Value.int .i64 (rsup first quorum told)) ∧ Fr [] w w'
  go_enter Try.func23, Try.ntmps23
  go_wp2_with fail
  obtain ⟨W, hW⟩ : ∃ W, W = w.alloc (.cells #[Value.int .i64 first, Value.int .i64 day, Value.int .i64 leap, Value.int .i64 quorum, Value.int .i64 own, Value.bool has, Value.int .i64 ref, .slice A told.length cp] 28) := ⟨_, rfl⟩
  rw [← hW]
  have HW : Hid (Fr [] w W ∧ At W w.heap.size 28 [Value.int .i64 first, Value.int .i64 day, Value.int .i64 leap, Value.int .i64 quorum, Value.int .i64 own, Value.bool has, Value.int .i64 ref, .slice A told.length cp]) := by rw [hW]; exact ⟨(Fr.refl _ _).alloc _, At.new _ _ _⟩
  clear hW
  go_loopw [3, 14] (fun b i wr => ∃ k : Nat, k ≤ told.length ∧ i = .int .i64 k ∧ b = Value.int .i64 ((told.take k).foldl (rsupStep quorum told) first) ∧ Fr [] W wr) (fun _ i _ => told.length - (intOf i).toNat)
  case atStart => exact ⟨0, Nat.zero_le _, rfl, rfl, Fr.refl _ _⟩
  case round =>
    obtain ⟨k, hk, rfl, rfl, hfr⟩ := hrel
    have HF := Lib.hid hfr
    clear hfr
    by_cases hlt : k < told.length
    · have hx := List.getElem?_eq_getElem hlt
      generalize told[k] = x at hx
      obtain ⟨g, o, hA, hg, hc0, hc1⟩ := tcell (H.out.fr0 (HW.out.1.trans HF.out)) k x hx
      subst hA
      have HX := Lib.hid hx
      clear hx
      have a7 : wr.cell? ⟨w.heap.size, 7, none⟩ = some (.slice (some ⟨g, o, none⟩) told.length cp) := by rw [(HW.out.2.fr HF.out (by simp)).cell]; rfl
      have hne : w.heap.size < wr.heap.size := (HW.out.2.fr HF.out (by simp)).lt
      go_wp2_with fail
      obtain ⟨V, hV⟩ : ∃ V, V = wr.alloc (.cells #[Value.int .i64 x.1, Value.int .i64 x.2] 63) := ⟨_, rfl⟩
      rw [← hV]
      have HV : Hid (Fr [] W V ∧ At V wr.heap.size 63 [Value.int .i64 x.1, Value.int .i64 x.2]) := by rw [hV]; exact ⟨HF.out.alloc _, At.new _ _ _⟩
      clear hV hc0 hc1 a7
      have hnv : wr.heap.size < V.heap.size := HV.out.2.lt
      obtain ⟨wo, rfl⟩ : ∃ wo : World, wo = wr := ⟨_, rfl⟩
      go_loopw [6, 21] (fun n i wr' => ∃ j : Nat, j ≤ told.length ∧ i = .int .i64 j ∧ n = Value.int .i64 (cntGe (told.take j) x.2 : Int) ∧ Fr [] V wr') (fun _ i _ => told.length - (intOf i).toNat)
      case atStart => exact ⟨0, Nat.zero_le _, rfl, rfl, Fr.refl _ _⟩
      case round =>
        obtain ⟨j, hj, rfl, rfl, hfr⟩ := hrel
        have HG := Lib.hid hfr
        have hcl := cntGe_le (told.take j) x.2
        rw [List.length_take] at hcl
        clear hfr
        have b1 : wr.cell? ⟨wo.heap.size, 1, none⟩ = some (Value.int .i64 x.2) := by rw [(HV.out.2.fr HG.out (by simp)).cell]; rfl
        have a3 : wr.cell? ⟨w.heap.size, 3, none⟩ = some (Value.int .i64 quorum) := by rw [(HW.out.2.fr (HV.out.1.trans HG.out) (by simp)).cell]; rfl
        have hnv2 : wo.heap.size < wr.heap.size := (HV.out.2.fr HG.out (by simp)).lt
        by_cases hjl : j < told.length
        · have hy := List.getElem?_eq_getElem hjl
          generalize told[j] = y at hy
          obtain ⟨g', o', hA', hg', hc0, hc1⟩ := tcell (H.out.fr0 ((HW.out.1.trans HV.out.1).trans HG.out)) j y hy
          injection hA' with hA'
          injection hA' with e1 e2
          rw [← e1, ← e2] at hc0 hc1
          clear e1 e2 hg'
          have hsn := cntGe_snoc told j y x.2 hy
          have HS := Lib.hid hsn
          clear hsn hy
          by_cases hd : x.2 ≤ y.2
          · go_wp2_with fail
            go_roundw
            case rel => exact ⟨j + 1, by omega, by go_num, by rw [HS.out, if_pos hd]; go_num, HG.out.alloc _⟩
            case measure => simp [intOf]; omega
          · go_wp2_with fail
            go_roundw
            case rel => exact ⟨j + 1, by omega, by go_num, by rw [HS.out, if_neg hd]; go_num, HG.out.alloc _⟩
            case measure => simp [intOf]; omega
        · obtain rfl : j = told.length := by omega
          have HST : Hid ((told.take (k + 1)).foldl (rsupStep quorum told) first = rsupStep quorum told ((told.take k).foldl (rsupStep quorum told) first) x) := rsup_snoc first quorum told told k x HX.out
          have HCE : Hid (cntGe (told.take told.length) x.2 = cntGe told x.2) := by rw [List.take_length]; exact rfl
          have HVG : Hid (Fr [] W wr) := HV.out.1.trans HG.out
          generalize hB : (told.take k).foldl (rsupStep quorum told) first = B at HST ⊢
          generalize cntGe (told.take told.length) x.2 = C at HCE hcl ⊢
          clear hB
          by_cases hq : quorum ≤ (C : Int)
          · by_cases hbest : B < x.2
            · go_wp2_with fail
              go_roundw
              case rel => exact ⟨k + 1, by omega, by go_num, by rw [HST.out]; unfold rsupStep; rw [if_pos (by rw [← HCE.out]; exact ⟨hq, hbest⟩)], HVG.out⟩
              case measure => simp [intOf]; omega
            · go_wp2_with fail
              go_roundw
              case rel => exact ⟨k + 1, by omega, by go_num, by rw [HST.out]; unfold rsupStep; rw [if_neg (fun hh => hbest hh.2)], HVG.out⟩
              case measure => simp [intOf]; omega
          · go_wp2_with fail
            go_roundw
            case rel => exact ⟨k + 1, by omega, by go_num, by rw [HST.out]; unfold rsupStep; rw [if_neg (by rw [← HCE.out]; exact fun hh => hq hh.1)], HVG.out⟩
            case measure => simp [intOf]; omega
    · obtain rfl : k = told.length := by omega
      go_wp2_with fail
      go_ret
      exact ⟨ret_int (by rw [List.take_length]; rfl), HW.out.1.trans HF.out⟩

end Go.Proofs.Ytflabbdnkoejjaa
