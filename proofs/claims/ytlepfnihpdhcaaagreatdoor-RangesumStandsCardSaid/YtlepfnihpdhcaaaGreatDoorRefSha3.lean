/- Contract of the reference's Sum (layer 3). -/
import Derived.Test.YtlepfnihpdhcaaaGreatDoorRefSha2
import Derived.StillTailTactics
import Derived.Deep.RegionLaw
namespace Go.Proofs.YtlepfnihpdhcaaaGreatDoor
open Go.RowKit

theorem pad_blocks (xs : List UInt8) : ∃ q, (xs ++ shaPad xs.length).length = 64 * q := by
  have := shaPad_len xs.length
  exact ⟨(xs ++ shaPad xs.length).length / 64, by rw [List.length_append]; omega⟩

set_option maxRecDepth 100000 in
set_option maxHeartbeats 1000000 in
theorem refSum_any (A : Option Addr) (cp : Nat) (xs : List UInt8) (w : World) (hrow : RowIn w A (B8 xs)) (hlen : xs.length ≤ 68719476736) :
    Calls Tryz.prog 52 #[.slice A xs.length cp] w fun e w' => e = .returned (.string (strOf (sha xs))) ∧ Fr [] w w' := by
  have H := Lib.hid (And.intro hrow hlen)
  clear hrow hlen
  obtain ⟨n, HN⟩ : ∃ n, Hid (n = xs.length) := ⟨_, rfl⟩
  rw [← HN.out]
  obtain ⟨UI, HUI⟩ : ∃ UI, Hid (UI = U4 shaI) := ⟨_, rfl⟩
  go_enter Tryz.func52, Tryz.ntmps52
  go_wp2_with (first
    | (refine wpList_build_to rfl 133 _ rfl UI.toArray (by rw [HUI.out]; kernel_rfl) ?_)
    | (refine wpList_store_new rfl 133 (.tmp 3) (.tmp 8) rfl rfl 133 _ UI rfl (by rw [HUI.out]; rfl) (by rw [HUI.out]; kernel_rfl) (by rw [HUI.out]; exact U4_one _) ?_; intro w1 hf1 ha1))
  obtain ⟨bh, hbh⟩ : ∃ bh, bh = w.heap.size := ⟨_, rfl⟩
  rw [← hbh] at ha1 ⊢
  have HP := Lib.hid (refPad_any A cp xs w1 (H.out.1.fr0 hf1) H.out.2)
  rw [← HN.out] at HP
  have H1 : Hid (Fr [] w w1 ∧ At w1 bh 133 (U4 shaI) ∧ bh = w.heap.size) := ⟨hf1, by rw [← HUI.out]; exact ha1, hbh⟩
  clear hf1 ha1 hbh
  go_wp2_with fail
  refine HP.out.mono ?_
  rintro e w2 ⟨A2, c2, rfl, hf2, hown2⟩
  obtain ⟨p, HPP⟩ : ∃ p, Hid (p = xs ++ shaPad n) := ⟨_, rfl⟩
  rw [← HPP.out] at hown2 ⊢
  obtain ⟨q, HQ⟩ : ∃ q, Hid (p.length = 64 * q) := by rw [HPP.out, HN.out]; exact pad_blocks xs
  have hpl : p.length ≤ 68719476864 := by
    rw [HPP.out, HN.out, List.length_append]
    have := H.out.2
    simp only [shaPad, List.length_append, List.length_cons, List.length_replicate, List.length_nil]
    omega
  have HR := Lib.hid (RowIn.of_own hown2)
  have hcap2 : p.length ≤ c2 := by
    have hb : BR w1 w2 (.slice A2 p.length c2) p := ⟨hf2, hown2⟩
    exact hb.cap
  obtain ⟨g, o, rfl, hg⟩ := HR.out.some (by rw [HPP.out, List.length_append]; simp [shaPad]; omega)
  have hgb : g ≠ bh := by
    have hb : BR w1 w2 (.slice (some ⟨g, o, none⟩) p.length c2) p := ⟨hf2, hown2⟩
    have := hb.far g o rfl
    have := H1.out.2.1.lt
    omega
  have H2 : Hid (Fr [] w w2 ∧ At w2 bh 133 (U4 shaI)) := ⟨H1.out.1.trans hf2, H1.out.2.1.fr hf2 (by simp)⟩
  clear hown2 hf2 HP
  obtain ⟨pl, HPL⟩ : ∃ pl, Hid (pl = p.length) := ⟨_, rfl⟩
  rw [← HPL.out] at hpl hcap2 HQ ⊢
  go_wp2_with fail
  go_loopw [5] (fun i wx => ∃ (k j : Nat), i = .int .i64 j ∧ j ≤ pl ∧ Hid (j = 64 * k ∧ Fr [bh] w2 wx ∧ At wx bh 133 (U4 (hashN k shaI p)))) (fun i _ => pl - (intOf i).toNat)
  case atStart => exact ⟨0, 0, rfl, by omega, rfl, Fr.refl _ _, H2.out.2⟩
  case round =>
    obtain ⟨k, j, rfl, hj, HL⟩ := hrel
    by_cases hlt : j < pl
    · have hj64 : j + 64 ≤ pl := by have h1 := HL.out.1; have h2 := HQ.out; omega
      obtain ⟨h0, h1, h2, h3, h4, h5, h6, h7, HH⟩ : ∃ h0 h1 h2 h3 h4 h5 h6 h7 : Nat, Hid (hashN k shaI p = [h0, h1, h2, h3, h4, h5, h6, h7]) := by
        have hl := (hashN_ok k shaI p rfl shaI_w32).1
        generalize hashN k shaI p = X at hl
        match X, hl with
        | [h0, h1, h2, h3, h4, h5, h6, h7], _ => exact ⟨h0, h1, h2, h3, h4, h5, h6, h7, rfl⟩
      have hab := HL.out.2.2
      rw [HH.out] at hab
      have d0 : wr.cell? ⟨bh, 0, none⟩ = some (.int .u32 (h0 : Int)) := by rw [hab.cell]; rfl
      have d1 : wr.cell? ⟨bh, 1, none⟩ = some (.int .u32 (h1 : Int)) := by rw [hab.cell]; rfl
      have d2 : wr.cell? ⟨bh, 2, none⟩ = some (.int .u32 (h2 : Int)) := by rw [hab.cell]; rfl
      have d3 : wr.cell? ⟨bh, 3, none⟩ = some (.int .u32 (h3 : Int)) := by rw [hab.cell]; rfl
      have d4 : wr.cell? ⟨bh, 4, none⟩ = some (.int .u32 (h4 : Int)) := by rw [hab.cell]; rfl
      have d5 : wr.cell? ⟨bh, 5, none⟩ = some (.int .u32 (h5 : Int)) := by rw [hab.cell]; rfl
      have d6 : wr.cell? ⟨bh, 6, none⟩ = some (.int .u32 (h6 : Int)) := by rw [hab.cell]; rfl
      have d7 : wr.cell? ⟨bh, 7, none⟩ = some (.int .u32 (h7 : Int)) := by rw [hab.cell]; rfl
      have HAB := Lib.hid hab
      clear hab
      obtain ⟨o2, cp2, ho2, hsl⟩ : ∃ o2 cp2 : Nat, o2 = o + j ∧ ∀ W : World, (Instr.slice 37 (.slice (some ⟨g, o, none⟩) pl c2) (some (.int .i64 (j : Int))) (some (.int .i64 ((j : Int) + 64))) none).run Tryz.prog W = .ok (.slice (some ⟨g, o2, none⟩) 64 cp2) W := by
        refine ⟨o + j, c2 - j, rfl, fun W => ?_⟩
        have hne : ¬ (c2 = j) := by omega
        rw [run_slice_lh W 37 (some ⟨g, o, none⟩) pl c2 (by kernel_rfl) .i64 .i64 (j : Int) ((j : Int) + 64) (by omega) (by omega) (by omega), show (sizeOf (Tryz.prog.elem 37)).run Tryz.prog W = .ok 1 W by kernel_rfl]
        have e1 : ((j : Int) + 64).toNat = j + 64 := by omega
        simp [sliced, hne, add_none, e1]
      have HO2 := Lib.hid ho2
      clear ho2
      have HROW : Hid (RowIn wr.drew (some ⟨g, o2, none⟩) (B8 ((p.drop (64 * k)).take 64))) := by
        have h5 := (HR.out.fr HL.out.2.1 (by intro b o' e; injection e with e; injection e with e1 e2; subst e1; simpa using hgb)).dropB (k := j) (o' := o2) (fun _ => HO2.out)
        rw [← HL.out.1]
        exact h5.takeB
      have HC := Lib.hid (refBlock_any g o2 cp2 [h0, h1, h2, h3, h4, h5, h6, h7] ((p.drop (64 * k)).take 64) wr.drew rfl (by rw [← HH.out]; exact (hashN_ok k shaI p rfl shaI_w32).2) (by have e1 := HL.out.1; have e2 := HPL.out; rw [List.length_take, List.length_drop]; omega) HROW.out)
      have hw1 : IntKind.i64.wrap ((j : Int) + 64) = (j : Int) + 64 := IntWalk.i64_in _ (by omega)
      go_wp2_with fail
      go_still_tail 6, (by kernel_rfl)
      change wpList _ _ _ _ _ wr.drew
      go_wp2_with fail
      refine HC.out.mono ?_
      rintro e w3 ⟨rfl, hf3⟩
      obtain ⟨LF, HLF⟩ : ∃ LF, Hid (LF = U4 (compress [h0, h1, h2, h3, h4, h5, h6, h7] ((p.drop (64 * k)).take 64))) := ⟨_, rfl⟩
      rw [← HLF.out]
      have HLX : Hid (LF.length = 8 ∧ (∀ v ∈ LF, v.oneCell' = true)) := by
        show _ ∧ _
        rw [HLF.out, U4_len]
        exact ⟨compress_len _ _ rfl, U4_one _⟩
      obtain ⟨L0, HL0⟩ : ∃ L0, Hid (L0 = U4 [h0, h1, h2, h3, h4, h5, h6, h7]) := ⟨_, rfl⟩
      have HA3 : Hid (Fr [bh] w2 w3 ∧ At w3 bh 133 L0 ∧ L0.length = 8) := ⟨(HL.out.2.1.drew.mono (by simp)).trans' hf3 (by simp), by rw [HL0.out]; exact HAB.out.drew.fr hf3 (by simp), by rw [HL0.out]; rfl⟩
      clear d0 d1 d2 d3 d4 d5 d6 d7 hf3 hsl hw1 HC HAB
      go_wp2_with (refine wpList_store_at rfl 133 (.tmp 3) (.tmp 23) rfl bh 0 rfl 133 L0 LF rfl HA3.out.2.1 (by rw [HA3.out.2.2, HLX.out.1]; exact Nat.le_refl _) (by rw [HLX.out.1]; kernel_rfl) HLX.out.2 LF (by rw [HLX.out.1, List.drop_of_length_le (by rw [HA3.out.2.2]; exact Nat.le_refl _)]; simp) ?_; intro w4 hf4 ha4)
      have HNN : Hid (j + 64 = 64 * (k + 1) ∧ Fr [bh] w2 w4 ∧ At w4 bh 133 (U4 (hashN (k + 1) shaI p))) := by
        refine ⟨by have := HL.out.1; omega, HA3.out.1.trans hf4, ?_⟩
        rw [hashN_succ, HH.out, ← HLF.out]
        exact ha4
      clear hf4 ha4
      go_roundw
      case rel =>
        first
          | exact ⟨k + 1, j + 64, by go_num, by omega, HNN⟩
          | ((repeat apply Exists.intro); exact ⟨⟨k + 1, j + 64, by go_num, by omega, HNN⟩, rfl⟩)
      case measure => simp [intOf] <;> omega
    · obtain rfl : j = pl := by omega
      obtain ⟨X, HX⟩ : ∃ X, Hid (X = hashN k shaI p) := ⟨_, rfl⟩
      have HX8 : Hid (X.length = 8 ∧ (∀ x ∈ X, W32 x) ∧ digest X = sha xs) := by
        show _ ∧ _ ∧ _
        rw [HX.out]
        refine ⟨(hashN_ok k shaI p rfl shaI_w32).1, (hashN_ok k shaI p rfl shaI_w32).2, ?_⟩
        have e1 := HL.out.1
        have e2 := HPL.out
        rw [sha_eq, shaWords, ← HN.out, ← HPP.out, ← e2, e1, Nat.mul_div_cancel_left _ (by decide)]
      have HZ : Hid (Fr [] w wr ∧ At wr bh 133 (U4 X)) := ⟨(H2.out.1.mono (by simp)).trans' HL.out.2.1 (by have := H1.out.2.2; simp; omega), by rw [HX.out]; exact HL.out.2.2⟩
      obtain ⟨wb, HWB⟩ : ∃ wb, Hid (wb = wr) := ⟨_, rfl⟩
      rw [← HWB.out] at HZ ⊢
      clear HWB HL
      have hbw := HZ.out.2.lt
      go_wp2_with fail
      go_loopw [6, 7] (fun v s wx => ∃ (i : Nat) (A' : Option Addr) (c' : Nat) (es : List UInt8), i ≤ 8 ∧ s = .int .i64 i ∧ v = .slice A' es.length c' ∧ es.length ≤ 4 * i ∧ Hid (es = digest (X.take i)) ∧ Hid (BR wb wx v es)) (fun _ s _ => 8 - (intOf s).toNat)
      case atStart => exact ⟨0, _, _, [], by omega, rfl, rfl, by simp, rfl, (Fr.refl _ _).alloc _, World.ownsRow_made wb #[] 0 (Nat.le_refl _) (Nat.zero_le _) rfl⟩
      case round =>
        obtain ⟨i, A4, c4, es, hi, rfl, rfl, hel, HE, HB4⟩ := hrel
        have hsz4 := HB4.out.size
        by_cases hlt3 : i < 8
        · obtain ⟨x, hx⟩ : ∃ x, X[i]? = some x := ⟨_, List.getElem?_eq_getElem (by rw [HX8.out.1]; exact hlt3)⟩
          have cx : wr.cell? ⟨bh, i, none⟩ = some (.int .u32 (x : Int)) := by rw [HB4.out.fr.cell (p := ⟨bh, i, none⟩) hbw (by simp), HZ.out.2.cell]; exact U4_get _ _ _ hx
          obtain ⟨y3, HY3⟩ : ∃ y : UInt8, Hid (y = byteAt x 3) := ⟨_, rfl⟩
          obtain ⟨y2, HY2⟩ : ∃ y : UInt8, Hid (y = byteAt x 2) := ⟨_, rfl⟩
          obtain ⟨y1, HY1⟩ : ∃ y : UInt8, Hid (y = byteAt x 1) := ⟨_, rfl⟩
          obtain ⟨y0, HY0⟩ : ∃ y : UInt8, Hid (y = byteAt x 0) := ⟨_, rfl⟩
          have k3 : IntKind.u8.wrap ((x : Int) / 16777216) = (y3.toNat : Int) := by rw [HY3.out]; exact byteAt_wrap x 3
          have k2 : IntKind.u8.wrap ((x : Int) / 65536) = (y2.toNat : Int) := by rw [HY2.out]; exact byteAt_wrap x 2
          have k1 : IntKind.u8.wrap ((x : Int) / 256) = (y1.toNat : Int) := by rw [HY1.out]; exact byteAt_wrap x 1
          have k0 : IntKind.u8.wrap (x : Int) = (y0.toNat : Int) := by rw [HY0.out]; have := byteAt_wrap x 0; simpa using this
          have HXX : Hid (digest (X.take (i + 1)) = digest (X.take i) ++ [y3, y2, y1, y0]) := by
            obtain ⟨h1, e1⟩ := List.getElem?_eq_some_iff.1 hx
            show digest _ = _
            rw [List.take_succ_eq_append_getElem h1, e1, digest, List.flatMap_append, HY3.out, HY2.out, HY1.out, HY0.out]
            simp [digest]
          have hiI : (i : Int) < 8 := by omega
          have HCX : Hid ((U4 X)[i]? = some (.int .u32 (x : Int))) := U4_get _ _ _ hx
          clear hx
          go_wp2_with fail
          have hne : wr.heap.size ≠ bh := by omega
          have hne' : bh ≠ wr.heap.size := by omega
          have hbr : bh < wr.heap.size := by omega
          go_region_held3 (fun w' => w'.cell? ⟨bh, i, none⟩ = some (.int .u32 (x : Int))) (first | go_keep | (rw [HG.out.cell (p := ⟨bh, i, none⟩) hbr (by simp)]; assumption))
            ((refine step_app el_u8 rfl (.tmp 29) (.tmp 49) rfl wb.heap.size (.slice A4 es.length c4) es.length (B8 es) (by simp [Act.eval]) (by exact HB4.out.own.alloc _) (some ⟨wr.heap.size, 0, none⟩) 4 4 (B8 [y3, y2, y1, y0]) (by simp [Act.eval]) rfl (by exact CellsAt.new _ _ (B8 [y3, y2, y1, y0])) (B8_one _) (by omega) (by simp; omega) ?_; intro v2 w5 hown2 hg2 hb2; have HG : Hid (Fr [] wb w5) := (fr_push (HB4.out.fr.alloc _) (HB4.out.own.alloc _) (grown_drew hg2)); obtain ⟨A3, c3, cs3, HC3, hc3, rfl, HB3⟩ := BR.push (xs := [y3, y2, y1, y0]) (HB4.out.alloc _) hown2 (grown_drew hg2); have cx5 : w5.cell? ⟨bh, i, none⟩ = some (.int .u32 (x : Int)) := (by rw [HG.out.cell (p := ⟨bh, i, none⟩) hbw (by simp), HZ.out.2.cell]; exact HCX.out); clear hown2 hg2 hb2))
          have HC4 : Hid (cs3 = digest (X.take (i + 1))) := by show cs3 = _; rw [HC3.out, HXX.out, HE.out]
          have h3 : cs3.length ≤ es.length + 4 := hc3
          rename_i hHeld
          clear hHeld k3 k2 k1 k0 cx cx5
          go_wp2_with fail
          go_roundw
          case rel =>
            first
              | exact ⟨i + 1, A3, c3, cs3, by omega, by go_num, rfl, by omega, HC4, HB3⟩
              | ((repeat apply Exists.intro); exact ⟨⟨i + 1, A3, c3, cs3, by omega, by go_num, rfl, by omega, HC4, HB3⟩, rfl⟩)
          case measure => simp [intOf] <;> omega
        · obtain rfl : i = 8 := by omega
          have hst := run_str (P := Tryz.prog) (src := 37) (dst := 9) Tryz.underlying37 Tryz.underlying5 Tryz.underlying9 wr A4 c4 es HB4.out.row
          go_wp2_with fail
          go_ret
          refine ⟨?_, HZ.out.1.trans HB4.out.fr⟩
          rw [HE.out, List.take_of_length_le (by rw [HX8.out.1]; exact Nat.le_refl _), HX8.out.2.2]
          rfl

end Go.Proofs.YtlepfnihpdhcaaaGreatDoor
