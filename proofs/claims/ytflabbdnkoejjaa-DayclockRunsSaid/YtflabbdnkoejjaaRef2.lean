/- Contract of the reference's number. -/
import Derived.Test.YtflabbdnkoejjaaRefPlain
import Derived.Test.YtflabbdnkoejjaaRef1
namespace Go.Proofs.Ytflabbdnkoejjaa
open Go.RowKit

/-- What the reference's number returns. -/
def refNumVal (D : List UInt8) (off : Nat) : Value := match rdNum D off with
  | some (n, m) => .tuple #[.int .u64 (n : Int), Value.int .i64 (m : Int), Value.bool true]
  | none => .tuple #[.int .u64 0, Value.int .i64 0, Value.bool false]

set_option maxRecDepth 100000 in
set_option maxHeartbeats 4000000 in
theorem refnum_any (A : Option Addr) (c : Nat) (D : List UInt8) (off : Nat) (w : World) (hrow : RowIn w A (B8 D)) (ho : off ≤ D.length) (hD : D.length ≤ 4294967296) :
    Calls Try.prog 77 #[.slice A D.length c, Value.int .i64 (off : Int)] w fun e w' => e = .returned (refNumVal D off) ∧ Fr [] w w' := by
  have HR := Lib.hid (And.intro hrow hD)
  have hDI : (D.length : Int) ≤ 4294967296 := by omega
  have hoI : (off : Int) ≤ 4294967296 := by omega
  clear hrow hD
  go_enter Try.func77, Try.ntmps77
  go_wp2_with fail
  go_loopw [7] (fun i wr => ∃ k : Nat, k ≤ 10 ∧ i = .int .i64 ((k : Int) + 1) ∧ Fr [] w wr ∧ off + k ≤ D.length ∧ (∀ j b, j < k → D[off + j]? = some b → 128 ≤ b.toNat)) (fun i _ => 12 - (intOf i).toNat)
  case atStart => exact ⟨0, by omega, rfl, Fr.refl _ _, ho, by intro j b h; omega⟩
  case round =>
    obtain ⟨k, hk, rfl, hfr, hle, hpre⟩ := hrel
    have HS := Lib.hid (And.intro hfr hpre)
    clear hfr hpre
    by_cases hk10 : k < 10
    · have hkI : (k : Int) < 10 := by omega
      by_cases hend : off + k = D.length
      · have t1 : ¬ ((off : Int) + ((k : Int) + 1) ≤ (D.length : Int)) := by omega
        have HE := Lib.hid hend
        clear hend
        go_wp2_with fail
        go_ret3
        refine ⟨?_, HS.out.1⟩
        unfold refNumVal
        rw [rdNum_end D off k HS.out.2 HE.out]
        rfl
      · have hlt : off + k < D.length := by omega
        have t1 : (off : Int) + ((k : Int) + 1) ≤ (D.length : Int) := by omega
        have hx := List.getElem?_eq_getElem hlt
        generalize D[off + k] = x at hx
        obtain ⟨g, o, hA, hgs, hc⟩ := HR.out.1.fr0 HS.out.1 (off + k) _ (B8_get D _ x hx)
        subst hA
        have hxb := UInt8.toNat_lt x
        have HX := Lib.hid hx
        clear hx hend
        by_cases hx128 : 128 ≤ x.toNat
        · have a1 : (128 : Int) ≤ (x.toNat : Int) := by omega
          go_wp2_with fail
          go_roundw
          case rel =>
            refine ⟨k + 1, by omega, by go_num, HS.out.1, by omega, ?_⟩
            intro j b hj hb
            by_cases e : j = k
            · subst e
              rw [HX.out] at hb
              injection hb with hb
              subst hb
              omega
            · exact HS.out.2 j b (by omega) hb
          case measure => simp [intOf]; omega
        · have a1 : ¬ (128 : Int) ≤ (x.toNat : Int) := by omega
          have HA : Hid (∀ j b, j ≤ k → D[off + j]? = some b → wr.cell? ⟨g, o + (off + j), none⟩ = some (.int .u8 (b.toNat : Int))) := by
            intro j b hj hb
            obtain ⟨g', o', hA', _, h'⟩ := HR.out.1.fr0 HS.out.1 (off + j) _ (B8_get D _ b hb)
            injection hA' with hA'
            injection hA' with h1 h2
            rw [h1, h2]
            exact h'
          obtain ⟨l, hl⟩ : ∃ l, l = D.drop off := ⟨_, rfl⟩
          have HLD := Lib.hid hl
          clear hl
          go_wp2_with fail
          go_loopw [8, 9] (fun v i wr' => ∃ j : Nat, j ≤ k + 1 ∧ i = .int .i64 ((j : Int) - 1) ∧ wr' = wr ∧ v = .int .u64 (acc64 (l.drop j) (k + 1 - j) : Int)) (fun _ i _ => (intOf i + 1).toNat)
          case atStart => exact ⟨k + 1, by omega, by go_num, rfl, by simp [acc64, accN]⟩
          case round =>
            obtain ⟨j, hj, rfl, rfl, rfl⟩ := hrel
            by_cases hj0 : j = 0
            · subst hj0
              have hvu := acc64_u64 (l.drop 0) (k + 1 - 0)
              have HVD : Hid (acc64 (l.drop 0) (k + 1 - 0) = acc64 (D.drop off) (k + 1)) := by rw [HLD.out]; rfl
              generalize acc64 (l.drop 0) (k + 1 - 0) = V at hvu HVD ⊢
              have HVU := Lib.hid hvu
              clear hvu
              have HCAN := Lib.hid (canon D off k x HS.out.2 HX.out (by omega) (by omega))
              go_wp2_with fail
              refine (refNumber_any V _ HVU.out).mono ?_
              rintro e w1 ⟨A2, c2, rfl, hf, hown⟩
              have H1 := Lib.hid (And.intro (HS.out.1.trans hf) hown)
              have HAW : Hid (∀ j b, j ≤ k → D[off + j]? = some b → w1.cell? ⟨g, o + (off + j), none⟩ = some (.int .u8 (b.toNat : Int))) := fun j b hj hb => by
                obtain ⟨g', o', hA', _, h'⟩ := HR.out.1.fr0 H1.out.1 (off + j) _ (B8_get D _ b hb)
                injection hA' with hA'
                injection hA' with h1 h2
                rw [h1, h2]
                exact h'
              have hnl := num_length V HVU.out
              clear hf hown HA hc
              by_cases hlen : (num V).length = k + 1
              · have t2 : (((num V).length : Int) != (k : Int) + 1) = false := by rw [hlen]; simp
                have HLEN := Lib.hid hlen
                obtain ⟨g2, cap2, rest2, hv2, _, _, hrat, _, _⟩ := ownsRow_at H1.out.2 (by omega)
                simp only [Value.slice.injEq, true_and] at hv2
                obtain ⟨rfl, rfl⟩ := hv2
                have HRAT := Lib.hid hrat
                clear hlen hrat
                go_wp2_with fail
                go_loopw [11] (fun i wr' => ∃ j : Nat, j ≤ k + 1 ∧ i = .int .i64 (j : Int) ∧ Fr [] w1 wr' ∧ (∀ i, i < j → (num V)[i]? = D[off + i]?)) (fun i _ => k + 1 - (intOf i).toNat)
                case atStart => exact ⟨0, by omega, rfl, Fr.refl _ _, by intro i hi; omega⟩
                case round =>
                  obtain ⟨j, hj, rfl, hfj, hsame⟩ := hrel
                  have HJ := Lib.hid (And.intro hfj hsame)
                  clear hfj hsame
                  by_cases hjk : j < k + 1
                  · have hy := List.getElem?_eq_getElem (show off + j < D.length by omega)
                    generalize D[off + j] = y at hy
                    have hz := List.getElem?_eq_getElem (show j < (num V).length by rw [HLEN.out]; exact hjk)
                    generalize (num V)[j]'(by rw [HLEN.out]; exact hjk) = z at hz
                    have cy : wr.cell? ⟨g, o + (off + j), none⟩ = some (.int .u8 (y.toNat : Int)) := by
                      obtain ⟨g', o', hA', _, h'⟩ := HR.out.1.fr0 (H1.out.1.trans HJ.out.1) (off + j) _ (B8_get D _ y hy)
                      injection hA' with hA'
                      injection hA' with h1 h2
                      rw [h1, h2]
                      exact h'
                    have cz : wr.cell? ⟨g2, j, none⟩ = some (.int .u8 (z.toNat : Int)) := by
                      rw [(HRAT.out.fr HJ.out.1 (by simp)).cell, List.getElem?_append_left (by rw [B8_length, HLEN.out]; exact hjk)]
                      exact B8_get _ _ z hz
                    have hjI : (j : Int) < (k : Int) + 1 := by omega
                    have hbd : (off : Int) + (j : Int) < (D.length : Int) := by omega
                    have hbz : (j : Int) < ((num V).length : Int) := by rw [HLEN.out]; omega
                    have HYZ := Lib.hid (And.intro hy hz)
                    clear hy hz
                    by_cases hyz : z = y
                    · have tt : ((z.toNat : Int) != (y.toNat : Int)) = false := by rw [hyz]; simp
                      have HE := Lib.hid hyz
                      clear hyz
                      go_wp2_with fail
                      go_quiet (fail)
                      go_wp2_with fail
                      go_roundw
                      case rel =>
                        refine ⟨j + 1, by omega, by go_num, HJ.out.1.drewN _, ?_⟩
                        intro i hi
                        by_cases e : i = j
                        · subst e
                          rw [HYZ.out.1, HYZ.out.2, HE.out]
                        · exact HJ.out.2 i (by omega)
                      case measure => simp [intOf]; omega
                    · have tt : ((z.toNat : Int) != (y.toNat : Int)) = true := by
                        simp only [bne_iff_ne, ne_eq]
                        intro h
                        exact hyz (UInt8.toNat_inj.1 (by omega))
                      have HE := Lib.hid hyz
                      clear hyz
                      go_wp2_with fail
                      go_quiet (fail)
                      go_wp2_with fail
                      go_ret3
                      refine ⟨?_, (H1.out.1.trans HJ.out.1).drewN _⟩
                      unfold refNumVal
                      rw [HCAN.out.2 ?_]
                      · rfl
                      · rw [← HVD.out]
                        intro h
                        apply HE.out
                        have h1 := HYZ.out.2
                        rw [h, List.getElem?_take, if_pos hjk, List.getElem?_drop, HYZ.out.1] at h1
                        injection h1 with h1
                        exact h1.symm
                  · obtain rfl : j = k + 1 := by omega
                    go_wp2_with fail
                    go_ret3
                    refine ⟨?_, H1.out.1.trans HJ.out.1⟩
                    unfold refNumVal
                    rw [HCAN.out.1 ?_, ← HVD.out]
                    · have e : ((off + k + 1 : Nat) : Int) = (off : Int) + ((k : Int) + 1) := by omega
                      simp only
                      rw [e]
                      rfl
                    · rw [← HVD.out]
                      refine List.ext_getElem? fun i => ?_
                      by_cases hi : i < k + 1
                      · rw [HJ.out.2 i hi, List.getElem?_take, if_pos hi, List.getElem?_drop]
                      · rw [List.getElem?_eq_none (by rw [HLEN.out]; omega), List.getElem?_eq_none (by rw [List.length_take]; omega)]
              · have t2 : (((num V).length : Int) != (k : Int) + 1) = true := by simp; omega
                have HLEN := Lib.hid hlen
                clear hlen
                go_wp2_with fail
                go_ret3
                refine ⟨?_, H1.out.1⟩
                unfold refNumVal
                rw [HCAN.out.2 ?_]
                · rfl
                · rw [← HVD.out]
                  intro h
                  apply HLEN.out
                  rw [h, List.length_take, List.length_drop]
                  omega
            · obtain ⟨j, rfl⟩ : ∃ j', j = j' + 1 := ⟨j - 1, by omega⟩
              have hy := List.getElem?_eq_getElem (show off + j < D.length by omega)
              generalize D[off + j] = y at hy
              have hcy := HA.out j y (by omega) hy
              have hyb := UInt8.toNat_lt y
              have hst := acc64_step l (k + 1 - (j + 1)) j y (by rw [HLD.out, List.getElem?_drop]; exact hy)
              have hvu := acc64_u64 (l.drop (j + 1)) (k + 1 - (j + 1))
              have HST := Lib.hid hst
              unfold U64 at hvu
              generalize acc64 (l.drop (j + 1)) (k + 1 - (j + 1)) = V at hvu hst HST ⊢
              have hvI : (V : Int) ≤ 18446744073709551615 := by omega
              clear hvu hst
              go_wp2_with fail
              go_roundw
              case rel =>
                refine ⟨j, by omega, rfl, by trivial, ?_⟩
                rw [IntKind.wrap_u64, IntKind.wrap_u64, HST.out, show k + 1 - (j + 1) + 1 = k + 1 - j by omega]
              case measure => simp [intOf]
    · obtain rfl : k = 10 := by omega
      go_wp2_with fail
      go_ret3
      refine ⟨?_, HS.out.1⟩
      unfold refNumVal
      rw [rdNum_long D off HS.out.2 hle]
      rfl

end Go.Proofs.Ytflabbdnkoejjaa
