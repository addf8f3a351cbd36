/- Contract of the reader's number. -/
import Derived.Test.YtlepfnihpdhcaaaGreatDoorWirePlain
import Derived.Test.YtlepfnihpdhcaaaGreatDoorWire1
import Derived.BigQuiet
import Derived.Deep.QuietTactic
namespace Go.Proofs.YtlepfnihpdhcaaaGreatDoor
open Go.RowKit
variable {X : Option Addr × Nat}

/-- A reader of the bytes D. -/
def ReaderAt (X : Option Addr × Nat) (w : World) (br : Nat) (D : List UInt8) (off last : Nat) (err : Int) : Prop :=
  ∃ A c, X = (A, c) ∧ At w br 146 [.slice A D.length c, Value.int .i64 (off : Int), Value.int .i64 (last : Int), Value.int .i64 err] ∧ w.ownsRow 0 5 1 (.slice A D.length c) D.length (B8 D)

/-- What number leaves: the value and the offset behind it, or an error. -/
def NumRes (X : Option Addr × Nat) (br : Nat) (D : List UInt8) (off last : Nat) (w : World) (e : Ending) (w' : World) : Prop :=
  Fr [br] w w' ∧ ∃ off', off' ≤ D.length ∧ ReaderAt X w' br D off' last 0 ∧
    match rdNum D off with
    | some (n, m) => e = .returned (.tuple #[.int .u64 (n : Int), Value.int .i64 0]) ∧ off' = m ∧ U64 n
    | none => e = .returned (.tuple #[.int .u64 0, Value.int .i64 3])

theorem ReaderAt.fr {w w' : World} {br : Nat} {D : List UInt8} {off last : Nat} {err : Int} (h : ReaderAt X w br D off last err) (hf : Fr [] w w') : ReaderAt X w' br D off last err := by
  obtain ⟨A, c, hX, h1, h2⟩ := h
  exact ⟨A, c, hX, h1.fr hf (by simp), ownsRow_fr h2 hf (by simp)⟩

theorem number_fin (br : Nat) (D : List UInt8) (off last : Nat) (w wr : World) (A : Option Addr) (c : Nat) (v : Value) (k : Nat)
    (ha : At w br 146 [.slice A D.length c, Value.int .i64 (off : Int), Value.int .i64 (last : Int), Value.int .i64 0]) (hrow : w.ownsRow 0 5 1 (.slice A D.length c) D.length (B8 D)) (hX : X = (A, c)) (hf : Fr [br] w wr)
    (hat : At wr br 146 [.slice A D.length c, v, Value.int .i64 (last : Int), Value.int .i64 0]) (nq : Nat) :
    Fr [br] w ((wr.drewN nq).setCell ⟨br, 1, none⟩ (Value.int .i64 ((off : Int) + (k : Int) + 1))) ∧ At ((wr.drewN nq).setCell ⟨br, 1, none⟩ (Value.int .i64 ((off : Int) + (k : Int) + 1))) br 146 [.slice A D.length c, Value.int .i64 ((off + k + 1 : Nat) : Int), Value.int .i64 (last : Int), Value.int .i64 0] ∧ ReaderAt X ((wr.drewN nq).setCell ⟨br, 1, none⟩ (Value.int .i64 ((off : Int) + (k : Int) + 1))) br D (off + k + 1) last 0 := by
  have h1 := (hf.drewN nq).setCell (p := ⟨br, 1, none⟩) (.inl (by simp)) (Value.int .i64 ((off : Int) + (k : Int) + 1))
  have e : (off : Int) + (k : Int) + 1 = ((off + k + 1 : Nat) : Int) := by omega
  have h2 := (hat.drewN nq).set 1 (Value.int .i64 ((off : Int) + (k : Int) + 1))
  rw [e] at h1 h2 ⊢
  refine ⟨h1, h2, A, c, hX, h2, ownsRow_fr hrow h1 ?_⟩
  intro g hg hm
  have : g = br := by simpa using hm
  subst this
  exact own_ne hrow ha (by decide) hg

set_option maxRecDepth 100000 in
set_option maxHeartbeats 4000000 in
theorem number_any (br : Nat) (D : List UInt8) (off last : Nat) (w : World) (hr : ReaderAt X w br D off last 0) (ho : off ≤ D.length) (hD : D.length ≤ 4294967296) :
    Calls Tryz.prog 101 #[Value.pointer (some ⟨br, 0, none⟩)] w (NumRes X br D off last w) := by
  obtain ⟨A, c, hX, ha, hrow⟩ := hr
  have HR := Lib.hid (And.intro ha hrow)
  have HD := Lib.hid hD
  clear ha hrow hD
  go_enter Tryz.func101, Tryz.ntmps101
  go_wp2_with fail
  go_loopw [2, 6] (fun n i wr => ∃ k : Nat, k ≤ 10 ∧ i = .int .i64 k ∧ Fr [br] w wr ∧ At wr br 146 [.slice A D.length c, Value.int .i64 ((off + k : Nat) : Int), Value.int .i64 (last : Int), Value.int .i64 0] ∧ off + k ≤ D.length ∧
    (∀ j b, j < k → D[off + j]? = some b → 128 ≤ b.toNat) ∧ ∃ m : Nat, n = .int .u64 (m : Int) ∧ U64 m ∧ (k ≤ 9 → m = accN (D.drop off) k)) (fun _ i _ => 10 - (intOf i).toNat)
  case atStart => exact ⟨0, by omega, rfl, Fr.refl _ _, HR.out.1, ho, by intro j b h; omega, 0, rfl, by unfold U64; decide, fun _ => by simp [accN]⟩
  case round =>
    obtain ⟨k, hk, rfl, hfr, hat, hle, hpre, m, rfl, hm, hacc⟩ := hrel
    have HS := Lib.hid (And.intro hfr (And.intro hat (And.intro hpre (And.intro hm hacc))))
    have c0 : wr.cell? ⟨br, 0, none⟩ = some (.slice A D.length c) := by rw [hat.cell]; rfl
    have c1 : wr.cell? ⟨br, 1, none⟩ = some (Value.int .i64 ((off + k : Nat) : Int)) := by rw [hat.cell]; rfl
    have z1 : wr.frozen? ⟨br, 1, none⟩ = false := hat.frozen 1
    have hmI : (m : Int) ≤ 18446744073709551615 := by unfold U64 at hm; omega
    have hDI : (D.length : Int) ≤ 4294967296 := by have := HD.out; omega
    clear hfr hat hpre hm hacc
    by_cases hk10 : k < 10
    · by_cases hend : off + k = D.length
      · have t1 : (((off + k : Nat) : Int) == (D.length : Int)) = true := by rw [hend]; simp
        have HE := Lib.hid hend
        clear hend
        go_wp2_with fail
        go_quiet (fail)
        go_wp2_with fail
        go_ret2
        refine ⟨HS.out.1.drewN _, off + k, hle, ⟨A, c, hX, HS.out.2.1.drewN _, ?_⟩, ?_⟩
        · refine ownsRow_fr HR.out.2 (HS.out.1.drewN _) ?_
          intro g hg hm
          have : g = br := by simpa using hm
          subst this
          exact own_ne HR.out.2 HR.out.1 (by decide) hg
        · rw [rdNum_end D off k HS.out.2.2.1 HE.out]
          rfl
      · have hlt : off + k < D.length := by omega
        have t1 : (((off + k : Nat) : Int) == (D.length : Int)) = false := by simp; omega
        obtain ⟨g, cap', rest, hv, _, _, hrat, hxl, _⟩ := ownsRow_at HR.out.2 (by omega)
        simp only [Value.slice.injEq, true_and] at hv
        obtain ⟨rfl, rfl⟩ := hv
        have hx := List.getElem?_eq_getElem hlt
        generalize D[off + k] = x at hx
        have hgb : g ≠ br := fun e => own_ne HR.out.2 HR.out.1 (by decide) (by rw [e]; rfl)
        have hcx : wr.cell? ⟨g, off + k, none⟩ = some (.int .u8 (x.toNat : Int)) := by
          rw [(hrat.fr HS.out.1 (by simpa using hgb)).cell, List.getElem?_append_left (by rw [B8_length]; exact hlt)]
          exact B8_get D _ x hx
        have hxb := UInt8.toNat_lt x
        have HX := Lib.hid hx
        obtain ⟨m', he, hm'⟩ := orG_nat m x k HS.out.2.2.2.1
        unfold orG at he
        have HM := Lib.hid hm'
        clear hx hrat hend hm' hxl
        by_cases hx128 : 128 ≤ x.toNat
        · have a1 : (128 : Int) ≤ (x.toNat : Int) := by omega
          go_wp2_with fail
          go_quiet (fail)
          go_wp2_with fail
          go_quiet (fail)
          go_wp2_with fail
          go_roundw
          case rel =>
            obtain ⟨f1, f2, f3⟩ := number_fin br D off last w wr _ c _ k HR.out.1 HR.out.2 hX HS.out.1 HS.out.2.1 _
            refine ⟨k + 1, by omega, by go_num, f1, f2, by omega, ?_, m', rfl, HM.out.1, fun hk9 => ?_⟩
            · intro j b hj hb
              by_cases e : j = k
              · subst e
                rw [HX.out] at hb
                injection hb with hb
                subst hb
                omega
              · exact HS.out.2.2.1 j b (by omega) hb
            · rw [accN_succ k _ x (by rw [List.getElem?_drop]; exact HX.out), ← HS.out.2.2.2.2 (by omega)]
              refine HM.out.2 ?_ ?_
              · rw [HS.out.2.2.2.2 (by omega)]; exact accN_lt _ _
              · have h1 : 128 ^ k ≤ 128 ^ 8 := Nat.pow_le_pow_right (by omega) (by first | omega | (have := HG.out; omega))
                have h2 := Nat.mod_lt x.toNat (show 128 > 0 by omega)
                have h3 : x.toNat % 128 * 128 ^ k ≤ 127 * 128 ^ 8 := Nat.mul_le_mul (by omega) h1
                have h4 : 127 * 128 ^ 8 < 18446744073709551616 := by decide
                omega
          case measure => simp [intOf]; omega
        · by_cases hbad : (0 < k ∧ x.toNat = 0) ∨ (k = 9 ∧ 1 < x.toNat)
          · have HB := Lib.hid hbad
            by_cases hx0 : x.toNat = 0
            · have a1 : ((x.toNat : Int) == 0) = true := by simp [hx0]
              have a2 : (0 : Int) < (k : Int) := by omega
              have a3 : (x.toNat : Int) < 128 := by omega
              clear hbad
              go_wp2_with fail
              go_quiet (fail)
              go_wp2_with fail
              go_quiet (fail)
              go_wp2_with fail
              go_ret2
              obtain ⟨f1, f2, f3⟩ := number_fin br D off last w wr _ c _ k HR.out.1 HR.out.2 hX HS.out.1 HS.out.2.1 _
              refine ⟨f1, _, ?_, f3, ?_⟩
              · omega
              rw [rdNum_at D off k x HS.out.2.2.1 HX.out (by omega)]
              rw [if_neg (by have := HB.out; omega)]
              rfl
            · have a1 : ((x.toNat : Int) == 0) = false := by simp; omega
              have a2 : (0 : Int) < (k : Int) := by omega
              have a3 : (x.toNat : Int) < 128 := by omega
              have a4 : ((k : Int) == 9) = true := by simp; omega
              have a5 : (1 : Int) < (x.toNat : Int) := by omega
              clear hbad
              go_wp2_with fail
              go_quiet (fail)
              go_wp2_with fail
              go_quiet (fail)
              go_wp2_with fail
              go_ret2
              obtain ⟨f1, f2, f3⟩ := number_fin br D off last w wr _ c _ k HR.out.1 HR.out.2 hX HS.out.1 HS.out.2.1 _
              refine ⟨f1, _, ?_, f3, ?_⟩
              · omega
              rw [rdNum_at D off k x HS.out.2.2.1 HX.out (by omega)]
              rw [if_neg (by have := HB.out; omega)]
              rfl
          · have HG0 := Lib.hid hbad
            by_cases hk0 : k = 0
            · have a1 : decide ((0 : Int) < (k : Int)) = false := by simp; omega
              have a1n : decide (0 < k) = false := by simp; omega
              have HG := Lib.hid (And.intro HG0.out (And.intro hk0 hx128))
              have a3 : (x.toNat : Int) < 128 := by omega
              have a4 : ((k : Int) == 9) = false := by simp; omega
              clear hbad hk0 HG0
              go_wp2_with fail
              go_quiet (fail)
              go_wp2_with fail
              go_quiet (fail)
              go_wp2_with fail
              go_ret2
              obtain ⟨f1, f2, f3⟩ := number_fin br D off last w wr _ c _ k HR.out.1 HR.out.2 hX HS.out.1 HS.out.2.1 _
              refine ⟨f1, _, ?_, f3, ?_⟩
              · omega
              rw [rdNum_at D off k x HS.out.2.2.1 HX.out (by omega)]
              rw [if_pos (by have := HG.out; omega)]
              have hv : m' = accN (D.drop off) (k + 1) := by
                rw [accN_succ k _ x (by rw [List.getElem?_drop]; exact HX.out), ← HS.out.2.2.2.2 (by omega)]
                refine HM.out.2 ?_ ?_
                · rw [HS.out.2.2.2.2 (by omega)]; exact accN_lt _ _
                · have h1 : 128 ^ k ≤ 128 ^ 8 := Nat.pow_le_pow_right (by omega) (by first | omega | (have := HG.out; omega))
                  have h2 := Nat.mod_lt x.toNat (show 128 > 0 by omega)
                  have h3 : x.toNat % 128 * 128 ^ k ≤ 127 * 128 ^ 8 := Nat.mul_le_mul (by omega) h1
                  have h4 : 127 * 128 ^ 8 < 18446744073709551616 := by decide
                  omega
              rw [← hv]
              exact ⟨rfl, rfl, HM.out.1⟩
            · by_cases hk9 : k = 9
              · have a1 : ((x.toNat : Int) == 0) = false := by simp; omega
                have a2 : (0 : Int) < (k : Int) := by omega
                have a3 : (x.toNat : Int) < 128 := by omega
                have a4 : ((k : Int) == 9) = true := by simp; omega
                have a5 : ¬ (1 : Int) < (x.toNat : Int) := by omega
                have HK := Lib.hid hk9
                have HG := Lib.hid (And.intro HG0.out (And.intro hk9 hx128))
                clear hbad hk0 hk9
                go_wp2_with fail
                go_quiet (fail)
                go_wp2_with fail
                go_quiet (fail)
                go_wp2_with fail
                go_ret2
                obtain ⟨f1, f2, f3⟩ := number_fin br D off last w wr _ c _ k HR.out.1 HR.out.2 hX HS.out.1 HS.out.2.1 _
                refine ⟨f1, _, ?_, f3, ?_⟩
                · omega
                rw [rdNum_at D off k x HS.out.2.2.1 HX.out (by omega)]
                rw [if_pos (by have := HG.out; omega)]
                have hv : m' = accN (D.drop off) (k + 1) := by
                  rw [accN_succ k _ x (by rw [List.getElem?_drop]; exact HX.out), ← HS.out.2.2.2.2 (by omega)]
                  refine HM.out.2 ?_ ?_
                  · rw [HS.out.2.2.2.2 (by omega)]; exact accN_lt _ _
                  · have hk9 := HK.out
                    subst hk9
                    have h1 : x.toNat % 128 = 1 := by have := HG.out; omega
                    rw [h1]
                    decide
                rw [← hv]
                exact ⟨rfl, rfl, HM.out.1⟩
              · have a1 : ((x.toNat : Int) == 0) = false := by simp; omega
                have a2 : (0 : Int) < (k : Int) := by omega
                have a3 : (x.toNat : Int) < 128 := by omega
                have a4 : ((k : Int) == 9) = false := by simp; omega
                have HG := Lib.hid (And.intro HG0.out (And.intro hk9 (And.intro hk0 hx128)))
                clear hbad hk9 hk0
                go_wp2_with fail
                go_quiet (fail)
                go_wp2_with fail
                go_quiet (fail)
                go_wp2_with fail
                go_ret2
                obtain ⟨f1, f2, f3⟩ := number_fin br D off last w wr _ c _ k HR.out.1 HR.out.2 hX HS.out.1 HS.out.2.1 _
                refine ⟨f1, _, ?_, f3, ?_⟩
                · omega
                rw [rdNum_at D off k x HS.out.2.2.1 HX.out (by omega)]
                rw [if_pos (by have := HG.out; omega)]
                have hv : m' = accN (D.drop off) (k + 1) := by
                  rw [accN_succ k _ x (by rw [List.getElem?_drop]; exact HX.out), ← HS.out.2.2.2.2 (by omega)]
                  refine HM.out.2 ?_ ?_
                  · rw [HS.out.2.2.2.2 (by omega)]; exact accN_lt _ _
                  · have h1 : 128 ^ k ≤ 128 ^ 8 := Nat.pow_le_pow_right (by omega) (by first | omega | (have := HG.out; omega))
                    have h2 := Nat.mod_lt x.toNat (show 128 > 0 by omega)
                    have h3 : x.toNat % 128 * 128 ^ k ≤ 127 * 128 ^ 8 := Nat.mul_le_mul (by omega) h1
                    have h4 : 127 * 128 ^ 8 < 18446744073709551616 := by decide
                    omega
                rw [← hv]
                exact ⟨rfl, rfl, HM.out.1⟩
    · obtain rfl : k = 10 := by omega
      go_wp2_with fail
      go_ret2
      refine ⟨HS.out.1, off + 10, hle, ⟨A, c, hX, HS.out.2.1, ?_⟩, ?_⟩
      · refine ownsRow_fr HR.out.2 HS.out.1 ?_
        intro g hg hm
        have : g = br := by simpa using hm
        subst this
        exact own_ne HR.out.2 HR.out.1 (by decide) hg
      · rw [rdNum_long D off HS.out.2.2.1 hle]
        rfl

end Go.Proofs.YtlepfnihpdhcaaaGreatDoor
