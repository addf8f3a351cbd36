/- The law BloomtablePlaces, walked. -/
import Derived.Test.YtnhagokkamobaaaDoorBlRef2
namespace Go.Proofs.YtnhagokkamobaaaDoor
open Go.RowKit

theorem pl3_map (n seed : Nat) (key : List UInt8) : pl3 n seed key = (placesL n seed key).map (Value.int .i64) := rfl

set_option maxRecDepth 100000 in
theorem placesB_bad (n : Int) (seed : Nat) (key : List UInt8) (w : World) (h : isSz n = false ∨ key.length ≠ 32) :
    Calls Tryd.prog 17 #[Value.int .i64 n, .int .u64 (seed : Int), .string (strOf key)] w fun e w' => e = .returned (.tuple #[.slice none 0 0, Value.int .i64 1]) ∧ w = w' := by
  have HI := Lib.hid (isSize_any n w)
  obtain ⟨s, HS⟩ : ∃ s, Hid (s = strOf key) := ⟨_, rfl⟩
  have hz : s.size = key.length := by rw [HS.out]; exact strOf_size key
  rw [← HS.out]
  rw [← hz] at h
  clear hz
  cases hb : isSz n with
  | false =>
    rw [hb] at HI
    clear hb h
    go_enter Tryd.func17, Tryd.ntmps17
    go_wp2_with fail
    refine HI.out.mono ?_
    rintro e w1 ⟨rfl, rfl⟩
    go_wp2_with fail
    go_ret2
    exact ⟨rfl, rfl⟩
  | true =>
    rw [hb] at HI
    have hk : s.size ≠ 32 := by rcases h with h | h
                                · rw [hb] at h; cases h
                                · exact h
    have q : ((s.size : Int) == 32) = false := by simp; omega
    have q2 : ((s.size : Int) != 32) = true := by simp; omega
    clear hb h hk
    go_enter Tryd.func17, Tryd.ntmps17
    go_wp2_with fail
    refine HI.out.mono ?_
    rintro e w1 ⟨rfl, rfl⟩
    go_wp2_with fail
    go_ret2
    exact ⟨rfl, rfl⟩

set_option maxRecDepth 100000 in
theorem placesB_any (n seed : Nat) (key : List UInt8) (w : World) (hv : Vars w) (hs : U64 seed) (h : isSz (n : Int) = true) (hk : key.length = 32) :
    Calls Tryd.prog 17 #[Value.int .i64 (n : Int), .int .u64 (seed : Int), .string (strOf key)] w fun e w' => ∃ A c, e = .returned (.tuple #[.slice A 3 c, Value.int .i64 0]) ∧ Fr [] w w' ∧ RowIn w' A ((placesL n seed key).map (Value.int .i64)) := by
  have HI := Lib.hid (isSize_any (n : Int) w)
  rw [h] at HI
  obtain ⟨n3, n4, _⟩ := isSz_bounds h
  have HP := Lib.hid (places_any n seed key w hv hs (by omega) n3 n4)
  obtain ⟨L, HL⟩ : ∃ L, Hid (L = pl3 n seed key) := ⟨_, rfl⟩
  rw [← HL.out] at HP
  have HLX : Hid (L.length = 3 ∧ (∀ v ∈ L, v.oneCell' = true)) := by
    show _ ∧ _
    rw [HL.out]
    refine ⟨rfl, ?_⟩
    intro v hv
    simp only [pl3, List.mem_cons, List.not_mem_nil, or_false] at hv
    rcases hv with rfl | rfl | rfl <;> rfl
  obtain ⟨s, HS⟩ : ∃ s, Hid (s = strOf key) := ⟨_, rfl⟩
  have hz : s.size = 32 := by rw [HS.out, strOf_size]; exact hk
  rw [← HS.out] at HP ⊢
  have q : ((s.size : Int) == 32) = true := by simp; omega
  have q2 : ((s.size : Int) != 32) = false := by simp; omega
  clear hv hs h hk hz
  go_enter Tryd.func17, Tryd.ntmps17
  go_wp2_with fail
  refine HI.out.mono ?_
  rintro e w1 ⟨rfl, rfl⟩
  go_wp2_with fail
  refine HP.out.mono ?_
  rintro e w2 ⟨rfl, hf2⟩
  have hsl : ∀ W : World, (Instr.sliceAt 70 (.pointer (some ⟨w2.heap.size, 0, none⟩)) none none none).run Tryd.prog W = .ok (.slice (some ⟨w2.heap.size, 0, none⟩) 3 3) W := fun W => by kernel_rfl
  go_wp2_with (refine wpList_store_new rfl 70 (.tmp 8) (.tmp 20) rfl rfl 70 _ L rfl (by rw [HLX.out.1]; rfl) (by rw [HLX.out.1]; kernel_rfl) HLX.out.2 ?_; intro w3 hf3 ha3)
  go_ret2
  refine ⟨_, _, rfl, hf2.trans hf3, fun i u hu => ⟨w2.heap.size, 0, rfl, ha3.lt, ?_⟩⟩
  rw [Nat.zero_add, ha3.cell, HL.out]
  exact hu

set_option maxRecDepth 100000 in
set_option maxHeartbeats 1000000 in
theorem lawPlaces_any (n : Int) (seed : Nat) (key : List UInt8) (w : World) (hv : Vars w) (hs : U64 seed) :
    Calls Tryd.prog 4 #[Value.int .i64 n, .int .u64 (seed : Int), .string (strOf key)] w fun e w' => e = .returned (.bool true) ∧ Fr [] w w' := by
  have HV := Lib.hid (And.intro hv hs)
  have HA : Hid (∀ W, Fr [] w W → Calls Tryd.prog 13 #[] W fun e w' => e = .returned (.bool true) ∧ Fr [] w w') := fun W hW => (awake_any W (hv.fr hW (by simp) (by simp))).mono fun e w' ⟨he, hf⟩ => ⟨he, hW.trans hf⟩
  obtain ⟨s, HS⟩ : ∃ s, Hid (s = strOf key) := ⟨_, rfl⟩
  have HZ : Hid (s.size = key.length) := by show _ = _; rw [HS.out]; exact strOf_size key
  clear hv hs
  by_cases h100 : 100 < s.size
  · rw [← HS.out]
    go_enter Tryd.func4, Tryd.ntmps4
    go_wp2_with fail
    refine (HA.out w (Fr.refl _ _)).mono ?_
    rintro e w1 ⟨rfl, hf1⟩
    go_wp2_with fail
    go_ret
    exact ⟨rfl, hf1⟩
  · by_cases hbad : isSz n = false ∨ key.length ≠ 32
    · have HB := Lib.hid (placesB_bad n seed key w hbad)
      have HVA := Lib.hid (valid_any n w)
      have HKE := Lib.hid (key_any key w)
      rw [← HS.out] at HB HKE ⊢
      have h100' : s.size ≤ 100 := by omega
      cases hz : isSz n with
      | false =>
        rw [hz] at HVA
        clear hz hbad HKE
        go_enter Tryd.func4, Tryd.ntmps4
        go_wp2_with fail
        refine HB.out.mono ?_
        rintro e w1 ⟨rfl, rfl⟩
        go_wp2_with fail
        refine HVA.out.mono ?_
        rintro e w1 ⟨rfl, rfl⟩
        go_wp2_with fail
        refine (HA.out w (Fr.refl _ _)).mono ?_
        rintro e w1 ⟨rfl, hf1⟩
        go_wp2_with fail
        go_ret
        exact ⟨rfl, hf1⟩
      | true =>
        rw [hz] at HVA
        have hk : decide (key.length = 32) = false := by
          rcases hbad with h | h
          · rw [hz] at h; cases h
          · simpa using h
        rw [hk] at HKE
        clear hz hbad hk
        go_enter Tryd.func4, Tryd.ntmps4
        go_wp2_with fail
        refine HB.out.mono ?_
        rintro e w1 ⟨rfl, rfl⟩
        go_wp2_with fail
        refine HVA.out.mono ?_
        rintro e w1 ⟨rfl, rfl⟩
        go_wp2_with fail
        refine HKE.out.mono ?_
        rintro e w1 ⟨rfl, rfl⟩
        go_wp2_with fail
        refine (HA.out w (Fr.refl _ _)).mono ?_
        rintro e w1 ⟨rfl, hf1⟩
        go_wp2_with fail
        go_ret
        exact ⟨rfl, hf1⟩
    · have hz : isSz n = true := by cases h : isSz n with
                                    | true => rfl
                                    | false => exact absurd (.inl h) hbad
      have hk : key.length = 32 := by
        by_cases h : key.length = 32
        · exact h
        · exact absurd (.inr h) hbad
      obtain ⟨m, rfl⟩ : ∃ m : Nat, n = (m : Int) := ⟨n.toNat, by unfold isSz at hz; simp at hz; omega⟩
      have HB := Lib.hid (placesB_any m seed key w HV.out.1 HV.out.2 hz hk)
      have HVA : Hid (∀ W, Calls Tryd.prog 16 #[Value.int .i64 (m : Int)] W fun e w' => e = .returned (.bool true) ∧ W = w') := fun W => by have := valid_any (m : Int) W; rw [hz] at this; exact this
      have HKE : Hid (∀ W, Calls Tryd.prog 18 #[.string (strOf key)] W fun e w' => e = .returned (.bool true) ∧ W = w') := fun W => by have := key_any key W; rw [hk] at this; exact this
      have HRP : Hid (∀ W, Calls Tryd.prog 20 #[Value.int .i64 (m : Int), .int .u64 (seed : Int), .string (strOf key)] W (NewInts (placesL m seed key) W)) := fun W => refPlaces_any m seed key W hz (by omega)
      rw [← HS.out] at HB HKE HRP ⊢
      have h100' : s.size ≤ 100 := by omega
      clear hz hk hbad
      go_enter Tryd.func4, Tryd.ntmps4
      go_wp2_with fail
      refine HB.out.mono ?_
      rintro e w1 ⟨A1, c1, rfl, hf1, hr1⟩
      have H1 := Lib.hid (And.intro hf1 hr1)
      clear hf1 hr1
      go_wp2_with fail
      refine (HVA.out w1).mono ?_
      rintro e w2 ⟨rfl, rfl⟩
      go_wp2_with fail
      refine (HKE.out w1).mono ?_
      rintro e w2 ⟨rfl, rfl⟩
      go_wp2_with fail
      refine (awake_any w1 (HV.out.1.fr H1.out.1 (by simp) (by simp))).mono ?_
      rintro e w2 ⟨rfl, hf2⟩
      have H2 : Hid (Fr [] w w2 ∧ RowIn w2 A1 ((placesL m seed key).map (Value.int .i64))) := ⟨H1.out.1.trans hf2, H1.out.2.fr0 hf2⟩
      clear hf2 H1
      go_wp2_with fail
      refine (HRP.out w2).mono ?_
      rintro e w3 ⟨A3, c3, rfl, hf3, hr3⟩
      rw [show (placesL m seed key).length = 3 from rfl]
      have H3 : Hid (Fr [] w w3) := H2.out.1.trans hf3
      have HIN : Hid (Calls Tryd.prog 19 #[.slice A1 3 c1, .slice A3 3 c3] w3 fun e w' => e = .returned (.bool true) ∧ Fr [] w3 w') := by
        have h1 := ints_any A1 A3 c1 c3 (placesL m seed key) (placesL m seed key) w3 (H2.out.2.fr0 hf3) hr3 (by simp [placesL]) (by simp [placesL])
        rw [decide_eq_true (rfl : placesL m seed key = placesL m seed key)] at h1
        exact h1
      clear hf3 hr3 H2
      go_wp2_with fail
      refine HIN.out.mono ?_
      rintro e w4 ⟨rfl, hf4⟩
      go_wp2_with fail
      go_ret
      exact ⟨rfl, H3.out.trans hf4⟩

end Go.Proofs.YtnhagokkamobaaaDoor
