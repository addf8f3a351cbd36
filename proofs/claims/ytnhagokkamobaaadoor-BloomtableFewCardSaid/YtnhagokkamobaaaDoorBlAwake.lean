/- Contracts of the statements' helpers: keyOf, same, awake. -/
import Derived.Test.YtnhagokkamobaaaDoorBl7
namespace Go.Proofs.YtnhagokkamobaaaDoor
open Go.RowKit

set_option maxRecDepth 100000 in
theorem keyOf_any (y : UInt8) (w : World) : Calls Tryd.prog 23 #[.int .u8 (y.toNat : Int)] w fun e w' => e = .returned (.string (strOf (sha [y]))) ∧ Fr [] w w' := by
  have HS : Hid (Calls Tryd.prog 24 #[.slice (some ⟨w.heap.size, 0, none⟩) 1 1] (w.alloc (.cells #[.int .u8 (y.toNat : Int)] 5)) fun e w' => e = .returned (.string (strOf (sha [y]))) ∧ Fr [] (w.alloc (.cells #[.int .u8 (y.toNat : Int)] 5)) w') :=
    refSum_any (some ⟨w.heap.size, 0, none⟩) 1 [y] _ (fun i u hu => ⟨w.heap.size, 0, rfl, by simp, by rw [Nat.zero_add]; exact ((At.new w 5 [.int .u8 (y.toNat : Int)]).cell i).trans hu⟩) (by simp)
  go_enter Tryd.func23, Tryd.ntmps23
  go_wp2_with fail
  refine HS.out.mono ?_
  rintro e w1 ⟨rfl, hf1⟩
  go_wp2_with fail
  go_ret
  exact ⟨rfl, ((Fr.refl [] w).alloc _).trans hf1⟩

theorem str_ne {p q : List UInt8} (h : p ≠ q) : (strOf p).toList ≠ (strOf q).toList := by
  intro e
  apply h
  have h1 : ∀ l : List UInt8, (strOf l).toList = l := fun l => by rw [ByteArray.toList_eq]; rfl
  rw [h1, h1] at e
  exact e

set_option maxRecDepth 100000 in
set_option maxHeartbeats 1000000 in
theorem same_any (A B : Option Addr) (ca cb : Nat) (l r : List (List UInt8)) (w : World) (hl : RowIn w A (l.map S8v)) (hr : RowIn w B (r.map S8v)) (hb : l.length ≤ 1000000) (hb2 : r.length ≤ 1000000) :
    Calls Tryd.prog 27 #[.slice A l.length ca, .slice B r.length cb] w fun e w' => e = .returned (.bool (decide (l = r))) ∧ Fr [] w w' := by
  obtain ⟨n, HN⟩ : ∃ n, Hid (n = l.length) := ⟨_, rfl⟩
  obtain ⟨m, HM⟩ : ∃ m, Hid (m = r.length) := ⟨_, rfl⟩
  rw [← HN.out] at hb ⊢
  rw [← HM.out] at hb2 ⊢
  have H := Lib.hid (And.intro hl hr)
  clear hl hr
  by_cases hnm : n = m
  · subst hnm
    have HD : Hid (decide (l = r) = decide (∀ j, j < n → l[j]? = r[j]?)) := by
      show decide _ = decide _
      rw [decide_eq_decide]
      constructor
      · intro h j _; rw [h]
      · intro h
        apply List.ext_getElem?
        intro j
        rcases Nat.lt_or_ge j n with hj | hj
        · exact h j hj
        · rw [List.getElem?_eq_none (by rw [← HN.out]; exact hj), List.getElem?_eq_none (by rw [← HM.out]; exact hj)]
    rw [HD.out]
    go_enter Tryd.func27, Tryd.ntmps27
    go_wp2_with fail
    go_loopw [5] (fun s wx => ∃ i : Nat, i ≤ n ∧ s = .int .i64 i ∧ Hid (Fr [] w wx ∧ ∀ j, j < i → l[j]? = r[j]?)) (fun s _ => n - (intOf s).toNat)
    case atStart => exact ⟨0, by omega, rfl, Fr.refl _ _, fun j hj => by omega⟩
    case round =>
      obtain ⟨i, hi, rfl, HR⟩ := hrel
      by_cases hlt : i < n
      · obtain ⟨p, hp⟩ : ∃ p, l[i]? = some p := ⟨_, List.getElem?_eq_getElem (by rw [← HN.out]; exact hlt)⟩
        obtain ⟨q, hq⟩ : ∃ q, r[i]? = some q := ⟨_, List.getElem?_eq_getElem (by rw [← HM.out]; exact hlt)⟩
        obtain ⟨g, o, rfl, hg, hc⟩ := H.out.1 i (S8v p) (by rw [List.getElem?_map, hp]; rfl)
        obtain ⟨g2, o2, rfl, hg2, hc2⟩ := H.out.2 i (S8v q) (by rw [List.getElem?_map, hq]; rfl)
        have d1 : wr.cell? ⟨g, o + i, none⟩ = some (.string (strOf p)) := by rw [HR.out.1.cell (p := ⟨g, o + i, none⟩) hg (by simp)]; exact hc
        have d2 : wr.cell? ⟨g2, o2 + i, none⟩ = some (.string (strOf q)) := by rw [HR.out.1.cell (p := ⟨g2, o2 + i, none⟩) hg2 (by simp)]; exact hc2
        have hiI : (i : Int) < (n : Int) := by omega
        by_cases hpq : p = q
        · subst hpq
          have HNN : Hid (∀ j, j < i + 1 → l[j]? = r[j]?) := fun j hj => by
            rcases (by omega : j < i ∨ j = i) with h | rfl
            · exact HR.out.2 j h
            · rw [hp, hq]
          clear hp hq hc hc2
          go_wp2_with fail
          go_quiet (fail)
          have HF : Hid (Fr [] w (wr.drewN nq)) := HR.out.1.drewN _
          go_wp2_with fail
          go_roundw
          case rel =>
            first
              | exact ⟨i + 1, by omega, by go_num, HF.out, HNN.out⟩
              | ((repeat apply Exists.intro); exact ⟨⟨i + 1, by omega, by go_num, HF.out, HNN.out⟩, rfl⟩)
          case measure => simp [intOf] <;> omega
        · have hne : ((strOf p).toList == (strOf q).toList) = false := by simpa using str_ne hpq
          have hne2 : ((strOf p).toList != (strOf q).toList) = true := by simpa using str_ne hpq
          have HNO : Hid (decide (∀ j, j < n → l[j]? = r[j]?) = false) := by
            show decide _ = false
            rw [decide_eq_false_iff_not]
            intro h
            have := h i hlt
            rw [hp, hq] at this
            injection this with this
            exact hpq this
          clear hp hq hc hc2
          go_wp2_with fail
          go_quiet (fail)
          go_wp2_with fail
          go_ret
          exact ⟨ret_bool HNO.out.symm, HR.out.1.drewN _⟩
      · obtain rfl : i = n := by omega
        go_wp2_with fail
        go_ret
        refine ⟨ret_bool ?_, HR.out.1⟩
        symm
        rw [decide_eq_true_iff]
        exact HR.out.2
  · have HD : Hid (decide (l = r) = false) := by
      show decide _ = false
      rw [decide_eq_false_iff_not]
      intro e
      apply hnm
      rw [HN.out, HM.out, e]
    rw [HD.out]
    have hne : ((n : Int) == (m : Int)) = false := by simp; omega
    have hne2 : ((n : Int) != (m : Int)) = true := by simp; omega
    have hneI : ¬ ((n : Int) = (m : Int)) := by omega
    have hnb : (n == m) = false := by simpa using hnm
    have hnb2 : (n != m) = true := by simpa using hnm
    go_enter Tryd.func27, Tryd.ntmps27
    go_wp2_with fail
    go_ret
    exact ⟨rfl, Fr.refl _ _⟩

theorem ex1_keys : ex1.keys = some ([exK 1], []) := by unfold BT.keys; rw [ex1_raw]; simp [sortS]
theorem ex2_keys : ex2.keys = none := by unfold BT.keys; rw [ex2_raw]; rfl
theorem ex3_keys : ex3.keys = some ([], [exK 2]) := by unfold BT.keys; rw [ex3_raw]; simp [sortS]
theorem exK_len (n : Nat) : (exK n).length = 32 := sha_len _

theorem keyOf_lit (k : Int) (n : Nat) (w : World) (hk : k = ((UInt8.ofNat n).toNat : Int)) : Calls Tryd.prog 23 #[.int .u8 k] w fun e w' => e = .returned (.string (strOf (exK n))) ∧ Fr [] w w' := by
  rw [hk]
  exact keyOf_any (UInt8.ofNat n) w

theorem keys_some {bt bc cap : Nat} {rest : List Value} {w : World} {t : BT} {a r : List (List UInt8)} (hk : t.keys = some (a, r)) (hv : Vars w) (ht : TabAt w bt bc cap rest t) : Calls Tryd.prog 26 #[Value.pointer (some ⟨bt, 0, none⟩)] w fun e w' => ∃ A1 c1 A2 c2, e = .returned (.tuple #[.slice A1 a.length c1, .slice A2 r.length c2, Value.int .i64 0]) ∧ Fr [] w w' ∧ RowIn w' A1 (a.map S8v) ∧ RowIn w' A2 (r.map S8v) := by
  refine (keys_any bt bc cap rest t w hv ht).mono ?_
  rintro e w' ⟨hf, h⟩
  rw [hk] at h
  obtain ⟨A1, c1, A2, c2, he, h1, h2⟩ := h
  exact ⟨A1, c1, A2, c2, he, hf, h1, h2⟩
theorem keys_none {bt bc cap : Nat} {rest : List Value} {w : World} {t : BT} (hk : t.keys = none) (hv : Vars w) (ht : TabAt w bt bc cap rest t) : Calls Tryd.prog 26 #[Value.pointer (some ⟨bt, 0, none⟩)] w fun e w' => e = .returned (.tuple #[.slice none 0 0, .slice none 0 0, Value.int .i64 10]) ∧ Fr [] w w' := by
  refine (keys_any bt bc cap rest t w hv ht).mono ?_
  rintro e w' ⟨hf, h⟩
  rw [hk] at h
  exact ⟨h, hf⟩

theorem row_new (w : World) (p : List UInt8) : RowIn (w.alloc (.cells #[.string (strOf p)] 9)) (some ⟨w.heap.size, 0, none⟩) [S8v p] :=
  fun i u hu => ⟨w.heap.size, 0, rfl, by simp, by rw [Nat.zero_add]; exact ((At.new w 9 [.string (strOf p)]).cell i).trans hu⟩

theorem same_one (A : Option Addr) (ca cb : Nat) (p : List UInt8) (w : World) (h : RowIn w A [S8v p]) :
    Calls Tryd.prog 27 #[.slice A 1 ca, .slice (some ⟨w.heap.size, 0, none⟩) 1 cb] (w.alloc (.cells #[.string (strOf p)] 9)) fun e w' => e = .returned (.bool true) ∧ Fr [] (w.alloc (.cells #[.string (strOf p)] 9)) w' := by
  have h1 := same_any A (some ⟨w.heap.size, 0, none⟩) ca cb [p] [p] (w.alloc (.cells #[.string (strOf p)] 9)) (h.fr0 ((Fr.refl [] w).alloc _)) (row_new w p) (by simp) (by simp)
  rw [decide_eq_true (rfl : [p] = [p])] at h1
  exact h1

set_option maxRecDepth 100000 in
set_option maxHeartbeats 2000000 in
theorem awake_any (w : World) (hv : Vars w) : Calls Tryd.prog 13 #[] w fun e w' => e = .returned (.bool true) ∧ Fr [] w w' := by
  have H := Lib.hid hv
  clear hv
  have HNEW : Hid (Calls Tryd.prog 21 #[Value.int .i64 3, .int .u64 7] w fun e w' => e = .returned (.tuple #[Value.pointer (some ⟨w.heap.size + 1, 0, none⟩), Value.int .i64 0]) ∧ Fr [] w w' ∧ TabAt w' (w.heap.size + 1) w.heap.size 3 [] (BT.new 3 7)) := blNew_any 3 7 w (by decide) (by unfold U64; decide)
  obtain ⟨bt, HBT⟩ : ∃ bt, Hid (bt = w.heap.size + 1) := ⟨_, rfl⟩
  obtain ⟨bc, HBC⟩ : ∃ bc, Hid (bc = w.heap.size) := ⟨_, rfl⟩
  obtain ⟨k1, HK1⟩ : ∃ k1, Hid (k1 = exK 1) := ⟨_, rfl⟩
  obtain ⟨t1, HT1⟩ : ∃ t1, Hid (t1 = ex1) := ⟨_, rfl⟩
  obtain ⟨t2, HT2⟩ : ∃ t2, Hid (t2 = ex2) := ⟨_, rfl⟩
  obtain ⟨t3, HT3⟩ : ∃ t3, Hid (t3 = ex3) := ⟨_, rfl⟩
  obtain ⟨k2, HK2⟩ : ∃ k2, Hid (k2 = exK 2) := ⟨_, rfl⟩
  have HX1 : Hid (t1.keys = some ([k1], [])) := by show _ = _; rw [HT1.out, HK1.out]; exact ex1_keys
  have HX2 : Hid (t2.keys = none) := by show _ = _; rw [HT2.out]; exact ex2_keys
  have HX3 : Hid (t3.keys = some ([], [k2])) := by show _ = _; rw [HT3.out, HK2.out]; exact ex3_keys
  have HKA : Hid (∀ W, Calls Tryd.prog 23 #[.int .u8 1] W fun e w' => e = .returned (.string (strOf k1)) ∧ Fr [] W w') := fun W => by rw [HK1.out]; exact keyOf_lit 1 1 W rfl
  have HKB : Hid (∀ W, Calls Tryd.prog 23 #[.int .u8 2] W fun e w' => e = .returned (.string (strOf k2)) ∧ Fr [] W w') := fun W => by rw [HK2.out]; exact keyOf_lit 2 2 W rfl
  rw [← HBT.out, ← HBC.out] at HNEW
  have HINS : Hid (∀ W, Fr [] w W → TabAt W bt bc 3 [] (BT.new 3 7) → Calls Tryd.prog 22 #[Value.pointer (some ⟨bt, 0, none⟩), .string (strOf k1)] W fun e w' => e = .returned (Value.int .i64 0) ∧ Fr [] w w' ∧ TabAt w' bt bc 3 [] t1) := fun W hW hT => by
    refine (insert_any bt bc 3 [] (BT.new 3 7) k1 W (H.out.fr hW (by simp) (by simp)) hT (by rw [HK1.out]; exact exK_len 1)).mono ?_
    rintro e w' ⟨he, hf, ht⟩
    refine ⟨he, hW.trans' hf (by have := HBC.out; simp; omega), ?_⟩
    rw [HK1.out] at ht
    rw [HT1.out]
    exact ht
  have HDEL : Hid (∀ W t key, key.length = 32 → Fr [] w W → TabAt W bt bc 3 [] t → Calls Tryd.prog 33 #[Value.pointer (some ⟨bt, 0, none⟩), .string (strOf key)] W fun e w' => e = .returned (Value.int .i64 0) ∧ Fr [] w w' ∧ TabAt w' bt bc 3 [] (t.change key (-1))) := fun W t key hk hW hT => by
    refine (delete_any bt bc 3 [] t key W (H.out.fr hW (by simp) (by simp)) hT hk).mono ?_
    rintro e w' ⟨he, hf, ht⟩
    exact ⟨he, hW.trans' hf (by have := HBC.out; simp; omega), ht⟩
  go_enter Tryd.func13, Tryd.ntmps13
  go_wp2_with fail
  refine HNEW.out.mono ?_
  rintro e w1 ⟨rfl, hf1, ht1⟩
  have H1 := Lib.hid (And.intro hf1 ht1)
  clear hf1 ht1 HNEW
  go_wp2_with fail
  refine (HKA.out w1).mono ?_
  rintro e w2 ⟨rfl, hf2⟩
  have H2 : Hid (Fr [] w w2 ∧ TabAt w2 bt bc 3 [] (BT.new 3 7)) := ⟨H1.out.1.trans hf2, H1.out.2.fr hf2 (by simp) (by simp)⟩
  clear hf2 H1
  go_wp2_with fail
  refine (HINS.out w2 H2.out.1 H2.out.2).mono ?_
  rintro e w3 ⟨rfl, hf3, ht3⟩
  have H3 := Lib.hid (And.intro hf3 ht3)
  clear hf3 ht3 H2 HINS
  go_wp2_with fail
  refine (keys_some HX1.out (H.out.fr H3.out.1 (by simp) (by simp)) H3.out.2).mono ?_
  rintro e w4 ⟨A1, c1, A2, c2, rfl, hf4, hr4, _⟩
  have H4 : Hid (Fr [] w w4 ∧ TabAt w4 bt bc 3 [] t1 ∧ RowIn w4 A1 [S8v k1]) := ⟨H3.out.1.trans hf4, H3.out.2.fr hf4 (by simp) (by simp), hr4⟩
  clear hf4 hr4 H3
  go_wp2_with fail
  refine (HKA.out w4).mono ?_
  rintro e w5 ⟨rfl, hf5⟩
  have H5 : Hid (Fr [] w w5 ∧ TabAt w5 bt bc 3 [] t1 ∧ RowIn w5 A1 [S8v k1]) := ⟨H4.out.1.trans hf5, H4.out.2.1.fr hf5 (by simp) (by simp), H4.out.2.2.fr0 hf5⟩
  clear hf5 H4
  go_wp2_with fail
  refine (same_one A1 c1 1 k1 w5 H5.out.2.2).mono ?_
  rintro e w6 ⟨rfl, hf6⟩
  have H6 : Hid (Fr [] w w6 ∧ TabAt w6 bt bc 3 [] t1) := ⟨(H5.out.1.alloc _).trans hf6, H5.out.2.1.fr (((Fr.refl [] _).alloc _).trans hf6) (by simp) (by simp)⟩
  clear hf6 H5
  go_wp2_with fail
  refine (HKB.out w6).mono ?_
  rintro e w7 ⟨rfl, hf7⟩
  have H7 : Hid (Fr [] w w7 ∧ TabAt w7 bt bc 3 [] t1) := ⟨H6.out.1.trans hf7, H6.out.2.fr hf7 (by simp) (by simp)⟩
  clear hf7 H6
  go_wp2_with fail
  refine (HDEL.out w7 t1 k2 (by rw [HK2.out]; exact exK_len 2) H7.out.1 H7.out.2).mono ?_
  rintro e w8 ⟨rfl, hf8, ht8⟩
  have H8 : Hid (Fr [] w w8 ∧ TabAt w8 bt bc 3 [] t2) := ⟨hf8, by rw [HK2.out, HT1.out] at ht8; rw [HT2.out]; exact ht8⟩
  clear hf8 ht8 H7
  go_wp2_with fail
  refine (keys_none HX2.out (H.out.fr H8.out.1 (by simp) (by simp)) H8.out.2).mono ?_
  rintro e w9 ⟨rfl, hf9⟩
  have H9 : Hid (Fr [] w w9 ∧ TabAt w9 bt bc 3 [] t2) := ⟨H8.out.1.trans hf9, H8.out.2.fr hf9 (by simp) (by simp)⟩
  clear hf9 H8
  go_wp2_with fail
  refine (HKA.out w9).mono ?_
  rintro e w10 ⟨rfl, hf10⟩
  have H10 : Hid (Fr [] w w10 ∧ TabAt w10 bt bc 3 [] t2) := ⟨H9.out.1.trans hf10, H9.out.2.fr hf10 (by simp) (by simp)⟩
  clear hf10 H9
  go_wp2_with fail
  refine (HDEL.out w10 t2 k1 (by rw [HK1.out]; exact exK_len 1) H10.out.1 H10.out.2).mono ?_
  rintro e w11 ⟨rfl, hf11, ht11⟩
  have H11 : Hid (Fr [] w w11 ∧ TabAt w11 bt bc 3 [] t3) := ⟨hf11, by rw [HK1.out, HT2.out] at ht11; rw [HT3.out]; exact ht11⟩
  clear hf11 ht11 H10 HDEL
  go_wp2_with fail
  refine (keys_some HX3.out (H.out.fr H11.out.1 (by simp) (by simp)) H11.out.2).mono ?_
  rintro e w12 ⟨A3, c3, A4, c4, rfl, hf12, _, hr12⟩
  have H12 : Hid (Fr [] w w12 ∧ RowIn w12 A4 [S8v k2]) := ⟨H11.out.1.trans hf12, hr12⟩
  clear hf12 hr12 H11
  go_wp2_with fail
  refine (HKB.out w12).mono ?_
  rintro e w13 ⟨rfl, hf13⟩
  have H13 : Hid (Fr [] w w13 ∧ RowIn w13 A4 [S8v k2]) := ⟨H12.out.1.trans hf13, H12.out.2.fr0 hf13⟩
  clear hf13 H12
  go_wp2_with fail
  refine (same_one A4 c4 1 k2 w13 H13.out.2).mono ?_
  rintro e w14 ⟨rfl, hf14⟩
  have H14 : Hid (Fr [] w w14) := (H13.out.1.alloc _).trans hf14
  clear hf14 H13
  go_wp2_with fail
  refine (size_any 10 w14).mono ?_
  rintro e w15 ⟨rfl, rfl⟩
  rw [show blSize 10 = 33 by decide]
  go_wp2_with fail
  go_ret
  exact ⟨rfl, H14.out⟩

end Go.Proofs.YtnhagokkamobaaaDoor
