/- Contracts of the reference of layer 39: Valid, Key, Size. -/
import Derived.Test.YtnhagokkamobaaaDoorBlAwake
import Derived.Lib.AppendStr
import Derived.Test.YtnhagokkamobaaaDoorBlPlain
import Derived.Deep.DeepCutAuto
import Derived.Deep.CutBlock
import Derived.Outline
namespace Go.Proofs.YtnhagokkamobaaaDoor
open Go.RowKit

set_option maxRecDepth 100000 in
theorem valid_any (n : Int) (w : World) : Calls Tryd.prog 16 #[Value.int .i64 n] w fun e w' => e = .returned (.bool (isSz n)) ∧ w = w' := by
  unfold isSz
  by_cases h1 : 3 ≤ n
  · by_cases h2 : n ≤ 3072
    · by_cases h3 : n % 3 = 0
      · have q : (n % 3 == 0) = true := by simpa using h3
        have e : (decide (3 ≤ n) && decide (n ≤ 3072) && decide (n % 3 = 0)) = true := by simp [h1, h2, h3]
        rw [e]
        clear e h3
        go_enter Tryd.func16, Tryd.ntmps16
        go_wp2_with fail
        go_ret
        exact ⟨rfl, rfl⟩
      · have q : (n % 3 == 0) = false := by simpa using h3
        have e : (decide (3 ≤ n) && decide (n ≤ 3072) && decide (n % 3 = 0)) = false := by simp [h3]
        rw [e]
        clear e h3
        go_enter Tryd.func16, Tryd.ntmps16
        go_wp2_with fail
        go_ret
        exact ⟨rfl, rfl⟩
    · have e : (decide (3 ≤ n) && decide (n ≤ 3072) && decide (n % 3 = 0)) = false := by simp [h2]
      rw [e]
      have d : decide (n ≤ 3072) = false := by simpa using h2
      clear e
      go_enter Tryd.func16, Tryd.ntmps16
      go_wp2_with fail
      go_ret
      exact ⟨rfl, rfl⟩
  · have e : (decide (3 ≤ n) && decide (n ≤ 3072) && decide (n % 3 = 0)) = false := by simp [h1]
    rw [e]
    have d : decide (3 ≤ n) = false := by simpa using h1
    clear e
    go_enter Tryd.func16, Tryd.ntmps16
    go_wp2_with fail
    go_ret
    exact ⟨rfl, rfl⟩

/-- The loop of Size: k rises to the next multiple of 3. -/
theorem size_loop_fact (n k : Int) (hk : 2 * n + 12 ≤ k) (hk2 : k ≤ (2 * n + 14) / 3 * 3) (h3 : k % 3 = 0) : k = (2 * n + 14) / 3 * 3 := by omega

set_option maxRecDepth 100000 in
set_option maxHeartbeats 1000000 in
theorem refSize_any (n : Int) (w : World) : Calls Tryd.prog 15 #[Value.int .i64 n] w fun e w' => e = .returned (Value.int .i64 (blSize n)) ∧ w = w' := by
  obtain ⟨m, hm0, hm1, hm⟩ : ∃ m : Int, 0 ≤ m ∧ m ≤ 2000 ∧ m = (if n < 0 then 0 else if 2000 < n then 2000 else n) := ⟨_, by split <;> (try split) <;> omega, by split <;> (try split) <;> omega, rfl⟩
  have hres : blSize n = if 3072 < (2 * m + 14) / 3 * 3 then 3072 else (2 * m + 14) / 3 * 3 := by
    unfold blSize
    split at hm
    · subst hm
      rw [if_neg (by omega), if_pos (by omega)]
      rfl
    · split at hm
      · subst hm
        rw [if_pos (by omega)]
        rfl
      · subst hm
        by_cases h : 1536 < m
        · rw [if_pos h, if_pos (by omega)]
        · rw [if_neg h, if_neg (by omega)]
          split <;> omega
  rw [hres]
  have HM := Lib.hid hm
  clear hm hres
  by_cases c1 : n < 0
  · have hmm : m = 0 := by have := HM.out; rw [if_pos c1] at this; exact this
    obtain ⟨m, hmm2⟩ : ∃ m' : Int, m' = m := ⟨m, rfl⟩
    rw [← hmm2] at hmm hm0 hm1 ⊢
    clear hmm2 HM
    have HMM := Lib.hid hmm
    clear hmm
    go_enter Tryd.func15, Tryd.ntmps15
    go_wp2_with fail
    go_loop [3] (fun v => ∃ k : Int, 2 * m + 12 ≤ k ∧ k ≤ (2 * m + 14) / 3 * 3 ∧ v = Value.int .i64 k) (fun v => ((2 * m + 14) / 3 * 3 - intOf v).toNat)
    case atStart => exact ⟨2 * m + 12, by omega, by omega, by rw [HMM.out]; rfl⟩
    case round =>
      obtain ⟨k, k1, k2, rfl⟩ := hrel
      by_cases h3 : k % 3 = 0
      · have q1 : (k % 3 != 0) = false := by simpa using h3
        have q2 : (k % 3 == 0) = true := by simpa using h3
        have HK := Lib.hid (size_loop_fact m k k1 k2 h3)
        clear h3
        by_cases h4 : 3072 < k
        · go_wp2_with fail
          go_ret
          exact ⟨rfl, rfl⟩
        · go_wp2_with fail
          go_ret
          exact ⟨ret_int HK.out, rfl⟩
      · have q1 : (k % 3 != 0) = true := by simpa using h3
        have q2 : (k % 3 == 0) = false := by simpa using h3
        have k3 : k + 1 ≤ (2 * m + 14) / 3 * 3 := by omega
        go_wp2_with fail
        go_round
        case rel => exact ⟨k + 1, by omega, k3, rfl⟩
        case measure => simp [intOf] <;> omega
  · by_cases c2 : 2000 < n
    · have hmm : m = 2000 := by have := HM.out; rw [if_neg c1, if_pos c2] at this; exact this
      have HMM := Lib.hid hmm
      clear hmm HM
      go_enter Tryd.func15, Tryd.ntmps15
      go_wp2_with fail
      go_loop [3] (fun v => ∃ k : Int, 2 * m + 12 ≤ k ∧ k ≤ (2 * m + 14) / 3 * 3 ∧ v = Value.int .i64 k) (fun v => ((2 * m + 14) / 3 * 3 - intOf v).toNat)
      case atStart => exact ⟨2 * m + 12, by omega, by omega, by rw [HMM.out]; rfl⟩
      case round =>
        obtain ⟨k, k1, k2, rfl⟩ := hrel
        by_cases h3 : k % 3 = 0
        · have q1 : (k % 3 != 0) = false := by simpa using h3
          have q2 : (k % 3 == 0) = true := by simpa using h3
          have HK := Lib.hid (size_loop_fact m k k1 k2 h3)
          clear h3
          by_cases h4 : 3072 < k
          · go_wp2_with fail
            go_ret
            exact ⟨rfl, rfl⟩
          · go_wp2_with fail
            go_ret
            exact ⟨ret_int HK.out, rfl⟩
        · have q1 : (k % 3 != 0) = true := by simpa using h3
          have q2 : (k % 3 == 0) = false := by simpa using h3
          have k3 : k + 1 ≤ (2 * m + 14) / 3 * 3 := by omega
          go_wp2_with fail
          go_round
          case rel => exact ⟨k + 1, by omega, k3, rfl⟩
          case measure => simp [intOf] <;> omega
    · obtain rfl : m = n := by have := HM.out; rw [if_neg c1, if_neg c2] at this; exact this
      clear HM
      go_enter Tryd.func15, Tryd.ntmps15
      go_wp2_with fail
      go_loop [3] (fun v => ∃ k : Int, 2 * m + 12 ≤ k ∧ k ≤ (2 * m + 14) / 3 * 3 ∧ v = Value.int .i64 k) (fun v => ((2 * m + 14) / 3 * 3 - intOf v).toNat)
      case atStart => exact ⟨2 * m + 12, by omega, by omega, rfl⟩
      case round =>
        obtain ⟨k, k1, k2, rfl⟩ := hrel
        by_cases h3 : k % 3 = 0
        · have q1 : (k % 3 != 0) = false := by simpa using h3
          have q2 : (k % 3 == 0) = true := by simpa using h3
          have HK := Lib.hid (size_loop_fact m k k1 k2 h3)
          clear h3
          by_cases h4 : 3072 < k
          · go_wp2_with fail
            go_ret
            exact ⟨rfl, rfl⟩
          · go_wp2_with fail
            go_ret
            exact ⟨ret_int HK.out, rfl⟩
        · have q1 : (k % 3 != 0) = true := by simpa using h3
          have q2 : (k % 3 == 0) = false := by simpa using h3
          have k3 : k + 1 ≤ (2 * m + 14) / 3 * 3 := by omega
          go_wp2_with fail
          go_round
          case rel => exact ⟨k + 1, by omega, k3, rfl⟩
          case measure => simp [intOf] <;> omega

end Go.Proofs.YtnhagokkamobaaaDoor
namespace Go.Proofs.YtnhagokkamobaaaDoor
open Go.RowKit

theorem strOf_size (p : List UInt8) : (strOf p).size = p.length := by simp [strOf, ByteArray.size]

set_option maxRecDepth 100000 in
theorem key_any (p : List UInt8) (w : World) : Calls Tryd.prog 18 #[.string (strOf p)] w fun e w' => e = .returned (.bool (decide (p.length = 32))) ∧ w = w' := by
  obtain ⟨s, HS⟩ : ∃ s, Hid (s = strOf p) := ⟨_, rfl⟩
  have hz : s.size = p.length := by rw [HS.out]; exact strOf_size p
  rw [← HS.out, ← hz]
  clear hz
  by_cases h : s.size = 32
  · have q : ((s.size : Int) == 32) = true := by simp; omega
    have HD : Hid (decide (s.size = 32) = true) := by show decide _ = _; simp [h]
    rw [HD.out]
    clear h
    go_enter Tryd.func18, Tryd.ntmps18
    go_wp2_with fail
    go_ret
    exact ⟨rfl, rfl⟩
  · have q : ((s.size : Int) == 32) = false := by simp; omega
    have HD : Hid (decide (s.size = 32) = false) := by show decide _ = _; simp [h]
    rw [HD.out]
    clear h
    go_enter Tryd.func18, Tryd.ntmps18
    go_wp2_with fail
    go_ret
    exact ⟨rfl, rfl⟩

theorem strCells_B8 (p : List UInt8) : Lib.strCells (strOf p) = B8 p := by
  simp [Lib.strCells, strOf, B8]

set_option maxRecDepth 100000 in
set_option maxHeartbeats 1000000 in
theorem refHash_any (seed i : Nat) (key : List UInt8) (w : World) (hi : i ≤ 3) (hk : key.length ≤ 34359738368) :
    Calls Tryd.prog 41 #[.int .u64 (seed : Int), Value.int .i64 (i : Int), .string (strOf key)] w fun e w' => e = .returned (.int .u64 (bhash seed i key : Int)) ∧ Fr [] w w' := by
  obtain ⟨i0, hi0, hz0, hz1, hz2⟩ := info_parts (show (Tryd.prog.info? 5).map (fun i => (i.zero, i.size, i.bytes)) = some (some (.int .u8 0), 1, 1) by kernel_rfl)
  have HINF := Lib.hid (And.intro hi0 (And.intro hz0 (And.intro hz1 hz2)))
  clear hi0 hz0 hz1 hz2
  obtain ⟨ks, HKS⟩ : ∃ ks, Hid (ks = strOf key) := ⟨_, rfl⟩
  have hks : ks.size ≤ 34359738368 := by rw [HKS.out, strOf_size]; exact hk
  rw [← HKS.out]
  clear hk
  go_enter Tryd.func41, Tryd.ntmps41
  go_wp2_with fail
  go_loopw [7, 8] (fun v s wx => ∃ (j : Nat) (t : Int) (A' : Option Addr) (c' : Nat) (ds : List UInt8), j ≤ 8 ∧ s = Value.int .i64 t ∧ t + (j : Int) ≤ 7 ∧ 7 ≤ t + (j : Int) ∧ v = .slice A' ds.length c' ∧ ds.length ≤ j ∧ Hid (ds = (List.range j).map fun q => byteAt seed (7 - q)) ∧ Hid (BR w wx v ds)) (fun _ s _ => (intOf s + 1).toNat)
  case atStart => exact ⟨0, 7, _, _, [], by omega, rfl, by omega, by omega, rfl, by simp, rfl, (Fr.refl _ _).alloc _, World.ownsRow_made _ #[] 0 (Nat.le_refl _) (Nat.zero_le _) rfl⟩
  case round =>
    obtain ⟨j, t, A1, c1, ds, hj, rfl, ht1, ht2, rfl, hdl, HD, HB1⟩ := hrel
    have hsz1 := HB1.out.size
    by_cases hlt2 : j < 8
    · obtain ⟨sh, rfl⟩ : ∃ sh : Nat, t = (sh : Int) := ⟨t.toNat, by omega⟩
      obtain ⟨y, HY⟩ : ∃ y : UInt8, Hid (y = byteAt seed (7 - j)) := ⟨_, rfl⟩
      have hsh : sh ≤ 7 := by omega
      obtain ⟨s8, hs8⟩ : ∃ s8 : Nat, s8 = 8 * sh := ⟨_, rfl⟩
      have e8 : (8 : Int) * (sh : Int) = (s8 : Int) := by omega
      have hy : IntKind.u8.wrap ((seed : Int) / 2 ^ s8) = (y.toNat : Int) := by
        rw [HY.out, hs8, show sh = 7 - j by omega]
        exact byteAt_wrap seed (7 - j)
      have hs8b : s8 ≤ 56 := by omega
      clear hs8
      go_wp2_with (at_builtin; refine wpList_push el_u8 rfl (.tmp 17) (.tmp 23) rfl w.heap.size _ _ (B8 ds) (.int .u8 (y.toNat : Int)) rfl HB1.out.own rfl rfl (by omega) (by omega) 5 ?_; intro v2 w2 hown2 hg2 hb2; obtain ⟨A3, c3, cs3, HC3, hc3, rfl, HB3⟩ := BR.push (xs := [y]) HB1.out hown2 hg2; clear hown2 hg2 hb2)
      have h3 : cs3.length = ds.length + 1 := by rw [HC3.out]; simp
      have HC4 : Hid (cs3 = (List.range (j + 1)).map fun q => byteAt seed (7 - q)) := by
        show cs3 = _
        rw [HC3.out, HD.out, List.range_succ, List.map_append, HY.out]
        rfl
      go_roundw
      case rel => exact ⟨j + 1, (sh : Int) - 1, A3, c3, cs3, by omega, by go_num, by omega, by omega, rfl, by omega, HC4, HB3⟩
      case measure => simp [intOf] <;> omega
    · obtain rfl : j = 8 := by omega
      obtain rfl : t = -1 := by omega
      have HDS : Hid (ds = seed8 seed) := HD.out
      obtain ⟨yi, hyi, HYI⟩ : ∃ yi : UInt8, IntKind.u8.wrap (i : Int) = (yi.toNat : Int) ∧ Hid (yi = UInt8.ofNat i) := by
        refine ⟨_, ?_, rfl⟩
        rw [IntKind.wrap_u8]
        have : (UInt8.ofNat i).toNat = i := by simp; omega
        rw [this]
        omega
      go_wp2_with (first
        | (at_builtin; refine wpList_push el_u8 rfl (.tmp 25) (.tmp 28) rfl w.heap.size _ _ (B8 ds) (.int .u8 (yi.toNat : Int)) rfl HB1.out.own rfl rfl (by omega) (by omega) 5 ?_; intro v2 w2 hown2 hg2 hb2; obtain ⟨A3, c3, cs3, HC3, hc3, rfl, HB3⟩ := BR.push (xs := [yi]) HB1.out hown2 hg2; have hsz3 := HB3.out.size; have hc3' : cs3.length ≤ ds.length + 1 := hc3; clear hown2 hg2 hb2 hc3)
        | (at_builtin; refine Lib.wpList_append_own_string _ rfl (.tmp 29) (.tmp 30) 34 9 rfl w.heap.size 5 i0 Tryd.underlying34 Tryd.underlying9 HINF.out.1 HINF.out.2.1 HINF.out.2.2.1 HINF.out.2.2.2 _ _ (B8 cs3) rfl HB3.out.own ks rfl (by unfold maxLen; omega) (by omega) (by omega) ?_; intro v4 w4 hown4 hg4 hb4))
      obtain ⟨A4, c4, rfl⟩ := ownsRow_form hown4
      obtain ⟨msg, HMSG⟩ : ∃ msg, Hid (msg = cs3 ++ key) := ⟨_, rfl⟩
      have HRW : Hid (Fr [] w w4 ∧ RowIn w4 A4 (B8 msg) ∧ msg.length = cs3.length + ks.size) := by
        refine ⟨fr_push HB3.out.fr HB3.out.own hg4, ?_, by rw [HMSG.out, List.length_append, HKS.out, strOf_size]⟩
        have h1 := hown4
        rw [HKS.out, strCells_B8, ← B8_append, ← HMSG.out] at h1
        exact RowIn.of_own h1
      clear hown4 hg4 hb4
      have HSU := Lib.hid (refSum_any A4 c4 msg w4 HRW.out.2.1 (by rw [HRW.out.2.2]; omega))
      rw [HRW.out.2.2] at HSU
      go_wp2_with fail
      refine HSU.out.mono ?_
      rintro e w5 ⟨rfl, hf5⟩
      obtain ⟨sm, HSM⟩ : ∃ sm, Hid (sm = sha msg) := ⟨_, rfl⟩
      rw [← HSM.out]
      have HF : Hid (Fr [] w w5) := HRW.out.1.trans hf5
      have HS32 : Hid (sm.length = 32) := by show sm.length = 32; rw [HSM.out]; exact sha_len _
      clear hf5 HSU hyi
      go_wp2_with fail
      go_loop [10, 11] (fun v s => ∃ k m : Nat, k ≤ 8 ∧ s = .int .i64 k ∧ v = .int .u64 (m : Int) ∧ Hid (m = beNum sm k)) (fun _ s => 8 - (intOf s).toNat)
      case atStart => exact ⟨0, 0, by omega, rfl, rfl, rfl⟩
      case round =>
        obtain ⟨k, m, hk, rfl, rfl, HM⟩ := hrel
        by_cases hlt : k < 8
        · obtain ⟨y, hy⟩ : ∃ y, sm[k]? = some y := ⟨_, List.getElem?_eq_getElem (by rw [HS32.out]; omega)⟩
          have hix := run_index_s sm k y hy
          have hyb := UInt8.toNat_lt y
          have hmb : m * 256 + 256 ≤ 18446744073709551616 := by
            rw [HM.out]
            have h1 := beNum_lt sm k
            have h2 : 256 ^ k ≤ 256 ^ 7 := Nat.pow_le_pow_right (by decide) (by omega)
            omega
          obtain ⟨m8, q1, HM8⟩ : ∃ m8 : Nat, IntKind.u64.wrap ((m : Int) * 256) = (m8 : Int) ∧ Hid (m8 = m * 256) := ⟨m * 256, by rw [IntKind.wrap_u64]; omega, rfl⟩
          have qy : IntKind.u64.wrap (y.toNat : Int) = (y.toNat : Int) := by rw [IntKind.wrap_u64]; omega
          obtain ⟨mn, q2, HMN⟩ : ∃ mn : Nat, IntKind.u64.wrap ((m8 : Int) + (y.toNat : Int)) = (mn : Int) ∧ Hid (mn = beNum sm (k + 1)) := by
            refine ⟨m * 256 + y.toNat, by rw [HM8.out, IntKind.wrap_u64]; omega, ?_⟩
            show _ = beNum sm k * 256 + (sm.getD k 0).toNat
            rw [← HM.out, List.getD_eq_getElem?_getD, hy]
            rfl
          have hkI : (k : Int) < 8 := by omega
          clear hy hmb hyb
          go_wp2_with fail
          go_round
          case rel => exact ⟨k + 1, mn, by omega, by go_num, rfl, HMN⟩
          case measure => simp [intOf] <;> omega
        · obtain rfl : k = 8 := by omega
          go_wp2_with fail
          go_ret
          refine ⟨ret_int ?_, HF.out⟩
          rw [HM.out, HSM.out, HMSG.out, HC3.out, HDS.out, HYI.out]
          simp [bhash]

theorem el_int : Elem Tryd.prog 26 3 (Value.int .i64 0) 1 8 := ⟨Tryd.underlying26, by kernel_rfl, rfl, by omega, by omega⟩

/-- A new slice of ints. -/
def NewInts (l : List Int) (w : World) (e : Ending) (w' : World) : Prop := ∃ A c, e = .returned (.slice A l.length c) ∧ Fr [] w w' ∧ RowIn w' A (l.map (Value.int .i64))

def placesL (n seed : Nat) (key : List UInt8) : List Int := [(bplace n seed key 0 : Int), (bplace n seed key 1 : Int), (bplace n seed key 2 : Int)]
theorem placesL_snoc (n seed : Nat) (key : List UInt8) (k : Nat) (h : k < 3) : (placesL n seed key).take (k + 1) = (placesL n seed key).take k ++ [(bplace n seed key k : Int)] := by
  match k, h with
  | 0, _ => rfl
  | 1, _ => rfl
  | 2, _ => rfl

set_option maxRecDepth 100000 in
set_option maxHeartbeats 1000000 in
theorem refPlaces_new (n seed : Nat) (key : List UInt8) (w : World) (hn : isSz (n : Int) = true) (hk : key.length ≤ 34359738368) :
    Calls Tryd.prog 20 #[Value.int .i64 (n : Int), .int .u64 (seed : Int), .string (strOf key)] w fun e w' => ∃ g c, e = .returned (.slice (some ⟨g, 0, none⟩) 3 c) ∧ Fr [] w w' ∧ RowIn w' (some ⟨g, 0, none⟩) ((placesL n seed key).map (Value.int .i64)) ∧ w.heap.size ≤ g := by
  obtain ⟨n3, n4, n5⟩ := isSz_bounds hn
  obtain ⟨th, rfl⟩ : ∃ th, n = 3 * th := ⟨n / 3, by omega⟩
  have th1 : 1 ≤ th := by omega
  have th2 : th ≤ 1024 := by omega
  have HK := Lib.hid hk
  clear hn n5 hk
  obtain ⟨n, HN⟩ : ∃ n, Hid (n = 3 * th) := ⟨_, rfl⟩
  have hn3 : n ≤ 3072 := by rw [HN.out]; omega
  rw [← HN.out]
  have eth : (n : Int) / 3 = (th : Int) := by have := HN.out; omega
  have qth : IntKind.u64.wrap (th : Int) = (th : Int) := by rw [IntKind.wrap_u64]; omega
  have thB : ((th : Int) == 0) = false := by simp; omega
  have thI : (th : Int) ≠ 0 := by omega
  go_enter Tryd.func20, Tryd.ntmps20
  go_wp2_with fail
  go_loopw [7, 8] (fun v s wx => ∃ (k : Nat) (A' : Option Addr) (c' : Nat), k ≤ 3 ∧ s = .int .i64 k ∧ v = .slice A' k c' ∧ Hid (Fr [] w wx ∧ wx.ownsRow w.heap.size 3 1 v k (((placesL n seed key).take k).map (Value.int .i64)))) (fun _ s _ => 3 - (intOf s).toNat)
  case atStart => exact ⟨0, _, _, by omega, rfl, rfl, (Fr.refl _ _).alloc _, World.ownsRow_made _ #[] 0 (Nat.le_refl _) (Nat.zero_le _) rfl⟩
  case round =>
    obtain ⟨k, A', c', hk, rfl, rfl, HR⟩ := hrel
    by_cases hlt : k < 3
    · obtain ⟨hv, HHV⟩ : ∃ hv, Hid (hv = bhash seed k key) := ⟨_, rfl⟩
      have HC := Lib.hid (refHash_any seed k key wr (by omega) HK.out)
      rw [← HHV.out] at HC
      have hkt : k * th ≤ 2 * 1024 := Nat.mul_le_mul (by omega) th2
      have hkn : k * n ≤ 2 * 3072 := Nat.mul_le_mul (by omega) hn3
      obtain ⟨kn, q0, HKN⟩ : ∃ kn : Nat, IntKind.i64.wrap ((k : Int) * (n : Int)) = (kn : Int) ∧ Hid (kn = k * n) := ⟨k * n, by rw [← Int.natCast_mul, IntKind.wrap_i64]; omega, rfl⟩
      obtain ⟨kt, q1, HKT⟩ : ∃ kt : Nat, (kn : Int) / 3 = (kt : Int) ∧ Hid (kt = k * th) := ⟨k * th, by
        rw [HKN.out, HN.out]
        have : k * (3 * th) = 3 * (k * th) := by rw [Nat.mul_left_comm]
        rw [this]
        omega, rfl⟩
      have hknb : kn ≤ 6144 := by rw [HKN.out]; exact hkn
      have hktb : kt ≤ 2048 := by rw [HKT.out]; exact hkt
      obtain ⟨hm, q2, q3, HHM⟩ : ∃ hm : Nat, (hv : Int) % (th : Int) = (hm : Int) ∧ (hv : Int).tmod (th : Int) = (hm : Int) ∧ Hid (hm = hv % th) := ⟨hv % th, by rw [Int.natCast_emod], by rw [Int.ofNat_tmod], rfl⟩
      have hmb : hm < th := by rw [HHM.out]; exact Nat.mod_lt _ (by omega)
      have qi : IntKind.i64.wrap (hm : Int) = (hm : Int) := by rw [IntKind.wrap_i64]; omega
      obtain ⟨p, q4, HP⟩ : ∃ p : Nat, (kt : Int) + (hm : Int) = (p : Int) ∧ Hid (p = bplace n seed key k) := ⟨kt + hm, by omega, by
        show _ = _
        unfold bplace
        rw [show n / 3 = th by have := HN.out; omega, ← HHV.out, ← HHM.out, ← HKT.out]⟩
      have hkI : (k : Int) < 3 := by omega
      clear hkt hkn
      go_wp2_with fail
      refine HC.out.mono ?_
      rintro e w1 ⟨rfl, hf1⟩
      have HR1 : Hid (Fr [] w w1 ∧ w1.ownsRow w.heap.size 3 1 (.slice A' k c') k (((placesL n seed key).take k).map (Value.int .i64))) := ⟨HR.out.1.trans hf1, ownsRow_fr HR.out.2 hf1 (by simp)⟩
      have hsz1 := HR1.out.1.size
      clear hf1 HC
      go_wp2_with (at_builtin; refine wpList_push el_int rfl (.tmp 14) (.tmp 29) rfl w.heap.size _ _ (((placesL n seed key).take k).map (Value.int .i64)) (Value.int .i64 (p : Int)) rfl HR1.out.2 rfl rfl (by omega) (by omega) 3 ?_; intro v2 w2 hown2 hg2 hb2)
      obtain ⟨A2, c2, rfl⟩ := ownsRow_form hown2
      have HN2 : Hid (Fr [] w w2 ∧ w2.ownsRow w.heap.size 3 1 (.slice A2 (k + 1) c2) (k + 1) (((placesL n seed key).take (k + 1)).map (Value.int .i64))) := by
        refine ⟨fr_push HR1.out.1 HR1.out.2 hg2, ?_⟩
        rw [placesL_snoc n seed key k hlt, List.map_append, ← HP.out]
        exact hown2
      clear hown2 hg2 hb2 q0 q1 q2 q3 q4
      go_roundw
      case rel =>
        first
          | exact ⟨k + 1, A2, c2, by omega, by go_num, rfl, HN2⟩
          | ((repeat apply Exists.intro); exact ⟨⟨k + 1, A2, c2, by omega, by go_num, rfl, HN2⟩, rfl⟩)
      case measure => simp [intOf] <;> omega
    · obtain rfl : k = 3 := by omega
      go_wp2_with fail
      go_ret
      have h1 := HR.out.1
      have h2 := HR.out.2
      rcases h2.2 with ⟨_, h0⟩ | ⟨g, cap, cur, he, hb, _⟩
      · omega
      · injection he with e1 e2 e3
        subst e1
        exact ⟨g, c', rfl, h1, RowIn.of_own h2, hb⟩

theorem refPlaces_any (n seed : Nat) (key : List UInt8) (w : World) (hn : isSz (n : Int) = true) (hk : key.length ≤ 34359738368) :
    Calls Tryd.prog 20 #[Value.int .i64 (n : Int), .int .u64 (seed : Int), .string (strOf key)] w (NewInts (placesL n seed key) w) :=
  (refPlaces_new n seed key w hn hk).mono fun _ _ ⟨g, c, he, hf, hr, _⟩ => ⟨some ⟨g, 0, none⟩, c, he, hf, hr⟩

set_option maxRecDepth 100000 in
set_option maxHeartbeats 1000000 in
theorem ints_any (A B : Option Addr) (ca cb : Nat) (l r : List Int) (w : World) (hl : RowIn w A (l.map (Value.int .i64))) (hr : RowIn w B (r.map (Value.int .i64))) (hb : l.length ≤ 1000000) (hb2 : r.length ≤ 1000000) :
    Calls Tryd.prog 19 #[.slice A l.length ca, .slice B r.length cb] w fun e w' => e = .returned (.bool (decide (l = r))) ∧ Fr [] w w' := by
  obtain ⟨n, HN⟩ : ∃ n, Hid (n = l.length) := ⟨_, rfl⟩
  obtain ⟨m, HM⟩ : ∃ m, Hid (m = r.length) := ⟨_, rfl⟩
  rw [← HN.out] at hb ⊢
  rw [← HM.out] at hb2 ⊢
  have H := Lib.hid (And.intro hl hr)
  clear hl hr
  by_cases hnm : n = m
  · subst hnm
    have HD : Hid (decide (l = r) = decide (∀ j, j < n → l[j]? = r[j]?)) := by
      show decide _ = decide _
      rw [decide_eq_decide]
      constructor
      · intro h j _; rw [h]
      · intro h
        apply List.ext_getElem?
        intro j
        rcases Nat.lt_or_ge j n with hj | hj
        · exact h j hj
        · rw [List.getElem?_eq_none (by rw [← HN.out]; exact hj), List.getElem?_eq_none (by rw [← HM.out]; exact hj)]
    rw [HD.out]
    go_enter Tryd.func19, Tryd.ntmps19
    go_wp2_with fail
    go_loopw [5] (fun s wx => ∃ i : Nat, i ≤ n ∧ s = .int .i64 i ∧ Hid (Fr [] w wx ∧ ∀ j, j < i → l[j]? = r[j]?)) (fun s _ => n - (intOf s).toNat)
    case atStart => exact ⟨0, by omega, rfl, Fr.refl _ _, fun j hj => by omega⟩
    case round =>
      obtain ⟨i, hi, rfl, HR⟩ := hrel
      by_cases hlt : i < n
      · obtain ⟨p, hp⟩ : ∃ p, l[i]? = some p := ⟨_, List.getElem?_eq_getElem (by rw [← HN.out]; exact hlt)⟩
        obtain ⟨q, hq⟩ : ∃ q, r[i]? = some q := ⟨_, List.getElem?_eq_getElem (by rw [← HM.out]; exact hlt)⟩
        obtain ⟨g, o, rfl, hg, hc⟩ := H.out.1 i (Value.int .i64 p) (by rw [List.getElem?_map, hp]; rfl)
        obtain ⟨g2, o2, rfl, hg2, hc2⟩ := H.out.2 i (Value.int .i64 q) (by rw [List.getElem?_map, hq]; rfl)
        have d1 : wr.cell? ⟨g, o + i, none⟩ = some (Value.int .i64 p) := by rw [HR.out.1.cell (p := ⟨g, o + i, none⟩) hg (by simp)]; exact hc
        have d2 : wr.cell? ⟨g2, o2 + i, none⟩ = some (Value.int .i64 q) := by rw [HR.out.1.cell (p := ⟨g2, o2 + i, none⟩) hg2 (by simp)]; exact hc2
        have hiI : (i : Int) < (n : Int) := by omega
        by_cases hpq : p = q
        · subst hpq
          have HNN : Hid (∀ j, j < i + 1 → l[j]? = r[j]?) := fun j hj => by
            rcases (by omega : j < i ∨ j = i) with h | rfl
            · exact HR.out.2 j h
            · rw [hp, hq]
          clear hp hq hc hc2
          go_wp2_with fail
          go_quiet (fail)
          have HF : Hid (Fr [] w (wr.drewN nq)) := HR.out.1.drewN _
          go_wp2_with fail
          go_roundw
          case rel =>
            first
              | exact ⟨i + 1, by omega, by go_num, HF.out, HNN.out⟩
              | ((repeat apply Exists.intro); exact ⟨⟨i + 1, by omega, by go_num, HF.out, HNN.out⟩, rfl⟩)
          case measure => simp [intOf] <;> omega
        · have hne : (p == q) = false := by simpa using hpq
          have hne2 : (p != q) = true := by simpa using hpq
          have HNO : Hid (decide (∀ j, j < n → l[j]? = r[j]?) = false) := by
            show decide _ = false
            rw [decide_eq_false_iff_not]
            intro h
            have := h i hlt
            rw [hp, hq] at this
            injection this with this
            exact hpq this
          clear hp hq hc hc2 hpq
          go_wp2_with fail
          go_quiet (fail)
          go_wp2_with fail
          go_ret
          exact ⟨ret_bool HNO.out.symm, HR.out.1.drewN _⟩
      · obtain rfl : i = n := by omega
        go_wp2_with fail
        go_ret
        refine ⟨ret_bool ?_, HR.out.1⟩
        symm
        rw [decide_eq_true_iff]
        exact HR.out.2
  · have HD : Hid (decide (l = r) = false) := by
      show decide _ = false
      rw [decide_eq_false_iff_not]
      intro e
      apply hnm
      rw [HN.out, HM.out, e]
    rw [HD.out]
    have hne : ((n : Int) == (m : Int)) = false := by simp; omega
    have hne2 : ((n : Int) != (m : Int)) = true := by simp; omega
    have hneI : ¬ ((n : Int) = (m : Int)) := by omega
    have hnb : (n == m) = false := by simpa using hnm
    have hnb2 : (n != m) = true := by simpa using hnm
    go_enter Tryd.func19, Tryd.ntmps19
    go_wp2_with fail
    go_ret
    exact ⟨rfl, Fr.refl _ _⟩

end Go.Proofs.YtnhagokkamobaaaDoor
namespace Go.Proofs.YtnhagokkamobaaaDoor
open Go.RowKit

/-- The cells of a table of the reference lie in block g. -/
structure RTab (w : World) (g c : Nat) (rest : List Value) (t : BT) : Prop where
  cells : At w g 95 (tcells t.cells ++ rest)
  ok : t.Ok
  size : isSz (t.cells.length : Int) = true
  cap : t.cells.length ≤ c

theorem RTab.fr {w w' : World} {g c : Nat} {rest : List Value} {t : BT} {S : List Nat} (h : RTab w g c rest t) (hf : Fr S w w') (hg : g ∉ S) : RTab w' g c rest t := ⟨h.cells.fr hf hg, h.ok, h.size, h.cap⟩

theorem run_makeRefCells (n : Nat) (hn : n ≤ 3072) (w : World) : (Instr.makeSlice 51 (.int .i64 (n : Int)) (.int .i64 (n : Int))).run Tryd.prog w = .ok (.slice (some ⟨w.heap.size, 0, none⟩) n n) (w.alloc (.cells (tcells (List.replicate n BC.zero)).toArray 95)) := by
  have hinfo : (Tryd.prog.info? 95).map (fun i => (i.zero, i.size, i.bytes)) = some (some (.agg BC.zero.cells.toArray), 34, 48) := by kernel_rfl
  obtain ⟨i, hi, hz, hsz, hby⟩ := info_parts hinfo
  have := run_make (P := Tryd.prog) w 51 95 i _ Tryd.underlying51 hi hz .i64 .i64 (n : Int) (n : Int) (by omega) (by omega) (by rw [hby]; omega) (by omega)
  rw [hsz, Int.toNat_natCast] at this
  rw [this, ← made_zero]
  rfl

set_option maxRecDepth 100000 in
theorem refNew_any (n seed : Nat) (w : World) (h : isSz (n : Int) = true) (hs : U64 seed) : Calls Tryd.prog 50 #[Value.int .i64 (n : Int), .int .u64 (seed : Int)] w fun e w' => ∃ g, e = .returned (.agg #[.int .u64 (seed : Int), .slice (some ⟨g, 0, none⟩) n n]) ∧ w.heap.size ≤ g ∧ Fr [] w w' ∧ RTab w' g n [] (BT.new n seed) := by
  obtain ⟨n3, n4, n5⟩ := isSz_bounds h
  have hmk := run_makeRefCells n n4
  have HH := Lib.hid (And.intro h hs)
  clear h hs n5
  go_enter Tryd.func50, Tryd.ntmps50
  go_wp2_with (refine wpList_store_at rfl 53 (.tmp 4) (.tmp 8) rfl w.heap.size 0 rfl 53 [.int .u64 0, .slice none 0 0] [.int .u64 (seed : Int), .slice (some ⟨w.heap.size + 1, 0, none⟩) n n] rfl ((At.new w 53 [.int .u64 0, .slice none 0 0]).alloc _) (by simp) (by kernel_rfl) (by simp [Value.oneCell']) [.int .u64 (seed : Int), .slice (some ⟨w.heap.size + 1, 0, none⟩) n n] rfl ?_; intro w2 hf2 ha2)
  refine bodyPost_ret (results_at (t := 53) rfl _ _ w.heap.size [.int .u64 (seed : Int), .slice (some ⟨w.heap.size + 1, 0, none⟩) n n] _ rfl ha2 Tryd.underlying53 rfl (by kernel_rfl)) rfl ⟨w.heap.size + 1, rfl, by omega, (((Fr.refl [] w).alloc _).alloc _).trans' hf2 (by simp), ?_⟩
  have e : (BT.new n seed).cells.length = n := by simp [BT.new]
  refine ⟨?_, BT.Ok.new n seed HH.out.2, by rw [e]; exact HH.out.1, by rw [e]; exact Nat.le_refl _⟩
  have h1 := At.new (w.alloc (.cells #[.int .u64 0, .slice none 0 0] 53)) 95 (tcells (List.replicate n BC.zero))
  have e2 : (w.alloc (.cells #[.int .u64 0, .slice none 0 0] 53)).heap.size = w.heap.size + 1 := by simp
  rw [e2] at h1
  rw [List.append_nil]
  exact h1.fr hf2 (by simp)

/-- A struct out of the middle of a block, as one operation of a region. -/
theorem exec_load_at {P : Program} {o : Oper} {a : Act} {w : World} (ty : TypeId) (x : Operand) (ho : o.op = .load ty x) (b off : Nat) (hx : a.eval x = .pointer (some ⟨b, off, none⟩)) (cs : List Value) (d : TypeDesc) (hc : ∀ j v, cs[j]? = some v → w.cell? ⟨b, off + j, none⟩ = some v)
    (hu : P.underlying ty = some d) (hd : (match d with | .struct _ | .array _ _ => true | _ => false) = true) (hi : (P.info? ty).map (·.size) = some cs.length) : (execOp a.eval o).run P w = .ok (.value (.agg cs.toArray)) w := by
  unfold execOp
  simp only [ho, hx, Instr.loadAt, Instr.sureAddr, Sem.run_bind, Sem.run_pure, Result.andThen_ok, run_loadVar_at w b off ty cs d hc hu hd hi]
theorem pl3_map' (n seed : Nat) (key : List UInt8) : pl3 n seed key = (placesL n seed key).map (Value.int .i64) := rfl

theorem wp_store_newd {P : Program} {o : Oper} {a : Act} {w : World} {K : Act → World → Prop} {Q : Exit → Act → World → Prop} (ty : TypeId) (x y : Operand) (ho : o.op = .store ty x y)
    (hx : a.eval x = .pointer (some ⟨w.heap.size, 0, none⟩)) (t : TypeId) (z : Array Value) (cs : List Value) (hy : a.eval y = .agg cs.toArray) (hz : z.size = cs.length) (hi : (P.info? ty).map (·.size) = some cs.length) (h1 : ∀ v ∈ cs, v.oneCell' = true)
    (h : ∀ w', Fr [] w w' → At w' w.heap.size t cs → K (a.put o.dst undef) w') : o.wp P a (w.alloc (.cells z t)).drew K Q := by
  refine wp_store_at ty x y ho w.heap.size 0 hx t z.toList cs hy (by simpa using (At.new w t z.toList).drew) (by simp [hz]) hi h1 cs (by simp [← hz]) ?_
  intro w' hf ha
  exact h w' (((Fr.refl _ _).alloc _).drew.trans' hf (by simp)) ha

theorem tcells_put {l : List BC} (h : Ok34 l) (rest : List Value) (p : Nat) (c : BC) (hp : l[p]? = some c) (c' : BC) : (tcells l ++ rest).take (p * 34) ++ c'.cells ++ (tcells l ++ rest).drop (p * 34 + 34) = tcells (l.set p c') ++ rest := by
  obtain ⟨h1, e1⟩ := List.getElem?_eq_some_iff.1 hp
  obtain ⟨A, B, rfl, hA⟩ : ∃ A B, l = A ++ c :: B ∧ A.length = p := ⟨l.take p, l.drop (p + 1), by rw [← e1, ← List.drop_eq_getElem_cons h1, List.take_append_drop], by rw [List.length_take]; omega⟩
  have hAl : (tcells A).length = p * 34 := by rw [tcells_len (fun x hx => h x (by simp [hx])), hA]
  have hcl : c.cells.length = 34 := BC.cells_len (h c (by simp))
  have hACl : (tcells A ++ c.cells).length = p * 34 + 34 := by rw [List.length_append, hAl, hcl]
  have e2 : tcells (A ++ c :: B) ++ rest = (tcells A ++ c.cells) ++ (tcells B ++ rest) := by rw [tcells_append, tcells_cons]; simp [List.append_assoc]
  have e3 : tcells (A ++ c :: B) ++ rest = tcells A ++ (c.cells ++ (tcells B ++ rest)) := by rw [e2, List.append_assoc]
  have e4 : (A ++ c :: B).set p c' = A ++ c' :: B := by rw [List.set_append_right _ _ (by omega), hA, Nat.sub_self, List.set_cons_zero]
  have t1 : (tcells (A ++ c :: B) ++ rest).take (p * 34) = tcells A := by rw [e3]; exact List.take_left' hAl
  have t2 : (tcells (A ++ c :: B) ++ rest).drop (p * 34 + 34) = tcells B ++ rest := by rw [e2]; exact List.drop_left' hACl
  rw [t1, t2, e4, tcells_append, tcells_cons]
  simp [List.append_assoc]

theorem el_rcell : Elem Tryd.prog 51 95 (.agg BC.zero.cells.toArray) 34 48 := ⟨Tryd.underlying51, by kernel_rfl, rfl, by omega, by omega⟩

theorem World.ownsRow_made' {w W : World} {base : Nat} {e : TypeId} {sz : Nat} (hb : base ≤ W.heap.size) (h : W.heap.size = w.heap.size + 1) : (W.alloc (.cells #[] e)).ownsRow base e sz (.slice (some ⟨w.heap.size + 1, 0, none⟩) 0 0) 0 [] := by
  rw [← h]
  exact World.ownsRow_made W #[] 0 hb (Nat.zero_le _) (by simp)

theorem at7_a2 {W1 w2 : World} {e t : TypeId} (hg : ((W1.alloc (.cells #[] e)).alloc (.cells #[.int .u64 0, .slice none 0 0] t)).grownBy w2 (some W1.heap.size)) : At w2 (W1.heap.size + 1) t [.int .u64 0, .slice none 0 0] := by
  have h1 := At.new (W1.alloc (.cells #[] e)) t [.int .u64 0, .slice none 0 0]
  rw [show (W1.alloc (.cells #[] e)).heap.size = W1.heap.size + 1 by simp] at h1
  exact h1.grown hg (by intro h; injection h; omega)
theorem at7_a3 {W1 w2 : World} {e t : TypeId} (hg : ((W1.alloc (.cells #[.int .u64 0, .slice none 0 0] t)).alloc (.cells #[] e)).grownBy w2 (some (W1.heap.size + 1))) : At w2 W1.heap.size t [.int .u64 0, .slice none 0 0] :=
  ((At.new W1 t [.int .u64 0, .slice none 0 0]).alloc _).grown hg (by intro h; injection h; omega)

end Go.Proofs.YtnhagokkamobaaaDoor
