/- Contracts of the reference of layer 39: Valid, Key, Size. -/
import Derived.Test.YtnhagokkamobaaaDoorBlAwake
namespace Go.Proofs.YtnhagokkamobaaaDoor
open Go.RowKit

set_option maxRecDepth 100000 in
theorem valid_any (n : Int) (w : World) : Calls Tryd.prog 16 #[Value.int .i64 n] w fun e w' => e = .returned (.bool (isSz n)) ∧ w = w' := by
  unfold isSz
  by_cases h1 : 3 ≤ n
  · by_cases h2 : n ≤ 3072
    · by_cases h3 : n % 3 = 0
      · have q : (n % 3 == 0) = true := by simpa using h3
        have e : (decide (3 ≤ n) && decide (n ≤ 3072) && decide (n % 3 = 0)) = true := by simp [h1, h2, h3]
        rw [e]
        clear e h3
        go_enter Tryd.func16, Tryd.ntmps16
        go_wp2_with fail
        go_ret
        exact ⟨rfl, rfl⟩
      · have q : (n % 3 == 0) = false := by simpa using h3
        have e : (decide (3 ≤ n) && decide (n ≤ 3072) && decide (n % 3 = 0)) = false := by simp [h3]
        rw [e]
        clear e h3
        go_enter Tryd.func16, Tryd.ntmps16
        go_wp2_with fail
        go_ret
        exact ⟨rfl, rfl⟩
    · have e : (decide (3 ≤ n) && decide (n ≤ 3072) && decide (n % 3 = 0)) = false := by simp [h2]
      rw [e]
      have d : decide (n ≤ 3072) = false := by simpa using h2
      clear e
      go_enter Tryd.func16, Tryd.ntmps16
      go_wp2_with fail
      go_ret
      exact ⟨rfl, rfl⟩
  · have e : (decide (3 ≤ n) && decide (n ≤ 3072) && decide (n % 3 = 0)) = false := by simp [h1]
    rw [e]
    have d : decide (3 ≤ n) = false := by simpa using h1
    clear e
    go_enter Tryd.func16, Tryd.ntmps16
    go_wp2_with fail
    go_ret
    exact ⟨rfl, rfl⟩

/-- The loop of Size: k rises to the next multiple of 3. -/
theorem size_loop_fact (n k : Int) (hk : 2 * n + 12 ≤ k) (hk2 : k ≤ (2 * n + 14) / 3 * 3) (h3 : k % 3 = 0) : k = (2 * n + 14) / 3 * 3 := by omega

set_option maxRecDepth 100000 in
set_option maxHeartbeats 1000000 in
theorem refSize_any (n : Int) (w : World) : Calls Tryd.prog 15 #[Value.int .i64 n] w fun e w' => e = .returned (Value.int .i64 (blSize n)) ∧ w = w' := by
  obtain ⟨m, hm0, hm1, hm⟩ : ∃ m : Int, 0 ≤ m ∧ m ≤ 2000 ∧ m = (if n < 0 then 0 else if 2000 < n then 2000 else n) := ⟨_, by split <;> (try split) <;> omega, by split <;> (try split) <;> omega, rfl⟩
  have hres : blSize n = if 3072 < (2 * m + 14) / 3 * 3 then 3072 else (2 * m + 14) / 3 * 3 := by
    unfold blSize
    split at hm
    · subst hm
      rw [if_neg (by omega), if_pos (by omega)]
      rfl
    · split at hm
      · subst hm
        rw [if_pos (by omega)]
        rfl
      · subst hm
        by_cases h : 1536 < m
        · rw [if_pos h, if_pos (by omega)]
        · rw [if_neg h, if_neg (by omega)]
          split <;> omega
  rw [hres]
  have HM := Lib.hid hm
  clear hm hres
  by_cases c1 : n < 0
  · have hmm : m = 0 := by have := HM.out; rw [if_pos c1] at this; exact this
    obtain ⟨m, hmm2⟩ : ∃ m' : Int, m' = m := ⟨m, rfl⟩
    rw [← hmm2] at hmm hm0 hm1 ⊢
    clear hmm2 HM
    have HMM := Lib.hid hmm
    clear hmm
    go_enter Tryd.func15, Tryd.ntmps15
    go_wp2_with fail
    go_loop [3] (fun v => ∃ k : Int, 2 * m + 12 ≤ k ∧ k ≤ (2 * m + 14) / 3 * 3 ∧ v = Value.int .i64 k) (fun v => ((2 * m + 14) / 3 * 3 - intOf v).toNat)
    case atStart => exact ⟨2 * m + 12, by omega, by omega, by rw [HMM.out]; rfl⟩
    case round =>
      obtain ⟨k, k1, k2, rfl⟩ := hrel
      by_cases h3 : k % 3 = 0
      · have q1 : (k % 3 != 0) = false := by simpa using h3
        have q2 : (k % 3 == 0) = true := by simpa using h3
        have HK := Lib.hid (size_loop_fact m k k1 k2 h3)
        clear h3
        by_cases h4 : 3072 < k
        · go_wp2_with fail
          go_ret
          exact ⟨rfl, rfl⟩
        · go_wp2_with fail
          go_ret
          exact ⟨ret_int HK.out, rfl⟩
      · have q1 : (k % 3 != 0) = true := by simpa using h3
        have q2 : (k % 3 == 0) = false := by simpa using h3
        have k3 : k + 1 ≤ (2 * m + 14) / 3 * 3 := by omega
        go_wp2_with fail
        go_round
        case rel => exact ⟨k + 1, by omega, k3, rfl⟩
        case measure => simp [intOf] <;> omega
  · by_cases c2 : 2000 < n
    · have hmm : m = 2000 := by have := HM.out; rw [if_neg c1, if_pos c2] at this; exact this
      have HMM := Lib.hid hmm
      clear hmm HM
      go_enter Tryd.func15, Tryd.ntmps15
      go_wp2_with fail
      go_loop [3] (fun v => ∃ k : Int, 2 * m + 12 ≤ k ∧ k ≤ (2 * m + 14) / 3 * 3 ∧ v = Value.int .i64 k) (fun v => ((2 * m + 14) / 3 * 3 - intOf v).toNat)
      case atStart => exact ⟨2 * m + 12, by omega, by omega, by rw [HMM.out]; rfl⟩
      case round =>
        obtain ⟨k, k1, k2, rfl⟩ := hrel
        by_cases h3 : k % 3 = 0
        · have q1 : (k % 3 != 0) = false := by simpa using h3
          have q2 : (k % 3 == 0) = true := by simpa using h3
          have HK := Lib.hid (size_loop_fact m k k1 k2 h3)
          clear h3
          by_cases h4 : 3072 < k
          · go_wp2_with fail
            go_ret
            exact ⟨rfl, rfl⟩
          · go_wp2_with fail
            go_ret
            exact ⟨ret_int HK.out, rfl⟩
        · have q1 : (k % 3 != 0) = true := by simpa using h3
          have q2 : (k % 3 == 0) = false := by simpa using h3
          have k3 : k + 1 ≤ (2 * m + 14) / 3 * 3 := by omega
          go_wp2_with fail
          go_round
          case rel => exact ⟨k + 1, by omega, k3, rfl⟩
          case measure => simp [intOf] <;> omega
    · obtain rfl : m = n := by have := HM.out; rw [if_neg c1, if_neg c2] at this; exact this
      clear HM
      go_enter Tryd.func15, Tryd.ntmps15
      go_wp2_with fail
      go_loop [3] (fun v => ∃ k : Int, 2 * m + 12 ≤ k ∧ k ≤ (2 * m + 14) / 3 * 3 ∧ v = Value.int .i64 k) (fun v => ((2 * m + 14) / 3 * 3 - intOf v).toNat)
      case atStart => exact ⟨2 * m + 12, by omega, by omega, rfl⟩
      case round =>
        obtain ⟨k, k1, k2, rfl⟩ := hrel
        by_cases h3 : k % 3 = 0
        · have q1 : (k % 3 != 0) = false := by simpa using h3
          have q2 : (k % 3 == 0) = true := by simpa using h3
          have HK := Lib.hid (size_loop_fact m k k1 k2 h3)
          clear h3
          by_cases h4 : 3072 < k
          · go_wp2_with fail
            go_ret
            exact ⟨rfl, rfl⟩
          · go_wp2_with fail
            go_ret
            exact ⟨ret_int HK.out, rfl⟩
        · have q1 : (k % 3 != 0) = true := by simpa using h3
          have q2 : (k % 3 == 0) = false := by simpa using h3
          have k3 : k + 1 ≤ (2 * m + 14) / 3 * 3 := by omega
          go_wp2_with fail
          go_round
          case rel => exact ⟨k + 1, by omega, k3, rfl⟩
          case measure => simp [intOf] <;> omega

end Go.Proofs.YtnhagokkamobaaaDoor
