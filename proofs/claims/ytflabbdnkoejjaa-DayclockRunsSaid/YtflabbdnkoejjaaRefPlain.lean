/- The reference's reading of a number is rdNum, in plain Lean. -/
import Derived.Test.YtflabbdnkoejjaaRd4
namespace Go.Proofs.Ytflabbdnkoejjaa

theorem accN_num (n : Nat) : ∀ l : List UInt8, accN (num n ++ l) (num n).length = n := by
  induction n using Nat.strongRecOn with
  | _ n ih =>
    intro l
    by_cases hn : n < 128
    · rw [num_small n hn]
      simp [accN]
      omega
    · rw [num_big n hn]
      have h := ih (n / 128) (Nat.div_lt_self (by omega) (by omega)) l
      rw [List.length_cons, List.cons_append, accN, h, u8_toNat _ (by omega)]
      omega

theorem accN_take : ∀ (k : Nat) (l : List UInt8), accN (l.take k) k = accN l k
  | 0, _ => by simp [accN]
  | _ + 1, [] => rfl
  | k + 1, b :: l => by rw [List.take_succ_cons, accN, accN, accN_take k l]

/-- The value of k + 1 groups, in 64 bits. -/
def acc64 (l : List UInt8) (k : Nat) : Nat := accN l k % 18446744073709551616

theorem acc64_u64 (l : List UInt8) (k : Nat) : U64 (acc64 l k) := Nat.mod_lt _ (by decide)

theorem acc64_step (l : List UInt8) (k j : Nat) (b : UInt8) (h : l[j]? = some b) :
    ((acc64 (l.drop (j + 1)) k : Int) * 128 % 18446744073709551616 + ((b.toNat : Int) % 128)) % 18446744073709551616 = (acc64 (l.drop j) (k + 1) : Int) := by
  have hl := (List.getElem?_eq_some_iff.1 h)
  obtain ⟨hj, hb⟩ := hl
  have e : l.drop j = b :: l.drop (j + 1) := by rw [List.drop_eq_getElem_cons hj, hb]
  unfold acc64
  rw [e, accN]
  omega

theorem canon (D : List UInt8) (off k : Nat) (b : UInt8) (hpre : ∀ j b, j < k → D[off + j]? = some b → 128 ≤ b.toNat) (hb : D[off + k]? = some b) (hlt : b.toNat < 128) (hk : k ≤ 9) :
    (num (acc64 (D.drop off) (k + 1)) = (D.drop off).take (k + 1) → rdNum D off = some (acc64 (D.drop off) (k + 1), off + k + 1)) ∧
    (num (acc64 (D.drop off) (k + 1)) ≠ (D.drop off).take (k + 1) → rdNum D off = none) := by
  have hpre' : ∀ j c, j < k → (D.drop off)[j]? = some c → 128 ≤ c.toNat := fun j c hj hc => hpre j c hj (by rwa [List.getElem?_drop] at hc)
  have hb' : (D.drop off)[k]? = some b := by rw [List.getElem?_drop]; exact hb
  rw [rdNum_at D off k b hpre hb hlt]
  by_cases hc : k ≤ 9 ∧ ¬ (0 < k ∧ b.toNat = 0) ∧ ¬ (k = 9 ∧ 1 < b.toNat)
  · rw [if_pos hc]
    have hr : rdNum D off = some (accN (D.drop off) (k + 1), off + k + 1) := by rw [rdNum_at D off k b hpre hb hlt, if_pos hc]
    have hu := (rdNum_le _ _ _ _ hr).2.2
    have e : acc64 (D.drop off) (k + 1) = accN (D.drop off) (k + 1) := Nat.mod_eq_of_lt hu
    rw [e]
    refine ⟨fun _ => rfl, fun h => absurd ?_ h⟩
    obtain ⟨h1, h2⟩ := num_of k (D.drop off) hpre' ⟨b, hb', hlt, hc.2.1⟩
    have h3 : num (accN (D.drop off) (k + 1)) = (num (accN (D.drop off) (k + 1)) ++ (D.drop off).drop (k + 1)).take (num (accN (D.drop off) (k + 1))).length := by rw [List.take_left]
    rw [← h1, h2] at h3
    exact h3
  · rw [if_neg hc]
    refine ⟨fun h => absurd ?_ hc, fun _ => rfl⟩
    have hlk : k < (D.drop off).length := (List.getElem?_eq_some_iff.1 hb').1
    have hlen : (num (acc64 (D.drop off) (k + 1))).length = k + 1 := by rw [h, List.length_take]; omega
    have hg := num_get (acc64 (D.drop off) (k + 1)) k b (by rw [h, List.getElem?_take, if_pos (by omega)]; exact hb')
    refine ⟨hk, fun hz => (hg.2 hlen.symm).2 hz.1 hz.2, fun h9 => ?_⟩
    have ha : accN (D.drop off) (k + 1) = acc64 (D.drop off) (k + 1) := by
      have h1 := accN_num (acc64 (D.drop off) (k + 1)) []
      rw [List.append_nil, hlen] at h1
      rw [← accN_take, ← h, h1]
    have hs := accN_succ k _ b hb'
    have hu := acc64_u64 (D.drop off) (k + 1)
    unfold U64 at hu
    obtain ⟨rfl, h1⟩ := h9
    have h2 : b.toNat % 128 = b.toNat := Nat.mod_eq_of_lt hlt
    rw [h2] at hs
    have h3 : 2 * 128 ^ 9 ≤ b.toNat * 128 ^ 9 := Nat.mul_le_mul_right _ h1
    have h4 : 2 * 128 ^ 9 = 18446744073709551616 := by decide
    omega

end Go.Proofs.Ytflabbdnkoejjaa
