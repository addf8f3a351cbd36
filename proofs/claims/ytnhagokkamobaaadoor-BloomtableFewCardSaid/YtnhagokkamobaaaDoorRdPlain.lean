/- Reading a number of layer 1 out of a list of bytes, in plain Lean. -/
import Derived.Test.YtnhagokkamobaaaDoorWirePlain
namespace Go.Proofs.YtnhagokkamobaaaDoor

/-- The groups of the first k bytes. -/
def accN : List UInt8 → Nat → Nat
  | _, 0 => 0
  | [], _ => 0
  | b :: l, k + 1 => b.toNat % 128 + 128 * accN l k

theorem accN_succ : ∀ (k : Nat) (l : List UInt8) (b : UInt8), l[k]? = some b → accN l (k + 1) = accN l k + (b.toNat % 128) * 128 ^ k
  | 0, b' :: l, b, h => by
    simp at h
    subst h
    simp [accN]
  | k + 1, b' :: l, b, h => by
    simp at h
    have ih := accN_succ k l b h
    rw [accN, ih, accN, Nat.pow_succ, Nat.mul_add]
    have : 128 * (b.toNat % 128 * 128 ^ k) = b.toNat % 128 * (128 ^ k * 128) := by
      rw [Nat.mul_comm (128 ^ k) 128, ← Nat.mul_assoc, ← Nat.mul_assoc, Nat.mul_comm 128]
    omega
  | _, [], _, h => by simp at h

theorem accN_lt : ∀ (k : Nat) (l : List UInt8), accN l k < 128 ^ k
  | 0, _ => by simp [accN]
  | k + 1, [] => by simp only [accN]; exact Nat.pow_pos (by omega)
  | k + 1, b :: l => by
    have ih := accN_lt k l
    rw [accN, Nat.pow_succ]
    have := Nat.mod_lt b.toNat (show 128 > 0 by omega)
    omega

/-- How many bytes of at least 128 lie ahead. -/
def ahead : List UInt8 → Nat
  | [] => 0
  | b :: l => if b.toNat < 128 then 0 else ahead l + 1

theorem ahead_drop : ∀ (k : Nat) (l : List UInt8), k ≤ l.length → (∀ j b, j < k → l[j]? = some b → 128 ≤ b.toNat) → ahead l = k + ahead (l.drop k)
  | 0, l, _, _ => by simp
  | k + 1, [], h, _ => by simp at h
  | k + 1, b :: l, h, hp => by
    have h0 := hp 0 b (by omega) rfl
    have ih := ahead_drop k l (by simpa using h) (fun j c hj hc => hp (j + 1) c (by omega) (by simpa using hc))
    rw [ahead, if_neg (by omega), ih, List.drop_succ_cons]
    omega

theorem ahead_low (l : List UInt8) (b : UInt8) (h : l[0]? = some b) (hb : b.toNat < 128) : ahead l = 0 := by
  match l, h with
  | c :: l, h =>
    simp at h
    subst h
    rw [ahead, if_pos hb]

/-- Read a number: its value and the offset behind it. -/
def rdNum (D : List UInt8) (off : Nat) : Option (Nat × Nat) :=
  match (D.drop off)[ahead (D.drop off)]? with
  | none => none
  | some b => if ahead (D.drop off) ≤ 9 ∧ ¬ (0 < ahead (D.drop off) ∧ b.toNat = 0) ∧ ¬ (ahead (D.drop off) = 9 ∧ 1 < b.toNat) then some (accN (D.drop off) (ahead (D.drop off) + 1), off + ahead (D.drop off) + 1) else none

theorem rdNum_at (D : List UInt8) (off k : Nat) (x : UInt8) (hpre : ∀ j b, j < k → D[off + j]? = some b → 128 ≤ b.toNat) (hx : D[off + k]? = some x) (hlt : x.toNat < 128) :
    rdNum D off = if k ≤ 9 ∧ ¬ (0 < k ∧ x.toNat = 0) ∧ ¬ (k = 9 ∧ 1 < x.toNat) then some (accN (D.drop off) (k + 1), off + k + 1) else none := by
  have hl : off + k < D.length := (List.getElem?_eq_some_iff.1 hx).1
  have ha : ahead (D.drop off) = k := by
    rw [ahead_drop k (D.drop off) (by simp; omega) (fun j b hj hb => hpre j b hj (by rwa [List.getElem?_drop] at hb))]
    rw [ahead_low _ x (by rw [List.drop_drop, List.getElem?_drop, Nat.add_zero]; exact hx) hlt]
    rfl
  unfold rdNum
  rw [ha, List.getElem?_drop, hx]

theorem rdNum_end (D : List UInt8) (off k : Nat) (hpre : ∀ j b, j < k → D[off + j]? = some b → 128 ≤ b.toNat) (h : off + k = D.length) : rdNum D off = none := by
  have ha : ahead (D.drop off) = k := by
    rw [ahead_drop k (D.drop off) (by simp; omega) (fun j b hj hb => hpre j b hj (by rwa [List.getElem?_drop] at hb))]
    rw [List.drop_drop, List.drop_of_length_le (by omega)]
    rfl
  unfold rdNum
  rw [ha, List.getElem?_drop, List.getElem?_eq_none (by omega)]

theorem rdNum_long (D : List UInt8) (off : Nat) (hpre : ∀ j b, j < 10 → D[off + j]? = some b → 128 ≤ b.toNat) (h : off + 10 ≤ D.length) : rdNum D off = none := by
  have ha : 10 ≤ ahead (D.drop off) := by
    rw [ahead_drop 10 (D.drop off) (by simp; omega) (fun j b hj hb => hpre j b hj (by rwa [List.getElem?_drop] at hb))]
    omega
  unfold rdNum
  split
  · rfl
  · rw [if_neg (by omega)]

theorem num_of (k : Nat) : ∀ l : List UInt8, (∀ j b, j < k → l[j]? = some b → 128 ≤ b.toNat) → (∃ b, l[k]? = some b ∧ b.toNat < 128 ∧ ¬ (0 < k ∧ b.toNat = 0)) →
    l = num (accN l (k + 1)) ++ l.drop (k + 1) ∧ (num (accN l (k + 1))).length = k + 1 := by
  induction k with
  | zero =>
    intro l _ h
    obtain ⟨b, hb, hlt, _⟩ := h
    match l, hb with
    | b' :: l, hb =>
      simp at hb
      subst hb
      have e : accN (b' :: l) 1 = b'.toNat := by simp [accN]; omega
      rw [e, num_small _ hlt]
      simp
  | succ k ih =>
    intro l h1 h2
    obtain ⟨b, hb, hlt, hz⟩ := h2
    match l, hb with
    | b' :: l, hb =>
      simp at hb
      have h0 : 128 ≤ b'.toNat := h1 0 b' (by omega) rfl
      have hb'lt := UInt8.toNat_lt b'
      obtain ⟨ih1, ih2⟩ := ih l (fun j c hj hc => h1 (j + 1) c (by omega) (by simpa using hc)) ⟨b, hb, hlt, fun hh => hz ⟨by omega, hh.2⟩⟩
      -- the rest is not zero
      have hpos : 0 < accN l (k + 1) := by
        rw [accN_succ k l b hb]
        have hbp : 0 < b.toNat := by
          rcases Nat.eq_zero_or_pos b.toNat with h | h
          · exact absurd ⟨by omega, h⟩ hz
          · exact h
        have : b.toNat % 128 = b.toNat := Nat.mod_eq_of_lt hlt
        rw [this]
        have := Nat.mul_pos hbp (Nat.pow_pos (n := k) (show 0 < 128 by omega))
        omega
      have e : accN (b' :: l) (k + 1 + 1) = b'.toNat % 128 + 128 * accN l (k + 1) := rfl
      rw [e, num_big _ (by omega)]
      have e1 : (b'.toNat % 128 + 128 * accN l (k + 1)) % 128 + 128 = b'.toNat := by omega
      have e2 : (b'.toNat % 128 + 128 * accN l (k + 1)) / 128 = accN l (k + 1) := by omega
      rw [e1, e2]
      simp only [List.cons_append, List.length_cons, List.drop_succ_cons]
      refine ⟨?_, by omega⟩
      rw [← ih1]
      simp

theorem u8_toNat (m : Nat) (h : m < 256) : (UInt8.ofNat m).toNat = m := by simp; omega

theorem num_get (n : Nat) : ∀ (j : Nat) (b : UInt8), (num n)[j]? = some b → (j + 1 < (num n).length → 128 ≤ b.toNat) ∧ (j + 1 = (num n).length → b.toNat < 128 ∧ (0 < j → b.toNat ≠ 0)) := by
  induction n using Nat.strongRecOn with
  | _ n ih =>
    intro j b hb
    by_cases hn : n < 128
    · rw [num_small n hn] at hb ⊢
      cases j with
      | zero =>
        simp at hb
        subst hb
        refine ⟨fun h => by simp at h, fun _ => ⟨by simp; omega, fun h => by omega⟩⟩
      | succ j => simp at hb
    · rw [num_big n hn] at hb ⊢
      have hp := Nat.div_lt_self (show 0 < n by omega) (show 1 < 128 by omega)
      have hpos : 0 < (num (n / 128)).length := by
        by_cases h : n / 128 < 128
        · rw [num_small _ h]; simp
        · rw [num_big _ h]; simp
      cases j with
      | zero =>
        simp only [List.getElem?_cons_zero, Option.some.injEq] at hb
        subst hb
        refine ⟨fun _ => by rw [u8_toNat _ (by omega)]; omega, fun h => by simp only [List.length_cons] at h; omega⟩
      | succ j =>
        simp at hb
        obtain ⟨h1, h2⟩ := ih (n / 128) hp j b hb
        simp only [List.length_cons]
        refine ⟨fun h => h1 (by omega), fun h => ⟨(h2 (by omega)).1, fun _ => ?_⟩⟩
        cases j with
        | zero =>
          -- the single byte of n / 128, which is not zero
          have hl : (num (n / 128)).length = 1 := by omega
          by_cases hs : n / 128 < 128
          · rw [num_small _ hs] at hb
            simp at hb
            subst hb
            have : 0 < n / 128 := Nat.div_pos (by omega) (by omega)
            simp
            omega
          · rw [num_big _ hs] at hl
            simp at hl
            have : 0 < (num (n / 128 / 128)).length := by
              by_cases h : n / 128 / 128 < 128
              · rw [num_small _ h]; simp
              · rw [num_big _ h]; simp
            rw [hl] at this
            simp at this
        | succ j => exact (h2 (by omega)).2 (by omega)

/-- One more group. -/
def orG (m : Nat) (x : UInt8) (k : Nat) : Int := bits BinOp.or IntKind.u64 (m : Int) (IntKind.u64.wrap (IntKind.u64.wrap (bits BinOp.and IntKind.u8 (x.toNat : Int) 127) * 2 ^ (7 * k)))

theorem and_127 (x : UInt8) : bits BinOp.and IntKind.u8 (x.toNat : Int) 127 = ((x.toNat % 128 : Nat) : Int) := by
  have h := u8_and_nat x.toNat 127 (UInt8.toNat_lt x) (by omega)
  rw [nat_mask7] at h
  exact h

theorem orG_nat (m : Nat) (x : UInt8) (k : Nat) (hm : U64 m) : ∃ m' : Nat, orG m x k = (m' : Int) ∧ U64 m' ∧ (m < 128 ^ k → x.toNat % 128 * 128 ^ k < 18446744073709551616 → m' = m + x.toNat % 128 * 128 ^ k) := by
  unfold U64 at hm
  unfold orG
  rw [and_127]
  have hx := Nat.mod_lt x.toNat (show 128 > 0 by omega)
  have e1 : IntKind.u64.wrap ((x.toNat % 128 : Nat) : Int) = ((x.toNat % 128 : Nat) : Int) := IntWalk.u64_in _ (by omega)
  rw [e1]
  have e2 : ((x.toNat % 128 : Nat) : Int) * 2 ^ (7 * k) = ((x.toNat % 128 * 128 ^ k : Nat) : Int) := by
    rw [show (128 : Nat) = 2 ^ 7 from rfl, ← Nat.pow_mul]
    push_cast
    rfl
  rw [e2, IntKind.wrap_u64]
  have e3 : ((x.toNat % 128 * 128 ^ k : Nat) : Int) % 18446744073709551616 = ((x.toNat % 128 * 128 ^ k % 18446744073709551616 : Nat) : Int) := by omega
  rw [e3, u64_or_nat m _ hm (by omega)]
  refine ⟨_, rfl, ?_, ?_⟩
  · exact Nat.or_lt_two_pow (n := 64) (by omega) (by omega)
  · intro h1 h2
    rw [Nat.mod_eq_of_lt h2, Nat.or_comm, nat_join (7 * k) _ m]
    · omega
    · rw [show (128 : Nat) = 2 ^ 7 from rfl, ← Nat.pow_mul]
      exact Nat.mul_mod_left _ _
    · rw [Nat.pow_mul]; exact h1

end Go.Proofs.YtnhagokkamobaaaDoor
