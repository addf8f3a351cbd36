/- No two of the 2 * 65536 digests of the messages (1, x) and (2, y) are equal: worked out in lanes. No program in sight. -/
import Derived.Test.YtnhagokkamobaaaDoorLanes2
namespace Go.Proofs.YtnhagokkamobaaaDoor

/-! ### Trees over the lanes -/
def pk (x : Nat) : Nat := x * x * x * x + 1
def halves {α : Type} (m X : Nat) (k : Nat → Nat → α) : α := force (X % 2 ^ (64 * m)) fun l => force (X / 2 ^ (64 * m)) fun r => k l r
theorem halves_eq {α : Type} (m : Nat) {f : Nat → Nat} (hf : ∀ i, i < m → f i < 2 ^ 64) (k : Nat → Nat → α) : halves m (pack (m + m) f) k = k (pack m f) (pack m fun i => f (m + i)) := by
  unfold halves
  rw [force_eq, force_eq, pack_append]
  have h := pack_lt m hf
  rw [Nat.add_mul_mod_self_left, Nat.mod_eq_of_lt h, Nat.add_mul_div_left _ _ (Nat.two_pow_pos _), Nat.div_eq_of_lt h, Nat.zero_add]
def prodT (k : Nat) : Nat → Nat := Nat.rec (motive := fun _ => Nat → Nat) pk (fun k ih X => halves (2 ^ k) X fun l r => ih l * ih r) k
def allT (b : Nat) (leaf : Nat → Bool) (k : Nat) : Nat → Bool := Nat.rec (motive := fun _ => Nat → Bool) leaf (fun k ih X => halves (2 ^ (k + b)) X fun l r => ih l && ih r) k

theorem prodT_dvd : ∀ (k : Nat) {f : Nat → Nat}, (∀ i, i < 2 ^ k → f i < 2 ^ 64) → ∀ i, i < 2 ^ k → pk (f i) ∣ prodT k (pack (2 ^ k) f)
  | 0, f, _, i, hi => by
    obtain rfl : i = 0 := by simpa using hi
    show pk (f 0) ∣ pk (pack 1 f)
    have e : pack 1 f = f 0 := by simp [pack]
    rw [e]
    exact Nat.dvd_refl _
  | k + 1, f, h, i, hi => by
    show pk (f i) ∣ halves (2 ^ k) (pack (2 ^ (k + 1)) f) fun l r => prodT k l * prodT k r
    rw [Nat.pow_succ, Nat.mul_two] at h hi ⊢
    rw [halves_eq _ (fun i hi => h i (by omega))]
    rcases Nat.lt_or_ge i (2 ^ k) with h1 | h1
    · exact Nat.dvd_trans (prodT_dvd k (f := f) (fun j hj => h j (by omega)) i h1) (Nat.dvd_mul_right _ _)
    · have := prodT_dvd k (f := fun j => f (2 ^ k + j)) (fun j hj => h _ (by omega)) (i - 2 ^ k) (by omega)
      rw [show 2 ^ k + (i - 2 ^ k) = i by omega] at this
      exact Nat.dvd_trans this (Nat.dvd_mul_left _ _)

theorem allT_get (b : Nat) (leaf : Nat → Bool) : ∀ (k : Nat) {f : Nat → Nat}, (∀ i, i < 2 ^ (k + b) → f i < 2 ^ 64) → allT b leaf k (pack (2 ^ (k + b)) f) = true → ∀ j, j < 2 ^ k → leaf (pack (2 ^ b) fun i => f (j * 2 ^ b + i)) = true
  | 0, f, _, h, j, hj => by
    obtain rfl : j = 0 := by simpa using hj
    have h' : leaf (pack (2 ^ (0 + b)) f) = true := h
    rw [Nat.zero_add] at h'
    simpa using h'
  | k + 1, f, hf, h, j, hj => by
    have e : 2 ^ (k + 1 + b) = 2 ^ (k + b) + 2 ^ (k + b) := by rw [show k + 1 + b = (k + b) + 1 by omega, Nat.pow_succ, Nat.mul_two]
    have h' : (halves (2 ^ (k + b)) (pack (2 ^ (k + 1 + b)) f) fun l r => allT b leaf k l && allT b leaf k r) = true := h
    rw [e] at h' hf
    rw [halves_eq _ (fun i hi => hf i (by omega)), Bool.and_eq_true] at h'
    rw [Nat.pow_succ, Nat.mul_two] at hj
    rcases Nat.lt_or_ge j (2 ^ k) with h1 | h1
    · exact allT_get b leaf k (f := f) (fun i hi => hf i (by omega)) h'.1 j h1
    · have := allT_get b leaf k (f := fun i => f (2 ^ (k + b) + i)) (fun i hi => hf _ (by omega)) h'.2 (j - 2 ^ k) (by omega)
      rw [pack_congr (2 ^ b) (g := fun i => f (j * 2 ^ b + i)) (fun i _ => ?_)] at this
      · exact this
      · congr 1
        rw [Nat.pow_add, ← Nat.add_assoc, ← Nat.add_mul, show 2 ^ k + (j - 2 ^ k) = j by omega]

theorem div256 (i : Nat) : i / 256 * 2 ^ 8 + i % 256 = i := by omega
/-- No number of X divides R the way its twin would. -/
def chkT (R X : Nat) : Bool := allT 8 (fun X => force (R % prodT 8 X) fun r => allT 0 (fun x => Nat.ble 1 (r % pk x)) 8 X) 8 X
theorem chkT_ne {f g : Nat → Nat} (hf : ∀ i, i < 65536 → f i < 2 ^ 64) (hg : ∀ i, i < 65536 → g i < 2 ^ 64) (h : chkT (prodT 16 (pack 65536 g)) (pack 65536 f) = true) {i j : Nat} (hi : i < 65536) (hj : j < 65536) : f i ≠ g j := by
  intro e
  have h1 := allT_get 8 _ 8 (f := f) hf h (i / 256) (by show i / 256 < 256; omega)
  rw [force_eq] at h1
  have h2 := allT_get 0 _ 8 (f := fun q => f (i / 256 * 256 + q)) (fun q hq => hf _ (by have : q < 256 := hq; omega)) h1 (i % 256) (by show i % 256 < 256; omega)
  have e1 : (pack (2 ^ 0) fun q => f (i / 256 * 256 + (i % 256 * 2 ^ 0 + q))) = f i := by
    show f (i / 256 * 256 + (i % 256 * 1 + 0)) + 18446744073709551616 * 0 = f i
    rw [show i / 256 * 256 + (i % 256 * 1 + 0) = i by omega, Nat.mul_zero, Nat.add_zero]
  rw [e1] at h2
  have h3 := Nat.le_of_ble_eq_true h2
  have d1 : pk (f i) ∣ prodT 16 (pack 65536 g) := by rw [e]; exact prodT_dvd 16 hg j hj
  have d2 : pk (f i) ∣ prodT 8 (pack (2 ^ 8) fun q => f (i / 256 * 2 ^ 8 + q)) := by
    have := prodT_dvd 8 (f := fun q => f (i / 256 * 2 ^ 8 + q)) (fun q hq => hf _ (by have : q < 256 := hq; omega)) (i % 256) (by show i % 256 < 256; omega)
    have e2 : f (i / 256 * 2 ^ 8 + i % 256) = f i := by rw [div256]
    rw [← e2]
    exact this
  rw [Nat.mod_mod_of_dvd _ d2, Nat.mod_eq_zero_of_dvd d1] at h3
  omega

/-! ### The messages -/
def msg (tag i : Nat) : List UInt8 := [UInt8.ofNat tag, UInt8.ofNat i, UInt8.ofNat (i / 256)]
def mblk (tag i : Nat) : List UInt8 := msg tag i ++ shaPad 3
def mkey (tag i : Nat) : Nat := 4294967296 * add32 0x6a09e667 (rounds (schedTo (mblk tag i) 64) (S8.of shaI) 64).a + add32 0xbb67ae85 (rounds (schedTo (mblk tag i) 64) (S8.of shaI) 64).b

theorem pad3 : shaPad 3 = 128 :: List.replicate 59 0 ++ [24] := by decide +kernel
theorem mkey_lt (tag i : Nat) : mkey tag i < 2 ^ 64 := by
  unfold mkey
  have h1 : add32 0x6a09e667 (rounds (schedTo (mblk tag i) 64) (S8.of shaI) 64).a < 4294967296 := Nat.mod_lt _ (by decide)
  have h2 : add32 0xbb67ae85 (rounds (schedTo (mblk tag i) 64) (S8.of shaI) 64).b < 4294967296 := Nat.mod_lt _ (by decide)
  omega
theorem word_eq {w w' : Nat} (h : W32 w) (h' : W32 w') (e : [byteAt w 3, byteAt w 2, byteAt w 1, byteAt w 0] = [byteAt w' 3, byteAt w' 2, byteAt w' 1, byteAt w' 0]) : w = w' := by
  simp only [List.cons.injEq, and_true] at e
  have key : ∀ k, byteAt w k = byteAt w' k → w / 2 ^ (8 * k) % 256 = w' / 2 ^ (8 * k) % 256 := by
    intro k hk
    have := congrArg UInt8.toNat hk
    simp only [byteAt, UInt8.toNat_ofNat'] at this
    simpa using this
  have a3 := key 3 e.1
  have a2 := key 2 e.2.1
  have a1 := key 1 e.2.2.1
  have a0 := key 0 e.2.2.2
  unfold W32 at h h'
  simp at a0 a1 a2 a3
  omega
theorem mkey_of_sha (t t' i j : Nat) (h : sha (msg t i) = sha (msg t' j)) : mkey t i = mkey t' j := by
  have key : ∀ t i, ∃ rest, sha (msg t i) = [byteAt (add32 0x6a09e667 (rounds (schedTo (mblk t i) 64) (S8.of shaI) 64).a) 3, byteAt (add32 0x6a09e667 (rounds (schedTo (mblk t i) 64) (S8.of shaI) 64).a) 2, byteAt (add32 0x6a09e667 (rounds (schedTo (mblk t i) 64) (S8.of shaI) 64).a) 1, byteAt (add32 0x6a09e667 (rounds (schedTo (mblk t i) 64) (S8.of shaI) 64).a) 0]
      ++ ([byteAt (add32 0xbb67ae85 (rounds (schedTo (mblk t i) 64) (S8.of shaI) 64).b) 3, byteAt (add32 0xbb67ae85 (rounds (schedTo (mblk t i) 64) (S8.of shaI) 64).b) 2, byteAt (add32 0xbb67ae85 (rounds (schedTo (mblk t i) 64) (S8.of shaI) 64).b) 1, byteAt (add32 0xbb67ae85 (rounds (schedTo (mblk t i) 64) (S8.of shaI) 64).b) 0] ++ rest) := by
    intro t i
    have hl : (mblk t i).length = 64 := by unfold mblk; rw [pad3]; simp [msg]
    have e : sha (msg t i) = digest (compress shaI (mblk t i)) := by
      unfold sha
      show digest (hashN ((mblk t i).length / 64) shaI (mblk t i)) = _
      rw [hl]
      show digest (hashN 0 (compress shaI ((mblk t i).take 64)) ((mblk t i).drop 64)) = _
      rw [List.take_of_length_le (by omega)]
      rfl
    rw [e]
    exact ⟨digest ((compress shaI (mblk t i)).drop 2), rfl⟩
  obtain ⟨r1, e1⟩ := key t i
  obtain ⟨r2, e2⟩ := key t' j
  rw [e1, e2] at h
  have h1 := List.append_inj h (by simp)
  have h2 := List.append_inj h1.2 (by simp)
  unfold mkey
  rw [word_eq (W32.add _ _) (W32.add _ _) h1.1, word_eq (W32.add _ _) (W32.add _ _) h2.1]

/-! ### Their words in lanes -/
def firstL (tag M o io : Nat) : Nat := tag * 16777216 * o + 65536 * (io &&& (255 * o)) + 256 * shr2 M 8 io + 128 * o
def first (tag i : Nat) : Nat := tag * 16777216 + 65536 * (i % 256) + 256 * (i / 256) + 128

theorem or_add {a b : Nat} (k : Nat) (hb : b < 2 ^ k) : (a * 2 ^ k) ||| b = a * 2 ^ k + b := by
  have := Nat.two_pow_add_eq_or_of_lt hb a
  rw [Nat.mul_comm, this]
theorem ar1 (a b : Nat) : a * 2 ^ 24 + b * 2 ^ 16 = (a * 256 + b) * 2 ^ 16 := by omega
theorem ar2 (a b : Nat) : a * 2 ^ 16 + b * 2 ^ 8 = (a * 256 + b) * 2 ^ 8 := by omega
theorem ar3 (t a b : Nat) : ((t * 256 + a) * 256 + b) * 2 ^ 8 + 128 = t * 16777216 + 65536 * a + 256 * b + 128 := by omega
theorem word_first (tag i : Nat) (ht : tag < 256) (hi : i < 65536) : wrd (mblk tag i) 0 = first tag i := by
  unfold wrd
  rw [if_pos (by decide)]
  have e : mblk tag i = UInt8.ofNat tag :: UInt8.ofNat i :: UInt8.ofNat (i / 256) :: 128 :: (List.replicate 59 0 ++ [24]) := by unfold mblk; rw [pad3]; rfl
  unfold word
  rw [e]
  show ((UInt8.ofNat tag).toNat * 2 ^ 24) ||| ((UInt8.ofNat i).toNat * 2 ^ 16) ||| ((UInt8.ofNat (i / 256)).toNat * 2 ^ 8) ||| (128 : UInt8).toNat = _
  rw [UInt8.toNat_ofNat', UInt8.toNat_ofNat', UInt8.toNat_ofNat']
  have c1 : tag % 2 ^ 8 = tag := Nat.mod_eq_of_lt ht
  have c2 : i / 256 % 2 ^ 8 = i / 256 := Nat.mod_eq_of_lt (by show i / 256 < 256; omega)
  have c3 : (128 : UInt8).toNat = 128 := rfl
  have c4 : i % 2 ^ 8 < 256 := Nat.mod_lt _ (by decide)
  have c5 : i / 256 < 256 := Nat.div_lt_of_lt_mul hi
  clear e
  rw [c1, c2, c3, or_add 24 (by generalize i % 2 ^ 8 = x at c4; show x * 65536 < 16777216; omega), ar1, or_add 16 (by generalize i / 256 = x at c5; show x * 256 < 65536; omega), ar2, or_add 8 (by decide), ar3]
  rfl
theorem word_mid (tag i t : Nat) (h0 : 0 < t) (ht : t < 15) : wrd (mblk tag i) t = 0 := by
  unfold wrd
  rw [if_pos (by omega)]
  have e : mblk tag i = [UInt8.ofNat tag, UInt8.ofNat i, UInt8.ofNat (i / 256), 128] ++ (List.replicate 59 0 ++ [24]) := by unfold mblk; rw [pad3]; rfl
  have key : ∀ q, 4 ≤ q → q < 63 → (mblk tag i).getD q 0 = 0 := by
    intro q h1 h2
    rw [e, List.getD_eq_getElem?_getD, List.getElem?_append_right (by simpa using h1), List.getElem?_append_left (by simp; omega), List.getElem?_replicate]
    split <;> rfl
  unfold word
  rw [key _ (by omega) (by omega), key _ (by omega) (by omega), key _ (by omega) (by omega), key _ (by omega) (by omega)]
  rfl
theorem word_last (tag i : Nat) : wrd (mblk tag i) 15 = 24 := by
  unfold wrd
  rw [if_pos (by decide)]
  have e : mblk tag i = [UInt8.ofNat tag, UInt8.ofNat i, UInt8.ofNat (i / 256), 128] ++ (List.replicate 59 0 ++ [24]) := by unfold mblk; rw [pad3]; rfl
  have key : ∀ q, 4 ≤ q → (mblk tag i).getD q 0 = (List.replicate 59 (0 : UInt8) ++ [24]).getD (q - 4) 0 := by
    intro q h1
    rw [e, List.getD_eq_getElem?_getD, List.getElem?_append_right (by simpa using h1), List.getD_eq_getElem?_getD]
    rfl
  unfold word
  rw [key _ (by omega), key _ (by omega), key _ (by omega), key _ (by omega)]
  decide +kernel
theorem first_lanes (k tag : Nat) (ht : tag < 256) (hk : k ≤ 16) : Lan (2 ^ k) (firstL tag (pack (2 ^ k) fun _ => 4294967295) (pack (2 ^ k) fun _ => 1) (pack (2 ^ k) fun i => i)) (first tag) := by
  have hle : 2 ^ k ≤ 65536 := Nat.pow_le_pow_right (by decide) hk
  have io : Lan (2 ^ k) (pack (2 ^ k) fun i => i) (fun i => i) := ⟨rfl, fun i hi => by omega⟩
  have c255 := (Lan.const (2 ^ k) 255 (by decide))
  have h1 := io.and c255
  have h2 := io.shr 8 (by decide)
  refine ⟨?_, fun i hi => by unfold first; omega⟩
  unfold firstL
  rw [h1.eq, h2.eq, pack_mul, pack_mul, pack_mul, pack_mul, pack_add, pack_add, pack_add]
  refine pack_congr _ fun i _ => ?_
  unfold first
  rw [show i &&& 255 = i % 256 from Nat.and_two_pow_sub_one_eq_mod i 8, Nat.mul_one]

def keysL (k tag : Nat) : Nat :=
  force (onesT k) fun o => force (msk o) fun M => force (firstL tag M o (iotaT k)) fun w0 =>
    runL M o shaK w0 (0 * o) (0 * o) (0 * o) (0 * o) (0 * o) (0 * o) (0 * o) (0 * o) (0 * o) (0 * o) (0 * o) (0 * o) (0 * o) (0 * o) (24 * o)
      (0x6a09e667 * o) (0xbb67ae85 * o) (0x3c6ef372 * o) (0xa54ff53a * o) (0x510e527f * o) (0x9b05688c * o) (0x1f83d9ab * o) (0x5be0cd19 * o)
theorem keysL_eq (k tag : Nat) (ht : tag < 256) (hk : k ≤ 16) : keysL k tag = pack (2 ^ k) (mkey tag) := by
  have hle : 2 ^ k ≤ 65536 := Nat.pow_le_pow_right (by decide) hk
  unfold keysL
  rw [force_eq, force_eq, force_eq, ones_eq, msk_eq, iota_eq]
  have hz : ∀ t, 0 < t → t < 15 → Lan (2 ^ k) (0 * pack (2 ^ k) fun _ => 1) (fun i => wrd (mblk tag i) t) := fun t h1 h2 => (Lan.const _ 0 (by decide)).congr fun i _ => (word_mid tag i t h1 h2).symm
  exact run_lanes (2 ^ k) (mblk tag) (S8.of shaI) shaK 0 _ _ _ _ _ _ _ _ _ _ _ _ _ _ _ _ _ _ _ _ _ _ _ _ rfl rfl ((first_lanes k tag ht hk).congr fun i hi => (word_first tag i ht (by omega)).symm)
    (hz 1 (by decide) (by decide)) (hz 2 (by decide) (by decide)) (hz 3 (by decide) (by decide)) (hz 4 (by decide) (by decide)) (hz 5 (by decide) (by decide)) (hz 6 (by decide) (by decide)) (hz 7 (by decide) (by decide)) (hz 8 (by decide) (by decide)) (hz 9 (by decide) (by decide)) (hz 10 (by decide) (by decide)) (hz 11 (by decide) (by decide)) (hz 12 (by decide) (by decide)) (hz 13 (by decide) (by decide)) (hz 14 (by decide) (by decide))
    ((Lan.const _ 24 (by decide)).congr fun i _ => (word_last tag i).symm)
    (Lan.const _ _ (by decide)) (Lan.const _ _ (by decide)) (Lan.const _ _ (by decide)) (Lan.const _ _ (by decide)) (Lan.const _ _ (by decide)) (Lan.const _ _ (by decide)) (Lan.const _ _ (by decide)) (Lan.const _ _ (by decide))

def fewCheck : Bool := force (keysL 16 2) fun Y => force (prodT 16 Y) fun R => force (keysL 16 1) fun X => chkT R X
set_option maxRecDepth 100000 in
theorem fewCheck_true : fewCheck = true := by decide +kernel

theorem few_sha {i j : Nat} (hi : i < 65536) (hj : j < 65536) : sha (msg 1 i) ≠ sha (msg 2 j) := by
  intro h
  have hc := fewCheck_true
  unfold fewCheck at hc
  rw [force_eq, force_eq, force_eq, keysL_eq 16 2 (by decide) (by decide), keysL_eq 16 1 (by decide) (by decide)] at hc
  exact chkT_ne (f := mkey 1) (g := mkey 2) (fun i _ => mkey_lt 1 i) (fun i _ => mkey_lt 2 i) hc hi hj (mkey_of_sha 1 2 i j h)
end Go.Proofs.YtnhagokkamobaaaDoor
