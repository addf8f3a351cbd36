/- SHA-256 in plain Lean: bounds, and how the walk's arithmetic on 32-bit words reads. -/
import Derived.Test.YtnhagokkamobaaaDoorShaPlain
namespace Go.Proofs.YtnhagokkamobaaaDoor

/-- A word. -/
def W32 (n : Nat) : Prop := n < 4294967296

theorem W32.add (a b : Nat) : W32 (add32 a b) := Nat.mod_lt _ (by decide)
theorem W32.xor {a b : Nat} (ha : W32 a) (hb : W32 b) : W32 (a ^^^ b) := Nat.xor_lt_two_pow (n := 32) ha hb
theorem W32.or {a b : Nat} (ha : W32 a) (hb : W32 b) : W32 (a ||| b) := Nat.or_lt_two_pow (n := 32) ha hb
theorem W32.and {a b : Nat} (hb : W32 b) : W32 (a &&& b) := Nat.lt_of_le_of_lt Nat.and_le_right hb
theorem W32.div {a : Nat} (ha : W32 a) (k : Nat) : W32 (a / k) := Nat.lt_of_le_of_lt (Nat.div_le_self _ _) ha
theorem W32.not (a : Nat) : W32 (4294967295 - a) := by unfold W32; omega
theorem W32.rotr {a : Nat} (ha : W32 a) (n : Nat) : W32 (rotr n a) := (ha.div _).or (Nat.mod_lt _ (by decide))
theorem W32.sig0 {a : Nat} (ha : W32 a) : W32 (sig0 a) := ((ha.rotr 7).xor (ha.rotr 18)).xor (ha.div _)
theorem W32.sig1 {a : Nat} (ha : W32 a) : W32 (sig1 a) := ((ha.rotr 17).xor (ha.rotr 19)).xor (ha.div _)
theorem W32.bsig0 {a : Nat} (ha : W32 a) : W32 (bsig0 a) := ((ha.rotr 2).xor (ha.rotr 13)).xor (ha.rotr 22)
theorem W32.bsig1 {a : Nat} (ha : W32 a) : W32 (bsig1 a) := ((ha.rotr 6).xor (ha.rotr 11)).xor (ha.rotr 25)
theorem W32.ch {e f g : Nat} (hf : W32 f) (hg : W32 g) : W32 (chF e f g) := (W32.and hf).xor (W32.and hg)
theorem W32.maj {a b c : Nat} (hb : W32 b) (hc : W32 c) : W32 (majF a b c) := ((W32.and hb).xor (W32.and hc)).xor (W32.and hc)

theorem byte_w32 (b : UInt8) (k : Nat) (hk : k ≤ 24) : W32 (b.toNat * 2 ^ k) := by
  have h1 := UInt8.toNat_lt b
  have h2 : 2 ^ k ≤ 2 ^ 24 := Nat.pow_le_pow_right (by decide) hk
  have h3 : b.toNat * 2 ^ k ≤ 255 * 2 ^ 24 := Nat.mul_le_mul (by omega) h2
  unfold W32
  omega

theorem W32.word (b : List UInt8) (t : Nat) : W32 (word b t) := by
  have h0 := UInt8.toNat_lt (b.getD (4 * t + 3) 0)
  exact (((byte_w32 _ 24 (by omega)).or (byte_w32 _ 16 (by omega))).or (byte_w32 _ 8 (by omega))).or (by unfold W32; omega)

theorem W32.sched (b : List UInt8) : ∀ t, ∀ x ∈ schedTo b t, W32 x
  | 0, x, hx => by cases hx
  | t + 1, x, hx => by
    simp only [schedTo] at hx
    rcases List.mem_append.1 hx with h | h
    · exact W32.sched b t x h
    · simp only [List.mem_cons, List.not_mem_nil, or_false] at h
      rw [h]
      split
      · exact W32.word b t
      · exact W32.add _ _

theorem sched_len (b : List UInt8) : ∀ t, (schedTo b t).length = t
  | 0 => rfl
  | t + 1 => by simp only [schedTo, List.length_append, List.length_cons, List.length_nil, sched_len b t]

theorem sched_get (b : List UInt8) : ∀ (n t : Nat), t < n → (schedTo b n)[t]? = some (if t < 16 then word b t else nextW (schedTo b t) t)
  | 0, t, h => by omega
  | n + 1, t, h => by
    simp only [schedTo]
    rcases (by omega : t < n ∨ t = n) with h' | rfl
    · rw [List.getElem?_append_left (by rw [sched_len]; exact h'), sched_get b n t h']
    · rw [List.getElem?_append_right (by rw [sched_len]; exact Nat.le_refl _), sched_len]
      simp

theorem getD_w32 {l : List Nat} (h : ∀ x ∈ l, W32 x) (i : Nat) : W32 (l.getD i 0) := by
  rw [List.getD_eq_getElem?_getD]
  cases hg : l[i]? with
  | none => show (0 : Nat) < 4294967296; decide
  | some x => exact h x (List.mem_of_getElem? hg)

theorem shaK_w32 : ∀ x ∈ shaK, W32 x := by
  have : (shaK.all fun x => decide (x < 4294967296)) = true := by decide +kernel
  intro x hx
  have := List.all_eq_true.1 this x hx
  simpa [W32] using this
theorem shaI_w32 : ∀ x ∈ shaI, W32 x := by
  have : (shaI.all fun x => decide (x < 4294967296)) = true := by decide +kernel
  intro x hx
  have := List.all_eq_true.1 this x hx
  simpa [W32] using this

structure S8.Ok (s : S8) : Prop where
  a : W32 s.a
  b : W32 s.b
  c : W32 s.c
  d : W32 s.d
  e : W32 s.e
  f : W32 s.f
  g : W32 s.g
  h : W32 s.h

theorem S8.Ok.rnd {s : S8} (h : s.Ok) (k w : Nat) : (s.rnd k w).Ok := ⟨W32.add _ _, h.a, h.b, h.c, W32.add _ _, h.e, h.f, h.g⟩
theorem S8.Ok.rounds {s : S8} (h : s.Ok) (W : List Nat) : ∀ t, (rounds W s t).Ok
  | 0 => h
  | t + 1 => (S8.Ok.rounds h W t).rnd _ _
theorem S8.ok_of {l : List Nat} (h : ∀ x ∈ l, W32 x) : (S8.of l).Ok := ⟨getD_w32 h 0, getD_w32 h 1, getD_w32 h 2, getD_w32 h 3, getD_w32 h 4, getD_w32 h 5, getD_w32 h 6, getD_w32 h 7⟩

theorem compress_w32 (H : List Nat) (b : List UInt8) : ∀ x ∈ compress H b, W32 x := by
  intro x hx
  unfold compress at hx
  obtain ⟨i, hi⟩ := List.mem_iff_getElem?.1 hx
  rw [List.getElem?_zipWith] at hi
  split at hi
  · simp only [Option.some.injEq] at hi
    rw [← hi]
    exact W32.add _ _
  · cases hi
theorem compress_len (H : List Nat) (b : List UInt8) (h : H.length = 8) : (compress H b).length = 8 := by
  unfold compress
  rw [List.length_zipWith, h]
  rfl

theorem hashN_ok : ∀ (n : Nat) (H : List Nat) (b : List UInt8), H.length = 8 → (∀ x ∈ H, W32 x) → (hashN n H b).length = 8 ∧ ∀ x ∈ hashN n H b, W32 x
  | 0, _, _, h1, h2 => ⟨h1, h2⟩
  | n + 1, H, _, h1, _ => hashN_ok n _ _ (compress_len H _ h1) (compress_w32 H _)

theorem hashN_succ : ∀ (n : Nat) (H : List Nat) (b : List UInt8), hashN (n + 1) H b = compress (hashN n H b) ((b.drop (64 * n)).take 64)
  | 0, H, b => by simp [hashN]
  | n + 1, H, b => by
    have ih := hashN_succ n (compress H (b.take 64)) (b.drop 64)
    rw [hashN, ih, List.drop_drop]
    rw [show 64 + 64 * n = 64 * (n + 1) by omega]
    rfl

/-- Only the first blocks count. -/
theorem hashN_take : ∀ (n : Nat) (H : List Nat) (a b : List UInt8), a.length = 64 * n → hashN n H (a ++ b) = hashN n H a
  | 0, _, _, _, _ => rfl
  | n + 1, H, a, b, h => by
    rw [hashN, hashN, List.take_append_of_le_length (by omega), List.drop_append_of_le_length (by omega)]
    exact hashN_take n _ _ _ (by rw [List.length_drop]; omega)

/-! How the walk spells it. -/
theorem u32_add (a b : Nat) : IntKind.u32.wrap ((a : Int) + (b : Int)) = ((add32 a b : Nat) : Int) := by
  rw [IntKind.wrap_u32']
  unfold add32
  omega

end Go.Proofs.YtnhagokkamobaaaDoor
