/- Plain laws of a reader: what it has taken is the encoding of what it has read, and an encoding is read to what was encoded. -/
import Derived.Test.YtlepfnihpdhcaaaGreatDoorRd6
namespace Go.Proofs.YtlepfnihpdhcaaaGreatDoor

theorem num_pos (n : Nat) : 0 < (num n).length := by
  by_cases h : n < 128
  · rw [num_small n h]; simp
  · rw [num_big n h]; simp

theorem accN_num (n : Nat) : ∀ l : List UInt8, accN (num n ++ l) (num n).length = n := by
  induction n using Nat.strongRecOn with
  | _ n ih =>
    intro l
    by_cases hn : n < 128
    · rw [num_small n hn]
      simp [accN]
      omega
    · rw [num_big n hn]
      have h := ih (n / 128) (Nat.div_lt_self (by omega) (by omega)) l
      rw [List.length_cons, List.cons_append, accN, h, u8_toNat _ (by omega)]
      omega

theorem zig_unzig (n : Nat) : zig (unzig n) = n := by
  unfold zig unzig
  by_cases h : n % 2 = 1
  · rw [if_pos h, if_pos (by omega)]; omega
  · rw [if_neg h, if_neg (by omega)]; omega

theorem ahead_pre : ∀ (l : List UInt8) (j : Nat) (b : UInt8), j < ahead l → l[j]? = some b → 128 ≤ b.toNat
  | [], j, b, h, _ => by simp [ahead] at h
  | c :: l, j, b, h, hb => by
    rw [ahead] at h
    split at h
    · omega
    · cases j with
      | zero =>
        simp at hb
        subst hb
        omega
      | succ j => exact ahead_pre l j b (by omega) (by simpa using hb)

theorem ahead_at : ∀ (l : List UInt8) (b : UInt8), l[ahead l]? = some b → b.toNat < 128
  | [], b, h => by simp at h
  | c :: l, b, h => by
    rw [ahead] at h
    split at h
    · rename_i hc
      simp at h
      subst h
      exact hc
    · exact ahead_at l b (by simpa using h)

theorem rdNum_took (D : List UInt8) (off n m : Nat) (h : rdNum D off = some (n, m)) : D.drop off = num n ++ D.drop m := by
  unfold rdNum at h
  split at h
  · cases h
  · rename_i b hb
    split at h
    · rename_i hc
      simp only [Option.some.injEq, Prod.mk.injEq] at h
      obtain ⟨rfl, rfl⟩ := h
      have := (num_of (ahead (D.drop off)) (D.drop off) (fun j c hj hcj => ahead_pre _ j c hj hcj) ⟨b, hb, ahead_at _ b hb, hc.2.1⟩).1
      rw [List.drop_drop] at this
      rw [show off + ahead (D.drop off) + 1 = off + (ahead (D.drop off) + 1) by omega]
      exact this
    · cases h

theorem rdNum_num (D : List UInt8) (off n : Nat) (rest : List UInt8) (h : D.drop off = num n ++ rest) (hn : U64 n) : rdNum D off = some (n, off + (num n).length) := by
  have hp := num_pos n
  have hl := num_length n hn
  obtain ⟨k, hk⟩ : ∃ k, (num n).length = k + 1 := ⟨(num n).length - 1, by omega⟩
  have hget : ∀ j, j < k + 1 → D[off + j]? = (num n)[j]? := by
    intro j hj
    rw [← List.getElem?_drop, h, List.getElem?_append_left (by omega)]
  have hx := List.getElem?_eq_getElem (l := num n) (i := k) (by omega)
  generalize (num n)[k] = x at hx
  have hx' : D[off + k]? = some x := by rw [hget k (by omega)]; exact hx
  obtain ⟨_, g2⟩ := num_get n k x hx
  obtain ⟨g3, g4⟩ := g2 (by omega)
  rw [rdNum_at D off k x (fun j b hj hb => (num_get n j b (by rw [← hget j (by omega)]; exact hb)).1 (by omega)) hx' g3, if_pos, hk]
  · have ea := accN_num n rest
    rw [hk] at ea
    rw [h, ea]
    rfl
  · refine ⟨by omega, fun hh => g4 hh.1 hh.2, fun hh => ?_⟩
    have ea := accN_num n rest
    rw [hk, ← h] at ea
    have es := accN_succ k (D.drop off) x (by rw [List.getElem?_drop]; exact hx')
    rw [ea, hh.1] at es
    unfold U64 at hn
    have : x.toNat % 128 = x.toNat := Nat.mod_eq_of_lt g3
    rw [this] at es
    have h9 : (128 : Nat) ^ 9 = 9223372036854775808 := by decide
    rw [h9] at es
    have := hh.2
    omega

/-- The reader has taken the bytes bs. -/
structure Took (r r' : Rd) (bs : List UInt8) : Prop where
  err : r.err = 0
  D : r'.D = r.D
  bytes : r.D.drop r.off = bs ++ r.D.drop r'.off

theorem Took.trans {a b c : Rd} {x y : List UInt8} (h : Took a b x) (k : Took b c y) : Took a c (x ++ y) :=
  ⟨h.err, k.D.trans h.D, by rw [h.bytes, List.append_assoc]; congr 1; have := k.bytes; rwa [h.D] at this⟩

theorem took_uint (r : Rd) (h : r.uint.2.err = 0) : Took r r.uint.2 (num r.uint.1) := by
  unfold Rd.uint at h ⊢
  by_cases he : r.err = 0
  · rw [if_pos he] at h ⊢
    cases hd : rdNum r.D r.off with
    | none => rw [hd] at h; cases h
    | some p => exact ⟨he, rfl, rdNum_took _ _ _ _ hd⟩
  · rw [if_neg he] at h
    exact absurd h he

theorem took_int (r : Rd) (h : r.int.2.err = 0) : Took r r.int.2 (num (zig r.int.1)) := by
  have := took_uint r h
  have e : zig r.int.1 = r.uint.1 := zig_unzig _
  rw [e]
  exact this

/-- The reader stands ahead of these bytes. -/
structure Ahead (r : Rd) (bs : List UInt8) : Prop where
  err : r.err = 0
  bytes : r.D.drop r.off = bs

theorem Ahead.uint {r : Rd} {n : Nat} {rest : List UInt8} (h : Ahead r (num n ++ rest)) (hn : U64 n) : r.uint.1 = n ∧ Ahead r.uint.2 rest := by
  have hd := rdNum_num r.D r.off n rest h.bytes hn
  unfold Rd.uint
  rw [if_pos h.err, hd]
  refine ⟨rfl, h.err, ?_⟩
  show r.D.drop (r.off + (num n).length) = rest
  rw [← List.drop_drop, h.bytes, List.drop_left]

theorem Ahead.int {r : Rd} {v : Int} {rest : List UInt8} (h : Ahead r (num (zig v) ++ rest)) (hv : Fit64 v) : r.int.1 = v ∧ Ahead r.int.2 rest := by
  obtain ⟨h1, h2⟩ := h.uint (zig_lt v hv.1 hv.2)
  exact ⟨by show unzig r.uint.1 = v; rw [h1, unzig_zig], h2⟩

theorem took_sum (r : Rd) (h : r.sum.2.err = 0) : Took r r.sum.2 r.sum.1 ∧ r.sum.1.length = 32 := by
  unfold Rd.sum at h ⊢
  by_cases he : r.err = 0
  · rw [if_pos he] at h ⊢
    by_cases hf : r.off + 32 ≤ r.D.length
    · rw [if_pos hf]
      refine ⟨⟨he, rfl, ?_⟩, by simp; omega⟩
      show r.D.drop r.off = (r.D.drop r.off).take 32 ++ r.D.drop (r.off + 32)
      rw [← List.drop_drop, List.take_append_drop]
    · rw [if_neg hf] at h
      cases h
  · rw [if_neg he] at h
    exact absurd h he
theorem Ahead.sum {r : Rd} {k rest : List UInt8} (h : Ahead r (k ++ rest)) (hk : k.length = 32) : r.sum.1 = k ∧ Ahead r.sum.2 rest := by
  have hl := congrArg List.length h.bytes
  rw [List.length_drop, List.length_append] at hl
  unfold Rd.sum
  rw [if_pos h.err, if_pos (by omega)]
  refine ⟨?_, h.err, ?_⟩
  · show (r.D.drop r.off).take 32 = k
    rw [h.bytes, ← hk, List.take_left]
  · show r.D.drop (r.off + 32) = rest
    rw [← List.drop_drop, h.bytes, ← hk, List.drop_left]
theorem Rd.Ok.uint' {r : Rd} (h : r.Ok) : r.uint.2.Ok := h.uint fun n m hd => (rdNum_le _ _ n m hd).2.1
theorem Rd.Ok.int {r : Rd} (h : r.Ok) : r.int.2.Ok := h.uint'
theorem Rd.int_fit (r : Rd) : Fit64 r.int.1 := unzig_fit _ r.uint_u64
theorem Rd.Ok.sum {r : Rd} (h : r.Ok) : r.sum.2.Ok := by
  unfold Rd.sum
  by_cases he : r.err = 0
  · rw [if_pos he]
    by_cases hf : r.off + 32 ≤ r.D.length
    · rw [if_pos hf]; exact ⟨hf, h.len⟩
    · rw [if_neg hf]; exact ⟨h.off, h.len⟩
  · rw [if_neg he]; exact h
theorem Rd.sum_len (r : Rd) : r.sum.1.length ≤ 32 := by
  unfold Rd.sum
  split
  · split
    · simp; omega
    · simp
  · simp
theorem Rd.uint_D (r : Rd) : r.uint.2.D = r.D := by
  unfold Rd.uint
  split
  · split <;> rfl
  · rfl
theorem Rd.sum_D (r : Rd) : r.sum.2.D = r.D := by
  unfold Rd.sum
  split
  · split <;> rfl
  · rfl
/-- All bytes were taken. -/
theorem Took.end_ {r r' : Rd} {bs : List UInt8} (h : Took r r' bs) (he : r'.end_ = 0) : r.D.drop r.off = bs := by
  unfold Rd.end_ at he
  have hoff : r'.D.length ≤ r'.off := by
    split at he
    · rename_i h1; exact absurd he h1
    · split at he
      · cases he
      · omega
  rw [h.bytes, List.drop_eq_nil_of_le (by rw [← h.D]; exact hoff), List.append_nil]
theorem Rd.end_err {r : Rd} (h : r.end_ = 0) : r.err = 0 := by
  unfold Rd.end_ at h
  split at h
  · exact h
  · rename_i h1; omega
theorem Ahead.end_ {r : Rd} (h : Ahead r []) : r.end_ = 0 := by
  have hl := congrArg List.length h.bytes
  rw [List.length_drop, List.length_nil] at hl
  unfold Rd.end_
  rw [if_neg (by rw [h.err]; simp), if_neg (by omega)]
end Go.Proofs.YtlepfnihpdhcaaaGreatDoor
