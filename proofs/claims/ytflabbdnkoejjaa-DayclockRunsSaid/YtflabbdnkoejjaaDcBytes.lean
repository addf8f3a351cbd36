/- Plain laws of the bytes of a clock: what a reader has taken is the encoding of what it has read, and an encoding is read to what was encoded. -/
import Derived.Test.YtflabbdnkoejjaaDcDecLaw
import Derived.Test.YtflabbdnkoejjaaRefDc5
import Derived.Test.YtflabbdnkoejjaaRefPlain
namespace Go.Proofs.Ytflabbdnkoejjaa

theorem zig_unzig (n : Nat) : zig (unzig n) = n := by
  unfold zig unzig
  by_cases h : n % 2 = 1
  · rw [if_pos h, if_pos (by omega)]; omega
  · rw [if_neg h, if_neg (by omega)]; omega

theorem ahead_pre : ∀ (l : List UInt8) (j : Nat) (b : UInt8), j < ahead l → l[j]? = some b → 128 ≤ b.toNat
  | [], j, b, h, _ => by simp [ahead] at h
  | c :: l, j, b, h, hb => by
    rw [ahead] at h
    split at h
    · omega
    · cases j with
      | zero =>
        simp at hb
        subst hb
        omega
      | succ j => exact ahead_pre l j b (by omega) (by simpa using hb)

theorem ahead_at : ∀ (l : List UInt8) (b : UInt8), l[ahead l]? = some b → b.toNat < 128
  | [], b, h => by simp at h
  | c :: l, b, h => by
    rw [ahead] at h
    split at h
    · rename_i hc
      simp at h
      subst h
      exact hc
    · exact ahead_at l b (by simpa using h)

theorem rdNum_took (D : List UInt8) (off n m : Nat) (h : rdNum D off = some (n, m)) : D.drop off = num n ++ D.drop m := by
  unfold rdNum at h
  split at h
  · cases h
  · rename_i b hb
    split at h
    · rename_i hc
      simp only [Option.some.injEq, Prod.mk.injEq] at h
      obtain ⟨rfl, rfl⟩ := h
      have := (num_of (ahead (D.drop off)) (D.drop off) (fun j c hj hcj => ahead_pre _ j c hj hcj) ⟨b, hb, ahead_at _ b hb, hc.2.1⟩).1
      rw [List.drop_drop] at this
      rw [show off + ahead (D.drop off) + 1 = off + (ahead (D.drop off) + 1) by omega]
      exact this
    · cases h

theorem rdNum_num (D : List UInt8) (off n : Nat) (rest : List UInt8) (h : D.drop off = num n ++ rest) (hn : U64 n) : rdNum D off = some (n, off + (num n).length) := by
  have hp := num_pos n
  have hl := num_length n hn
  obtain ⟨k, hk⟩ : ∃ k, (num n).length = k + 1 := ⟨(num n).length - 1, by omega⟩
  have hget : ∀ j, j < k + 1 → D[off + j]? = (num n)[j]? := by
    intro j hj
    rw [← List.getElem?_drop, h, List.getElem?_append_left (by omega)]
  have hx := List.getElem?_eq_getElem (l := num n) (i := k) (by omega)
  generalize (num n)[k] = x at hx
  have hx' : D[off + k]? = some x := by rw [hget k (by omega)]; exact hx
  obtain ⟨_, g2⟩ := num_get n k x hx
  obtain ⟨g3, g4⟩ := g2 (by omega)
  rw [rdNum_at D off k x (fun j b hj hb => (num_get n j b (by rw [← hget j (by omega)]; exact hb)).1 (by omega)) hx' g3, if_pos, hk]
  · have ea := accN_num n rest
    rw [hk] at ea
    rw [h, ea]
    rfl
  · refine ⟨by omega, fun hh => g4 hh.1 hh.2, fun hh => ?_⟩
    have ea := accN_num n rest
    rw [hk, ← h] at ea
    have es := accN_succ k (D.drop off) x (by rw [List.getElem?_drop]; exact hx')
    rw [ea, hh.1] at es
    unfold U64 at hn
    have : x.toNat % 128 = x.toNat := Nat.mod_eq_of_lt g3
    rw [this] at es
    have h9 : (128 : Nat) ^ 9 = 9223372036854775808 := by decide
    rw [h9] at es
    have := hh.2
    omega

/-- The reader has taken the bytes bs. -/
structure Took (r r' : Rd) (bs : List UInt8) : Prop where
  err : r.err = 0
  D : r'.D = r.D
  bytes : r.D.drop r.off = bs ++ r.D.drop r'.off

theorem Took.trans {a b c : Rd} {x y : List UInt8} (h : Took a b x) (k : Took b c y) : Took a c (x ++ y) :=
  ⟨h.err, k.D.trans h.D, by rw [h.bytes, List.append_assoc]; congr 1; have := k.bytes; rwa [h.D] at this⟩

theorem took_uint (r : Rd) (h : r.uint.2.err = 0) : Took r r.uint.2 (num r.uint.1) := by
  unfold Rd.uint at h ⊢
  by_cases he : r.err = 0
  · rw [if_pos he] at h ⊢
    cases hd : rdNum r.D r.off with
    | none => rw [hd] at h; cases h
    | some p => exact ⟨he, rfl, rdNum_took _ _ _ _ hd⟩
  · rw [if_neg he] at h
    exact absurd h he

theorem took_int (r : Rd) (h : r.int.2.err = 0) : Took r r.int.2 (num (zig r.int.1)) := by
  have := took_uint r h
  have e : zig r.int.1 = r.uint.1 := zig_unzig _
  rw [e]
  exact this

theorem num_b01 (b : Bool) : num (b01 b) = [if b then 1 else 0] := by
  cases b
  · exact num_small 0 (by omega)
  · exact num_small 1 (by omega)

theorem took_bool (r : Rd) (h : r.bool.2.err = 0) : Took r r.bool.2 (num (b01 r.bool.1)) := by
  unfold Rd.bool at h ⊢
  by_cases he : r.err = 0
  · rw [if_pos he] at h ⊢
    cases hd : rdBool r.D r.off with
    | none => rw [hd] at h; cases h
    | some p =>
      refine ⟨he, rfl, ?_⟩
      unfold rdBool at hd
      split at hd
      · rename_i b hb
        split at hd
        · rename_i hb1
          simp only [Option.some.injEq] at hd
          rw [← hd]
          simp only [Rd.done]
          obtain ⟨hlt, hg⟩ := List.getElem?_eq_some_iff.1 hb
          rw [List.drop_eq_getElem_cons hlt, hg, num_b01]
          have hbb : b = if (b.toNat == 1) = true then 1 else 0 := by
            have : b.toNat = 0 ∨ b.toNat = 1 := by omega
            rcases this with h0 | h0
            · have : b = 0 := UInt8.toNat_inj.1 h0
              subst this; rfl
            · have : b = 1 := UInt8.toNat_inj.1 h0
              subst this; rfl
          rw [← hbb]
          rfl
        · cases hd
      · cases hd
  · rw [if_neg he] at h
    exact absurd h he

theorem took_count (r : Rd) (most : Int) (h : (r.count most).2.err = 0) : Took r (r.count most).2 (num (r.count most).1) := by
  unfold Rd.count at h ⊢
  by_cases he : r.err = 0
  · rw [if_pos he] at h ⊢
    cases hd : rdNum r.D r.off with
    | none => rw [hd] at h; cases h
    | some p =>
      rw [hd] at h
      simp only at h ⊢
      split at h
      · cases h
      · rename_i hm
        rw [if_neg hm]
        exact ⟨he, rfl, rdNum_took _ _ _ _ hd⟩
  · rw [if_neg he] at h
    exact absurd h he

theorem ints8_append (a b : List Int) : ints8 (a ++ b) = ints8 a ++ ints8 b := by simp [ints8]

theorem took_five (r : Rd) : ∀ k, (dec5 r (k + 1)).1.err = 0 → Took r (dec5 r (k + 1)).1 (ints8 ((List.range (k + 1)).map fun i => (dec5 r i).1.int.1))
  | 0, h => by
    have := took_int r h
    have e : ints8 ((List.range (0 + 1)).map fun i => (dec5 r i).1.int.1) = num (zig r.int.1) := by simp [ints8, dec5]
    rw [e]
    exact this
  | k + 1, h => by
    have h1 := took_int (dec5 r (k + 1)).1 h
    have h0 := took_five r k h1.err
    rw [List.range_succ, List.map_append, ints8_append]
    have e : ints8 ([k + 1].map fun i => (dec5 r i).1.int.1) = num (zig (dec5 r (k + 1)).1.int.1) := by simp [ints8]
    rw [e]
    exact h0.trans h1

def told8 (l : List (Int × Int)) : List UInt8 := l.flatMap fun p => num (zig p.1) ++ num (zig p.2)
theorem told8_append (a b : List (Int × Int)) : told8 (a ++ b) = told8 a ++ told8 b := by simp [told8]

def RClk.head8 (c : RClk) : List UInt8 := ints8 [c.first, c.day, c.leap, c.quorum, c.own] ++ num (b01 c.has) ++ (if c.has then num (zig c.ref) else [])
def RClk.enc (c : RClk) : List UInt8 := c.head8 ++ num c.told.length ++ told8 c.told

theorem took_head (r : Rd) (h : (decHead r).1.err = 0) : Took r (decHead r).1 (rhead r).head8 := by
  have e1 : (rhead r).head8 = ints8 ((List.range 5).map fun i => (dec5 r i).1.int.1) ++ num (b01 (dec5 r 5).1.bool.1) ++ (if (dec5 r 5).1.bool.1 then num (zig (if (dec5 r 5).1.bool.1 then (dec5 r 5).1.bool.2.int.1 else 0)) else []) := rfl
  rw [e1]
  unfold decHead at h ⊢
  simp only at h ⊢
  split at h
  · rename_i hb
    rw [if_pos hb, if_pos hb, if_pos hb]
    have k3 := took_int _ h
    have k2 := took_bool _ k3.err
    have k1 := took_five r 4 k2.err
    rw [List.append_assoc]
    exact k1.trans (k2.trans k3)
  · rename_i hb
    rw [if_neg hb, if_neg hb]
    have k2 := took_bool _ h
    have k1 := took_five r 4 k2.err
    rw [List.append_nil]
    exact k1.trans k2

theorem took_steps (r : Rd) : ∀ k, r.err = 0 ∨ 0 < k → (rsteps (r, []) k).1.err = 0 → Took r (rsteps (r, []) k).1 (told8 (rsteps (r, []) k).2)
  | 0, h0, h => ⟨h, rfl, by simp [rsteps, told8]⟩
  | k + 1, _, h => by
    have k2 := took_int _ h
    have k1 := took_int _ k2.err
    have k0 : Took r (rsteps (r, []) k).1 (told8 (rsteps (r, []) k).2) := by
      cases k with
      | zero => exact ⟨k1.err, rfl, by simp [rsteps, told8]⟩
      | succ k => exact took_steps r (k + 1) (.inr (by omega)) k1.err
    have e : (rsteps (r, []) (k + 1)).2 = (rsteps (r, []) k).2 ++ [((rsteps (r, []) k).1.int.1, (rsteps (r, []) k).1.int.2.int.1)] := rfl
    rw [e, told8_append]
    have e2 : ∀ a b : Int, told8 [(a, b)] = num (zig a) ++ num (zig b) := by intro a b; simp [told8]
    rw [e2]
    exact k0.trans (k1.trans k2)

theorem Rd.end_zero {r : Rd} (h : r.end_ = 0) : r.err = 0 ∧ r.D.length ≤ r.off := by
  unfold Rd.end_ at h
  split at h
  · rename_i hn; exact absurd h hn
  · rename_i hn
    split at h
    · cases h
    · exact ⟨by omega, by omega⟩

/-- What has been decoded, encoded again, is the bytes. -/
theorem dec_bytes (D : List UInt8) (h : (rdec D).1.end_ = 0) : (rclk D).enc = D := by
  obtain ⟨he, ho⟩ := Rd.end_zero h
  have hlen : (rdec D).2.length = ((decHead ⟨D, 0, 0, 0⟩).1.count 12).1 := rsteps_len _ rfl _
  have key : Took ⟨D, 0, 0, 0⟩ (rdec D).1 ((rhead ⟨D, 0, 0, 0⟩).head8 ++ (num ((decHead ⟨D, 0, 0, 0⟩).1.count 12).1 ++ told8 (rdec D).2)) := by
    unfold rdec at he ⊢
    have hcerr : ((decHead ⟨D, 0, 0, 0⟩).1.count 12).2.err = 0 := by
      cases hn : ((decHead ⟨D, 0, 0, 0⟩).1.count 12).1 with
      | zero => rw [hn] at he; exact he
      | succ k => rw [hn] at he; exact (took_steps _ (k + 1) (.inr (by omega)) he).err
    have k3 := took_steps ((decHead ⟨D, 0, 0, 0⟩).1.count 12).2 _ (.inl hcerr) he
    have k2 := took_count _ 12 hcerr
    have k1 := took_head _ k2.err
    exact k1.trans (k2.trans k3)
  have hb := key.bytes
  have hD : (rdec D).1.D = D := key.D
  rw [hD] at ho
  simp only [List.drop_zero] at hb
  rw [List.drop_of_length_le ho, List.append_nil] at hb
  show (rhead ⟨D, 0, 0, 0⟩).head8 ++ num (rdec D).2.length ++ told8 (rdec D).2 = D
  rw [hlen, List.append_assoc]
  exact hb.symm

theorem Clk.enc_toR (c : Clk) : c.enc = c.toR.enc := by
  have h1 : ∀ l : List (Nat × Int), pairs8 l = told8 (castP l) := by
    intro l
    unfold pairs8 told8 castP
    rw [List.flatMap_map]
  have h2 : ∀ l : List (Nat × Int), l.length = (castP l).length := by intro l; simp [castP]
  unfold Clk.enc RClk.enc RClk.head8
  rw [h1, h2]
  rfl

theorem encV_append (a b : List WV) : encV (a ++ b) = encV a ++ encV b := by simp [encV]

theorem RClk.encV_vals (c : RClk) : encV c.vals = c.enc := by
  unfold RClk.vals RClk.enc RClk.head8
  rw [encV_append, encV_append, encV_append]
  have e1 : encV c.head = ints8 [c.first, c.day, c.leap, c.quorum, c.own] ++ num (b01 c.has) := by
    simp [encV, RClk.head, ints8, wvI, WV.bytes]
  have e2 : encV (if c.has then [wvI c.ref] else []) = if c.has then num (zig c.ref) else [] := by
    cases c.has <;> simp [encV, wvI, WV.bytes]
  have e3 : encV [⟨7, (c.told.length : Int), false⟩] = num c.told.length := by simp [encV, WV.bytes]
  have e4 : encV (toldV c.told) = told8 c.told := by
    unfold encV toldV told8
    rw [List.flatMap_assoc]
    simp [wvI, WV.bytes]
  rw [e1, e2, e3, e4]

/-- The reader stands ahead of these bytes. -/
structure Ahead (r : Rd) (bs : List UInt8) : Prop where
  err : r.err = 0
  bytes : r.D.drop r.off = bs

theorem Ahead.uint {r : Rd} {n : Nat} {rest : List UInt8} (h : Ahead r (num n ++ rest)) (hn : U64 n) : r.uint.1 = n ∧ Ahead r.uint.2 rest := by
  have hd := rdNum_num r.D r.off n rest h.bytes hn
  unfold Rd.uint
  rw [if_pos h.err, hd]
  refine ⟨rfl, h.err, ?_⟩
  show r.D.drop (r.off + (num n).length) = rest
  rw [← List.drop_drop, h.bytes, List.drop_left]

theorem Ahead.int {r : Rd} {v : Int} {rest : List UInt8} (h : Ahead r (num (zig v) ++ rest)) (hv : Fit64 v) : r.int.1 = v ∧ Ahead r.int.2 rest := by
  obtain ⟨h1, h2⟩ := h.uint (zig_lt v hv.1 hv.2)
  exact ⟨by show unzig r.uint.1 = v; rw [h1, unzig_zig], h2⟩

theorem Ahead.bool {r : Rd} {b : Bool} {rest : List UInt8} (h : Ahead r (num (b01 b) ++ rest)) : r.bool.1 = b ∧ Ahead r.bool.2 rest := by
  have hb := h.bytes
  rw [num_b01] at hb
  have hg : r.D[r.off]? = some (if b then 1 else 0) := by
    have : (r.D.drop r.off)[0]? = some (if b then (1 : UInt8) else 0) := by rw [hb]; rfl
    rwa [List.getElem?_drop, Nat.add_zero] at this
  have hd : rdBool r.D r.off = some (b, r.off + 1) := by
    unfold rdBool
    rw [hg]
    cases b <;> rfl
  unfold Rd.bool
  rw [if_pos h.err, hd]
  refine ⟨rfl, h.err, ?_⟩
  show r.D.drop (r.off + 1) = rest
  rw [← List.drop_drop, hb]
  rfl

theorem Ahead.count {r : Rd} {n : Nat} {rest : List UInt8} (h : Ahead r (num n ++ rest)) (most : Int) (hn : U64 n) (hm : (n : Int) ≤ most) : (r.count most).1 = n ∧ Ahead (r.count most).2 rest := by
  have hd := rdNum_num r.D r.off n rest h.bytes hn
  unfold Rd.count
  rw [if_pos h.err, hd]
  simp only
  rw [if_neg (by omega)]
  refine ⟨rfl, h.err, ?_⟩
  show r.D.drop (r.off + (num n).length) = rest
  rw [← List.drop_drop, h.bytes, List.drop_left]

theorem rsteps_front (s : Rd × List (Int × Int)) : ∀ k, rsteps s (k + 1) = rsteps (rstep s) k
  | 0 => rfl
  | k + 1 => by
    show rstep (rsteps s (k + 1)) = rstep (rsteps (rstep s) k)
    rw [rsteps_front s k]

theorem Ahead.steps : ∀ (l : List (Int × Int)) (r : Rd) (t : List (Int × Int)) (rest : List UInt8), (∀ p ∈ l, Fit64 p.1 ∧ Fit64 p.2) → Ahead r (told8 l ++ rest) → (rsteps (r, t) l.length).2 = t ++ l ∧ Ahead (rsteps (r, t) l.length).1 rest
  | [], r, t, rest, _, h => ⟨by simp [rsteps], h⟩
  | p :: l, r, t, rest, hf, h => by
    have e : told8 (p :: l) ++ rest = num (zig p.1) ++ (num (zig p.2) ++ (told8 l ++ rest)) := by simp [told8]
    rw [e] at h
    obtain ⟨f1, f2⟩ := hf p (by simp)
    obtain ⟨a1, a2⟩ := h.int f1
    obtain ⟨b1, b2⟩ := a2.int f2
    have er : rstep (r, t) = (r.int.2.int.2, t ++ [p]) := by
      unfold rstep
      simp only
      rw [a1, b1]
    rw [List.length_cons, rsteps_front, er]
    obtain ⟨c1, c2⟩ := Ahead.steps l r.int.2.int.2 (t ++ [p]) rest (fun q hq => hf q (by simp [hq])) b2
    exact ⟨by rw [c1]; simp, c2⟩

structure RClk.Fits (c : RClk) : Prop where
  first : Fit64 c.first
  day : Fit64 c.day
  leap : Fit64 c.leap
  quorum : Fit64 c.quorum
  own : Fit64 c.own
  ref : Fit64 c.ref
  told : ∀ p ∈ c.told, Fit64 p.1 ∧ Fit64 p.2
  len : c.told.length ≤ 12
  noref : c.has = false → c.ref = 0

theorem enc_dec (c : RClk) (hf : c.Fits) : rclk c.enc = c ∧ (rdec c.enc).1.end_ = 0 := by
  obtain ⟨D, hD⟩ : ∃ D, D = c.enc := ⟨_, rfl⟩
  rw [← hD]
  obtain ⟨r, hr⟩ : ∃ r : Rd, r = ⟨D, 0, 0, 0⟩ := ⟨_, rfl⟩
  have h0 : Ahead r (num (zig c.first) ++ (num (zig c.day) ++ (num (zig c.leap) ++ (num (zig c.quorum) ++ (num (zig c.own) ++ (num (b01 c.has) ++ ((if c.has then num (zig c.ref) else []) ++ (num c.told.length ++ (told8 c.told ++ []))))))))) := by
    rw [hr]
    refine ⟨rfl, ?_⟩
    rw [List.drop_zero]
    show D = _
    rw [hD]
    simp [RClk.enc, RClk.head8, ints8]
  obtain ⟨a0, h1⟩ := h0.int hf.first
  obtain ⟨a1, h2⟩ := h1.int hf.day
  obtain ⟨a2, h3⟩ := h2.int hf.leap
  obtain ⟨a3, h4⟩ := h3.int hf.quorum
  obtain ⟨a4, h5⟩ := h4.int hf.own
  obtain ⟨a5, h6⟩ := h5.bool
  have hhead : rhead r = { c with told := [] } ∧ Ahead (decHead r).1 (num c.told.length ++ (told8 c.told ++ [])) := by
    have a5' : (dec5 r 5).1.bool.1 = c.has := a5
    unfold rhead decHead
    simp only
    rw [a5']
    cases hh : c.has
    · rw [hh] at h6
      refine ⟨?_, h6⟩
      show (⟨r.int.1, r.int.2.int.1, r.int.2.int.2.int.1, r.int.2.int.2.int.2.int.1, r.int.2.int.2.int.2.int.2.int.1, false, 0, []⟩ : RClk) = _
      rw [a0, a1, a2, a3, a4, hf.noref hh]
    · rw [hh] at h6
      obtain ⟨a6, h7⟩ := h6.int hf.ref
      refine ⟨?_, h7⟩
      show (⟨r.int.1, r.int.2.int.1, r.int.2.int.2.int.1, r.int.2.int.2.int.2.int.1, r.int.2.int.2.int.2.int.2.int.1, true, r.int.2.int.2.int.2.int.2.int.2.bool.2.int.1, []⟩ : RClk) = _
      rw [a0, a1, a2, a3, a4, a6]
  obtain ⟨hh1, hh2⟩ := hhead
  obtain ⟨b1, b2⟩ := hh2.count 12 (by have := hf.len; unfold U64; omega) (by have := hf.len; omega)
  obtain ⟨c1, c2⟩ := Ahead.steps c.told ((decHead r).1.count 12).2 [] [] hf.told b2
  have hrd : rdec D = rsteps (((decHead r).1.count 12).2, []) c.told.length := by unfold rdec; rw [← hr, b1]
  rw [hrd]
  refine ⟨?_, ?_⟩
  · unfold rclk
    rw [hrd, ← hr, hh1, c1]
    rfl
  · unfold Rd.end_
    have hb := c2.bytes
    have hle : (rsteps (((decHead r).1.count 12).2, []) c.told.length).1.D.length ≤ (rsteps (((decHead r).1.count 12).2, []) c.told.length).1.off := List.drop_eq_nil_iff.1 hb
    rw [if_neg (fun hn => hn c2.err), if_neg (by omega)]

/-- Two clocks that hold nothing where no device has told, and that the reference does not tell apart, are one. -/
theorem Clk.toR_inj (c d : Clk) (hc : c.Ok) (hd : d.Ok) (nc : c.Norm) (nd : d.Norm) (h : c.toR = d.toR) : c = d := by
  have hp : castP (c.pairs 12) = castP (d.pairs 12) := congrArg RClk.told h
  have hmem : ∀ (e : Clk) (i : Nat) (x : Int), i < 12 → ((((i : Int), x) ∈ castP (e.pairs 12)) ↔ e.heard.getD i false = true ∧ e.told.getD i 0 = x) := by
    intro e i x hi
    unfold castP Clk.pairs
    constructor
    · intro hm
      obtain ⟨p, hp, he⟩ := List.mem_map.1 hm
      obtain ⟨j, hj, hej⟩ := List.mem_filterMap.1 hp
      split at hej
      · rename_i hh
        simp only [Option.some.injEq] at hej
        subst hej
        simp only [Prod.mk.injEq] at he
        have : j = i := by omega
        subst this
        exact ⟨hh, he.2⟩
      · cases hej
    · rintro ⟨h1, h2⟩
      refine List.mem_map.2 ⟨(i, x), List.mem_filterMap.2 ⟨i, List.mem_range.2 hi, ?_⟩, rfl⟩
      rw [h1, h2]
      rfl
  have hheard : c.heard = d.heard := by
    apply List.ext_getElem?
    intro i
    by_cases hi : i < 12
    · have gc : c.heard[i]? = some (c.heard.getD i false) := by rw [List.getD_eq_getElem?_getD, List.getElem?_eq_getElem (by rw [hc.heard]; exact hi)]; rfl
      have gd : d.heard[i]? = some (d.heard.getD i false) := by rw [List.getD_eq_getElem?_getD, List.getElem?_eq_getElem (by rw [hd.heard]; exact hi)]; rfl
      rw [gc, gd]
      congr 1
      cases h1 : c.heard.getD i false
      · cases h2 : d.heard.getD i false
        · rfl
        · have := (hmem d i _ hi).2 ⟨h2, rfl⟩
          rw [← hp] at this
          have := ((hmem c i _ hi).1 this).1
          rw [h1] at this
          exact this
      · have := (hmem c i _ hi).2 ⟨h1, rfl⟩
        rw [hp] at this
        have := ((hmem d i _ hi).1 this).1
        exact this.symm
    · rw [List.getElem?_eq_none (by rw [hc.heard]; omega), List.getElem?_eq_none (by rw [hd.heard]; omega)]
  have htold : c.told = d.told := by
    apply List.ext_getElem?
    intro i
    by_cases hi : i < 12
    · have gc : c.told[i]? = some (c.told.getD i 0) := by rw [List.getD_eq_getElem?_getD, List.getElem?_eq_getElem (by rw [hc.told]; exact hi)]; rfl
      have gd : d.told[i]? = some (d.told.getD i 0) := by rw [List.getD_eq_getElem?_getD, List.getElem?_eq_getElem (by rw [hd.told]; exact hi)]; rfl
      rw [gc, gd]
      congr 1
      cases h1 : c.heard.getD i false
      · rw [nc.told i h1, nd.told i (by rw [← hheard]; exact h1)]
      · have := (hmem c i _ hi).2 ⟨h1, rfl⟩
        rw [hp] at this
        exact ((hmem d i _ hi).1 this).2.symm
    · rw [List.getElem?_eq_none (by rw [hc.told]; omega), List.getElem?_eq_none (by rw [hd.told]; omega)]
  obtain ⟨a1, a2, a3, a4, a5, a6, a7, a8, a9⟩ := c
  obtain ⟨b1, b2, b3, b4, b5, b6, b7, b8, b9⟩ := d
  simp only [Clk.toR, RClk.mk.injEq] at h
  simp only at hheard htold
  obtain ⟨rfl, rfl, rfl, rfl, rfl, rfl, rfl, _⟩ := h
  subst hheard htold
  rfl

end Go.Proofs.Ytflabbdnkoejjaa
