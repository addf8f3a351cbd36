/- Contract of bits.RotateLeft32 at a negative count. -/
import Derived.Test.YtlepfnihpdhcaaaGreatDoorBase
import Derived.Test.YtlepfnihpdhcaaaGreatDoorWirePlain
import Derived.Test.YtlepfnihpdhcaaaGreatDoorProg
import Derived.Deep.RegionHeld3
import Derived.Deep.QuietTactic
import Derived.BigQuiet
namespace Go.Proofs.YtlepfnihpdhcaaaGreatDoor
open Go.RowKit

/-- What the count reads as. -/
theorem rot_count (n : Nat) (h1 : 1 ≤ n) (h2 : n ≤ 31) : bits BinOp.and IntKind.u64 (IntKind.u64.wrap (-(n : Int))) 31 = ((32 - n : Nat) : Int) := by
  have e : IntKind.u64.wrap (-(n : Int)) = ((18446744073709551616 - n : Nat) : Int) := by
    rw [IntKind.wrap_u64]
    omega
  have h := u64_and_nat (18446744073709551616 - n) 31 (by omega) (by omega)
  rw [nat_mask5] at h
  rw [e]
  refine h.trans ?_
  congr 1
  omega

theorem cast_shl (x k : Nat) : (x : Int) * 2 ^ k % 4294967296 = ((x * 2 ^ k % 4294967296 : Nat) : Int) := by
  have : ((x * 2 ^ k : Nat) : Int) = (x : Int) * 2 ^ k := by rw [Int.natCast_mul, Int.natCast_pow]; rfl
  rw [← this]
  generalize x * 2 ^ k = y
  omega
theorem cast_shr (x k : Nat) : (x : Int) / 2 ^ k = ((x / 2 ^ k : Nat) : Int) := by
  rw [Int.natCast_ediv, Int.natCast_pow]
  rfl

theorem rot_or (x n : Nat) (hx : W32 x) (h2 : n ≤ 31) : bits BinOp.or IntKind.u32 ((x : Int) * 2 ^ (32 - n) % 4294967296) ((x : Int) / 2 ^ (32 - (32 - n))) = ((rotr n x : Nat) : Int) := by
  rw [show 32 - (32 - n) = n by omega, cast_shl, cast_shr, u32_or_nat _ _ (Nat.mod_lt _ (by decide)) (hx.div _), Nat.or_comm]
  rfl

set_option maxRecDepth 100000 in
theorem rotl_any (x n : Nat) (w : World) (hx : W32 x) (h1 : 1 ≤ n) (h2 : n ≤ 31) :
    Calls Tryz.prog 120 #[.int .u32 (x : Int), Value.int .i64 (-(n : Int))] w fun e w' => e = .returned (.int .u32 (rotr n x : Int)) ∧ w = w' := by
  have hc := rot_count n h1 h2
  have HR := Lib.hid (rot_or x n hx h2)
  go_enter Tryz.func120, Tryz.ntmps120
  go_wp2_with fail
  go_ret
  exact ⟨ret_int HR.out, rfl⟩

theorem rotl_k (x n : Nat) (k : Int) (w : World) (hk : k = -(n : Int)) (hx : W32 x) (h1 : 1 ≤ n) (h2 : n ≤ 31) :
    Calls Tryz.prog 120 #[.int .u32 (x : Int), Value.int .i64 k] w fun e w' => e = .returned (.int .u32 (rotr n x : Int)) ∧ w = w' := by
  rw [hk]
  exact rotl_any x n w hx h1 h2

def U4 (l : List Nat) : List Value := l.map fun x : Nat => Value.int .u32 (x : Int)
theorem U4_get (l : List Nat) (i x : Nat) (h : l[i]? = some x) : (U4 l)[i]? = some (.int .u32 (x : Int)) := by simp [U4, h]
theorem U4_len (l : List Nat) : (U4 l).length = l.length := by simp [U4]

/-- The tables of the package lie as the program's text lays them. -/
structure Vars (w : World) : Prop where
  init : ∀ i x : Nat, shaI[i]? = some x → w.cell? ⟨0, i, none⟩ = some (.int .u32 (x : Int))
  cons : ∀ i x : Nat, shaK[i]? = some x → w.cell? ⟨1, i, none⟩ = some (.int .u32 (x : Int))

theorem Vars.lt {w : World} (h : Vars w) : 1 < w.heap.size := World.block_lt_of_cell? w ⟨1, 0, none⟩ (h.cons 0 _ rfl)
theorem Vars.fr {w w' : World} {S : List Nat} (h : Vars w) (hf : Fr S w w') (h0 : 0 ∉ S) (h1 : 1 ∉ S) : Vars w' := by
  have hl := h.lt
  exact ⟨fun i x hx => by rw [hf.cell (p := ⟨0, i, none⟩) (by show 0 < _; omega) h0]; exact h.init i x hx, fun i x hx => by rw [hf.cell (p := ⟨1, i, none⟩) hl h1]; exact h.cons i x hx⟩

theorem u32_byte (v : UInt8) : IntKind.u32.wrap (v.toNat : Int) = (v.toNat : Int) := by
  rw [IntKind.wrap_u32']
  have := UInt8.toNat_lt v
  omega
theorem word_walk (v0 v1 v2 v3 : UInt8) :
    bits BinOp.or IntKind.u32 (bits BinOp.or IntKind.u32 (bits BinOp.or IntKind.u32 (IntKind.u32.wrap (IntKind.u32.wrap (v0.toNat : Int) * 16777216)) (IntKind.u32.wrap (IntKind.u32.wrap (v1.toNat : Int) * 65536))) (IntKind.u32.wrap (IntKind.u32.wrap (v2.toNat : Int) * 256))) (IntKind.u32.wrap (v3.toNat : Int)) =
      (((v0.toNat * 2 ^ 24) ||| (v1.toNat * 2 ^ 16) ||| (v2.toNat * 2 ^ 8) ||| v3.toNat : Nat) : Int) := by
  have b0 := UInt8.toNat_lt v0
  have b1 := UInt8.toNat_lt v1
  have b2 := UInt8.toNat_lt v2
  have b3 := UInt8.toNat_lt v3
  have e0 : IntKind.u32.wrap ((v0.toNat : Int) * 16777216) = ((v0.toNat * 2 ^ 24 : Nat) : Int) := by rw [IntKind.wrap_u32']; omega
  have e1 : IntKind.u32.wrap ((v1.toNat : Int) * 65536) = ((v1.toNat * 2 ^ 16 : Nat) : Int) := by rw [IntKind.wrap_u32']; omega
  have e2 : IntKind.u32.wrap ((v2.toNat : Int) * 256) = ((v2.toNat * 2 ^ 8 : Nat) : Int) := by rw [IntKind.wrap_u32']; omega
  have w0 := byte_w32 v0 24 (by omega)
  have w1 := byte_w32 v1 16 (by omega)
  have w2 := byte_w32 v2 8 (by omega)
  rw [u32_byte, u32_byte, u32_byte, u32_byte, e0, e1, e2, u32_or_nat _ _ w0 w1, u32_or_nat _ _ (w0.or w1) w2, u32_or_nat _ _ ((w0.or w1).or w2) (by omega)]

theorem sig1_walk (x : Nat) (h : W32 x) : bits BinOp.xor IntKind.u32 (bits BinOp.xor IntKind.u32 (rotr 17 x : Int) (rotr 19 x : Int)) ((x : Int) / 1024) = ((sig1 x : Nat) : Int) := by
  have e : (x : Int) / 1024 = ((x / 2 ^ 10 : Nat) : Int) := by omega
  rw [e, u32_xor_nat _ _ (h.rotr 17) (h.rotr 19), u32_xor_nat _ _ ((h.rotr 17).xor (h.rotr 19)) (h.div _)]
  rfl
theorem sig0_walk (x : Nat) (h : W32 x) : bits BinOp.xor IntKind.u32 (bits BinOp.xor IntKind.u32 (rotr 7 x : Int) (rotr 18 x : Int)) ((x : Int) / 8) = ((sig0 x : Nat) : Int) := by
  have e : (x : Int) / 8 = ((x / 2 ^ 3 : Nat) : Int) := by omega
  rw [e, u32_xor_nat _ _ (h.rotr 7) (h.rotr 18), u32_xor_nat _ _ ((h.rotr 7).xor (h.rotr 18)) (h.div _)]
  rfl

theorem bsig1_walk (x : Nat) (h : W32 x) : bits BinOp.xor IntKind.u32 (bits BinOp.xor IntKind.u32 (rotr 6 x : Int) (rotr 11 x : Int)) (rotr 25 x : Int) = ((bsig1 x : Nat) : Int) := by
  rw [u32_xor_nat _ _ (h.rotr 6) (h.rotr 11), u32_xor_nat _ _ ((h.rotr 6).xor (h.rotr 11)) (h.rotr 25)]
  rfl
theorem bsig0_walk (x : Nat) (h : W32 x) : bits BinOp.xor IntKind.u32 (bits BinOp.xor IntKind.u32 (rotr 2 x : Int) (rotr 13 x : Int)) (rotr 22 x : Int) = ((bsig0 x : Nat) : Int) := by
  rw [u32_xor_nat _ _ (h.rotr 2) (h.rotr 13), u32_xor_nat _ _ ((h.rotr 2).xor (h.rotr 13)) (h.rotr 22)]
  rfl
theorem maj_walk (a b c : Nat) (ha : W32 a) (hb : W32 b) (hc : W32 c) : bits BinOp.xor IntKind.u32 (bits BinOp.xor IntKind.u32 (bits BinOp.and IntKind.u32 (a : Int) (b : Int)) (bits BinOp.and IntKind.u32 (a : Int) (c : Int))) (bits BinOp.and IntKind.u32 (b : Int) (c : Int)) = ((majF a b c : Nat) : Int) := by
  rw [u32_and_nat _ _ ha hb, u32_and_nat _ _ ha hc, u32_and_nat _ _ hb hc, u32_xor_nat _ _ (W32.and hb) (W32.and hc), u32_xor_nat _ _ ((W32.and hb).xor (W32.and hc)) (W32.and hc)]
  rfl

theorem xor_ones (e : Nat) (h : W32 e) : 4294967295 ^^^ e = 4294967295 - e := by
  have hh : BitVec.allOnes 32 ^^^ BitVec.ofNat 32 e = ~~~ (BitVec.ofNat 32 e) := BitVec.allOnes_xor
  have := congrArg BitVec.toNat hh
  rw [BitVec.toNat_xor, BitVec.toNat_not, BitVec.toNat_allOnes, BitVec.toNat_ofNat, Nat.mod_eq_of_lt h] at this
  exact this
theorem not_walk (e : Nat) (h : W32 e) : bits BinOp.xor IntKind.u32 (if IntKind.u32.signed = true then -1 else IntKind.u32.max) (e : Int) = ((4294967295 - e : Nat) : Int) := by
  have := u32_xor_nat 4294967295 e (by decide) h
  rw [xor_ones e h] at this
  exact this

/-- All values of a round, each under a name. -/
theorem rnd_walk (a b c d e f g h k w : Nat) (ok : S8.Ok ⟨a, b, c, d, e, f, g, h⟩) :
    ∃ s1 ef ne ng ch x1 x2 x3 t1 s0 ab ac bc mx mj t2 na nd : Nat,
      bits BinOp.xor IntKind.u32 (bits BinOp.xor IntKind.u32 (rotr 6 e : Int) (rotr 11 e : Int)) (rotr 25 e : Int) = (s1 : Int) ∧
      bits BinOp.xor IntKind.u32 (bits BinOp.xor IntKind.u32 (rotr 2 a : Int) (rotr 13 a : Int)) (rotr 22 a : Int) = (s0 : Int) ∧
      bits BinOp.and IntKind.u32 (e : Int) (f : Int) = (ef : Int) ∧
      bits BinOp.xor IntKind.u32 (if IntKind.u32.signed = true then -1 else IntKind.u32.max) (e : Int) = (ne : Int) ∧
      bits BinOp.and IntKind.u32 (ne : Int) (g : Int) = (ng : Int) ∧
      bits BinOp.xor IntKind.u32 (ef : Int) (ng : Int) = (ch : Int) ∧
      IntKind.u32.wrap ((h : Int) + (s1 : Int)) = (x1 : Int) ∧
      IntKind.u32.wrap ((x1 : Int) + (ch : Int)) = (x2 : Int) ∧
      IntKind.u32.wrap ((x2 : Int) + (k : Int)) = (x3 : Int) ∧
      IntKind.u32.wrap ((x3 : Int) + (w : Int)) = (t1 : Int) ∧
      bits BinOp.and IntKind.u32 (a : Int) (b : Int) = (ab : Int) ∧
      bits BinOp.and IntKind.u32 (a : Int) (c : Int) = (ac : Int) ∧
      bits BinOp.and IntKind.u32 (b : Int) (c : Int) = (bc : Int) ∧
      bits BinOp.xor IntKind.u32 (ab : Int) (ac : Int) = (mx : Int) ∧
      bits BinOp.xor IntKind.u32 (mx : Int) (bc : Int) = (mj : Int) ∧
      IntKind.u32.wrap ((s0 : Int) + (mj : Int)) = (t2 : Int) ∧
      IntKind.u32.wrap ((t1 : Int) + (t2 : Int)) = (na : Int) ∧
      IntKind.u32.wrap ((d : Int) + (t1 : Int)) = (nd : Int) ∧
      Hid (S8.rnd ⟨a, b, c, d, e, f, g, h⟩ k w = ⟨na, a, b, c, nd, e, f, g⟩) := by
  obtain ⟨oa, ob, oc, od, oe, of, og, oh⟩ := ok
  simp only at oa ob oc od oe of og oh
  refine ⟨bsig1 e, _, _, _, _, _, _, _, _, bsig0 a, _, _, _, _, _, _, _, _, bsig1_walk e oe, bsig0_walk a oa, u32_and_nat _ _ oe of, not_walk e oe, u32_and_nat _ _ (W32.not e) og, u32_xor_nat _ _ (W32.and of) (W32.and og),
    u32_add _ _, u32_add _ _, u32_add _ _, u32_add _ _, u32_and_nat _ _ oa ob, u32_and_nat _ _ oa oc, u32_and_nat _ _ ob oc, u32_xor_nat _ _ (W32.and ob) (W32.and oc), u32_xor_nat _ _ ((W32.and ob).xor (W32.and oc)) (W32.and oc), u32_add _ _, u32_add _ _, u32_add _ _, ?_⟩
  rfl

/-- The schedule's array behind t words. -/
def wrow (blk : List UInt8) (t : Nat) : List Value := U4 (schedTo blk t) ++ List.replicate (64 - t) (.int .u32 0)
theorem wrow_len (blk : List UInt8) (t : Nat) (h : t ≤ 64) : (wrow blk t).length = 64 := by simp [wrow, U4_len, sched_len]; omega
theorem wrow_set (blk : List UInt8) (t : Nat) (h : t < 64) (x : Nat) (hx : x = if t < 16 then word blk t else nextW (schedTo blk t) t) : (wrow blk t).set t (.int .u32 (x : Int)) = wrow blk (t + 1) := by
  unfold wrow
  rw [List.set_append_right _ _ (by rw [U4_len, sched_len]; exact Nat.le_refl _), U4_len, sched_len, Nat.sub_self]
  obtain ⟨m, hm⟩ : ∃ m, 64 - t = m + 1 := ⟨63 - t, by omega⟩
  rw [hm, List.replicate_succ, List.set_cons_zero, show 64 - (t + 1) = m by omega]
  simp only [schedTo, U4, List.map_append, List.map_cons, List.map_nil, List.append_assoc, List.cons_append, List.nil_append, ← hx]
theorem wrow_get (blk : List UInt8) (t i : Nat) (h : i < t) : ∃ x, (schedTo blk t).getD i 0 = x ∧ W32 x ∧ (wrow blk t)[i]? = some (.int .u32 (x : Int)) := by
  have hl : i < (schedTo blk t).length := by rw [sched_len]; exact h
  refine ⟨_, rfl, getD_w32 (W32.sched blk t) i, ?_⟩
  unfold wrow
  rw [List.getElem?_append_left (by rw [U4_len]; exact hl)]
  apply U4_get
  rw [List.getD_eq_getElem?_getD, List.getElem?_eq_getElem hl]
  rfl

theorem words_set (H X : List Nat) (rest : List Value) (k y x : Nat) (hH : H[k]? = some y) (hX : X[k]? = some x) :
    (U4 ((List.zipWith add32 H X).take k ++ H.drop k) ++ rest).set k (.int .u32 ((add32 y x : Nat) : Int)) = U4 ((List.zipWith add32 H X).take (k + 1) ++ H.drop (k + 1)) ++ rest := by
  obtain ⟨h1, e1⟩ := List.getElem?_eq_some_iff.1 hH
  obtain ⟨h2, e2⟩ := List.getElem?_eq_some_iff.1 hX
  have hl : ((List.zipWith add32 H X).take k).length = k := by simp; omega
  have hd : H.drop k = y :: H.drop (k + 1) := by rw [List.drop_eq_getElem_cons h1, e1]
  have ht : (List.zipWith add32 H X).take (k + 1) = (List.zipWith add32 H X).take k ++ [add32 y x] := by
    rw [List.take_succ_eq_append_getElem (by simp; omega)]
    simp [e1, e2]
  rw [ht, hd]
  unfold U4
  rw [List.map_append, List.map_append, List.map_append, List.append_assoc, List.append_assoc, List.append_assoc, List.set_append_right _ _ (by rw [List.length_map, hl]; exact Nat.le_refl _), List.length_map, hl, Nat.sub_self]
  rfl
theorem words_get (H X : List Nat) (rest : List Value) (k y x : Nat) (hH : H[k]? = some y) (hX : X[k]? = some x) : (U4 ((List.zipWith add32 H X).take k ++ H.drop k) ++ rest)[k]? = some (.int .u32 (y : Int)) := by
  obtain ⟨h1, e1⟩ := List.getElem?_eq_some_iff.1 hH
  obtain ⟨h2, e2⟩ := List.getElem?_eq_some_iff.1 hX
  have hl : ((List.zipWith add32 H X).take k).length = k := by simp; omega
  have hd : H.drop k = y :: H.drop (k + 1) := by rw [List.drop_eq_getElem_cons h1, e1]
  rw [hd]
  unfold U4
  rw [List.map_append, List.append_assoc, List.getElem?_append_right (by rw [List.length_map, hl]; exact Nat.le_refl _), List.length_map, hl, Nat.sub_self]
  rfl

end Go.Proofs.YtlepfnihpdhcaaaGreatDoor
