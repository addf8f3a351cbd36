/- Part 3 of a proof about rangesum: what its row uses. -/
import Derived.Test.YtlepfnihpdhcaaaGreatDoorRu02
set_option maxRecDepth 100000
set_option maxHeartbeats 1000000
namespace Go.Proofs.YtlepfnihpdhcaaaGreatDoor
theorem num_pos (n : Nat) : 0 < (num n).length := by
 by_cases h : n < 128
 ·rw [num_small n h]; simp
 ·rw [num_big n h]; simp
theorem accN_num (n : Nat) : ∀ l : List UInt8, accN (num n ++ l) (num n).length = n := by
 induction n using Nat.strongRecOn with
 | _ n ih =>
  intro l
  by_cases hn : n < 128
  ·rw [num_small n hn]
   simp [accN]
   omega
  ·rw [num_big n hn]
   have h := ih (n / 128) (Nat.div_lt_self (by omega) (by omega)) l
   rw [List.length_cons, List.cons_append, accN, h, u8_toNat _ (by omega)]
   omega
theorem ahead_pre : ∀ (l : List UInt8) (j : Nat) (b : UInt8), j < ahead l → l[j]? = some b → 128 ≤ b.toNat
 | [], j, b, h, _ => by simp [ahead] at h
 | c :: l, j, b, h, hb => by
  rw [ahead] at h
  split at h
  ·omega
  ·cases j with
   | zero =>
    simp at hb
    subst hb
    omega
   | succ j => exact ahead_pre l j b (by omega) (by simpa using hb)
theorem ahead_at : ∀ (l : List UInt8) (b : UInt8), l[ahead l]? = some b → b.toNat < 128
 | [], b, h => by simp at h
 | c :: l, b, h => by
  rw [ahead] at h
  split at h
  ·rename_i hc
   simp at h
   subst h
   exact hc
  ·exact ahead_at l b (by simpa using h)
theorem rdNum_took (D : List UInt8) (off n m : Nat) (h : rdNum D off = some (n, m)) : D.drop off = num n ++ D.drop m := by
 unfold rdNum at h
 split at h
 ·cases h
 ·rename_i b hb
  split at h
  ·rename_i hc
   simp only [Option.some.injEq, Prod.mk.injEq] at h
   obtain ⟨rfl, rfl⟩ := h
   have := (num_of (ahead (D.drop off)) (D.drop off) (fun j c hj hcj => ahead_pre _ j c hj hcj) ⟨b, hb, ahead_at _ b hb, hc.2.1⟩).1
   rw [List.drop_drop] at this
   rw [show off + ahead (D.drop off) + 1 = off + (ahead (D.drop off) + 1) by omega]
   exact this
  ·cases h
theorem rdNum_num (D : List UInt8) (off n : Nat) (rest : List UInt8) (h : D.drop off = num n ++ rest) (hn : U64 n) : rdNum D off = some (n, off + (num n).length) := by
 have hp := num_pos n
 have hl := num_length n hn
 obtain ⟨k, hk⟩ : ∃ k, (num n).length = k + 1 := ⟨(num n).length - 1, by omega⟩
 have hget : ∀ j, j < k + 1 → D[off + j]? = (num n)[j]? := by
  intro j hj
  rw [← List.getElem?_drop, h, List.getElem?_append_left (by omega)]
 have hx := List.getElem?_eq_getElem (l := num n) (i := k) (by omega)
 generalize (num n)[k] = x at hx
 have hx' : D[off + k]? = some x := by rw [hget k (by omega)]; exact hx
 obtain ⟨_, g2⟩ := num_get n k x hx
 obtain ⟨g3, g4⟩ := g2 (by omega)
 rw [rdNum_at D off k x (fun j b hj hb => (num_get n j b (by rw [← hget j (by omega)]; exact hb)).1 (by omega)) hx' g3, if_pos, hk]
 ·have ea := accN_num n rest
  rw [hk] at ea
  rw [h, ea]
  rfl
 ·refine ⟨by omega, fun hh => g4 hh.1 hh.2, fun hh => ?_⟩
  have ea := accN_num n rest
  rw [hk, ← h] at ea
  have es := accN_succ k (D.drop off) x (by rw [List.getElem?_drop]; exact hx')
  rw [ea, hh.1] at es
  unfold U64 at hn
  have : x.toNat % 128 = x.toNat := Nat.mod_eq_of_lt g3
  rw [this] at es
  have h9 : (128 : Nat) ^ 9 = 9223372036854775808 := by decide
  rw [h9] at es
  have := hh.2
  omega
structure Took (r r' : Rd) (bs : List UInt8) : Prop where
 err : r.err = 0
 D : r'.D = r.D
 bytes : r.D.drop r.off = bs ++ r.D.drop r'.off
theorem Took.trans {a b c : Rd} {x y : List UInt8} (h : Took a b x) (k : Took b c y) : Took a c (x ++ y) :=
 ⟨h.err, k.D.trans h.D, by rw [h.bytes, List.append_assoc]; congr 1; have := k.bytes; rwa [h.D] at this⟩
theorem took_uint (r : Rd) (h : r.uint.2.err = 0) : Took r r.uint.2 (num r.uint.1) := by
 unfold Rd.uint at h ⊢
 by_cases he : r.err = 0
 ·rw [if_pos he] at h ⊢
  cases hd : rdNum r.D r.off with
  | none => rw [hd] at h; cases h
  | some p => exact ⟨he, rfl, rdNum_took _ _ _ _ hd⟩
 ·rw [if_neg he] at h
  exact absurd h he
structure Ahead (r : Rd) (bs : List UInt8) : Prop where
 err : r.err = 0
 bytes : r.D.drop r.off = bs
theorem Ahead.uint {r : Rd} {n : Nat} {rest : List UInt8} (h : Ahead r (num n ++ rest)) (hn : U64 n) : r.uint.1 = n ∧ Ahead r.uint.2 rest := by
 have hd := rdNum_num r.D r.off n rest h.bytes hn
 unfold Rd.uint
 rw [if_pos h.err, hd]
 refine ⟨rfl, h.err, ?_⟩
 show r.D.drop (r.off + (num n).length) = rest
 rw [← List.drop_drop, h.bytes, List.drop_left]
theorem took_sum (r : Rd) (h : r.sum.2.err = 0) : Took r r.sum.2 r.sum.1 ∧ r.sum.1.length = 32 := by
 unfold Rd.sum at h ⊢
 by_cases he : r.err = 0
 ·rw [if_pos he] at h ⊢
  by_cases hf : r.off + 32 ≤ r.D.length
  ·rw [if_pos hf]
   refine ⟨⟨he, rfl, ?_⟩, by simp; omega⟩
   show r.D.drop r.off = (r.D.drop r.off).take 32 ++ r.D.drop (r.off + 32)
   rw [← List.drop_drop, List.take_append_drop]
  ·rw [if_neg hf] at h
   cases h
 ·rw [if_neg he] at h
  exact absurd h he
theorem Ahead.sum {r : Rd} {k rest : List UInt8} (h : Ahead r (k ++ rest)) (hk : k.length = 32) : r.sum.1 = k ∧ Ahead r.sum.2 rest := by
 have hl := congrArg List.length h.bytes
 rw [List.length_drop, List.length_append] at hl
 unfold Rd.sum
 rw [if_pos h.err, if_pos (by omega)]
 refine ⟨?_, h.err, ?_⟩
 ·show (r.D.drop r.off).take 32 = k
  rw [h.bytes, ← hk, List.take_left]
 ·show r.D.drop (r.off + 32) = rest
  rw [← List.drop_drop, h.bytes, ← hk, List.drop_left]
theorem Rd.Ok.uint' {r : Rd} (h : r.Ok) : r.uint.2.Ok := h.uint fun n m hd => (rdNum_le _ _ n m hd).2.1
theorem Rd.Ok.sum {r : Rd} (h : r.Ok) : r.sum.2.Ok := by
 unfold Rd.sum
 by_cases he : r.err = 0
 ·rw [if_pos he]
  by_cases hf : r.off + 32 ≤ r.D.length
  ·rw [if_pos hf]; exact ⟨hf, h.len⟩
  ·rw [if_neg hf]; exact ⟨h.off, h.len⟩
 ·rw [if_neg he]; exact h
theorem Took.end_ {r r' : Rd} {bs : List UInt8} (h : Took r r' bs) (he : r'.end_ = 0) : r.D.drop r.off = bs := by
 unfold Rd.end_ at he
 have hoff : r'.D.length ≤ r'.off := by
  split at he
  ·rename_i h1; exact absurd he h1
  ·split at he
   ·cases he
   ·omega
 rw [h.bytes, List.drop_eq_nil_of_le (by rw [← h.D]; exact hoff), List.append_nil]
theorem Rd.end_err {r : Rd} (h : r.end_ = 0) : r.err = 0 := by
 unfold Rd.end_ at h
 split at h
 ·exact h
 ·rename_i h1; omega
theorem Ahead.end_ {r : Rd} (h : Ahead r []) : r.end_ = 0 := by
 have hl := congrArg List.length h.bytes
 rw [List.length_drop, List.length_nil] at hl
 unfold Rd.end_
 rw [if_neg (by rw [h.err]; simp), if_neg (by omega)]
end Go.Proofs.YtlepfnihpdhcaaaGreatDoor
namespace Go.Proofs.YtlepfnihpdhcaaaGreatDoor
open Go.RowKit
variable {X : Option Addr × Nat}
theorem blk_ok (br : Nat) (D : List UInt8) (off last most : Nat) (w : World) (A : Option Addr) (c : Nat) (ha : At w br 146 [.slice A D.length c, Value.int .i64 ((off : Nat) : Int), Value.int .i64 (last : Int), Value.int .i64 0]) (hown : w.ownsRow 0 5 1 (.slice A D.length c) D.length (B8 D)) (hl : D.length ≤ 4294967296) (ho : off ≤ D.length) (hm : most ≤ 4294967296) (n m : Nat) (hd : rdNum D off = some (n, m)) (hn : n ≤ most) (hf : m + n ≤ D.length) :
  Calls Tryz.prog 104 #[Value.pointer (some ⟨br, 0, none⟩), Value.int .i64 (most : Int)] w fun e w' => e = .returned (.tuple #[.slice (if c = m then A else A.map (·.add (m * 1))) n (c - m), Value.int .i64 0]) ∧ Fr [br] w w' ∧ At w' br 146 [.slice A D.length c, Value.int .i64 ((m + n : Nat) : Int), Value.int .i64 (last : Int), Value.int .i64 0] := by
 have HA := Lib.hid ha
 have HO := Lib.hid hown
 have hc : D.length ≤ c := ownCap hown
 have HNB : Hid (∀ g, (Value.slice A D.length c).ownBlock = some g → g ∉ [br]) := fun g hg => by
  have h1 := own_at_ne hown ha (by decide)
  simp only [List.mem_singleton]
  rintro rfl
  exact h1 hg.symm
 clear ha hown
 have hmD := (rdNum_le _ _ _ _ hd).2.1
 refine stEnter (args := [Value.pointer (some ⟨br, 0, none⟩), Value.int .i64 (most : Int)]) [br] Tryz.func104 rfl 22 rfl [(0, Value.pointer (some ⟨br, 0, none⟩)), (1, Value.int .i64 (most : Int))] ⟨rfl, rfl, trivial⟩ [cAt br 146 [(vL A D c), (vI off), (vI last), (.int .i64 0)]] (Mm.one HA.out) ?_
 refine stSeq ?_
 refine reg ?_
 refine li rfl (opVal (.slice none 0 0) rfl (by kernel_rfl) (rAssign rfl rfl) ?_)
 refine li rfl (opVal (.int .i64 0) rfl (by kernel_rfl) (rAssign rfl rfl) ?_)
 refine liNil ?_
 refine qThen ?_
 refine stSeq ?_
 refine reg ?_
 refine li rfl (opVal (vP br 0) rfl (by kernel_rfl) (rMove rfl rfl) ?_)
 refine li rfl (opVal (vI most) rfl (by kernel_rfl) (rMove rfl rfl) ?_)
 refine li rfl ?_
 refine opCall 86 #[(vP br 0), (vI most)] rfl (by kernel_rfl) (fun _ => by kernel_rfl) (fun w hM => ?_)
 refine (limited_any (X := (A, c)) br D off last (most : Int) w ⟨A, c, rfl, hM.at (i := 0) rfl, ownsRow_fr HO.out hM.fr HNB.out⟩ ho hl ⟨by omega, by omega⟩).mono ?_
 intro e w' h
 unfold LimRes at h; rw [hd] at h; dsimp only at h
 rw [if_neg (by omega)] at h
 obtain ⟨hf2, rfl, A', c', hX', ha2, _⟩ := h
 obtain ⟨rfl, rfl⟩ : A = A' ∧ c = c' := by simpa using hX'
 have hM' := hM.swap 0 (c' := cAt br 146 [(vL A D c), (vI m), (vI last), (.int .i64 0)]) rfl hf2 ha2 (fun b hb => .inl hb) (by simp [cAt])
 refine ⟨_, _, rfl, hM', ?_⟩
 refine li rfl (opVal (.tuple #[(vI n), (.int .i64 0)]) rfl (by kernel_rfl) (rMove rfl rfl) ?_)
 refine li rfl (opVal (vI n) rfl (by kernel_rfl) (rClosed fun _ => by kernel_rfl) ?_)
 refine li rfl (opVal (.int .i64 0) rfl (by kernel_rfl) (rClosed fun _ => by kernel_rfl) ?_)
 refine li rfl (opVal (vI n) rfl (by kernel_rfl) (rAssign rfl rfl) ?_)
 refine li rfl (opVal (.int .i64 0) rfl (by kernel_rfl) (rAssign rfl rfl) ?_)
 refine liNil ?_
 refine qThen ?_
 refine stSeq ?_
 refine stSeq ?_
 refine reg ?_
 refine li rfl (opVal (.int .i64 0) rfl (by kernel_rfl) (rMove rfl rfl) ?_)
 refine li rfl (opVal (.bool false) rfl (by kernel_rfl) (rClosed fun _ => by kernel_rfl) ?_)
 refine liNil ?_
 refine qThen ?_
 refine stFalse rfl ?_
 refine stSkip ?_
 refine qThen ?_
 refine stSeq ?_
 refine reg ?_
 refine li rfl (opVal (vP br 0) rfl (by kernel_rfl) (rMove rfl rfl) ?_)
 refine li rfl (opVal (vI n) rfl (by kernel_rfl) (rMove rfl rfl) ?_)
 refine li rfl ?_
 refine opCall 107 #[(vP br 0), (vI n)] rfl (by kernel_rfl) (fun _ => by kernel_rfl) (fun w hM => ?_)
 refine (take_ok br D m last n 0 w A c (hM.at (i := 0) rfl) hl (by omega) (by omega) hc hf).mono ?_
 rintro e w' ⟨rfl, hf2, ha2⟩
 have hM' := hM.swap 0 (c' := cAt br 146 [(vL A D c), (vI (m + n)), (vI last), (.int .i64 0)]) rfl hf2 ha2 (fun b hb => .inl hb) (by simp [cAt])
 refine ⟨_, _, rfl, hM', ?_⟩
 refine li rfl (opVal (.slice (if c = m then A else A.map (·.add (m * 1))) (n) (c - m)) rfl (by kernel_rfl) (rClosed fun _ => by kernel_rfl) ?_)
 refine li rfl (opVal (.int .i64 0) rfl (by kernel_rfl) (rClosed fun _ => by kernel_rfl) ?_)
 refine li rfl (opVal (.slice (if c = m then A else A.map (·.add (m * 1))) (n) (c - m)) rfl (by kernel_rfl) (rAssign rfl rfl) ?_)
 refine li rfl (opVal (.int .i64 0) rfl (by kernel_rfl) (rAssign rfl rfl) ?_)
 refine liNil ?_
 refine qThen ?_
 refine stRet ?_
 refine stEnd [(.slice (if c = m then A else A.map (·.add (m * 1))) (n) (c - m)), (.int .i64 0)] rfl ⟨rfl, rfl, trivial⟩ (fun w hM => ?_)
 exact ⟨rfl, hM.fr, hM.at (i := 0) rfl⟩
theorem blk_few (br : Nat) (D : List UInt8) (off last most : Nat) (w : World) (A : Option Addr) (c : Nat) (ha : At w br 146 [.slice A D.length c, Value.int .i64 ((off : Nat) : Int), Value.int .i64 (last : Int), Value.int .i64 0]) (hown : w.ownsRow 0 5 1 (.slice A D.length c) D.length (B8 D)) (hl : D.length ≤ 4294967296) (ho : off ≤ D.length) (hm : most ≤ 4294967296) (n m : Nat) (hd : rdNum D off = some (n, m)) (hn : n ≤ most) (hf : D.length < m + n) :
  Calls Tryz.prog 104 #[Value.pointer (some ⟨br, 0, none⟩), Value.int .i64 (most : Int)] w fun e w' => e = .returned (.tuple #[.slice none 0 0, Value.int .i64 3]) ∧ Fr [br] w w' ∧ ∃ off' : Nat, At w' br 146 [.slice A D.length c, Value.int .i64 ((off' : Nat) : Int), Value.int .i64 (last : Int), Value.int .i64 0] := by
 have HA := Lib.hid ha
 have HO := Lib.hid hown
 have hc : D.length ≤ c := ownCap hown
 have HNB : Hid (∀ g, (Value.slice A D.length c).ownBlock = some g → g ∉ [br]) := fun g hg => by
  have h1 := own_at_ne hown ha (by decide)
  simp only [List.mem_singleton]
  rintro rfl
  exact h1 hg.symm
 clear ha hown
 have hmD := (rdNum_le _ _ _ _ hd).2.1
 refine stEnter (args := [Value.pointer (some ⟨br, 0, none⟩), Value.int .i64 (most : Int)]) [br] Tryz.func104 rfl 22 rfl [(0, Value.pointer (some ⟨br, 0, none⟩)), (1, Value.int .i64 (most : Int))] ⟨rfl, rfl, trivial⟩ [cAt br 146 [(vL A D c), (vI off), (vI last), (.int .i64 0)]] (Mm.one HA.out) ?_
 refine stSeq ?_
 refine reg ?_
 refine li rfl (opVal (.slice none 0 0) rfl (by kernel_rfl) (rAssign rfl rfl) ?_)
 refine li rfl (opVal (.int .i64 0) rfl (by kernel_rfl) (rAssign rfl rfl) ?_)
 refine liNil ?_
 refine qThen ?_
 refine stSeq ?_
 refine reg ?_
 refine li rfl (opVal (vP br 0) rfl (by kernel_rfl) (rMove rfl rfl) ?_)
 refine li rfl (opVal (vI most) rfl (by kernel_rfl) (rMove rfl rfl) ?_)
 refine li rfl ?_
 refine opCall 86 #[(vP br 0), (vI most)] rfl (by kernel_rfl) (fun _ => by kernel_rfl) (fun w hM => ?_)
 refine (limited_any (X := (A, c)) br D off last (most : Int) w ⟨A, c, rfl, hM.at (i := 0) rfl, ownsRow_fr HO.out hM.fr HNB.out⟩ ho hl ⟨by omega, by omega⟩).mono ?_
 intro e w' h
 unfold LimRes at h; rw [hd] at h; dsimp only at h
 rw [if_neg (by omega)] at h
 obtain ⟨hf2, rfl, A', c', hX', ha2, _⟩ := h
 obtain ⟨rfl, rfl⟩ : A = A' ∧ c = c' := by simpa using hX'
 have hM' := hM.swap 0 (c' := cAt br 146 [(vL A D c), (vI m), (vI last), (.int .i64 0)]) rfl hf2 ha2 (fun b hb => .inl hb) (by simp [cAt])
 refine ⟨_, _, rfl, hM', ?_⟩
 refine li rfl (opVal (.tuple #[(vI n), (.int .i64 0)]) rfl (by kernel_rfl) (rMove rfl rfl) ?_)
 refine li rfl (opVal (vI n) rfl (by kernel_rfl) (rClosed fun _ => by kernel_rfl) ?_)
 refine li rfl (opVal (.int .i64 0) rfl (by kernel_rfl) (rClosed fun _ => by kernel_rfl) ?_)
 refine li rfl (opVal (vI n) rfl (by kernel_rfl) (rAssign rfl rfl) ?_)
 refine li rfl (opVal (.int .i64 0) rfl (by kernel_rfl) (rAssign rfl rfl) ?_)
 refine liNil ?_
 refine qThen ?_
 refine stSeq ?_
 refine stSeq ?_
 refine reg ?_
 refine li rfl (opVal (.int .i64 0) rfl (by kernel_rfl) (rMove rfl rfl) ?_)
 refine li rfl (opVal (.bool false) rfl (by kernel_rfl) (rClosed fun _ => by kernel_rfl) ?_)
 refine liNil ?_
 refine qThen ?_
 refine stFalse rfl ?_
 refine stSkip ?_
 refine qThen ?_
 refine stSeq ?_
 refine reg ?_
 refine li rfl (opVal (vP br 0) rfl (by kernel_rfl) (rMove rfl rfl) ?_)
 refine li rfl (opVal (vI n) rfl (by kernel_rfl) (rMove rfl rfl) ?_)
 refine li rfl ?_
 refine opCall 107 #[(vP br 0), (vI n)] rfl (by kernel_rfl) (fun _ => by kernel_rfl) (fun w hM => ?_)
 refine (take_few br D m last n 0 w A c (hM.at (i := 0) rfl) hl (by omega) (by omega) hc hf).mono ?_
 rintro e w' ⟨rfl, hf2, ha2⟩
 have hM' := hM.swap 0 (c' := cAt br 146 [(vL A D c), (vI m), (vI last), (.int .i64 0)]) rfl hf2 ha2 (fun b hb => .inl hb) (by simp [cAt])
 refine ⟨_, _, rfl, hM', ?_⟩
 refine li rfl (opVal (.slice none 0 0) rfl (by kernel_rfl) (rClosed fun _ => by kernel_rfl) ?_)
 refine li rfl (opVal (.int .i64 3) rfl (by kernel_rfl) (rClosed fun _ => by kernel_rfl) ?_)
 refine li rfl (opVal (.slice none 0 0) rfl (by kernel_rfl) (rAssign rfl rfl) ?_)
 refine li rfl (opVal (.int .i64 3) rfl (by kernel_rfl) (rAssign rfl rfl) ?_)
 refine liNil ?_
 refine qThen ?_
 refine stRet ?_
 refine stEnd [(.slice none 0 0), (.int .i64 3)] rfl ⟨rfl, rfl, trivial⟩ (fun w hM => ?_)
 exact ⟨rfl, hM.fr, ⟨_, hM.at (i := 0) rfl⟩⟩
theorem blk_big (br : Nat) (D : List UInt8) (off last most : Nat) (w : World) (A : Option Addr) (c : Nat) (ha : At w br 146 [.slice A D.length c, Value.int .i64 ((off : Nat) : Int), Value.int .i64 (last : Int), Value.int .i64 0]) (hown : w.ownsRow 0 5 1 (.slice A D.length c) D.length (B8 D)) (hl : D.length ≤ 4294967296) (ho : off ≤ D.length) (hm : most ≤ 4294967296) (n m : Nat) (hd : rdNum D off = some (n, m)) (hn : most < n) :
  Calls Tryz.prog 104 #[Value.pointer (some ⟨br, 0, none⟩), Value.int .i64 (most : Int)] w fun e w' => e = .returned (.tuple #[.slice none 0 0, Value.int .i64 2]) ∧ Fr [br] w w' ∧ ∃ off' : Nat, At w' br 146 [.slice A D.length c, Value.int .i64 ((off' : Nat) : Int), Value.int .i64 (last : Int), Value.int .i64 0] := by
 have HA := Lib.hid ha
 have HO := Lib.hid hown
 have hc : D.length ≤ c := ownCap hown
 have HNB : Hid (∀ g, (Value.slice A D.length c).ownBlock = some g → g ∉ [br]) := fun g hg => by
  have h1 := own_at_ne hown ha (by decide)
  simp only [List.mem_singleton]
  rintro rfl
  exact h1 hg.symm
 clear ha hown
 refine stEnter (args := [Value.pointer (some ⟨br, 0, none⟩), Value.int .i64 (most : Int)]) [br] Tryz.func104 rfl 22 rfl [(0, Value.pointer (some ⟨br, 0, none⟩)), (1, Value.int .i64 (most : Int))] ⟨rfl, rfl, trivial⟩ [cAt br 146 [(vL A D c), (vI off), (vI last), (.int .i64 0)]] (Mm.one HA.out) ?_
 refine stSeq ?_
 refine reg ?_
 refine li rfl (opVal (.slice none 0 0) rfl (by kernel_rfl) (rAssign rfl rfl) ?_)
 refine li rfl (opVal (.int .i64 0) rfl (by kernel_rfl) (rAssign rfl rfl) ?_)
 refine liNil ?_
 refine qThen ?_
 refine stSeq ?_
 refine reg ?_
 refine li rfl (opVal (vP br 0) rfl (by kernel_rfl) (rMove rfl rfl) ?_)
 refine li rfl (opVal (vI most) rfl (by kernel_rfl) (rMove rfl rfl) ?_)
 refine li rfl ?_
 refine opCall 86 #[(vP br 0), (vI most)] rfl (by kernel_rfl) (fun _ => by kernel_rfl) (fun w hM => ?_)
 refine (limited_any (X := (A, c)) br D off last (most : Int) w ⟨A, c, rfl, hM.at (i := 0) rfl, ownsRow_fr HO.out hM.fr HNB.out⟩ ho hl ⟨by omega, by omega⟩).mono ?_
 intro e w' h
 unfold LimRes at h; rw [hd] at h; dsimp only at h
 rw [if_pos (by omega)] at h
 obtain ⟨hf2, rfl, off', A', c', hX', ha2, _⟩ := h
 obtain ⟨rfl, rfl⟩ : A = A' ∧ c = c' := by simpa using hX'
 have hM' := hM.swap 0 (c' := cAt br 146 [(vL A D c), (vI off'), (vI last), (.int .i64 0)]) rfl hf2 ha2 (fun b hb => .inl hb) (by simp [cAt])
 refine ⟨_, _, rfl, hM', ?_⟩
 refine li rfl (opVal (.tuple #[(.int .i64 0), (.int .i64 2)]) rfl (by kernel_rfl) (rMove rfl rfl) ?_)
 refine li rfl (opVal (.int .i64 0) rfl (by kernel_rfl) (rClosed fun _ => by kernel_rfl) ?_)
 refine li rfl (opVal (.int .i64 2) rfl (by kernel_rfl) (rClosed fun _ => by kernel_rfl) ?_)
 refine li rfl (opVal (.int .i64 0) rfl (by kernel_rfl) (rAssign rfl rfl) ?_)
 refine li rfl (opVal (.int .i64 2) rfl (by kernel_rfl) (rAssign rfl rfl) ?_)
 refine liNil ?_
 refine qThen ?_
 refine stSeq ?_
 refine stSeq ?_
 refine reg ?_
 refine li rfl (opVal (.int .i64 2) rfl (by kernel_rfl) (rMove rfl rfl) ?_)
 refine li rfl (opVal (.bool true) rfl (by kernel_rfl) (rClosed fun _ => by kernel_rfl) ?_)
 refine liNil ?_
 refine qThen ?_
 refine stTrue rfl ?_
 refine stSeq ?_
 refine reg ?_
 refine li rfl (opVal (.int .i64 2) rfl (by kernel_rfl) (rMove rfl rfl) ?_)
 refine li rfl (opVal (.slice none 0 0) rfl (by kernel_rfl) (rAssign rfl rfl) ?_)
 refine li rfl (opVal (.int .i64 2) rfl (by kernel_rfl) (rAssign rfl rfl) ?_)
 refine liNil ?_
 refine qThen ?_
 refine stRet ?_
 refine qThenR ?_
 refine stEnd [(.slice none 0 0), (.int .i64 2)] rfl ⟨rfl, rfl, trivial⟩ (fun w hM => ?_)
 exact ⟨rfl, hM.fr, ⟨_, hM.at (i := 0) rfl⟩⟩
theorem blk_none (br : Nat) (D : List UInt8) (off last most : Nat) (w : World) (A : Option Addr) (c : Nat) (ha : At w br 146 [.slice A D.length c, Value.int .i64 ((off : Nat) : Int), Value.int .i64 (last : Int), Value.int .i64 0]) (hown : w.ownsRow 0 5 1 (.slice A D.length c) D.length (B8 D)) (hl : D.length ≤ 4294967296) (ho : off ≤ D.length) (hm : most ≤ 4294967296) (hd : rdNum D off = none) :
  Calls Tryz.prog 104 #[Value.pointer (some ⟨br, 0, none⟩), Value.int .i64 (most : Int)] w fun e w' => e = .returned (.tuple #[.slice none 0 0, Value.int .i64 3]) ∧ Fr [br] w w' ∧ ∃ off' : Nat, At w' br 146 [.slice A D.length c, Value.int .i64 ((off' : Nat) : Int), Value.int .i64 (last : Int), Value.int .i64 0] := by
 have HA := Lib.hid ha
 have HO := Lib.hid hown
 have hc : D.length ≤ c := ownCap hown
 have HNB : Hid (∀ g, (Value.slice A D.length c).ownBlock = some g → g ∉ [br]) := fun g hg => by
  have h1 := own_at_ne hown ha (by decide)
  simp only [List.mem_singleton]
  rintro rfl
  exact h1 hg.symm
 clear ha hown
 refine stEnter (args := [Value.pointer (some ⟨br, 0, none⟩), Value.int .i64 (most : Int)]) [br] Tryz.func104 rfl 22 rfl [(0, Value.pointer (some ⟨br, 0, none⟩)), (1, Value.int .i64 (most : Int))] ⟨rfl, rfl, trivial⟩ [cAt br 146 [(vL A D c), (vI off), (vI last), (.int .i64 0)]] (Mm.one HA.out) ?_
 refine stSeq ?_
 refine reg ?_
 refine li rfl (opVal (.slice none 0 0) rfl (by kernel_rfl) (rAssign rfl rfl) ?_)
 refine li rfl (opVal (.int .i64 0) rfl (by kernel_rfl) (rAssign rfl rfl) ?_)
 refine liNil ?_
 refine qThen ?_
 refine stSeq ?_
 refine reg ?_
 refine li rfl (opVal (vP br 0) rfl (by kernel_rfl) (rMove rfl rfl) ?_)
 refine li rfl (opVal (vI most) rfl (by kernel_rfl) (rMove rfl rfl) ?_)
 refine li rfl ?_
 refine opCall 86 #[(vP br 0), (vI most)] rfl (by kernel_rfl) (fun _ => by kernel_rfl) (fun w hM => ?_)
 refine (limited_any (X := (A, c)) br D off last (most : Int) w ⟨A, c, rfl, hM.at (i := 0) rfl, ownsRow_fr HO.out hM.fr HNB.out⟩ ho hl ⟨by omega, by omega⟩).mono ?_
 intro e w' h
 unfold LimRes at h; rw [hd] at h; dsimp only at h
 obtain ⟨hf2, rfl, off', A', c', hX', ha2, _⟩ := h
 obtain ⟨rfl, rfl⟩ : A = A' ∧ c = c' := by simpa using hX'
 have hM' := hM.swap 0 (c' := cAt br 146 [(vL A D c), (vI off'), (vI last), (.int .i64 0)]) rfl hf2 ha2 (fun b hb => .inl hb) (by simp [cAt])
 refine ⟨_, _, rfl, hM', ?_⟩
 refine li rfl (opVal (.tuple #[(.int .i64 0), (.int .i64 3)]) rfl (by kernel_rfl) (rMove rfl rfl) ?_)
 refine li rfl (opVal (.int .i64 0) rfl (by kernel_rfl) (rClosed fun _ => by kernel_rfl) ?_)
 refine li rfl (opVal (.int .i64 3) rfl (by kernel_rfl) (rClosed fun _ => by kernel_rfl) ?_)
 refine li rfl (opVal (.int .i64 0) rfl (by kernel_rfl) (rAssign rfl rfl) ?_)
 refine li rfl (opVal (.int .i64 3) rfl (by kernel_rfl) (rAssign rfl rfl) ?_)
 refine liNil ?_
 refine qThen ?_
 refine stSeq ?_
 refine stSeq ?_
 refine reg ?_
 refine li rfl (opVal (.int .i64 3) rfl (by kernel_rfl) (rMove rfl rfl) ?_)
 refine li rfl (opVal (.bool true) rfl (by kernel_rfl) (rClosed fun _ => by kernel_rfl) ?_)
 refine liNil ?_
 refine qThen ?_
 refine stTrue rfl ?_
 refine stSeq ?_
 refine reg ?_
 refine li rfl (opVal (.int .i64 3) rfl (by kernel_rfl) (rMove rfl rfl) ?_)
 refine li rfl (opVal (.slice none 0 0) rfl (by kernel_rfl) (rAssign rfl rfl) ?_)
 refine li rfl (opVal (.int .i64 3) rfl (by kernel_rfl) (rAssign rfl rfl) ?_)
 refine liNil ?_
 refine qThen ?_
 refine stRet ?_
 refine qThenR ?_
 refine stEnd [(.slice none 0 0), (.int .i64 3)] rfl ⟨rfl, rfl, trivial⟩ (fun w hM => ?_)
 exact ⟨rfl, hM.fr, ⟨_, hM.at (i := 0) rfl⟩⟩
theorem txtc_ok (bx by_ br : Nat) (D : List UInt8) (off last most : Nat) (w : World) (hx0 : At w bx 114 [Value.pointer (some ⟨br, 0, none⟩)]) (hy0 : At w by_ 3 [Value.int .i64 (most : Int)]) (hr : ReaderAt X w br D off last 0) (hl : D.length ≤ 4294967296) (ho : off ≤ D.length) (hm : most ≤ 4294967296) (n m : Nat) (hd : rdNum D off = some (n, m)) (hn : n ≤ most) (hf : m + n ≤ D.length) :
  Calls Tryz.prog 103 #[Value.pointer (some ⟨bx, 0, none⟩), Value.pointer (some ⟨by_, 0, none⟩)] w fun e w' => e = .returned (.tuple #[.string (strOf ((D.drop m).take n)), Value.int .i64 0]) ∧ Fr [br] w w' ∧ ReaderAt X w' br D (m + n) last 0 := by
 obtain ⟨A, c, hX, ha, hown⟩ := hr
 have hx : w.cell? ⟨bx, 0, none⟩ = some (Value.pointer (some ⟨br, 0, none⟩)) := by rw [hx0.cell]; rfl
 have hxb : bx ≠ br := hx0.ne ha (by decide)
 have hy : w.cell? ⟨by_, 0, none⟩ = some (Value.int .i64 (most : Int)) := by rw [hy0.cell]; rfl
 have hyb : by_ ≠ br := hy0.ne ha (by decide)
 have HA := Lib.hid ha
 have HO := Lib.hid hown
 have HR : Hid (RowIn w A (B8 D)) := RowIn.of_own hown
 have hc : D.length ≤ c := ownCap hown
 have HNB : Hid (∀ g, (Value.slice A D.length c).ownBlock = some g → g ∉ [br]) := fun g hg => by
  have h1 := own_at_ne hown ha (by decide)
  simp only [List.mem_singleton]
  rintro rfl
  exact h1 hg.symm
 have HNE : Hid (∀ b o, A = some ⟨b, o, none⟩ → b ∉ [br]) := fun b o hA => HNB.out b (by rw [hA]; rfl)
 clear ha hown hx0 hy0
 refine stEnter (args := [Value.pointer (some ⟨bx, 0, none⟩), Value.pointer (some ⟨by_, 0, none⟩)]) [br] Tryz.func103 rfl 15 rfl [(0, Value.pointer (some ⟨bx, 0, none⟩)), (1, Value.pointer (some ⟨by_, 0, none⟩))] ⟨rfl, rfl, trivial⟩ [cAt br 146 [(vL A D c), (vI off), (vI last), (.int .i64 0)]] (Mm.one HA.out) ?_
 refine stSeq ?_
 refine reg ?_
 refine li rfl (opVal (.string ⟨#[]⟩) rfl (by kernel_rfl) (rAssign rfl rfl) ?_)
 refine li rfl (opVal (.int .i64 0) rfl (by kernel_rfl) (rAssign rfl rfl) ?_)
 refine liNil ?_
 refine qThen ?_
 refine stSeq ?_
 refine reg ?_
 refine li rfl (opVal (vP br 0) rfl (by kernel_rfl) (rLoadW rfl rfl (by kernel_rfl) (fun w hM => hM.old hx (by simpa using hxb))) ?_)
 refine li rfl (opVal (vI most) rfl (by kernel_rfl) (rLoadW rfl rfl (by kernel_rfl) (fun w hM => hM.old hy (by simpa using hyb))) ?_)
 refine li rfl ?_
 refine opCall 104 #[(vP br 0), (vI most)] rfl (by kernel_rfl) (fun _ => by kernel_rfl) (fun w hM => ?_)
 refine (blk_ok br D off last most w A c (hM.at (i := 0) rfl) (ownsRow_fr HO.out hM.fr HNB.out) hl ho hm n m hd hn hf).mono ?_
 rintro e w' ⟨rfl, hf2, ha2⟩
 have hM' := hM.swap 0 (c' := cAt br 146 [(vL A D c), (vI (m + n)), (vI last), (.int .i64 0)]) rfl hf2 ha2 (fun b hb => .inl hb) (by simp [cAt])
 refine ⟨_, _, rfl, hM', ?_⟩
 refine li rfl (opVal (.tuple #[(.slice (if c = m then A else A.map (·.add (m * 1))) (n) (c - m)), (.int .i64 0)]) rfl (by kernel_rfl) (rMove rfl rfl) ?_)
 refine li rfl (opVal (.slice (if c = m then A else A.map (·.add (m * 1))) (n) (c - m)) rfl (by kernel_rfl) (rClosed fun _ => by kernel_rfl) ?_)
 refine li rfl (opVal (.int .i64 0) rfl (by kernel_rfl) (rClosed fun _ => by kernel_rfl) ?_)
 refine li rfl (opVal (.slice (if c = m then A else A.map (·.add (m * 1))) (n) (c - m)) rfl (by kernel_rfl) (rAssign rfl rfl) ?_)
 refine li rfl (opVal (.int .i64 0) rfl (by kernel_rfl) (rAssign rfl rfl) ?_)
 refine liNil ?_
 refine qThen ?_
 refine stSeq ?_
 refine reg ?_
 refine li rfl (opVal (.slice (if c = m then A else A.map (·.add (m * 1))) (n) (c - m)) rfl (by kernel_rfl) (rMove rfl rfl) ?_)
 refine li rfl (opVal (vS ((D.drop m).take n)) rfl (by kernel_rfl) (rStr (e := 5) ((D.drop m).take n) rfl (by kernel_rfl) (by kernel_rfl) (by kernel_rfl) rfl (by rw [List.length_take, List.length_drop, Nat.min_eq_left (by omega)]) (fun w hM => rowPart (HR.out.fr hM.fr HNE.out) (by rw [B8_length]; exact hc))) ?_)
 refine li rfl (opVal (.int .i64 0) rfl (by kernel_rfl) (rMove rfl rfl) ?_)
 refine li rfl (opVal (vS ((D.drop m).take n)) rfl (by kernel_rfl) (rAssign rfl rfl) ?_)
 refine li rfl (opVal (.int .i64 0) rfl (by kernel_rfl) (rAssign rfl rfl) ?_)
 refine liNil ?_
 refine qThen ?_
 refine stRet ?_
 refine stEnd [(vS ((D.drop m).take n)), (.int .i64 0)] rfl ⟨rfl, rfl, trivial⟩ (fun w hM => ?_)
 exact ⟨rfl, hM.fr, A, c, hX, hM.at (i := 0) rfl, ownsRow_fr HO.out hM.fr HNB.out⟩
theorem txtc_few (bx by_ br : Nat) (D : List UInt8) (off last most : Nat) (w : World) (hx0 : At w bx 114 [Value.pointer (some ⟨br, 0, none⟩)]) (hy0 : At w by_ 3 [Value.int .i64 (most : Int)]) (hr : ReaderAt X w br D off last 0) (hl : D.length ≤ 4294967296) (ho : off ≤ D.length) (hm : most ≤ 4294967296) (n m : Nat) (hd : rdNum D off = some (n, m)) (hn : n ≤ most) (hf : D.length < m + n) :
  Calls Tryz.prog 103 #[Value.pointer (some ⟨bx, 0, none⟩), Value.pointer (some ⟨by_, 0, none⟩)] w fun e w' => e = .returned (.tuple #[.string (strOf []), Value.int .i64 3]) ∧ Fr [br] w w' ∧ ∃ off' : Nat, ReaderAt X w' br D off' last 0 := by
 obtain ⟨A, c, hX, ha, hown⟩ := hr
 have hx : w.cell? ⟨bx, 0, none⟩ = some (Value.pointer (some ⟨br, 0, none⟩)) := by rw [hx0.cell]; rfl
 have hxb : bx ≠ br := hx0.ne ha (by decide)
 have hy : w.cell? ⟨by_, 0, none⟩ = some (Value.int .i64 (most : Int)) := by rw [hy0.cell]; rfl
 have hyb : by_ ≠ br := hy0.ne ha (by decide)
 have HA := Lib.hid ha
 have HO := Lib.hid hown
 have HR : Hid (RowIn w A (B8 D)) := RowIn.of_own hown
 have hc : D.length ≤ c := ownCap hown
 have HNB : Hid (∀ g, (Value.slice A D.length c).ownBlock = some g → g ∉ [br]) := fun g hg => by
  have h1 := own_at_ne hown ha (by decide)
  simp only [List.mem_singleton]
  rintro rfl
  exact h1 hg.symm
 have HNE : Hid (∀ b o, A = some ⟨b, o, none⟩ → b ∉ [br]) := fun b o hA => HNB.out b (by rw [hA]; rfl)
 clear ha hown hx0 hy0
 refine stEnter (args := [Value.pointer (some ⟨bx, 0, none⟩), Value.pointer (some ⟨by_, 0, none⟩)]) [br] Tryz.func103 rfl 15 rfl [(0, Value.pointer (some ⟨bx, 0, none⟩)), (1, Value.pointer (some ⟨by_, 0, none⟩))] ⟨rfl, rfl, trivial⟩ [cAt br 146 [(vL A D c), (vI off), (vI last), (.int .i64 0)]] (Mm.one HA.out) ?_
 refine stSeq ?_
 refine reg ?_
 refine li rfl (opVal (.string ⟨#[]⟩) rfl (by kernel_rfl) (rAssign rfl rfl) ?_)
 refine li rfl (opVal (.int .i64 0) rfl (by kernel_rfl) (rAssign rfl rfl) ?_)
 refine liNil ?_
 refine qThen ?_
 refine stSeq ?_
 refine reg ?_
 refine li rfl (opVal (vP br 0) rfl (by kernel_rfl) (rLoadW rfl rfl (by kernel_rfl) (fun w hM => hM.old hx (by simpa using hxb))) ?_)
 refine li rfl (opVal (vI most) rfl (by kernel_rfl) (rLoadW rfl rfl (by kernel_rfl) (fun w hM => hM.old hy (by simpa using hyb))) ?_)
 refine li rfl ?_
 refine opCall 104 #[(vP br 0), (vI most)] rfl (by kernel_rfl) (fun _ => by kernel_rfl) (fun w hM => ?_)
 refine (blk_few br D off last most w A c (hM.at (i := 0) rfl) (ownsRow_fr HO.out hM.fr HNB.out) hl ho hm n m hd hn hf).mono ?_
 rintro e w' ⟨rfl, hf2, off', ha2⟩
 have hM' := hM.swap 0 (c' := cAt br 146 [(vL A D c), (vI off'), (vI last), (.int .i64 0)]) rfl hf2 ha2 (fun b hb => .inl hb) (by simp [cAt])
 refine ⟨_, _, rfl, hM', ?_⟩
 refine li rfl (opVal (.tuple #[(.slice none 0 0), (.int .i64 3)]) rfl (by kernel_rfl) (rMove rfl rfl) ?_)
 refine li rfl (opVal (.slice none 0 0) rfl (by kernel_rfl) (rClosed fun _ => by kernel_rfl) ?_)
 refine li rfl (opVal (.int .i64 3) rfl (by kernel_rfl) (rClosed fun _ => by kernel_rfl) ?_)
 refine li rfl (opVal (.slice none 0 0) rfl (by kernel_rfl) (rAssign rfl rfl) ?_)
 refine li rfl (opVal (.int .i64 3) rfl (by kernel_rfl) (rAssign rfl rfl) ?_)
 refine liNil ?_
 refine qThen ?_
 refine stSeq ?_
 refine reg ?_
 refine li rfl (opVal (.slice none 0 0) rfl (by kernel_rfl) (rMove rfl rfl) ?_)
 refine li rfl (opVal (vS []) rfl (by kernel_rfl) (rStr (e := 5) [] rfl (by kernel_rfl) (by kernel_rfl) (by kernel_rfl) rfl rfl (fun w hM j v hj => by simp [B8] at hj)) ?_)
 refine li rfl (opVal (.int .i64 3) rfl (by kernel_rfl) (rMove rfl rfl) ?_)
 refine li rfl (opVal (vS []) rfl (by kernel_rfl) (rAssign rfl rfl) ?_)
 refine li rfl (opVal (.int .i64 3) rfl (by kernel_rfl) (rAssign rfl rfl) ?_)
 refine liNil ?_
 refine qThen ?_
 refine stRet ?_
 refine stEnd [(vS []), (.int .i64 3)] rfl ⟨rfl, rfl, trivial⟩ (fun w hM => ?_)
 exact ⟨rfl, hM.fr, _, A, c, hX, hM.at (i := 0) rfl, ownsRow_fr HO.out hM.fr HNB.out⟩
theorem txtc_big (bx by_ br : Nat) (D : List UInt8) (off last most : Nat) (w : World) (hx0 : At w bx 114 [Value.pointer (some ⟨br, 0, none⟩)]) (hy0 : At w by_ 3 [Value.int .i64 (most : Int)]) (hr : ReaderAt X w br D off last 0) (hl : D.length ≤ 4294967296) (ho : off ≤ D.length) (hm : most ≤ 4294967296) (n m : Nat) (hd : rdNum D off = some (n, m)) (hn : most < n) :
  Calls Tryz.prog 103 #[Value.pointer (some ⟨bx, 0, none⟩), Value.pointer (some ⟨by_, 0, none⟩)] w fun e w' => e = .returned (.tuple #[.string (strOf []), Value.int .i64 2]) ∧ Fr [br] w w' ∧ ∃ off' : Nat, ReaderAt X w' br D off' last 0 := by
 obtain ⟨A, c, hX, ha, hown⟩ := hr
 have hx : w.cell? ⟨bx, 0, none⟩ = some (Value.pointer (some ⟨br, 0, none⟩)) := by rw [hx0.cell]; rfl
 have hxb : bx ≠ br := hx0.ne ha (by decide)
 have hy : w.cell? ⟨by_, 0, none⟩ = some (Value.int .i64 (most : Int)) := by rw [hy0.cell]; rfl
 have hyb : by_ ≠ br := hy0.ne ha (by decide)
 have HA := Lib.hid ha
 have HO := Lib.hid hown
 have HR : Hid (RowIn w A (B8 D)) := RowIn.of_own hown
 have hc : D.length ≤ c := ownCap hown
 have HNB : Hid (∀ g, (Value.slice A D.length c).ownBlock = some g → g ∉ [br]) := fun g hg => by
  have h1 := own_at_ne hown ha (by decide)
  simp only [List.mem_singleton]
  rintro rfl
  exact h1 hg.symm
 have HNE : Hid (∀ b o, A = some ⟨b, o, none⟩ → b ∉ [br]) := fun b o hA => HNB.out b (by rw [hA]; rfl)
 clear ha hown hx0 hy0
 refine stEnter (args := [Value.pointer (some ⟨bx, 0, none⟩), Value.pointer (some ⟨by_, 0, none⟩)]) [br] Tryz.func103 rfl 15 rfl [(0, Value.pointer (some ⟨bx, 0, none⟩)), (1, Value.pointer (some ⟨by_, 0, none⟩))] ⟨rfl, rfl, trivial⟩ [cAt br 146 [(vL A D c), (vI off), (vI last), (.int .i64 0)]] (Mm.one HA.out) ?_
 refine stSeq ?_
 refine reg ?_
 refine li rfl (opVal (.string ⟨#[]⟩) rfl (by kernel_rfl) (rAssign rfl rfl) ?_)
 refine li rfl (opVal (.int .i64 0) rfl (by kernel_rfl) (rAssign rfl rfl) ?_)
 refine liNil ?_
 refine qThen ?_
 refine stSeq ?_
 refine reg ?_
 refine li rfl (opVal (vP br 0) rfl (by kernel_rfl) (rLoadW rfl rfl (by kernel_rfl) (fun w hM => hM.old hx (by simpa using hxb))) ?_)
 refine li rfl (opVal (vI most) rfl (by kernel_rfl) (rLoadW rfl rfl (by kernel_rfl) (fun w hM => hM.old hy (by simpa using hyb))) ?_)
 refine li rfl ?_
 refine opCall 104 #[(vP br 0), (vI most)] rfl (by kernel_rfl) (fun _ => by kernel_rfl) (fun w hM => ?_)
 refine (blk_big br D off last most w A c (hM.at (i := 0) rfl) (ownsRow_fr HO.out hM.fr HNB.out) hl ho hm n m hd hn).mono ?_
 rintro e w' ⟨rfl, hf2, off', ha2⟩
 have hM' := hM.swap 0 (c' := cAt br 146 [(vL A D c), (vI off'), (vI last), (.int .i64 0)]) rfl hf2 ha2 (fun b hb => .inl hb) (by simp [cAt])
 refine ⟨_, _, rfl, hM', ?_⟩
 refine li rfl (opVal (.tuple #[(.slice none 0 0), (.int .i64 2)]) rfl (by kernel_rfl) (rMove rfl rfl) ?_)
 refine li rfl (opVal (.slice none 0 0) rfl (by kernel_rfl) (rClosed fun _ => by kernel_rfl) ?_)
 refine li rfl (opVal (.int .i64 2) rfl (by kernel_rfl) (rClosed fun _ => by kernel_rfl) ?_)
 refine li rfl (opVal (.slice none 0 0) rfl (by kernel_rfl) (rAssign rfl rfl) ?_)
 refine li rfl (opVal (.int .i64 2) rfl (by kernel_rfl) (rAssign rfl rfl) ?_)
 refine liNil ?_
 refine qThen ?_
 refine stSeq ?_
 refine reg ?_
 refine li rfl (opVal (.slice none 0 0) rfl (by kernel_rfl) (rMove rfl rfl) ?_)
 refine li rfl (opVal (vS []) rfl (by kernel_rfl) (rStr (e := 5) [] rfl (by kernel_rfl) (by kernel_rfl) (by kernel_rfl) rfl rfl (fun w hM j v hj => by simp [B8] at hj)) ?_)
 refine li rfl (opVal (.int .i64 2) rfl (by kernel_rfl) (rMove rfl rfl) ?_)
 refine li rfl (opVal (vS []) rfl (by kernel_rfl) (rAssign rfl rfl) ?_)
 refine li rfl (opVal (.int .i64 2) rfl (by kernel_rfl) (rAssign rfl rfl) ?_)
 refine liNil ?_
 refine qThen ?_
 refine stRet ?_
 refine stEnd [(vS []), (.int .i64 2)] rfl ⟨rfl, rfl, trivial⟩ (fun w hM => ?_)
 exact ⟨rfl, hM.fr, _, A, c, hX, hM.at (i := 0) rfl, ownsRow_fr HO.out hM.fr HNB.out⟩
theorem txtc_none (bx by_ br : Nat) (D : List UInt8) (off last most : Nat) (w : World) (hx0 : At w bx 114 [Value.pointer (some ⟨br, 0, none⟩)]) (hy0 : At w by_ 3 [Value.int .i64 (most : Int)]) (hr : ReaderAt X w br D off last 0) (hl : D.length ≤ 4294967296) (ho : off ≤ D.length) (hm : most ≤ 4294967296) (hd : rdNum D off = none) :
  Calls Tryz.prog 103 #[Value.pointer (some ⟨bx, 0, none⟩), Value.pointer (some ⟨by_, 0, none⟩)] w fun e w' => e = .returned (.tuple #[.string (strOf []), Value.int .i64 3]) ∧ Fr [br] w w' ∧ ∃ off' : Nat, ReaderAt X w' br D off' last 0 := by
 obtain ⟨A, c, hX, ha, hown⟩ := hr
 have hx : w.cell? ⟨bx, 0, none⟩ = some (Value.pointer (some ⟨br, 0, none⟩)) := by rw [hx0.cell]; rfl
 have hxb : bx ≠ br := hx0.ne ha (by decide)
 have hy : w.cell? ⟨by_, 0, none⟩ = some (Value.int .i64 (most : Int)) := by rw [hy0.cell]; rfl
 have hyb : by_ ≠ br := hy0.ne ha (by decide)
 have HA := Lib.hid ha
 have HO := Lib.hid hown
 have HR : Hid (RowIn w A (B8 D)) := RowIn.of_own hown
 have hc : D.length ≤ c := ownCap hown
 have HNB : Hid (∀ g, (Value.slice A D.length c).ownBlock = some g → g ∉ [br]) := fun g hg => by
  have h1 := own_at_ne hown ha (by decide)
  simp only [List.mem_singleton]
  rintro rfl
  exact h1 hg.symm
 have HNE : Hid (∀ b o, A = some ⟨b, o, none⟩ → b ∉ [br]) := fun b o hA => HNB.out b (by rw [hA]; rfl)
 clear ha hown hx0 hy0
 refine stEnter (args := [Value.pointer (some ⟨bx, 0, none⟩), Value.pointer (some ⟨by_, 0, none⟩)]) [br] Tryz.func103 rfl 15 rfl [(0, Value.pointer (some ⟨bx, 0, none⟩)), (1, Value.pointer (some ⟨by_, 0, none⟩))] ⟨rfl, rfl, trivial⟩ [cAt br 146 [(vL A D c), (vI off), (vI last), (.int .i64 0)]] (Mm.one HA.out) ?_
 refine stSeq ?_
 refine reg ?_
 refine li rfl (opVal (.string ⟨#[]⟩) rfl (by kernel_rfl) (rAssign rfl rfl) ?_)
 refine li rfl (opVal (.int .i64 0) rfl (by kernel_rfl) (rAssign rfl rfl) ?_)
 refine liNil ?_
 refine qThen ?_
 refine stSeq ?_
 refine reg ?_
 refine li rfl (opVal (vP br 0) rfl (by kernel_rfl) (rLoadW rfl rfl (by kernel_rfl) (fun w hM => hM.old hx (by simpa using hxb))) ?_)
 refine li rfl (opVal (vI most) rfl (by kernel_rfl) (rLoadW rfl rfl (by kernel_rfl) (fun w hM => hM.old hy (by simpa using hyb))) ?_)
 refine li rfl ?_
 refine opCall 104 #[(vP br 0), (vI most)] rfl (by kernel_rfl) (fun _ => by kernel_rfl) (fun w hM => ?_)
 refine (blk_none br D off last most w A c (hM.at (i := 0) rfl) (ownsRow_fr HO.out hM.fr HNB.out) hl ho hm hd).mono ?_
 rintro e w' ⟨rfl, hf2, off', ha2⟩
 have hM' := hM.swap 0 (c' := cAt br 146 [(vL A D c), (vI off'), (vI last), (.int .i64 0)]) rfl hf2 ha2 (fun b hb => .inl hb) (by simp [cAt])
 refine ⟨_, _, rfl, hM', ?_⟩
 refine li rfl (opVal (.tuple #[(.slice none 0 0), (.int .i64 3)]) rfl (by kernel_rfl) (rMove rfl rfl) ?_)
 refine li rfl (opVal (.slice none 0 0) rfl (by kernel_rfl) (rClosed fun _ => by kernel_rfl) ?_)
 refine li rfl (opVal (.int .i64 3) rfl (by kernel_rfl) (rClosed fun _ => by kernel_rfl) ?_)
 refine li rfl (opVal (.slice none 0 0) rfl (by kernel_rfl) (rAssign rfl rfl) ?_)
 refine li rfl (opVal (.int .i64 3) rfl (by kernel_rfl) (rAssign rfl rfl) ?_)
 refine liNil ?_
 refine qThen ?_
 refine stSeq ?_
 refine reg ?_
 refine li rfl (opVal (.slice none 0 0) rfl (by kernel_rfl) (rMove rfl rfl) ?_)
 refine li rfl (opVal (vS []) rfl (by kernel_rfl) (rStr (e := 5) [] rfl (by kernel_rfl) (by kernel_rfl) (by kernel_rfl) rfl rfl (fun w hM j v hj => by simp [B8] at hj)) ?_)
 refine li rfl (opVal (.int .i64 3) rfl (by kernel_rfl) (rMove rfl rfl) ?_)
 refine li rfl (opVal (vS []) rfl (by kernel_rfl) (rAssign rfl rfl) ?_)
 refine li rfl (opVal (.int .i64 3) rfl (by kernel_rfl) (rAssign rfl rfl) ?_)
 refine liNil ?_
 refine qThen ?_
 refine stRet ?_
 refine stEnd [(vS []), (.int .i64 3)] rfl ⟨rfl, rfl, trivial⟩ (fun w hM => ?_)
 exact ⟨rfl, hM.fr, _, A, c, hX, hM.at (i := 0) rfl, ownsRow_fr HO.out hM.fr HNB.out⟩
theorem rvClose_ok_Txt (b0 b1 b2 br : Nat) (A : Option Addr) (n c : Nat) (off last start : Int) (w : World) (h0 : At w b0 3 [Value.int .i64 start]) (h1 : At w b1 114 [Value.pointer (some ⟨br, 0, none⟩)]) (hr : At w br 146 [.slice A n c, Value.int .i64 off, Value.int .i64 last, Value.int .i64 0]) :
  CallsD Tryz.prog 121 #[Value.pointer (some ⟨b0, 0, none⟩), Value.pointer (some ⟨b1, 0, none⟩), Value.pointer (some ⟨b2, 0, none⟩)] .returning w fun e u' w' => u' = .returning ∧ e = .returned (.tuple #[]) ∧ w' = w.setCell ⟨br, 2, none⟩ (Value.int .i64 start) := by
 have c0 : w.cell? ⟨b0, 0, none⟩ = some (Value.int .i64 start) := by rw [h0.cell]; rfl
 have c1 : w.cell? ⟨b1, 0, none⟩ = some (Value.pointer (some ⟨br, 0, none⟩)) := by rw [h1.cell]; rfl
 have c2 : w.cell? ⟨br, 2, none⟩ = some (Value.int .i64 last) := by rw [hr.cell]; rfl
 have c3 : w.cell? ⟨br, 3, none⟩ = some (Value.int .i64 0) := by rw [hr.cell]; rfl
 have z2 := hr.frozen 2
 have hne : b1 ≠ br := h1.ne hr (by decide)
 clear h0 h1 hr
 go_enter_d Tryz.func121, Tryz.ntmps121
 go_wp2_with fail
 go_end0
 exact ⟨rfl, rfl⟩
theorem rvClose_err_Txt (b0 b1 b2 br : Nat) (A : Option Addr) (n c : Nat) (off last start err : Int) (v : Value) (w : World) (h0 : At w b0 3 [Value.int .i64 start]) (h1 : At w b1 114 [Value.pointer (some ⟨br, 0, none⟩)]) (h2 : At w b2 9 [v]) (hr : At w br 146 [.slice A n c, Value.int .i64 off, Value.int .i64 last, Value.int .i64 err]) (he : err ≠ 0) (hb : b2 ≠ b0 ∧ b2 ≠ br) :
  CallsD Tryz.prog 121 #[Value.pointer (some ⟨b0, 0, none⟩), Value.pointer (some ⟨b1, 0, none⟩), Value.pointer (some ⟨b2, 0, none⟩)] .returning w fun e u' w' => u' = .returning ∧ e = .returned (.tuple #[]) ∧ w' = ((w.setCell ⟨br, 2, none⟩ (Value.int .i64 start)).setCell ⟨br, 1, none⟩ (Value.int .i64 start)).setCell ⟨b2, 0, none⟩ (Value.string ⟨#[]⟩) := by
 have c0 : w.cell? ⟨b0, 0, none⟩ = some (Value.int .i64 start) := by rw [h0.cell]; rfl
 have c1 : w.cell? ⟨b1, 0, none⟩ = some (Value.pointer (some ⟨br, 0, none⟩)) := by rw [h1.cell]; rfl
 have cr1 : w.cell? ⟨br, 1, none⟩ = some (Value.int .i64 off) := by rw [hr.cell]; rfl
 have c2 : w.cell? ⟨br, 2, none⟩ = some (Value.int .i64 last) := by rw [hr.cell]; rfl
 have c3 : w.cell? ⟨br, 3, none⟩ = some (Value.int .i64 err) := by rw [hr.cell]; rfl
 have c4 : w.cell? ⟨b2, 0, none⟩ = some v := by rw [h2.cell]; rfl
 have z2 := hr.frozen 2
 have z1 := hr.frozen 1
 have z4 := h2.frozen 0
 have hne : b1 ≠ br := h1.ne hr (by decide)
 have hne2 : b2 ≠ br := hb.2
 have hne0 : b0 ≠ br := h0.ne hr (by decide)
 have heb : (err != 0) = true := by simpa using he
 clear h0 h1 hr h2 he hb
 go_enter_d Tryz.func121, Tryz.ntmps121
 go_wp2_with fail
 go_end0
 exact ⟨rfl, rfl⟩
set_option maxHeartbeats 4000000 in
theorem readTxt_some (br : Nat) (D : List UInt8) (off last m : Nat) (x : List UInt8) (bx by_ : Nat) (w : World) (hr : ReaderAt X w br D off last 0)
  (hdec : ∀ W, Fr [] w W → ReaderAt X W br D off last 0 → Calls Tryz.prog 103 #[Value.pointer (some ⟨bx, 0, none⟩), Value.pointer (some ⟨by_, 0, none⟩)] W fun e w' => e = .returned (.tuple #[Value.string (strOf x), Value.int .i64 0]) ∧ Fr [br] W w' ∧ ReaderAt X w' br D m last 0) :
  Calls Tryz.prog 102 #[Value.pointer (some ⟨br, 0, none⟩), .func (.func 103) #[] #[Value.pointer (some ⟨bx, 0, none⟩), Value.pointer (some ⟨by_, 0, none⟩)]] w fun e w' => e = .returned (Value.string (strOf x)) ∧ Fr [br] w w' ∧ ReaderAt X w' br D m off 0 := by
 obtain ⟨A, c, hX, ha, hrow⟩ := hr
 have c1 : w.cell? ⟨br, 1, none⟩ = some (Value.int .i64 (off : Int)) := by rw [ha.cell]; rfl
 have c3 : w.cell? ⟨br, 3, none⟩ = some (Value.int .i64 0) := by rw [ha.cell]; rfl
 have hlt := ha.lt
 have HR := Lib.hid (And.intro ha hrow)
 have HD := Lib.hid hdec
 clear ha hrow hdec
 have hmf : ∀ (fn : Fn) (first cap : Array Value) (w : World), (Instr.makeFunc fn first cap).run Tryz.prog w = .ok (.func fn first cap) w := fun _ _ _ _ => rfl
 go_enter_defers Tryz.func102, Tryz.ntmps102
 go_wp2_with fail
 obtain ⟨W, hW⟩ : ∃ W, W = ((w.alloc (Obj.cells #[Value.pointer (some ⟨br, 0, none⟩)] 114)).alloc (Obj.cells #[Value.string ⟨#[]⟩] 9)).alloc (Obj.cells #[Value.int .i64 (off : Int)] 3) := ⟨_, rfl⟩
 rw [← hW]
 have HW : Hid (At W w.heap.size 114 [Value.pointer (some ⟨br, 0, none⟩)] ∧ At W (w.heap.size + 1) 9 [Value.string ⟨#[]⟩] ∧ At W (w.heap.size + 1 + 1) 3 [Value.int .i64 (off : Int)] ∧ Fr [] w W ∧ ReaderAt X W br D off last 0) := by
  rw [hW]
  refine ⟨((At.new w 114 [Value.pointer (some ⟨br, 0, none⟩)]).alloc _).alloc _, ?_, ?_, (((Fr.refl _ _).alloc _).alloc _).alloc _, A, c, hX, ((HR.out.1.alloc _).alloc _).alloc _, ((HR.out.2.alloc _).alloc _).alloc _⟩
  ·have := (At.new (w.alloc (Obj.cells #[Value.pointer (some ⟨br, 0, none⟩)] 114)) 9 [Value.string ⟨#[]⟩]).alloc (Obj.cells #[Value.int .i64 (off : Int)] 3)
   simpa using this
  ·have := At.new ((w.alloc (Obj.cells #[Value.pointer (some ⟨br, 0, none⟩)] 114)).alloc (Obj.cells #[Value.string ⟨#[]⟩] 9)) 3 [Value.int .i64 (off : Int)]
   simpa using this
 clear hW c1 c3
 have d0 : W.cell? ⟨w.heap.size, 0, none⟩ = some (Value.pointer (some ⟨br, 0, none⟩)) := by rw [HW.out.1.cell]; rfl
 have nb1 : w.heap.size ≠ br := by omega
 have nb2 : br ≠ w.heap.size := by omega
 go_region_held3 (fun w' => w'.cell? ⟨w.heap.size, 0, none⟩ = some (Value.pointer (some ⟨br, 0, none⟩))) (go_keep) (first | (go_at_call 103; refine (HD.out W.drew (by exact HW.out.2.2.2.1.drew) (by exact HW.out.2.2.2.2)).mono ?_; rintro e w1 ⟨rfl, hf1, hr1⟩; obtain ⟨e0, e1, z1, e3, z3⟩ := rv_cells (W := W) HW.out.1 HW.out.2.1 HW.out.2.2.2.2 hf1 hr1; have H1 := Lib.hid (And.intro hf1 hr1); clear hf1 hr1))
 go_wp2_with fail
 obtain ⟨k0, k1, k2, k3, kf⟩ := rv_end HW.out.1 HW.out.2.1 HW.out.2.2.1 HW.out.2.2.2.2 H1.out.1 H1.out.2 (Value.string (strOf x)) (Value.int .i64 0) (by omega) (by decide)
 refine leaves_cons (f := 121) (args := #[Value.pointer (some ⟨w.heap.size + 1 + 1, 0, none⟩), Value.pointer (some ⟨w.heap.size, 0, none⟩), Value.pointer (some ⟨w.heap.size + 1, 0, none⟩)]) (by simp) (by simp [go_sem]) ?_
 obtain ⟨A', c', hX', k3'⟩ := k3
 refine (rvClose_ok_Txt _ _ _ br A' _ c' _ _ _ _ k2 k0 k3'.1).mono ?_
 rintro e u' w'' ⟨rfl, rfl, rfl⟩
 obtain ⟨g1, g2, g3⟩ := rv_done (off := off) HW.out.2.2.2.1 kf (by omega) k1 (by decide) k3'.1 k3'.2 hX'
 exact ⟨Value.string (strOf x), by simp [results, Tryz.results102, go_sem, g1], rfl, g2, g3⟩
set_option maxHeartbeats 4000000 in
theorem readTxt_none (br : Nat) (D : List UInt8) (off last : Nat) (er : Int) (x : List UInt8) (bx by_ : Nat) (w : World) (hr : ReaderAt X w br D off last 0) (he : er ≠ 0)
  (hdec : ∀ W, Fr [] w W → ReaderAt X W br D off last 0 → Calls Tryz.prog 103 #[Value.pointer (some ⟨bx, 0, none⟩), Value.pointer (some ⟨by_, 0, none⟩)] W fun e w' => e = .returned (.tuple #[Value.string (strOf x), Value.int .i64 er]) ∧ Fr [br] W w' ∧ ∃ off' : Nat, ReaderAt X w' br D off' last 0) :
  Calls Tryz.prog 102 #[Value.pointer (some ⟨br, 0, none⟩), .func (.func 103) #[] #[Value.pointer (some ⟨bx, 0, none⟩), Value.pointer (some ⟨by_, 0, none⟩)]] w fun e w' => e = .returned (Value.string ⟨#[]⟩) ∧ Fr [br] w w' ∧ ReaderAt X w' br D off off er := by
 have HE := Lib.hid he
 clear he
 obtain ⟨A, c, hX, ha, hrow⟩ := hr
 have c1 : w.cell? ⟨br, 1, none⟩ = some (Value.int .i64 (off : Int)) := by rw [ha.cell]; rfl
 have c3 : w.cell? ⟨br, 3, none⟩ = some (Value.int .i64 0) := by rw [ha.cell]; rfl
 have hlt := ha.lt
 have HR := Lib.hid (And.intro ha hrow)
 have HD := Lib.hid hdec
 clear ha hrow hdec
 have hmf : ∀ (fn : Fn) (first cap : Array Value) (w : World), (Instr.makeFunc fn first cap).run Tryz.prog w = .ok (.func fn first cap) w := fun _ _ _ _ => rfl
 go_enter_defers Tryz.func102, Tryz.ntmps102
 go_wp2_with fail
 obtain ⟨W, hW⟩ : ∃ W, W = ((w.alloc (Obj.cells #[Value.pointer (some ⟨br, 0, none⟩)] 114)).alloc (Obj.cells #[Value.string ⟨#[]⟩] 9)).alloc (Obj.cells #[Value.int .i64 (off : Int)] 3) := ⟨_, rfl⟩
 rw [← hW]
 have HW : Hid (At W w.heap.size 114 [Value.pointer (some ⟨br, 0, none⟩)] ∧ At W (w.heap.size + 1) 9 [Value.string ⟨#[]⟩] ∧ At W (w.heap.size + 1 + 1) 3 [Value.int .i64 (off : Int)] ∧ Fr [] w W ∧ ReaderAt X W br D off last 0) := by
  rw [hW]
  refine ⟨((At.new w 114 [Value.pointer (some ⟨br, 0, none⟩)]).alloc _).alloc _, ?_, ?_, (((Fr.refl _ _).alloc _).alloc _).alloc _, A, c, hX, ((HR.out.1.alloc _).alloc _).alloc _, ((HR.out.2.alloc _).alloc _).alloc _⟩
  ·have := (At.new (w.alloc (Obj.cells #[Value.pointer (some ⟨br, 0, none⟩)] 114)) 9 [Value.string ⟨#[]⟩]).alloc (Obj.cells #[Value.int .i64 (off : Int)] 3)
   simpa using this
  ·have := At.new ((w.alloc (Obj.cells #[Value.pointer (some ⟨br, 0, none⟩)] 114)).alloc (Obj.cells #[Value.string ⟨#[]⟩] 9)) 3 [Value.int .i64 (off : Int)]
   simpa using this
 clear hW c1 c3
 have d0 : W.cell? ⟨w.heap.size, 0, none⟩ = some (Value.pointer (some ⟨br, 0, none⟩)) := by rw [HW.out.1.cell]; rfl
 have nb1 : w.heap.size ≠ br := by omega
 have nb2 : br ≠ w.heap.size := by omega
 go_region_held3 (fun w' => w'.cell? ⟨w.heap.size, 0, none⟩ = some (Value.pointer (some ⟨br, 0, none⟩))) (go_keep) (first | (go_at_call 103; refine (HD.out W.drew (by exact HW.out.2.2.2.1.drew) (by exact HW.out.2.2.2.2)).mono ?_; rintro e w1 ⟨rfl, hf1, off', hr1⟩; obtain ⟨e0, e1, z1, e3, z3⟩ := rv_cells (W := W) HW.out.1 HW.out.2.1 HW.out.2.2.2.2 hf1 hr1; have H1 := Lib.hid (And.intro hf1 hr1); clear hf1 hr1))
 go_wp2_with fail
 obtain ⟨k0, k1, k2, k3, kf⟩ := rv_end HW.out.1 HW.out.2.1 HW.out.2.2.1 HW.out.2.2.2.2 H1.out.1 H1.out.2 (Value.string (strOf x)) (Value.int .i64 er) (by omega) (by decide)
 refine leaves_cons (f := 121) (args := #[Value.pointer (some ⟨w.heap.size + 1 + 1, 0, none⟩), Value.pointer (some ⟨w.heap.size, 0, none⟩), Value.pointer (some ⟨w.heap.size + 1, 0, none⟩)]) (by simp) (by simp [go_sem]) ?_
 obtain ⟨A', c', hX', k3'⟩ := k3
 refine (rvClose_err_Txt _ _ _ br A' _ c' _ _ _ er (Value.string (strOf x)) _ k2 k0 k1 k3'.1 HE.out (by omega)).mono ?_
 rintro e u' w'' ⟨rfl, rfl, rfl⟩
 obtain ⟨g1, g2, g3⟩ := rv_failed (off := off) (z := Value.string ⟨#[]⟩) HW.out.2.2.2.1 kf (by omega) k1 (by decide) (by decide) k3'.1 k3'.2 hX'
 exact ⟨Value.string ⟨#[]⟩, by simp [results, Tryz.results102, go_sem, g1], rfl, g2, g3⟩
theorem readTxt_err (br : Nat) (r : Rd) (fv : Value) (w : World) (hr : RdAt X w br r) (h0 : r.err ≠ 0) :
  Calls Tryz.prog 102 #[Value.pointer (some ⟨br, 0, none⟩), fv] w fun e w' => e = .returned (Value.string ⟨#[]⟩) ∧ Fr [] w w' ∧ RdAt X w' br r := by
 have hr0 := hr
 obtain ⟨A, c, hX, ha, hrow⟩ := hr
 have c3 : w.cell? ⟨br, 3, none⟩ = some (Value.int .i64 r.err) := by rw [ha.cell]; rfl
 have hb : (r.err != 0) = true := by simpa using h0
 have hlt := ha.lt
 have HR := Lib.hid hr0
 clear ha hrow hr0 h0
 go_enter_defers Tryz.func102, Tryz.ntmps102
 go_wp2_with fail
 have hf : Fr [] w ((w.alloc (Obj.cells #[Value.pointer (some ⟨br, 0, none⟩)] 114)).alloc (Obj.cells #[Value.string ⟨#[]⟩] 9)) := ((Fr.refl _ _).alloc _).alloc _
 exact ⟨Value.string ⟨#[]⟩, by simp [results, Tryz.results102, go_sem], rfl, hf, ReaderAt.fr HR.out hf⟩
def Rd.text (r : Rd) (most : Nat) : List UInt8 × Rd := if r.err = 0 then (match rdNum r.D r.off with
 | none => ([], r.fail 3)
 | some (n, m) => if most < n then ([], r.fail 2) else if m + n ≤ r.D.length then ((r.D.drop m).take n, r.done (m + n)) else ([], r.fail 3)) else ([], r)
theorem rText_err (br : Nat) (r : Rd) (most : Nat) (w : World) (hr : RdAt X w br r) (_hk : r.Ok) (_hm : most ≤ 4294967296) (h0 : r.err ≠ 0) :
  Calls Tryz.prog 87 #[Value.pointer (some ⟨br, 0, none⟩), Value.int .i64 (most : Int)] w fun e w' => e = .returned (vS ((r.text most).1)) ∧ Fr [br] w w' ∧ RdAt X w' br (r.text most).2 := by
 have HR := Lib.hid hr
 clear hr
 refine stEnter (args := [Value.pointer (some ⟨br, 0, none⟩), Value.int .i64 (most : Int)]) [] Tryz.func87 rfl 8 rfl [(0, Value.pointer (some ⟨br, 0, none⟩)), (1, Value.int .i64 (most : Int))] ⟨rfl, rfl, trivial⟩ [] (Mm.start w []) ?_
 refine stSeq ?_
 refine reg ?_
 refine li rfl ?_
 refine opBox [(vP br 0)] rfl rfl (by kernel_rfl) rfl rfl (fun b2 => ?_)
 refine li rfl ?_
 refine opBox [(vI most)] rfl rfl (by kernel_rfl) rfl rfl (fun b3 => ?_)
 refine li rfl (opVal (.string ⟨#[]⟩) rfl (by kernel_rfl) (rAssign rfl rfl) ?_)
 refine liNil ?_
 refine qThen ?_
 refine stSeq ?_
 refine reg ?_
 refine li rfl (opVal (vP br 0) rfl (by kernel_rfl) (rLoad 0 rfl rfl (by kernel_rfl) rfl rfl) ?_)
 refine li rfl (opVal (.func (.func 103) #[] #[(vP b2 0), (vP b3 0)]) rfl (by kernel_rfl) (rClosed fun _ => by kernel_rfl) ?_)
 refine li rfl ?_
 refine opCallB 102 #[(vP br 0), (.func (.func 103) #[] #[(vP b2 0), (vP b3 0)])] rfl (by kernel_rfl) (fun _ => by kernel_rfl) (fun w1 hM => ?_)
 have HR1 : Hid (RdAt X w1 br r) := ReaderAt.fr HR.out hM.fr
 have HB1 : Hid (At w1 b2 114 [Value.pointer (some ⟨br, 0, none⟩)]) := hM.at (i := 0) rfl
 have HB2 : Hid (At w1 b3 3 [Value.int .i64 (most : Int)]) := hM.at (i := 1) rfl
 have HF1 := Lib.hid hM.fr
 refine (readTxt_err br r _ w1 HR1.out h0).mono ?_
 rintro e w2 ⟨rfl, hf, hr2⟩
 refine ⟨_, w2, [], [], rfl, Mm.start w2 [], ?_⟩
 clear hM
 refine li rfl (opVal (.string ⟨#[]⟩) rfl (by kernel_rfl) (rAssign rfl rfl) ?_)
 refine liNil ?_
 refine qThen ?_
 refine stRet ?_
 refine stEnd [(.string ⟨#[]⟩)] rfl ⟨rfl, trivial⟩ (fun w hM => ?_)
 exact ⟨by unfold Rd.text; rw [if_neg h0]; rfl, ((HF1.out.trans hf).trans hM.fr).mono (by simp), by unfold Rd.text; rw [if_neg h0]; exact ReaderAt.fr hr2 hM.fr⟩
theorem rText_ok (br : Nat) (r : Rd) (most : Nat) (w : World) (hr : RdAt X w br r) (hk : r.Ok) (hm : most ≤ 4294967296) (h0 : r.err = 0) (n m : Nat) (hd : rdNum r.D r.off = some (n, m)) (hn : n ≤ most) (hf' : m + n ≤ r.D.length) :
  Calls Tryz.prog 87 #[Value.pointer (some ⟨br, 0, none⟩), Value.int .i64 (most : Int)] w fun e w' => e = .returned (vS ((r.text most).1)) ∧ Fr [br] w w' ∧ RdAt X w' br (r.text most).2 := by
 have HR := Lib.hid hr
 clear hr
 refine stEnter (args := [Value.pointer (some ⟨br, 0, none⟩), Value.int .i64 (most : Int)]) [] Tryz.func87 rfl 8 rfl [(0, Value.pointer (some ⟨br, 0, none⟩)), (1, Value.int .i64 (most : Int))] ⟨rfl, rfl, trivial⟩ [] (Mm.start w []) ?_
 refine stSeq ?_
 refine reg ?_
 refine li rfl ?_
 refine opBox [(vP br 0)] rfl rfl (by kernel_rfl) rfl rfl (fun b2 => ?_)
 refine li rfl ?_
 refine opBox [(vI most)] rfl rfl (by kernel_rfl) rfl rfl (fun b3 => ?_)
 refine li rfl (opVal (.string ⟨#[]⟩) rfl (by kernel_rfl) (rAssign rfl rfl) ?_)
 refine liNil ?_
 refine qThen ?_
 refine stSeq ?_
 refine reg ?_
 refine li rfl (opVal (vP br 0) rfl (by kernel_rfl) (rLoad 0 rfl rfl (by kernel_rfl) rfl rfl) ?_)
 refine li rfl (opVal (.func (.func 103) #[] #[(vP b2 0), (vP b3 0)]) rfl (by kernel_rfl) (rClosed fun _ => by kernel_rfl) ?_)
 refine li rfl ?_
 refine opCallB 102 #[(vP br 0), (.func (.func 103) #[] #[(vP b2 0), (vP b3 0)])] rfl (by kernel_rfl) (fun _ => by kernel_rfl) (fun w1 hM => ?_)
 have HR1 : Hid (RdAt X w1 br r) := ReaderAt.fr HR.out hM.fr
 have HB1 : Hid (At w1 b2 114 [Value.pointer (some ⟨br, 0, none⟩)]) := hM.at (i := 0) rfl
 have HB2 : Hid (At w1 b3 3 [Value.int .i64 (most : Int)]) := hM.at (i := 1) rfl
 have HF1 := Lib.hid hM.fr
 refine (readTxt_some br r.D r.off r.last (m + n) ((r.D.drop m).take n) b2 b3 w1 (by have h := HR1.out; unfold RdAt at h; rw [h0] at h; exact h) (fun W hf hr => txtc_ok b2 b3 br r.D r.off r.last most W (HB1.out.fr hf (by simp)) (HB2.out.fr hf (by simp)) hr hk.len hk.off hm n m hd hn hf')).mono ?_
 rintro e w2 ⟨rfl, hf, hr2⟩
 refine ⟨_, w2, [], [], rfl, Mm.start w2 [], ?_⟩
 clear hM
 refine li rfl (opVal (vS ((r.D.drop m).take n)) rfl (by kernel_rfl) (rAssign rfl rfl) ?_)
 refine liNil ?_
 refine qThen ?_
 refine stRet ?_
 refine stEnd [(vS ((r.D.drop m).take n))] rfl ⟨rfl, trivial⟩ (fun w hM => ?_)
 exact ⟨by unfold Rd.text; rw [if_pos h0, hd]; dsimp only; rw [if_neg (by omega), if_pos hf']; rfl, ((HF1.out.mono (by simp)).trans hf).trans (hM.fr.mono (by simp)), by unfold Rd.text; rw [if_pos h0, hd]; dsimp only; rw [if_neg (by omega), if_pos hf']; unfold Rd.done RdAt; have h := ReaderAt.fr hr2 hM.fr; rw [← h0] at h; exact h⟩
theorem rText_few (br : Nat) (r : Rd) (most : Nat) (w : World) (hr : RdAt X w br r) (hk : r.Ok) (hm : most ≤ 4294967296) (h0 : r.err = 0) (n m : Nat) (hd : rdNum r.D r.off = some (n, m)) (hn : n ≤ most) (hf' : r.D.length < m + n) :
  Calls Tryz.prog 87 #[Value.pointer (some ⟨br, 0, none⟩), Value.int .i64 (most : Int)] w fun e w' => e = .returned (vS ((r.text most).1)) ∧ Fr [br] w w' ∧ RdAt X w' br (r.text most).2 := by
 have HR := Lib.hid hr
 clear hr
 refine stEnter (args := [Value.pointer (some ⟨br, 0, none⟩), Value.int .i64 (most : Int)]) [] Tryz.func87 rfl 8 rfl [(0, Value.pointer (some ⟨br, 0, none⟩)), (1, Value.int .i64 (most : Int))] ⟨rfl, rfl, trivial⟩ [] (Mm.start w []) ?_
 refine stSeq ?_
 refine reg ?_
 refine li rfl ?_
 refine opBox [(vP br 0)] rfl rfl (by kernel_rfl) rfl rfl (fun b2 => ?_)
 refine li rfl ?_
 refine opBox [(vI most)] rfl rfl (by kernel_rfl) rfl rfl (fun b3 => ?_)
 refine li rfl (opVal (.string ⟨#[]⟩) rfl (by kernel_rfl) (rAssign rfl rfl) ?_)
 refine liNil ?_
 refine qThen ?_
 refine stSeq ?_
 refine reg ?_
 refine li rfl (opVal (vP br 0) rfl (by kernel_rfl) (rLoad 0 rfl rfl (by kernel_rfl) rfl rfl) ?_)
 refine li rfl (opVal (.func (.func 103) #[] #[(vP b2 0), (vP b3 0)]) rfl (by kernel_rfl) (rClosed fun _ => by kernel_rfl) ?_)
 refine li rfl ?_
 refine opCallB 102 #[(vP br 0), (.func (.func 103) #[] #[(vP b2 0), (vP b3 0)])] rfl (by kernel_rfl) (fun _ => by kernel_rfl) (fun w1 hM => ?_)
 have HR1 : Hid (RdAt X w1 br r) := ReaderAt.fr HR.out hM.fr
 have HB1 : Hid (At w1 b2 114 [Value.pointer (some ⟨br, 0, none⟩)]) := hM.at (i := 0) rfl
 have HB2 : Hid (At w1 b3 3 [Value.int .i64 (most : Int)]) := hM.at (i := 1) rfl
 have HF1 := Lib.hid hM.fr
 refine (readTxt_none br r.D r.off r.last 3 [] b2 b3 w1 (by have h := HR1.out; unfold RdAt at h; rw [h0] at h; exact h) (by decide) (fun W hf hr => txtc_few b2 b3 br r.D r.off r.last most W (HB1.out.fr hf (by simp)) (HB2.out.fr hf (by simp)) hr hk.len hk.off hm n m hd hn hf')).mono ?_
 rintro e w2 ⟨rfl, hf, hr2⟩
 refine ⟨_, w2, [], [], rfl, Mm.start w2 [], ?_⟩
 clear hM
 refine li rfl (opVal (.string ⟨#[]⟩) rfl (by kernel_rfl) (rAssign rfl rfl) ?_)
 refine liNil ?_
 refine qThen ?_
 refine stRet ?_
 refine stEnd [(.string ⟨#[]⟩)] rfl ⟨rfl, trivial⟩ (fun w hM => ?_)
 exact ⟨by unfold Rd.text; rw [if_pos h0, hd]; dsimp only; rw [if_neg (by omega), if_neg (by omega)]; rfl, ((HF1.out.mono (by simp)).trans hf).trans (hM.fr.mono (by simp)), by unfold Rd.text; rw [if_pos h0, hd]; dsimp only; rw [if_neg (by omega), if_neg (by omega)]; unfold Rd.fail RdAt; exact ReaderAt.fr hr2 hM.fr⟩
theorem rText_big (br : Nat) (r : Rd) (most : Nat) (w : World) (hr : RdAt X w br r) (hk : r.Ok) (hm : most ≤ 4294967296) (h0 : r.err = 0) (n m : Nat) (hd : rdNum r.D r.off = some (n, m)) (hn : most < n) :
  Calls Tryz.prog 87 #[Value.pointer (some ⟨br, 0, none⟩), Value.int .i64 (most : Int)] w fun e w' => e = .returned (vS ((r.text most).1)) ∧ Fr [br] w w' ∧ RdAt X w' br (r.text most).2 := by
 have HR := Lib.hid hr
 clear hr
 refine stEnter (args := [Value.pointer (some ⟨br, 0, none⟩), Value.int .i64 (most : Int)]) [] Tryz.func87 rfl 8 rfl [(0, Value.pointer (some ⟨br, 0, none⟩)), (1, Value.int .i64 (most : Int))] ⟨rfl, rfl, trivial⟩ [] (Mm.start w []) ?_
 refine stSeq ?_
 refine reg ?_
 refine li rfl ?_
 refine opBox [(vP br 0)] rfl rfl (by kernel_rfl) rfl rfl (fun b2 => ?_)
 refine li rfl ?_
 refine opBox [(vI most)] rfl rfl (by kernel_rfl) rfl rfl (fun b3 => ?_)
 refine li rfl (opVal (.string ⟨#[]⟩) rfl (by kernel_rfl) (rAssign rfl rfl) ?_)
 refine liNil ?_
 refine qThen ?_
 refine stSeq ?_
 refine reg ?_
 refine li rfl (opVal (vP br 0) rfl (by kernel_rfl) (rLoad 0 rfl rfl (by kernel_rfl) rfl rfl) ?_)
 refine li rfl (opVal (.func (.func 103) #[] #[(vP b2 0), (vP b3 0)]) rfl (by kernel_rfl) (rClosed fun _ => by kernel_rfl) ?_)
 refine li rfl ?_
 refine opCallB 102 #[(vP br 0), (.func (.func 103) #[] #[(vP b2 0), (vP b3 0)])] rfl (by kernel_rfl) (fun _ => by kernel_rfl) (fun w1 hM => ?_)
 have HR1 : Hid (RdAt X w1 br r) := ReaderAt.fr HR.out hM.fr
 have HB1 : Hid (At w1 b2 114 [Value.pointer (some ⟨br, 0, none⟩)]) := hM.at (i := 0) rfl
 have HB2 : Hid (At w1 b3 3 [Value.int .i64 (most : Int)]) := hM.at (i := 1) rfl
 have HF1 := Lib.hid hM.fr
 refine (readTxt_none br r.D r.off r.last 2 [] b2 b3 w1 (by have h := HR1.out; unfold RdAt at h; rw [h0] at h; exact h) (by decide) (fun W hf hr => txtc_big b2 b3 br r.D r.off r.last most W (HB1.out.fr hf (by simp)) (HB2.out.fr hf (by simp)) hr hk.len hk.off hm n m hd hn)).mono ?_
 rintro e w2 ⟨rfl, hf, hr2⟩
 refine ⟨_, w2, [], [], rfl, Mm.start w2 [], ?_⟩
 clear hM
 refine li rfl (opVal (.string ⟨#[]⟩) rfl (by kernel_rfl) (rAssign rfl rfl) ?_)
 refine liNil ?_
 refine qThen ?_
 refine stRet ?_
 refine stEnd [(.string ⟨#[]⟩)] rfl ⟨rfl, trivial⟩ (fun w hM => ?_)
 exact ⟨by unfold Rd.text; rw [if_pos h0, hd]; dsimp only; rw [if_pos hn]; rfl, ((HF1.out.mono (by simp)).trans hf).trans (hM.fr.mono (by simp)), by unfold Rd.text; rw [if_pos h0, hd]; dsimp only; rw [if_pos hn]; unfold Rd.fail RdAt; exact ReaderAt.fr hr2 hM.fr⟩
theorem rText_none (br : Nat) (r : Rd) (most : Nat) (w : World) (hr : RdAt X w br r) (hk : r.Ok) (hm : most ≤ 4294967296) (h0 : r.err = 0) (hd : rdNum r.D r.off = none) :
  Calls Tryz.prog 87 #[Value.pointer (some ⟨br, 0, none⟩), Value.int .i64 (most : Int)] w fun e w' => e = .returned (vS ((r.text most).1)) ∧ Fr [br] w w' ∧ RdAt X w' br (r.text most).2 := by
 have HR := Lib.hid hr
 clear hr
 refine stEnter (args := [Value.pointer (some ⟨br, 0, none⟩), Value.int .i64 (most : Int)]) [] Tryz.func87 rfl 8 rfl [(0, Value.pointer (some ⟨br, 0, none⟩)), (1, Value.int .i64 (most : Int))] ⟨rfl, rfl, trivial⟩ [] (Mm.start w []) ?_
 refine stSeq ?_
 refine reg ?_
 refine li rfl ?_
 refine opBox [(vP br 0)] rfl rfl (by kernel_rfl) rfl rfl (fun b2 => ?_)
 refine li rfl ?_
 refine opBox [(vI most)] rfl rfl (by kernel_rfl) rfl rfl (fun b3 => ?_)
 refine li rfl (opVal (.string ⟨#[]⟩) rfl (by kernel_rfl) (rAssign rfl rfl) ?_)
 refine liNil ?_
 refine qThen ?_
 refine stSeq ?_
 refine reg ?_
 refine li rfl (opVal (vP br 0) rfl (by kernel_rfl) (rLoad 0 rfl rfl (by kernel_rfl) rfl rfl) ?_)
 refine li rfl (opVal (.func (.func 103) #[] #[(vP b2 0), (vP b3 0)]) rfl (by kernel_rfl) (rClosed fun _ => by kernel_rfl) ?_)
 refine li rfl ?_
 refine opCallB 102 #[(vP br 0), (.func (.func 103) #[] #[(vP b2 0), (vP b3 0)])] rfl (by kernel_rfl) (fun _ => by kernel_rfl) (fun w1 hM => ?_)
 have HR1 : Hid (RdAt X w1 br r) := ReaderAt.fr HR.out hM.fr
 have HB1 : Hid (At w1 b2 114 [Value.pointer (some ⟨br, 0, none⟩)]) := hM.at (i := 0) rfl
 have HB2 : Hid (At w1 b3 3 [Value.int .i64 (most : Int)]) := hM.at (i := 1) rfl
 have HF1 := Lib.hid hM.fr
 refine (readTxt_none br r.D r.off r.last 3 [] b2 b3 w1 (by have h := HR1.out; unfold RdAt at h; rw [h0] at h; exact h) (by decide) (fun W hf hr => txtc_none b2 b3 br r.D r.off r.last most W (HB1.out.fr hf (by simp)) (HB2.out.fr hf (by simp)) hr hk.len hk.off hm hd)).mono ?_
 rintro e w2 ⟨rfl, hf, hr2⟩
 refine ⟨_, w2, [], [], rfl, Mm.start w2 [], ?_⟩
 clear hM
 refine li rfl (opVal (.string ⟨#[]⟩) rfl (by kernel_rfl) (rAssign rfl rfl) ?_)
 refine liNil ?_
 refine qThen ?_
 refine stRet ?_
 refine stEnd [(.string ⟨#[]⟩)] rfl ⟨rfl, trivial⟩ (fun w hM => ?_)
 exact ⟨by unfold Rd.text; rw [if_pos h0, hd]; dsimp only; rfl, ((HF1.out.mono (by simp)).trans hf).trans (hM.fr.mono (by simp)), by unfold Rd.text; rw [if_pos h0, hd]; dsimp only; unfold Rd.fail RdAt; exact ReaderAt.fr hr2 hM.fr⟩
theorem rText (br : Nat) (r : Rd) (most : Nat) (w : World) (hr : RdAt X w br r) (hk : r.Ok) (hm : most ≤ 4294967296) : Calls Tryz.prog 87 #[Value.pointer (some ⟨br, 0, none⟩), Value.int .i64 (most : Int)] w fun e w' => e = .returned (vS ((r.text most).1)) ∧ Fr [br] w w' ∧ RdAt X w' br (r.text most).2 := by
 by_cases h0 : r.err = 0
 ·cases hd : rdNum r.D r.off with
  | none => exact rText_none br r most w hr hk hm h0 hd
  | some p =>
   obtain ⟨n, m⟩ := p
   by_cases hn : n ≤ most
   ·by_cases hf : m + n ≤ r.D.length
    ·exact rText_ok br r most w hr hk hm h0 n m hd hn hf
    ·exact rText_few br r most w hr hk hm h0 n m hd hn (by omega)
   ·exact rText_big br r most w hr hk hm h0 n m hd (by omega)
 ·exact rText_err br r most w hr hk hm h0
end Go.Proofs.YtlepfnihpdhcaaaGreatDoor
namespace Go.Proofs.YtlepfnihpdhcaaaGreatDoor
open Go.RowKit
def cRd (X : Option Addr × Nat) (br : Nat) (r : Rd) : Ch where
 fp := br :: ownFp X.1
 holds w := RdAt X w br r ∧ r.Ok
 ok w w' hb h := by
  obtain ⟨⟨A, c, hX, h1, h2⟩, hk⟩ := h
  subst hX
  refine ⟨⟨A, c, rfl, ?_, ?_⟩, hk⟩
  ·exact (cAt br 146 _).ok w w' (fun b hb1 => hb b (by rw [show b = br from List.mem_singleton.1 hb1]; exact List.mem_cons_self)) h1
  ·exact (cOwn 5 1 A r.D.length c (B8 r.D)).ok w w' (fun b hb1 => hb b (List.mem_cons_of_mem _ hb1)) h2
 lt w h b hb := by
  obtain ⟨⟨A, c, hX, h1, h2⟩, hk⟩ := h
  subst hX
  rcases List.mem_cons.1 hb with rfl | hb
  ·exact h1.lt
  ·exact (cOwn 5 1 A r.D.length c (B8 r.D)).lt w h2 b hb
theorem rd_nodup {X : Option Addr × Nat} {w : World} {br : Nat} {r : Rd} (h : RdAt X w br r) : (br :: ownFp X.1).Nodup := by
 obtain ⟨A, c, hX, h1, h2⟩ := h
 subst hX
 refine List.nodup_cons.2 ⟨fun hb => ?_, ownFp_nodup A⟩
 have h3 := own_at_ne h2 h1 (by decide)
 cases A with
 | none => simp [ownFp] at hb
 | some a =>
  have : br = a.block := by simpa [ownFp] using hb
  exact h3 (by rw [this]; rfl)
theorem rd_back {X : Option Addr × Nat} {w w' : World} {br : Nat} {r r' : Rd} (hO : Own [cRd X br r] w) (hf : Fr [br] w w') (hr : RdAt X w' br r') (hk : r'.Ok) : Back [cRd X br r] w [cRd X br r'] w' :=
 hO.swap 0 (c' := cRd X br r') rfl (hf.mono (S' := br :: ownFp X.1) (by simp)) ⟨hr, hk⟩ (fun b hb => .inl hb) (rd_nodup hr)
theorem rd_new {w w' : World} {br : Nat} {A : Option Addr} {c : Nat} {r : Rd} (hf : Fr [] w w') (hr : RdAt (A, c) w' br r) (hk : r.Ok) (hb : w.heap.size ≤ br) (ho : w'.ownsRow w.heap.size 5 1 (.slice A r.D.length c) r.D.length (B8 r.D)) : Back [] w [cRd (A, c) br r] w' :=
 (Mm.start w []).push (c := cRd (A, c) br r) hf ⟨hr, hk⟩ (fun b hb1 => by
  rcases List.mem_cons.1 hb1 with rfl | hb1
  ·exact hb
  ·rcases ho.2 with ⟨hv, _⟩ | ⟨g, cap, cur, hv, hge, _⟩
   ·simp only [Value.slice.injEq] at hv
    obtain ⟨rfl, _, rfl⟩ := hv
    simp [ownFp] at hb1
   ·simp only [Value.slice.injEq] at hv
    obtain ⟨rfl, _, rfl⟩ := hv
    have : b = g := by simpa [ownFp] using hb1
    rw [this]
    exact hge) (rd_nodup hr)
def Rd.cnt (r : Rd) (m : Nat) : Nat × Rd := r.count (m : Int)
theorem Rd.Ok.cnt {r : Rd} (h : r.Ok) (most : Nat) : (r.cnt most).2.Ok := by
 unfold Rd.cnt Rd.count
 split
 ·cases hd : rdNum r.D r.off with
  | none => exact ⟨h.off, h.len⟩
  | some p =>
   simp only
   split
   ·exact ⟨h.off, h.len⟩
   ·exact ⟨(rdNum_le _ _ p.1 p.2 hd).2.1, h.len⟩
 ·exact h
theorem Rd.Ok.text {r : Rd} (h : r.Ok) (most : Nat) : (r.text most).2.Ok := by
 unfold Rd.text
 split
 ·cases hd : rdNum r.D r.off with
  | none => exact ⟨h.off, h.len⟩
  | some p =>
   obtain ⟨n, m⟩ := p
   dsimp only
   split
   ·exact ⟨h.off, h.len⟩
   ·split
    ·exact ⟨by assumption, h.len⟩
    ·exact ⟨h.off, h.len⟩
 ·exact h
theorem rsRUint_any (X : Option Addr × Nat) (br : Nat) (r : Rd) (w : World) (hO : Own [cRd X br (r)] w) :
  Calls Tryz.prog 90 #[(.pointer (some ⟨br, 0, none⟩))] w fun e w' => e = .returned (.int .u64 ((r.uint.1 : Nat) : Int)) ∧ Back [cRd X br (r)] w [cRd X br (r.uint.2)] w' := by
 have h := hO.at (i := 0) rfl; obtain ⟨hr, hk⟩ : RdAt X w br r ∧ r.Ok := h
 refine (rUint br r w hr hk).mono ?_
 rintro e w' ⟨rfl, hf, hr2⟩
 exact ⟨rfl, rd_back hO hf hr2 hk.uint'⟩
theorem rsRCount_any (X : Option Addr × Nat) (br : Nat) (r : Rd) (most : Nat) (w : World) (hO : Own [cRd X br (r)] w) (hm : most ≤ 4294967296) :
  Calls Tryz.prog 61 #[(.pointer (some ⟨br, 0, none⟩)), (.int .i64 ((most : Nat) : Int))] w fun e w' => e = .returned (.int .i64 (((r.cnt most).1 : Nat) : Int)) ∧ Back [cRd X br (r)] w [cRd X br ((r.cnt most).2)] w' := by
 have h := hO.at (i := 0) rfl; obtain ⟨hr, hk⟩ : RdAt X w br r ∧ r.Ok := h
 refine (rCount br r (most : Int) w hr hk ⟨by omega, by omega⟩).mono ?_
 rintro e w' ⟨rfl, hf, hr2⟩
 exact ⟨rfl, rd_back hO hf hr2 (hk.cnt most)⟩
theorem rsRText_any (X : Option Addr × Nat) (br : Nat) (r : Rd) (most : Nat) (w : World) (hO : Own [cRd X br (r)] w) (hm : most ≤ 4294967296) :
  Calls Tryz.prog 87 #[(.pointer (some ⟨br, 0, none⟩)), (.int .i64 ((most : Nat) : Int))] w fun e w' => e = .returned (.string (strOf (r.text most).1)) ∧ Back [cRd X br (r)] w [cRd X br ((r.text most).2)] w' := by
 have h := hO.at (i := 0) rfl; obtain ⟨hr, hk⟩ : RdAt X w br r ∧ r.Ok := h
 refine (rText br r most w hr hk hm).mono ?_
 rintro e w' ⟨rfl, hf, hr2⟩
 exact ⟨rfl, rd_back hO hf hr2 (hk.text most)⟩
theorem rsRSum_any (X : Option Addr × Nat) (br : Nat) (r : Rd) (w : World) (hO : Own [cRd X br (r)] w) :
  Calls Tryz.prog 91 #[(.pointer (some ⟨br, 0, none⟩))] w fun e w' => e = .returned (.string (strOf r.sum.1)) ∧ Back [cRd X br (r)] w [cRd X br (r.sum.2)] w' := by
 have h := hO.at (i := 0) rfl; obtain ⟨hr, hk⟩ : RdAt X w br r ∧ r.Ok := h
 refine (rSum br r w hr hk).mono ?_
 rintro e w' ⟨rfl, hf, hr2⟩
 exact ⟨rfl, rd_back hO hf hr2 hk.sum⟩
theorem rsREnd_any (X : Option Addr × Nat) (br : Nat) (r : Rd) (w : World) (hO : Own [cRd X br (r)] w) :
  Calls Tryz.prog 63 #[(.pointer (some ⟨br, 0, none⟩))] w fun e w' => e = .returned (.tuple #[(.int .i64 ((r.off : Nat) : Int)), (.int .i64 r.end_)]) ∧ Back [cRd X br (r)] w [cRd X br (r)] w' := by
 have h := hO.at (i := 0) rfl; obtain ⟨hr, hk⟩ : RdAt X w br r ∧ r.Ok := h
 refine (rEnd br r w hr hk).mono ?_
 rintro e w' ⟨rfl, hf⟩
 exact ⟨rfl, rd_back hO (hf.mono (by simp)) (ReaderAt.fr hr hf) hk⟩
theorem rsRNew_any (A : Option Addr) (c : Nat) (D : List UInt8) (w : World) (r0 : Rf [] w (fun w => RowIn w A (B8 D))) (hD : D.length ≤ 4294967296) :
  Calls Tryz.prog 60 #[(.slice A (D.length) (c))] w fun e w' => ∃ (X : Option Addr × Nat) (br : Nat), e = .returned (.pointer (some ⟨br, 0, none⟩)) ∧ Back [] w [cRd X br (Rd.mk D 0 0 0)] w' := by
 refine (newReader_any A c D w hD r0.here).mono ?_
 rintro e w' ⟨br, A2, c2, rfl, hb, hf, hr, ho⟩
 exact ⟨(A2, c2), br, rfl, rd_new hf hr ⟨Nat.zero_le _, hD⟩ hb ho⟩
theorem rsRLeft_any (X : Option Addr × Nat) (br : Nat) (r : Rd) (w : World) (hO : Own [cRd X br (r)] w) :
  Calls Tryz.prog 108 #[(.pointer (some ⟨br, 0, none⟩))] w fun e w' => e = .returned (.int .i64 (((r.D.length - r.off) : Nat) : Int)) ∧ Back [cRd X br (r)] w [cRd X br (r)] w' := by
 have h := hO.at (i := 0) rfl; obtain ⟨hr, hk⟩ : RdAt X w br r ∧ r.Ok := h
 obtain ⟨A, c, hX, ha, hown⟩ := hr
 have hkl := hk.len; have hko := hk.off
 have hnb : ∀ g, (Value.slice A r.D.length c).ownBlock = some g → g ∉ [br] := fun g hg => by
  have h1 := own_at_ne hown ha (by decide)
  simp only [List.mem_singleton]
  rintro rfl
  exact h1 hg.symm
 refine stEnter (args := [Value.pointer (some ⟨br, 0, none⟩)]) [br] Tryz.func108 rfl 13 rfl [(0, Value.pointer (some ⟨br, 0, none⟩))] ⟨rfl, trivial⟩ [cAt br 146 [(.slice A (r.D.length) (c)), (.int .i64 ((r.off : Nat) : Int)), (.int .i64 ((r.last : Nat) : Int)), (.int .i64 r.err)]] (Mm.one ha) ?_
 refine stSeq ?_
 refine reg ?_
 refine li rfl (opVal (.int .i64 0) rfl (by kernel_rfl) (rAssign rfl rfl) ?_)
 refine liNil ?_
 refine qThen ?_
 refine stSeq ?_
 refine anyBegin [cAt br 146 [(.slice A (r.D.length) (c)), (.int .i64 ((r.off : Nat) : Int)), (.int .i64 ((r.last : Nat) : Int)), (.int .i64 r.err)]] 11 (by kernel_rfl) (fun _ h => h) ?_
 refine anyVal (i := 0) (.pointer (some ⟨br, 0, none⟩)) rfl rfl rfl (by kernel_rfl) (by kernel_rfl) (fun _ _ _ h => h) (rMove rfl rfl) ?_
 refine anyVal (i := 1) (.pointer (some ⟨br, 0, none⟩)) rfl rfl rfl (by kernel_rfl) (by kernel_rfl) (fun _ _ _ h => h) (rClosed fun _ => by kernel_rfl) ?_
 refine anyVal (i := 2) (.pointer (some ⟨br, 0, none⟩)) rfl rfl rfl (by kernel_rfl) (by kernel_rfl) (fun _ _ _ h => h) (rClosed fun _ => by kernel_rfl) ?_
 refine anyVal (i := 3) (.slice A (r.D.length) (c)) rfl rfl rfl (by kernel_rfl) (by kernel_rfl) (fun _ _ _ h => h) (rLoad 0 rfl rfl (by kernel_rfl) rfl rfl) ?_
 refine anyVal (i := 4) (.int .i64 ((r.D.length : Nat) : Int)) rfl rfl rfl (by kernel_rfl) (by kernel_rfl) (fun _ _ _ h => h) (rClosed fun _ => by kernel_rfl) ?_
 refine anyVal (i := 5) (.pointer (some ⟨br, 0, none⟩)) rfl rfl rfl (by kernel_rfl) (by kernel_rfl) (fun _ _ _ h => h) (rMove rfl rfl) ?_
 refine anyVal (i := 6) (.pointer (some ⟨br, 0, none⟩)) rfl rfl rfl (by kernel_rfl) (by kernel_rfl) (fun _ _ _ h => h) (rClosed fun _ => by kernel_rfl) ?_
 refine anyVal (i := 7) (.pointer (some ⟨br, 1, none⟩)) rfl rfl rfl (by kernel_rfl) (by kernel_rfl) (fun _ _ _ h => h) (rClosed fun _ => by kernel_rfl) ?_
 refine anyVal (i := 8) (.int .i64 ((r.off : Nat) : Int)) rfl rfl rfl (by kernel_rfl) (by kernel_rfl) (fun _ _ _ h => h) (rLoad 0 rfl rfl (by kernel_rfl) rfl rfl) ?_
 refine anyVal (i := 9) (.int .i64 (((r.D.length - r.off) : Nat) : Int)) rfl rfl rfl (by kernel_rfl) (by kernel_rfl) (fun _ _ _ h => h) (rConv (rSub _ rfl rfl rfl rfl (by omega) (by omega)) (by rw [Int.ofNat_sub hk.off])) ?_
 refine anyVal (i := 10) (.int .i64 (((r.D.length - r.off) : Nat) : Int)) rfl rfl rfl (by kernel_rfl) (by kernel_rfl) (fun _ _ _ h => h) (rAssign rfl rfl) ?_
 refine anyDone (by kernel_rfl) ?_
 refine qThen ?_
 refine stRet ?_
 refine stEnd [(.int .i64 (((r.D.length - r.off) : Nat) : Int))] rfl ⟨rfl, trivial⟩ (fun w hM => ?_)
 exact ⟨rfl, rd_back hO (hM.fr.mono (by simp)) ⟨A, c, hX, hM.at (i := 0) rfl, ownsRow_fr hown hM.fr hnb⟩ hk⟩
end Go.Proofs.YtlepfnihpdhcaaaGreatDoor
namespace Go.Proofs.YtlepfnihpdhcaaaGreatDoor
open Go.RowKit
theorem opMk0 {P : Program} {Q : Exit → Act → World → Prop} {nt : Nat} {w0 : World} {F : List Nat} {E : Env} {cs : List Ch} {K : Act → World → Prop} {o : Oper} {d : Nat} {t e : TypeId} {z : Value} {sz bt : Nat} (El : Elem P t e z sz bt) {x y : Operand} (n : Nat) (hn : n ≤ 4294967296) (ho : o.op = .makeSlice t x y) (hd : o.dst = some d) (hk : opOk nt E o = true) (hx : evO E x = some (.int .i64 0)) (hy : evO E y = some (vI n))
  (h : ∀ b, St nt w0 F ((d, .slice (some ⟨b, 0, none⟩) 0 n) :: E) (cs ++ [cOwn e sz (some ⟨b, 0, none⟩) 0 n []]) K) (hbt : bt ≤ 1024) : OpW P Q nt w0 F E cs o K :=
 opEff hd hk fun w hM => by
  obtain ⟨i, hi, hz, hsz, hby⟩ := info_parts El.hi
  have hm : bt * n ≤ 1024 * 4294967296 := Nat.mul_le_mul hbt hn
  have hr := run_make (P := P) w t e i z El.ht hi hz .i64 .i64 0 ((n : Nat) : Int) (by omega) (by omega) (by rw [hby, ← Int.natCast_mul]; omega) (by omega)
  have h1 := hM.push (c := cAt w.heap.size e (madeCells z.cells (n * sz)).toList) ((Fr.refl _ _).alloc _) (At.new w e _) (by simp [cAt]) (by simp [cAt])
  have h2 := h1.toOwn cs.length (by rw [List.getElem?_append_right (Nat.le_refl _), Nat.sub_self]; rfl) sz 0 n (by rw [Array.length_toList, size_madeCells]) (Nat.zero_le _) (by unfold maxLen; omega)
  rw [Nat.zero_mul, List.take_zero, List.set_append_right _ _ (Nat.le_refl _), Nat.sub_self, List.set_cons_zero] at h2
  refine ⟨_, _, _, ?_, h2, h w.heap.size⟩
  unfold execOp
  rw [hsz, Int.toNat_natCast] at hr
  simp only [ho, evE_of hx, evE_of hy, Sem.run_bind, hr]
  rfl
def Rd.sums (r : Rd) : Nat → List Bs × Rd
 | 0 => ([], r)
 | n + 1 => ((r.sums n).1 ++ [(r.sums n).2.sum.1], (r.sums n).2.sum.2)
def Rd.most (r : Rd) (most : Nat) : Nat := min most ((r.D.length - r.off) / 32)
def Rd.items (r : Rd) (most : Nat) : List Bs × Rd := (r.cnt (r.most most)).2.sums (r.cnt (r.most most)).1
theorem Rd.cnt_le (r : Rd) (most : Nat) : (r.cnt most).1 ≤ most := by
 unfold Rd.cnt Rd.count
 split
 ·cases hd : rdNum r.D r.off with
  | none => exact Nat.zero_le _
  | some p =>
   simp only
   split
   ·exact Nat.zero_le _
   ·show p.1 ≤ most; omega
 ·exact Nat.zero_le _
theorem Rd.sums_len (r : Rd) : ∀ n, (r.sums n).1.length = n
 | 0 => rfl
 | n + 1 => by
  show ((r.sums n).1 ++ [_]).length = _
  rw [List.length_append, r.sums_len n]
  rfl
theorem Rd.items_len (r : Rd) (most : Nat) : (r.items most).1.length ≤ most := by
 unfold Rd.items
 rw [Rd.sums_len]
 exact Nat.le_trans (r.cnt_le _) (Nat.min_le_left _ _)
def Rd.body (r : Rd) (lo hi : Bs) : Option AP × Rd :=
 if r.uint.1 = 1 then (some ⟨lo, hi, .sum (r.uint.2.cnt 16384).1 (r.uint.2.cnt 16384).2.sum.1⟩, (r.uint.2.cnt 16384).2.sum.2)
 else if r.uint.1 = 2 then (if ordOk (r.uint.2.items 64).1 lo hi then some ⟨lo, hi, .list (r.uint.2.items 64).1⟩ else none, (r.uint.2.items 64).2)
 else if r.uint.1 = 3 then (if ordOk (r.uint.2.items 16384).1 lo hi && ordOk ((r.uint.2.items 16384).2.items 16384).1 lo hi then some ⟨lo, hi, .ans (r.uint.2.items 16384).1 ((r.uint.2.items 16384).2.items 16384).1⟩ else none, ((r.uint.2.items 16384).2.items 16384).2)
 else (none, r.uint.2)
def Rd.part (r : Rd) : Option AP × Rd :=
 if boundOk (r.text 32).1 && boundOk ((r.text 32).2.text 32).1 && spanOk (r.text 32).1 ((r.text 32).2.text 32).1 then ((r.text 32).2.text 32).2.body (r.text 32).1 ((r.text 32).2.text 32).1
 else (none, ((r.text 32).2.text 32).2)
theorem Rd.part_bad {r r1 r2 : Rd} {a b : Bs} (h1 : r.text 32 = (a, r1)) (h2 : r1.text 32 = (b, r2)) (h : (boundOk a && boundOk b && spanOk a b) = false) : r.part = (none, r2) := by
 unfold Rd.part; rw [h1]; dsimp only; rw [h2]; dsimp only; rw [h]; rfl
theorem Rd.part_go {r r1 r2 : Rd} {a b : Bs} (h1 : r.text 32 = (a, r1)) (h2 : r1.text 32 = (b, r2)) (h : (boundOk a && boundOk b && spanOk a b) = true) : r.part = r2.body a b := by
 unfold Rd.part; rw [h1]; dsimp only; rw [h2]; dsimp only; rw [h]; rfl
theorem Rd.body_sum {r r1 r2 r3 : Rd} {k n : Nat} {f lo hi : Bs} (h1 : r.uint = (k, r1)) (hk : k = 1) (h2 : r1.cnt 16384 = (n, r2)) (h3 : r2.sum = (f, r3)) : r.body lo hi = (some ⟨lo, hi, .sum n f⟩, r3) := by
 unfold Rd.body; rw [h1]; dsimp only; rw [if_pos hk, h2]; dsimp only; rw [h3]
theorem Rd.body_list {r r1 r2 : Rd} {k : Nat} {l : List Bs} {lo hi : Bs} (h1 : r.uint = (k, r1)) (hk : k = 2) (h2 : r1.items 64 = (l, r2)) : r.body lo hi = (if ordOk l lo hi then some ⟨lo, hi, .list l⟩ else none, r2) := by
 unfold Rd.body; rw [h1]; dsimp only; rw [if_neg (by omega), if_pos hk, h2]
theorem Rd.body_ans {r r1 r2 r3 : Rd} {k : Nat} {l m : List Bs} {lo hi : Bs} (h1 : r.uint = (k, r1)) (hk : k = 3) (h2 : r1.items 16384 = (l, r2)) (h3 : r2.items 16384 = (m, r3)) : r.body lo hi = (if ordOk l lo hi && ordOk m lo hi then some ⟨lo, hi, .ans l m⟩ else none, r3) := by
 unfold Rd.body; rw [h1]; dsimp only; rw [if_neg (by omega), if_neg (by omega), if_pos hk, h2]; dsimp only; rw [h3]
theorem Rd.body_none {r r1 : Rd} {k : Nat} {lo hi : Bs} (h1 : r.uint = (k, r1)) (hk1 : ¬ k = 1) (hk2 : ¬ k = 2) (hk3 : ¬ k = 3) : r.body lo hi = (none, r1) := by
 unfold Rd.body; rw [h1]; dsimp only; rw [if_neg hk1, if_neg hk2, if_neg hk3]
theorem bad1 {a b c : Bool} (h : (!a) = true) : (a && b && c) = false := by revert h; revert a b c; decide
theorem bad2 {a b c : Bool} (h : (!b) = true) : (a && b && c) = false := by revert h; revert a b c; decide
theorem bad3 {a b c : Bool} (h : (!c) = true) : (a && b && c) = false := by revert h; revert a b c; decide
theorem good3 {a b c : Bool} (h : (!a) = false) (k : (!b) = false) (l : (!c) = false) : (a && b && c) = true := by revert h k l; revert a b c; decide
theorem eqb_yes {a n : Nat} (h : (((a : Nat) : Int) == ((n : Nat) : Int)) = true) : a = n := Int.ofNat.inj (by simpa using h)
theorem eqb_no {a n : Nat} (h : (((a : Nat) : Int) == ((n : Nat) : Int)) = false) : ¬ a = n := fun e => by rw [e] at h; simp at h
end Go.Proofs.YtlepfnihpdhcaaaGreatDoor
namespace Go.Proofs.YtlepfnihpdhcaaaGreatDoor
/-! ### The decoder -/
def follows (ps : List AP) (p : AP) : Bool := match ps.getLast? with | none => true | some q => !(decide (q.hi = []) || decide (p.lo < q.hi))
def Rd.parts (r : Rd) : Nat → Option (List AP) × Rd
 | 0 => (some [], r)
 | k + 1 =>
  match r.parts k with
  | (none, r1) => (none, r1)
  | (some ps, r1) =>
   match r1.part with
   | (none, r2) => (none, r2)
   | (some p, r2) => if follows ps p then (some (ps ++ [p]), r2) else (none, r2)
def decA (D : Bs) : Option (List AP) :=
 if ((Rd.mk D 0 0 0).cnt D.length).1 = 0 then none
 else match ((Rd.mk D 0 0 0).cnt D.length).2.parts ((Rd.mk D 0 0 0).cnt D.length).1 with
  | (none, _) => none
  | (some ps, r2) => if r2.end_ = 0 then some ps else none
theorem Rd.parts_some {r r1 r2 : Rd} {k : Nat} {ps : List AP} {p : AP} (h : r.parts k = (some ps, r1)) (hp : r1.part = (some p, r2)) (hf : follows ps p = true) : r.parts (k + 1) = (some (ps ++ [p]), r2) := by
 rw [Rd.parts, h]; dsimp only; rw [hp]; dsimp only; rw [if_pos hf]
theorem Rd.parts_gap {r r1 r2 : Rd} {k : Nat} {ps : List AP} {p : AP} (h : r.parts k = (some ps, r1)) (hp : r1.part = (some p, r2)) (hf : follows ps p = false) : (r.parts (k + 1)).1 = none := by
 rw [Rd.parts, h]; dsimp only; rw [hp]; dsimp only; rw [if_neg (by simp [hf])]
theorem Rd.parts_none {r r1 r2 : Rd} {k : Nat} {ps : List AP} (h : r.parts k = (some ps, r1)) (hp : r1.part = (none, r2)) : (r.parts (k + 1)).1 = none := by
 rw [Rd.parts, h]; dsimp only; rw [hp]
theorem Rd.parts_stop {r : Rd} {k : Nat} (h : (r.parts k).1 = none) : ∀ j, (r.parts (k + j)).1 = none
 | 0 => h
 | j + 1 => by
  have ih := Rd.parts_stop h j
  show (r.parts (k + j + 1)).1 = none
  rw [Rd.parts]
  generalize r.parts (k + j) = z at ih ⊢
  obtain ⟨o, r1⟩ := z
  dsimp only at ih ⊢
  subst ih
  rfl
theorem Rd.parts_len {r : Rd} : ∀ {k : Nat} {ps : List AP} {r1 : Rd}, r.parts k = (some ps, r1) → ps.length = k
 | 0, ps, r1, h => by rw [Rd.parts] at h; injection h with h1 h2; injection h1 with h1; rw [← h1]; rfl
 | k + 1, ps, r1, h => by
  rw [Rd.parts] at h
  generalize hz : r.parts k = z at h
  obtain ⟨o, r2⟩ := z
  cases o with
  | none => dsimp only at h; cases h
  | some qs =>
   dsimp only at h
   have ih := Rd.parts_len hz
   generalize r2.part = y at h
   obtain ⟨q, r3⟩ := y
   cases q with
   | none => dsimp only at h; cases h
   | some p =>
    dsimp only at h
    split at h
    ·injection h with h1 h2; injection h1 with h1; rw [← h1, List.length_append, ih]; rfl
    ·cases h
theorem decA_zero {D : Bs} {n : Nat} {r1 : Rd} (hc : (Rd.mk D 0 0 0).cnt D.length = (n, r1)) (hn : n = 0) : decA D = none := by
 unfold decA; rw [hc]; exact if_pos hn
theorem decA_stop {D : Bs} {n i : Nat} {r1 : Rd} (hc : (Rd.mk D 0 0 0).cnt D.length = (n, r1)) (hi : i ≤ n) (h : (r1.parts i).1 = none) : decA D = none := by
 unfold decA; rw [hc]
 dsimp only
 split
 ·rfl
 ·have := Rd.parts_stop h (n - i)
  rw [show i + (n - i) = n by omega] at this
  generalize r1.parts n = z at this ⊢
  obtain ⟨o, r2⟩ := z
  dsimp only at this
  subst this
  rfl
theorem decA_end {D : Bs} {n : Nat} {r1 r2 : Rd} {ps : List AP} (hc : (Rd.mk D 0 0 0).cnt D.length = (n, r1)) (h : r1.parts n = (some ps, r2)) (he : ¬ r2.end_ = 0) : decA D = none := by
 unfold decA; rw [hc]
 dsimp only
 split
 ·rfl
 ·rw [h]; exact if_neg he
theorem decA_ok {D : Bs} {n : Nat} {r1 r2 : Rd} {ps : List AP} (hc : (Rd.mk D 0 0 0).cnt D.length = (n, r1)) (hn : ¬ n = 0) (h : r1.parts n = (some ps, r2)) (he : r2.end_ = 0) : decA D = some ps := by
 unfold decA; rw [hc]
 dsimp only
 rw [if_neg hn, h]; exact if_pos he
theorem follows_at {ps : List AP} {i : Nat} {q p : AP} (h : ps[i]? = some q) (hl : ps.length = i + 1) : follows ps p = !(decide (q.hi = []) || decide (p.lo < q.hi)) := by
 unfold follows
 rw [List.getLast?_eq_getElem?, hl, Nat.add_sub_cancel, h]
theorem gtr_iff {a b : Bs} : (!(decide (a < b) || decide (a = b))) = decide (b < a) := by
 by_cases h1 : a < b
 ·have : ¬ b < a := fun h => b_lt_irrefl (b_lt_trans h h1)
  simp [h1, this]
 ·by_cases h2 : a = b
  ·subst h2; simp [b_lt_irrefl]
  ·simp [h1, h2, b_lt_or h1 h2]
/-! ### What messages are -/
def all32 (l : List Bs) : Prop := ∀ x ∈ l, x.length = 32
def AC.ok (lo hi : Bs) : AC → Prop
 | .sum n f => n ≤ 16384 ∧ f.length = 32
 | .list xs => xs.length ≤ 64 ∧ all32 xs ∧ ordOk xs lo hi = true
 | .ans xs ms => (xs.length ≤ 16384 ∧ all32 xs ∧ ordOk xs lo hi = true) ∧ ms.length ≤ 16384 ∧ all32 ms ∧ ordOk ms lo hi = true
def AP.ok (p : AP) : Prop := (boundOk p.lo = true ∧ boundOk p.hi = true ∧ spanOk p.lo p.hi = true) ∧ p.c.ok p.lo p.hi
def chain (ps : List AP) : Prop := ∀ k p, ps[k]? = some p → follows (ps.take k) p = true
def okMsg (ps : List AP) : Prop := ps ≠ [] ∧ (∀ p ∈ ps, p.ok) ∧ chain ps
theorem bound_le {x : Bs} (h : boundOk x = true) : x.length ≤ 32 := by
 unfold boundOk at h
 rw [Bool.or_eq_true, decide_eq_true_eq, decide_eq_true_eq] at h
 rcases h with rfl | h
 ·simp
 ·omega
theorem chain_snoc {ps : List AP} {p : AP} (h : chain ps) (hf : follows ps p = true) : chain (ps ++ [p]) := by
 intro k q hq
 by_cases hk : k < ps.length
 ·rw [List.getElem?_append_left hk] at hq
  rw [List.take_append_of_le_length (by omega)]
  exact h k q hq
 ·rw [List.getElem?_append_right (by omega)] at hq
  have hk' : k - ps.length = 0 := by
   have := (List.getElem?_eq_some_iff.1 hq).1
   simp at this
   omega
  rw [hk'] at hq
  simp at hq
  subst hq
  rw [show k = ps.length by omega, List.take_left]
  exact hf
/-! ### What is decoded is an encoding -/
theorem took_text (r : Rd) (most : Nat) (h : (r.text most).2.err = 0) : Took r (r.text most).2 (num (r.text most).1.length ++ (r.text most).1) ∧ (r.text most).1.length ≤ most := by
 unfold Rd.text at h ⊢
 by_cases he : r.err = 0
 ·rw [if_pos he] at h ⊢
  cases hd : rdNum r.D r.off with
  | none => rw [hd] at h; cases h
  | some p =>
   obtain ⟨n, m⟩ := p
   rw [hd] at h
   dsimp only at h ⊢
   by_cases h1 : most < n
   ·rw [if_pos h1] at h; cases h
   ·rw [if_neg h1] at h ⊢
    by_cases h2 : m + n ≤ r.D.length
    ·rw [if_pos h2] at h ⊢
     have hl : ((r.D.drop m).take n).length = n := by rw [List.length_take, List.length_drop]; omega
     refine ⟨⟨he, rfl, ?_⟩, by dsimp only; omega⟩
     dsimp only
     rw [hl, rdNum_took _ _ _ _ hd, List.append_assoc]
     congr 1
     show _ = _ ++ r.D.drop (m + n)
     rw [← List.drop_drop, List.take_append_drop]
    ·rw [if_neg h2] at h; cases h
 ·rw [if_neg he] at h
  exact absurd h he
theorem took_cnt (r : Rd) (most : Nat) (h : (r.cnt most).2.err = 0) : Took r (r.cnt most).2 (num (r.cnt most).1) ∧ (r.cnt most).1 ≤ most := by
 refine ⟨?_, r.cnt_le most⟩
 unfold Rd.cnt Rd.count at h ⊢
 by_cases he : r.err = 0
 ·rw [if_pos he] at h ⊢
  cases hd : rdNum r.D r.off with
  | none => rw [hd] at h; cases h
  | some p =>
   rw [hd] at h
   dsimp only at h ⊢
   split at h
   ·cases h
   ·rename_i h1
    rw [if_neg h1]
    exact ⟨he, rfl, rdNum_took _ _ _ _ hd⟩
 ·rw [if_neg he] at h
  exact absurd h he
theorem took_sums (r : Rd) : ∀ n, (r.sums n).2.err = 0 → r.err = 0 → Took r (r.sums n).2 (r.sums n).1.flatten ∧ all32 (r.sums n).1
 | 0, _, he => ⟨⟨he, rfl, rfl⟩, by intro x hx; cases hx⟩
 | n + 1, h, he => by
  obtain ⟨h1, h2⟩ := took_sum (r.sums n).2 h
  obtain ⟨h3, h4⟩ := took_sums r n h1.err he
  refine ⟨?_, ?_⟩
  ·have := h3.trans h1
   show Took r (r.sums n).2.sum.2 ((r.sums n).1 ++ [(r.sums n).2.sum.1]).flatten
   rw [List.flatten_append]
   simpa using this
  ·intro x hx
   rcases List.mem_append.1 hx with hx | hx
   ·exact h4 x hx
   ·rw [List.mem_singleton.1 hx]; exact h2
theorem err_sums (r : Rd) : ∀ n, (r.sums n).2.err = 0 → r.err = 0
 | 0, h => h
 | n + 1, h => err_sums r n (took_sum (r.sums n).2 h).1.err
theorem took_items (r : Rd) (most : Nat) (h : (r.items most).2.err = 0) : Took r (r.items most).2 (num (r.items most).1.length ++ (r.items most).1.flatten) ∧ all32 (r.items most).1 := by
 have h0 : (r.cnt (r.most most)).2.err = 0 := err_sums _ _ h
 obtain ⟨h1, _⟩ := took_cnt r (r.most most) h0
 obtain ⟨h2, h3⟩ := took_sums _ _ h h0
 refine ⟨?_, h3⟩
 rw [show (r.items most).1.length = (r.cnt (r.most most)).1 from Rd.sums_len _ _]
 exact h1.trans h2
theorem took_body (r : Rd) (lo hi : Bs) (p : AP) (h : (r.body lo hi).2.err = 0) (hp : (r.body lo hi).1 = some p) (hok : boundOk lo = true ∧ boundOk hi = true ∧ spanOk lo hi = true) : Took r (r.body lo hi).2 p.c.enc ∧ p.ok ∧ p.lo = lo ∧ p.hi = hi := by
 unfold Rd.body at h hp ⊢
 by_cases h1 : r.uint.1 = 1
 ·rw [if_pos h1] at h hp ⊢
  dsimp only at h hp ⊢
  obtain ⟨a1, a2⟩ := took_sum _ h
  obtain ⟨b1, b2⟩ := took_cnt _ _ a1.err
  have c1 := took_uint r b1.err
  rw [h1] at c1
  injection hp with hp
  subst hp
  exact ⟨(c1.trans b1).trans a1, ⟨hok, b2, a2⟩, rfl, rfl⟩
 ·rw [if_neg h1] at h hp ⊢
  by_cases h2 : r.uint.1 = 2
  ·rw [if_pos h2] at h hp ⊢
   dsimp only at h hp ⊢
   split at hp
   ·rename_i ho
    injection hp with hp
    obtain ⟨a1, a2⟩ := took_items _ _ h
    have c1 := took_uint r a1.err
    rw [h2] at c1
    subst hp
    exact ⟨c1.trans a1, ⟨hok, Rd.items_len _ _, a2, ho⟩, rfl, rfl⟩
   ·cases hp
  ·rw [if_neg h2] at h hp ⊢
   by_cases h3 : r.uint.1 = 3
   ·rw [if_pos h3] at h hp ⊢
    dsimp only at h hp ⊢
    split at hp
    ·rename_i ho
     rw [Bool.and_eq_true] at ho
     injection hp with hp
     obtain ⟨a1, a2⟩ := took_items _ _ h
     obtain ⟨b1, b2⟩ := took_items _ _ a1.err
     have c1 := took_uint r b1.err
     rw [h3] at c1
     subst hp
     exact ⟨(c1.trans b1).trans a1, ⟨hok, ⟨Rd.items_len _ _, b2, ho.1⟩, Rd.items_len _ _, a2, ho.2⟩, rfl, rfl⟩
    ·cases hp
   ·rw [if_neg h3] at hp
    cases hp
theorem took_part (r : Rd) (p : AP) (h : r.part.2.err = 0) (hp : r.part.1 = some p) : Took r r.part.2 p.enc ∧ p.ok := by
 unfold Rd.part at h hp ⊢
 split at hp
 ·rename_i hok
  rw [if_pos hok] at h ⊢
  rw [Bool.and_eq_true, Bool.and_eq_true] at hok
  obtain ⟨a1, a2, a3, a4⟩ := took_body _ _ _ p h hp ⟨hok.1.1, hok.1.2, hok.2⟩
  obtain ⟨b1, _⟩ := took_text _ _ a1.err
  obtain ⟨c1, _⟩ := took_text _ _ b1.err
  refine ⟨?_, a2⟩
  have := (c1.trans b1).trans a1
  unfold AP.enc
  rw [a3, a4]
  exact this
 ·cases hp
theorem took_parts (r : Rd) (he : r.err = 0) : ∀ (k : Nat) (ps : List AP) (r1 : Rd), r.parts k = (some ps, r1) → r1.err = 0 → Took r r1 (ps.flatMap AP.enc) ∧ (∀ p ∈ ps, p.ok) ∧ chain ps
 | 0, ps, r1, h, _ => by
  rw [Rd.parts] at h
  injection h with h1 h2
  injection h1 with h1
  subst h1 h2
  exact ⟨⟨he, rfl, rfl⟩, (fun p hp => by cases hp), (fun k p hp => by simp at hp)⟩
 | k + 1, ps, r1, h, h0 => by
  rw [Rd.parts] at h
  generalize hz : r.parts k = z at h
  obtain ⟨o, r2⟩ := z
  cases o with
  | none => dsimp only at h; cases h
  | some qs =>
   dsimp only at h
   generalize hy : r2.part = y at h
   obtain ⟨q, r3⟩ := y
   cases q with
   | none => dsimp only at h; cases h
   | some p =>
    dsimp only at h
    split at h
    ·rename_i hf
     injection h with h1 h2
     injection h1 with h1
     subst h1 h2
     have e1 : r2.part.1 = some p := by rw [hy]
     have e2 : r2.part.2 = r3 := by rw [hy]
     obtain ⟨a1, a2⟩ := took_part r2 p (by rw [e2]; exact h0) e1
     rw [e2] at a1
     obtain ⟨b1, b2, b3⟩ := took_parts r he k qs r2 hz a1.err
     refine ⟨?_, ?_, chain_snoc b3 hf⟩
     ·rw [List.flatMap_append]
      simpa using b1.trans a1
     ·intro x hx
      rcases List.mem_append.1 hx with hx | hx
      ·exact b2 x hx
      ·rw [List.mem_singleton.1 hx]; exact a2
    ·cases h
theorem decA_sound {D : Bs} {ps : List AP} (h : decA D = some ps) : D = encA ps ∧ okMsg ps ∧ ps.length ≤ D.length := by
 unfold decA at h
 split at h
 ·cases h
 ·rename_i hn
  generalize hz : ((Rd.mk D 0 0 0).cnt D.length).2.parts ((Rd.mk D 0 0 0).cnt D.length).1 = z at h
  obtain ⟨o, r2⟩ := z
  cases o with
  | none => cases h
  | some qs =>
   dsimp only at h
   split at h
   ·rename_i he
    injection h with h
    subst h
    have e0 := Rd.end_err he
    have hl := Rd.parts_len hz
    have h1 : ((Rd.mk D 0 0 0).cnt D.length).2.err = 0 := by
     by_cases h0 : ((Rd.mk D 0 0 0).cnt D.length).2.err = 0
     ·exact h0
     ·exfalso
      apply hn
      unfold Rd.cnt Rd.count at h0 ⊢
      rw [if_pos rfl] at h0 ⊢
      cases hd : rdNum D 0 with
      | none => rfl
      | some p =>
       rw [hd] at h0
       dsimp only at h0 ⊢
       split at h0
       ·rename_i h5; rw [if_pos h5]
       ·exact absurd rfl h0
    obtain ⟨c1, c2⟩ := took_cnt _ _ h1
    obtain ⟨b1, b2, b3⟩ := took_parts _ h1 _ _ _ hz e0
    have hD := (c1.trans b1).end_ he
    have hne : qs.length ≠ 0 := by rw [hl]; exact hn
    refine ⟨?_, ⟨fun e => hne (by rw [e]; rfl), b2, b3⟩, by rw [hl]; exact c2⟩
    rw [encA, if_neg hne, hl]
    exact hD
   ·cases h
/-! ### Encodings are decoded -/
theorem snoc_ind {α : Type} {P : List α → Prop} (h0 : P []) (h1 : ∀ l a, P l → P (l ++ [a])) (l : List α) : P l := by
 have key : ∀ m : List α, P m.reverse := by
  intro m
  induction m with
  | nil => exact h0
  | cons a m ih => rw [List.reverse_cons]; exact h1 _ _ ih
 have := key l.reverse
 rwa [List.reverse_reverse] at this
theorem Ahead.text {r : Rd} {t rest : Bs} {most : Nat} (h : Ahead r ((num t.length ++ t) ++ rest)) (ht : t.length ≤ most) (hm : U64 t.length) : (r.text most).1 = t ∧ Ahead (r.text most).2 rest := by
 have hb := h.bytes
 rw [List.append_assoc] at hb
 have hd := rdNum_num r.D r.off t.length (t ++ rest) hb hm
 have hl := congrArg List.length hb
 rw [List.length_drop, List.length_append, List.length_append] at hl
 have e1 : r.D.drop (r.off + (num t.length).length) = t ++ rest := by rw [← List.drop_drop, hb, List.drop_left]
 unfold Rd.text
 rw [if_pos h.err, hd]
 dsimp only
 rw [if_neg (by omega), if_pos (by have := num_pos t.length; omega)]
 refine ⟨?_, h.err, ?_⟩
 ·dsimp only
  rw [e1, List.take_left]
 ·show r.D.drop (r.off + (num t.length).length + t.length) = rest
  rw [← List.drop_drop, e1, List.drop_left]
theorem Ahead.cnt {r : Rd} {n most : Nat} {rest : Bs} (h : Ahead r (num n ++ rest)) (hn : n ≤ most) (hu : U64 n) : (r.cnt most).1 = n ∧ Ahead (r.cnt most).2 rest := by
 have hd := rdNum_num r.D r.off n rest h.bytes hu
 unfold Rd.cnt Rd.count
 rw [if_pos h.err, hd]
 dsimp only
 rw [if_neg (by omega)]
 refine ⟨rfl, h.err, ?_⟩
 show r.D.drop (r.off + (num n).length) = rest
 rw [← List.drop_drop, h.bytes, List.drop_left]
theorem Ahead.sums {r : Rd} : ∀ (xs : List Bs) (rest : Bs), Ahead r (xs.flatten ++ rest) → all32 xs → (r.sums xs.length).1 = xs ∧ Ahead (r.sums xs.length).2 rest := by
 refine snoc_ind ?_ ?_
 ·intro rest h _; exact ⟨rfl, h⟩
 ·intro xs x ih rest h ha
  obtain ⟨h1, h2⟩ := ih (x ++ rest) (by simpa using h) (fun y hy => ha y (by simp [hy]))
  obtain ⟨h3, h4⟩ := h2.sum (ha x (by simp))
  rw [List.length_append, List.length_singleton]
  exact ⟨by show (r.sums xs.length).1 ++ [(r.sums xs.length).2.sum.1] = _; rw [h1, h3], h4⟩
theorem flat_len : ∀ {xs : List Bs}, all32 xs → xs.flatten.length = 32 * xs.length
 | [], _ => rfl
 | x :: xs, h => by
  rw [List.flatten_cons, List.length_append, flat_len (fun y hy => h y (by simp [hy])), h x (by simp), List.length_cons]
  omega
theorem u64_small {n : Nat} (h : n ≤ 4294967296) : U64 n := by unfold U64; omega
theorem Ahead.items {r : Rd} {xs : List Bs} {most : Nat} {rest : Bs} (h : Ahead r ((num xs.length ++ xs.flatten) ++ rest)) (ha : all32 xs) (hl : xs.length ≤ most) (hm : most ≤ 65536) : (r.items most).1 = xs ∧ Ahead (r.items most).2 rest := by
 have hb := congrArg List.length h.bytes
 rw [List.length_drop, List.length_append, List.length_append, flat_len ha] at hb
 have hq : xs.length ≤ r.most most := by
  unfold Rd.most
  exact Nat.le_min.2 ⟨hl, (Nat.le_div_iff_mul_le (by omega)).2 (by omega)⟩
 obtain ⟨h1, h2⟩ := Ahead.cnt (n := xs.length) (rest := xs.flatten ++ rest) (by rw [← List.append_assoc]; exact h) hq (u64_small (by omega))
 unfold Rd.items
 rw [h1]
 exact Ahead.sums xs rest h2 ha
theorem Ahead.part {r : Rd} {p : AP} {rest : Bs} (h : Ahead r (p.enc ++ rest)) (hp : p.ok) : r.part.1 = some p ∧ Ahead r.part.2 rest := by
 obtain ⟨⟨h1, h2, h3⟩, h4⟩ := hp
 have hl1 := bound_le h1
 have hl2 := bound_le h2
 unfold AP.enc at h
 rw [List.append_assoc, List.append_assoc] at h
 obtain ⟨a1, a2⟩ := Ahead.text h hl1 (u64_small (by omega))
 obtain ⟨b1, b2⟩ := Ahead.text a2 hl2 (u64_small (by omega))
 unfold Rd.part
 rw [a1, b1, h1, h2, h3]
 simp only [Bool.and_self, if_true]
 obtain ⟨lo, hi, c⟩ := p
 dsimp only at b2 h4 ⊢
 unfold Rd.body
 cases c with
 | sum n f =>
  unfold AC.enc at b2
  rw [List.append_assoc, List.append_assoc] at b2
  obtain ⟨c1, c2⟩ := b2.uint (u64_small (by omega))
  obtain ⟨d1, d2⟩ := c2.cnt h4.1 (u64_small (Nat.le_trans h4.1 (by omega)))
  obtain ⟨e1, e2⟩ := d2.sum h4.2
  rw [if_pos c1, d1, e1]
  exact ⟨rfl, e2⟩
 | list xs =>
  unfold AC.enc at b2
  rw [List.append_assoc] at b2
  obtain ⟨c1, c2⟩ := b2.uint (u64_small (by omega))
  obtain ⟨d1, d2⟩ := c2.items h4.2.1 h4.1 (by omega)
  rw [if_neg (by omega), if_pos c1, d1, if_pos h4.2.2]
  exact ⟨rfl, d2⟩
 | ans xs ms =>
  unfold AC.enc at b2
  rw [List.append_assoc, List.append_assoc] at b2
  obtain ⟨c1, c2⟩ := b2.uint (u64_small (by omega))
  obtain ⟨d1, d2⟩ := c2.items h4.1.2.1 h4.1.1 (by omega)
  obtain ⟨e1, e2⟩ := d2.items h4.2.2.1 h4.2.1 (by omega)
  rw [if_neg (by omega), if_neg (by omega), if_pos c1, d1, e1, if_pos (by rw [h4.1.2.2, h4.2.2.2]; rfl)]
  exact ⟨rfl, e2⟩
theorem Ahead.parts {r : Rd} : ∀ (ps : List AP) (rest : Bs), Ahead r (ps.flatMap AP.enc ++ rest) → (∀ p ∈ ps, p.ok) → chain ps → ∃ r1, r.parts ps.length = (some ps, r1) ∧ Ahead r1 rest := by
 refine snoc_ind ?_ ?_
 ·intro rest h _ _; exact ⟨r, rfl, by simpa using h⟩
 ·intro ps p ih rest h ha hc
  obtain ⟨r1, h1, h2⟩ := ih (p.enc ++ rest) (by simpa using h) (fun y hy => ha y (by simp [hy])) (fun k q hq => by
   have hk := (List.getElem?_eq_some_iff.1 hq).1
   have := hc k q (by rw [List.getElem?_append_left hk]; exact hq)
   rwa [List.take_append_of_le_length (by omega)] at this)
  obtain ⟨h3, h4⟩ := Ahead.part h2 (ha p (by simp))
  have hf := hc ps.length p (by simp)
  rw [List.take_left] at hf
  rw [List.length_append, List.length_singleton]
  exact ⟨r1.part.2, Rd.parts_some h1 (Prod.ext h3 rfl) hf, h4⟩
theorem decA_enc {ps : List AP} (h : okMsg ps) (hl : (encA ps).length ≤ 4294967296) : decA (encA ps) = some ps := by
 obtain ⟨h1, h2, h3⟩ := h
 have hne : ps.length ≠ 0 := fun e => h1 (List.eq_nil_of_length_eq_zero e)
 have hD : encA ps = num ps.length ++ ps.flatMap AP.enc := by rw [encA, if_neg hne]
 have hpl := enc_ge ps
 have hle : ps.length ≤ (encA ps).length := by rw [hD, List.length_append]; omega
 have h0 : Ahead (Rd.mk (encA ps) 0 0 0) (num ps.length ++ ps.flatMap AP.enc) := ⟨rfl, by show (encA ps).drop 0 = _; rw [List.drop_zero, hD]⟩
 obtain ⟨a1, a2⟩ := h0.cnt hle (u64_small (by omega))
 obtain ⟨r1, b1, b2⟩ := Ahead.parts ps [] (by simpa using a2) h2 h3
 unfold decA
 rw [a1, if_neg hne, b1]
 dsimp only
 rw [if_pos b2.end_]
end Go.Proofs.YtlepfnihpdhcaaaGreatDoor
namespace Go.Proofs.YtlepfnihpdhcaaaGreatDoor
theorem bs_lt_le {a b c : Bs} (h : a < b) (k : ¬ c < b) : a < c := by
 by_cases e : b = c
 ·rw [← e]; exact h
 ·exact b_lt_trans h (b_lt_or k (fun h => e h.symm))
theorem bs_le_lt {a b c : Bs} (h : ¬ b < a) (k : b < c) : a < c := by
 by_cases e : a = b
 ·rw [e]; exact k
 ·exact b_lt_trans (b_lt_or h (fun h => e h.symm)) k
theorem bs_le_le {a b c : Bs} (h : ¬ b < a) (k : ¬ c < b) : ¬ c < a := fun hh => h (bs_le_lt k hh)
theorem bs_le_of {a b : Bs} (h : a < b) : ¬ b < a := fun k => b_lt_irrefl (b_lt_trans h k)
theorem nil_le (a : Bs) : ¬ a < [] := List.not_lt_nil a
theorem nil_lt {a : Bs} (h : a ≠ []) : [] < a := b_lt_or (nil_le a) h
/-! ### Ranges -/
theorem inR_iff {lo hi x : Bs} : inR lo hi x = true ↔ ¬ x < lo ∧ (hi = [] ∨ x < hi) := by
 unfold inR
 rw [Bool.and_eq_true, Bool.or_eq_true, Bool.or_eq_true, decide_eq_true_eq, decide_eq_true_eq, decide_eq_true_eq, decide_eq_true_eq]
 constructor
 ·rintro ⟨h, k⟩
  refine ⟨?_, k⟩
  rcases h with h | h
  ·exact bs_le_of h
  ·rw [h]; exact b_lt_irrefl
 ·rintro ⟨h, k⟩
  refine ⟨?_, k⟩
  by_cases e : lo = x
  ·exact .inr e
  ·exact .inl (b_lt_or h (fun h => e h.symm))
theorem inR_false {lo hi x : Bs} : inR lo hi x = false ↔ x < lo ∨ (hi ≠ [] ∧ ¬ x < hi) := by
 rw [← Bool.not_eq_true, inR_iff]
 constructor
 ·intro h
  by_cases h1 : x < lo
  ·exact .inl h1
  ·refine .inr ⟨fun e => h ⟨h1, .inl e⟩, fun e => h ⟨h1, .inr e⟩⟩
 ·rintro (h | ⟨h1, h2⟩) ⟨k1, k2⟩
  ·exact k1 h
  ·exact k2.elim h1 h2
theorem mem_inL {l : List Bs} {lo hi x : Bs} : x ∈ inL l lo hi ↔ x ∈ l ∧ inR lo hi x = true := List.mem_filter
theorem mem_without {l m : List Bs} {x : Bs} : x ∈ without l m ↔ x ∈ l ∧ x ∉ m := by
 unfold without
 rw [List.mem_filter]
 simp
theorem mem_keepIn {l m : List Bs} {x : Bs} : x ∈ keepIn l m ↔ x ∈ l ∧ x ∈ m := by
 unfold keepIn
 rw [List.mem_filter]
 simp
def Sub (lo hi a b : Bs) : Prop := ¬ a < lo ∧ (hi = [] ∨ (b ≠ [] ∧ ¬ hi < b))
theorem Sub.refl (lo hi : Bs) : Sub lo hi lo hi := by
 refine ⟨b_lt_irrefl, ?_⟩
 by_cases h : hi = []
 ·exact .inl h
 ·exact .inr ⟨h, b_lt_irrefl⟩
theorem Sub.inR {lo hi a b x : Bs} (h : Sub lo hi a b) (k : inR a b x = true) : inR lo hi x = true := by
 rw [inR_iff] at k ⊢
 refine ⟨bs_le_le h.1 k.1, ?_⟩
 rcases h.2 with h2 | ⟨h2, h3⟩
 ·exact .inl h2
 ·rcases k.2 with k2 | k2
  ·exact absurd k2 h2
  ·exact .inr (bs_lt_le k2 h3)
theorem Sub.inL {lo hi a b : Bs} (h : Sub lo hi a b) (l : List Bs) : inL (Go.Proofs.YtlepfnihpdhcaaaGreatDoor.inL l lo hi) a b = Go.Proofs.YtlepfnihpdhcaaaGreatDoor.inL l a b := by
 unfold Go.Proofs.YtlepfnihpdhcaaaGreatDoor.inL
 rw [List.filter_filter]
 apply List.filter_congr
 intro x _
 cases hx : Go.Proofs.YtlepfnihpdhcaaaGreatDoor.inR a b x with
 | false => simp
 | true => simp [h.inR hx]
abbrev cnt (l : List Bs) (lo hi : Bs) : Nat := (inL l lo hi).length
theorem cnt_sub {lo hi a b : Bs} (h : Sub lo hi a b) (l : List Bs) : cnt l a b ≤ cnt l lo hi := by
 show (inL l a b).length ≤ (inL l lo hi).length
 rw [← h.inL l]
 exact inL_len _ _ _
theorem inL_all (l : List Bs) : inL l [] [] = l := by
 unfold inL
 rw [List.filter_eq_self]
 intro x _
 rw [inR_iff]
 exact ⟨nil_le x, .inl rfl⟩
theorem cnt_split {lo c hi : Bs} (h1 : ¬ c < lo) (h2 : c ≠ []) (h3 : hi = [] ∨ ¬ hi < c) : ∀ l : List Bs, cnt l lo c + cnt l c hi = cnt l lo hi
 | [] => rfl
 | x :: l => by
  have ih := cnt_split h1 h2 h3 l
  unfold cnt inL at ih ⊢
  rw [List.filter_cons, List.filter_cons, List.filter_cons]
  by_cases hx : x < c
  ·have e1 : inR c hi x = false := inR_false.2 (.inl hx)
   have e2 : inR lo hi x = inR lo c x := by
    rw [Bool.eq_iff_iff, inR_iff, inR_iff]
    constructor
    ·rintro ⟨a, _⟩; exact ⟨a, .inr hx⟩
    ·rintro ⟨a, _⟩; exact ⟨a, h3.elim .inl fun h => .inr (bs_lt_le hx h)⟩
   rw [e1, e2]
   cases inR lo c x <;> simp <;> omega
  ·have e1 : inR lo c x = false := inR_false.2 (.inr ⟨h2, hx⟩)
   have e2 : inR lo hi x = inR c hi x := by
    rw [Bool.eq_iff_iff, inR_iff, inR_iff]
    constructor
    ·rintro ⟨_, a⟩; exact ⟨hx, a⟩
    ·rintro ⟨_, a⟩; exact ⟨bs_le_le h1 hx, a⟩
   rw [e1, e2]
   cases inR c hi x <;> simp <;> omega
/-! ### Ascending lists -/
abbrev Asc (l : List Bs) : Prop := l.Pairwise (· < ·)
theorem asc_inL {l : List Bs} (h : Asc l) (lo hi : Bs) : Asc (Go.Proofs.YtlepfnihpdhcaaaGreatDoor.inL l lo hi) := h.sublist List.filter_sublist
theorem asc_get {l : List Bs} (h : Asc l) {i j : Nat} {x y : Bs} (hx : l[i]? = some x) (hy : l[j]? = some y) (hij : i < j) : x < y := by
 obtain ⟨h1, rfl⟩ := List.getElem?_eq_some_iff.1 hx
 obtain ⟨h2, rfl⟩ := List.getElem?_eq_some_iff.1 hy
 exact List.pairwise_iff_getElem.1 h i j h1 h2 hij
theorem posB_get {l : List Bs} (h : Asc l) {i : Nat} {x : Bs} (hx : l[i]? = some x) : posB l x = i := by
 have hi := (List.getElem?_eq_some_iff.1 hx).1
 rcases Nat.lt_trichotomy (posB l x) i with h1 | h1 | h1
 ·have hp : posB l x < l.length := by omega
  have h2 := asc_get h (List.getElem?_eq_getElem hp) hx h1
  have := (posB_step (Nat.le_refl _) (List.getElem?_eq_getElem hp)).1 h2
  omega
 ·exact h1
 ·have := (posB_step (Nat.le_of_lt h1) hx).2 h1
  exact (b_lt_irrefl this).elim
theorem posB_zero {l : List Bs} {x : Bs} (h : ∀ y ∈ l, ¬ y < x) : posB l x = 0 := by
 cases l with
 | nil => rfl
 | cons y l =>
  unfold posB
  rw [List.takeWhile_cons, if_neg (by simpa using h y List.mem_cons_self)]
  rfl
theorem asc_ext : ∀ {l m : List Bs}, Asc l → Asc m → (∀ x, x ∈ l ↔ x ∈ m) → l = m
 | [], [], _, _, _ => rfl
 | [], y :: m, _, _, h => by have := (h y).2 List.mem_cons_self; cases this
 | x :: l, [], _, _, h => by have := (h x).1 List.mem_cons_self; cases this
 | x :: l, y :: m, hl, hm, h => by
  obtain ⟨h1, h2⟩ := List.pairwise_cons.1 hl
  obtain ⟨k1, k2⟩ := List.pairwise_cons.1 hm
  have e : x = y := by
   rcases List.mem_cons.1 ((h x).1 List.mem_cons_self) with e | e
   ·exact e
   ·rcases List.mem_cons.1 ((h y).2 List.mem_cons_self) with e2 | e2
    ·exact e2.symm
    ·exact (b_lt_irrefl (b_lt_trans (h1 y e2) (k1 x e))).elim
  subst e
  congr 1
  refine asc_ext h2 k2 fun z => ?_
  constructor
  ·intro hz
   rcases List.mem_cons.1 ((h z).1 (List.mem_cons_of_mem _ hz)) with e | e
   ·rw [e] at hz; exact (b_lt_irrefl (h1 x hz)).elim
   ·exact e
  ·intro hz
   rcases List.mem_cons.1 ((h z).2 (List.mem_cons_of_mem _ hz)) with e | e
   ·rw [e] at hz; exact (b_lt_irrefl (k1 x hz)).elim
   ·exact e
/-! ### The division of a range -/
/-- p comes before q. -/
def Bef (p q : AP) : Prop := p.hi ≠ [] ∧ ¬ q.lo < p.hi
theorem idx_lt {N fan k : Nat} (hk : k < fan) (hN : 0 < N) : k * N / fan < N := by
 rw [Nat.div_lt_iff_lt_mul (by omega), Nat.mul_comm N]
 exact Nat.mul_lt_mul_of_pos_right hk hN
theorem idx_step (N fan k : Nat) (hf : 0 < fan) : (k + 1) * N / fan ≤ k * N / fan + (N + fan - 1) / fan := by
 have h1 := Nat.div_add_mod (k * N) fan
 have h2 := Nat.div_add_mod (N + fan - 1) fan
 have h3 := Nat.mod_lt (k * N) hf
 have h4 := Nat.mod_lt (N + fan - 1) hf
 rw [← Nat.lt_succ_iff, Nat.div_lt_iff_lt_mul hf]
 generalize k * N / fan = a at *
 generalize (N + fan - 1) / fan = b at *
 rw [Nat.add_mul, Nat.one_mul, Nat.succ_mul, Nat.add_mul, Nat.mul_comm a fan, Nat.mul_comm b fan]
 omega
theorem idx_mono (N fan k : Nat) : k * N / fan ≤ (k + 1) * N / fan := Nat.div_le_div_right (Nat.mul_le_mul_right _ (by omega))
section
variable {its : List Bs} {lo hi : Bs} {fan : Nat}
theorem own_mid (hs : Asc its) {own : List Bs} (ho : own = inL its lo hi) {p q : Nat} {x y : Bs} (hx : own[p]? = some x) (hy : own[q]? = some y) (hne : y ≠ []) : inL its x y = (own.take q).drop p := by
 have hA : Asc own := by rw [ho]; exact asc_inL hs lo hi
 have hx' : x ∈ own := List.mem_of_getElem? hx
 have hy' : y ∈ own := List.mem_of_getElem? hy
 have hxr : inR lo hi x = true := by rw [ho] at hx'; exact (mem_inL.1 hx').2
 have hyr : inR lo hi y = true := by rw [ho] at hy'; exact (mem_inL.1 hy').2
 have hsub : Sub lo hi x y := ⟨(inR_iff.1 hxr).1, by
  rcases (inR_iff.1 hyr).2 with h | h
  ·exact .inl h
  ·exact .inr ⟨hne, bs_le_of h⟩⟩
 rw [← hsub.inL its, ← ho, ← inL_part hA x y, if_neg hne, posB_get hA hx, posB_get hA hy]
 rcases Nat.le_total p q with h | h
 ·rw [Nat.max_eq_right h]
 ·rw [Nat.max_eq_left h, List.drop_eq_nil_of_le (by rw [List.length_take]; omega), List.drop_eq_nil_of_le (by rw [List.length_take]; omega)]
theorem own_first (hs : Asc its) {own : List Bs} (ho : own = inL its lo hi) {q : Nat} {y : Bs} (hy : own[q]? = some y) (hne : y ≠ []) : inL its lo y = own.take q := by
 have hA : Asc own := by rw [ho]; exact asc_inL hs lo hi
 have hy' : y ∈ own := List.mem_of_getElem? hy
 have hyr : inR lo hi y = true := by rw [ho] at hy'; exact (mem_inL.1 hy').2
 have hsub : Sub lo hi lo y := ⟨b_lt_irrefl, by
  rcases (inR_iff.1 hyr).2 with h | h
  ·exact .inl h
  ·exact .inr ⟨hne, bs_le_of h⟩⟩
 have h0 : posB own lo = 0 := posB_zero fun z hz => by rw [ho] at hz; exact (inR_iff.1 (mem_inL.1 hz).2).1
 rw [← hsub.inL its, ← ho, ← inL_part hA lo y, if_neg hne, h0, posB_get hA hy, Nat.max_eq_right (Nat.zero_le _), List.drop_zero]
theorem own_last (hs : Asc its) {own : List Bs} (ho : own = inL its lo hi) {p : Nat} {x : Bs} (hx : own[p]? = some x) : inL its x hi = own.drop p := by
 have hA : Asc own := by rw [ho]; exact asc_inL hs lo hi
 have hx' : x ∈ own := List.mem_of_getElem? hx
 have hxr : inR lo hi x = true := by rw [ho] at hx'; exact (mem_inL.1 hx').2
 have hsub : Sub lo hi x hi := ⟨(inR_iff.1 hxr).1, (Sub.refl lo hi).2⟩
 rw [← hsub.inL its, ← ho]
 have hle := posB_le own x
 have hpl := (List.getElem?_eq_some_iff.1 hx).1
 have hH : hi = [] ∨ posB own hi = own.length := by
  by_cases h : hi = []
  ·exact .inl h
  ·refine .inr ?_
   rcases Nat.lt_or_ge (posB own hi) own.length with h1 | h1
   ·have hz := List.mem_of_getElem? (List.getElem?_eq_getElem h1)
    have hz2 : own[posB own hi] ∈ inL its lo hi := by rw [← ho]; exact hz
    have := (inR_iff.1 (mem_inL.1 hz2).2).2.resolve_left h
    have := (posB_step (Nat.le_refl _) (List.getElem?_eq_getElem h1)).1 this
    omega
   ·have := posB_le own hi; omega
 rw [← inL_part hA x hi, posB_get hA hx]
 have e : (if hi = [] then own.length else posB own hi) = own.length := by
  rcases hH with h | h
  ·rw [if_pos h]
  ·rw [h]; simp
 rw [e, Nat.max_eq_right (by omega), List.take_length]
structure Div (its : List Bs) (lo hi : Bs) (own : List Bs) (fan k : Nat) (C : Bs) (D : List AP) : Prop where
 cur : (k = 0 ∧ C = lo) ∨ (0 < k ∧ own[k * own.length / fan]? = some C)
 ge : ¬ C < lo
 part : ∀ p ∈ D, p = sumA its p.lo p.hi ∧ p.lo < p.hi ∧ ¬ p.lo < lo ∧ ¬ C < p.hi ∧ (p.lo = lo ∨ p.lo ∈ own) ∧ p.hi ∈ own ∧ cnt its p.lo p.hi ≤ (own.length + fan - 1) / fan
 bef : D.Pairwise Bef
 cover : ∀ x, ¬ x < lo → x < C → ∃ p ∈ D, inR p.lo p.hi x = true
 sum : ∀ l : List Bs, (D.map fun p => cnt l p.lo p.hi).sum = if C = lo then 0 else cnt l lo C
 len : D.length ≤ (if k = 0 then 0 else k * own.length / fan + 1) ∧ D.length ≤ k
theorem div_ok (hs : okSet its) {own : List Bs} (ho : own = inL its lo hi) (hN : 0 < own.length) (hf : 2 ≤ fan) : ∀ k, k < fan → Div its lo hi own fan k (divTo its own fan lo k).1 (divTo its own fan lo k).2
 | 0, _ => ⟨.inl ⟨rfl, rfl⟩, b_lt_irrefl, (fun p hp => by cases hp), List.Pairwise.nil, fun x h1 h2 => (h1 h2).elim, (fun l => by rw [divTo, if_pos rfl]; rfl), by simp [divTo]⟩
 | k + 1, hk => by
  have ih := div_ok hs ho hN hf k (by omega)
  have hA : Asc own := by rw [ho]; exact asc_inL hs.2 lo hi
  have hi1 := idx_lt hk hN
  obtain ⟨B, hB⟩ : ∃ B, own[(k + 1) * own.length / fan]? = some B := ⟨_, List.getElem?_eq_getElem hi1⟩
  have hBe : own.getD ((k + 1) * own.length / fan) [] = B := by rw [List.getD_eq_getElem?_getD, hB]; rfl
  have hBm : B ∈ own := List.mem_of_getElem? hB
  have hB2 : B ∈ inL its lo hi := by rw [← ho]; exact hBm
  have hBl : B.length = 32 := hs.1 B (mem_inL.1 hB2).1
  have hBn : B ≠ [] := by intro e; rw [e] at hBl; cases hBl
  have hBr := inR_iff.1 (mem_inL.1 hB2).2
  rw [divTo, hBe]
  generalize divTo its own fan lo k = z at ih ⊢
  obtain ⟨C, D⟩ := z
  dsimp only at ih ⊢
  by_cases hBC : B = C
  ·rw [if_pos hBC]
   dsimp only
   subst hBC
   refine ⟨.inr ⟨by omega, hB⟩, ih.ge, ih.part, ih.bef, ih.cover, ih.sum, ?_, by have := ih.len.2; omega⟩
   have h1 := ih.len.1
   have h2 := idx_mono own.length fan k
   rw [if_neg (by omega)]
   generalize (k + 1) * own.length / fan = u at *
   generalize k * own.length / fan = v at *
   split at h1 <;> omega
  ·rw [if_neg hBC]
   dsimp only
   -- C comes before B
   have hCB : C < B := by
    rcases ih.cur with ⟨_, rfl⟩ | ⟨h0, hC⟩
    ·exact b_lt_or hBr.1 hBC
    ·refine asc_get hA hC hB ?_
     have h2 := idx_mono own.length fan k
     rcases Nat.lt_or_ge (k * own.length / fan) ((k + 1) * own.length / fan) with h | h
     ·exact h
     ·exfalso
      have e : k * own.length / fan = (k + 1) * own.length / fan := by omega
      rw [e, hB] at hC
      injection hC with hC
      exact hBC hC
   have hlt : 0 < k → k * own.length / fan < (k + 1) * own.length / fan := fun h0 => by
    rcases ih.cur with ⟨h, _⟩ | ⟨_, hC⟩
    ·omega
    ·rcases Nat.lt_or_ge (k * own.length / fan) ((k + 1) * own.length / fan) with h | h
     ·exact h
     ·exfalso
      have e : k * own.length / fan = (k + 1) * own.length / fan := by have := idx_mono own.length fan k; omega
      rw [e, hB] at hC
      injection hC with hC
      exact hBC hC
   have hlo : ¬ B < lo := hBr.1
   refine ⟨.inr ⟨by omega, hB⟩, hlo, ?_, ?_, ?_, ?_, ?_, ?_⟩
   ·intro p hp
    rcases List.mem_append.1 hp with hp | hp
    ·obtain ⟨a, b, c, d, e, f, g⟩ := ih.part p hp
     exact ⟨a, b, c, bs_le_le d (bs_le_of hCB), e, f, g⟩
    ·rw [List.mem_singleton.1 hp]
     refine ⟨rfl, hCB, ih.ge, b_lt_irrefl, ?_, hBm, ?_⟩
     ·rcases ih.cur with ⟨_, rfl⟩ | ⟨_, hC⟩
      ·exact .inl rfl
      ·exact .inr (List.mem_of_getElem? hC)
     ·show (inL its C B).length ≤ _
      have hst := idx_step own.length fan k (by omega)
      rcases ih.cur with ⟨h0, rfl⟩ | ⟨_, hC⟩
      ·subst h0
       rw [own_first hs.2 ho hB hBn, List.length_take]
       simp only [Nat.zero_mul, Nat.zero_div, Nat.zero_add] at hst ⊢
       omega
      ·rw [own_mid hs.2 ho hC hB hBn, List.length_drop, List.length_take]
       omega
   ·rw [List.pairwise_append]
    refine ⟨ih.bef, List.pairwise_singleton _ _, fun p hp q hq => ?_⟩
    rw [List.mem_singleton.1 hq]
    obtain ⟨_, hb, _, hd, _, hf', _⟩ := ih.part p hp
    exact ⟨fun e => nil_le p.lo (by rw [← e]; exact hb), hd⟩
   ·intro x h1 h2
    by_cases hx : x < C
    ·obtain ⟨p, hp, hr⟩ := ih.cover x h1 hx
     exact ⟨p, List.mem_append_left _ hp, hr⟩
    ·exact ⟨sumA its C B, List.mem_append_right _ (by simp), inR_iff.2 ⟨hx, .inr h2⟩⟩
   ·intro l
    rw [List.map_append, List.sum_append, ih.sum l]
    simp only [List.map_cons, List.map_nil, List.sum_cons, List.sum_nil, Nat.add_zero]
    have e : ¬ B = lo := fun e => ih.ge (by rw [← e]; exact hCB)
    rw [if_neg e]
    by_cases hC : C = lo
    ·rw [if_pos hC, hC, Nat.zero_add]; rfl
    ·rw [if_neg hC]
     have hCn : C ≠ [] := fun e2 => by
      have := ih.ge
      rw [e2] at this
      have e3 : lo = [] := by
       by_cases h : lo = []
       ·exact h
       ·exact (this (nil_lt h)).elim
      exact hC (e2.trans e3.symm)
     exact cnt_split ih.ge hCn (.inr (bs_le_of hCB)) l
   ·rw [List.length_append, List.length_singleton, if_neg (by omega)]
    have h1 := ih.len.1
    by_cases h0 : k = 0
    ·rw [if_pos h0] at h1
     generalize (k + 1) * own.length / fan = u at *
     omega
    ·rw [if_neg h0] at h1
     have := hlt (by omega)
     generalize (k + 1) * own.length / fan = u at *
     generalize k * own.length / fan = v at *
     omega
   ·rw [List.length_append, List.length_singleton]
    have := ih.len.2
    omega
def dividA (its : List Bs) (fan : Nat) (lo hi : Bs) : List AP := (divTo its (inL its lo hi) fan lo (fan - 1)).2 ++ [sumA its (divTo its (inL its lo hi) fan lo (fan - 1)).1 hi]
structure Divided (its : List Bs) (lo hi : Bs) (fan : Nat) (D : List AP) : Prop where
 part : ∀ p ∈ D, p = sumA its p.lo p.hi ∧ spanOk p.lo p.hi = true ∧ Sub lo hi p.lo p.hi ∧ (p.lo = lo ∨ p.lo ∈ its) ∧ (p.hi = hi ∨ p.hi ∈ its) ∧ cnt its p.lo p.hi ≤ (cnt its lo hi + fan - 1) / fan
 bef : D.Pairwise Bef
 cover : ∀ x, inR lo hi x = true → ∃ p ∈ D, inR p.lo p.hi x = true
 sum : ∀ l : List Bs, (D.map fun p => cnt l p.lo p.hi).sum = cnt l lo hi
 len : D.length ≤ cnt its lo hi + 1 ∧ D.length ≤ fan
theorem divided_ok (hs : okSet its) (hN : 0 < cnt its lo hi) (hf : 2 ≤ fan) : Divided its lo hi fan (dividA its fan lo hi) := by
 have h := div_ok (fan := fan) hs (own := inL its lo hi) rfl hN hf (fan - 1) (by omega)
 unfold dividA
 have hi1 : (fan - 1) * (inL its lo hi).length / fan < (inL its lo hi).length := idx_lt (by omega) hN
 generalize divTo its (inL its lo hi) fan lo (fan - 1) = z at h ⊢
 obtain ⟨C, D⟩ := z
 dsimp only at h ⊢
 have hC : (inL its lo hi)[(fan - 1) * (inL its lo hi).length / fan]? = some C := by
  rcases h.cur with ⟨h0, _⟩ | ⟨_, h1⟩
  ·omega
  ·exact h1
 have hCm : C ∈ inL its lo hi := List.mem_of_getElem? hC
 have hCr := inR_iff.1 (mem_inL.1 hCm).2
 have hCl : C.length = 32 := hs.1 C (mem_inL.1 hCm).1
 have hCn : C ≠ [] := by intro e; rw [e] at hCl; cases hCl
 have hCh : hi = [] ∨ C < hi := hCr.2
 refine ⟨?_, ?_, ?_, ?_, ?_⟩
 ·intro p hp
  rcases List.mem_append.1 hp with hp | hp
  ·obtain ⟨a, b, c, d, e, f, g⟩ := h.part p hp
   have f2 := mem_inL.1 f
   have hpl : p.hi.length = 32 := hs.1 _ f2.1
   have hpn : p.hi ≠ [] := by intro e; rw [e] at hpl; cases hpl
   refine ⟨a, ?_, ⟨c, ?_⟩, e.imp id fun h => (mem_inL.1 h).1, .inr f2.1, g⟩
   ·unfold spanOk; simp [b]
   ·rcases (inR_iff.1 f2.2).2 with h | h
    ·exact .inl h
    ·exact .inr ⟨hpn, bs_le_of h⟩
  ·rw [List.mem_singleton.1 hp]
   refine ⟨rfl, ?_, ⟨h.ge, (Sub.refl lo hi).2⟩, .inr (mem_inL.1 hCm).1, .inl rfl, ?_⟩
   ·unfold spanOk
    rcases hCh with h | h
    ·simp [sumA, h]
    ·simp [sumA, h]
   ·show (inL its C hi).length ≤ _
    rw [own_last hs.2 rfl hC, List.length_drop]
    have h1 := idx_step (inL its lo hi).length fan (fan - 1) (by omega)
    rw [show fan - 1 + 1 = fan by omega, Nat.mul_div_cancel_left _ (by omega)] at h1
    show _ ≤ ((inL its lo hi).length + fan - 1) / fan
    omega
 ·rw [List.pairwise_append]
  refine ⟨h.bef, List.pairwise_singleton _ _, fun p hp q hq => ?_⟩
  rw [List.mem_singleton.1 hq]
  obtain ⟨_, hb, _, hd, _, _, _⟩ := h.part p hp
  exact ⟨fun e => nil_le p.lo (by rw [← e]; exact hb), hd⟩
 ·intro x hx
  rw [inR_iff] at hx
  by_cases h1 : x < C
  ·obtain ⟨p, hp, hr⟩ := h.cover x hx.1 h1
   exact ⟨p, List.mem_append_left _ hp, hr⟩
  ·exact ⟨sumA its C hi, List.mem_append_right _ (by simp), inR_iff.2 ⟨h1, hx.2⟩⟩
 ·intro l
  rw [List.map_append, List.sum_append, h.sum l]
  simp only [List.map_cons, List.map_nil, List.sum_cons, List.sum_nil, Nat.add_zero]
  by_cases e : C = lo
  ·rw [if_pos e, Nat.zero_add, ← e]; rfl
  ·rw [if_neg e]
   exact cnt_split h.ge hCn (hCh.imp id bs_le_of) l
 ·rw [List.length_append, List.length_singleton]
  obtain ⟨h1, h2⟩ := h.len
  rw [if_neg (by omega)] at h1
  show _ ≤ (inL its lo hi).length + 1 ∧ _
  omega
end
/-! ### A list with further items -/
theorem mem_insB {l : List Bs} {x y : Bs} : y ∈ insB l x ↔ y ∈ l ∨ y = x := by
 unfold insB
 by_cases h : l.contains x = true
 ·rw [if_pos h]
  constructor
  ·exact .inl
  ·rintro (h1 | rfl)
   ·exact h1
   ·simpa using h
 ·rw [if_neg h]
  have e : y ∈ l ↔ y ∈ l.take (posB l x) ∨ y ∈ l.drop (posB l x) := by
   rw [← List.mem_append, List.take_append_drop]
  rw [List.mem_append, List.mem_append, List.mem_singleton, e]
  constructor
  ·rintro ((h1 | h1) | h1)
   ·exact .inl (.inl h1)
   ·exact .inr h1
   ·exact .inl (.inr h1)
  ·rintro ((h1 | h1) | h1)
   ·exact .inl (.inl h1)
   ·exact .inr h1
   ·exact .inl (.inr h1)
theorem insB_asc {l : List Bs} (h : Asc l) (x : Bs) : Asc (insB l x) := by
 unfold insB
 by_cases hc : l.contains x = true
 ·rw [if_pos hc]; exact h
 ·rw [if_neg hc]
  have hx : x ∉ l := by simpa using hc
  have hd : ∀ y ∈ l.drop (posB l x), x < y := fun y hy => b_lt_or (drop_ge' h hy) (fun e => hx (by rw [← e]; exact List.mem_of_mem_drop hy))
  rw [Asc, List.pairwise_append, List.pairwise_append]
  refine ⟨⟨h.sublist (List.take_sublist _ _), List.pairwise_singleton _ _, ?_⟩, h.sublist (List.drop_sublist _ _), ?_⟩
  ·intro a ha b hb
   rw [List.mem_singleton.1 hb]
   exact take_lt ha
  ·intro a ha b hb
   rcases List.mem_append.1 ha with ha | ha
   ·exact b_lt_trans (take_lt ha) (hd b hb)
   ·rw [List.mem_singleton.1 ha]; exact hd b hb
theorem withL_append (l m n : List Bs) : withL l (m ++ n) = withL (withL l m) n := by unfold withL; exact List.foldl_append
theorem withL_asc : ∀ (m : List Bs) {l : List Bs}, Asc l → Asc (withL l m)
 | [], _, h => h
 | x :: m, _, h => withL_asc m (insB_asc h x)
theorem mem_withL : ∀ (m : List Bs) {l : List Bs} {x : Bs}, x ∈ withL l m ↔ x ∈ l ∨ x ∈ m
 | [], l, x => by simp [withL]
 | y :: m, l, x => by
  show x ∈ withL (insB l y) m ↔ _
  rw [mem_withL m, mem_insB, List.mem_cons, or_assoc]
theorem withL_asc0 (m : List Bs) : Asc (withL [] m) := withL_asc m List.Pairwise.nil
theorem mem_withL0 {m : List Bs} {x : Bs} : x ∈ withL [] m ↔ x ∈ m := by rw [mem_withL]; simp
end Go.Proofs.YtlepfnihpdhcaaaGreatDoor
namespace Go.Proofs.YtlepfnihpdhcaaaGreatDoor
def repA (its : List Bs) (fan leaf : Nat) (p : AP) : List AP := match p.c with
 | .sum n f => cmpA its fan leaf p.lo p.hi n f
 | .list xs => ansA its p.lo p.hi xs
 | .ans _ _ => []
def needA (its : List Bs) (p : AP) : List Bs := match p.c with
 | .sum _ _ => []
 | .list xs => without xs its
 | .ans xs _ => without xs its
def offA (its : List Bs) (p : AP) : List Bs := match p.c with
 | .sum _ _ => []
 | .list xs => without (inL its p.lo p.hi) xs
 | .ans _ ms => keepIn ms its
structure StepR where
 (reply : Bs) (err : Int) (need off : List Bs)
def replyA (its : List Bs) (fan leaf : Nat) (ps : List AP) : List AP := ps.flatMap (repA its fan leaf)
def stepA (its : List Bs) (fan leaf : Nat) (D : Bs) : StepR :=
 if D = [] then ⟨[], 0, [], []⟩
 else match decA D with
  | none => ⟨[], 3, [], []⟩
  | some ps => if 1048576 < (encA (replyA its fan leaf ps)).length then ⟨[], 2, [], []⟩ else ⟨encA (replyA its fan leaf ps), 0, ps.flatMap (needA its), ps.flatMap (offA its)⟩
theorem flat_step {α β : Type} {g : α → List β} {l : List α} {i : Nat} {x : α} (h : l[i]? = some x) : (l.take i).flatMap g ++ g x = (l.take (i + 1)).flatMap g := by
 rw [← take_snoc h, List.flatMap_append]
 simp
theorem flat_step0 {α β : Type} {g : α → List β} {l : List α} {i : Nat} {x : α} (h : l[i]? = some x) (h0 : g x = []) : (l.take i).flatMap g = (l.take (i + 1)).flatMap g := by
 rw [← flat_step h, h0, List.append_nil]
/-! ### Sizes -/
theorem num_one {n : Nat} (h : n < 128) : (num n).length = 1 := by rw [num_small n h]; rfl
theorem inL32 {its : List Bs} (hs : okSet its) (lo hi : Bs) : all32 (inL its lo hi) := fun x hx => hs.1 x (mem_inL.1 hx).1
theorem without32 {l m : List Bs} (h : all32 l) : all32 (without l m) := fun x hx => h x (mem_without.1 hx).1
theorem keepIn32 {l m : List Bs} (h : all32 l) : all32 (keepIn l m) := fun x hx => h x (mem_keepIn.1 hx).1
theorem fpB_len (l : List Bs) : (fpB l).length = 32 := sha_len _
theorem sumA_ok {its : List Bs} (h40 : its.length ≤ 40) {p : AP} (hp : p = sumA its p.lo p.hi) (h1 : p.lo.length ≤ 32) (h2 : p.hi.length ≤ 32) : p.fit ∧ p.enc.length ≤ 100 := by
 have hl := inL_len its p.lo p.hi
 have hf := fpB_len (inL its p.lo p.hi)
 obtain ⟨lo, hi, c⟩ := p
 obtain rfl : c = .sum (inL its lo hi).length (fpB (inL its lo hi)) := congrArg AP.c hp
 dsimp only at h1 h2 hl hf ⊢
 refine ⟨⟨h1, h2, by omega, hf⟩, ?_⟩
 simp only [AP.enc, AC.enc, List.length_append, hf]
 have e1 := num_one (n := lo.length) (by omega)
 have e2 := num_one (n := hi.length) (by omega)
 have e3 := num_one (n := 1) (by omega)
 have e4 := num_one (n := (inL its lo hi).length) (by omega)
 omega
theorem bnd_mem {its : List Bs} (hs : okSet its) {a x : Bs} (ha : a.length ≤ 32) (h : x = a ∨ x ∈ its) : x.length ≤ 32 := by
 rcases h with rfl | h
 ·exact ha
 ·have := hs.1 x h; omega
theorem flat_enc_le {ps : List AP} {n k : Nat} (h : ∀ p ∈ ps, p.enc.length ≤ k) (hl : ps.length ≤ n) : (ps.flatMap AP.enc).length ≤ n * k := by
 have key : ∀ ps : List AP, (∀ p ∈ ps, p.enc.length ≤ k) → (ps.flatMap AP.enc).length ≤ ps.length * k := by
  intro ps
  induction ps with
  | nil => intro _; simp
  | cons p ps ih =>
   intro h
   rw [List.flatMap_cons, List.length_append, List.length_cons, Nat.add_mul, Nat.one_mul]
   have h1 := h p (by simp)
   have h2 := ih fun q hq => h q (by simp [hq])
   omega
 exact Nat.le_trans (key ps h) (Nat.mul_le_mul_right _ hl)
structure RepOk (l : List AP) : Prop where
 fit : ∀ q ∈ l, q.fit
 len : (l.flatMap AP.enc).length ≤ 3500
 cnt : l.length ≤ 17
theorem cmpA_ok {its : List Bs} (hs : okSet its) (h40 : its.length ≤ 40) {fan leaf : Nat} (hf : 2 ≤ fan) (hf2 : fan ≤ 16) (hl : 1 ≤ leaf) {lo hi : Bs} (h1 : lo.length ≤ 32) (h2 : hi.length ≤ 32) (n : Nat) (f : Bs) : RepOk (cmpA its fan leaf lo hi n f) := by
 unfold cmpA
 split
 ·exact ⟨by simp, by simp, by simp⟩
 ·split
  ·have hl := inL_len its lo hi
   have h32 := inL32 hs lo hi
   refine ⟨fun q hq => ?_, ?_, by simp⟩
   ·rw [List.mem_singleton.1 hq]
    exact ⟨h1, h2, by omega, h32⟩
   ·have hfl := flat_len h32
    simp only [List.flatMap_cons, List.flatMap_nil, List.append_nil, AP.enc, AC.enc, List.length_append, hfl]
    have e1 := num_one (n := lo.length) (by omega)
    have e2 := num_one (n := hi.length) (by omega)
    have e3 := num_one (n := 2) (by omega)
    have e4 := num_one (n := (inL its lo hi).length) (by omega)
    omega
  ·have hD := divided_ok (lo := lo) (hi := hi) hs (show 0 < (inL its lo hi).length by omega) hf
   change RepOk (dividA its fan lo hi)
   have hp : ∀ q ∈ dividA its fan lo hi, q.fit ∧ q.enc.length ≤ 100 := fun q hq => by
    obtain ⟨a, _, _, b, c, _⟩ := hD.part q hq
    exact sumA_ok h40 a (bnd_mem hs h1 b) (bnd_mem hs h2 c)
   refine ⟨fun q hq => (hp q hq).1, ?_, Nat.le_trans hD.len.2 (by omega)⟩
   exact Nat.le_trans (flat_enc_le (n := 16) (k := 100) (fun q hq => (hp q hq).2) (Nat.le_trans hD.len.2 hf2)) (by omega)
theorem ansA_ok {its : List Bs} (hs : okSet its) (h40 : its.length ≤ 40) {lo hi : Bs} (h1 : lo.length ≤ 32) (h2 : hi.length ≤ 32) {xs : List Bs} (hx : xs.length ≤ 64) (hx2 : all32 xs) : RepOk (ansA its lo hi xs) := by
 unfold ansA
 split
 ·have a1 := without_len (inL its lo hi) xs
  have a2 := without_len xs its
  have a3 := inL_len its lo hi
  have b1 := without32 (m := xs) (inL32 hs lo hi)
  have b2 := without32 (m := its) hx2
  refine ⟨fun q hq => ?_, ?_, by simp⟩
  ·rw [List.mem_singleton.1 hq]
   exact ⟨h1, h2, ⟨by omega, b1⟩, by omega, b2⟩
  ·have f1 := flat_len b1
   have f2 := flat_len b2
   simp only [List.flatMap_cons, List.flatMap_nil, List.append_nil, AP.enc, AC.enc, List.length_append, f1, f2]
   have e1 := num_one (n := lo.length) (by omega)
   have e2 := num_one (n := hi.length) (by omega)
   have e3 := num_one (n := 3) (by omega)
   have e4 := num_one (n := (without (inL its lo hi) xs).length) (by omega)
   have e5 := num_one (n := (without xs its).length) (by omega)
   omega
 ·exact ⟨by simp, by simp, by simp⟩
theorem repA_ok {its : List Bs} (hs : okSet its) (h40 : its.length ≤ 40) {fan leaf : Nat} (hf : 2 ≤ fan) (hf2 : fan ≤ 16) (hl : 1 ≤ leaf) {p : AP} (hp : p.ok) : RepOk (repA its fan leaf p) := by
 obtain ⟨⟨h1, h2, _⟩, h3⟩ := hp
 have l1 := bound_le h1
 have l2 := bound_le h2
 obtain ⟨lo, hi, c⟩ := p
 cases c with
 | sum n f => exact cmpA_ok hs h40 hf hf2 hl l1 l2 n f
 | list xs => exact ansA_ok hs h40 l1 l2 h3.1 h3.2.1
 | ans xs ms => exact ⟨by simp [repA], by simp [repA], by simp [repA]⟩
theorem replyA_fit {its : List Bs} (hs : okSet its) (h40 : its.length ≤ 40) {fan leaf : Nat} (hf : 2 ≤ fan) (hf2 : fan ≤ 16) (hl : 1 ≤ leaf) {ps : List AP} (hp : ∀ p ∈ ps, p.ok) : ∀ q ∈ replyA its fan leaf ps, q.fit := by
 intro q hq
 obtain ⟨p, h1, h2⟩ := List.mem_flatMap.1 hq
 exact (repA_ok hs h40 hf hf2 hl (hp p h1)).fit q h2
theorem replyA_enc {its : List Bs} (hs : okSet its) (h40 : its.length ≤ 40) {fan leaf : Nat} (hf : 2 ≤ fan) (hf2 : fan ≤ 16) (hl : 1 ≤ leaf) : ∀ {ps : List AP}, (∀ p ∈ ps, p.ok) → ((replyA its fan leaf ps).flatMap AP.enc).length ≤ ps.length * 3500 ∧ (replyA its fan leaf ps).length ≤ ps.length * 17
 | [], _ => ⟨Nat.zero_le _, Nat.zero_le _⟩
 | p :: ps, hp => by
  obtain ⟨i1, i2⟩ := replyA_enc hs h40 hf hf2 hl (ps := ps) fun q hq => hp q (by simp [hq])
  have h := repA_ok hs h40 hf hf2 hl (hp p (by simp))
  have e : replyA its fan leaf (p :: ps) = repA its fan leaf p ++ replyA its fan leaf ps := List.flatMap_cons
  have h1 := h.len
  have h2 := h.cnt
  rw [e, List.flatMap_append, List.length_append, List.length_append, List.length_cons]
  omega
theorem encA_le (ps : List AP) (h : ps.length < 18446744073709551616) : (encA ps).length ≤ (ps.flatMap AP.enc).length + 10 := by
 unfold encA
 split
 ·simp
 ·have h := num_length _ h
  rw [List.length_append]; omega
theorem needA_len {its : List Bs} {p : AP} (hp : p.ok) : (needA its p).length ≤ 16384 ∧ all32 (needA its p) := by
 obtain ⟨_, h3⟩ := hp
 obtain ⟨lo, hi, c⟩ := p
 cases c with
 | sum n f => exact ⟨Nat.zero_le _, by intro x hx; cases hx⟩
 | list xs => exact ⟨Nat.le_trans (without_len _ _) (Nat.le_trans h3.1 (by omega)), without32 h3.2.1⟩
 | ans xs ms => exact ⟨Nat.le_trans (without_len _ _) h3.1.1, without32 h3.1.2.1⟩
theorem offA_len {its : List Bs} (hs : okSet its) (h40 : its.length ≤ 40) {p : AP} (hp : p.ok) : (offA its p).length ≤ 16384 ∧ all32 (offA its p) := by
 obtain ⟨_, h3⟩ := hp
 obtain ⟨lo, hi, c⟩ := p
 cases c with
 | sum n f => exact ⟨Nat.zero_le _, by intro x hx; cases hx⟩
 | list xs => exact ⟨Nat.le_trans (without_len _ _) (Nat.le_trans (inL_len _ _ _) (by omega)), without32 (inL32 hs _ _)⟩
 | ans xs ms => exact ⟨Nat.le_trans (keepIn_len _ _) h3.2.1, keepIn32 h3.2.2.1⟩
theorem flat32m {α : Type} {g : α → List Bs} {l : List α} (h : ∀ p ∈ l, all32 (g p)) : all32 (l.flatMap g) := fun x hx => by
 obtain ⟨p, h1, h2⟩ := List.mem_flatMap.1 hx
 exact h p h1 x h2
end Go.Proofs.YtlepfnihpdhcaaaGreatDoor
namespace Go.Proofs.YtlepfnihpdhcaaaGreatDoor
def newE (fan leaf : Int) (l : List Bs) : Int := if okP fan leaf = true then setE l else 1
theorem start_ok {its : List Bs} (h40 : its.length ≤ 40) : (sumA its [] []).fit ∧ (encA [sumA its [] []]).length ≤ 1048576 ∧ encA [sumA its [] []] ≠ [] := by
 obtain ⟨h1, h2⟩ := sumA_ok h40 (p := sumA its [] []) rfl (by simp [sumA]) (by simp [sumA])
 have hp := numPos 1
 have ho := num_one (n := 1) (by omega)
 have e : encA [sumA its [] []] = num 1 ++ (sumA its [] []).enc := by
  unfold encA
  rw [if_neg (by simp)]
  simp
 refine ⟨h1, ?_, ?_⟩
 ·rw [e, List.length_append]; omega
 ·intro h
  have := congrArg List.length (e.symm.trans h)
  rw [List.length_append, List.length_nil] at this
  omega
/-! ### A run: message j goes to b if j is even, to a if it is odd -/
def sideOf (a b : List Bs) (j : Nat) : List Bs := if j % 2 = 0 then b else a
def runM (a b : List Bs) (fan leaf : Nat) : Nat → Bs
 | 0 => encA [sumA a [] []]
 | j + 1 => (stepA (sideOf a b j) fan leaf (runM a b fan leaf j)).reply
def runR (a b : List Bs) (fan leaf j : Nat) : StepR := stepA (sideOf a b j) fan leaf (runM a b fan leaf j)
def runN (a b : List Bs) (fan leaf par : Nat) : Nat → List Bs × List Bs
 | 0 => ([], [])
 | j + 1 => if j % 2 = par then ((runN a b fan leaf par j).1 ++ (runR a b fan leaf j).need, (runN a b fan leaf par j).2 ++ (runR a b fan leaf j).off) else runN a b fan leaf par j
def runB (a b : List Bs) (fan leaf : Nat) : Nat → Nat
 | 0 => 0
 | j + 1 => runB a b fan leaf j + (runM a b fan leaf j).length
structure RunEnds (a b : List Bs) (fan leaf K : Nat) : Prop where
 go : ∀ j, j < K → runM a b fan leaf j ≠ [] ∧ (runR a b fan leaf j).err = 0
 stop : runM a b fan leaf K = []
 le : K ≤ 30
theorem step_len (its : List Bs) (fan leaf : Nat) (D : Bs) : (stepA its fan leaf D).reply.length ≤ 1048576 := by
 unfold stepA
 split
 ·simp
 ·split
  ·simp
  ·split
   ·simp
   ·dsimp only; omega
theorem runM_len {a b : List Bs} (h : a.length ≤ 40) (fan leaf : Nat) : ∀ j, (runM a b fan leaf j).length ≤ 1048576
 | 0 => (start_ok h).2.1
 | _ + 1 => step_len _ _ _ _
theorem step_need {its : List Bs} {fan leaf : Nat} {D : Bs} (hD : D.length ≤ 1048576) (hs : okSet its) (h40 : its.length ≤ 40) : (stepA its fan leaf D).need.length ≤ 17179869184 ∧ (stepA its fan leaf D).off.length ≤ 17179869184 := by
 unfold stepA
 split
 ·simp
 ·split
  ·simp
  ·rename_i ps hd
   split
   ·simp
   ·obtain ⟨_, hm, hl⟩ := decA_sound hd
    have key : ∀ (g : AP → List Bs) (l : List AP), (∀ p ∈ l, (g p).length ≤ 16384) → (l.flatMap g).length ≤ l.length * 16384 := by
     intro g l
     induction l with
     | nil => intro _; simp
     | cons p l ih =>
      intro h
      rw [List.flatMap_cons, List.length_append, List.length_cons]
      have h1 := h p (by simp)
      have h2 := ih fun q hq => h q (by simp [hq])
      omega
    have k1 := key (needA its) ps fun p hp => (needA_len (hm.2.1 p hp)).1
    have k2 := key (offA its) ps fun p hp => (offA_len hs h40 (hm.2.1 p hp)).1
    dsimp only
    omega
theorem runN_len {a b : List Bs} {fan leaf par : Nat} (ha : okSet a) (hb : okSet b) (ha4 : a.length ≤ 40) (hb4 : b.length ≤ 40) : ∀ j, (runN a b fan leaf par j).1.length ≤ j * 17179869184 ∧ (runN a b fan leaf par j).2.length ≤ j * 17179869184
 | 0 => ⟨Nat.zero_le _, Nat.zero_le _⟩
 | j + 1 => by
  obtain ⟨i1, i2⟩ := runN_len (par := par) ha hb ha4 hb4 j (fan := fan) (leaf := leaf)
  have hM := runM_len (b := b) ha4 fan leaf j
  have hn : (runR a b fan leaf j).need.length ≤ 17179869184 ∧ (runR a b fan leaf j).off.length ≤ 17179869184 := by
   unfold runR sideOf
   split
   ·exact step_need hM hb hb4
   ·exact step_need hM ha ha4
  rw [runN]
  split
  ·dsimp only
   rw [List.length_append, List.length_append]
   omega
  ·omega
theorem runB_le {a b : List Bs} (h : a.length ≤ 40) (fan leaf : Nat) : ∀ j, runB a b fan leaf j ≤ j * 1048576
 | 0 => Nat.zero_le _
 | j + 1 => by
  have h1 := runB_le h fan leaf j (b := b)
  have h2 := runM_len (b := b) h fan leaf j
  rw [runB]; omega
theorem RunEnds.lt {a b : List Bs} {fan leaf K j : Nat} (h : RunEnds a b fan leaf K) (hj : j ≤ K) (hm : 0 < (runM a b fan leaf j).length) : j < K := by
 rcases Nat.lt_or_ge j K with h1 | h1
 ·exact h1
 ·obtain rfl : j = K := by omega
  rw [h.stop] at hm
  simp at hm
theorem RunEnds.eq {a b : List Bs} {fan leaf K j : Nat} (h : RunEnds a b fan leaf K) (hj : j ≤ K) (hm : ¬ 0 < (runM a b fan leaf j).length) : j = K := by
 rcases Nat.lt_or_ge j K with h1 | h1
 ·exact absurd (List.length_pos_iff.2 (h.go j h1).1) hm
 ·omega
theorem okP_nat {fan leaf : Int} (h : okP fan leaf = true) : (∃ f : Nat, fan = f) ∧ ∃ g : Nat, leaf = g := by
 unfold okP at h
 simp only [Bool.and_eq_true, decide_eq_true_eq] at h
 exact ⟨⟨fan.toNat, by omega⟩, leaf.toNat, by omega⟩
theorem okP_bnds {f g : Nat} (h : okP (f : Int) (g : Int) = true) : 2 ≤ f ∧ f ≤ 16 ∧ 1 ≤ g ∧ g ≤ 64 := by
 unfold okP at h
 simp only [Bool.and_eq_true, decide_eq_true_eq] at h
 omega
end Go.Proofs.YtlepfnihpdhcaaaGreatDoor
namespace Go.Proofs.YtlepfnihpdhcaaaGreatDoor
open Go.RowKit
structure QV where
 (lo hi : Bs) (k n : Nat) (f : Bs) (A : Option Addr) (c : Nat) (xs : List Bs) (B : Option Addr) (d : Nat) (ms : List Bs)
def QV.cells (q : QV) : List Value := [.string (strOf q.lo), .string (strOf q.hi), .int .i64 ((q.k : Nat) : Int), .int .i64 ((q.n : Nat) : Int), .string (strOf q.f), .slice q.A q.xs.length q.c, .slice q.B q.ms.length q.d]
def QV.abs (q : QV) : AP := ⟨q.lo, q.hi, if q.k = 1 then .sum q.n q.f else if q.k = 2 then .list q.xs else .ans q.xs q.ms⟩
def QV.kOk (q : QV) : Prop := q.k = 1 ∨ q.k = 2 ∨ q.k = 3
def QV.rows (q : QV) : List (Option Addr × List Bs) := [(q.A, q.xs), (q.B, q.ms)]
def QS (qs : List QV) : List Value := qs.flatMap QV.cells
abbrev cQ (A : Option Addr) (l : List QV) (c : Nat) : Ch := cOwn 80 7 A l.length c (QS l)
theorem QS_append (a b : List QV) : QS (a ++ b) = QS a ++ QS b := List.flatMap_append
theorem QS_length : ∀ qs : List QV, (QS qs).length = qs.length * 7
 | [] => rfl
 | q :: qs => by
  show (q.cells ++ QS qs).length = _
  rw [List.length_append, QS_length qs, List.length_cons]
  show 7 + _ = _
  omega
theorem QV.one (q : QV) : ∀ u ∈ q.cells, u.oneCell' = true := by
 intro u hu
 simp only [QV.cells, List.mem_cons, List.not_mem_nil, or_false] at hu
 rcases hu with rfl | rfl | rfl | rfl | rfl | rfl | rfl <;> rfl
theorem QS_one {qs : List QV} : ∀ u ∈ QS qs, u.oneCell' = true := by
 intro u hu
 obtain ⟨q, _, hq⟩ := List.mem_flatMap.1 hu
 exact QV.one q u hq
theorem QS_at {qs : List QV} {i : Nat} {q : QV} (h : qs[i]? = some q) (k : Nat) (v : Value) (hk : q.cells[k]? = some v) : (QS qs)[i * 7 + k]? = some v := by
 induction qs generalizing i with
 | nil => simp at h
 | cons p qs ih =>
  show (p.cells ++ QS qs)[i * 7 + k]? = some v
  cases i with
  | zero =>
   simp only [List.getElem?_cons_zero, Option.some.injEq] at h
   subst h
   rw [Nat.zero_mul, Nat.zero_add, List.getElem?_append_left (List.getElem?_eq_some_iff.1 hk).1]
   exact hk
  | succ i =>
   rw [List.getElem?_append_right (by show 7 ≤ _; omega), show (i + 1) * 7 + k - p.cells.length = i * 7 + k by show _ - 7 = _; omega]
   exact ih (by simpa using h)
def QsOk (qs : List QV) (w : World) : Prop := ∀ q ∈ qs, ∀ r ∈ q.rows, RowIn w r.1 (SS r.2)
theorem el_qpart : Elem Tryz.prog 81 80 (.agg #[.string ⟨#[]⟩, .string ⟨#[]⟩, .int .i64 0, .int .i64 0, .string ⟨#[]⟩, .slice none 0 0, .slice none 0 0]) 7 112 := ⟨Tryz.underlying81, by kernel_rfl, rfl, by omega, by omega⟩
section
variable {P : Program} {Q : Exit → Act → World → Prop} {n : Nat} {w0 : World} {F : List Nat} {E : Env} {cs : List Ch} {X K : Act → World → Prop} {ops : Array Oper} {o oi : Oper} {rest : List Oper} {d : Nat}
theorem qpart_cells {w : World} {A : Option Addr} {qs : List QV} {i : Nat} {p : QV} (h : RowIn w A (QS qs)) (hp : qs[i]? = some p) {b q : Nat} (hA : A = some ⟨b, q, none⟩) : ∀ j v, p.cells[j]? = some v → w.cell? ⟨b, q + i * 7 + j, none⟩ = some v := fun j v hj => by
 rw [Nat.add_assoc]
 exact row_cell h (QS_at hp j v hj) hA
theorem St.qPtr {A : Option Addr} {qs : List QV} {i : Nat} {p : QV} (h : ∀ w, Mm w0 F cs w → RowIn w A (QS qs)) (hp : qs[i]? = some p) (k : ∀ b q, A = some ⟨b, q, none⟩ → (∀ w, Mm w0 F cs w → ∀ j v, p.cells[j]? = some v → w.cell? ⟨b, q + i * 7 + j, none⟩ = some v) → St n w0 F E cs X) : St n w0 F E cs X := fun a w ha hM => by
 obtain ⟨b, q, hA⟩ := row_form (h w hM) (QS_at hp 0 _ rfl)
 exact k b q hA (fun w' hM' => qpart_cells (h w' hM') hp hA) a w ha hM
theorem Any.qPtr {css : List Ch} {z fuel : Nat} {listed : Array Bool} {A : Option Addr} {qs : List QV} {i : Nat} {p : QV} (h : ∀ w, Mm w0 F css w → RowIn w A (QS qs)) (hp : qs[i]? = some p) (k : ∀ b q, A = some ⟨b, q, none⟩ → (∀ w, Mm w0 F css w → ∀ j v, p.cells[j]? = some v → w.cell? ⟨b, q + i * 7 + j, none⟩ = some v) → Any P ops Q n w0 F E cs css z fuel listed) : Any P ops Q n w0 F E cs css z fuel listed := fun a w ha hM hS hc => by
 obtain ⟨b, q, hA⟩ := row_form (h w hS) (QS_at hp 0 _ rfl)
 exact k b q hA (fun w' hM' => qpart_cells (h w' hM') hp hA) a w ha hM hS hc
theorem rIndexRowK {ty e : TypeId} {z : Nat} {x i : Operand} {A : Option Addr} {b off len cap j : Nat} {k : IntKind} (ho : o.op = .indexAddr ty x i) (hu : P.underlying ty = some (.slice e)) (hsz : sizeT P e = some z) (hx : evO E x = some (.slice A len cap)) (hi : evO E i = some (.int k (j : Int))) (hA : A = some ⟨b, off, none⟩) (hlt : j < len) : RunV P w0 F cs E o (.pointer (some ⟨b, off + j * z, none⟩)) := by
 subst hA
 exact rIndexAddr ho hu hsz hx hi hlt
end
theorem enc_q1 {q : QV} (h : q.k = 1) : q.abs.enc = ((num q.lo.length ++ q.lo) ++ (num q.hi.length ++ q.hi)) ++ ((num q.k ++ num q.n) ++ q.f) := by simp [AP.enc, QV.abs, AC.enc, h]
theorem enc_q2 {q : QV} (h : q.k = 2) : q.abs.enc = ((num q.lo.length ++ q.lo) ++ (num q.hi.length ++ q.hi)) ++ (num q.k ++ (num q.xs.length ++ q.xs.flatten)) := by simp [AP.enc, QV.abs, AC.enc, h]
theorem enc_q3 {q : QV} (h : q.k = 3) : q.abs.enc = ((num q.lo.length ++ q.lo) ++ (num q.hi.length ++ q.hi)) ++ ((num q.k ++ (num q.xs.length ++ q.xs.flatten)) ++ (num q.ms.length ++ q.ms.flatten)) := by simp [AP.enc, QV.abs, AC.enc, h]
theorem fit_q {q : QV} (h : q.abs.fit) : q.lo.length ≤ 32 ∧ q.hi.length ≤ 32 := ⟨h.1, h.2.1⟩
theorem fit_q1 {q : QV} (hk : q.k = 1) (h : q.abs.fit) : q.n ≤ 16384 ∧ q.f.length = 32 := by
 have h3 := h.2.2
 simp only [QV.abs, hk, if_true] at h3
 exact h3
theorem fit_q2 {q : QV} (hk : q.k = 2) (h : q.abs.fit) : q.xs.length ≤ 16384 ∧ ∀ x ∈ q.xs, x.length = 32 := by
 have h3 := h.2.2
 simp only [QV.abs, hk] at h3
 exact h3
theorem fit_q3 {q : QV} (hk : q.k = 3) (h : q.abs.fit) : (q.xs.length ≤ 16384 ∧ ∀ x ∈ q.xs, x.length = 32) ∧ q.ms.length ≤ 16384 ∧ ∀ x ∈ q.ms, x.length = 32 := by
 have h3 := h.2.2
 simp only [QV.abs, hk] at h3
 exact h3
/-! ### A division, as the specification makes it -/
def sumQ (its : List Bs) (lo hi : Bs) : QV := ⟨lo, hi, 1, cnt its lo hi, fpB (inL its lo hi), none, 0, [], none, 0, []⟩
def divQ (its own : List Bs) (fan : Nat) (lo : Bs) : Nat → Bs × List QV
 | 0 => (lo, [])
 | k + 1 => if own.getD ((k + 1) * own.length / fan) [] = (divQ its own fan lo k).1 then divQ its own fan lo k else (own.getD ((k + 1) * own.length / fan) [], (divQ its own fan lo k).2 ++ [sumQ its (divQ its own fan lo k).1 (own.getD ((k + 1) * own.length / fan) [])])
theorem divQ_abs (its own : List Bs) (fan : Nat) (lo : Bs) : ∀ k, (divQ its own fan lo k).1 = (divTo its own fan lo k).1 ∧ (divQ its own fan lo k).2.map QV.abs = (divTo its own fan lo k).2
 | 0 => ⟨rfl, rfl⟩
 | k + 1 => by
  obtain ⟨h1, h2⟩ := divQ_abs its own fan lo k
  unfold divQ divTo
  rw [h1]
  split
  ·exact ⟨h1, h2⟩
  ·refine ⟨rfl, ?_⟩
   rw [List.map_append, h2]
   rfl
theorem divQ_no {its own : List Bs} {fan k : Nat} {lo x : Bs} (hx : own[(k + 1) * own.length / fan]? = some x) (h : (!decide (x = (divQ its own fan lo k).1)) = false) : divQ its own fan lo (k + 1) = divQ its own fan lo k := by
 have e : own.getD ((k + 1) * own.length / fan) [] = x := by rw [List.getD_eq_getElem?_getD, hx]; rfl
 rw [divQ, e, if_pos (by simpa using h)]
theorem divQ_yes {its own : List Bs} {fan k : Nat} {lo x : Bs} (hx : own[(k + 1) * own.length / fan]? = some x) (h : (!decide (x = (divQ its own fan lo k).1)) = true) : divQ its own fan lo (k + 1) = (x, (divQ its own fan lo k).2 ++ [sumQ its (divQ its own fan lo k).1 x]) := by
 have e : own.getD ((k + 1) * own.length / fan) [] = x := by rw [List.getD_eq_getElem?_getD, hx]; rfl
 rw [divQ, e, if_neg (by simpa using h)]
theorem divQ_len (its own : List Bs) (fan : Nat) (lo : Bs) : ∀ k, (divQ its own fan lo k).2.length ≤ k
 | 0 => Nat.le_refl _
 | k + 1 => by
  have := divQ_len its own fan lo k
  unfold divQ
  split
  ·omega
  ·simp only [List.length_append, List.length_cons, List.length_nil]; omega
def Summed (q : QV) : Prop := q.k = 1 ∧ q.rows = [(none, []), (none, [])]
theorem divQ_sum (its own : List Bs) (fan : Nat) (lo : Bs) : ∀ k, ∀ p ∈ (divQ its own fan lo k).2, Summed p
 | 0 => by simp [divQ]
 | k + 1 => by
  unfold divQ
  split
  ·exact divQ_sum its own fan lo k
  ·intro p hp
   rcases List.mem_append.1 hp with hp | hp
   ·exact divQ_sum its own fan lo k p hp
   ·rw [List.mem_singleton.1 hp]; exact ⟨rfl, rfl⟩
end Go.Proofs.YtlepfnihpdhcaaaGreatDoor
namespace Go.Proofs.YtlepfnihpdhcaaaGreatDoor
open Go.RowKit
def Sub8 (A : Option Addr) (D : Bs) (B : Option Addr) (l : Bs) (c : Nat) : Prop := (∀ w, RowIn w A (B8 D) → RowIn w B (B8 l)) ∧ l.length ≤ c ∧ l.length ≤ D.length
theorem Sub8.drop {A B : Option Addr} {D l : Bs} {c : Nat} (h : Sub8 A D B l c) {k : Nat} (hk : k ≤ l.length) : Sub8 A D (if c = k then B else B.map (·.add (k * 1))) (l.drop k) (c - k) := by
 obtain ⟨h1, h2, h3⟩ := h
 refine ⟨fun w hr i u hu => ?_, by rw [List.length_drop]; omega, by rw [List.length_drop]; omega⟩
 have hu' : (B8 l)[k + i]? = some u := by
  unfold B8 at hu ⊢
  rw [List.map_drop, List.getElem?_drop] at hu
  exact hu
 have hlt := (List.getElem?_eq_some_iff.1 hu').1
 rw [B8_length] at hlt
 obtain ⟨b, o, hA, hb, hc⟩ := h1 w hr (k + i) u hu'
 rw [if_neg (by omega), hA]
 refine ⟨b, o + k, ?_, hb, by rw [Nat.add_assoc]; exact hc⟩
 show some ((⟨b, o, none⟩ : Addr).add (k * 1)) = _
 rw [Nat.mul_one, add_none]
def tkB (l : Bs) (bad : Bool) (n : Nat) : Bool := bad || decide (l.length < n)
def tkV (l : Bs) (bad : Bool) (n : Nat) : Bs := if tkB l bad n then [] else l.take n
def tkL (l : Bs) (bad : Bool) (n : Nat) : Bs := if tkB l bad n then l else l.drop n
def nmR (l : Bs) (bad : Bool) (most : Nat) : Nat × Bs × Bool :=
 if bad then (0, l, true) else match rdNum l 0 with
  | some (n, m) => if n ≤ most then (n, l.drop m, false) else (0, l, true)
  | none => (0, l, true)
theorem nmR_num {l : Bs} {n most : Nat} (hn : n ≤ most) (hu : n ≤ 1048576) : nmR (num n ++ l) false most = (n, l, false) := by
 have h := rdNum_num (num n ++ l) 0 n l rfl (u64_small (by omega))
 unfold nmR
 rw [if_neg (by simp), h]
 dsimp only
 rw [if_pos hn, Nat.zero_add, List.drop_left]
theorem nmR_ok {l : Bs} {k n most : Nat} (h : l.take k = num n) (hn : n ≤ most) (hu : n ≤ 1048576) : nmR l false most = (n, l.drop k, false) := by
 have e : l = num n ++ l.drop k := by rw [← h, List.take_append_drop]
 have h1 := nmR_num (l := l.drop k) hn hu
 rw [← e] at h1
 exact h1
theorem nmR_brk {l : Bs} {k most : Nat} {x : UInt8} (hp : ∀ j b, j < k → l[j]? = some b → 128 ≤ b.toNat) (hx : l[k]? = some x) (hlt : x.toNat < 128) (h : most < accN l (k + 1) ∨ num (accN l (k + 1)) ≠ l.take (k + 1)) : nmR l false most = (0, l, true) := by
 have e := rdNum_at l 0 k x (by simpa using hp) (by simpa using hx) hlt
 unfold nmR
 rw [if_neg (by simp), e]
 by_cases hc : k ≤ 9 ∧ ¬ (0 < k ∧ x.toNat = 0) ∧ ¬ (k = 9 ∧ 1 < x.toNat)
 ·rw [if_pos hc]
  dsimp only
  rw [List.drop_zero]
  by_cases hm : accN l (k + 1) ≤ most
  ·obtain ⟨e1, e2⟩ := num_of k l hp ⟨x, hx, hlt, hc.2.1⟩
   have e3 : l.take (k + 1) = num (accN l (k + 1)) := by
    generalize num (accN l (k + 1)) = z at e1 e2
    rw [e1, ← e2, List.take_left]
   rcases h with h | h
   ·exact absurd hm (by omega)
   ·exact absurd e3.symm h
  ·rw [if_neg hm]
 ·rw [if_neg hc]
theorem nmR_end {l : Bs} {k most : Nat} (hp : ∀ j b, j < k → l[j]? = some b → 128 ≤ b.toNat) (hk : k = l.length ∨ k = 3) (hm : most ≤ 1048576) : nmR l false most = (0, l, true) := by
 unfold nmR
 rw [if_neg (by simp)]
 cases hr : rdNum l 0 with
 | none => rfl
 | some p =>
  obtain ⟨n, m⟩ := p
  dsimp only
  by_cases hn : n ≤ most
  ·exfalso
   have e := rdNum_took l 0 n m hr
   rw [List.drop_zero] at e
   have h3 := num_length_pow 2 n (by omega)
   have hl : (num n).length ≤ l.length := by rw [e, List.length_append]; omega
   have hpos : 0 < (num n).length := num_pos n
   have hb : (num n)[(num n).length - 1]? = some ((num n)[(num n).length - 1]'(by omega)) := List.getElem?_eq_getElem _
   have h1 := ((num_get n _ _ hb).2 (by omega)).1
   have hb2 : l[(num n).length - 1]? = some ((num n)[(num n).length - 1]'(by omega)) := by
    rw [e, List.getElem?_append_left (by omega)]
    exact hb
   have h2 := hp ((num n).length - 1) _ (by omega) hb2
   omega
  ·rw [if_neg hn]
theorem acc_step {l : Bs} {i k : Nat} {x : UInt8} (hx : l[i]? = some x) (hi : i < k) : accN (l.drop (i + 1)) (k - (i + 1)) * 128 + x.toNat % 128 = accN (l.drop i) (k - i) := by
 obtain ⟨hlt, hx'⟩ := List.getElem?_eq_some_iff.1 hx
 rw [List.drop_eq_getElem_cons hlt, hx', show k - i = (k - (i + 1)) + 1 by omega, accN]
 omega
theorem acc_small (l : Bs) {k : Nat} (h : k ≤ 3) : accN l k ≤ 2097151 := by
 have h1 := accN_lt k l
 have : 128 ^ k ≤ 128 ^ 3 := Nat.pow_le_pow_right (by omega) h
 omega
theorem nmR_le (l : Bs) (bad : Bool) (most : Nat) : (nmR l bad most).1 ≤ most := by
 unfold nmR
 split
 ·exact Nat.zero_le _
 ·split
  ·split
   ·assumption
   ·exact Nat.zero_le _
  ·exact Nat.zero_le _
def bdX (l : Bs) (bad : Bool) : Bool := (nmR l bad 32).2.2 || (decide ((nmR l bad 32).1 ≠ 0) && decide ((nmR l bad 32).1 ≠ 32))
def bdR (l : Bs) (bad : Bool) : Bs × Bs × Bool := (tkV (nmR l bad 32).2.1 (bdX l bad) (nmR l bad 32).1, tkL (nmR l bad 32).2.1 (bdX l bad) (nmR l bad 32).1, tkB (nmR l bad 32).2.1 (bdX l bad) (nmR l bad 32).1)
def itS (l : Bs) (b : Bool) : Nat → List Bs × Bs × Bool
 | 0 => ([], l, b)
 | k + 1 => if (itS l b k).2.2 then itS l b k else ((itS l b k).1 ++ [tkV (itS l b k).2.1 false 32], tkL (itS l b k).2.1 false 32, tkB (itS l b k).2.1 false 32)
theorem itS_go {l : Bs} {b : Bool} {k : Nat} (h : (itS l b k).2.2 = false) : itS l b (k + 1) = ((itS l b k).1 ++ [tkV (itS l b k).2.1 false 32], tkL (itS l b k).2.1 false 32, tkB (itS l b k).2.1 false 32) := by rw [itS, if_neg (by simp [h])]
theorem itS_go2 {l : Bs} {b : Bool} {k : Nat} (h : (itS l b k).2.2 = false) : itS l b (k + 1) = ((itS l b k).1 ++ [tkV (itS l b k).2.1 (itS l b k).2.2 32], tkL (itS l b k).2.1 (itS l b k).2.2 32, tkB (itS l b k).2.1 (itS l b k).2.2 32) := by rw [h]; exact itS_go h
theorem itS_stop {l : Bs} {b : Bool} {k : Nat} (h : (itS l b k).2.2 = true) : ∀ j, itS l b (k + j) = itS l b k
 | 0 => rfl
 | j + 1 => by
  show itS l b ((k + j) + 1) = _
  rw [itS, if_pos (by rw [itS_stop h j]; exact h), itS_stop h j]
theorem itS_len (l : Bs) (b : Bool) : ∀ k, (itS l b k).1.length ≤ k
 | 0 => Nat.le_refl _
 | k + 1 => by
  have := itS_len l b k
  rw [itS]
  split
  ·omega
  ·simp only [List.length_append, List.length_cons, List.length_nil]; omega
def itN (l : Bs) (bad : Bool) (most : Nat) : List Bs × Bs × Bool := itS (nmR l bad most).2.1 (nmR l bad most).2.2 (nmR l bad most).1
theorem itN_stop {l : Bs} {bad : Bool} {most i : Nat} (h : (itS (nmR l bad most).2.1 (nmR l bad most).2.2 i).2.2 = true) (hi : i ≤ (nmR l bad most).1) : itN l bad most = itS (nmR l bad most).2.1 (nmR l bad most).2.2 i := by
 have e := itS_stop h ((nmR l bad most).1 - i)
 rw [show i + ((nmR l bad most).1 - i) = (nmR l bad most).1 by omega] at e
 exact e
def itR (l : Bs) (bad : Bool) (most : Nat) (lo hi : Bs) : List Bs × Bs × Bool := ((itN l bad most).1, (itN l bad most).2.1, (itN l bad most).2.2 || (decide (setE (itN l bad most).1 ≠ 0) || decide ((inL (itN l bad most).1 lo hi).length ≠ (itN l bad most).1.length)))
end Go.Proofs.YtlepfnihpdhcaaaGreatDoor
namespace Go.Proofs
open Go.Shelf
def Tryz.lays190_ren : Go.Shelf.Ren := ⟨fun | 190 => 71 | 125 => 96 | 258 => 95 | 128 => 118 | 129 => 119 | 302 => 109 | 303 => 110 | 304 => 111 | 305 => 112 | 306 => 113 | 307 => 114 | 308 => 115 | 309 => 116 | 310 => 117 | 333 => 123 | 329 => 124 | 330 => 125 | 334 => 126 | 335 => 127 | 336 => 128 | 344 => 129 | n => n, fun | 31 => 22 | 9 => 9 | 3 => 3 | 46 => 136 | 0 => 0 | 51 => 132 | 53 => 140 | 4 => 4 | 183 => 170 | 182 => 169 | 131 => 175 | 5 => 5 | 218 => 179 | 222 => 182 | 228 => 184 | 229 => 185 | n => n, fun | n => n⟩
theorem Tryz.lays190 : Go.Proofs.Lays.n190 Tryz.prog Tryz.lays190_ren := {
 mixed := by kernel_rfl
 f125 := Tryz.func96.trans (congrArg some (by kernel_rfl))
 f128 := Tryz.func118.trans (congrArg some (by kernel_rfl))
 f129 := Tryz.func119.trans (congrArg some (by kernel_rfl))
 f190 := Tryz.func71.trans (congrArg some (by kernel_rfl))
 f258 := Tryz.func95.trans (congrArg some (by kernel_rfl))
 f302 := Tryz.func109.trans (congrArg some (by kernel_rfl))
 f303 := Tryz.func110.trans (congrArg some (by kernel_rfl))
 f304 := Tryz.func111.trans (congrArg some (by kernel_rfl))
 f305 := Tryz.func112.trans (congrArg some (by kernel_rfl))
 f306 := Tryz.func113.trans (congrArg some (by kernel_rfl))
 f307 := Tryz.func114.trans (congrArg some (by kernel_rfl))
 f308 := Tryz.func115.trans (congrArg some (by kernel_rfl))
 f309 := Tryz.func116.trans (congrArg some (by kernel_rfl))
 f310 := Tryz.func117.trans (congrArg some (by kernel_rfl))
 f329 := Tryz.func124.trans (congrArg some (by kernel_rfl))
 f330 := Tryz.func125.trans (congrArg some (by kernel_rfl))
 f333 := Tryz.func123.trans (congrArg some (by kernel_rfl))
 f334 := Tryz.func126.trans (congrArg some (by kernel_rfl))
 f335 := Tryz.func127.trans (congrArg some (by kernel_rfl))
 f336 := Tryz.func128.trans (congrArg some (by kernel_rfl))
 f344 := Tryz.func129.trans (congrArg some (by kernel_rfl))
 t0 := Tryz.underlying0
 a0 := Tryz.isAgg0
 z0 := Tryz.sizeOf0
 v0 := Tryz.zeroValue0
 t3 := Tryz.underlying3
 a3 := Tryz.isAgg3
 z3 := Tryz.sizeOf3
 v3 := Tryz.zeroValue3
 t4 := Tryz.underlying4
 a4 := Tryz.isAgg4
 z4 := Tryz.sizeOf4
 v4 := Tryz.zeroValue4
 t5 := Tryz.underlying5
 a5 := Tryz.isAgg5
 z5 := Tryz.sizeOf5
 v5 := Tryz.zeroValue5
 t9 := Tryz.underlying9
 a9 := Tryz.isAgg9
 z9 := Tryz.sizeOf9
 v9 := Tryz.zeroValue9
 t31 := Tryz.underlying22
 a31 := Tryz.isAgg22
 z31 := Tryz.sizeOf22
 v31 := Tryz.zeroValue22
 t46 := Tryz.underlying136
 a46 := Tryz.isAgg136
 z46 := Tryz.sizeOf136
 v46 := Tryz.zeroValue136
 t51 := Tryz.underlying132
 a51 := Tryz.isAgg132
 z51 := Tryz.sizeOf132
 v51 := Tryz.zeroValue132
 t53 := Tryz.underlying140
 a53 := Tryz.isAgg140
 z53 := Tryz.sizeOf140
 v53 := Tryz.zeroValue140
 t131 := Tryz.underlying175
 a131 := Tryz.isAgg175
 z131 := Tryz.sizeOf175
 v131 := Tryz.zeroValue175
 t182 := Tryz.underlying169
 a182 := Tryz.isAgg169
 z182 := Tryz.sizeOf169
 v182 := Tryz.zeroValue169
 t183 := Tryz.underlying170
 a183 := Tryz.isAgg170
 z183 := Tryz.sizeOf170
 v183 := Tryz.zeroValue170
 t218 := Tryz.underlying179
 a218 := Tryz.isAgg179
 z218 := Tryz.sizeOf179
 v218 := Tryz.zeroValue179
 t222 := Tryz.underlying182
 a222 := Tryz.isAgg182
 z222 := Tryz.sizeOf182
 v222 := Tryz.zeroValue182
 t228 := Tryz.underlying184
 a228 := Tryz.isAgg184
 z228 := Tryz.sizeOf184
 v228 := Tryz.zeroValue184
 t229 := Tryz.underlying185
 a229 := Tryz.isAgg185
 z229 := Tryz.sizeOf185
 v229 := Tryz.zeroValue185 }
open Go.Sort Go.RowKit in
theorem Tryz.slices_Sort_string (blk off cap : Nat) (ss : List (List UInt8)) (w : World) (hH : Holds encStr w blk off ss.toArray) (hblk : blk < w.heap.size) (hsz : ss.length < 4611686018427387904) :
  Calls Tryz.prog 71 #[.slice (some ⟨blk, off, none⟩) ss.length cap] w fun e w' =>
   e = .returned (.tuple #[]) ∧ ∃ n os, w' = grow (putRow encStr (Sort.ahead w n) blk off (ss.mergeSort fun x y => decide (x ≤ y)).toArray) os := Any.slices_Sort_string Tryz.lays190 blk off cap ss w hH hblk hsz
open Go.RowKit Go.Sort in
theorem Tryz.slices_Sort_string_none (p : Option Addr) (cap : Nat) (w : World) :
  Calls Tryz.prog 71 #[.slice p 0 cap] w fun e w' => e = .returned (.tuple #[]) ∧ w' = w := Any.slices_Sort_string_none Tryz.lays190 p cap w
def Tryz.keysA_ren : Go.Shelf.Ren := ⟨fun | 7 => 50 | 10 => 72 | n => n, fun | 23 => 64 | 26 => 9 | 3 => 4 | 28 => 100 | 0 => 0 | 27 => 99 | 33 => 120 | 4 => 4 | n => n, fun | n => n⟩
theorem Tryz.keysA : Go.Proofs.SlLaysZ.n7 Tryz.prog Tryz.keysA_ren := {
 mixed := by kernel_rfl
 f7 := ⟨Tryz.f50.name, by decide, Tryz.func50.trans (congrArg some (by kernel_rfl))⟩
 f10 := ⟨Tryz.f72.name, by decide, Tryz.func72.trans (congrArg some (by kernel_rfl))⟩
 t0 := Tryz.underlying0
 a0 := Tryz.isAgg0
 z0 := Tryz.sizeOf0
 v0 := Tryz.zeroValue0
 t4 := Tryz.underlying4
 a4 := Tryz.isAgg4
 z4 := Tryz.sizeOf4
 v4 := Tryz.zeroValue4
 t23 := Tryz.underlying64
 a23 := Tryz.isAgg64
 z23 := Tryz.sizeOf64
 v23 := Tryz.zeroValue64
 t26 := Tryz.underlying9
 a26 := Tryz.isAgg9
 z26 := Tryz.sizeOf9
 v26 := Tryz.zeroValue9
 t27 := Tryz.underlying99
 a27 := Tryz.isAgg99
 z27 := Tryz.sizeOf99
 v27 := Tryz.zeroValue99
 t28 := Tryz.underlying100
 a28 := Tryz.isAgg100
 z28 := Tryz.sizeOf100
 v28 := Tryz.zeroValue100
 t33 := Tryz.underlying120
 a33 := Tryz.isAgg120
 z33 := Tryz.sizeOf120
 v33 := Tryz.zeroValue120 }
def Tryz.sortedA_ren : Go.Shelf.Ren := ⟨fun | 6 => 49 | 8 => 70 | 9 => 71 | 11 => 94 | 13 => 96 | 12 => 95 | 23 => 118 | 24 => 119 | 14 => 109 | 15 => 110 | 16 => 111 | 17 => 112 | 18 => 113 | 19 => 114 | 20 => 115 | 21 => 116 | 22 => 117 | 25 => 123 | 26 => 124 | 27 => 125 | 28 => 126 | 29 => 127 | 30 => 128 | 31 => 129 | n => n, fun | 26 => 9 | 28 => 100 | 24 => 22 | 0 => 0 | 3 => 3 | 37 => 136 | 48 => 132 | 50 => 140 | 4 => 4 | 40 => 170 | 39 => 169 | 45 => 175 | 5 => 5 | 9 => 9 | 51 => 179 | 55 => 182 | 57 => 184 | 58 => 185 | 33 => 120 | n => n, fun | n => n⟩
theorem Tryz.sortedA : Go.Proofs.SlLaysZ.n6 Tryz.prog Tryz.sortedA_ren := {
 mixed := by kernel_rfl
 f6 := ⟨Tryz.f49.name, by decide, Tryz.func49.trans (congrArg some (by kernel_rfl))⟩
 f8 := ⟨Tryz.f70.name, by decide, Tryz.func70.trans (congrArg some (by kernel_rfl))⟩
 f11 := ⟨Tryz.f94.name, by decide, Tryz.func94.trans (congrArg some (by kernel_rfl))⟩
 t0 := Tryz.underlying0
 a0 := Tryz.isAgg0
 z0 := Tryz.sizeOf0
 v0 := Tryz.zeroValue0
 t24 := Tryz.underlying22
 a24 := Tryz.isAgg22
 z24 := Tryz.sizeOf22
 v24 := Tryz.zeroValue22
 t26 := Tryz.underlying9
 a26 := Tryz.isAgg9
 z26 := Tryz.sizeOf9
 v26 := Tryz.zeroValue9
 t28 := Tryz.underlying100
 a28 := Tryz.isAgg100
 z28 := Tryz.sizeOf100
 v28 := Tryz.zeroValue100
 i26 := by kernel_rfl }
end Go.Proofs
namespace Go.Proofs.YtlepfnihpdhcaaaGreatDoor
open Go.RowKit Go.Sort
open Go.Maps (setOf)
def SetAt (w : World) (b : Nat) (S : List (List UInt8)) : Prop := w.ownsMap (H := Unit) Tryz.prog 9 (plainElem Tryz.prog 4) b S.length (setOf (.lit (.bool true)) (S.map Lit.string))
theorem SetAt.new (w : World) : SetAt (w.alloc (.map #[] 0)) w.heap.size [] := World.ownsMap_made w _ _ _
theorem SetAt.lt {w : World} {b : Nat} {S : List (List UInt8)} (h : SetAt w b S) : b < w.heap.size := World.ownsMap.lt h
theorem key_lit (p : List UInt8) (hp : p.length ≤ maxLen) : keyOf Tryz.prog 9 (.string (strOf p)) = some (.string p) := by
 have hs : (strOf p).size = p.length := by simp [strOf, ByteArray.size]
 exact WideMaps.keyOf_string_mk Tryz.underlying9 (s := strOf p) (by rw [hs]; exact hp)
theorem atKey_setOf (u z : DataW Unit) (p : List UInt8) : ∀ R : List (List UInt8), (setOf u (R.reverse.map Lit.string)).atKey (.string p) z = if R.contains p then u else z
 | [] => rfl
 | x :: R => by
  have hm : Maps.IsMap (setOf u (R.reverse.map Lit.string)) := (Maps.tidy_setOf u _ (by intro y hy; obtain ⟨q, _, rfl⟩ := List.mem_map.1 hy; exact True.intro)).isMap
  rw [List.reverse_cons, List.map_append, List.map_cons, List.map_nil, Maps.setOf_snoc]
  by_cases hx : p = x
  ·subst hx
   have hk : WideAt.IsKeyLit (Lit.string p) := True.intro
   rw [Maps.atKey_put_same hm hk]
   simp
  ·rw [Maps.atKey_put_other (fun e => hx (by injection e)), atKey_setOf u z p R]
   have : (p == x) = false := by simpa using hx
   simp only [List.contains_cons, this, Bool.false_or]
theorem SetAt.lookup {w : World} {b : Nat} {S : List (List UInt8)} (h : SetAt w b S) (p : List UInt8) (hp : p.length ≤ maxLen) :
  (Instr.lookup 64 (.map (some b)) (.string (strOf p)) false).run Tryz.prog w = .ok (.bool (S.contains p)) w := by
 have he : Tryz.prog.underlying 4 = some .bool := Tryz.underlying4
 obtain ⟨v, ps, hrun, hv⟩ := World.ownsMap.lookup h (Maps.string_keyed Tryz.underlying9) Tryz.underlying64 (z := .bool false) (by kernel_rfl) (plainElem_bool he false) (key_lit p hp)
 have e := atKey_setOf (.lit (.bool true)) (.lit (.bool false)) p S.reverse
 rw [List.reverse_reverse, List.contains_reverse] at e
 rw [e] at hv
 rw [hrun]
 unfold plainElem at hv
 rw [he] at hv
 cases v with
 | bool x =>
  simp only [Option.some.injEq, Prod.mk.injEq] at hv
  cases hS : S.contains p with
  | true => rw [hS] at hv; simp at hv; rw [hv.1]
  | false => rw [hS] at hv; simp at hv; rw [hv.1]
 | _ => simp at hv
theorem SetAt.of_put {w : World} {b : Nat} {S : List (List UInt8)} {p : List UInt8} (h : w.ownsMap (H := Unit) Tryz.prog 9 (plainElem Tryz.prog 4) b (S.length + 1) ((setOf (.lit (.bool true)) (S.map Lit.string)).put (.string p) (.lit (.bool true)))) : SetAt w b (S ++ [p]) := by
 unfold SetAt
 rw [List.map_append, List.map_cons, List.map_nil, Maps.setOf_snoc, List.length_append]
 exact h
end Go.Proofs.YtlepfnihpdhcaaaGreatDoor
namespace Go.Proofs.YtlepfnihpdhcaaaGreatDoor
open Go.RowKit
def cSet (b : Nat) (S : List (List UInt8)) : Ch where
 fp := [b]
 holds w := SetAt w b S
 ok w w' hb h := by
  obtain ⟨es, clock, h1, h2⟩ := h
  exact ⟨es, clock, (hb b (by simp)).trans h1, h2⟩
 lt w h c hc := by
  rw [List.mem_singleton] at hc
  subst hc
  exact h.lt
section
variable {Q : Exit → Act → World → Prop} {n : Nat} {w0 : World} {F : List Nat} {E : Env} {cs : List Ch} {X K : Act → World → Prop} {o : Oper} {d : Nat}
theorem opMakeSet {t : TypeId} (ho : o.op = .makeMap t none) (hd : o.dst = some d) (hk : opOk n E o = true) (h : ∀ b, St n w0 F ((d, .map (some b)) :: E) (cs ++ [cSet b []]) K) : OpW Tryz.prog Q n w0 F E cs o K :=
 opEff hd hk fun w hM => by
  refine ⟨.map (some w.heap.size), w.alloc (.map #[] 0), _, ?_, hM.push (c := cSet w.heap.size []) ((Fr.refl _ _).alloc _) (SetAt.new w) (by simp [cSet]) (by simp [cSet]), h _⟩
  unfold execOp
  simp only [ho, Option.map_none, Sem.run_bind, run_makeMap, Result.andThen_ok]
  rfl
theorem rSetGet {x y : Operand} {b : Nat} {S : List (List UInt8)} {p : List UInt8} (i : Nat) (ho : o.op = .lookup 64 x y false) (hx : evO E x = some (.map (some b))) (hy : evO E y = some (.string (strOf p))) (hi : cs[i]? = some (cSet b S)) (hp : p.length ≤ 1099511627776) : RunV Tryz.prog w0 F cs E o (.bool (S.contains p)) := fun w hM => by
 have h : SetAt w b S := hM.at hi
 have hr := h.lookup p (by unfold maxLen; omega)
 unfold execOp
 simp only [ho, evE_of hx, evE_of hy, Sem.run_bind, hr]
 rfl
theorem opSetPut {x y v : Operand} {b : Nat} {S : List (List UInt8)} {p : List UInt8} (i : Nat) (ho : o.op = .mapUpdate 64 x y v) (hd : o.dst = none) (hk : opOk n E o = true) (hx : evO E x = some (.map (some b))) (hy : evO E y = some (.string (strOf p))) (hv : evO E v = some (.bool true)) (hi : cs[i]? = some (cSet b S)) (hp : p.length ≤ 1099511627776) (hS : S.length ≤ 1099511627776)
  (h : St n w0 F E (cs.set i (cSet b (S ++ [p]))) K) : OpW Tryz.prog Q n w0 F E cs o K :=
 opSkip hd hk fun w hM => by
  have hs : SetAt w b S := hM.at hi
  obtain ⟨w', hrun, r1, r2⟩ := World.ownsMap.update hs (Maps.string_keyed Tryz.underlying9) Tryz.underlying64 (by unfold maxLen; omega) (key_lit p (by unfold maxLen; omega)) (plainElem_bool Tryz.underlying4 true)
  have hf : Fr (cSet b S).fp w w' := ⟨r2.os, r2.tape, r2.output, r2.size, fun k hk' hn => r2.block k hk' (fun e => by
   injection e with e
   exact hn (by simp [cSet, e]))⟩
  refine ⟨w', _, ?_, hM.swap i hi (c' := cSet b (S ++ [p])) hf (SetAt.of_put r1) (fun c hc => .inl hc) (by simp [cSet]), h⟩
  unfold execOp
  simp only [ho, evE_of hx, evE_of hy, evE_of hv, Sem.run_bind, hrun]
  rfl
end
end Go.Proofs.YtlepfnihpdhcaaaGreatDoor
namespace Go.Proofs.YtlepfnihpdhcaaaGreatDoor
open Go.RowKit Go.Sort Go.Shelf
open Go.Maps (setOf)
theorem sort_keys {S ss : List Bs} {D : DataW Unit} (hD : D = setOf (DataW.lit (.bool true)) (S.map Lit.string)) (hk : ∀ p, ∀ es, D = .map es → p ∈ es → ∃ x, p.1 = Lit.string x) (hp : ss.Perm (strKeys D)) : ss.mergeSort (fun x y => decide (x ≤ y)) = withL [] S := by
 have hlit : ∀ x ∈ S.map Lit.string, WideAt.IsKeyLit x := by intro y hy; obtain ⟨q, _, rfl⟩ := List.mem_map.1 hy; exact True.intro
 have hasc := withL_asc0 S
 have hnd : (withL [] S).Nodup := hasc.imp fun {a b} h e => by subst e; exact b_lt_irrefl h
 obtain ⟨es, he, hpw⟩ := Maps.tidy_setOf (DataW.lit (H := Unit) (.bool true)) (S.map Lit.string) hlit
 have hq : (withL [] S).Perm (strKeys D) := by
  rw [hD, he]
  refine perm_strKeys hpw (fun p hp => hk p es (hD.trans he) hp) hnd fun x => ?_
  rw [← he, Maps.has_setOf _ _ _ hlit, mem_withL0, List.any_map, List.any_eq_true]
  constructor
  ·intro h
   exact ⟨x, h, WideAt.sameKey_self (a := Lit.string x) True.intro⟩
  ·rintro ⟨q, h1, h2⟩
   have := WideAt.sameKey_eq (show (Lit.string q).sameKey (Lit.string x) = true from h2)
   injection this with this
   rw [← this]
   exact h1
 have hps : ss.Perm (withL [] S) := hp.trans hq.symm
 have hm := mergeSort_of_perm hps
 have hsorted : (withL [] S).mergeSort (fun x y => decide (x ≤ y)) = withL [] S := by
  have tr : ∀ a b c : Bs, decide (a ≤ b) = true → decide (b ≤ c) = true → decide (a ≤ c) = true := fun a b c h1 h2 => by simp only [decide_eq_true_eq] at *; exact List.le_trans h1 h2
  have to : ∀ a b : Bs, (decide (a ≤ b) || decide (b ≤ a)) = true := fun a b => by simp only [Bool.or_eq_true, decide_eq_true_eq]; exact List.le_total a b
  exact List.Perm.eq_of_pairwise (le := fun a b => decide (a ≤ b) = true) (fun a b _ _ h1 h2 => List.le_antisymm (by simpa using h1) (by simpa using h2)) (List.pairwise_mergeSort tr to _) (hasc.imp fun {a b} h => by simpa using List.le_of_lt h) (List.mergeSort_perm _ _)
 exact hm.trans hsorted
theorem own_newR {w w' : World} {e : TypeId} {v : Value} {n : Nat} {xs : List Value} (hf : Fr [] w w') (ho : w'.ownsRow w.heap.size e 1 v n xs) : ∃ A c, v = .slice A n c ∧ Back [] w [cOwn e 1 A n c xs] w' := by
 obtain ⟨hl, h⟩ := ho
 rcases h with ⟨rfl, rfl⟩ | ⟨g, cap, cur, rfl, hge, h1, h2, h3, h4, h5⟩
 ·refine ⟨none, 0, rfl, (Mm.start w []).push (c := cOwn e 1 none 0 0 xs) hf ?_ (by simp [cOwn, ownFp]) (by simp [cOwn, ownFp])⟩
  exact ⟨hl, .inl ⟨rfl, rfl⟩⟩
 ·refine ⟨some ⟨g, 0, none⟩, cap, rfl, (Mm.start w []).push (c := cOwn e 1 (some ⟨g, 0, none⟩) n cap xs) hf ?_ (by simp [cOwn, ownFp]; exact hge) (by simp [cOwn, ownFp])⟩
  exact ⟨hl, .inr ⟨g, cap, cur, rfl, Nat.zero_le _, h1, h2, h3, h4, h5⟩⟩
theorem rsKeys_any (nm : Nat) (w : World) :
  Calls Tryz.prog 50 #[(.map (some nm))] w fun e w' => ∃ (bk : Nat), e = .returned (.func (.func 72) #[] #[(vP bk 0)]) ∧ Back [] w [cAt bk 64 [(.map (some nm))]] w' := by
 have h := (callsIn_wide (n := 5)).1 (AnyZ.keys_in Tryz.keysA Fence.wide 5 trivial rfl (some nm) w)
 change Calls Tryz.prog 50 _ _ _ at h
 refine h.mono ?_
 rintro e w' ⟨rfl, rfl⟩
 exact ⟨w.heap.size, rfl, (Mm.start w []).push (c := cAt w.heap.size 64 [.map (some nm)]) ((Fr.refl _ _).alloc _) (At.new w _ _) (by simp [cAt]) (by simp [cAt])⟩
theorem sorts_in (m : Nat) : AnyZ.SortsIn Tryz.prog Tryz.sortedA_ren Fence.wide m :=
 ⟨fun blk off cap ss W hH hblk hsz => callsIn_wide.2 (Tryz.slices_Sort_string blk off cap ss W hH hblk hsz),
  fun p cap W => callsIn_wide.2 (Tryz.slices_Sort_string_none p cap W)⟩
theorem rsSorted_any (bk : Nat) (nm : Nat) (S : List (List UInt8)) (w : World) (r0 : Rf [] w (fun w => At w bk 64 [(.map (some nm))])) (r1 : Rf [] w (fun w => SetAt w nm S)) (hS : S.length ≤ 1099511627776) :
  Calls Tryz.prog 49 #[(.func (.func 72) #[] #[(vP bk 0)])] w fun e w' => ∃ (B : Option Addr) (cb : Nat), e = .returned (vL B (withL [] S) cb) ∧ Back [] w [cS B (withL [] S) cb] w' := by
 have hm : w.cell? ⟨bk, 0, none⟩ = some (.map (some nm)) := by have h := r0.here; rw [h.cell]; rfl
 have hBm : bk < w.heap.size := by have h := r0.here; exact h.lt
 have hown : SetAt w nm S := r1.here
 have hlen : Maps.size (setOf (DataW.lit (H := Unit) (.bool true)) (S.map Lit.string)) ≤ S.length := by
  have hlit : ∀ x ∈ S.map Lit.string, WideAt.IsKeyLit x := by intro y hy; obtain ⟨q, _, rfl⟩ := List.mem_map.1 hy; exact True.intro
  rw [Maps.size_setOf _ _ hlit]
  have key : ∀ (xs L : List Lit), (xs.foldl Maps.addKey L).length ≤ L.length + xs.length := by
   intro xs
   induction xs with
   | nil => intro L; exact Nat.le_refl _
   | cons x xs ih =>
    intro L
    refine Nat.le_trans (ih _) ?_
    unfold Maps.addKey
    split <;> simp only [List.length_append, List.length_cons, List.length_nil] <;> omega
  refine Nat.le_trans (key _ _) ?_
  simp
 have hseq : SeqGives Fence.wide 2 Tryz.prog 72 #[.pointer (some ⟨bk, 0, none⟩)] encStr (fun ss => ss.Perm (strKeys (setOf (DataW.lit (H := Unit) (.bool true)) (S.map Lit.string)))) (Maps.size (setOf (DataW.lit (H := Unit) (.bool true)) (S.map Lit.string))) w :=
  AnyZ.keys_gives (ρ := Tryz.keysA_ren) { Tryz.keysA with } Fence.wide _ trivial rfl (by omega) bk nm S.length _ w hBm hm hown
 have cS := AnyZ.sorted_in Tryz.sortedA Fence.wide 5 trivial trivial trivial trivial rfl (by omega) (sorts_in _) (enters_of Tryz.func71 (by kernel_rfl) rfl) 72 #[.pointer (some ⟨bk, 0, none⟩)] trivial (enters_of Tryz.func72 (by kernel_rfl) rfl) _ _ (by unfold maxLen; omega) (by omega) _ hseq
 have hC := (callsIn_wide (n := 5)).1 cS
 change Calls Tryz.prog 49 _ _ _ at hC
 refine hC.mono ?_
 rintro e w' ⟨v, ss, rfl, hS, hrow, hnil, hb⟩
 have hes := World.ownsMap.keysOf hown
 have he := sort_keys (S := S) (ss := ss) rfl (fun p es e hp => by
  obtain ⟨es', he', hk'⟩ := hes
  rw [he'] at e
  injection e with e
  obtain ⟨u, hu⟩ := hk' p (e ▸ hp)
  obtain ⟨x, _, hx, _⟩ := Maps.keyOf_str Tryz.underlying9 hu
  exact ⟨x, hx⟩) hS
 have hl : ss.length = (withL [] S).length := by rw [← he, List.length_mergeSort]
 rw [he, hl] at hrow
 obtain ⟨A, c, rfl, hB⟩ := own_newR (Fr.of_below hb []) hrow
 exact ⟨A, c, rfl, hB⟩
theorem rsNeed_any (bs : Nat) (A : Option Addr) (c : Nat) (its : List (List UInt8)) (fan : Nat) (leaf : Nat) (nm : Nat) (om : Nat) (S : List (List UInt8)) (w : World) (r0 : Rf [] w (fun w => At w bs 66 [(vL A its c), (vI fan), (vI leaf), (.map (some nm)), (.map (some om))])) (r1 : Rf [] w (fun w => SetAt w nm S)) (hS : S.length ≤ 1099511627776) :
  Calls Tryz.prog 20 #[(vP bs 0)] w fun e w' => ∃ (B : Option Addr) (cb : Nat), e = .returned (vL B (withL [] S) cb) ∧ Back [] w [cS B (withL [] S) cb] w' := by
 refine stEnter (args := [(vP bs 0)]) (fps []) Tryz.func20 rfl 9 rfl [(0, (vP bs 0))] ⟨rfl, trivial⟩ [] (Mm.start w []) ?_
 refine stSeq (reg ?_)
 refine la ?_
 refine liNil (qThen (stSeq (reg ?_)))
 refine lm ?_
 refine lc (vP bs 0) ?_
 refine lc (vP bs 3) ?_
 refine lv (v := (.map (some nm))) (rLoadW rfl rfl (by kernel_rfl) (fun w hM => At.cell (r0.now hM) 3)) ?_
 refine li rfl ?_
 refine opK0 (fun w hM => (rsKeys_any nm w ).mono ?_)
 rintro e w' ⟨bk7, rfl, hP⟩
 refine ⟨_, _, rfl, hP, ?_⟩; clear hP hM
 refine li rfl ?_
 refine opK0 (fun w hM => (rsSorted_any bk7 nm S w (hM.keep0 (j := 0) rfl (fun _ h => h)) (r1.go0 hM) (by omega)).mono ?_)
 rintro e w' ⟨B8, cb8, rfl, hP⟩
 refine ⟨_, _, rfl, hP, ?_⟩; clear hP hM
 refine la ?_
 refine liNil (qThen (stRet ?_))
 refine stEnd [(vL B8 (withL [] S) cb8)] rfl ⟨rfl, trivial⟩ (fun w hM => ?_)
 exact ⟨B8, cb8, rfl, (fun (w : World) (h : Mm _ _ _ w) => Mm.sub h (.cons _ (.cons_cons _ .slnil))) w hM⟩
theorem rsOffer_any (bs : Nat) (A : Option Addr) (c : Nat) (its : List (List UInt8)) (fan : Nat) (leaf : Nat) (nm : Nat) (om : Nat) (S : List (List UInt8)) (w : World) (r0 : Rf [] w (fun w => At w bs 66 [(vL A its c), (vI fan), (vI leaf), (.map (some nm)), (.map (some om))])) (r1 : Rf [] w (fun w => SetAt w om S)) (hS : S.length ≤ 1099511627776) :
  Calls Tryz.prog 21 #[(vP bs 0)] w fun e w' => ∃ (B : Option Addr) (cb : Nat), e = .returned (vL B (withL [] S) cb) ∧ Back [] w [cS B (withL [] S) cb] w' := by
 refine stEnter (args := [(vP bs 0)]) (fps []) Tryz.func21 rfl 9 rfl [(0, (vP bs 0))] ⟨rfl, trivial⟩ [] (Mm.start w []) ?_
 refine stSeq (reg ?_)
 refine la ?_
 refine liNil (qThen (stSeq (reg ?_)))
 refine lm ?_
 refine lc (vP bs 0) ?_
 refine lc (vP bs 4) ?_
 refine lv (v := (.map (some om))) (rLoadW rfl rfl (by kernel_rfl) (fun w hM => At.cell (r0.now hM) 4)) ?_
 refine li rfl ?_
 refine opK0 (fun w hM => (rsKeys_any om w ).mono ?_)
 rintro e w' ⟨bk7, rfl, hP⟩
 refine ⟨_, _, rfl, hP, ?_⟩; clear hP hM
 refine li rfl ?_
 refine opK0 (fun w hM => (rsSorted_any bk7 om S w (hM.keep0 (j := 0) rfl (fun _ h => h)) (r1.go0 hM) (by omega)).mono ?_)
 rintro e w' ⟨B8, cb8, rfl, hP⟩
 refine ⟨_, _, rfl, hP, ?_⟩; clear hP hM
 refine la ?_
 refine liNil (qThen (stRet ?_))
 refine stEnd [(vL B8 (withL [] S) cb8)] rfl ⟨rfl, trivial⟩ (fun w hM => ?_)
 exact ⟨B8, cb8, rfl, (fun (w : World) (h : Mm _ _ _ w) => Mm.sub h (.cons _ (.cons_cons _ .slnil))) w hM⟩
end Go.Proofs.YtlepfnihpdhcaaaGreatDoor
namespace Go.Proofs.YtlepfnihpdhcaaaGreatDoor
open Go.RowKit
theorem qsok1 {its : List Bs} {n : Nat} {w : World} : QsOk [QV.mk [] [] 1 n (fpB its) none 0 [] none 0 []] w := by
 intro q hq r hr
 rw [List.mem_singleton.1 hq] at hr
 simp only [QV.rows, List.mem_cons, List.not_mem_nil, or_false] at hr
 rcases hr with rfl | rfl <;> exact fun j v hj => by simp at hj
theorem byte_add (m : Nat) : ((m : Int) % 128 + 128) = ((UInt8.ofNat (m % 128 + 128)).toNat : Int) := by
 rw [u8_toNat _ (by omega)]
 omega
set_option maxHeartbeats 2000000 in
theorem refNumber_any (n : Nat) (w : World) (hn : U64 n) : Calls Tryz.prog 83 #[.int .u64 (n : Int)] w (NewRow (num n) w) := by
 have hnl := num_length n hn
 have HN := Lib.hid hn
 clear hn
 go_enter Tryz.func83, Tryz.ntmps83
 go_wp2_with fail
 go_loopw [0, 3] (fun i b wr => ∃ (m : Nat) (cs : List UInt8), U64 m ∧ i = .int .u64 (m : Int) ∧ num n = cs ++ num m ∧ Fr [] w wr ∧ wr.ownsRow w.heap.size 5 1 b cs.length (B8 cs)) (fun i _ _ => (intOf i).toNat)
 case atStart => exact ⟨n, [], HN.out, rfl, rfl, (Fr.refl _ _).alloc _, World.ownsRow_made _ #[] 0 (Nat.le_refl _) (Nat.zero_le _) rfl⟩
 case round =>
  obtain ⟨m, cs, hm, rfl, he, hf, hown⟩ := hrel
  have hsz := hf.size
  have HC : Hid (cs.length + 1 ≤ 137438953472) := by have h1 := congrArg List.length he; rw [List.length_append] at h1; show _ ≤ _; omega
  have HG := Lib.hid (And.intro hf hown)
  have HE := Lib.hid he
  have HM := Lib.hid hm
  have hmI : (m : Int) ≤ 18446744073709551615 := by unfold U64 at hm; omega
  clear hf hown he hm
  obtain ⟨A, c, rfl⟩ := ownsRow_form HG.out.2
  by_cases hlt : m < 128
  ·go_wp2_with (at_builtin; refine wpList_push el_u8 rfl (.tmp 16) (.tmp 19) rfl w.heap.size _ _ _ (.int .u8 (m : Int)) rfl HG.out.2 rfl rfl HC.out (by omega) 5 ?_; intro v' w1 hown1 hg1 hb1)
   go_ret
   have hf1 : Fr [] w w1 := fr_push HG.out.1 HG.out.2 hg1
   obtain ⟨A1, c1, rfl⟩ := ownsRow_form hown1
   rw [byte_low m (by omega)] at hown1
   refine newRow_of (cs ++ [UInt8.ofNat m]) ?_ ⟨A1, c1, by simp, hf1, ?_⟩
   ·rw [HE.out, num_small m hlt]
   ·rw [B8_append, List.length_append]; exact hown1
  ·have hor := byte_add m
   obtain ⟨y, hy⟩ : ∃ y : UInt8, y = UInt8.ofNat (m % 128 + 128) := ⟨_, rfl⟩
   rw [← hy] at hor
   have hyb := UInt8.toNat_lt y
   have HY := Lib.hid hy
   clear hy
   have hge : (127 : Int) < (m : Int) := by omega
   go_wp2_with (at_builtin; refine wpList_push el_u8 rfl (.tmp 7) (.tmp 12) rfl w.heap.size _ _ _ (.int .u8 (y.toNat : Int)) rfl HG.out.2 rfl rfl HC.out (by omega) 5 ?_; intro v' w1 hown1 hg1 hb1)
   go_roundw
   case rel =>
    refine ⟨m / 128, cs ++ [y], ?_, by go_num, ?_, fr_push HG.out.1 HG.out.2 hg1, ?_⟩
    ·have := HM.out; unfold U64 at this ⊢; omega
    ·rw [HE.out, num_big m hlt, List.append_assoc, HY.out]; rfl
    ·rw [B8_append, List.length_append]; exact hown1
   case measure => simp [intOf]; omega
theorem rsRefNum_any (n : Nat) (w : World) (hn : n < 18446744073709551616) :
  Calls Tryz.prog 83 #[(.int .u64 ((n : Nat) : Int))] w fun e w' => ∃ (RB : Option Addr) (rcb : Nat), e = .returned (vL RB (num n) rcb) ∧ Back [] w [cB RB (num n) rcb] w' := by
 refine (refNumber_any n w hn).mono ?_
 rintro e w' ⟨A, c, rfl, hf, ho⟩
 obtain ⟨A2, c2, e2, hB⟩ := own_newR hf ho
 simp only [Value.slice.injEq] at e2
 obtain ⟨rfl, _, rfl⟩ := e2
 exact ⟨A, c, rfl, hB⟩
theorem rsRNumB_any (A : Option Addr) (c : Nat) (xs : List UInt8) (n : Nat) (w : World) (hO : Own [cB A (xs) c] w) (hn : n ≤ 4294967296) (hx : xs.length ≤ 68719000000) :
  Calls Tryz.prog 58 #[(vL A xs c), (vI n)] w fun e w' => ∃ (A2 : Option Addr) (c2 : Nat), e = .returned (vL A2 (xs ++ num n) c2) ∧ Back [cB A (xs) c] w [cB A2 (xs ++ num n) c2] w' := by
 refine stEnter (args := [(vL A xs c), (vI n)]) (fps [cB A (xs) c]) Tryz.func58 rfl 10 rfl [(0, (vL A xs c)), (1, (vI n))] ⟨rfl, rfl, trivial⟩ [cB A (xs) c] (hO) ?_
 refine stSeq (reg ?_)
 refine la ?_
 refine liNil (qThen (stSeq (reg ?_)))
 refine lm ?_
 refine lm ?_
 refine lv (v := (.int .u64 ((n : Nat) : Int))) (rIntC _ (fun _ => by kernel_rfl) rfl rfl (wrapU64_id (by omega) (by omega))) ?_
 refine li rfl ?_
 refine opK0 (fun w hM => (rsRefNum_any n w (by omega)).mono ?_)
 rintro e w' ⟨RB8, rcb8, rfl, hP⟩
 refine ⟨_, _, rfl, hP, ?_⟩; clear hP hM
 have hnl := num_length n (by omega)
 refine li rfl ?_
 refine opAppend el_u8 0 (B8 (num n)) rfl rfl (by kernel_rfl) rfl rfl rfl (by simp [B8]) (fun w hM => CellsAt.of_row (rowOwn (i := 1) rfl w hM)) ((B8_one _)) (by omega) ((xs ++ (num n)).length) (by first | exact (List.length_append ..).symm | (simp; done) | (simp; omega)) (B8 (xs ++ (num n))) (by simp [B8]) (fun A9 c9 => ?_)
 refine la ?_
 refine liNil (qThen (stRet ?_))
 refine stEnd [(vL A9 (xs ++ (num n)) c9)] rfl ⟨rfl, trivial⟩ (fun w hM => ?_)
 exact ⟨A9, c9, rfl, (hM.pick [0] rfl rfl)⟩
theorem rsRTextB_any (A : Option Addr) (c : Nat) (xs : List UInt8) (t : List UInt8) (w : World) (hO : Own [cB A (xs) c] w) (ht : t.length ≤ 1000) (hx : xs.length ≤ 68719000000) :
  Calls Tryz.prog 59 #[(vL A xs c), (vS t)] w fun e w' => ∃ (A2 : Option Addr) (c2 : Nat), e = .returned (vL A2 (xs ++ (num t.length ++ t)) c2) ∧ Back [cB A (xs) c] w [cB A2 (xs ++ (num t.length ++ t)) c2] w' := by
 refine stEnter (args := [(vL A xs c), (vS t)]) (fps [cB A (xs) c]) Tryz.func59 rfl 11 rfl [(0, (vL A xs c)), (1, (vS t))] ⟨rfl, rfl, trivial⟩ [cB A (xs) c] (hO) ?_
 refine stSeq (reg ?_)
 refine la ?_
 refine liNil (qThen (stSeq (reg ?_)))
 refine lm ?_
 refine lm ?_
 refine lv (v := (vI ((t).length))) (rLenS rfl rfl (by kernel_rfl)) ?_
 refine li rfl ?_
 refine opK [0] [cB A (xs) c] (fun w hM hO => (rsRNumB_any A c xs ((t).length) w hO (by omega) (by omega)).mono ?_)
 rintro e w' ⟨A28, c28, rfl, hP⟩
 refine ⟨_, [cB A28 (xs ++ num ((t).length)) c28], _, rfl, hP, rfl, ?_⟩; clear hP hM hO
 have hnl := num_length t.length (by omega)
 refine lm ?_
 refine li rfl ?_
 refine opAppendStr 0 rfl rfl (by kernel_rfl) (by kernel_rfl) (by kernel_rfl) (by kernel_rfl) rfl rfl rfl (by simp only [List.length_append]; omega) (((xs ++ num ((t).length)) ++ t).length) (by first | exact (List.length_append ..).symm | (simp; done) | (simp; omega)) (B8 ((xs ++ num ((t).length)) ++ t)) (by simp [B8]) (fun A10 c10 => ?_)
 refine la ?_
 refine liNil (qThen (stRet ?_))
 refine stEnd [(vL A10 ((xs ++ num ((t).length)) ++ t) c10)] rfl ⟨rfl, trivial⟩ (fun w hM => ?_)
 rw [show xs ++ (num t.length ++ t) = xs ++ num t.length ++ t from (List.append_assoc ..).symm]
 exact ⟨A10, c10, rfl, hM⟩
theorem rsREnc_any (A1 : Option Addr) (c1 : Nat) (qs : List QV) (w : World) (r0 : Rf [] w (fun w => RowIn w A1 (QS qs))) (r1 : Rf [] w (QsOk qs)) (hk : ∀ q ∈ qs, q.kOk) (hfit : ∀ p ∈ qs.map QV.abs, p.fit) (hsz : (encA (qs.map QV.abs)).length ≤ 4293800000) :
  Calls Tryz.prog 39 #[(vL A1 qs c1)] w fun e w' => ∃ (B : Option Addr) (cb : Nat), e = .returned (vL B (encA (qs.map QV.abs)) cb) ∧ Back [] w [cB B (encA (qs.map QV.abs)) cb] w' := by
 refine stEnter (args := [(vL A1 qs c1)]) (fps []) Tryz.func39 rfl 79 rfl [(0, (vL A1 qs c1))] ⟨rfl, trivial⟩ [] (Mm.start w []) ?_
 refine stSeq (reg ?_)
 refine la ?_
 refine liNil (qThen (stSeq (stSeq (reg ?_))))
 refine lm ?_
 refine lc (vI qs.length) ?_
 refine lc (.bool ((((qs.length : Nat) : Int) : Int) == 0)) ?_
 refine liNil (qThen ?_)
 refine stCond rfl (fun hc12 => ?_) (fun hc12 => ?_)
 ·refine stSeq (reg ?_)
  refine la ?_
  refine liNil (qThen (stRet (qThenR ?_)))
  refine stEnd [(.slice none 0 0)] rfl ⟨rfl, trivial⟩ (fun w hM => ?_)
  have e0 : encA (qs.map QV.abs) = [] := by rw [encA, if_pos (by rw [List.length_map]; simpa using hc12)]
  rw [e0]
  exact ⟨none, 0, rfl, (hM).nilOwn 5 1⟩
 ·have hne : ¬ qs.length = 0 := by simpa using hc12
  have henc : encA (qs.map QV.abs) = num qs.length ++ (qs.map QV.abs).flatMap AP.enc := by rw [encA, if_neg (by simpa using hne), List.length_map]
  have hel : (num qs.length).length + ((qs.map QV.abs).flatMap AP.enc).length ≤ 4293800000 := by have e := congrArg List.length henc; rw [List.length_append] at e; omega
  have hpl : qs.length ≤ ((qs.map QV.abs).flatMap AP.enc).length := by rw [← List.length_map (f := QV.abs)]; exact enc_ge _
  have hnb : noB.length = 0 := rfl
  refine St.mem (fun w hM => hM.nilOwn 5 1) ?_
  refine St.to [cB none (noB) 0] (by kernel_rfl) ?_
  refine stSkip (qThen (stSeq (reg ?_)))
  refine lm ?_
  refine lc (vI qs.length) ?_
  refine li rfl ?_
  refine opK [0] [cB none (noB) 0] (fun w hM hO => (rsRNumB_any none 0 noB qs.length w hO (by omega) (by omega)).mono ?_)
  rintro e w' ⟨A215, c215, rfl, hP⟩
  refine ⟨_, [cB A215 (noB ++ num qs.length) c215], _, rfl, hP, rfl, ?_⟩; clear hP hM hO
  refine la ?_
  refine liNil (qThen (stSeq (stSeq (reg ?_))))
  refine lm ?_
  refine lc (vI qs.length) ?_
  refine lm ?_
  refine liNil (qThen (stBlock ?_))
  rw [show noB ++ num qs.length = noB ++ num qs.length ++ ((qs.map QV.abs).take 0).flatMap AP.enc from (List.append_nil _).symm]
  refine stLoop (ι := Nat × Option Addr × Nat) (fun (i, AX, cX) => i ≤ qs.length) (fun (i, AX, cX) => qs.length - i) (fun (i, AX, cX) => [(2, (.slice none 0 0)), (16, (vL A1 qs c1)), (17, (vI qs.length)), (3, (vL AX (noB ++ num qs.length ++ ((qs.map QV.abs).take i).flatMap AP.enc) cX)), (18, (vI i))]) (fun (i, AX, cX) => [cB AX (noB ++ num qs.length ++ ((qs.map QV.abs).take i).flatMap AP.enc) cX]) (0, A215, c215) (Nat.zero_le _) ⟨rfl, rfl, rfl, rfl, rfl, trivial⟩ (fun w hM => by show Mm _ _ [cB A215 (noB ++ num qs.length ++ ((qs.map QV.abs).take 0).flatMap AP.enc) c215] w; exact hM) ?_
  rintro ⟨i, AX, cX⟩ (hok : i ≤ qs.length)
  show St _ _ _ [(2, (.slice none 0 0)), (16, (vL A1 qs c1)), (17, (vI qs.length)), (3, (vL AX (noB ++ num qs.length ++ ((qs.map QV.abs).take i).flatMap AP.enc) cX)), (18, (vI i))] [cB AX (noB ++ num qs.length ++ ((qs.map QV.abs).take i).flatMap AP.enc) cX] _
  refine stSeq (reg ?_)
  refine lc (.bool (decide (((i : Nat) : Int) < ((qs.length : Nat) : Int)))) ?_
  refine liNil (qThen (stSeq ?_))
  refine stCond rfl (fun hc19 => ?_) (fun hc19 => ?_)
  ·have hd19 := of_decide_eq_true hc19
   refine stSkip (qThen (stSeq (stBlock (stSeq (reg ?_)))))
   obtain ⟨x0, hx0⟩ : ∃ ξ, (qs)[i]? = some ξ := ⟨_, List.getElem?_eq_getElem (by omega)⟩
   refine St.qPtr (fun w hM => r0.now hM) hx0 (fun p20 q20 hA20 hc20 => ?_)
   refine lv (v := (vP p20 (q20 + i * 7))) (rIndexRowK (e := 80) rfl (by kernel_rfl) (by kernel_rfl) rfl rfl hA20 (by omega)) ?_
   refine lv (v := (.agg #[(vS x0.lo), (vS x0.hi), (vI x0.k), (vI x0.n), (vS x0.f), (vL x0.A x0.xs (x0.c)), (vL x0.B x0.ms (x0.d))])) (rLoadA [(vS x0.lo), (vS x0.hi), (vI x0.k), (vI x0.n), (vS x0.f), (vL x0.A x0.xs (x0.c)), (vL x0.B x0.ms (x0.d))] rfl rfl (by kernel_rfl) (by kernel_rfl) (hc20)) ?_
   refine li rfl ?_
   refine opAlloc [(.string ⟨#[]⟩), (.string ⟨#[]⟩), (.int .i64 0), (.int .i64 0), (.string ⟨#[]⟩), (.slice none 0 0), (.slice none 0 0)] rfl rfl (by kernel_rfl) (by kernel_rfl) (fun b5 => ?_)
   refine li rfl ?_
   refine opStoreN 1 [(vS x0.lo), (vS x0.hi), (vI x0.k), (vI x0.n), (vS x0.f), (vL x0.A x0.xs (x0.c)), (vL x0.B x0.ms (x0.d))] (vs := [(vS x0.lo), (vS x0.hi), (vI x0.k), (vI x0.n), (vS x0.f), (vL x0.A x0.xs (x0.c)), (vL x0.B x0.ms (x0.d))]) rfl rfl (by kernel_rfl) rfl rfl rfl (by kernel_rfl) rfl (by simp) (QV.one x0) rfl ?_
   refine liNil (qThen (stSeq ?_))
   have hxm := List.mem_of_getElem? hx0
   have hxa : (qs.map QV.abs)[i]? = some x0.abs := by rw [List.getElem?_map, hx0]; rfl
   have hle := enc_le hxa
   have hf0 := hfit _ (List.mem_map_of_mem hxm)
   obtain ⟨hf1, hf2⟩ := fit_q hf0
   have hk0 := hk x0 hxm
   have hn1 := num_length x0.lo.length (by omega); have hn2 := num_length x0.hi.length (by omega); have hk3 : x0.k ≤ 3 := by rcases hk0 with h | h | h <;> omega
   have hn3 := num_length x0.k (by omega)
   have hrA : Ro _ _ (fun w => RowIn w x0.A (SS x0.xs)) := Ro.imp r1 (fun w h => h x0 hxm (x0.A, x0.xs) (by simp [QV.rows]))
   have hrB : Ro _ _ (fun w => RowIn w x0.B (SS x0.ms)) := Ro.imp r1 (fun w h => h x0 hxm (x0.B, x0.ms) (by simp [QV.rows]))
   refine anyBegin [cAt b5 80 [(vS x0.lo), (vS x0.hi), (vI x0.k), (vI x0.n), (vS x0.f), (vL x0.A x0.xs (x0.c)), (vL x0.B x0.ms (x0.d))]] 11 (by kernel_rfl) (fun _ h => h.pick [1] rfl rfl) ?_
   refine am 0 ?_
   refine ac 1 (vP b5 0) ?_
   refine av 2 (vS x0.lo) rfl (rLoad 0 rfl rfl (by kernel_rfl) rfl rfl) ?_
   refine ac 4 (vP b5 1) ?_
   refine av 5 (vS x0.hi) rfl (rLoad 0 rfl rfl (by kernel_rfl) rfl rfl) ?_
   refine ac 7 (vP b5 2) ?_
   refine av 8 (vI x0.k) rfl (rLoad 0 rfl rfl (by kernel_rfl) rfl rfl) ?_
   refine a1 3 ?_
   refine opK [0] [cB AX (noB ++ num qs.length ++ ((qs.map QV.abs).take i).flatMap AP.enc) cX] (fun w hM hO => (rsRTextB_any AX cX (noB ++ num qs.length ++ ((qs.map QV.abs).take i).flatMap AP.enc) x0.lo w hO (by omega) (by simp only [List.length_append]; omega)).mono ?_)
   rintro e w' ⟨A225, c225, rfl, hP⟩
   refine ⟨_, [cB A225 ((noB ++ num qs.length ++ ((qs.map QV.abs).take i).flatMap AP.enc) ++ (num x0.lo.length ++ x0.lo)) c225], _, rfl, hP, rfl, ?_⟩; clear hP hM hO
   refine St.to [cB A225 ((noB ++ num qs.length ++ ((qs.map QV.abs).take i).flatMap AP.enc) ++ (num x0.lo.length ++ x0.lo)) c225, cAt b5 80 [(vS x0.lo), (vS x0.hi), (vI x0.k), (vI x0.n), (vS x0.f), (vL x0.A x0.xs (x0.c)), (vL x0.B x0.ms (x0.d))]] (by kernel_rfl) ?_
   refine anyNext [cAt b5 80 [(vS x0.lo), (vS x0.hi), (vI x0.k), (vI x0.n), (vS x0.f), (vL x0.A x0.xs (x0.c)), (vL x0.B x0.ms (x0.d))]] (fun _ h => h) (fun _ h => h.pick [1] rfl rfl) ?_
   refine a1 6 ?_
   refine opK [0] [cB A225 ((noB ++ num qs.length ++ ((qs.map QV.abs).take i).flatMap AP.enc) ++ (num x0.lo.length ++ x0.lo)) c225] (fun w hM hO => (rsRTextB_any A225 c225 ((noB ++ num qs.length ++ ((qs.map QV.abs).take i).flatMap AP.enc) ++ (num x0.lo.length ++ x0.lo)) x0.hi w hO (by omega) (by simp only [List.length_append]; omega)).mono ?_)
   rintro e w' ⟨A228, c228, rfl, hP⟩
   refine ⟨_, [cB A228 (((noB ++ num qs.length ++ ((qs.map QV.abs).take i).flatMap AP.enc) ++ (num x0.lo.length ++ x0.lo)) ++ (num x0.hi.length ++ x0.hi)) c228], _, rfl, hP, rfl, ?_⟩; clear hP hM hO
   refine anyNext [cAt b5 80 [(vS x0.lo), (vS x0.hi), (vI x0.k), (vI x0.n), (vS x0.f), (vL x0.A x0.xs (x0.c)), (vL x0.B x0.ms (x0.d))]] (fun _ h => h) (fun _ h => h.pick [1] rfl rfl) ?_
   refine a1 9 ?_
   refine opK [0] [cB A228 (((noB ++ num qs.length ++ ((qs.map QV.abs).take i).flatMap AP.enc) ++ (num x0.lo.length ++ x0.lo)) ++ (num x0.hi.length ++ x0.hi)) c228] (fun w hM hO => (rsRNumB_any A228 c228 (((noB ++ num qs.length ++ ((qs.map QV.abs).take i).flatMap AP.enc) ++ (num x0.lo.length ++ x0.lo)) ++ (num x0.hi.length ++ x0.hi)) x0.k w hO (by omega) (by simp only [List.length_append]; omega)).mono ?_)
   rintro e w' ⟨A231, c231, rfl, hP⟩
   refine ⟨_, [cB A231 ((((noB ++ num qs.length ++ ((qs.map QV.abs).take i).flatMap AP.enc) ++ (num x0.lo.length ++ x0.lo)) ++ (num x0.hi.length ++ x0.hi)) ++ num x0.k) c231], _, rfl, hP, rfl, ?_⟩; clear hP hM hO
   refine anyNext [cAt b5 80 [(vS x0.lo), (vS x0.hi), (vI x0.k), (vI x0.n), (vS x0.f), (vL x0.A x0.xs (x0.c)), (vL x0.B x0.ms (x0.d))]] (fun _ h => h) (fun _ h => h.pick [1] rfl rfl) ?_
   refine aa 10 ?_
   refine anyDone (by kernel_rfl) ?_
   refine qThen (stSeq (stSeq (reg ?_)))
   refine lc (vP b5 2) ?_
   refine lv (v := (vI x0.k)) (rLoad 1 rfl rfl (by kernel_rfl) rfl rfl) ?_
   refine lc (.bool ((((x0.k : Nat) : Int) : Int) == 1)) ?_
   refine liNil (qThen ?_)
   refine stCond rfl (fun hc34 => ?_) (fun hc34 => ?_)
   ·have hkk : x0.k = 1 := eqb_yes hc34
    obtain ⟨hq1, hq2⟩ := fit_q1 hkk hf0
    have hn4 := num_length x0.n (by omega)
    have hpe := congrArg List.length (enc_q1 hkk); simp only [List.length_append] at hpe
    refine stSeq ?_
    refine anyBegin [cAt b5 80 [(vS x0.lo), (vS x0.hi), (vI x0.k), (vI x0.n), (vS x0.f), (vL x0.A x0.xs (x0.c)), (vL x0.B x0.ms (x0.d))]] 8 (by kernel_rfl) (fun _ h => h.pick [1] rfl rfl) ?_
    refine am 0 ?_
    refine ac 1 (vP b5 3) ?_
    refine av 2 (vI x0.n) rfl (rLoad 0 rfl rfl (by kernel_rfl) rfl rfl) ?_
    refine ac 4 (vP b5 4) ?_
    refine av 5 (vS x0.f) rfl (rLoad 0 rfl rfl (by kernel_rfl) rfl rfl) ?_
    refine a1 3 ?_
    refine opK [0] [cB A231 ((((noB ++ num qs.length ++ ((qs.map QV.abs).take i).flatMap AP.enc) ++ (num x0.lo.length ++ x0.lo)) ++ (num x0.hi.length ++ x0.hi)) ++ num x0.k) c231] (fun w hM hO => (rsRNumB_any A231 c231 ((((noB ++ num qs.length ++ ((qs.map QV.abs).take i).flatMap AP.enc) ++ (num x0.lo.length ++ x0.lo)) ++ (num x0.hi.length ++ x0.hi)) ++ num x0.k) x0.n w hO (by omega) (by simp only [List.length_append]; omega)).mono ?_)
    rintro e w' ⟨A238, c238, rfl, hP⟩
    refine ⟨_, [cB A238 (((((noB ++ num qs.length ++ ((qs.map QV.abs).take i).flatMap AP.enc) ++ (num x0.lo.length ++ x0.lo)) ++ (num x0.hi.length ++ x0.hi)) ++ num x0.k) ++ num x0.n) c238], _, rfl, hP, rfl, ?_⟩; clear hP hM hO
    refine anyNext [cAt b5 80 [(vS x0.lo), (vS x0.hi), (vI x0.k), (vI x0.n), (vS x0.f), (vL x0.A x0.xs (x0.c)), (vL x0.B x0.ms (x0.d))]] (fun _ h => h) (fun _ h => h.pick [1] rfl rfl) ?_
    refine a1 6 ?_
    refine opAppendStr 0 rfl rfl (by kernel_rfl) (by kernel_rfl) (by kernel_rfl) (by kernel_rfl) rfl rfl rfl (by simp only [List.length_append]; omega) (((((((noB ++ num qs.length ++ ((qs.map QV.abs).take i).flatMap AP.enc) ++ (num x0.lo.length ++ x0.lo)) ++ (num x0.hi.length ++ x0.hi)) ++ num x0.k) ++ num x0.n) ++ x0.f).length) (by first | exact (List.length_append ..).symm | (simp; done) | (simp; omega)) (B8 ((((((noB ++ num qs.length ++ ((qs.map QV.abs).take i).flatMap AP.enc) ++ (num x0.lo.length ++ x0.lo)) ++ (num x0.hi.length ++ x0.hi)) ++ num x0.k) ++ num x0.n) ++ x0.f)) (by simp [B8]) (fun A41 c41 => ?_)
    refine St.to [cB A41 ((((((noB ++ num qs.length ++ ((qs.map QV.abs).take i).flatMap AP.enc) ++ (num x0.lo.length ++ x0.lo)) ++ (num x0.hi.length ++ x0.hi)) ++ num x0.k) ++ num x0.n) ++ x0.f) c41, cAt b5 80 [(vS x0.lo), (vS x0.hi), (vI x0.k), (vI x0.n), (vS x0.f), (vL x0.A x0.xs (x0.c)), (vL x0.B x0.ms (x0.d))]] (by kernel_rfl) ?_
    refine anyNext [cAt b5 80 [(vS x0.lo), (vS x0.hi), (vI x0.k), (vI x0.n), (vS x0.f), (vL x0.A x0.xs (x0.c)), (vL x0.B x0.ms (x0.d))]] (fun _ h => h) (fun _ h => h.pick [1] rfl rfl) ?_
    refine aa 7 ?_
    refine anyDone (by kernel_rfl) ?_
    refine qThen (stExit (qThenX (qBlockX (qThen (reg ?_)))))
    refine lv (v := (vI (i + 1))) (rAdd _ rfl rfl rfl (by omega) (by omega) (by omega)) ?_
    refine lm ?_
    refine liNil (qThen ?_)
    rw [show (((((noB ++ num qs.length ++ ((qs.map QV.abs).take i).flatMap AP.enc) ++ (num x0.lo.length ++ x0.lo)) ++ (num x0.hi.length ++ x0.hi)) ++ num x0.k) ++ num x0.n) ++ x0.f = noB ++ num qs.length ++ ((qs.map QV.abs).take (i + 1)).flatMap AP.enc from by rw [← enc_step hxa, enc_q1 hkk]; simp only [List.append_assoc]]
    exact stAgain (i + 1, A41, c41) (by show _ ≤ _; omega) (by show qs.length - (i + 1) < qs.length - i; omega) ⟨rfl, rfl, rfl, rfl, rfl, trivial⟩ (fun w hM => (hM.pick [0] rfl rfl))
   ·have hk1 : ¬ x0.k = 1 := eqb_no hc34
    refine stSkip (qThen (stSeq ?_))
    have hxl : x0.xs.length ≤ 16384 ∧ ∀ x ∈ x0.xs, x.length = 32 := by
     rcases hk0 with h | h | h
     ·exact absurd h hk1
     ·exact fit_q2 h hf0
     ·exact (fit_q3 h hf0).1
    have hn4 := num_length x0.xs.length (by omega)
    have hfl := flat_len hxl.2
    have hpe : (num x0.lo.length).length + x0.lo.length + ((num x0.hi.length).length + x0.hi.length) + ((num x0.k).length + ((num x0.xs.length).length + x0.xs.flatten.length)) ≤ x0.abs.enc.length := by
     rcases hk0 with h | h | h
     ·exact absurd h hk1
     ·have e := congrArg List.length (enc_q2 h); simp only [List.length_append] at e; omega
     ·have e := congrArg List.length (enc_q3 h); simp only [List.length_append] at e; omega
    refine reg ?_
    refine lm ?_
    refine lc (vP b5 5) ?_
    refine lv (v := (vL x0.A x0.xs (x0.c))) (rLoad 1 rfl rfl (by kernel_rfl) rfl rfl) ?_
    refine lc (vI x0.xs.length) ?_
    refine li rfl ?_
    refine opK [0] [cB A231 ((((noB ++ num qs.length ++ ((qs.map QV.abs).take i).flatMap AP.enc) ++ (num x0.lo.length ++ x0.lo)) ++ (num x0.hi.length ++ x0.hi)) ++ num x0.k) c231] (fun w hM hO => (rsRNumB_any A231 c231 ((((noB ++ num qs.length ++ ((qs.map QV.abs).take i).flatMap AP.enc) ++ (num x0.lo.length ++ x0.lo)) ++ (num x0.hi.length ++ x0.hi)) ++ num x0.k) x0.xs.length w hO (by omega) (by simp only [List.length_append]; omega)).mono ?_)
    rintro e w' ⟨A246, c246, rfl, hP⟩
    refine ⟨_, [cB A246 (((((noB ++ num qs.length ++ ((qs.map QV.abs).take i).flatMap AP.enc) ++ (num x0.lo.length ++ x0.lo)) ++ (num x0.hi.length ++ x0.hi)) ++ num x0.k) ++ num x0.xs.length) c246], _, rfl, hP, rfl, ?_⟩; clear hP hM hO
    refine la ?_
    refine liNil (qThen (stSeq (stSeq (reg ?_))))
    refine lc (vP b5 5) ?_
    refine lv (v := (vL x0.A x0.xs (x0.c))) (rLoad 1 rfl rfl (by kernel_rfl) rfl rfl) ?_
    refine lc (vI x0.xs.length) ?_
    refine lm ?_
    refine liNil (qThen (stBlock ?_))
    rw [show ((((noB ++ num qs.length ++ ((qs.map QV.abs).take i).flatMap AP.enc) ++ (num x0.lo.length ++ x0.lo)) ++ (num x0.hi.length ++ x0.hi)) ++ num x0.k) ++ num x0.xs.length = ((((noB ++ num qs.length ++ ((qs.map QV.abs).take i).flatMap AP.enc) ++ (num x0.lo.length ++ x0.lo)) ++ (num x0.hi.length ++ x0.hi)) ++ num x0.k) ++ num x0.xs.length ++ (x0.xs.take 0).flatten from (List.append_nil _).symm]
    refine stLoop (ι := Nat × Option Addr × Nat) (fun (j, AY, cY) => j ≤ x0.xs.length) (fun (j, AY, cY) => x0.xs.length - j) (fun (j, AY, cY) => [(2, (.slice none 0 0)), (5, (vP b5 0)), (16, (vL A1 qs c1)), (17, (vI qs.length)), (18, (vI i)), (48, (vL x0.A x0.xs (x0.c))), (49, (vI x0.xs.length)), (3, (vL AY (((((noB ++ num qs.length ++ ((qs.map QV.abs).take i).flatMap AP.enc) ++ (num x0.lo.length ++ x0.lo)) ++ (num x0.hi.length ++ x0.hi)) ++ num x0.k) ++ num x0.xs.length ++ (x0.xs.take j).flatten) cY)), (50, (vI j))]) (fun (j, AY, cY) => [cB AY (((((noB ++ num qs.length ++ ((qs.map QV.abs).take i).flatMap AP.enc) ++ (num x0.lo.length ++ x0.lo)) ++ (num x0.hi.length ++ x0.hi)) ++ num x0.k) ++ num x0.xs.length ++ (x0.xs.take j).flatten) cY, cAt b5 80 [(vS x0.lo), (vS x0.hi), (vI x0.k), (vI x0.n), (vS x0.f), (vL x0.A x0.xs (x0.c)), (vL x0.B x0.ms (x0.d))]]) (0, A246, c246) (Nat.zero_le _) ⟨rfl, rfl, rfl, rfl, rfl, rfl, rfl, rfl, rfl, trivial⟩ (fun w hM => by show Mm _ _ [cB A246 (((((noB ++ num qs.length ++ ((qs.map QV.abs).take i).flatMap AP.enc) ++ (num x0.lo.length ++ x0.lo)) ++ (num x0.hi.length ++ x0.hi)) ++ num x0.k) ++ num x0.xs.length ++ (x0.xs.take 0).flatten) c246, cAt b5 80 [(vS x0.lo), (vS x0.hi), (vI x0.k), (vI x0.n), (vS x0.f), (vL x0.A x0.xs (x0.c)), (vL x0.B x0.ms (x0.d))]] w; exact hM) ?_
    rintro ⟨j, AY, cY⟩ (hokj : j ≤ x0.xs.length)
    show St _ _ _ [(2, (.slice none 0 0)), (5, (vP b5 0)), (16, (vL A1 qs c1)), (17, (vI qs.length)), (18, (vI i)), (48, (vL x0.A x0.xs (x0.c))), (49, (vI x0.xs.length)), (3, (vL AY (((((noB ++ num qs.length ++ ((qs.map QV.abs).take i).flatMap AP.enc) ++ (num x0.lo.length ++ x0.lo)) ++ (num x0.hi.length ++ x0.hi)) ++ num x0.k) ++ num x0.xs.length ++ (x0.xs.take j).flatten) cY)), (50, (vI j))] [cB AY (((((noB ++ num qs.length ++ ((qs.map QV.abs).take i).flatMap AP.enc) ++ (num x0.lo.length ++ x0.lo)) ++ (num x0.hi.length ++ x0.hi)) ++ num x0.k) ++ num x0.xs.length ++ (x0.xs.take j).flatten) cY, cAt b5 80 [(vS x0.lo), (vS x0.hi), (vI x0.k), (vI x0.n), (vS x0.f), (vL x0.A x0.xs (x0.c)), (vL x0.B x0.ms (x0.d))]] _
    refine stSeq (reg ?_)
    refine lc (.bool (decide (((j : Nat) : Int) < ((x0.xs.length : Nat) : Int)))) ?_
    refine liNil (qThen (stSeq ?_))
    refine stCond rfl (fun hc51 => ?_) (fun hc51 => ?_)
    ·have hd51 := of_decide_eq_true hc51
     refine stSkip (qThen (stSeq (stBlock (stSeq (reg ?_)))))
     obtain ⟨x1, hx1⟩ : ∃ ξ, (x0.xs)[j]? = some ξ := ⟨_, List.getElem?_eq_getElem (by omega)⟩
     refine St.rowPtr (fun w hM => hrA.now hM) (SS_at hx1) (fun p52 q52 hA52 hc52 => ?_)
     refine lv (v := (vP p52 (q52 + j))) (rIndexRow (e := 9) rfl (by kernel_rfl) (by kernel_rfl) rfl rfl hA52 (by omega)) ?_
     refine lv (v := (vS x1)) (rLoadW rfl rfl (by kernel_rfl) hc52) ?_
     refine la ?_
     refine liNil (qThen (reg ?_))
     refine lm ?_
     refine lm ?_
     refine li rfl ?_
     refine opAppendStr 0 rfl rfl (by kernel_rfl) (by kernel_rfl) (by kernel_rfl) (by kernel_rfl) rfl rfl rfl (by have hft := flatten_le (l := x0.xs) hx1; simp only [List.length_append]; omega) (((((((noB ++ num qs.length ++ ((qs.map QV.abs).take i).flatMap AP.enc) ++ (num x0.lo.length ++ x0.lo)) ++ (num x0.hi.length ++ x0.hi)) ++ num x0.k) ++ num x0.xs.length ++ (x0.xs.take j).flatten) ++ x1).length) (by first | exact (List.length_append ..).symm | (simp; done) | (simp; omega)) (B8 ((((((noB ++ num qs.length ++ ((qs.map QV.abs).take i).flatMap AP.enc) ++ (num x0.lo.length ++ x0.lo)) ++ (num x0.hi.length ++ x0.hi)) ++ num x0.k) ++ num x0.xs.length ++ (x0.xs.take j).flatten) ++ x1)) (by simp [B8]) (fun A56 c56 => ?_)
     refine la ?_
     refine liNil (qBlock (qThen (reg ?_)))
     refine lv (v := (vI (j + 1))) (rAdd _ rfl rfl rfl (by omega) (by omega) (by omega)) ?_
     refine lm ?_
     refine liNil (qThen ?_)
     rw [show (((((noB ++ num qs.length ++ ((qs.map QV.abs).take i).flatMap AP.enc) ++ (num x0.lo.length ++ x0.lo)) ++ (num x0.hi.length ++ x0.hi)) ++ num x0.k) ++ num x0.xs.length ++ (x0.xs.take j).flatten) ++ x1 = ((((noB ++ num qs.length ++ ((qs.map QV.abs).take i).flatMap AP.enc) ++ (num x0.lo.length ++ x0.lo)) ++ (num x0.hi.length ++ x0.hi)) ++ num x0.k) ++ num x0.xs.length ++ (x0.xs.take (j + 1)).flatten from by rw [List.append_assoc, flatten_take hx1]]
     exact stAgain (j + 1, A56, c56) (by show _ ≤ _; omega) (by show x0.xs.length - (j + 1) < x0.xs.length - j; omega) ⟨rfl, rfl, rfl, rfl, rfl, rfl, rfl, rfl, rfl, trivial⟩ (fun w hM => hM)
    ·have hd51 := of_decide_eq_false hc51
     obtain rfl : j = x0.xs.length := by omega
     rw [List.take_length]
     refine stExit (qThenX (qThenX (qBlockX (qThen (stSeq (reg ?_))))))
     refine lc (vP b5 2) ?_
     refine lv (v := (vI x0.k)) (rLoad 1 rfl rfl (by kernel_rfl) rfl rfl) ?_
     refine lc (.bool ((((x0.k : Nat) : Int) : Int) == 3)) ?_
     refine liNil (qThen ?_)
     refine stCond rfl (fun hc60 => ?_) (fun hc60 => ?_)
     ·have hkk : x0.k = 3 := eqb_yes hc60
      have hml := (fit_q3 hkk hf0).2
      have hn5 := num_length x0.ms.length (by omega)
      have hfl2 := flat_len hml.2
      have hpe3 := congrArg List.length (enc_q3 hkk); simp only [List.length_append] at hpe3
      refine stSeq (reg ?_)
      refine lm ?_
      refine lc (vP b5 6) ?_
      refine lv (v := (vL x0.B x0.ms (x0.d))) (rLoad 1 rfl rfl (by kernel_rfl) rfl rfl) ?_
      refine lc (vI x0.ms.length) ?_
      refine li rfl ?_
      refine opK [0] [cB AY (((((noB ++ num qs.length ++ ((qs.map QV.abs).take i).flatMap AP.enc) ++ (num x0.lo.length ++ x0.lo)) ++ (num x0.hi.length ++ x0.hi)) ++ num x0.k) ++ num x0.xs.length ++ x0.xs.flatten) cY] (fun w hM hO => (rsRNumB_any AY cY (((((noB ++ num qs.length ++ ((qs.map QV.abs).take i).flatMap AP.enc) ++ (num x0.lo.length ++ x0.lo)) ++ (num x0.hi.length ++ x0.hi)) ++ num x0.k) ++ num x0.xs.length ++ x0.xs.flatten) x0.ms.length w hO (by omega) (by simp only [List.length_append]; omega)).mono ?_)
      rintro e w' ⟨A265, c265, rfl, hP⟩
      refine ⟨_, [cB A265 ((((((noB ++ num qs.length ++ ((qs.map QV.abs).take i).flatMap AP.enc) ++ (num x0.lo.length ++ x0.lo)) ++ (num x0.hi.length ++ x0.hi)) ++ num x0.k) ++ num x0.xs.length ++ x0.xs.flatten) ++ num x0.ms.length) c265], _, rfl, hP, rfl, ?_⟩; clear hP hM hO
      refine la ?_
      refine liNil (qThen (stSeq (reg ?_)))
      refine lc (vP b5 6) ?_
      refine lv (v := (vL x0.B x0.ms (x0.d))) (rLoad 1 rfl rfl (by kernel_rfl) rfl rfl) ?_
      refine lc (vI x0.ms.length) ?_
      refine lm ?_
      refine liNil (qThen (stBlock ?_))
      rw [show (((((noB ++ num qs.length ++ ((qs.map QV.abs).take i).flatMap AP.enc) ++ (num x0.lo.length ++ x0.lo)) ++ (num x0.hi.length ++ x0.hi)) ++ num x0.k) ++ num x0.xs.length ++ x0.xs.flatten) ++ num x0.ms.length = (((((noB ++ num qs.length ++ ((qs.map QV.abs).take i).flatMap AP.enc) ++ (num x0.lo.length ++ x0.lo)) ++ (num x0.hi.length ++ x0.hi)) ++ num x0.k) ++ num x0.xs.length ++ x0.xs.flatten) ++ num x0.ms.length ++ (x0.ms.take 0).flatten from (List.append_nil _).symm]
      refine stLoop (ι := Nat × Option Addr × Nat) (fun (j, AY, cY) => j ≤ x0.ms.length) (fun (j, AY, cY) => x0.ms.length - j) (fun (j, AY, cY) => [(2, (.slice none 0 0)), (16, (vL A1 qs c1)), (17, (vI qs.length)), (18, (vI i)), (67, (vL x0.B x0.ms (x0.d))), (68, (vI x0.ms.length)), (3, (vL AY ((((((noB ++ num qs.length ++ ((qs.map QV.abs).take i).flatMap AP.enc) ++ (num x0.lo.length ++ x0.lo)) ++ (num x0.hi.length ++ x0.hi)) ++ num x0.k) ++ num x0.xs.length ++ x0.xs.flatten) ++ num x0.ms.length ++ (x0.ms.take j).flatten) cY)), (69, (vI j))]) (fun (j, AY, cY) => [cB AY ((((((noB ++ num qs.length ++ ((qs.map QV.abs).take i).flatMap AP.enc) ++ (num x0.lo.length ++ x0.lo)) ++ (num x0.hi.length ++ x0.hi)) ++ num x0.k) ++ num x0.xs.length ++ x0.xs.flatten) ++ num x0.ms.length ++ (x0.ms.take j).flatten) cY, cAt b5 80 [(vS x0.lo), (vS x0.hi), (vI x0.k), (vI x0.n), (vS x0.f), (vL x0.A x0.xs (x0.c)), (vL x0.B x0.ms (x0.d))]]) (0, A265, c265) (Nat.zero_le _) ⟨rfl, rfl, rfl, rfl, rfl, rfl, rfl, rfl, trivial⟩ (fun w hM => by show Mm _ _ [cB A265 ((((((noB ++ num qs.length ++ ((qs.map QV.abs).take i).flatMap AP.enc) ++ (num x0.lo.length ++ x0.lo)) ++ (num x0.hi.length ++ x0.hi)) ++ num x0.k) ++ num x0.xs.length ++ x0.xs.flatten) ++ num x0.ms.length ++ (x0.ms.take 0).flatten) c265, cAt b5 80 [(vS x0.lo), (vS x0.hi), (vI x0.k), (vI x0.n), (vS x0.f), (vL x0.A x0.xs (x0.c)), (vL x0.B x0.ms (x0.d))]] w; exact hM) ?_
      rintro ⟨j, AY, cY⟩ (hokj : j ≤ x0.ms.length)
      show St _ _ _ [(2, (.slice none 0 0)), (16, (vL A1 qs c1)), (17, (vI qs.length)), (18, (vI i)), (67, (vL x0.B x0.ms (x0.d))), (68, (vI x0.ms.length)), (3, (vL AY ((((((noB ++ num qs.length ++ ((qs.map QV.abs).take i).flatMap AP.enc) ++ (num x0.lo.length ++ x0.lo)) ++ (num x0.hi.length ++ x0.hi)) ++ num x0.k) ++ num x0.xs.length ++ x0.xs.flatten) ++ num x0.ms.length ++ (x0.ms.take j).flatten) cY)), (69, (vI j))] [cB AY ((((((noB ++ num qs.length ++ ((qs.map QV.abs).take i).flatMap AP.enc) ++ (num x0.lo.length ++ x0.lo)) ++ (num x0.hi.length ++ x0.hi)) ++ num x0.k) ++ num x0.xs.length ++ x0.xs.flatten) ++ num x0.ms.length ++ (x0.ms.take j).flatten) cY, cAt b5 80 [(vS x0.lo), (vS x0.hi), (vI x0.k), (vI x0.n), (vS x0.f), (vL x0.A x0.xs (x0.c)), (vL x0.B x0.ms (x0.d))]] _
      refine stSeq (reg ?_)
      refine lc (.bool (decide (((j : Nat) : Int) < ((x0.ms.length : Nat) : Int)))) ?_
      refine liNil (qThen (stSeq ?_))
      refine stCond rfl (fun hc70 => ?_) (fun hc70 => ?_)
      ·have hd70 := of_decide_eq_true hc70
       refine stSkip (qThen (stSeq (stBlock (stSeq (reg ?_)))))
       obtain ⟨x1, hx1⟩ : ∃ ξ, (x0.ms)[j]? = some ξ := ⟨_, List.getElem?_eq_getElem (by omega)⟩
       refine St.rowPtr (fun w hM => hrB.now hM) (SS_at hx1) (fun p71 q71 hA71 hc71 => ?_)
       refine lv (v := (vP p71 (q71 + j))) (rIndexRow (e := 9) rfl (by kernel_rfl) (by kernel_rfl) rfl rfl hA71 (by omega)) ?_
       refine lv (v := (vS x1)) (rLoadW rfl rfl (by kernel_rfl) hc71) ?_
       refine la ?_
       refine liNil (qThen (reg ?_))
       refine lm ?_
       refine lm ?_
       refine li rfl ?_
       refine opAppendStr 0 rfl rfl (by kernel_rfl) (by kernel_rfl) (by kernel_rfl) (by kernel_rfl) rfl rfl rfl (by have hft := flatten_le (l := x0.ms) hx1; simp only [List.length_append]; omega) ((((((((noB ++ num qs.length ++ ((qs.map QV.abs).take i).flatMap AP.enc) ++ (num x0.lo.length ++ x0.lo)) ++ (num x0.hi.length ++ x0.hi)) ++ num x0.k) ++ num x0.xs.length ++ x0.xs.flatten) ++ num x0.ms.length ++ (x0.ms.take j).flatten) ++ x1).length) (by first | exact (List.length_append ..).symm | (simp; done) | (simp; omega)) (B8 (((((((noB ++ num qs.length ++ ((qs.map QV.abs).take i).flatMap AP.enc) ++ (num x0.lo.length ++ x0.lo)) ++ (num x0.hi.length ++ x0.hi)) ++ num x0.k) ++ num x0.xs.length ++ x0.xs.flatten) ++ num x0.ms.length ++ (x0.ms.take j).flatten) ++ x1)) (by simp [B8]) (fun A75 c75 => ?_)
       refine la ?_
       refine liNil (qBlock (qThen (reg ?_)))
       refine lv (v := (vI (j + 1))) (rAdd _ rfl rfl rfl (by omega) (by omega) (by omega)) ?_
       refine lm ?_
       refine liNil (qThen ?_)
       rw [show ((((((noB ++ num qs.length ++ ((qs.map QV.abs).take i).flatMap AP.enc) ++ (num x0.lo.length ++ x0.lo)) ++ (num x0.hi.length ++ x0.hi)) ++ num x0.k) ++ num x0.xs.length ++ x0.xs.flatten) ++ num x0.ms.length ++ (x0.ms.take j).flatten) ++ x1 = (((((noB ++ num qs.length ++ ((qs.map QV.abs).take i).flatMap AP.enc) ++ (num x0.lo.length ++ x0.lo)) ++ (num x0.hi.length ++ x0.hi)) ++ num x0.k) ++ num x0.xs.length ++ x0.xs.flatten) ++ num x0.ms.length ++ (x0.ms.take (j + 1)).flatten from by rw [List.append_assoc, flatten_take hx1]]
       exact stAgain (j + 1, A75, c75) (by show _ ≤ _; omega) (by show x0.ms.length - (j + 1) < x0.ms.length - j; omega) ⟨rfl, rfl, rfl, rfl, rfl, rfl, rfl, rfl, trivial⟩ (fun w hM => hM)
      ·have hd70 := of_decide_eq_false hc70
       obtain rfl : j = x0.ms.length := by omega
       rw [List.take_length]
       refine stExit (qThenX (qThenX (qBlockX (qBlock (qThen (reg ?_))))))
       refine lv (v := (vI (i + 1))) (rAdd _ rfl rfl rfl (by omega) (by omega) (by omega)) ?_
       refine lm ?_
       refine liNil (qThen ?_)
       rw [show (((((noB ++ num qs.length ++ ((qs.map QV.abs).take i).flatMap AP.enc) ++ (num x0.lo.length ++ x0.lo)) ++ (num x0.hi.length ++ x0.hi)) ++ num x0.k) ++ num x0.xs.length ++ x0.xs.flatten) ++ num x0.ms.length ++ x0.ms.flatten = noB ++ num qs.length ++ ((qs.map QV.abs).take (i + 1)).flatMap AP.enc from by rw [← enc_step hxa, enc_q3 hkk]; simp only [List.append_assoc]]
       exact stAgain (i + 1, AY, cY) (by show _ ≤ _; omega) (by show qs.length - (i + 1) < qs.length - i; omega) ⟨rfl, rfl, rfl, rfl, rfl, trivial⟩ (fun w hM => (hM.pick [0] rfl rfl))
     ·have hkk : x0.k = 2 := by have h3 := eqb_no (n := 3) hc60; rcases hk0 with h | h | h; exact absurd h hk1; exact h; exact absurd h h3
      refine stSkip (qBlock (qThen (reg ?_)))
      refine lv (v := (vI (i + 1))) (rAdd _ rfl rfl rfl (by omega) (by omega) (by omega)) ?_
      refine lm ?_
      refine liNil (qThen ?_)
      rw [show ((((noB ++ num qs.length ++ ((qs.map QV.abs).take i).flatMap AP.enc) ++ (num x0.lo.length ++ x0.lo)) ++ (num x0.hi.length ++ x0.hi)) ++ num x0.k) ++ num x0.xs.length ++ x0.xs.flatten = noB ++ num qs.length ++ ((qs.map QV.abs).take (i + 1)).flatMap AP.enc from by rw [← enc_step hxa, enc_q2 hkk]; simp only [List.append_assoc]]
      exact stAgain (i + 1, AY, cY) (by show _ ≤ _; omega) (by show qs.length - (i + 1) < qs.length - i; omega) ⟨rfl, rfl, rfl, rfl, rfl, trivial⟩ (fun w hM => (hM.pick [0] rfl rfl))
  ·have hd19 := of_decide_eq_false hc19
   obtain rfl : i = qs.length := by omega
   rw [show (qs.map QV.abs).take qs.length = qs.map QV.abs from by rw [← List.length_map (f := QV.abs), List.take_length]]
   refine stExit (qThenX (qThenX (qBlockX (qThen (stSeq (reg ?_))))))
   refine lm ?_
   refine la ?_
   refine liNil (qThen (stRet ?_))
   refine stEnd [(vL AX (noB ++ num qs.length ++ (qs.map QV.abs).flatMap AP.enc) cX)] rfl ⟨rfl, trivial⟩ (fun w hM => ?_)
   have hxe : encA (qs.map QV.abs) = noB ++ num qs.length ++ (qs.map QV.abs).flatMap AP.enc := by rw [henc]; rfl
   rw [hxe]
   exact ⟨AX, cX, rfl, hM⟩
theorem rsRSummed_any (A : Option Addr) (c : Nat) (its : List (List UInt8)) (fan : Nat) (leaf : Nat) (NA : Option Addr) (nc : Nat) (nl : List (List UInt8)) (OA : Option Addr) (oc : Nat) (ol : List (List UInt8)) (lo : List UInt8) (hi : List UInt8) (w : World) (r0 : Rf [] w (fun w => RowIn w A (SS its))) (hs : okSet its) (h40 : its.length ≤ 40) :
  Calls Tryz.prog 69 #[(.agg #[(vL A its c), (vI fan), (vI leaf), (vL NA nl nc), (vL OA ol oc)]), (vS lo), (vS hi)] w fun e w' => e = .returned (.agg #[(vS lo), (vS hi), (vI 1), (vI (cnt its lo hi)), (vS (fpB (inL its lo hi))), (.slice none 0 0), (.slice none 0 0)]) ∧ Back [] w [] w' := by
 refine stEnter (args := [(.agg #[(vL A its c), (vI fan), (vI leaf), (vL NA nl nc), (vL OA ol oc)]), (vS lo), (vS hi)]) (fps []) Tryz.func69 rfl 20 rfl [(0, (.agg #[(vL A its c), (vI fan), (vI leaf), (vL NA nl nc), (vL OA ol oc)])), (1, (vS lo)), (2, (vS hi))] ⟨rfl, rfl, rfl, trivial⟩ [] (Mm.start w []) ?_
 refine stSeq (reg (li rfl ?_))
 refine opBox [(vL A its c), (vI fan), (vI leaf), (vL NA nl nc), (vL OA ol oc)] rfl rfl (by kernel_rfl) rfl rfl (fun b3 => ?_)
 refine li rfl ?_
 refine opAlloc [(.string ⟨#[]⟩), (.string ⟨#[]⟩), (.int .i64 0), (.int .i64 0), (.string ⟨#[]⟩), (.slice none 0 0), (.slice none 0 0)] rfl rfl (by kernel_rfl) (by kernel_rfl) (fun b6 => ?_)
 refine liNil (qThen (stSeq (reg ?_)))
 refine lc (vP b3 0) ?_
 refine lv (v := (vL A its c)) (rLoad 0 rfl rfl (by kernel_rfl) rfl rfl) ?_
 refine lm ?_
 refine lm ?_
 refine li rfl ?_
 refine opK0 (fun w hM => (rsIn_any A c its lo hi w (r0.go0 hM) (by omega)).mono ?_)
 rintro e w' ⟨B12, cb12, rfl, hP⟩
 refine ⟨_, _, rfl, hP, ?_⟩; clear hP hM
 have hil := inL_len its lo hi; have hfl := inL_flat hs lo hi
 refine la ?_
 refine liNil (qThen (stSeq (reg ?_)))
 refine lm ?_
 refine lm ?_
 refine lm ?_
 refine lc (vI ((inL its lo hi).length)) ?_
 refine lm ?_
 refine li rfl ?_
 refine opK0 (fun w hM => (rsRefFp_any B12 cb12 (inL its lo hi) w (hM.keep0 (j := 2) rfl (fun _ h => RowIn.of_own h)) (by omega) (by omega)).mono ?_)
 rintro e w' ⟨rfl, hP⟩
 refine ⟨_, _, rfl, hP, ?_⟩; clear hP hM
 refine lc (.agg #[(vS lo), (vS hi), (.int .i64 1), (vI ((inL its lo hi).length)), (vS (fpB (inL its lo hi))), (.slice none 0 0), (.slice none 0 0)]) ?_
 refine li rfl ?_
 refine opStoreN 1 [(vS lo), (vS hi), (.int .i64 1), (vI ((inL its lo hi).length)), (vS (fpB (inL its lo hi))), (.slice none 0 0), (.slice none 0 0)] (vs := [(vS lo), (vS hi), (.int .i64 1), (vI ((inL its lo hi).length)), (vS (fpB (inL its lo hi))), (.slice none 0 0), (.slice none 0 0)]) rfl rfl (by kernel_rfl) rfl rfl rfl (by kernel_rfl) rfl (by simp) (by simp [Value.oneCell']) rfl ?_
 refine liNil (qThen (stRet ?_))
 refine stEnd [(.agg #[(vS lo), (vS hi), (.int .i64 1), (vI ((inL its lo hi).length)), (vS (fpB (inL its lo hi))), (.slice none 0 0), (.slice none 0 0)])] rfl ⟨⟨_, rfl, fun w hM => run_loadVarA (by kernel_rfl) (by kernel_rfl) (segAt (i := 1) (off := 0) rfl (by intro j v hj; rw [Nat.zero_add]; exact hj) w hM)⟩, trivial⟩ (fun w hM => ?_)
 exact ⟨rfl, (hM.pick [] rfl rfl)⟩
theorem rsRFirst_any (A : Option Addr) (c : Nat) (its : List (List UInt8)) (fan : Nat) (leaf : Nat) (NA : Option Addr) (nc : Nat) (nl : List (List UInt8)) (OA : Option Addr) (oc : Nat) (ol : List (List UInt8)) (w : World) (r0 : Rf [] w (fun w => RowIn w A (SS its))) (hs : okSet its) (h40 : its.length ≤ 40) :
  Calls Tryz.prog 16 #[(.agg #[(vL A its c), (vI fan), (vI leaf), (vL NA nl nc), (vL OA ol oc)])] w fun e w' => ∃ (B : Option Addr) (cb : Nat), e = .returned (vL B (encA [sumA its [] []]) cb) ∧ Back [] w [cB B (encA [sumA its [] []]) cb] w' := by
 refine stEnter (args := [(.agg #[(vL A its c), (vI fan), (vI leaf), (vL NA nl nc), (vL OA ol oc)])]) (fps []) Tryz.func16 rfl 12 rfl [(0, (.agg #[(vL A its c), (vI fan), (vI leaf), (vL NA nl nc), (vL OA ol oc)]))] ⟨rfl, trivial⟩ [] (Mm.start w []) ?_
 refine stSeq (reg (li rfl ?_))
 refine opBox [(vL A its c), (vI fan), (vI leaf), (vL NA nl nc), (vL OA ol oc)] rfl rfl (by kernel_rfl) rfl rfl (fun b1 => ?_)
 refine la ?_
 refine liNil (qThen (stSeq ?_))
 have hfe : encA ([(QV.mk [] [] 1 its.length (fpB its) none 0 [] none 0 [])].map QV.abs) = encA [sumA its [] []] := by unfold sumA; rw [inL_all]; rfl
 have hfq : ((QV.mk [] [] 1 its.length (fpB its) none 0 [] none 0 [])).abs.fit := by have h := (start_ok h40).1; unfold sumA at h; rw [inL_all] at h; exact h
 refine anyBegin [cAt b1 36 [(vL A its c), (vI fan), (vI leaf), (vL NA nl nc), (vL OA ol oc)]] 10 (by kernel_rfl) (fun _ h => h) ?_
 refine ac 0 (vP b1 0) ?_
 refine av 1 (vL A its c) rfl (rLoad 0 rfl rfl (by kernel_rfl) rfl rfl) ?_
 refine ac 2 (vI its.length) ?_
 refine ac 3 (vP b1 0) ?_
 refine av 4 (vL A its c) rfl (rLoad 0 rfl rfl (by kernel_rfl) rfl rfl) ?_
 refine a1 5 ?_
 refine opK0 (fun w hM => (rsRefFp_any A c its w (r0.go0 hM) (by omega) (by have := okSet_flat ⟨by omega, hs⟩; omega)).mono ?_)
 rintro e w' ⟨rfl, hP⟩
 refine ⟨_, _, rfl, hP, ?_⟩; clear hP hM
 refine anyNext [cAt b1 36 [(vL A its c), (vI fan), (vI leaf), (vL NA nl nc), (vL OA ol oc)]] (fun _ h => h) (fun _ h => h) ?_
 refine ac 6 (.agg #[(.string ⟨#[]⟩), (.string ⟨#[]⟩), (.int .i64 1), (vI its.length), (vS (fpB its)), (.slice none 0 0), (.slice none 0 0)]) ?_
 refine a1 7 ?_
 refine opNew (v := fun b => .slice (some ⟨b, 0, none⟩) 1 1) 80 [(.string ⟨#[]⟩), (.string ⟨#[]⟩), (.int .i64 1), (vI its.length), (vS (fpB its)), (.slice none 0 0), (.slice none 0 0)] rfl (by kernel_rfl) (fun _ => by kernel_rfl) (fun b10 => ?_)
 refine St.to [cAt b1 36 [(vL A its c), (vI fan), (vI leaf), (vL NA nl nc), (vL OA ol oc)], cAt b10 80 [(.string ⟨#[]⟩), (.string ⟨#[]⟩), (.int .i64 1), (vI its.length), (vS (fpB its)), (.slice none 0 0), (.slice none 0 0)]] (by kernel_rfl) ?_
 refine anyNext [cAt b1 36 [(vL A its c), (vI fan), (vI leaf), (vL NA nl nc), (vL OA ol oc)], cAt b10 80 [(.string ⟨#[]⟩), (.string ⟨#[]⟩), (.int .i64 1), (vI its.length), (vS (fpB its)), (.slice none 0 0), (.slice none 0 0)]] (fun _ h => h.pick [0] rfl rfl) (fun _ h => h) ?_
 refine a1 8 ?_
 refine opK0 (fun w hM => (rsREnc_any (some ⟨b10, 0, none⟩) 1 ([(QV.mk [] [] 1 its.length (fpB its) none 0 [] none 0 [])]) w (hM.keep0 (j := 1) rfl (fun _ h => rowAtI h rfl)) ((r0.go0 hM).imp (fun w _ => qsok1)) (fun q hq => by rw [List.mem_singleton.1 hq]; exact .inl rfl) (fun p hp => by rw [List.mem_singleton.1 hp]; exact hfq) (by rw [hfe]; have := (start_ok h40).2.1; omega)).mono ?_)
 rintro e w' ⟨B11, cb11, rfl, hP⟩
 refine ⟨_, _, rfl, hP, ?_⟩; clear hP hM
 refine anyNext [cAt b1 36 [(vL A its c), (vI fan), (vI leaf), (vL NA nl nc), (vL OA ol oc)], cAt b10 80 [(.string ⟨#[]⟩), (.string ⟨#[]⟩), (.int .i64 1), (vI its.length), (vS (fpB its)), (.slice none 0 0), (.slice none 0 0)], cB B11 (encA (([(QV.mk [] [] 1 its.length (fpB its) none 0 [] none 0 [])]).map QV.abs)) cb11] (fun _ h => h.pick [0, 1] rfl rfl) (fun _ h => h) ?_
 refine aa 9 ?_
 refine anyDone (by kernel_rfl) ?_
 refine qThen (stRet ?_)
 refine stEnd [(vL B11 (encA (([(QV.mk [] [] 1 its.length (fpB its) none 0 [] none 0 [])]).map QV.abs)) cb11)] rfl ⟨rfl, trivial⟩ (fun w hM => ?_)
 rw [← hfe]; exact ⟨B11, cb11, rfl, (hM.pick [2] rfl rfl)⟩
end Go.Proofs.YtlepfnihpdhcaaaGreatDoor
namespace Go.Proofs.YtlepfnihpdhcaaaGreatDoor
open Go.RowKit
theorem rsTake_any (br : Nat) (A : Option Addr) (D : List UInt8) (A1 : Option Addr) (c1 : Nat) (l : List UInt8) (bad : Bool) (n : Nat) (w : World) (hO : Own [cAt br 123 [(vL A1 l c1), (.bool bad)]] w) (r0 : Rf [cAt br 123 [(vL A1 l c1), (.bool bad)]] w (fun w => RowIn w A (B8 D))) (hs : Sub8 A D A1 l c1) (hD : D.length ≤ 1048576) (hn : n ≤ 1048576) :
  Calls Tryz.prog 67 #[(vP br 0), (vI n)] w fun e w' => ∃ (A2 : Option Addr) (c2 : Nat), e = .returned (vS (tkV l bad n)) ∧ Back [cAt br 123 [(vL A1 l c1), (.bool bad)]] w [cAt br 123 [(vL A2 (tkL l bad n) c2), (.bool (tkB l bad n))]] w' ∧ (Sub8 A D A2 ((tkL l bad n)) c2) := by
 have _u0 := hD
 have _u1 := hn
 have hs0 := hs
 obtain ⟨hs1, hs2, hs3⟩ := hs0
 have rr := r0.imp (fun w h => hs1 w h)
 refine stEnter (args := [(vP br 0), (vI n)]) (fps [cAt br 123 [(vL A1 l c1), (.bool bad)]]) Tryz.func67 rfl 39 rfl [(0, (vP br 0)), (1, (vI n))] ⟨rfl, rfl, trivial⟩ [cAt br 123 [(vL A1 l c1), (.bool bad)]] (hO) ?_
 refine stSeq (reg ?_)
 refine la ?_
 refine liNil (qThen (stSeq (stSeq ?_)))
 cases hb : bad with
 | true =>
  have ht : tkB l true n = true := rfl
  refine reg ?_
  refine lm ?_
  refine lc (vP br 0) ?_
  refine lc (vP br 1) ?_
  refine lv (v := (.bool true)) (rLoad 0 rfl rfl (by kernel_rfl) rfl rfl) ?_
  refine lm ?_
  refine lnT ?_
  refine lnT ?_
  refine lnT ?_
  refine lnT ?_
  refine lnT ?_
  refine lnT ?_
  refine lnT ?_
  refine lc (.bool true) ?_
  refine liNil (qThen (stTrue rfl (stSeq (reg ?_))))
  refine lm ?_
  refine lc (vP br 0) ?_
  refine lc (vP br 1) ?_
  refine li rfl ?_
  refine opStore1 0 rfl rfl (by kernel_rfl) rfl rfl rfl (by kernel_rfl) rfl (by simp) ?_
  refine liNil (qThen (stSeq (reg ?_)))
  refine la ?_
  refine liNil (qThen (stRet (qThenR ?_)))
  refine stEnd [(.string ⟨#[]⟩)] rfl ⟨rfl, trivial⟩ (fun w hM => ?_)
  -- end
  rw [show tkV l true n = [] from by unfold tkV; rw [ht]; rfl, show tkL l true n = l from by unfold tkL; rw [ht]; rfl, ht]
  exact ⟨_, _, rfl, hM, hs⟩
 | false =>
  refine reg ?_
  refine lm ?_
  refine lc (vP br 0) ?_
  refine lc (vP br 1) ?_
  refine lv (v := (.bool false)) (rLoad 0 rfl rfl (by kernel_rfl) rfl rfl) ?_
  refine lm ?_
  refine lgm ?_
  refine lgm ?_
  refine lgc (vP br 0) ?_
  refine lgc (vP br 0) ?_
  refine lgv (v := (vL A1 l c1)) (rLoad 0 rfl rfl (by kernel_rfl) rfl rfl) ?_
  refine lgc (vI l.length) ?_
  refine lgc (.bool (decide (((n : Nat) : Int) > ((l.length : Nat) : Int)))) ?_
  refine lc (.bool (decide (((n : Nat) : Int) > ((l.length : Nat) : Int)))) ?_
  refine liNil (qThen ?_)
  refine stCond rfl (fun hc18 => ?_) (fun hc18 => ?_)
  ·have hd18 := of_decide_eq_true hc18
   have ht : tkB l false n = true := by have := of_decide_eq_true hc18; simp [tkB]; omega
   refine stSeq (reg ?_)
   refine lm ?_
   refine lc (vP br 0) ?_
   refine lc (vP br 1) ?_
   refine li rfl ?_
   refine opStore1 0 rfl rfl (by kernel_rfl) rfl rfl rfl (by kernel_rfl) rfl (by simp) ?_
   refine liNil (qThen (stSeq (reg ?_)))
   refine la ?_
   refine liNil (qThen (stRet (qThenR ?_)))
   refine stEnd [(.string ⟨#[]⟩)] rfl ⟨rfl, trivial⟩ (fun w hM => ?_)
   -- end
   rw [show tkV l false n = [] from by unfold tkV; rw [ht]; rfl, show tkL l false n = l from by unfold tkL; rw [ht]; rfl, ht]
   exact ⟨_, _, rfl, hM, hs⟩
  ·have hd18 := of_decide_eq_false hc18
   have ht : tkB l false n = false := by have := of_decide_eq_false hc18; simp [tkB]; omega
   have hnl : n ≤ l.length := by have := of_decide_eq_false hc18; omega
   refine stSkip (qThen (stSeq (reg ?_)))
   refine lm ?_
   refine lc (vP br 0) ?_
   refine lc (vP br 0) ?_
   refine lv (v := (vL A1 l c1)) (rLoad 0 rfl rfl (by kernel_rfl) rfl rfl) ?_
   refine lm ?_
   refine lv (v := (vL A1 (l.take n) c1)) (rConv (rSliceHi (e := 5) rfl (by kernel_rfl) (by kernel_rfl) rfl rfl (by have := hs2; omega)) (by show Value.slice _ _ _ = Value.slice _ _ _; rw [List.length_take, Nat.min_eq_left (by omega)])) ?_
   refine lv (v := (vS (l.take n))) (rStr (e := 5) (l.take n) rfl (by kernel_rfl) (by kernel_rfl) (by kernel_rfl) rfl rfl (fun w hM => rowTake n (rr.now hM))) ?_
   refine la ?_
   refine liNil (qThen (stSeq (reg ?_)))
   refine lm ?_
   refine lm ?_
   refine lc (vP br 0) ?_
   refine lc (vP br 0) ?_
   refine lv (v := (vL A1 l c1)) (rLoad 0 rfl rfl (by kernel_rfl) rfl rfl) ?_
   refine lm ?_
   refine lv (v := (vL (if c1 = n then A1 else A1.map (·.add (n * 1))) (l.drop n) (c1 - n))) (rConv (rSliceLo (e := 5) (sz := 1) rfl (by kernel_rfl) (by kernel_rfl) rfl rfl (by omega)) (by show Value.slice _ _ _ = Value.slice _ _ _; rw [List.length_drop])) ?_
   refine lc (vP br 0) ?_
   refine lc (vP br 0) ?_
   refine li rfl ?_
   refine opStore1 0 rfl rfl (by kernel_rfl) rfl rfl rfl (by kernel_rfl) rfl (by simp) ?_
   refine liNil (qThen (stSeq (reg ?_)))
   refine lm ?_
   refine la ?_
   refine liNil (qThen (stRet ?_))
   refine stEnd [(vS (l.take n))] rfl ⟨rfl, trivial⟩ (fun w hM => ?_)
   -- end
   rw [show tkV l false n = l.take n from by unfold tkV; rw [ht]; rfl, show tkL l false n = l.drop n from by unfold tkL; rw [ht]; rfl, ht]
   exact ⟨_, _, rfl, hM, hs.drop hnl⟩
theorem rsNum_any (br : Nat) (A : Option Addr) (D : List UInt8) (A1 : Option Addr) (c1 : Nat) (l : List UInt8) (bad : Bool) (most : Nat) (w : World) (hO : Own [cAt br 123 [(vL A1 l c1), (.bool bad)]] w) (r0 : Rf [cAt br 123 [(vL A1 l c1), (.bool bad)]] w (fun w => RowIn w A (B8 D))) (hs : Sub8 A D A1 l c1) (hD : D.length ≤ 1048576) (hm : most ≤ 1048576) :
  Calls Tryz.prog 65 #[(vP br 0), (vI most)] w fun e w' => ∃ (A2 : Option Addr) (c2 : Nat), e = .returned (vI ((nmR l bad most).1)) ∧ Back [cAt br 123 [(vL A1 l c1), (.bool bad)]] w [cAt br 123 [(vL A2 ((nmR l bad most).2.1) c2), (.bool (nmR l bad most).2.2)]] w' ∧ (Sub8 A D A2 ((nmR l bad most).2.1) c2) := by
 have _u0 := hD
 have hs0 := hs
 obtain ⟨hs1, hs2, hs3⟩ := hs0
 have rr := r0.imp (fun w h => hs1 w h)
 refine stEnter (args := [(vP br 0), (vI most)]) (fps [cAt br 123 [(vL A1 l c1), (.bool bad)]]) Tryz.func65 rfl 85 rfl [(0, (vP br 0)), (1, (vI most))] ⟨rfl, rfl, trivial⟩ [cAt br 123 [(vL A1 l c1), (.bool bad)]] (hO) ?_
 refine stSeq ?_
 cases hb : bad with
 | true =>
  refine reg ?_
  refine la ?_
  refine liNil (qThen (stSeq (stSeq (reg ?_))))
  refine la ?_
  refine liNil (qThen (stBlock ?_))
  refine stLoop (ι := Nat) (fun i => i = 0) (fun i => 0) (fun i => [(0, (vP br 0)), (1, (vI most)), (4, (.int .i64 0)), (5, (vI (i + 1)))]) (fun i => [cAt br 123 [(vL A1 l c1), (.bool true)]]) 0 rfl ⟨rfl, rfl, rfl, rfl, trivial⟩ (fun w hM => by show Mm _ _ [cAt br 123 [(vL A1 l c1), (.bool true)]] w; exact hM) ?_
  intro i hi0
  show St _ _ _ [(0, (vP br 0)), (1, (vI most)), (4, (.int .i64 0)), (5, (vI (i + 1)))] [cAt br 123 [(vL A1 l c1), (.bool true)]] _
  refine stSeq (stSeq (reg ?_))
  refine lm ?_
  refine lc (.bool (decide ((((i + 1) : Nat) : Int) ≤ 3))) ?_
  refine lm ?_
  refine St.dec 10 rfl (fun hc10 => ?_) (fun hc10 => ?_)
  ·have hd10 := of_decide_eq_true hc10
   refine lgm ?_
   refine lgm ?_
   refine lgc (vP br 0) ?_
   refine lgc (vP br 0) ?_
   refine lgv (v := (vL A1 l c1)) (rLoad 0 rfl rfl (by kernel_rfl) rfl rfl) ?_
   refine lgc (vI l.length) ?_
   refine lgc (.bool (decide ((((i + 1) : Nat) : Int) ≤ ((l.length : Nat) : Int)))) ?_
   refine lc (.bool (decide ((((i + 1) : Nat) : Int) ≤ ((l.length : Nat) : Int)))) ?_
   refine lm ?_
   refine St.dec 19 rfl (fun hc19 => ?_) (fun hc19 => ?_)
   ·have hd19 := of_decide_eq_true hc19
    refine lgm ?_
    refine lgc (vP br 0) ?_
    refine lgc (vP br 1) ?_
    refine lgv (v := (.bool true)) (rLoad 0 rfl rfl (by kernel_rfl) rfl rfl) ?_
    refine lgc (.bool false) ?_
    refine lc (.bool false) ?_
    refine liNil (qThen (stFalse rfl (stExit (qThenX (qThenX (qBlockX (qThen (stSeq (reg ?_)))))))))
    refine lm ?_
    refine lc (vP br 0) ?_
    refine lc (vP br 1) ?_
    refine li rfl ?_
    refine opStore1 0 rfl rfl (by kernel_rfl) rfl rfl rfl (by kernel_rfl) rfl (by simp) ?_
    refine liNil (qThen (stSeq (reg ?_)))
    refine la ?_
    refine liNil (qThen (stRet ?_))
    refine stEnd [(.int .i64 0)] rfl ⟨rfl, trivial⟩ (fun w hM => ?_)
    rw [show nmR l true most = (0, l, true) from rfl]
    exact ⟨_, _, rfl, hM, hs⟩
   ·have hd19 := of_decide_eq_false hc19
    refine lnF ?_
    refine lnF ?_
    refine lnF ?_
    refine lnF ?_
    refine lnF ?_
    refine lc (.bool false) ?_
    refine liNil (qThen (stFalse rfl (stExit (qThenX (qThenX (qBlockX (qThen (stSeq (reg ?_)))))))))
    refine lm ?_
    refine lc (vP br 0) ?_
    refine lc (vP br 1) ?_
    refine li rfl ?_
    refine opStore1 0 rfl rfl (by kernel_rfl) rfl rfl rfl (by kernel_rfl) rfl (by simp) ?_
    refine liNil (qThen (stSeq (reg ?_)))
    refine la ?_
    refine liNil (qThen (stRet ?_))
    refine stEnd [(.int .i64 0)] rfl ⟨rfl, trivial⟩ (fun w hM => ?_)
    rw [show nmR l true most = (0, l, true) from rfl]
    exact ⟨_, _, rfl, hM, hs⟩
  ·have hd10 := of_decide_eq_false hc10
   refine lnF ?_
   refine lnF ?_
   refine lnF ?_
   refine lnF ?_
   refine lnF ?_
   refine lnF ?_
   refine lnF ?_
   refine lc (.bool false) ?_
   refine lm ?_
   refine lnF ?_
   refine lnF ?_
   refine lnF ?_
   refine lnF ?_
   refine lnF ?_
   refine lc (.bool false) ?_
   refine liNil (qThen (stFalse rfl (stExit (qThenX (qThenX (qBlockX (qThen (stSeq (reg ?_)))))))))
   refine lm ?_
   refine lc (vP br 0) ?_
   refine lc (vP br 1) ?_
   refine li rfl ?_
   refine opStore1 0 rfl rfl (by kernel_rfl) rfl rfl rfl (by kernel_rfl) rfl (by simp) ?_
   refine liNil (qThen (stSeq (reg ?_)))
   refine la ?_
   refine liNil (qThen (stRet ?_))
   refine stEnd [(.int .i64 0)] rfl ⟨rfl, trivial⟩ (fun w hM => ?_)
   rw [show nmR l true most = (0, l, true) from rfl]
   exact ⟨_, _, rfl, hM, hs⟩
 | false =>
  refine reg ?_
  refine la ?_
  refine liNil (qThen (stSeq (stSeq (reg ?_))))
  refine la ?_
  refine liNil (qThen (stBlock ?_))
  refine stLoop (ι := Nat) (fun i => i ≤ 3 ∧ i ≤ l.length ∧ ∀ j b, j < i → l[j]? = some b → 128 ≤ b.toNat) (fun i => 3 - i) (fun i => [(0, (vP br 0)), (1, (vI most)), (4, (.int .i64 0)), (5, (vI (i + 1)))]) (fun i => [cAt br 123 [(vL A1 l c1), (.bool false)]]) 0 ⟨Nat.zero_le _, Nat.zero_le _, fun j b h => absurd h (by omega)⟩ ⟨rfl, rfl, rfl, rfl, trivial⟩ (fun w hM => by show Mm _ _ [cAt br 123 [(vL A1 l c1), (.bool false)]] w; exact hM) ?_
  rintro i ⟨hi3, hil, hpre⟩
  show St _ _ _ [(0, (vP br 0)), (1, (vI most)), (4, (.int .i64 0)), (5, (vI (i + 1)))] [cAt br 123 [(vL A1 l c1), (.bool false)]] _
  refine stSeq (stSeq (reg ?_))
  refine lm ?_
  refine lc (.bool (decide ((((i + 1) : Nat) : Int) ≤ 3))) ?_
  refine lm ?_
  refine St.dec 10 rfl (fun hc10 => ?_) (fun hc10 => ?_)
  ·have hd10 := of_decide_eq_true hc10
   have hi2 : i + 1 ≤ 3 := by have := of_decide_eq_true hc10; omega
   refine lgm ?_
   refine lgm ?_
   refine lgc (vP br 0) ?_
   refine lgc (vP br 0) ?_
   refine lgv (v := (vL A1 l c1)) (rLoad 0 rfl rfl (by kernel_rfl) rfl rfl) ?_
   refine lgc (vI l.length) ?_
   refine lgc (.bool (decide ((((i + 1) : Nat) : Int) ≤ ((l.length : Nat) : Int)))) ?_
   refine lc (.bool (decide ((((i + 1) : Nat) : Int) ≤ ((l.length : Nat) : Int)))) ?_
   refine lm ?_
   refine St.dec 19 rfl (fun hc19 => ?_) (fun hc19 => ?_)
   ·have hd19 := of_decide_eq_true hc19
    have hi1 : i + 1 ≤ l.length := by have := of_decide_eq_true hc19; omega
    refine lgm ?_
    refine lgc (vP br 0) ?_
    refine lgc (vP br 1) ?_
    refine lgv (v := (.bool false)) (rLoad 0 rfl rfl (by kernel_rfl) rfl rfl) ?_
    refine lgc (.bool true) ?_
    refine lc (.bool true) ?_
    refine liNil (qThen (stTrue rfl (stSkip (qThen (stSeq (stBlock (stSeq (reg ?_))))))))
    refine la ?_
    refine liNil (qThen (stSeq (stSeq (reg ?_))))
    refine lm ?_
    refine lv (v := (.int .i64 ((((i + 1) : Nat) : Int) - 1))) (rSub _ rfl rfl rfl rfl (by omega) (by omega)) ?_
    refine la ?_
    refine liNil (qThen (stBlock ?_))
    refine stLoop (ι := Nat × Int) (fun (p, z) => p ≤ i + 1 ∧ z = (p : Int) - 1) (fun (p, z) => p) (fun (p, z) => [(0, (vP br 0)), (1, (vI most)), (4, (.int .i64 0)), (5, (vI (i + 1))), (6, (vI (accN (l.drop p) (i + 1 - p)))), (7, (.int .i64 z))]) (fun (p, z) => [cAt br 123 [(vL A1 l c1), (.bool false)]]) (i + 1, ((i + 1 : Nat) : Int) - 1) ⟨Nat.le_refl _, rfl⟩ ⟨rfl, rfl, rfl, rfl, congrArg (fun z : Nat => some (Value.int .i64 (z : Int))) (show 0 = accN (l.drop (i + 1)) (i + 1 - (i + 1)) by rw [Nat.sub_self]; unfold accN; rfl), rfl, trivial⟩ (fun w hM => by show Mm _ _ [cAt br 123 [(vL A1 l c1), (.bool false)]] w; exact hM) ?_
    rintro ⟨p, z⟩ ⟨hp, hz⟩
    show St _ _ _ [(0, (vP br 0)), (1, (vI most)), (4, (.int .i64 0)), (5, (vI (i + 1))), (6, (vI (accN (l.drop p) (i + 1 - p)))), (7, (.int .i64 z))] [cAt br 123 [(vL A1 l c1), (.bool false)]] _
    refine stSeq (stSeq (reg ?_))
    refine lm ?_
    refine lc (.bool (decide ((z : Int) ≥ 0))) ?_
    refine liNil (qThen ?_)
    refine stCond rfl (fun hc31 => ?_) (fun hc31 => ?_)
    ·have hd31 := of_decide_eq_true hc31
     obtain ⟨q, rfl⟩ : ∃ q, p = q + 1 := ⟨p - 1, by omega⟩
     obtain rfl : z = (q : Int) := by omega
     have hac := acc_small (l.drop (q + 1)) (k := i + 1 - (q + 1)) (by omega)
     refine stSkip (qThen (stSeq (stBlock (reg ?_))))
     refine lm ?_
     refine lv (v := (vI ((accN (l.drop (q + 1)) (i + 1 - (q + 1))) * 128))) (rMul _ rfl rfl rfl (by omega) (by omega) (by omega)) ?_
     refine lm ?_
     refine lc (vP br 0) ?_
     refine lc (vP br 0) ?_
     refine lv (v := (vL A1 l c1)) (rLoad 0 rfl rfl (by kernel_rfl) rfl rfl) ?_
     refine lm ?_
     obtain ⟨x0, hx0⟩ : ∃ ξ, (l)[q]? = some ξ := ⟨_, List.getElem?_eq_getElem (by omega)⟩
     refine St.rowPtr (fun w hM => rr.now hM) (B8_at hx0) (fun p41 q41 hA41 hc41 => ?_)
     refine lv (v := (vP p41 (q41 + q))) (rIndexRow (e := 5) rfl (by kernel_rfl) (by kernel_rfl) rfl rfl hA41 (by omega)) ?_
     refine lv (v := (.int .u8 ((x0.toNat : Nat) : Int))) (rLoadW rfl rfl (by kernel_rfl) hc41) ?_
     refine lv (v := (.int .u8 (((x0.toNat % 128) : Nat) : Int))) (rRem _ rfl rfl rfl (by decide) (Int.ofNat_tmod ..).symm) ?_
     refine lv (v := (vI (x0.toNat % 128))) (rIntC _ (fun _ => by kernel_rfl) rfl rfl (wrap64_id (by omega) (by omega))) ?_
     refine lv (v := (vI ((accN (l.drop (q + 1)) (i + 1 - (q + 1))) * 128 + (x0.toNat % 128)))) (rAdd _ rfl rfl rfl (by omega) (by omega) (by omega)) ?_
     refine la ?_
     refine liNil (qBlock (qThen (reg ?_)))
     refine lm ?_
     refine lv (v := (.int .i64 (((q : Nat) : Int) - 1))) (rSub _ rfl rfl rfl rfl (by omega) (by omega)) ?_
     refine la ?_
     refine liNil (qThen ?_)
     exact stAgain (q, ((q : Nat) : Int) - 1) (⟨by omega, rfl⟩) (by show q < q + 1; omega) ⟨rfl, rfl, rfl, rfl, congrArg (fun z : Nat => some (Value.int .i64 (z : Int))) (acc_step hx0 (by omega)), rfl, trivial⟩ (fun w hM => hM)
    ·have hd31 := of_decide_eq_false hc31
     obtain rfl : p = 0 := by omega
     have hac := acc_small l (k := i + 1) (by omega)
     rw [show accN (l.drop 0) (i + 1 - 0) = accN l (i + 1) from rfl]
     refine stExit (qThenX (qThenX (qBlockX (qThen (stSeq (reg ?_))))))
     refine lm ?_
     refine lc (vP br 0) ?_
     refine lc (vP br 0) ?_
     refine lv (v := (vL A1 l c1)) (rLoad 0 rfl rfl (by kernel_rfl) rfl rfl) ?_
     refine lm ?_
     refine lv (v := (vI i)) (rSub _ rfl rfl rfl (by omega) (by omega) (by omega)) ?_
     obtain ⟨x0, hx0⟩ : ∃ ξ, (l)[i]? = some ξ := ⟨_, List.getElem?_eq_getElem (by omega)⟩
     refine St.rowPtr (fun w hM => rr.now hM) (B8_at hx0) (fun p52 q52 hA52 hc52 => ?_)
     refine lv (v := (vP p52 (q52 + i))) (rIndexRow (e := 5) rfl (by kernel_rfl) (by kernel_rfl) rfl rfl hA52 (by omega)) ?_
     refine lv (v := (.int .u8 ((x0.toNat : Nat) : Int))) (rLoadW rfl rfl (by kernel_rfl) hc52) ?_
     refine lc (.bool (decide (((x0.toNat : Nat) : Int) < 128))) ?_
     refine liNil (qThen ?_)
     refine stCond rfl (fun hc54 => ?_) (fun hc54 => ?_)
     ·have hd54 := of_decide_eq_true hc54
      have hlt : x0.toNat < 128 := by have := of_decide_eq_true hc54; omega
      refine stSeq (stSeq ?_)
      refine anyBegin [cAt br 123 [(vL A1 l c1), (.bool false)]] 17 (by kernel_rfl) (fun _ h => h) ?_
      refine am 0 ?_
      refine am 1 ?_
      refine ac 2 (.bool (decide ((((accN l (i + 1)) : Nat) : Int) > ((most : Nat) : Int)))) ?_
      refine am 3 ?_
      refine Any.dec 58 rfl (fun hc58 => ?_) (fun hc58 => ?_)
      ·have hd58 := of_decide_eq_true hc58
       have hres : nmR l false most = (0, l, true) := nmR_brk hpre hx0 hlt (.inl (by have := of_decide_eq_true hc58; omega))
       refine anT 4 ?_
       refine anT 5 ?_
       refine anT 8 ?_
       refine anT 9 ?_
       refine anT 10 ?_
       refine anT 11 ?_
       refine anT 12 ?_
       refine anT 13 ?_
       refine anT 14 ?_
       refine anT 6 ?_
       refine anT 7 ?_
       refine anT 15 ?_
       refine ac 16 (.bool true) ?_
       refine anyDone (by kernel_rfl) ?_
       refine qThen (stTrue rfl (stExit (qThenX (qBlockY rfl (qThenX (qThenX (qBlockX (qThen (stSeq (reg ?_))))))))))
       refine lm ?_
       refine lc (vP br 0) ?_
       refine lc (vP br 1) ?_
       refine li rfl ?_
       refine opStore1 0 rfl rfl (by kernel_rfl) rfl rfl rfl (by kernel_rfl) rfl (by simp) ?_
       refine liNil (qThen (stSeq (reg ?_)))
       refine la ?_
       refine liNil (qThen (stRet ?_))
       refine stEnd [(.int .i64 0)] rfl ⟨rfl, trivial⟩ (fun w hM => ?_)
       rw [hres]
       exact ⟨_, _, rfl, hM, hs⟩
      ·have hd58 := of_decide_eq_false hc58
       have hsm : accN l (i + 1) ≤ most := by have := of_decide_eq_false hc58; omega
       refine agm 4 ?_
       refine agv 5 (.int .u64 (((accN l (i + 1)) : Nat) : Int)) rfl (rIntC _ (fun _ => by kernel_rfl) rfl rfl (wrapU64_id (by omega) (by omega))) ?_
       refine agm 8 ?_
       refine agc 9 (vP br 0) ?_
       refine agc 10 (vP br 0) ?_
       refine agv 11 (vL A1 l c1) rfl (rLoad 0 rfl rfl (by kernel_rfl) rfl rfl) ?_
       refine agm 12 ?_
       refine agv 13 (vL A1 (l.take (i + 1)) c1) rfl (rConv (rSliceHi (e := 5) rfl (by kernel_rfl) (by kernel_rfl) rfl rfl (by have := hs2; omega)) (by show Value.slice _ _ _ = Value.slice _ _ _; rw [List.length_take, Nat.min_eq_left (by omega)])) ?_
       refine agv 14 (vS (l.take (i + 1))) rfl (rStr (e := 5) (l.take (i + 1)) rfl (by kernel_rfl) (by kernel_rfl) (by kernel_rfl) rfl rfl (fun w hM => rowTake (i + 1) (rr.now hM))) ?_
       refine a1g 6 ?_
       refine opK0 (fun w hM => (rsRefNum_any (accN l (i + 1)) w (by omega)).mono ?_)
       rintro e w' ⟨RB61, rcb61, rfl, hP⟩
       refine ⟨_, _, rfl, hP, ?_⟩; clear hP hM
       refine anyNext [cAt br 123 [(vL A1 l c1), (.bool false)], cB RB61 (num (accN l (i + 1))) rcb61] (fun _ h => h.pick [0] rfl rfl) (fun _ h => h) ?_
       refine agv 7 (vS (num (accN l (i + 1)))) rfl (rStr (e := 5) (num (accN l (i + 1))) rfl (by kernel_rfl) (by kernel_rfl) (by kernel_rfl) rfl rfl (fun w hM => rowOwn (i := 1) rfl w hM)) ?_
       refine agv 15 (.bool (!decide ((num (accN l (i + 1))) = (l.take (i + 1))))) rfl (rStrNe rfl rfl rfl) ?_
       refine ac 16 (.bool (!decide ((num (accN l (i + 1))) = (l.take (i + 1))))) ?_
       refine anyDone (by kernel_rfl) ?_
       refine qThen ?_
       refine stCond rfl (fun hc71 => ?_) (fun hc71 => ?_)
       ·have hres : nmR l false most = (0, l, true) := nmR_brk hpre hx0 hlt (.inr (by simpa using hc71))
        refine stExit (qThenX (qBlockY rfl (qThenX (qThenX (qBlockX (qThen (stSeq (reg ?_))))))))
        refine lm ?_
        refine lc (vP br 0) ?_
        refine lc (vP br 1) ?_
        refine li rfl ?_
        refine opStore1 0 rfl rfl (by kernel_rfl) rfl rfl rfl (by kernel_rfl) rfl (by simp) ?_
        refine liNil (qThen (stSeq ?_))
        refine St.to [cAt br 123 [(vL A1 l c1), (.bool true)], cB RB61 (num (accN l (i + 1))) rcb61] (by kernel_rfl) ?_
        refine reg ?_
        refine la ?_
        refine liNil (qThen (stRet ?_))
        refine stEnd [(.int .i64 0)] rfl ⟨rfl, trivial⟩ (fun w hM => ?_)
        rw [hres]
        exact ⟨_, _, rfl, (hM.pick [0] rfl rfl), hs⟩
       ·have hres : nmR l false most = (accN l (i + 1), l.drop (i + 1), false) := nmR_ok (by have := hc71; simp at this; exact this.symm) hsm (by omega)
        refine stSkip (qThen (stSeq (reg ?_)))
        refine lm ?_
        refine lm ?_
        refine lc (vP br 0) ?_
        refine lc (vP br 0) ?_
        refine lv (v := (vL A1 l c1)) (rLoad 0 rfl rfl (by kernel_rfl) rfl rfl) ?_
        refine lm ?_
        refine lv (v := (vL (if c1 = (i + 1) then A1 else A1.map (·.add ((i + 1) * 1))) (l.drop (i + 1)) (c1 - (i + 1)))) (rConv (rSliceLo (e := 5) (sz := 1) rfl (by kernel_rfl) (by kernel_rfl) rfl rfl (by omega)) (by show Value.slice _ _ _ = Value.slice _ _ _; rw [List.length_drop])) ?_
        refine lc (vP br 0) ?_
        refine lc (vP br 0) ?_
        refine li rfl ?_
        refine opStore1 0 rfl rfl (by kernel_rfl) rfl rfl rfl (by kernel_rfl) rfl (by simp) ?_
        refine liNil (qThen (stSeq (reg ?_)))
        refine lm ?_
        refine la ?_
        refine liNil (qThen (stRet (qBlockR (qThenR (qThenR (qBlockR (qThenR ?_)))))))
        refine stEnd [(vI (accN l (i + 1)))] rfl ⟨rfl, trivial⟩ (fun w hM => ?_)
        rw [hres]
        exact ⟨_, _, rfl, (hM.pick [0] rfl rfl), hs.drop (by omega)⟩
     ·have hd54 := of_decide_eq_false hc54
      have hge : 128 ≤ x0.toNat := by have := of_decide_eq_false hc54; omega
      have hpre2 : ∀ j b, j < i + 1 → l[j]? = some b → 128 ≤ b.toNat := fun j b hj hb => by
       by_cases h : j < i
       ·exact hpre j b h hb
       ·obtain rfl : j = i := by omega
        rw [hx0] at hb; cases hb; exact hge
      refine stSkip (qBlock (qThen (reg ?_)))
      refine lm ?_
      refine lv (v := (vI ((i + 1) + 1))) (rAdd _ rfl rfl rfl (by omega) (by omega) (by omega)) ?_
      refine la ?_
      refine liNil (qThen ?_)
      exact stAgain (i + 1) (⟨by omega, by omega, hpre2⟩) (by show 3 - (i + 1) < 3 - i; omega) ⟨rfl, rfl, rfl, rfl, trivial⟩ (fun w hM => hM)
   ·have hd19 := of_decide_eq_false hc19
    have hres : nmR l false most = (0, l, true) := nmR_end hpre (.inl (by have := of_decide_eq_false hc19; omega)) hm
    refine lnF ?_
    refine lnF ?_
    refine lnF ?_
    refine lnF ?_
    refine lnF ?_
    refine lc (.bool false) ?_
    refine liNil (qThen (stFalse rfl (stExit (qThenX (qThenX (qBlockX (qThen (stSeq (reg ?_)))))))))
    refine lm ?_
    refine lc (vP br 0) ?_
    refine lc (vP br 1) ?_
    refine li rfl ?_
    refine opStore1 0 rfl rfl (by kernel_rfl) rfl rfl rfl (by kernel_rfl) rfl (by simp) ?_
    refine liNil (qThen (stSeq (reg ?_)))
    refine la ?_
    refine liNil (qThen (stRet ?_))
    refine stEnd [(.int .i64 0)] rfl ⟨rfl, trivial⟩ (fun w hM => ?_)
    rw [hres]
    exact ⟨_, _, rfl, hM, hs⟩
  ·have hd10 := of_decide_eq_false hc10
   obtain rfl : i = 3 := by have := of_decide_eq_false hc10; omega
   have hres : nmR l false most = (0, l, true) := nmR_end hpre (.inr rfl) hm
   refine lnF ?_
   refine lnF ?_
   refine lnF ?_
   refine lnF ?_
   refine lnF ?_
   refine lnF ?_
   refine lnF ?_
   refine lc (.bool false) ?_
   refine lm ?_
   refine lnF ?_
   refine lnF ?_
   refine lnF ?_
   refine lnF ?_
   refine lnF ?_
   refine lc (.bool false) ?_
   refine liNil (qThen (stFalse rfl (stExit (qThenX (qThenX (qBlockX (qThen (stSeq (reg ?_)))))))))
   refine lm ?_
   refine lc (vP br 0) ?_
   refine lc (vP br 1) ?_
   refine li rfl ?_
   refine opStore1 0 rfl rfl (by kernel_rfl) rfl rfl rfl (by kernel_rfl) rfl (by simp) ?_
   refine liNil (qThen (stSeq (reg ?_)))
   refine la ?_
   refine liNil (qThen (stRet ?_))
   refine stEnd [(.int .i64 0)] rfl ⟨rfl, trivial⟩ (fun w hM => ?_)
   rw [hres]
   exact ⟨_, _, rfl, hM, hs⟩
end Go.Proofs.YtlepfnihpdhcaaaGreatDoor
namespace Go.Proofs.YtlepfnihpdhcaaaGreatDoor
open Go.RowKit
theorem rsBoundR_any (br : Nat) (A : Option Addr) (D : List UInt8) (A1 : Option Addr) (c1 : Nat) (l : List UInt8) (bad : Bool) (w : World) (hO : Own [cAt br 123 [(vL A1 l c1), (.bool bad)]] w) (r0 : Rf [cAt br 123 [(vL A1 l c1), (.bool bad)]] w (fun w => RowIn w A (B8 D))) (hs : Sub8 A D A1 l c1) (hD : D.length ≤ 1048576) :
  Calls Tryz.prog 66 #[(vP br 0)] w fun e w' => ∃ (A2 : Option Addr) (c2 : Nat), e = .returned (vS ((bdR l bad).1)) ∧ Back [cAt br 123 [(vL A1 l c1), (.bool bad)]] w [cAt br 123 [(vL A2 ((bdR l bad).2.1) c2), (.bool (bdR l bad).2.2)]] w' ∧ (Sub8 A D A2 ((bdR l bad).2.1) c2) := by
 refine stEnter (args := [(vP br 0)]) (fps [cAt br 123 [(vL A1 l c1), (.bool bad)]]) Tryz.func66 rfl 18 rfl [(0, (vP br 0))] ⟨rfl, trivial⟩ [cAt br 123 [(vL A1 l c1), (.bool bad)]] (hO) ?_
 refine stSeq (reg ?_)
 refine la ?_
 refine liNil (qThen (stSeq (reg ?_)))
 refine lm ?_
 refine li rfl ?_
 refine opK [0] [cAt br 123 [(vL A1 l c1), (.bool bad)]] (fun w hM hO => (rsNum_any br A D A1 c1 l bad 32 w hO (r0.goS hM [0]) (by assumption) (by assumption) (by omega)).mono ?_)
 rintro e w' ⟨A25, c25, rfl, hP, hs5⟩
 refine ⟨_, [cAt br 123 [(vL A25 ((nmR l bad 32).2.1) c25), (.bool (nmR l bad 32).2.2)]], _, rfl, hP, rfl, ?_⟩; clear hP hM hO
 have hnl := nmR_le l bad 32
 refine la ?_
 refine liNil (qThen (stSeq (stSeq (reg ?_))))
 refine lm ?_
 refine lc (.bool (((((nmR l bad 32).1 : Nat) : Int) : Int) != 0)) ?_
 refine lm ?_
 refine St.dec 8 rfl (fun hc8 => ?_) (fun hc8 => ?_)
 ·refine lgm ?_
  refine lgc (.bool (((((nmR l bad 32).1 : Nat) : Int) : Int) != 32)) ?_
  refine lc (.bool (((((nmR l bad 32).1 : Nat) : Int) : Int) != 32)) ?_
  refine liNil (qThen ?_)
  refine stCond rfl (fun hc11 => ?_) (fun hc11 => ?_)
  ·have hx : bdX l bad = true := by unfold bdX; have h := hc8; have h' := hc11; simp at h h'; simp; omega
   refine reg ?_
   refine lm ?_
   refine lc (vP br 0) ?_
   refine lc (vP br 1) ?_
   refine li rfl ?_
   refine opStore1 0 rfl rfl (by kernel_rfl) rfl rfl rfl (by kernel_rfl) rfl (by simp) ?_
   refine liNil (qThen (stSeq (reg ?_)))
   refine lm ?_
   refine lm ?_
   refine li rfl ?_
   refine opK [0] [cAt br 123 [(vL A25 ((nmR l bad 32).2.1) c25), (.bool true)]] (fun w hM hO => (rsTake_any br A D A25 c25 ((nmR l bad 32).2.1) true ((nmR l bad 32).1) w hO (r0.goS hM [0]) (by assumption) (by assumption) (by omega)).mono ?_)
   rintro e w' ⟨A217, c217, rfl, hP, hs17⟩
   refine ⟨_, [cAt br 123 [(vL A217 (tkL ((nmR l bad 32).2.1) true ((nmR l bad 32).1)) c217), (.bool (tkB ((nmR l bad 32).2.1) true ((nmR l bad 32).1)))]], _, rfl, hP, rfl, ?_⟩; clear hP hM hO
   refine la ?_
   refine liNil (qThen (stRet ?_))
   refine stEnd [(vS (tkV ((nmR l bad 32).2.1) true ((nmR l bad 32).1)))] rfl ⟨rfl, trivial⟩ (fun w hM => ?_)
   unfold bdR; rw [hx]
   exact ⟨_, _, rfl, hM, hs17⟩
  ·have hx : bdX l bad = (nmR l bad 32).2.2 := by unfold bdX; have h := hc8; have h' := hc11; simp at h h'; simp; omega
   refine stSkip (qThen (stSeq (reg ?_)))
   refine lm ?_
   refine lm ?_
   refine li rfl ?_
   refine opK [0] [cAt br 123 [(vL A25 ((nmR l bad 32).2.1) c25), (.bool (nmR l bad 32).2.2)]] (fun w hM hO => (rsTake_any br A D A25 c25 ((nmR l bad 32).2.1) ((nmR l bad 32).2.2) ((nmR l bad 32).1) w hO (r0.goS hM [0]) (by assumption) (by assumption) (by omega)).mono ?_)
   rintro e w' ⟨A217, c217, rfl, hP, hs17⟩
   refine ⟨_, [cAt br 123 [(vL A217 (tkL ((nmR l bad 32).2.1) ((nmR l bad 32).2.2) ((nmR l bad 32).1)) c217), (.bool (tkB ((nmR l bad 32).2.1) ((nmR l bad 32).2.2) ((nmR l bad 32).1)))]], _, rfl, hP, rfl, ?_⟩; clear hP hM hO
   refine la ?_
   refine liNil (qThen (stRet ?_))
   refine stEnd [(vS (tkV ((nmR l bad 32).2.1) ((nmR l bad 32).2.2) ((nmR l bad 32).1)))] rfl ⟨rfl, trivial⟩ (fun w hM => ?_)
   unfold bdR; rw [hx]
   exact ⟨_, _, rfl, hM, hs17⟩
 ·have hx : bdX l bad = (nmR l bad 32).2.2 := by have h := hc8; simp at h; unfold bdX; simp; omega
  refine lnF ?_
  refine lnF ?_
  refine lc (.bool false) ?_
  refine liNil (qThen (stFalse rfl (stSkip (qThen (stSeq ?_)))))
  refine St.to [cAt br 123 [(vL A25 ((nmR l bad 32).2.1) c25), (.bool (nmR l bad 32).2.2)]] (by kernel_rfl) ?_
  refine reg ?_
  refine lm ?_
  refine lm ?_
  refine li rfl ?_
  refine opK [0] [cAt br 123 [(vL A25 ((nmR l bad 32).2.1) c25), (.bool (nmR l bad 32).2.2)]] (fun w hM hO => (rsTake_any br A D A25 c25 ((nmR l bad 32).2.1) ((nmR l bad 32).2.2) ((nmR l bad 32).1) w hO (r0.goS hM [0]) (by assumption) (by assumption) (by omega)).mono ?_)
  rintro e w' ⟨A217, c217, rfl, hP, hs17⟩
  refine ⟨_, [cAt br 123 [(vL A217 (tkL ((nmR l bad 32).2.1) ((nmR l bad 32).2.2) ((nmR l bad 32).1)) c217), (.bool (tkB ((nmR l bad 32).2.1) ((nmR l bad 32).2.2) ((nmR l bad 32).1)))]], _, rfl, hP, rfl, ?_⟩; clear hP hM hO
  refine la ?_
  refine liNil (qThen (stRet ?_))
  refine stEnd [(vS (tkV ((nmR l bad 32).2.1) ((nmR l bad 32).2.2) ((nmR l bad 32).1)))] rfl ⟨rfl, trivial⟩ (fun w hM => ?_)
  unfold bdR; rw [hx]
  exact ⟨_, _, rfl, hM, hs17⟩
theorem rsItemsR_any (br : Nat) (A : Option Addr) (D : List UInt8) (A1 : Option Addr) (c1 : Nat) (l : List UInt8) (bad : Bool) (lo : List UInt8) (hi : List UInt8) (v2 : Value) (v3 : Value) (v4 : Value) (v5 : Value) (v6 : Value) (most : Nat) (w : World) (hO : Own [cAt br 123 [(vL A1 l c1), (.bool bad)]] w) (r0 : Rf [cAt br 123 [(vL A1 l c1), (.bool bad)]] w (fun w => RowIn w A (B8 D))) (hs : Sub8 A D A1 l c1) (hD : D.length ≤ 1048576) (hm : most ≤ 16384) :
  Calls Tryz.prog 68 #[(vP br 0), (.agg #[(vS lo), (vS hi), v2, v3, v4, v5, v6]), (vI most)] w fun e w' => ∃ (A2 : Option Addr) (c2 : Nat) (B : Option Addr) (cb : Nat), e = .returned (.slice B ((itR l bad most lo hi).1.length) (cb)) ∧ Back [cAt br 123 [(vL A1 l c1), (.bool bad)]] w [cAt br 123 [(vL A2 ((itR l bad most lo hi).2.1) c2), (.bool (itR l bad most lo hi).2.2)], cOwn 9 1 B ((itR l bad most lo hi).1.length) (cb) (SS (itR l bad most lo hi).1)] w' ∧ (Sub8 A D A2 ((itR l bad most lo hi).2.1) c2) := by
 refine stEnter (args := [(vP br 0), (.agg #[(vS lo), (vS hi), v2, v3, v4, v5, v6]), (vI most)]) (fps [cAt br 123 [(vL A1 l c1), (.bool bad)]]) Tryz.func68 rfl 56 rfl [(0, (vP br 0)), (1, (.agg #[(vS lo), (vS hi), v2, v3, v4, v5, v6])), (2, (vI most))] ⟨rfl, rfl, rfl, trivial⟩ [cAt br 123 [(vL A1 l c1), (.bool bad)]] (hO) ?_
 refine stSeq (reg (li rfl ?_))
 refine opBox [(vS lo), (vS hi), v2, v3, v4, v5, v6] rfl rfl (by kernel_rfl) rfl rfl (fun b4 => ?_)
 refine la ?_
 refine liNil (qThen (stSeq (reg ?_)))
 refine lm ?_
 refine lm ?_
 refine li rfl ?_
 refine opK [0] [cAt br 123 [(vL A1 l c1), (.bool bad)]] (fun w hM hO => (rsNum_any br A D A1 c1 l bad most w hO (r0.goS hM [0]) (by assumption) (by assumption) (by omega)).mono ?_)
 rintro e w' ⟨A212, c212, rfl, hP, hs12⟩
 refine ⟨_, [cAt br 123 [(vL A212 ((nmR l bad most).2.1) c212), (.bool (nmR l bad most).2.2)]], _, rfl, hP, rfl, ?_⟩; clear hP hM hO
 have hnl := nmR_le l bad most
 refine la ?_
 refine liNil (qThen (stSeq (reg ?_)))
 refine la ?_
 refine liNil (qThen (stSeq (stSeq (reg ?_))))
 refine la ?_
 refine liNil (qThen (stBlock ?_))
 refine St.mem (fun w hM => hM.nilOwn 9 1) ?_
 refine St.to [cAt br 123 [(vL A212 ((nmR l bad most).2.1) c212), (.bool (nmR l bad most).2.2)], cAt b4 80 [(vS lo), (vS hi), v2, v3, v4, v5, v6], cOwn 9 1 none (0) (0) ([])] (by kernel_rfl) ?_
 refine stLoop (ι := Nat × Option Addr × Nat × Option Addr × Nat) (fun (i, AX, cX, BX, dX) => i ≤ (nmR l bad most).1 ∧ Sub8 A D AX (itS (nmR l bad most).2.1 (nmR l bad most).2.2 i).2.1 cX) (fun (i, AX, cX, BX, dX) => (nmR l bad most).1 - i) (fun (i, AX, cX, BX, dX) => [(0, (vP br 0)), (4, (vP b4 0)), (6, (.slice none 0 0)), (7, (vI ((nmR l bad most).1))), (8, (.slice BX ((itS (nmR l bad most).2.1 (nmR l bad most).2.2 i).1.length) (dX))), (9, (vI i))]) (fun (i, AX, cX, BX, dX) => [cAt br 123 [(vL AX ((itS (nmR l bad most).2.1 (nmR l bad most).2.2 i).2.1) cX), (.bool (itS (nmR l bad most).2.1 (nmR l bad most).2.2 i).2.2)], cAt b4 80 [(vS lo), (vS hi), v2, v3, v4, v5, v6], cOwn 9 1 BX ((itS (nmR l bad most).2.1 (nmR l bad most).2.2 i).1.length) (dX) (SS (itS (nmR l bad most).2.1 (nmR l bad most).2.2 i).1)]) (0, A212, c212, none, 0) ⟨Nat.zero_le _, hs12⟩ ⟨rfl, rfl, rfl, rfl, rfl, rfl, trivial⟩ (fun w hM => by show Mm _ _ [cAt br 123 [(vL A212 ((itS (nmR l bad most).2.1 (nmR l bad most).2.2 0).2.1) c212), (.bool (itS (nmR l bad most).2.1 (nmR l bad most).2.2 0).2.2)], cAt b4 80 [(vS lo), (vS hi), v2, v3, v4, v5, v6], cOwn 9 1 none ((itS (nmR l bad most).2.1 (nmR l bad most).2.2 0).1.length) (0) (SS (itS (nmR l bad most).2.1 (nmR l bad most).2.2 0).1)] w; exact hM) ?_
 rintro ⟨i, AX, cX, BX, dX⟩ ⟨hok, hsX⟩
 show St _ _ _ [(0, (vP br 0)), (4, (vP b4 0)), (6, (.slice none 0 0)), (7, (vI ((nmR l bad most).1))), (8, (.slice BX ((itS (nmR l bad most).2.1 (nmR l bad most).2.2 i).1.length) (dX))), (9, (vI i))] [cAt br 123 [(vL AX ((itS (nmR l bad most).2.1 (nmR l bad most).2.2 i).2.1) cX), (.bool (itS (nmR l bad most).2.1 (nmR l bad most).2.2 i).2.2)], cAt b4 80 [(vS lo), (vS hi), v2, v3, v4, v5, v6], cOwn 9 1 BX ((itS (nmR l bad most).2.1 (nmR l bad most).2.2 i).1.length) (dX) (SS (itS (nmR l bad most).2.1 (nmR l bad most).2.2 i).1)] _
 refine stSeq (stSeq (reg ?_))
 refine lm ?_
 refine lm ?_
 refine lc (.bool (decide (((i : Nat) : Int) < (((nmR l bad most).1 : Nat) : Int)))) ?_
 refine lm ?_
 refine St.dec 16 rfl (fun hc16 => ?_) (fun hc16 => ?_)
 ·have hd16 := of_decide_eq_true hc16
  have hin : i < (nmR l bad most).1 := by have := of_decide_eq_true hc16; omega
  refine lgm ?_
  refine lgc (vP br 0) ?_
  refine lgc (vP br 1) ?_
  refine lgv (v := (.bool (itS (nmR l bad most).2.1 (nmR l bad most).2.2 i).2.2)) (rLoad 0 rfl rfl (by kernel_rfl) rfl rfl) ?_
  refine lgc (.bool (!(itS (nmR l bad most).2.1 (nmR l bad most).2.2 i).2.2)) ?_
  refine lc (.bool (!(itS (nmR l bad most).2.1 (nmR l bad most).2.2 i).2.2)) ?_
  refine liNil (qThen ?_)
  refine stCond rfl (fun hc22 => ?_) (fun hc22 => ?_)
  ·have hbf : (itS (nmR l bad most).2.1 (nmR l bad most).2.2 i).2.2 = false := by simpa using hc22
   have hgo := itS_go2 hbf
   refine stSkip (qThen (stSeq (stBlock (reg ?_))))
   refine lm ?_
   refine lm ?_
   refine li rfl ?_
   refine opK [0] [cAt br 123 [(vL AX ((itS (nmR l bad most).2.1 (nmR l bad most).2.2 i).2.1) cX), (.bool (itS (nmR l bad most).2.1 (nmR l bad most).2.2 i).2.2)]] (fun w hM hO => (rsTake_any br A D AX cX ((itS (nmR l bad most).2.1 (nmR l bad most).2.2 i).2.1) ((itS (nmR l bad most).2.1 (nmR l bad most).2.2 i).2.2) 32 w hO (r0.goS hM [0]) (by assumption) (by assumption) (by omega)).mono ?_)
   rintro e w' ⟨A227, c227, rfl, hP, hs27⟩
   refine ⟨_, [cAt br 123 [(vL A227 (tkL ((itS (nmR l bad most).2.1 (nmR l bad most).2.2 i).2.1) ((itS (nmR l bad most).2.1 (nmR l bad most).2.2 i).2.2) 32) c227), (.bool (tkB ((itS (nmR l bad most).2.1 (nmR l bad most).2.2 i).2.1) ((itS (nmR l bad most).2.1 (nmR l bad most).2.2 i).2.2) 32))]], _, rfl, hP, rfl, ?_⟩; clear hP hM hO
   refine li rfl ?_
   refine opNew (v := fun b => .slice (some ⟨b, 0, none⟩) 1 1) 9 [(vS (tkV ((itS (nmR l bad most).2.1 (nmR l bad most).2.2 i).2.1) ((itS (nmR l bad most).2.1 (nmR l bad most).2.2 i).2.2) 32))] rfl (by kernel_rfl) (fun _ => by kernel_rfl) (fun b28 => ?_)
   refine li rfl ?_
   refine opAppend el_strC 2 ([(vS (tkV ((itS (nmR l bad most).2.1 (nmR l bad most).2.2 i).2.1) ((itS (nmR l bad most).2.1 (nmR l bad most).2.2 i).2.2) 32))]) rfl rfl (by kernel_rfl) rfl rfl rfl (rfl) (srcAt (i := 3) rfl (fun j v h => by rw [Nat.zero_add]; exact h)) (by simp [Value.oneCell']) (by have := itS_len (nmR l bad most).2.1 (nmR l bad most).2.2 i; first | omega | (simp only [List.length_append, List.length_cons, List.length_nil]; omega)) (((itS (nmR l bad most).2.1 (nmR l bad most).2.2 i).1 ++ [(tkV ((itS (nmR l bad most).2.1 (nmR l bad most).2.2 i).2.1) ((itS (nmR l bad most).2.1 (nmR l bad most).2.2 i).2.2) 32)]).length) (by first | exact (List.length_append ..).symm | (simp; done) | (simp; omega)) (SS ((itS (nmR l bad most).2.1 (nmR l bad most).2.2 i).1 ++ [(tkV ((itS (nmR l bad most).2.1 (nmR l bad most).2.2 i).2.1) ((itS (nmR l bad most).2.1 (nmR l bad most).2.2 i).2.2) 32)])) (by simp [SS]) (fun A29 c29 => ?_)
   refine la ?_
   refine liNil (qBlock (qThen (reg ?_)))
   refine lm ?_
   refine lv (v := (vI (i + 1))) (rAdd _ rfl rfl rfl (by omega) (by omega) (by omega)) ?_
   refine la ?_
   refine liNil (qThen ?_)
   rw [show (itS (nmR l bad most).2.1 (nmR l bad most).2.2 i).1 ++ [(tkV ((itS (nmR l bad most).2.1 (nmR l bad most).2.2 i).2.1) ((itS (nmR l bad most).2.1 (nmR l bad most).2.2 i).2.2) 32)] = (itS (nmR l bad most).2.1 (nmR l bad most).2.2 (i + 1)).1 from by rw [hgo]]
   rw [show tkL ((itS (nmR l bad most).2.1 (nmR l bad most).2.2 i).2.1) ((itS (nmR l bad most).2.1 (nmR l bad most).2.2 i).2.2) 32 = (itS (nmR l bad most).2.1 (nmR l bad most).2.2 (i + 1)).2.1 from by rw [hgo]]
   rw [show tkB ((itS (nmR l bad most).2.1 (nmR l bad most).2.2 i).2.1) ((itS (nmR l bad most).2.1 (nmR l bad most).2.2 i).2.2) 32 = (itS (nmR l bad most).2.1 (nmR l bad most).2.2 (i + 1)).2.2 from by rw [hgo]]
   exact stAgain (i + 1, A227, c227, A29, c29) (⟨by omega, by rw [hgo]; exact hs27⟩) (by show (nmR l bad most).1 - (i + 1) < (nmR l bad most).1 - i; omega) ⟨rfl, rfl, rfl, rfl, rfl, rfl, trivial⟩ (fun w hM => (hM.pick [0, 1, 2] rfl rfl))
  ·have hbt : (itS (nmR l bad most).2.1 (nmR l bad most).2.2 i).2.2 = true := by simpa using hc22
   have hf := itN_stop hbt (Nat.le_of_lt hin)
   refine stExit (qThenX (qThenX (qBlockX (qThen (stSeq (stSeq ?_))))))
   have hil := itS_len (nmR l bad most).2.1 (nmR l bad most).2.2 i
   refine reg ?_
   refine lm ?_
   refine lc (vP br 0) ?_
   refine lc (vP br 1) ?_
   refine lv (v := (.bool (itS (nmR l bad most).2.1 (nmR l bad most).2.2 i).2.2)) (rLoad 0 rfl rfl (by kernel_rfl) rfl rfl) ?_
   refine lc (.bool (!(itS (nmR l bad most).2.1 (nmR l bad most).2.2 i).2.2)) ?_
   refine lm ?_
   refine St.dec 35 rfl (fun hc35 => ?_) (fun hc35 => ?_)
   ·refine lgm ?_
    refine liGo rfl rfl ?_
    refine opK0 (fun w hM => (rsSet_any BX dX ((itS (nmR l bad most).2.1 (nmR l bad most).2.2 i).1) w (hM.keep0 (j := 2) rfl (fun _ h => RowIn.of_own h)) (by omega)).mono ?_)
    rintro e w' ⟨rfl, hP⟩
    refine ⟨_, _, rfl, hP, ?_⟩; clear hP hM
    refine lgc (.bool (((setE ((itS (nmR l bad most).2.1 (nmR l bad most).2.2 i).1)) : Int) != 0)) ?_
    refine lgm ?_
    refine St.dec 39 rfl (fun hc39 => ?_) (fun hc39 => ?_)
    ·refine lnT ?_
     refine lnT ?_
     refine lnT ?_
     refine lnT ?_
     refine lnT ?_
     refine lnT ?_
     refine lnT ?_
     refine lnT ?_
     refine lnT ?_
     refine lnT ?_
     refine lgc (.bool true) ?_
     refine lc (.bool true) ?_
     refine liNil (qThen (stTrue rfl ?_))
     refine St.to [cAt br 123 [(vL AX ((itS (nmR l bad most).2.1 (nmR l bad most).2.2 i).2.1) cX), (.bool (itS (nmR l bad most).2.1 (nmR l bad most).2.2 i).2.2)], cAt b4 80 [(vS lo), (vS hi), v2, v3, v4, v5, v6], cOwn 9 1 BX ((itS (nmR l bad most).2.1 (nmR l bad most).2.2 i).1.length) (dX) (SS (itS (nmR l bad most).2.1 (nmR l bad most).2.2 i).1)] (by kernel_rfl) ?_
     refine reg ?_
     refine lm ?_
     refine lc (vP br 0) ?_
     refine lc (vP br 1) ?_
     refine li rfl ?_
     refine opStore1 0 rfl rfl (by kernel_rfl) rfl rfl rfl (by kernel_rfl) rfl (by simp) ?_
     refine liNil (qThen (stSeq (reg ?_)))
     refine lm ?_
     refine la ?_
     refine liNil (qThen (stRet ?_))
     refine stEnd [(.slice BX ((itS (nmR l bad most).2.1 (nmR l bad most).2.2 i).1.length) (dX))] rfl ⟨rfl, trivial⟩ (fun w hM => ?_)
     have hx : ((itS (nmR l bad most).2.1 (nmR l bad most).2.2 i).2.2 || (decide (setE (itS (nmR l bad most).2.1 (nmR l bad most).2.2 i).1 ≠ 0) || decide ((inL (itS (nmR l bad most).2.1 (nmR l bad most).2.2 i).1 lo hi).length ≠ (itS (nmR l bad most).2.1 (nmR l bad most).2.2 i).1.length))) = true := by have h := hc39; simp at h; simp [h]
     unfold itR; rw [hf, hx]
     exact ⟨_, _, _, _, rfl, (hM.pick [0, 2] rfl rfl), hsX⟩
    ·refine lgm ?_
     refine lgc (vP b4 0) ?_
     refine lgv (v := (vS lo)) (rLoad 1 rfl rfl (by kernel_rfl) rfl rfl) ?_
     refine lgc (vP b4 1) ?_
     refine lgv (v := (vS hi)) (rLoad 1 rfl rfl (by kernel_rfl) rfl rfl) ?_
     refine liGo rfl rfl ?_
     refine opK0 (fun w hM => (rsIn_any BX dX ((itS (nmR l bad most).2.1 (nmR l bad most).2.2 i).1) lo hi w (hM.keep0 (j := 2) rfl (fun _ h => RowIn.of_own h)) (by omega)).mono ?_)
     rintro e w' ⟨B45, cb45, rfl, hP⟩
     refine ⟨_, _, rfl, hP, ?_⟩; clear hP hM
     refine lgc (vI ((inL ((itS (nmR l bad most).2.1 (nmR l bad most).2.2 i).1) lo hi).length)) ?_
     refine lgm ?_
     refine lgc (vI ((itS (nmR l bad most).2.1 (nmR l bad most).2.2 i).1.length)) ?_
     refine lgc (.bool (((((inL ((itS (nmR l bad most).2.1 (nmR l bad most).2.2 i).1) lo hi).length : Nat) : Int) : Int) != (((itS (nmR l bad most).2.1 (nmR l bad most).2.2 i).1.length : Nat) : Int))) ?_
     refine lgc (.bool (((((inL ((itS (nmR l bad most).2.1 (nmR l bad most).2.2 i).1) lo hi).length : Nat) : Int) : Int) != (((itS (nmR l bad most).2.1 (nmR l bad most).2.2 i).1.length : Nat) : Int))) ?_
     refine lc (.bool (((((inL ((itS (nmR l bad most).2.1 (nmR l bad most).2.2 i).1) lo hi).length : Nat) : Int) : Int) != (((itS (nmR l bad most).2.1 (nmR l bad most).2.2 i).1.length : Nat) : Int))) ?_
     refine liNil (qThen ?_)
     refine stCond rfl (fun hc51 => ?_) (fun hc51 => ?_)
     ·refine reg ?_
      refine lm ?_
      refine lc (vP br 0) ?_
      refine lc (vP br 1) ?_
      refine li rfl ?_
      refine opStore1 0 rfl rfl (by kernel_rfl) rfl rfl rfl (by kernel_rfl) rfl (by simp) ?_
      refine liNil (qThen (stSeq (reg ?_)))
      refine lm ?_
      refine la ?_
      refine liNil (qThen (stRet ?_))
      refine stEnd [(.slice BX ((itS (nmR l bad most).2.1 (nmR l bad most).2.2 i).1.length) (dX))] rfl ⟨rfl, trivial⟩ (fun w hM => ?_)
      have hx : ((itS (nmR l bad most).2.1 (nmR l bad most).2.2 i).2.2 || (decide (setE (itS (nmR l bad most).2.1 (nmR l bad most).2.2 i).1 ≠ 0) || decide ((inL (itS (nmR l bad most).2.1 (nmR l bad most).2.2 i).1 lo hi).length ≠ (itS (nmR l bad most).2.1 (nmR l bad most).2.2 i).1.length))) = true := by have h2 : ¬ (inL (itS (nmR l bad most).2.1 (nmR l bad most).2.2 i).1 lo hi).length = (itS (nmR l bad most).2.1 (nmR l bad most).2.2 i).1.length := (by have h := hc51; simp at h; omega); simp [h2]
      unfold itR; rw [hf, hx]
      exact ⟨_, _, _, _, rfl, (hM.pick [0, 2] rfl rfl), hsX⟩
     ·refine stSkip (qThen (stSeq (reg ?_)))
      refine lm ?_
      refine la ?_
      refine liNil (qThen (stRet ?_))
      refine stEnd [(.slice BX ((itS (nmR l bad most).2.1 (nmR l bad most).2.2 i).1.length) (dX))] rfl ⟨rfl, trivial⟩ (fun w hM => ?_)
      have hx : ((itS (nmR l bad most).2.1 (nmR l bad most).2.2 i).2.2 || (decide (setE (itS (nmR l bad most).2.1 (nmR l bad most).2.2 i).1 ≠ 0) || decide ((inL (itS (nmR l bad most).2.1 (nmR l bad most).2.2 i).1 lo hi).length ≠ (itS (nmR l bad most).2.1 (nmR l bad most).2.2 i).1.length))) = (itS (nmR l bad most).2.1 (nmR l bad most).2.2 i).2.2 := by have h := hc39; have h2 : (inL (itS (nmR l bad most).2.1 (nmR l bad most).2.2 i).1 lo hi).length = (itS (nmR l bad most).2.1 (nmR l bad most).2.2 i).1.length := (by have h := hc51; simp at h; omega); simp at h; simp [h, h2]
      unfold itR; rw [hf, hx]
      exact ⟨_, _, _, _, rfl, (hM.pick [0, 2] rfl rfl), hsX⟩
   ·refine lnF ?_
    refine lnF ?_
    refine lnF ?_
    refine lnF ?_
    refine lnU ?_
    refine lnU ?_
    refine lnU ?_
    refine lnU ?_
    refine lnU ?_
    refine lnU ?_
    refine lnU ?_
    refine lnU ?_
    refine lnU ?_
    refine lnU ?_
    refine lnF ?_
    refine lc (.bool false) ?_
    refine liNil (qThen (stFalse rfl (stSkip (qThen (stSeq (reg ?_))))))
    refine lm ?_
    refine la ?_
    refine liNil (qThen (stRet ?_))
    refine stEnd [(.slice BX ((itS (nmR l bad most).2.1 (nmR l bad most).2.2 i).1.length) (dX))] rfl ⟨rfl, trivial⟩ (fun w hM => ?_)
    have hx : ((itS (nmR l bad most).2.1 (nmR l bad most).2.2 i).2.2 || (decide (setE (itS (nmR l bad most).2.1 (nmR l bad most).2.2 i).1 ≠ 0) || decide ((inL (itS (nmR l bad most).2.1 (nmR l bad most).2.2 i).1 lo hi).length ≠ (itS (nmR l bad most).2.1 (nmR l bad most).2.2 i).1.length))) = (itS (nmR l bad most).2.1 (nmR l bad most).2.2 i).2.2 := by have h : (itS (nmR l bad most).2.1 (nmR l bad most).2.2 i).2.2 = true := (by simpa using hc35); rw [h]; rfl
    unfold itR; rw [hf, hx]
    exact ⟨_, _, _, _, rfl, (hM.pick [0, 2] rfl rfl), hsX⟩
 ·have hd16 := of_decide_eq_false hc16
  have hin : i = (nmR l bad most).1 := by have := of_decide_eq_false hc16; omega
  have hf : itN l bad most = itS (nmR l bad most).2.1 (nmR l bad most).2.2 i := by unfold itN; rw [hin]
  refine lnF ?_
  refine lnF ?_
  refine lnF ?_
  refine lnF ?_
  refine lnF ?_
  refine lc (.bool false) ?_
  refine liNil (qThen (stFalse rfl (stExit (qThenX (qThenX (qBlockX (qThen (stSeq (stSeq ?_)))))))))
  have hil := itS_len (nmR l bad most).2.1 (nmR l bad most).2.2 i
  refine reg ?_
  refine lm ?_
  refine lc (vP br 0) ?_
  refine lc (vP br 1) ?_
  refine lv (v := (.bool (itS (nmR l bad most).2.1 (nmR l bad most).2.2 i).2.2)) (rLoad 0 rfl rfl (by kernel_rfl) rfl rfl) ?_
  refine lc (.bool (!(itS (nmR l bad most).2.1 (nmR l bad most).2.2 i).2.2)) ?_
  refine lm ?_
  refine St.dec 35 rfl (fun hc35 => ?_) (fun hc35 => ?_)
  ·refine lgm ?_
   refine liGo rfl rfl ?_
   refine opK0 (fun w hM => (rsSet_any BX dX ((itS (nmR l bad most).2.1 (nmR l bad most).2.2 i).1) w (hM.keep0 (j := 2) rfl (fun _ h => RowIn.of_own h)) (by omega)).mono ?_)
   rintro e w' ⟨rfl, hP⟩
   refine ⟨_, _, rfl, hP, ?_⟩; clear hP hM
   refine lgc (.bool (((setE ((itS (nmR l bad most).2.1 (nmR l bad most).2.2 i).1)) : Int) != 0)) ?_
   refine lgm ?_
   refine St.dec 39 rfl (fun hc39 => ?_) (fun hc39 => ?_)
   ·refine lnT ?_
    refine lnT ?_
    refine lnT ?_
    refine lnT ?_
    refine lnT ?_
    refine lnT ?_
    refine lnT ?_
    refine lnT ?_
    refine lnT ?_
    refine lnT ?_
    refine lgc (.bool true) ?_
    refine lc (.bool true) ?_
    refine liNil (qThen (stTrue rfl ?_))
    refine St.to [cAt br 123 [(vL AX ((itS (nmR l bad most).2.1 (nmR l bad most).2.2 i).2.1) cX), (.bool (itS (nmR l bad most).2.1 (nmR l bad most).2.2 i).2.2)], cAt b4 80 [(vS lo), (vS hi), v2, v3, v4, v5, v6], cOwn 9 1 BX ((itS (nmR l bad most).2.1 (nmR l bad most).2.2 i).1.length) (dX) (SS (itS (nmR l bad most).2.1 (nmR l bad most).2.2 i).1)] (by kernel_rfl) ?_
    refine reg ?_
    refine lm ?_
    refine lc (vP br 0) ?_
    refine lc (vP br 1) ?_
    refine li rfl ?_
    refine opStore1 0 rfl rfl (by kernel_rfl) rfl rfl rfl (by kernel_rfl) rfl (by simp) ?_
    refine liNil (qThen (stSeq (reg ?_)))
    refine lm ?_
    refine la ?_
    refine liNil (qThen (stRet ?_))
    refine stEnd [(.slice BX ((itS (nmR l bad most).2.1 (nmR l bad most).2.2 i).1.length) (dX))] rfl ⟨rfl, trivial⟩ (fun w hM => ?_)
    have hx : ((itS (nmR l bad most).2.1 (nmR l bad most).2.2 i).2.2 || (decide (setE (itS (nmR l bad most).2.1 (nmR l bad most).2.2 i).1 ≠ 0) || decide ((inL (itS (nmR l bad most).2.1 (nmR l bad most).2.2 i).1 lo hi).length ≠ (itS (nmR l bad most).2.1 (nmR l bad most).2.2 i).1.length))) = true := by have h := hc39; simp at h; simp [h]
    unfold itR; rw [hf, hx]
    exact ⟨_, _, _, _, rfl, (hM.pick [0, 2] rfl rfl), hsX⟩
   ·refine lgm ?_
    refine lgc (vP b4 0) ?_
    refine lgv (v := (vS lo)) (rLoad 1 rfl rfl (by kernel_rfl) rfl rfl) ?_
    refine lgc (vP b4 1) ?_
    refine lgv (v := (vS hi)) (rLoad 1 rfl rfl (by kernel_rfl) rfl rfl) ?_
    refine liGo rfl rfl ?_
    refine opK0 (fun w hM => (rsIn_any BX dX ((itS (nmR l bad most).2.1 (nmR l bad most).2.2 i).1) lo hi w (hM.keep0 (j := 2) rfl (fun _ h => RowIn.of_own h)) (by omega)).mono ?_)
    rintro e w' ⟨B45, cb45, rfl, hP⟩
    refine ⟨_, _, rfl, hP, ?_⟩; clear hP hM
    refine lgc (vI ((inL ((itS (nmR l bad most).2.1 (nmR l bad most).2.2 i).1) lo hi).length)) ?_
    refine lgm ?_
    refine lgc (vI ((itS (nmR l bad most).2.1 (nmR l bad most).2.2 i).1.length)) ?_
    refine lgc (.bool (((((inL ((itS (nmR l bad most).2.1 (nmR l bad most).2.2 i).1) lo hi).length : Nat) : Int) : Int) != (((itS (nmR l bad most).2.1 (nmR l bad most).2.2 i).1.length : Nat) : Int))) ?_
    refine lgc (.bool (((((inL ((itS (nmR l bad most).2.1 (nmR l bad most).2.2 i).1) lo hi).length : Nat) : Int) : Int) != (((itS (nmR l bad most).2.1 (nmR l bad most).2.2 i).1.length : Nat) : Int))) ?_
    refine lc (.bool (((((inL ((itS (nmR l bad most).2.1 (nmR l bad most).2.2 i).1) lo hi).length : Nat) : Int) : Int) != (((itS (nmR l bad most).2.1 (nmR l bad most).2.2 i).1.length : Nat) : Int))) ?_
    refine liNil (qThen ?_)
    refine stCond rfl (fun hc51 => ?_) (fun hc51 => ?_)
    ·refine reg ?_
     refine lm ?_
     refine lc (vP br 0) ?_
     refine lc (vP br 1) ?_
     refine li rfl ?_
     refine opStore1 0 rfl rfl (by kernel_rfl) rfl rfl rfl (by kernel_rfl) rfl (by simp) ?_
     refine liNil (qThen (stSeq (reg ?_)))
     refine lm ?_
     refine la ?_
     refine liNil (qThen (stRet ?_))
     refine stEnd [(.slice BX ((itS (nmR l bad most).2.1 (nmR l bad most).2.2 i).1.length) (dX))] rfl ⟨rfl, trivial⟩ (fun w hM => ?_)
     have hx : ((itS (nmR l bad most).2.1 (nmR l bad most).2.2 i).2.2 || (decide (setE (itS (nmR l bad most).2.1 (nmR l bad most).2.2 i).1 ≠ 0) || decide ((inL (itS (nmR l bad most).2.1 (nmR l bad most).2.2 i).1 lo hi).length ≠ (itS (nmR l bad most).2.1 (nmR l bad most).2.2 i).1.length))) = true := by have h2 : ¬ (inL (itS (nmR l bad most).2.1 (nmR l bad most).2.2 i).1 lo hi).length = (itS (nmR l bad most).2.1 (nmR l bad most).2.2 i).1.length := (by have h := hc51; simp at h; omega); simp [h2]
     unfold itR; rw [hf, hx]
     exact ⟨_, _, _, _, rfl, (hM.pick [0, 2] rfl rfl), hsX⟩
    ·refine stSkip (qThen (stSeq (reg ?_)))
     refine lm ?_
     refine la ?_
     refine liNil (qThen (stRet ?_))
     refine stEnd [(.slice BX ((itS (nmR l bad most).2.1 (nmR l bad most).2.2 i).1.length) (dX))] rfl ⟨rfl, trivial⟩ (fun w hM => ?_)
     have hx : ((itS (nmR l bad most).2.1 (nmR l bad most).2.2 i).2.2 || (decide (setE (itS (nmR l bad most).2.1 (nmR l bad most).2.2 i).1 ≠ 0) || decide ((inL (itS (nmR l bad most).2.1 (nmR l bad most).2.2 i).1 lo hi).length ≠ (itS (nmR l bad most).2.1 (nmR l bad most).2.2 i).1.length))) = (itS (nmR l bad most).2.1 (nmR l bad most).2.2 i).2.2 := by have h := hc39; have h2 : (inL (itS (nmR l bad most).2.1 (nmR l bad most).2.2 i).1 lo hi).length = (itS (nmR l bad most).2.1 (nmR l bad most).2.2 i).1.length := (by have h := hc51; simp at h; omega); simp at h; simp [h, h2]
     unfold itR; rw [hf, hx]
     exact ⟨_, _, _, _, rfl, (hM.pick [0, 2] rfl rfl), hsX⟩
  ·refine lnF ?_
   refine lnF ?_
   refine lnF ?_
   refine lnF ?_
   refine lnU ?_
   refine lnU ?_
   refine lnU ?_
   refine lnU ?_
   refine lnU ?_
   refine lnU ?_
   refine lnU ?_
   refine lnU ?_
   refine lnU ?_
   refine lnU ?_
   refine lnF ?_
   refine lc (.bool false) ?_
   refine liNil (qThen (stFalse rfl (stSkip (qThen (stSeq (reg ?_))))))
   refine lm ?_
   refine la ?_
   refine liNil (qThen (stRet ?_))
   refine stEnd [(.slice BX ((itS (nmR l bad most).2.1 (nmR l bad most).2.2 i).1.length) (dX))] rfl ⟨rfl, trivial⟩ (fun w hM => ?_)
   have hx : ((itS (nmR l bad most).2.1 (nmR l bad most).2.2 i).2.2 || (decide (setE (itS (nmR l bad most).2.1 (nmR l bad most).2.2 i).1 ≠ 0) || decide ((inL (itS (nmR l bad most).2.1 (nmR l bad most).2.2 i).1 lo hi).length ≠ (itS (nmR l bad most).2.1 (nmR l bad most).2.2 i).1.length))) = (itS (nmR l bad most).2.1 (nmR l bad most).2.2 i).2.2 := by have h : (itS (nmR l bad most).2.1 (nmR l bad most).2.2 i).2.2 = true := (by simpa using hc35); rw [h]; rfl
   unfold itR; rw [hf, hx]
   exact ⟨_, _, _, _, rfl, (hM.pick [0, 2] rfl rfl), hsX⟩
end Go.Proofs.YtlepfnihpdhcaaaGreatDoor
namespace Go.Proofs.YtlepfnihpdhcaaaGreatDoor
open Go.RowKit
theorem nmR_sound {l : Bs} {bad : Bool} {most : Nat} (h : (nmR l bad most).2.2 = false) : bad = false ∧ l = num (nmR l bad most).1 ++ (nmR l bad most).2.1 := by
 unfold nmR at h ⊢
 cases bad with
 | true => simp at h
 | false =>
  refine ⟨rfl, ?_⟩
  simp only [Bool.false_eq_true, if_false] at h ⊢
  cases hr : rdNum l 0 with
  | none => rw [hr] at h; cases h
  | some p =>
   obtain ⟨n, m⟩ := p
   rw [hr] at h
   dsimp only at h ⊢
   by_cases hn : n ≤ most
   ·rw [if_pos hn]
    have e := rdNum_took l 0 n m hr
    rw [List.drop_zero] at e
    exact e
   ·rw [if_neg hn] at h; cases h
theorem tk_sound {l : Bs} {bad : Bool} {n : Nat} (h : tkB l bad n = false) : bad = false ∧ (tkV l bad n).length = n ∧ l = tkV l bad n ++ tkL l bad n := by
 have hb : bad = false ∧ n ≤ l.length := by
  unfold tkB at h
  cases bad with
  | true => cases h
  | false => exact ⟨rfl, by simpa using h⟩
 refine ⟨hb.1, ?_, ?_⟩
 ·unfold tkV; rw [h, if_neg (by simp), List.length_take]; omega
 ·unfold tkV tkL; rw [h, if_neg (by simp), if_neg (by simp), List.take_append_drop]
theorem tk_go {l r : Bs} {n : Nat} (h : l.length = n) : tkB (l ++ r) false n = false ∧ tkV (l ++ r) false n = l ∧ tkL (l ++ r) false n = r := by
 have hb : tkB (l ++ r) false n = false := by unfold tkB; simp; omega
 refine ⟨hb, ?_, ?_⟩
 ·unfold tkV; rw [hb, if_neg (by simp), ← h, List.take_left]
 ·unfold tkL; rw [hb, if_neg (by simp), ← h, List.drop_left]
theorem bdR_sound {l : Bs} {bad : Bool} (h : (bdR l bad).2.2 = false) : bad = false ∧ boundOk (bdR l bad).1 = true ∧ l = (num (bdR l bad).1.length ++ (bdR l bad).1) ++ (bdR l bad).2.1 := by
 obtain ⟨h1, h2, h3⟩ := tk_sound (show tkB (nmR l bad 32).2.1 (bdX l bad) (nmR l bad 32).1 = false from h)
 have hx := h1
 unfold bdX at hx
 rw [Bool.or_eq_false_iff] at hx
 obtain ⟨h4, h5⟩ := nmR_sound hx.1
 have hl : (bdR l bad).1.length = (nmR l bad 32).1 := h2
 refine ⟨h4, ?_, ?_⟩
 ·have h6 := hx.2
  unfold boundOk
  rw [Bool.or_eq_true, decide_eq_true_eq, decide_eq_true_eq, hl]
  by_cases h7 : (nmR l bad 32).1 = 0
  ·left; exact List.eq_nil_of_length_eq_zero (hl.trans h7)
  ·right
   simp [h7] at h6
   exact h6
 ·rw [hl, List.append_assoc]
  exact h5.trans (congrArg _ h3)
theorem bdR_go {v r : Bs} (h : boundOk v = true) : bdR ((num v.length ++ v) ++ r) false = (v, r, false) := by
 have hb := bound_le h
 have e : nmR ((num v.length ++ v) ++ r) false 32 = (v.length, v ++ r, false) := by rw [List.append_assoc]; exact nmR_num hb (by omega)
 have hx : bdX ((num v.length ++ v) ++ r) false = false := by
  unfold bdX
  rw [e]
  unfold boundOk at h
  rw [Bool.or_eq_true, decide_eq_true_eq, decide_eq_true_eq] at h
  rcases h with rfl | h
  ·simp
  ·simp [h]
 obtain ⟨h1, h2, h3⟩ := tk_go (l := v) (r := r) rfl
 unfold bdR
 rw [hx, e, h1, h2, h3]
theorem itS_sound (l : Bs) (b : Bool) : ∀ k, (itS l b k).2.2 = false → b = false ∧ (itS l b k).1.length = k ∧ all32 (itS l b k).1 ∧ l = (itS l b k).1.flatten ++ (itS l b k).2.1
 | 0, h => ⟨h, rfl, (fun x hx => by cases hx), rfl⟩
 | k + 1, h => by
  by_cases hk : (itS l b k).2.2 = true
  ·rw [itS, if_pos hk] at h
   rw [h] at hk; cases hk
  ·have hk' : (itS l b k).2.2 = false := by simpa using hk
   obtain ⟨h1, h2, h3, h4⟩ := itS_sound l b k hk'
   rw [itS_go hk'] at h ⊢
   obtain ⟨_, h5, h6⟩ := tk_sound (show tkB (itS l b k).2.1 false 32 = false from h)
   refine ⟨h1, by simp [h2], ?_, ?_⟩
   ·intro x hx
    rcases List.mem_append.1 hx with hx | hx
    ·exact h3 x hx
    ·rw [List.mem_singleton.1 hx]; exact h5
   ·show l = ((itS l b k).1 ++ [tkV (itS l b k).2.1 false 32]).flatten ++ tkL (itS l b k).2.1 false 32
    rw [List.flatten_append, List.append_assoc]
    show l = (itS l b k).1.flatten ++ ((tkV (itS l b k).2.1 false 32 ++ []) ++ tkL (itS l b k).2.1 false 32)
    rw [List.append_nil, ← h6]
    exact h4
theorem itS_num {xs : List Bs} {r : Bs} (h : all32 xs) : ∀ k, k ≤ xs.length → itS (xs.flatten ++ r) false k = (xs.take k, (xs.drop k).flatten ++ r, false)
 | 0, _ => rfl
 | k + 1, hk => by
  have e := itS_num (r := r) h k (by omega)
  rw [itS_go (by rw [e]), e]
  have hd : xs.drop k = xs[k] :: xs.drop (k + 1) := List.drop_eq_getElem_cons (by omega)
  have hf : (xs.drop k).flatten ++ r = xs[k] ++ ((xs.drop (k + 1)).flatten ++ r) := by rw [hd, List.flatten_cons, List.append_assoc]
  obtain ⟨h1, h2, h3⟩ := tk_go (l := xs[k]) (r := (xs.drop (k + 1)).flatten ++ r) (n := 32) (h _ (List.getElem_mem _))
  dsimp only
  rw [hf, h1, h2, h3, List.take_succ_eq_append_getElem (by omega)]
theorem ordOk_iff {l : List Bs} {lo hi : Bs} (h : all32 l) (hl : l.length ≤ 16384) : (decide (setE l ≠ 0) || decide ((inL l lo hi).length ≠ l.length)) = false ↔ ordOk l lo hi = true := by
 rw [Bool.or_eq_false_iff, decide_eq_false_iff_not, decide_eq_false_iff_not, Decidable.not_not, Decidable.not_not]
 unfold ordOk
 rw [Bool.and_eq_true, decide_eq_true_eq, List.all_eq_true]
 constructor
 ·rintro ⟨h1, h2⟩
  refine ⟨?_, (setE_zero h1).2.2⟩
  unfold inL at h2
  exact List.length_filter_eq_length_iff.1 h2
 ·rintro ⟨h1, h2⟩
  exact ⟨setE_ok hl ⟨h, h2⟩, List.length_filter_eq_length_iff.2 h1⟩
theorem itR_sound {l : Bs} {bad : Bool} {most : Nat} {lo hi : Bs} (hm : most ≤ 16384) (h : (itR l bad most lo hi).2.2 = false) :
  bad = false ∧ (itR l bad most lo hi).1.length ≤ most ∧ all32 (itR l bad most lo hi).1 ∧ ordOk (itR l bad most lo hi).1 lo hi = true ∧ l = (num (itR l bad most lo hi).1.length ++ (itR l bad most lo hi).1.flatten) ++ (itR l bad most lo hi).2.1 := by
 have h0 := h
 unfold itR at h0
 rw [Bool.or_eq_false_iff] at h0
 have hle := nmR_le l bad most
 obtain ⟨h1, h2, h3, h4⟩ := itS_sound _ _ _ h0.1
 obtain ⟨h5, h6⟩ := nmR_sound h1
 have hl : (itR l bad most lo hi).1.length = (nmR l bad most).1 := h2
 refine ⟨h5, by omega, h3, (ordOk_iff h3 (by omega)).1 h0.2, ?_⟩
 rw [hl, List.append_assoc]
 exact h6.trans (congrArg _ h4)
theorem itR_go {xs : List Bs} {r : Bs} {most : Nat} {lo hi : Bs} (hm : most ≤ 16384) (hl : xs.length ≤ most) (h : all32 xs) (ho : ordOk xs lo hi = true) : itR ((num xs.length ++ xs.flatten) ++ r) false most lo hi = (xs, r, false) := by
 have e : nmR ((num xs.length ++ xs.flatten) ++ r) false most = (xs.length, xs.flatten ++ r, false) := by rw [List.append_assoc]; exact nmR_num hl (by omega)
 have e2 : itN ((num xs.length ++ xs.flatten) ++ r) false most = (xs, r, false) := by
  unfold itN
  rw [e]
  dsimp only
  rw [itS_num h _ (Nat.le_refl _)]
  simp
 unfold itR
 rw [e2]
 dsimp only
 rw [(ordOk_iff h (by omega)).2 ho]
 rfl
end Go.Proofs.YtlepfnihpdhcaaaGreatDoor
