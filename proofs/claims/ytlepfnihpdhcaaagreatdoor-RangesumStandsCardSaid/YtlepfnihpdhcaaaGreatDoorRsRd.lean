/- rangesum: reading parts, plain; and make of an empty list. -/
import Derived.Test.YtlepfnihpdhcaaaGreatDoorRsMsg
import Derived.Test.YtlepfnihpdhcaaaGreatDoorRd8
namespace Go.Proofs.YtlepfnihpdhcaaaGreatDoor
open Go.RowKit

theorem opMk0 {P : Program} {Q : Exit → Act → World → Prop} {nt : Nat} {w0 : World} {F : List Nat} {E : Env} {cs : List Ch} {K : Act → World → Prop} {o : Oper} {d : Nat} {t e : TypeId} {z : Value} {sz bt : Nat} (El : Elem P t e z sz bt) {x y : Operand} (n : Nat) (hn : n ≤ 4294967296) (ho : o.op = .makeSlice t x y) (hd : o.dst = some d) (hk : opOk nt E o = true) (hx : evO E x = some (.int .i64 0)) (hy : evO E y = some (.int .i64 ((n : Nat) : Int)))
    (h : ∀ b, St nt w0 F ((d, .slice (some ⟨b, 0, none⟩) 0 n) :: E) (cs ++ [cOwn e sz (some ⟨b, 0, none⟩) 0 n []]) K) (hbt : bt ≤ 1024) : OpW P Q nt w0 F E cs o K :=
  opEff hd hk fun w hM => by
    obtain ⟨i, hi, hz, hsz, hby⟩ := info_parts El.hi
    have hm : bt * n ≤ 1024 * 4294967296 := Nat.mul_le_mul hbt hn
    have hr := run_make (P := P) w t e i z El.ht hi hz .i64 .i64 0 ((n : Nat) : Int) (by omega) (by omega) (by rw [hby, ← Int.natCast_mul]; omega) (by omega)
    have h1 := hM.push (c := cAt w.heap.size e (madeCells z.cells (n * sz)).toList) ((Fr.refl _ _).alloc _) (At.new w e _) (by simp [cAt]) (by simp [cAt])
    have h2 := h1.toOwn cs.length (by rw [List.getElem?_append_right (Nat.le_refl _), Nat.sub_self]; rfl) sz 0 n (by rw [Array.length_toList, size_madeCells]) (Nat.zero_le _) (by unfold maxLen; omega)
    rw [Nat.zero_mul, List.take_zero, List.set_append_right _ _ (Nat.le_refl _), Nat.sub_self, List.set_cons_zero] at h2
    refine ⟨_, _, _, ?_, h2, h w.heap.size⟩
    unfold execOp
    rw [hsz, Int.toNat_natCast] at hr
    simp only [ho, evE_of hx, evE_of hy, Sem.run_bind, hr]
    rfl
/-- n sums, one after the other. -/
def Rd.sums (r : Rd) : Nat → List Bs × Rd
  | 0 => ([], r)
  | n + 1 => ((r.sums n).1 ++ [(r.sums n).2.sum.1], (r.sums n).2.sum.2)
def Rd.most (r : Rd) (most : Nat) : Nat := min most ((r.D.length - r.off) / 32)
def Rd.items (r : Rd) (most : Nat) : List Bs × Rd := (r.cnt (r.most most)).2.sums (r.cnt (r.most most)).1
theorem Rd.cnt_le (r : Rd) (most : Nat) : (r.cnt most).1 ≤ most := by
  unfold Rd.cnt Rd.count
  split
  · cases hd : rdNum r.D r.off with
    | none => exact Nat.zero_le _
    | some p =>
      simp only
      split
      · exact Nat.zero_le _
      · show p.1 ≤ most; omega
  · exact Nat.zero_le _
theorem Rd.sums_len (r : Rd) : ∀ n, (r.sums n).1.length = n
  | 0 => rfl
  | n + 1 => by
    show ((r.sums n).1 ++ [_]).length = _
    rw [List.length_append, r.sums_len n]
    rfl
theorem Rd.items_len (r : Rd) (most : Nat) : (r.items most).1.length ≤ most := by
  unfold Rd.items
  rw [Rd.sums_len]
  exact Nat.le_trans (r.cnt_le _) (Nat.min_le_left _ _)
/-- A part, as readPart reads it. -/
def Rd.body (r : Rd) (lo hi : Bs) : Option AP × Rd :=
  if r.uint.1 = 1 then (some ⟨lo, hi, .sum (r.uint.2.cnt 16384).1 (r.uint.2.cnt 16384).2.sum.1⟩, (r.uint.2.cnt 16384).2.sum.2)
  else if r.uint.1 = 2 then (if ordOk (r.uint.2.items 64).1 lo hi then some ⟨lo, hi, .list (r.uint.2.items 64).1⟩ else none, (r.uint.2.items 64).2)
  else if r.uint.1 = 3 then (if ordOk (r.uint.2.items 16384).1 lo hi && ordOk ((r.uint.2.items 16384).2.items 16384).1 lo hi then some ⟨lo, hi, .ans (r.uint.2.items 16384).1 ((r.uint.2.items 16384).2.items 16384).1⟩ else none, ((r.uint.2.items 16384).2.items 16384).2)
  else (none, r.uint.2)
def Rd.part (r : Rd) : Option AP × Rd :=
  if boundOk (r.text 32).1 && boundOk ((r.text 32).2.text 32).1 && spanOk (r.text 32).1 ((r.text 32).2.text 32).1 then ((r.text 32).2.text 32).2.body (r.text 32).1 ((r.text 32).2.text 32).1
  else (none, ((r.text 32).2.text 32).2)
theorem Rd.part_bad {r r1 r2 : Rd} {a b : Bs} (h1 : r.text 32 = (a, r1)) (h2 : r1.text 32 = (b, r2)) (h : (boundOk a && boundOk b && spanOk a b) = false) : r.part = (none, r2) := by
  unfold Rd.part; rw [h1]; dsimp only; rw [h2]; dsimp only; rw [h]; rfl
theorem Rd.part_go {r r1 r2 : Rd} {a b : Bs} (h1 : r.text 32 = (a, r1)) (h2 : r1.text 32 = (b, r2)) (h : (boundOk a && boundOk b && spanOk a b) = true) : r.part = r2.body a b := by
  unfold Rd.part; rw [h1]; dsimp only; rw [h2]; dsimp only; rw [h]; rfl
theorem Rd.body_sum {r r1 r2 r3 : Rd} {k n : Nat} {f lo hi : Bs} (h1 : r.uint = (k, r1)) (hk : k = 1) (h2 : r1.cnt 16384 = (n, r2)) (h3 : r2.sum = (f, r3)) : r.body lo hi = (some ⟨lo, hi, .sum n f⟩, r3) := by
  unfold Rd.body; rw [h1]; dsimp only; rw [if_pos hk, h2]; dsimp only; rw [h3]
theorem Rd.body_list {r r1 r2 : Rd} {k : Nat} {l : List Bs} {lo hi : Bs} (h1 : r.uint = (k, r1)) (hk : k = 2) (h2 : r1.items 64 = (l, r2)) : r.body lo hi = (if ordOk l lo hi then some ⟨lo, hi, .list l⟩ else none, r2) := by
  unfold Rd.body; rw [h1]; dsimp only; rw [if_neg (by omega), if_pos hk, h2]
theorem Rd.body_ans {r r1 r2 r3 : Rd} {k : Nat} {l m : List Bs} {lo hi : Bs} (h1 : r.uint = (k, r1)) (hk : k = 3) (h2 : r1.items 16384 = (l, r2)) (h3 : r2.items 16384 = (m, r3)) : r.body lo hi = (if ordOk l lo hi && ordOk m lo hi then some ⟨lo, hi, .ans l m⟩ else none, r3) := by
  unfold Rd.body; rw [h1]; dsimp only; rw [if_neg (by omega), if_neg (by omega), if_pos hk, h2]; dsimp only; rw [h3]
theorem Rd.body_none {r r1 : Rd} {k : Nat} {lo hi : Bs} (h1 : r.uint = (k, r1)) (hk1 : ¬ k = 1) (hk2 : ¬ k = 2) (hk3 : ¬ k = 3) : r.body lo hi = (none, r1) := by
  unfold Rd.body; rw [h1]; dsimp only; rw [if_neg hk1, if_neg hk2, if_neg hk3]
theorem bad1 {a b c : Bool} (h : (!a) = true) : (a && b && c) = false := by revert h; revert a b c; decide
theorem bad2 {a b c : Bool} (h : (!b) = true) : (a && b && c) = false := by revert h; revert a b c; decide
theorem bad3 {a b c : Bool} (h : (!c) = true) : (a && b && c) = false := by revert h; revert a b c; decide
theorem good3 {a b c : Bool} (h : (!a) = false) (k : (!b) = false) (l : (!c) = false) : (a && b && c) = true := by revert h k l; revert a b c; decide
theorem eqb_yes {a n : Nat} (h : (((a : Nat) : Int) == ((n : Nat) : Int)) = true) : a = n := Int.ofNat.inj (by simpa using h)
theorem eqb_no {a n : Nat} (h : (((a : Nat) : Int) == ((n : Nat) : Int)) = false) : ¬ a = n := fun e => by rw [e] at h; simp at h
end Go.Proofs.YtlepfnihpdhcaaaGreatDoor
