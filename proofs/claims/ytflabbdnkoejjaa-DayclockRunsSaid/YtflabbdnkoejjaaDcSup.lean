/- Plain laws of the supported day: it is at most B just if the first day is, and fewer than quorum told days are greater than B. -/
import Derived.Test.YtflabbdnkoejjaaDcWalk4
namespace Go.Proofs.Ytflabbdnkoejjaa

theorem sorted_count (s : List Int) (hs : s.Pairwise (· ≤ ·)) (q : Nat) (h1 : 1 ≤ q) (h2 : q ≤ s.length) (B : Int) :
    s.getD (s.length - q) 0 ≤ B ↔ s.countP (fun x => decide (B < x)) < q := by
  have hi : s.length - q < s.length := by omega
  rw [List.getD_eq_getElem?_getD, List.getElem?_eq_getElem hi, Option.getD_some]
  generalize hx : s[s.length - q] = x
  have hsplit := List.take_append_drop (s.length - q) s
  have hdrop : s.drop (s.length - q) = x :: s.drop (s.length - q + 1) := by rw [List.drop_eq_getElem_cons hi, hx]
  have hp : (s.take (s.length - q) ++ x :: s.drop (s.length - q + 1)).Pairwise (· ≤ ·) := by rw [← hdrop, hsplit]; exact hs
  have hle : ∀ y ∈ s.take (s.length - q), y ≤ x := fun y hy => (List.pairwise_append.1 hp).2.2 y hy x (by simp)
  have hge : ∀ y ∈ s.drop (s.length - q + 1), x ≤ y := by
    have := (List.pairwise_append.1 hp).2.1
    exact (List.pairwise_cons.1 this).1
  have hc : s.countP (fun x => decide (B < x)) = (s.take (s.length - q)).countP (fun x => decide (B < x)) + ((x :: s.drop (s.length - q + 1)).countP (fun x => decide (B < x))) := by
    rw [← List.countP_append, ← hdrop, hsplit]
  have hlen : (s.drop (s.length - q + 1)).length = q - 1 := by simp; omega
  constructor
  · intro h
    have h0 : (s.take (s.length - q)).countP (fun x => decide (B < x)) = 0 := by
      rw [List.countP_eq_zero]
      intro y hy
      have := hle y hy
      simp; omega
    have h3 := List.countP_le_length (p := fun x => decide (B < x)) (l := s.drop (s.length - q + 1))
    rw [hc, h0, List.countP_cons_of_neg (by simp; omega)]
    omega
  · intro h
    rcases (by omega : B < x ∨ x ≤ B) with hlt | hge'
    · exfalso
      have : (x :: s.drop (s.length - q + 1)).countP (fun x => decide (B < x)) = q := by
        rw [List.countP_eq_length.2, List.length_cons, hlen]
        · omega
        · intro y hy
          rcases List.mem_cons.1 hy with rfl | hy
          · simpa using hlt
          · have := hge y hy
            simp; omega
      omega
    · exact hge'

theorem sortI_count (zs : List Int) (p : Int → Bool) : (sortI zs).countP p = zs.countP p := List.Perm.countP_eq p (List.mergeSort_perm zs _)
theorem sortI_sorted (zs : List Int) : (sortI zs).Pairwise (· ≤ ·) := by
  have := List.pairwise_mergeSort (le := fun x y : Int => decide (x ≤ y)) (by intro a b c; simp; omega) (by intro a b; simp; omega) zs
  unfold sortI
  simpa using this

/-- How many told days are greater than B. -/
def Clk.above (c : Clk) (B : Int) : Nat := (c.days 12).countP fun x => decide (B < x)

theorem Clk.sup_le (c : Clk) (h1 : 1 ≤ c.quorum) (B : Int) : c.sup ≤ B ↔ c.first ≤ B ∧ c.above B < c.quorum.toNat := by
  unfold Clk.sup Clk.above
  split
  · rename_i h
    have := List.countP_le_length (p := fun x => decide (B < x)) (l := c.days 12)
    constructor
    · intro h'; exact ⟨h', by omega⟩
    · exact fun h' => h'.1
  · rename_i h
    have hs := sorted_count (sortI (c.days 12)) (sortI_sorted _) c.quorum.toNat (by omega) (by rw [sortI_length]; omega) B
    rw [sortI_length, sortI_count] at hs
    rw [Int.max_le, hs]

theorem Clk.sup_eq (c : Clk) (h1 : 1 ≤ c.quorum) (B : Int) (h : c.first ≤ B ∧ c.above B < c.quorum.toNat) (h' : ¬ (c.first ≤ B - 1 ∧ c.above (B - 1) < c.quorum.toNat)) : c.sup = B := by
  rw [← c.sup_le h1] at h h'
  omega

theorem Clk.first_le_sup (c : Clk) (h1 : 1 ≤ c.quorum) : c.first ≤ c.sup := ((c.sup_le h1 c.sup).1 (Int.le_refl _)).1

/-- What has told no less supports no less. -/
theorem Clk.sup_mono (c d : Clk) (h1 : 1 ≤ c.quorum) (hf : c.first ≤ d.first) (hq : c.quorum = d.quorum) (h : ∀ B, c.above B ≤ d.above B) : c.sup ≤ d.sup := by
  have hd := (d.sup_le (by omega) d.sup).1 (Int.le_refl _)
  refine (c.sup_le h1 d.sup).2 ⟨by omega, ?_⟩
  have := h d.sup
  rw [hq]
  omega

end Go.Proofs.Ytflabbdnkoejjaa
