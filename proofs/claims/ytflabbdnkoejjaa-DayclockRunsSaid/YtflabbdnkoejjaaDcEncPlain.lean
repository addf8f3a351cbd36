/- The encoding of a clock as plain bytes. -/
import Derived.Test.YtflabbdnkoejjaaDcSup
import Derived.Test.YtflabbdnkoejjaaWirePlain
import Derived.Test.YtflabbdnkoejjaaWire2
namespace Go.Proofs.Ytflabbdnkoejjaa

def ints8 (l : List Int) : List UInt8 := l.flatMap fun n => num (zig n)

theorem ints8_snoc (l : List Int) (k : Nat) (x : Int) (h : l[k]? = some x) : ints8 (l.take (k + 1)) = ints8 (l.take k) ++ num (zig x) := by
  unfold ints8
  rw [List.take_add_one, h]
  simp

theorem num_pos (n : Nat) : 0 < (num n).length := by
  by_cases h : n < 128
  · rw [num_small n h]; simp
  · rw [num_big n h]; simp

def Clk.five (c : Clk) : List Int := [c.first, c.day, c.leap, c.quorum, c.own]

/-- The devices below k that have told a day, with it. -/
def Clk.pairs (c : Clk) (k : Nat) : List (Nat × Int) := (List.range k).filterMap fun i => if c.heard.getD i false then some (i, c.told.getD i 0) else none

theorem Clk.pairs_succ (c : Clk) (k : Nat) (x : Int) (y : Bool) (hx : c.told[k]? = some x) (hy : c.heard[k]? = some y) : c.pairs (k + 1) = c.pairs k ++ if y then [(k, x)] else [] := by
  unfold Clk.pairs
  rw [List.range_succ, List.filterMap_append]
  cases y <;> simp [hx, hy]

theorem Clk.pairs_le (c : Clk) (k : Nat) : (c.pairs k).length ≤ k := by
  unfold Clk.pairs
  have := List.length_filterMap_le (fun i => if c.heard.getD i false then some (i, c.told.getD i 0) else none) (List.range k)
  simpa using this

def pairs8 (l : List (Nat × Int)) : List UInt8 := l.flatMap fun p => num (zig (p.1 : Int)) ++ num (zig p.2)

theorem pairs8_append (a b : List (Nat × Int)) : pairs8 (a ++ b) = pairs8 a ++ pairs8 b := by simp [pairs8]

def Clk.enc (c : Clk) : List UInt8 :=
  ints8 c.five ++ num (b01 c.read) ++ (if c.read then num (zig c.ref) else []) ++ num (c.pairs 12).length ++ pairs8 (c.pairs 12)

structure Clk.Fits (c : Clk) : Prop where
  ok : c.Ok
  first : Fit64 c.first
  day : Fit64 c.day
  leap : Fit64 c.leap
  quorum : Fit64 c.quorum
  own : Fit64 c.own
  ref : Fit64 c.ref
  told : ∀ x ∈ c.told, Fit64 x

theorem ints8_len (l : List Int) (h : ∀ x ∈ l, Fit64 x) : (ints8 l).length ≤ 10 * l.length := by
  induction l with
  | nil => simp [ints8]
  | cons x l ih =>
    have h1 := zig_len x (h x (by simp))
    have h2 := ih (fun y hy => h y (by simp [hy]))
    have e : ints8 (x :: l) = num (zig x) ++ ints8 l := by simp [ints8]
    rw [e, List.length_append, List.length_cons]
    omega

theorem Clk.Fits.five {c : Clk} (h : c.Fits) : ∀ x ∈ c.five, Fit64 x := by
  intro x hx
  simp only [Clk.five, List.mem_cons, List.not_mem_nil, or_false] at hx
  rcases hx with rfl | rfl | rfl | rfl | rfl
  · exact h.first
  · exact h.day
  · exact h.leap
  · exact h.quorum
  · exact h.own

theorem Clk.Fits.pair {c : Clk} (h : c.Fits) (k : Nat) : ∀ p ∈ c.pairs k, p.1 < k ∧ Fit64 p.2 := by
  intro p hp
  obtain ⟨i, hi, e⟩ := List.mem_filterMap.1 hp
  split at e
  · injection e with e
    subst e
    refine ⟨List.mem_range.1 hi, ?_⟩
    rw [List.getD_eq_getElem?_getD]
    cases hg : c.told[i]? with
    | none => exact ⟨by show (-9223372036854775808 : Int) ≤ 0; decide, by show (0 : Int) ≤ 9223372036854775807; decide⟩
    | some x => exact h.told x (List.mem_of_getElem? hg)
  · cases e

theorem pairs8_len (l : List (Nat × Int)) (h : ∀ p ∈ l, p.1 < 1000 ∧ Fit64 p.2) : (pairs8 l).length ≤ 20 * l.length := by
  induction l with
  | nil => simp [pairs8]
  | cons x l ih =>
    have h1 := zig_len (x.1 : Int) (by have := (h x (by simp)).1; unfold Fit64; omega)
    have h1' := zig_len x.2 (h x (by simp)).2
    have h2 := ih (fun y hy => h y (by simp [hy]))
    have e : pairs8 (x :: l) = (num (zig (x.1 : Int)) ++ num (zig x.2)) ++ pairs8 l := by simp [pairs8]
    rw [e, List.length_append, List.length_append, List.length_cons]
    omega

end Go.Proofs.Ytflabbdnkoejjaa
