/- The reference's clock as plain Lean data. No program in sight. -/
import Derived.Test.YtflabbdnkoejjaaDcSup
namespace Go.Proofs.Ytflabbdnkoejjaa

structure RClk where
  first : Int
  day : Int
  leap : Int
  quorum : Int
  own : Int
  has : Bool
  ref : Int
  told : List (Int × Int)

/-- The cells of told days. -/
def tcells (l : List (Int × Int)) : List Value := l.flatMap fun p => [Value.int .i64 p.1, Value.int .i64 p.2]

theorem tcells_append (a b : List (Int × Int)) : tcells (a ++ b) = tcells a ++ tcells b := by simp [tcells]
theorem tcells_length (l : List (Int × Int)) : (tcells l).length = l.length * 2 := by
  induction l with
  | nil => rfl
  | cons x l ih =>
    have e : tcells (x :: l) = [Value.int .i64 x.1, Value.int .i64 x.2] ++ tcells l := rfl
    rw [e, List.length_append, ih, List.length_cons]
    simp
    omega
theorem tcells_get : ∀ (l : List (Int × Int)) (k : Nat) (p : Int × Int), l[k]? = some p → (tcells l)[k * 2]? = some (Value.int .i64 p.1) ∧ (tcells l)[k * 2 + 1]? = some (Value.int .i64 p.2)
  | [], k, p, h => by simp at h
  | x :: l, 0, p, h => by
    simp at h
    subst h
    exact ⟨rfl, rfl⟩
  | x :: l, k + 1, p, h => by
    have ih := tcells_get l k p (by simpa using h)
    have e : tcells (x :: l) = Value.int .i64 x.1 :: Value.int .i64 x.2 :: tcells l := rfl
    rw [e, show (k + 1) * 2 = k * 2 + 1 + 1 by omega]
    simp only [List.getElem?_cons_succ]
    exact ih
theorem tcells_one (l : List (Int × Int)) : ∀ u ∈ tcells l, u.oneCell' = true := by
  intro u hu
  unfold tcells at hu
  obtain ⟨p, _, h⟩ := List.mem_flatMap.1 hu
  simp at h
  rcases h with rfl | rfl <;> rfl

/-- How many have told no less than d. -/
def cntGe (l : List (Int × Int)) (d : Int) : Nat := l.countP fun y => decide (d ≤ y.2)

def rsupStep (q : Int) (told : List (Int × Int)) (best : Int) (x : Int × Int) : Int := if q ≤ (cntGe told x.2 : Int) ∧ best < x.2 then x.2 else best
def rsup (first q : Int) (told : List (Int × Int)) : Int := told.foldl (rsupStep q told) first

theorem rsup_snoc (first q : Int) (told l : List (Int × Int)) (k : Nat) (x : Int × Int) (h : l[k]? = some x) :
    (l.take (k + 1)).foldl (rsupStep q told) first = rsupStep q told ((l.take k).foldl (rsupStep q told) first) x := by
  rw [List.take_add_one, h]
  simp

theorem cntGe_snoc (l : List (Int × Int)) (k : Nat) (x : Int × Int) (d : Int) (h : l[k]? = some x) : cntGe (l.take (k + 1)) d = cntGe (l.take k) d + if d ≤ x.2 then 1 else 0 := by
  unfold cntGe
  rw [List.take_add_one, h, List.countP_append]
  by_cases hd : d ≤ x.2 <;> simp [hd]

theorem cntGe_le (l : List (Int × Int)) (d : Int) : cntGe l d ≤ l.length := List.countP_le_length

end Go.Proofs.Ytflabbdnkoejjaa
