/- A sum in progress, in plain Lean: what appending bytes does to the words and to the rest. -/
import Derived.Test.YtnhagokkamobaaaDoorShaPlain2
namespace Go.Proofs.YtnhagokkamobaaaDoor

def shaWords (xs : List UInt8) : List Nat := hashN (xs.length / 64) shaI xs
def shaRem (xs : List UInt8) : List UInt8 := xs.drop (64 * (xs.length / 64))

theorem shaRem_len (xs : List UInt8) : (shaRem xs).length = xs.length % 64 := by
  unfold shaRem
  rw [List.length_drop]
  omega

theorem shaWords_ok (xs : List UInt8) : (shaWords xs).length = 8 ∧ ∀ x ∈ shaWords xs, W32 x := hashN_ok _ _ _ rfl shaI_w32

theorem hashN_pre (n : Nat) (H : List Nat) (a b : List UInt8) (h : 64 * n ≤ a.length) : hashN n H (a ++ b) = hashN n H a := by
  have e : a = a.take (64 * n) ++ a.drop (64 * n) := (List.take_append_drop _ _).symm
  have hl : (a.take (64 * n)).length = 64 * n := by rw [List.length_take]; omega
  rw [e, List.append_assoc, hashN_take n H _ _ hl, hashN_take n H _ _ hl]

theorem shaWords_small (xs ys : List UInt8) (h : xs.length % 64 + ys.length < 64) : shaWords (xs ++ ys) = shaWords xs ∧ shaRem (xs ++ ys) = shaRem xs ++ ys := by
  have e : (xs ++ ys).length / 64 = xs.length / 64 := by rw [List.length_append]; omega
  unfold shaWords shaRem
  rw [e]
  exact ⟨hashN_pre _ _ _ _ (by omega), by rw [List.drop_append_of_le_length (by omega)]⟩

theorem shaWords_fill (xs ys : List UInt8) (h : xs.length % 64 + ys.length = 64) : shaWords (xs ++ ys) = compress (shaWords xs) (shaRem xs ++ ys) ∧ shaRem (xs ++ ys) = [] := by
  have e : (xs ++ ys).length / 64 = xs.length / 64 + 1 := by rw [List.length_append]; omega
  have el : (xs ++ ys).length = 64 * (xs.length / 64 + 1) := by rw [List.length_append]; omega
  have ed : (xs ++ ys).drop (64 * (xs.length / 64)) = shaRem xs ++ ys := by rw [List.drop_append_of_le_length (by omega)]; rfl
  constructor
  · unfold shaWords
    rw [e, hashN_succ, ed, hashN_pre _ _ _ _ (by omega), List.take_of_length_le]
    rw [List.length_append, shaRem_len]
    omega
  · unfold shaRem
    rw [e, List.drop_of_length_le (by omega)]

theorem sha_eq (x : List UInt8) : sha x = digest (shaWords (x ++ shaPad x.length)) := rfl

theorem shaPad_len (n : Nat) : (n + (shaPad n).length) % 64 = 0 := by
  simp only [shaPad, List.length_append, List.length_cons, List.length_replicate, List.length_nil]
  omega

theorem digest_len (H : List Nat) : (digest H).length = 4 * H.length := by
  induction H with
  | nil => rfl
  | cons x H ih =>
    have e : digest (x :: H) = [byteAt x 3, byteAt x 2, byteAt x 1, byteAt x 0] ++ digest H := rfl
    rw [e, List.length_append, ih, List.length_cons]
    simp
    omega

theorem sha_len (x : List UInt8) : (sha x).length = 32 := by
  rw [sha_eq, digest_len, (shaWords_ok _).1]

end Go.Proofs.YtnhagokkamobaaaDoor
