/- The library's sort of ints, as a contract over a block that is known whole: the row is sorted in place, nothing else changes. -/
import Derived.Test.YtflabbdnkoejjaaShelf
import Derived.Test.YtflabbdnkoejjaaBase
namespace Go.Proofs.Ytflabbdnkoejjaa
open Go.RowKit Go.Sort

def sortI (zs : List Int) : List Int := zs.mergeSort fun x y => decide (x ≤ y)

theorem sortI_length (zs : List Int) : (sortI zs).length = zs.length := by unfold sortI; simp

theorem putCells_row (zs ys : List Int) (rest : List Value) (h : ys.length = zs.length) :
    putCells (Value.int .i64) 0 ys.toArray (zs.map (Value.int .i64) ++ rest).toArray = (ys.map (Value.int .i64) ++ rest).toArray := by
  apply Array.ext_getElem?
  intro k
  simp only [putCells, Array.getElem?_mapIdx, List.getElem?_toArray, Nat.zero_le, true_and, Nat.zero_add, List.size_toArray, Nat.sub_zero]
  by_cases hk : k < ys.length
  · rw [List.getElem?_append_left (by simpa using h ▸ hk), List.getElem?_append_left (by simpa using hk)]
    have hk' : k < zs.length := h ▸ hk
    simp [hk, List.getElem?_eq_getElem hk']
  · rw [List.getElem?_append_right (by simp; omega), List.getElem?_append_right (by simp; omega)]
    have hk' : ¬ k < zs.length := by omega
    simp [hk', h]

theorem sortInts (b cap : Nat) (zs : List Int) (rest : List Value) (t : TypeId) (w : World) (h : At w b t (zs.map (Value.int .i64) ++ rest)) (hlen : zs.length < 4611686018427387904) :
    Calls Try.prog 27 #[.slice (some ⟨b, 0, none⟩) zs.length cap] w fun e w' => e = .returned (.tuple #[]) ∧ Fr [b] w w' ∧ At w' b t ((sortI zs).map (Value.int .i64) ++ rest) := by
  have hH : Holds (Value.int .i64) w b 0 zs.toArray := by
    intro j hj
    have hj' : j < zs.length := by simpa using hj
    rw [Nat.zero_add, h.cell, h.frozen]
    refine ⟨?_, rfl⟩
    rw [List.getElem?_append_left (by simpa using hj')]
    simp [getElem!_pos, hj']
  refine (Try.slices_Sort_int b 0 cap zs w hH h.lt hlen).mono ?_
  rintro e w' ⟨rfl, n, os, rfl⟩
  have hb := h.lt
  refine ⟨rfl, ⟨rfl, rfl, rfl, ?_, ?_⟩, ?_⟩
  · simp
  · intro k hk hn
    simp only [grow, putRow, mapBlock, heap_ahead]
    rw [Array.getElem?_append_left (by simpa using hk), Array.getElem?_modify, if_neg (by simpa using Ne.symm (by simpa using hn))]
  · unfold At at h ⊢
    simp only [grow, putRow, mapBlock, heap_ahead]
    rw [Array.getElem?_append_left (by simpa using hb), Array.getElem?_modify, if_pos rfl, h]
    simp only [Option.map_some, onCells]
    rw [show (zs.mergeSort fun x y => decide (x ≤ y)) = sortI zs from rfl, putCells_row zs (sortI zs) rest (sortI_length zs)]

end Go.Proofs.Ytflabbdnkoejjaa
