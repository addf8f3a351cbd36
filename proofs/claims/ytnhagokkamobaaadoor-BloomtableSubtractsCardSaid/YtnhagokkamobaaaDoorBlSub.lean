/- The difference of two tables, in plain Lean. -/
import Derived.Test.YtnhagokkamobaaaDoorBlGive
namespace Go.Proofs.YtnhagokkamobaaaDoor
open Go.RowKit

def BC.sub (c d : BC) : BC := c.add d.keys (-d.count) d.checks
def BT.sub (t u : BT) : BT := ⟨List.zipWith BC.sub t.cells u.cells, t.seed⟩
/-- The first i cells are subtracted; the others are l's. -/
def subTo (t u : BT) (l : List BC) (i : Nat) : List BC := (t.sub u).cells.take i ++ l.drop i

theorem BC.Ok.sub {c d : BC} (h1 : c.Ok) (h2 : d.Ok) : (c.sub d).Ok := by
  have := part_ok h1 h2.keys (-d.count) h2.checks 32
  rwa [part_all c d.keys (-d.count) d.checks h1.keys h2.keys] at this
theorem sub_len {t u : BT} (h : u.cells.length = t.cells.length) : (t.sub u).cells.length = t.cells.length := by simp [BT.sub, h]
theorem sub_ok {t u : BT} (h1 : t.Ok) (h2 : u.Ok) : (t.sub u).Ok := by
  refine ⟨fun c hc => ?_, h1.seed⟩
  obtain ⟨i, hi, rfl⟩ := List.mem_iff_getElem.1 hc
  simp only [BT.sub, List.length_zipWith] at hi
  simp only [BT.sub, List.getElem_zipWith]
  exact BC.Ok.sub (h1.cells _ (List.getElem_mem _)) (h2.cells _ (List.getElem_mem _))
theorem sub_get {t u : BT} {i : Nat} {c d : BC} (hc : t.cells[i]? = some c) (hd : u.cells[i]? = some d) : (t.sub u).cells[i]? = some (c.sub d) := by
  simp [BT.sub, List.getElem?_zipWith, hc, hd]
theorem subTo_zero (t u : BT) (l : List BC) : subTo t u l 0 = l := by simp [subTo]
theorem subTo_all {t u : BT} {l : List BC} (h : u.cells.length = t.cells.length) (hl : l.length = t.cells.length) : subTo t u l t.cells.length = (t.sub u).cells := by
  unfold subTo
  rw [List.take_of_length_le (by rw [sub_len h]; exact Nat.le_refl _), List.drop_of_length_le (by omega), List.append_nil]
theorem subTo_len {t u : BT} {l : List BC} (h : u.cells.length = t.cells.length) (hl : l.length = t.cells.length) (i : Nat) (hi : i ≤ t.cells.length) : (subTo t u l i).length = t.cells.length := by
  unfold subTo
  rw [List.length_append, List.length_take, List.length_drop, sub_len h, hl]
  omega
theorem subTo_at {t u : BT} {l : List BC} (h : u.cells.length = t.cells.length) (i : Nat) (hi : i < t.cells.length) : (subTo t u l i)[i]? = l[i]? := by
  unfold subTo
  have h1 : ((t.sub u).cells.take i).length = i := by rw [List.length_take, sub_len h]; omega
  rw [List.getElem?_append_right (by omega), h1, List.getElem?_drop]
  simp
theorem subTo_succ {t u : BT} {l : List BC} (h : u.cells.length = t.cells.length) (hl : l.length = t.cells.length) {i : Nat} {x : BC} (hi : i < t.cells.length) (hx : (t.sub u).cells[i]? = some x) : (subTo t u l i).set i x = subTo t u l (i + 1) := by
  unfold subTo
  have h1 : ((t.sub u).cells.take i).length = i := by rw [List.length_take, sub_len h]; omega
  obtain ⟨h2, h3⟩ := List.getElem?_eq_some_iff.1 hx
  rw [List.set_append_right _ _ (by omega), h1, Nat.sub_self, List.take_succ_eq_append_getElem h2, h3, List.drop_eq_getElem_cons (by omega), List.set_cons_zero]
  simp
theorem subTo_ok {t u : BT} {l : List BC} (h1 : t.Ok) (h2 : u.Ok) (hl : Ok34 l) (i : Nat) : Ok34 (subTo t u l i) := by
  intro c hc
  rcases List.mem_append.1 hc with hc | hc
  · exact (sub_ok h1 h2).cells c (List.mem_of_mem_take hc)
  · exact hl c (List.mem_of_mem_drop hc)
theorem Ok34.set {l : List BC} (h : Ok34 l) (i : Nat) {c : BC} (hc : c.Ok) : Ok34 (l.set i c) := by
  intro x hx
  rcases List.mem_or_eq_of_mem_set hx with hx | rfl
  · exact h x hx
  · exact hc
def keysTo (a b : List UInt8) (j : Nat) : List UInt8 := a.take j ++ b.drop j
theorem keysTo_len {a b : List UInt8} (h : a.length = b.length) (j : Nat) : (keysTo a b j).length = b.length := by
  unfold keysTo
  rw [List.length_append, List.length_take, List.length_drop]
  omega
theorem keysTo_set {a b : List UInt8} (h : a.length = b.length) {j : Nat} {v : UInt8} (hv : a[j]? = some v) : (keysTo a b j).set j v = keysTo a b (j + 1) := by
  obtain ⟨h1, h2⟩ := List.getElem?_eq_some_iff.1 hv
  unfold keysTo
  have h3 : (a.take j).length = j := by rw [List.length_take]; omega
  rw [List.set_append_right _ _ (by omega), h3, Nat.sub_self, List.take_succ_eq_append_getElem h1, h2, List.drop_eq_getElem_cons (by omega), List.set_cons_zero]
  simp
theorem cells_setK {n : Int} {ks : List UInt8} {x j : Nat} {v : UInt8} (h : j < ks.length) : (⟨n, ks, x⟩ : BC).cells.set (1 + j) (.int .u8 ((v.toNat : Nat) : Int)) = (⟨n, ks.set j v, x⟩ : BC).cells := by
  simp only [BC.cells]
  rw [Nat.add_comm, List.set_cons_succ, List.set_append_left _ _ (by rw [B8_length]; exact h)]
  simp [B8, List.map_set]
end Go.Proofs.YtnhagokkamobaaaDoor
