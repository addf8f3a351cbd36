/- Plain: what Decode computes, and that it undoes Encode. -/
import Derived.Test.YtnhagokkamobaaaDoorRdTook
import Derived.Test.YtnhagokkamobaaaDoorBl8
namespace Go.Proofs.YtnhagokkamobaaaDoor

def padK (x : List UInt8) : List UInt8 := x ++ List.replicate (32 - x.length) 0
def Rd.cell (r : Rd) : BC × Rd := (⟨r.int.1, padK r.int.2.sum.1, r.int.2.sum.2.uint.1⟩, r.int.2.sum.2.uint.2)
def rdTo (r : Rd) : Nat → Rd
  | 0 => r
  | i + 1 => (rdTo r i).cell.2
def cellsTo (r : Rd) (i : Nat) : List BC := (List.range i).map fun j => (rdTo r j).cell.1
def fillTo (r : Rd) (n i : Nat) : List BC := cellsTo r i ++ List.replicate (n - i) BC.zero
def rd0 (D : List UInt8) : Rd := ⟨D, 0, 0, 0⟩
def decN (D : List UInt8) : Nat := (rd0 D).uint.1
def decR (D : List UInt8) : Rd := (rd0 D).uint.2.uint.2
def decT (D : List UInt8) : BT := ⟨cellsTo (decR D) (decN D), (rd0 D).uint.2.uint.1⟩
def decEnd (D : List UInt8) : Rd := rdTo (decR D) (decN D)

theorem padK_len {x : List UInt8} (h : x.length ≤ 32) : (padK x).length = 32 := by simp [padK]; omega
theorem Rd.Ok.cell {r : Rd} (h : r.Ok) : r.cell.2.Ok := h.int.sum.uint'
theorem Rd.cell_ok (r : Rd) : r.cell.1.Ok := ⟨r.int_fit, padK_len (Rd.sum_len _), Rd.uint_u64 _⟩
theorem rdTo_ok {r : Rd} (h : r.Ok) : ∀ i, (rdTo r i).Ok
  | 0 => h
  | i + 1 => (rdTo_ok h i).cell
theorem rdTo_D (r : Rd) : ∀ i, (rdTo r i).D = r.D
  | 0 => rfl
  | i + 1 => by
    show (rdTo r i).int.2.sum.2.uint.2.D = r.D
    rw [Rd.uint_D, Rd.sum_D]
    show (rdTo r i).uint.2.D = r.D
    rw [Rd.uint_D, rdTo_D r i]
theorem rd0_ok {D : List UInt8} (h : D.length ≤ 4294967296) : (rd0 D).Ok := ⟨Nat.zero_le _, h⟩
theorem decR_ok {D : List UInt8} (h : D.length ≤ 4294967296) : (decR D).Ok := (rd0_ok h).uint'.uint'
theorem cellsTo_len (r : Rd) (i : Nat) : (cellsTo r i).length = i := by simp [cellsTo]
theorem cellsTo_succ (r : Rd) (i : Nat) : cellsTo r (i + 1) = cellsTo r i ++ [(rdTo r i).cell.1] := by simp [cellsTo, List.range_succ]
theorem cellsTo_ok (r : Rd) (i : Nat) : ∀ c ∈ cellsTo r i, c.Ok := by
  intro c hc
  unfold cellsTo at hc
  obtain ⟨j, _, rfl⟩ := List.mem_map.1 hc
  exact Rd.cell_ok _
theorem fillTo_len {r : Rd} {n i : Nat} (h : i ≤ n) : (fillTo r n i).length = n := by simp [fillTo, cellsTo_len]; omega
theorem fillTo_ok (r : Rd) (n i : Nat) : Ok34 (fillTo r n i) := by
  intro c hc
  rcases List.mem_append.1 hc with hc | hc
  · exact cellsTo_ok r i c hc
  · rw [List.eq_of_mem_replicate hc]; exact BC.Ok.zero
theorem fillTo_zero (r : Rd) (n : Nat) : fillTo r n 0 = List.replicate n BC.zero := by simp [fillTo, cellsTo]
theorem fillTo_all (r : Rd) (n : Nat) : fillTo r n n = cellsTo r n := by simp [fillTo]
theorem fillTo_at {r : Rd} {n i : Nat} (h : i < n) : (fillTo r n i)[i]? = some BC.zero := by
  unfold fillTo
  rw [List.getElem?_append_right (by rw [cellsTo_len]; exact Nat.le_refl _), cellsTo_len, Nat.sub_self, List.getElem?_replicate, if_pos (by omega)]
theorem fillTo_succ {r : Rd} {n i : Nat} (h : i < n) : (fillTo r n i).set i (rdTo r i).cell.1 = fillTo r n (i + 1) := by
  unfold fillTo
  rw [List.set_append_right _ _ (by rw [cellsTo_len]; exact Nat.le_refl _), cellsTo_len, Nat.sub_self, cellsTo_succ, List.append_assoc]
  congr 1
  rw [show n - i = (n - (i + 1)) + 1 by omega, List.replicate_succ]
  rfl
theorem decT_ok (D : List UInt8) : (decT D).Ok := ⟨cellsTo_ok _ _, Rd.uint_u64 _⟩
theorem decT_len (D : List UInt8) : (decT D).cells.length = decN D := cellsTo_len _ _

/-! ### What is decoded has this encoding -/
theorem Rd.uint_err {r : Rd} (h : r.uint.2.err = 0) : r.err = 0 := (took_uint r h).err
theorem took_cell (r : Rd) (h : r.cell.2.err = 0) : Took r r.cell.2 r.cell.1.enc := by
  have h3 := took_uint _ h
  have h2 := took_sum r.int.2 h3.err
  have h1 := took_int r h2.1.err
  have e : padK r.int.2.sum.1 = r.int.2.sum.1 := by simp [padK, h2.2]
  have := (h1.trans h2.1).trans h3
  unfold BC.enc
  show Took r _ (num (zig r.int.1) ++ padK r.int.2.sum.1 ++ num r.int.2.sum.2.uint.1)
  rw [e]
  exact this
theorem rdTo_err (r : Rd) (i : Nat) (h : (rdTo r (i + 1)).err = 0) : (rdTo r i).err = 0 := (took_cell _ h).err
theorem took_to (r : Rd) : ∀ i, (rdTo r i).err = 0 → Took r (rdTo r i) ((cellsTo r i).flatMap BC.enc)
  | 0, h => ⟨h, rfl, rfl⟩
  | i + 1, h => by
    rw [cellsTo_succ, List.flatMap_append]
    have := (took_to r i (rdTo_err r i h)).trans (took_cell _ h)
    rw [List.flatMap_singleton]
    exact this
theorem dec_enc {D : List UInt8} (h : (decEnd D).end_ = 0) : (decT D).enc = D := by
  have h3 := took_to (decR D) (decN D) (Rd.end_err h)
  have h2 := took_uint (rd0 D).uint.2 h3.err
  have h1 := took_uint (rd0 D) h2.err
  have := ((h1.trans h2).trans h3).end_ h
  unfold BT.enc encTo
  rw [List.take_length, decT_len]
  exact this.symm

/-! ### An encoding is decoded -/
theorem Ahead.cell {r : Rd} {c : BC} {rest : List UInt8} (h : Ahead r (c.enc ++ rest)) (hc : c.Ok) : r.cell.1 = c ∧ Ahead r.cell.2 rest := by
  unfold BC.enc at h
  rw [List.append_assoc, List.append_assoc] at h
  obtain ⟨a1, a2⟩ := h.int hc.count
  obtain ⟨b1, b2⟩ := a2.sum hc.keys
  obtain ⟨c1, c2⟩ := b2.uint hc.checks
  refine ⟨?_, c2⟩
  unfold Rd.cell
  rw [a1, b1, c1]
  have e : padK c.keys = c.keys := by simp [padK, hc.keys]
  rw [e]
theorem ahead_to {r : Rd} (l : List BC) (hl : ∀ c ∈ l, c.Ok) (h : Ahead r (l.flatMap BC.enc)) : ∀ i, i ≤ l.length → cellsTo r i = l.take i ∧ Ahead (rdTo r i) ((l.drop i).flatMap BC.enc)
  | 0, _ => ⟨by simp [cellsTo], h⟩
  | i + 1, hi => by
    obtain ⟨h1, h2⟩ := ahead_to l hl h i (by omega)
    have hlt : i < l.length := by omega
    rw [List.drop_eq_getElem_cons hlt, List.flatMap_cons] at h2
    obtain ⟨h3, h4⟩ := h2.cell (hl _ (List.getElem_mem _))
    refine ⟨?_, h4⟩
    rw [cellsTo_succ, h1, h3, List.take_succ_eq_append_getElem hlt]
theorem enc_dec {t : BT} (h : t.Ok) (hn : t.cells.length ≤ 3072) : decN t.enc = t.cells.length ∧ decT t.enc = t ∧ (decEnd t.enc).end_ = 0 := by
  have h0 : Ahead (rd0 t.enc) (num t.cells.length ++ (num t.seed ++ t.cells.flatMap BC.enc)) := ⟨rfl, by show t.enc = _; unfold BT.enc encTo; rw [List.take_length, List.append_assoc]⟩
  obtain ⟨a1, a2⟩ := h0.uint (by unfold U64; omega)
  obtain ⟨b1, b2⟩ := a2.uint h.seed
  obtain ⟨c1, c2⟩ := ahead_to t.cells h.cells b2 t.cells.length (Nat.le_refl _)
  have e : decN t.enc = t.cells.length := a1
  refine ⟨e, ?_, ?_⟩
  · unfold decT
    rw [e]
    unfold decR
    rw [c1, b1, List.take_length]
  · unfold decEnd
    rw [e]
    rw [List.drop_length] at c2
    exact c2.end_
end Go.Proofs.YtnhagokkamobaaaDoor
