/- The cells of a table in memory, in plain Lean. -/
import Derived.Test.YtnhagokkamobaaaDoorBlPlain2
namespace Go.Proofs.YtnhagokkamobaaaDoor

def tcells (l : List BC) : List Value := l.flatMap BC.cells
def Ok34 (l : List BC) : Prop := ∀ c ∈ l, c.Ok

theorem tcells_cons (c : BC) (l : List BC) : tcells (c :: l) = c.cells ++ tcells l := rfl
theorem tcells_append (a b : List BC) : tcells (a ++ b) = tcells a ++ tcells b := by simp [tcells]
theorem tcells_len : ∀ {l : List BC}, Ok34 l → (tcells l).length = l.length * 34
  | [], _ => rfl
  | c :: l, h => by
    rw [tcells_cons, List.length_append, BC.cells_len (h c (by simp)), tcells_len (fun x hx => h x (by simp [hx])), List.length_cons]
    omega

theorem tcells_get : ∀ {l : List BC} (_ : Ok34 l) (rest : List Value) (p : Nat) (c : BC) (_ : l[p]? = some c) (j : Nat) (_ : j < 34), (tcells l ++ rest)[p * 34 + j]? = c.cells[j]?
  | [], _, _, p, c, hp, _, _ => by simp at hp
  | d :: l, h, rest, 0, c, hp, j, hj => by
    simp at hp
    subst hp
    rw [tcells_cons, List.append_assoc, Nat.zero_mul, Nat.zero_add, List.getElem?_append_left (by rw [BC.cells_len (h d (by simp))]; exact hj)]
  | d :: l, h, rest, p + 1, c, hp, j, hj => by
    have hd := BC.cells_len (h d (by simp))
    rw [tcells_cons, List.append_assoc, List.getElem?_append_right (by rw [hd]; omega), hd, show (p + 1) * 34 + j - 34 = p * 34 + j by omega]
    exact tcells_get (fun x hx => h x (by simp [hx])) rest p c (by simpa using hp) j hj

theorem tcells_set : ∀ {l : List BC} (_ : Ok34 l) (rest : List Value) (p : Nat) (c : BC) (_ : l[p]? = some c) (j : Nat) (_ : j < 34) (v : Value) (c' : BC) (_ : c'.cells = c.cells.set j v),
    (tcells l ++ rest).set (p * 34 + j) v = tcells (l.set p c') ++ rest
  | [], _, _, p, c, hp, _, _, _, _, _ => by simp at hp
  | d :: l, h, rest, 0, c, hp, j, hj, v, c', hc => by
    simp at hp
    subst hp
    rw [tcells_cons, List.append_assoc, Nat.zero_mul, Nat.zero_add, List.set_append_left _ _ (by rw [BC.cells_len (h d (by simp))]; exact hj), List.set_cons_zero, tcells_cons, hc, List.append_assoc]
  | d :: l, h, rest, p + 1, c, hp, j, hj, v, c', hc => by
    have hd := BC.cells_len (h d (by simp))
    rw [tcells_cons, List.append_assoc, List.set_append_right _ _ (by rw [hd]; omega), hd, show (p + 1) * 34 + j - 34 = p * 34 + j by omega, List.set_cons_succ, tcells_cons, List.append_assoc]
    rw [tcells_set (fun x hx => h x (by simp [hx])) rest p c (by simpa using hp) j hj v c' hc]

theorem tcells_one {l : List BC} : ∀ v ∈ tcells l, v.oneCell' = true := by
  intro v hv
  obtain ⟨c, _, hc⟩ := List.mem_flatMap.1 hv
  simp only [BC.cells, List.mem_cons, List.mem_append, List.not_mem_nil, or_false] at hc
  rcases hc with rfl | hc | rfl
  · rfl
  · exact B8_one _ _ hc
  · rfl

/-- A cell whose first i bytes are combined already. -/
def BC.part (c : BC) (key : List UInt8) (num : Int) (chk i : Nat) : BC := ⟨IntKind.i64.wrap (c.count + num), (xorB c.keys key).take i ++ c.keys.drop i, c.checks ^^^ chk⟩

theorem xorB_get (a b : List UInt8) (i : Nat) (x y : UInt8) (ha : a[i]? = some x) (hb : b[i]? = some y) : (xorB a b)[i]? = some (x ^^^ y) := by
  unfold xorB
  rw [List.getElem?_zipWith, ha, hb]

theorem part_zero (c : BC) (key : List UInt8) (num : Int) (chk : Nat) : c.part key num chk 0 = ⟨IntKind.i64.wrap (c.count + num), c.keys, c.checks ^^^ chk⟩ := by simp [BC.part]
theorem part_all (c : BC) (key : List UInt8) (num : Int) (chk : Nat) (h1 : c.keys.length = 32) (h2 : key.length = 32) : c.part key num chk 32 = c.add key num chk := by
  have : (xorB c.keys key).length = 32 := by rw [xorB_len _ _ (by omega)]; exact h1
  simp only [BC.part, BC.add]
  rw [List.take_of_length_le (by omega), List.drop_of_length_le (by omega), List.append_nil]
theorem part_ok {c : BC} (h : c.Ok) {key : List UInt8} (hk : key.length = 32) (num : Int) {chk : Nat} (hc : U64 chk) (i : Nat) : (c.part key num chk i).Ok := by
  have h32 := h.keys
  have hx : (xorB c.keys key).length = 32 := by rw [xorB_len _ _ (by omega)]; exact h32
  refine ⟨wrap_fit _, ?_, Nat.xor_lt_two_pow (n := 64) h.checks hc⟩
  show ((xorB c.keys key).take i ++ c.keys.drop i).length = 32
  rw [List.length_append, List.length_take, List.length_drop]
  omega
theorem part_get {c : BC} (key : List UInt8) (num : Int) (chk i : Nat) (x : UInt8) (hx : c.keys[i]? = some x) (hk : key.length = 32) (h32 : c.keys.length = 32) : (c.part key num chk i).keys[i]? = some x := by
  have hi := (List.getElem?_eq_some_iff.1 hx).1
  have hl : ((xorB c.keys key).take i).length = i := by rw [List.length_take, xorB_len _ _ (by omega)]; omega
  show ((xorB c.keys key).take i ++ c.keys.drop i)[i]? = some x
  rw [List.getElem?_append_right (by omega), hl, Nat.sub_self, List.getElem?_drop]
  exact hx
theorem part_succ {c : BC} (key : List UInt8) (num : Int) (chk i : Nat) (x y : UInt8) (hx : c.keys[i]? = some x) (hy : key[i]? = some y) (h1 : c.keys.length = 32) (h2 : key.length = 32) :
    (c.part key num chk (i + 1)).cells = (c.part key num chk i).cells.set (1 + i) (.int .u8 ((x ^^^ y).toNat : Int)) := by
  have hi := (List.getElem?_eq_some_iff.1 hx).1
  have hxl : (xorB c.keys key).length = 32 := by rw [xorB_len _ _ (by omega)]; exact h1
  have hl : ((xorB c.keys key).take i).length = i := by rw [List.length_take]; omega
  have hg := xorB_get _ _ i x y hx hy
  obtain ⟨h3, e3⟩ := List.getElem?_eq_some_iff.1 hg
  obtain ⟨h4, e4⟩ := List.getElem?_eq_some_iff.1 hx
  have e : (xorB c.keys key).take (i + 1) ++ c.keys.drop (i + 1) = ((xorB c.keys key).take i ++ c.keys.drop i).set i (x ^^^ y) := by
    rw [List.set_append_right _ _ (by omega), hl, Nat.sub_self, List.drop_eq_getElem_cons h4, List.set_cons_zero, List.take_succ_eq_append_getElem h3, e3, List.append_assoc]
    rfl
  have hz : i < ((xorB c.keys key).take i ++ c.keys.drop i).length := by rw [List.length_append, hl, List.length_drop]; omega
  show Value.int .i64 _ :: (B8 ((xorB c.keys key).take (i + 1) ++ c.keys.drop (i + 1)) ++ [_]) = List.set (Value.int .i64 _ :: (B8 ((xorB c.keys key).take i ++ c.keys.drop i) ++ [_])) (1 + i) _
  rw [e]
  generalize (xorB c.keys key).take i ++ c.keys.drop i = Z at hz
  rw [Nat.add_comm 1 i, List.set_cons_succ, List.set_append_left _ _ (by rw [B8_length]; exact hz)]
  simp only [B8, List.map_set]
  rfl

theorem cells_get0 (c : BC) : c.cells[0]? = some (Value.int .i64 c.count) := rfl
theorem cells_getK {c : BC} (i : Nat) (x : UInt8) (hx : c.keys[i]? = some x) : c.cells[1 + i]? = some (.int .u8 (x.toNat : Int)) := by
  have hi := (List.getElem?_eq_some_iff.1 hx).1
  rw [BC.cells, Nat.add_comm, List.getElem?_cons_succ, List.getElem?_append_left (by rw [B8_length]; omega)]
  exact B8_get _ _ _ hx
theorem cells_get33 {c : BC} (h : c.keys.length = 32) : c.cells[33]? = some (.int .u64 (c.checks : Int)) := by
  rw [BC.cells, List.getElem?_cons_succ, List.getElem?_append_right (by rw [B8_length]; omega), B8_length, h]
  rfl
theorem cells_set0 (c : BC) (n : Int) : (⟨n, c.keys, c.checks⟩ : BC).cells = c.cells.set 0 (Value.int .i64 n) := rfl
theorem cells_set33 {c : BC} (h : c.keys.length = 32) (n : Nat) : (⟨c.count, c.keys, n⟩ : BC).cells = c.cells.set 33 (.int .u64 (n : Int)) := by
  rw [BC.cells, BC.cells, List.set_cons_succ, List.set_append_right _ _ (by rw [B8_length]; omega), B8_length, h]
  rfl

theorem u8_xor_u (x y : UInt8) : bits BinOp.xor IntKind.u8 (x.toNat : Int) (y.toNat : Int) = ((x ^^^ y).toNat : Int) := by
  rw [u8_xor_nat _ _ (UInt8.toNat_lt x) (UInt8.toNat_lt y), UInt8.toNat_xor]

def BT.atN (t : BT) (key : List UInt8) (num : Int) : Nat → BT
  | 0 => t
  | k + 1 => (t.atN key num k).at1 key num k
theorem BT.atN_three (t : BT) (key : List UInt8) (num : Int) : t.atN key num 3 = t.change key num := rfl
theorem BT.atN_len (t : BT) (key : List UInt8) (num : Int) : ∀ k, (t.atN key num k).cells.length = t.cells.length
  | 0 => rfl
  | k + 1 => by rw [BT.atN, BT.at1_len, BT.atN_len t key num k]
theorem BT.atN_seed (t : BT) (key : List UInt8) (num : Int) : ∀ k, (t.atN key num k).seed = t.seed
  | 0 => rfl
  | k + 1 => by rw [BT.atN]; exact BT.atN_seed t key num k
theorem BT.Ok.at1 {t : BT} (h : t.Ok) {key : List UInt8} (hk : key.length = 32) (num : Int) (i : Nat) : (t.at1 key num i).Ok := by
  refine ⟨fun c hc => ?_, h.seed⟩
  simp only [BT.at1] at hc
  obtain ⟨j, hj⟩ := List.mem_iff_getElem?.1 hc
  rw [List.getElem?_modify] at hj
  cases hq : t.cells[j]? with
  | none => rw [hq] at hj; simp at hj
  | some d =>
    rw [hq] at hj
    have hd := h.cells d (List.mem_of_getElem? hq)
    split at hj
    · simp at hj
      rw [← hj]
      exact hd.add hk num (bhash_u64 _ _ _)
    · simp at hj
      rw [← hj]
      exact hd
theorem BT.Ok.atN {t : BT} (h : t.Ok) {key : List UInt8} (hk : key.length = 32) (num : Int) : ∀ k, (t.atN key num k).Ok
  | 0 => h
  | k + 1 => (BT.Ok.atN h hk num k).at1 hk num k
theorem BT.Ok.change {t : BT} (h : t.Ok) {key : List UInt8} (hk : key.length = 32) (num : Int) : (t.change key num).Ok := BT.Ok.atN h hk num 3
theorem BT.at1_cells (t : BT) (key : List UInt8) (num : Int) (i : Nat) (c : BC) (hc : t.cells[bplace t.cells.length t.seed key i]? = some c) :
    (t.at1 key num i).cells = t.cells.set (bplace t.cells.length t.seed key i) (c.add key num (bhash t.seed 3 key)) := by
  obtain ⟨h1, e1⟩ := List.getElem?_eq_some_iff.1 hc
  simp only [BT.at1]
  apply List.ext_getElem?
  intro j
  rw [List.getElem?_modify, List.getElem?_set]
  by_cases hj : bplace t.cells.length t.seed key i = j
  · subst hj
    simp [h1, e1]
  · rw [if_neg hj]
    simp [hj]

end Go.Proofs.YtnhagokkamobaaaDoor
