/- Invertible Bloom tables in plain Lean. No program in sight. -/
import Derived.Test.YtnhagokkamobaaaDoorShaPlain
namespace Go.Proofs.YtnhagokkamobaaaDoor

/-- A cell of a table. -/
structure BC where
  count : Int
  keys : List UInt8
  checks : Nat

def BC.zero : BC := ⟨0, List.replicate 32 0, 0⟩
def BC.cells (c : BC) : List Value := Value.int .i64 c.count :: (B8 c.keys ++ [.int .u64 (c.checks : Int)])

structure BC.Ok (c : BC) : Prop where
  count : Fit64 c.count
  keys : c.keys.length = 32
  checks : U64 c.checks

theorem BC.Ok.zero : BC.zero.Ok := ⟨by unfold Fit64; decide, rfl, by unfold U64; decide⟩
theorem BC.cells_len {c : BC} (h : c.Ok) : c.cells.length = 34 := by simp [BC.cells, B8_length, h.keys]

structure BT where
  cells : List BC
  seed : Nat

structure BT.Ok (t : BT) : Prop where
  cells : ∀ c ∈ t.cells, c.Ok
  seed : U64 t.seed

def seed8 (s : Nat) : List UInt8 := [byteAt s 7, byteAt s 6, byteAt s 5, byteAt s 4, byteAt s 3, byteAt s 2, byteAt s 1, byteAt s 0]

/-- The number of the first k bytes, the greatest first. -/
def beNum (l : List UInt8) : Nat → Nat
  | 0 => 0
  | k + 1 => beNum l k * 256 + (l.getD k 0).toNat

def bhash (seed i : Nat) (key : List UInt8) : Nat := beNum (sha (seed8 seed ++ [UInt8.ofNat i] ++ key)) 8
def bplace (n seed : Nat) (key : List UInt8) (i : Nat) : Nat := i * (n / 3) + bhash seed i key % (n / 3)

def isSz (n : Int) : Bool := decide (3 ≤ n) && decide (n ≤ 3072) && decide (n % 3 = 0)

theorem beNum_lt (l : List UInt8) : ∀ k, beNum l k < 256 ^ k
  | 0 => by simp [beNum]
  | k + 1 => by
    have ih := beNum_lt l k
    have hb := UInt8.toNat_lt (l.getD k 0)
    rw [beNum, Nat.pow_succ]
    omega

theorem bhash_u64 (seed i : Nat) (key : List UInt8) : U64 (bhash seed i key) := beNum_lt _ 8

theorem bplace_lt (n seed : Nat) (key : List UInt8) (i : Nat) (hn : 3 ≤ n) (hi : i < 3) : bplace n seed key i < n := by
  have h1 : 0 < n / 3 := by omega
  have h2 := Nat.mod_lt (bhash seed i key) h1
  unfold bplace
  have : i * (n / 3) ≤ 2 * (n / 3) := Nat.mul_le_mul_right _ (by omega)
  omega

theorem bplace_ne (n seed : Nat) (key key' : List UInt8) (i j : Nat) (hn : 3 ≤ n) (hij : i < j) : bplace n seed key i < bplace n seed key' j := by
  have h1 : 0 < n / 3 := by omega
  have h2 := Nat.mod_lt (bhash seed i key) h1
  unfold bplace
  have : (i + 1) * (n / 3) ≤ j * (n / 3) := Nat.mul_le_mul_right _ (by omega)
  have e : (i + 1) * (n / 3) = i * (n / 3) + n / 3 := by rw [Nat.add_mul, Nat.one_mul]
  omega

def xorB (a b : List UInt8) : List UInt8 := List.zipWith (fun x y => x ^^^ y) a b
theorem xorB_len (a b : List UInt8) (h : a.length = b.length) : (xorB a b).length = a.length := by simp [xorB, h]

def BC.add (c : BC) (key : List UInt8) (num : Int) (chk : Nat) : BC := ⟨IntKind.i64.wrap (c.count + num), xorB c.keys key, c.checks ^^^ chk⟩

theorem wrap_fit (n : Int) : Fit64 (IntKind.i64.wrap n) := by
  rw [IntKind.wrap_i64]
  unfold Fit64
  omega

theorem BC.Ok.add {c : BC} (h : c.Ok) {key : List UInt8} (hk : key.length = 32) (num : Int) {chk : Nat} (hc : U64 chk) : (c.add key num chk).Ok :=
  ⟨wrap_fit _, by show (xorB c.keys key).length = 32; rw [xorB_len _ _ (by rw [h.keys, hk])]; exact h.keys, Nat.xor_lt_two_pow (n := 64) h.checks hc⟩

/-- One of a key's cells. -/
def BT.at1 (t : BT) (key : List UInt8) (num : Int) (i : Nat) : BT := { t with cells := t.cells.modify (bplace t.cells.length t.seed key i) fun c => c.add key num (bhash t.seed 3 key) }
def BT.change (t : BT) (key : List UInt8) (num : Int) : BT := ((t.at1 key num 0).at1 key num 1).at1 key num 2

theorem BT.at1_len (t : BT) (key : List UInt8) (num : Int) (i : Nat) : (t.at1 key num i).cells.length = t.cells.length := by simp [BT.at1]
theorem BT.change_len (t : BT) (key : List UInt8) (num : Int) : (t.change key num).cells.length = t.cells.length := by simp [BT.change, BT.at1_len]

def BC.pure (seed : Nat) (c : BC) : Bool := (decide (c.count = 1) || decide (c.count = -1)) && decide (c.checks = bhash seed 3 c.keys)
def BC.isZero (c : BC) : Bool := decide (c.count = 0) && decide (c.keys = List.replicate 32 0) && decide (c.checks = 0)
def BT.empty (t : BT) : Bool := t.cells.all BC.isZero
def BT.first (t : BT) : Option Nat := t.cells.findIdx? (BC.pure t.seed)

end Go.Proofs.YtnhagokkamobaaaDoor
namespace Go.Proofs.YtnhagokkamobaaaDoor

def BT.cellAt (t : BT) (i : Nat) : BC := t.cells.getD i BC.zero

structure Peel where
  t : BT
  taken : List (List UInt8)
  added : List (List UInt8)
  removed : List (List UInt8)

def Peel.take (s : Peel) (c : BC) : Peel :=
  ⟨s.t.change c.keys (-c.count), c.keys :: s.taken, if c.count = 1 then s.added ++ [c.keys] else s.added, if c.count = 1 then s.removed else s.removed ++ [c.keys]⟩

def peel : Nat → Peel → Option Peel
  | 0, s => some s
  | n + 1, s => match s.t.first with
    | none => some s
    | some i => if s.taken.contains (s.t.cellAt i).keys then none else peel n (s.take (s.t.cellAt i))

def sortS (l : List (List UInt8)) : List (List UInt8) := l.mergeSort fun x y => decide (x ≤ y)

/-- The keys that are peeled, in the order in which they come. -/
def BT.raw (t : BT) : Option (List (List UInt8) × List (List UInt8)) := match peel t.cells.length ⟨t, [], [], []⟩ with
  | none => none
  | some s => if s.t.empty then some (s.added, s.removed) else none
def BT.keys (t : BT) : Option (List (List UInt8) × List (List UInt8)) := t.raw.map fun p => (sortS p.1, sortS p.2)

def BT.new (n seed : Nat) : BT := ⟨List.replicate n BC.zero, seed⟩

def exK (n : Nat) : List UInt8 := sha [UInt8.ofNat n]
def ex1 : BT := (BT.new 3 7).change (exK 1) 1
def ex2 : BT := ex1.change (exK 2) (-1)
def ex3 : BT := ex2.change (exK 1) (-1)

theorem ex1_raw : ex1.raw = some ([exK 1], []) := by decide +kernel
theorem ex2_raw : ex2.raw = none := by decide +kernel
theorem ex3_raw : ex3.raw = some ([], [exK 2]) := by decide +kernel

end Go.Proofs.YtnhagokkamobaaaDoor
namespace Go.Proofs.YtnhagokkamobaaaDoor

def tcells (l : List BC) : List Value := l.flatMap BC.cells
def Ok34 (l : List BC) : Prop := ∀ c ∈ l, c.Ok

theorem tcells_cons (c : BC) (l : List BC) : tcells (c :: l) = c.cells ++ tcells l := rfl
theorem tcells_append (a b : List BC) : tcells (a ++ b) = tcells a ++ tcells b := by simp [tcells]
theorem tcells_len : ∀ {l : List BC}, Ok34 l → (tcells l).length = l.length * 34
  | [], _ => rfl
  | c :: l, h => by
    rw [tcells_cons, List.length_append, BC.cells_len (h c (by simp)), tcells_len (fun x hx => h x (by simp [hx])), List.length_cons]
    omega

theorem tcells_get : ∀ {l : List BC} (_ : Ok34 l) (rest : List Value) (p : Nat) (c : BC) (_ : l[p]? = some c) (j : Nat) (_ : j < 34), (tcells l ++ rest)[p * 34 + j]? = c.cells[j]?
  | [], _, _, p, c, hp, _, _ => by simp at hp
  | d :: l, h, rest, 0, c, hp, j, hj => by
    simp at hp
    subst hp
    rw [tcells_cons, List.append_assoc, Nat.zero_mul, Nat.zero_add, List.getElem?_append_left (by rw [BC.cells_len (h d (by simp))]; exact hj)]
  | d :: l, h, rest, p + 1, c, hp, j, hj => by
    have hd := BC.cells_len (h d (by simp))
    rw [tcells_cons, List.append_assoc, List.getElem?_append_right (by rw [hd]; omega), hd, show (p + 1) * 34 + j - 34 = p * 34 + j by omega]
    exact tcells_get (fun x hx => h x (by simp [hx])) rest p c (by simpa using hp) j hj

theorem tcells_set : ∀ {l : List BC} (_ : Ok34 l) (rest : List Value) (p : Nat) (c : BC) (_ : l[p]? = some c) (j : Nat) (_ : j < 34) (v : Value) (c' : BC) (_ : c'.cells = c.cells.set j v),
    (tcells l ++ rest).set (p * 34 + j) v = tcells (l.set p c') ++ rest
  | [], _, _, p, c, hp, _, _, _, _, _ => by simp at hp
  | d :: l, h, rest, 0, c, hp, j, hj, v, c', hc => by
    simp at hp
    subst hp
    rw [tcells_cons, List.append_assoc, Nat.zero_mul, Nat.zero_add, List.set_append_left _ _ (by rw [BC.cells_len (h d (by simp))]; exact hj), List.set_cons_zero, tcells_cons, hc, List.append_assoc]
  | d :: l, h, rest, p + 1, c, hp, j, hj, v, c', hc => by
    have hd := BC.cells_len (h d (by simp))
    rw [tcells_cons, List.append_assoc, List.set_append_right _ _ (by rw [hd]; omega), hd, show (p + 1) * 34 + j - 34 = p * 34 + j by omega, List.set_cons_succ, tcells_cons, List.append_assoc]
    rw [tcells_set (fun x hx => h x (by simp [hx])) rest p c (by simpa using hp) j hj v c' hc]

theorem tcells_one {l : List BC} : ∀ v ∈ tcells l, v.oneCell' = true := by
  intro v hv
  obtain ⟨c, _, hc⟩ := List.mem_flatMap.1 hv
  simp only [BC.cells, List.mem_cons, List.mem_append, List.not_mem_nil, or_false] at hc
  rcases hc with rfl | hc | rfl
  · rfl
  · exact B8_one _ _ hc
  · rfl

/-- A cell whose first i bytes are combined already. -/
def BC.part (c : BC) (key : List UInt8) (num : Int) (chk i : Nat) : BC := ⟨IntKind.i64.wrap (c.count + num), (xorB c.keys key).take i ++ c.keys.drop i, c.checks ^^^ chk⟩

theorem xorB_get (a b : List UInt8) (i : Nat) (x y : UInt8) (ha : a[i]? = some x) (hb : b[i]? = some y) : (xorB a b)[i]? = some (x ^^^ y) := by
  unfold xorB
  rw [List.getElem?_zipWith, ha, hb]

theorem part_zero (c : BC) (key : List UInt8) (num : Int) (chk : Nat) : c.part key num chk 0 = ⟨IntKind.i64.wrap (c.count + num), c.keys, c.checks ^^^ chk⟩ := by simp [BC.part]
theorem part_all (c : BC) (key : List UInt8) (num : Int) (chk : Nat) (h1 : c.keys.length = 32) (h2 : key.length = 32) : c.part key num chk 32 = c.add key num chk := by
  have : (xorB c.keys key).length = 32 := by rw [xorB_len _ _ (by omega)]; exact h1
  simp only [BC.part, BC.add]
  rw [List.take_of_length_le (by omega), List.drop_of_length_le (by omega), List.append_nil]
theorem part_ok {c : BC} (h : c.Ok) {key : List UInt8} (hk : key.length = 32) (num : Int) {chk : Nat} (hc : U64 chk) (i : Nat) : (c.part key num chk i).Ok := by
  have h32 := h.keys
  have hx : (xorB c.keys key).length = 32 := by rw [xorB_len _ _ (by omega)]; exact h32
  refine ⟨wrap_fit _, ?_, Nat.xor_lt_two_pow (n := 64) h.checks hc⟩
  show ((xorB c.keys key).take i ++ c.keys.drop i).length = 32
  rw [List.length_append, List.length_take, List.length_drop]
  omega
theorem part_get {c : BC} (key : List UInt8) (num : Int) (chk i : Nat) (x : UInt8) (hx : c.keys[i]? = some x) (hk : key.length = 32) (h32 : c.keys.length = 32) : (c.part key num chk i).keys[i]? = some x := by
  have hi := (List.getElem?_eq_some_iff.1 hx).1
  have hl : ((xorB c.keys key).take i).length = i := by rw [List.length_take, xorB_len _ _ (by omega)]; omega
  show ((xorB c.keys key).take i ++ c.keys.drop i)[i]? = some x
  rw [List.getElem?_append_right (by omega), hl, Nat.sub_self, List.getElem?_drop]
  exact hx
theorem part_succ {c : BC} (key : List UInt8) (num : Int) (chk i : Nat) (x y : UInt8) (hx : c.keys[i]? = some x) (hy : key[i]? = some y) (h1 : c.keys.length = 32) (h2 : key.length = 32) :
    (c.part key num chk (i + 1)).cells = (c.part key num chk i).cells.set (1 + i) (.int .u8 ((x ^^^ y).toNat : Int)) := by
  have hi := (List.getElem?_eq_some_iff.1 hx).1
  have hxl : (xorB c.keys key).length = 32 := by rw [xorB_len _ _ (by omega)]; exact h1
  have hl : ((xorB c.keys key).take i).length = i := by rw [List.length_take]; omega
  have hg := xorB_get _ _ i x y hx hy
  obtain ⟨h3, e3⟩ := List.getElem?_eq_some_iff.1 hg
  obtain ⟨h4, e4⟩ := List.getElem?_eq_some_iff.1 hx
  have e : (xorB c.keys key).take (i + 1) ++ c.keys.drop (i + 1) = ((xorB c.keys key).take i ++ c.keys.drop i).set i (x ^^^ y) := by
    rw [List.set_append_right _ _ (by omega), hl, Nat.sub_self, List.drop_eq_getElem_cons h4, List.set_cons_zero, List.take_succ_eq_append_getElem h3, e3, List.append_assoc]
    rfl
  have hz : i < ((xorB c.keys key).take i ++ c.keys.drop i).length := by rw [List.length_append, hl, List.length_drop]; omega
  show Value.int .i64 _ :: (B8 ((xorB c.keys key).take (i + 1) ++ c.keys.drop (i + 1)) ++ [_]) = List.set (Value.int .i64 _ :: (B8 ((xorB c.keys key).take i ++ c.keys.drop i) ++ [_])) (1 + i) _
  rw [e]
  generalize (xorB c.keys key).take i ++ c.keys.drop i = Z at hz
  rw [Nat.add_comm 1 i, List.set_cons_succ, List.set_append_left _ _ (by rw [B8_length]; exact hz)]
  simp only [B8, List.map_set]
  rfl

theorem cells_get0 (c : BC) : c.cells[0]? = some (Value.int .i64 c.count) := rfl
theorem cells_getK {c : BC} (i : Nat) (x : UInt8) (hx : c.keys[i]? = some x) : c.cells[1 + i]? = some (.int .u8 (x.toNat : Int)) := by
  have hi := (List.getElem?_eq_some_iff.1 hx).1
  rw [BC.cells, Nat.add_comm, List.getElem?_cons_succ, List.getElem?_append_left (by rw [B8_length]; omega)]
  exact B8_get _ _ _ hx
theorem cells_get33 {c : BC} (h : c.keys.length = 32) : c.cells[33]? = some (.int .u64 (c.checks : Int)) := by
  rw [BC.cells, List.getElem?_cons_succ, List.getElem?_append_right (by rw [B8_length]; omega), B8_length, h]
  rfl
theorem cells_set0 (c : BC) (n : Int) : (⟨n, c.keys, c.checks⟩ : BC).cells = c.cells.set 0 (Value.int .i64 n) := rfl
theorem cells_set33 {c : BC} (h : c.keys.length = 32) (n : Nat) : (⟨c.count, c.keys, n⟩ : BC).cells = c.cells.set 33 (.int .u64 (n : Int)) := by
  rw [BC.cells, BC.cells, List.set_cons_succ, List.set_append_right _ _ (by rw [B8_length]; omega), B8_length, h]
  rfl

theorem u8_xor_u (x y : UInt8) : bits BinOp.xor IntKind.u8 (x.toNat : Int) (y.toNat : Int) = ((x ^^^ y).toNat : Int) := by
  rw [u8_xor_nat _ _ (UInt8.toNat_lt x) (UInt8.toNat_lt y), UInt8.toNat_xor]

def BT.atN (t : BT) (key : List UInt8) (num : Int) : Nat → BT
  | 0 => t
  | k + 1 => (t.atN key num k).at1 key num k
theorem BT.atN_three (t : BT) (key : List UInt8) (num : Int) : t.atN key num 3 = t.change key num := rfl
theorem BT.atN_len (t : BT) (key : List UInt8) (num : Int) : ∀ k, (t.atN key num k).cells.length = t.cells.length
  | 0 => rfl
  | k + 1 => by rw [BT.atN, BT.at1_len, BT.atN_len t key num k]
theorem BT.atN_seed (t : BT) (key : List UInt8) (num : Int) : ∀ k, (t.atN key num k).seed = t.seed
  | 0 => rfl
  | k + 1 => by rw [BT.atN]; exact BT.atN_seed t key num k
theorem BT.Ok.at1 {t : BT} (h : t.Ok) {key : List UInt8} (hk : key.length = 32) (num : Int) (i : Nat) : (t.at1 key num i).Ok := by
  refine ⟨fun c hc => ?_, h.seed⟩
  simp only [BT.at1] at hc
  obtain ⟨j, hj⟩ := List.mem_iff_getElem?.1 hc
  rw [List.getElem?_modify] at hj
  cases hq : t.cells[j]? with
  | none => rw [hq] at hj; simp at hj
  | some d =>
    rw [hq] at hj
    have hd := h.cells d (List.mem_of_getElem? hq)
    split at hj
    · simp at hj
      rw [← hj]
      exact hd.add hk num (bhash_u64 _ _ _)
    · simp at hj
      rw [← hj]
      exact hd
theorem BT.Ok.atN {t : BT} (h : t.Ok) {key : List UInt8} (hk : key.length = 32) (num : Int) : ∀ k, (t.atN key num k).Ok
  | 0 => h
  | k + 1 => (BT.Ok.atN h hk num k).at1 hk num k
theorem BT.Ok.change {t : BT} (h : t.Ok) {key : List UInt8} (hk : key.length = 32) (num : Int) : (t.change key num).Ok := BT.Ok.atN h hk num 3
theorem BT.at1_cells (t : BT) (key : List UInt8) (num : Int) (i : Nat) (c : BC) (hc : t.cells[bplace t.cells.length t.seed key i]? = some c) :
    (t.at1 key num i).cells = t.cells.set (bplace t.cells.length t.seed key i) (c.add key num (bhash t.seed 3 key)) := by
  obtain ⟨h1, e1⟩ := List.getElem?_eq_some_iff.1 hc
  simp only [BT.at1]
  apply List.ext_getElem?
  intro j
  rw [List.getElem?_modify, List.getElem?_set]
  by_cases hj : bplace t.cells.length t.seed key i = j
  · subst hj
    simp [h1, e1]
  · rw [if_neg hj]
    simp [hj]

end Go.Proofs.YtnhagokkamobaaaDoor
namespace Go.Proofs.YtnhagokkamobaaaDoor

def BT.pures (t : BT) : List Bool := t.cells.map (BC.pure t.seed)
theorem BT.pures_len (t : BT) : t.pures.length = t.cells.length := by simp [BT.pures]
theorem BT.pures_get {t : BT} {i : Nat} {c : BC} (h : t.cells[i]? = some c) : t.pures[i]? = some (c.pure t.seed) := by simp [BT.pures, h]

theorem BT.first_pures (t : BT) : t.first = t.pures.findIdx? id := by
  unfold BT.first BT.pures
  rw [List.findIdx?_map]
  rfl

/-- The pure cells, of which those of the first k places of a key have been looked at anew. -/
def patch (n seed : Nat) (key : List UInt8) (old new : List Bool) : Nat → List Bool
  | 0 => old
  | k + 1 => (patch n seed key old new k).set (bplace n seed key k) (new.getD (bplace n seed key k) false)

theorem patch_len (n seed : Nat) (key : List UInt8) (old new : List Bool) : ∀ k, (patch n seed key old new k).length = old.length
  | 0 => rfl
  | k + 1 => by rw [patch, List.length_set, patch_len n seed key old new k]

theorem patch_get (n seed : Nat) (key : List UInt8) (old new : List Bool) (q : Nat) (hl : old.length = new.length) : ∀ k, (patch n seed key old new k)[q]? = if ∃ j, j < k ∧ bplace n seed key j = q then new[q]? else old[q]?
  | 0 => by simp [patch]
  | k + 1 => by
    rw [patch, List.getElem?_set, patch_get n seed key old new q hl k, patch_len]
    by_cases hq : bplace n seed key k = q
    · have hex : ∃ j, j < k + 1 ∧ bplace n seed key j = q := ⟨k, by omega, hq⟩
      rw [if_pos hq, if_pos hex, hq]
      by_cases hlt : q < old.length
      · rw [if_pos hlt, List.getD_eq_getElem?_getD]
        rw [List.getElem?_eq_getElem (by omega)]
        rfl
      · rw [if_neg hlt, List.getElem?_eq_none (by omega)]
    · rw [if_neg hq]
      by_cases h : ∃ j, j < k ∧ bplace n seed key j = q
      · obtain ⟨j, hj, e⟩ := h
        rw [if_pos ⟨j, hj, e⟩, if_pos ⟨j, by omega, e⟩]
      · rw [if_neg h, if_neg]
        rintro ⟨j, hj, e⟩
        rcases (by omega : j < k ∨ j = k) with h' | rfl
        · exact h ⟨j, h', e⟩
        · exact hq e

theorem at1_other (t : BT) (key : List UInt8) (num : Int) (i q : Nat) (h : bplace t.cells.length t.seed key i ≠ q) : (t.at1 key num i).cells[q]? = t.cells[q]? := by
  simp only [BT.at1, List.getElem?_modify, if_neg h]
  cases t.cells[q]? <;> rfl

theorem atN_other (t : BT) (key : List UInt8) (num : Int) (q : Nat) : ∀ k, (∀ j, j < k → bplace t.cells.length t.seed key j ≠ q) → (t.atN key num k).cells[q]? = t.cells[q]?
  | 0, _ => rfl
  | k + 1, h => by
    rw [BT.atN, at1_other _ _ _ _ _ (by rw [BT.atN_len, BT.atN_seed]; exact h k (by omega)), atN_other t key num q k (fun j hj => h j (by omega))]

theorem patch_all (t : BT) (key : List UInt8) (num : Int) : patch t.cells.length t.seed key t.pures (t.change key num).pures 3 = (t.change key num).pures := by
  have hl : t.pures.length = (t.change key num).pures.length := by rw [BT.pures_len, BT.pures_len, BT.change_len]
  apply List.ext_getElem?
  intro q
  rw [patch_get _ _ _ _ _ _ hl]
  split
  · rfl
  · rename_i h
    have hs : (t.change key num).seed = t.seed := BT.atN_seed t key num 3
    have := atN_other t key num q 3 (fun j hj e => h ⟨j, hj, e⟩)
    rw [BT.atN_three] at this
    unfold BT.pures
    rw [List.getElem?_map, List.getElem?_map, this, hs]

theorem peel_none (m : Nat) (s : Peel) (h : s.t.first = none) : peel m s = some s := by
  cases m with
  | zero => rfl
  | succ m => simp only [peel, h]
theorem peel_twice (m : Nat) (s : Peel) (i : Nat) (h : s.t.first = some i) (ht : s.taken.contains (s.t.cellAt i).keys = true) : peel (m + 1) s = none := by
  simp only [peel, h, ht, if_true]
theorem peel_step (m : Nat) (s : Peel) (i : Nat) (h : s.t.first = some i) (ht : s.taken.contains (s.t.cellAt i).keys = false) : peel (m + 1) s = peel m (s.take (s.t.cellAt i)) := by
  simp only [peel, h, ht, Bool.false_eq_true, if_false]

theorem first_some {t : BT} {i : Nat} (h : t.first = some i) : ∃ c, t.cells[i]? = some c ∧ c.pure t.seed = true ∧ t.cellAt i = c := by
  unfold BT.first at h
  rw [List.findIdx?_eq_some_iff_getElem] at h
  obtain ⟨h1, h2, _⟩ := h
  refine ⟨_, List.getElem?_eq_getElem h1, h2, ?_⟩
  unfold BT.cellAt
  rw [List.getD_eq_getElem?_getD, List.getElem?_eq_getElem h1]
  rfl

theorem pure_count {c : BC} {seed : Nat} (h : c.pure seed = true) : c.count = 1 ∨ c.count = -1 := by
  unfold BC.pure at h
  simp at h
  exact h.1

end Go.Proofs.YtnhagokkamobaaaDoor
