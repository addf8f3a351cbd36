/- Lists of calls on a table, in plain Lean. -/
import Derived.Test.YtnhagokkamobaaaDoorBlPlain
import Derived.Test.YtnhagokkamobaaaDoorSha4
namespace Go.Proofs.YtnhagokkamobaaaDoor
open Go.RowKit

abbrev BOp := List UInt8 × Bool
def stepOp (t : BT) (o : BOp) : BT := if o.1.length = 32 then t.change o.1 (if o.2 then -1 else 1) else t
def runTo (t : BT) (ops : List BOp) (i : Nat) : BT := (ops.take i).foldl stepOp t
def runAll (t : BT) (ops : List BOp) : BT := ops.foldl stepOp t
theorem runTo_zero (t : BT) (ops : List BOp) : runTo t ops 0 = t := by simp [runTo]
theorem runTo_succ (t : BT) {ops : List BOp} {i : Nat} {o : BOp} (h : ops[i]? = some o) : runTo t ops (i + 1) = stepOp (runTo t ops i) o := by
  obtain ⟨h1, e1⟩ := List.getElem?_eq_some_iff.1 h
  unfold runTo
  rw [List.take_succ_eq_append_getElem h1, e1, List.foldl_append]
  rfl
theorem runTo_all (t : BT) (ops : List BOp) : runTo t ops ops.length = runAll t ops := by simp [runTo, runAll]
theorem change_len (t : BT) (key : List UInt8) (num : Int) : (t.change key num).cells.length = t.cells.length := by rw [← BT.atN_three, BT.atN_len]
theorem change_seed (t : BT) (key : List UInt8) (num : Int) : (t.change key num).seed = t.seed := by rw [← BT.atN_three, BT.atN_seed]
theorem stepOp_len (t : BT) (o : BOp) : (stepOp t o).cells.length = t.cells.length := by
  unfold stepOp; split
  · exact change_len _ _ _
  · rfl
theorem stepOp_seed (t : BT) (o : BOp) : (stepOp t o).seed = t.seed := by
  unfold stepOp; split
  · exact change_seed _ _ _
  · rfl
theorem runAll_len (ops : List BOp) : ∀ t : BT, (runAll t ops).cells.length = t.cells.length := by
  induction ops with
  | nil => intro t; rfl
  | cons o ops ih => intro t; show (runAll (stepOp t o) ops).cells.length = _; rw [ih, stepOp_len]
theorem runAll_seed (ops : List BOp) : ∀ t : BT, (runAll t ops).seed = t.seed := by
  induction ops with
  | nil => intro t; rfl
  | cons o ops ih => intro t; show (runAll (stepOp t o) ops).seed = _; rw [ih, stepOp_seed]
theorem runTo_len (t : BT) (ops : List BOp) (i : Nat) : (runTo t ops i).cells.length = t.cells.length := runAll_len _ t
theorem runTo_seed (t : BT) (ops : List BOp) (i : Nat) : (runTo t ops i).seed = t.seed := runAll_seed _ t

def opCells (ops : List BOp) : List Value := ops.flatMap fun o => [S8v o.1, .bool o.2]
theorem opCells_len (ops : List BOp) : (opCells ops).length = ops.length * 2 := by
  induction ops with
  | nil => rfl
  | cons o ops ih => simp only [opCells, List.flatMap_cons, List.length_append, List.length_cons, List.length_nil]; simp only [opCells] at ih; omega
theorem opCells_get {ops : List BOp} : ∀ {i : Nat} {o : BOp}, ops[i]? = some o → (opCells ops)[i * 2]? = some (S8v o.1) ∧ (opCells ops)[i * 2 + 1]? = some (.bool o.2) := by
  induction ops with
  | nil => intro i o h; simp at h
  | cons p ops ih =>
    intro i o h
    cases i with
    | zero => simp at h; subst h; simp [opCells]
    | succ i =>
      have := ih (by simpa using h)
      simp only [opCells, List.flatMap_cons] at this ⊢
      rw [show (i + 1) * 2 = i * 2 + 2 by omega, show i * 2 + 2 + 1 = (i * 2 + 1) + 2 by omega]
      simpa using this
end Go.Proofs.YtnhagokkamobaaaDoor
namespace Go.Proofs.YtnhagokkamobaaaDoor
open Go.RowKit

theorem wrap_mod (x : Int) : ∃ k : Int, IntKind.i64.wrap x = x + k * 18446744073709551616 := by
  rw [IntKind.wrap_i64]
  exact ⟨((x + 9223372036854775808) % 18446744073709551616 - 9223372036854775808 - x) / 18446744073709551616, by omega⟩
theorem wrap_add_k (x k : Int) : IntKind.i64.wrap (x + k * 18446744073709551616) = IntKind.i64.wrap x := by
  rw [IntKind.wrap_i64, IntKind.wrap_i64]; omega
theorem wrap_wrap_add (x b : Int) : IntKind.i64.wrap (IntKind.i64.wrap x + b) = IntKind.i64.wrap (x + b) := by
  obtain ⟨k, hk⟩ := wrap_mod x
  rw [hk, show x + k * 18446744073709551616 + b = (x + b) + k * 18446744073709551616 by omega, wrap_add_k]

theorem xorB_comm2 : ∀ a k l : List UInt8, xorB (xorB a k) l = xorB (xorB a l) k
  | [], _, _ => by simp [xorB]
  | _ :: _, [], l => by simp [xorB]
  | _ :: _, _ :: _, [] => by simp [xorB]
  | x :: a, y :: k, z :: l => by
    have := xorB_comm2 a k l
    simp only [xorB, List.zipWith_cons_cons] at this ⊢
    rw [this]
    congr 1
    rw [UInt8.xor_assoc, UInt8.xor_comm y z, ← UInt8.xor_assoc]
theorem xorB_undo : ∀ a k : List UInt8, a.length = k.length → xorB (xorB a k) k = a
  | [], _, _ => by simp [xorB]
  | x :: a, [], h => by simp at h
  | x :: a, y :: k, h => by
    have := xorB_undo a k (by simpa using h)
    simp only [xorB, List.zipWith_cons_cons] at this ⊢
    rw [this]
    congr 1
    rw [UInt8.xor_assoc, UInt8.xor_self, UInt8.xor_zero]

theorem BC.add_comm (c : BC) (k l : List UInt8) (a b : Int) (x y : Nat) : (c.add k a x).add l b y = (c.add l b y).add k a x := by
  simp only [BC.add, BC.mk.injEq]
  refine ⟨?_, xorB_comm2 _ _ _, ?_⟩
  · rw [wrap_wrap_add, wrap_wrap_add]; congr 1; omega
  · rw [Nat.xor_assoc, Nat.xor_comm x y, ← Nat.xor_assoc]
theorem BC.add_undo {c : BC} (h : c.Ok) (k : List UInt8) (hk : k.length = 32) (a : Int) (x : Nat) : (c.add k a x).add k (-a) x = c := by
  obtain ⟨n, ks, ch⟩ := c
  simp only [BC.add, BC.mk.injEq]
  refine ⟨?_, xorB_undo _ _ (by rw [hk]; exact h.keys), ?_⟩
  · rw [wrap_wrap_add, show n + a + -a = n by omega]
    have := h.count
    unfold Fit64 at this
    rw [IntKind.wrap_i64]
    simp only at this
    omega
  · rw [Nat.xor_assoc, Nat.xor_self, Nat.xor_zero]

theorem modify_comm {α : Type} (l : List α) (i j : Nat) (f g : α → α) (h : ∀ x, f (g x) = g (f x)) : (l.modify i f).modify j g = (l.modify j g).modify i f := by
  apply List.ext_getElem?
  intro k
  simp only [List.getElem?_modify]
  by_cases h1 : i = k <;> by_cases h2 : j = k <;> simp [h1, h2] <;> (cases l[k]? <;> simp [h])

def BT.mod (t : BT) (i : Nat) (f : BC → BC) : BT := { t with cells := t.cells.modify i f }
theorem BT.at1_mod (t : BT) (key : List UInt8) (num : Int) (i : Nat) : t.at1 key num i = t.mod (bplace t.cells.length t.seed key i) fun c => c.add key num (bhash t.seed 3 key) := rfl
theorem BT.mod_len (t : BT) (i : Nat) (f : BC → BC) : (t.mod i f).cells.length = t.cells.length := by simp [BT.mod]
theorem BT.at1_comm (t : BT) (k l : List UInt8) (a b : Int) (i j : Nat) : (t.at1 k a i).at1 l b j = (t.at1 l b j).at1 k a i := by
  rw [BT.at1_mod, BT.at1_mod, BT.at1_mod, BT.at1_mod, BT.mod_len, BT.mod_len]
  show BT.mk _ _ = BT.mk _ _
  congr 1
  exact modify_comm _ _ _ _ _ (fun x => BC.add_comm x _ _ _ _ _ _)
theorem BT.change_comm (t : BT) (k l : List UInt8) (a b : Int) : (t.change k a).change l b = (t.change l b).change k a := by
  unfold BT.change
  rw [at1_comm _ k l a b 2 0, at1_comm _ k l a b 1 0, at1_comm _ k l a b 0 0, at1_comm _ k l a b 2 1, at1_comm _ k l a b 1 1, at1_comm _ k l a b 0 1, at1_comm _ k l a b 2 2, at1_comm _ k l a b 1 2, at1_comm _ k l a b 0 2]

theorem modify_undo {l : List BC} (h : ∀ c ∈ l, c.Ok) (i : Nat) (k : List UInt8) (hk : k.length = 32) (a : Int) (x : Nat) : (l.modify i fun c => c.add k a x).modify i (fun c => c.add k (-a) x) = l := by
  apply List.ext_getElem?
  intro j
  simp only [List.getElem?_modify]
  by_cases h1 : i = j
  · subst h1
    cases hq : l[i]? with
    | none => simp
    | some c => simp [BC.add_undo (h c (List.mem_of_getElem? hq)) k hk]
  · simp [h1]
theorem BT.at1_undo {t : BT} (h : t.Ok) (k : List UInt8) (hk : k.length = 32) (a : Int) (i : Nat) : (t.at1 k a i).at1 k (-a) i = t := by
  rw [BT.at1_mod, BT.at1_mod, BT.mod_len]
  show BT.mk _ _ = t
  obtain ⟨cs, s⟩ := t
  congr 1
  exact modify_undo h.cells _ k hk a _
theorem BT.change_undo {t : BT} (h : t.Ok) (k : List UInt8) (hk : k.length = 32) (a : Int) : (t.change k a).change k (-a) = t := by
  have h1 : (t.atN k a 1).Ok := BT.Ok.atN h hk a 1
  have h2 : (t.atN k a 2).Ok := BT.Ok.atN h hk a 2
  show ((((((t.at1 k a 0).at1 k a 1).at1 k a 2).at1 k (-a) 0).at1 k (-a) 1).at1 k (-a) 2) = t
  rw [BT.at1_comm _ k k (-a) (-a) 0 1, BT.at1_comm _ k k (-a) (-a) 0 2, BT.at1_comm _ k k (-a) (-a) 1 2]
  rw [BT.at1_undo (t := (t.at1 k a 0).at1 k a 1) h2 k hk a 2, BT.at1_undo (t := t.at1 k a 0) h1 k hk a 1, BT.at1_undo h k hk a 0]

theorem stepOp_comm (t : BT) (p q : BOp) : stepOp (stepOp t p) q = stepOp (stepOp t q) p := by
  unfold stepOp
  by_cases h1 : p.1.length = 32 <;> by_cases h2 : q.1.length = 32 <;> simp [h1, h2, BT.change_comm]
def invOp (o : BOp) : BOp := (o.1, !o.2)
theorem BT.Ok.step {t : BT} (h : t.Ok) (o : BOp) : (stepOp t o).Ok := by
  unfold stepOp
  split
  · rename_i hk
    exact BT.Ok.atN h hk _ 3
  · exact h
theorem BT.Ok.run {t : BT} (h : t.Ok) (ops : List BOp) : (runAll t ops).Ok := by
  induction ops generalizing t with
  | nil => exact h
  | cons o ops ih => exact ih (h.step o)
theorem stepOp_undo {t : BT} (h : t.Ok) (o : BOp) : stepOp (stepOp t o) (invOp o) = t := by
  unfold stepOp invOp
  by_cases hk : o.1.length = 32
  · cases hb : o.2
    · simpa [hk, hb] using BT.change_undo h o.1 hk 1
    · simpa [hk, hb] using BT.change_undo h o.1 hk (-1)
  · simp [hk]
theorem run_step (ops : List BOp) : ∀ (t : BT) (o : BOp), stepOp (runAll t ops) o = runAll (stepOp t o) ops := by
  induction ops with
  | nil => intro t o; rfl
  | cons p ops ih =>
    intro t o
    show stepOp (runAll (stepOp t p) ops) o = runAll (stepOp (stepOp t o) p) ops
    rw [ih, stepOp_comm]
theorem run_append (t : BT) (a b : List BOp) : runAll t (a ++ b) = runAll (runAll t a) b := by simp [runAll, List.foldl_append]
theorem run_reverse (ops : List BOp) : ∀ t : BT, runAll t ops.reverse = runAll t ops := by
  induction ops with
  | nil => intro t; rfl
  | cons o ops ih =>
    intro t
    rw [List.reverse_cons, run_append, ih]
    show stepOp (runAll t ops) o = runAll (stepOp t o) ops
    exact run_step _ _ _
theorem run_undo (ops : List BOp) : ∀ {t : BT}, t.Ok → runAll (runAll t ops) (ops.map invOp) = t := by
  induction ops with
  | nil => intro t _; rfl
  | cons o ops ih =>
    intro t h
    show runAll (stepOp (runAll (stepOp t o) ops) (invOp o)) (ops.map invOp) = t
    rw [run_step, stepOp_undo h]
    exact ih h
theorem new_empty (n seed : Nat) : (BT.new n seed).empty = true := by
  unfold BT.empty BT.new
  rw [List.all_eq_true]
  intro c hc
  rw [List.eq_of_mem_replicate hc]
  rfl
end Go.Proofs.YtnhagokkamobaaaDoor
namespace Go.Proofs.YtnhagokkamobaaaDoor
open Go.RowKit

theorem run_perm {a b : List BOp} (h : a.Perm b) : ∀ t : BT, runAll t a = runAll t b := by
  induction h with
  | nil => intro t; rfl
  | cons x _ ih => intro t; exact ih (stepOp t x)
  | swap x y l => intro t; show runAll (stepOp (stepOp t y) x) l = runAll (stepOp (stepOp t x) y) l; rw [stepOp_comm]
  | trans _ _ ih1 ih2 => intro t; rw [ih1, ih2]

def insOps (l : List (List UInt8)) : List BOp := l.map fun k => (k, false)
def delOps (l : List (List UInt8)) : List BOp := l.map fun k => (k, true)

theorem zero_of_isZero {c : BC} (h : c.isZero = true) : c = BC.zero := by
  simp only [BC.isZero, Bool.and_eq_true, decide_eq_true_eq] at h
  obtain ⟨n, k, x⟩ := c
  simp only at h
  obtain ⟨⟨rfl, rfl⟩, rfl⟩ := h
  rfl
theorem new_of_empty {t : BT} (h : t.empty = true) : t = BT.new t.cells.length t.seed := by
  obtain ⟨cs, s⟩ := t
  show BT.mk _ _ = BT.mk _ _
  congr 1
  unfold BT.empty at h
  rw [List.all_eq_true] at h
  exact List.eq_replicate_iff.2 ⟨rfl, fun c hc => zero_of_isZero (h c hc)⟩

theorem cellAt_ok {t : BT} (h : t.Ok) (i : Nat) : (t.cellAt i).Ok := by
  unfold BT.cellAt
  rw [List.getD_eq_getElem?_getD]
  cases hq : t.cells[i]? with
  | none => exact BC.Ok.zero
  | some c => exact h.cells c (List.mem_of_getElem? hq)

/-- What peeling keeps. -/
structure PInv (t0 : BT) (s : Peel) : Prop where
  ok : s.t.Ok
  len : s.t.cells.length = t0.cells.length
  seed : s.t.seed = t0.seed
  run : runAll s.t (insOps s.added ++ delOps s.removed) = t0

theorem PInv.step {t0 : BT} {s : Peel} (h : PInv t0 s) {c : BC} (hc : c.Ok) (h1 : c.count = 1 ∨ c.count = -1) : PInv t0 (s.take c) := by
  have hk := hc.keys
  refine ⟨BT.Ok.atN h.ok hk _ 3, by rw [← h.len]; exact change_len _ _ _, by rw [← h.seed]; exact change_seed _ _ _, ?_⟩
  rcases h1 with h1 | h1
  · simp only [Peel.take, h1, if_true]
    have hp : (insOps (s.added ++ [c.keys]) ++ delOps s.removed).Perm ((c.keys, false) :: (insOps s.added ++ delOps s.removed)) := by
      simp only [insOps, List.map_append, List.map_cons, List.map_nil]
      rw [List.append_assoc]
      exact List.perm_middle
    rw [run_perm hp]
    show runAll (stepOp (s.t.change c.keys (-1)) (c.keys, false)) _ = t0
    have hu := BT.change_undo h.ok c.keys hk (-1)
    have e : stepOp (s.t.change c.keys (-1)) (c.keys, false) = s.t := by
      unfold stepOp
      simpa [hk] using hu
    rw [e]
    exact h.run
  · have hne : ¬ ((-1 : Int) = 1) := by omega
    simp only [Peel.take, h1, hne, if_false]
    have hp : (insOps s.added ++ delOps (s.removed ++ [c.keys])).Perm ((c.keys, true) :: (insOps s.added ++ delOps s.removed)) := by
      simp only [delOps, List.map_append, List.map_cons, List.map_nil]
      rw [← List.append_assoc]
      have := List.perm_middle (a := ((c.keys, true) : BOp)) (l₁ := insOps s.added ++ s.removed.map fun k => (k, true)) (l₂ := [])
      simpa using this
    rw [run_perm hp]
    show runAll (stepOp (s.t.change c.keys (- -1)) (c.keys, true)) _ = t0
    have hu := BT.change_undo h.ok c.keys hk 1
    have e : stepOp (s.t.change c.keys (- -1)) (c.keys, true) = s.t := by
      unfold stepOp
      simpa [hk] using hu
    rw [e]
    exact h.run

theorem first_pure {t : BT} {i : Nat} (h : t.first = some i) : (t.cellAt i).pure t.seed = true ∧ i < t.cells.length := by
  unfold BT.first at h
  rw [List.findIdx?_eq_some_iff_getElem] at h
  obtain ⟨h1, h2, _⟩ := h
  unfold BT.cellAt
  rw [List.getD_eq_getElem?_getD, List.getElem?_eq_getElem h1]
  exact ⟨h2, h1⟩
theorem pure_count1 {seed : Nat} {c : BC} (h : c.pure seed = true) : c.count = 1 ∨ c.count = -1 := by
  simp only [BC.pure, Bool.and_eq_true, Bool.or_eq_true, decide_eq_true_eq] at h
  exact h.1
theorem peel_inv {t0 : BT} : ∀ (n : Nat) {s s' : Peel}, PInv t0 s → peel n s = some s' → PInv t0 s'
  | 0, s, s', h, e => by cases e; exact h
  | n + 1, s, s', h, e => by
    unfold peel at e
    cases hf : s.t.first with
    | none => rw [hf] at e; cases e; exact h
    | some i =>
      rw [hf] at e
      simp only at e
      split at e
      · cases e
      · exact peel_inv n (h.step (cellAt_ok h.ok i) (pure_count1 (first_pure hf).1)) e

theorem gives_back {t : BT} (h : t.Ok) {a b : List (List UInt8)} (hk : t.keys = some (a, b)) : runAll (runAll (BT.new t.cells.length t.seed) (insOps a)) (delOps b) = t := by
  unfold BT.keys BT.raw at hk
  cases hp : peel t.cells.length ⟨t, [], [], []⟩ with
  | none => rw [hp] at hk; simp at hk
  | some s =>
    rw [hp] at hk
    cases he : s.t.empty with
    | false => simp [he] at hk
    | true =>
      simp only [he, if_true, Option.map_some, Option.some.injEq, Prod.mk.injEq] at hk
      have hi : PInv t s := peel_inv _ (⟨h, rfl, rfl, rfl⟩ : PInv t ⟨t, [], [], []⟩) hp
      have hn := new_of_empty he
      rw [hi.len, hi.seed] at hn
      rw [← run_append]
      have hperm : (insOps a ++ delOps b).Perm (insOps s.added ++ delOps s.removed) := by
        rw [← hk.1, ← hk.2]
        exact ((List.mergeSort_perm _ _).map _).append ((List.mergeSort_perm _ _).map _)
      rw [run_perm hperm, ← hn]
      exact hi.run
end Go.Proofs.YtnhagokkamobaaaDoor
namespace Go.Proofs.YtnhagokkamobaaaDoor
open Go.RowKit

def BC.sub (c d : BC) : BC := c.add d.keys (-d.count) d.checks
def BT.sub (t u : BT) : BT := ⟨List.zipWith BC.sub t.cells u.cells, t.seed⟩
/-- The first i cells are subtracted; the others are l's. -/
def subTo (t u : BT) (l : List BC) (i : Nat) : List BC := (t.sub u).cells.take i ++ l.drop i

theorem BC.Ok.sub {c d : BC} (h1 : c.Ok) (h2 : d.Ok) : (c.sub d).Ok := by
  have := part_ok h1 h2.keys (-d.count) h2.checks 32
  rwa [part_all c d.keys (-d.count) d.checks h1.keys h2.keys] at this
theorem sub_len {t u : BT} (h : u.cells.length = t.cells.length) : (t.sub u).cells.length = t.cells.length := by simp [BT.sub, h]
theorem sub_ok {t u : BT} (h1 : t.Ok) (h2 : u.Ok) : (t.sub u).Ok := by
  refine ⟨fun c hc => ?_, h1.seed⟩
  obtain ⟨i, hi, rfl⟩ := List.mem_iff_getElem.1 hc
  simp only [BT.sub, List.length_zipWith] at hi
  simp only [BT.sub, List.getElem_zipWith]
  exact BC.Ok.sub (h1.cells _ (List.getElem_mem _)) (h2.cells _ (List.getElem_mem _))
theorem sub_get {t u : BT} {i : Nat} {c d : BC} (hc : t.cells[i]? = some c) (hd : u.cells[i]? = some d) : (t.sub u).cells[i]? = some (c.sub d) := by
  simp [BT.sub, List.getElem?_zipWith, hc, hd]
theorem subTo_zero (t u : BT) (l : List BC) : subTo t u l 0 = l := by simp [subTo]
theorem subTo_all {t u : BT} {l : List BC} (h : u.cells.length = t.cells.length) (hl : l.length = t.cells.length) : subTo t u l t.cells.length = (t.sub u).cells := by
  unfold subTo
  rw [List.take_of_length_le (by rw [sub_len h]; exact Nat.le_refl _), List.drop_of_length_le (by omega), List.append_nil]
theorem subTo_len {t u : BT} {l : List BC} (h : u.cells.length = t.cells.length) (hl : l.length = t.cells.length) (i : Nat) (hi : i ≤ t.cells.length) : (subTo t u l i).length = t.cells.length := by
  unfold subTo
  rw [List.length_append, List.length_take, List.length_drop, sub_len h, hl]
  omega
theorem subTo_at {t u : BT} {l : List BC} (h : u.cells.length = t.cells.length) (i : Nat) (hi : i < t.cells.length) : (subTo t u l i)[i]? = l[i]? := by
  unfold subTo
  have h1 : ((t.sub u).cells.take i).length = i := by rw [List.length_take, sub_len h]; omega
  rw [List.getElem?_append_right (by omega), h1, List.getElem?_drop]
  simp
theorem subTo_succ {t u : BT} {l : List BC} (h : u.cells.length = t.cells.length) (hl : l.length = t.cells.length) {i : Nat} {x : BC} (hi : i < t.cells.length) (hx : (t.sub u).cells[i]? = some x) : (subTo t u l i).set i x = subTo t u l (i + 1) := by
  unfold subTo
  have h1 : ((t.sub u).cells.take i).length = i := by rw [List.length_take, sub_len h]; omega
  obtain ⟨h2, h3⟩ := List.getElem?_eq_some_iff.1 hx
  rw [List.set_append_right _ _ (by omega), h1, Nat.sub_self, List.take_succ_eq_append_getElem h2, h3, List.drop_eq_getElem_cons (by omega), List.set_cons_zero]
  simp
theorem subTo_ok {t u : BT} {l : List BC} (h1 : t.Ok) (h2 : u.Ok) (hl : Ok34 l) (i : Nat) : Ok34 (subTo t u l i) := by
  intro c hc
  rcases List.mem_append.1 hc with hc | hc
  · exact (sub_ok h1 h2).cells c (List.mem_of_mem_take hc)
  · exact hl c (List.mem_of_mem_drop hc)
theorem Ok34.set {l : List BC} (h : Ok34 l) (i : Nat) {c : BC} (hc : c.Ok) : Ok34 (l.set i c) := by
  intro x hx
  rcases List.mem_or_eq_of_mem_set hx with hx | rfl
  · exact h x hx
  · exact hc
def keysTo (a b : List UInt8) (j : Nat) : List UInt8 := a.take j ++ b.drop j
theorem keysTo_len {a b : List UInt8} (h : a.length = b.length) (j : Nat) : (keysTo a b j).length = b.length := by
  unfold keysTo
  rw [List.length_append, List.length_take, List.length_drop]
  omega
theorem keysTo_set {a b : List UInt8} (h : a.length = b.length) {j : Nat} {v : UInt8} (hv : a[j]? = some v) : (keysTo a b j).set j v = keysTo a b (j + 1) := by
  obtain ⟨h1, h2⟩ := List.getElem?_eq_some_iff.1 hv
  unfold keysTo
  have h3 : (a.take j).length = j := by rw [List.length_take]; omega
  rw [List.set_append_right _ _ (by omega), h3, Nat.sub_self, List.take_succ_eq_append_getElem h1, h2, List.drop_eq_getElem_cons (by omega), List.set_cons_zero]
  simp
theorem cells_setK {n : Int} {ks : List UInt8} {x j : Nat} {v : UInt8} (h : j < ks.length) : (⟨n, ks, x⟩ : BC).cells.set (1 + j) (.int .u8 ((v.toNat : Nat) : Int)) = (⟨n, ks.set j v, x⟩ : BC).cells := by
  simp only [BC.cells]
  rw [Nat.add_comm, List.set_cons_succ, List.set_append_left _ _ (by rw [B8_length]; exact h)]
  simp [B8, List.map_set]
end Go.Proofs.YtnhagokkamobaaaDoor
