/- Plain facts about memory that all texts of this claim use: a block known whole, and a frame that names the blocks that may have changed. No condition. -/
import Derived.WalkKit
import Derived.Below
import Derived.Deep.Draws
import Derived.Lib.Hide
import Derived.Maps.AppendAt
import Derived.OrdersHeld
import Derived.Laws.CopyRow
import Derived.Laws.IdiomCopy
namespace Go.Proofs.YtlepfnihpdhcaaaGreatDoor
open Go.RowKit

/-- Block b is just the cells l, of element type t, none of them frozen. -/
def At (w : World) (b : Nat) (t : TypeId) (l : List Value) : Prop := w.heap[b]? = some (.cells l.toArray t (0, 0))

/-- w' is w, but for new blocks and for the blocks that S names. -/
structure Fr (S : List Nat) (w w' : World) : Prop where
  os : w'.os = w.os
  tape : w'.tape = w.tape
  output : w'.output = w.output
  size : w.heap.size ≤ w'.heap.size
  block : ∀ k, k < w.heap.size → k ∉ S → w'.heap[k]? = w.heap[k]?

theorem Fr.refl (S : List Nat) (w : World) : Fr S w w := ⟨rfl, rfl, rfl, Nat.le_refl _, fun _ _ _ => rfl⟩

theorem Fr.trans' {S S' : List Nat} {a b c : World} (h : Fr S a b) (k : Fr S' b c) (hs : ∀ x, x ∈ S' → x ∈ S ∨ a.heap.size ≤ x) : Fr S a c :=
  ⟨k.os.trans h.os, k.tape.trans h.tape, k.output.trans h.output, Nat.le_trans h.size k.size, fun i hi hn =>
    (k.block i (Nat.lt_of_lt_of_le hi h.size) (fun hm => by
      rcases hs i hm with hm | hm
      · exact hn hm
      · omega)).trans (h.block i hi hn)⟩

theorem Fr.trans {S : List Nat} {a b c : World} (h : Fr S a b) (k : Fr S b c) : Fr S a c := h.trans' k fun _ hx => .inl hx
theorem Fr.then0 {S : List Nat} {a b c : World} (h : Fr S a b) (k : Fr [] b c) : Fr S a c := h.trans' k fun _ hx => by cases hx

theorem Fr.mono {S S' : List Nat} {a b : World} (h : Fr S a b) (hs : ∀ x, x ∈ S → x ∈ S' ∨ a.heap.size ≤ x) : Fr S' a b := (Fr.refl S' a).trans' h hs

theorem Fr.drew {S : List Nat} {a b : World} (h : Fr S a b) : Fr S a b.drew := ⟨h.os, h.tape, h.output, h.size, h.block⟩
theorem Fr.drewN {S : List Nat} {a b : World} (h : Fr S a b) (n : Nat) : Fr S a (b.drewN n) := ⟨h.os, h.tape, h.output, h.size, h.block⟩

theorem Fr.alloc {S : List Nat} {a b : World} (h : Fr S a b) (o : Obj) : Fr S a (b.alloc o) :=
  ⟨h.os, h.tape, h.output, Nat.le_trans h.size (by simp), fun i hi hn => (Below.heap_alloc b o i (Nat.lt_of_lt_of_le hi h.size)).trans (h.block i hi hn)⟩

theorem Fr.setCell {S : List Nat} {a b : World} (h : Fr S a b) {p : Addr} (hp : p.block ∈ S ∨ a.heap.size ≤ p.block) (u : Value) : Fr S a (b.setCell p u) :=
  ⟨h.os, h.tape, h.output, by simpa [World.setCell] using h.size, fun i hi hn => (Below.heap_setCell b p u i (by
    rintro rfl
    rcases hp with hp | hp
    · exact hn hp
    · omega)).trans (h.block i hi hn)⟩

theorem Fr.grown {S : List Nat} {a b c : World} {row : Option Nat} (h : Fr S a b) (hg : b.grownBy c row) (hr : ∀ k, row = some k → k ∈ S ∨ a.heap.size ≤ k) : Fr S a c :=
  ⟨hg.os.trans h.os, hg.tape.trans h.tape, hg.output.trans h.output, Nat.le_trans h.size hg.size, fun i hi hn =>
    (hg.block i (Nat.lt_of_lt_of_le hi h.size) (fun e => by
      rcases hr i e.symm with hm | hm
      · exact hn hm
      · omega)).trans (h.block i hi hn)⟩

theorem Fr.below {S : List Nat} {a b : World} {B : Nat} (h : Fr S a b) (hB : B ≤ a.heap.size) (hs : ∀ x, x ∈ S → B ≤ x) : Below B a b :=
  ⟨h.os, h.tape, h.output, h.size, fun k hk => h.block k (by omega) (fun hm => by have := hs k hm; omega)⟩

theorem Fr.of_below {a b : World} (h : Below a.heap.size a b) (S : List Nat) : Fr S a b := ⟨h.os, h.tape, h.output, h.size, fun k hk _ => h.block k hk⟩

theorem Fr.cell {S : List Nat} {a b : World} (h : Fr S a b) {p : Addr} (hp : p.block < a.heap.size) (hn : p.block ∉ S) : b.cell? p = a.cell? p := World.cell?_of_block (w := a) (h.block p.block hp hn)
theorem Fr.frozen {S : List Nat} {a b : World} (h : Fr S a b) {p : Addr} (hp : p.block < a.heap.size) (hn : p.block ∉ S) : b.frozen? p = a.frozen? p := World.frozen?_of_block (w := a) (h.block p.block hp hn)

section
variable {w w' : World} {b : Nat} {t : TypeId} {l : List Value}

theorem At.lt (h : At w b t l) : b < w.heap.size := by
  rcases Nat.lt_or_ge b w.heap.size with hl | hl
  · exact hl
  · unfold At at h
    rw [Array.getElem?_eq_none hl] at h
    cases h
theorem At.cell (h : At w b t l) (i : Nat) : w.cell? ⟨b, i, none⟩ = l[i]? := by
  unfold At at h
  simp [World.cell?, h]
theorem At.frozen (h : At w b t l) (i : Nat) : w.frozen? ⟨b, i, none⟩ = false := by
  unfold At at h
  simp [World.frozen?, h]
theorem At.new (w : World) (t : TypeId) (l : List Value) : At (w.alloc (.cells l.toArray t)) w.heap.size t l := heap_alloc_new w _
theorem At.drew (h : At w b t l) : At w.drew b t l := h
theorem At.drewN (h : At w b t l) (n : Nat) : At (w.drewN n) b t l := h
theorem At.alloc (h : At w b t l) (o : Obj) : At (w.alloc o) b t l := (Below.heap_alloc w o b h.lt).trans h
theorem At.set (h : At w b t l) (i : Nat) (u : Value) : At (w.setCell ⟨b, i, none⟩ u) b t (l.set i u) := by
  unfold At at h ⊢
  simp [World.setCell, Array.getElem?_modify, h]
theorem At.far (h : At w b t l) {p : Addr} (hp : b ≠ p.block) (u : Value) : At (w.setCell p u) b t l := (Below.heap_setCell w p u b hp).trans h
theorem At.fr {S : List Nat} (h : At w b t l) (hf : Fr S w w') (hb : b ∉ S) : At w' b t l := (hf.block b h.lt hb).trans h
theorem At.below {B : Nat} (h : At w b t l) (hf : Below B w w') (hb : b < B) : At w' b t l := (hf.block b hb).trans h
theorem At.inj {l' : List Value} {t' : TypeId} (h : At w b t l) (h' : At w b t' l') : l = l' := by
  unfold At at h h'
  rw [h] at h'
  simp only [Option.some.injEq, Obj.cells.injEq] at h'
  have := congrArg Array.toList h'.1
  simpa using this
theorem At.ne {b' : Nat} {t' : TypeId} {l' : List Value} (h : At w b t l) (h' : At w b' t' l') (hne : t ≠ t') : b ≠ b' := by
  rintro rfl
  unfold At at h h'
  rw [h] at h'
  simp only [Option.some.injEq, Obj.cells.injEq] at h'
  exact hne h'.2.1
end

/-- Below block B, but for the blocks that S names, w' is as w was. -/
structure Bel (B : Nat) (S : List Nat) (w w' : World) : Prop where
  os : w'.os = w.os
  tape : w'.tape = w.tape
  output : w'.output = w.output
  size : w.heap.size ≤ w'.heap.size
  block : ∀ k, k < B → k ∉ S → w'.heap[k]? = w.heap[k]?

theorem Bel.refl (B : Nat) (S : List Nat) (w : World) : Bel B S w w := ⟨rfl, rfl, rfl, Nat.le_refl _, fun _ _ _ => rfl⟩
theorem Bel.trans {B : Nat} {S : List Nat} {a b c : World} (h : Bel B S a b) (k : Bel B S b c) : Bel B S a c :=
  ⟨k.os.trans h.os, k.tape.trans h.tape, k.output.trans h.output, Nat.le_trans h.size k.size, fun i hi hn => (k.block i hi hn).trans (h.block i hi hn)⟩
theorem Bel.mono {B B' : Nat} {S S' : List Nat} {a b : World} (h : Bel B S a b) (hB : B' ≤ B) (hs : ∀ x, x ∈ S → x ∈ S' ∨ B' ≤ x) : Bel B' S' a b :=
  ⟨h.os, h.tape, h.output, h.size, fun i hi hn => h.block i (by omega) (fun hm => by
    rcases hs i hm with hm | hm
    · exact hn hm
    · omega)⟩
theorem Bel.drew {B : Nat} {S : List Nat} {a b : World} (h : Bel B S a b) : Bel B S a b.drew := ⟨h.os, h.tape, h.output, h.size, h.block⟩
theorem Bel.drewN {B : Nat} {S : List Nat} {a b : World} (h : Bel B S a b) (n : Nat) : Bel B S a (b.drewN n) := ⟨h.os, h.tape, h.output, h.size, h.block⟩
theorem Bel.alloc {B : Nat} {S : List Nat} {a b : World} (h : Bel B S a b) (hB : B ≤ b.heap.size) (o : Obj) : Bel B S a (b.alloc o) :=
  ⟨h.os, h.tape, h.output, Nat.le_trans h.size (by simp), fun i hi hn => (Below.heap_alloc b o i (by omega)).trans (h.block i hi hn)⟩
theorem Bel.setCell {B : Nat} {S : List Nat} {a b : World} (h : Bel B S a b) {p : Addr} (hp : p.block ∈ S ∨ B ≤ p.block) (u : Value) : Bel B S a (b.setCell p u) :=
  ⟨h.os, h.tape, h.output, by simpa [World.setCell] using h.size, fun i hi hn => (Below.heap_setCell b p u i (by
    rintro rfl
    rcases hp with hp | hp
    · exact hn hp
    · omega)).trans (h.block i hi hn)⟩
theorem Bel.fr {B : Nat} {S S' : List Nat} {a b c : World} (h : Bel B S a b) (k : Fr S' b c) (hB : B ≤ b.heap.size) (hs : ∀ x, x ∈ S' → x ∈ S ∨ B ≤ x) : Bel B S a c :=
  ⟨k.os.trans h.os, k.tape.trans h.tape, k.output.trans h.output, Nat.le_trans h.size k.size, fun i hi hn =>
    (k.block i (by omega) (fun hm => by
      rcases hs i hm with hm | hm
      · exact hn hm
      · omega)).trans (h.block i hi hn)⟩
theorem Bel.grown {B : Nat} {S : List Nat} {a b c : World} {row : Option Nat} (h : Bel B S a b) (hg : b.grownBy c row) (hB : B ≤ b.heap.size) (hr : ∀ k, row = some k → k ∈ S ∨ B ≤ k) : Bel B S a c :=
  ⟨hg.os.trans h.os, hg.tape.trans h.tape, hg.output.trans h.output, Nat.le_trans h.size hg.size, fun i hi hn =>
    (hg.block i (by omega) (fun e => by
      rcases hr i e.symm with hm | hm
      · exact hn hm
      · omega)).trans (h.block i hi hn)⟩
theorem Bel.cell {B : Nat} {S : List Nat} {a b : World} (h : Bel B S a b) {p : Addr} (hp : p.block < B) (hn : p.block ∉ S) : b.cell? p = a.cell? p := World.cell?_of_block (w := a) (h.block p.block hp hn)
theorem Bel.toFr {B : Nat} {S : List Nat} {a b : World} (h : Bel B S a b) (hB : a.heap.size ≤ B) : Fr S a b := ⟨h.os, h.tape, h.output, h.size, fun k hk hn => h.block k (by omega) hn⟩
theorem Fr.bel {B : Nat} {S S' : List Nat} {a b : World} (h : Fr S a b) (hB : B ≤ a.heap.size) (hs : ∀ x, x ∈ S → x ∈ S' ∨ B ≤ x) : Bel B S' a b := (Bel.refl B S' a).fr h hB hs
theorem Fr.thenBel {B : Nat} {S S' : List Nat} {a b c : World} (h : Fr S a b) (k : Bel B S' b c) (hB : a.heap.size ≤ B) (hs : ∀ x, x ∈ S' → x ∈ S ∨ a.heap.size ≤ x) : Fr S a c :=
  ⟨k.os.trans h.os, k.tape.trans h.tape, k.output.trans h.output, Nat.le_trans h.size k.size, fun i hi hn =>
    (k.block i (by omega) (fun hm => by
      rcases hs i hm with hm | hm
      · exact hn hm
      · omega)).trans (h.block i hi hn)⟩
theorem At.bel {w w' : World} {b : Nat} {t : TypeId} {l : List Value} {B : Nat} {S : List Nat} (h : At w b t l) (hf : Bel B S w w') (hb : b < B) (hn : b ∉ S) : At w' b t l := (hf.block b hb hn).trans h

end Go.Proofs.YtlepfnihpdhcaaaGreatDoor
namespace Go.Proofs.YtlepfnihpdhcaaaGreatDoor
open Go.RowKit

theorem ret_bool {a b : Bool} (h : a = b) : Ending.returned (.bool a) = .returned (.bool b) := by rw [h]
theorem ret_int {k : IntKind} {a b : Int} (h : a = b) : Ending.returned (.int k a) = .returned (.int k b) := by rw [h]
theorem ret_pair {k : IntKind} {a b : Int} {x : Value} (h : b = a) : Ending.returned (.tuple #[.int k a, x]) = .returned (.tuple #[.int k b, x]) := by rw [h]

section
variable {P : Program}

theorem add_none (b o j : Nat) : (⟨b, o, none⟩ : Addr).add j = ⟨b, o + j, none⟩ := by
  unfold Addr.add
  split
  · simp_all
  · rfl

theorem run_loadVar_at (w : World) (b off : Nat) (ty : TypeId) (cs : List Value) (d : TypeDesc) (hc : ∀ j v, cs[j]? = some v → w.cell? ⟨b, off + j, none⟩ = some v)
    (hu : P.underlying ty = some d) (hd : (match d with | .struct _ | .array _ _ => true | _ => false) = true) (hi : (P.info? ty).map (·.size) = some cs.length) :
    (loadVar ty ⟨b, off, none⟩).run P w = .ok (.agg cs.toArray) w := by
  have hl : (loadCells ⟨b, off, none⟩ cs.length).run P w = .ok cs.toArray w :=
    run_loadCells_list (P := P) w ⟨b, off, none⟩ cs (fun j v hv => by rw [add_none]; exact hc j v hv)
  cases hq : P.info? ty with
  | none => simp [hq] at hi
  | some i =>
    have hs : i.size = cs.length := by simpa [hq] using hi
    have hagg : (isAgg ty).run P w = .ok true w := by
      unfold isAgg
      rw [Sem.run_bind, run_underlying hu w]
      cases d <;> simp_all
    simp [loadVar, Sem.run_bind, hagg, sizeOf, typeInfo, hq, hs, hl]

theorem wp_load_at {o : Oper} {a : Act} {w : World} {K : Act → World → Prop} {Q : Exit → Act → World → Prop} (ty : TypeId) (x : Operand) (ho : o.op = .load ty x)
    (b off : Nat) (hx : a.eval x = .pointer (some ⟨b, off, none⟩)) (cs : List Value) (d : TypeDesc) (hc : ∀ j v, cs[j]? = some v → w.cell? ⟨b, off + j, none⟩ = some v)
    (hu : P.underlying ty = some d) (hd : (match d with | .struct _ | .array _ _ => true | _ => false) = true) (hi : (P.info? ty).map (·.size) = some cs.length)
    (h : K (a.put o.dst (.agg cs.toArray)) w) : o.wp P a w K Q := by
  unfold Oper.wp execOp
  simp only [ho, hx, Instr.loadAt, Instr.sureAddr, Sem.run_bind, Sem.run_pure, Result.andThen_ok, run_loadVar_at w b off ty cs d hc hu hd hi]
  exact h

theorem wpList_load_at {ops : Array Oper} {rest : List Oper} {o : Oper} {a : Act} {w : World} {Q : Exit → Act → World → Prop} (hgd : o.guard = none) (ty : TypeId) (x : Operand) (ho : o.op = .load ty x)
    (b off : Nat) (hx : a.eval x = .pointer (some ⟨b, off, none⟩)) (cs : List Value) (d : TypeDesc) (hc : ∀ j v, cs[j]? = some v → w.cell? ⟨b, off + j, none⟩ = some v)
    (hu : P.underlying ty = some d) (hd : (match d with | .struct _ | .array _ _ => true | _ => false) = true) (hi : (P.info? ty).map (·.size) = some cs.length)
    (h : wpList P ops Q rest (a.put o.dst (.agg cs.toArray)) w) : wpList P ops Q (o :: rest) a w :=
  wpList_plain hgd fun _ hK => wp_load_at ty x ho b off hx cs d hc hu hd hi (hK _ _ h)

/-- An element of one cell of an array value. -/
theorem run_index_agg (t e : TypeId) (n : Nat) (cs : List Value) (v : Value) (k : IntKind) (i : Nat) (h : P.underlying t = some (.array n e)) (he : (P.info? e).map (·.size) = some 1)
    (hagg : ∀ w : World, (isAgg e).run P w = .ok false w) (hi : i < n) (hv : cs[i]? = some v) (w : World) :
    (Instr.index t (.agg cs.toArray) (.int k i)).run P w = .ok v w := by
  have hn : 0 ≤ (i : Int) ∧ (i : Int) < (n : Int) := by omega
  cases hq : P.info? e with
  | none => simp [hq] at he
  | some j =>
    have hs : j.size = 1 := by simpa [hq] using he
    simp only [Instr.index, run_underlying h, asIntOf, sizeOf, typeInfo, Sem.run_bind, Sem.run_pure, Result.andThen_ok]
    rw [if_pos hn]
    simp [part, hagg, sizeOf, typeInfo, hq, hs, hv]

/-- Slice type t has elements of type e: sz cells, bt bytes, the zero value z. -/
structure Elem (P : Program) (t e : TypeId) (z : Value) (sz bt : Nat) : Prop where
  ht : P.underlying t = some (.slice e)
  hi : (P.info? e).map (fun i => (i.zero, i.size, i.bytes)) = some (some z, sz, bt)
  hz : z.cells.size = sz
  hp : 0 < sz
  hb : bt ≤ 1024

/-- The cells news are read at A. -/
def CellsAt (w : World) (A : Option Addr) (news : List Value) : Prop := ∀ j u, news[j]? = some u → ∃ ad, A = some ad ∧ w.cell? (ad.add j) = some u

theorem run_app_nil {t e : TypeId} {z : Value} {sz bt : Nat} (E : Elem P t e z sz bt) (w : World) (base : Nat) (ty : TypeId) (v : Value) (n : Nat) (xs : List Value) (hown : w.ownsRow base e sz v n xs) (c : Nat) :
    (Builtin.append_ #[t, t] ty #[v, .slice none 0 c]).run P w = .ok v w := by
  obtain ⟨i, hi, _, _, _⟩ := info_parts E.hi
  have ht := E.ht
  rcases hown.2 with ⟨rfl, rfl⟩ | ⟨g, cap, cur, rfl, _, _, hnc, _⟩
  · simp [Builtin.append_, run_underlying ht, sizeOf, typeInfo, hi, Builtin.lenOf, Builtin.firstCells]
  · simp [Builtin.append_, run_underlying ht, sizeOf, typeInfo, hi, Builtin.lenOf, Builtin.firstCells, hnc, storeCells]

/-- append of m elements, read at A, onto a row that lies at the head of its block. -/
theorem run_app {t e : TypeId} {z : Value} {sz bt : Nat} (E : Elem P t e z sz bt) (w : World) (base : Nat) (ty : TypeId) (v : Value) (n : Nat) (xs : List Value) (hown : w.ownsRow base e sz v n xs)
    (A : Option Addr) (m c : Nat) (news : List Value) (hl : news.length = m * sz) (hnews : CellsAt w A news) (h1 : ∀ u ∈ news, u.oneCell' = true) (hlen : n + m ≤ 137438953472) (hbase : base ≤ w.heap.size) :
    ∃ v' w', (Builtin.append_ #[t, t] ty #[v, .slice A m c]).run P w = .ok v' w' ∧ w'.ownsRow base e sz v' (n + m) (xs ++ news) ∧ w.grownBy w' v.ownBlock ∧ (v'.ownBlock = v.ownBlock ∨ v'.ownBlock = some w.heap.size) := by
  obtain ⟨i, hi, hz, hsz, hby⟩ := info_parts E.hi
  have hb := E.hb
  have hp := E.hp
  have hm : (n + m) * bt ≤ 137438953472 * 1024 := Nat.mul_le_mul hlen hb
  rcases A with _ | ad
  · have hn : news = [] := by
      cases news with
      | nil => rfl
      | cons u r =>
        obtain ⟨ad, h, _⟩ := hnews 0 u rfl
        cases h
    subst hn
    have h0 : m = 0 := by
      rcases Nat.eq_zero_or_pos m with h | h
      · exact h
      · have := Nat.mul_pos h hp
        simp at hl
        omega
    subst h0
    exact ⟨v, w, run_app_nil E w base ty v n xs hown c, by simpa using hown, World.grownBy.refl w _, .inl rfl⟩
  · obtain ⟨v', w', h2, h3, h4, _, h5⟩ := run_append_own_at (P := P) w base t ty e i z sz bt E.ht hi hz hsz hby E.hz E.hp v n xs hown ad m c news hl (fun j u hu => by
      obtain ⟨ad', h, hc⟩ := hnews j u hu
      injection h with h
      subst h
      exact hc) h1 (by unfold maxLen; omega) (by omega) hbase
    exact ⟨v', w', h2, h3, h4, h5⟩

theorem wp_app {t e : TypeId} {z : Value} {sz bt : Nat} (E : Elem P t e z sz bt) {o : Oper} {a : Act} {w : World} {K : Act → World → Prop} {Q : Exit → Act → World → Prop} (s x : Operand)
    (ho : o.op = .call { callee := .builtin .append, args := #[s, x], argTypes := #[t, t] })
    (base : Nat) (v : Value) (n : Nat) (xs : List Value) (hs : a.eval s = v) (hown : w.ownsRow base e sz v n xs)
    (A : Option Addr) (m c : Nat) (news : List Value) (hx : a.eval x = .slice A m c) (hl : news.length = m * sz) (hnews : CellsAt w A news) (h1 : ∀ u ∈ news, u.oneCell' = true)
    (hlen : n + m ≤ 137438953472) (hbase : base ≤ w.heap.size)
    (h : ∀ v' w', w'.ownsRow base e sz v' (n + m) (xs ++ news) → w.grownBy w' v.ownBlock → (v'.ownBlock = v.ownBlock ∨ v'.ownBlock = some w.heap.size) → K (a.put o.dst v') w') : o.wp P a w K Q := by
  obtain ⟨v', w', hrun, h2, h3, h4⟩ := run_app E w base o.type v n xs hown A m c news hl hnews h1 hlen hbase
  unfold Oper.wp execOp
  simp only [ho, resolve, invoke, builtin, Sem.run_bind, Sem.run_pure, Result.andThen_ok, List.map_toArray, List.map_cons, List.map_nil, hs, hx, hrun]
  exact h v' w' h2 h3 h4

theorem wpList_app {t e : TypeId} {z : Value} {sz bt : Nat} (E : Elem P t e z sz bt) {ops : Array Oper} {rest : List Oper} {o : Oper} {a : Act} {w : World} {Q : Exit → Act → World → Prop} (hgd : o.guard = none) (s x : Operand)
    (ho : o.op = .call { callee := .builtin .append, args := #[s, x], argTypes := #[t, t] })
    (base : Nat) (v : Value) (n : Nat) (xs : List Value) (hs : a.eval s = v) (hown : w.ownsRow base e sz v n xs)
    (A : Option Addr) (m c : Nat) (news : List Value) (hx : a.eval x = .slice A m c) (hl : news.length = m * sz) (hnews : CellsAt w A news) (h1 : ∀ u ∈ news, u.oneCell' = true)
    (hlen : n + m ≤ 137438953472) (hbase : base ≤ w.heap.size)
    (h : ∀ v' w', w'.ownsRow base e sz v' (n + m) (xs ++ news) → w.grownBy w' v.ownBlock → (v'.ownBlock = v.ownBlock ∨ v'.ownBlock = some w.heap.size) → wpList P ops Q rest (a.put o.dst v') w') :
    wpList P ops Q (o :: rest) a w :=
  wpList_plain hgd fun _ hK => wp_app E s x ho base v n xs hs hown A m c news hx hl hnews h1 hlen hbase fun v' w' h2 h3 h4 => hK _ _ (h v' w' h2 h3 h4)

/-- .. as one step of a region that draws its order. -/
theorem step_app {t e : TypeId} {z : Value} {sz bt : Nat} (E : Elem P t e z sz bt) {ops : Array Oper} {o : Oper} {a : Act} {w : World} {K : Act → World → Prop} {Q : Exit → Act → World → Prop} {X : Prop} (hgd : o.guard = none) (s x : Operand)
    (ho : o.op = .call { callee := .builtin .append, args := #[s, x], argTypes := #[t, t] })
    (base : Nat) (v : Value) (n : Nat) (xs : List Value) (hs : a.eval s = v) (hown : w.ownsRow base e sz v n xs)
    (A : Option Addr) (m c : Nat) (news : List Value) (hx : a.eval x = .slice A m c) (hl : news.length = m * sz) (hnews : CellsAt w A news) (h1 : ∀ u ∈ news, u.oneCell' = true)
    (hlen : n + m ≤ 137438953472) (hbase : base ≤ w.heap.size)
    (h : ∀ v' w', w'.ownsRow base e sz v' (n + m) (xs ++ news) → w.grownBy w' v.ownBlock → (v'.ownBlock = v.ownBlock ∨ v'.ownBlock = some w.heap.size) → K (a.put o.dst v') w') :
    if Region.wanted o (yielded ops a.tmps) = true then Oper.wp P o a w K Q else X := by
  have hw : Region.wanted o (yielded ops a.tmps) = true := by simp [Region.wanted, hgd]
  rw [if_pos hw]
  exact wp_app E s x ho base v n xs hs hown A m c news hx hl hnews h1 hlen hbase h

theorem CellsAt.of_own {w : World} {base : Nat} {e : TypeId} {sz : Nat} {A : Option Addr} {n c : Nat} {xs : List Value} (h : w.ownsRow base e sz (.slice A n c) n xs) : CellsAt w A xs := by
  intro j u hu
  rcases h.2 with ⟨_, h0⟩ | ⟨g, cap, cur, hv, _⟩
  · have := h.1
    rw [h0, Nat.zero_mul] at this
    rw [List.eq_nil_of_length_eq_zero this] at hu
    simp at hu
  · simp only [Value.slice.injEq] at hv
    obtain ⟨rfl, _⟩ := hv
    exact ⟨_, rfl, h.cells (g := g) rfl j u hu⟩

theorem CellsAt.new (w : World) (t : TypeId) (l : List Value) : CellsAt (w.alloc (.cells l.toArray t)) (some ⟨w.heap.size, 0, none⟩) l := by
  intro j u hu
  refine ⟨_, rfl, ?_⟩
  rw [add_none, (At.new w t l).cell, Nat.zero_add]
  exact hu

theorem CellsAt.cells {w w' : World} {A : Option Addr} {news : List Value} (h : CellsAt w A news) (hc : ∀ p : Addr, ∀ u, w.cell? p = some u → w'.cell? p = some u) : CellsAt w' A news := by
  intro j u hu
  obtain ⟨ad, hA, h1⟩ := h j u hu
  exact ⟨ad, hA, hc _ _ h1⟩

/-- append of ONE element of one cell, which the statement itself has put into a block of its own. -/
theorem wpList_push {t e : TypeId} {z : Value} {bt : Nat} (E : Elem P t e z 1 bt) {ops : Array Oper} {rest : List Oper} {o : Oper} {a : Act} {w : World} {Q : Exit → Act → World → Prop} (hgd : o.guard = none) (s x : Operand)
    (ho : o.op = .call { callee := .builtin .append, args := #[s, x], argTypes := #[t, t] })
    (base : Nat) (v : Value) (n : Nat) (xs : List Value) (u : Value) (hs : a.eval s = v) (hown : w.ownsRow base e 1 v n xs)
    (hx : a.eval x = .slice (some ⟨w.heap.size, 0, none⟩) 1 1) (h1 : u.oneCell' = true)
    (hlen : n + 1 ≤ 137438953472) (hbase : base ≤ w.heap.size) (t0 : TypeId)
    (h : ∀ v' w', w'.ownsRow base e 1 v' (n + 1) (xs ++ [u]) → w.grownBy w' v.ownBlock → (v'.ownBlock = v.ownBlock ∨ v'.ownBlock = some (w.heap.size + 1)) → wpList P ops Q rest (a.put o.dst v') w') :
    wpList P ops Q (o :: rest) a (w.alloc (.cells #[u] t0)) := by
  refine wpList_app E hgd s x ho base v n xs hs (hown.alloc _) (some ⟨w.heap.size, 0, none⟩) 1 1 [u] hx rfl (CellsAt.new w t0 [u]) (by simpa using h1) hlen (Nat.le_trans hbase (by simp)) ?_
  · intro v' w' h2 h3 h5
    refine h v' w' h2 ?_ (by simpa using h5)
    exact ⟨h3.os, h3.tape, h3.output, Nat.le_trans (by simp) h3.size, fun k hk hn => (h3.block k (by simp; omega) hn).trans (Below.heap_alloc w _ k hk)⟩
end

theorem ownsRow_fr {w w' : World} {base : Nat} {e : TypeId} {sz : Nat} {v : Value} {n : Nat} {xs : List Value} {S : List Nat} (h : w.ownsRow base e sz v n xs) (hf : Fr S w w') (hv : ∀ g, v.ownBlock = some g → g ∉ S) : w'.ownsRow base e sz v n xs := by
  refine ⟨h.1, ?_⟩
  rcases h.2 with hn | ⟨g, cap, cur, rfl, hb, hgg, rest⟩
  · exact .inl hn
  · refine .inr ⟨g, cap, cur, rfl, hb, ?_, rest⟩
    rw [hf.block g (Array.getElem?_eq_some_iff.1 hgg).1 (hv g rfl)]
    exact hgg

theorem ownsRow_drew {w : World} {base : Nat} {e : TypeId} {sz : Nat} {v : Value} {n : Nat} {xs : List Value} (h : w.ownsRow base e sz v n xs) : w.drew.ownsRow base e sz v n xs := h
theorem ownsRow_drewN {w : World} {base : Nat} {e : TypeId} {sz : Nat} {v : Value} {n : Nat} {xs : List Value} (h : w.ownsRow base e sz v n xs) (k : Nat) : (w.drewN k).ownsRow base e sz v n xs := h

theorem ownsRow_form {w : World} {base : Nat} {e : TypeId} {sz : Nat} {v : Value} {n : Nat} {xs : List Value} (h : w.ownsRow base e sz v n xs) : ∃ A cap, v = .slice A n cap := by
  rcases h.2 with ⟨rfl, rfl⟩ | ⟨g, cap, cur, rfl, _⟩
  · exact ⟨none, 0, rfl⟩
  · exact ⟨_, cap, rfl⟩

theorem grown_drew {w w' : World} {r : Option Nat} (h : w.drew.grownBy w' r) : w.grownBy w' r := ⟨h.os, h.tape, h.output, h.size, h.block⟩
theorem grown_drewN {w w' : World} {n : Nat} {r : Option Nat} (h : (w.drewN n).grownBy w' r) : w.grownBy w' r := ⟨h.os, h.tape, h.output, h.size, h.block⟩

theorem ownsRow_base {w : World} {base base' : Nat} {e : TypeId} {sz : Nat} {v : Value} {n : Nat} {xs : List Value} (h : w.ownsRow base e sz v n xs) (hb : base' ≤ base) : w.ownsRow base' e sz v n xs := by
  refine ⟨h.1, ?_⟩
  rcases h.2 with hn | ⟨g, cap, cur, hv, hg, rest⟩
  · exact .inl hn
  · exact .inr ⟨g, cap, cur, hv, Nat.le_trans hb hg, rest⟩

/-- A row that is not empty: its block, whole. -/
theorem ownsRow_at {w : World} {base : Nat} {e : TypeId} {v : Value} {n : Nat} {xs : List Value} (h : w.ownsRow base e 1 v n xs) (hn : 0 < n) :
    ∃ g cap rest, v = .slice (some ⟨g, 0, none⟩) n cap ∧ base ≤ g ∧ n ≤ cap ∧ At w g e (xs ++ rest) ∧ xs.length = n ∧ (xs ++ rest).length = cap := by
  rcases h.2 with ⟨_, h0⟩ | ⟨g, cap, cur, rfl, hb, hgg, hnc, _, hcs, ht⟩
  · omega
  · refine ⟨g, cap, cur.toList.drop (n * 1), rfl, hb, hnc, ?_, by simpa using h.1, ?_⟩
    · unfold At
      rw [← ht, List.take_append_drop]
      simpa using hgg
    · rw [← ht, List.take_append_drop]
      simpa using hcs

/-- The slice at A holds the cells xs (one cell each element), in old memory. -/
def RowIn (w : World) (A : Option Addr) (xs : List Value) : Prop :=
  ∀ i u, xs[i]? = some u → ∃ b o, A = some ⟨b, o, none⟩ ∧ b < w.heap.size ∧ w.cell? ⟨b, o + i, none⟩ = some u

theorem RowIn.fr {w w' : World} {A : Option Addr} {xs : List Value} {S : List Nat} (h : RowIn w A xs) (hf : Fr S w w') (hs : ∀ b o, A = some ⟨b, o, none⟩ → b ∉ S) : RowIn w' A xs := by
  intro i u hx
  obtain ⟨b, o, hA, hb, h1⟩ := h i u hx
  exact ⟨b, o, hA, Nat.lt_of_lt_of_le hb hf.size, by rw [hf.cell (p := ⟨b, o + i, none⟩) hb (hs b o hA)]; exact h1⟩

theorem RowIn.fr0 {w w' : World} {A : Option Addr} {xs : List Value} (h : RowIn w A xs) (hf : Fr [] w w') : RowIn w' A xs := h.fr hf (by simp)

theorem CellsAt.of_row {w : World} {A : Option Addr} {xs : List Value} (h : RowIn w A xs) : CellsAt w A xs := by
  intro j u hu
  obtain ⟨b, o, hA, _, hc⟩ := h j u hu
  exact ⟨_, hA, by rw [add_none]; exact hc⟩

theorem RowIn.of_own {w : World} {base : Nat} {e : TypeId} {A : Option Addr} {n c : Nat} {xs : List Value} (h : w.ownsRow base e 1 (.slice A n c) n xs) : RowIn w A xs := by
  intro j u hu
  rcases h.2 with ⟨_, h0⟩ | ⟨g, cap, cur, hv, _, hg, _⟩
  · have := h.1
    rw [h0, Nat.zero_mul] at this
    rw [List.eq_nil_of_length_eq_zero this] at hu
    simp at hu
  · simp only [Value.slice.injEq] at hv
    obtain ⟨rfl, _⟩ := hv
    have hc := h.cells (g := g) rfl j u hu
    rw [add_none] at hc
    exact ⟨g, 0, rfl, (Array.getElem?_eq_some_iff.1 hg).1, hc⟩

end Go.Proofs.YtlepfnihpdhcaaaGreatDoor
namespace Go.Proofs.YtlepfnihpdhcaaaGreatDoor
open Go.RowKit

section
variable {P : Program}

theorem run_field_agg (t : TypeId) (fs : Array Field) (i : Nat) (f : Field) (cs : List Value) (v : Value) (h : P.underlying t = some (.struct fs)) (hf : fs[i]? = some f) (he : (P.info? f.type).map (·.size) = some 1)
    (hagg : ∀ w : World, (isAgg f.type).run P w = .ok false w) (hv : cs[f.offset]? = some v) (w : World) : (Instr.field t (.agg cs.toArray) i).run P w = .ok v w := by
  cases hq : P.info? f.type with
  | none => simp [hq] at he
  | some j =>
    have hs : j.size = 1 := by simpa [hq] using he
    simp only [Instr.field, run_underlying h, Sem.run_bind, Result.andThen_ok, hf]
    simp [part, asAgg, hagg, sizeOf, typeInfo, hq, hs, hv]

/-- append of ONE element of sz cells, which the statement itself has put into a block of its own. -/
theorem wpList_pushN {t e : TypeId} {z : Value} {sz bt : Nat} (E : Elem P t e z sz bt) {ops : Array Oper} {rest : List Oper} {o : Oper} {a : Act} {w : World} {Q : Exit → Act → World → Prop} (hgd : o.guard = none) (s x : Operand)
    (ho : o.op = .call { callee := .builtin .append, args := #[s, x], argTypes := #[t, t] })
    (base : Nat) (v : Value) (n : Nat) (xs us : List Value) (hs : a.eval s = v) (hown : w.ownsRow base e sz v n xs)
    (hx : a.eval x = .slice (some ⟨w.heap.size, 0, none⟩) 1 1) (hl : us.length = sz) (h1 : ∀ u ∈ us, u.oneCell' = true)
    (hlen : n + 1 ≤ 137438953472) (hbase : base ≤ w.heap.size) (t0 : TypeId)
    (h : ∀ v' w', w'.ownsRow base e sz v' (n + 1) (xs ++ us) → w.grownBy w' v.ownBlock → (v'.ownBlock = v.ownBlock ∨ v'.ownBlock = some (w.heap.size + 1)) → wpList P ops Q rest (a.put o.dst v') w') :
    wpList P ops Q (o :: rest) a (w.alloc (.cells us.toArray t0)) := by
  refine wpList_app E hgd s x ho base v n xs hs (hown.alloc _) (some ⟨w.heap.size, 0, none⟩) 1 1 us hx (by omega) (CellsAt.new w t0 us) h1 hlen (Nat.le_trans hbase (by simp)) ?_
  intro v' w' h2 h3 h5
  refine h v' w' h2 ?_ (by simpa using h5)
  exact ⟨h3.os, h3.tape, h3.output, Nat.le_trans (by simp) h3.size, fun k hk hn => (h3.block k (by simp; omega) hn).trans (Below.heap_alloc w _ k hk)⟩
end

/-- In a region that draws: more may be known of the worlds from here on. -/
theorem wpAnyH_weaken {P : Program} {ops : Array Oper} {Q : Exit → Act → World → Prop} {md : Region.Mode} {S S' : World → Prop} (hs : ∀ w, S' w → S w) :
    ∀ (fuel : Nat) (listed : Array Bool) (a : Act) (w : World), wpAnyH P md ops Q S' fuel listed a w → wpAnyH P md ops Q S fuel listed a w
  | 0, _, _, _, h => h
  | fuel + 1, _, _, _, h => ⟨h.1, fun i hi => wpOp_mono (fun a' w' h' => ⟨hs _ h'.1, wpAnyH_weaken hs fuel _ a' w' h'.2⟩) (h.2 i hi)⟩

end Go.Proofs.YtlepfnihpdhcaaaGreatDoor
namespace Go.Proofs.YtlepfnihpdhcaaaGreatDoor
open Go.RowKit

theorem At.setRow {w : World} {g : Nat} {t : TypeId} {l : List Value} (h : At w g t l) (l' : List Value) : At (w.setRow g l'.toArray) g t l' := setRow_heap w g _ _ t (0, 0) h
theorem Fr.setRow (w : World) (g : Nat) (cs : Array Value) : Fr [g] w (w.setRow g cs) :=
  ⟨rfl, rfl, rfl, by simp [World.setRow], fun k _ hn => by
    have hne : g ≠ k := fun e => hn (by simp [e])
    simp [World.setRow, Array.getElem?_modify, hne]⟩

section
variable {P : Program}

theorem run_copy_at {dT sT elem : TypeId} (hu : P.underlying dT = some (.slice elem)) (hs : (P.info? elem).map (·.size) = some 1) (w : World) (ty : TypeId) (g off dLen dCap : Nat) (A : Option Addr) (sLen sCap : Nat) (t : TypeId) (l cs : List Value)
    (hat : At w g t l) (hn : cs.length = Nat.min sLen dLen) (hsrc : CellsAt w A cs) (hfit : off + cs.length ≤ l.length) (h1 : ∀ v ∈ cs, v.oneCell' = true) :
    ∃ w', (Builtin.copy_ #[dT, sT] ty #[.slice (some ⟨g, off, none⟩) dLen dCap, .slice A sLen sCap]).run P w = .ok (.int .i64 (cs.length : Int)) w' ∧ Fr [g] w w' ∧ At w' g t (l.take off ++ cs ++ l.drop (off + cs.length)) := by
  cases A with
  | none =>
    have h0 : cs = [] := by
      cases cs with
      | nil => rfl
      | cons v r =>
        obtain ⟨_, hA, _⟩ := hsrc 0 v rfl
        cases hA
    subst h0
    refine ⟨w, ?_, Fr.refl _ _, by simpa using hat⟩
    rw [run_copy_none w dT sT ty elem _ none dLen dCap sLen sCap hu hs (by simpa using hn.symm)]
    rfl
  | some a =>
    have := run_copy_row (P := P) w dT sT ty elem g off dLen dCap a sLen sCap l.toArray t cs hu hs hat hn (fun j v hv => by
      obtain ⟨ad, hA, hc⟩ := hsrc j v hv
      injection hA with hA
      subst hA
      exact hc) (by simpa using hfit) h1
    exact ⟨_, this, Fr.setRow _ _ _, hat.setRow _⟩

theorem wpList_copy_at {dT sT elem : TypeId} (hu : P.underlying dT = some (.slice elem)) (hs : (P.info? elem).map (·.size) = some 1) {ops : Array Oper} {rest : List Oper} {o : Oper} {a : Act} {w : World} {Q : Exit → Act → World → Prop} (hgd : o.guard = none) (d s : Operand)
    (ho : o.op = .call { callee := .builtin .copy, args := #[d, s], argTypes := #[dT, sT] }) (g off dLen dCap : Nat) (A : Option Addr) (sLen sCap : Nat) (t : TypeId) (l cs : List Value)
    (hd : a.eval d = .slice (some ⟨g, off, none⟩) dLen dCap) (hv : a.eval s = .slice A sLen sCap)
    (hat : At w g t l) (hn : cs.length = Nat.min sLen dLen) (hsrc : CellsAt w A cs) (hfit : off + cs.length ≤ l.length) (h1 : ∀ v ∈ cs, v.oneCell' = true) (nn : Nat) (hnn : cs.length = nn) (l' : List Value) (hl' : l' = l.take off ++ cs ++ l.drop (off + cs.length))
    (h : ∀ w', Fr [g] w w' → At w' g t l' → wpList P ops Q rest (a.put o.dst (.int .i64 (nn : Int))) w') : wpList P ops Q (o :: rest) a w := by
  subst hnn hl'
  obtain ⟨w', hrun, hf, ha⟩ := run_copy_at hu hs w o.type g off dLen dCap A sLen sCap t l cs hat hn hsrc hfit h1
  refine wpList_plain hgd fun K hK => ?_
  unfold Oper.wp execOp
  simp only [ho, resolve, invoke, builtin, Sem.run_bind, Sem.run_pure, Result.andThen_ok, List.map_toArray, List.map_cons, List.map_nil, hd, hv]
  rw [hrun]
  exact hK _ _ (h w' hf ha)
end

end Go.Proofs.YtlepfnihpdhcaaaGreatDoor
namespace Go.Proofs.YtlepfnihpdhcaaaGreatDoor
open Go.RowKit

section
variable {P : Program}

theorem run_storeVar_at (w : World) (b off : Nat) (ty t : TypeId) (l cs : List Value) (hat : At w b t l) (hfit : off + cs.length ≤ l.length) (hi : (P.info? ty).map (·.size) = some cs.length) (h1 : ∀ v ∈ cs, v.oneCell' = true) :
    ∃ w', (storeVar ty ⟨b, off, none⟩ (.agg cs.toArray)).run P w = .ok () w' ∧ Fr [b] w w' ∧ At w' b t (l.take off ++ cs ++ l.drop (off + cs.length)) := by
  have := run_storeCells_at (P := P) b off t cs 0 l.toArray w hat (by simpa using hfit) h1
  simp only [Nat.add_zero] at this
  refine ⟨_, ?_, Fr.setRow _ _ _, hat.setRow _⟩
  cases hq : P.info? ty with
  | none => simp [hq] at hi
  | some i =>
    have hs : i.size = cs.length := by simpa [hq] using hi
    simp [storeVar, sizeOf, typeInfo, hq, Value.cells, hs, this]

theorem wp_store_at {o : Oper} {a : Act} {w : World} {K : Act → World → Prop} {Q : Exit → Act → World → Prop} (ty : TypeId) (x y : Operand) (ho : o.op = .store ty x y)
    (b off : Nat) (hx : a.eval x = .pointer (some ⟨b, off, none⟩)) (t : TypeId) (l cs : List Value) (hy : a.eval y = .agg cs.toArray) (hat : At w b t l) (hfit : off + cs.length ≤ l.length) (hi : (P.info? ty).map (·.size) = some cs.length) (h1 : ∀ v ∈ cs, v.oneCell' = true)
    (l' : List Value) (hl' : l' = l.take off ++ cs ++ l.drop (off + cs.length)) (h : ∀ w', Fr [b] w w' → At w' b t l' → K (a.put o.dst undef) w') : o.wp P a w K Q := by
  subst hl'
  obtain ⟨w', hrun, hf, ha⟩ := run_storeVar_at w b off ty t l cs hat hfit hi h1
  unfold Oper.wp execOp
  simp only [ho, hx, hy, Instr.storeAt, Instr.sureAddr, Sem.run_bind, Sem.run_pure, Result.andThen_ok, hrun]
  exact h w' hf ha

theorem wpList_store_at {ops : Array Oper} {rest : List Oper} {o : Oper} {a : Act} {w : World} {Q : Exit → Act → World → Prop} (hgd : o.guard = none) (ty : TypeId) (x y : Operand) (ho : o.op = .store ty x y)
    (b off : Nat) (hx : a.eval x = .pointer (some ⟨b, off, none⟩)) (t : TypeId) (l cs : List Value) (hy : a.eval y = .agg cs.toArray) (hat : At w b t l) (hfit : off + cs.length ≤ l.length) (hi : (P.info? ty).map (·.size) = some cs.length) (h1 : ∀ v ∈ cs, v.oneCell' = true)
    (l' : List Value) (hl' : l' = l.take off ++ cs ++ l.drop (off + cs.length)) (h : ∀ w', Fr [b] w w' → At w' b t l' → wpList P ops Q rest (a.put o.dst undef) w') : wpList P ops Q (o :: rest) a w :=
  wpList_plain hgd fun _ hK => wp_store_at ty x y ho b off hx t l cs hy hat hfit hi h1 l' hl' fun w' hf ha => hK _ _ (h w' hf ha)

/-- .. into the block that was made last. -/
theorem wpList_store_new {ops : Array Oper} {rest : List Oper} {o : Oper} {a : Act} {w : World} {Q : Exit → Act → World → Prop} (hgd : o.guard = none) (ty : TypeId) (x y : Operand) (ho : o.op = .store ty x y)
    (hx : a.eval x = .pointer (some ⟨w.heap.size, 0, none⟩)) (t : TypeId) (z : Array Value) (cs : List Value) (hy : a.eval y = .agg cs.toArray) (hz : z.size = cs.length) (hi : (P.info? ty).map (·.size) = some cs.length) (h1 : ∀ v ∈ cs, v.oneCell' = true)
    (h : ∀ w', Fr [] w w' → At w' w.heap.size t cs → wpList P ops Q rest (a.put o.dst undef) w') : wpList P ops Q (o :: rest) a (w.alloc (.cells z t)) := by
  refine wpList_store_at hgd ty x y ho w.heap.size 0 hx t z.toList cs hy (by simpa using At.new w t z.toList) (by simp [hz]) hi h1 cs (by simp [← hz]) ?_
  intro w' hf ha
  exact h w' (((Fr.refl _ _).alloc _).trans' hf (by simp)) ha
end

end Go.Proofs.YtlepfnihpdhcaaaGreatDoor
