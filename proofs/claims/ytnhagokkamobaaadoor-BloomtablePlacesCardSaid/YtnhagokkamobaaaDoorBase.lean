/- Plain facts about memory that all texts of this claim use: a block known whole, and a frame that names the blocks that may have changed. No condition. -/
import Derived.WalkKit
import Derived.Below
import Derived.Deep.Draws
import Derived.Lib.Hide
namespace Go.Proofs.YtnhagokkamobaaaDoor
open Go.RowKit

/-- Block b is just the cells l, of element type t, none of them frozen. -/
def At (w : World) (b : Nat) (t : TypeId) (l : List Value) : Prop := w.heap[b]? = some (.cells l.toArray t (0, 0))

/-- w' is w, but for new blocks and for the blocks that S names. -/
structure Fr (S : List Nat) (w w' : World) : Prop where
  os : w'.os = w.os
  tape : w'.tape = w.tape
  output : w'.output = w.output
  size : w.heap.size ≤ w'.heap.size
  block : ∀ k, k < w.heap.size → k ∉ S → w'.heap[k]? = w.heap[k]?

theorem Fr.refl (S : List Nat) (w : World) : Fr S w w := ⟨rfl, rfl, rfl, Nat.le_refl _, fun _ _ _ => rfl⟩

theorem Fr.trans' {S S' : List Nat} {a b c : World} (h : Fr S a b) (k : Fr S' b c) (hs : ∀ x, x ∈ S' → x ∈ S ∨ a.heap.size ≤ x) : Fr S a c :=
  ⟨k.os.trans h.os, k.tape.trans h.tape, k.output.trans h.output, Nat.le_trans h.size k.size, fun i hi hn =>
    (k.block i (Nat.lt_of_lt_of_le hi h.size) (fun hm => by
      rcases hs i hm with hm | hm
      · exact hn hm
      · omega)).trans (h.block i hi hn)⟩

theorem Fr.trans {S : List Nat} {a b c : World} (h : Fr S a b) (k : Fr S b c) : Fr S a c := h.trans' k fun _ hx => .inl hx
theorem Fr.then0 {S : List Nat} {a b c : World} (h : Fr S a b) (k : Fr [] b c) : Fr S a c := h.trans' k fun _ hx => by cases hx

theorem Fr.mono {S S' : List Nat} {a b : World} (h : Fr S a b) (hs : ∀ x, x ∈ S → x ∈ S' ∨ a.heap.size ≤ x) : Fr S' a b := (Fr.refl S' a).trans' h hs

theorem Fr.drew {S : List Nat} {a b : World} (h : Fr S a b) : Fr S a b.drew := ⟨h.os, h.tape, h.output, h.size, h.block⟩
theorem Fr.drewN {S : List Nat} {a b : World} (h : Fr S a b) (n : Nat) : Fr S a (b.drewN n) := ⟨h.os, h.tape, h.output, h.size, h.block⟩

theorem Fr.alloc {S : List Nat} {a b : World} (h : Fr S a b) (o : Obj) : Fr S a (b.alloc o) :=
  ⟨h.os, h.tape, h.output, Nat.le_trans h.size (by simp), fun i hi hn => (Below.heap_alloc b o i (Nat.lt_of_lt_of_le hi h.size)).trans (h.block i hi hn)⟩

theorem Fr.setCell {S : List Nat} {a b : World} (h : Fr S a b) {p : Addr} (hp : p.block ∈ S ∨ a.heap.size ≤ p.block) (u : Value) : Fr S a (b.setCell p u) :=
  ⟨h.os, h.tape, h.output, by simpa [World.setCell] using h.size, fun i hi hn => (Below.heap_setCell b p u i (by
    rintro rfl
    rcases hp with hp | hp
    · exact hn hp
    · omega)).trans (h.block i hi hn)⟩

theorem Fr.grown {S : List Nat} {a b c : World} {row : Option Nat} (h : Fr S a b) (hg : b.grownBy c row) (hr : ∀ k, row = some k → k ∈ S ∨ a.heap.size ≤ k) : Fr S a c :=
  ⟨hg.os.trans h.os, hg.tape.trans h.tape, hg.output.trans h.output, Nat.le_trans h.size hg.size, fun i hi hn =>
    (hg.block i (Nat.lt_of_lt_of_le hi h.size) (fun e => by
      rcases hr i e.symm with hm | hm
      · exact hn hm
      · omega)).trans (h.block i hi hn)⟩

theorem Fr.below {S : List Nat} {a b : World} {B : Nat} (h : Fr S a b) (hB : B ≤ a.heap.size) (hs : ∀ x, x ∈ S → B ≤ x) : Below B a b :=
  ⟨h.os, h.tape, h.output, h.size, fun k hk => h.block k (by omega) (fun hm => by have := hs k hm; omega)⟩

theorem Fr.of_below {a b : World} (h : Below a.heap.size a b) (S : List Nat) : Fr S a b := ⟨h.os, h.tape, h.output, h.size, fun k hk _ => h.block k hk⟩

theorem Fr.cell {S : List Nat} {a b : World} (h : Fr S a b) {p : Addr} (hp : p.block < a.heap.size) (hn : p.block ∉ S) : b.cell? p = a.cell? p := World.cell?_of_block (w := a) (h.block p.block hp hn)
theorem Fr.frozen {S : List Nat} {a b : World} (h : Fr S a b) {p : Addr} (hp : p.block < a.heap.size) (hn : p.block ∉ S) : b.frozen? p = a.frozen? p := World.frozen?_of_block (w := a) (h.block p.block hp hn)

section
variable {w w' : World} {b : Nat} {t : TypeId} {l : List Value}

theorem At.lt (h : At w b t l) : b < w.heap.size := by
  rcases Nat.lt_or_ge b w.heap.size with hl | hl
  · exact hl
  · unfold At at h
    rw [Array.getElem?_eq_none hl] at h
    cases h
theorem At.cell (h : At w b t l) (i : Nat) : w.cell? ⟨b, i, none⟩ = l[i]? := by
  unfold At at h
  simp [World.cell?, h]
theorem At.frozen (h : At w b t l) (i : Nat) : w.frozen? ⟨b, i, none⟩ = false := by
  unfold At at h
  simp [World.frozen?, h]
theorem At.new (w : World) (t : TypeId) (l : List Value) : At (w.alloc (.cells l.toArray t)) w.heap.size t l := heap_alloc_new w _
theorem At.drew (h : At w b t l) : At w.drew b t l := h
theorem At.drewN (h : At w b t l) (n : Nat) : At (w.drewN n) b t l := h
theorem At.alloc (h : At w b t l) (o : Obj) : At (w.alloc o) b t l := (Below.heap_alloc w o b h.lt).trans h
theorem At.set (h : At w b t l) (i : Nat) (u : Value) : At (w.setCell ⟨b, i, none⟩ u) b t (l.set i u) := by
  unfold At at h ⊢
  simp [World.setCell, Array.getElem?_modify, h]
theorem At.far (h : At w b t l) {p : Addr} (hp : b ≠ p.block) (u : Value) : At (w.setCell p u) b t l := (Below.heap_setCell w p u b hp).trans h
theorem At.fr {S : List Nat} (h : At w b t l) (hf : Fr S w w') (hb : b ∉ S) : At w' b t l := (hf.block b h.lt hb).trans h
theorem At.below {B : Nat} (h : At w b t l) (hf : Below B w w') (hb : b < B) : At w' b t l := (hf.block b hb).trans h
theorem At.inj {l' : List Value} {t' : TypeId} (h : At w b t l) (h' : At w b t' l') : l = l' := by
  unfold At at h h'
  rw [h] at h'
  simp only [Option.some.injEq, Obj.cells.injEq] at h'
  have := congrArg Array.toList h'.1
  simpa using this
theorem At.ne {b' : Nat} {t' : TypeId} {l' : List Value} (h : At w b t l) (h' : At w b' t' l') (hne : t ≠ t') : b ≠ b' := by
  rintro rfl
  unfold At at h h'
  rw [h] at h'
  simp only [Option.some.injEq, Obj.cells.injEq] at h'
  exact hne h'.2.1
end

/-- Below block B, but for the blocks that S names, w' is as w was. -/
structure Bel (B : Nat) (S : List Nat) (w w' : World) : Prop where
  os : w'.os = w.os
  tape : w'.tape = w.tape
  output : w'.output = w.output
  size : w.heap.size ≤ w'.heap.size
  block : ∀ k, k < B → k ∉ S → w'.heap[k]? = w.heap[k]?

theorem Bel.refl (B : Nat) (S : List Nat) (w : World) : Bel B S w w := ⟨rfl, rfl, rfl, Nat.le_refl _, fun _ _ _ => rfl⟩
theorem Bel.trans {B : Nat} {S : List Nat} {a b c : World} (h : Bel B S a b) (k : Bel B S b c) : Bel B S a c :=
  ⟨k.os.trans h.os, k.tape.trans h.tape, k.output.trans h.output, Nat.le_trans h.size k.size, fun i hi hn => (k.block i hi hn).trans (h.block i hi hn)⟩
theorem Bel.mono {B B' : Nat} {S S' : List Nat} {a b : World} (h : Bel B S a b) (hB : B' ≤ B) (hs : ∀ x, x ∈ S → x ∈ S' ∨ B' ≤ x) : Bel B' S' a b :=
  ⟨h.os, h.tape, h.output, h.size, fun i hi hn => h.block i (by omega) (fun hm => by
    rcases hs i hm with hm | hm
    · exact hn hm
    · omega)⟩
theorem Bel.drew {B : Nat} {S : List Nat} {a b : World} (h : Bel B S a b) : Bel B S a b.drew := ⟨h.os, h.tape, h.output, h.size, h.block⟩
theorem Bel.drewN {B : Nat} {S : List Nat} {a b : World} (h : Bel B S a b) (n : Nat) : Bel B S a (b.drewN n) := ⟨h.os, h.tape, h.output, h.size, h.block⟩
theorem Bel.alloc {B : Nat} {S : List Nat} {a b : World} (h : Bel B S a b) (hB : B ≤ b.heap.size) (o : Obj) : Bel B S a (b.alloc o) :=
  ⟨h.os, h.tape, h.output, Nat.le_trans h.size (by simp), fun i hi hn => (Below.heap_alloc b o i (by omega)).trans (h.block i hi hn)⟩
theorem Bel.setCell {B : Nat} {S : List Nat} {a b : World} (h : Bel B S a b) {p : Addr} (hp : p.block ∈ S ∨ B ≤ p.block) (u : Value) : Bel B S a (b.setCell p u) :=
  ⟨h.os, h.tape, h.output, by simpa [World.setCell] using h.size, fun i hi hn => (Below.heap_setCell b p u i (by
    rintro rfl
    rcases hp with hp | hp
    · exact hn hp
    · omega)).trans (h.block i hi hn)⟩
theorem Bel.fr {B : Nat} {S S' : List Nat} {a b c : World} (h : Bel B S a b) (k : Fr S' b c) (hB : B ≤ b.heap.size) (hs : ∀ x, x ∈ S' → x ∈ S ∨ B ≤ x) : Bel B S a c :=
  ⟨k.os.trans h.os, k.tape.trans h.tape, k.output.trans h.output, Nat.le_trans h.size k.size, fun i hi hn =>
    (k.block i (by omega) (fun hm => by
      rcases hs i hm with hm | hm
      · exact hn hm
      · omega)).trans (h.block i hi hn)⟩
theorem Bel.grown {B : Nat} {S : List Nat} {a b c : World} {row : Option Nat} (h : Bel B S a b) (hg : b.grownBy c row) (hB : B ≤ b.heap.size) (hr : ∀ k, row = some k → k ∈ S ∨ B ≤ k) : Bel B S a c :=
  ⟨hg.os.trans h.os, hg.tape.trans h.tape, hg.output.trans h.output, Nat.le_trans h.size hg.size, fun i hi hn =>
    (hg.block i (by omega) (fun e => by
      rcases hr i e.symm with hm | hm
      · exact hn hm
      · omega)).trans (h.block i hi hn)⟩
theorem Bel.cell {B : Nat} {S : List Nat} {a b : World} (h : Bel B S a b) {p : Addr} (hp : p.block < B) (hn : p.block ∉ S) : b.cell? p = a.cell? p := World.cell?_of_block (w := a) (h.block p.block hp hn)
theorem Bel.toFr {B : Nat} {S : List Nat} {a b : World} (h : Bel B S a b) (hB : a.heap.size ≤ B) : Fr S a b := ⟨h.os, h.tape, h.output, h.size, fun k hk hn => h.block k (by omega) hn⟩
theorem Fr.bel {B : Nat} {S S' : List Nat} {a b : World} (h : Fr S a b) (hB : B ≤ a.heap.size) (hs : ∀ x, x ∈ S → x ∈ S' ∨ B ≤ x) : Bel B S' a b := (Bel.refl B S' a).fr h hB hs
theorem Fr.thenBel {B : Nat} {S S' : List Nat} {a b c : World} (h : Fr S a b) (k : Bel B S' b c) (hB : a.heap.size ≤ B) (hs : ∀ x, x ∈ S' → x ∈ S ∨ a.heap.size ≤ x) : Fr S a c :=
  ⟨k.os.trans h.os, k.tape.trans h.tape, k.output.trans h.output, Nat.le_trans h.size k.size, fun i hi hn =>
    (k.block i (by omega) (fun hm => by
      rcases hs i hm with hm | hm
      · exact hn hm
      · omega)).trans (h.block i hi hn)⟩
theorem At.bel {w w' : World} {b : Nat} {t : TypeId} {l : List Value} {B : Nat} {S : List Nat} (h : At w b t l) (hf : Bel B S w w') (hb : b < B) (hn : b ∉ S) : At w' b t l := (hf.block b hb hn).trans h

end Go.Proofs.YtnhagokkamobaaaDoor
