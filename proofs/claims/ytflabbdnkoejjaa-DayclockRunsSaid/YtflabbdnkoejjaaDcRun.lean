/- The list of calls that the laws of the day clock take, and the function run that performs them. -/
import Derived.Test.YtflabbdnkoejjaaDcInv
import Derived.Test.YtflabbdnkoejjaaDcRefNew
import Derived.StillTailTactics
namespace Go.Proofs.Ytflabbdnkoejjaa
open Go.RowKit

structure Op3 where
  kind : Int
  dev : Int
  day : Int

structure Op3.Fits (x : Op3) : Prop where
  d0 : -9223372036854775808 ≤ x.day
  d1 : x.day ≤ 9223372036854775807
  v : (Lit.int .i64 x.dev).wf = true

/-- The slice at A holds the calls ops. -/
def OpsIn (w : World) (A : Option Addr) (ops : List Op3) : Prop :=
  ∀ i x, ops[i]? = some x → x.Fits ∧ ∃ b o, A = some ⟨b, o, none⟩ ∧ b < w.heap.size ∧ w.cell? ⟨b, o + i * 3, none⟩ = some (Value.int .i64 x.kind) ∧ w.cell? ⟨b, o + i * 3 + 1, none⟩ = some (Value.int .i64 x.dev) ∧ w.cell? ⟨b, o + i * 3 + 2, none⟩ = some (Value.int .i64 x.day)

theorem OpsIn.fr {w w' : World} {A : Option Addr} {ops : List Op3} {S : List Nat} (h : OpsIn w A ops) (hf : Fr S w w') (hs : ∀ x ∈ S, w.heap.size ≤ x) : OpsIn w' A ops := by
  intro i x hx
  obtain ⟨hfit, b, o, hA, hb, h1, h2, h3⟩ := h i x hx
  have hn : b ∉ S := fun hm => by have := hs b hm; omega
  have hc : ∀ j, w'.cell? ⟨b, j, none⟩ = w.cell? ⟨b, j, none⟩ := fun j => hf.cell (p := ⟨b, j, none⟩) hb hn
  exact ⟨hfit, b, o, hA, Nat.lt_of_lt_of_le hb hf.size, by rw [hc]; exact h1, by rw [hc]; exact h2, by rw [hc]; exact h3⟩

theorem OpsIn.mem {w : World} {A : Option Addr} {ops : List Op3} (h : OpsIn w A ops) {x : Op3} (hx : x ∈ ops) : x.Fits := by
  obtain ⟨i, hi⟩ := List.mem_iff_getElem?.1 hx
  exact (h i x hi).1

def Clk.op (c : Clk) (x : Op3) : Clk := if x.kind = 1 then c.rd x.day else c.hearI x.dev x.day
def Clk.runs (c : Clk) (ops : List Op3) : Clk := ops.foldl Clk.op c

theorem Clk.runs_snoc (c : Clk) (ops : List Op3) (k : Nat) (x : Op3) (h : ops[k]? = some x) : c.runs (ops.take (k + 1)) = (c.runs (ops.take k)).op x := by
  unfold Clk.runs
  rw [List.take_add_one, h]
  simp

theorem Clk.Inv.op {c : Clk} {m : Int} (h : c.Inv m) (h0 : 0 ≤ m) (hm : m ≤ 1000000000000) (x : Op3) (hx : x.Fits) : (c.op x).Inv (m + 1000) ∧ c.day ≤ (c.op x).day := by
  unfold Clk.op
  split
  · have := h.rd hm x.day hx.d0 hx.d1
    exact ⟨this.1, this.2.1⟩
  · have := h.hearI h0 x.dev x.day
    exact ⟨this.1.mono (by omega), this.2⟩

theorem Clk.Inv.runs {c : Clk} {m : Int} (h : c.Inv m) (h0 : 0 ≤ m) (ops : List Op3) (hm : m + 1000 * ops.length ≤ 1000000000000) (hf : ∀ x ∈ ops, x.Fits) : (c.runs ops).Inv (m + 1000 * ops.length) := by
  induction ops generalizing c m with
  | nil => simpa [Clk.runs] using h
  | cons x ops ih =>
    simp only [List.length_cons] at hm
    have h1 := (h.op h0 (by omega) x (hf x (by simp))).1
    have h2 := ih h1 (by omega) (by omega) (fun y hy => hf y (by simp [hy]))
    show ((c.op x).runs ops).Inv _
    refine h2.mono ?_
    simp only [List.length_cons]
    omega

theorem Clk.new_inv (d l q : Int) (h : (Clk.new d l q).ranges = true) : (Clk.new d l q).Inv 0 := by
  obtain ⟨h0, h1, h2, h3, h4, h5⟩ : 0 ≤ d ∧ d ≤ 999999 ∧ 0 ≤ l ∧ l ≤ 1000 ∧ 1 ≤ q ∧ q ≤ 12 := (Clk.ranges_iff _).1 h
  have hs : (Clk.new d l q).sup = d := by
    have hd : (Clk.new d l q).days 12 = [] := rfl
    unfold Clk.sup
    rw [hd, if_pos (by simp [Clk.new]; omega)]
    rfl
  refine ⟨⟨rfl, rfl⟩, h0, h1, h2, h3, h4, h5, ?_, ?_, h1, Int.le_refl _, Int.le_refl _, by show _ ≤ (0 : Int); decide, by show (0 : Int) ≤ _; decide, ?_⟩
  · rw [hs]; exact Int.le_refl _
  · rw [hs]; show d ≤ d + 0; omega
  · intro x hx
    have : x = 0 := by
      have hx' : x ∈ List.replicate 12 (0 : Int) := hx
      exact (List.mem_replicate.1 hx').2
    omega

theorem read_inv (b : Nat) (c : Clk) (m : Int) (w : World) (wall : Int) (hc : At w b 57 c.cells) (hi : c.Inv m) (hm : m ≤ 1000000000000) (hw : wall ≤ 9223372036854775807) :
    Calls Try.prog 16 #[Value.pointer (some ⟨b, 0, none⟩), Value.int .i64 wall] w fun e w' => e = .returned (Value.int .i64 (c.rd wall).day) ∧ Fr [b] w w' ∧ At w' b 57 (c.rd wall).cells :=
  read_any b c w wall hc hi.l0 hi.l1 hi.r0 hw hi.d0 hi.d1 hi.o0 (by have := hi.o1; omega)

def HearRes (c : Clk) (v d : Int) : Value := if (inDev v && inDay d) = true then .tuple #[Value.int .i64 (c.hearI v d).day, Value.int .i64 0] else .tuple #[Value.int .i64 0, Value.int .i64 1]

theorem hear_inv (b : Nat) (c : Clk) (m : Int) (w : World) (v d : Int) (hc : At w b 57 c.cells) (hi : c.Inv m) :
    Calls Try.prog 17 #[Value.pointer (some ⟨b, 0, none⟩), Value.int .i64 v, Value.int .i64 d] w fun e w' => e = .returned (HearRes c v d) ∧ Fr [b] w w' ∧ At w' b 57 (c.hearI v d).cells := by
  cases h : (inDev v && inDay d)
  · refine (hear_bad b v d w h).mono ?_
    rintro e w' ⟨rfl, rfl⟩
    have e1 : c.hearI v d = c := by unfold Clk.hearI; rw [h]; rfl
    have e2 : HearRes c v d = .tuple #[Value.int .i64 0, Value.int .i64 1] := by unfold HearRes; rw [h]; rfl
    rw [e1, e2]
    exact ⟨rfl, Fr.refl _ _, hc⟩
  · have hh := h
    simp only [Bool.and_eq_true] at hh
    have hv : 0 ≤ v ∧ v < 12 := by simpa [inDev] using hh.1
    obtain ⟨k, rfl⟩ := Int.eq_ofNat_of_zero_le hv.1
    refine (hear_any b c k d w hc hi.ok hi.q0 hi.q1 (by omega) hh.2).mono ?_
    rintro e w' ⟨rfl, h1, h2⟩
    have e1 : c.hearI (k : Int) d = c.hear k d := by unfold Clk.hearI; rw [if_pos h]; rfl
    have e2 : HearRes c (k : Int) d = .tuple #[Value.int .i64 (c.hearI (k : Int) d).day, Value.int .i64 0] := by unfold HearRes; rw [if_pos h]
    rw [e2, e1]
    exact ⟨rfl, h1, h2⟩

end Go.Proofs.Ytflabbdnkoejjaa
