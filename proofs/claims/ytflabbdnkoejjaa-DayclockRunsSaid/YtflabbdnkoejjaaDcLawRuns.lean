/- DayclockRuns returns true for every input: the calls on a clock return what the definition says, and so do its day, its supported day, its own days and its encoding. -/
import Derived.Test.YtflabbdnkoejjaaDcRunsPlain
import Derived.Test.YtflabbdnkoejjaaDcDec2
import Derived.Test.YtflabbdnkoejjaaDcEnc
import Derived.Test.YtflabbdnkoejjaaDcAwake
import Derived.Test.YtflabbdnkoejjaaStr
import Derived.Deep.RegionHeld3
import Derived.Deep.DeepCutAuto
import Derived.Deep.CutBlock
namespace Go.Proofs.Ytflabbdnkoejjaa
open Go.RowKit

theorem run_str_x (w : World) (A : Option Addr) (cap : Nat) (bs : List UInt8) (h : RowIn w A (B8 bs)) : (convert 44 9 (.slice A bs.length cap)).run Try.prog w = .ok (.string (strOf bs)) w :=
  run_str Try.underlying44 Try.underlying5 Try.underlying9 w A cap bs h

/-- The slice at A holds the cells xs, outside the blocks S. -/
def RowOff (w : World) (S : List Nat) (A : Option Addr) (xs : List Value) : Prop :=
  ∀ i u, xs[i]? = some u → ∃ b o, A = some ⟨b, o, none⟩ ∧ b < w.heap.size ∧ b ∉ S ∧ w.cell? ⟨b, o + i, none⟩ = some u

theorem RowOff.row {w : World} {S : List Nat} {A : Option Addr} {xs : List Value} (h : RowOff w S A xs) : RowIn w A xs := by
  intro i u hu
  obtain ⟨b, o, h1, h2, _, h4⟩ := h i u hu
  exact ⟨b, o, h1, h2, h4⟩

theorem RowOff.fr {w w' : World} {S S' : List Nat} {A : Option Addr} {xs : List Value} (h : RowOff w S A xs) (hf : Fr S' w w') (hs : ∀ x, x ∈ S' → x ∈ S ∨ w.heap.size ≤ x) : RowOff w' S A xs := by
  intro i u hu
  obtain ⟨b, o, h1, h2, h3, h4⟩ := h i u hu
  have hn : b ∉ S' := fun hm => by
    rcases hs b hm with h | h
    · exact h3 h
    · omega
  exact ⟨b, o, h1, Nat.lt_of_lt_of_le h2 hf.size, h3, by rw [hf.cell (p := ⟨b, o + i, none⟩) h2 hn]; exact h4⟩

theorem RowOff.off {w : World} {S S' : List Nat} {A : Option Addr} {xs : List Value} (h : RowOff w S A xs) (hs : ∀ x, x ∈ S' → x ∈ S ∨ w.heap.size ≤ x) : RowOff w S' A xs := by
  intro i u hu
  obtain ⟨b, o, h1, h2, h3, h4⟩ := h i u hu
  exact ⟨b, o, h1, h2, fun hm => by
    rcases hs b hm with h | h
    · exact h3 h
    · omega, h4⟩

theorem at_setSelf {b : Nat} {t : TypeId} : ∀ (l : List Value) (i : Nat) (w : World) (l0 : List Value), At w b t l0 → l0.length = i + l.length → At (setL w b i l) b t (l0.take i ++ l)
  | [], i, w, l0, h, hl => by
    have e : l0.take i = l0 := List.take_of_length_le (by simp at hl; omega)
    rw [e, List.append_nil]
    exact h
  | v :: l, i, w, l0, h, hl => by
    have hi : i < l0.length := by simp at hl; omega
    have := at_setSelf l (i + 1) _ _ (h.set i v) (by simp at hl ⊢; omega)
    have e : (l0.set i v).take (i + 1) = l0.take i ++ [v] := by
      rw [List.take_add_one, List.getElem?_set_self hi]
      simp [List.take_set_of_le]
    rw [e, List.append_assoc] at this
    exact this

/-- The program's clock and the reference's, side by side. -/
structure RunW (w wr : World) (bc bm : Nat) (c : Clk) (A : Option Addr) (cp : Nat) : Prop where
  fr : Fr [] w wr
  clk : At wr bc 57 c.cells
  ref : At wr bm 28 (c.toR.cells A cp)
  row : RowOff wr [bc, bm] A (tcells c.toR.told)
  hbc : w.heap.size ≤ bc
  hbm : w.heap.size ≤ bm

theorem RunW.ne {w wr : World} {bc bm : Nat} {c : Clk} {A : Option Addr} {cp : Nat} (h : RunW w wr bc bm c A cp) : bc ≠ bm := h.clk.ne h.ref (by decide)
theorem RunW.keep {w wr w' : World} {bc bm : Nat} {c : Clk} {A : Option Addr} {cp : Nat} (h : RunW w wr bc bm c A cp) (hf : Fr [] wr w') : RunW w w' bc bm c A cp :=
  ⟨h.fr.trans hf, h.clk.fr hf (by simp), h.ref.fr hf (by simp), h.row.fr hf (by simp), h.hbc, h.hbm⟩
theorem RunW.drew {w wr : World} {bc bm : Nat} {c : Clk} {A : Option Addr} {cp : Nat} (h : RunW w wr bc bm c A cp) : RunW w wr.drew bc bm c A cp := h.keep (Fr.refl _ _).drew

def mcells (c : Clk) (A : Option Addr) (cp : Nat) : List Value := [Value.int .i64 c.first, Value.int .i64 c.day, Value.int .i64 c.leap, Value.int .i64 c.quorum, Value.int .i64 c.own, Value.bool c.read, Value.int .i64 c.ref, .slice A c.toR.told.length cp]
theorem mcells_eq (c : Clk) (A : Option Addr) (cp : Nat) : c.toR.cells A cp = mcells c A cp := rfl

theorem mc8 {w : World} {bm : Nat} {c' : Clk} {A2 : Option Addr} {cp2 : Nat} (h : At w bm 28 (c'.toR.cells A2 cp2)) : w.cell? ⟨bm, 0, none⟩ = some (Value.int .i64 c'.first) ∧ w.cell? ⟨bm, 1, none⟩ = some (Value.int .i64 c'.day) ∧ w.cell? ⟨bm, 2, none⟩ = some (Value.int .i64 c'.leap) ∧ w.cell? ⟨bm, 3, none⟩ = some (Value.int .i64 c'.quorum) ∧ w.cell? ⟨bm, 4, none⟩ = some (Value.int .i64 c'.own) ∧ w.cell? ⟨bm, 5, none⟩ = some (Value.bool c'.read) ∧ w.cell? ⟨bm, 6, none⟩ = some (Value.int .i64 c'.ref) ∧ w.cell? ⟨bm, 7, none⟩ = some (.slice A2 c'.toR.told.length cp2) :=
  (eight (show At w bm 28 [Value.int .i64 c'.first, Value.int .i64 c'.day, Value.int .i64 c'.leap, Value.int .i64 c'.quorum, Value.int .i64 c'.own, Value.bool c'.read, Value.int .i64 c'.ref, .slice A2 c'.toR.told.length cp2] from h)).1

/-- In the midst of a step: the reference has gone ahead. -/
theorem RunW.step {w w1 w3 : World} {bc bm : Nat} {c c' : Clk} {A A' : Option Addr} {cp cp' : Nat} (h : RunW w w1 bc bm c A cp) (hrow : RowOff w1 [bc, bm] A' (tcells c'.toR.told))
    (hf : Fr [bc] (setL w1 bm 0 (mcells c' A' cp')) w3) (hc : At w3 bc 57 c'.cells) : RunW w w3 bc bm c' A' cp' := by
  have hf1 : Fr [bm] w1 (setL w1 bm 0 (mcells c' A' cp')) := Fr.setL (.inl (by simp)) _ 0 _ (Fr.refl _ _)
  have hm : At (setL w1 bm 0 (mcells c' A' cp')) bm 28 (c'.toR.cells A' cp') := at_setSelf (mcells c' A' cp') 0 w1 _ h.ref rfl
  have hbm := h.hbm
  have hbc := h.hbc
  refine ⟨(h.fr.trans' hf1 (by simp; omega)).trans' hf (by simp; omega), hc, hm.fr hf (by simpa using h.ne.symm), (hrow.fr hf1 (by simp)).fr hf (by simp), h.hbc, h.hbm⟩

theorem RunW.hear {w wx w3 : World} {bc bm : Nat} {c c' : Clk} {A A' : Option Addr} {cp cp' : Nat} (h : RunW w wx bc bm c A cp) (hrow : RowOff wx [bc, bm] A' (tcells c'.toR.told))
    (hf : Fr [bc] wx w3) (hc : At w3 bc 57 c'.cells) : RunW w (setL w3 bm 0 (mcells c' A' cp')) bc bm c' A' cp' := by
  have hbm := h.hbm
  have hbc := h.hbc
  have href := h.ref.fr hf (by simpa using h.ne.symm)
  have hf2 : Fr [bm] w3 (setL w3 bm 0 (mcells c' A' cp')) := Fr.setL (.inl (by simp)) _ 0 _ (Fr.refl _ _)
  refine ⟨(h.fr.trans' hf (by simp; omega)).trans' hf2 (by simp; omega), At.setL h.ne _ 0 _ hc, at_setSelf (mcells c' A' cp') 0 w3 _ href rfl, (hrow.fr hf (by simp)).fr hf2 (by simp), h.hbc, h.hbm⟩

/-- The reference has heard: its new clock lies in block bx. -/
structure Heard (w wx : World) (bc bm bx : Nat) (c c' : Clk) (A A2 : Option Addr) (cp cp2 : Nat) : Prop where
  run : RunW w wx bc bm c A cp
  x : At wx bx 28 (mcells c' A2 cp2)
  nc : bx ≠ bc
  nm : bx ≠ bm
  row : RowOff wx [bc, bm] A2 (tcells c'.toR.told)

theorem row_new {w1 : World} {S : List Nat} {A : Option Addr} {xs : List Value} (h : RowIn w1 A xs) (hn : ∀ b o, A = some ⟨b, o, none⟩ → b ∉ S) : RowOff w1 S A xs := by
  intro i u hu
  obtain ⟨b, o, hA, hb, hc⟩ := h i u hu
  exact ⟨b, o, hA, hb, hn b o hA, hc⟩

theorem heard_new {w w1 : World} {bc bm : Nat} {c c' : Clk} {A A2 : Option Addr} {cp cp2 : Nat} (h : RunW w w1 bc bm c A cp) (hrow : RowOff w1 [bc, bm] A2 (tcells c'.toR.told)) :
    Heard w (w1.alloc (.cells (mcells c' A2 cp2).toArray 28)) bc bm w1.heap.size c c' A A2 cp cp2 := by
  have h1 := h.clk.lt
  have h2 := h.ref.lt
  exact ⟨h.keep ((Fr.refl _ _).alloc _), At.new _ _ _, by omega, by omega, hrow.fr ((Fr.refl [] _).alloc _) (by simp)⟩

theorem heard_set {w wr w1 : World} {bc bm : Nat} {c c' : Clk} {A A2 : Option Addr} {cp cp2 : Nat} {l0 : List Value} (h : RunW w wr bc bm c A cp) (hf : Fr [] (wr.alloc (.cells l0.toArray 28)) w1) (hl : l0.length = 8) (hrow : RowOff w1 [wr.heap.size, bc, bm] A2 (tcells c'.toR.told)) :
    Heard w (setL w1 wr.heap.size 0 (mcells c' A2 cp2)) bc bm wr.heap.size c c' A A2 cp cp2 := by
  have h1 := h.clk.lt
  have h2 := h.ref.lt
  have h0 := h.fr.size
  have hr := (h.keep ((Fr.refl _ _).alloc _)).keep hf
  have hx := (At.new wr 28 l0).fr hf (by simp)
  have hf2 : Fr [wr.heap.size] w1 (setL w1 wr.heap.size 0 (mcells c' A2 cp2)) := Fr.setL (.inl (by simp)) _ 0 _ (Fr.refl _ _)
  refine ⟨⟨hr.fr.trans' hf2 (by simp; omega), hr.clk.fr hf2 (by simp; omega), hr.ref.fr hf2 (by simp; omega), ?_, hr.hbc, hr.hbm⟩, at_setSelf (mcells c' A2 cp2) 0 w1 _ hx (by rw [hl]; rfl), by omega, by omega, ?_⟩
  · intro i u hu
    obtain ⟨b, o, e1, e2, e3, e4⟩ := h.row i u hu
    obtain ⟨b', o', f1, f2, f3, f4⟩ := hr.row i u hu
    rw [e1] at f1
    injection f1 with f1
    injection f1 with f1 f1'
    subst f1 f1'
    exact ⟨b, o, e1, Nat.lt_of_lt_of_le f2 hf2.size, f3, by rw [hf2.cell (p := ⟨b, o + i, none⟩) f2 (by simp; omega)]; exact f4⟩
  · intro i u hu
    obtain ⟨b, o, e1, e2, e3, e4⟩ := hrow i u hu
    simp only [List.mem_cons, List.not_mem_nil, or_false, not_or] at e3
    exact ⟨b, o, e1, Nat.lt_of_lt_of_le e2 hf2.size, by simp; exact e3.2, by rw [hf2.cell (p := ⟨b, o + i, none⟩) e2 (by simp; exact e3.1)]; exact e4⟩

theorem hearRes_ok (c : Clk) (v d : Int) (h : (inDev v && inDay d) = true) : HearRes c v d = .tuple #[Value.int .i64 (c.hearI v d).day, Value.int .i64 0] := by unfold HearRes; rw [if_pos h]
theorem hearRes_bad (c : Clk) (v d : Int) (h : (inDev v && inDay d) = false) : HearRes c v d = .tuple #[Value.int .i64 0, Value.int .i64 1] := by unfold HearRes; rw [if_neg (by rw [h]; decide)]

set_option maxHeartbeats 4000000 in
set_option maxRecDepth 100000 in
theorem runs_bad (d l q : Int) (A : Option Addr) (n cap : Nat) (w : World) (h : (Clk.new d l q).ranges = false) : Calls Try.prog 8 #[Value.int .i64 d, Value.int .i64 l, Value.int .i64 q, .slice A n cap] w (OkTrue w) := by
  have H := Lib.hid h
  clear h
  go_enter Try.func8, Try.ntmps8
  go_wp2_with fail
  refine (new_bad d l q _ H.out).mono ?_
  rintro e w0 ⟨rfl, hf0⟩
  have H0 := Lib.hid hf0
  clear hf0
  go_wp2_with fail
  refine (refNew_bad d l q _ H.out).mono ?_
  rintro e w1 ⟨rfl, hf1⟩
  have H1 := Lib.hid (H0.out.trans hf1)
  clear hf1 H0
  go_wp2_with fail
  refine (awake_any _).mono ?_
  rintro e w2 ⟨rfl, hf2⟩
  have H2 := Lib.hid ((H1.out.alloc _).trans hf2)
  clear hf2 H1
  go_wp2_with fail
  refine (awake_any _).mono ?_
  rintro e w3 ⟨rfl, hf3⟩
  have H3 := Lib.hid (H2.out.trans hf3)
  clear hf3 H2
  go_wp2_with fail
  go_ret
  exact ⟨rfl, H3.out⟩

set_option maxHeartbeats 4000000 in
set_option maxRecDepth 100000 in
theorem runs_long (d l q : Int) (A : Option Addr) (n cap : Nat) (w : World) (h : (Clk.new d l q).ranges = true) (hn : 30 < n) : Calls Try.prog 8 #[Value.int .i64 d, Value.int .i64 l, Value.int .i64 q, .slice A n cap] w (OkTrue w) := by
  have H := Lib.hid h
  clear h
  have hd : decide (30 < (n : Int)) = true := by simp; omega
  go_enter Try.func8, Try.ntmps8
  go_wp2_with fail
  refine (new_ok d l q _ H.out).mono ?_
  rintro e w0 ⟨rfl, hf0, _⟩
  have H0 := Lib.hid hf0
  clear hf0
  go_wp2_with fail
  refine (refNew_ok d l q _ H.out).mono ?_
  rintro e w1 ⟨rfl, hf1⟩
  have H1 := Lib.hid (H0.out.trans hf1)
  clear hf1 H0
  go_wp2_with fail
  refine (awake_any _).mono ?_
  rintro e w2 ⟨rfl, hf2⟩
  have H2 := Lib.hid ((H1.out.alloc _).trans hf2)
  clear hf2 H1
  go_wp2_with fail
  refine (awake_any _).mono ?_
  rintro e w3 ⟨rfl, hf3⟩
  have H3 := Lib.hid (H2.out.trans hf3)
  clear hf3 H2
  go_wp2_with fail
  go_ret
  exact ⟨rfl, H3.out⟩

set_option maxHeartbeats 8000000 in
set_option maxRecDepth 100000 in
theorem runs_ok (d l q : Int) (A : Option Addr) (cap : Nat) (ops : List Op3) (w : World) (h : (Clk.new d l q).ranges = true) (hops : OpsIn w A ops) (hn : ops.length ≤ 30) :
    Calls Try.prog 8 #[Value.int .i64 d, Value.int .i64 l, Value.int .i64 q, .slice A ops.length cap] w (OkTrue w) := by
  have H := Lib.hid h
  have HO := Lib.hid hops
  clear h hops
  have hd : decide (30 < (ops.length : Int)) = false := by simp; omega
  go_enter Try.func8, Try.ntmps8
  go_wp2_with fail
  refine (new_ok d l q _ H.out).mono ?_
  rintro e w0 ⟨rfl, hf0, ha0⟩
  have H0 : Hid (Fr [] w w0 ∧ At w0 w.heap.size 57 (Clk.new d l q).cells) := ⟨hf0, ha0⟩
  clear hf0 ha0
  go_wp2_with fail
  refine (refNew_ok d l q _ H.out).mono ?_
  rintro e w1 ⟨rfl, hf1⟩
  have H1 : Hid (Fr [] w w1 ∧ At w1 w.heap.size 57 (Clk.new d l q).cells) := ⟨H0.out.1.trans hf1, H0.out.2.fr hf1 (by simp)⟩
  clear hf1 H0
  obtain ⟨bm, hbm⟩ : ∃ bm, bm = w1.heap.size := ⟨_, rfl⟩
  go_wp2_with fail
  refine (awake_any _).mono ?_
  rintro e w2 ⟨rfl, hf2⟩
  rw [← hbm]
  obtain ⟨c0, HC0⟩ : ∃ c0, Hid (c0 = Clk.new d l q) := ⟨_, rfl⟩
  have H2 : Hid (RunW w w2 w.heap.size bm c0 none 0 ∧ c0.Inv 0 ∧ c0.Norm) := by
    rw [HC0.out, hbm]
    refine ⟨⟨(H1.out.1.alloc _).trans hf2, (H1.out.2.alloc _).fr hf2 (by simp), (At.new w1 28 _).fr hf2 (by simp), (fun i u hu => by cases hu), Nat.le_refl _, H1.out.1.size⟩, Clk.new_inv d l q H.out, Clk.new_norm d l q⟩
  clear hf2 H1 hbm
  go_wp2_with fail
  clear hd
  go_loopw [9, 13] (fun s9 i wr => ∃ (k bc : Nat) (c : Clk) (A' : Option Addr) (cp' : Nat), k ≤ ops.length ∧ i = .int .i64 k ∧ s9 = Value.pointer (some ⟨bc, 0, none⟩) ∧ Hid (RunW w wr bc bm c A' cp' ∧ c.Inv (1000 * (k : Int)) ∧ c.Norm)) (fun _ i _ => ops.length - (intOf i).toNat)
  case atStart => exact ⟨0, w.heap.size, c0, none, 0, by omega, rfl, rfl, H2⟩
  case round =>
    obtain ⟨k, bc, c, A', cp', hk, rfl, rfl, HR⟩ := hrel
    by_cases hlt : k < ops.length
    · have hx := List.getElem?_eq_getElem hlt
      generalize ops[k] = x at hx
      obtain ⟨hfit, b, o, rfl, hb, p1, p2, p3⟩ := HO.out k x hx
      have HX := Lib.hid hfit
      have HP : Hid (∀ W, Fr [] w W → b < W.heap.size ∧ W.cell? ⟨b, o + k * 3, none⟩ = some (Value.int .i64 x.kind) ∧ W.cell? ⟨b, o + k * 3 + 1, none⟩ = some (Value.int .i64 x.dev) ∧ W.cell? ⟨b, o + k * 3 + 2, none⟩ = some (Value.int .i64 x.day)) := fun W hf =>
        ⟨Nat.lt_of_lt_of_le hb hf.size, by rw [hf.cell (p := ⟨b, o + k * 3, none⟩) hb (by simp)]; exact p1, by rw [hf.cell (p := ⟨b, o + k * 3 + 1, none⟩) hb (by simp)]; exact p2, by rw [hf.cell (p := ⟨b, o + k * 3 + 2, none⟩) hb (by simp)]; exact p3⟩
      clear hx hfit p1 p2 p3 hb
      obtain ⟨hb, x1, x2, x3⟩ := HP.out wr HR.out.1.fr
      go_upto_block 2 with (fail)
      go_cut [9] (fun s9 wx => ∃ (bc' : Nat) (c' : Clk) (A2 : Option Addr) (cp2 : Nat), s9 = Value.pointer (some ⟨bc', 0, none⟩) ∧ Hid (RunW w wx bc' bm c' A2 cp2 ∧ c'.Inv (1000 * ((k + 1 : Nat) : Int)) ∧ c'.Norm))
      case first =>
        have hI0 : Hid (c.Inv 1000000) := HR.out.2.1.mono (by omega)
        have hkb : 1000 * (k : Int) ≤ 1000000 := by omega
        have hk0 : 0 ≤ 1000 * (k : Int) := by omega
        obtain ⟨⟨m0, m1, m2, m3, m4, m5, m6, m7⟩, y0, y1, y2, y3, y4, y5, y6, y7⟩ := eight (show At wr bm 28 [Value.int .i64 c.first, Value.int .i64 c.day, Value.int .i64 c.leap, Value.int .i64 c.quorum, Value.int .i64 c.own, Value.bool c.read, Value.int .i64 c.ref, .slice A' c.toR.told.length cp'] from HR.out.1.ref)
        have hbl : b < wr.heap.size := hb
        by_cases k1 : x.kind = 1
        · have q1 : (x.kind == 1) = true := by simpa using k1
          clear k1
          go_wp2_with fail
          go_still_tail 6, (by kernel_rfl)
          change wpList _ _ _ _ _ wr.drew
          go_wp2_with fail
          refine (refRead_any c.toR A' cp' _ x.day hI0.out.l0 hI0.out.l1 hI0.out.r0 HX.out.d1 hI0.out.d0 hI0.out.d1 hI0.out.o0 (by have := hI0.out.o1; show c.own ≤ _; omega)).mono ?_
          rintro e w1 ⟨rfl, hf1⟩
          rw [← Clk.rd_toR hI0.out (by omega)]
          have H1 : Hid (RunW w w1 bc bm c A' cp') := HR.out.1.drew.keep hf1
          have HIN : Hid ((c.rd x.day).Inv (1000 * ((k + 1 : Nat) : Int)) ∧ (c.rd x.day).Norm) := ⟨((HR.out.2.1.rd (by omega) x.day HX.out.d0 HX.out.d1).1).mono (by omega), HR.out.2.2.rd _⟩
          have hrow : RowOff w1 [bc, bm] A' (tcells (c.rd x.day).toR.told) := H1.out.row
          have HRW := Lib.hid hrow
          clear m0 m1 m2 m3 m4 m5 m6 m7 y0 y1 y2 y3 y4 y5 y6 y7 hf1 hrow x1 x2 x3 hb hbl
          obtain ⟨⟨m0, m1, m2, m3, m4, m5, m6, m7⟩, y0, y1, y2, y3, y4, y5, y6, y7⟩ := eight (show At w1 bm 28 [Value.int .i64 c.first, Value.int .i64 c.day, Value.int .i64 c.leap, Value.int .i64 c.quorum, Value.int .i64 c.own, Value.bool c.read, Value.int .i64 c.ref, .slice A' c.toR.told.length cp'] from H1.out.ref)
          obtain ⟨c', HC'⟩ : ∃ c', Hid (c' = c.rd x.day) := ⟨_, rfl⟩
          rw [← HC'.out] at HIN HRW ⊢
          have e8 : (c'.toR.cells A' cp').toArray = #[Value.int .i64 c'.first, Value.int .i64 c'.day, Value.int .i64 c'.leap, Value.int .i64 c'.quorum, Value.int .i64 c'.own, Value.bool c'.read, Value.int .i64 c'.ref, .slice A' c'.toR.told.length cp'] := rfl
          rw [e8]
          clear e8
          have hnb : bc ≠ bm := H1.out.ne
          have hbb : w.heap.size ≤ bm := H1.out.hbm
          go_wp2_with fail
          change Code.wp _ _ _ _ (setL w1 bm 0 (mcells c' A' cp'))
          obtain ⟨W2, HWE⟩ : ∃ W2, Hid (W2 = setL w1 bm 0 (mcells c' A' cp')) := ⟨_, rfl⟩
          rw [← HWE.out]
          have HW2 : Hid (Fr [] w W2 ∧ At W2 bm 28 (mcells c' A' cp') ∧ At W2 bc 57 c.cells) := by
            rw [HWE.out]
            exact ⟨Fr.setL (.inr hbb) _ 0 _ H1.out.fr, at_setSelf (mcells c' A' cp') 0 w1 _ H1.out.ref rfl, At.setL hnb _ 0 _ H1.out.clk⟩
          clear m0 m1 m2 m3 m4 m5 m6 m7 y0 y1 y2 y3 y4 y5 y6 y7
          obtain ⟨hb, x1, x2, x3⟩ := HP.out W2 HW2.out.1
          have m1 : W2.cell? ⟨bm, 1, none⟩ = some (Value.int .i64 c'.day) := by rw [HW2.out.2.1.cell]; rfl
          go_region_held3 (fun w' => w'.cell? ⟨bm, 1, none⟩ = some (Value.int .i64 c'.day) ∧ w'.cell? ⟨b, o + k * 3 + 2, none⟩ = some (Value.int .i64 x.day)) (go_keep) (first
            | (go_at_call 16; refine (read_inv bc c 1000000 _ x.day (by exact HW2.out.2.2.drew) hI0.out (by omega) HX.out.d1).mono ?_; rintro e w3 ⟨rfl, hf3, ha3⟩; rw [← HC'.out] at ha3; rw [← HC'.out]; have H3 : Hid (RunW w w3 bc bm c' A' cp') := RunW.step H1.out HRW.out (by rw [← HWE.out]; exact fr_undrew hf3) ha3; have m1' : w3.cell? ⟨bm, 1, none⟩ = some (Value.int .i64 c'.day) := (by rw [H3.out.ref.cell]; rfl); have x3' : w3.cell? ⟨b, o + k * 3 + 2, none⟩ = some (Value.int .i64 x.day) := (HP.out w3 H3.out.fr).2.2.2; clear hf3 ha3))
          go_wp2_with fail
          go_meet
          exact ⟨bc, c', A', cp', rfl, H3.out, HIN.out⟩
        · have q1 : (x.kind == 1) = false := by simpa using k1
          clear k1
          by_cases k2 : x.kind = 2
          · have q2 : (x.kind == 2) = true := by simpa using k2
            clear k2
            cases hvd : (inDev x.dev && inDay x.day)
            · have HVD := Lib.hid hvd
              clear hvd
              have HCON : Hid (∀ W, Calls Try.prog 20 #[.agg #[Value.int .i64 c.first, Value.int .i64 c.day, Value.int .i64 c.leap, Value.int .i64 c.quorum, Value.int .i64 c.own, Value.bool c.read, Value.int .i64 c.ref, .slice A' c.toR.told.length cp'], Value.int .i64 x.dev, Value.int .i64 x.day] W fun e w' => e = .returned (.tuple #[.agg #[Value.int .i64 c.first, Value.int .i64 c.day, Value.int .i64 c.leap, Value.int .i64 c.quorum, Value.int .i64 c.own, Value.bool c.read, Value.int .i64 c.ref, .slice A' c.toR.told.length cp'], Value.int .i64 1]) ∧ Fr [] W w') := fun W => refHear_bad c.toR A' cp' x.dev x.day W HVD.out
              have hmlt : bm < wr.heap.size := HR.out.1.ref.lt
              have nw0 : wr.heap.size ≠ bm := by omega
              have nw1 : bm ≠ wr.heap.size := by omega
              have nw2 : wr.heap.size ≠ b := by omega
              have nw3 : b ≠ wr.heap.size := by omega
              go_upto_region 18 with (fail)
              go_cut [14, 15] (fun s14 s15 wx => ∃ bx : Nat, s14 = Value.pointer (some ⟨bx, 0, none⟩) ∧ s15 = Value.int .i64 1 ∧ Hid (Heard w wx bc bm bx c c A' A' cp' cp'))
              case first =>
                go_region_held3 (fun w' => w'.cell? ⟨bm, 0, none⟩ = some (Value.int .i64 c.first) ∧ w'.cell? ⟨bm, 1, none⟩ = some (Value.int .i64 c.day) ∧ w'.cell? ⟨bm, 2, none⟩ = some (Value.int .i64 c.leap) ∧ w'.cell? ⟨bm, 3, none⟩ = some (Value.int .i64 c.quorum) ∧ w'.cell? ⟨bm, 4, none⟩ = some (Value.int .i64 c.own) ∧ w'.cell? ⟨bm, 5, none⟩ = some (Value.bool c.read) ∧ w'.cell? ⟨bm, 6, none⟩ = some (Value.int .i64 c.ref) ∧ w'.cell? ⟨bm, 7, none⟩ = some (.slice A' c.toR.told.length cp') ∧ w'.cell? ⟨b, o + k * 3 + 1, none⟩ = some (Value.int .i64 x.dev) ∧ w'.cell? ⟨b, o + k * 3 + 2, none⟩ = some (Value.int .i64 x.day)) (go_keep) (first
                  | (go_at_call 20; ((with_reducible refine (HCON.out wr.drew).mono ?_)); rintro e w1 ⟨rfl, hf1⟩; have H1 : Hid (RunW w w1 bc bm c A' cp') := HR.out.1.drew.keep hf1; clear m0 m1 m2 m3 m4 m5 m6 m7 x2 x3; have m0 : w1.cell? ⟨bm, 0, none⟩ = some (Value.int .i64 c.first) := (by rw [H1.out.ref.cell]; rfl); have m1 : w1.cell? ⟨bm, 1, none⟩ = some (Value.int .i64 c.day) := (by rw [H1.out.ref.cell]; rfl); have m2 : w1.cell? ⟨bm, 2, none⟩ = some (Value.int .i64 c.leap) := (by rw [H1.out.ref.cell]; rfl); have m3 : w1.cell? ⟨bm, 3, none⟩ = some (Value.int .i64 c.quorum) := (by rw [H1.out.ref.cell]; rfl); have m4 : w1.cell? ⟨bm, 4, none⟩ = some (Value.int .i64 c.own) := (by rw [H1.out.ref.cell]; rfl); have m5 : w1.cell? ⟨bm, 5, none⟩ = some (Value.bool c.read) := (by rw [H1.out.ref.cell]; rfl); have m6 : w1.cell? ⟨bm, 6, none⟩ = some (Value.int .i64 c.ref) := (by rw [H1.out.ref.cell]; rfl); have m7 : w1.cell? ⟨bm, 7, none⟩ = some (.slice A' c.toR.told.length cp') := (by rw [H1.out.ref.cell]; rfl); have x2 := (HP.out w1 H1.out.fr).2.2.1; have x3 := (HP.out w1 H1.out.fr).2.2.2; have HFA := Lib.hid hf1; clear hf1)
                  | (go_at_call 20; refine (HCON.out _).mono ?_; rintro e w1 ⟨rfl, hf1⟩; have H1 : Hid (RunW w w1 bc bm c A' cp') := (HR.out.1.keep ((Fr.refl _ _).alloc _)).drew.keep hf1; obtain ⟨⟨n0, n1, n2, n3, n4, n5, n6, n7⟩, l0, l1, l2, l3, l4, l5, l6, l7⟩ := eight ((At.new wr 28 [Value.int .i64 0, Value.int .i64 0, Value.int .i64 0, Value.int .i64 0, Value.int .i64 0, Value.bool false, Value.int .i64 0, .slice none 0 0]).drew.fr hf1 (by simp)); clear m0 m1 m2 m3 m4 m5 m6 m7 x2 x3; have m0 : w1.cell? ⟨bm, 0, none⟩ = some (Value.int .i64 c.first) := (by rw [H1.out.ref.cell]; rfl); have m1 : w1.cell? ⟨bm, 1, none⟩ = some (Value.int .i64 c.day) := (by rw [H1.out.ref.cell]; rfl); have m2 : w1.cell? ⟨bm, 2, none⟩ = some (Value.int .i64 c.leap) := (by rw [H1.out.ref.cell]; rfl); have m3 : w1.cell? ⟨bm, 3, none⟩ = some (Value.int .i64 c.quorum) := (by rw [H1.out.ref.cell]; rfl); have m4 : w1.cell? ⟨bm, 4, none⟩ = some (Value.int .i64 c.own) := (by rw [H1.out.ref.cell]; rfl); have m5 : w1.cell? ⟨bm, 5, none⟩ = some (Value.bool c.read) := (by rw [H1.out.ref.cell]; rfl); have m6 : w1.cell? ⟨bm, 6, none⟩ = some (Value.int .i64 c.ref) := (by rw [H1.out.ref.cell]; rfl); have m7 : w1.cell? ⟨bm, 7, none⟩ = some (.slice A' c.toR.told.length cp') := (by rw [H1.out.ref.cell]; rfl); have x2 := (HP.out w1 H1.out.fr).2.2.1; have x3 := (HP.out w1 H1.out.fr).2.2.2; have HFA := Lib.hid hf1; clear hf1))
                · go_wp2_with fail
                  go_meet
                  exact ⟨_, rfl, rfl, heard_new H1.out H1.out.row⟩
                · go_wp2_with fail
                  go_meet
                  exact ⟨_, rfl, rfl, heard_set (l0 := [Value.int .i64 0, Value.int .i64 0, Value.int .i64 0, Value.int .i64 0, Value.int .i64 0, Value.bool false, Value.int .i64 0, .slice none 0 0]) HR.out.1 (fr_undrew HFA.out) rfl ((HR.out.1.row.off (S' := [wr.heap.size, bc, bm]) (by simp)).fr (((Fr.refl [] _).alloc _).trans (fr_undrew HFA.out)) (by simp))⟩
              case rest =>
                obtain ⟨bx, rfl, rfl, HH⟩ := hcut
                clear m0 m1 m2 m3 m4 m5 m6 m7 y0 y1 y2 y3 y4 y5 y6 y7 x1 x2 x3 hb hbl
                obtain ⟨hb, x1, x2, x3⟩ := HP.out wc HH.out.run.fr
                have z1 : wc.cell? ⟨bx, 1, none⟩ = some (Value.int .i64 c.day) := by rw [HH.out.x.cell]; rfl
                go_wp2_with fail
                go_region_held3 (fun w' => w'.cell? ⟨b, o + k * 3 + 1, none⟩ = some (Value.int .i64 x.dev) ∧ w'.cell? ⟨b, o + k * 3 + 2, none⟩ = some (Value.int .i64 x.day)) (go_keep) (first
                  | (go_at_call 17; refine (hear_inv bc c 1000000 _ x.dev x.day (by exact HH.out.run.clk.drew) hI0.out).mono ?_; rintro e w3 ⟨rfl, hf3, ha3⟩; rw [hearRes_bad c x.dev x.day HVD.out]; rw [show c.hearI x.dev x.day = c from (by unfold Clk.hearI; rw [if_neg (by rw [HVD.out]; decide)])] at ha3; replace hf3 := fr_undrew hf3; have H3 : Hid (Fr [bc] wc w3 ∧ At w3 bc 57 c.cells ∧ At w3 bx 28 (mcells c A' cp') ∧ At w3 bm 28 (mcells c A' cp') ∧ Fr [] w w3) := ⟨hf3, ha3, HH.out.x.fr hf3 (by simpa using HH.out.nc), HH.out.run.ref.fr hf3 (by simpa using HH.out.run.ne.symm), HH.out.run.fr.trans' hf3 (by have := HH.out.run.hbc; simp; omega)⟩; clear hf3 ha3 x1 x2 x3 z1; have x2 := (HP.out w3 H3.out.2.2.2.2).2.2.1; have x3 := (HP.out w3 H3.out.2.2.2.2).2.2.2))
                obtain ⟨⟨z0, z1, z2, z3, z4, z5, z6, z7⟩, _⟩ := eight (show At w3 bx 28 [Value.int .i64 c.first, Value.int .i64 c.day, Value.int .i64 c.leap, Value.int .i64 c.quorum, Value.int .i64 c.own, Value.bool c.read, Value.int .i64 c.ref, .slice A' c.toR.told.length cp'] from H3.out.2.2.1)
                obtain ⟨⟨m0, m1, m2, m3, m4, m5, m6, m7⟩, y0, y1, y2, y3, y4, y5, y6, y7⟩ := eight (show At w3 bm 28 [Value.int .i64 c.first, Value.int .i64 c.day, Value.int .i64 c.leap, Value.int .i64 c.quorum, Value.int .i64 c.own, Value.bool c.read, Value.int .i64 c.ref, .slice A' c.toR.told.length cp'] from H3.out.2.2.2.1)
                have hne3 : bx ≠ bm := HH.out.nm
                have HF : Hid (RunW w (setL w3 bm 0 (mcells c A' cp')) bc bm c A' cp') := RunW.hear HH.out.run HH.out.row H3.out.1 H3.out.2.1
                clear x2 x3
                go_wp2_with fail
                go_meet
                exact ⟨bc, c, A', cp', rfl, HF.out, HR.out.2.1.mono (by omega), HR.out.2.2⟩
            · have HVD := Lib.hid hvd
              have hvd' : inDev x.dev = true ∧ inDay x.day = true := by rw [Bool.and_eq_true] at hvd; exact hvd
              have hdv : 0 ≤ x.dev ∧ x.dev < 12 := by simpa [inDev] using hvd'.1
              obtain ⟨kk, hkk⟩ : ∃ kk : Nat, x.dev = (kk : Int) := ⟨x.dev.toNat, by omega⟩
              have hk12 : kk < 12 := by omega
              have HKK := Lib.hid hkk
              have HDD := Lib.hid hvd'.2
              clear hvd hvd' hkk hdv
              obtain ⟨c', HC'⟩ : ∃ c', Hid (c' = c.hear kk x.day) := ⟨_, rfl⟩
              have HIN : Hid (c'.Inv (1000 * ((k + 1 : Nat) : Int)) ∧ c'.Norm) := by
                rw [HC'.out]
                exact ⟨((HR.out.2.1.hear hk0 kk hk12 x.day HDD.out).1).mono (by omega), HR.out.2.2.hear hI0.out.ok kk hk12 x.day⟩
              have HCI : Hid (c.hearI x.dev x.day = c') := by show _ = _; rw [HC'.out]; unfold Clk.hearI; rw [if_pos HVD.out, HKK.out]; rfl
              have HCON : Hid (∀ W, RowIn W A' (tcells c.toR.told) → Calls Try.prog 20 #[.agg #[Value.int .i64 c.first, Value.int .i64 c.day, Value.int .i64 c.leap, Value.int .i64 c.quorum, Value.int .i64 c.own, Value.bool c.read, Value.int .i64 c.ref, .slice A' c.toR.told.length cp'], Value.int .i64 x.dev, Value.int .i64 x.day] W fun e w' => ∃ A2 cp2, e = .returned (.tuple #[.agg (c'.toR.cells A2 cp2).toArray, Value.int .i64 0]) ∧ Fr [] W w' ∧ RowIn w' A2 (tcells c'.toR.told) ∧ ∀ b o, A2 = some ⟨b, o, none⟩ → W.heap.size ≤ b) := by
                intro W hW
                refine (refHear_ok c.toR A' cp' x.dev x.day W HVD.out hW (by have := c.told_len; omega)).mono ?_
                rintro e w1 ⟨A2, cp2, rfl, hf1, hrw, hnew⟩
                rw [HKK.out, ← Clk.hear_toR hI0.out.ok hI0.out.q0 kk hk12, ← HC'.out] at hrw ⊢
                exact ⟨A2, cp2, rfl, hf1, hrw, hnew⟩
              have hclt : bc < wr.heap.size := HR.out.1.clk.lt
              have hmlt : bm < wr.heap.size := HR.out.1.ref.lt
              have nw0 : wr.heap.size ≠ bm := by omega
              have nw1 : bm ≠ wr.heap.size := by omega
              have nw2 : wr.heap.size ≠ b := by omega
              have nw3 : b ≠ wr.heap.size := by omega
              go_upto_region 18 with (fail)
              go_cut [14, 15] (fun s14 s15 wx => ∃ (bx : Nat) (A2 : Option Addr) (cp2 : Nat), s14 = Value.pointer (some ⟨bx, 0, none⟩) ∧ s15 = Value.int .i64 0 ∧ Hid (Heard w wx bc bm bx c c' A' A2 cp' cp2))
              case first =>
                go_region_held3 (fun w' => w'.cell? ⟨bm, 0, none⟩ = some (Value.int .i64 c.first) ∧ w'.cell? ⟨bm, 1, none⟩ = some (Value.int .i64 c.day) ∧ w'.cell? ⟨bm, 2, none⟩ = some (Value.int .i64 c.leap) ∧ w'.cell? ⟨bm, 3, none⟩ = some (Value.int .i64 c.quorum) ∧ w'.cell? ⟨bm, 4, none⟩ = some (Value.int .i64 c.own) ∧ w'.cell? ⟨bm, 5, none⟩ = some (Value.bool c.read) ∧ w'.cell? ⟨bm, 6, none⟩ = some (Value.int .i64 c.ref) ∧ w'.cell? ⟨bm, 7, none⟩ = some (.slice A' c.toR.told.length cp') ∧ w'.cell? ⟨b, o + k * 3 + 1, none⟩ = some (Value.int .i64 x.dev) ∧ w'.cell? ⟨b, o + k * 3 + 2, none⟩ = some (Value.int .i64 x.day)) (go_keep) (first
                  | (go_at_call 20; ((with_reducible refine (HCON.out wr.drew HR.out.1.drew.row.row).mono ?_)); rintro e w1 ⟨A2, cp2, rfl, hf1, hrw, hnew⟩; rw [show (c'.toR.cells A2 cp2).toArray = #[Value.int .i64 c'.first, Value.int .i64 c'.day, Value.int .i64 c'.leap, Value.int .i64 c'.quorum, Value.int .i64 c'.own, Value.bool c'.read, Value.int .i64 c'.ref, .slice A2 c'.toR.told.length cp2] from rfl]; have H1 : Hid (RunW w w1 bc bm c A' cp') := HR.out.1.drew.keep hf1; have HRW : Hid (RowOff w1 [bc, bm] A2 (tcells c'.toR.told)) := (row_new hrw (fun b' o' hA => (by have := hnew b' o' hA; have h8 : wr.drew.heap.size = wr.heap.size := rfl; simp; omega))); clear m0 m1 m2 m3 m4 m5 m6 m7 x2 x3; have m0 : w1.cell? ⟨bm, 0, none⟩ = some (Value.int .i64 c.first) := (by rw [H1.out.ref.cell]; rfl); have m1 : w1.cell? ⟨bm, 1, none⟩ = some (Value.int .i64 c.day) := (by rw [H1.out.ref.cell]; rfl); have m2 : w1.cell? ⟨bm, 2, none⟩ = some (Value.int .i64 c.leap) := (by rw [H1.out.ref.cell]; rfl); have m3 : w1.cell? ⟨bm, 3, none⟩ = some (Value.int .i64 c.quorum) := (by rw [H1.out.ref.cell]; rfl); have m4 : w1.cell? ⟨bm, 4, none⟩ = some (Value.int .i64 c.own) := (by rw [H1.out.ref.cell]; rfl); have m5 : w1.cell? ⟨bm, 5, none⟩ = some (Value.bool c.read) := (by rw [H1.out.ref.cell]; rfl); have m6 : w1.cell? ⟨bm, 6, none⟩ = some (Value.int .i64 c.ref) := (by rw [H1.out.ref.cell]; rfl); have m7 : w1.cell? ⟨bm, 7, none⟩ = some (.slice A' c.toR.told.length cp') := (by rw [H1.out.ref.cell]; rfl); have x2 := (HP.out w1 H1.out.fr).2.2.1; have x3 := (HP.out w1 H1.out.fr).2.2.2; have HFA := Lib.hid hf1; clear hf1 hrw hnew)
                  | (go_at_call 20; refine (HCON.out _ (by exact (HR.out.1.keep ((Fr.refl _ _).alloc _)).drew.row.row)).mono ?_; rintro e w1 ⟨A2, cp2, rfl, hf1, hrw, hnew⟩; rw [show (c'.toR.cells A2 cp2).toArray = #[Value.int .i64 c'.first, Value.int .i64 c'.day, Value.int .i64 c'.leap, Value.int .i64 c'.quorum, Value.int .i64 c'.own, Value.bool c'.read, Value.int .i64 c'.ref, .slice A2 c'.toR.told.length cp2] from rfl]; have H1 : Hid (RunW w w1 bc bm c A' cp') := (HR.out.1.keep ((Fr.refl _ _).alloc _)).drew.keep hf1; have HRW : Hid (RowOff w1 [wr.heap.size, bc, bm] A2 (tcells c'.toR.told)) := (row_new hrw (fun b' o' hA => (by have := hnew b' o' hA; simp at this; simp; omega))); obtain ⟨⟨n0, n1, n2, n3, n4, n5, n6, n7⟩, l0, l1, l2, l3, l4, l5, l6, l7⟩ := eight ((At.new wr 28 [Value.int .i64 0, Value.int .i64 0, Value.int .i64 0, Value.int .i64 0, Value.int .i64 0, Value.bool false, Value.int .i64 0, .slice none 0 0]).drew.fr hf1 (by simp)); clear m0 m1 m2 m3 m4 m5 m6 m7 x2 x3; have m0 : w1.cell? ⟨bm, 0, none⟩ = some (Value.int .i64 c.first) := (by rw [H1.out.ref.cell]; rfl); have m1 : w1.cell? ⟨bm, 1, none⟩ = some (Value.int .i64 c.day) := (by rw [H1.out.ref.cell]; rfl); have m2 : w1.cell? ⟨bm, 2, none⟩ = some (Value.int .i64 c.leap) := (by rw [H1.out.ref.cell]; rfl); have m3 : w1.cell? ⟨bm, 3, none⟩ = some (Value.int .i64 c.quorum) := (by rw [H1.out.ref.cell]; rfl); have m4 : w1.cell? ⟨bm, 4, none⟩ = some (Value.int .i64 c.own) := (by rw [H1.out.ref.cell]; rfl); have m5 : w1.cell? ⟨bm, 5, none⟩ = some (Value.bool c.read) := (by rw [H1.out.ref.cell]; rfl); have m6 : w1.cell? ⟨bm, 6, none⟩ = some (Value.int .i64 c.ref) := (by rw [H1.out.ref.cell]; rfl); have m7 : w1.cell? ⟨bm, 7, none⟩ = some (.slice A' c.toR.told.length cp') := (by rw [H1.out.ref.cell]; rfl); have x2 := (HP.out w1 H1.out.fr).2.2.1; have x3 := (HP.out w1 H1.out.fr).2.2.2; have HFA := Lib.hid hf1; clear hf1 hrw hnew))
                · go_wp2_with fail
                  go_meet
                  exact ⟨_, A2, cp2, rfl, rfl, heard_new H1.out HRW.out⟩
                · go_wp2_with fail
                  go_meet
                  exact ⟨_, A2, cp2, rfl, rfl, heard_set (l0 := [Value.int .i64 0, Value.int .i64 0, Value.int .i64 0, Value.int .i64 0, Value.int .i64 0, Value.bool false, Value.int .i64 0, .slice none 0 0]) HR.out.1 (fr_undrew HFA.out) rfl HRW.out⟩
              case rest =>
                obtain ⟨bx, A2, cp2, rfl, rfl, HH⟩ := hcut
                clear m0 m1 m2 m3 m4 m5 m6 m7 y0 y1 y2 y3 y4 y5 y6 y7 x1 x2 x3 hb hbl
                obtain ⟨hb, x1, x2, x3⟩ := HP.out wc HH.out.run.fr
                have z1 : wc.cell? ⟨bx, 1, none⟩ = some (Value.int .i64 c'.day) := by rw [HH.out.x.cell]; rfl
                go_wp2_with fail
                go_region_held3 (fun w' => w'.cell? ⟨b, o + k * 3 + 1, none⟩ = some (Value.int .i64 x.dev) ∧ w'.cell? ⟨b, o + k * 3 + 2, none⟩ = some (Value.int .i64 x.day)) (go_keep) (first
                  | (go_at_call 17; refine (hear_inv bc c 1000000 _ x.dev x.day (by exact HH.out.run.clk.drew) hI0.out).mono ?_; rintro e w3 ⟨rfl, hf3, ha3⟩; rw [hearRes_ok c x.dev x.day HVD.out, HCI.out]; rw [HCI.out] at ha3; replace hf3 := fr_undrew hf3; have H3 : Hid (Fr [bc] wc w3 ∧ At w3 bc 57 c'.cells ∧ At w3 bx 28 (mcells c' A2 cp2) ∧ At w3 bm 28 (mcells c A' cp') ∧ Fr [] w w3) := ⟨hf3, ha3, HH.out.x.fr hf3 (by simpa using HH.out.nc), HH.out.run.ref.fr hf3 (by simpa using HH.out.run.ne.symm), HH.out.run.fr.trans' hf3 (by have := HH.out.run.hbc; simp; omega)⟩; clear hf3 ha3 x1 x2 x3 z1; have x2 := (HP.out w3 H3.out.2.2.2.2).2.2.1; have x3 := (HP.out w3 H3.out.2.2.2.2).2.2.2))
                obtain ⟨⟨z0, z1, z2, z3, z4, z5, z6, z7⟩, _⟩ := eight (show At w3 bx 28 [Value.int .i64 c'.first, Value.int .i64 c'.day, Value.int .i64 c'.leap, Value.int .i64 c'.quorum, Value.int .i64 c'.own, Value.bool c'.read, Value.int .i64 c'.ref, .slice A2 c'.toR.told.length cp2] from H3.out.2.2.1)
                obtain ⟨⟨m0, m1, m2, m3, m4, m5, m6, m7⟩, y0, y1, y2, y3, y4, y5, y6, y7⟩ := eight (show At w3 bm 28 [Value.int .i64 c.first, Value.int .i64 c.day, Value.int .i64 c.leap, Value.int .i64 c.quorum, Value.int .i64 c.own, Value.bool c.read, Value.int .i64 c.ref, .slice A' c.toR.told.length cp'] from H3.out.2.2.2.1)
                have hne3 : bx ≠ bm := HH.out.nm
                have HF : Hid (RunW w (setL w3 bm 0 (mcells c' A2 cp2)) bc bm c' A2 cp2) := RunW.hear HH.out.run HH.out.row H3.out.1 H3.out.2.1
                clear x2 x3
                go_wp2_with fail
                go_meet
                exact ⟨bc, c', A2, cp2, rfl, HF.out, HIN.out⟩
          · have q2 : (x.kind == 2) = false := by simpa using k2
            clear k2
            have HFT := Lib.hid (hI0.out.fits (by omega))
            go_wp2_with fail
            refine (encode_any bc c _ HR.out.1.clk HFT.out).mono ?_
            rintro e w1 ⟨v1, rfl, h1⟩
            obtain ⟨A5, c5, rfl⟩ := ownsRow_form h1.own
            have H1 : Hid (RunW w w1 bc bm c A' cp') := HR.out.1.keep h1.fr
            have HB1 := Lib.hid (RowIn.of_owned h1.own)
            have hel : c.enc.length ≤ 4294967296 := by have := Clk.enc_len HFT.out; omega
            clear h1
            go_wp2_with fail
            refine (decode_any A5 c5 c.enc _ hel HB1.out).mono ?_
            rintro e w2 ⟨hf2, he2⟩
            obtain ⟨d1, d2⟩ := Clk.dec_enc hI0.out (by omega) HR.out.2.2 hel
            rw [if_pos d1] at he2
            obtain ⟨bc', hbc', rfl, hat⟩ := he2
            rw [d2] at hat
            have H2 : Hid (RunW w w2 bc' bm c A' cp') := by
              have hk := H1.out.keep hf2
              refine ⟨hk.fr, hat, hk.ref, ?_, by have := H1.out.fr.size; omega, hk.hbm⟩
              refine (H1.out.row.off (S' := [bc', bm]) ?_).fr hf2 (by simp)
              intro y hy
              simp at hy
              rcases hy with rfl | rfl
              · exact .inr hbc'
              · exact .inl (by simp)
            clear hf2 hat d1 d2 hbc' hel
            go_wp2_with fail
            go_meet
            exact ⟨bc', c, A', cp', rfl, H2.out, HR.out.2.1.mono (by omega), HR.out.2.2⟩
      case rest =>
        obtain ⟨bc', c', A2, cp2, rfl, HH⟩ := hcut
        clear HR
        have HI : Hid (c'.Inv 1000000) := HH.out.2.1.mono (by omega)
        have HFT := Lib.hid (HI.out.fits (by omega))
        have HSU : Hid (rsup c'.toR.first c'.toR.quorum c'.toR.told = c'.sup) := c'.rsup_eq HI.out.ok HI.out.q0
        have HEE : Hid (encV c'.toR.vals = c'.enc) := by show _ = _; rw [RClk.encV_vals, ← Clk.enc_toR]
        have HQ0 : Hid (RunW w wc.drew bc' bm c' A2 cp2) := HH.out.1.drew
        have HHI := Lib.hid HH.out.2
        clear HH x1 x2 x3 hb
        go_wp2_with fail
        refine wp_region_held_drew (S := fun w' => w'.cell? ⟨bm, 0, none⟩ = some (Value.int .i64 c'.first) ∧ w'.cell? ⟨bm, 1, none⟩ = some (Value.int .i64 c'.day) ∧ w'.cell? ⟨bm, 2, none⟩ = some (Value.int .i64 c'.leap) ∧ w'.cell? ⟨bm, 3, none⟩ = some (Value.int .i64 c'.quorum) ∧ w'.cell? ⟨bm, 4, none⟩ = some (Value.int .i64 c'.own) ∧ w'.cell? ⟨bm, 5, none⟩ = some (Value.bool c'.read) ∧ w'.cell? ⟨bm, 6, none⟩ = some (Value.int .i64 c'.ref) ∧ w'.cell? ⟨bm, 7, none⟩ = some (.slice A2 c'.toR.told.length cp2)) (by kernel_rfl) (mc8 HQ0.out.ref) (fun hHeld => ?_)
        refine wpAnyH_take (i := 0) (v := ?v0) rfl (by kernel_rfl) (by kernel_rfl) (by kernel_rfl) (fun _ _ _ h => h) (Or.inl ⟨by rfl, ?y0⟩) hHeld ?r0
        case y0 => (intro w' hS'; (try dsimp only at hS'); go_simp; try with_reducible rfl)
        refine wpAnyH_take (i := 2) (v := ?v2) rfl (by kernel_rfl) (by kernel_rfl) (by kernel_rfl) (fun _ _ _ h => h) (Or.inl ⟨by rfl, ?y2⟩) hHeld ?r2
        case y2 => (intro w' hS'; (try dsimp only at hS'); go_simp; try with_reducible rfl)
        refine wpAnyH_take (i := 3) (v := ?v3) rfl (by kernel_rfl) (by kernel_rfl) (by kernel_rfl) (fun _ _ _ h => h) (Or.inl ⟨by rfl, ?y3⟩) hHeld ?r3
        case y3 => (intro w' hS'; (try dsimp only at hS'); go_simp; try with_reducible rfl)
        refine wpAnyH_ready (rs := [1]) (by kernel_rfl) (by simp) ?_
        refine AllReadyH.cons rfl (fun K hK => ?_) AllReadyH.nil
        go_simp
        refine (day_any bc' c' _ (by exact HQ0.out.clk)).mono ?_
        rintro e w5 ⟨rfl, rfl⟩
        go_wp2_with fail
        refine hK.out _ _ (mc8 HQ0.out.ref) (fun hHeld2 => ?_)
        clear hK K hHeld
        have hHeld := hHeld2
        clear hHeld2
        refine wpAnyH_take (i := 4) (v := ?v4) rfl (by kernel_rfl) (by kernel_rfl) (by kernel_rfl) (fun _ _ _ h => h) (Or.inl ⟨by rfl, ?y4⟩) hHeld ?r4
        case y4 => (intro w' hS'; (try dsimp only at hS'); go_simp; try with_reducible rfl)
        refine wpAnyH_take (i := 5) (v := ?v5) rfl (by kernel_rfl) (by kernel_rfl) (by kernel_rfl) (fun _ _ _ h => h) (Or.inl ⟨by rfl, ?y5⟩) hHeld ?r5
        case y5 => (intro w' hS'; (try dsimp only at hS'); go_simp; try with_reducible rfl)
        refine wpAnyH_take (i := 6) (v := ?v6) rfl (by kernel_rfl) (by kernel_rfl) (by kernel_rfl) (fun _ _ _ h => h) (Or.inl ⟨by rfl, ?y6⟩) hHeld ?r6
        case y6 => (intro w' hS'; (try dsimp only at hS'); go_simp; try with_reducible rfl)
        refine wpAnyH_take (i := 8) (v := ?v8) rfl (by kernel_rfl) (by kernel_rfl) (by kernel_rfl) (fun _ _ _ h => h) (Or.inl ⟨by rfl, ?y8⟩) hHeld ?r8
        case y8 => (intro w' hS'; (try dsimp only at hS'); go_simp; try with_reducible rfl)
        refine wpAnyH_take (i := 9) (v := ?v9) rfl (by kernel_rfl) (by kernel_rfl) (by kernel_rfl) (fun _ _ _ h => h) (Or.inl ⟨by rfl, ?y9⟩) hHeld ?r9
        case y9 => (intro w' hS'; (try dsimp only at hS'); go_simp; try with_reducible rfl)
        refine wpAnyH_ready (rs := [7]) (by kernel_rfl) (by simp) ?_
        refine AllReadyH.cons rfl (fun K hK => ?_) AllReadyH.nil
        go_simp
        refine (own_any bc' c' _ (by exact HQ0.out.clk)).mono ?_
        rintro e w5 ⟨rfl, rfl⟩
        go_wp2_with fail
        refine hK.out _ _ (mc8 HQ0.out.ref) (fun hHeld2 => ?_)
        clear hK K hHeld
        have hHeld := hHeld2
        clear hHeld2
        refine wpAnyH_take (i := 10) (v := ?v10) rfl (by kernel_rfl) (by kernel_rfl) (by kernel_rfl) (fun _ _ _ h => h) (Or.inl ⟨by rfl, ?y10⟩) hHeld ?r10
        case y10 => (intro w' hS'; (try dsimp only at hS'); go_simp; try with_reducible rfl)
        refine wpAnyH_take (i := 11) (v := ?v11) rfl (by kernel_rfl) (by kernel_rfl) (by kernel_rfl) (fun _ _ _ h => h) (Or.inl ⟨by rfl, ?y11⟩) hHeld ?r11
        case y11 => (intro w' hS'; (try dsimp only at hS'); go_simp; try with_reducible rfl)
        refine wpAnyH_take (i := 12) (v := ?v12) rfl (by kernel_rfl) (by kernel_rfl) (by kernel_rfl) (fun _ _ _ h => h) (Or.inl ⟨by rfl, ?y12⟩) hHeld ?r12
        case y12 => (intro w' hS'; (try dsimp only at hS'); go_simp; try with_reducible rfl)
        refine wpAnyH_take (i := 13) (v := ?v13) rfl (by kernel_rfl) (by kernel_rfl) (by kernel_rfl) (fun _ _ _ h => h) (Or.inl ⟨by rfl, ?y13⟩) hHeld ?r13
        case y13 => (intro w' hS'; (try dsimp only at hS'); go_simp; try with_reducible rfl)
        refine wpAnyH_take (i := 15) (v := ?v15) rfl (by kernel_rfl) (by kernel_rfl) (by kernel_rfl) (fun _ _ _ h => h) (Or.inl ⟨by rfl, ?y15⟩) hHeld ?r15
        case y15 => (intro w' hS'; (try dsimp only at hS'); go_simp; try with_reducible rfl)
        refine wpAnyH_ready (rs := [14]) (by kernel_rfl) (by simp) ?_
        refine AllReadyH.cons rfl (fun K hK => ?_) AllReadyH.nil
        go_simp
        refine (supported_any bc' c' _ (by exact HQ0.out.clk) HI.out.ok HI.out.q0 HI.out.q1).mono ?_
        rintro e v1 ⟨rfl, hf1⟩
        have HQ1 := Lib.hid (HQ0.out.keep hf1)
        clear hf1
        go_wp2_with fail
        refine hK.out _ _ (mc8 HQ1.out.ref) (fun hHeld2 => ?_)
        clear hK K hHeld
        have hHeld := hHeld2
        clear hHeld2
        refine wpAnyH_ready (rs := [16]) (by kernel_rfl) (by simp) ?_
        refine AllReadyH.cons rfl (fun K hK => ?_) AllReadyH.nil
        go_simp
        refine (refSup_any c'.toR A2 cp2 _ HQ1.out.row.row (by have := c'.told_len; omega)).mono ?_
        rintro e v2 ⟨rfl, hf2⟩
        rw [HSU.out]
        have HQ2 := Lib.hid (HQ1.out.keep hf2)
        clear hf2
        go_wp2_with fail
        refine hK.out _ _ (mc8 HQ2.out.ref) (fun hHeld2 => ?_)
        clear hK K hHeld
        have hHeld := hHeld2
        clear hHeld2
        refine wpAnyH_take (i := 17) (v := ?v17) rfl (by kernel_rfl) (by kernel_rfl) (by kernel_rfl) (fun _ _ _ h => h) (Or.inl ⟨by rfl, ?y17⟩) hHeld ?r17
        case y17 => (intro w' hS'; (try dsimp only at hS'); go_simp; try with_reducible rfl)
        refine wpAnyH_take (i := 18) (v := ?v18) rfl (by kernel_rfl) (by kernel_rfl) (by kernel_rfl) (fun _ _ _ h => h) (Or.inl ⟨by rfl, ?y18⟩) hHeld ?r18
        case y18 => (intro w' hS'; (try dsimp only at hS'); go_simp; try with_reducible rfl)
        refine wpAnyH_take (i := 19) (v := ?v19) rfl (by kernel_rfl) (by kernel_rfl) (by kernel_rfl) (fun _ _ _ h => h) (Or.inl ⟨by rfl, ?y19⟩) hHeld ?r19
        case y19 => (intro w' hS'; (try dsimp only at hS'); go_simp; try with_reducible rfl)
        refine wpAnyH_take (i := 20) (v := ?v20) rfl (by kernel_rfl) (by kernel_rfl) (by kernel_rfl) (fun _ _ _ h => h) (Or.inl ⟨by rfl, ?y20⟩) hHeld ?r20
        case y20 => (intro w' hS'; (try dsimp only at hS'); go_simp; try with_reducible rfl)
        refine wpAnyH_take (i := 23) (v := ?v23) rfl (by kernel_rfl) (by kernel_rfl) (by kernel_rfl) (fun _ _ _ h => h) (Or.inl ⟨by rfl, ?y23⟩) hHeld ?r23
        case y23 => (intro w' hS'; (try dsimp only at hS'); go_simp; try with_reducible rfl)
        refine wpAnyH_ready (rs := [21]) (by kernel_rfl) (by simp) ?_
        refine AllReadyH.cons rfl (fun K hK => ?_) AllReadyH.nil
        go_simp
        refine (encode_any bc' c' _ (by exact HQ2.out.clk) HFT.out).mono ?_
        rintro e v3 ⟨u3, rfl, h3⟩
        obtain ⟨A4, k4, rfl⟩ := ownsRow_form h3.own
        have HQ3 := Lib.hid (HQ2.out.keep h3.fr)
        have HB3 := Lib.hid (RowIn.of_owned h3.own)
        clear h3
        go_wp2_with fail
        refine hK.out _ _ (mc8 HQ3.out.ref) (fun hHeld2 => ?_)
        clear hK K hHeld
        refine wpAnyH_weaken (S' := fun w' => (w'.cell? ⟨bm, 0, none⟩ = some (Value.int .i64 c'.first) ∧ w'.cell? ⟨bm, 1, none⟩ = some (Value.int .i64 c'.day) ∧ w'.cell? ⟨bm, 2, none⟩ = some (Value.int .i64 c'.leap) ∧ w'.cell? ⟨bm, 3, none⟩ = some (Value.int .i64 c'.quorum) ∧ w'.cell? ⟨bm, 4, none⟩ = some (Value.int .i64 c'.own) ∧ w'.cell? ⟨bm, 5, none⟩ = some (Value.bool c'.read) ∧ w'.cell? ⟨bm, 6, none⟩ = some (Value.int .i64 c'.ref) ∧ w'.cell? ⟨bm, 7, none⟩ = some (.slice A2 c'.toR.told.length cp2)) ∧ (convert 44 9 (.slice A4 c'.enc.length k4)).run Try.prog w' = .ok (.string (strOf c'.enc)) w') (fun _ h => h.1) _ _ _ _ ?_
        have hHeld : (fun w' => (w'.cell? ⟨bm, 0, none⟩ = some (Value.int .i64 c'.first) ∧ w'.cell? ⟨bm, 1, none⟩ = some (Value.int .i64 c'.day) ∧ w'.cell? ⟨bm, 2, none⟩ = some (Value.int .i64 c'.leap) ∧ w'.cell? ⟨bm, 3, none⟩ = some (Value.int .i64 c'.quorum) ∧ w'.cell? ⟨bm, 4, none⟩ = some (Value.int .i64 c'.own) ∧ w'.cell? ⟨bm, 5, none⟩ = some (Value.bool c'.read) ∧ w'.cell? ⟨bm, 6, none⟩ = some (Value.int .i64 c'.ref) ∧ w'.cell? ⟨bm, 7, none⟩ = some (.slice A2 c'.toR.told.length cp2)) ∧ (convert 44 9 (.slice A4 c'.enc.length k4)).run Try.prog w' = .ok (.string (strOf c'.enc)) w') _ := ⟨hHeld2, run_str_x _ A4 k4 c'.enc HB3.out⟩
        clear hHeld2
        refine wpAnyH_take (i := 22) (v := ?v22) rfl (by kernel_rfl) (by kernel_rfl) (by kernel_rfl) (fun _ _ _ h => h) (Or.inl ⟨by rfl, ?y22⟩) hHeld ?r22
        case y22 => (intro w' hS'; (try dsimp only at hS'); go_simp; try with_reducible rfl)
        refine wpAnyH_ready (rs := [24]) (by kernel_rfl) (by simp) ?_
        refine AllReadyH.cons rfl (fun K hK => ?_) AllReadyH.nil
        go_simp
        refine (refEnc_any c'.toR A2 cp2 _ HQ3.out.row.row (by have := c'.told_len; omega) HFT.out.vals).mono ?_
        rintro e v4 ⟨u4, rfl, h4⟩
        rw [HEE.out] at h4
        obtain ⟨A6, k6, rfl⟩ := ownsRow_form h4.own
        have HQ4 := Lib.hid (HQ3.out.keep h4.fr)
        have HB4 := Lib.hid (HB3.out.fr0 h4.fr)
        have HB5 := Lib.hid (RowIn.of_owned h4.own)
        clear h4
        go_wp2_with fail
        refine hK.out _ _ (⟨mc8 HQ4.out.ref, run_str_x _ A4 k4 c'.enc HB4.out⟩) (fun hHeld2 => ?_)
        clear hK K hHeld
        refine wpAnyH_weaken (S' := fun w' => ((w'.cell? ⟨bm, 0, none⟩ = some (Value.int .i64 c'.first) ∧ w'.cell? ⟨bm, 1, none⟩ = some (Value.int .i64 c'.day) ∧ w'.cell? ⟨bm, 2, none⟩ = some (Value.int .i64 c'.leap) ∧ w'.cell? ⟨bm, 3, none⟩ = some (Value.int .i64 c'.quorum) ∧ w'.cell? ⟨bm, 4, none⟩ = some (Value.int .i64 c'.own) ∧ w'.cell? ⟨bm, 5, none⟩ = some (Value.bool c'.read) ∧ w'.cell? ⟨bm, 6, none⟩ = some (Value.int .i64 c'.ref) ∧ w'.cell? ⟨bm, 7, none⟩ = some (.slice A2 c'.toR.told.length cp2)) ∧ (convert 44 9 (.slice A4 c'.enc.length k4)).run Try.prog w' = .ok (.string (strOf c'.enc)) w') ∧ (convert 44 9 (.slice A6 c'.enc.length k6)).run Try.prog w' = .ok (.string (strOf c'.enc)) w') (fun _ h => h.1) _ _ _ _ ?_
        have hHeld : (fun w' => ((w'.cell? ⟨bm, 0, none⟩ = some (Value.int .i64 c'.first) ∧ w'.cell? ⟨bm, 1, none⟩ = some (Value.int .i64 c'.day) ∧ w'.cell? ⟨bm, 2, none⟩ = some (Value.int .i64 c'.leap) ∧ w'.cell? ⟨bm, 3, none⟩ = some (Value.int .i64 c'.quorum) ∧ w'.cell? ⟨bm, 4, none⟩ = some (Value.int .i64 c'.own) ∧ w'.cell? ⟨bm, 5, none⟩ = some (Value.bool c'.read) ∧ w'.cell? ⟨bm, 6, none⟩ = some (Value.int .i64 c'.ref) ∧ w'.cell? ⟨bm, 7, none⟩ = some (.slice A2 c'.toR.told.length cp2)) ∧ (convert 44 9 (.slice A4 c'.enc.length k4)).run Try.prog w' = .ok (.string (strOf c'.enc)) w') ∧ (convert 44 9 (.slice A6 c'.enc.length k6)).run Try.prog w' = .ok (.string (strOf c'.enc)) w') _ := ⟨hHeld2, run_str_x _ A6 k6 c'.enc HB5.out⟩
        clear hHeld2
        refine wpAnyH_take (i := 25) (v := ?v25) rfl (by kernel_rfl) (by kernel_rfl) (by kernel_rfl) (fun _ _ _ h => h) (Or.inl ⟨by rfl, ?y25⟩) hHeld ?r25
        case y25 => (intro w' hS'; (try dsimp only at hS'); go_simp; try with_reducible rfl)
        refine wpAnyH_take (i := 26) (v := ?v26) rfl (by kernel_rfl) (by kernel_rfl) (by kernel_rfl) (fun _ _ _ h => h) (Or.inl ⟨by rfl, ?y26⟩) hHeld ?r26
        case y26 => (intro w' hS'; (try dsimp only at hS'); go_simp; try with_reducible rfl)
        refine wpAnyH_take (i := 27) (v := ?v27) rfl (by kernel_rfl) (by kernel_rfl) (by kernel_rfl) (fun _ _ _ h => h) (Or.inl ⟨by rfl, ?y27⟩) hHeld ?r27
        case y27 => (intro w' hS'; (try dsimp only at hS'); go_simp; try with_reducible rfl)
        refine wpAnyH_done (by kernel_rfl) ?_ _
        go_wp2_with fail
        go_roundw
        case rel => exact ⟨k + 1, bc', c', A2, cp2, by omega, by go_num, rfl, HQ4.out, HHI.out⟩
        case measure => simp [intOf]; omega
    · obtain rfl : k = ops.length := by omega
      go_wp2_with fail
      go_ret
      exact ⟨rfl, HR.out.1.fr⟩

theorem runs_any (d l q : Int) (A : Option Addr) (cap : Nat) (ops : List Op3) (w : World) (hops : OpsIn w A ops) :
    Calls Try.prog 8 #[Value.int .i64 d, Value.int .i64 l, Value.int .i64 q, .slice A ops.length cap] w (OkTrue w) := by
  cases h : (Clk.new d l q).ranges
  · exact runs_bad d l q A ops.length cap w h
  · by_cases hn : ops.length ≤ 30
    · exact runs_ok d l q A cap ops w h hops hn
    · exact runs_long d l q A ops.length cap w h (by omega)

end Go.Proofs.Ytflabbdnkoejjaa
