/- DayclockRises returns true for every input: the day never decreases, and it is at most the supported day plus the own days. -/
import Derived.Test.YtflabbdnkoejjaaDcRun2
import Derived.Test.YtflabbdnkoejjaaDcOpen
import Derived.Test.YtflabbdnkoejjaaDcAwake
import Derived.Test.YtflabbdnkoejjaaLaw
namespace Go.Proofs.Ytflabbdnkoejjaa
open Go.RowKit

set_option maxHeartbeats 4000000 in
set_option maxRecDepth 100000 in
theorem rises_bad (d l q : Int) (A : Option Addr) (n cap : Nat) (w : World) (h : (Clk.new d l q).ranges = false) : Calls Try.prog 4 #[Value.int .i64 d, Value.int .i64 l, Value.int .i64 q, .slice A n cap] w (OkTrue w) := by
  have H := Lib.hid h
  clear h
  go_enter Try.func4, Try.ntmps4
  go_wp2_with fail
  refine (new_bad d l q _ H.out).mono ?_
  rintro e w0 ⟨rfl, hf0⟩
  have H0 := Lib.hid hf0
  clear hf0
  go_wp2_with fail
  refine (awake_any _).mono ?_
  rintro e w1 ⟨rfl, hf1⟩
  have H1 := Lib.hid (H0.out.trans hf1)
  clear hf1 H0
  go_wp2_with fail
  refine (awake_any _).mono ?_
  rintro e w2 ⟨rfl, hf2⟩
  have H2 := Lib.hid (H1.out.trans hf2)
  clear hf2 H1
  go_wp2_with fail
  go_ret
  exact ⟨rfl, H2.out⟩

set_option maxHeartbeats 4000000 in
set_option maxRecDepth 100000 in
theorem rises_long (d l q : Int) (A : Option Addr) (n cap : Nat) (w : World) (h : (Clk.new d l q).ranges = true) (hn : 30 < n) : Calls Try.prog 4 #[Value.int .i64 d, Value.int .i64 l, Value.int .i64 q, .slice A n cap] w (OkTrue w) := by
  have H := Lib.hid h
  clear h
  have hd : decide (30 < (n : Int)) = true := by simp; omega
  go_enter Try.func4, Try.ntmps4
  go_wp2_with fail
  refine (new_ok d l q _ H.out).mono ?_
  rintro e w0 ⟨rfl, hf0, _⟩
  have H0 := Lib.hid hf0
  clear hf0
  go_wp2_with fail
  refine (awake_any _).mono ?_
  rintro e w1 ⟨rfl, hf1⟩
  have H1 := Lib.hid (H0.out.trans hf1)
  clear hf1 H0
  go_wp2_with fail
  refine (awake_any _).mono ?_
  rintro e w2 ⟨rfl, hf2⟩
  have H2 := Lib.hid (H1.out.trans hf2)
  clear hf2 H1
  go_wp2_with fail
  go_ret
  exact ⟨rfl, H2.out⟩

set_option maxHeartbeats 4000000 in
set_option maxRecDepth 100000 in
theorem rises_ok (d l q : Int) (A : Option Addr) (cap : Nat) (ops : List Op3) (w : World) (h : (Clk.new d l q).ranges = true) (hops : OpsIn w A ops) (hn : ops.length ≤ 30) :
    Calls Try.prog 4 #[Value.int .i64 d, Value.int .i64 l, Value.int .i64 q, .slice A ops.length cap] w (OkTrue w) := by
  have H := Lib.hid h
  have HO := Lib.hid hops
  have HI : Hid (∀ k, k ≤ ops.length → ((Clk.new d l q).runs (ops.take k)).Inv (1000000000)) := by
    intro k hk
    have := (Clk.new_inv d l q h).runs (Int.le_refl _) (ops.take k) (by simp; omega) (by
      intro x hx
      obtain ⟨i, hi⟩ := List.mem_iff_getElem?.1 (List.mem_of_mem_take hx)
      exact (hops i x hi).1)
    exact this.mono (by simp; omega)
  clear h hops
  have hd : decide (30 < (ops.length : Int)) = false := by simp; omega
  go_enter Try.func4, Try.ntmps4
  go_wp2_with fail
  refine (new_ok d l q _ H.out).mono ?_
  rintro e w0 ⟨rfl, hf0, ha0⟩
  have H0 : Hid (Fr [] w w0 ∧ At w0 w.heap.size 57 (Clk.new d l q).cells) := ⟨hf0, ha0⟩
  clear hf0 ha0
  go_wp2_with fail
  refine (awake_any _).mono ?_
  rintro e w1 ⟨rfl, hf1⟩
  have H1 : Hid (Fr [] w w1 ∧ At w1 w.heap.size 57 (Clk.new d l q).cells) := ⟨H0.out.1.trans hf1, H0.out.2.fr hf1 (by simp)⟩
  clear hf1 H0
  go_wp2_with fail
  refine (day_any _ _ _ H1.out.2).mono ?_
  rintro e w' ⟨rfl, rfl⟩
  clear hd
  go_wp2_with fail
  go_loopw [11, 12] (fun la i wr => ∃ k : Nat, k ≤ ops.length ∧ i = .int .i64 k ∧ la = .int .i64 ((Clk.new d l q).runs (ops.take k)).day ∧ Fr [] w wr ∧ At wr w.heap.size 57 ((Clk.new d l q).runs (ops.take k)).cells) (fun _ i _ => ops.length - (intOf i).toNat)
  case atStart => exact ⟨0, by omega, rfl, rfl, H1.out.1, H1.out.2⟩
  case round =>
    obtain ⟨k, hk, rfl, rfl, hfr, hat⟩ := hrel
    have HR := Lib.hid (And.intro hfr hat)
    have hsz := hfr.size
    clear hfr hat H1
    by_cases hlt : k < ops.length
    · have hx := List.getElem?_eq_getElem hlt
      generalize ops[k] = x at hx
      obtain ⟨hfit, b, o, rfl, hb, c1, c2, c3⟩ := (HO.out.fr HR.out.1 (by simp)) k x hx
      have HX := Lib.hid (And.intro hx hfit)
      have hsn := Clk.runs_snoc (Clk.new d l q) ops k x hx
      have hI1 := HI.out (k + 1) (by omega)
      have hmon := ((HI.out k hk).op (by omega) (by omega) x hfit).2
      rw [← hsn] at hmon
      clear hx hfit
      generalize hc' : (Clk.new d l q).runs (ops.take (k + 1)) = c' at hsn hI1 hmon
      generalize hc : (Clk.new d l q).runs (ops.take k) = c at hsn hmon HR
      have s0 := hI1.s0
      have s1 := hI1.s1
      have d1 := hI1.d1
      have o0 := hI1.o0
      have o1 := hI1.o1
      have d0 := hI1.d0
      have f0 := hI1.f0
      have f1 := c'.first_le_sup hI1.q0
      have t1 : decide (c'.day < c.day) = false := by simpa using hmon
      have t2 : decide (c'.sup + c'.own < c'.day) = false := by simpa using s1
      have t3 : decide (c'.day < c'.sup) = false := by simpa using s0
      have t4 : decide (999999 < c'.day) = false := by simpa using d1
      have HC := Lib.hid (And.intro hc hc')
      have HI' := Lib.hid hI1
      have HI0 := Lib.hid (hc ▸ HI.out k hk)
      have HS := Lib.hid hsn
      clear hc hc' hI1 hsn
      by_cases hkd : x.kind = 1
      · have hkb : (x.kind == 1) = true := by simpa using hkd
        have HK := Lib.hid hkd
        clear hkd
        go_wp2_with fail
        refine (read_inv _ _ _ _ _ HR.out.2 HI0.out (by omega) HX.out.2.d1).mono ?_
        rintro e w1 ⟨rfl, hf1, ha1⟩
        have H1 : Hid (Fr [] w w1 ∧ At w1 w.heap.size 57 c'.cells) := by
          refine ⟨HR.out.1.trans' hf1 (by simp), ?_⟩
          rw [HS.out, Clk.op, if_pos HK.out]
          exact ha1
        clear hf1 ha1
        go_wp2_with fail
        refine (day_any _ _ _ H1.out.2).mono ?_
        rintro e w' ⟨rfl, rfl⟩
        go_wp2_with fail
        refine (day_any _ _ _ H1.out.2).mono ?_
        rintro e w' ⟨rfl, rfl⟩
        go_wp2_with fail
        refine (supported_any _ c' _ H1.out.2 HI'.out.ok HI'.out.q0 HI'.out.q1).mono ?_
        rintro e w2 ⟨rfl, hf1⟩
        have H2 : Hid (Fr [] w w2 ∧ At w2 w.heap.size 57 c'.cells) := ⟨H1.out.1.trans hf1, H1.out.2.fr hf1 (by simp)⟩
        clear hf1
        go_wp2_with fail
        refine (own_any _ _ _ H2.out.2).mono ?_
        rintro e w' ⟨rfl, rfl⟩
        go_wp2_with fail
        refine (supported_any _ c' _ H2.out.2 HI'.out.ok HI'.out.q0 HI'.out.q1).mono ?_
        rintro e w3 ⟨rfl, hf1⟩
        have H3 : Hid (Fr [] w w3 ∧ At w3 w.heap.size 57 c'.cells) := ⟨H2.out.1.trans hf1, H2.out.2.fr hf1 (by simp)⟩
        clear hf1
        go_wp2_with fail
        refine (day_any _ _ _ H3.out.2).mono ?_
        rintro e w' ⟨rfl, rfl⟩
        go_wp2_with fail
        refine (day_any _ _ _ H3.out.2).mono ?_
        rintro e w' ⟨rfl, rfl⟩
        go_wp2_with fail
        refine (day_any _ _ _ H3.out.2).mono ?_
        rintro e w' ⟨rfl, rfl⟩
        go_wp2_with fail
        go_roundw
        case rel => exact ⟨k + 1, by omega, by go_num, by rw [HC.out.2], by rw [HC.out.2]; exact H3.out⟩
        case measure => simp [intOf]; omega
      · have hkb : (x.kind == 1) = false := by simpa using hkd
        have HK := Lib.hid hkd
        clear hkd
        go_wp2_with fail
        go_still_tail 11, (by kernel_rfl)
        change wpList _ _ _ _ _ wr.drew
        go_wp2_with fail
        refine (hear_inv _ _ _ _ _ _ HR.out.2.drew HI0.out).mono ?_
        rintro e w1 ⟨rfl, hf1, ha1⟩
        have H1 : Hid (Fr [] w w1 ∧ At w1 w.heap.size 57 c'.cells) := by
          refine ⟨HR.out.1.drew.trans' hf1 (by simp), ?_⟩
          rw [HS.out, Clk.op, if_neg HK.out]
          exact ha1
        clear hf1 ha1
        go_wp2_with fail
        refine (day_any _ _ _ H1.out.2).mono ?_
        rintro e w' ⟨rfl, rfl⟩
        go_wp2_with fail
        refine (day_any _ _ _ H1.out.2).mono ?_
        rintro e w' ⟨rfl, rfl⟩
        go_wp2_with fail
        refine (supported_any _ c' _ H1.out.2 HI'.out.ok HI'.out.q0 HI'.out.q1).mono ?_
        rintro e w2 ⟨rfl, hf1⟩
        have H2 : Hid (Fr [] w w2 ∧ At w2 w.heap.size 57 c'.cells) := ⟨H1.out.1.trans hf1, H1.out.2.fr hf1 (by simp)⟩
        clear hf1
        go_wp2_with fail
        refine (own_any _ _ _ H2.out.2).mono ?_
        rintro e w' ⟨rfl, rfl⟩
        go_wp2_with fail
        refine (supported_any _ c' _ H2.out.2 HI'.out.ok HI'.out.q0 HI'.out.q1).mono ?_
        rintro e w3 ⟨rfl, hf1⟩
        have H3 : Hid (Fr [] w w3 ∧ At w3 w.heap.size 57 c'.cells) := ⟨H2.out.1.trans hf1, H2.out.2.fr hf1 (by simp)⟩
        clear hf1
        go_wp2_with fail
        refine (day_any _ _ _ H3.out.2).mono ?_
        rintro e w' ⟨rfl, rfl⟩
        go_wp2_with fail
        refine (day_any _ _ _ H3.out.2).mono ?_
        rintro e w' ⟨rfl, rfl⟩
        go_wp2_with fail
        refine (day_any _ _ _ H3.out.2).mono ?_
        rintro e w' ⟨rfl, rfl⟩
        go_wp2_with fail
        go_roundw
        case rel => exact ⟨k + 1, by omega, by go_num, by rw [HC.out.2], by rw [HC.out.2]; exact H3.out⟩
        case measure => simp [intOf]; omega
    · go_wp2_with fail
      go_ret
      exact ⟨rfl, HR.out.1⟩

theorem rises_any (d l q : Int) (A : Option Addr) (cap : Nat) (ops : List Op3) (w : World) (hops : OpsIn w A ops) :
    Calls Try.prog 4 #[Value.int .i64 d, Value.int .i64 l, Value.int .i64 q, .slice A ops.length cap] w (OkTrue w) := by
  cases h : (Clk.new d l q).ranges
  · exact rises_bad d l q A _ cap w h
  · by_cases hn : ops.length ≤ 30
    · exact rises_ok d l q A cap ops w h hops hn
    · exact rises_long d l q A _ cap w h (by omega)

end Go.Proofs.Ytflabbdnkoejjaa
