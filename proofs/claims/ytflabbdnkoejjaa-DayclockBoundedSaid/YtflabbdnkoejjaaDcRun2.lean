/- Contract of run: it performs the calls, one by one, on a new clock. -/
import Derived.Test.YtflabbdnkoejjaaDcRun
import Derived.Test.YtflabbdnkoejjaaDcRefNew
namespace Go.Proofs.Ytflabbdnkoejjaa
open Go.RowKit

theorem run_bad (d l q : Int) (A : Option Addr) (n cap : Nat) (w : World) (h : (Clk.new d l q).ranges = false) :
    Calls Try.prog 18 #[Value.int .i64 d, Value.int .i64 l, Value.int .i64 q, .slice A n cap] w fun e w' => e = .returned (.pointer none) ∧ Fr [] w w' := by
  have H := Lib.hid h
  clear h
  go_enter Try.func18, Try.ntmps18
  go_wp2_with fail
  refine (new_bad d l q _ H.out).mono ?_
  rintro e w0 ⟨rfl, hf0⟩
  have H0 := Lib.hid hf0
  clear hf0
  go_wp2_with fail
  go_ret
  exact ⟨rfl, H0.out⟩

set_option maxHeartbeats 4000000 in
set_option maxRecDepth 100000 in
theorem run_ok (d l q : Int) (A : Option Addr) (cap : Nat) (ops : List Op3) (w : World) (h : (Clk.new d l q).ranges = true) (hops : OpsIn w A ops) (hn : ops.length ≤ 1000000) :
    Calls Try.prog 18 #[Value.int .i64 d, Value.int .i64 l, Value.int .i64 q, .slice A ops.length cap] w fun e w' => e = .returned (.pointer (some ⟨w.heap.size, 0, none⟩)) ∧ Fr [] w w' ∧ At w' w.heap.size 57 ((Clk.new d l q).runs ops).cells := by
  have H := Lib.hid h
  have HO := Lib.hid hops
  have HI : Hid (∀ k, k ≤ ops.length → ((Clk.new d l q).runs (ops.take k)).Inv (1000000000)) := by
    intro k hk
    have := (Clk.new_inv d l q h).runs (Int.le_refl _) (ops.take k) (by simp; omega) (by
      intro x hx
      obtain ⟨i, hi⟩ := List.mem_iff_getElem?.1 (List.mem_of_mem_take hx)
      exact (hops i x hi).1)
    exact this.mono (by simp; omega)
  clear h hops
  go_enter Try.func18, Try.ntmps18
  go_wp2_with fail
  refine (new_ok d l q _ H.out).mono ?_
  rintro e w0 ⟨rfl, hf0, ha0⟩
  have H0 : Hid (Fr [] w w0 ∧ At w0 w.heap.size 57 (Clk.new d l q).cells) := ⟨hf0, ha0⟩
  clear hf0 ha0
  go_wp2_with fail
  go_loopw [11] (fun i wr => ∃ k : Nat, k ≤ ops.length ∧ i = .int .i64 k ∧ Fr [] w wr ∧ At wr w.heap.size 57 ((Clk.new d l q).runs (ops.take k)).cells) (fun i _ => ops.length - (intOf i).toNat)
  case atStart => exact ⟨0, by omega, rfl, H0.out.1, H0.out.2⟩
  case round =>
    obtain ⟨k, hk, rfl, hfr, hat⟩ := hrel
    have HR := Lib.hid (And.intro hfr hat)
    have hsz := hfr.size
    clear hfr hat H0
    by_cases hlt : k < ops.length
    · have hx := List.getElem?_eq_getElem hlt
      generalize ops[k] = x at hx
      obtain ⟨hfit, b, o, rfl, hb, c1, c2, c3⟩ := (HO.out.fr HR.out.1 (by simp)) k x hx
      have HX := Lib.hid (And.intro hx hfit)
      clear hx hfit
      by_cases hkd : x.kind = 1
      · have hkb : (x.kind == 1) = true := by simpa using hkd
        have HK := Lib.hid hkd
        clear hkd
        go_wp2_with fail
        refine (read_inv _ _ _ _ _ HR.out.2 (HI.out k hk) (by omega) HX.out.2.d1).mono ?_
        rintro e w1 ⟨rfl, hf1, ha1⟩
        have H1 : Hid (Fr [] w w1 ∧ At w1 w.heap.size 57 ((Clk.new d l q).runs (ops.take (k + 1))).cells) := by
          refine ⟨HR.out.1.trans' hf1 (by simp), ?_⟩
          rw [Clk.runs_snoc _ _ _ _ HX.out.1, Clk.op, if_pos HK.out]
          exact ha1
        clear hf1 ha1
        go_wp2_with fail
        go_roundw
        case rel => exact ⟨k + 1, by omega, by go_num, H1.out⟩
        case measure => simp [intOf]; omega
      · have hkb : (x.kind == 1) = false := by simpa using hkd
        have HK := Lib.hid hkd
        clear hkd
        go_wp2_with fail
        go_still_tail 11, (by kernel_rfl)
        change wpList _ _ _ _ _ wr.drew
        go_wp2_with fail
        refine (hear_inv _ _ _ _ _ _ HR.out.2.drew (HI.out k hk)).mono ?_
        rintro e w1 ⟨rfl, hf1, ha1⟩
        have H1 : Hid (Fr [] w w1 ∧ At w1 w.heap.size 57 ((Clk.new d l q).runs (ops.take (k + 1))).cells) := by
          refine ⟨HR.out.1.drew.trans' hf1 (by simp), ?_⟩
          rw [Clk.runs_snoc _ _ _ _ HX.out.1, Clk.op, if_neg HK.out]
          exact ha1
        clear hf1 ha1
        go_wp2_with fail
        go_roundw
        case rel => exact ⟨k + 1, by omega, by go_num, H1.out⟩
        case measure => simp [intOf]; omega
    · obtain rfl : k = ops.length := by omega
      go_wp2_with fail
      go_ret
      refine ⟨rfl, ?_⟩
      have := HR.out
      rwa [List.take_length] at this

end Go.Proofs.Ytflabbdnkoejjaa
