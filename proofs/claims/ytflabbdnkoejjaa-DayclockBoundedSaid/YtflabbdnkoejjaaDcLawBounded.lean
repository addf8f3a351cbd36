/- DayclockBounded returns true for every input: fewer liars than quorum do not move the supported day over the bound. -/
import Derived.Test.YtflabbdnkoejjaaDcLiars
import Derived.Test.YtflabbdnkoejjaaDcRun2
import Derived.Test.YtflabbdnkoejjaaDcAwake
import Derived.Test.YtflabbdnkoejjaaDcOpen
namespace Go.Proofs.Ytflabbdnkoejjaa
open Go.RowKit Go.Maps

theorem ownsMap_fr {w w' : World} {P : Program} {k : TypeId} {R : Value → Option (Dat × List MemPlace)} {b n : Nat} {D : Dat} (h : w.ownsMap P k R b n D) (hf : Fr [] w w') (hb : b < w.heap.size) : w'.ownsMap P k R b n D := by
  obtain ⟨es, clock, h1, rest⟩ := h
  exact ⟨es, clock, by rw [hf.block b hb (by simp)]; exact h1, rest⟩

theorem key_int : Keyed Try.prog 3 := int_keyed Try.underlying3

set_option maxHeartbeats 4000000 in
set_option maxRecDepth 100000 in
theorem bounded_out (d l q bound : Int) (A : Option Addr) (n cap : Nat) (w : World) (hn : 30 < n ∨ bound < d) : Calls Try.prog 5 #[Value.int .i64 d, Value.int .i64 l, Value.int .i64 q, .slice A n cap, Value.int .i64 bound] w (OkTrue w) := by
  by_cases h1 : 30 < n
  · have t1 : decide (30 < (n : Int)) = true := by simp; omega
    clear hn h1
    go_enter Try.func5, Try.ntmps5
    go_wp2_with fail
    refine (awake_any _).mono ?_
    rintro e w1 ⟨rfl, hf1⟩
    have H1 := Lib.hid hf1
    clear hf1
    go_wp2_with fail
    refine (awake_any _).mono ?_
    rintro e w2 ⟨rfl, hf2⟩
    have H2 := Lib.hid (H1.out.trans hf2)
    clear hf2 H1
    go_wp2_with fail
    go_ret
    exact ⟨rfl, H2.out⟩
  · have t1 : decide (30 < (n : Int)) = false := by simp; omega
    have t2 : decide (bound < d) = true := by simp; omega
    clear hn h1
    go_enter Try.func5, Try.ntmps5
    go_wp2_with fail
    refine (awake_any _).mono ?_
    rintro e w1 ⟨rfl, hf1⟩
    have H1 := Lib.hid hf1
    clear hf1
    go_wp2_with fail
    refine (awake_any _).mono ?_
    rintro e w2 ⟨rfl, hf2⟩
    have H2 := Lib.hid (H1.out.trans hf2)
    clear hf2 H1
    go_wp2_with fail
    go_ret
    exact ⟨rfl, H2.out⟩

set_option maxHeartbeats 4000000 in
set_option maxRecDepth 100000 in
theorem bounded_in (d l q bound : Int) (A : Option Addr) (cap : Nat) (ops : List Op3) (w : World) (hops : OpsIn w A ops) (hn : ops.length ≤ 30) (hb : d ≤ bound) (hb1 : bound ≤ 9223372036854775807)
    (hdev : ∀ x ∈ ops, (Lit.int .i64 x.dev).wf = true) :
    Calls Try.prog 5 #[Value.int .i64 d, Value.int .i64 l, Value.int .i64 q, .slice A ops.length cap, Value.int .i64 bound] w (OkTrue w) := by
  have HO := Lib.hid hops
  have HD := Lib.hid hdev
  have t1 : decide (30 < (ops.length : Int)) = false := by simp; omega
  have t2 : decide (bound < d) = false := by simp; omega
  have hmm := @run_makeMap Try.prog
  clear hops hdev
  go_enter Try.func5, Try.ntmps5
  go_wp2_with fail
  refine (awake_any _).mono ?_
  rintro e w0 ⟨rfl, hf0⟩
  have h0z := hf0.size
  have H0 : Hid (Fr [] w (w0.alloc (.map #[] 0)) ∧ (w0.alloc (.map #[] 0)).ownsMap Try.prog 3 (plainElem (H := Unit) Try.prog 4) w0.heap.size 0 (.map [])) := ⟨hf0.alloc _, World.ownsMap_made _ _ _ _⟩
  clear hf0
  go_wp2_with fail
  clear t1 t2
  go_loopw [12] (fun i wr => ∃ k : Nat, k ≤ ops.length ∧ i = .int .i64 k ∧ Fr [] w wr ∧ w0.heap.size < wr.heap.size ∧ wr.ownsMap Try.prog 3 (plainElem (H := Unit) Try.prog 4) w0.heap.size k (setOf tt (liars bound (ops.take k)))) (fun i _ => ops.length - (intOf i).toNat)
  case atStart => exact ⟨0, by omega, rfl, H0.out.1, by simp, H0.out.2⟩
  case round =>
    obtain ⟨k, hk, rfl, hfr, hsz, hmap⟩ := hrel
    have HA := Lib.hid (And.intro hfr hmap)
    clear hfr hmap H0
    by_cases hlt : k < ops.length
    · have hx := List.getElem?_eq_getElem hlt
      generalize ops[k] = x at hx
      obtain ⟨hfit, b, o, rfl, hbb, c1, c2, c3⟩ := (HO.out.fr HA.out.1 (by simp)) k x hx
      have hsn := liars_snoc bound ops k x hx
      have hkey := keyOf_int_mk Try.underlying3 (HD.out x (List.mem_of_getElem? hx))
      clear hx
      by_cases hkd : x.kind = 1
      · have hkb : (x.kind != 1) = false := by simpa using hkd
        have hxl : x.lies bound = false := by simp [Op3.lies, hkd]
        rw [hxl] at hsn
        have HS := Lib.hid hsn
        clear hsn hxl hkd
        go_wp2_with fail
        go_roundw
        case rel => exact ⟨k + 1, by omega, by go_num, HA.out.1, hsz, by rw [HS.out]; simpa using HA.out.2.mono (Nat.le_succ k)⟩
        case measure => simp [intOf]; omega
      · have hkb : (x.kind != 1) = true := by simpa using hkd
        by_cases hxd : bound < x.day
        · have hxl : x.lies bound = true := by simp [Op3.lies, hkd, hxd]
          rw [hxl] at hsn
          have HS := Lib.hid hsn
          have HK := Lib.hid hkey
          clear hsn hxl hkd hkey
          go_wp2_with (at_mapUpdate; refine wpList_mapUpdate_own _ rfl _ _ _ 41 rfl 3 4 key_int Try.underlying41 (plainElem (H := Unit) Try.prog 4) w0.heap.size k _ rfl HA.out.2 (by unfold maxLen; omega) _ _ _ rfl rfl HK.out _ [] (plainElem_bool Try.underlying4 true) ?_; intro w1 hown1 hgrow1)
          have H1 : Hid (Fr [] w w1 ∧ w0.heap.size < w1.heap.size ∧ w1.ownsMap Try.prog 3 (plainElem (H := Unit) Try.prog 4) w0.heap.size (k + 1) (setOf tt (liars bound (ops.take (k + 1))))) := by
            refine ⟨HA.out.1.grown hgrow1 (fun g hg => .inr (by cases hg; exact h0z)), Nat.lt_of_lt_of_le hsz hgrow1.size, ?_⟩
            rw [HS.out]
            simp only [if_true, setOf_snoc]
            exact hown1
          clear hown1 hgrow1
          go_roundw
          case rel => exact ⟨k + 1, by omega, by go_num, H1.out⟩
          case measure => simp [intOf]; omega
        · have hxl : x.lies bound = false := by simp [Op3.lies, hxd]
          have hxd' : decide (bound < x.day) = false := by simpa using hxd
          rw [hxl] at hsn
          have HS := Lib.hid hsn
          clear hsn hxl hkd
          go_wp2_with fail
          go_roundw
          case rel => exact ⟨k + 1, by omega, by go_num, HA.out.1, hsz, by rw [HS.out]; simpa using HA.out.2.mono (Nat.le_succ k)⟩
          case measure => simp [intOf]; omega
    · obtain rfl : k = ops.length := by omega
      have HM : Hid (wr.ownsMap Try.prog 3 (plainElem (H := Unit) Try.prog 4) w0.heap.size ops.length (setOf tt (liars bound ops))) := by
        have := HA.out.2
        rwa [List.take_length] at this
      cases hr : (Clk.new d l q).ranges
      · have HRg := Lib.hid hr
        clear hr
        go_wp2_with fail
        refine (run_bad d l q _ _ _ _ HRg.out).mono ?_
        rintro e w1 ⟨rfl, hf1⟩
        have H1 := Lib.hid (HA.out.1.trans hf1)
        clear hf1
        go_wp2_with fail
        go_ret
        exact ⟨rfl, H1.out⟩
      · have HRg := Lib.hid hr
        have HB := Lib.hid (bounded_plain d l q bound hr ops hn (fun x hx => by
          obtain ⟨i, hi⟩ := List.mem_iff_getElem?.1 hx
          exact (HO.out i x hi).1) hb)
        clear hr
        go_wp2_with fail
        refine (run_ok d l q A cap ops _ HRg.out (HO.out.fr HA.out.1 (by simp)) (by omega)).mono ?_
        rintro e w1 ⟨rfl, hf1, ha1⟩
        have hlen := (ownsMap_fr HM.out hf1 hsz).len Try.underlying41
        have H1 := Lib.hid (And.intro (HA.out.1.trans hf1) ha1)
        clear hf1 ha1
        generalize hS : Maps.size (setOf tt (liars bound ops)) = N at hlen
        have HS := Lib.hid hS
        clear hS
        by_cases hN : q ≤ (N : Int)
        · have tN : decide (q ≤ (N : Int)) = true := by simpa using hN
          go_wp2_with fail
          go_ret
          exact ⟨rfl, H1.out.1⟩
        · have tN : decide (q ≤ (N : Int)) = false := by simpa using hN
          have hi := (Clk.new_inv d l q HRg.out).runs (Int.le_refl _) ops (by omega) (fun x hx => by
            obtain ⟨i, hi⟩ := List.mem_iff_getElem?.1 hx
            exact (HO.out i x hi).1)
          have hbd := HB.out (by rw [HS.out]; omega)
          have hd0 : 0 ≤ d := ((Clk.ranges_iff _).1 HRg.out).1
          generalize (Clk.new d l q).runs ops = c at hi hbd H1
          obtain ⟨p1, p2⟩ := hbd
          have q1 := hi.d0
          have q2 := hi.d1
          have HI := Lib.hid hi
          clear hi
          go_wp2_with fail
          refine (supported_any _ c _ H1.out.2 HI.out.ok HI.out.q0 HI.out.q1).mono ?_
          rintro e w2 ⟨rfl, hf2⟩
          have H2 := Lib.hid (And.intro (H1.out.1.trans hf2) (H1.out.2.fr hf2 (by simp)))
          clear hf2
          go_wp2_with fail
          refine (day_any _ _ _ H2.out.2).mono ?_
          rintro e w' ⟨rfl, rfl⟩
          go_wp2_with fail
          refine (own_any _ _ _ H2.out.2).mono ?_
          rintro e w' ⟨rfl, rfl⟩
          go_wp2_with fail
          go_ret
          exact ⟨rfl, H2.out.1⟩

theorem bounded_any (d l q bound : Int) (A : Option Addr) (cap : Nat) (ops : List Op3) (w : World) (hops : OpsIn w A ops) (hb1 : bound ≤ 9223372036854775807) (hdev : ∀ x ∈ ops, (Lit.int .i64 x.dev).wf = true) :
    Calls Try.prog 5 #[Value.int .i64 d, Value.int .i64 l, Value.int .i64 q, .slice A ops.length cap, Value.int .i64 bound] w (OkTrue w) := by
  by_cases h : 30 < ops.length ∨ bound < d
  · exact bounded_out d l q bound A _ cap w h
  · exact bounded_in d l q bound A cap ops w hops (by omega) (by omega) hb1 hdev

end Go.Proofs.Ytflabbdnkoejjaa
