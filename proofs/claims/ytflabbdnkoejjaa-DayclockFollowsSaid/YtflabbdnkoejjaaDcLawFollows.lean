/- DayclockFollows returns true for every input: a wall clock that advances by at most leap days from reading to reading is followed exactly. -/
import Derived.Test.YtflabbdnkoejjaaDcRun
import Derived.Test.YtflabbdnkoejjaaDcAwake
import Derived.Test.YtflabbdnkoejjaaOpen
namespace Go.Proofs.Ytflabbdnkoejjaa
open Go.RowKit

/-- The clock that has followed a wall clock for S days. -/
def Clk.fol (d l q wall S : Int) : Clk := { Clk.new d l q with ref := wall + S, read := true, day := min (d + S) 999999, own := min (d + S) 999999 - d }

theorem Clk.fol_zero (d l q wall : Int) (hd : d ≤ 999999) : (Clk.new d l q).rd wall = Clk.fol d l q wall 0 := by
  have hs : (Clk.new d l q).step wall = 0 := rfl
  have h1 : min (d + 0) 999999 = d := by omega
  unfold Clk.rd Clk.fol
  rw [hs, h1]
  have h2 : min (0 : Int) (9223372036854775807 - 0) + 0 = d - d := by omega
  simp only [Clk.new, Int.add_zero] at h2 ⊢
  rw [h2]

theorem Clk.fol_succ (d l q wall S s : Int) (hd : d ≤ 999999) (hS : 0 ≤ S) (hSm : S ≤ 1000000) (h0 : 0 ≤ s) (h1 : s ≤ l) (hl : l ≤ 1000) : (Clk.fol d l q wall S).rd (wall + (S + s)) = Clk.fol d l q wall (S + s) := by
  have hs : (Clk.fol d l q wall S).step (wall + (S + s)) = min s (999999 - min (d + S) 999999) := by
    unfold Clk.step
    rw [if_pos ⟨rfl, by simp only [Clk.fol]; omega, by simp only [Clk.fol, Clk.new]; omega⟩]
    simp only [Clk.fol]
    congr 1
    omega
  have e1 : min (d + S) 999999 + min s (999999 - min (d + S) 999999) = min (d + (S + s)) 999999 := by omega
  have e2 : min (min (d + S) 999999 - d) (9223372036854775807 - min s (999999 - min (d + S) 999999)) + min s (999999 - min (d + S) 999999) = min (d + (S + s)) 999999 - d := by omega
  unfold Clk.rd
  rw [hs]
  simp only [Clk.fol]
  rw [e1, e2]

theorem Clk.fol_inv (d l q wall S : Int) (h : (Clk.new d l q).ranges = true) (hS : 0 ≤ S) (hSm : S ≤ 1000000) (hw0 : -1099511627776 ≤ wall) (hw1 : wall ≤ 1099511627776) : (Clk.fol d l q wall S).Inv 1000000 := by
  obtain ⟨h0, h1, h2, h3, h4, h5⟩ : 0 ≤ d ∧ d ≤ 999999 ∧ 0 ≤ l ∧ l ≤ 1000 ∧ 1 ≤ q ∧ q ≤ 12 := (Clk.ranges_iff _).1 h
  have hi := Clk.new_inv d l q h
  have hs : (Clk.fol d l q wall S).sup = d := by
    have e : (Clk.fol d l q wall S).sup = (Clk.new d l q).sup := Clk.sup_congr _ _ rfl rfl rfl rfl
    have a := hi.s0
    have b := hi.s1
    have e1 : (Clk.new d l q).day = d := rfl
    have e2 : (Clk.new d l q).own = 0 := rfl
    omega
  have ed : (Clk.fol d l q wall S).day = min (d + S) 999999 := rfl
  have eo : (Clk.fol d l q wall S).own = min (d + S) 999999 - d := rfl
  have er : (Clk.fol d l q wall S).ref = wall + S := rfl
  refine ⟨⟨rfl, rfl⟩, h0, h1, h2, h3, h4, h5, ?_, ?_, ?_, ?_, ?_, ?_, ?_, hi.t0⟩
  all_goals omega

/-- The sum of the first k steps. -/
def stepSum (l : Int) (zs : List Int) : Int := (zs.map fun z => z % (l + 1)).sum

theorem stepSum_snoc (l : Int) (zs : List Int) (k : Nat) (z : Int) (h : zs[k]? = some z) : stepSum l (zs.take (k + 1)) = stepSum l (zs.take k) + z % (l + 1) := by
  unfold stepSum
  rw [List.take_add_one, h]
  simp

theorem stepSum_bounds (l : Int) (hl0 : 0 ≤ l) (hl : l ≤ 1000) (zs : List Int) : 0 ≤ stepSum l zs ∧ stepSum l zs ≤ 1000 * zs.length := by
  induction zs with
  | nil => simp [stepSum]
  | cons z zs ih =>
    have e : stepSum l (z :: zs) = z % (l + 1) + stepSum l zs := by simp [stepSum]
    have h0 := Int.emod_nonneg z (show l + 1 ≠ 0 by omega)
    have h1 := Int.emod_lt_of_pos z (show 0 < l + 1 by omega)
    rw [e, List.length_cons]
    omega

set_option maxHeartbeats 4000000 in
set_option maxRecDepth 100000 in
theorem follows_bad (d l q wall : Int) (A : Option Addr) (n cap : Nat) (w : World) (h : (Clk.new d l q).ranges = false) : Calls Try.prog 7 #[Value.int .i64 d, Value.int .i64 l, Value.int .i64 q, Value.int .i64 wall, .slice A n cap] w (OkTrue w) := by
  have H := Lib.hid h
  clear h
  go_enter Try.func7, Try.ntmps7
  go_wp2_with fail
  refine (new_bad d l q _ H.out).mono ?_
  rintro e w0 ⟨rfl, hf0⟩
  have H0 := Lib.hid hf0
  clear hf0
  go_wp2_with fail
  refine (awake_any _).mono ?_
  rintro e w1 ⟨rfl, hf1⟩
  have H1 := Lib.hid (H0.out.trans hf1)
  clear hf1 H0
  go_wp2_with fail
  refine (awake_any _).mono ?_
  rintro e w2 ⟨rfl, hf2⟩
  have H2 := Lib.hid (H1.out.trans hf2)
  clear hf2 H1
  go_wp2_with fail
  go_ret
  exact ⟨rfl, H2.out⟩

set_option maxHeartbeats 4000000 in
set_option maxRecDepth 100000 in
theorem follows_out (d l q wall : Int) (A : Option Addr) (n cap : Nat) (w : World) (h : (Clk.new d l q).ranges = true) (hn : (decide (30 < (n : Int)) || decide (1099511627776 < wall) || decide (wall < -1099511627776)) = true) : Calls Try.prog 7 #[Value.int .i64 d, Value.int .i64 l, Value.int .i64 q, Value.int .i64 wall, .slice A n cap] w (OkTrue w) := by
  have H := Lib.hid h
  clear h
  have fin : Hid (∀ b : Bool, b = (decide (30 < (n : Int)) || decide (1099511627776 < wall) || decide (wall < -1099511627776)) → b = true) := fun b hb => hb.trans hn
  by_cases h1 : 30 < (n : Int)
  · have t1 : decide (30 < (n : Int)) = true := by simpa using h1
    clear hn fin h1
    go_enter Try.func7, Try.ntmps7
    go_wp2_with fail
    refine (new_ok d l q _ H.out).mono ?_
    rintro e w0 ⟨rfl, hf0, _⟩
    have H0 := Lib.hid hf0
    clear hf0
    go_wp2_with fail
    refine (awake_any _).mono ?_
    rintro e w1 ⟨rfl, hf1⟩
    have H1 := Lib.hid (H0.out.trans hf1)
    clear hf1 H0
    go_wp2_with fail
    refine (awake_any _).mono ?_
    rintro e w2 ⟨rfl, hf2⟩
    have H2 := Lib.hid (H1.out.trans hf2)
    clear hf2 H1
    go_wp2_with fail
    go_ret
    exact ⟨rfl, H2.out⟩
  · have t1 : decide (30 < (n : Int)) = false := by simpa using h1
    by_cases h2 : 1099511627776 < wall
    · have t2 : decide (1099511627776 < wall) = true := by simpa using h2
      clear hn fin h1 h2
      go_enter Try.func7, Try.ntmps7
      go_wp2_with fail
      refine (new_ok d l q _ H.out).mono ?_
      rintro e w0 ⟨rfl, hf0, _⟩
      have H0 := Lib.hid hf0
      clear hf0
      go_wp2_with fail
      refine (awake_any _).mono ?_
      rintro e w1 ⟨rfl, hf1⟩
      have H1 := Lib.hid (H0.out.trans hf1)
      clear hf1 H0
      go_wp2_with fail
      refine (awake_any _).mono ?_
      rintro e w2 ⟨rfl, hf2⟩
      have H2 := Lib.hid (H1.out.trans hf2)
      clear hf2 H1
      go_wp2_with fail
      go_ret
      exact ⟨rfl, H2.out⟩
    · have t2 : decide (1099511627776 < wall) = false := by simpa using h2
      have t3 : decide (wall < -1099511627776) = true := by simpa [t1, t2] using hn
      clear hn fin h1 h2
      go_enter Try.func7, Try.ntmps7
      go_wp2_with fail
      refine (new_ok d l q _ H.out).mono ?_
      rintro e w0 ⟨rfl, hf0, _⟩
      have H0 := Lib.hid hf0
      clear hf0
      go_wp2_with fail
      refine (awake_any _).mono ?_
      rintro e w1 ⟨rfl, hf1⟩
      have H1 := Lib.hid (H0.out.trans hf1)
      clear hf1 H0
      go_wp2_with fail
      refine (awake_any _).mono ?_
      rintro e w2 ⟨rfl, hf2⟩
      have H2 := Lib.hid (H1.out.trans hf2)
      clear hf2 H1
      go_wp2_with fail
      go_ret
      exact ⟨rfl, H2.out⟩

set_option maxHeartbeats 4000000 in
set_option maxRecDepth 100000 in
theorem follows_ok (d l q wall : Int) (A : Option Addr) (cap : Nat) (zs : List Int) (w : World) (h : (Clk.new d l q).ranges = true) (hrow : RowIn w A (zs.map (Value.int .u8))) (hz : ∀ z ∈ zs, 0 ≤ z ∧ z ≤ 255)
    (hn : zs.length ≤ 30) (hw0 : -1099511627776 ≤ wall) (hw1 : wall ≤ 1099511627776) :
    Calls Try.prog 7 #[Value.int .i64 d, Value.int .i64 l, Value.int .i64 q, Value.int .i64 wall, .slice A zs.length cap] w (OkTrue w) := by
  obtain ⟨h0, h1, h2, h3, h4, h5⟩ : 0 ≤ d ∧ d ≤ 999999 ∧ 0 ≤ l ∧ l ≤ 1000 ∧ 1 ≤ q ∧ q ≤ 12 := (Clk.ranges_iff _).1 h
  have H := Lib.hid h
  have HR := Lib.hid hrow
  have HZ := Lib.hid hz
  clear h hrow hz
  have t1 : decide (30 < (zs.length : Int)) = false := by simp; omega
  have t2 : decide (1099511627776 < wall) = false := by simpa using hw1
  have t3 : decide (wall < -1099511627776) = false := by simpa using hw0
  go_enter Try.func7, Try.ntmps7
  go_wp2_with fail
  refine (new_ok d l q _ H.out).mono ?_
  rintro e w0 ⟨rfl, hf0, ha0⟩
  have H0 : Hid (Fr [] w w0 ∧ At w0 w.heap.size 57 (Clk.new d l q).cells) := ⟨hf0, ha0⟩
  clear hf0 ha0
  go_wp2_with fail
  refine (awake_any _).mono ?_
  rintro e w1 ⟨rfl, hf1⟩
  have H1 : Hid (Fr [] w w1 ∧ At w1 w.heap.size 57 (Clk.new d l q).cells) := ⟨H0.out.1.trans hf1, H0.out.2.fr hf1 (by simp)⟩
  clear hf1 H0
  go_wp2_with fail
  refine (read_inv _ _ _ _ _ H1.out.2 (Clk.new_inv d l q H.out) (by omega) (by omega)).mono ?_
  rintro e w2 ⟨rfl, hf2, ha2⟩
  rw [Clk.fol_zero d l q wall h1] at ha2
  have H2 : Hid (Fr [] w w2 ∧ At w2 w.heap.size 57 (Clk.fol d l q wall 0).cells) := ⟨H1.out.1.trans' hf2 (by simp), ha2⟩
  clear hf2 ha2 H1 t1 t2 t3
  go_wp2_with fail
  go_loopw [13, 14] (fun sm i wr => ∃ k : Nat, k ≤ zs.length ∧ i = .int .i64 k ∧ sm = .int .i64 (stepSum l (zs.take k)) ∧ Fr [] w wr ∧ At wr w.heap.size 57 (Clk.fol d l q wall (stepSum l (zs.take k))).cells) (fun _ i _ => zs.length - (intOf i).toNat)
  case atStart => exact ⟨0, by omega, rfl, rfl, H2.out.1, H2.out.2⟩
  case round =>
    obtain ⟨k, hk, rfl, rfl, hfr, hat⟩ := hrel
    have HA := Lib.hid (And.intro hfr hat)
    clear hfr hat H2
    obtain ⟨sb0, sb1⟩ := stepSum_bounds l h2 h3 (zs.take k)
    have sb2 : stepSum l (zs.take k) ≤ 30000 := by
      have : (zs.take k).length ≤ 30 := by simp; omega
      omega
    clear sb1
    by_cases hlt : k < zs.length
    · have hx := List.getElem?_eq_getElem hlt
      generalize zs[k] = z at hx
      obtain ⟨b, o, rfl, hb, hc⟩ := (HR.out.fr0 HA.out.1) k (Value.int .u8 z) (by simp [hx])
      obtain ⟨z0, z1⟩ := HZ.out z (List.mem_of_getElem? hx)
      have hsn := stepSum_snoc l zs k z hx
      have m0 := Int.emod_nonneg z (show l + 1 ≠ 0 by omega)
      have m1 := Int.emod_lt_of_pos z (show 0 < l + 1 by omega)
      clear hx
      have HS := Lib.hid hsn
      clear hsn
      generalize hS : stepSum l (zs.take k) = S at sb0 sb2 HS HA
      clear hS
      have hfs := Clk.fol_succ d l q wall S (z % (l + 1)) h1 sb0 (by omega) m0 (by omega) h3
      have HF := Lib.hid hfs
      clear hfs
      go_wp2_with fail
      refine (read_inv _ _ _ _ _ HA.out.2 (Clk.fol_inv d l q wall S H.out sb0 (by omega) hw0 hw1) (by omega) (by omega)).mono ?_
      rintro e w1 ⟨rfl, hf1, ha1⟩
      rw [HF.out] at ha1 ⊢
      have H1 : Hid (Fr [] w w1 ∧ At w1 w.heap.size 57 (Clk.fol d l q wall (S + z % (l + 1))).cells) := ⟨HA.out.1.trans' hf1 (by simp), ha1⟩
      clear hf1 ha1
      rw [show (Clk.fol d l q wall (S + z % (l + 1))).day = min (d + (S + z % (l + 1))) 999999 from rfl]
      go_wp2_with fail
      go_roundw
      case rel => exact ⟨k + 1, by omega, by go_num, by rw [HS.out], by rw [HS.out]; exact H1.out⟩
      case measure => simp [intOf]; omega
    · generalize hS : stepSum l (zs.take k) = S at sb0 sb2 HA
      clear hS
      have hnk : ¬ ((k : Int) < (zs.length : Int)) := by omega
      go_wp2_with fail
      refine (own_any _ _ _ HA.out.2).mono ?_
      rintro e w' ⟨rfl, rfl⟩
      rw [show (Clk.fol d l q wall S).own = min (d + S) 999999 - d from rfl]
      go_wp2_with fail
      refine (day_any _ _ _ HA.out.2).mono ?_
      rintro e w' ⟨rfl, rfl⟩
      rw [show (Clk.fol d l q wall S).day = min (d + S) 999999 from rfl]
      go_wp2_with fail
      go_ret
      exact ⟨rfl, HA.out.1⟩

theorem follows_any (d l q wall : Int) (A : Option Addr) (cap : Nat) (zs : List Int) (w : World) (hrow : RowIn w A (zs.map (Value.int .u8))) (hz : ∀ z ∈ zs, 0 ≤ z ∧ z ≤ 255) :
    Calls Try.prog 7 #[Value.int .i64 d, Value.int .i64 l, Value.int .i64 q, Value.int .i64 wall, .slice A zs.length cap] w (OkTrue w) := by
  cases h : (Clk.new d l q).ranges
  · exact follows_bad d l q wall A _ cap w h
  · by_cases hh : zs.length ≤ 30 ∧ -1099511627776 ≤ wall ∧ wall ≤ 1099511627776
    · exact follows_ok d l q wall A cap zs w h hrow hz hh.1 hh.2.1 hh.2.2
    · refine follows_out d l q wall A _ cap w h ?_
      simp only [Bool.or_eq_true, decide_eq_true_eq]
      omega

end Go.Proofs.Ytflabbdnkoejjaa
