/- The chapter's example, which every statement asks first, holds: awake returns true. -/
import Derived.Test.YtflabbdnkoejjaaDcSup
namespace Go.Proofs.Ytflabbdnkoejjaa
open Go.RowKit

def ck0 : Clk := Clk.new 100 3 2
def ck1 : Clk := ck0.rd 7
def ck2 : Clk := ck1.rd 9
def ck3 : Clk := ck2.rd 20
def ck4 : Clk := ck3.rd 21
def ck5 : Clk := ck4.hear 4 200
def ck6 : Clk := ck5.hear 5 150
def ck7 : Clk := ck6.hear 6 180

theorem ck1_day : ck1.day = 100 := by decide +kernel
theorem ck2_day : ck2.day = 102 := by decide +kernel
theorem ck3_day : ck3.day = 102 := by decide +kernel
theorem ck4_day : ck4.day = 103 := by decide +kernel
theorem ck4_own : ck4.own = 3 := by decide +kernel
theorem ck5_sup : (ck4.note 4 200).sup = 100 := Clk.sup_eq _ (by decide +kernel) _ (by decide +kernel) (by decide +kernel)
theorem ck5_eq : ck5 = ck4.note 4 200 := by
  unfold ck5 Clk.hear Clk.raise
  rw [ck5_sup]
  rw [if_neg (by decide +kernel)]
theorem ck6_sup : (ck5.note 5 150).sup = 150 := by rw [ck5_eq]; exact Clk.sup_eq _ (by decide +kernel) _ (by decide +kernel) (by decide +kernel)
theorem ck6_eq : ck6 = { (ck4.note 4 200).note 5 150 with day := 150, own := 0 } := by
  unfold ck6 Clk.hear Clk.raise
  rw [ck6_sup, ck5_eq]
  rw [if_pos (by decide +kernel)]
theorem ck7_supn : (ck6.note 6 180).sup = 180 := by rw [ck6_eq]; exact Clk.sup_eq _ (by decide +kernel) _ (by decide +kernel) (by decide +kernel)
theorem ck7_eq : ck7 = { ({ (ck4.note 4 200).note 5 150 with day := 150, own := 0 } : Clk).note 6 180 with day := 180, own := 0 } := by
  unfold ck7 Clk.hear Clk.raise
  rw [ck7_supn, ck6_eq]
  rw [if_pos (by decide +kernel)]
theorem ck5_day : ck5.day = 103 := by rw [ck5_eq]; decide +kernel
theorem ck6_day : ck6.day = 150 := by rw [ck6_eq]
theorem ck7_day : ck7.day = 180 := by rw [ck7_eq]
theorem ck7_own : ck7.own = 0 := by rw [ck7_eq]
theorem ck7_sup : ck7.sup = 180 := by rw [ck7_eq]; exact Clk.sup_eq _ (by decide +kernel) _ (by decide +kernel) (by decide +kernel)
theorem ck4_ok : ck4.Ok := ⟨by decide +kernel, by decide +kernel⟩
theorem ck5_ok : ck5.Ok := by rw [ck5_eq]; exact ⟨by decide +kernel, by decide +kernel⟩
theorem ck6_ok : ck6.Ok := by rw [ck6_eq]; exact ⟨by decide +kernel, by decide +kernel⟩
theorem ck7_ok : ck7.Ok := by rw [ck7_eq]; exact ⟨by decide +kernel, by decide +kernel⟩
theorem ck_q : ck4.quorum = 2 ∧ ck5.quorum = 2 ∧ ck6.quorum = 2 ∧ ck7.quorum = 2 := by rw [ck7_eq, ck6_eq, ck5_eq]; decide +kernel

def OkTrue (w : World) (e : Ending) (w' : World) : Prop := e = .returned (.bool true) ∧ Fr [] w w'

set_option maxHeartbeats 4000000 in
set_option maxRecDepth 100000 in
theorem awake_any (w : World) : Calls Try.prog 12 #[] w (OkTrue w) := by
  go_enter Try.func12, Try.ntmps12
  go_wp2_with fail
  refine (new_ok 100 3 2 _ (by decide +kernel)).mono ?_
  rintro e w0 ⟨rfl, hf0, ha0⟩
  have H0 : Hid (Fr [] w w0 ∧ At w0 w.heap.size 57 ck0.cells) := ⟨hf0, ha0⟩
  clear hf0 ha0
  go_wp2_with fail
  refine (read_any _ ck0 _ 7 H0.out.2 (by decide +kernel) (by decide +kernel) (by decide +kernel) (by decide) (by decide +kernel) (by decide +kernel) (by decide +kernel) (by decide +kernel)).mono ?_
  rintro e w1 ⟨rfl, hf1, ha1⟩
  have H1 : Hid (Fr [w.heap.size] w w1 ∧ At w1 w.heap.size 57 ck1.cells) := ⟨H0.out.1.mono (by simp) |>.trans hf1, ha1⟩
  rw [show (ck0.rd 7).day = 100 from ck1_day]
  clear hf1 ha1 H0
  go_wp2_with fail
  refine (read_any _ ck1 _ 9 H1.out.2 (by decide +kernel) (by decide +kernel) (by decide +kernel) (by decide) (by decide +kernel) (by decide +kernel) (by decide +kernel) (by decide +kernel)).mono ?_
  rintro e w2 ⟨rfl, hf1, ha1⟩
  have H2 : Hid (Fr [w.heap.size] w w2 ∧ At w2 w.heap.size 57 ck2.cells) := ⟨H1.out.1.trans hf1, ha1⟩
  rw [show (ck1.rd 9).day = 102 from ck2_day]
  clear hf1 ha1 H1
  go_wp2_with fail
  refine (read_any _ ck2 _ 20 H2.out.2 (by decide +kernel) (by decide +kernel) (by decide +kernel) (by decide) (by decide +kernel) (by decide +kernel) (by decide +kernel) (by decide +kernel)).mono ?_
  rintro e w3 ⟨rfl, hf1, ha1⟩
  have H3 : Hid (Fr [w.heap.size] w w3 ∧ At w3 w.heap.size 57 ck3.cells) := ⟨H2.out.1.trans hf1, ha1⟩
  rw [show (ck2.rd 20).day = 102 from ck3_day]
  clear hf1 ha1 H2
  go_wp2_with fail
  refine (read_any _ ck3 _ 21 H3.out.2 (by decide +kernel) (by decide +kernel) (by decide +kernel) (by decide) (by decide +kernel) (by decide +kernel) (by decide +kernel) (by decide +kernel)).mono ?_
  rintro e w4 ⟨rfl, hf1, ha1⟩
  have H4 : Hid (Fr [w.heap.size] w w4 ∧ At w4 w.heap.size 57 ck4.cells) := ⟨H3.out.1.trans hf1, ha1⟩
  rw [show (ck3.rd 21).day = 103 from ck4_day]
  clear hf1 ha1 H3
  go_wp2_with fail
  refine (own_any _ ck4 _ H4.out.2).mono ?_
  rintro e w' ⟨rfl, rfl⟩
  rw [ck4_own]
  go_wp2_with fail
  refine (hear_any _ ck4 4 200 _ H4.out.2 ck4_ok (by rw [ck_q.1]; decide) (by rw [ck_q.1]; decide) (by decide) (by decide)).mono ?_
  rintro e w5 ⟨rfl, hf1, ha1⟩
  have H5 : Hid (Fr [w.heap.size] w w5 ∧ At w5 w.heap.size 57 ck5.cells) := ⟨H4.out.1.trans hf1, ha1⟩
  rw [show (ck4.hear 4 200).day = 103 from ck5_day]
  clear hf1 ha1 H4
  go_wp2_with fail
  refine (hear_any _ ck5 5 150 _ H5.out.2 ck5_ok (by rw [ck_q.2.1]; decide) (by rw [ck_q.2.1]; decide) (by decide) (by decide)).mono ?_
  rintro e w6 ⟨rfl, hf1, ha1⟩
  have H6 : Hid (Fr [w.heap.size] w w6 ∧ At w6 w.heap.size 57 ck6.cells) := ⟨H5.out.1.trans hf1, ha1⟩
  rw [show (ck5.hear 5 150).day = 150 from ck6_day]
  clear hf1 ha1 H5
  go_wp2_with fail
  refine (hear_any _ ck6 6 180 _ H6.out.2 ck6_ok (by rw [ck_q.2.2.1]; decide) (by rw [ck_q.2.2.1]; decide) (by decide) (by decide)).mono ?_
  rintro e w7 ⟨rfl, hf1, ha1⟩
  have H7 : Hid (Fr [w.heap.size] w w7 ∧ At w7 w.heap.size 57 ck7.cells) := ⟨H6.out.1.trans hf1, ha1⟩
  rw [show (ck6.hear 6 180).day = 180 from ck7_day]
  clear hf1 ha1 H6
  go_wp2_with fail
  refine (day_any _ ck7 _ H7.out.2).mono ?_
  rintro e w' ⟨rfl, rfl⟩
  rw [ck7_day]
  go_wp2_with fail
  refine (supported_any _ ck7 _ H7.out.2 ck7_ok (by rw [ck_q.2.2.2]; decide) (by rw [ck_q.2.2.2]; decide)).mono ?_
  rintro e w8 ⟨rfl, hf1⟩
  have H8 : Hid (Fr [w.heap.size] w w8 ∧ At w8 w.heap.size 57 ck7.cells) := ⟨H7.out.1.then0 hf1, H7.out.2.fr hf1 (by simp)⟩
  rw [ck7_sup]
  clear hf1 H7
  go_wp2_with fail
  refine (own_any _ ck7 _ H8.out.2).mono ?_
  rintro e w' ⟨rfl, rfl⟩
  rw [ck7_own]
  go_wp2_with fail
  go_ret
  exact ⟨rfl, H8.out.1.mono (by simp)⟩

end Go.Proofs.Ytflabbdnkoejjaa
