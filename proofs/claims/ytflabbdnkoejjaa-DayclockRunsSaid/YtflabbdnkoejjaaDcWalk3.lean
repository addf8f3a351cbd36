/- Contract of the clock's Supported: the quorum-th greatest told day, or the first day. -/
import Derived.Test.YtflabbdnkoejjaaDcWalk2
import Derived.Test.YtflabbdnkoejjaaLaws
import Derived.Test.YtflabbdnkoejjaaSortInt
namespace Go.Proofs.Ytflabbdnkoejjaa
open Go.RowKit

theorem el_int : Elem Try.prog 58 3 (Value.int .i64 0) 1 8 := ⟨Try.underlying58, by kernel_rfl, rfl, by omega, by omega⟩

/-- What Supported returns. -/
def Clk.sup (c : Clk) : Int := if (c.days 12).length < c.quorum.toNat then c.first else max c.first ((sortI (c.days 12)).getD ((c.days 12).length - c.quorum.toNat) 0)

set_option maxHeartbeats 2000000 in
theorem supported_any (b : Nat) (c : Clk) (w : World) (hc : At w b 57 c.cells) (hk : c.Ok) (hq0 : 1 ≤ c.quorum) (hq1 : c.quorum ≤ 12) :
    Calls Try.prog 14 #[Value.pointer (some ⟨b, 0, none⟩)] w fun e w' => e = .returned (Value.int .i64 c.sup) ∧ Fr [] w w' := by
  have HC := Lib.hid hc
  have HK := Lib.hid hk
  have hlt := hc.lt
  have htold : ∀ (W : World), At W b 57 c.cells → ∀ j v, (c.told.map (Value.int .i64))[j]? = some v → W.cell? ⟨b, 7 + j, none⟩ = some v := by
    intro W hW j v hv
    have hj : j < 12 := by
      have := (List.getElem?_eq_some_iff.1 hv).1
      simpa [hk.told] using this
    obtain ⟨x, hx, hx'⟩ := c.cell_told hk j hj
    rw [hW.cell, hx']
    simpa [hx] using hv
  have HT := Lib.hid htold
  clear hc hk htold
  have hmk : ∀ W : World, (Instr.makeSlice 58 (Value.int .i64 0) (Value.int .i64 12)).run Try.prog W = .ok (.slice (some ⟨W.heap.size, 0, none⟩) 0 12) (W.alloc (.cells (List.replicate 12 (Value.int .i64 0)).toArray 3)) := fun _ => by kernel_rfl
  go_enter Try.func14, Try.ntmps14
  go_wp2_with (first | (refine wpList_load_at rfl 54 (.tmp 9) rfl b 7 rfl (c.told.map (Value.int .i64)) _ (HT.out _ (HC.out.alloc _)) Try.underlying54 rfl (by rw [List.length_map, HK.out.told]; kernel_rfl) ?_))
  have hw0 : (w.alloc (.cells (List.replicate 12 (Value.int .i64 0)).toArray 3)).ownsRow w.heap.size 3 1 (.slice (some ⟨w.heap.size, 0, none⟩) 0 12) 0 [] := World.ownsRow_made w _ 12 (Nat.le_refl _) (by unfold maxLen; omega) rfl
  have hf0 : Fr [] w (w.alloc (.cells (List.replicate 12 (Value.int .i64 0)).toArray 3)) := (Fr.refl _ _).alloc _
  have H0 := Lib.hid (And.intro hw0 hf0)
  clear hw0 hf0 hmk
  go_loopw [3, 11] (fun v i wr => ∃ k : Nat, k ≤ 12 ∧ i = .int .i64 k ∧ wr.ownsRow w.heap.size 3 1 v (c.days k).length ((c.days k).map (Value.int .i64)) ∧ Fr [] w wr) (fun _ i _ => 12 - (intOf i).toNat)
  case atStart => exact ⟨0, by omega, rfl, H0.out.1, H0.out.2⟩
  case round =>
    obtain ⟨k, hk, rfl, hown, hfr⟩ := hrel
    have hsz := hfr.size
    have Hown := Lib.hid hown
    have Hfr := Lib.hid hfr
    clear hown hfr
    by_cases hlt' : k < 12
    · obtain ⟨x, hx, hx'⟩ := c.cell_told HK.out k hlt'
      obtain ⟨y, hy, hy'⟩ := c.cell_heard HK.out k hlt'
      have hcy : wr.cell? ⟨b, 19 + k, none⟩ = some (Value.bool y) := by rw [(HC.out.fr Hfr.out (by simp)).cell, hy']
      have hix := run_index_agg (P := Try.prog) 54 3 12 (c.told.map (Value.int .i64)) (Value.int .i64 x) .i64 k Try.underlying54 (by kernel_rfl) (fun _ => by kernel_rfl) hlt' (by simp [hx])
      have hdl := c.days_le k
      have hds := c.days_succ k x y hx hy
      have HD := Lib.hid hds
      clear hx hx' hy hy' hds
      cases y
      · go_wp2
        go_roundw
        case rel => exact ⟨k + 1, by omega, by go_num, by rw [HD.out]; simpa using Hown.out, Hfr.out⟩
        case measure => simp [intOf]; omega
      · go_wp2_with (at_builtin; refine wpList_push el_int rfl (.tmp 21) (.tmp 23) rfl w.heap.size _ _ _ (Value.int .i64 x) rfl Hown.out rfl rfl (by omega) hsz 3 ?_; intro v' w1 hown1 hg1 hb1)
        have Hr : Hid (w1.ownsRow w.heap.size 3 1 v' (c.days (k + 1)).length ((c.days (k + 1)).map (Value.int .i64)) ∧ Fr [] w w1) := by
          rw [HD.out]
          exact ⟨by simpa using hown1, Hfr.out.grown hg1 fun g hg => .inr (Hown.out.lt g hg).1⟩
        clear hown1 hg1 hb1
        go_roundw
        case rel => exact ⟨k + 1, by omega, by go_num, Hr.out⟩
        case measure => simp [intOf]; omega
    · obtain rfl : k = 12 := by omega
      clear hk hlt'
      obtain ⟨A, cap, rfl⟩ := ownsRow_form Hown.out
      have hq : wr.cell? ⟨b, 3, none⟩ = some (Value.int .i64 c.quorum) := by rw [(HC.out.fr Hfr.out (by simp)).cell]; rfl
      have hfi : wr.cell? ⟨b, 0, none⟩ = some (Value.int .i64 c.first) := by rw [(HC.out.fr Hfr.out (by simp)).cell]; rfl
      by_cases hn : (c.days 12).length < c.quorum.toNat
      · have hd : decide (((c.days 12).length : Int) < c.quorum) = true := by simp; omega
        go_wp2_with fail
        go_ret
        exact ⟨ret_int (by simp [Clk.sup, hn]), Hfr.out⟩
      · have hd : decide (((c.days 12).length : Int) < c.quorum) = false := by simp; omega
        have hdl := c.days_le 12
        obtain ⟨g, cap', rest, hv, hge, hcap, hat, hxl, hrl⟩ := ownsRow_at Hown.out (by omega)
        simp only [Value.slice.injEq, true_and] at hv
        obtain ⟨rfl, rfl⟩ := hv
        have hgb : g ≠ b := by omega
        have Hat := Lib.hid hat
        clear hat hrl hxl
        go_wp2_with fail
        refine (sortInts g cap (c.days 12) rest 3 _ Hat.out (by omega)).mono ?_
        rintro e w2 ⟨rfl, hf2, hat2⟩
        have hb2 : At w2 b 57 c.cells := (HC.out.fr Hfr.out (by simp)).fr hf2 (by simpa using hgb.symm)
        have hq2 : w2.cell? ⟨b, 3, none⟩ = some (Value.int .i64 c.quorum) := by rw [hb2.cell]; rfl
        have hfi2 : w2.cell? ⟨b, 0, none⟩ = some (Value.int .i64 c.first) := by rw [hb2.cell]; rfl
        have Hf2 := Lib.hid (And.intro hf2 hat2)
        clear hf2 hat2 hb2 hq hfi hd
        have hqn : c.quorum.toNat ≤ (c.days 12).length := by omega
        have hix : w2.cell? ⟨g, (((c.days 12).length : Int) - c.quorum).toNat, none⟩ = some (Value.int .i64 ((sortI (c.days 12)).getD ((c.days 12).length - c.quorum.toNat) 0)) := by
          have hl : (c.days 12).length - c.quorum.toNat < (sortI (c.days 12)).length := by rw [sortI_length]; omega
          rw [show (((c.days 12).length : Int) - c.quorum).toNat = (c.days 12).length - c.quorum.toNat by omega, Hf2.out.2.cell, List.getElem?_append_left (by simpa using hl)]
          simp [List.getElem?_eq_getElem hl]
        generalize hs : (sortI (c.days 12)).getD ((c.days 12).length - c.quorum.toNat) 0 = s at hix
        have HS := Lib.hid hs
        clear hs
        go_wp2_with fail
        go_region
        go_wp2_with fail
        go_ret
        exact ⟨ret_int (by rw [Clk.sup, if_neg hn, HS.out]), (Hfr.out.trans' Hf2.out.1 (by intro x hx; simp at hx; omega)).drew⟩

end Go.Proofs.Ytflabbdnkoejjaa
