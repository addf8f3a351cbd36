/- Contract of the reference's valid. -/
import Derived.Test.YtflabbdnkoejjaaRefDc1
import Derived.Test.YtflabbdnkoejjaaDcRefNew
import Derived.Test.YtflabbdnkoejjaaWirePlain
import Derived.Deep.QuietTactic
import Derived.BigQuiet
namespace Go.Proofs.Ytflabbdnkoejjaa
open Go.RowKit

/-- The k-th told day is valid. -/
def tgoodAt (l : List (Int × Int)) (k : Nat) : Prop := ∀ x, l[k]? = some x → inDev x.1 = true ∧ inDay x.2 = true ∧ ∀ j y, k = j + 1 → l[j]? = some y → y.1 < x.1
def tgood (l : List (Int × Int)) : Prop := ∀ k, k < l.length → tgoodAt l k

structure RClk.Valid (c : RClk) : Prop where
  ranges : (Clk.new c.first c.leap c.quorum).ranges = true
  day : inDay c.day = true
  own : 0 ≤ c.own
  told : tgood c.told
  sup : rsup c.first c.quorum c.told ≤ c.day
  near : c.day - rsup c.first c.quorum c.told ≤ c.own

theorem rsup_mem (q : Int) (told : List (Int × Int)) : ∀ (l : List (Int × Int)) (b : Int), l.foldl (rsupStep q told) b = b ∨ ∃ x ∈ l, l.foldl (rsupStep q told) b = x.2
  | [], b => .inl rfl
  | x :: l, b => by
    rw [List.foldl_cons]
    have h : rsupStep q told b x = x.2 ∨ rsupStep q told b x = b := by
      unfold rsupStep
      split
      · exact .inl rfl
      · exact .inr rfl
    rcases rsup_mem q told l (rsupStep q told b x) with h1 | ⟨y, hy, h1⟩
    · rw [h1]
      rcases h with h | h
      · exact .inr ⟨x, by simp, h⟩
      · exact .inl h
    · exact .inr ⟨y, by simp [hy], h1⟩

theorem rsup_in {first q : Int} {told : List (Int × Int)} (h0 : 0 ≤ first ∧ first ≤ 999999) (h : tgood told) : 0 ≤ rsup first q told ∧ rsup first q told ≤ 999999 := by
  rcases rsup_mem q told told first with h1 | ⟨x, hx, h1⟩
  · unfold rsup; rw [h1]; exact h0
  · unfold rsup
    rw [h1]
    obtain ⟨i, hi⟩ := List.mem_iff_getElem?.1 hx
    have := (h i (List.getElem?_eq_some_iff.1 hi).1 x hi).2.1
    simpa [inDay] using this

def ValRes (c : RClk) (w : World) (e : Ending) (w' : World) : Prop := (c.Valid → e = .returned (Value.bool true)) ∧ (¬ c.Valid → e = .returned (Value.bool false)) ∧ Fr [] w w'
theorem ValRes.no {c : RClk} {w w' : World} (h : ¬ c.Valid) (hf : Fr [] w w') : ValRes c w (.returned (Value.bool false)) w' := ⟨fun hv => absurd hv h, fun _ => rfl, hf⟩
theorem ValRes.yes {c : RClk} {w w' : World} (h : c.Valid) (hf : Fr [] w w') : ValRes c w (.returned (Value.bool true)) w' := ⟨fun _ => rfl, fun hv => absurd h hv, hf⟩

set_option maxRecDepth 100000 in
set_option maxHeartbeats 4000000 in
theorem refValid_any (c : RClk) (A : Option Addr) (cp : Nat) (w : World) (hrow : RowIn w A (tcells c.told)) (hl : c.told.length ≤ 1000) (hd : Fit64 c.day) (ho : Fit64 c.own) :
    Calls Try.prog 46 #[.agg (c.cells A cp).toArray] w (ValRes c w) := by
  have HC : Hid (c = ⟨c.first, c.day, c.leap, c.quorum, c.own, c.has, c.ref, c.told⟩) := rfl
  generalize hfirst : c.first = first at HC
  generalize hday : c.day = day at HC hd
  generalize hleap : c.leap = leap at HC
  generalize hquorum : c.quorum = quorum at HC
  generalize hown : c.own = own at HC ho
  generalize hhas : c.has = has at HC
  generalize href : c.ref = ref at HC
  generalize htold : c.told = told at HC hrow hl
  clear hfirst hday hleap hquorum hown hhas href htold
  have hargs : (c.cells A cp).toArray = #[Value.int .i64 first, Value.int .i64 day, Value.int .i64 leap, Value.int .i64 quorum, Value.int .i64 own, Value.bool has, Value.int .i64 ref, .slice A told.length cp] := by rw [HC.out]; rfl
  rw [hargs]
  have H := Lib.hid hrow
  have HDO := Lib.hid (And.intro hd ho)
  have hd0 := hd.1
  have hd1 := hd.2
  clear hrow hargs hd ho
  by_cases hr : (Clk.new first leap quorum).ranges = true
  · have HR := Lib.hid hr
    clear hr
    go_enter Try.func46, Try.ntmps46
    go_wp2_with fail
    refine (refNew_ok first leap quorum _ HR.out).mono ?_
    rintro e w1 ⟨rfl, hf1⟩
    have hb1 := (At.new w 28 [Value.int .i64 first, Value.int .i64 day, Value.int .i64 leap, Value.int .i64 quorum, Value.int .i64 own, Value.bool has, Value.int .i64 ref, .slice A told.length cp]).fr hf1 (by simp)
    have hz1 := hb1.lt
    have c1 : w1.cell? ⟨w.heap.size, 1, none⟩ = some (Value.int .i64 day) := by rw [hb1.cell]; rfl
    have c4 : w1.cell? ⟨w.heap.size, 4, none⟩ = some (Value.int .i64 own) := by rw [hb1.cell]; rfl
    have c7 : w1.cell? ⟨w.heap.size, 7, none⟩ = some (.slice A told.length cp) := by rw [hb1.cell]; rfl
    have H1 := Lib.hid (And.intro (((Fr.refl [] w).alloc _).trans hf1) hb1)
    clear hf1 hb1
    by_cases hdo : (inDay day && decide (0 ≤ own)) = true
    · have t0 : 0 ≤ day ∧ day ≤ 999999 ∧ 0 ≤ own := by simpa [inDay, and_assoc] using hdo
      obtain ⟨t0, t1, t2⟩ := t0
      have HDO2 := Lib.hid hdo
      clear hdo
      have hfst : 0 ≤ first ∧ first ≤ 999999 := by
        have h := (Clk.ranges_iff _).1 HR.out
        simp only [Clk.new] at h
        omega
      have HF0 := Lib.hid hfst
      clear hfst
      go_wp2_with fail
      obtain ⟨W, hW⟩ : ∃ W, W = w1.alloc (.cells #[Value.int .i64 first, Value.int .i64 first, Value.int .i64 leap, Value.int .i64 quorum, Value.int .i64 0, Value.bool false, Value.int .i64 0, .slice none 0 0] 28) := ⟨_, rfl⟩
      rw [← hW]
      have HW : Hid (Fr [] w W ∧ At W w.heap.size 28 [Value.int .i64 first, Value.int .i64 day, Value.int .i64 leap, Value.int .i64 quorum, Value.int .i64 own, Value.bool has, Value.int .i64 ref, .slice A told.length cp]) := by rw [hW]; exact ⟨H1.out.1.alloc _, H1.out.2.alloc _⟩
      clear hW c1 c4 c7 hz1
      go_loopw [38] (fun i wr => ∃ k : Nat, k ≤ told.length ∧ i = .int .i64 k ∧ (∀ j, j < k → tgoodAt told j) ∧ Fr [] W wr) (fun i _ => told.length - (intOf i).toNat)
      case atStart => exact ⟨0, Nat.zero_le _, rfl, fun j hj => absurd hj (by omega), Fr.refl _ _⟩
      case round =>
        obtain ⟨k, hk, rfl, hgd, hfr⟩ := hrel
        have HF := Lib.hid (And.intro hgd hfr)
        clear hgd hfr
        by_cases hlt : k < told.length
        · have hx := List.getElem?_eq_getElem hlt
          generalize told[k] = x at hx
          obtain ⟨g, o, hA, hg, hc0, hc1⟩ := tcell (H.out.fr0 (HW.out.1.trans HF.out.2)) k x hx
          subst hA
          have HX := Lib.hid hx
          clear hx
          have a7 : wr.cell? ⟨w.heap.size, 7, none⟩ = some (.slice (some ⟨g, o, none⟩) told.length cp) := by rw [(HW.out.2.fr HF.out.2 (by simp)).cell]; rfl
          have hne : w.heap.size < wr.heap.size := (HW.out.2.fr HF.out.2 (by simp)).lt
          go_wp2_with fail
          obtain ⟨V, hV⟩ : ∃ V, V = wr.alloc (.cells #[Value.int .i64 x.1, Value.int .i64 x.2] 63) := ⟨_, rfl⟩
          rw [← hV]
          have HV : Hid (Fr [] W V ∧ At V wr.heap.size 63 [Value.int .i64 x.1, Value.int .i64 x.2] ∧ At V w.heap.size 28 [Value.int .i64 first, Value.int .i64 day, Value.int .i64 leap, Value.int .i64 quorum, Value.int .i64 own, Value.bool has, Value.int .i64 ref, .slice (some ⟨g, o, none⟩) told.length cp]) := by
            rw [hV]; exact ⟨HF.out.2.alloc _, At.new _ _ _, (HW.out.2.fr HF.out.2 (by simp)).alloc _⟩
          clear hV hc0 hc1 a7
          have b0 : V.cell? ⟨wr.heap.size, 0, none⟩ = some (Value.int .i64 x.1) := by rw [HV.out.2.1.cell]; rfl
          have b1 : V.cell? ⟨wr.heap.size, 1, none⟩ = some (Value.int .i64 x.2) := by rw [HV.out.2.1.cell]; rfl
          have a7 : V.cell? ⟨w.heap.size, 7, none⟩ = some (.slice (some ⟨g, o, none⟩) told.length cp) := by rw [HV.out.2.2.cell]; rfl
          have hbad : ¬ tgoodAt told k → ¬ c.Valid := fun h hv => h (by have := hv.told k; rw [HC.out] at this; exact this hlt)
          have HB := Lib.hid hbad
          clear hbad
          by_cases r0 : x.1 < 0
          · have q0 : decide (x.1 < 0) = true := by simpa using r0
            have HN : Hid (¬ c.Valid) := HB.out fun h => by have := (h x HX.out).1; simp [inDev] at this; omega
            clear r0
            go_quiet (fail)
            go_wp2_with fail
            go_ret
            exact ValRes.no HN.out ((HW.out.1.trans HV.out.1).drewN _)
          by_cases r1 : 12 ≤ x.1
          · have q0 : decide (x.1 < 0) = false := by simpa using r0
            have q1 : decide (12 ≤ x.1) = true := by simpa using r1
            have HN : Hid (¬ c.Valid) := HB.out fun h => by have := (h x HX.out).1; simp [inDev] at this; omega
            clear r0 r1
            go_quiet (fail)
            go_wp2_with fail
            go_ret
            exact ValRes.no HN.out ((HW.out.1.trans HV.out.1).drewN _)
          by_cases r2 : x.2 < 0
          · have q0 : decide (x.1 < 0) = false := by simpa using r0
            have q1 : decide (12 ≤ x.1) = false := by simpa using r1
            have q2 : decide (x.2 < 0) = true := by simpa using r2
            have HN : Hid (¬ c.Valid) := HB.out fun h => by have := (h x HX.out).2.1; simp [inDay] at this; omega
            clear r0 r1 r2
            go_quiet (fail)
            go_wp2_with fail
            go_ret
            exact ValRes.no HN.out ((HW.out.1.trans HV.out.1).drewN _)
          by_cases r3 : 999999 < x.2
          · have q0 : decide (x.1 < 0) = false := by simpa using r0
            have q1 : decide (12 ≤ x.1) = false := by simpa using r1
            have q2 : decide (x.2 < 0) = false := by simpa using r2
            have q3 : decide (999999 < x.2) = true := by simpa using r3
            have HN : Hid (¬ c.Valid) := HB.out fun h => by have := (h x HX.out).2.1; simp [inDay] at this; omega
            clear r0 r1 r2 r3
            go_quiet (fail)
            go_wp2_with fail
            go_ret
            exact ValRes.no HN.out ((HW.out.1.trans HV.out.1).drewN _)
          have q0 : decide (x.1 < 0) = false := by simpa using r0
          have q1 : decide (12 ≤ x.1) = false := by simpa using r1
          have q2 : decide (x.2 < 0) = false := by simpa using r2
          have q3 : decide (999999 < x.2) = false := by simpa using r3
          have HR4 : Hid (inDev x.1 = true ∧ inDay x.2 = true) := ⟨by simp [inDev]; omega, by simp [inDay]; omega⟩
          clear r0 r1 r2 r3
          by_cases r4 : k = 0
          · subst r4
            have q4 : decide ((0 : Int) < ((0 : Nat) : Int)) = false := by decide
            have q5 : decide (0 < 0) = false := by decide
            have HG : Hid (∀ j, j < 0 + 1 → tgoodAt told j) := by
              intro j hj
              obtain rfl : j = 0 := by omega
              intro x' hx'
              rw [HX.out] at hx'
              injection hx' with hx'
              subst hx'
              exact ⟨HR4.out.1, HR4.out.2, fun j y hjy => by omega⟩
            go_quiet (fail)
            go_wp2_with fail
            go_roundw
            case rel => exact ⟨0 + 1, by omega, by go_num, HG.out, HV.out.1.drewN _⟩
            case measure => simp [intOf]; omega
          · have q4 : decide (0 < k) = true := by simp; omega
            have q5 : decide ((0 : Int) < (k : Int)) = true := by simp; omega
            obtain ⟨j, rfl⟩ : ∃ j, k = j + 1 := ⟨k - 1, by omega⟩
            have hjl : j < told.length := by omega
            have hy := List.getElem?_eq_getElem hjl
            generalize told[j] = y at hy
            obtain ⟨g', o', hA', hg', hc0, hc1⟩ := tcell (H.out.fr0 (HW.out.1.trans HV.out.1)) j y hy
            injection hA' with hA'
            injection hA' with e1 e2
            rw [← e1, ← e2] at hc0 hc1
            clear e1 e2 hg'
            have HY := Lib.hid hy
            clear hy r4 hc1
            have s1 : IntKind.i64.wrap (((j + 1 : Nat) : Int) - 1) = (j : Int) := by
              rw [show (((j + 1 : Nat) : Int) - 1) = (j : Int) by omega]
              exact IntWalk.i64_in _ (by omega)
            by_cases r5 : x.1 ≤ y.1
            · have q6 : decide (x.1 ≤ y.1) = true := by simpa using r5
              have HN : Hid (¬ c.Valid) := HB.out fun h => by have := (h x HX.out).2.2 j y rfl HY.out; omega
              clear r5
              go_quiet (fail)
              go_wp2_with fail
              go_ret
              exact ValRes.no HN.out ((HW.out.1.trans HV.out.1).drewN _)
            · have q6 : decide (x.1 ≤ y.1) = false := by simpa using r5
              have HG : Hid (∀ i, i < j + 1 + 1 → tgoodAt told i) := by
                intro i hi
                rcases (by omega : i < j + 1 ∨ i = j + 1) with h | h
                · exact HF.out.1 i h
                · subst h
                  intro x' hx'
                  rw [HX.out] at hx'
                  injection hx' with hx'
                  subst hx'
                  refine ⟨HR4.out.1, HR4.out.2, fun j' y' hj' hy' => ?_⟩
                  obtain rfl : j' = j := by omega
                  rw [HY.out] at hy'
                  injection hy' with hy'
                  subst hy'
                  omega
              clear r5
              go_quiet (fail)
              go_wp2_with fail
              go_roundw
              case rel => exact ⟨j + 1 + 1, by omega, by go_num, HG.out, HV.out.1.drewN _⟩
              case measure => simp [intOf]; omega
        · obtain rfl : k = told.length := by omega
          have hsb := rsup_in (q := quorum) HF0.out (fun k hk => HF.out.1 k hk)
          have hcl := HW.out.2.fr HF.out.2 (by simp)
          have c0 : wr.cell? ⟨w.heap.size, 0, none⟩ = some (Value.int .i64 first) := by rw [hcl.cell]; rfl
          have c1 : wr.cell? ⟨w.heap.size, 1, none⟩ = some (Value.int .i64 day) := by rw [hcl.cell]; rfl
          have c2 : wr.cell? ⟨w.heap.size, 2, none⟩ = some (Value.int .i64 leap) := by rw [hcl.cell]; rfl
          have c3 : wr.cell? ⟨w.heap.size, 3, none⟩ = some (Value.int .i64 quorum) := by rw [hcl.cell]; rfl
          have c4 : wr.cell? ⟨w.heap.size, 4, none⟩ = some (Value.int .i64 own) := by rw [hcl.cell]; rfl
          have c5 : wr.cell? ⟨w.heap.size, 5, none⟩ = some (Value.bool has) := by rw [hcl.cell]; rfl
          have c6 : wr.cell? ⟨w.heap.size, 6, none⟩ = some (Value.int .i64 ref) := by rw [hcl.cell]; rfl
          have c7 : wr.cell? ⟨w.heap.size, 7, none⟩ = some (.slice A told.length cp) := by rw [hcl.cell]; rfl
          have HCL := Lib.hid hcl
          clear hcl hlt
          go_wp2_with fail
          refine (refSup_any ⟨first, day, leap, quorum, own, has, ref, told⟩ A cp _ (H.out.fr0 (HW.out.1.trans HF.out.2)) hl).mono ?_
          rintro e w2 ⟨rfl, hf2⟩
          have hcl2 := HCL.out.fr hf2 (by simp)
          have HF2 := Lib.hid hf2
          clear c0 c1 c2 c3 c4 c5 c6 c7 hf2
          have c1 : w2.cell? ⟨w.heap.size, 1, none⟩ = some (Value.int .i64 day) := by rw [hcl2.cell]; rfl
          have c4 : w2.cell? ⟨w.heap.size, 4, none⟩ = some (Value.int .i64 own) := by rw [hcl2.cell]; rfl
          clear hcl2
          have HS : Hid (rsup c.first c.quorum c.told = rsup first quorum told) := by rw [HC.out]; exact rfl
          have HV2 : Hid (c.Valid ↔ rsup first quorum told ≤ day ∧ day - rsup first quorum told ≤ own) := by
            constructor
            · intro hv
              have h1 := hv.sup
              have h2 := hv.near
              rw [HS.out] at h1 h2
              have e1 : c.day = day := by rw [HC.out]
              have e2 : c.own = own := by rw [HC.out]
              rw [e1] at h1 h2
              rw [e2] at h2
              exact ⟨h1, h2⟩
            · rintro ⟨h1, h2⟩
              rw [HC.out]
              exact ⟨HR.out, by simp [inDay]; omega, t2, fun k hk => HF.out.1 k hk, h1, h2⟩
          generalize rsup first quorum told = s at HV2 hsb ⊢
          obtain ⟨hs0, hs1⟩ := hsb
          by_cases u1 : s ≤ day
          · by_cases u2 : day - s ≤ own
            · go_wp2_with fail
              go_ret
              exact ValRes.yes (HV2.out.2 ⟨u1, u2⟩) ((HW.out.1.trans HF.out.2).trans HF2.out)
            · have u3 : decide (day - s ≤ own) = false := by simpa using u2
              go_wp2_with fail
              go_ret
              exact ValRes.no (fun h => by have := (HV2.out.1 h).2; omega) ((HW.out.1.trans HF.out.2).trans HF2.out)
          · go_wp2_with fail
            go_ret
            exact ValRes.no (fun h => by have := (HV2.out.1 h).1; omega) ((HW.out.1.trans HF.out.2).trans HF2.out)
    · have hno : ¬ c.Valid := by
        intro hv
        apply hdo
        have e1 : c.day = day := by rw [HC.out]
        have e2 : c.own = own := by rw [HC.out]
        have := hv.own
        rw [← e1, ← e2, hv.day]
        simpa using this
      have hdo' : day < 0 ∨ 999999 < day ∨ own < 0 := by
        simp [inDay] at hdo
        omega
      have HN := Lib.hid hno
      clear hdo hno
      rcases hdo' with h | h | h
      · go_wp2_with fail
        go_ret
        exact ValRes.no HN.out (H1.out.1.alloc _)
      · have h' : ¬ day < 0 := by omega
        go_wp2_with fail
        go_ret
        exact ValRes.no HN.out (H1.out.1.alloc _)
      · by_cases h1 : day < 0
        · go_wp2_with fail
          go_ret
          exact ValRes.no HN.out (H1.out.1.alloc _)
        · by_cases h2 : 999999 < day
          · go_wp2_with fail
            go_ret
            exact ValRes.no HN.out (H1.out.1.alloc _)
          · go_wp2_with fail
            go_ret
            exact ValRes.no HN.out (H1.out.1.alloc _)
  · have hno : ¬ c.Valid := by
      intro hv
      apply hr
      have := hv.ranges
      rw [HC.out] at this
      exact this
    have hr' : (Clk.new first leap quorum).ranges = false := by simpa using hr
    have HR := Lib.hid (And.intro hr' hno)
    clear hr hr' hno
    go_enter Try.func46, Try.ntmps46
    go_wp2_with fail
    refine (refNew_bad first leap quorum _ HR.out.1).mono ?_
    rintro e w1 ⟨rfl, hf1⟩
    have H1 := Lib.hid (((Fr.refl [] w).alloc _).trans hf1)
    clear hf1
    go_wp2_with fail
    go_ret
    exact ValRes.no HR.out.2 (H1.out.alloc _)

end Go.Proofs.Ytflabbdnkoejjaa
