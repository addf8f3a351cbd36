/- ReconcileStands: for every input the law returns true, and each argument reads behind the call as it read before; the two tables of sha256 are tied to the program's text. No other condition. -/
import Derived.Test.YtdflaaiondmjdaaGreatDoorQs06
import Derived.Test.YtdflaaiondmjdaaGreatDoorTie
import Derived.Test.YtdflaaiondmjdaaGreatDoorCards
import Derived.SevenTiedAt
import Derived.ChangeMaps5
namespace Go.Proofs.YtdflaaiondmjdaaGreatDoor.reconcileStands
open Go.ChangeShapes Go.WideShapes Go.ChangeAt Go.RowKit

theorem own : ownKnob Tryz.prog.godebug = none := by kernel_rfl
theorem laid : laidOutB Tryz.prog = true := by kernel_rfl

set_option maxRecDepth 100000 in
theorem lifted (os : Os) (started : os.Started) (H : Type) (enc : TypeId × Value → H) :
    ReturnsInHanded {} Tryz.checked os 5 .any (fun w args => (Rows.reconcileStandsSpec.pre enc Tryz.prog Tryz.f5 [] false w args ∧ laidMetH Tryz.prog laid2 w) ∧ sizedMet enc Tryz.prog Tryz.f5 (OpenSpec.ofChange Rows.reconcileStandsSpec) false w args)
      (Rows.reconcileStandsSpec.post enc Tryz.prog Tryz.f5 false true false false) := by
  refine returnsInHanded_of_change_and (C := Tryz.checked) (X := fun w _ => laidMetH Tryz.prog laid2 w) (fun _ _ _ hh h => h.of_heap hh) own started (by kernel_rfl) Tryz.func5
    (ChangeSpec.witness_shaped (enc := enc) (C := Tryz.checked) (os := os) (X := fun w _ => laidMetH Tryz.prog laid2 w) false (World.doorLaid Tryz.prog 400 os) #[.slice none 0 0, .bool false, .slice none 0 0] 8 rfl (World.shaped_of_RefB (by kernel_rfl) (by kernel_rfl)) (by kernel_rfl) (by kernel_rfl) (by kernel_rfl) (door_met os _)) ?_
  intro W base args ds gs before hval0 hW _ _ hL hsz
  have hv := vars_of_laid hL
  have hval : ∀ (j : Nat) t v, Tryz.f5.params[j]? = some t → args[j]? = some v → Value.okWide Tryz.prog W .any base t v := hval0
  have hW' := hW
  obtain ⟨p, q, hA0, hV, rfl, hfz, hnd⟩ := hW
  have hA : DataW.TrodAll enc Tryz.prog W 0 (fun _ => true) true Tryz.f5.params.toList args.toList ds p := hA0
  rw [Tryz.params5] at hA hval
  obtain ⟨v0, vs0, d0, ds0, p0, q0, hargs, rfl, rfl, h0, r0⟩ := trodAll_cons hA
  obtain ⟨v1, vs1, d1, ds1, p1, q1, rfl, rfl, rfl, h1, r1⟩ := trodAll_cons r0
  obtain ⟨v2, vs2, d2, ds2, p2, q2, rfl, rfl, rfl, h2, r2⟩ := trodAll_cons r1
  obtain ⟨rfl, rfl, rfl⟩ := trodAll_nil r2
  obtain rfl : args = #[v0, v1, v2] := by cases args; simp_all
  obtain ⟨A, cap, l, rfl, hl, hr, hc⟩ := open_strs Tryz.underlying22 Tryz.underlying9 (by kernel_rfl) (hval 0 22 v0 rfl rfl) h0
  obtain ⟨bg, rfl⟩ := open_boolC Tryz.underlying4 (hval 1 4 v1 rfl rfl)
  obtain ⟨AM, capm, ms, rfl, hlm, hr2, hrm⟩ := open_acts (hval 2 42 v2 rfl rfl) h2
  clear hA0 hval0
  refine (lawStands40 A cap l bg AM capm ms W (fun w hf => hv.fr hf (by simp) (by simp)) (fun w hf => hr.fr0 hf) (fun w hf => hr2.fr0 hf) (fun w hf m hm => (hrm m hm).fr0 hf) hl hlm).mono fun e W' ⟨he, hB⟩ => ?_
  have hf := hB.fr
  subst he
  exact ⟨_, rfl, post_law laid (by kernel_rfl) rfl hW' ⟨rfl, rfl, rfl⟩ (fun _ => trodAll_cons_mk (shut_bool Tryz.underlying4 _) trodAll_mk0) (hf.below (Nat.le_refl _) (by simp))⟩

theorem over : Rows.reconcileStandsRow.holds Tryz.pinned (OpenSpec.ofChange Rows.reconcileStandsSpec) :=
  OpenClaim.holds_of_wide 5 Tryz.f5 rfl rfl rfl rfl rfl rfl rfl ⟨rfl, rfl, rfl, rfl, rfl⟩ rfl rfl rfl rfl rfl (by kernel_rfl) Tryz.func5 (by kernel_rfl)
    (of_decide_eq_true (by kernel_rfl)) (by unfold Func.isWrapper; first | (rw [if_pos (by decide +kernel)]; kernel_rfl) | (rw [if_neg (by decide +kernel)]; exact ⟨rfl, rfl⟩))
    (fun os started H enc _ => lifted os started H enc)

theorem proved : Rows.ReconcileStandsCardSaid :=
  Claim7.holds_tied_plain_at .later [] [.data, .data] true Rows.reconcileStandsCard.stood.harness true
    over (fun _ h => by cases h) (by kernel_rfl) (fun _ h => by cases h) reconcileStands_row_tie rfl ⟨rfl, rfl⟩ (by kernel_rfl) rfl
    (fun f fn hf hfn => by
      obtain rfl : f = 5 := Option.some.inj ((show Tryz.prog.funcNamed "kinkeep/kinkeeplaw40.ReconcileStands" = some 5 by kernel_rfl).symm.trans hf) |>.symm
      obtain rfl : fn = Tryz.f5 := (Option.some.inj (Tryz.func5.symm.trans hfn)).symm
      exact ⟨by kernel_rfl, fun j t ht => by
        rw [Tryz.params5] at ht
        have hm : t ∈ [22, 4, 42] := by simpa using Array.mem_of_getElem? ht
        have hall : ([22, 4, 42].all fun u => !Tryz.prog.wantsStandIn u) = true := by kernel_rfl
        exact (show Tryz.prog.wantsStandIn t = false by simpa using List.all_eq_true.1 hall t hm)⟩)
    (by kernel_rfl)
#print axioms proved
end Go.Proofs.YtdflaaiondmjdaaGreatDoor.reconcileStands
