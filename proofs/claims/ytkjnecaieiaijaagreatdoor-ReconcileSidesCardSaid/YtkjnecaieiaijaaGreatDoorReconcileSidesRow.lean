/- ReconcileSides: for every input the law returns true, and each argument reads behind the call as it read before; the two tables of sha256 are tied to the program's text. No other condition. -/
import Derived.Test.YtkjnecaieiaijaaGreatDoorSd08
import Derived.Test.YtkjnecaieiaijaaGreatDoorTie
import Derived.Test.YtkjnecaieiaijaaGreatDoorCards
import Derived.SevenTiedAt
import Derived.ChangeMaps5
namespace Go.Proofs.YtkjnecaieiaijaaGreatDoor.reconcileSides
open Go.ChangeShapes Go.WideShapes Go.ChangeAt Go.RowKit

theorem own : ownKnob Tryz.prog.godebug = none := by kernel_rfl
theorem abV : laidOutB Tryz.prog = true := by kernel_rfl

set_option maxRecDepth 100000 in
theorem abW (os : Os) (started : os.Started) (H : Type) (enc : TypeId × Value → H) :
    ReturnsInHanded {} Tryz.checked os 3 .any (fun w args => (Rows.reconcileSidesSpec.pre enc Tryz.prog Tryz.f3 [] false w args ∧ laidMetH Tryz.prog BF w) ∧ sizedMet enc Tryz.prog Tryz.f3 (OpenSpec.ofChange Rows.reconcileSidesSpec) false w args)
      (Rows.reconcileSidesSpec.post enc Tryz.prog Tryz.f3 false true false false) := by
  refine returnsInHanded_of_change_and (C := Tryz.checked) (X := fun w _ => laidMetH Tryz.prog BF w) (fun _ _ _ hh h => h.of_heap hh) own started (by kernel_rfl) Tryz.func3
    (ChangeSpec.witness_shaped (enc := enc) (C := Tryz.checked) (os := os) (X := fun w _ => laidMetH Tryz.prog BF w) false (World.doorLaid Tryz.prog 400 os) #[.slice none 0 0, .bool false, .slice none 0 0] 8 rfl (World.shaped_of_RefB (by kernel_rfl) (by kernel_rfl)) (by kernel_rfl) (by kernel_rfl) (by kernel_rfl) (abN os _)) ?_
  intro W base args ds gs before hval0 hW _ _ hL hsz
  have hv := abO hL
  have hval : ∀ (j : Nat) t v, Tryz.f3.params[j]? = some t → args[j]? = some v → Value.okWide Tryz.prog W .any base t v := hval0
  have hW' := hW
  obtain ⟨p, q, hA0, hV, rfl, hfz, hnd⟩ := hW
  have hA : DataW.TrodAll enc Tryz.prog W 0 (fun _ => true) true Tryz.f3.params.toList args.toList ds p := hA0
  rw [Tryz.params3] at hA hval
  obtain ⟨v0, vs0, d0, ds0, p0, q0, hargs, rfl, rfl, h0, r0⟩ := trodAll_cons hA
  obtain ⟨v1, vs1, d1, ds1, p1, q1, rfl, rfl, rfl, h1, r1⟩ := trodAll_cons r0
  obtain ⟨v2, vs2, d2, ds2, p2, q2, rfl, rfl, rfl, h2, r2⟩ := trodAll_cons r1
  obtain ⟨rfl, rfl, rfl⟩ := trodAll_nil r2
  obtain rfl : args = #[v0, v1, v2] := by cases args; simp_all
  obtain ⟨A, cap, l, rfl, hl, hr, hc⟩ := abQ Tryz.underlying22 Tryz.underlying9 (by kernel_rfl) (hval 0 22 v0 rfl rfl) h0
  obtain ⟨bg, rfl⟩ := abS Tryz.underlying4 (hval 1 4 v1 rfl rfl)
  obtain ⟨AM, capm, ms, rfl, hlm, hr2, hrm⟩ := abU (hval 2 23 v2 rfl rfl) h2
  clear hA0 hval0
  refine (abF A cap l bg AM capm ms W (fun w hf => hv.fr hf (by simp) (by simp)) (fun w hf => hr.eW hf) (fun w hf => hr2.eW hf) (fun w hf m hm => ⟨(hrm m hm).1.eW hf, (hrm m hm).2⟩) hl hlm).mono fun e W' ⟨he, hB⟩ => ?_
  have hf := hB.fr
  subst he
  exact ⟨_, rfl, abH abV (by kernel_rfl) rfl hW' ⟨rfl, rfl, rfl⟩ (fun _ => trodAll_cons_mk (shut_bool Tryz.underlying4 _) trodAll_mk0) (hf.below (Nat.le_refl _) (by simp))⟩

theorem abX : Rows.reconcileSidesRow.holds Tryz.pinned (OpenSpec.ofChange Rows.reconcileSidesSpec) :=
  OpenClaim.holds_of_wide 3 Tryz.f3 rfl rfl rfl rfl rfl rfl rfl ⟨rfl, rfl, rfl, rfl, rfl⟩ rfl rfl rfl rfl rfl (by kernel_rfl) Tryz.func3 (by kernel_rfl)
    (of_decide_eq_true (by kernel_rfl)) (by unfold Func.isWrapper; first | (rw [if_pos (by decide +kernel)]; kernel_rfl) | (rw [if_neg (by decide +kernel)]; exact ⟨rfl, rfl⟩))
    (fun os started H enc _ => abW os started H enc)

theorem proved : Rows.ReconcileSidesCardSaid :=
  Claim7.holds_tied_plain_at .later [] [.data, .data] true Rows.reconcileSidesCard.stood.harness true
    abX (fun _ h => by cases h) (by kernel_rfl) (fun _ h => by cases h) reconcileSides_row_tie rfl ⟨rfl, rfl⟩ (by kernel_rfl) rfl
    (fun f fn hf hfn => by
      obtain rfl : f = 3 := Option.some.inj ((show Tryz.prog.funcNamed "kinkeep/kinkeeplaw40.ReconcileSides" = some 3 by kernel_rfl).symm.trans hf) |>.symm
      obtain rfl : fn = Tryz.f3 := (Option.some.inj (Tryz.func3.symm.trans hfn)).symm
      exact ⟨by kernel_rfl, fun j t ht => by
        rw [Tryz.params3] at ht
        have hm : t ∈ [22, 4, 23] := by simpa using Array.mem_of_getElem? ht
        have hall : ([22, 4, 23].all fun u => !Tryz.prog.wantsStandIn u) = true := by kernel_rfl
        exact (show Tryz.prog.wantsStandIn t = false by simpa using List.all_eq_true.1 hall t hm)⟩)
    (by kernel_rfl)
#print axioms proved
end Go.Proofs.YtkjnecaieiaijaaGreatDoor.reconcileSides
