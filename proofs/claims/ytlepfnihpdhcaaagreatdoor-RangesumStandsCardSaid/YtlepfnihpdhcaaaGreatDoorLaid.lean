/- What the row's listed variables give the walks: the two tables of sha256; and the world of the witness. -/
import Derived.Test.YtlepfnihpdhcaaaGreatDoorOpen
import Derived.Test.YtlepfnihpdhcaaaGreatDoorSha1
import Derived.Test.YtlepfnihpdhcaaaGreatDoorBytes
import Derived.LaidMore
import Derived.Stop.Joined
namespace Go.Proofs.YtlepfnihpdhcaaaGreatDoor
open Go.ChangeShapes Go.WideShapes Go.ChangeAt Go.RowKit

theorem gInit : Tryz.prog.globalNamed "kinkeep/sha256.initial" = some 0 := by kernel_rfl
theorem gCons : Tryz.prog.globalNamed "kinkeep/sha256.constants" = some 1 := by kernel_rfl
theorem tInit : (Tryz.prog.globals[0]?).map (·.type) = some 133 := by kernel_rfl
theorem tCons : (Tryz.prog.globals[1]?).map (·.type) = some 158 := by kernel_rfl

def laid2 : List (String × DataW Unit) := [("kinkeep/sha256.initial", Rows.laid_kinkeep_sha256_initial), ("kinkeep/sha256.constants", Rows.laid_kinkeep_sha256_constants)]

/-- The door's own heap meets the condition. -/
theorem door_met (os : Os) (args : Array Value) : laidMetH Tryz.prog laid2 ((World.doorLaid Tryz.prog 400 os).forCall (fun _ _ => 0) ⟨#[], args, []⟩).memory :=
  laidMetH_of_parts3 (fuel := 8) (laidMet_of_run' 8 (by kernel_rfl) (by kernel_rfl)) (by kernel_rfl) (by kernel_rfl)

theorem words_trod {enc : TypeId × Value → Unit} {W : World} {base : Nat} {spare : Nat → Bool} {held : Bool} {fuel : Nat} {t : TypeId} {n : Nat} {cs : List Value} {l : List Nat} {ps : List MemPlace} (ht : Tryz.prog.underlying t = some (.array n 132)) (h : DataW.trod enc Tryz.prog W base spare held fuel t cs = some (.agg (l.map fun k : Nat => DataW.lit (Lit.int .u32 (k : Int))), ps)) :
    ∀ i x : Nat, l[i]? = some x → cs[i]? = some (.int .u32 (x : Int)) := by
  obtain ⟨xs, m, _, hx, _, hn, hel⟩ := DataW.trod_array ht h
  simp only [Prod.mk.injEq, DataW.agg.injEq] at hx
  have hc : Tryz.prog.cellsOf 132 = 1 := by kernel_rfl
  intro i x hi
  have hl : l.length = n := by
    have := congrArg List.length hx.1
    simp at this
    omega
  have hin : i < n := by rw [← hl]; exact (List.getElem?_eq_some_iff.1 hi).1
  have h1 := hel i hin
  rw [List.getElem?_eq_getElem (by omega)] at h1
  obtain ⟨k, e1, e2, _⟩ := DataW.trod_int Tryz.underlying132 h1
  have h2 := congrArg (fun z => z[i]?) hx.1
  simp only [List.getElem?_map, hi, Option.map_some] at h2
  rw [List.getElem?_eq_getElem (by omega)] at h2
  simp only [Option.map_some, Option.some.injEq] at h2
  rw [e2] at h2
  simp only [DataW.lit.injEq, Lit.int.injEq, true_and] at h2
  rw [hc, Nat.mul_one] at e1
  have h3 : (List.take 1 (List.drop i cs))[0]? = some (.int .u32 k) := by rw [e1]; rfl
  rw [List.getElem?_take_of_lt (by omega), List.getElem?_drop, Nat.add_zero] at h3
  rw [h3, h2]

theorem vars_of_laid {W : World} (h : laidMetH Tryz.prog laid2 W) : Vars W := by
  rw [MakeChecks.laidMetH_plain _ _ _ (by kernel_rfl)] at h
  obtain ⟨ps, ⟨g0, t0, cs0, f0, p0, q0, hg0, ht0, hv0, hd0, ⟨g1, t1, cs1, f1, p1, q1, hg1, ht1, hv1, hd1, _, _⟩, _⟩, _, _⟩ := h
  obtain rfl := Option.some.inj (gInit.symm.trans hg0)
  obtain rfl := Option.some.inj (gCons.symm.trans hg1)
  obtain rfl := Option.some.inj (tInit.symm.trans ht0)
  obtain rfl := Option.some.inj (tCons.symm.trans ht1)
  refine ⟨fun i x hx => ?_, fun i x hx => ?_⟩
  · rw [World.var?_cell hg0 hv0 i]
    have := words_trod (l := shaI) Tryz.underlying133 hd0 i x hx
    simpa using this
  · rw [World.var?_cell hg1 hv1 i]
    have := words_trod (l := shaK) Tryz.underlying158 hd1 i x hx
    simpa using this

theorem seed_of {n : Int} (h : (Lit.int .u64 n).wf = true) : ∃ s : Nat, n = (s : Int) ∧ U64 s := by
  have h1 : 0 ≤ n ∧ n < 18446744073709551616 := by
    simp [Lit.wf, IntKind.min, IntKind.max, IntKind.signed, IntKind.bits] at h
    omega
  exact ⟨n.toNat, by omega, by unfold U64; omega⟩
theorem str_eta (s : ByteArray) : s = strOf s.data.toList := by
  cases s
  simp [strOf]

end Go.Proofs.YtlepfnihpdhcaaaGreatDoor
