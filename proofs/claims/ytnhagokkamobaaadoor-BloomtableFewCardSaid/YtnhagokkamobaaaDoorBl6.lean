/- Contracts of bloomtable: Empty, Cells, Size; slices.Index of bools. -/
import Derived.Test.YtnhagokkamobaaaDoorBl5
namespace Go.Proofs.YtnhagokkamobaaaDoor
open Go.RowKit

theorem all_take_succ {l : List BC} {f : BC → Bool} {i : Nat} {c : BC} (hc : l[i]? = some c) (h : (l.take i).all f = true) (hf : f c = true) : (l.take (i + 1)).all f = true := by
  obtain ⟨h1, e1⟩ := List.getElem?_eq_some_iff.1 hc
  rw [List.take_succ_eq_append_getElem h1, e1, List.all_append, h]
  simp [hf]

set_option maxRecDepth 100000 in
set_option maxHeartbeats 1000000 in
theorem empty_any (bt bc cap : Nat) (rest : List Value) (t : BT) (w : World) (ht : TabAt w bt bc cap rest t) :
    Calls Tryd.prog 34 #[Value.pointer (some ⟨bt, 0, none⟩)] w fun e w' => e = .returned (.bool t.empty) ∧ Fr [] w w' := by
  obtain ⟨n, HN⟩ : ∃ n, Hid (n = t.cells.length) := ⟨_, rfl⟩
  have hb := isSz_bounds ht.size
  have h4 : n ≤ 3072 := by rw [HN.out]; exact hb.2.1
  have q0 : w.cell? ⟨bt, 0, none⟩ = some (.slice (some ⟨bc, 0, none⟩) n cap) := by rw [ht.tab.cell, HN.out]; rfl
  have H := Lib.hid ht
  have hbcl := ht.cells.lt
  clear ht hb
  obtain ⟨Z, HZ⟩ : ∃ Z, Hid (Z = BC.zero.cells) := ⟨_, rfl⟩
  have hgd : Tryd.prog.eqGuardType Tryd.prog.depth 85 = false := by kernel_rfl
  go_enter Tryd.func34, Tryd.ntmps34
  go_wp2_with fail
  go_loopw [10] (fun s wx => ∃ i : Nat, i ≤ n ∧ s = .int .i64 i ∧ Hid (Fr [] w wx ∧ (t.cells.take i).all BC.isZero = true)) (fun s _ => n - (intOf s).toNat)
  case atStart => exact ⟨0, by omega, rfl, Fr.refl _ _, rfl⟩
  case round =>
    obtain ⟨i, hi, rfl, HR⟩ := hrel
    by_cases hlt : i < n
    · obtain ⟨c, hc⟩ : ∃ c, t.cells[i]? = some c := ⟨_, List.getElem?_eq_getElem (by rw [← HN.out]; exact hlt)⟩
      have hcok := H.out.ok.cells c (List.mem_of_getElem? hc)
      obtain ⟨L, HL⟩ : ∃ L, Hid (L = c.cells) := ⟨_, rfl⟩
      have HLX : Hid (L.length = 34 ∧ (∀ v ∈ L, v.oneCell' = true) ∧ ∀ j v, L[j]? = some v → wr.cell? ⟨bc, i * 34 + j, none⟩ = some v) := by
        show _ ∧ _ ∧ _
        rw [HL.out]
        refine ⟨BC.cells_len hcok, fun v hv => tcells_one (l := [c]) v (by simpa [tcells] using hv), fun j v hj => ?_⟩
        have hj34 := (List.getElem?_eq_some_iff.1 hj).1
        rw [BC.cells_len hcok] at hj34
        rw [HR.out.1.cell (p := ⟨bc, i * 34 + j, none⟩) hbcl (by simp), H.out.cells.cell, tcells_get H.out.ok.cells rest i c hc j hj34]
        exact hj
      have hiI : (i : Int) < (n : Int) := by omega
      have hq := run_neqCell c hcok.keys
      rw [← HL.out, ← HZ.out] at hq
      have HC := Lib.hid hc
      clear hc hcok
      cases hz : c.isZero
      · rw [hz] at hq
        go_wp2_with (first
          | (refine wpList_load_at rfl 85 (.tmp 12) rfl bc (i * 34) rfl L _ (fun j v hj => HLX.out.2.2 j v hj) Tryd.underlying85 rfl (by rw [HLX.out.1]; kernel_rfl) ?_)
          | (refine wpList_store_new rfl 85 (.tmp 4) (.tmp 13) rfl rfl 85 _ L rfl (by rw [HLX.out.1]; rfl) (by rw [HLX.out.1]; kernel_rfl) HLX.out.2.1 ?_; intro w1 hf1 ha1)
          | (refine wpList_load_at rfl 85 (.tmp 4) rfl wr.heap.size 0 rfl L _ (fun j v hj => by rw [Nat.zero_add, ha1.cell]; exact hj) Tryd.underlying85 rfl (by rw [HLX.out.1]; kernel_rfl) ?_)
          | (refine wpList_build_to rfl 85 _ rfl Z.toArray (by rw [HZ.out]; kernel_rfl) ?_))
        go_ret
        refine ⟨ret_bool ?_, HR.out.1.trans hf1⟩
        symm
        rw [Bool.eq_false_iff]
        intro h
        have := List.all_eq_true.1 h c (List.mem_of_getElem? HC.out)
        rw [hz] at this
        cases this
      · rw [hz] at hq
        have HN2 : Hid ((t.cells.take (i + 1)).all BC.isZero = true) := all_take_succ HC.out HR.out.2 hz
        go_wp2_with (first
          | (refine wpList_load_at rfl 85 (.tmp 12) rfl bc (i * 34) rfl L _ (fun j v hj => HLX.out.2.2 j v hj) Tryd.underlying85 rfl (by rw [HLX.out.1]; kernel_rfl) ?_)
          | (refine wpList_store_new rfl 85 (.tmp 4) (.tmp 13) rfl rfl 85 _ L rfl (by rw [HLX.out.1]; rfl) (by rw [HLX.out.1]; kernel_rfl) HLX.out.2.1 ?_; intro w1 hf1 ha1)
          | (refine wpList_load_at rfl 85 (.tmp 4) rfl wr.heap.size 0 rfl L _ (fun j v hj => by rw [Nat.zero_add, ha1.cell]; exact hj) Tryd.underlying85 rfl (by rw [HLX.out.1]; kernel_rfl) ?_)
          | (refine wpList_build_to rfl 85 _ rfl Z.toArray (by rw [HZ.out]; kernel_rfl) ?_))
        have HF1 : Hid (Fr [] w w1) := HR.out.1.trans hf1
        clear hq hf1 ha1
        (try go_wp2_with fail)
        go_roundw
        case rel =>
          first
            | exact ⟨i + 1, by omega, by go_num, HF1.out, HN2.out⟩
            | ((repeat apply Exists.intro); exact ⟨⟨i + 1, by omega, by go_num, HF1.out, HN2.out⟩, rfl⟩)
        case measure => simp [intOf] <;> omega
    · obtain rfl : i = n := by omega
      go_wp2_with fail
      go_ret
      refine ⟨ret_bool ?_, HR.out.1⟩
      have := HR.out.2
      rw [HN.out, List.take_length] at this
      exact this.symm

set_option maxRecDepth 100000 in
theorem cells_any (bt bc cap : Nat) (rest : List Value) (t : BT) (w : World) (ht : TabAt w bt bc cap rest t) : Calls Tryd.prog 35 #[Value.pointer (some ⟨bt, 0, none⟩)] w fun e w' => e = .returned (Value.int .i64 (t.cells.length : Int)) ∧ w = w' := by
  obtain ⟨n, HN⟩ : ∃ n, Hid (n = t.cells.length) := ⟨_, rfl⟩
  rw [← HN.out]
  have q0 : w.cell? ⟨bt, 0, none⟩ = some (.slice (some ⟨bc, 0, none⟩) n cap) := by rw [ht.tab.cell, HN.out]; rfl
  clear ht
  go_enter Tryd.func35, Tryd.ntmps35
  go_wp2_with fail
  go_ret
  exact ⟨rfl, rfl⟩

/-- The recommended number of cells. -/
def blSize (n : Int) : Int := if 1536 < n then 3072 else if n < 0 then 12 else min 3072 ((2 * n + 14) / 3 * 3)

set_option maxRecDepth 100000 in
theorem size_any (n : Int) (w : World) : Calls Tryd.prog 14 #[Value.int .i64 n] w fun e w' => e = .returned (Value.int .i64 (blSize n)) ∧ w = w' := by
  unfold blSize
  by_cases h1 : 1536 < n
  · rw [if_pos h1]
    go_enter Tryd.func14, Tryd.ntmps14
    go_wp2_with fail
    go_ret
    exact ⟨rfl, rfl⟩
  · rw [if_neg h1]
    have h1' : n ≤ 1536 := by omega
    by_cases h2 : n < 0
    · rw [if_pos h2]
      have h2' : ¬ 0 ≤ n := by omega
      go_enter Tryd.func14, Tryd.ntmps14
      go_wp2_with fail
      go_ret
      exact ⟨rfl, rfl⟩
    · rw [if_neg h2]
      have h2' : 0 ≤ n := by omega
      go_enter Tryd.func14, Tryd.ntmps14
      go_wp2_with fail
      all_goals
        go_ret
        exact ⟨ret_int (by omega), rfl⟩

/-- Where the first true lies. -/
def idxTrue (l : List Bool) : Int := match l.findIdx? id with | none => -1 | some i => (i : Int)
def BB (l : List Bool) : List Value := l.map fun b => Value.bool b

theorem idxTrue_hit {l : List Bool} {i : Nat} (h : ∀ j, j < i → l[j]? = some false) (hi : l[i]? = some true) : idxTrue l = (i : Int) := by
  have : l.findIdx? id = some i := by
    rw [List.findIdx?_eq_some_iff_getElem]
    obtain ⟨h1, e1⟩ := List.getElem?_eq_some_iff.1 hi
    refine ⟨h1, by simp [e1], fun j hj => ?_⟩
    obtain ⟨h2, e2⟩ := List.getElem?_eq_some_iff.1 (h j hj)
    simp [e2]
  unfold idxTrue
  rw [this]
theorem idxTrue_none {l : List Bool} (h : ∀ j, j < l.length → l[j]? = some false) : idxTrue l = -1 := by
  have : l.findIdx? id = none := by
    rw [List.findIdx?_eq_none_iff]
    intro x hx
    obtain ⟨j, hj⟩ := List.mem_iff_getElem?.1 hx
    have := h j (List.getElem?_eq_some_iff.1 hj).1
    rw [hj] at this
    injection this
  unfold idxTrue
  rw [this]

set_option maxRecDepth 100000 in
theorem index_any (g cap : Nat) (l : List Bool) (w : World) (ha : At w g 4 (BB l)) (hl : l.length ≤ 3072) : Calls Tryd.prog 47 #[.slice (some ⟨g, 0, none⟩) l.length cap, .bool true] w fun e w' => e = .returned (Value.int .i64 (idxTrue l)) ∧ w = w' := by
  obtain ⟨n, HN⟩ : ∃ n, Hid (n = l.length) := ⟨_, rfl⟩
  have H := Lib.hid ha
  clear ha
  rw [← HN.out] at hl ⊢
  go_enter Tryd.func47, Tryd.ntmps47
  go_wp2_with fail
  go_loop [8] (fun s => ∃ i : Nat, i ≤ n ∧ s = .int .i64 i ∧ Hid (∀ j, j < i → l[j]? = some false)) (fun s => n - (intOf s).toNat)
  case atStart => exact ⟨0, by omega, rfl, fun j hj => by omega⟩
  case round =>
    obtain ⟨i, hi, rfl, HR⟩ := hrel
    by_cases hlt : i < n
    · obtain ⟨b, hb⟩ : ∃ b, l[i]? = some b := ⟨_, List.getElem?_eq_getElem (by rw [← HN.out]; exact hlt)⟩
      have cb : w.cell? ⟨g, i, none⟩ = some (.bool b) := by rw [H.out.cell]; simp [BB, hb]
      have hiI : (i : Int) < (n : Int) := by omega
      have HB := Lib.hid hb
      clear hb
      cases b
      · go_wp2_with fail
        go_round
        case rel =>
          refine ⟨i + 1, by omega, by go_num, fun j hj => ?_⟩
          rcases Nat.lt_or_ge j i with h | h
          · exact HR.out j h
          · obtain rfl : j = i := by omega
            exact HB.out
        case measure => simp [intOf] <;> omega
      · go_wp2_with fail
        go_ret
        refine ⟨ret_int ?_, rfl⟩
        exact (idxTrue_hit HR.out HB.out).symm
    · obtain rfl : i = n := by omega
      go_wp2_with fail
      go_ret
      refine ⟨ret_int ?_, rfl⟩
      exact (idxTrue_none (by rw [← HN.out]; exact HR.out)).symm

end Go.Proofs.YtnhagokkamobaaaDoor
