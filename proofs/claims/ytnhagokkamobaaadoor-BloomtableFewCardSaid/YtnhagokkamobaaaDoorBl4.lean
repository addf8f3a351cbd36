/- Contracts of bloomtable: pure, clone, Empty, Cells. -/
import Derived.Test.YtnhagokkamobaaaDoorBl3
import Derived.WalkSpells
import Derived.WalkLawsBesides
namespace Go.Proofs.YtnhagokkamobaaaDoor
open Go.RowKit

/-- What pure reads. -/
def PureS (bt bc p seed chk : Nat) (cnt : Int) (keys : List UInt8) (w' : World) : Prop :=
  w'.cell? ⟨bt, 1, none⟩ = some (.int .u64 (seed : Int)) ∧ w'.cell? ⟨bc, p * 34, none⟩ = some (Value.int .i64 cnt) ∧ w'.cell? ⟨bc, p * 34 + 33, none⟩ = some (.int .u64 (chk : Int)) ∧ (convert 34 9 (.slice (some ⟨bc, p * 34 + 1, none⟩) 32 32)).run Tryd.prog w' = .ok (.string (strOf keys)) w'

theorem pureS_of {w : World} {bt bc cap : Nat} {rest : List Value} {t : BT} (h : TabAt w bt bc cap rest t) (p : Nat) (c : BC) (hc : t.cells[p]? = some c) : PureS bt bc p t.seed c.checks c.count c.keys w := by
  have ok : Ok34 t.cells := h.ok.cells
  have hk := (ok c (List.mem_of_getElem? hc)).keys
  refine ⟨by rw [h.tab.cell]; rfl, ?_, ?_, ?_⟩
  · have := tcells_get ok rest p c hc 0 (by omega)
    rw [Nat.add_zero] at this
    rw [h.cells.cell, this]
    rfl
  · rw [h.cells.cell, tcells_get ok rest p c hc 33 (by omega)]
    exact cells_get33 hk
  · have := run_str (P := Tryd.prog) (src := 34) (dst := 9) Tryd.underlying34 Tryd.underlying5 Tryd.underlying9 w (some ⟨bc, p * 34 + 1, none⟩) 32 c.keys (fun j v hj => ⟨bc, p * 34 + 1, rfl, h.cells.lt, by
      have hjl := (List.getElem?_eq_some_iff.1 hj).1
      rw [B8_length, hk] at hjl
      rw [h.cells.cell, Nat.add_assoc, tcells_get ok rest p c hc (1 + j) (by omega), BC.cells, Nat.add_comm 1 j, List.getElem?_cons_succ, List.getElem?_append_left (by rw [B8_length, hk]; exact hjl)]
      exact hj⟩)
    rw [hk] at this
    exact this

set_option maxRecDepth 100000 in
set_option maxHeartbeats 1000000 in
theorem pure_any (bt bc cap : Nat) (rest : List Value) (t : BT) (p : Nat) (c : BC) (w : World) (hv : Vars w) (ht : TabAt w bt bc cap rest t) (hc : t.cells[p]? = some c) :
    Calls Tryd.prog 46 #[Value.pointer (some ⟨bt, 0, none⟩), Value.int .i64 (p : Int)] w fun e w' => e = .returned (.bool (c.pure t.seed)) ∧ Fr [] w w' := by
  obtain ⟨n, HN⟩ : ∃ n, Hid (n = t.cells.length) := ⟨_, rfl⟩
  obtain ⟨seed, HS⟩ : ∃ seed, Hid (seed = t.seed) := ⟨_, rfl⟩
  obtain ⟨cnt, HCN⟩ : ∃ cnt, Hid (cnt = c.count) := ⟨_, rfl⟩
  obtain ⟨chk, HCH⟩ : ∃ chk, Hid (chk = c.checks) := ⟨_, rfl⟩
  obtain ⟨keys, HK⟩ : ∃ keys, Hid (keys = c.keys) := ⟨_, rfl⟩
  have hp : p < n := by rw [HN.out]; exact (List.getElem?_eq_some_iff.1 hc).1
  have hpI : (p : Int) < (n : Int) := by omega
  have q0 : w.cell? ⟨bt, 0, none⟩ = some (.slice (some ⟨bc, 0, none⟩) n cap) := by rw [ht.tab.cell, HN.out]; rfl
  have HP := Lib.hid (pureS_of ht p c hc)
  rw [← HS.out, ← HCN.out, ← HCH.out, ← HK.out] at HP
  have HPD := Lib.hid (pureS_of (w := w.drew) (ht.fr (Fr.refl [] w).drew (by simp) (by simp)) p c hc)
  rw [← HS.out, ← HCN.out, ← HCH.out, ← HK.out] at HPD
  have H := Lib.hid (And.intro hv (And.intro ht hc))
  have HKL : Hid (keys.length = 32) := by show keys.length = 32; rw [HK.out]; exact (ht.ok.cells c (List.mem_of_getElem? hc)).keys
  obtain ⟨ck, HCK⟩ : ∃ ck, Hid (ck = bhash seed 3 keys) := ⟨_, rfl⟩
  have HCC : Hid (∀ W, Fr [] w W → Calls Tryd.prog 70 #[.int .u64 (seed : Int), .string (strOf keys)] W fun e w' => e = .returned (.int .u64 (ck : Int)) ∧ Fr [] W w' ∧ PureS bt bc p seed chk cnt keys w') := fun W hW => by
    have := check_any seed keys W (H.out.1.fr hW (by simp) (by simp)) (by rw [HS.out]; exact H.out.2.1.ok.seed) (by rw [HKL.out]; omega)
    rw [← HCK.out] at this
    refine this.mono ?_
    rintro e w' ⟨he, hf⟩
    refine ⟨he, hf, ?_⟩
    have h2 := pureS_of (H.out.2.1.fr (hW.trans hf) (by simp) (by simp)) p c H.out.2.2
    rw [← HS.out, ← HCN.out, ← HCH.out, ← HK.out] at h2
    exact h2
  have hsl : ∀ W : World, (Instr.sliceAt 83 (.pointer (some ⟨bc, p * 34 + 1, none⟩)) none none none).run Tryd.prog W = .ok (.slice (some ⟨bc, p * 34 + 1, none⟩) 32 32) W := fun W => by
    have hl : Tryd.prog.arrayLen 83 = 32 := by kernel_rfl
    have hz : (sizeOf (Tryd.prog.elem 83)).run Tryd.prog W = .ok 1 W := by kernel_rfl
    rw [run_sliceAt_array_all W 83 ⟨bc, p * 34 + 1, none⟩ (by kernel_rfl), hz, hl]
    simp [slicedAt, add_none]
  have HRES : Hid (c.pure t.seed = ((decide (cnt = 1) || decide (cnt = -1)) && decide (chk = ck))) := by
    show c.pure t.seed = _
    rw [HCN.out, HCH.out, HCK.out, HK.out, HS.out]
    rfl
  rw [HRES.out]
  clear hv ht hc
  by_cases h1 : cnt = 1
  · have HD : Hid (((decide (cnt = 1) || decide (cnt = -1)) && decide (chk = ck)) = decide (chk = ck)) := by show _ = _; rw [h1]; rfl
    rw [HD.out]
    clear HD
    subst h1
    go_enter Tryd.func46, Tryd.ntmps46
    go_wp2_with fail
    refine wp_region_held_drew (S := (fun w' => w'.cell? ⟨bt, 1, none⟩ = some (.int .u64 (seed : Int)) ∧ w'.cell? ⟨bc, p * 34, none⟩ = some (Value.int .i64 (1)) ∧ w'.cell? ⟨bc, p * 34 + 33, none⟩ = some (.int .u64 (chk : Int)) ∧ (convert 34 9 (.slice (some ⟨bc, p * 34 + 1, none⟩) 32 32)).run Tryd.prog w' = .ok (.string (strOf keys)) w')) (by kernel_rfl) HPD.out (fun hHeld => ?_)
    refine wpAnyH_take (i := 0) (v := ?v0) rfl (by kernel_rfl) (by kernel_rfl) (by kernel_rfl) (fun _ _ _ h => h) (Or.inl ⟨by rfl, ?y0⟩) hHeld ?r0
    case y0 => (intro w' hS'; (try dsimp only at hS'); go_simp; try with_reducible rfl)
    refine wpAnyH_take (i := 1) (v := ?v1) rfl (by kernel_rfl) (by kernel_rfl) (by kernel_rfl) (fun _ _ _ h => h) (Or.inl ⟨by rfl, ?y1⟩) hHeld ?r1
    case y1 => (intro w' hS'; (try dsimp only at hS'); go_simp; try with_reducible rfl)
    refine wpAnyH_take (i := 2) (v := ?v2) rfl (by kernel_rfl) (by kernel_rfl) (by kernel_rfl) (fun _ _ _ h => h) (Or.inl ⟨by rfl, ?y2⟩) hHeld ?r2
    case y2 => (intro w' hS'; (try dsimp only at hS'); go_simp; try with_reducible rfl)
    refine wpAnyH_take (i := 3) (v := ?v3) rfl (by kernel_rfl) (by kernel_rfl) (by kernel_rfl) (fun _ _ _ h => h) (Or.inl ⟨by rfl, ?y3⟩) hHeld ?r3
    case y3 => (intro w' hS'; (try dsimp only at hS'); go_simp; try with_reducible rfl)
    refine wpAnyH_take (i := 4) (v := .bool true) rfl (by kernel_rfl) (by kernel_rfl) (by kernel_rfl) (fun _ _ _ h => h) (Or.inl ⟨by rfl, ?y4⟩) hHeld ?r4
    case y4 => (intro w' hS'; (try dsimp only at hS'); go_simp; try with_reducible rfl)
    refine wpAnyH_take (i := 5) (v := .bool true) rfl (by kernel_rfl) (by kernel_rfl) (by kernel_rfl) (fun _ _ _ h => h) (Or.inl ⟨by rfl, ?y5⟩) hHeld ?r5
    case y5 => (intro w' hS'; (try dsimp only at hS'); go_simp; try with_reducible rfl)
    refine wpAnyH_take (i := 6) (v := undef) rfl (by kernel_rfl) (by kernel_rfl) (by kernel_rfl) (fun _ _ _ h => h) (Or.inr ⟨by kernel_rfl, rfl⟩) hHeld ?r6
    refine wpAnyH_take (i := 7) (v := undef) rfl (by kernel_rfl) (by kernel_rfl) (by kernel_rfl) (fun _ _ _ h => h) (Or.inr ⟨by kernel_rfl, rfl⟩) hHeld ?r7
    refine wpAnyH_take (i := 8) (v := undef) rfl (by kernel_rfl) (by kernel_rfl) (by kernel_rfl) (fun _ _ _ h => h) (Or.inr ⟨by kernel_rfl, rfl⟩) hHeld ?r8
    refine wpAnyH_take (i := 9) (v := undef) rfl (by kernel_rfl) (by kernel_rfl) (by kernel_rfl) (fun _ _ _ h => h) (Or.inr ⟨by kernel_rfl, rfl⟩) hHeld ?r9
    refine wpAnyH_take (i := 10) (v := undef) rfl (by kernel_rfl) (by kernel_rfl) (by kernel_rfl) (fun _ _ _ h => h) (Or.inr ⟨by kernel_rfl, rfl⟩) hHeld ?r10
    refine wpAnyH_take (i := 11) (v := .bool true) rfl (by kernel_rfl) (by kernel_rfl) (by kernel_rfl) (fun _ _ _ h => h) (Or.inl ⟨by kernel_rfl, ?y11⟩) hHeld ?r11
    case y11 => (intro w' hS'; (try dsimp only at hS'); go_simp; try with_reducible rfl)
    refine wpAnyH_take (i := 12) (v := .bool true) rfl (by kernel_rfl) (by kernel_rfl) (by kernel_rfl) (fun _ _ _ h => h) (Or.inl ⟨by kernel_rfl, ?y12⟩) hHeld ?r12
    case y12 => (intro w' hS'; (try dsimp only at hS'); go_simp; try with_reducible rfl)
    refine wpAnyH_take (i := 13) (v := ?v13) rfl (by kernel_rfl) (by kernel_rfl) (by kernel_rfl) (fun _ _ _ h => h) (Or.inl ⟨by kernel_rfl, ?y13⟩) hHeld ?r13
    case y13 => (intro w' hS'; (try dsimp only at hS'); go_simp; try with_reducible rfl)
    refine wpAnyH_take (i := 14) (v := ?v14) rfl (by kernel_rfl) (by kernel_rfl) (by kernel_rfl) (fun _ _ _ h => h) (Or.inl ⟨by kernel_rfl, ?y14⟩) hHeld ?r14
    case y14 => (intro w' hS'; (try dsimp only at hS'); go_simp; try with_reducible rfl)
    refine wpAnyH_take (i := 15) (v := ?v15) rfl (by kernel_rfl) (by kernel_rfl) (by kernel_rfl) (fun _ _ _ h => h) (Or.inl ⟨by kernel_rfl, ?y15⟩) hHeld ?r15
    case y15 => (intro w' hS'; (try dsimp only at hS'); go_simp; try with_reducible rfl)
    refine wpAnyH_take (i := 16) (v := ?v16) rfl (by kernel_rfl) (by kernel_rfl) (by kernel_rfl) (fun _ _ _ h => h) (Or.inl ⟨by kernel_rfl, ?y16⟩) hHeld ?r16
    case y16 => (intro w' hS'; (try dsimp only at hS'); go_simp; try with_reducible rfl)
    refine wpAnyH_take (i := 17) (v := ?v17) rfl (by kernel_rfl) (by kernel_rfl) (by kernel_rfl) (fun _ _ _ h => h) (Or.inl ⟨by kernel_rfl, ?y17⟩) hHeld ?r17
    case y17 => (intro w' hS'; (try dsimp only at hS'); go_simp; try with_reducible rfl)
    refine wpAnyH_take (i := 18) (v := ?v18) rfl (by kernel_rfl) (by kernel_rfl) (by kernel_rfl) (fun _ _ _ h => h) (Or.inl ⟨by kernel_rfl, ?y18⟩) hHeld ?r18
    case y18 => (intro w' hS'; (try dsimp only at hS'); go_simp; try with_reducible rfl)
    refine wpAnyH_take (i := 19) (v := ?v19) rfl (by kernel_rfl) (by kernel_rfl) (by kernel_rfl) (fun _ _ _ h => h) (Or.inl ⟨by kernel_rfl, ?y19⟩) hHeld ?r19
    case y19 => (intro w' hS'; (try dsimp only at hS'); go_simp; try with_reducible rfl)
    refine wpAnyH_take (i := 20) (v := ?v20) rfl (by kernel_rfl) (by kernel_rfl) (by kernel_rfl) (fun _ _ _ h => h) (Or.inl ⟨by kernel_rfl, ?y20⟩) hHeld ?r20
    case y20 => (intro w' hS'; (try dsimp only at hS'); go_simp; try with_reducible rfl)
    refine wpAnyH_take (i := 21) (v := ?v21) rfl (by kernel_rfl) (by kernel_rfl) (by kernel_rfl) (fun _ _ _ h => h) (Or.inl ⟨by kernel_rfl, ?y21⟩) hHeld ?r21
    case y21 => (intro w' hS'; (try dsimp only at hS'); go_simp; try with_reducible rfl)
    refine wpAnyH_take (i := 22) (v := ?v22) rfl (by kernel_rfl) (by kernel_rfl) (by kernel_rfl) (fun _ _ _ h => h) (Or.inl ⟨by kernel_rfl, ?y22⟩) hHeld ?r22
    case y22 => (intro w' hS'; (try dsimp only at hS'); go_simp; try with_reducible rfl)
    refine wpAnyH_take (i := 23) (v := ?v23) rfl (by kernel_rfl) (by kernel_rfl) (by kernel_rfl) (fun _ _ _ h => h) (Or.inl ⟨by kernel_rfl, ?y23⟩) hHeld ?r23
    case y23 => (intro w' hS'; (try dsimp only at hS'); go_simp; try with_reducible rfl)
    refine wpAnyH_take (i := 24) (v := ?v24) rfl (by kernel_rfl) (by kernel_rfl) (by kernel_rfl) (fun _ _ _ h => h) (Or.inl ⟨by kernel_rfl, ?y24⟩) hHeld ?r24
    case y24 => (intro w' hS'; (try dsimp only at hS'); go_simp; try with_reducible rfl)
    refine wpAnyH_take (i := 25) (v := ?v25) rfl (by kernel_rfl) (by kernel_rfl) (by kernel_rfl) (fun _ _ _ h => h) (Or.inl ⟨by kernel_rfl, ?y25⟩) hHeld ?r25
    case y25 => (intro w' hS'; (try dsimp only at hS'); go_simp; try with_reducible rfl)
    refine wpAnyH_ready (rs := [26]) (by kernel_rfl) (by simp) ?_
    refine AllReadyH.cons rfl (fun K hK => ?_) AllReadyH.nil
    go_simp
    refine (HCC.out _ (Fr.refl _ _).drew).mono ?_
    rintro e w2 ⟨rfl, hf2, hs2⟩
    (try go_wp2_with fail)
    refine hK.out _ _ hs2 (fun hHeld2 => ?_)
    clear hK K hHeld
    have hHeld := hHeld2
    clear hHeld2
    refine wpAnyH_take (i := 27) (v := ?v27) rfl (by kernel_rfl) (by kernel_rfl) (by kernel_rfl) (fun _ _ _ h => h) (Or.inl ⟨by kernel_rfl, ?y27⟩) hHeld ?r27
    case y27 => (intro w' hS'; (try dsimp only at hS'); go_simp; try with_reducible rfl)
    refine wpAnyH_take (i := 28) (v := ?v28) rfl (by kernel_rfl) (by kernel_rfl) (by kernel_rfl) (fun _ _ _ h => h) (Or.inl ⟨by kernel_rfl, ?y28⟩) hHeld ?r28
    case y28 => (intro w' hS'; (try dsimp only at hS'); go_simp; try with_reducible rfl)
    refine wpAnyH_take (i := 29) (v := ?v29) rfl (by kernel_rfl) (by kernel_rfl) (by kernel_rfl) (fun _ _ _ h => h) (Or.inl ⟨by kernel_rfl, ?y29⟩) hHeld ?r29
    case y29 => (intro w' hS'; (try dsimp only at hS'); go_simp; try with_reducible rfl)
    refine wpAnyH_done (by kernel_rfl) ?_ _
    go_wp2_with fail
    go_ret
    exact ⟨ret_bool (by rw [Bool.eq_iff_iff]; simp; omega), (Fr.refl [] w).drew.trans hf2⟩
  by_cases h2 : cnt = -1
  · have HD : Hid (((decide (cnt = 1) || decide (cnt = -1)) && decide (chk = ck)) = decide (chk = ck)) := by show _ = _; rw [h2]; rfl
    rw [HD.out]
    clear HD
    subst h2
    go_enter Tryd.func46, Tryd.ntmps46
    go_wp2_with fail
    go_region_held3 (fun w' => w'.cell? ⟨bt, 1, none⟩ = some (.int .u64 (seed : Int)) ∧ w'.cell? ⟨bc, p * 34, none⟩ = some (Value.int .i64 (-1)) ∧ w'.cell? ⟨bc, p * 34 + 33, none⟩ = some (.int .u64 (chk : Int)) ∧ (convert 34 9 (.slice (some ⟨bc, p * 34 + 1, none⟩) 32 32)).run Tryd.prog w' = .ok (.string (strOf keys)) w') (first | exact HPD.out | exact hs2) (first | (go_at_call 70; refine (HCC.out _ (Fr.refl _ _).drew).mono ?_; rintro e w2 ⟨rfl, hf2, hs2⟩))
    go_wp2_with fail
    go_ret
    exact ⟨ret_bool (by rw [Bool.eq_iff_iff]; simp; omega), (Fr.refl [] w).drew.trans hf2⟩
  have d1 : (cnt == 1) = false := by simpa using h1
  have d2 : (cnt == -1) = false := by simpa using h2
  have d3 : decide (cnt = 1) = false := by simpa using h1
  have d4 : decide (cnt = -1) = false := by simpa using h2
  have HD : Hid (((decide (cnt = 1) || decide (cnt = -1)) && decide (chk = ck)) = false) := by show _ = _; rw [d3, d4]; rfl
  rw [HD.out]
  obtain ⟨p1, p2, p3, p4⟩ : PureS bt bc p seed chk cnt keys w := HP.out
  clear p4 p3 p1 h1 h2 hsl
  go_enter Tryd.func46, Tryd.ntmps46
  go_wp2_with fail
  go_quiet (fail)
  go_wp2_with fail
  go_ret
  exact ⟨rfl, (Fr.refl [] w).drewN _⟩

end Go.Proofs.YtnhagokkamobaaaDoor
