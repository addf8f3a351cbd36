/- Contracts of bloomtable: clone, Empty, Cells. -/
import Derived.Test.YtnhagokkamobaaaDoorBl4
import Derived.Stop.BytesEq
namespace Go.Proofs.YtnhagokkamobaaaDoor
open Go.RowKit

theorem B8_cell (l : List UInt8) : B8 l = l.map Extern.Stop.cell := rfl

theorem cells_extract (c : BC) (hk : c.keys.length = 32) : c.cells.toArray.extract 1 33 = (B8 c.keys).toArray := by
  have h : (B8 c.keys).length = 32 := by rw [B8_length, hk]
  rw [List.extract_toArray]
  congr 1
  show (List.drop 1 (Value.int .i64 c.count :: (B8 c.keys ++ [.int .u64 (c.checks : Int)]))).take (33 - 1) = B8 c.keys
  rw [List.drop_succ_cons, List.drop_zero, List.take_append_of_le_length (by rw [h]; decide), List.take_of_length_le (by rw [h]; decide)]

/-- Two cells of a table are held against each other. -/
theorem run_eqCells {P : Program} (w : World) (d : Nat) (ti tk tu te : TypeId) (f0 f1 f2 : Field) (hn0 : f0.name ≠ "_") (hn1 : f1.name ≠ "_") (hn2 : f2.name ≠ "_") (h0 : f0.offset = 0) (h1 : f1.offset = 1) (h2 : f2.offset = 33)
    (t0 : f0.type = ti) (t1 : f1.type = tk) (t2 : f2.type = tu) (ui : P.underlying ti = some (.int .i64)) (uk : P.underlying tk = some (.array 32 te)) (uu : P.underlying tu = some (.int .u64)) (ue : P.underlying te = some (.int .u8))
    (hse : ∀ w, (sizeOf te).run P w = .ok 1 w) (hsk : ∀ w, (sizeOf tk).run P w = .ok 32 w) (c e : BC) (hc : c.keys.length = 32) (he : e.keys.length = 32) :
    (Op.eqFields (d + 2) c.cells.toArray e.cells.toArray [f0, f1, f2]).run P w = .ok (decide (c.count = e.count) && decide (c.keys = e.keys) && decide (c.checks = e.checks)) w := by
  have p0 : ∀ x : BC, (part ti x.cells.toArray 0).run P w = .ok (Value.int .i64 x.count) w := fun x => by simp [part, isAgg, run_underlying ui, BC.cells]
  have p1 : ∀ x : BC, x.keys.length = 32 → (part tk x.cells.toArray 1).run P w = .ok (.agg (B8 x.keys).toArray) w := fun x hx => by
    have := cells_extract x hx
    simp only [part, isAgg, Sem.run_bind, run_underlying uk, Result.andThen_ok, Sem.run_pure, if_true, hsk]
    rw [← this]
  have p2 : ∀ x : BC, x.keys.length = 32 → (part tu x.cells.toArray 33).run P w = .ok (.int .u64 (x.checks : Int)) w := fun x hx => by
    have := cells_get33 hx
    simp [part, isAgg, run_underlying uu, this]
  have q1 := run_equalIn_bytes (P := P) w d tk te 32 uk ue hse c.keys e.keys hc he
  rw [← B8_cell, ← B8_cell] at q1
  simp only [Op.eqFields, hn0, hn1, hn2, h0, h1, h2, t0, t1, t2, Sem.run_bind, Sem.run_ite, ne_eq, not_false_eq_true, if_true, p0, p1 _ hc, p1 _ he, p2 _ hc, p2 _ he, Result.andThen_ok, q1, run_equalIn_int w (d + 1) ti .i64 .i64 _ _ ui, run_equalIn_int w (d + 1) tu .u64 .u64 _ _ uu, Sem.run_pure]
  by_cases a0 : c.count = e.count
  · by_cases a1 : c.keys = e.keys
    · by_cases a2 : c.checks = e.checks
      · simp [a0, a1, a2]
      · have : ((c.checks : Int) == (e.checks : Int)) = false := by simp; omega
        simp [a0, a1, a2, this]
    · have : (c.keys == e.keys) = false := by simpa using a1
      simp [a0, a1, this]
  · have : (c.count == e.count) = false := by simpa using a0
    simp [a0, this]

/-- .. as '!=' of two structs of the type t. -/
theorem run_neqCells {P : Program} (t ti tk tu te : TypeId) (a0 a1 a2 : String) (hn0 : a0 ≠ "_") (hn1 : a1 ≠ "_") (hn2 : a2 ≠ "_") (hm : (P.fieldsOf t).toList.map (fun f => (f.name, f.type, f.offset)) = [(a0, ti, 0), (a1, tk, 1), (a2, tu, 33)])
    (ht : P.underlying t = some (.struct (P.fieldsOf t))) (hp : P.stoodInHeld t = false) (ui : P.underlying ti = some (.int .i64)) (uk : P.underlying tk = some (.array 32 te)) (uu : P.underlying tu = some (.int .u64)) (ue : P.underlying te = some (.int .u8))
    (hse : ∀ w, (sizeOf te).run P w = .ok 1 w) (hsk : ∀ w, (sizeOf tk).run P w = .ok 32 w) (c e : BC) (hc : c.keys.length = 32) (he : e.keys.length = 32) (w : World) :
    (binOp .neq t (.agg c.cells.toArray) (.agg e.cells.toArray)).run P w = .ok (.bool (!(decide (c.count = e.count) && decide (c.keys = e.keys) && decide (c.checks = e.checks)))) w := by
  rw [run_neq_struct, show (10000 : Nat) = 9997 + 2 + 1 from rfl, run_equalIn_agg w (9997 + 2) t _ _ ht hp]
  generalize (P.fieldsOf t).toList = fs at hm
  have hl : fs.length = 3 := by have := congrArg List.length hm; simpa using this
  match fs, hl with
  | [f0, f1, f2], _ =>
    simp only [List.map_cons, List.map_nil, List.cons.injEq, Prod.mk.injEq, and_true] at hm
    obtain ⟨⟨m0, m1, m2⟩, ⟨m3, m4, m5⟩, ⟨m6, m7, m8⟩⟩ := hm
    rw [run_eqCells w 9997 ti tk tu te f0 f1 f2 (by rw [m0]; exact hn0) (by rw [m3]; exact hn1) (by rw [m6]; exact hn2) m2 m5 m8 m1 m4 m7 ui uk uu ue hse hsk c e hc he]
    rfl

theorem run_neqCell (c : BC) (hc : c.keys.length = 32) (w : World) : (binOp .neq 85 (.agg c.cells.toArray) (.agg BC.zero.cells.toArray)).run Tryd.prog w = .ok (.bool (!c.isZero)) w :=
  run_neqCells 85 3 83 25 5 "count" "keys" "checks" (by decide) (by decide) (by decide) (by kernel_rfl) (by kernel_rfl) (by kernel_rfl) Tryd.underlying3 Tryd.underlying83 Tryd.underlying25 Tryd.underlying5 (fun w => by kernel_rfl) (fun w => by kernel_rfl) c BC.zero hc rfl w

theorem el_cell : Elem Tryd.prog 73 85 (.agg BC.zero.cells.toArray) 34 48 := ⟨Tryd.underlying73, by kernel_rfl, rfl, by omega, by omega⟩

/-- A row of elements of several cells: its block, whole. -/
theorem ownsRow_atN {w : World} {base : Nat} {e : TypeId} {sz : Nat} {v : Value} {n : Nat} {xs : List Value} (h : w.ownsRow base e sz v n xs) (hn : 0 < n) :
    ∃ g cap rest, v = .slice (some ⟨g, 0, none⟩) n cap ∧ base ≤ g ∧ n ≤ cap ∧ At w g e (xs ++ rest) := by
  rcases h.2 with ⟨_, h0⟩ | ⟨g, cap, cur, rfl, hb, hgg, hnc, _, hcs, ht⟩
  · omega
  · refine ⟨g, cap, cur.toList.drop (n * sz), rfl, hb, hnc, ?_⟩
    unfold At
    rw [← ht, List.take_append_drop]
    simpa using hgg

set_option maxRecDepth 100000 in
theorem cloneCells_any (bc cap n : Nat) (l : List BC) (rest : List Value) (w : World) (ha : At w bc 85 (tcells l ++ rest)) (hok : Ok34 l) (hn : n = l.length) (h3 : 3 ≤ n) (h4 : n ≤ 3072) :
    Calls Tryd.prog 69 #[.slice (some ⟨bc, 0, none⟩) n cap] w fun e w' => ∃ g c' rest', e = .returned (.slice (some ⟨g, 0, none⟩) n c') ∧ w.heap.size ≤ g ∧ n ≤ c' ∧ Fr [] w w' ∧ At w' g 85 (tcells l ++ rest') := by
  have H := Lib.hid (And.intro ha (And.intro hok hn))
  obtain ⟨C, HC⟩ : ∃ C, Hid (C = tcells l) := ⟨_, rfl⟩
  have HCL : Hid (C.length = n * 34 ∧ (∀ v ∈ C, v.oneCell' = true)) := by
    show _ ∧ _
    rw [HC.out, tcells_len hok, hn]
    exact ⟨rfl, tcells_one⟩
  have HCA : Hid (∀ W, Fr [] w W → CellsAt W (some ⟨bc, 0, none⟩) C) := fun W hW j v hv => ⟨_, rfl, by
    rw [add_none, Nat.zero_add, hW.cell (p := ⟨bc, j, none⟩) ha.lt (by simp), ha.cell, List.getElem?_append_left (by rw [← HC.out]; exact (List.getElem?_eq_some_iff.1 hv).1), ← HC.out]
    exact hv⟩
  clear ha hok hn
  have hnil := fun W : World => Lib.run_eql_slice_nil (P := Tryd.prog) W 73 85 (some ⟨bc, 0, none⟩) n cap 0 0 Tryd.underlying73
  go_enter Tryd.func69, Tryd.ntmps69
  go_wp2_with (at_builtin; refine wpList_app el_cell rfl (.tmp 5) (.tmp 6) rfl w.heap.size _ _ [] rfl (World.ownsRow_made _ #[] 0 (Nat.le_refl _) (Nat.zero_le _) rfl) (some ⟨bc, 0, none⟩) n cap C rfl HCL.out.1 (HCA.out _ ((Fr.refl _ _).alloc _)) HCL.out.2 (by omega) (by simp) ?_; intro v1 w1 hown1 hg1 hb1)
  rw [List.nil_append, Nat.zero_add] at hown1
  obtain ⟨g, c', rest', rfl, hg, hc, hat⟩ := ownsRow_atN hown1 (by omega)
  go_ret
  refine ⟨g, c', rest', rfl, hg, hc, ((Fr.refl [] w).alloc _).grown hg1 (fun k hk => .inr ?_), by rw [← HC.out]; exact hat⟩
  have hk2 : some w.heap.size = some k := hk
  injection hk2 with hk2
  exact Nat.le_of_eq hk2

set_option maxRecDepth 100000 in
set_option maxHeartbeats 1000000 in
theorem clone_any (bt bc cap : Nat) (rest : List Value) (t : BT) (w : World) (ht : TabAt w bt bc cap rest t) :
    Calls Tryd.prog 45 #[Value.pointer (some ⟨bt, 0, none⟩)] w fun e w' => ∃ bt' bc' cap' rest', e = .returned (Value.pointer (some ⟨bt', 0, none⟩)) ∧ w.heap.size ≤ bt' ∧ w.heap.size ≤ bc' ∧ Fr [] w w' ∧ TabAt w' bt' bc' cap' rest' t := by
  obtain ⟨n, HN⟩ : ∃ n, Hid (n = t.cells.length) := ⟨_, rfl⟩
  obtain ⟨seed, HS⟩ : ∃ seed, Hid (seed = t.seed) := ⟨_, rfl⟩
  have hb := isSz_bounds ht.size
  have h3 : 3 ≤ n := by rw [HN.out]; exact hb.1
  have h4 : n ≤ 3072 := by rw [HN.out]; exact hb.2.1
  have HT : Hid (∀ W, Fr [] w W → W.cell? ⟨bt, 0, none⟩ = some (.slice (some ⟨bc, 0, none⟩) n cap) ∧ W.cell? ⟨bt, 1, none⟩ = some (.int .u64 (seed : Int))) := fun W hW =>
    ⟨by rw [(ht.tab.fr hW (by simp)).cell, HN.out]; rfl, by rw [(ht.tab.fr hW (by simp)).cell, HS.out]; rfl⟩
  obtain ⟨q0, q1⟩ := HT.out w (Fr.refl _ _)
  have HC := Lib.hid (cloneCells_any bc cap n t.cells rest w.drew (ht.cells.drew) ht.ok.cells HN.out h3 h4)
  have H := Lib.hid ht
  have hbl := ht.tab.lt
  clear ht hb
  go_enter Tryd.func45, Tryd.ntmps45
  go_wp2_with fail
  go_region_held3 (fun w' => w'.cell? ⟨bt, 0, none⟩ = some (.slice (some ⟨bc, 0, none⟩) n cap) ∧ w'.cell? ⟨bt, 1, none⟩ = some (.int .u64 (seed : Int))) (first | go_keep | (exact HT.out _ H2.out) | (exact HT.out _ (H2.out.alloc _)))
    (first | (go_at_call 69; ((with_reducible refine HC.out.mono ?_)); rintro e w2 ⟨g, c', rest', rfl, hg, hc', hf2, ha2⟩; have H2 : Hid (Fr [] w w2) := (Fr.refl [] w).drew.trans hf2; have HA2 := Lib.hid (And.intro ha2 hg); have hbl2 : bt < w2.heap.size := Nat.lt_of_lt_of_le hbl H2.out.size; clear hf2 ha2 hg))
  rename_i hHeld
  clear hHeld
  go_wp2_with fail
  go_ret
  refine ⟨w2.heap.size, g, c', rest', rfl, H2.out.size, HA2.out.2, H2.out.alloc _, ?_, HA2.out.1.alloc _, H.out.ok, H.out.size, by rw [← HN.out]; exact hc'⟩
  rw [← HN.out, ← HS.out]
  exact At.new w2 75 [.slice (some ⟨g, 0, none⟩) n c', .int .u64 (seed : Int)]

end Go.Proofs.YtnhagokkamobaaaDoor
