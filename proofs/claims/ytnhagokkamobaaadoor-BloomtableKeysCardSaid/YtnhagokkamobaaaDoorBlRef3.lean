/- Contracts of the reference of layer 39: New, Add. -/
import Derived.Test.YtnhagokkamobaaaDoorBlRef2
import Derived.Test.YtnhagokkamobaaaDoorBlPlain
import Derived.Deep.DeepCutAuto
import Derived.Deep.CutBlock
import Derived.Outline
namespace Go.Proofs.YtnhagokkamobaaaDoor
open Go.RowKit

/-- The cells of a table of the reference lie in block g. -/
structure RTab (w : World) (g c : Nat) (rest : List Value) (t : BT) : Prop where
  cells : At w g 95 (tcells t.cells ++ rest)
  ok : t.Ok
  size : isSz (t.cells.length : Int) = true
  cap : t.cells.length ≤ c

theorem RTab.fr {w w' : World} {g c : Nat} {rest : List Value} {t : BT} {S : List Nat} (h : RTab w g c rest t) (hf : Fr S w w') (hg : g ∉ S) : RTab w' g c rest t := ⟨h.cells.fr hf hg, h.ok, h.size, h.cap⟩

theorem run_makeRefCells (n : Nat) (hn : n ≤ 3072) (w : World) : (Instr.makeSlice 51 (.int .i64 (n : Int)) (.int .i64 (n : Int))).run Tryd.prog w = .ok (.slice (some ⟨w.heap.size, 0, none⟩) n n) (w.alloc (.cells (tcells (List.replicate n BC.zero)).toArray 95)) := by
  have hinfo : (Tryd.prog.info? 95).map (fun i => (i.zero, i.size, i.bytes)) = some (some (.agg BC.zero.cells.toArray), 34, 48) := by kernel_rfl
  obtain ⟨i, hi, hz, hsz, hby⟩ := info_parts hinfo
  have := run_make (P := Tryd.prog) w 51 95 i _ Tryd.underlying51 hi hz .i64 .i64 (n : Int) (n : Int) (by omega) (by omega) (by rw [hby]; omega) (by omega)
  rw [hsz, Int.toNat_natCast] at this
  rw [this, ← made_zero]
  rfl

set_option maxRecDepth 100000 in
theorem refNew_any (n seed : Nat) (w : World) (h : isSz (n : Int) = true) (hs : U64 seed) : Calls Tryd.prog 50 #[Value.int .i64 (n : Int), .int .u64 (seed : Int)] w fun e w' => ∃ g, e = .returned (.agg #[.int .u64 (seed : Int), .slice (some ⟨g, 0, none⟩) n n]) ∧ w.heap.size ≤ g ∧ Fr [] w w' ∧ RTab w' g n [] (BT.new n seed) := by
  obtain ⟨n3, n4, n5⟩ := isSz_bounds h
  have hmk := run_makeRefCells n n4
  have HH := Lib.hid (And.intro h hs)
  clear h hs n5
  go_enter Tryd.func50, Tryd.ntmps50
  go_wp2_with (refine wpList_store_at rfl 53 (.tmp 4) (.tmp 8) rfl w.heap.size 0 rfl 53 [.int .u64 0, .slice none 0 0] [.int .u64 (seed : Int), .slice (some ⟨w.heap.size + 1, 0, none⟩) n n] rfl ((At.new w 53 [.int .u64 0, .slice none 0 0]).alloc _) (by simp) (by kernel_rfl) (by simp [Value.oneCell']) [.int .u64 (seed : Int), .slice (some ⟨w.heap.size + 1, 0, none⟩) n n] rfl ?_; intro w2 hf2 ha2)
  refine bodyPost_ret (results_at (t := 53) rfl _ _ w.heap.size [.int .u64 (seed : Int), .slice (some ⟨w.heap.size + 1, 0, none⟩) n n] _ rfl ha2 Tryd.underlying53 rfl (by kernel_rfl)) rfl ⟨w.heap.size + 1, rfl, by omega, (((Fr.refl [] w).alloc _).alloc _).trans' hf2 (by simp), ?_⟩
  have e : (BT.new n seed).cells.length = n := by simp [BT.new]
  refine ⟨?_, BT.Ok.new n seed HH.out.2, by rw [e]; exact HH.out.1, by rw [e]; exact Nat.le_refl _⟩
  have h1 := At.new (w.alloc (.cells #[.int .u64 0, .slice none 0 0] 53)) 95 (tcells (List.replicate n BC.zero))
  have e2 : (w.alloc (.cells #[.int .u64 0, .slice none 0 0] 53)).heap.size = w.heap.size + 1 := by simp
  rw [e2] at h1
  rw [List.append_nil]
  exact h1.fr hf2 (by simp)

/-- A struct out of the middle of a block, as one operation of a region. -/
theorem exec_load_at {P : Program} {o : Oper} {a : Act} {w : World} (ty : TypeId) (x : Operand) (ho : o.op = .load ty x) (b off : Nat) (hx : a.eval x = .pointer (some ⟨b, off, none⟩)) (cs : List Value) (d : TypeDesc) (hc : ∀ j v, cs[j]? = some v → w.cell? ⟨b, off + j, none⟩ = some v)
    (hu : P.underlying ty = some d) (hd : (match d with | .struct _ | .array _ _ => true | _ => false) = true) (hi : (P.info? ty).map (·.size) = some cs.length) : (execOp a.eval o).run P w = .ok (.value (.agg cs.toArray)) w := by
  unfold execOp
  simp only [ho, hx, Instr.loadAt, Instr.sureAddr, Sem.run_bind, Sem.run_pure, Result.andThen_ok, run_loadVar_at w b off ty cs d hc hu hd hi]
theorem pl3_map' (n seed : Nat) (key : List UInt8) : pl3 n seed key = (placesL n seed key).map (Value.int .i64) := rfl

theorem wp_store_newd {P : Program} {o : Oper} {a : Act} {w : World} {K : Act → World → Prop} {Q : Exit → Act → World → Prop} (ty : TypeId) (x y : Operand) (ho : o.op = .store ty x y)
    (hx : a.eval x = .pointer (some ⟨w.heap.size, 0, none⟩)) (t : TypeId) (z : Array Value) (cs : List Value) (hy : a.eval y = .agg cs.toArray) (hz : z.size = cs.length) (hi : (P.info? ty).map (·.size) = some cs.length) (h1 : ∀ v ∈ cs, v.oneCell' = true)
    (h : ∀ w', Fr [] w w' → At w' w.heap.size t cs → K (a.put o.dst undef) w') : o.wp P a (w.alloc (.cells z t)).drew K Q := by
  refine wp_store_at ty x y ho w.heap.size 0 hx t z.toList cs hy (by simpa using (At.new w t z.toList).drew) (by simp [hz]) hi h1 cs (by simp [← hz]) ?_
  intro w' hf ha
  exact h w' (((Fr.refl _ _).alloc _).drew.trans' hf (by simp)) ha

theorem tcells_put {l : List BC} (h : Ok34 l) (rest : List Value) (p : Nat) (c : BC) (hp : l[p]? = some c) (c' : BC) : (tcells l ++ rest).take (p * 34) ++ c'.cells ++ (tcells l ++ rest).drop (p * 34 + 34) = tcells (l.set p c') ++ rest := by
  obtain ⟨h1, e1⟩ := List.getElem?_eq_some_iff.1 hp
  obtain ⟨A, B, rfl, hA⟩ : ∃ A B, l = A ++ c :: B ∧ A.length = p := ⟨l.take p, l.drop (p + 1), by rw [← e1, ← List.drop_eq_getElem_cons h1, List.take_append_drop], by rw [List.length_take]; omega⟩
  have hAl : (tcells A).length = p * 34 := by rw [tcells_len (fun x hx => h x (by simp [hx])), hA]
  have hcl : c.cells.length = 34 := BC.cells_len (h c (by simp))
  have hACl : (tcells A ++ c.cells).length = p * 34 + 34 := by rw [List.length_append, hAl, hcl]
  have e2 : tcells (A ++ c :: B) ++ rest = (tcells A ++ c.cells) ++ (tcells B ++ rest) := by rw [tcells_append, tcells_cons]; simp [List.append_assoc]
  have e3 : tcells (A ++ c :: B) ++ rest = tcells A ++ (c.cells ++ (tcells B ++ rest)) := by rw [e2, List.append_assoc]
  have e4 : (A ++ c :: B).set p c' = A ++ c' :: B := by rw [List.set_append_right _ _ (by omega), hA, Nat.sub_self, List.set_cons_zero]
  have t1 : (tcells (A ++ c :: B) ++ rest).take (p * 34) = tcells A := by rw [e3]; exact List.take_left' hAl
  have t2 : (tcells (A ++ c :: B) ++ rest).drop (p * 34 + 34) = tcells B ++ rest := by rw [e2]; exact List.drop_left' hACl
  rw [t1, t2, e4, tcells_append, tcells_cons]
  simp [List.append_assoc]

theorem el_rcell : Elem Tryd.prog 51 95 (.agg BC.zero.cells.toArray) 34 48 := ⟨Tryd.underlying51, by kernel_rfl, rfl, by omega, by omega⟩

theorem World.ownsRow_made' {w W : World} {base : Nat} {e : TypeId} {sz : Nat} (hb : base ≤ W.heap.size) (h : W.heap.size = w.heap.size + 1) : (W.alloc (.cells #[] e)).ownsRow base e sz (.slice (some ⟨w.heap.size + 1, 0, none⟩) 0 0) 0 [] := by
  rw [← h]
  exact World.ownsRow_made W #[] 0 hb (Nat.zero_le _) (by simp)

theorem at7_a2 {W1 w2 : World} {e t : TypeId} (hg : ((W1.alloc (.cells #[] e)).alloc (.cells #[.int .u64 0, .slice none 0 0] t)).grownBy w2 (some W1.heap.size)) : At w2 (W1.heap.size + 1) t [.int .u64 0, .slice none 0 0] := by
  have h1 := At.new (W1.alloc (.cells #[] e)) t [.int .u64 0, .slice none 0 0]
  rw [show (W1.alloc (.cells #[] e)).heap.size = W1.heap.size + 1 by simp] at h1
  exact h1.grown hg (by intro h; injection h; omega)
theorem at7_a3 {W1 w2 : World} {e t : TypeId} (hg : ((W1.alloc (.cells #[.int .u64 0, .slice none 0 0] t)).alloc (.cells #[] e)).grownBy w2 (some (W1.heap.size + 1))) : At w2 W1.heap.size t [.int .u64 0, .slice none 0 0] :=
  ((At.new W1 t [.int .u64 0, .slice none 0 0]).alloc _).grown hg (by intro h; injection h; omega)

end Go.Proofs.YtnhagokkamobaaaDoor
