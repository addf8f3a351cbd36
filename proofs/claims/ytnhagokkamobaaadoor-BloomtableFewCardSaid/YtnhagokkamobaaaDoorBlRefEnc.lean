/- Contract of the reference of layer 39: Encode. -/
import Derived.Test.YtnhagokkamobaaaDoorBlRef1
import Derived.Test.YtnhagokkamobaaaDoorHoare
import Derived.Test.YtnhagokkamobaaaDoorBl8
import Derived.Test.YtnhagokkamobaaaDoorRef1
namespace Go.Proofs.YtnhagokkamobaaaDoor
open Go.RowKit

theorem Mm.newRow {w0 w w' : World} {F : List Nat} {cs : List Ch} {bs : List UInt8} {e : Ending} (h : Mm w0 F cs w) (hn : NewRow bs w e w') : ∃ A c, e = .returned (.slice A bs.length c) ∧ Mm w0 F (cs ++ [cOwn 5 1 A bs.length c (B8 bs)]) w' := by
  obtain ⟨A, c, rfl, hf, ho⟩ := hn
  obtain ⟨A', c', e1, h1⟩ := h.pushOwn hf ho
  injection e1 with e1 e2 e3
  subst e1 e3
  exact ⟨A, c, rfl, h1⟩
theorem Mm.ownBase {w0 w : World} {cs : List Ch} (h : Mm w0 [] cs w) {i : Nat} {e : TypeId} {sz : Nat} {A : Option Addr} {m c : Nat} {xs : List Value} (hi : cs[i]? = some (cOwn e sz A m c xs)) : w.ownsRow w0.heap.size e sz (.slice A m c) m xs := by
  have ho : w.ownsRow 0 e sz (.slice A m c) m xs := h.at hi
  refine ⟨ho.1, ?_⟩
  rcases ho.2 with hn | ⟨g, cap, cur, hv, _, rest⟩
  · exact .inl hn
  · refine .inr ⟨g, cap, cur, hv, ?_, rest⟩
    simp only [Value.slice.injEq] at hv
    obtain ⟨rfl, _, _⟩ := hv
    exact h.lo hi (by simp [cOwn, ownFp])
theorem refCell {w : World} {g c : Nat} {rest : List Value} {t : BT} (h : RTab w g c rest t) {i : Nat} {cc : BC} (hc : t.cells[i]? = some cc) (j : Nat) (v : Value) (hj : cc.cells[j]? = some v) : w.cell? ⟨g, i * 34 + j, none⟩ = some v := by
  have hj34 := (List.getElem?_eq_some_iff.1 hj).1
  rw [BC.cells_len (h.ok.cells cc (List.mem_of_getElem? hc))] at hj34
  rw [h.cells.cell, tcells_get h.ok.cells rest i cc hc j hj34]
  exact hj
theorem BC.cells_one (c : BC) : ∀ u ∈ c.cells, u.oneCell' = true := fun v hv => tcells_one (l := [c]) v (by simpa [tcells] using hv)
theorem cells_keys {c : BC} {j : Nat} {v : Value} (h : (B8 c.keys)[j]? = some v) : c.cells[1 + j]? = some v := by
  have hl := (List.getElem?_eq_some_iff.1 h).1
  rw [Nat.add_comm, BC.cells, List.getElem?_cons_succ, List.getElem?_append_left hl]
  exact h

set_option maxRecDepth 100000 in
theorem refEncode_any (g cap : Nat) (rest : List Value) (t : BT) (w : World) (ht : RTab w g cap rest t) :
    Calls Tryd.prog 32 #[.agg #[.int .u64 (t.seed : Int), .slice (some ⟨g, 0, none⟩) t.cells.length cap]] w (NewRow t.enc w) := by
  obtain ⟨n, HN⟩ : ∃ n, Hid (n = t.cells.length) := ⟨_, rfl⟩
  obtain ⟨seed, HS⟩ : ∃ seed, Hid (seed = t.seed) := ⟨_, rfl⟩
  have n4 : n ≤ 3072 := by rw [HN.out]; exact (isSz_bounds ht.size).2.1
  rw [← HN.out, ← HS.out]
  have HU : Hid (U64 seed) := by show U64 seed; rw [HS.out]; exact ht.ok.seed
  have HEL : Hid (∀ i, (encTo t i).length ≤ 200000) := fun i => encTo_len ht.ok (by rw [← HN.out]; exact n4) i
  have HE0 : Hid (encTo t 0 = num n ++ num seed) := by show _ = _; unfold encTo; rw [← HN.out, ← HS.out]; simp
  have HENC : Hid (t.enc = encTo t n) := by show _ = _; rw [HN.out]; rfl
  have HL0 : Hid ((num n).length + (num seed).length ≤ 200000) := by
    show _ ≤ _
    have := HEL.out 0
    rw [HE0.out, List.length_append] at this
    exact this
  have HT := Lib.hid ht
  clear ht
  refine stEnter (args := [(.agg #[(.int .u64 ((seed : Nat) : Int)), (.slice (some ⟨g, 0, none⟩) (n) (cap))])]) [] Tryd.func32 rfl 41 rfl [(0, (.agg #[(.int .u64 ((seed : Nat) : Int)), (.slice (some ⟨g, 0, none⟩) (n) (cap))]))] ⟨rfl, trivial⟩ [] (Mm.start w []) ?_
  refine stSeq ?_
  refine reg ?_
  refine li rfl ?_
  refine opBox [(.int .u64 ((seed : Nat) : Int)), (.slice (some ⟨g, 0, none⟩) (n) (cap))] rfl rfl (by kernel_rfl) rfl rfl (fun b1 => ?_)
  refine li rfl (opVal (.slice none 0 0) rfl (by kernel_rfl) (rAssign rfl rfl) ?_)
  refine liNil ?_
  refine qThen ?_
  refine stSeq ?_
  refine anyBegin [cAt b1 53 [(.int .u64 ((seed : Nat) : Int)), (.slice (some ⟨g, 0, none⟩) (n) (cap))]] 10 (by kernel_rfl) (fun _ h => h) ?_
  refine anyVal (i := 0) (.pointer (some ⟨b1, 1, none⟩)) rfl rfl rfl (by kernel_rfl) (by kernel_rfl) (fun _ _ _ h => h) (rClosed fun _ => by kernel_rfl) ?_
  refine anyVal (i := 1) (.slice (some ⟨g, 0, none⟩) (n) (cap)) rfl rfl rfl (by kernel_rfl) (by kernel_rfl) (fun _ _ _ h => h) (rLoad 0 rfl rfl (by kernel_rfl) rfl rfl) ?_
  refine anyVal (i := 2) (.int .i64 ((n : Nat) : Int)) rfl rfl rfl (by kernel_rfl) (by kernel_rfl) (fun _ _ _ h => h) (rClosed fun _ => by kernel_rfl) ?_
  refine anyVal (i := 3) (.int .u64 ((n : Nat) : Int)) rfl rfl rfl (by kernel_rfl) (by kernel_rfl) (fun _ _ _ h => h) (rIntC _ (fun _ => by kernel_rfl) rfl rfl (wrapU64_id (by omega) (by omega))) ?_
  refine anyVal (i := 5) (.pointer (some ⟨b1, 0, none⟩)) rfl rfl rfl (by kernel_rfl) (by kernel_rfl) (fun _ _ _ h => h) (rClosed fun _ => by kernel_rfl) ?_
  refine anyVal (i := 6) (.int .u64 ((seed : Nat) : Int)) rfl rfl rfl (by kernel_rfl) (by kernel_rfl) (fun _ _ _ h => h) (rLoad 0 rfl rfl (by kernel_rfl) rfl rfl) ?_
  refine anyOne (i := 4) (by kernel_rfl) rfl rfl ?_
  refine opCall 59 #[(.int .u64 ((n : Nat) : Int))] rfl (by kernel_rfl) (fun _ => by kernel_rfl) (fun w hM => ?_)
  refine (refNumber_any (n) w (by unfold U64; omega)).mono ?_
  rintro e w' hN
  obtain ⟨A10, c10, rfl, hM'⟩ := hM.newRow hN
  refine ⟨_, _, rfl, hM', ?_⟩
  clear hM hN hM'
  refine anyNext [cAt b1 53 [(.int .u64 ((seed : Nat) : Int)), (.slice (some ⟨g, 0, none⟩) (n) (cap))]] (fun _ h => h) (fun _ h => h.sub (.cons_cons _ (.cons _ .slnil))) ?_
  refine anyOne (i := 7) (by kernel_rfl) rfl rfl ?_
  refine opCall 59 #[(.int .u64 ((seed : Nat) : Int))] rfl (by kernel_rfl) (fun _ => by kernel_rfl) (fun w hM => ?_)
  refine (refNumber_any (seed) w HU.out).mono ?_
  rintro e w' hN
  obtain ⟨A13, c13, rfl, hM'⟩ := hM.newRow hN
  refine ⟨_, _, rfl, hM', ?_⟩
  clear hM hN hM'
  refine anyNext [cAt b1 53 [(.int .u64 ((seed : Nat) : Int)), (.slice (some ⟨g, 0, none⟩) (n) (cap))], cOwn 5 1 A13 ((num (seed)).length) (c13) (B8 (num (seed)))] (fun _ h => h.sub (.cons_cons _ (.cons _ .slnil))) (fun _ h => h.sub (.cons_cons _ (.cons _ (.cons_cons _ .slnil)))) ?_
  refine anyOne (i := 8) (by kernel_rfl) rfl rfl ?_
  refine opAppend el_u8 1 (B8 (num seed)) rfl rfl (by kernel_rfl) rfl rfl rfl (by rw [B8_length, Nat.mul_one]) (srcOwn (i := 2) rfl) (B8_one _) (by have := HL0.out; omega) ((encTo t 0).length) (by rw [HE0.out, List.length_append]) (B8 (encTo t 0)) (by rw [HE0.out, B8_append]) (fun A14 c14 => ?_)
  refine anyNext [cAt b1 53 [(.int .u64 ((seed : Nat) : Int)), (.slice (some ⟨g, 0, none⟩) (n) (cap))], cOwn 5 1 A14 ((encTo t 0).length) (c14) (B8 (encTo t 0)), cOwn 5 1 A13 ((num (seed)).length) (c13) (B8 (num (seed)))] (fun _ h => h.sub (.cons_cons _ (.cons _ (.cons_cons _ .slnil)))) (fun _ h => h) ?_
  refine anyVal (i := 9) (.slice A14 ((encTo t 0).length) (c14)) rfl rfl rfl (by kernel_rfl) (by kernel_rfl) (fun _ _ _ h => h) (rAssign rfl rfl) ?_
  refine anyDone (by kernel_rfl) ?_
  refine qThen ?_
  refine stSeq ?_
  refine stSeq ?_
  refine reg ?_
  refine li rfl (opVal (.int .i64 0) rfl (by kernel_rfl) (rAssign rfl rfl) ?_)
  refine liNil ?_
  refine qThen ?_
  refine stBlock ?_
  refine stLoop (ι := Nat × Option Addr × Nat) (fun (i, A, c) => i ≤ n) (fun (i, A, c) => n - i) (fun (i, A, c) => [(1, (.pointer (some ⟨b1, 0, none⟩))), (3, (.slice A ((encTo t i).length) (c))), (4, (.int .i64 ((i : Nat) : Int)))]) (fun (i, A, c) => [cAt b1 53 [(.int .u64 ((seed : Nat) : Int)), (.slice (some ⟨g, 0, none⟩) (n) (cap))], cOwn 5 1 A ((encTo t i).length) (c) (B8 (encTo t i))]) (0, A14, c14) (Nat.zero_le _) ⟨rfl, rfl, rfl, trivial⟩ (fun _ h => h.sub (.cons_cons _ (.cons_cons _ (.cons _ .slnil)))) ?_
  rintro ⟨i, A, c⟩ (hok : i ≤ n)
  show St _ _ _ [(1, (.pointer (some ⟨b1, 0, none⟩))), (3, (.slice A ((encTo t i).length) (c))), (4, (.int .i64 ((i : Nat) : Int)))] [cAt b1 53 [(.int .u64 ((seed : Nat) : Int)), (.slice (some ⟨g, 0, none⟩) (n) (cap))], cOwn 5 1 A ((encTo t i).length) (c) (B8 (encTo t i))] _
  refine stSeq ?_
  refine stSeq ?_
  refine reg ?_
  refine li rfl (opVal (.int .i64 ((i : Nat) : Int)) rfl (by kernel_rfl) (rMove rfl rfl) ?_)
  refine li rfl (opVal (.pointer (some ⟨b1, 1, none⟩)) rfl (by kernel_rfl) (rClosed fun _ => by kernel_rfl) ?_)
  refine li rfl (opVal (.slice (some ⟨g, 0, none⟩) (n) (cap)) rfl (by kernel_rfl) (rLoad 0 rfl rfl (by kernel_rfl) rfl rfl) ?_)
  refine li rfl (opVal (.int .i64 ((n : Nat) : Int)) rfl (by kernel_rfl) (rClosed fun _ => by kernel_rfl) ?_)
  refine li rfl (opVal (.bool (decide (((i : Nat) : Int) < ((n : Nat) : Int)))) rfl (by kernel_rfl) (rClosed fun _ => by kernel_rfl) ?_)
  refine liNil ?_
  refine qThen ?_
  refine stCond rfl (fun hc19 => ?_) (fun hc19 => ?_)
  · have hd19 := of_decide_eq_true hc19
    obtain ⟨cc, hc⟩ : ∃ cc, t.cells[i]? = some cc := ⟨_, List.getElem?_eq_getElem (by rw [← HN.out]; omega)⟩
    have hlt : i < n := by omega
    have hcok := HT.out.ok.cells cc (List.mem_of_getElem? hc)
    have hclen := BC.cells_len hcok
    have HSU := encTo_succ hc
    have hel := HEL.out i
    have hel1 := HEL.out (i + 1)
    rw [HSU] at hel1
    simp only [List.length_append] at hel1
    refine stSkip ?_
    refine qThen ?_
    refine stSeq ?_
    refine stBlock ?_
    refine stSeq ?_
    refine reg ?_
    refine li rfl (opVal (.pointer (some ⟨b1, 1, none⟩)) rfl (by kernel_rfl) (rClosed fun _ => by kernel_rfl) ?_)
    refine li rfl (opVal (.slice (some ⟨g, 0, none⟩) (n) (cap)) rfl (by kernel_rfl) (rLoad 0 rfl rfl (by kernel_rfl) rfl rfl) ?_)
    refine li rfl (opVal (.int .i64 ((i : Nat) : Int)) rfl (by kernel_rfl) (rMove rfl rfl) ?_)
    refine li rfl (opVal (.pointer (some ⟨g, 0 + i * 34, none⟩)) rfl (by kernel_rfl) (rIndexAddr (e := 95) (sz := 34) rfl (by kernel_rfl) (by kernel_rfl) rfl rfl (by omega)) ?_)
    refine li rfl (opVal (.agg (cc.cells).toArray) rfl (by kernel_rfl) (rLoadA cc.cells rfl rfl (by kernel_rfl) (by rw [hclen]; kernel_rfl) (fun w hM j v hj => by rw [Nat.zero_add]; exact hM.old (refCell HT.out hc j v hj) (by simp))) ?_)
    refine li rfl ?_
    refine opAlloc [(.int .i64 0), (.int .u8 0), (.int .u8 0), (.int .u8 0), (.int .u8 0), (.int .u8 0), (.int .u8 0), (.int .u8 0), (.int .u8 0), (.int .u8 0), (.int .u8 0), (.int .u8 0), (.int .u8 0), (.int .u8 0), (.int .u8 0), (.int .u8 0), (.int .u8 0), (.int .u8 0), (.int .u8 0), (.int .u8 0), (.int .u8 0), (.int .u8 0), (.int .u8 0), (.int .u8 0), (.int .u8 0), (.int .u8 0), (.int .u8 0), (.int .u8 0), (.int .u8 0), (.int .u8 0), (.int .u8 0), (.int .u8 0), (.int .u8 0), (.int .u64 0)] rfl rfl (by kernel_rfl) (by kernel_rfl) (fun b5 => ?_)
    refine li rfl ?_
    refine opStoreN 2 cc.cells (vs := cc.cells) rfl rfl (by kernel_rfl) rfl rfl rfl (by rw [hclen]; kernel_rfl) rfl (by rw [hclen]; decide) (BC.cells_one cc) (store_all (by rw [hclen]; rfl)) ?_
    refine liNil ?_
    refine qThen ?_
    refine anyBegin [cAt b1 53 [(.int .u64 ((seed : Nat) : Int)), (.slice (some ⟨g, 0, none⟩) (n) (cap))], cAt b5 95 (cc.cells)] 14 (by kernel_rfl) (fun _ h => h.sub (.cons_cons _ (.cons _ (.cons_cons _ .slnil)))) ?_
    refine anyVal (i := 0) (.slice A ((encTo t i).length) (c)) rfl rfl rfl (by kernel_rfl) (by kernel_rfl) (fun _ _ _ h => h) (rMove rfl rfl) ?_
    refine anyVal (i := 1) (.pointer (some ⟨b5, 0, none⟩)) rfl rfl rfl (by kernel_rfl) (by kernel_rfl) (fun _ _ _ h => h) (rClosed fun _ => by kernel_rfl) ?_
    refine anyVal (i := 2) (.int .i64 cc.count) rfl rfl rfl (by kernel_rfl) (by kernel_rfl) (fun _ _ _ h => h) (rLoad 1 rfl rfl (by kernel_rfl) rfl (cells_get0 cc)) ?_
    refine anyVal (i := 6) (.pointer (some ⟨b5, 1, none⟩)) rfl rfl rfl (by kernel_rfl) (by kernel_rfl) (fun _ _ _ h => h) (rClosed fun _ => by kernel_rfl) ?_
    refine anyVal (i := 7) (.slice (some ⟨b5, 1, none⟩) (32) (32)) rfl rfl rfl (by kernel_rfl) (by kernel_rfl) (fun _ _ _ h => h) (rClosed fun _ => by kernel_rfl) ?_
    refine anyVal (i := 9) (.pointer (some ⟨b5, 33, none⟩)) rfl rfl rfl (by kernel_rfl) (by kernel_rfl) (fun _ _ _ h => h) (rClosed fun _ => by kernel_rfl) ?_
    refine anyVal (i := 10) (.int .u64 ((cc.checks : Nat) : Int)) rfl rfl rfl (by kernel_rfl) (by kernel_rfl) (fun _ _ _ h => h) (rLoad 1 rfl rfl (by kernel_rfl) rfl (cells_get33 hcok.keys)) ?_
    refine anyOne (i := 3) (by kernel_rfl) rfl rfl ?_
    refine opCall 60 #[(.int .i64 cc.count)] rfl (by kernel_rfl) (fun _ => by kernel_rfl) (fun w hM => ?_)
    refine (refZigzag_any cc.count w hcok.count).mono ?_
    rintro e w' ⟨rfl, rfl⟩
    refine ⟨_, _, rfl, hM, ?_⟩
    clear hM
    refine anyNext [cAt b1 53 [(.int .u64 ((seed : Nat) : Int)), (.slice (some ⟨g, 0, none⟩) (n) (cap))], cAt b5 95 (cc.cells)] (fun _ h => h) (fun _ h => h.sub (.cons_cons _ (.cons _ (.cons_cons _ .slnil)))) ?_
    refine anyOne (i := 4) (by kernel_rfl) rfl rfl ?_
    refine opCall 59 #[(.int .u64 ((zig cc.count : Nat) : Int))] rfl (by kernel_rfl) (fun _ => by kernel_rfl) (fun w hM => ?_)
    refine (refNumber_any (zig cc.count) w (zig_lt cc.count hcok.count.1 hcok.count.2)).mono ?_
    rintro e w' hN
    obtain ⟨A31, c31, rfl, hM'⟩ := hM.newRow hN
    refine ⟨_, _, rfl, hM', ?_⟩
    clear hM hN hM'
    refine anyNext [cAt b1 53 [(.int .u64 ((seed : Nat) : Int)), (.slice (some ⟨g, 0, none⟩) (n) (cap))], cAt b5 95 (cc.cells), cOwn 5 1 A31 ((num (zig cc.count)).length) (c31) (B8 (num (zig cc.count)))] (fun _ h => h.sub (.cons_cons _ (.cons_cons _ (.cons _ .slnil)))) (fun _ h => h.sub (.cons_cons _ (.cons _ (.cons_cons _ (.cons_cons _ .slnil))))) ?_
    refine anyOne (i := 5) (by kernel_rfl) rfl rfl ?_
    refine opAppend el_u8 1 (B8 (num (zig cc.count))) rfl rfl (by kernel_rfl) rfl rfl rfl (by rw [B8_length, Nat.mul_one]) (srcOwn (i := 3) rfl) (B8_one _) (by omega) ((encTo t i ++ num (zig cc.count)).length) (by rw [List.length_append]) (B8 (encTo t i ++ num (zig cc.count))) (by rw [B8_append]) (fun A32 c32 => ?_)
    refine anyNext [cAt b1 53 [(.int .u64 ((seed : Nat) : Int)), (.slice (some ⟨g, 0, none⟩) (n) (cap))], cAt b5 95 (cc.cells), cOwn 5 1 A31 ((num (zig cc.count)).length) (c31) (B8 (num (zig cc.count)))] (fun _ h => h) (fun _ h => h.sub (.cons_cons _ (.cons _ (.cons_cons _ (.cons_cons _ .slnil))))) ?_
    refine anyOne (i := 8) (by kernel_rfl) rfl rfl ?_
    refine opAppend el_u8 1 (B8 cc.keys) rfl rfl (by kernel_rfl) rfl rfl rfl (by rw [B8_length, hcok.keys]) (srcAt (i := 2) (off := 1) rfl (fun j v hj => cells_keys hj)) (B8_one _) (by simp only [List.length_append]; omega) ((encTo t i ++ num (zig cc.count) ++ cc.keys).length) (by rw [List.length_append (bs := cc.keys), hcok.keys]) (B8 (encTo t i ++ num (zig cc.count) ++ cc.keys)) (by rw [B8_append _ cc.keys]) (fun A35 c35 => ?_)
    refine anyNext [cAt b1 53 [(.int .u64 ((seed : Nat) : Int)), (.slice (some ⟨g, 0, none⟩) (n) (cap))], cAt b5 95 (cc.cells), cOwn 5 1 A31 ((num (zig cc.count)).length) (c31) (B8 (num (zig cc.count)))] (fun _ h => h) (fun _ h => h.sub (.cons_cons _ (.cons _ (.cons_cons _ (.cons_cons _ .slnil))))) ?_
    refine anyOne (i := 11) (by kernel_rfl) rfl rfl ?_
    refine opCall 59 #[(.int .u64 ((cc.checks : Nat) : Int))] rfl (by kernel_rfl) (fun _ => by kernel_rfl) (fun w hM => ?_)
    refine (refNumber_any (cc.checks) w hcok.checks).mono ?_
    rintro e w' hN
    obtain ⟨A38, c38, rfl, hM'⟩ := hM.newRow hN
    refine ⟨_, _, rfl, hM', ?_⟩
    clear hM hN hM'
    refine anyNext [cAt b1 53 [(.int .u64 ((seed : Nat) : Int)), (.slice (some ⟨g, 0, none⟩) (n) (cap))], cAt b5 95 (cc.cells), cOwn 5 1 A31 ((num (zig cc.count)).length) (c31) (B8 (num (zig cc.count))), cOwn 5 1 A38 ((num (cc.checks)).length) (c38) (B8 (num (cc.checks)))] (fun _ h => h.sub (.cons_cons _ (.cons_cons _ (.cons_cons _ (.cons _ .slnil))))) (fun _ h => h.sub (.cons_cons _ (.cons _ (.cons_cons _ (.cons_cons _ (.cons_cons _ .slnil)))))) ?_
    refine anyOne (i := 12) (by kernel_rfl) rfl rfl ?_
    refine opAppend el_u8 1 (B8 (num cc.checks)) rfl rfl (by kernel_rfl) rfl rfl rfl (by rw [B8_length, Nat.mul_one]) (srcOwn (i := 4) rfl) (B8_one _) (by simp only [List.length_append]; omega) ((encTo t (i + 1)).length) (by rw [HSU, List.length_append (bs := num cc.checks)]) (B8 (encTo t (i + 1))) (by rw [HSU, B8_append _ (num cc.checks)]) (fun A39 c39 => ?_)
    refine anyNext [cAt b1 53 [(.int .u64 ((seed : Nat) : Int)), (.slice (some ⟨g, 0, none⟩) (n) (cap))], cAt b5 95 (cc.cells), cOwn 5 1 A31 ((num (zig cc.count)).length) (c31) (B8 (num (zig cc.count))), cOwn 5 1 A38 ((num (cc.checks)).length) (c38) (B8 (num (cc.checks)))] (fun _ h => h) (fun _ h => h.sub (.cons_cons _ (.cons _ (.cons_cons _ (.cons_cons _ (.cons_cons _ .slnil)))))) ?_
    refine anyVal (i := 13) (.slice A39 ((encTo t (i + 1)).length) (c39)) rfl rfl rfl (by kernel_rfl) (by kernel_rfl) (fun _ _ _ h => h) (rAssign rfl rfl) ?_
    refine anyDone (by kernel_rfl) ?_
    refine qBlock ?_
    refine qThen ?_
    refine reg ?_
    refine li rfl (opVal (.int .i64 ((i : Nat) : Int)) rfl (by kernel_rfl) (rMove rfl rfl) ?_)
    refine li rfl (opVal (.int .i64 ((i + 1 : Nat) : Int)) rfl (by kernel_rfl) (rAdd _ rfl rfl rfl (by omega) (by omega) (by omega)) ?_)
    refine li rfl (opVal (.int .i64 ((i + 1 : Nat) : Int)) rfl (by kernel_rfl) (rAssign rfl rfl) ?_)
    refine liNil ?_
    refine qThen ?_
    refine stAgain (i + 1, A39, c39) (by show _ ≤ _; omega) (by show n - (i + 1) < n - i; omega) ⟨rfl, rfl, rfl, trivial⟩ (fun _ h => h.sub (.cons_cons _ (.cons_cons _ (.cons _ (.cons _ (.cons _ .slnil))))))
  · have hd19 := of_decide_eq_false hc19
    obtain rfl : i = n := by omega
    refine stExit ?_
    refine qThenX ?_
    refine qThenX ?_
    refine qBlockX ?_
    refine qThen ?_
    refine stSeq ?_
    refine reg ?_
    refine li rfl (opVal (.slice A ((encTo t i).length) (c)) rfl (by kernel_rfl) (rMove rfl rfl) ?_)
    refine li rfl (opVal (.slice A ((encTo t i).length) (c)) rfl (by kernel_rfl) (rAssign rfl rfl) ?_)
    refine liNil ?_
    refine qThen ?_
    refine stRet ?_
    refine stEnd [(.slice A ((encTo t i).length) (c))] rfl ⟨rfl, trivial⟩ (fun w hM => ?_)
    refine ⟨A, c, by show _ = Ending.returned (.slice A t.enc.length c); rw [HENC.out]; rfl, hM.fr, ?_⟩
    rw [HENC.out]
    exact hM.ownBase (i := 1) rfl

end Go.Proofs.YtnhagokkamobaaaDoor
