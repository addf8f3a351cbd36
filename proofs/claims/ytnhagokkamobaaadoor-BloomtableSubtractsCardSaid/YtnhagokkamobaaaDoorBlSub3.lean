/- Contract of the reference of layer 39: Subtract. -/
import Derived.Test.YtnhagokkamobaaaDoorBlSub2
namespace Go.Proofs.YtnhagokkamobaaaDoor
open Go.RowKit

set_option maxRecDepth 100000 in
set_option maxHeartbeats 1000000 in
theorem refSubtract_any (n seed seed2 g1 c1 g2 c2 : Nat) (rest1 rest2 : List Value) (t u : BT) (w : World) (ht : RTab w g1 c1 rest1 t) (hu : RTab w g2 c2 rest2 u) (hn : n = t.cells.length) (hn2 : u.cells.length = n) (hs : seed = t.seed) :
    Calls Tryd.prog 37 #[(.agg #[(.int .u64 ((seed : Nat) : Int)), (.slice (some ⟨g1, 0, none⟩) (n) (c1))]), (.agg #[(.int .u64 ((seed2 : Nat) : Int)), (.slice (some ⟨g2, 0, none⟩) (n) (c2))])] w fun e w' => ∃ g c rest, e = .returned (.agg #[.int .u64 (seed : Int), .slice (some ⟨g, 0, none⟩) n c]) ∧ w.heap.size ≤ g ∧ Fr [] w w' ∧ RTab w' g c rest (t.sub u) := by
  have HN := Lib.hid hn
  have HS := Lib.hid hs
  have HUL := Lib.hid hn2
  have HT := Lib.hid ht
  have HU := Lib.hid hu
  have n4 : n ≤ 3072 := by rw [HN.out]; exact (isSz_bounds ht.size).2.1
  clear hn hs hn2 ht hu
  refine stEnter (args := [(.agg #[(.int .u64 ((seed : Nat) : Int)), (.slice (some ⟨g1, 0, none⟩) (n) (c1))]), (.agg #[(.int .u64 ((seed2 : Nat) : Int)), (.slice (some ⟨g2, 0, none⟩) (n) (c2))])]) [] Tryd.func37 rfl 67 rfl [(0, (.agg #[(.int .u64 ((seed : Nat) : Int)), (.slice (some ⟨g1, 0, none⟩) (n) (c1))])), (1, (.agg #[(.int .u64 ((seed2 : Nat) : Int)), (.slice (some ⟨g2, 0, none⟩) (n) (c2))]))] ⟨rfl, rfl, trivial⟩ [] (Mm.start w []) ?_
  refine stSeq ?_
  refine reg ?_
  refine li rfl ?_
  refine opBox [(.int .u64 ((seed : Nat) : Int)), (.slice (some ⟨g1, 0, none⟩) (n) (c1))] rfl rfl (by kernel_rfl) rfl rfl (fun b2 => ?_)
  refine li rfl ?_
  refine opBox [(.int .u64 ((seed2 : Nat) : Int)), (.slice (some ⟨g2, 0, none⟩) (n) (c2))] rfl rfl (by kernel_rfl) rfl rfl (fun b3 => ?_)
  refine li rfl ?_
  refine opAlloc [(.int .u64 0), (.slice none 0 0)] rfl rfl (by kernel_rfl) (by kernel_rfl) (fun b4 => ?_)
  refine liNil ?_
  refine qThen ?_
  refine stSeq ?_
  refine reg ?_
  refine li rfl (opVal (.pointer (some ⟨b2, 1, none⟩)) rfl (by kernel_rfl) (rClosed fun _ => by kernel_rfl) ?_)
  refine li rfl (opVal (.slice (some ⟨g1, 0, none⟩) (n) (c1)) rfl (by kernel_rfl) (rLoad 0 rfl rfl (by kernel_rfl) rfl rfl) ?_)
  refine li rfl (opVal (.int .i64 ((n : Nat) : Int)) rfl (by kernel_rfl) (rClosed fun _ => by kernel_rfl) ?_)
  refine li rfl (opVal (.pointer (some ⟨b2, 0, none⟩)) rfl (by kernel_rfl) (rClosed fun _ => by kernel_rfl) ?_)
  refine li rfl (opVal (.int .u64 ((seed : Nat) : Int)) rfl (by kernel_rfl) (rLoad 0 rfl rfl (by kernel_rfl) rfl rfl) ?_)
  refine li rfl ?_
  refine opCall 50 #[(.int .i64 ((n : Nat) : Int)), (.int .u64 ((seed : Nat) : Int))] rfl (by kernel_rfl) (fun _ => by kernel_rfl) (fun w hM => ?_)
  refine (refNew_any n seed w (by rw [HN.out]; exact HT.out.size) (by rw [HS.out]; exact HT.out.ok.seed)).mono ?_
  rintro e w' ⟨g, rfl, hg, hf, ht⟩
  have hM' := hM.push (c := cAt g 95 (tcells (subTo t u (List.replicate n BC.zero) 0) ++ [])) hf (by show At _ _ _ _; rw [subTo_zero]; exact ht.cells) (by simpa [cAt] using hg) (by simp [cAt])
  refine ⟨_, _, rfl, hM', ?_⟩
  clear hM hM' hf ht hg
  refine li rfl ?_
  refine opAlloc [(.int .u64 0), (.slice none 0 0)] rfl rfl (by kernel_rfl) (by kernel_rfl) (fun b5 => ?_)
  refine li rfl ?_
  refine opStoreN 4 [(.int .u64 ((seed : Nat) : Int)), (.slice (some ⟨g, 0, none⟩) (n) (n))] (vs := [(.int .u64 ((seed : Nat) : Int)), (.slice (some ⟨g, 0, none⟩) (n) (n))]) rfl rfl (by kernel_rfl) rfl rfl rfl (by kernel_rfl) rfl (by simp) (by simp [Value.oneCell']) rfl ?_
  refine liNil ?_
  refine qThen ?_
  refine stSeq ?_
  refine stSeq ?_
  refine reg ?_
  refine li rfl (opVal (.int .i64 0) rfl (by kernel_rfl) (rAssign rfl rfl) ?_)
  refine liNil ?_
  refine qThen ?_
  refine stBlock ?_
  refine stLoop (ι := Nat) (fun i => i ≤ n) (fun i => n - i) (fun i => [(2, (.pointer (some ⟨b2, 0, none⟩))), (3, (.pointer (some ⟨b3, 0, none⟩))), (4, (.pointer (some ⟨b4, 0, none⟩))), (5, (.pointer (some ⟨b5, 0, none⟩))), (6, (.int .i64 ((i : Nat) : Int)))]) (fun i => [cAt b2 53 [(.int .u64 ((seed : Nat) : Int)), (.slice (some ⟨g1, 0, none⟩) (n) (c1))], cAt b3 53 [(.int .u64 ((seed2 : Nat) : Int)), (.slice (some ⟨g2, 0, none⟩) (n) (c2))], cAt b4 53 [(.int .u64 0), (.slice none 0 0)], cAt g 95 (tcells (subTo t u (List.replicate n BC.zero) i) ++ []), cAt b5 53 [(.int .u64 ((seed : Nat) : Int)), (.slice (some ⟨g, 0, none⟩) (n) (n))]]) 0 (Nat.zero_le _) ⟨rfl, rfl, rfl, rfl, rfl, trivial⟩ (fun _ h => h) ?_
  intro i (hi : i ≤ n)
  show St _ _ _ [(2, (.pointer (some ⟨b2, 0, none⟩))), (3, (.pointer (some ⟨b3, 0, none⟩))), (4, (.pointer (some ⟨b4, 0, none⟩))), (5, (.pointer (some ⟨b5, 0, none⟩))), (6, (.int .i64 ((i : Nat) : Int)))] [cAt b2 53 [(.int .u64 ((seed : Nat) : Int)), (.slice (some ⟨g1, 0, none⟩) (n) (c1))], cAt b3 53 [(.int .u64 ((seed2 : Nat) : Int)), (.slice (some ⟨g2, 0, none⟩) (n) (c2))], cAt b4 53 [(.int .u64 0), (.slice none 0 0)], cAt g 95 (tcells (subTo t u (List.replicate n BC.zero) i) ++ []), cAt b5 53 [(.int .u64 ((seed : Nat) : Int)), (.slice (some ⟨g, 0, none⟩) (n) (n))]] _
  refine stSeq ?_
  refine stSeq ?_
  refine reg ?_
  refine li rfl (opVal (.int .i64 ((i : Nat) : Int)) rfl (by kernel_rfl) (rMove rfl rfl) ?_)
  refine li rfl (opVal (.pointer (some ⟨b2, 1, none⟩)) rfl (by kernel_rfl) (rClosed fun _ => by kernel_rfl) ?_)
  refine li rfl (opVal (.slice (some ⟨g1, 0, none⟩) (n) (c1)) rfl (by kernel_rfl) (rLoad 0 rfl rfl (by kernel_rfl) rfl rfl) ?_)
  refine li rfl (opVal (.int .i64 ((n : Nat) : Int)) rfl (by kernel_rfl) (rClosed fun _ => by kernel_rfl) ?_)
  refine li rfl (opVal (.bool (decide (((i : Nat) : Int) < ((n : Nat) : Int)))) rfl (by kernel_rfl) (rClosed fun _ => by kernel_rfl) ?_)
  refine liNil ?_
  refine qThen ?_
  refine stCond rfl (fun hc21 => ?_) (fun hc21 => ?_)
  · have hd21 := of_decide_eq_true hc21
    have hlt : i < n := by omega
    obtain ⟨cc, hc⟩ : ∃ cc, t.cells[i]? = some cc := ⟨_, List.getElem?_eq_getElem (by rw [← HN.out]; exact hlt)⟩
    obtain ⟨dd, hd⟩ : ∃ dd, u.cells[i]? = some dd := ⟨_, List.getElem?_eq_getElem (by rw [HUL.out]; exact hlt)⟩
    have hcok := HT.out.ok.cells cc (List.mem_of_getElem? hc)
    have hdok := HU.out.ok.cells dd (List.mem_of_getElem? hd)
    have hclen := BC.cells_len hcok
    have hdlen := BC.cells_len hdok
    obtain ⟨cl, HCL⟩ : ∃ cl, Hid (cl = subTo t u (List.replicate n BC.zero) i) := ⟨_, rfl⟩
    have hzl : (List.replicate n BC.zero).length = t.cells.length := by rw [List.length_replicate, HN.out]
    have hcll : cl.length = n := by rw [HCL.out, subTo_len (by rw [HUL.out, HN.out]) hzl i (by rw [← HN.out]; omega), HN.out]
    have hok : Ok34 cl := by rw [HCL.out]; exact subTo_ok HT.out.ok HU.out.ok (fun c hc => by rw [List.eq_of_mem_replicate hc]; exact BC.Ok.zero) i
    obtain ⟨c0, hc0⟩ : ∃ c0, cl[i]? = some c0 := ⟨_, List.getElem?_eq_getElem (by omega)⟩
    have HSU : Hid (subTo t u (List.replicate n BC.zero) (i + 1) = cl.set i (cc.sub dd)) := by show _ = _; rw [HCL.out, subTo_succ (by rw [HUL.out, HN.out]) hzl (by rw [← HN.out]; exact hlt) (sub_get hc hd)]
    obtain ⟨kx, HKX⟩ : ∃ kx, Hid (kx = xorB cc.keys dd.keys) := ⟨_, rfl⟩
    have hkx : kx.length = (List.replicate 32 (0 : UInt8)).length := by rw [HKX.out]; simp [xorB, hcok.keys, hdok.keys]
    rw [← HCL.out]
    refine stSkip ?_
    refine qThen ?_
    refine stSeq ?_
    refine stBlock ?_
    refine stCut (ι := Nat × Nat) (fun _ => True) (fun (b7, b8) => [(2, (.pointer (some ⟨b2, 0, none⟩))), (3, (.pointer (some ⟨b3, 0, none⟩))), (4, (.pointer (some ⟨b4, 0, none⟩))), (5, (.pointer (some ⟨b5, 0, none⟩))), (6, (.int .i64 ((i : Nat) : Int))), (17, (.int .i64 ((i : Nat) : Int))), (18, (.pointer (some ⟨b2, 1, none⟩))), (19, (.slice (some ⟨g1, 0, none⟩) (n) (c1))), (20, (.int .i64 ((n : Nat) : Int))), (21, (.bool (decide (((i : Nat) : Int) < ((n : Nat) : Int))))), (24, (.pointer (some ⟨b2, 1, none⟩))), (25, (.slice (some ⟨g1, 0, none⟩) (n) (c1))), (26, (.int .i64 ((i : Nat) : Int))), (27, (.pointer (some ⟨g1, 0 + i * 34, none⟩))), (28, (.agg (cc.cells).toArray)), (29, (.pointer (some ⟨b3, 1, none⟩))), (30, (.slice (some ⟨g2, 0, none⟩) (n) (c2))), (31, (.int .i64 ((i : Nat) : Int))), (32, (.pointer (some ⟨g2, 0 + i * 34, none⟩))), (33, (.agg (dd.cells).toArray)), (7, (.pointer (some ⟨b7, 0, none⟩))), (8, (.pointer (some ⟨b8, 0, none⟩)))]) (fun (b7, b8) => [cAt b2 53 [(.int .u64 ((seed : Nat) : Int)), (.slice (some ⟨g1, 0, none⟩) (n) (c1))], cAt b3 53 [(.int .u64 ((seed2 : Nat) : Int)), (.slice (some ⟨g2, 0, none⟩) (n) (c2))], cAt b4 53 [(.int .u64 0), (.slice none 0 0)], cAt g 95 (tcells cl ++ []), cAt b5 53 [(.int .u64 ((seed : Nat) : Int)), (.slice (some ⟨g, 0, none⟩) (n) (n))], cAt b7 95 (cc.cells), cAt b8 95 (dd.cells)]) ?_ ?_
    · refine anyBegin [cAt b2 53 [(.int .u64 ((seed : Nat) : Int)), (.slice (some ⟨g1, 0, none⟩) (n) (c1))], cAt b3 53 [(.int .u64 ((seed2 : Nat) : Int)), (.slice (some ⟨g2, 0, none⟩) (n) (c2))], cAt b4 53 [(.int .u64 0), (.slice none 0 0)], cAt g 95 (tcells cl ++ []), cAt b5 53 [(.int .u64 ((seed : Nat) : Int)), (.slice (some ⟨g, 0, none⟩) (n) (n))]] 14 (by kernel_rfl) (fun _ h => h) ?_
      refine anyVal (i := 0) (.pointer (some ⟨b2, 1, none⟩)) rfl rfl rfl (by kernel_rfl) (by kernel_rfl) (fun _ _ _ h => h) (rClosed fun _ => by kernel_rfl) ?_
      refine anyVal (i := 1) (.slice (some ⟨g1, 0, none⟩) (n) (c1)) rfl rfl rfl (by kernel_rfl) (by kernel_rfl) (fun _ _ _ h => h) (rLoad 0 rfl rfl (by kernel_rfl) rfl rfl) ?_
      refine anyVal (i := 2) (.int .i64 ((i : Nat) : Int)) rfl rfl rfl (by kernel_rfl) (by kernel_rfl) (fun _ _ _ h => h) (rMove rfl rfl) ?_
      refine anyVal (i := 3) (.pointer (some ⟨g1, 0 + i * 34, none⟩)) rfl rfl rfl (by kernel_rfl) (by kernel_rfl) (fun _ _ _ h => h) (rIndexAddr (e := 95) (sz := 34) rfl (by kernel_rfl) (by kernel_rfl) rfl rfl (by omega)) ?_
      refine anyVal (i := 4) (.agg (cc.cells).toArray) rfl rfl rfl (by kernel_rfl) (by kernel_rfl) (fun _ _ _ h => h) (rLoadA cc.cells rfl rfl (by kernel_rfl) (by rw [hclen]; kernel_rfl) (fun w hM j v hj => by rw [Nat.zero_add]; exact hM.old (refCell HT.out hc j v hj) (by simp))) ?_
      refine anyVal (i := 5) (.pointer (some ⟨b3, 1, none⟩)) rfl rfl rfl (by kernel_rfl) (by kernel_rfl) (fun _ _ _ h => h) (rClosed fun _ => by kernel_rfl) ?_
      refine anyVal (i := 6) (.slice (some ⟨g2, 0, none⟩) (n) (c2)) rfl rfl rfl (by kernel_rfl) (by kernel_rfl) (fun _ _ _ h => h) (rLoad 1 rfl rfl (by kernel_rfl) rfl rfl) ?_
      refine anyVal (i := 7) (.int .i64 ((i : Nat) : Int)) rfl rfl rfl (by kernel_rfl) (by kernel_rfl) (fun _ _ _ h => h) (rMove rfl rfl) ?_
      refine anyVal (i := 8) (.pointer (some ⟨g2, 0 + i * 34, none⟩)) rfl rfl rfl (by kernel_rfl) (by kernel_rfl) (fun _ _ _ h => h) (rIndexAddr (e := 95) (sz := 34) rfl (by kernel_rfl) (by kernel_rfl) rfl rfl (by omega)) ?_
      refine anyVal (i := 9) (.agg (dd.cells).toArray) rfl rfl rfl (by kernel_rfl) (by kernel_rfl) (fun _ _ _ h => h) (rLoadA dd.cells rfl rfl (by kernel_rfl) (by rw [hdlen]; kernel_rfl) (fun w hM j v hj => by rw [Nat.zero_add]; exact hM.old (refCell HU.out hd j v hj) (by simp))) ?_
      refine anyTwo (i := 10) (j := 11) (by kernel_rfl) rfl rfl rfl rfl ?_ ?_
      · refine opAlloc [(.int .i64 0), (.int .u8 0), (.int .u8 0), (.int .u8 0), (.int .u8 0), (.int .u8 0), (.int .u8 0), (.int .u8 0), (.int .u8 0), (.int .u8 0), (.int .u8 0), (.int .u8 0), (.int .u8 0), (.int .u8 0), (.int .u8 0), (.int .u8 0), (.int .u8 0), (.int .u8 0), (.int .u8 0), (.int .u8 0), (.int .u8 0), (.int .u8 0), (.int .u8 0), (.int .u8 0), (.int .u8 0), (.int .u8 0), (.int .u8 0), (.int .u8 0), (.int .u8 0), (.int .u8 0), (.int .u8 0), (.int .u8 0), (.int .u8 0), (.int .u64 0)] rfl rfl (by kernel_rfl) (by kernel_rfl) (fun b7 => ?_)
        refine anyNext [cAt b2 53 [(.int .u64 ((seed : Nat) : Int)), (.slice (some ⟨g1, 0, none⟩) (n) (c1))], cAt b3 53 [(.int .u64 ((seed2 : Nat) : Int)), (.slice (some ⟨g2, 0, none⟩) (n) (c2))], cAt b4 53 [(.int .u64 0), (.slice none 0 0)], cAt g 95 (tcells cl ++ []), cAt b5 53 [(.int .u64 ((seed : Nat) : Int)), (.slice (some ⟨g, 0, none⟩) (n) (n))]] (fun _ h => h) (fun _ h => h.sub (.cons_cons _ (.cons_cons _ (.cons_cons _ (.cons_cons _ (.cons_cons _ (.cons _ .slnil))))))) ?_
        refine anyOne (i := 11) (by kernel_rfl) rfl rfl ?_
        refine opAlloc [(.int .i64 0), (.int .u8 0), (.int .u8 0), (.int .u8 0), (.int .u8 0), (.int .u8 0), (.int .u8 0), (.int .u8 0), (.int .u8 0), (.int .u8 0), (.int .u8 0), (.int .u8 0), (.int .u8 0), (.int .u8 0), (.int .u8 0), (.int .u8 0), (.int .u8 0), (.int .u8 0), (.int .u8 0), (.int .u8 0), (.int .u8 0), (.int .u8 0), (.int .u8 0), (.int .u8 0), (.int .u8 0), (.int .u8 0), (.int .u8 0), (.int .u8 0), (.int .u8 0), (.int .u8 0), (.int .u8 0), (.int .u8 0), (.int .u8 0), (.int .u64 0)] rfl rfl (by kernel_rfl) (by kernel_rfl) (fun b8 => ?_)
        refine anyNext [cAt b2 53 [(.int .u64 ((seed : Nat) : Int)), (.slice (some ⟨g1, 0, none⟩) (n) (c1))], cAt b3 53 [(.int .u64 ((seed2 : Nat) : Int)), (.slice (some ⟨g2, 0, none⟩) (n) (c2))], cAt b4 53 [(.int .u64 0), (.slice none 0 0)], cAt g 95 (tcells cl ++ []), cAt b5 53 [(.int .u64 ((seed : Nat) : Int)), (.slice (some ⟨g, 0, none⟩) (n) (n))]] (fun _ h => h) (fun _ h => h.sub (.cons_cons _ (.cons_cons _ (.cons_cons _ (.cons_cons _ (.cons_cons _ (.cons _ (.cons _ .slnil)))))))) ?_
        refine anyOne (i := 12) (by kernel_rfl) rfl rfl ?_
        refine opStoreN 5 cc.cells (vs := cc.cells) rfl rfl (by kernel_rfl) rfl rfl rfl (by rw [hclen]; kernel_rfl) rfl (by rw [hclen]; decide) (BC.cells_one _) (store_all (by rw [hclen]; rfl)) ?_
        refine anyNext [cAt b2 53 [(.int .u64 ((seed : Nat) : Int)), (.slice (some ⟨g1, 0, none⟩) (n) (c1))], cAt b3 53 [(.int .u64 ((seed2 : Nat) : Int)), (.slice (some ⟨g2, 0, none⟩) (n) (c2))], cAt b4 53 [(.int .u64 0), (.slice none 0 0)], cAt g 95 (tcells cl ++ []), cAt b5 53 [(.int .u64 ((seed : Nat) : Int)), (.slice (some ⟨g, 0, none⟩) (n) (n))], cAt b7 95 (cc.cells)] (fun _ h => h.sub (.cons_cons _ (.cons_cons _ (.cons_cons _ (.cons_cons _ (.cons_cons _ (.cons _ .slnil))))))) (fun _ h => h.sub (.cons_cons _ (.cons_cons _ (.cons_cons _ (.cons_cons _ (.cons_cons _ (.cons_cons _ (.cons _ .slnil)))))))) ?_
        refine anyOne (i := 13) (by kernel_rfl) rfl rfl ?_
        refine opStoreN 6 dd.cells (vs := dd.cells) rfl rfl (by kernel_rfl) rfl rfl rfl (by rw [hdlen]; kernel_rfl) rfl (by rw [hdlen]; decide) (BC.cells_one _) (store_all (by rw [hdlen]; rfl)) ?_
        refine anyNext [cAt b2 53 [(.int .u64 ((seed : Nat) : Int)), (.slice (some ⟨g1, 0, none⟩) (n) (c1))], cAt b3 53 [(.int .u64 ((seed2 : Nat) : Int)), (.slice (some ⟨g2, 0, none⟩) (n) (c2))], cAt b4 53 [(.int .u64 0), (.slice none 0 0)], cAt g 95 (tcells cl ++ []), cAt b5 53 [(.int .u64 ((seed : Nat) : Int)), (.slice (some ⟨g, 0, none⟩) (n) (n))], cAt b7 95 (cc.cells), cAt b8 95 (dd.cells)] (fun _ h => h.sub (.cons_cons _ (.cons_cons _ (.cons_cons _ (.cons_cons _ (.cons_cons _ (.cons_cons _ (.cons _ .slnil)))))))) (fun _ h => h) ?_
        refine anyDone (by kernel_rfl) ?_
        refine qThen ?_
        exact stMeet (b7, b8) trivial ⟨rfl, rfl, rfl, rfl, rfl, rfl, rfl, rfl, rfl, rfl, rfl, rfl, rfl, rfl, rfl, rfl, rfl, rfl, rfl, rfl, rfl, rfl, trivial⟩ (fun _ h => h)
      · refine opAlloc [(.int .i64 0), (.int .u8 0), (.int .u8 0), (.int .u8 0), (.int .u8 0), (.int .u8 0), (.int .u8 0), (.int .u8 0), (.int .u8 0), (.int .u8 0), (.int .u8 0), (.int .u8 0), (.int .u8 0), (.int .u8 0), (.int .u8 0), (.int .u8 0), (.int .u8 0), (.int .u8 0), (.int .u8 0), (.int .u8 0), (.int .u8 0), (.int .u8 0), (.int .u8 0), (.int .u8 0), (.int .u8 0), (.int .u8 0), (.int .u8 0), (.int .u8 0), (.int .u8 0), (.int .u8 0), (.int .u8 0), (.int .u8 0), (.int .u8 0), (.int .u64 0)] rfl rfl (by kernel_rfl) (by kernel_rfl) (fun b8 => ?_)
        refine anyNext [cAt b2 53 [(.int .u64 ((seed : Nat) : Int)), (.slice (some ⟨g1, 0, none⟩) (n) (c1))], cAt b3 53 [(.int .u64 ((seed2 : Nat) : Int)), (.slice (some ⟨g2, 0, none⟩) (n) (c2))], cAt b4 53 [(.int .u64 0), (.slice none 0 0)], cAt g 95 (tcells cl ++ []), cAt b5 53 [(.int .u64 ((seed : Nat) : Int)), (.slice (some ⟨g, 0, none⟩) (n) (n))]] (fun _ h => h) (fun _ h => h.sub (.cons_cons _ (.cons_cons _ (.cons_cons _ (.cons_cons _ (.cons_cons _ (.cons _ .slnil))))))) ?_
        refine anyOne (i := 10) (by kernel_rfl) rfl rfl ?_
        refine opAlloc [(.int .i64 0), (.int .u8 0), (.int .u8 0), (.int .u8 0), (.int .u8 0), (.int .u8 0), (.int .u8 0), (.int .u8 0), (.int .u8 0), (.int .u8 0), (.int .u8 0), (.int .u8 0), (.int .u8 0), (.int .u8 0), (.int .u8 0), (.int .u8 0), (.int .u8 0), (.int .u8 0), (.int .u8 0), (.int .u8 0), (.int .u8 0), (.int .u8 0), (.int .u8 0), (.int .u8 0), (.int .u8 0), (.int .u8 0), (.int .u8 0), (.int .u8 0), (.int .u8 0), (.int .u8 0), (.int .u8 0), (.int .u8 0), (.int .u8 0), (.int .u64 0)] rfl rfl (by kernel_rfl) (by kernel_rfl) (fun b7 => ?_)
        refine anyNext [cAt b2 53 [(.int .u64 ((seed : Nat) : Int)), (.slice (some ⟨g1, 0, none⟩) (n) (c1))], cAt b3 53 [(.int .u64 ((seed2 : Nat) : Int)), (.slice (some ⟨g2, 0, none⟩) (n) (c2))], cAt b4 53 [(.int .u64 0), (.slice none 0 0)], cAt g 95 (tcells cl ++ []), cAt b5 53 [(.int .u64 ((seed : Nat) : Int)), (.slice (some ⟨g, 0, none⟩) (n) (n))]] (fun _ h => h) (fun _ h => h.sub (.cons_cons _ (.cons_cons _ (.cons_cons _ (.cons_cons _ (.cons_cons _ (.cons _ (.cons _ .slnil)))))))) ?_
        refine anyOne (i := 12) (by kernel_rfl) rfl rfl ?_
        refine opStoreN 6 cc.cells (vs := cc.cells) rfl rfl (by kernel_rfl) rfl rfl rfl (by rw [hclen]; kernel_rfl) rfl (by rw [hclen]; decide) (BC.cells_one _) (store_all (by rw [hclen]; rfl)) ?_
        refine anyNext [cAt b2 53 [(.int .u64 ((seed : Nat) : Int)), (.slice (some ⟨g1, 0, none⟩) (n) (c1))], cAt b3 53 [(.int .u64 ((seed2 : Nat) : Int)), (.slice (some ⟨g2, 0, none⟩) (n) (c2))], cAt b4 53 [(.int .u64 0), (.slice none 0 0)], cAt g 95 (tcells cl ++ []), cAt b5 53 [(.int .u64 ((seed : Nat) : Int)), (.slice (some ⟨g, 0, none⟩) (n) (n))], cAt b7 95 (cc.cells)] (fun _ h => h.sub (.cons_cons _ (.cons_cons _ (.cons_cons _ (.cons_cons _ (.cons_cons _ (.cons _ .slnil))))))) (fun _ h => h.sub (.cons_cons _ (.cons_cons _ (.cons_cons _ (.cons_cons _ (.cons_cons _ (.cons _ (.cons_cons _ .slnil)))))))) ?_
        refine anyOne (i := 13) (by kernel_rfl) rfl rfl ?_
        refine opStoreN 5 dd.cells (vs := dd.cells) rfl rfl (by kernel_rfl) rfl rfl rfl (by rw [hdlen]; kernel_rfl) rfl (by rw [hdlen]; decide) (BC.cells_one _) (store_all (by rw [hdlen]; rfl)) ?_
        refine anyNext [cAt b2 53 [(.int .u64 ((seed : Nat) : Int)), (.slice (some ⟨g1, 0, none⟩) (n) (c1))], cAt b3 53 [(.int .u64 ((seed2 : Nat) : Int)), (.slice (some ⟨g2, 0, none⟩) (n) (c2))], cAt b4 53 [(.int .u64 0), (.slice none 0 0)], cAt g 95 (tcells cl ++ []), cAt b5 53 [(.int .u64 ((seed : Nat) : Int)), (.slice (some ⟨g, 0, none⟩) (n) (n))], cAt b8 95 (dd.cells), cAt b7 95 (cc.cells)] (fun _ h => h.sub (.cons_cons _ (.cons_cons _ (.cons_cons _ (.cons_cons _ (.cons_cons _ (.cons _ (.cons_cons _ .slnil)))))))) (fun _ h => h) ?_
        refine anyDone (by kernel_rfl) ?_
        refine qThen ?_
        exact stMeet (b7, b8) trivial ⟨rfl, rfl, rfl, rfl, rfl, rfl, rfl, rfl, rfl, rfl, rfl, rfl, rfl, rfl, rfl, rfl, rfl, rfl, rfl, rfl, rfl, rfl, trivial⟩ (fun _ h => h.perm (.cons _ (.cons _ (.cons _ (.cons _ (.cons _ (.swap _ _ _)))))))
    · rintro ⟨b7, b8⟩ -
      show St _ _ _ [(2, (.pointer (some ⟨b2, 0, none⟩))), (3, (.pointer (some ⟨b3, 0, none⟩))), (4, (.pointer (some ⟨b4, 0, none⟩))), (5, (.pointer (some ⟨b5, 0, none⟩))), (6, (.int .i64 ((i : Nat) : Int))), (17, (.int .i64 ((i : Nat) : Int))), (18, (.pointer (some ⟨b2, 1, none⟩))), (19, (.slice (some ⟨g1, 0, none⟩) (n) (c1))), (20, (.int .i64 ((n : Nat) : Int))), (21, (.bool (decide (((i : Nat) : Int) < ((n : Nat) : Int))))), (24, (.pointer (some ⟨b2, 1, none⟩))), (25, (.slice (some ⟨g1, 0, none⟩) (n) (c1))), (26, (.int .i64 ((i : Nat) : Int))), (27, (.pointer (some ⟨g1, 0 + i * 34, none⟩))), (28, (.agg (cc.cells).toArray)), (29, (.pointer (some ⟨b3, 1, none⟩))), (30, (.slice (some ⟨g2, 0, none⟩) (n) (c2))), (31, (.int .i64 ((i : Nat) : Int))), (32, (.pointer (some ⟨g2, 0 + i * 34, none⟩))), (33, (.agg (dd.cells).toArray)), (7, (.pointer (some ⟨b7, 0, none⟩))), (8, (.pointer (some ⟨b8, 0, none⟩)))] [cAt b2 53 [(.int .u64 ((seed : Nat) : Int)), (.slice (some ⟨g1, 0, none⟩) (n) (c1))], cAt b3 53 [(.int .u64 ((seed2 : Nat) : Int)), (.slice (some ⟨g2, 0, none⟩) (n) (c2))], cAt b4 53 [(.int .u64 0), (.slice none 0 0)], cAt g 95 (tcells cl ++ []), cAt b5 53 [(.int .u64 ((seed : Nat) : Int)), (.slice (some ⟨g, 0, none⟩) (n) (n))], cAt b7 95 (cc.cells), cAt b8 95 (dd.cells)] _
      refine stSeq ?_
      have hk0 : ((⟨IntKind.i64.wrap (cc.count + -dd.count), keysTo kx (List.replicate 32 0) 0, cc.checks ^^^ dd.checks⟩ : BC).cells).length = 34 := rfl
      refine reg ?_
      refine li rfl (opVal (.pointer (some ⟨b7, 0, none⟩)) rfl (by kernel_rfl) (rClosed fun _ => by kernel_rfl) ?_)
      refine li rfl (opVal (.int .i64 cc.count) rfl (by kernel_rfl) (rLoad 5 rfl rfl (by kernel_rfl) rfl (cells_get0 cc)) ?_)
      refine li rfl (opVal (.pointer (some ⟨b8, 0, none⟩)) rfl (by kernel_rfl) (rClosed fun _ => by kernel_rfl) ?_)
      refine li rfl (opVal (.int .i64 dd.count) rfl (by kernel_rfl) (rLoad 6 rfl rfl (by kernel_rfl) rfl (cells_get0 dd)) ?_)
      refine li rfl (opVal (.int .i64 (IntKind.i64.wrap (cc.count + -dd.count))) rfl (by kernel_rfl) (rConv (v := .int .i64 (IntKind.i64.wrap (cc.count - dd.count))) (rClosed fun _ => by kernel_rfl) (by rw [Int.sub_eq_add_neg])) ?_)
      refine li rfl (opVal (.pointer (some ⟨b7, 33, none⟩)) rfl (by kernel_rfl) (rClosed fun _ => by kernel_rfl) ?_)
      refine li rfl (opVal (.int .u64 ((cc.checks : Nat) : Int)) rfl (by kernel_rfl) (rLoad 5 rfl rfl (by kernel_rfl) rfl (cells_get33 hcok.keys)) ?_)
      refine li rfl (opVal (.pointer (some ⟨b8, 33, none⟩)) rfl (by kernel_rfl) (rClosed fun _ => by kernel_rfl) ?_)
      refine li rfl (opVal (.int .u64 ((dd.checks : Nat) : Int)) rfl (by kernel_rfl) (rLoad 6 rfl rfl (by kernel_rfl) rfl (cells_get33 hdok.keys)) ?_)
      refine li rfl (opVal (.int .u64 ((cc.checks ^^^ dd.checks : Nat) : Int)) rfl (by kernel_rfl) (rBits .xor (by simp) _ rfl rfl rfl (u64_xor_nat _ _ hcok.checks hdok.checks)) ?_)
      refine li rfl (opVal (.agg ((⟨IntKind.i64.wrap (cc.count + -dd.count), keysTo kx (List.replicate 32 0) 0, cc.checks ^^^ dd.checks⟩ : BC).cells).toArray) rfl (by kernel_rfl) (rClosed fun _ => by kernel_rfl) ?_)
      refine li rfl ?_
      refine opAlloc [(.int .i64 0), (.int .u8 0), (.int .u8 0), (.int .u8 0), (.int .u8 0), (.int .u8 0), (.int .u8 0), (.int .u8 0), (.int .u8 0), (.int .u8 0), (.int .u8 0), (.int .u8 0), (.int .u8 0), (.int .u8 0), (.int .u8 0), (.int .u8 0), (.int .u8 0), (.int .u8 0), (.int .u8 0), (.int .u8 0), (.int .u8 0), (.int .u8 0), (.int .u8 0), (.int .u8 0), (.int .u8 0), (.int .u8 0), (.int .u8 0), (.int .u8 0), (.int .u8 0), (.int .u8 0), (.int .u8 0), (.int .u8 0), (.int .u8 0), (.int .u64 0)] rfl rfl (by kernel_rfl) (by kernel_rfl) (fun b9 => ?_)
      refine li rfl ?_
      refine opStoreN 7 (⟨IntKind.i64.wrap (cc.count + -dd.count), keysTo kx (List.replicate 32 0) 0, cc.checks ^^^ dd.checks⟩ : BC).cells (vs := (⟨IntKind.i64.wrap (cc.count + -dd.count), keysTo kx (List.replicate 32 0) 0, cc.checks ^^^ dd.checks⟩ : BC).cells) rfl rfl (by kernel_rfl) rfl rfl rfl (by rw [hk0]; kernel_rfl) rfl (by rw [hk0]; decide) (BC.cells_one _) (store_all (by rw [hk0]; rfl)) ?_
      refine liNil ?_
      refine qThen ?_
      refine stSeq ?_
      refine stSeq ?_
      refine reg ?_
      refine li rfl (opVal (.int .i64 0) rfl (by kernel_rfl) (rAssign rfl rfl) ?_)
      refine liNil ?_
      refine qThen ?_
      refine stBlock ?_
      refine stLoop (ι := Nat) (fun j => j ≤ 32) (fun j => 32 - j) (fun j => [(2, (.pointer (some ⟨b2, 0, none⟩))), (3, (.pointer (some ⟨b3, 0, none⟩))), (4, (.pointer (some ⟨b4, 0, none⟩))), (5, (.pointer (some ⟨b5, 0, none⟩))), (6, (.int .i64 ((i : Nat) : Int))), (7, (.pointer (some ⟨b7, 0, none⟩))), (8, (.pointer (some ⟨b8, 0, none⟩))), (9, (.pointer (some ⟨b9, 0, none⟩))), (10, (.int .i64 ((j : Nat) : Int)))]) (fun j => [cAt b2 53 [(.int .u64 ((seed : Nat) : Int)), (.slice (some ⟨g1, 0, none⟩) (n) (c1))], cAt b3 53 [(.int .u64 ((seed2 : Nat) : Int)), (.slice (some ⟨g2, 0, none⟩) (n) (c2))], cAt b4 53 [(.int .u64 0), (.slice none 0 0)], cAt g 95 (tcells cl ++ []), cAt b5 53 [(.int .u64 ((seed : Nat) : Int)), (.slice (some ⟨g, 0, none⟩) (n) (n))], cAt b7 95 (cc.cells), cAt b8 95 (dd.cells), cAt b9 95 ((⟨IntKind.i64.wrap (cc.count + -dd.count), keysTo kx (List.replicate 32 0) j, cc.checks ^^^ dd.checks⟩ : BC).cells)]) 0 (Nat.zero_le _) ⟨rfl, rfl, rfl, rfl, rfl, rfl, rfl, rfl, rfl, trivial⟩ (fun _ h => h) ?_
      intro j (hj : j ≤ 32)
      show St _ _ _ [(2, (.pointer (some ⟨b2, 0, none⟩))), (3, (.pointer (some ⟨b3, 0, none⟩))), (4, (.pointer (some ⟨b4, 0, none⟩))), (5, (.pointer (some ⟨b5, 0, none⟩))), (6, (.int .i64 ((i : Nat) : Int))), (7, (.pointer (some ⟨b7, 0, none⟩))), (8, (.pointer (some ⟨b8, 0, none⟩))), (9, (.pointer (some ⟨b9, 0, none⟩))), (10, (.int .i64 ((j : Nat) : Int)))] [cAt b2 53 [(.int .u64 ((seed : Nat) : Int)), (.slice (some ⟨g1, 0, none⟩) (n) (c1))], cAt b3 53 [(.int .u64 ((seed2 : Nat) : Int)), (.slice (some ⟨g2, 0, none⟩) (n) (c2))], cAt b4 53 [(.int .u64 0), (.slice none 0 0)], cAt g 95 (tcells cl ++ []), cAt b5 53 [(.int .u64 ((seed : Nat) : Int)), (.slice (some ⟨g, 0, none⟩) (n) (n))], cAt b7 95 (cc.cells), cAt b8 95 (dd.cells), cAt b9 95 ((⟨IntKind.i64.wrap (cc.count + -dd.count), keysTo kx (List.replicate 32 0) j, cc.checks ^^^ dd.checks⟩ : BC).cells)] _
      refine stSeq ?_
      refine stSeq ?_
      refine reg ?_
      refine li rfl (opVal (.int .i64 ((j : Nat) : Int)) rfl (by kernel_rfl) (rMove rfl rfl) ?_)
      refine li rfl (opVal (.bool (decide (((j : Nat) : Int) < 32))) rfl (by kernel_rfl) (rClosed fun _ => by kernel_rfl) ?_)
      refine liNil ?_
      refine qThen ?_
      refine stCond rfl (fun hc46 => ?_) (fun hc46 => ?_)
      · have hd46 := of_decide_eq_true hc46
        have hj2 : j < 32 := by omega
        obtain ⟨x, hx⟩ : ∃ x, cc.keys[j]? = some x := ⟨_, List.getElem?_eq_getElem (by rw [hcok.keys]; exact hj2)⟩
        obtain ⟨y, hy⟩ : ∃ y, dd.keys[j]? = some y := ⟨_, List.getElem?_eq_getElem (by rw [hdok.keys]; exact hj2)⟩
        have hkj : kx[j]? = some (x ^^^ y) := by rw [HKX.out]; exact xorB_get _ _ j x y hx hy
        have hktl : (keysTo kx (List.replicate 32 0) j).length = 32 := by rw [keysTo_len hkx]; rfl
        have hckl : ((⟨IntKind.i64.wrap (cc.count + -dd.count), keysTo kx (List.replicate 32 0) j, cc.checks ^^^ dd.checks⟩ : BC).cells).length = 34 := by simp only [BC.cells, List.length_cons, List.length_append, B8_length, hktl, List.length_nil]
        refine stSkip ?_
        refine qThen ?_
        refine stSeq ?_
        refine stBlock ?_
        refine anyBegin [cAt b2 53 [(.int .u64 ((seed : Nat) : Int)), (.slice (some ⟨g1, 0, none⟩) (n) (c1))], cAt b3 53 [(.int .u64 ((seed2 : Nat) : Int)), (.slice (some ⟨g2, 0, none⟩) (n) (c2))], cAt b4 53 [(.int .u64 0), (.slice none 0 0)], cAt g 95 (tcells cl ++ []), cAt b5 53 [(.int .u64 ((seed : Nat) : Int)), (.slice (some ⟨g, 0, none⟩) (n) (n))], cAt b7 95 (cc.cells), cAt b8 95 (dd.cells), cAt b9 95 ((⟨IntKind.i64.wrap (cc.count + -dd.count), keysTo kx (List.replicate 32 0) j, cc.checks ^^^ dd.checks⟩ : BC).cells)] 12 (by kernel_rfl) (fun _ h => h) ?_
        refine anyVal (i := 0) (.int .i64 ((j : Nat) : Int)) rfl rfl rfl (by kernel_rfl) (by kernel_rfl) (fun _ _ _ h => h) (rMove rfl rfl) ?_
        refine anyVal (i := 1) (.int .i64 ((j : Nat) : Int)) rfl rfl rfl (by kernel_rfl) (by kernel_rfl) (fun _ _ _ h => h) (rMove rfl rfl) ?_
        refine anyVal (i := 2) (.pointer (some ⟨b7, 1, none⟩)) rfl rfl rfl (by kernel_rfl) (by kernel_rfl) (fun _ _ _ h => h) (rClosed fun _ => by kernel_rfl) ?_
        refine anyVal (i := 3) (.pointer (some ⟨b7, 1 + j, none⟩)) rfl rfl rfl (by kernel_rfl) (by kernel_rfl) (fun _ _ _ h => h) (rIndexArr1 (e := 5) (m := 32) rfl (by kernel_rfl) (by kernel_rfl) rfl rfl (by omega)) ?_
        refine anyVal (i := 4) (.int .u8 ((x.toNat : Nat) : Int)) rfl rfl rfl (by kernel_rfl) (by kernel_rfl) (fun _ _ _ h => h) (rLoad 5 rfl rfl (by kernel_rfl) rfl (cells_getK j x hx)) ?_
        refine anyVal (i := 5) (.int .i64 ((j : Nat) : Int)) rfl rfl rfl (by kernel_rfl) (by kernel_rfl) (fun _ _ _ h => h) (rMove rfl rfl) ?_
        refine anyVal (i := 6) (.pointer (some ⟨b8, 1, none⟩)) rfl rfl rfl (by kernel_rfl) (by kernel_rfl) (fun _ _ _ h => h) (rClosed fun _ => by kernel_rfl) ?_
        refine anyVal (i := 7) (.pointer (some ⟨b8, 1 + j, none⟩)) rfl rfl rfl (by kernel_rfl) (by kernel_rfl) (fun _ _ _ h => h) (rIndexArr1 (e := 5) (m := 32) rfl (by kernel_rfl) (by kernel_rfl) rfl rfl (by omega)) ?_
        refine anyVal (i := 8) (.int .u8 ((y.toNat : Nat) : Int)) rfl rfl rfl (by kernel_rfl) (by kernel_rfl) (fun _ _ _ h => h) (rLoad 6 rfl rfl (by kernel_rfl) rfl (cells_getK j y hy)) ?_
        refine anyVal (i := 9) (.int .u8 (((x ^^^ y).toNat : Nat) : Int)) rfl rfl rfl (by kernel_rfl) (by kernel_rfl) (fun _ _ _ h => h) (rBits .xor (by simp) _ rfl rfl rfl (u8_xor_u x y)) ?_
        refine anyVal (i := 10) (.pointer (some ⟨b9, 1, none⟩)) rfl rfl rfl (by kernel_rfl) (by kernel_rfl) (fun _ _ _ h => h) (rClosed fun _ => by kernel_rfl) ?_
        refine anyVal (i := 11) (.pointer (some ⟨b9, 1 + j, none⟩)) rfl rfl rfl (by kernel_rfl) (by kernel_rfl) (fun _ _ _ h => h) (rIndexArr1 (e := 5) (m := 32) rfl (by kernel_rfl) (by kernel_rfl) rfl rfl (by omega)) ?_
        refine anyOne (i := 12) (by kernel_rfl) rfl rfl ?_
        refine opStore1 7 rfl rfl (by kernel_rfl) rfl rfl rfl (by kernel_rfl) rfl (by rw [hckl]; omega) ?_
        refine anyLast (by kernel_rfl) rfl ?_
        refine qBlock ?_
        refine qThen ?_
        refine St.mem (cs' := [cAt b2 53 [(.int .u64 ((seed : Nat) : Int)), (.slice (some ⟨g1, 0, none⟩) (n) (c1))], cAt b3 53 [(.int .u64 ((seed2 : Nat) : Int)), (.slice (some ⟨g2, 0, none⟩) (n) (c2))], cAt b4 53 [(.int .u64 0), (.slice none 0 0)], cAt g 95 (tcells cl ++ []), cAt b5 53 [(.int .u64 ((seed : Nat) : Int)), (.slice (some ⟨g, 0, none⟩) (n) (n))], cAt b7 95 (cc.cells), cAt b8 95 (dd.cells), cAt b9 95 ((⟨IntKind.i64.wrap (cc.count + -dd.count), keysTo kx (List.replicate 32 0) (j + 1), cc.checks ^^^ dd.checks⟩ : BC).cells)]) (fun w hM => by rw [← keysTo_set hkx hkj, ← cells_setK (by rw [hktl]; omega)]; exact hM) ?_
        refine reg ?_
        refine li rfl (opVal (.int .i64 ((j : Nat) : Int)) rfl (by kernel_rfl) (rMove rfl rfl) ?_)
        refine li rfl (opVal (.int .i64 ((j + 1 : Nat) : Int)) rfl (by kernel_rfl) (rAdd _ rfl rfl rfl (by omega) (by omega) (by omega)) ?_)
        refine li rfl (opVal (.int .i64 ((j + 1 : Nat) : Int)) rfl (by kernel_rfl) (rAssign rfl rfl) ?_)
        refine liNil ?_
        refine qThen ?_
        exact stAgain (j + 1) (by show _ ≤ _; omega) (by show 32 - (j + 1) < 32 - j; omega) ⟨rfl, rfl, rfl, rfl, rfl, rfl, rfl, rfl, rfl, trivial⟩ (fun _ h => h)
      · have hd46 := of_decide_eq_false hc46
        obtain rfl : j = 32 := by omega
        have hfin : (⟨IntKind.i64.wrap (cc.count + -dd.count), keysTo kx (List.replicate 32 0) 32, cc.checks ^^^ dd.checks⟩ : BC).cells = (cc.sub dd).cells := by
          have e : keysTo kx (List.replicate 32 0) 32 = xorB cc.keys dd.keys := by
            unfold keysTo
            rw [List.take_of_length_le (by rw [hkx]; simp), List.drop_of_length_le (by simp), List.append_nil, HKX.out]
          rw [e]
          rfl
        have hsl : (cc.sub dd).cells.length = 34 := BC.cells_len (BC.Ok.sub hcok hdok)
        refine St.mem (cs' := [cAt b2 53 [(.int .u64 ((seed : Nat) : Int)), (.slice (some ⟨g1, 0, none⟩) (n) (c1))], cAt b3 53 [(.int .u64 ((seed2 : Nat) : Int)), (.slice (some ⟨g2, 0, none⟩) (n) (c2))], cAt b4 53 [(.int .u64 0), (.slice none 0 0)], cAt g 95 (tcells cl ++ []), cAt b5 53 [(.int .u64 ((seed : Nat) : Int)), (.slice (some ⟨g, 0, none⟩) (n) (n))], cAt b7 95 (cc.cells), cAt b8 95 (dd.cells), cAt b9 95 ((cc.sub dd).cells)]) (fun w hM => by rw [← hfin]; exact hM) ?_
        refine stExit ?_
        refine qThenX ?_
        refine qThenX ?_
        refine qBlockX ?_
        refine qThen ?_
        refine reg ?_
        refine li rfl (opVal (.pointer (some ⟨b5, 1, none⟩)) rfl (by kernel_rfl) (rClosed fun _ => by kernel_rfl) ?_)
        refine li rfl (opVal (.slice (some ⟨g, 0, none⟩) (n) (n)) rfl (by kernel_rfl) (rLoad 4 rfl rfl (by kernel_rfl) rfl rfl) ?_)
        refine li rfl (opVal (.int .i64 ((i : Nat) : Int)) rfl (by kernel_rfl) (rMove rfl rfl) ?_)
        refine li rfl (opVal (.agg ((cc.sub dd).cells).toArray) rfl (by kernel_rfl) (rLoadA (cc.sub dd).cells rfl rfl (by kernel_rfl) (by rw [hsl]; kernel_rfl) (segAt (i := 7) rfl (fun j v hj => by rw [Nat.zero_add]; exact hj))) ?_)
        refine li rfl (opVal (.pointer (some ⟨g, 0 + i * 34, none⟩)) rfl (by kernel_rfl) (rIndexAddr (e := 95) (sz := 34) rfl (by kernel_rfl) (by kernel_rfl) rfl rfl (by omega)) ?_)
        refine li rfl ?_
        refine opStoreN 3 (tcells (cl.set i (cc.sub dd)) ++ []) (vs := (cc.sub dd).cells) rfl rfl (by kernel_rfl) rfl rfl rfl (by rw [hsl]; kernel_rfl) rfl (by rw [hsl, List.length_append, tcells_len hok, hcll]; omega) (BC.cells_one _) (by rw [hsl, Nat.zero_add]; exact (tcells_put hok [] i c0 hc0 _).symm) ?_
        refine liNil ?_
        refine qBlock ?_
        refine qThen ?_
        refine St.mem (cs' := [cAt b2 53 [(.int .u64 ((seed : Nat) : Int)), (.slice (some ⟨g1, 0, none⟩) (n) (c1))], cAt b3 53 [(.int .u64 ((seed2 : Nat) : Int)), (.slice (some ⟨g2, 0, none⟩) (n) (c2))], cAt b4 53 [(.int .u64 0), (.slice none 0 0)], cAt g 95 (tcells (subTo t u (List.replicate n BC.zero) (i + 1)) ++ []), cAt b5 53 [(.int .u64 ((seed : Nat) : Int)), (.slice (some ⟨g, 0, none⟩) (n) (n))], cAt b7 95 (cc.cells), cAt b8 95 (dd.cells), cAt b9 95 ((cc.sub dd).cells)]) (fun w hM => by rw [HSU.out]; exact hM) ?_
        refine reg ?_
        refine li rfl (opVal (.int .i64 ((i : Nat) : Int)) rfl (by kernel_rfl) (rMove rfl rfl) ?_)
        refine li rfl (opVal (.int .i64 ((i + 1 : Nat) : Int)) rfl (by kernel_rfl) (rAdd _ rfl rfl rfl (by omega) (by omega) (by omega)) ?_)
        refine li rfl (opVal (.int .i64 ((i + 1 : Nat) : Int)) rfl (by kernel_rfl) (rAssign rfl rfl) ?_)
        refine liNil ?_
        refine qThen ?_
        exact stAgain (i + 1) (by show _ ≤ _; omega) (by show n - (i + 1) < n - i; omega) ⟨rfl, rfl, rfl, rfl, rfl, trivial⟩ (fun _ h => h.sub (.cons_cons _ (.cons_cons _ (.cons_cons _ (.cons_cons _ (.cons_cons _ (.cons _ (.cons _ (.cons _ .slnil)))))))))
  · have hd21 := of_decide_eq_false hc21
    obtain rfl : n = i := by omega
    refine stExit ?_
    refine qThenX ?_
    refine qThenX ?_
    refine qBlockX ?_
    refine qThen ?_
    refine stSeq ?_
    refine reg ?_
    refine li rfl (opVal (.agg #[(.int .u64 ((seed : Nat) : Int)), (.slice (some ⟨g, 0, none⟩) (n) (n))]) rfl (by kernel_rfl) (rLoadA [(.int .u64 ((seed : Nat) : Int)), (.slice (some ⟨g, 0, none⟩) (n) (n))] rfl rfl (by kernel_rfl) (by kernel_rfl) (segAt (i := 4) rfl (by intro j v hj; first | (rw [Nat.zero_add]; exact hj) | (match j, hj with | 0, h => exact h | 1, h => exact h)))) ?_)
    refine li rfl ?_
    refine opStoreN 2 [(.int .u64 ((seed : Nat) : Int)), (.slice (some ⟨g, 0, none⟩) (n) (n))] (vs := [(.int .u64 ((seed : Nat) : Int)), (.slice (some ⟨g, 0, none⟩) (n) (n))]) rfl rfl (by kernel_rfl) rfl rfl rfl (by kernel_rfl) rfl (by simp) (by simp [Value.oneCell']) rfl ?_
    refine liNil ?_
    refine qThen ?_
    refine stRet ?_
    refine stEnd [(.agg #[(.int .u64 ((seed : Nat) : Int)), (.slice (some ⟨g, 0, none⟩) (n) (n))])] rfl ⟨⟨_, rfl, fun w hM => run_loadVarA (by kernel_rfl) (by kernel_rfl) (segAt (i := 2) (off := 0) rfl (by intro j v hj; rw [Nat.zero_add]; exact hj) w hM)⟩, trivial⟩ (fun w hM => ?_)
    refine ⟨g, n, [], rfl, hM.lo (i := 3) rfl (by simp [cAt]), hM.fr, ?_⟩
    have e := subTo_all (t := t) (u := u) (l := (List.replicate n BC.zero)) (by rw [HUL.out, HN.out]) (by rw [List.length_replicate, HN.out])
    have el : (t.sub u).cells.length = n := by rw [sub_len (by rw [HUL.out, HN.out]), HN.out]
    have ha : At w g 95 (tcells (subTo t u (List.replicate n BC.zero) n) ++ []) := hM.at (i := 3) rfl
    rw [show subTo t u (List.replicate n BC.zero) n = (t.sub u).cells by rw [← e, HN.out]] at ha
    exact ⟨ha, sub_ok HT.out.ok HU.out.ok, by rw [el, HN.out]; exact HT.out.size, by rw [el]; exact Nat.le_refl _⟩

end Go.Proofs.YtnhagokkamobaaaDoor
