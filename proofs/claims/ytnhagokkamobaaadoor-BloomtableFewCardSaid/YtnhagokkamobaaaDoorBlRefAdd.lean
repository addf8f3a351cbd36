/- Contract of the reference of layer 39: Add. -/
import Derived.Test.YtnhagokkamobaaaDoorBlRefEnc
namespace Go.Proofs.YtnhagokkamobaaaDoor
open Go.RowKit

/-- A row that is only read. -/
def cRow (b : Nat) (xs : List Value) : Ch where
  fp := [b]
  holds w := b < w.heap.size ∧ ∀ i u, xs[i]? = some u → w.cell? ⟨b, i, none⟩ = some u
  ok w w' hb h := by
    have e := hb b (by simp)
    refine ⟨?_, fun i u hu => by rw [World.cell?_of_block (w := w) e]; exact h.2 i u hu⟩
    rw [Array.getElem?_eq_getElem h.1] at e
    exact (Array.getElem?_eq_some_iff.1 e).1
  lt w h b' hb := by rw [List.mem_singleton] at hb; subst hb; exact h.1
theorem cRow_of {w : World} {b : Nat} {xs : List Value} (h : RowIn w (some ⟨b, 0, none⟩) xs) (hne : 0 < xs.length) : (cRow b xs).holds w := by
  refine ⟨?_, fun i u hu => ?_⟩
  · obtain ⟨b', o', e, hlt, _⟩ := h 0 xs[0] (List.getElem?_eq_getElem hne)
    injection e with e
    injection e with e1 e2
    omega
  · obtain ⟨b', o', e, _, hc⟩ := h i u hu
    injection e with e
    injection e with e1 e2
    subst e1 e2
    rwa [Nat.zero_add] at hc
theorem placesL_len (n seed : Nat) (key : List UInt8) : ((placesL n seed key).map (Value.int .i64)).length = 3 := rfl

set_option maxRecDepth 100000 in
theorem refAdd_any (g0 c0 : Nat) (rest0 : List Value) (t : BT) (key : List UInt8) (num : Int) (w : World) (ht : RTab w g0 c0 rest0 t) (hk : key.length = 32) :
    Calls Tryd.prog 51 #[.agg #[.int .u64 (t.seed : Int), .slice (some ⟨g0, 0, none⟩) t.cells.length c0], .string (strOf key), Value.int .i64 num] w fun e w' => ∃ g c rest, e = .returned (.agg #[.int .u64 (t.seed : Int), .slice (some ⟨g, 0, none⟩) t.cells.length c]) ∧ w.heap.size ≤ g ∧ Fr [] w w' ∧ RTab w' g c rest (t.change key num) := by
  obtain ⟨n, HN⟩ : ∃ n, Hid (n = t.cells.length) := ⟨_, rfl⟩
  obtain ⟨seed, HS⟩ : ∃ seed, Hid (seed = t.seed) := ⟨_, rfl⟩
  rw [← HN.out, ← HS.out]
  have hb := isSz_bounds ht.size
  have n3 : 3 ≤ n := by rw [HN.out]; exact hb.1
  have n4 : n ≤ 3072 := by rw [HN.out]; exact hb.2.1
  obtain ⟨C, HC⟩ : ∃ C, Hid (C = tcells t.cells) := ⟨_, rfl⟩
  have HCL : Hid (C.length = n * 34 ∧ (∀ v ∈ C, v.oneCell' = true)) := by
    show _ ∧ _
    rw [HC.out, tcells_len ht.ok.cells, HN.out]
    exact ⟨rfl, tcells_one⟩
  have HCA : Hid (∀ W, Fr [] w W → CellsAt W (some ⟨g0, 0, none⟩) C) := fun W hW j v hv => ⟨_, rfl, by
    rw [add_none, Nat.zero_add, hW.cell (p := ⟨g0, j, none⟩) ht.cells.lt (by simp), ht.cells.cell, List.getElem?_append_left (by rw [← HC.out]; exact (List.getElem?_eq_some_iff.1 hv).1), ← HC.out]
    exact hv⟩
  have H := Lib.hid (And.intro ht hk)
  clear ht hk hb
  refine stEnter (args := [(.agg #[(.int .u64 ((seed : Nat) : Int)), (.slice (some ⟨g0, 0, none⟩) (n) (c0))]), (.string (strOf key)), (.int .i64 num)]) [] Tryd.func51 rfl 75 rfl [(0, (.agg #[(.int .u64 ((seed : Nat) : Int)), (.slice (some ⟨g0, 0, none⟩) (n) (c0))])), (1, (.string (strOf key))), (2, (.int .i64 num))] ⟨rfl, rfl, rfl, trivial⟩ [] (Mm.start w []) ?_
  refine stSeq ?_
  refine reg ?_
  refine li rfl ?_
  refine opBox [(.int .u64 ((seed : Nat) : Int)), (.slice (some ⟨g0, 0, none⟩) (n) (c0))] rfl rfl (by kernel_rfl) rfl rfl (fun b3 => ?_)
  refine li rfl ?_
  refine opAlloc [(.int .u64 0), (.slice none 0 0)] rfl rfl (by kernel_rfl) (by kernel_rfl) (fun b6 => ?_)
  refine liNil ?_
  refine qThen ?_
  refine stCut (ι := Nat × Option Addr × Nat × Nat) (fun _ => True) (fun (b14, A17, c17, b7) => [(0, (.agg #[(.int .u64 ((seed : Nat) : Int)), (.slice (some ⟨g0, 0, none⟩) (n) (c0))])), (1, (.string (strOf key))), (2, (.int .i64 num)), (3, (.pointer (some ⟨b3, 0, none⟩))), (6, (.pointer (some ⟨b6, 0, none⟩))), (12, (.pointer (some ⟨b3, 0, none⟩))), (13, (.int .u64 ((seed : Nat) : Int))), (15, (.pointer (some ⟨b3, 1, none⟩))), (16, (.slice (some ⟨g0, 0, none⟩) (n) (c0))), (14, (.slice (some ⟨b14, 0, none⟩) (0) (0))), (17, (.slice A17 (n) (c17))), (18, (.agg #[(.int .u64 ((seed : Nat) : Int)), (.slice A17 (n) (c17))])), (7, (.pointer (some ⟨b7, 0, none⟩)))]) (fun (b14, A17, c17, b7) => [cAt b3 53 [(.int .u64 ((seed : Nat) : Int)), (.slice (some ⟨g0, 0, none⟩) (n) (c0))], cAt b6 53 [(.int .u64 0), (.slice none 0 0)], cOwn 95 34 A17 (n) (c17) (C), cAt b7 53 [(.int .u64 ((seed : Nat) : Int)), (.slice A17 (n) (c17))]]) ?_ ?_
  · refine anyBegin [cAt b3 53 [(.int .u64 ((seed : Nat) : Int)), (.slice (some ⟨g0, 0, none⟩) (n) (c0))], cAt b6 53 [(.int .u64 0), (.slice none 0 0)]] 9 (by kernel_rfl) (fun _ h => h) ?_
    refine anyVal (i := 0) (.pointer (some ⟨b3, 0, none⟩)) rfl rfl rfl (by kernel_rfl) (by kernel_rfl) (fun _ _ _ h => h) (rClosed fun _ => by kernel_rfl) ?_
    refine anyVal (i := 1) (.int .u64 ((seed : Nat) : Int)) rfl rfl rfl (by kernel_rfl) (by kernel_rfl) (fun _ _ _ h => h) (rLoad 0 rfl rfl (by kernel_rfl) rfl rfl) ?_
    refine anyVal (i := 3) (.pointer (some ⟨b3, 1, none⟩)) rfl rfl rfl (by kernel_rfl) (by kernel_rfl) (fun _ _ _ h => h) (rClosed fun _ => by kernel_rfl) ?_
    refine anyVal (i := 4) (.slice (some ⟨g0, 0, none⟩) (n) (c0)) rfl rfl rfl (by kernel_rfl) (by kernel_rfl) (fun _ _ _ h => h) (rLoad 0 rfl rfl (by kernel_rfl) rfl rfl) ?_
    refine anyTwo (i := 2) (j := 7) (by kernel_rfl) rfl rfl rfl rfl ?_ ?_
    · refine opNew (v := fun b => .slice (some ⟨b, 0, none⟩) 0 0) 95 [] rfl (by kernel_rfl) (fun _ => by kernel_rfl) (fun b14 => ?_)
      refine anyNext [cAt b3 53 [(.int .u64 ((seed : Nat) : Int)), (.slice (some ⟨g0, 0, none⟩) (n) (c0))], cAt b6 53 [(.int .u64 0), (.slice none 0 0)]] (fun _ h => h) (fun _ h => h.sub (.cons_cons _ (.cons_cons _ (.cons _ .slnil)))) ?_
      refine anyTwo (i := 5) (j := 7) (by kernel_rfl) rfl rfl rfl rfl ?_ ?_
      · refine opAppendAt el_rcell 2 C rfl rfl (by kernel_rfl) rfl rfl rfl (by rw [HCL.out.1]) (fun w hM => HCA.out w hM.fr) HCL.out.2 (by omega) n (by omega) C rfl (fun A17 c17 => ?_)
        refine anyNext [cAt b3 53 [(.int .u64 ((seed : Nat) : Int)), (.slice (some ⟨g0, 0, none⟩) (n) (c0))], cAt b6 53 [(.int .u64 0), (.slice none 0 0)], cOwn 95 34 A17 (n) (c17) (C)] (fun _ h => h.sub (.cons_cons _ (.cons_cons _ (.cons _ .slnil)))) (fun _ h => h) ?_
        refine anyVal (i := 6) (.agg #[(.int .u64 ((seed : Nat) : Int)), (.slice A17 (n) (c17))]) rfl rfl rfl (by kernel_rfl) (by kernel_rfl) (fun _ _ _ h => h) (rClosed fun _ => by kernel_rfl) ?_
        refine anyOne (i := 7) (by kernel_rfl) rfl rfl ?_
        refine opAlloc [(.int .u64 0), (.slice none 0 0)] rfl rfl (by kernel_rfl) (by kernel_rfl) (fun b7 => ?_)
        refine anyNext [cAt b3 53 [(.int .u64 ((seed : Nat) : Int)), (.slice (some ⟨g0, 0, none⟩) (n) (c0))], cAt b6 53 [(.int .u64 0), (.slice none 0 0)], cOwn 95 34 A17 (n) (c17) (C)] (fun _ h => h) (fun _ h => h.sub (.cons_cons _ (.cons_cons _ (.cons_cons _ (.cons _ .slnil))))) ?_
        refine anyOne (i := 8) (by kernel_rfl) rfl rfl ?_
        refine opStoreN 3 [(.int .u64 ((seed : Nat) : Int)), (.slice A17 (n) (c17))] (vs := [(.int .u64 ((seed : Nat) : Int)), (.slice A17 (n) (c17))]) rfl rfl (by kernel_rfl) rfl rfl rfl (by kernel_rfl) rfl (by simp) (by simp [Value.oneCell']) rfl ?_
        refine anyNext [cAt b3 53 [(.int .u64 ((seed : Nat) : Int)), (.slice (some ⟨g0, 0, none⟩) (n) (c0))], cAt b6 53 [(.int .u64 0), (.slice none 0 0)], cOwn 95 34 A17 (n) (c17) (C), cAt b7 53 [(.int .u64 ((seed : Nat) : Int)), (.slice A17 (n) (c17))]] (fun _ h => h.sub (.cons_cons _ (.cons_cons _ (.cons_cons _ (.cons _ .slnil))))) (fun _ h => h) ?_
        refine anyDone (by kernel_rfl) ?_
        refine qThen ?_
        exact stMeet (b14, A17, c17, b7) trivial ⟨rfl, rfl, rfl, rfl, rfl, rfl, rfl, rfl, rfl, rfl, rfl, rfl, rfl, trivial⟩ (fun _ h => h)
      · refine opAlloc [(.int .u64 0), (.slice none 0 0)] rfl rfl (by kernel_rfl) (by kernel_rfl) (fun b7 => ?_)
        refine anyNext [cAt b3 53 [(.int .u64 ((seed : Nat) : Int)), (.slice (some ⟨g0, 0, none⟩) (n) (c0))], cAt b6 53 [(.int .u64 0), (.slice none 0 0)]] (fun _ h => h) (fun _ h => h.sub (.cons_cons _ (.cons_cons _ (.cons _ (.cons _ .slnil))))) ?_
        refine anyOne (i := 5) (by kernel_rfl) rfl rfl ?_
        refine opAppendAt el_rcell 2 C rfl rfl (by kernel_rfl) rfl rfl rfl (by rw [HCL.out.1]) (fun w hM => HCA.out w hM.fr) HCL.out.2 (by omega) n (by omega) C rfl (fun A17 c17 => ?_)
        refine anyNext [cAt b3 53 [(.int .u64 ((seed : Nat) : Int)), (.slice (some ⟨g0, 0, none⟩) (n) (c0))], cAt b6 53 [(.int .u64 0), (.slice none 0 0)], cOwn 95 34 A17 (n) (c17) (C)] (fun _ h => h.sub (.cons_cons _ (.cons_cons _ (.cons _ .slnil)))) (fun _ h => h.sub (.cons_cons _ (.cons_cons _ (.cons_cons _ (.cons _ .slnil))))) ?_
        refine anyVal (i := 6) (.agg #[(.int .u64 ((seed : Nat) : Int)), (.slice A17 (n) (c17))]) rfl rfl rfl (by kernel_rfl) (by kernel_rfl) (fun _ _ _ h => h) (rClosed fun _ => by kernel_rfl) ?_
        refine anyOne (i := 8) (by kernel_rfl) rfl rfl ?_
        refine opStoreN 3 [(.int .u64 ((seed : Nat) : Int)), (.slice A17 (n) (c17))] (vs := [(.int .u64 ((seed : Nat) : Int)), (.slice A17 (n) (c17))]) rfl rfl (by kernel_rfl) rfl rfl rfl (by kernel_rfl) rfl (by simp) (by simp [Value.oneCell']) rfl ?_
        refine anyNext [cAt b3 53 [(.int .u64 ((seed : Nat) : Int)), (.slice (some ⟨g0, 0, none⟩) (n) (c0))], cAt b6 53 [(.int .u64 0), (.slice none 0 0)], cOwn 95 34 A17 (n) (c17) (C), cAt b7 53 [(.int .u64 ((seed : Nat) : Int)), (.slice A17 (n) (c17))]] (fun _ h => h.sub (.cons_cons _ (.cons_cons _ (.cons_cons _ (.cons _ .slnil))))) (fun _ h => h) ?_
        refine anyDone (by kernel_rfl) ?_
        refine qThen ?_
        exact stMeet (b14, A17, c17, b7) trivial ⟨rfl, rfl, rfl, rfl, rfl, rfl, rfl, rfl, rfl, rfl, rfl, rfl, rfl, trivial⟩ (fun _ h => h)
    · refine opAlloc [(.int .u64 0), (.slice none 0 0)] rfl rfl (by kernel_rfl) (by kernel_rfl) (fun b7 => ?_)
      refine anyNext [cAt b3 53 [(.int .u64 ((seed : Nat) : Int)), (.slice (some ⟨g0, 0, none⟩) (n) (c0))], cAt b6 53 [(.int .u64 0), (.slice none 0 0)]] (fun _ h => h) (fun _ h => h.sub (.cons_cons _ (.cons_cons _ (.cons _ .slnil)))) ?_
      refine anyOne (i := 2) (by kernel_rfl) rfl rfl ?_
      refine opNew (v := fun b => .slice (some ⟨b, 0, none⟩) 0 0) 95 [] rfl (by kernel_rfl) (fun _ => by kernel_rfl) (fun b14 => ?_)
      refine anyNext [cAt b3 53 [(.int .u64 ((seed : Nat) : Int)), (.slice (some ⟨g0, 0, none⟩) (n) (c0))], cAt b6 53 [(.int .u64 0), (.slice none 0 0)]] (fun _ h => h) (fun _ h => h.sub (.cons_cons _ (.cons_cons _ (.cons _ (.cons _ .slnil))))) ?_
      refine anyOne (i := 5) (by kernel_rfl) rfl rfl ?_
      refine opAppendAt el_rcell 3 C rfl rfl (by kernel_rfl) rfl rfl rfl (by rw [HCL.out.1]) (fun w hM => HCA.out w hM.fr) HCL.out.2 (by omega) n (by omega) C rfl (fun A17 c17 => ?_)
      refine anyNext [cAt b3 53 [(.int .u64 ((seed : Nat) : Int)), (.slice (some ⟨g0, 0, none⟩) (n) (c0))], cAt b6 53 [(.int .u64 0), (.slice none 0 0)], cOwn 95 34 A17 (n) (c17) (C)] (fun _ h => h.sub (.cons_cons _ (.cons_cons _ (.cons _ .slnil)))) (fun _ h => h.sub (.cons_cons _ (.cons_cons _ (.cons _ (.cons_cons _ .slnil))))) ?_
      refine anyVal (i := 6) (.agg #[(.int .u64 ((seed : Nat) : Int)), (.slice A17 (n) (c17))]) rfl rfl rfl (by kernel_rfl) (by kernel_rfl) (fun _ _ _ h => h) (rClosed fun _ => by kernel_rfl) ?_
      refine anyOne (i := 8) (by kernel_rfl) rfl rfl ?_
      refine opStoreN 2 [(.int .u64 ((seed : Nat) : Int)), (.slice A17 (n) (c17))] (vs := [(.int .u64 ((seed : Nat) : Int)), (.slice A17 (n) (c17))]) rfl rfl (by kernel_rfl) rfl rfl rfl (by kernel_rfl) rfl (by simp) (by simp [Value.oneCell']) rfl ?_
      refine anyNext [cAt b3 53 [(.int .u64 ((seed : Nat) : Int)), (.slice (some ⟨g0, 0, none⟩) (n) (c0))], cAt b6 53 [(.int .u64 0), (.slice none 0 0)], cAt b7 53 [(.int .u64 ((seed : Nat) : Int)), (.slice A17 (n) (c17))], cOwn 95 34 A17 (n) (c17) (C)] (fun _ h => h.sub (.cons_cons _ (.cons_cons _ (.cons _ (.cons_cons _ .slnil))))) (fun _ h => h) ?_
      refine anyDone (by kernel_rfl) ?_
      refine qThen ?_
      exact stMeet (b14, A17, c17, b7) trivial ⟨rfl, rfl, rfl, rfl, rfl, rfl, rfl, rfl, rfl, rfl, rfl, rfl, rfl, trivial⟩ (fun _ h => h.perm (.cons _ (.cons _ (.swap _ _ _))))
  · rintro ⟨b14, A17, c17, b7⟩ -
    show St _ _ _ [(0, (.agg #[(.int .u64 ((seed : Nat) : Int)), (.slice (some ⟨g0, 0, none⟩) (n) (c0))])), (1, (.string (strOf key))), (2, (.int .i64 num)), (3, (.pointer (some ⟨b3, 0, none⟩))), (6, (.pointer (some ⟨b6, 0, none⟩))), (12, (.pointer (some ⟨b3, 0, none⟩))), (13, (.int .u64 ((seed : Nat) : Int))), (15, (.pointer (some ⟨b3, 1, none⟩))), (16, (.slice (some ⟨g0, 0, none⟩) (n) (c0))), (14, (.slice (some ⟨b14, 0, none⟩) (0) (0))), (17, (.slice A17 (n) (c17))), (18, (.agg #[(.int .u64 ((seed : Nat) : Int)), (.slice A17 (n) (c17))])), (7, (.pointer (some ⟨b7, 0, none⟩)))] [cAt b3 53 [(.int .u64 ((seed : Nat) : Int)), (.slice (some ⟨g0, 0, none⟩) (n) (c0))], cAt b6 53 [(.int .u64 0), (.slice none 0 0)], cOwn 95 34 A17 (n) (c17) (C), cAt b7 53 [(.int .u64 ((seed : Nat) : Int)), (.slice A17 (n) (c17))]] _
    refine stSeq ?_
    refine St.openOwn 2 rfl (by omega) (fun g rest hAA17 hleA17 => ?_)
    subst hAA17
    rw [HC.out]
    show St _ _ _ _ [cAt b3 53 [(.int .u64 ((seed : Nat) : Int)), (.slice (some ⟨g0, 0, none⟩) (n) (c0))], cAt b6 53 [(.int .u64 0), (.slice none 0 0)], cAt g 95 (tcells (t.atN key num 0).cells ++ rest), cAt b7 53 [(.int .u64 ((seed : Nat) : Int)), (.slice (some ⟨g, 0, none⟩) (n) (c17))]] _
    refine reg ?_
    refine li rfl (opVal (.pointer (some ⟨b3, 1, none⟩)) rfl (by kernel_rfl) (rClosed fun _ => by kernel_rfl) ?_)
    refine li rfl (opVal (.slice (some ⟨g0, 0, none⟩) (n) (c0)) rfl (by kernel_rfl) (rLoad 0 rfl rfl (by kernel_rfl) rfl rfl) ?_)
    refine li rfl (opVal (.int .i64 ((n : Nat) : Int)) rfl (by kernel_rfl) (rClosed fun _ => by kernel_rfl) ?_)
    refine li rfl (opVal (.pointer (some ⟨b3, 0, none⟩)) rfl (by kernel_rfl) (rClosed fun _ => by kernel_rfl) ?_)
    refine li rfl (opVal (.int .u64 ((seed : Nat) : Int)) rfl (by kernel_rfl) (rLoad 0 rfl rfl (by kernel_rfl) rfl rfl) ?_)
    refine li rfl (opVal (.string (strOf key)) rfl (by kernel_rfl) (rMove rfl rfl) ?_)
    refine li rfl ?_
    refine opCall 20 #[(.int .i64 ((n : Nat) : Int)), (.int .u64 ((seed : Nat) : Int)), (.string (strOf key))] rfl (by kernel_rfl) (fun _ => by kernel_rfl) (fun w hM => ?_)
    refine (refPlaces_new n seed key w (by rw [HN.out]; exact H.out.1.size) (by rw [H.out.2]; omega)).mono ?_
    rintro e w' ⟨a8, c8, rfl, hf, hr, hg⟩
    have hM' := hM.push (c := cRow a8 ((placesL n seed key).map (Value.int .i64))) hf (cRow_of hr (by rw [placesL_len]; omega)) (by simpa [cRow] using hg) (by simp [cRow])
    refine ⟨_, _, rfl, hM', ?_⟩
    clear hM hM' hf hr hg
    refine li rfl (opVal (.slice (some ⟨a8, 0, none⟩) (3) (c8)) rfl (by kernel_rfl) (rAssign rfl rfl) ?_)
    refine liNil ?_
    refine qThen ?_
    refine stSeq ?_
    refine stSeq ?_
    refine reg ?_
    refine li rfl (opVal (.int .i64 0) rfl (by kernel_rfl) (rAssign rfl rfl) ?_)
    refine liNil ?_
    refine qThen ?_
    refine stBlock ?_
    refine stLoop (ι := Nat) (fun k => k ≤ 3) (fun k => 3 - k) (fun k => [(1, (.string (strOf key))), (2, (.int .i64 num)), (3, (.pointer (some ⟨b3, 0, none⟩))), (6, (.pointer (some ⟨b6, 0, none⟩))), (7, (.pointer (some ⟨b7, 0, none⟩))), (8, (.slice (some ⟨a8, 0, none⟩) (3) (c8))), (9, (.int .i64 ((k : Nat) : Int)))]) (fun k => [cAt b3 53 [(.int .u64 ((seed : Nat) : Int)), (.slice (some ⟨g0, 0, none⟩) (n) (c0))], cAt b6 53 [(.int .u64 0), (.slice none 0 0)], cAt g 95 (tcells (t.atN key num k).cells ++ rest), cAt b7 53 [(.int .u64 ((seed : Nat) : Int)), (.slice (some ⟨g, 0, none⟩) (n) (c17))], cRow a8 ((placesL n seed key).map (Value.int .i64))]) 0 (by omega) ⟨rfl, rfl, rfl, rfl, rfl, rfl, rfl, trivial⟩ (fun _ h => h) ?_
    intro k (hk : k ≤ 3)
    show St _ _ _ [(1, (.string (strOf key))), (2, (.int .i64 num)), (3, (.pointer (some ⟨b3, 0, none⟩))), (6, (.pointer (some ⟨b6, 0, none⟩))), (7, (.pointer (some ⟨b7, 0, none⟩))), (8, (.slice (some ⟨a8, 0, none⟩) (3) (c8))), (9, (.int .i64 ((k : Nat) : Int)))] [cAt b3 53 [(.int .u64 ((seed : Nat) : Int)), (.slice (some ⟨g0, 0, none⟩) (n) (c0))], cAt b6 53 [(.int .u64 0), (.slice none 0 0)], cAt g 95 (tcells (t.atN key num k).cells ++ rest), cAt b7 53 [(.int .u64 ((seed : Nat) : Int)), (.slice (some ⟨g, 0, none⟩) (n) (c17))], cRow a8 ((placesL n seed key).map (Value.int .i64))] _
    refine stSeq ?_
    refine stSeq ?_
    refine reg ?_
    refine li rfl (opVal (.int .i64 ((k : Nat) : Int)) rfl (by kernel_rfl) (rMove rfl rfl) ?_)
    refine li rfl (opVal (.bool (decide (((k : Nat) : Int) < 3))) rfl (by kernel_rfl) (rClosed fun _ => by kernel_rfl) ?_)
    refine liNil ?_
    refine qThen ?_
    refine stCond rfl (fun hc27 => ?_) (fun hc27 => ?_)
    · have hd27 := of_decide_eq_true hc27
      have hlt : k < 3 := by omega
      obtain ⟨p, HP⟩ : ∃ p, Hid (p = bplace n seed key k) := ⟨_, rfl⟩
      have hpn : p < n := by rw [HP.out]; exact bplace_lt n seed key k n3 hlt
      obtain ⟨cl, HCL2⟩ : ∃ cl, Hid (cl = (t.atN key num k).cells) := ⟨_, rfl⟩
      have hlen : cl.length = n := by rw [HCL2.out, BT.atN_len, HN.out]
      have hok : Ok34 cl := by rw [HCL2.out]; exact (BT.Ok.atN H.out.1.ok H.out.2 num k).cells
      obtain ⟨cc, hc⟩ : ∃ cc, cl[p]? = some cc := ⟨_, List.getElem?_eq_getElem (by rw [hlen]; exact hpn)⟩
      have hcok : cc.Ok := hok cc (List.mem_of_getElem? hc)
      have hclen := BC.cells_len hcok
      rw [← HCL2.out]
      refine stSkip ?_
      refine qThen ?_
      refine stSeq ?_
      refine stBlock ?_
      refine stSeq ?_
      refine anyBegin [cAt b3 53 [(.int .u64 ((seed : Nat) : Int)), (.slice (some ⟨g0, 0, none⟩) (n) (c0))], cAt b6 53 [(.int .u64 0), (.slice none 0 0)], cAt g 95 (tcells cl ++ rest), cAt b7 53 [(.int .u64 ((seed : Nat) : Int)), (.slice (some ⟨g, 0, none⟩) (n) (c17))], cRow a8 ((placesL n seed key).map (Value.int .i64))] 10 (by kernel_rfl) (fun _ h => h) ?_
      refine anyVal (i := 0) (.pointer (some ⟨b7, 1, none⟩)) rfl rfl rfl (by kernel_rfl) (by kernel_rfl) (fun _ _ _ h => h) (rClosed fun _ => by kernel_rfl) ?_
      refine anyVal (i := 1) (.slice (some ⟨g, 0, none⟩) (n) (c17)) rfl rfl rfl (by kernel_rfl) (by kernel_rfl) (fun _ _ _ h => h) (rLoad 3 rfl rfl (by kernel_rfl) rfl rfl) ?_
      refine anyVal (i := 2) (.slice (some ⟨a8, 0, none⟩) (3) (c8)) rfl rfl rfl (by kernel_rfl) (by kernel_rfl) (fun _ _ _ h => h) (rMove rfl rfl) ?_
      refine anyVal (i := 3) (.int .i64 ((k : Nat) : Int)) rfl rfl rfl (by kernel_rfl) (by kernel_rfl) (fun _ _ _ h => h) (rMove rfl rfl) ?_
      refine anyVal (i := 4) (.pointer (some ⟨a8, 0 + k, none⟩)) rfl rfl rfl (by kernel_rfl) (by kernel_rfl) (fun _ _ _ h => h) (rIndexAddr1 (e := 3) rfl (by kernel_rfl) (by kernel_rfl) rfl rfl (by omega)) ?_
      refine anyVal (i := 5) (.int .i64 ((p : Nat) : Int)) rfl rfl rfl (by kernel_rfl) (by kernel_rfl) (fun _ _ _ h => h) (rLoadW rfl rfl (by kernel_rfl) (fun w hM => by have h : (cRow a8 ((placesL n seed key).map (Value.int .i64))).holds w := hM.at (i := 4) rfl; rw [HP.out, Nat.zero_add]; exact h.2 k _ (pl3_get n seed key k hlt))) ?_
      refine anyVal (i := 6) (.pointer (some ⟨g, 0 + p * 34, none⟩)) rfl rfl rfl (by kernel_rfl) (by kernel_rfl) (fun _ _ _ h => h) (rIndexAddr (e := 95) (sz := 34) rfl (by kernel_rfl) (by kernel_rfl) rfl rfl (by omega)) ?_
      refine anyVal (i := 7) (.agg (cc.cells).toArray) rfl rfl rfl (by kernel_rfl) (by kernel_rfl) (fun _ _ _ h => h) (rLoadA cc.cells rfl rfl (by kernel_rfl) (by rw [hclen]; kernel_rfl) (segAt (i := 2) rfl (fun j v hj => by rw [Nat.zero_add, tcells_get hok rest p cc hc j (by have := (List.getElem?_eq_some_iff.1 hj).1; omega)]; exact hj))) ?_
      refine anyOne (i := 8) (by kernel_rfl) rfl rfl ?_
      refine opAlloc [(.int .i64 0), (.int .u8 0), (.int .u8 0), (.int .u8 0), (.int .u8 0), (.int .u8 0), (.int .u8 0), (.int .u8 0), (.int .u8 0), (.int .u8 0), (.int .u8 0), (.int .u8 0), (.int .u8 0), (.int .u8 0), (.int .u8 0), (.int .u8 0), (.int .u8 0), (.int .u8 0), (.int .u8 0), (.int .u8 0), (.int .u8 0), (.int .u8 0), (.int .u8 0), (.int .u8 0), (.int .u8 0), (.int .u8 0), (.int .u8 0), (.int .u8 0), (.int .u8 0), (.int .u8 0), (.int .u8 0), (.int .u8 0), (.int .u8 0), (.int .u64 0)] rfl rfl (by kernel_rfl) (by kernel_rfl) (fun b10 => ?_)
      refine anyNext [cAt b3 53 [(.int .u64 ((seed : Nat) : Int)), (.slice (some ⟨g0, 0, none⟩) (n) (c0))], cAt b6 53 [(.int .u64 0), (.slice none 0 0)], cAt g 95 (tcells cl ++ rest), cAt b7 53 [(.int .u64 ((seed : Nat) : Int)), (.slice (some ⟨g, 0, none⟩) (n) (c17))], cRow a8 ((placesL n seed key).map (Value.int .i64))] (fun _ h => h) (fun _ h => h.sub (.cons_cons _ (.cons_cons _ (.cons_cons _ (.cons_cons _ (.cons_cons _ (.cons _ .slnil))))))) ?_
      refine anyOne (i := 9) (by kernel_rfl) rfl rfl ?_
      refine opStoreN 5 cc.cells (vs := cc.cells) rfl rfl (by kernel_rfl) rfl rfl rfl (by rw [hclen]; kernel_rfl) rfl (by rw [hclen]; decide) (BC.cells_one cc) (store_all (by rw [hclen]; rfl)) ?_
      refine anyNext [cAt b3 53 [(.int .u64 ((seed : Nat) : Int)), (.slice (some ⟨g0, 0, none⟩) (n) (c0))], cAt b6 53 [(.int .u64 0), (.slice none 0 0)], cAt g 95 (tcells cl ++ rest), cAt b7 53 [(.int .u64 ((seed : Nat) : Int)), (.slice (some ⟨g, 0, none⟩) (n) (c17))], cRow a8 ((placesL n seed key).map (Value.int .i64)), cAt b10 95 (cc.cells)] (fun _ h => h.sub (.cons_cons _ (.cons_cons _ (.cons_cons _ (.cons_cons _ (.cons_cons _ (.cons _ .slnil))))))) (fun _ h => h) ?_
      refine anyDone (by kernel_rfl) ?_
      refine qThen ?_
      refine stSeq ?_
      refine reg ?_
      refine li rfl (opVal (.pointer (some ⟨b10, 0, none⟩)) rfl (by kernel_rfl) (rClosed fun _ => by kernel_rfl) ?_)
      refine li rfl (opVal (.int .i64 cc.count) rfl (by kernel_rfl) (rLoad 5 rfl rfl (by kernel_rfl) rfl (cells_get0 cc)) ?_)
      refine li rfl (opVal (.int .i64 num) rfl (by kernel_rfl) (rMove rfl rfl) ?_)
      refine li rfl (opVal (.int .i64 (IntKind.i64.wrap (cc.count + num))) rfl (by kernel_rfl) (rClosed fun _ => by kernel_rfl) ?_)
      refine li rfl (opVal (.pointer (some ⟨b10, 0, none⟩)) rfl (by kernel_rfl) (rClosed fun _ => by kernel_rfl) ?_)
      refine li rfl ?_
      refine opStore1 5 rfl rfl (by kernel_rfl) rfl rfl rfl (by kernel_rfl) rfl (by rw [hclen]; decide) ?_
      refine liNil ?_
      refine qThen ?_
      refine stSeq ?_
      refine stSeq ?_
      refine St.mem (cs' := [cAt b3 53 [(.int .u64 ((seed : Nat) : Int)), (.slice (some ⟨g0, 0, none⟩) (n) (c0))], cAt b6 53 [(.int .u64 0), (.slice none 0 0)], cAt g 95 (tcells cl ++ rest), cAt b7 53 [(.int .u64 ((seed : Nat) : Int)), (.slice (some ⟨g, 0, none⟩) (n) (c17))], cRow a8 ((placesL n seed key).map (Value.int .i64)), cAt b10 95 ((cc.part key num 0 0).cells)]) (fun w hM => by rw [part_zero, Nat.xor_zero, cells_set0 cc]; exact hM) ?_
      refine reg ?_
      refine li rfl (opVal (.int .i64 0) rfl (by kernel_rfl) (rAssign rfl rfl) ?_)
      refine liNil ?_
      refine qThen ?_
      refine stBlock ?_
      refine stLoop (ι := Nat) (fun i => i ≤ 32) (fun i => 32 - i) (fun i => [(1, (.string (strOf key))), (2, (.int .i64 num)), (3, (.pointer (some ⟨b3, 0, none⟩))), (6, (.pointer (some ⟨b6, 0, none⟩))), (7, (.pointer (some ⟨b7, 0, none⟩))), (8, (.slice (some ⟨a8, 0, none⟩) (3) (c8))), (9, (.int .i64 ((k : Nat) : Int))), (10, (.pointer (some ⟨b10, 0, none⟩))), (11, (.int .i64 ((i : Nat) : Int)))]) (fun i => [cAt b3 53 [(.int .u64 ((seed : Nat) : Int)), (.slice (some ⟨g0, 0, none⟩) (n) (c0))], cAt b6 53 [(.int .u64 0), (.slice none 0 0)], cAt g 95 (tcells cl ++ rest), cAt b7 53 [(.int .u64 ((seed : Nat) : Int)), (.slice (some ⟨g, 0, none⟩) (n) (c17))], cRow a8 ((placesL n seed key).map (Value.int .i64)), cAt b10 95 ((cc.part key num 0 i).cells)]) 0 (by omega) ⟨rfl, rfl, rfl, rfl, rfl, rfl, rfl, rfl, rfl, trivial⟩ (fun _ h => h) ?_
      intro i (hi : i ≤ 32)
      show St _ _ _ [(1, (.string (strOf key))), (2, (.int .i64 num)), (3, (.pointer (some ⟨b3, 0, none⟩))), (6, (.pointer (some ⟨b6, 0, none⟩))), (7, (.pointer (some ⟨b7, 0, none⟩))), (8, (.slice (some ⟨a8, 0, none⟩) (3) (c8))), (9, (.int .i64 ((k : Nat) : Int))), (10, (.pointer (some ⟨b10, 0, none⟩))), (11, (.int .i64 ((i : Nat) : Int)))] [cAt b3 53 [(.int .u64 ((seed : Nat) : Int)), (.slice (some ⟨g0, 0, none⟩) (n) (c0))], cAt b6 53 [(.int .u64 0), (.slice none 0 0)], cAt g 95 (tcells cl ++ rest), cAt b7 53 [(.int .u64 ((seed : Nat) : Int)), (.slice (some ⟨g, 0, none⟩) (n) (c17))], cRow a8 ((placesL n seed key).map (Value.int .i64)), cAt b10 95 ((cc.part key num 0 i).cells)] _
      refine stSeq ?_
      refine stSeq ?_
      refine reg ?_
      refine li rfl (opVal (.int .i64 ((i : Nat) : Int)) rfl (by kernel_rfl) (rMove rfl rfl) ?_)
      refine li rfl (opVal (.bool (decide (((i : Nat) : Int) < 32))) rfl (by kernel_rfl) (rClosed fun _ => by kernel_rfl) ?_)
      refine liNil ?_
      refine qThen ?_
      refine stCond rfl (fun hc44 => ?_) (fun hc44 => ?_)
      · have hd44 := of_decide_eq_true hc44
        have hlt2 : i < 32 := by omega
        obtain ⟨x, hx⟩ : ∃ x, cc.keys[i]? = some x := ⟨_, List.getElem?_eq_getElem (by rw [hcok.keys]; exact hlt2)⟩
        obtain ⟨y, hy⟩ : ∃ y, key[i]? = some y := ⟨_, List.getElem?_eq_getElem (by rw [H.out.2]; exact hlt2)⟩
        have hpl : (cc.part key num 0 i).cells.length = 34 := BC.cells_len (part_ok hcok H.out.2 num (by unfold U64; omega) i)
        refine stSkip ?_
        refine qThen ?_
        refine stSeq ?_
        refine stBlock ?_
        refine anyBegin [cAt b3 53 [(.int .u64 ((seed : Nat) : Int)), (.slice (some ⟨g0, 0, none⟩) (n) (c0))], cAt b6 53 [(.int .u64 0), (.slice none 0 0)], cAt g 95 (tcells cl ++ rest), cAt b7 53 [(.int .u64 ((seed : Nat) : Int)), (.slice (some ⟨g, 0, none⟩) (n) (c17))], cRow a8 ((placesL n seed key).map (Value.int .i64)), cAt b10 95 ((cc.part key num 0 i).cells)] 11 (by kernel_rfl) (fun _ h => h) ?_
        refine anyVal (i := 0) (.int .i64 ((i : Nat) : Int)) rfl rfl rfl (by kernel_rfl) (by kernel_rfl) (fun _ _ _ h => h) (rMove rfl rfl) ?_
        refine anyVal (i := 1) (.int .i64 ((i : Nat) : Int)) rfl rfl rfl (by kernel_rfl) (by kernel_rfl) (fun _ _ _ h => h) (rMove rfl rfl) ?_
        refine anyVal (i := 2) (.pointer (some ⟨b10, 1, none⟩)) rfl rfl rfl (by kernel_rfl) (by kernel_rfl) (fun _ _ _ h => h) (rClosed fun _ => by kernel_rfl) ?_
        refine anyVal (i := 3) (.pointer (some ⟨b10, 1 + i, none⟩)) rfl rfl rfl (by kernel_rfl) (by kernel_rfl) (fun _ _ _ h => h) (rIndexArr1 (e := 5) (m := 32) rfl (by kernel_rfl) (by kernel_rfl) rfl rfl (by omega)) ?_
        refine anyVal (i := 4) (.int .u8 ((x.toNat : Nat) : Int)) rfl rfl rfl (by kernel_rfl) (by kernel_rfl) (fun _ _ _ h => h) (rLoad 5 rfl rfl (by kernel_rfl) rfl (cells_getK i x (part_get key num 0 i x hx H.out.2 hcok.keys))) ?_
        refine anyVal (i := 5) (.string (strOf key)) rfl rfl rfl (by kernel_rfl) (by kernel_rfl) (fun _ _ _ h => h) (rMove rfl rfl) ?_
        refine anyVal (i := 6) (.int .i64 ((i : Nat) : Int)) rfl rfl rfl (by kernel_rfl) (by kernel_rfl) (fun _ _ _ h => h) (rMove rfl rfl) ?_
        refine anyVal (i := 7) (.int .u8 ((y.toNat : Nat) : Int)) rfl rfl rfl (by kernel_rfl) (by kernel_rfl) (fun _ _ _ h => h) (rIndexS rfl (by kernel_rfl) rfl rfl hy) ?_
        refine anyVal (i := 8) (.int .u8 (((x ^^^ y).toNat : Nat) : Int)) rfl rfl rfl (by kernel_rfl) (by kernel_rfl) (fun _ _ _ h => h) (rBits .xor (by simp) _ rfl rfl rfl (u8_xor_u x y)) ?_
        refine anyVal (i := 9) (.pointer (some ⟨b10, 1, none⟩)) rfl rfl rfl (by kernel_rfl) (by kernel_rfl) (fun _ _ _ h => h) (rClosed fun _ => by kernel_rfl) ?_
        refine anyVal (i := 10) (.pointer (some ⟨b10, 1 + i, none⟩)) rfl rfl rfl (by kernel_rfl) (by kernel_rfl) (fun _ _ _ h => h) (rIndexArr1 (e := 5) (m := 32) rfl (by kernel_rfl) (by kernel_rfl) rfl rfl (by omega)) ?_
        refine anyOne (i := 11) (by kernel_rfl) rfl rfl ?_
        refine opStore1 5 rfl rfl (by kernel_rfl) rfl rfl rfl (by kernel_rfl) rfl (by rw [hpl]; omega) ?_
        refine anyLast (by kernel_rfl) rfl ?_
        refine qBlock ?_
        refine qThen ?_
        refine St.mem (cs' := [cAt b3 53 [(.int .u64 ((seed : Nat) : Int)), (.slice (some ⟨g0, 0, none⟩) (n) (c0))], cAt b6 53 [(.int .u64 0), (.slice none 0 0)], cAt g 95 (tcells cl ++ rest), cAt b7 53 [(.int .u64 ((seed : Nat) : Int)), (.slice (some ⟨g, 0, none⟩) (n) (c17))], cRow a8 ((placesL n seed key).map (Value.int .i64)), cAt b10 95 ((cc.part key num 0 (i + 1)).cells)]) (fun w hM => by rw [part_succ key num 0 i x y hx hy hcok.keys H.out.2]; exact hM) ?_
        refine reg ?_
        refine li rfl (opVal (.int .i64 ((i : Nat) : Int)) rfl (by kernel_rfl) (rMove rfl rfl) ?_)
        refine li rfl (opVal (.int .i64 ((i + 1 : Nat) : Int)) rfl (by kernel_rfl) (rAdd _ rfl rfl rfl (by omega) (by omega) (by omega)) ?_)
        refine li rfl (opVal (.int .i64 ((i + 1 : Nat) : Int)) rfl (by kernel_rfl) (rAssign rfl rfl) ?_)
        refine liNil ?_
        refine qThen ?_
        exact stAgain (i + 1) (by show _ ≤ _; omega) (by show 32 - (i + 1) < 32 - i; omega) ⟨rfl, rfl, rfl, rfl, rfl, rfl, rfl, rfl, rfl, trivial⟩ (fun _ h => h)
      · have hd44 := of_decide_eq_false hc44
        obtain rfl : i = 32 := by omega
        obtain ⟨hh, HHH⟩ : ∃ hh, Hid (hh = bhash seed 3 key) := ⟨_, rfl⟩
        have hhu : U64 hh := by rw [HHH.out]; exact bhash_u64 _ _ _
        have hpk := (part_ok hcok H.out.2 num (chk := 0) (by unfold U64; omega) 32)
        have hpl := BC.cells_len hpk
        have hpc : (cc.part key num 0 32).checks = cc.checks := Nat.xor_zero _
        refine stExit ?_
        refine qThenX ?_
        refine qThenX ?_
        refine qBlockX ?_
        refine qThen ?_
        refine stSeq ?_
        refine anyBegin [cAt b3 53 [(.int .u64 ((seed : Nat) : Int)), (.slice (some ⟨g0, 0, none⟩) (n) (c0))], cAt b6 53 [(.int .u64 0), (.slice none 0 0)], cAt g 95 (tcells cl ++ rest), cAt b7 53 [(.int .u64 ((seed : Nat) : Int)), (.slice (some ⟨g, 0, none⟩) (n) (c17))], cRow a8 ((placesL n seed key).map (Value.int .i64)), cAt b10 95 ((cc.part key num 0 32).cells)] 8 (by kernel_rfl) (fun _ h => h) ?_
        refine anyVal (i := 0) (.pointer (some ⟨b10, 33, none⟩)) rfl rfl rfl (by kernel_rfl) (by kernel_rfl) (fun _ _ _ h => h) (rClosed fun _ => by kernel_rfl) ?_
        refine anyVal (i := 1) (.int .u64 ((cc.checks : Nat) : Int)) rfl rfl rfl (by kernel_rfl) (by kernel_rfl) (fun _ _ _ h => h) (rLoad 5 rfl rfl (by kernel_rfl) rfl (by rw [← hpc]; exact cells_get33 hpk.keys)) ?_
        refine anyVal (i := 2) (.pointer (some ⟨b3, 0, none⟩)) rfl rfl rfl (by kernel_rfl) (by kernel_rfl) (fun _ _ _ h => h) (rClosed fun _ => by kernel_rfl) ?_
        refine anyVal (i := 3) (.int .u64 ((seed : Nat) : Int)) rfl rfl rfl (by kernel_rfl) (by kernel_rfl) (fun _ _ _ h => h) (rLoad 0 rfl rfl (by kernel_rfl) rfl rfl) ?_
        refine anyVal (i := 4) (.string (strOf key)) rfl rfl rfl (by kernel_rfl) (by kernel_rfl) (fun _ _ _ h => h) (rMove rfl rfl) ?_
        refine anyOne (i := 5) (by kernel_rfl) rfl rfl ?_
        refine opCall 41 #[(.int .u64 ((seed : Nat) : Int)), (.int .i64 3), (.string (strOf key))] rfl (by kernel_rfl) (fun _ => by kernel_rfl) (fun w hM => ?_)
        refine (refHash_any seed 3 key w (by omega) (by rw [H.out.2]; omega)).mono ?_
        rintro e w' ⟨rfl, hf⟩
        have hM' := hM.fr0 hf
        refine ⟨(.int .u64 ((bhash seed 3 key : Nat) : Int)), _, rfl, hM', ?_⟩
        clear hM hM' hf
        refine anyNext [cAt b3 53 [(.int .u64 ((seed : Nat) : Int)), (.slice (some ⟨g0, 0, none⟩) (n) (c0))], cAt b6 53 [(.int .u64 0), (.slice none 0 0)], cAt g 95 (tcells cl ++ rest), cAt b7 53 [(.int .u64 ((seed : Nat) : Int)), (.slice (some ⟨g, 0, none⟩) (n) (c17))], cRow a8 ((placesL n seed key).map (Value.int .i64)), cAt b10 95 ((cc.part key num 0 32).cells)] (fun _ h => h) (fun _ h => h) ?_
        refine anyVal (i := 6) (.int .u64 ((cc.checks ^^^ bhash seed 3 key : Nat) : Int)) rfl rfl rfl (by kernel_rfl) (by kernel_rfl) (fun _ _ _ h => h) (rBits .xor (by simp) _ rfl rfl rfl (u64_xor_nat _ _ hcok.checks (by rw [← HHH.out]; exact hhu))) ?_
        refine anyVal (i := 7) (.pointer (some ⟨b10, 33, none⟩)) rfl rfl rfl (by kernel_rfl) (by kernel_rfl) (fun _ _ _ h => h) (rClosed fun _ => by kernel_rfl) ?_
        refine anyOne (i := 8) (by kernel_rfl) rfl rfl ?_
        refine opStore1 5 rfl rfl (by kernel_rfl) rfl rfl rfl (by kernel_rfl) rfl (by rw [hpl]; omega) ?_
        refine anyLast (by kernel_rfl) rfl ?_
        refine qThen ?_
        have hadd : (cc.add key num hh).cells = (cc.part key num 0 32).cells.set 33 (.int .u64 ((cc.checks ^^^ bhash seed 3 key : Nat) : Int)) := by
          rw [part_all cc key num 0 hcok.keys H.out.2, HHH.out, ← cells_set33 (by rw [← part_all cc key num 0 hcok.keys H.out.2]; exact hpk.keys)]
          rfl
        have hal : (cc.add key num hh).cells.length = 34 := by rw [hadd, List.length_set]; exact hpl
        refine St.mem (cs' := [cAt b3 53 [(.int .u64 ((seed : Nat) : Int)), (.slice (some ⟨g0, 0, none⟩) (n) (c0))], cAt b6 53 [(.int .u64 0), (.slice none 0 0)], cAt g 95 (tcells cl ++ rest), cAt b7 53 [(.int .u64 ((seed : Nat) : Int)), (.slice (some ⟨g, 0, none⟩) (n) (c17))], cRow a8 ((placesL n seed key).map (Value.int .i64)), cAt b10 95 ((cc.add key num hh).cells)]) (fun w hM => by rw [hadd]; exact hM) ?_
        refine anyBegin [cAt b3 53 [(.int .u64 ((seed : Nat) : Int)), (.slice (some ⟨g0, 0, none⟩) (n) (c0))], cAt b6 53 [(.int .u64 0), (.slice none 0 0)], cAt g 95 (tcells cl ++ rest), cAt b7 53 [(.int .u64 ((seed : Nat) : Int)), (.slice (some ⟨g, 0, none⟩) (n) (c17))], cRow a8 ((placesL n seed key).map (Value.int .i64)), cAt b10 95 ((cc.add key num hh).cells)] 8 (by kernel_rfl) (fun _ h => h) ?_
        refine anyVal (i := 0) (.pointer (some ⟨b7, 1, none⟩)) rfl rfl rfl (by kernel_rfl) (by kernel_rfl) (fun _ _ _ h => h) (rClosed fun _ => by kernel_rfl) ?_
        refine anyVal (i := 1) (.slice (some ⟨g, 0, none⟩) (n) (c17)) rfl rfl rfl (by kernel_rfl) (by kernel_rfl) (fun _ _ _ h => h) (rLoad 3 rfl rfl (by kernel_rfl) rfl rfl) ?_
        refine anyVal (i := 2) (.slice (some ⟨a8, 0, none⟩) (3) (c8)) rfl rfl rfl (by kernel_rfl) (by kernel_rfl) (fun _ _ _ h => h) (rMove rfl rfl) ?_
        refine anyVal (i := 3) (.int .i64 ((k : Nat) : Int)) rfl rfl rfl (by kernel_rfl) (by kernel_rfl) (fun _ _ _ h => h) (rMove rfl rfl) ?_
        refine anyVal (i := 4) (.pointer (some ⟨a8, 0 + k, none⟩)) rfl rfl rfl (by kernel_rfl) (by kernel_rfl) (fun _ _ _ h => h) (rIndexAddr1 (e := 3) rfl (by kernel_rfl) (by kernel_rfl) rfl rfl (by omega)) ?_
        refine anyVal (i := 5) (.int .i64 ((p : Nat) : Int)) rfl rfl rfl (by kernel_rfl) (by kernel_rfl) (fun _ _ _ h => h) (rLoadW rfl rfl (by kernel_rfl) (fun w hM => by have h : (cRow a8 ((placesL n seed key).map (Value.int .i64))).holds w := hM.at (i := 4) rfl; rw [HP.out, Nat.zero_add]; exact h.2 k _ (pl3_get n seed key k hlt))) ?_
        refine anyVal (i := 6) (.agg ((cc.add key num hh).cells).toArray) rfl rfl rfl (by kernel_rfl) (by kernel_rfl) (fun _ _ _ h => h) (rLoadA (cc.add key num hh).cells rfl rfl (by kernel_rfl) (by rw [hal]; kernel_rfl) (segAt (i := 5) rfl (fun j v hj => by rw [Nat.zero_add]; exact hj))) ?_
        refine anyVal (i := 7) (.pointer (some ⟨g, 0 + p * 34, none⟩)) rfl rfl rfl (by kernel_rfl) (by kernel_rfl) (fun _ _ _ h => h) (rIndexAddr (e := 95) (sz := 34) rfl (by kernel_rfl) (by kernel_rfl) rfl rfl (by omega)) ?_
        refine anyOne (i := 8) (by kernel_rfl) rfl rfl ?_
        refine opStoreN 2 (tcells (cl.set p (cc.add key num hh)) ++ rest) (vs := (cc.add key num hh).cells) rfl rfl (by kernel_rfl) rfl rfl rfl (by rw [hal]; kernel_rfl) rfl (by rw [hal, List.length_append, tcells_len hok, hlen]; omega) (BC.cells_one _) (by rw [hal, Nat.zero_add]; exact (tcells_put hok rest p cc hc _).symm) ?_
        refine anyLast (by kernel_rfl) rfl ?_
        refine qBlock ?_
        refine qThen ?_
        have hplace : p = bplace (t.atN key num k).cells.length (t.atN key num k).seed key k := by rw [HP.out, BT.atN_len, BT.atN_seed, HN.out, HS.out]
        have hcells : (t.atN key num (k + 1)).cells = cl.set p (cc.add key num hh) := by
          show ((t.atN key num k).at1 key num k).cells = _
          rw [BT.at1_cells _ key num k cc (by rw [← hplace, ← HCL2.out]; exact hc), ← hplace, ← HCL2.out, BT.atN_seed, HHH.out, HS.out]
        refine St.mem (cs' := [cAt b3 53 [(.int .u64 ((seed : Nat) : Int)), (.slice (some ⟨g0, 0, none⟩) (n) (c0))], cAt b6 53 [(.int .u64 0), (.slice none 0 0)], cAt g 95 (tcells (t.atN key num (k + 1)).cells ++ rest), cAt b7 53 [(.int .u64 ((seed : Nat) : Int)), (.slice (some ⟨g, 0, none⟩) (n) (c17))], cRow a8 ((placesL n seed key).map (Value.int .i64)), cAt b10 95 ((cc.add key num hh).cells)]) (fun w hM => by rw [hcells]; exact hM) ?_
        refine reg ?_
        refine li rfl (opVal (.int .i64 ((k : Nat) : Int)) rfl (by kernel_rfl) (rMove rfl rfl) ?_)
        refine li rfl (opVal (.int .i64 ((k + 1 : Nat) : Int)) rfl (by kernel_rfl) (rAdd _ rfl rfl rfl (by omega) (by omega) (by omega)) ?_)
        refine li rfl (opVal (.int .i64 ((k + 1 : Nat) : Int)) rfl (by kernel_rfl) (rAssign rfl rfl) ?_)
        refine liNil ?_
        refine qThen ?_
        exact stAgain (k + 1) (by show _ ≤ _; omega) (by show 3 - (k + 1) < 3 - k; omega) ⟨rfl, rfl, rfl, rfl, rfl, rfl, rfl, trivial⟩ (fun _ h => h.sub (.cons_cons _ (.cons_cons _ (.cons_cons _ (.cons_cons _ (.cons_cons _ (.cons _ .slnil)))))))
    · have hd27 := of_decide_eq_false hc27
      obtain rfl : k = 3 := by omega
      refine stExit ?_
      refine qThenX ?_
      refine qThenX ?_
      refine qBlockX ?_
      refine qThen ?_
      refine stSeq ?_
      refine reg ?_
      refine li rfl (opVal (.agg #[(.int .u64 ((seed : Nat) : Int)), (.slice (some ⟨g, 0, none⟩) (n) (c17))]) rfl (by kernel_rfl) (rLoadA [(.int .u64 ((seed : Nat) : Int)), (.slice (some ⟨g, 0, none⟩) (n) (c17))] rfl rfl (by kernel_rfl) (by kernel_rfl) (segAt (i := 3) rfl (by intro j v hj; first | (rw [Nat.zero_add]; exact hj) | (match j, hj with | 0, h => exact h | 1, h => exact h)))) ?_)
      refine li rfl ?_
      refine opStoreN 1 [(.int .u64 ((seed : Nat) : Int)), (.slice (some ⟨g, 0, none⟩) (n) (c17))] (vs := [(.int .u64 ((seed : Nat) : Int)), (.slice (some ⟨g, 0, none⟩) (n) (c17))]) rfl rfl (by kernel_rfl) rfl rfl rfl (by kernel_rfl) rfl (by simp) (by simp [Value.oneCell']) rfl ?_
      refine liNil ?_
      refine qThen ?_
      refine stRet ?_
      refine stEnd [(.agg #[(.int .u64 ((seed : Nat) : Int)), (.slice (some ⟨g, 0, none⟩) (n) (c17))])] rfl ⟨⟨_, rfl, fun w hM => run_loadVarA (by kernel_rfl) (by kernel_rfl) (segAt (i := 1) (off := 0) rfl (by intro j v hj; rw [Nat.zero_add]; exact hj) w hM)⟩, trivial⟩ (fun w hM => ?_)
      refine ⟨g, c17, rest, rfl, hM.lo (i := 2) rfl (by simp [cAt]), hM.fr, ⟨hM.at (i := 2) rfl, BT.Ok.atN H.out.1.ok H.out.2 num 3, ?_, ?_⟩⟩
      · rw [← BT.atN_three, BT.atN_len]; exact H.out.1.size
      · rw [← BT.atN_three, BT.atN_len, ← HN.out]; exact hleA17

end Go.Proofs.YtnhagokkamobaaaDoor
