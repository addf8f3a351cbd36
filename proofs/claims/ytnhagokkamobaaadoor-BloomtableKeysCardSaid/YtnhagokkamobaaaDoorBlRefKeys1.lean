/- Contracts of the reference of layer 39: pure, insert. -/
import Derived.Test.YtnhagokkamobaaaDoorBlCh
import Derived.Test.YtnhagokkamobaaaDoorBlKeysPlain
import Derived.Test.YtnhagokkamobaaaDoorHoareS
namespace Go.Proofs.YtnhagokkamobaaaDoor
open Go.RowKit

def refFirst (t : BT) : Int := match t.first with | some i => (i : Int) | none => -1
theorem refFirst_some {t : BT} {i : Nat} (h : t.first = some i) : refFirst t = (i : Int) := by unfold refFirst; rw [h]
theorem refFirst_none {t : BT} (h : t.first = none) : refFirst t = -1 := by unfold refFirst; rw [h]
theorem pure_none_succ {t : BT} {seed i : Nat} {cc : BC} (h : ∀ j x, j < i → t.cells[j]? = some x → x.pure seed = false) (hc : t.cells[i]? = some cc) (hp : cc.pure seed = false) : ∀ j x, j < i + 1 → t.cells[j]? = some x → x.pure seed = false := by
  intro j x hj hx
  rcases Nat.lt_or_ge j i with h1 | h1
  · exact h j x h1 hx
  · obtain rfl : j = i := by omega
    rw [hc] at hx
    cases hx
    exact hp
theorem pure_no_checks {seed : Nat} {c : BC} (h : c.checks ≠ bhash seed 3 c.keys) : c.pure seed = false := by simp [BC.pure, h]
theorem pure_no_count {seed : Nat} {c : BC} (h1 : c.count ≠ 1) (h2 : c.count ≠ -1) : c.pure seed = false := by simp [BC.pure, h1, h2]
theorem pure_yes {seed : Nat} {c : BC} (h1 : c.count = 1 ∨ c.count = -1) (h2 : c.checks = bhash seed 3 c.keys) : c.pure seed = true := by
  simp only [BC.pure, Bool.and_eq_true, Bool.or_eq_true, decide_eq_true_eq]
  exact ⟨h1, h2⟩
theorem first_none {t : BT} (h : ∀ j x, j < t.cells.length → t.cells[j]? = some x → x.pure t.seed = false) : t.first = none := by
  unfold BT.first
  rw [List.findIdx?_eq_none_iff]
  intro x hx
  obtain ⟨j, hj, rfl⟩ := List.mem_iff_getElem.1 hx
  simpa using h j _ hj (List.getElem?_eq_getElem hj)
theorem first_hit {t : BT} {i : Nat} {cc : BC} (h : ∀ j x, j < i → t.cells[j]? = some x → x.pure t.seed = false) (hc : t.cells[i]? = some cc) (hp : cc.pure t.seed = true) : t.first = some i := by
  unfold BT.first
  rw [List.findIdx?_eq_some_iff_getElem]
  obtain ⟨h1, h2⟩ := List.getElem?_eq_some_iff.1 hc
  refine ⟨h1, by rw [h2]; exact hp, fun j hj => ?_⟩
  have := h j _ hj (List.getElem?_eq_getElem (by omega))
  simpa using this

set_option maxRecDepth 100000 in
set_option maxHeartbeats 1000000 in
theorem refPure_any (g cap : Nat) (rest : List Value) (t : BT) (n seed : Nat) (w : World) (ht : RTab w g cap rest t) (hn : n = t.cells.length) (hs : seed = t.seed) :
    Calls Tryd.prog 52 #[(.agg #[(.int .u64 ((seed : Nat) : Int)), (.slice (some ⟨g, 0, none⟩) (n) (cap))])] w fun e w' => e = .returned (Value.int .i64 (refFirst t)) ∧ Fr [] w w' := by
  have HN := Lib.hid hn
  have HS := Lib.hid hs
  have HT := Lib.hid ht
  have n4 : n ≤ 3072 := by rw [HN.out]; exact (isSz_bounds ht.size).2.1
  clear hn hs ht
  refine stEnter (args := [(.agg #[(.int .u64 ((seed : Nat) : Int)), (.slice (some ⟨g, 0, none⟩) (n) (cap))])]) [] Tryd.func52 rfl 37 rfl [(0, (.agg #[(.int .u64 ((seed : Nat) : Int)), (.slice (some ⟨g, 0, none⟩) (n) (cap))]))] ⟨rfl, trivial⟩ [] (Mm.start w []) ?_
  refine stSeq ?_
  refine reg ?_
  refine li rfl ?_
  refine opBox [(.int .u64 ((seed : Nat) : Int)), (.slice (some ⟨g, 0, none⟩) (n) (cap))] rfl rfl (by kernel_rfl) rfl rfl (fun b1 => ?_)
  refine li rfl (opVal (.int .i64 0) rfl (by kernel_rfl) (rAssign rfl rfl) ?_)
  refine liNil ?_
  refine qThen ?_
  refine stSeq ?_
  refine stSeq ?_
  refine reg ?_
  refine li rfl (opVal (.int .i64 0) rfl (by kernel_rfl) (rAssign rfl rfl) ?_)
  refine liNil ?_
  refine qThen ?_
  refine stBlock ?_
  refine stLoop (ι := Nat) (fun i => i ≤ n ∧ ∀ j x, j < i → t.cells[j]? = some x → x.pure seed = false) (fun i => n - i) (fun i => [(1, (.pointer (some ⟨b1, 0, none⟩))), (3, (.int .i64 ((i : Nat) : Int)))]) (fun i => [cAt b1 53 [(.int .u64 ((seed : Nat) : Int)), (.slice (some ⟨g, 0, none⟩) (n) (cap))]]) 0 ⟨by omega, fun j x hj => by omega⟩ ⟨rfl, rfl, trivial⟩ (fun _ h => h) ?_
  intro i hok
  show St _ _ _ [(1, (.pointer (some ⟨b1, 0, none⟩))), (3, (.int .i64 ((i : Nat) : Int)))] [cAt b1 53 [(.int .u64 ((seed : Nat) : Int)), (.slice (some ⟨g, 0, none⟩) (n) (cap))]] _
  refine stSeq ?_
  refine stSeq ?_
  refine reg ?_
  refine li rfl (opVal (.int .i64 ((i : Nat) : Int)) rfl (by kernel_rfl) (rMove rfl rfl) ?_)
  refine li rfl (opVal (.pointer (some ⟨b1, 1, none⟩)) rfl (by kernel_rfl) (rClosed fun _ => by kernel_rfl) ?_)
  refine li rfl (opVal (.slice (some ⟨g, 0, none⟩) (n) (cap)) rfl (by kernel_rfl) (rLoad 0 rfl rfl (by kernel_rfl) rfl rfl) ?_)
  refine li rfl (opVal (.int .i64 ((n : Nat) : Int)) rfl (by kernel_rfl) (rClosed fun _ => by kernel_rfl) ?_)
  refine li rfl (opVal (.bool (decide (((i : Nat) : Int) < ((n : Nat) : Int)))) rfl (by kernel_rfl) (rClosed fun _ => by kernel_rfl) ?_)
  refine liNil ?_
  refine qThen ?_
  refine stCond rfl (fun hc9 => ?_) (fun hc9 => ?_)
  · have hd9 := of_decide_eq_true hc9
    have hle := hok.1
    obtain ⟨cc, hc⟩ : ∃ cc, t.cells[i]? = some cc := ⟨_, List.getElem?_eq_getElem (by rw [← HN.out]; omega)⟩
    have hlt : i < n := by omega
    have hcok := HT.out.ok.cells cc (List.mem_of_getElem? hc)
    have hclen := BC.cells_len hcok
    refine stSkip ?_
    refine qThen ?_
    refine stSeq ?_
    refine stBlock ?_
    refine stSeq ?_
    refine reg ?_
    refine li rfl (opVal (.pointer (some ⟨b1, 1, none⟩)) rfl (by kernel_rfl) (rClosed fun _ => by kernel_rfl) ?_)
    refine li rfl (opVal (.slice (some ⟨g, 0, none⟩) (n) (cap)) rfl (by kernel_rfl) (rLoad 0 rfl rfl (by kernel_rfl) rfl rfl) ?_)
    refine li rfl (opVal (.int .i64 ((i : Nat) : Int)) rfl (by kernel_rfl) (rMove rfl rfl) ?_)
    refine li rfl (opVal (.pointer (some ⟨g, 0 + i * 34, none⟩)) rfl (by kernel_rfl) (rIndexAddr (e := 95) (sz := 34) rfl (by kernel_rfl) (by kernel_rfl) rfl rfl (by omega)) ?_)
    refine li rfl (opVal (.agg (cc.cells).toArray) rfl (by kernel_rfl) (rLoadA cc.cells rfl rfl (by kernel_rfl) (by rw [hclen]; kernel_rfl) (fun w hM j v hj => by rw [Nat.zero_add]; exact hM.old (refCell HT.out hc j v hj) (by simp))) ?_)
    refine li rfl ?_
    refine opAlloc [(.int .i64 0), (.int .u8 0), (.int .u8 0), (.int .u8 0), (.int .u8 0), (.int .u8 0), (.int .u8 0), (.int .u8 0), (.int .u8 0), (.int .u8 0), (.int .u8 0), (.int .u8 0), (.int .u8 0), (.int .u8 0), (.int .u8 0), (.int .u8 0), (.int .u8 0), (.int .u8 0), (.int .u8 0), (.int .u8 0), (.int .u8 0), (.int .u8 0), (.int .u8 0), (.int .u8 0), (.int .u8 0), (.int .u8 0), (.int .u8 0), (.int .u8 0), (.int .u8 0), (.int .u8 0), (.int .u8 0), (.int .u8 0), (.int .u8 0), (.int .u64 0)] rfl rfl (by kernel_rfl) (by kernel_rfl) (fun b4 => ?_)
    refine li rfl ?_
    refine opStoreN 1 cc.cells (vs := cc.cells) rfl rfl (by kernel_rfl) rfl rfl rfl (by rw [hclen]; kernel_rfl) rfl (by rw [hclen]; decide) (BC.cells_one cc) (store_all (by rw [hclen]; rfl)) ?_
    refine liNil ?_
    refine qThen ?_
    refine stSeq ?_
    refine anyBegin [cAt b1 53 [(.int .u64 ((seed : Nat) : Int)), (.slice (some ⟨g, 0, none⟩) (n) (cap))], cAt b4 95 (cc.cells)] 19 (by kernel_rfl) (fun _ h => h) ?_
    refine anyVal (i := 0) (.pointer (some ⟨b4, 0, none⟩)) rfl rfl rfl (by kernel_rfl) (by kernel_rfl) (fun _ _ _ h => h) (rClosed fun _ => by kernel_rfl) ?_
    refine anyVal (i := 1) (.int .i64 cc.count) rfl rfl rfl (by kernel_rfl) (by kernel_rfl) (fun _ _ _ h => h) (rLoad 1 rfl rfl (by kernel_rfl) rfl (cells_get0 cc)) ?_
    refine anyVal (i := 2) (.bool ((cc.count : Int) == 1)) rfl rfl rfl (by kernel_rfl) (by kernel_rfl) (fun _ _ _ h => h) (rClosed fun _ => by kernel_rfl) ?_
    refine anyVal (i := 3) (.bool ((cc.count : Int) == 1)) rfl rfl rfl (by kernel_rfl) (by kernel_rfl) (fun _ _ _ h => h) (rMove rfl rfl) ?_
    refine Any.dec 20 rfl (fun hc20 => ?_) (fun hc20 => ?_)
    · refine anyNot (i := 4) (b := true) rfl rfl rfl rfl (by kernel_rfl) (by kernel_rfl) (fun _ _ _ h => h) ?_
      refine anyNot (i := 5) (b := true) rfl rfl rfl rfl (by kernel_rfl) (by kernel_rfl) (fun _ _ _ h => h) ?_
      refine anyNot (i := 6) (b := true) rfl rfl rfl rfl (by kernel_rfl) (by kernel_rfl) (fun _ _ _ h => h) ?_
      refine anyVal (i := 7) (.bool true) rfl rfl rfl (by kernel_rfl) (by kernel_rfl) (fun _ _ _ h => h) (rClosed fun _ => by kernel_rfl) ?_
      refine anyVal (i := 8) (.bool true) rfl rfl rfl (by kernel_rfl) (by kernel_rfl) (fun _ _ _ h => h) (rMove rfl rfl) ?_
      refine anyValG (i := 9) (.pointer (some ⟨b4, 33, none⟩)) rfl rfl rfl rfl (by kernel_rfl) (by kernel_rfl) (fun _ _ _ h => h) (rClosed fun _ => by kernel_rfl) ?_
      refine anyValG (i := 10) (.int .u64 ((cc.checks : Nat) : Int)) rfl rfl rfl rfl (by kernel_rfl) (by kernel_rfl) (fun _ _ _ h => h) (rLoad 1 rfl rfl (by kernel_rfl) rfl (cells_get33 hcok.keys)) ?_
      refine anyValG (i := 11) (.pointer (some ⟨b1, 0, none⟩)) rfl rfl rfl rfl (by kernel_rfl) (by kernel_rfl) (fun _ _ _ h => h) (rClosed fun _ => by kernel_rfl) ?_
      refine anyValG (i := 12) (.int .u64 ((seed : Nat) : Int)) rfl rfl rfl rfl (by kernel_rfl) (by kernel_rfl) (fun _ _ _ h => h) (rLoad 0 rfl rfl (by kernel_rfl) rfl rfl) ?_
      refine anyValG (i := 13) (.pointer (some ⟨b4, 1, none⟩)) rfl rfl rfl rfl (by kernel_rfl) (by kernel_rfl) (fun _ _ _ h => h) (rClosed fun _ => by kernel_rfl) ?_
      refine anyValG (i := 14) (.slice (some ⟨b4, 1, none⟩) (32) (32)) rfl rfl rfl rfl (by kernel_rfl) (by kernel_rfl) (fun _ _ _ h => h) (rClosed fun _ => by kernel_rfl) ?_
      refine anyValG (i := 15) (.string (strOf cc.keys)) rfl rfl rfl rfl (by kernel_rfl) (by kernel_rfl) (fun _ _ _ h => h) (rStr (e := 5) cc.keys rfl (by kernel_rfl) (by kernel_rfl) (by kernel_rfl) rfl hcok.keys.symm (rowAt' (i := 1) (off := 1) rfl (fun j v hj => cells_keys hj))) ?_
      refine anyOneG (i := 16) (by kernel_rfl) rfl rfl rfl ?_
      refine opCall 41 #[(.int .u64 ((seed : Nat) : Int)), (.int .i64 3), (.string (strOf cc.keys))] rfl (by kernel_rfl) (fun _ => by kernel_rfl) (fun w hM => ?_)
      refine (refHash_any seed 3 cc.keys w (by omega) (by rw [hcok.keys]; omega)).mono ?_
      rintro e w' ⟨rfl, hf⟩
      have hM' := hM.fr0 hf
      refine ⟨(.int .u64 ((bhash seed 3 cc.keys : Nat) : Int)), _, rfl, hM', ?_⟩
      clear hM hM' hf
      refine anyNext [cAt b1 53 [(.int .u64 ((seed : Nat) : Int)), (.slice (some ⟨g, 0, none⟩) (n) (cap))], cAt b4 95 (cc.cells)] (fun _ h => h) (fun _ h => h) ?_
      refine anyValG (i := 17) (.bool ((((cc.checks : Nat) : Int) : Int) == ((bhash seed 3 cc.keys : Nat) : Int))) rfl rfl rfl rfl (by kernel_rfl) (by kernel_rfl) (fun _ _ _ h => h) (rClosed fun _ => by kernel_rfl) ?_
      refine anyVal (i := 18) (.bool ((((cc.checks : Nat) : Int) : Int) == ((bhash seed 3 cc.keys : Nat) : Int))) rfl rfl rfl (by kernel_rfl) (by kernel_rfl) (fun _ _ _ h => h) (rClosed fun _ => by kernel_rfl) ?_
      refine anyDone (by kernel_rfl) ?_
      refine qThen ?_
      refine stCond rfl (fun hc35 => ?_) (fun hc35 => ?_)
      · have hp : cc.pure seed = true := pure_yes (by have h := eq_of_beq hc20; omega) (by have h := eq_of_beq hc35; omega)
        refine stSeq ?_
        refine reg ?_
        refine li rfl (opVal (.int .i64 ((i : Nat) : Int)) rfl (by kernel_rfl) (rMove rfl rfl) ?_)
        refine li rfl (opVal (.int .i64 ((i : Nat) : Int)) rfl (by kernel_rfl) (rAssign rfl rfl) ?_)
        refine liNil ?_
        refine qThen ?_
        refine stRet ?_
        refine qBlockR ?_
        refine qThenR ?_
        refine qThenR ?_
        refine qBlockR ?_
        refine qThenR ?_
        refine stEnd [(.int .i64 ((i : Nat) : Int))] rfl ⟨rfl, trivial⟩ (fun w hM => ?_)
        exact ⟨by rw [refFirst_some (first_hit (by rw [← HS.out]; exact hok.2) hc (by rw [← HS.out]; exact hp))]; rfl, hM.fr⟩
      · refine stSkip ?_
        refine qBlock ?_
        refine qThen ?_
        refine reg ?_
        refine li rfl (opVal (.int .i64 ((i : Nat) : Int)) rfl (by kernel_rfl) (rMove rfl rfl) ?_)
        refine li rfl (opVal (.int .i64 ((i + 1 : Nat) : Int)) rfl (by kernel_rfl) (rAdd _ rfl rfl rfl (by omega) (by omega) (by omega)) ?_)
        refine li rfl (opVal (.int .i64 ((i + 1 : Nat) : Int)) rfl (by kernel_rfl) (rAssign rfl rfl) ?_)
        refine liNil ?_
        refine qThen ?_
        exact stAgain (i + 1) ⟨by show _ ≤ _; omega, pure_none_succ hok.2 hc (pure_no_checks (by have h := ne_of_beq_false hc35; omega))⟩ (by show n - (i + 1) < n - i; omega) ⟨rfl, rfl, trivial⟩ (fun _ h => h.sub (.cons_cons _ (.cons _ .slnil)))
    · refine anyValG (i := 4) (.pointer (some ⟨b4, 0, none⟩)) rfl rfl rfl rfl (by kernel_rfl) (by kernel_rfl) (fun _ _ _ h => h) (rClosed fun _ => by kernel_rfl) ?_
      refine anyValG (i := 5) (.int .i64 cc.count) rfl rfl rfl rfl (by kernel_rfl) (by kernel_rfl) (fun _ _ _ h => h) (rLoad 1 rfl rfl (by kernel_rfl) rfl (cells_get0 cc)) ?_
      refine anyValG (i := 6) (.bool ((cc.count : Int) == (-1))) rfl rfl rfl rfl (by kernel_rfl) (by kernel_rfl) (fun _ _ _ h => h) (rClosed fun _ => by kernel_rfl) ?_
      refine anyVal (i := 7) (.bool ((cc.count : Int) == (-1))) rfl rfl rfl (by kernel_rfl) (by kernel_rfl) (fun _ _ _ h => h) (rClosed fun _ => by kernel_rfl) ?_
      refine anyVal (i := 8) (.bool ((cc.count : Int) == (-1))) rfl rfl rfl (by kernel_rfl) (by kernel_rfl) (fun _ _ _ h => h) (rMove rfl rfl) ?_
      refine Any.dec 25 rfl (fun hc25 => ?_) (fun hc25 => ?_)
      · refine anyValG (i := 9) (.pointer (some ⟨b4, 33, none⟩)) rfl rfl rfl rfl (by kernel_rfl) (by kernel_rfl) (fun _ _ _ h => h) (rClosed fun _ => by kernel_rfl) ?_
        refine anyValG (i := 10) (.int .u64 ((cc.checks : Nat) : Int)) rfl rfl rfl rfl (by kernel_rfl) (by kernel_rfl) (fun _ _ _ h => h) (rLoad 1 rfl rfl (by kernel_rfl) rfl (cells_get33 hcok.keys)) ?_
        refine anyValG (i := 11) (.pointer (some ⟨b1, 0, none⟩)) rfl rfl rfl rfl (by kernel_rfl) (by kernel_rfl) (fun _ _ _ h => h) (rClosed fun _ => by kernel_rfl) ?_
        refine anyValG (i := 12) (.int .u64 ((seed : Nat) : Int)) rfl rfl rfl rfl (by kernel_rfl) (by kernel_rfl) (fun _ _ _ h => h) (rLoad 0 rfl rfl (by kernel_rfl) rfl rfl) ?_
        refine anyValG (i := 13) (.pointer (some ⟨b4, 1, none⟩)) rfl rfl rfl rfl (by kernel_rfl) (by kernel_rfl) (fun _ _ _ h => h) (rClosed fun _ => by kernel_rfl) ?_
        refine anyValG (i := 14) (.slice (some ⟨b4, 1, none⟩) (32) (32)) rfl rfl rfl rfl (by kernel_rfl) (by kernel_rfl) (fun _ _ _ h => h) (rClosed fun _ => by kernel_rfl) ?_
        refine anyValG (i := 15) (.string (strOf cc.keys)) rfl rfl rfl rfl (by kernel_rfl) (by kernel_rfl) (fun _ _ _ h => h) (rStr (e := 5) cc.keys rfl (by kernel_rfl) (by kernel_rfl) (by kernel_rfl) rfl hcok.keys.symm (rowAt' (i := 1) (off := 1) rfl (fun j v hj => cells_keys hj))) ?_
        refine anyOneG (i := 16) (by kernel_rfl) rfl rfl rfl ?_
        refine opCall 41 #[(.int .u64 ((seed : Nat) : Int)), (.int .i64 3), (.string (strOf cc.keys))] rfl (by kernel_rfl) (fun _ => by kernel_rfl) (fun w hM => ?_)
        refine (refHash_any seed 3 cc.keys w (by omega) (by rw [hcok.keys]; omega)).mono ?_
        rintro e w' ⟨rfl, hf⟩
        have hM' := hM.fr0 hf
        refine ⟨(.int .u64 ((bhash seed 3 cc.keys : Nat) : Int)), _, rfl, hM', ?_⟩
        clear hM hM' hf
        refine anyNext [cAt b1 53 [(.int .u64 ((seed : Nat) : Int)), (.slice (some ⟨g, 0, none⟩) (n) (cap))], cAt b4 95 (cc.cells)] (fun _ h => h) (fun _ h => h) ?_
        refine anyValG (i := 17) (.bool ((((cc.checks : Nat) : Int) : Int) == ((bhash seed 3 cc.keys : Nat) : Int))) rfl rfl rfl rfl (by kernel_rfl) (by kernel_rfl) (fun _ _ _ h => h) (rClosed fun _ => by kernel_rfl) ?_
        refine anyVal (i := 18) (.bool ((((cc.checks : Nat) : Int) : Int) == ((bhash seed 3 cc.keys : Nat) : Int))) rfl rfl rfl (by kernel_rfl) (by kernel_rfl) (fun _ _ _ h => h) (rClosed fun _ => by kernel_rfl) ?_
        refine anyDone (by kernel_rfl) ?_
        refine qThen ?_
        refine stCond rfl (fun hc35 => ?_) (fun hc35 => ?_)
        · have hp : cc.pure seed = true := pure_yes (by have h := eq_of_beq hc25; omega) (by have h := eq_of_beq hc35; omega)
          refine stSeq ?_
          refine reg ?_
          refine li rfl (opVal (.int .i64 ((i : Nat) : Int)) rfl (by kernel_rfl) (rMove rfl rfl) ?_)
          refine li rfl (opVal (.int .i64 ((i : Nat) : Int)) rfl (by kernel_rfl) (rAssign rfl rfl) ?_)
          refine liNil ?_
          refine qThen ?_
          refine stRet ?_
          refine qBlockR ?_
          refine qThenR ?_
          refine qThenR ?_
          refine qBlockR ?_
          refine qThenR ?_
          refine stEnd [(.int .i64 ((i : Nat) : Int))] rfl ⟨rfl, trivial⟩ (fun w hM => ?_)
          exact ⟨by rw [refFirst_some (first_hit (by rw [← HS.out]; exact hok.2) hc (by rw [← HS.out]; exact hp))]; rfl, hM.fr⟩
        · refine stSkip ?_
          refine qBlock ?_
          refine qThen ?_
          refine reg ?_
          refine li rfl (opVal (.int .i64 ((i : Nat) : Int)) rfl (by kernel_rfl) (rMove rfl rfl) ?_)
          refine li rfl (opVal (.int .i64 ((i + 1 : Nat) : Int)) rfl (by kernel_rfl) (rAdd _ rfl rfl rfl (by omega) (by omega) (by omega)) ?_)
          refine li rfl (opVal (.int .i64 ((i + 1 : Nat) : Int)) rfl (by kernel_rfl) (rAssign rfl rfl) ?_)
          refine liNil ?_
          refine qThen ?_
          exact stAgain (i + 1) ⟨by show _ ≤ _; omega, pure_none_succ hok.2 hc (pure_no_checks (by have h := ne_of_beq_false hc35; omega))⟩ (by show n - (i + 1) < n - i; omega) ⟨rfl, rfl, trivial⟩ (fun _ h => h.sub (.cons_cons _ (.cons _ .slnil)))
      · refine anyNot (i := 9) (b := false) rfl rfl rfl rfl (by kernel_rfl) (by kernel_rfl) (fun _ _ _ h => h) ?_
        refine anyNot (i := 10) (b := false) rfl rfl rfl rfl (by kernel_rfl) (by kernel_rfl) (fun _ _ _ h => h) ?_
        refine anyNot (i := 11) (b := false) rfl rfl rfl rfl (by kernel_rfl) (by kernel_rfl) (fun _ _ _ h => h) ?_
        refine anyNot (i := 12) (b := false) rfl rfl rfl rfl (by kernel_rfl) (by kernel_rfl) (fun _ _ _ h => h) ?_
        refine anyNot (i := 13) (b := false) rfl rfl rfl rfl (by kernel_rfl) (by kernel_rfl) (fun _ _ _ h => h) ?_
        refine anyNot (i := 14) (b := false) rfl rfl rfl rfl (by kernel_rfl) (by kernel_rfl) (fun _ _ _ h => h) ?_
        refine anyNot (i := 15) (b := false) rfl rfl rfl rfl (by kernel_rfl) (by kernel_rfl) (fun _ _ _ h => h) ?_
        refine anyNot (i := 16) (b := false) rfl rfl rfl rfl (by kernel_rfl) (by kernel_rfl) (fun _ _ _ h => h) ?_
        refine anyNot (i := 17) (b := false) rfl rfl rfl rfl (by kernel_rfl) (by kernel_rfl) (fun _ _ _ h => h) ?_
        refine anyVal (i := 18) (.bool false) rfl rfl rfl (by kernel_rfl) (by kernel_rfl) (fun _ _ _ h => h) (rClosed fun _ => by kernel_rfl) ?_
        refine anyDone (by kernel_rfl) ?_
        refine qThen ?_
        refine stFalse rfl ?_
        refine stSkip ?_
        refine qBlock ?_
        refine qThen ?_
        refine reg ?_
        refine li rfl (opVal (.int .i64 ((i : Nat) : Int)) rfl (by kernel_rfl) (rMove rfl rfl) ?_)
        refine li rfl (opVal (.int .i64 ((i + 1 : Nat) : Int)) rfl (by kernel_rfl) (rAdd _ rfl rfl rfl (by omega) (by omega) (by omega)) ?_)
        refine li rfl (opVal (.int .i64 ((i + 1 : Nat) : Int)) rfl (by kernel_rfl) (rAssign rfl rfl) ?_)
        refine liNil ?_
        refine qThen ?_
        exact stAgain (i + 1) ⟨by show _ ≤ _; omega, pure_none_succ hok.2 hc (pure_no_count (by have h := ne_of_beq_false hc20; omega) (by have h := ne_of_beq_false hc25; omega))⟩ (by show n - (i + 1) < n - i; omega) ⟨rfl, rfl, trivial⟩ (fun _ h => h.sub (.cons_cons _ (.cons _ .slnil)))
  · have hd9 := of_decide_eq_false hc9
    have hle := hok.1
    have hin : i = n := by omega
    have hnone : t.first = none := first_none (by rw [← HS.out, ← HN.out, ← hin]; exact hok.2)
    refine stExit ?_
    refine qThenX ?_
    refine qThenX ?_
    refine qBlockX ?_
    refine qThen ?_
    refine stSeq ?_
    refine reg ?_
    refine li rfl (opVal (.int .i64 (-1)) rfl (by kernel_rfl) (rAssign rfl rfl) ?_)
    refine liNil ?_
    refine qThen ?_
    refine stRet ?_
    refine stEnd [(.int .i64 (-1))] rfl ⟨rfl, trivial⟩ (fun w hM => ?_)
    exact ⟨by rw [refFirst_none hnone]; rfl, hM.fr⟩

set_option maxRecDepth 100000 in
set_option maxHeartbeats 1000000 in
theorem refInsert_found (A : Option Addr) (c : Nat) (l : List Key8) (p : Key8) (w : World) (hr : RowIn w A (l.map S8v)) (hl : l.length ≤ 1000000) (hfound : insF l p = true) :
    Calls Tryd.prog 53 #[.slice A l.length c, .string (strOf p)] w fun e w' => e = .returned (.tuple #[.slice A l.length c, .bool true]) ∧ Fr [] w w' := by
  have HR := Lib.hid hr
  have hple := insPos_le l p
  clear hr
  refine stEnter (args := [.slice A l.length c, .string (strOf p)]) [] Tryd.func53 rfl 46 rfl [(0, .slice A l.length c), (1, .string (strOf p))] ⟨rfl, rfl, trivial⟩ [] (Mm.start w []) ?_
  refine stSeq ?_
  refine reg ?_
  refine li rfl (opVal (.slice none 0 0) rfl (by kernel_rfl) (rAssign rfl rfl) ?_)
  refine li rfl (opVal (.bool false) rfl (by kernel_rfl) (rAssign rfl rfl) ?_)
  refine liNil ?_
  refine qThen ?_
  refine stSeq ?_
  refine reg ?_
  refine li rfl (opVal (.int .i64 0) rfl (by kernel_rfl) (rAssign rfl rfl) ?_)
  refine liNil ?_
  refine qThen ?_
  refine stSeq ?_
  refine stBlock ?_
  refine stLoop (ι := Nat) (fun k => k ≤ insPos l p) (fun k => insPos l p - k) (fun k => [(0, (.slice A (l.length) (c))), (1, (.string (strOf p))), (6, (.int .i64 ((k : Nat) : Int)))]) (fun k => []) 0 (Nat.zero_le _) ⟨rfl, rfl, rfl, trivial⟩ (fun _ h => h) ?_
  intro k (hk : k ≤ insPos l p)
  show St _ _ _ [(0, (.slice A (l.length) (c))), (1, (.string (strOf p))), (6, (.int .i64 ((k : Nat) : Int)))] [] _
  refine stSeq ?_
  refine stSeq ?_
  refine reg ?_
  refine li rfl (opVal (.int .i64 ((k : Nat) : Int)) rfl (by kernel_rfl) (rMove rfl rfl) ?_)
  refine li rfl (opVal (.slice A (l.length) (c)) rfl (by kernel_rfl) (rMove rfl rfl) ?_)
  refine li rfl (opVal (.int .i64 ((l.length : Nat) : Int)) rfl (by kernel_rfl) (rClosed fun _ => by kernel_rfl) ?_)
  refine li rfl (opVal (.bool (decide (((k : Nat) : Int) < ((l.length : Nat) : Int)))) rfl (by kernel_rfl) (rClosed fun _ => by kernel_rfl) ?_)
  refine li rfl (opVal (.bool (decide (((k : Nat) : Int) < ((l.length : Nat) : Int)))) rfl (by kernel_rfl) (rMove rfl rfl) ?_)
  refine St.dec 11 rfl (fun hc11 => ?_) (fun hc11 => ?_)
  · have hd11 := of_decide_eq_true hc11
    have hlt : k < l.length := by omega
    obtain ⟨x, hx⟩ : ∃ x, l[k]? = some x := ⟨_, List.getElem?_eq_getElem hlt⟩
    obtain ⟨b, o, hA, hbl, hck⟩ := HR.out k (S8v x) (by rw [List.getElem?_map, hx]; rfl)
    subst hA
    refine liGo rfl rfl (opVal (.slice (some ⟨b, o, none⟩) (l.length) (c)) rfl (by kernel_rfl) (rMove rfl rfl) ?_)
    refine liGo rfl rfl (opVal (.int .i64 ((k : Nat) : Int)) rfl (by kernel_rfl) (rMove rfl rfl) ?_)
    refine liGo rfl rfl (opVal (.pointer (some ⟨b, o + k, none⟩)) rfl (by kernel_rfl) (rIndexAddr1 (e := 9) rfl (by kernel_rfl) (by kernel_rfl) rfl rfl (by omega)) ?_)
    refine liGo rfl rfl (opVal (.string (strOf x)) rfl (by kernel_rfl) (rLoadW rfl rfl (by kernel_rfl) (fun w hM => hM.old hck (by simp))) ?_)
    refine liGo rfl rfl (opVal (.string (strOf p)) rfl (by kernel_rfl) (rMove rfl rfl) ?_)
    refine liGo rfl rfl (opVal (.bool (decide (x < p))) rfl (by kernel_rfl) (rStrLt rfl rfl rfl) ?_)
    refine li rfl (opVal (.bool (decide (x < p))) rfl (by kernel_rfl) (rClosed fun _ => by kernel_rfl) ?_)
    refine liNil ?_
    refine qThen ?_
    refine stCond rfl (fun hc18 => ?_) (fun hc18 => ?_)
    · have hd18 := of_decide_eq_true hc18
      have hstep := (insPos_step hk hx).1 hd18
      refine stSkip ?_
      refine qThen ?_
      refine stBlock ?_
      refine reg ?_
      refine li rfl (opVal (.int .i64 ((k : Nat) : Int)) rfl (by kernel_rfl) (rMove rfl rfl) ?_)
      refine li rfl (opVal (.int .i64 ((k + 1 : Nat) : Int)) rfl (by kernel_rfl) (rAdd _ rfl rfl rfl (by omega) (by omega) (by omega)) ?_)
      refine li rfl (opVal (.int .i64 ((k + 1 : Nat) : Int)) rfl (by kernel_rfl) (rAssign rfl rfl) ?_)
      refine liNil ?_
      refine qBlock ?_
      refine qThen ?_
      exact stAgain (k + 1) (by show _ ≤ _; omega) (by show insPos l p - (k + 1) < insPos l p - k; omega) ⟨rfl, rfl, rfl, trivial⟩ (fun _ h => h)
    · have hd18 := of_decide_eq_false hc18
      have hend : k = insPos l p := by have := mt (insPos_step hk hx).2 hd18; omega
      refine stExit ?_
      refine qThenX ?_
      refine qThenX ?_
      refine qBlockX ?_
      refine qThen ?_
      refine stSeq ?_
      refine stSeq ?_
      refine reg ?_
      refine li rfl (opVal (.int .i64 ((k : Nat) : Int)) rfl (by kernel_rfl) (rMove rfl rfl) ?_)
      refine li rfl (opVal (.slice (some ⟨b, o, none⟩) (l.length) (c)) rfl (by kernel_rfl) (rMove rfl rfl) ?_)
      refine li rfl (opVal (.int .i64 ((l.length : Nat) : Int)) rfl (by kernel_rfl) (rClosed fun _ => by kernel_rfl) ?_)
      refine li rfl (opVal (.bool (decide (((k : Nat) : Int) < ((l.length : Nat) : Int)))) rfl (by kernel_rfl) (rClosed fun _ => by kernel_rfl) ?_)
      refine li rfl (opVal (.bool (decide (((k : Nat) : Int) < ((l.length : Nat) : Int)))) rfl (by kernel_rfl) (rMove rfl rfl) ?_)
      refine St.dec 25 rfl (fun hc25 => ?_) (fun hc25 => ?_)
      · have hd25 := of_decide_eq_true hc25
        have hxp : x = p := by have h := hfound; rw [insF, decide_eq_true_eq, ← hend, hx] at h; exact Option.some.inj h
        subst hxp
        refine liGo rfl rfl (opVal (.slice (some ⟨b, o, none⟩) (l.length) (c)) rfl (by kernel_rfl) (rMove rfl rfl) ?_)
        refine liGo rfl rfl (opVal (.int .i64 ((k : Nat) : Int)) rfl (by kernel_rfl) (rMove rfl rfl) ?_)
        refine liGo rfl rfl (opVal (.pointer (some ⟨b, o + k, none⟩)) rfl (by kernel_rfl) (rIndexAddr1 (e := 9) rfl (by kernel_rfl) (by kernel_rfl) rfl rfl (by omega)) ?_)
        refine liGo rfl rfl (opVal (.string (strOf x)) rfl (by kernel_rfl) (rLoadW rfl rfl (by kernel_rfl) (fun w hM => hM.old hck (by simp))) ?_)
        refine liGo rfl rfl (opVal (.string (strOf x)) rfl (by kernel_rfl) (rMove rfl rfl) ?_)
        refine liGo rfl rfl (opVal (.bool true) rfl (by kernel_rfl) (rConv (rStrEq rfl rfl rfl) (by simp)) ?_)
        refine li rfl (opVal (.bool true) rfl (by kernel_rfl) (rClosed fun _ => by kernel_rfl) ?_)
        refine liNil ?_
        refine qThen ?_
        refine stTrue rfl ?_
        refine stSeq ?_
        refine reg ?_
        refine li rfl (opVal (.slice (some ⟨b, o, none⟩) (l.length) (c)) rfl (by kernel_rfl) (rMove rfl rfl) ?_)
        refine li rfl (opVal (.slice (some ⟨b, o, none⟩) (l.length) (c)) rfl (by kernel_rfl) (rAssign rfl rfl) ?_)
        refine li rfl (opVal (.bool true) rfl (by kernel_rfl) (rAssign rfl rfl) ?_)
        refine liNil ?_
        refine qThen ?_
        refine stRet ?_
        refine qThenR ?_
        refine stEnd [(.slice (some ⟨b, o, none⟩) (l.length) (c)), (.bool true)] rfl ⟨rfl, rfl, trivial⟩ (fun w hM => ?_)
        exact ⟨rfl, hM.fr⟩
      · have hd25 := of_decide_eq_false hc25
        exfalso
        have h := hfound
        rw [insF, decide_eq_true_eq, ← hend, List.getElem?_eq_none (by simpa using hc25)] at h
        cases h
  · have hd11 := of_decide_eq_false hc11
    have hend := insPos_end hk (by simpa using hc11)
    refine liNot (b := false) rfl rfl (by kernel_rfl) rfl ?_
    refine liNot (b := false) rfl rfl (by kernel_rfl) rfl ?_
    refine liNot (b := false) rfl rfl (by kernel_rfl) rfl ?_
    refine liNot (b := false) rfl rfl (by kernel_rfl) rfl ?_
    refine liNot (b := false) rfl rfl (by kernel_rfl) rfl ?_
    refine liNot (b := false) rfl rfl (by kernel_rfl) rfl ?_
    refine li rfl (opVal (.bool false) rfl (by kernel_rfl) (rClosed fun _ => by kernel_rfl) ?_)
    refine liNil ?_
    refine qThen ?_
    refine stFalse rfl ?_
    refine stExit ?_
    refine qThenX ?_
    refine qThenX ?_
    refine qBlockX ?_
    refine qThen ?_
    refine stSeq ?_
    refine stSeq ?_
    refine reg ?_
    refine li rfl (opVal (.int .i64 ((k : Nat) : Int)) rfl (by kernel_rfl) (rMove rfl rfl) ?_)
    refine li rfl (opVal (.slice A (l.length) (c)) rfl (by kernel_rfl) (rMove rfl rfl) ?_)
    refine li rfl (opVal (.int .i64 ((l.length : Nat) : Int)) rfl (by kernel_rfl) (rClosed fun _ => by kernel_rfl) ?_)
    refine li rfl (opVal (.bool (decide (((k : Nat) : Int) < ((l.length : Nat) : Int)))) rfl (by kernel_rfl) (rClosed fun _ => by kernel_rfl) ?_)
    refine li rfl (opVal (.bool (decide (((k : Nat) : Int) < ((l.length : Nat) : Int)))) rfl (by kernel_rfl) (rMove rfl rfl) ?_)
    refine St.dec 25 rfl (fun hc25 => ?_) (fun hc25 => ?_)
    · have hd25 := of_decide_eq_true hc25
      have hlt : k < l.length := by omega
      obtain ⟨x, hx⟩ : ∃ x, l[k]? = some x := ⟨_, List.getElem?_eq_getElem hlt⟩
      obtain ⟨b, o, hA, hbl, hck⟩ := HR.out k (S8v x) (by rw [List.getElem?_map, hx]; rfl)
      subst hA
      have hxp : x = p := by have h := hfound; rw [insF, decide_eq_true_eq, ← hend, hx] at h; exact Option.some.inj h
      subst hxp
      refine liGo rfl rfl (opVal (.slice (some ⟨b, o, none⟩) (l.length) (c)) rfl (by kernel_rfl) (rMove rfl rfl) ?_)
      refine liGo rfl rfl (opVal (.int .i64 ((k : Nat) : Int)) rfl (by kernel_rfl) (rMove rfl rfl) ?_)
      refine liGo rfl rfl (opVal (.pointer (some ⟨b, o + k, none⟩)) rfl (by kernel_rfl) (rIndexAddr1 (e := 9) rfl (by kernel_rfl) (by kernel_rfl) rfl rfl (by omega)) ?_)
      refine liGo rfl rfl (opVal (.string (strOf x)) rfl (by kernel_rfl) (rLoadW rfl rfl (by kernel_rfl) (fun w hM => hM.old hck (by simp))) ?_)
      refine liGo rfl rfl (opVal (.string (strOf x)) rfl (by kernel_rfl) (rMove rfl rfl) ?_)
      refine liGo rfl rfl (opVal (.bool true) rfl (by kernel_rfl) (rConv (rStrEq rfl rfl rfl) (by simp)) ?_)
      refine li rfl (opVal (.bool true) rfl (by kernel_rfl) (rClosed fun _ => by kernel_rfl) ?_)
      refine liNil ?_
      refine qThen ?_
      refine stTrue rfl ?_
      refine stSeq ?_
      refine reg ?_
      refine li rfl (opVal (.slice (some ⟨b, o, none⟩) (l.length) (c)) rfl (by kernel_rfl) (rMove rfl rfl) ?_)
      refine li rfl (opVal (.slice (some ⟨b, o, none⟩) (l.length) (c)) rfl (by kernel_rfl) (rAssign rfl rfl) ?_)
      refine li rfl (opVal (.bool true) rfl (by kernel_rfl) (rAssign rfl rfl) ?_)
      refine liNil ?_
      refine qThen ?_
      refine stRet ?_
      refine qThenR ?_
      refine stEnd [(.slice (some ⟨b, o, none⟩) (l.length) (c)), (.bool true)] rfl ⟨rfl, rfl, trivial⟩ (fun w hM => ?_)
      exact ⟨rfl, hM.fr⟩
    · have hd25 := of_decide_eq_false hc25
      exfalso
      have h := hfound
      rw [insF, decide_eq_true_eq, ← hend, List.getElem?_eq_none (by simpa using hc25)] at h
      cases h

end Go.Proofs.YtnhagokkamobaaaDoor
