/- Contract of Subtract. -/
import Derived.Test.YtnhagokkamobaaaDoorBlCh
import Derived.Test.YtnhagokkamobaaaDoorBlRun
namespace Go.Proofs.YtnhagokkamobaaaDoor
open Go.RowKit

theorem tabCell {w : World} {bt bc c : Nat} {rest : List Value} {t : BT} (h : TabAt w bt bc c rest t) {i : Nat} {cc : BC} (hc : t.cells[i]? = some cc) (j : Nat) (v : Value) (hj : cc.cells[j]? = some v) : w.cell? ⟨bc, i * 34 + j, none⟩ = some v := by
  have hj34 := (List.getElem?_eq_some_iff.1 hj).1
  rw [BC.cells_len (h.ok.cells cc (List.mem_of_getElem? hc))] at hj34
  rw [h.cells.cell, tcells_get h.ok.cells rest i cc hc j hj34]
  exact hj
theorem Mm.pushTwo {w0 w w' : World} {F : List Nat} {cs : List Ch} {b b' : Nat} {t t' : TypeId} {l l' : List Value} (h : Mm w0 F cs w) (hf : Fr [] w w') (h1 : At w' b t l) (h2 : At w' b' t' l') (g1 : w.heap.size ≤ b) (g2 : w.heap.size ≤ b') (hne : b ≠ b') : Mm w0 F (cs ++ [cAt b t l, cAt b' t' l']) w' := by
  refine h.lift (cs' := [cAt b t l, cAt b' t' l']) ⟨hf, ?_, ?_, ?_⟩
  · intro c hc
    rcases List.mem_cons.1 hc with rfl | hc
    · exact h1
    · rw [List.mem_singleton] at hc; subst hc; exact h2
  · simp [cAt]; exact hne
  · intro x hx
    simp [cAt] at hx
    right
    omega
theorem Mm.toTab {w0 w : World} {b b' n cap seed : Nat} {rest : List Value} {t : BT} {l : List BC} (h : Mm w0 [] [cAt b 75 [.slice (some ⟨b', 0, none⟩) n cap, .int .u64 (seed : Int)], cAt b' 85 (tcells l ++ rest)] w) (hn : t.cells.length = n) (hs : t.seed = seed) (hl : l = t.cells) (hok : t.Ok) (hz : isSz (n : Int) = true) (hc : n ≤ cap) : Mm w0 [] [cTab b b' cap rest t] w := by
  subst hn hs hl
  refine ⟨h.fr, ?_, ?_, ?_⟩
  · intro c hc'
    rw [List.mem_singleton] at hc'
    subst hc'
    exact ⟨h.at (i := 0) rfl, h.at (i := 1) rfl, hok, hz, hc⟩
  · have := h.nodup
    simpa [cTab, cAt] using this
  · intro x hx
    exact h.own x (by simpa [cTab, cAt] using hx)

set_option maxRecDepth 100000 in
set_option maxHeartbeats 1000000 in
theorem subtract_len (bt1 bc1 cap1 bt2 bc2 cap2 : Nat) (rest1 rest2 : List Value) (t u : BT) (w : World) (ht : TabAt w bt1 bc1 cap1 rest1 t) (hu : TabAt w bt2 bc2 cap2 rest2 u) (hne : t.cells.length ≠ u.cells.length) :
    Calls Tryd.prog 25 #[Value.pointer (some ⟨bt1, 0, none⟩), Value.pointer (some ⟨bt2, 0, none⟩)] w fun e w' => e = .returned (.tuple #[.pointer none, Value.int .i64 1]) ∧ Fr [] w w' := by
  have h1c : w.cell? ⟨bt1, 0, none⟩ = some (.slice (some ⟨bc1, 0, none⟩) t.cells.length cap1) := by rw [ht.tab.cell]; rfl
  have h1s : w.cell? ⟨bt1, 1, none⟩ = some (.int .u64 (t.seed : Int)) := by rw [ht.tab.cell]; rfl
  have h2c : w.cell? ⟨bt2, 0, none⟩ = some (.slice (some ⟨bc2, 0, none⟩) u.cells.length cap2) := by rw [hu.tab.cell]; rfl
  have h2s : w.cell? ⟨bt2, 1, none⟩ = some (.int .u64 (u.seed : Int)) := by rw [hu.tab.cell]; rfl
  obtain ⟨n, HN⟩ : ∃ n, Hid (n = t.cells.length) := ⟨_, rfl⟩
  obtain ⟨seed, HS⟩ : ∃ seed, Hid (seed = t.seed) := ⟨_, rfl⟩
  rw [← HN.out] at h1c
  rw [← HS.out] at h1s
  obtain ⟨n2, HN2⟩ : ∃ n, Hid (n = u.cells.length) := ⟨_, rfl⟩
  obtain ⟨seed2, HS2⟩ : ∃ seed, Hid (seed = u.seed) := ⟨_, rfl⟩
  rw [← HN2.out] at h2c
  rw [← HS2.out] at h2s
  have hnn : n ≠ n2 := by rw [HN.out, HN2.out]; exact hne
  clear hne
  refine stEnter (args := [Value.pointer (some ⟨bt1, 0, none⟩), Value.pointer (some ⟨bt2, 0, none⟩)]) [] Tryd.func25 rfl 99 rfl [(0, Value.pointer (some ⟨bt1, 0, none⟩)), (1, Value.pointer (some ⟨bt2, 0, none⟩))] ⟨rfl, rfl, trivial⟩ [] (Mm.start w []) ?_
  refine stSeq ?_
  refine reg ?_
  refine li rfl (opVal (.pointer none) rfl (by kernel_rfl) (rAssign rfl rfl) ?_)
  refine li rfl (opVal (.int .i64 0) rfl (by kernel_rfl) (rAssign rfl rfl) ?_)
  refine liNil ?_
  refine qThen ?_
  refine stSeq ?_
  refine stSeq ?_
  refine anyBegin [] 22 (by kernel_rfl) (fun _ h => h) ?_
  refine anyVal (i := 0) (.pointer (some ⟨bt1, 0, none⟩)) rfl rfl rfl (by kernel_rfl) (by kernel_rfl) (fun _ _ _ h => h) (rMove rfl rfl) ?_
  refine anyVal (i := 1) (.pointer (some ⟨bt1, 0, none⟩)) rfl rfl rfl (by kernel_rfl) (by kernel_rfl) (fun _ _ _ h => h) (rClosed fun _ => by kernel_rfl) ?_
  refine anyVal (i := 2) (.pointer (some ⟨bt1, 0, none⟩)) rfl rfl rfl (by kernel_rfl) (by kernel_rfl) (fun _ _ _ h => h) (rClosed fun _ => by kernel_rfl) ?_
  refine anyVal (i := 3) (.slice (some ⟨bc1, 0, none⟩) (n) (cap1)) rfl rfl rfl (by kernel_rfl) (by kernel_rfl) (fun _ _ _ h => h) (rLoadW rfl rfl (by kernel_rfl) (fun w hM => hM.old (h1c) (by simp))) ?_
  refine anyVal (i := 4) (.int .i64 ((n : Nat) : Int)) rfl rfl rfl (by kernel_rfl) (by kernel_rfl) (fun _ _ _ h => h) (rClosed fun _ => by kernel_rfl) ?_
  refine anyVal (i := 5) (.pointer (some ⟨bt2, 0, none⟩)) rfl rfl rfl (by kernel_rfl) (by kernel_rfl) (fun _ _ _ h => h) (rMove rfl rfl) ?_
  refine anyVal (i := 6) (.pointer (some ⟨bt2, 0, none⟩)) rfl rfl rfl (by kernel_rfl) (by kernel_rfl) (fun _ _ _ h => h) (rClosed fun _ => by kernel_rfl) ?_
  refine anyVal (i := 7) (.pointer (some ⟨bt2, 0, none⟩)) rfl rfl rfl (by kernel_rfl) (by kernel_rfl) (fun _ _ _ h => h) (rClosed fun _ => by kernel_rfl) ?_
  refine anyVal (i := 8) (.slice (some ⟨bc2, 0, none⟩) (n2) (cap2)) rfl rfl rfl (by kernel_rfl) (by kernel_rfl) (fun _ _ _ h => h) (rLoadW rfl rfl (by kernel_rfl) (fun w hM => hM.old (h2c) (by simp))) ?_
  refine anyVal (i := 9) (.int .i64 ((n2 : Nat) : Int)) rfl rfl rfl (by kernel_rfl) (by kernel_rfl) (fun _ _ _ h => h) (rClosed fun _ => by kernel_rfl) ?_
  refine anyVal (i := 10) (.bool ((((n : Nat) : Int) : Int) != ((n2 : Nat) : Int))) rfl rfl rfl (by kernel_rfl) (by kernel_rfl) (fun _ _ _ h => h) (rClosed fun _ => by kernel_rfl) ?_
  refine anyVal (i := 11) (.bool ((((n : Nat) : Int) : Int) != ((n2 : Nat) : Int))) rfl rfl rfl (by kernel_rfl) (by kernel_rfl) (fun _ _ _ h => h) (rMove rfl rfl) ?_
  refine Any.known 22 (b' := true) rfl (by simp; omega) ?_
  refine anyNot (i := 12) (b := true) rfl rfl rfl rfl (by kernel_rfl) (by kernel_rfl) (fun _ _ _ h => h) ?_
  refine anyNot (i := 13) (b := true) rfl rfl rfl rfl (by kernel_rfl) (by kernel_rfl) (fun _ _ _ h => h) ?_
  refine anyNot (i := 14) (b := true) rfl rfl rfl rfl (by kernel_rfl) (by kernel_rfl) (fun _ _ _ h => h) ?_
  refine anyNot (i := 15) (b := true) rfl rfl rfl rfl (by kernel_rfl) (by kernel_rfl) (fun _ _ _ h => h) ?_
  refine anyNot (i := 16) (b := true) rfl rfl rfl rfl (by kernel_rfl) (by kernel_rfl) (fun _ _ _ h => h) ?_
  refine anyNot (i := 17) (b := true) rfl rfl rfl rfl (by kernel_rfl) (by kernel_rfl) (fun _ _ _ h => h) ?_
  refine anyNot (i := 18) (b := true) rfl rfl rfl rfl (by kernel_rfl) (by kernel_rfl) (fun _ _ _ h => h) ?_
  refine anyNot (i := 19) (b := true) rfl rfl rfl rfl (by kernel_rfl) (by kernel_rfl) (fun _ _ _ h => h) ?_
  refine anyNot (i := 20) (b := true) rfl rfl rfl rfl (by kernel_rfl) (by kernel_rfl) (fun _ _ _ h => h) ?_
  refine anyVal (i := 21) (.bool true) rfl rfl rfl (by kernel_rfl) (by kernel_rfl) (fun _ _ _ h => h) (rClosed fun _ => by kernel_rfl) ?_
  refine anyDone (by kernel_rfl) ?_
  refine qThen ?_
  refine stTrue rfl ?_
  refine stSeq ?_
  refine reg ?_
  refine li rfl (opVal (.pointer none) rfl (by kernel_rfl) (rAssign rfl rfl) ?_)
  refine li rfl (opVal (.int .i64 1) rfl (by kernel_rfl) (rAssign rfl rfl) ?_)
  refine liNil ?_
  refine qThen ?_
  refine stRet ?_
  refine qThenR ?_
  refine stEnd [(.pointer none), (.int .i64 1)] rfl ⟨rfl, rfl, trivial⟩ (fun w hM => ?_)
  exact ⟨rfl, hM.fr⟩

set_option maxRecDepth 100000 in
set_option maxHeartbeats 1000000 in
theorem subtract_seed (bt1 bc1 cap1 bt2 bc2 cap2 : Nat) (rest1 rest2 : List Value) (t u : BT) (w : World) (ht : TabAt w bt1 bc1 cap1 rest1 t) (hu : TabAt w bt2 bc2 cap2 rest2 u) (heq : t.cells.length = u.cells.length) (hne : t.seed ≠ u.seed) :
    Calls Tryd.prog 25 #[Value.pointer (some ⟨bt1, 0, none⟩), Value.pointer (some ⟨bt2, 0, none⟩)] w fun e w' => e = .returned (.tuple #[.pointer none, Value.int .i64 1]) ∧ Fr [] w w' := by
  have h1c : w.cell? ⟨bt1, 0, none⟩ = some (.slice (some ⟨bc1, 0, none⟩) t.cells.length cap1) := by rw [ht.tab.cell]; rfl
  have h1s : w.cell? ⟨bt1, 1, none⟩ = some (.int .u64 (t.seed : Int)) := by rw [ht.tab.cell]; rfl
  have h2c : w.cell? ⟨bt2, 0, none⟩ = some (.slice (some ⟨bc2, 0, none⟩) u.cells.length cap2) := by rw [hu.tab.cell]; rfl
  have h2s : w.cell? ⟨bt2, 1, none⟩ = some (.int .u64 (u.seed : Int)) := by rw [hu.tab.cell]; rfl
  obtain ⟨n, HN⟩ : ∃ n, Hid (n = t.cells.length) := ⟨_, rfl⟩
  obtain ⟨seed, HS⟩ : ∃ seed, Hid (seed = t.seed) := ⟨_, rfl⟩
  rw [← HN.out] at h1c
  rw [← HS.out] at h1s
  obtain ⟨seed2, HS2⟩ : ∃ seed, Hid (seed = u.seed) := ⟨_, rfl⟩
  rw [← heq, ← HN.out] at h2c
  rw [← HS2.out] at h2s
  have hnn : seed ≠ seed2 := by rw [HS.out, HS2.out]; exact hne
  clear hne
  refine stEnter (args := [Value.pointer (some ⟨bt1, 0, none⟩), Value.pointer (some ⟨bt2, 0, none⟩)]) [] Tryd.func25 rfl 99 rfl [(0, Value.pointer (some ⟨bt1, 0, none⟩)), (1, Value.pointer (some ⟨bt2, 0, none⟩))] ⟨rfl, rfl, trivial⟩ [] (Mm.start w []) ?_
  refine stSeq ?_
  refine reg ?_
  refine li rfl (opVal (.pointer none) rfl (by kernel_rfl) (rAssign rfl rfl) ?_)
  refine li rfl (opVal (.int .i64 0) rfl (by kernel_rfl) (rAssign rfl rfl) ?_)
  refine liNil ?_
  refine qThen ?_
  refine stSeq ?_
  refine stSeq ?_
  refine anyBegin [] 22 (by kernel_rfl) (fun _ h => h) ?_
  refine anyVal (i := 0) (.pointer (some ⟨bt1, 0, none⟩)) rfl rfl rfl (by kernel_rfl) (by kernel_rfl) (fun _ _ _ h => h) (rMove rfl rfl) ?_
  refine anyVal (i := 1) (.pointer (some ⟨bt1, 0, none⟩)) rfl rfl rfl (by kernel_rfl) (by kernel_rfl) (fun _ _ _ h => h) (rClosed fun _ => by kernel_rfl) ?_
  refine anyVal (i := 2) (.pointer (some ⟨bt1, 0, none⟩)) rfl rfl rfl (by kernel_rfl) (by kernel_rfl) (fun _ _ _ h => h) (rClosed fun _ => by kernel_rfl) ?_
  refine anyVal (i := 3) (.slice (some ⟨bc1, 0, none⟩) (n) (cap1)) rfl rfl rfl (by kernel_rfl) (by kernel_rfl) (fun _ _ _ h => h) (rLoadW rfl rfl (by kernel_rfl) (fun w hM => hM.old (h1c) (by simp))) ?_
  refine anyVal (i := 4) (.int .i64 ((n : Nat) : Int)) rfl rfl rfl (by kernel_rfl) (by kernel_rfl) (fun _ _ _ h => h) (rClosed fun _ => by kernel_rfl) ?_
  refine anyVal (i := 5) (.pointer (some ⟨bt2, 0, none⟩)) rfl rfl rfl (by kernel_rfl) (by kernel_rfl) (fun _ _ _ h => h) (rMove rfl rfl) ?_
  refine anyVal (i := 6) (.pointer (some ⟨bt2, 0, none⟩)) rfl rfl rfl (by kernel_rfl) (by kernel_rfl) (fun _ _ _ h => h) (rClosed fun _ => by kernel_rfl) ?_
  refine anyVal (i := 7) (.pointer (some ⟨bt2, 0, none⟩)) rfl rfl rfl (by kernel_rfl) (by kernel_rfl) (fun _ _ _ h => h) (rClosed fun _ => by kernel_rfl) ?_
  refine anyVal (i := 8) (.slice (some ⟨bc2, 0, none⟩) (n) (cap2)) rfl rfl rfl (by kernel_rfl) (by kernel_rfl) (fun _ _ _ h => h) (rLoadW rfl rfl (by kernel_rfl) (fun w hM => hM.old (h2c) (by simp))) ?_
  refine anyVal (i := 9) (.int .i64 ((n : Nat) : Int)) rfl rfl rfl (by kernel_rfl) (by kernel_rfl) (fun _ _ _ h => h) (rClosed fun _ => by kernel_rfl) ?_
  refine anyVal (i := 10) (.bool false) rfl rfl rfl (by kernel_rfl) (by kernel_rfl) (fun _ _ _ h => h) (rConv (v := .bool ((((n : Nat) : Int) : Int) != ((n : Nat) : Int))) (rClosed fun _ => by kernel_rfl) (by simp)) ?_
  refine anyVal (i := 11) (.bool false) rfl rfl rfl (by kernel_rfl) (by kernel_rfl) (fun _ _ _ h => h) (rMove rfl rfl) ?_
  refine anyValG (i := 12) (.pointer (some ⟨bt1, 0, none⟩)) rfl rfl rfl rfl (by kernel_rfl) (by kernel_rfl) (fun _ _ _ h => h) (rMove rfl rfl) ?_
  refine anyValG (i := 13) (.pointer (some ⟨bt1, 0, none⟩)) rfl rfl rfl rfl (by kernel_rfl) (by kernel_rfl) (fun _ _ _ h => h) (rClosed fun _ => by kernel_rfl) ?_
  refine anyValG (i := 14) (.pointer (some ⟨bt1, 1, none⟩)) rfl rfl rfl rfl (by kernel_rfl) (by kernel_rfl) (fun _ _ _ h => h) (rClosed fun _ => by kernel_rfl) ?_
  refine anyValG (i := 15) (.int .u64 ((seed : Nat) : Int)) rfl rfl rfl rfl (by kernel_rfl) (by kernel_rfl) (fun _ _ _ h => h) (rLoadW rfl rfl (by kernel_rfl) (fun w hM => hM.old (h1s) (by simp))) ?_
  refine anyValG (i := 16) (.pointer (some ⟨bt2, 0, none⟩)) rfl rfl rfl rfl (by kernel_rfl) (by kernel_rfl) (fun _ _ _ h => h) (rMove rfl rfl) ?_
  refine anyValG (i := 17) (.pointer (some ⟨bt2, 0, none⟩)) rfl rfl rfl rfl (by kernel_rfl) (by kernel_rfl) (fun _ _ _ h => h) (rClosed fun _ => by kernel_rfl) ?_
  refine anyValG (i := 18) (.pointer (some ⟨bt2, 1, none⟩)) rfl rfl rfl rfl (by kernel_rfl) (by kernel_rfl) (fun _ _ _ h => h) (rClosed fun _ => by kernel_rfl) ?_
  refine anyValG (i := 19) (.int .u64 ((seed2 : Nat) : Int)) rfl rfl rfl rfl (by kernel_rfl) (by kernel_rfl) (fun _ _ _ h => h) (rLoadW rfl rfl (by kernel_rfl) (fun w hM => hM.old (h2s) (by simp))) ?_
  refine anyValG (i := 20) (.bool (((seed : Nat) : Int) != ((seed2 : Nat) : Int))) rfl rfl rfl rfl (by kernel_rfl) (by kernel_rfl) (fun _ _ _ h => h) (rClosed fun _ => by kernel_rfl) ?_
  refine anyVal (i := 21) (.bool true) rfl rfl rfl (by kernel_rfl) (by kernel_rfl) (fun _ _ _ h => h) (rConv (v := .bool (((seed : Nat) : Int) != ((seed2 : Nat) : Int))) (rClosed fun _ => by kernel_rfl) (by simp; omega)) ?_
  refine anyDone (by kernel_rfl) ?_
  refine qThen ?_
  refine stTrue rfl ?_
  refine stSeq ?_
  refine reg ?_
  refine li rfl (opVal (.pointer none) rfl (by kernel_rfl) (rAssign rfl rfl) ?_)
  refine li rfl (opVal (.int .i64 1) rfl (by kernel_rfl) (rAssign rfl rfl) ?_)
  refine liNil ?_
  refine qThen ?_
  refine stRet ?_
  refine qThenR ?_
  refine stEnd [(.pointer none), (.int .i64 1)] rfl ⟨rfl, rfl, trivial⟩ (fun w hM => ?_)
  exact ⟨rfl, hM.fr⟩

set_option maxRecDepth 100000 in
set_option maxHeartbeats 1000000 in
theorem subtract_ok (bt1 bc1 cap1 bt2 bc2 cap2 : Nat) (rest1 rest2 : List Value) (t u : BT) (w : World) (ht : TabAt w bt1 bc1 cap1 rest1 t) (hu : TabAt w bt2 bc2 cap2 rest2 u) (heq : t.cells.length = u.cells.length) (hse : t.seed = u.seed) :
    Calls Tryd.prog 25 #[Value.pointer (some ⟨bt1, 0, none⟩), Value.pointer (some ⟨bt2, 0, none⟩)] w fun e w' => ∃ btr bcr capr restr, e = .returned (.tuple #[Value.pointer (some ⟨btr, 0, none⟩), Value.int .i64 0]) ∧ Mm w [] [cTab btr bcr capr restr (t.sub u)] w' := by
  have h1c : w.cell? ⟨bt1, 0, none⟩ = some (.slice (some ⟨bc1, 0, none⟩) t.cells.length cap1) := by rw [ht.tab.cell]; rfl
  have h1s : w.cell? ⟨bt1, 1, none⟩ = some (.int .u64 (t.seed : Int)) := by rw [ht.tab.cell]; rfl
  have h2c : w.cell? ⟨bt2, 0, none⟩ = some (.slice (some ⟨bc2, 0, none⟩) u.cells.length cap2) := by rw [hu.tab.cell]; rfl
  have h2s : w.cell? ⟨bt2, 1, none⟩ = some (.int .u64 (u.seed : Int)) := by rw [hu.tab.cell]; rfl
  obtain ⟨n, HN⟩ : ∃ n, Hid (n = t.cells.length) := ⟨_, rfl⟩
  obtain ⟨seed, HS⟩ : ∃ seed, Hid (seed = t.seed) := ⟨_, rfl⟩
  rw [← HN.out] at h1c
  rw [← HS.out] at h1s
  rw [← heq, ← HN.out] at h2c
  rw [← hse, ← HS.out] at h2s
  have n4 : n ≤ 3072 := by rw [HN.out]; exact (isSz_bounds ht.size).2.1
  have HT := Lib.hid ht
  have HU := Lib.hid hu
  have HUL : Hid (u.cells.length = n) := by show _ = _; rw [HN.out]; exact heq.symm
  clear ht hu heq hse
  refine stEnter (args := [Value.pointer (some ⟨bt1, 0, none⟩), Value.pointer (some ⟨bt2, 0, none⟩)]) [] Tryd.func25 rfl 99 rfl [(0, Value.pointer (some ⟨bt1, 0, none⟩)), (1, Value.pointer (some ⟨bt2, 0, none⟩))] ⟨rfl, rfl, trivial⟩ [] (Mm.start w []) ?_
  refine stSeq ?_
  refine reg ?_
  refine li rfl (opVal (.pointer none) rfl (by kernel_rfl) (rAssign rfl rfl) ?_)
  refine li rfl (opVal (.int .i64 0) rfl (by kernel_rfl) (rAssign rfl rfl) ?_)
  refine liNil ?_
  refine qThen ?_
  refine stSeq ?_
  refine stSeq ?_
  refine anyBegin [] 22 (by kernel_rfl) (fun _ h => h) ?_
  refine anyVal (i := 0) (.pointer (some ⟨bt1, 0, none⟩)) rfl rfl rfl (by kernel_rfl) (by kernel_rfl) (fun _ _ _ h => h) (rMove rfl rfl) ?_
  refine anyVal (i := 1) (.pointer (some ⟨bt1, 0, none⟩)) rfl rfl rfl (by kernel_rfl) (by kernel_rfl) (fun _ _ _ h => h) (rClosed fun _ => by kernel_rfl) ?_
  refine anyVal (i := 2) (.pointer (some ⟨bt1, 0, none⟩)) rfl rfl rfl (by kernel_rfl) (by kernel_rfl) (fun _ _ _ h => h) (rClosed fun _ => by kernel_rfl) ?_
  refine anyVal (i := 3) (.slice (some ⟨bc1, 0, none⟩) (n) (cap1)) rfl rfl rfl (by kernel_rfl) (by kernel_rfl) (fun _ _ _ h => h) (rLoadW rfl rfl (by kernel_rfl) (fun w hM => hM.old (h1c) (by simp))) ?_
  refine anyVal (i := 4) (.int .i64 ((n : Nat) : Int)) rfl rfl rfl (by kernel_rfl) (by kernel_rfl) (fun _ _ _ h => h) (rClosed fun _ => by kernel_rfl) ?_
  refine anyVal (i := 5) (.pointer (some ⟨bt2, 0, none⟩)) rfl rfl rfl (by kernel_rfl) (by kernel_rfl) (fun _ _ _ h => h) (rMove rfl rfl) ?_
  refine anyVal (i := 6) (.pointer (some ⟨bt2, 0, none⟩)) rfl rfl rfl (by kernel_rfl) (by kernel_rfl) (fun _ _ _ h => h) (rClosed fun _ => by kernel_rfl) ?_
  refine anyVal (i := 7) (.pointer (some ⟨bt2, 0, none⟩)) rfl rfl rfl (by kernel_rfl) (by kernel_rfl) (fun _ _ _ h => h) (rClosed fun _ => by kernel_rfl) ?_
  refine anyVal (i := 8) (.slice (some ⟨bc2, 0, none⟩) (n) (cap2)) rfl rfl rfl (by kernel_rfl) (by kernel_rfl) (fun _ _ _ h => h) (rLoadW rfl rfl (by kernel_rfl) (fun w hM => hM.old (h2c) (by simp))) ?_
  refine anyVal (i := 9) (.int .i64 ((n : Nat) : Int)) rfl rfl rfl (by kernel_rfl) (by kernel_rfl) (fun _ _ _ h => h) (rClosed fun _ => by kernel_rfl) ?_
  refine anyVal (i := 10) (.bool false) rfl rfl rfl (by kernel_rfl) (by kernel_rfl) (fun _ _ _ h => h) (rConv (v := .bool ((((n : Nat) : Int) : Int) != ((n : Nat) : Int))) (rClosed fun _ => by kernel_rfl) (by simp)) ?_
  refine anyVal (i := 11) (.bool false) rfl rfl rfl (by kernel_rfl) (by kernel_rfl) (fun _ _ _ h => h) (rMove rfl rfl) ?_
  refine anyValG (i := 12) (.pointer (some ⟨bt1, 0, none⟩)) rfl rfl rfl rfl (by kernel_rfl) (by kernel_rfl) (fun _ _ _ h => h) (rMove rfl rfl) ?_
  refine anyValG (i := 13) (.pointer (some ⟨bt1, 0, none⟩)) rfl rfl rfl rfl (by kernel_rfl) (by kernel_rfl) (fun _ _ _ h => h) (rClosed fun _ => by kernel_rfl) ?_
  refine anyValG (i := 14) (.pointer (some ⟨bt1, 1, none⟩)) rfl rfl rfl rfl (by kernel_rfl) (by kernel_rfl) (fun _ _ _ h => h) (rClosed fun _ => by kernel_rfl) ?_
  refine anyValG (i := 15) (.int .u64 ((seed : Nat) : Int)) rfl rfl rfl rfl (by kernel_rfl) (by kernel_rfl) (fun _ _ _ h => h) (rLoadW rfl rfl (by kernel_rfl) (fun w hM => hM.old (h1s) (by simp))) ?_
  refine anyValG (i := 16) (.pointer (some ⟨bt2, 0, none⟩)) rfl rfl rfl rfl (by kernel_rfl) (by kernel_rfl) (fun _ _ _ h => h) (rMove rfl rfl) ?_
  refine anyValG (i := 17) (.pointer (some ⟨bt2, 0, none⟩)) rfl rfl rfl rfl (by kernel_rfl) (by kernel_rfl) (fun _ _ _ h => h) (rClosed fun _ => by kernel_rfl) ?_
  refine anyValG (i := 18) (.pointer (some ⟨bt2, 1, none⟩)) rfl rfl rfl rfl (by kernel_rfl) (by kernel_rfl) (fun _ _ _ h => h) (rClosed fun _ => by kernel_rfl) ?_
  refine anyValG (i := 19) (.int .u64 ((seed : Nat) : Int)) rfl rfl rfl rfl (by kernel_rfl) (by kernel_rfl) (fun _ _ _ h => h) (rLoadW rfl rfl (by kernel_rfl) (fun w hM => hM.old (h2s) (by simp))) ?_
  refine anyValG (i := 20) (.bool false) rfl rfl rfl rfl (by kernel_rfl) (by kernel_rfl) (fun _ _ _ h => h) (rConv (v := .bool ((((seed : Nat) : Int) : Int) != ((seed : Nat) : Int))) (rClosed fun _ => by kernel_rfl) (by simp)) ?_
  refine anyVal (i := 21) (.bool false) rfl rfl rfl (by kernel_rfl) (by kernel_rfl) (fun _ _ _ h => h) (rClosed fun _ => by kernel_rfl) ?_
  refine anyDone (by kernel_rfl) ?_
  refine qThen ?_
  refine stFalse rfl ?_
  refine stSkip ?_
  refine qThen ?_
  refine stSeq ?_
  refine reg ?_
  refine li rfl (opVal (.pointer (some ⟨bt1, 0, none⟩)) rfl (by kernel_rfl) (rMove rfl rfl) ?_)
  refine li rfl ?_
  refine opCall 45 #[(.pointer (some ⟨bt1, 0, none⟩))] rfl (by kernel_rfl) (fun _ => by kernel_rfl) (fun w hM => ?_)
  refine (clone_any bt1 bc1 cap1 rest1 t w (HT.out.fr hM.fr (by simp) (by simp))).mono ?_
  rintro e w' ⟨btr, bcr, capr, restr, rfl, hg1, hg2, hf, ht⟩
  have hM' := hM.pushTwo hf (by show At _ _ _ _; rw [HN.out, HS.out]; exact ht.tab : At w' btr 75 [.slice (some ⟨bcr, 0, none⟩) n capr, .int .u64 (seed : Int)]) (by rw [subTo_zero]; exact ht.cells : At w' bcr 85 (tcells (subTo t u t.cells 0) ++ restr)) hg1 hg2 ht.ne
  have hcap := ht.cap
  rw [← HN.out] at hcap
  refine ⟨_, _, rfl, hM', ?_⟩
  clear hM hM' hf ht hg1 hg2
  refine li rfl (opVal (.pointer (some ⟨btr, 0, none⟩)) rfl (by kernel_rfl) (rAssign rfl rfl) ?_)
  refine liNil ?_
  refine qThen ?_
  refine stSeq ?_
  refine stSeq ?_
  refine reg ?_
  refine li rfl (opVal (.pointer (some ⟨btr, 0, none⟩)) rfl (by kernel_rfl) (rMove rfl rfl) ?_)
  refine li rfl (opVal (.pointer (some ⟨btr, 0, none⟩)) rfl (by kernel_rfl) (rClosed fun _ => by kernel_rfl) ?_)
  refine li rfl (opVal (.pointer (some ⟨btr, 0, none⟩)) rfl (by kernel_rfl) (rClosed fun _ => by kernel_rfl) ?_)
  refine li rfl (opVal (.slice (some ⟨bcr, 0, none⟩) (n) (capr)) rfl (by kernel_rfl) (rLoad 0 rfl rfl (by kernel_rfl) rfl rfl) ?_)
  refine li rfl (opVal (.int .i64 ((n : Nat) : Int)) rfl (by kernel_rfl) (rClosed fun _ => by kernel_rfl) ?_)
  refine li rfl (opVal (.int .i64 0) rfl (by kernel_rfl) (rMove rfl rfl) ?_)
  refine liNil ?_
  refine qThen ?_
  refine stBlock ?_
  refine stLoop (ι := Nat) (fun i => i ≤ n) (fun i => n - i) (fun i => [(1, (.pointer (some ⟨bt2, 0, none⟩))), (6, (.pointer (some ⟨btr, 0, none⟩))), (39, (.int .i64 ((n : Nat) : Int))), (40, (.int .i64 ((i : Nat) : Int)))]) (fun i => [cAt btr 75 [(.slice (some ⟨bcr, 0, none⟩) (n) (capr)), (.int .u64 ((seed : Nat) : Int))], cAt bcr 85 (tcells (subTo t u t.cells i) ++ restr)]) 0 (Nat.zero_le _) ⟨rfl, rfl, rfl, rfl, trivial⟩ (fun _ h => h) ?_
  intro i (hi : i ≤ n)
  show St _ _ _ [(1, (.pointer (some ⟨bt2, 0, none⟩))), (6, (.pointer (some ⟨btr, 0, none⟩))), (39, (.int .i64 ((n : Nat) : Int))), (40, (.int .i64 ((i : Nat) : Int)))] [cAt btr 75 [(.slice (some ⟨bcr, 0, none⟩) (n) (capr)), (.int .u64 ((seed : Nat) : Int))], cAt bcr 85 (tcells (subTo t u t.cells i) ++ restr)] _
  refine stSeq ?_
  refine reg ?_
  refine li rfl (opVal (.bool (decide (((i : Nat) : Int) < ((n : Nat) : Int)))) rfl (by kernel_rfl) (rClosed fun _ => by kernel_rfl) ?_)
  refine liNil ?_
  refine qThen ?_
  refine stSeq ?_
  refine stCond rfl (fun hc41 => ?_) (fun hc41 => ?_)
  · have hd41 := of_decide_eq_true hc41
    have hlt : i < n := by omega
    obtain ⟨cc, hc⟩ : ∃ cc, t.cells[i]? = some cc := ⟨_, List.getElem?_eq_getElem (by rw [← HN.out]; exact hlt)⟩
    obtain ⟨dd, hd⟩ : ∃ dd, u.cells[i]? = some dd := ⟨_, List.getElem?_eq_getElem (by rw [HUL.out]; exact hlt)⟩
    have hcok := HT.out.ok.cells cc (List.mem_of_getElem? hc)
    have hdok := HU.out.ok.cells dd (List.mem_of_getElem? hd)
    obtain ⟨cl, HCL⟩ : ∃ cl, Hid (cl = subTo t u t.cells i) := ⟨_, rfl⟩
    have hcll : cl.length = n := by rw [HCL.out, subTo_len (by rw [HUL.out, HN.out]) rfl i (by rw [← HN.out]; omega), HN.out]
    have hok : Ok34 cl := by rw [HCL.out]; exact subTo_ok HT.out.ok HU.out.ok HT.out.ok.cells i
    have hci : cl[i]? = some cc := by rw [HCL.out, subTo_at (by rw [HUL.out, HN.out]) i (by rw [← HN.out]; exact hlt)]; exact hc
    have HSU : Hid (subTo t u t.cells (i + 1) = cl.set i (cc.sub dd)) := by show _ = _; rw [HCL.out, subTo_succ (by rw [HUL.out, HN.out]) rfl (by rw [← HN.out]; exact hlt) (sub_get hc hd)]
    have hlen1 : (tcells cl ++ restr).length = n * 34 + restr.length := by rw [List.length_append, tcells_len hok, hcll]
    rw [← HCL.out]
    refine stSkip ?_
    refine qThen ?_
    refine stSeq ?_
    refine stBlock ?_
    refine stSeq ?_
    refine reg ?_
    refine li rfl (opVal (.int .i64 ((i : Nat) : Int)) rfl (by kernel_rfl) (rMove rfl rfl) ?_)
    refine li rfl (opVal (.int .i64 ((i : Nat) : Int)) rfl (by kernel_rfl) (rAssign rfl rfl) ?_)
    refine liNil ?_
    refine qThen ?_
    refine stSeq ?_
    refine anyBegin [cAt btr 75 [(.slice (some ⟨bcr, 0, none⟩) (n) (capr)), (.int .u64 ((seed : Nat) : Int))], cAt bcr 85 (tcells cl ++ restr)] 14 (by kernel_rfl) (fun _ h => h) ?_
    refine anyVal (i := 0) (.pointer (some ⟨btr, 0, none⟩)) rfl rfl rfl (by kernel_rfl) (by kernel_rfl) (fun _ _ _ h => h) (rMove rfl rfl) ?_
    refine anyVal (i := 1) (.pointer (some ⟨btr, 0, none⟩)) rfl rfl rfl (by kernel_rfl) (by kernel_rfl) (fun _ _ _ h => h) (rClosed fun _ => by kernel_rfl) ?_
    refine anyVal (i := 2) (.pointer (some ⟨btr, 0, none⟩)) rfl rfl rfl (by kernel_rfl) (by kernel_rfl) (fun _ _ _ h => h) (rClosed fun _ => by kernel_rfl) ?_
    refine anyVal (i := 3) (.slice (some ⟨bcr, 0, none⟩) (n) (capr)) rfl rfl rfl (by kernel_rfl) (by kernel_rfl) (fun _ _ _ h => h) (rLoad 0 rfl rfl (by kernel_rfl) rfl rfl) ?_
    refine anyVal (i := 4) (.int .i64 ((i : Nat) : Int)) rfl rfl rfl (by kernel_rfl) (by kernel_rfl) (fun _ _ _ h => h) (rMove rfl rfl) ?_
    refine anyVal (i := 5) (.pointer (some ⟨bcr, 0 + i * 34, none⟩)) rfl rfl rfl (by kernel_rfl) (by kernel_rfl) (fun _ _ _ h => h) (rIndexAddr (e := 85) (sz := 34) rfl (by kernel_rfl) (by kernel_rfl) rfl rfl (by omega)) ?_
    refine anyVal (i := 6) (.pointer (some ⟨bt2, 0, none⟩)) rfl rfl rfl (by kernel_rfl) (by kernel_rfl) (fun _ _ _ h => h) (rMove rfl rfl) ?_
    refine anyVal (i := 7) (.pointer (some ⟨bt2, 0, none⟩)) rfl rfl rfl (by kernel_rfl) (by kernel_rfl) (fun _ _ _ h => h) (rClosed fun _ => by kernel_rfl) ?_
    refine anyVal (i := 8) (.pointer (some ⟨bt2, 0, none⟩)) rfl rfl rfl (by kernel_rfl) (by kernel_rfl) (fun _ _ _ h => h) (rClosed fun _ => by kernel_rfl) ?_
    refine anyVal (i := 9) (.slice (some ⟨bc2, 0, none⟩) (n) (cap2)) rfl rfl rfl (by kernel_rfl) (by kernel_rfl) (fun _ _ _ h => h) (rLoadW rfl rfl (by kernel_rfl) (fun w hM => hM.old (h2c) (by simp))) ?_
    refine anyVal (i := 10) (.int .i64 ((i : Nat) : Int)) rfl rfl rfl (by kernel_rfl) (by kernel_rfl) (fun _ _ _ h => h) (rMove rfl rfl) ?_
    refine anyVal (i := 11) (.pointer (some ⟨bc2, 0 + i * 34, none⟩)) rfl rfl rfl (by kernel_rfl) (by kernel_rfl) (fun _ _ _ h => h) (rIndexAddr (e := 85) (sz := 34) rfl (by kernel_rfl) (by kernel_rfl) rfl rfl (by omega)) ?_
    refine anyVal (i := 12) (.pointer (some ⟨bcr, 0 + i * 34, none⟩)) rfl rfl rfl (by kernel_rfl) (by kernel_rfl) (fun _ _ _ h => h) (rAssign rfl rfl) ?_
    refine anyVal (i := 13) (.pointer (some ⟨bc2, 0 + i * 34, none⟩)) rfl rfl rfl (by kernel_rfl) (by kernel_rfl) (fun _ _ _ h => h) (rAssign rfl rfl) ?_
    refine anyDone (by kernel_rfl) ?_
    refine qThen ?_
    refine stSeq ?_
    refine anyBegin [cAt btr 75 [(.slice (some ⟨bcr, 0, none⟩) (n) (capr)), (.int .u64 ((seed : Nat) : Int))], cAt bcr 85 (tcells cl ++ restr)] 11 (by kernel_rfl) (fun _ h => h) ?_
    refine anyVal (i := 0) (.pointer (some ⟨bcr, 0 + i * 34, none⟩)) rfl rfl rfl (by kernel_rfl) (by kernel_rfl) (fun _ _ _ h => h) (rMove rfl rfl) ?_
    refine anyVal (i := 1) (.pointer (some ⟨bcr, 0 + i * 34, none⟩)) rfl rfl rfl (by kernel_rfl) (by kernel_rfl) (fun _ _ _ h => h) (rClosed fun _ => by kernel_rfl) ?_
    refine anyVal (i := 2) (.pointer (some ⟨bcr, 0 + i * 34, none⟩)) rfl rfl rfl (by kernel_rfl) (by kernel_rfl) (fun _ _ _ h => h) (rClosed fun _ => by kernel_rfl) ?_
    refine anyVal (i := 3) (.int .i64 cc.count) rfl rfl rfl (by kernel_rfl) (by kernel_rfl) (fun _ _ _ h => h) (rLoad 1 rfl rfl (by kernel_rfl) rfl (by rw [Nat.zero_add]; exact (tcells_get hok restr i cc hci 0 (by omega)).trans (cells_get0 cc))) ?_
    refine anyVal (i := 4) (.pointer (some ⟨bc2, 0 + i * 34, none⟩)) rfl rfl rfl (by kernel_rfl) (by kernel_rfl) (fun _ _ _ h => h) (rMove rfl rfl) ?_
    refine anyVal (i := 5) (.pointer (some ⟨bc2, 0 + i * 34, none⟩)) rfl rfl rfl (by kernel_rfl) (by kernel_rfl) (fun _ _ _ h => h) (rClosed fun _ => by kernel_rfl) ?_
    refine anyVal (i := 6) (.pointer (some ⟨bc2, 0 + i * 34, none⟩)) rfl rfl rfl (by kernel_rfl) (by kernel_rfl) (fun _ _ _ h => h) (rClosed fun _ => by kernel_rfl) ?_
    refine anyVal (i := 7) (.int .i64 dd.count) rfl rfl rfl (by kernel_rfl) (by kernel_rfl) (fun _ _ _ h => h) (rLoadW rfl rfl (by kernel_rfl) (fun w hM => hM.old (by rw [Nat.zero_add]; exact tabCell HU.out hd 0 _ (cells_get0 dd)) (by simp))) ?_
    refine anyVal (i := 8) (.int .i64 (IntKind.i64.wrap (cc.count + -dd.count))) rfl rfl rfl (by kernel_rfl) (by kernel_rfl) (fun _ _ _ h => h) (rConv (v := .int .i64 (IntKind.i64.wrap (cc.count - dd.count))) (rClosed fun _ => by kernel_rfl) (by rw [Int.sub_eq_add_neg])) ?_
    refine anyVal (i := 9) (.pointer (some ⟨bcr, 0 + i * 34, none⟩)) rfl rfl rfl (by kernel_rfl) (by kernel_rfl) (fun _ _ _ h => h) (rClosed fun _ => by kernel_rfl) ?_
    refine anyVal (i := 10) (.pointer (some ⟨bcr, 0 + i * 34, none⟩)) rfl rfl rfl (by kernel_rfl) (by kernel_rfl) (fun _ _ _ h => h) (rClosed fun _ => by kernel_rfl) ?_
    refine anyOne (i := 11) (by kernel_rfl) rfl rfl ?_
    refine opStore1 1 rfl rfl (by kernel_rfl) rfl rfl rfl (by kernel_rfl) rfl (by rw [hlen1]; omega) ?_
    refine anyLast (by kernel_rfl) rfl ?_
    refine qThen ?_
    refine stSeq ?_
    obtain ⟨cc1, HC1⟩ : ∃ cc1 : BC, Hid (cc1 = (⟨IntKind.i64.wrap (cc.count + -dd.count), cc.keys, cc.checks⟩ : BC)) := ⟨_, rfl⟩
    have hc1ok : cc1.Ok := by rw [HC1.out]; exact ⟨(part_ok hcok hdok.keys (-dd.count) hdok.checks 0).count, hcok.keys, hcok.checks⟩
    have hok1 : Ok34 (cl.set i cc1) := hok.set i hc1ok
    have hci1 : (cl.set i cc1)[i]? = some cc1 := List.getElem?_set_self (by omega)
    have hlen2 : (tcells (cl.set i cc1) ++ restr).length = n * 34 + restr.length := by rw [List.length_append, tcells_len hok1, List.length_set, hcll]
    refine St.mem (cs' := [cAt btr 75 [(.slice (some ⟨bcr, 0, none⟩) (n) (capr)), (.int .u64 ((seed : Nat) : Int))], cAt bcr 85 (tcells (cl.set i cc1) ++ restr)]) (fun w hM => by rw [← tcells_set hok restr i cc hci 0 (by omega) _ cc1 (by rw [HC1.out]; exact cells_set0 cc _)]; rw [Nat.zero_add] at hM; exact hM) ?_
    refine anyBegin [cAt btr 75 [(.slice (some ⟨bcr, 0, none⟩) (n) (capr)), (.int .u64 ((seed : Nat) : Int))], cAt bcr 85 (tcells (cl.set i cc1) ++ restr)] 11 (by kernel_rfl) (fun _ h => h) ?_
    refine anyVal (i := 0) (.pointer (some ⟨bcr, 0 + i * 34, none⟩)) rfl rfl rfl (by kernel_rfl) (by kernel_rfl) (fun _ _ _ h => h) (rMove rfl rfl) ?_
    refine anyVal (i := 1) (.pointer (some ⟨bcr, 0 + i * 34, none⟩)) rfl rfl rfl (by kernel_rfl) (by kernel_rfl) (fun _ _ _ h => h) (rClosed fun _ => by kernel_rfl) ?_
    refine anyVal (i := 2) (.pointer (some ⟨bcr, 0 + i * 34 + 33, none⟩)) rfl rfl rfl (by kernel_rfl) (by kernel_rfl) (fun _ _ _ h => h) (rClosed fun _ => by kernel_rfl) ?_
    refine anyVal (i := 3) (.int .u64 ((cc.checks : Nat) : Int)) rfl rfl rfl (by kernel_rfl) (by kernel_rfl) (fun _ _ _ h => h) (rLoad 1 rfl rfl (by kernel_rfl) rfl (by rw [Nat.zero_add]; exact (tcells_get hok1 restr i cc1 hci1 33 (by omega)).trans (by rw [cells_get33 hc1ok.keys, HC1.out]))) ?_
    refine anyVal (i := 4) (.pointer (some ⟨bc2, 0 + i * 34, none⟩)) rfl rfl rfl (by kernel_rfl) (by kernel_rfl) (fun _ _ _ h => h) (rMove rfl rfl) ?_
    refine anyVal (i := 5) (.pointer (some ⟨bc2, 0 + i * 34, none⟩)) rfl rfl rfl (by kernel_rfl) (by kernel_rfl) (fun _ _ _ h => h) (rClosed fun _ => by kernel_rfl) ?_
    refine anyVal (i := 6) (.pointer (some ⟨bc2, 0 + i * 34 + 33, none⟩)) rfl rfl rfl (by kernel_rfl) (by kernel_rfl) (fun _ _ _ h => h) (rClosed fun _ => by kernel_rfl) ?_
    refine anyVal (i := 7) (.int .u64 ((dd.checks : Nat) : Int)) rfl rfl rfl (by kernel_rfl) (by kernel_rfl) (fun _ _ _ h => h) (rLoadW rfl rfl (by kernel_rfl) (fun w hM => hM.old (by rw [Nat.zero_add]; exact tabCell HU.out hd 33 _ (cells_get33 hdok.keys)) (by simp))) ?_
    refine anyVal (i := 8) (.int .u64 ((cc.checks ^^^ dd.checks : Nat) : Int)) rfl rfl rfl (by kernel_rfl) (by kernel_rfl) (fun _ _ _ h => h) (rBits .xor (by simp) _ rfl rfl rfl (u64_xor_nat _ _ hcok.checks hdok.checks)) ?_
    refine anyVal (i := 9) (.pointer (some ⟨bcr, 0 + i * 34, none⟩)) rfl rfl rfl (by kernel_rfl) (by kernel_rfl) (fun _ _ _ h => h) (rClosed fun _ => by kernel_rfl) ?_
    refine anyVal (i := 10) (.pointer (some ⟨bcr, 0 + i * 34 + 33, none⟩)) rfl rfl rfl (by kernel_rfl) (by kernel_rfl) (fun _ _ _ h => h) (rClosed fun _ => by kernel_rfl) ?_
    refine anyOne (i := 11) (by kernel_rfl) rfl rfl ?_
    refine opStore1 1 rfl rfl (by kernel_rfl) rfl rfl rfl (by kernel_rfl) rfl (by rw [hlen2]; omega) ?_
    refine anyLast (by kernel_rfl) rfl ?_
    refine qThen ?_
    refine stSeq ?_
    have hp0 : (cl.set i cc1).set i (cc.part dd.keys (-dd.count) dd.checks 0) = cl.set i (cc.part dd.keys (-dd.count) dd.checks 0) := by rw [List.set_set]
    refine St.mem (cs' := [cAt btr 75 [(.slice (some ⟨bcr, 0, none⟩) (n) (capr)), (.int .u64 ((seed : Nat) : Int))], cAt bcr 85 (tcells (cl.set i (cc.part dd.keys (-dd.count) dd.checks 0)) ++ restr)]) (fun w hM => by rw [← hp0, ← tcells_set hok1 restr i cc1 hci1 33 (by omega) (.int .u64 ((cc.checks ^^^ dd.checks : Nat) : Int)) (cc.part dd.keys (-dd.count) dd.checks 0) (by rw [part_zero, ← cells_set33 hc1ok.keys, HC1.out])]; rw [Nat.zero_add] at hM; exact hM) ?_
    refine reg ?_
    refine li rfl (opVal (.int .i64 0) rfl (by kernel_rfl) (rMove rfl rfl) ?_)
    refine liNil ?_
    refine qThen ?_
    refine stBlock ?_
    refine stLoop (ι := Nat) (fun j => j ≤ 32) (fun j => 32 - j) (fun j => [(1, (.pointer (some ⟨bt2, 0, none⟩))), (6, (.pointer (some ⟨btr, 0, none⟩))), (8, (.pointer (some ⟨bcr, 0 + i * 34, none⟩))), (9, (.pointer (some ⟨bc2, 0 + i * 34, none⟩))), (39, (.int .i64 ((n : Nat) : Int))), (40, (.int .i64 ((i : Nat) : Int))), (77, (.int .i64 ((j : Nat) : Int)))]) (fun j => [cAt btr 75 [(.slice (some ⟨bcr, 0, none⟩) (n) (capr)), (.int .u64 ((seed : Nat) : Int))], cAt bcr 85 (tcells (cl.set i (cc.part dd.keys (-dd.count) dd.checks j)) ++ restr)]) 0 (Nat.zero_le _) ⟨rfl, rfl, rfl, rfl, rfl, rfl, rfl, trivial⟩ (fun _ h => h) ?_
    intro j (hj : j ≤ 32)
    show St _ _ _ [(1, (.pointer (some ⟨bt2, 0, none⟩))), (6, (.pointer (some ⟨btr, 0, none⟩))), (8, (.pointer (some ⟨bcr, 0 + i * 34, none⟩))), (9, (.pointer (some ⟨bc2, 0 + i * 34, none⟩))), (39, (.int .i64 ((n : Nat) : Int))), (40, (.int .i64 ((i : Nat) : Int))), (77, (.int .i64 ((j : Nat) : Int)))] [cAt btr 75 [(.slice (some ⟨bcr, 0, none⟩) (n) (capr)), (.int .u64 ((seed : Nat) : Int))], cAt bcr 85 (tcells (cl.set i (cc.part dd.keys (-dd.count) dd.checks j)) ++ restr)] _
    refine stSeq ?_
    refine reg ?_
    refine li rfl (opVal (.bool (decide (((j : Nat) : Int) < 32))) rfl (by kernel_rfl) (rClosed fun _ => by kernel_rfl) ?_)
    refine liNil ?_
    refine qThen ?_
    refine stSeq ?_
    refine stCond rfl (fun hc78 => ?_) (fun hc78 => ?_)
    · have hd78 := of_decide_eq_true hc78
      have hj2 : j < 32 := by omega
      obtain ⟨x, hx⟩ : ∃ x, cc.keys[j]? = some x := ⟨_, List.getElem?_eq_getElem (by rw [hcok.keys]; exact hj2)⟩
      obtain ⟨y, hy⟩ : ∃ y, dd.keys[j]? = some y := ⟨_, List.getElem?_eq_getElem (by rw [hdok.keys]; exact hj2)⟩
      have hpok := part_ok hcok hdok.keys (-dd.count) hdok.checks j
      obtain ⟨pc, HPC⟩ : ∃ pc, Hid (pc = (cc.part dd.keys (-dd.count) dd.checks j)) := ⟨_, rfl⟩
      rw [← HPC.out] at hpok ⊢
      have hokp : Ok34 (cl.set i pc) := hok.set i hpok
      have hcip : (cl.set i pc)[i]? = some pc := List.getElem?_set_self (by omega)
      have hlen3 : (tcells (cl.set i pc) ++ restr).length = n * 34 + restr.length := by rw [List.length_append, tcells_len hokp, List.length_set, hcll]
      refine stSkip ?_
      refine qThen ?_
      refine stSeq ?_
      refine stBlock ?_
      refine stSeq ?_
      refine reg ?_
      refine li rfl (opVal (.int .i64 ((j : Nat) : Int)) rfl (by kernel_rfl) (rMove rfl rfl) ?_)
      refine li rfl (opVal (.int .i64 ((j : Nat) : Int)) rfl (by kernel_rfl) (rAssign rfl rfl) ?_)
      refine liNil ?_
      refine qThen ?_
      refine anyBegin [cAt btr 75 [(.slice (some ⟨bcr, 0, none⟩) (n) (capr)), (.int .u64 ((seed : Nat) : Int))], cAt bcr 85 (tcells (cl.set i pc) ++ restr)] 16 (by kernel_rfl) (fun _ h => h) ?_
      refine anyVal (i := 0) (.pointer (some ⟨bcr, 0 + i * 34, none⟩)) rfl rfl rfl (by kernel_rfl) (by kernel_rfl) (fun _ _ _ h => h) (rMove rfl rfl) ?_
      refine anyVal (i := 1) (.int .i64 ((j : Nat) : Int)) rfl rfl rfl (by kernel_rfl) (by kernel_rfl) (fun _ _ _ h => h) (rMove rfl rfl) ?_
      refine anyVal (i := 2) (.pointer (some ⟨bcr, 0 + i * 34, none⟩)) rfl rfl rfl (by kernel_rfl) (by kernel_rfl) (fun _ _ _ h => h) (rClosed fun _ => by kernel_rfl) ?_
      refine anyVal (i := 3) (.pointer (some ⟨bcr, 0 + i * 34 + 1, none⟩)) rfl rfl rfl (by kernel_rfl) (by kernel_rfl) (fun _ _ _ h => h) (rClosed fun _ => by kernel_rfl) ?_
      refine anyVal (i := 4) (.pointer (some ⟨bcr, 0 + i * 34 + 1 + j, none⟩)) rfl rfl rfl (by kernel_rfl) (by kernel_rfl) (fun _ _ _ h => h) (rIndexArr1 (e := 5) (m := 32) rfl (by kernel_rfl) (by kernel_rfl) rfl rfl (by omega)) ?_
      refine anyVal (i := 5) (.int .u8 ((x.toNat : Nat) : Int)) rfl rfl rfl (by kernel_rfl) (by kernel_rfl) (fun _ _ _ h => h) (rLoad 1 rfl rfl (by kernel_rfl) rfl (by rw [Nat.zero_add, Nat.add_assoc]; exact (tcells_get hokp restr i pc hcip (1 + j) (by omega)).trans (by rw [HPC.out]; exact cells_getK j x (part_get dd.keys (-dd.count) dd.checks j x hx hdok.keys hcok.keys)))) ?_
      refine anyVal (i := 6) (.pointer (some ⟨bc2, 0 + i * 34, none⟩)) rfl rfl rfl (by kernel_rfl) (by kernel_rfl) (fun _ _ _ h => h) (rMove rfl rfl) ?_
      refine anyVal (i := 7) (.int .i64 ((j : Nat) : Int)) rfl rfl rfl (by kernel_rfl) (by kernel_rfl) (fun _ _ _ h => h) (rMove rfl rfl) ?_
      refine anyVal (i := 8) (.pointer (some ⟨bc2, 0 + i * 34, none⟩)) rfl rfl rfl (by kernel_rfl) (by kernel_rfl) (fun _ _ _ h => h) (rClosed fun _ => by kernel_rfl) ?_
      refine anyVal (i := 9) (.pointer (some ⟨bc2, 0 + i * 34 + 1, none⟩)) rfl rfl rfl (by kernel_rfl) (by kernel_rfl) (fun _ _ _ h => h) (rClosed fun _ => by kernel_rfl) ?_
      refine anyVal (i := 10) (.pointer (some ⟨bc2, 0 + i * 34 + 1 + j, none⟩)) rfl rfl rfl (by kernel_rfl) (by kernel_rfl) (fun _ _ _ h => h) (rIndexArr1 (e := 5) (m := 32) rfl (by kernel_rfl) (by kernel_rfl) rfl rfl (by omega)) ?_
      refine anyVal (i := 11) (.int .u8 ((y.toNat : Nat) : Int)) rfl rfl rfl (by kernel_rfl) (by kernel_rfl) (fun _ _ _ h => h) (rLoadW rfl rfl (by kernel_rfl) (fun w hM => hM.old (by rw [Nat.zero_add, Nat.add_assoc]; exact tabCell HU.out hd (1 + j) _ (cells_getK j y hy)) (by simp))) ?_
      refine anyVal (i := 12) (.int .u8 (((x ^^^ y).toNat : Nat) : Int)) rfl rfl rfl (by kernel_rfl) (by kernel_rfl) (fun _ _ _ h => h) (rBits .xor (by simp) _ rfl rfl rfl (u8_xor_u x y)) ?_
      refine anyVal (i := 13) (.pointer (some ⟨bcr, 0 + i * 34, none⟩)) rfl rfl rfl (by kernel_rfl) (by kernel_rfl) (fun _ _ _ h => h) (rClosed fun _ => by kernel_rfl) ?_
      refine anyVal (i := 14) (.pointer (some ⟨bcr, 0 + i * 34 + 1, none⟩)) rfl rfl rfl (by kernel_rfl) (by kernel_rfl) (fun _ _ _ h => h) (rClosed fun _ => by kernel_rfl) ?_
      refine anyVal (i := 15) (.pointer (some ⟨bcr, 0 + i * 34 + 1 + j, none⟩)) rfl rfl rfl (by kernel_rfl) (by kernel_rfl) (fun _ _ _ h => h) (rIndexArr1 (e := 5) (m := 32) rfl (by kernel_rfl) (by kernel_rfl) rfl rfl (by omega)) ?_
      refine anyOne (i := 16) (by kernel_rfl) rfl rfl ?_
      refine opStore1 1 rfl rfl (by kernel_rfl) rfl rfl rfl (by kernel_rfl) rfl (by rw [hlen3]; omega) ?_
      refine anyLast (by kernel_rfl) rfl ?_
      refine qBlock ?_
      refine qThen ?_
      have hpj : (cl.set i pc).set i (cc.part dd.keys (-dd.count) dd.checks (j + 1)) = cl.set i (cc.part dd.keys (-dd.count) dd.checks (j + 1)) := by rw [List.set_set]
      refine St.mem (cs' := [cAt btr 75 [(.slice (some ⟨bcr, 0, none⟩) (n) (capr)), (.int .u64 ((seed : Nat) : Int))], cAt bcr 85 (tcells (cl.set i (cc.part dd.keys (-dd.count) dd.checks (j + 1))) ++ restr)]) (fun w hM => by rw [← hpj, ← tcells_set hokp restr i pc hcip (1 + j) (by omega) (.int .u8 (((x ^^^ y).toNat : Nat) : Int)) (cc.part dd.keys (-dd.count) dd.checks (j + 1)) (by rw [HPC.out, part_succ dd.keys (-dd.count) dd.checks j x y hx hy hcok.keys hdok.keys])]; rw [Nat.zero_add, Nat.add_assoc] at hM; exact hM) ?_
      refine reg ?_
      refine li rfl (opVal (.int .i64 ((j + 1 : Nat) : Int)) rfl (by kernel_rfl) (rAdd _ rfl rfl rfl (by omega) (by omega) (by omega)) ?_)
      refine li rfl (opVal (.int .i64 ((j + 1 : Nat) : Int)) rfl (by kernel_rfl) (rMove rfl rfl) ?_)
      refine liNil ?_
      refine qThen ?_
      exact stAgain (j + 1) (by show _ ≤ _; omega) (by show 32 - (j + 1) < 32 - j; omega) ⟨rfl, rfl, rfl, rfl, rfl, rfl, rfl, trivial⟩ (fun _ h => h)
    · have hd78 := of_decide_eq_false hc78
      obtain rfl : j = 32 := by omega
      refine St.mem (cs' := [cAt btr 75 [(.slice (some ⟨bcr, 0, none⟩) (n) (capr)), (.int .u64 ((seed : Nat) : Int))], cAt bcr 85 (tcells (subTo t u t.cells (i + 1)) ++ restr)]) (fun w hM => by rw [HSU.out]; rw [part_all cc dd.keys (-dd.count) dd.checks hcok.keys hdok.keys] at hM; exact hM) ?_
      refine stExit ?_
      refine qThenX ?_
      refine qThenX ?_
      refine qBlockX ?_
      refine qBlock ?_
      refine qThen ?_
      refine reg ?_
      refine li rfl (opVal (.int .i64 ((i + 1 : Nat) : Int)) rfl (by kernel_rfl) (rAdd _ rfl rfl rfl (by omega) (by omega) (by omega)) ?_)
      refine li rfl (opVal (.int .i64 ((i + 1 : Nat) : Int)) rfl (by kernel_rfl) (rMove rfl rfl) ?_)
      refine liNil ?_
      refine qThen ?_
      exact stAgain (i + 1) (by show _ ≤ _; omega) (by show n - (i + 1) < n - i; omega) ⟨rfl, rfl, rfl, rfl, trivial⟩ (fun _ h => h)
  · have hd41 := of_decide_eq_false hc41
    obtain rfl : i = n := by omega
    refine stExit ?_
    refine qThenX ?_
    refine qThenX ?_
    refine qBlockX ?_
    refine qThen ?_
    refine stSeq ?_
    refine reg ?_
    refine li rfl (opVal (.pointer (some ⟨btr, 0, none⟩)) rfl (by kernel_rfl) (rMove rfl rfl) ?_)
    refine li rfl (opVal (.pointer (some ⟨btr, 0, none⟩)) rfl (by kernel_rfl) (rAssign rfl rfl) ?_)
    refine li rfl (opVal (.int .i64 0) rfl (by kernel_rfl) (rAssign rfl rfl) ?_)
    refine liNil ?_
    refine qThen ?_
    refine stRet ?_
    refine stEnd [(.pointer (some ⟨btr, 0, none⟩)), (.int .i64 0)] rfl ⟨rfl, rfl, trivial⟩ (fun w hM => ?_)
    exact ⟨btr, bcr, capr, restr, rfl, hM.toTab (by rw [sub_len (by rw [HUL.out, HN.out]), HN.out]) (by exact HS.out.symm) (by have e := subTo_all (t := t) (u := u) (l := t.cells) (by rw [HUL.out, HN.out]) rfl; rw [← HN.out] at e; exact e) (sub_ok HT.out.ok HU.out.ok) (by rw [HN.out]; exact HT.out.size) hcap⟩

end Go.Proofs.YtnhagokkamobaaaDoor
