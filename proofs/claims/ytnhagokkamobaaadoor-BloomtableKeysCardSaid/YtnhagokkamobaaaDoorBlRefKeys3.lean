/- Contract of the reference of layer 39: Keys. -/
import Derived.Test.YtnhagokkamobaaaDoorBlRefKeys2
import Derived.Test.YtnhagokkamobaaaDoorBlPlay1
namespace Go.Proofs.YtnhagokkamobaaaDoor
open Go.RowKit

structure KIdx where
  k : Nat
  s : Peel
  g : Nat
  cap : Nat
  rest : List Value
  A5 : Option Addr
  c5 : Nat
  A6 : Option Addr
  c6 : Nat
  A7 : Option Addr
  c7 : Nat
structure KInv (n seed : Nat) (t : BT) (k : Nat) (s : Peel) : Prop where
  kn : k ≤ n
  pe : peel n ⟨t, [], [], []⟩ = peel (n - k) s
  ok : s.t.Ok
  len : s.t.cells.length = n
  seed : s.t.seed = seed
  la : s.added.length ≤ k
  lr : s.removed.length ≤ k
  lt : s.taken.length ≤ k
  sa : ∀ y ∈ s.added, y ∈ s.taken
  sr : ∀ y ∈ s.removed, y ∈ s.taken
theorem KInv.start {n seed : Nat} {t : BT} (h1 : n = t.cells.length) (h2 : seed = t.seed) (h3 : t.Ok) : KInv n seed t 0 ⟨t, [], [], []⟩ :=
  ⟨Nat.zero_le _, rfl, h3, h1.symm, h2.symm, Nat.le_refl _, Nat.le_refl _, Nat.le_refl _, (fun _ h => by cases h), (fun _ h => by cases h)⟩
theorem KInv.fin {n seed : Nat} {t : BT} {k : Nat} {s : Peel} (h : KInv n seed t k s) (hd : k = n ∨ s.t.first = none) : peel n ⟨t, [], [], []⟩ = some s := by
  rw [h.pe]
  rcases hd with rfl | hd
  · rw [Nat.sub_self]; rfl
  · exact peel_none _ s hd
theorem KInv.twice {n seed : Nat} {t : BT} {k : Nat} {s : Peel} (h : KInv n seed t k s) {i : Nat} {cc : BC} (hf : s.t.first = some i) (hc : s.t.cellAt i = cc) (ht : s.taken.contains cc.keys = true) (hk : k < n) : peel n ⟨t, [], [], []⟩ = none := by
  rw [h.pe, show n - k = (n - k - 1) + 1 by omega]
  exact peel_twice _ s i hf (by rw [hc]; exact ht)
theorem KInv.step {n seed : Nat} {t : BT} {k : Nat} {s : Peel} (h : KInv n seed t k s) {i : Nat} {cc : BC} (hf : s.t.first = some i) (hc : s.t.cellAt i = cc) (ht : s.taken.contains cc.keys = false) (hk : k < n) (ho : cc.Ok) : KInv n seed t (k + 1) (s.take cc) := by
  have hp := peel_step (n - k - 1) s i hf (by rw [hc]; exact ht)
  rw [hc] at hp
  refine ⟨by omega, ?_, BT.Ok.change h.ok ho.keys _, by rw [← h.len]; exact change_len _ _ _, by rw [← h.seed]; exact change_seed _ _ _, ?_, ?_, ?_, ?_, ?_⟩
  · rw [h.pe, show n - k = (n - k - 1) + 1 by omega, hp]
    rfl
  · have := h.la; simp only [Peel.take]; split <;> simp <;> omega
  · have := h.lr; simp only [Peel.take]; split <;> simp <;> omega
  · have := h.lt; simp only [Peel.take]; simp; omega
  · intro y hy
    simp only [Peel.take] at hy ⊢
    split at hy
    · rcases List.mem_append.1 hy with hy | hy
      · exact List.mem_cons_of_mem _ (h.sa y hy)
      · rw [List.mem_singleton] at hy; subst hy; exact List.mem_cons_self
    · exact List.mem_cons_of_mem _ (h.sa y hy)
  · intro y hy
    simp only [Peel.take] at hy ⊢
    split at hy
    · exact List.mem_cons_of_mem _ (h.sr y hy)
    · rcases List.mem_append.1 hy with hy | hy
      · exact List.mem_cons_of_mem _ (h.sr y hy)
      · rw [List.mem_singleton] at hy; subst hy; exact List.mem_cons_self
theorem KInv.not_added {n seed : Nat} {t : BT} {k : Nat} {s : Peel} (h : KInv n seed t k s) {y : Key8} (hn : s.taken.contains y = false) : s.added.contains y = false := by
  cases hc : s.added.contains y with
  | false => rfl
  | true =>
    have := h.sa y (by simpa using hc)
    rw [← hn]
    simpa using this
theorem KInv.not_removed {n seed : Nat} {t : BT} {k : Nat} {s : Peel} (h : KInv n seed t k s) {y : Key8} (hn : s.taken.contains y = false) : s.removed.contains y = false := by
  cases hc : s.removed.contains y with
  | false => rfl
  | true =>
    have := h.sr y (by simpa using hc)
    rw [← hn]
    simpa using this
theorem sortS_len (l : List Key8) : (sortS l).length = l.length := by simp [sortS]
theorem snoc_perm (l : List Key8) (y : Key8) : (l ++ [y]).Perm (y :: l) := List.perm_append_comm (l₁ := l) (l₂ := [y])
theorem take_taken (s : Peel) (cc : BC) : insL (sortS s.taken) cc.keys = sortS (s.take cc).taken ∧ s.taken.length + 1 = (s.take cc).taken.length := ⟨ins_sort (List.Perm.refl _), by simp [Peel.take]⟩
theorem take_added (s : Peel) (cc : BC) (h : cc.count = 1) : insL (sortS s.added) cc.keys = sortS (s.take cc).added ∧ s.added.length + 1 = (s.take cc).added.length := by
  have e : (s.take cc).added = s.added ++ [cc.keys] := by simp [Peel.take, h]
  rw [e]
  exact ⟨ins_sort (snoc_perm _ _), by simp⟩
theorem take_removed (s : Peel) (cc : BC) (h : cc.count ≠ 1) : insL (sortS s.removed) cc.keys = sortS (s.take cc).removed ∧ s.removed.length + 1 = (s.take cc).removed.length := by
  have e : (s.take cc).removed = s.removed ++ [cc.keys] := by simp [Peel.take, h]
  rw [e]
  exact ⟨ins_sort (snoc_perm _ _), by simp⟩
theorem refFirst_neg {t : BT} (h : refFirst t < 0) : t.first = none := by
  unfold refFirst at h
  cases hf : t.first with
  | none => rfl
  | some i => rw [hf] at h; simp only at h; omega
theorem refFirst_pos {t : BT} (h : ¬ refFirst t < 0) : ∃ i, t.first = some i := by
  unfold refFirst at h
  cases hf : t.first with
  | none => rw [hf] at h; simp only at h; omega
  | some i => exact ⟨i, rfl⟩
theorem Mm.ownCap {w0 w : World} {F : List Nat} {cs : List Ch} (h : Mm w0 F cs w) {i : Nat} {e : TypeId} {sz : Nat} {A : Option Addr} {m c : Nat} {xs : List Value} (hi : cs[i]? = some (cOwn e sz A m c xs)) : m ≤ c := by
  have ho : w.ownsRow 0 e sz (.slice A m c) m xs := h.at hi
  rcases ho.2 with ⟨hv, h0⟩ | ⟨g, cap, cur, hv, _, _, hnc, _⟩
  · omega
  · simp only [Value.slice.injEq] at hv
    omega
theorem rNegCount {P : Program} {w0 : World} {F : List Nat} {cs : List Ch} {E : Env} {o : Oper} {n : Int} (h : n = 1 ∨ n = -1) (hr : ∀ w, (execOp (evE E) o).run P w = .ok (.value (.int .i64 (IntKind.i64.wrap (0 - n)))) w) : RunV P w0 F cs E o (.int .i64 (-n)) := fun w _ => by
  rw [hr w]
  rcases h with rfl | rfl <;> rfl
/-- What Keys of the reference hands back. -/
def RefKeysPost (n : Nat) (t : BT) (w : World) (e : Ending) (w' : World) : Prop :=
  Fr [] w w' ∧ match peel n ⟨t, [], [], []⟩ with
    | none => e = .returned (.tuple #[.slice none 0 0, .slice none 0 0, .bool false])
    | some s => ∃ A1 c1 A2 c2, e = .returned (.tuple #[.slice A1 s.added.length c1, .slice A2 s.removed.length c2, .bool s.t.empty]) ∧ RowIn w' A1 ((sortS s.added).map S8v) ∧ RowIn w' A2 ((sortS s.removed).map S8v)

set_option maxRecDepth 100000 in
set_option maxHeartbeats 1000000 in
theorem refKeys_any (n seed g0 cap0 : Nat) (rest0 : List Value) (t : BT) (w : World) (ht : RTab w g0 cap0 rest0 t) (hn : n = t.cells.length) (hs : seed = t.seed) :
    Calls Tryd.prog 30 #[(.agg #[(.int .u64 ((seed : Nat) : Int)), (.slice (some ⟨g0, 0, none⟩) (n) (cap0))])] w (RefKeysPost n t w) := by
  have HN := Lib.hid hn
  have HS := Lib.hid hs
  have HT := Lib.hid ht
  have n4 : n ≤ 3072 := by rw [HN.out]; exact (isSz_bounds ht.size).2.1
  obtain ⟨s0, HS0⟩ : ∃ s0 : Peel, Hid (s0 = ⟨t, [], [], []⟩) := ⟨_, rfl⟩
  clear hn hs ht
  refine stEnter (args := [(.agg #[(.int .u64 ((seed : Nat) : Int)), (.slice (some ⟨g0, 0, none⟩) (n) (cap0))])]) [] Tryd.func30 rfl 67 rfl [(0, (.agg #[(.int .u64 ((seed : Nat) : Int)), (.slice (some ⟨g0, 0, none⟩) (n) (cap0))]))] ⟨rfl, trivial⟩ [] (Mm.start w []) ?_
  refine stSeq ?_
  refine reg ?_
  refine li rfl ?_
  refine opBox [(.int .u64 ((seed : Nat) : Int)), (.slice (some ⟨g0, 0, none⟩) (n) (cap0))] rfl rfl (by kernel_rfl) rfl rfl (fun b1 => ?_)
  refine li rfl (opVal (.slice none 0 0) rfl (by kernel_rfl) (rAssign rfl rfl) ?_)
  refine li rfl (opVal (.slice none 0 0) rfl (by kernel_rfl) (rAssign rfl rfl) ?_)
  refine li rfl (opVal (.bool false) rfl (by kernel_rfl) (rAssign rfl rfl) ?_)
  refine liNil ?_
  refine qThen ?_
  refine stSeq ?_
  refine reg ?_
  refine li rfl ?_
  refine opNew (v := fun b => .slice (some ⟨b, 0, none⟩) 0 0) 9 [] rfl (by kernel_rfl) (fun _ => by kernel_rfl) (fun b13 => ?_)
  refine li rfl ?_
  refine opNew (v := fun b => .slice (some ⟨b, 0, none⟩) 0 0) 9 [] rfl (by kernel_rfl) (fun _ => by kernel_rfl) (fun b14 => ?_)
  refine li rfl ?_
  refine opNew (v := fun b => .slice (some ⟨b, 0, none⟩) 0 0) 9 [] rfl (by kernel_rfl) (fun _ => by kernel_rfl) (fun b15 => ?_)
  refine li rfl (opVal (.slice (some ⟨b13, 0, none⟩) (0) (0)) rfl (by kernel_rfl) (rAssign rfl rfl) ?_)
  refine li rfl (opVal (.slice (some ⟨b14, 0, none⟩) (0) (0)) rfl (by kernel_rfl) (rAssign rfl rfl) ?_)
  refine li rfl (opVal (.slice (some ⟨b15, 0, none⟩) (0) (0)) rfl (by kernel_rfl) (rAssign rfl rfl) ?_)
  refine liNil ?_
  refine qThen ?_
  refine stSeq ?_
  refine stSeq ?_
  refine St.mem (cs' := [cAt b1 53 [(.int .u64 ((seed : Nat) : Int)), (.slice (some ⟨g0, 0, none⟩) (n) (cap0))], cOwn 9 1 (some ⟨b13, 0, none⟩) (0) (0) ([]), cAt b14 9 [], cAt b15 9 []]) (fun w hM => hM.toOwn 1 rfl 1 0 0 rfl (Nat.le_refl _) (by unfold maxLen; omega)) ?_
  refine St.mem (cs' := [cAt b1 53 [(.int .u64 ((seed : Nat) : Int)), (.slice (some ⟨g0, 0, none⟩) (n) (cap0))], cOwn 9 1 (some ⟨b13, 0, none⟩) (0) (0) ([]), cOwn 9 1 (some ⟨b14, 0, none⟩) (0) (0) ([]), cAt b15 9 []]) (fun w hM => hM.toOwn 2 rfl 1 0 0 rfl (Nat.le_refl _) (by unfold maxLen; omega)) ?_
  refine St.mem (cs' := [cAt b1 53 [(.int .u64 ((seed : Nat) : Int)), (.slice (some ⟨g0, 0, none⟩) (n) (cap0))], cOwn 9 1 (some ⟨b13, 0, none⟩) (0) (0) ([]), cOwn 9 1 (some ⟨b14, 0, none⟩) (0) (0) ([]), cOwn 9 1 (some ⟨b15, 0, none⟩) (0) (0) ([])]) (fun w hM => hM.toOwn 3 rfl 1 0 0 rfl (Nat.le_refl _) (by unfold maxLen; omega)) ?_
  refine reg ?_
  refine li rfl (opVal (.int .i64 0) rfl (by kernel_rfl) (rAssign rfl rfl) ?_)
  refine liNil ?_
  refine qThen ?_
  refine stBlock ?_
  have hst : KInv n seed t 0 s0 := by rw [HS0.out]; exact KInv.start HN.out HS.out HT.out.ok
  have ha0 : s0.added.length = 0 := by rw [HS0.out]; rfl
  have hr0 : s0.removed.length = 0 := by rw [HS0.out]; rfl
  have ht0 : s0.taken.length = 0 := by rw [HS0.out]; rfl
  have he0 : (sortS s0.added).map S8v = [] := by rw [HS0.out]; simp [sortS]
  have he1 : (sortS s0.removed).map S8v = [] := by rw [HS0.out]; simp [sortS]
  have he2 : (sortS s0.taken).map S8v = [] := by rw [HS0.out]; simp [sortS]
  refine St.conv 5 (v' := .slice (some ⟨b13, 0, none⟩) s0.added.length 0) rfl (by rw [ha0]) ?_
  refine St.conv 6 (v' := .slice (some ⟨b14, 0, none⟩) s0.removed.length 0) rfl (by rw [hr0]) ?_
  refine St.conv 7 (v' := .slice (some ⟨b15, 0, none⟩) s0.taken.length 0) rfl (by rw [ht0]) ?_
  refine stLoop (ι := Bool × KIdx) (fun p => KInv n seed t p.2.k p.2.s ∧ (p.1 = true → RTab w p.2.g p.2.cap p.2.rest p.2.s.t)) (fun p => n - p.2.k) (fun | (_, x) => [(1, (.pointer (some ⟨b1, 0, none⟩))), (5, (.slice x.A5 (x.s.added.length) (x.c5))), (6, (.slice x.A6 (x.s.removed.length) (x.c6))), (7, (.slice x.A7 (x.s.taken.length) (x.c7))), (8, (.int .i64 ((x.k : Nat) : Int)))]) (fun | (true, x) => [cAt b1 53 [(.int .u64 ((seed : Nat) : Int)), (.slice (some ⟨x.g, 0, none⟩) (n) (x.cap))], cOwn 9 1 x.A5 (x.s.added.length) (x.c5) ((sortS x.s.added).map S8v), cOwn 9 1 x.A6 (x.s.removed.length) (x.c6) ((sortS x.s.removed).map S8v), cOwn 9 1 x.A7 (x.s.taken.length) (x.c7) ((sortS x.s.taken).map S8v)] | (false, x) => [cAt b1 53 [(.int .u64 ((seed : Nat) : Int)), (.slice (some ⟨x.g, 0, none⟩) (n) (x.cap))], cOwn 9 1 x.A5 (x.s.added.length) (x.c5) ((sortS x.s.added).map S8v), cOwn 9 1 x.A6 (x.s.removed.length) (x.c6) ((sortS x.s.removed).map S8v), cOwn 9 1 x.A7 (x.s.taken.length) (x.c7) ((sortS x.s.taken).map S8v), cRTab x.g x.cap x.rest x.s.t]) (true, (⟨0, s0, g0, cap0, rest0, some ⟨b13, 0, none⟩, 0, some ⟨b14, 0, none⟩, 0, some ⟨b15, 0, none⟩, 0⟩ : KIdx)) ⟨hst, fun _ => by show RTab w g0 cap0 rest0 s0.t; rw [HS0.out]; exact HT.out⟩ ⟨rfl, rfl, rfl, rfl, rfl, trivial⟩ (fun w hM => by show Mm _ _ [cAt b1 53 [(.int .u64 ((seed : Nat) : Int)), (.slice (some ⟨g0, 0, none⟩) (n) (cap0))], cOwn 9 1 (some ⟨b13, 0, none⟩) (s0.added.length) (0) ((sortS s0.added).map S8v), cOwn 9 1 (some ⟨b14, 0, none⟩) (s0.removed.length) (0) ((sortS s0.removed).map S8v), cOwn 9 1 (some ⟨b15, 0, none⟩) (s0.taken.length) (0) ((sortS s0.taken).map S8v)] w; rw [ha0, hr0, ht0, he0, he1, he2]; exact hM) ?_
  rintro ⟨old, x⟩ ⟨hok, hold⟩
  obtain ⟨k, s, g, cap, rest, A5, c5, A6, c6, A7, c7⟩ := x
  replace hok : KInv n seed t k s := hok
  have hb5 := hok.la
  have hb6 := hok.lr
  have hb7 := hok.lt
  have hkn := hok.kn
  cases old with
  | false =>
    show St _ _ _ [(1, (.pointer (some ⟨b1, 0, none⟩))), (5, (.slice A5 (s.added.length) (c5))), (6, (.slice A6 (s.removed.length) (c6))), (7, (.slice A7 (s.taken.length) (c7))), (8, (.int .i64 ((k : Nat) : Int)))] [cAt b1 53 [(.int .u64 ((seed : Nat) : Int)), (.slice (some ⟨g, 0, none⟩) (n) (cap))], cOwn 9 1 A5 (s.added.length) (c5) ((sortS s.added).map S8v), cOwn 9 1 A6 (s.removed.length) (c6) ((sortS s.removed).map S8v), cOwn 9 1 A7 (s.taken.length) (c7) ((sortS s.taken).map S8v), cRTab g cap rest s.t] _
    clear hold
    refine stSeq ?_
    refine stSeq ?_
    refine reg ?_
    refine li rfl (opVal (.int .i64 ((k : Nat) : Int)) rfl (by kernel_rfl) (rMove rfl rfl) ?_)
    refine li rfl (opVal (.pointer (some ⟨b1, 1, none⟩)) rfl (by kernel_rfl) (rClosed fun _ => by kernel_rfl) ?_)
    refine li rfl (opVal (.slice (some ⟨g, 0, none⟩) (n) (cap)) rfl (by kernel_rfl) (rLoad 0 rfl rfl (by kernel_rfl) rfl rfl) ?_)
    refine li rfl (opVal (.int .i64 ((n : Nat) : Int)) rfl (by kernel_rfl) (rClosed fun _ => by kernel_rfl) ?_)
    refine li rfl (opVal (.bool (decide (((k : Nat) : Int) < ((n : Nat) : Int)))) rfl (by kernel_rfl) (rClosed fun _ => by kernel_rfl) ?_)
    refine liNil ?_
    refine qThen ?_
    refine stCond rfl (fun hc20 => ?_) (fun hc20 => ?_)
    · have hd20 := of_decide_eq_true hc20
      have hklt : k < n := by omega
      refine stSkip ?_
      refine qThen ?_
      refine stSeq ?_
      refine stBlock ?_
      refine stSeq ?_
      refine reg ?_
      refine li rfl (opVal (.agg #[(.int .u64 ((seed : Nat) : Int)), (.slice (some ⟨g, 0, none⟩) (n) (cap))]) rfl (by kernel_rfl) (rLoadA [(.int .u64 ((seed : Nat) : Int)), (.slice (some ⟨g, 0, none⟩) (n) (cap))] rfl rfl (by kernel_rfl) (by kernel_rfl) (segAt (i := 0) rfl (by intro j v hj; first | (rw [Nat.zero_add]; exact hj) | (match j, hj with | 0, h => exact h | 1, h => exact h)))) ?_)
      refine li rfl ?_
      refine opCall 52 #[(.agg #[(.int .u64 ((seed : Nat) : Int)), (.slice (some ⟨g, 0, none⟩) (n) (cap))])] rfl (by kernel_rfl) (fun _ => by kernel_rfl) (fun w hM => ?_)
      refine (refPure_any g cap rest s.t n seed w (hM.at (i := 4) rfl) hok.len.symm hok.seed.symm).mono ?_
      rintro e w' ⟨rfl, hf⟩
      have hM' := hM.fr0 hf
      refine ⟨_, _, rfl, hM', ?_⟩
      clear hM hM' hf
      refine li rfl (opVal (.int .i64 (refFirst s.t)) rfl (by kernel_rfl) (rAssign rfl rfl) ?_)
      refine liNil ?_
      refine qThen ?_
      refine stSeq ?_
      refine stSeq ?_
      refine reg ?_
      refine li rfl (opVal (.int .i64 (refFirst s.t)) rfl (by kernel_rfl) (rMove rfl rfl) ?_)
      refine li rfl (opVal (.bool (decide ((refFirst s.t) < 0))) rfl (by kernel_rfl) (rClosed fun _ => by kernel_rfl) ?_)
      refine liNil ?_
      refine qThen ?_
      refine stCond rfl (fun hc26 => ?_) (fun hc26 => ?_)
      · have hd26 := of_decide_eq_true hc26
        have hno : s.t.first = none := refFirst_neg hd26
        have hfin := hok.fin (.inr hno)
        refine stExit ?_
        refine qThenX ?_
        refine qBlockY rfl ?_
        refine qThenX ?_
        refine qThenX ?_
        refine qBlockX ?_
        refine qThen ?_
        refine stSeq ?_
        refine reg ?_
        refine li rfl (opVal (.slice A5 (s.added.length) (c5)) rfl (by kernel_rfl) (rMove rfl rfl) ?_)
        refine li rfl (opVal (.slice A6 (s.removed.length) (c6)) rfl (by kernel_rfl) (rMove rfl rfl) ?_)
        refine li rfl (opVal (.agg #[(.int .u64 ((seed : Nat) : Int)), (.slice (some ⟨g, 0, none⟩) (n) (cap))]) rfl (by kernel_rfl) (rLoadA [(.int .u64 ((seed : Nat) : Int)), (.slice (some ⟨g, 0, none⟩) (n) (cap))] rfl rfl (by kernel_rfl) (by kernel_rfl) (segAt (i := 0) rfl (by intro j v hj; first | (rw [Nat.zero_add]; exact hj) | (match j, hj with | 0, h => exact h | 1, h => exact h)))) ?_)
        refine li rfl ?_
        refine opCall 36 #[(.agg #[(.int .u64 ((seed : Nat) : Int)), (.slice (some ⟨g, 0, none⟩) (n) (cap))])] rfl (by kernel_rfl) (fun _ => by kernel_rfl) (fun w hM => ?_)
        refine (by have h := refEmpty_any g cap rest s.t w (hM.at (i := 4) rfl); rw [hok.len, hok.seed] at h; exact h : Calls _ _ _ w fun e w' => e = .returned (.bool s.t.empty) ∧ Fr [] w w').mono ?_
        rintro e w' ⟨rfl, hf⟩
        have hM' := hM.fr0 hf
        refine ⟨_, _, rfl, hM', ?_⟩
        clear hM hM' hf
        refine li rfl (opVal (.slice A5 (s.added.length) (c5)) rfl (by kernel_rfl) (rAssign rfl rfl) ?_)
        refine li rfl (opVal (.slice A6 (s.removed.length) (c6)) rfl (by kernel_rfl) (rAssign rfl rfl) ?_)
        refine li rfl (opVal (.bool s.t.empty) rfl (by kernel_rfl) (rAssign rfl rfl) ?_)
        refine liNil ?_
        refine qThen ?_
        refine stRet ?_
        refine stEnd [(.slice A5 (s.added.length) (c5)), (.slice A6 (s.removed.length) (c6)), (.bool s.t.empty)] rfl ⟨rfl, rfl, rfl, trivial⟩ (fun w hM => ?_)
        exact ⟨hM.fr, by rw [hfin]; exact ⟨A5, c5, A6, c6, rfl, rowOwn (i := 1) rfl w hM, rowOwn (i := 2) rfl w hM⟩⟩
      · have hd26 := of_decide_eq_false hc26
        obtain ⟨i, hfi⟩ : ∃ i, s.t.first = some i := refFirst_pos hd26
        have hfe : refFirst s.t = ((i : Nat) : Int) := refFirst_some hfi
        obtain ⟨cc, hc, hcp, hcc⟩ := first_some hfi
        have hlti : i < n := by have h := (List.getElem?_eq_some_iff.1 hc).1; rw [hok.len] at h; exact h
        have hcok : cc.Ok := hok.ok.cells cc (List.mem_of_getElem? hc)
        have hclen := BC.cells_len hcok
        have hcnt := pure_count hcp
        refine St.conv 9 (v' := .int .i64 ((i : Nat) : Int)) rfl (congrArg (Value.int .i64) hfe) ?_
        refine stSkip ?_
        refine qThen ?_
        refine stSeq ?_
        refine reg ?_
        refine li rfl (opVal (.pointer (some ⟨b1, 1, none⟩)) rfl (by kernel_rfl) (rClosed fun _ => by kernel_rfl) ?_)
        refine li rfl (opVal (.slice (some ⟨g, 0, none⟩) (n) (cap)) rfl (by kernel_rfl) (rLoad 0 rfl rfl (by kernel_rfl) rfl rfl) ?_)
        refine li rfl (opVal (.int .i64 ((i : Nat) : Int)) rfl (by kernel_rfl) (rMove rfl rfl) ?_)
        refine li rfl (opVal (.pointer (some ⟨g, 0 + i * 34, none⟩)) rfl (by kernel_rfl) (rIndexAddr (e := 95) (sz := 34) rfl (by kernel_rfl) (by kernel_rfl) rfl rfl (by omega)) ?_)
        refine li rfl (opVal (.agg (cc.cells).toArray) rfl (by kernel_rfl) (rLoadA cc.cells rfl rfl (by kernel_rfl) (by rw [hclen]; kernel_rfl) (fun w hM j v hj => by rw [Nat.zero_add]; exact refCell (hM.at (i := 4) rfl : RTab w g cap rest s.t) hc j v hj)) ?_)
        refine li rfl ?_
        refine opAlloc [(.int .i64 0), (.int .u8 0), (.int .u8 0), (.int .u8 0), (.int .u8 0), (.int .u8 0), (.int .u8 0), (.int .u8 0), (.int .u8 0), (.int .u8 0), (.int .u8 0), (.int .u8 0), (.int .u8 0), (.int .u8 0), (.int .u8 0), (.int .u8 0), (.int .u8 0), (.int .u8 0), (.int .u8 0), (.int .u8 0), (.int .u8 0), (.int .u8 0), (.int .u8 0), (.int .u8 0), (.int .u8 0), (.int .u8 0), (.int .u8 0), (.int .u8 0), (.int .u8 0), (.int .u8 0), (.int .u8 0), (.int .u8 0), (.int .u8 0), (.int .u64 0)] rfl rfl (by kernel_rfl) (by kernel_rfl) (fun b10 => ?_)
        refine li rfl ?_
        refine opStoreN 5 cc.cells (vs := cc.cells) rfl rfl (by kernel_rfl) rfl rfl rfl (by rw [hclen]; kernel_rfl) rfl (by rw [hclen]; decide) (BC.cells_one cc) (store_all (by rw [hclen]; rfl)) ?_
        refine liNil ?_
        refine qThen ?_
        refine stSeq ?_
        refine reg ?_
        refine li rfl (opVal (.pointer (some ⟨b10, 1, none⟩)) rfl (by kernel_rfl) (rClosed fun _ => by kernel_rfl) ?_)
        refine li rfl (opVal (.slice (some ⟨b10, 1, none⟩) (32) (32)) rfl (by kernel_rfl) (rClosed fun _ => by kernel_rfl) ?_)
        refine li rfl (opVal (.string (strOf cc.keys)) rfl (by kernel_rfl) (rStr (e := 5) cc.keys rfl (by kernel_rfl) (by kernel_rfl) (by kernel_rfl) rfl hcok.keys.symm (rowAt' (i := 5) (off := 1) rfl (fun j v hj => cells_keys hj))) ?_)
        refine li rfl (opVal (.string (strOf cc.keys)) rfl (by kernel_rfl) (rAssign rfl rfl) ?_)
        refine li rfl (opVal (.bool false) rfl (by kernel_rfl) (rAssign rfl rfl) ?_)
        refine liNil ?_
        refine qThen ?_
        refine stSeq ?_
        cases hnt : s.taken.contains cc.keys with
        | true =>
          have htw := hok.twice hfi hcc hnt hklt
          refine reg ?_
          refine li rfl (opVal (.slice A7 (s.taken.length) (c7)) rfl (by kernel_rfl) (rMove rfl rfl) ?_)
          refine li rfl (opVal (.string (strOf cc.keys)) rfl (by kernel_rfl) (rMove rfl rfl) ?_)
          refine li rfl ?_
          refine opCall 53 #[(.slice A7 (s.taken.length) (c7)), (.string (strOf cc.keys))] rfl (by kernel_rfl) (fun _ => by kernel_rfl) (fun w hM => ?_)
          refine (by have h := refInsert_found A7 c7 (sortS s.taken) cc.keys w (rowOwn (i := 3) rfl w hM) (by rw [sortS_len]; omega) (by rw [insF_sort]; exact hnt); rw [sortS_len] at h; exact h : Calls _ _ _ w fun e w' => e = .returned (.tuple #[.slice A7 s.taken.length c7, .bool true]) ∧ Fr [] w w').mono ?_
          rintro e w' ⟨rfl, hf⟩
          have hM' := hM.fr0 hf
          refine ⟨_, _, rfl, hM', ?_⟩
          clear hM hM' hf
          refine li rfl (opVal (.tuple #[(.slice A7 (s.taken.length) (c7)), (.bool true)]) rfl (by kernel_rfl) (rMove rfl rfl) ?_)
          refine li rfl (opVal (.slice A7 (s.taken.length) (c7)) rfl (by kernel_rfl) (rClosed fun _ => by kernel_rfl) ?_)
          refine li rfl (opVal (.bool true) rfl (by kernel_rfl) (rClosed fun _ => by kernel_rfl) ?_)
          refine li rfl (opVal (.slice A7 (s.taken.length) (c7)) rfl (by kernel_rfl) (rAssign rfl rfl) ?_)
          refine li rfl (opVal (.bool true) rfl (by kernel_rfl) (rAssign rfl rfl) ?_)
          refine liNil ?_
          refine qThen ?_
          refine stSeq ?_
          refine stSeq ?_
          refine reg ?_
          refine li rfl (opVal (.bool true) rfl (by kernel_rfl) (rMove rfl rfl) ?_)
          refine liNil ?_
          refine qThen ?_
          refine stTrue rfl ?_
          refine stSeq ?_
          refine reg ?_
          refine li rfl (opVal (.slice none 0 0) rfl (by kernel_rfl) (rAssign rfl rfl) ?_)
          refine li rfl (opVal (.slice none 0 0) rfl (by kernel_rfl) (rAssign rfl rfl) ?_)
          refine li rfl (opVal (.bool false) rfl (by kernel_rfl) (rAssign rfl rfl) ?_)
          refine liNil ?_
          refine qThen ?_
          refine stRet ?_
          refine qThenR ?_
          refine qBlockR ?_
          refine qThenR ?_
          refine qThenR ?_
          refine qBlockR ?_
          refine qThenR ?_
          refine stEnd [(.slice none 0 0), (.slice none 0 0), (.bool false)] rfl ⟨rfl, rfl, rfl, trivial⟩ (fun w hM => ?_)
          exact ⟨hM.fr, by rw [htw]; rfl⟩
        | false =>
          refine reg ?_
          refine li rfl (opVal (.slice A7 (s.taken.length) (c7)) rfl (by kernel_rfl) (rMove rfl rfl) ?_)
          refine li rfl (opVal (.string (strOf cc.keys)) rfl (by kernel_rfl) (rMove rfl rfl) ?_)
          refine li rfl ?_
          refine opCall 53 #[(.slice A7 (s.taken.length) (c7)), (.string (strOf cc.keys))] rfl (by kernel_rfl) (fun _ => by kernel_rfl) (fun w hM => ?_)
          refine (by have h := refInsert_new A7 c7 (sortS s.taken) cc.keys w (rowOwn (i := 3) rfl w hM) (by rw [sortS_len]; omega) (by rw [sortS_len]; exact hM.ownCap (i := 3) rfl) (by rw [insF_sort]; exact hnt); rw [sortS_len, (take_taken s cc).1, (take_taken s cc).2] at h; exact h : Calls _ _ _ w fun e w' => ∃ A' c', e = .returned (.tuple #[.slice A' (s.take cc).taken.length c', .bool false]) ∧ Mm w [] [cOwn 9 1 A' (s.take cc).taken.length c' ((sortS (s.take cc).taken).map S8v)] w').mono ?_
          rintro e w' ⟨A38, c38, rfl, hP⟩
          have hM' := hM.lift hP
          refine ⟨_, _, rfl, hM', ?_⟩
          clear hM hM' hP
          refine li rfl (opVal (.tuple #[(.slice A38 ((s.take cc).taken.length) (c38)), (.bool false)]) rfl (by kernel_rfl) (rMove rfl rfl) ?_)
          refine li rfl (opVal (.slice A38 ((s.take cc).taken.length) (c38)) rfl (by kernel_rfl) (rClosed fun _ => by kernel_rfl) ?_)
          refine li rfl (opVal (.bool false) rfl (by kernel_rfl) (rClosed fun _ => by kernel_rfl) ?_)
          refine li rfl (opVal (.slice A38 ((s.take cc).taken.length) (c38)) rfl (by kernel_rfl) (rAssign rfl rfl) ?_)
          refine li rfl (opVal (.bool false) rfl (by kernel_rfl) (rAssign rfl rfl) ?_)
          refine liNil ?_
          refine qThen ?_
          refine stSeq ?_
          refine stSeq ?_
          refine reg ?_
          refine li rfl (opVal (.bool false) rfl (by kernel_rfl) (rMove rfl rfl) ?_)
          refine liNil ?_
          refine qThen ?_
          refine stFalse rfl ?_
          refine stSkip ?_
          refine qThen ?_
          refine stSeq ?_
          refine stSeq ?_
          refine reg ?_
          refine li rfl (opVal (.pointer (some ⟨b10, 0, none⟩)) rfl (by kernel_rfl) (rClosed fun _ => by kernel_rfl) ?_)
          refine li rfl (opVal (.int .i64 cc.count) rfl (by kernel_rfl) (rLoad 5 rfl rfl (by kernel_rfl) rfl (cells_get0 cc)) ?_)
          refine li rfl (opVal (.bool ((cc.count : Int) == 1)) rfl (by kernel_rfl) (rClosed fun _ => by kernel_rfl) ?_)
          refine liNil ?_
          refine qThen ?_
          refine stCond rfl (fun hc44 => ?_) (fun hc44 => ?_)
          · have hct : cc.count = 1 := eq_of_beq hc44
            have hsame : (s.take cc).removed = s.removed := by simp [Peel.take, hct]
            refine St.conv 6 (v' := .slice A6 (s.take cc).removed.length c6) rfl (by rw [hsame]) ?_
            refine St.mem (cs' := [cAt b1 53 [(.int .u64 ((seed : Nat) : Int)), (.slice (some ⟨g, 0, none⟩) (n) (cap))], cOwn 9 1 A5 (s.added.length) (c5) ((sortS s.added).map S8v), cOwn 9 1 A6 ((s.take cc).removed.length) (c6) ((sortS (s.take cc).removed).map S8v), cOwn 9 1 A7 (s.taken.length) (c7) ((sortS s.taken).map S8v), cRTab g cap rest s.t, cAt b10 95 (cc.cells), cOwn 9 1 A38 ((s.take cc).taken.length) (c38) ((sortS (s.take cc).taken).map S8v)]) (fun w hM => by rw [hsame]; exact hM) ?_
            refine reg ?_
            refine li rfl (opVal (.slice A5 (s.added.length) (c5)) rfl (by kernel_rfl) (rMove rfl rfl) ?_)
            refine li rfl (opVal (.string (strOf cc.keys)) rfl (by kernel_rfl) (rMove rfl rfl) ?_)
            refine li rfl ?_
            refine opCall 53 #[(.slice A5 (s.added.length) (c5)), (.string (strOf cc.keys))] rfl (by kernel_rfl) (fun _ => by kernel_rfl) (fun w hM => ?_)
            refine (by have h := refInsert_new A5 c5 (sortS s.added) cc.keys w (rowOwn (i := 1) rfl w hM) (by rw [sortS_len]; omega) (by rw [sortS_len]; exact hM.ownCap (i := 1) rfl) (by rw [insF_sort]; exact hok.not_added hnt); rw [sortS_len, (take_added s cc hct).1, (take_added s cc hct).2] at h; exact h : Calls _ _ _ w fun e w' => ∃ A' c', e = .returned (.tuple #[.slice A' (s.take cc).added.length c', .bool false]) ∧ Mm w [] [cOwn 9 1 A' (s.take cc).added.length c' ((sortS (s.take cc).added).map S8v)] w').mono ?_
            rintro e w' ⟨A48, c48, rfl, hP⟩
            have hM' := hM.lift hP
            refine ⟨_, _, rfl, hM', ?_⟩
            clear hM hM' hP
            refine li rfl (opVal (.tuple #[(.slice A48 ((s.take cc).added.length) (c48)), (.bool false)]) rfl (by kernel_rfl) (rMove rfl rfl) ?_)
            refine li rfl (opVal (.slice A48 ((s.take cc).added.length) (c48)) rfl (by kernel_rfl) (rClosed fun _ => by kernel_rfl) ?_)
            refine li rfl (opVal (.bool false) rfl (by kernel_rfl) (rClosed fun _ => by kernel_rfl) ?_)
            refine li rfl (opVal (.slice A48 ((s.take cc).added.length) (c48)) rfl (by kernel_rfl) (rAssign rfl rfl) ?_)
            refine liNil ?_
            refine qThen ?_
            refine reg ?_
            refine li rfl (opVal (.agg #[(.int .u64 ((seed : Nat) : Int)), (.slice (some ⟨g, 0, none⟩) (n) (cap))]) rfl (by kernel_rfl) (rLoadA [(.int .u64 ((seed : Nat) : Int)), (.slice (some ⟨g, 0, none⟩) (n) (cap))] rfl rfl (by kernel_rfl) (by kernel_rfl) (segAt (i := 0) rfl (by intro j v hj; first | (rw [Nat.zero_add]; exact hj) | (match j, hj with | 0, h => exact h | 1, h => exact h)))) ?_)
            refine li rfl (opVal (.string (strOf cc.keys)) rfl (by kernel_rfl) (rMove rfl rfl) ?_)
            refine li rfl (opVal (.pointer (some ⟨b10, 0, none⟩)) rfl (by kernel_rfl) (rClosed fun _ => by kernel_rfl) ?_)
            refine li rfl (opVal (.int .i64 cc.count) rfl (by kernel_rfl) (rLoad 5 rfl rfl (by kernel_rfl) rfl (cells_get0 cc)) ?_)
            refine li rfl (opVal (.int .i64 (-cc.count)) rfl (by kernel_rfl) (rNegCount hcnt (fun _ => by kernel_rfl)) ?_)
            refine li rfl ?_
            refine opCall 51 #[(.agg #[(.int .u64 ((seed : Nat) : Int)), (.slice (some ⟨g, 0, none⟩) (n) (cap))]), (.string (strOf cc.keys)), (.int .i64 (-cc.count))] rfl (by kernel_rfl) (fun _ => by kernel_rfl) (fun w hM => ?_)
            refine (by have h := refAdd_any g cap rest s.t cc.keys (-cc.count) w (hM.at (i := 4) rfl) hcok.keys; rw [hok.len, hok.seed] at h; exact h : Calls _ _ _ w fun e w' => ∃ g c rest, e = .returned (.agg #[.int .u64 (seed : Int), .slice (some ⟨g, 0, none⟩) n c]) ∧ w.heap.size ≤ g ∧ Fr [] w w' ∧ RTab w' g c rest (s.take cc).t).mono ?_
            rintro e w' ⟨g3, cap3, rest3, rfl, hg, hf, ht⟩
            have hM' := hM.pushRTab hf ht hg
            refine ⟨_, _, rfl, hM', ?_⟩
            clear hM hM' hg hf ht
            refine li rfl ?_
            refine opStoreN 0 [(.int .u64 ((seed : Nat) : Int)), (.slice (some ⟨g3, 0, none⟩) (n) (cap3))] (vs := [(.int .u64 ((seed : Nat) : Int)), (.slice (some ⟨g3, 0, none⟩) (n) (cap3))]) rfl rfl (by kernel_rfl) rfl rfl rfl (by kernel_rfl) rfl (by simp) (by simp [Value.oneCell']) rfl ?_
            refine liNil ?_
            refine qBlock ?_
            refine qThen ?_
            refine reg ?_
            refine li rfl (opVal (.int .i64 ((k : Nat) : Int)) rfl (by kernel_rfl) (rMove rfl rfl) ?_)
            refine li rfl (opVal (.int .i64 ((k + 1 : Nat) : Int)) rfl (by kernel_rfl) (rAdd _ rfl rfl rfl (by omega) (by omega) (by omega)) ?_)
            refine li rfl (opVal (.int .i64 ((k + 1 : Nat) : Int)) rfl (by kernel_rfl) (rAssign rfl rfl) ?_)
            refine liNil ?_
            refine qThen ?_
            exact stAgain (false, (⟨k + 1, s.take cc, g3, cap3, rest3, A48, c48, A6, c6, A38, c38⟩ : KIdx)) ⟨hok.step hfi hcc hnt hklt hcok, fun h => by cases h⟩ (by show n - (k + 1) < n - k; omega) ⟨rfl, rfl, rfl, rfl, rfl, trivial⟩ (fun w hM => by show Mm _ _ [cAt b1 53 [(.int .u64 ((seed : Nat) : Int)), (.slice (some ⟨g3, 0, none⟩) (n) (cap3))], cOwn 9 1 A48 ((s.take cc).added.length) (c48) ((sortS (s.take cc).added).map S8v), cOwn 9 1 A6 ((s.take cc).removed.length) (c6) ((sortS (s.take cc).removed).map S8v), cOwn 9 1 A38 ((s.take cc).taken.length) (c38) ((sortS (s.take cc).taken).map S8v), cRTab g3 cap3 rest3 (s.take cc).t] w; exact (fun (w : World) (h : Mm _ _ _ w) => Mm.perm h (.trans (.cons _ (.cons _ (.swap _ _ _))) (.cons _ (.swap _ _ _)))) w ((fun (w : World) (h : Mm _ _ _ w) => Mm.sub h (.cons_cons _ (.cons _ (.cons_cons _ (.cons _ (.cons _ (.cons _ (.cons_cons _ (.cons_cons _ (.cons_cons _ .slnil)))))))))) w hM))
          · have hct : cc.count ≠ 1 := ne_of_beq_false hc44
            have hsame : (s.take cc).added = s.added := by simp [Peel.take, hct]
            refine St.conv 5 (v' := .slice A5 (s.take cc).added.length c5) rfl (by rw [hsame]) ?_
            refine St.mem (cs' := [cAt b1 53 [(.int .u64 ((seed : Nat) : Int)), (.slice (some ⟨g, 0, none⟩) (n) (cap))], cOwn 9 1 A5 ((s.take cc).added.length) (c5) ((sortS (s.take cc).added).map S8v), cOwn 9 1 A6 (s.removed.length) (c6) ((sortS s.removed).map S8v), cOwn 9 1 A7 (s.taken.length) (c7) ((sortS s.taken).map S8v), cRTab g cap rest s.t, cAt b10 95 (cc.cells), cOwn 9 1 A38 ((s.take cc).taken.length) (c38) ((sortS (s.take cc).taken).map S8v)]) (fun w hM => by rw [hsame]; exact hM) ?_
            refine reg ?_
            refine li rfl (opVal (.slice A6 (s.removed.length) (c6)) rfl (by kernel_rfl) (rMove rfl rfl) ?_)
            refine li rfl (opVal (.string (strOf cc.keys)) rfl (by kernel_rfl) (rMove rfl rfl) ?_)
            refine li rfl ?_
            refine opCall 53 #[(.slice A6 (s.removed.length) (c6)), (.string (strOf cc.keys))] rfl (by kernel_rfl) (fun _ => by kernel_rfl) (fun w hM => ?_)
            refine (by have h := refInsert_new A6 c6 (sortS s.removed) cc.keys w (rowOwn (i := 2) rfl w hM) (by rw [sortS_len]; omega) (by rw [sortS_len]; exact hM.ownCap (i := 2) rfl) (by rw [insF_sort]; exact hok.not_removed hnt); rw [sortS_len, (take_removed s cc hct).1, (take_removed s cc hct).2] at h; exact h : Calls _ _ _ w fun e w' => ∃ A' c', e = .returned (.tuple #[.slice A' (s.take cc).removed.length c', .bool false]) ∧ Mm w [] [cOwn 9 1 A' (s.take cc).removed.length c' ((sortS (s.take cc).removed).map S8v)] w').mono ?_
            rintro e w' ⟨A54, c54, rfl, hP⟩
            have hM' := hM.lift hP
            refine ⟨_, _, rfl, hM', ?_⟩
            clear hM hM' hP
            refine li rfl (opVal (.tuple #[(.slice A54 ((s.take cc).removed.length) (c54)), (.bool false)]) rfl (by kernel_rfl) (rMove rfl rfl) ?_)
            refine li rfl (opVal (.slice A54 ((s.take cc).removed.length) (c54)) rfl (by kernel_rfl) (rClosed fun _ => by kernel_rfl) ?_)
            refine li rfl (opVal (.bool false) rfl (by kernel_rfl) (rClosed fun _ => by kernel_rfl) ?_)
            refine li rfl (opVal (.slice A54 ((s.take cc).removed.length) (c54)) rfl (by kernel_rfl) (rAssign rfl rfl) ?_)
            refine liNil ?_
            refine qThen ?_
            refine reg ?_
            refine li rfl (opVal (.agg #[(.int .u64 ((seed : Nat) : Int)), (.slice (some ⟨g, 0, none⟩) (n) (cap))]) rfl (by kernel_rfl) (rLoadA [(.int .u64 ((seed : Nat) : Int)), (.slice (some ⟨g, 0, none⟩) (n) (cap))] rfl rfl (by kernel_rfl) (by kernel_rfl) (segAt (i := 0) rfl (by intro j v hj; first | (rw [Nat.zero_add]; exact hj) | (match j, hj with | 0, h => exact h | 1, h => exact h)))) ?_)
            refine li rfl (opVal (.string (strOf cc.keys)) rfl (by kernel_rfl) (rMove rfl rfl) ?_)
            refine li rfl (opVal (.pointer (some ⟨b10, 0, none⟩)) rfl (by kernel_rfl) (rClosed fun _ => by kernel_rfl) ?_)
            refine li rfl (opVal (.int .i64 cc.count) rfl (by kernel_rfl) (rLoad 5 rfl rfl (by kernel_rfl) rfl (cells_get0 cc)) ?_)
            refine li rfl (opVal (.int .i64 (-cc.count)) rfl (by kernel_rfl) (rNegCount hcnt (fun _ => by kernel_rfl)) ?_)
            refine li rfl ?_
            refine opCall 51 #[(.agg #[(.int .u64 ((seed : Nat) : Int)), (.slice (some ⟨g, 0, none⟩) (n) (cap))]), (.string (strOf cc.keys)), (.int .i64 (-cc.count))] rfl (by kernel_rfl) (fun _ => by kernel_rfl) (fun w hM => ?_)
            refine (by have h := refAdd_any g cap rest s.t cc.keys (-cc.count) w (hM.at (i := 4) rfl) hcok.keys; rw [hok.len, hok.seed] at h; exact h : Calls _ _ _ w fun e w' => ∃ g c rest, e = .returned (.agg #[.int .u64 (seed : Int), .slice (some ⟨g, 0, none⟩) n c]) ∧ w.heap.size ≤ g ∧ Fr [] w w' ∧ RTab w' g c rest (s.take cc).t).mono ?_
            rintro e w' ⟨g3, cap3, rest3, rfl, hg, hf, ht⟩
            have hM' := hM.pushRTab hf ht hg
            refine ⟨_, _, rfl, hM', ?_⟩
            clear hM hM' hg hf ht
            refine li rfl ?_
            refine opStoreN 0 [(.int .u64 ((seed : Nat) : Int)), (.slice (some ⟨g3, 0, none⟩) (n) (cap3))] (vs := [(.int .u64 ((seed : Nat) : Int)), (.slice (some ⟨g3, 0, none⟩) (n) (cap3))]) rfl rfl (by kernel_rfl) rfl rfl rfl (by kernel_rfl) rfl (by simp) (by simp [Value.oneCell']) rfl ?_
            refine liNil ?_
            refine qBlock ?_
            refine qThen ?_
            refine reg ?_
            refine li rfl (opVal (.int .i64 ((k : Nat) : Int)) rfl (by kernel_rfl) (rMove rfl rfl) ?_)
            refine li rfl (opVal (.int .i64 ((k + 1 : Nat) : Int)) rfl (by kernel_rfl) (rAdd _ rfl rfl rfl (by omega) (by omega) (by omega)) ?_)
            refine li rfl (opVal (.int .i64 ((k + 1 : Nat) : Int)) rfl (by kernel_rfl) (rAssign rfl rfl) ?_)
            refine liNil ?_
            refine qThen ?_
            exact stAgain (false, (⟨k + 1, s.take cc, g3, cap3, rest3, A5, c5, A54, c54, A38, c38⟩ : KIdx)) ⟨hok.step hfi hcc hnt hklt hcok, fun h => by cases h⟩ (by show n - (k + 1) < n - k; omega) ⟨rfl, rfl, rfl, rfl, rfl, trivial⟩ (fun w hM => by show Mm _ _ [cAt b1 53 [(.int .u64 ((seed : Nat) : Int)), (.slice (some ⟨g3, 0, none⟩) (n) (cap3))], cOwn 9 1 A5 ((s.take cc).added.length) (c5) ((sortS (s.take cc).added).map S8v), cOwn 9 1 A54 ((s.take cc).removed.length) (c54) ((sortS (s.take cc).removed).map S8v), cOwn 9 1 A38 ((s.take cc).taken.length) (c38) ((sortS (s.take cc).taken).map S8v), cRTab g3 cap3 rest3 (s.take cc).t] w; exact (fun (w : World) (h : Mm _ _ _ w) => Mm.perm h (.cons _ (.cons _ (.swap _ _ _)))) w ((fun (w : World) (h : Mm _ _ _ w) => Mm.sub h (.cons_cons _ (.cons_cons _ (.cons _ (.cons _ (.cons _ (.cons _ (.cons_cons _ (.cons_cons _ (.cons_cons _ .slnil)))))))))) w hM))
    · have hd20 := of_decide_eq_false hc20
      have hke : k = n := by omega
      have hfin := hok.fin (.inl hke)
      refine stExit ?_
      refine qThenX ?_
      refine qThenX ?_
      refine qBlockX ?_
      refine qThen ?_
      refine stSeq ?_
      refine reg ?_
      refine li rfl (opVal (.slice A5 (s.added.length) (c5)) rfl (by kernel_rfl) (rMove rfl rfl) ?_)
      refine li rfl (opVal (.slice A6 (s.removed.length) (c6)) rfl (by kernel_rfl) (rMove rfl rfl) ?_)
      refine li rfl (opVal (.agg #[(.int .u64 ((seed : Nat) : Int)), (.slice (some ⟨g, 0, none⟩) (n) (cap))]) rfl (by kernel_rfl) (rLoadA [(.int .u64 ((seed : Nat) : Int)), (.slice (some ⟨g, 0, none⟩) (n) (cap))] rfl rfl (by kernel_rfl) (by kernel_rfl) (segAt (i := 0) rfl (by intro j v hj; first | (rw [Nat.zero_add]; exact hj) | (match j, hj with | 0, h => exact h | 1, h => exact h)))) ?_)
      refine li rfl ?_
      refine opCall 36 #[(.agg #[(.int .u64 ((seed : Nat) : Int)), (.slice (some ⟨g, 0, none⟩) (n) (cap))])] rfl (by kernel_rfl) (fun _ => by kernel_rfl) (fun w hM => ?_)
      refine (by have h := refEmpty_any g cap rest s.t w (hM.at (i := 4) rfl); rw [hok.len, hok.seed] at h; exact h : Calls _ _ _ w fun e w' => e = .returned (.bool s.t.empty) ∧ Fr [] w w').mono ?_
      rintro e w' ⟨rfl, hf⟩
      have hM' := hM.fr0 hf
      refine ⟨_, _, rfl, hM', ?_⟩
      clear hM hM' hf
      refine li rfl (opVal (.slice A5 (s.added.length) (c5)) rfl (by kernel_rfl) (rAssign rfl rfl) ?_)
      refine li rfl (opVal (.slice A6 (s.removed.length) (c6)) rfl (by kernel_rfl) (rAssign rfl rfl) ?_)
      refine li rfl (opVal (.bool s.t.empty) rfl (by kernel_rfl) (rAssign rfl rfl) ?_)
      refine liNil ?_
      refine qThen ?_
      refine stRet ?_
      refine stEnd [(.slice A5 (s.added.length) (c5)), (.slice A6 (s.removed.length) (c6)), (.bool s.t.empty)] rfl ⟨rfl, rfl, rfl, trivial⟩ (fun w hM => ?_)
      exact ⟨hM.fr, by rw [hfin]; exact ⟨A5, c5, A6, c6, rfl, rowOwn (i := 1) rfl w hM, rowOwn (i := 2) rfl w hM⟩⟩
  | true =>
    show St _ _ _ [(1, (.pointer (some ⟨b1, 0, none⟩))), (5, (.slice A5 (s.added.length) (c5))), (6, (.slice A6 (s.removed.length) (c6))), (7, (.slice A7 (s.taken.length) (c7))), (8, (.int .i64 ((k : Nat) : Int)))] [cAt b1 53 [(.int .u64 ((seed : Nat) : Int)), (.slice (some ⟨g, 0, none⟩) (n) (cap))], cOwn 9 1 A5 (s.added.length) (c5) ((sortS s.added).map S8v), cOwn 9 1 A6 (s.removed.length) (c6) ((sortS s.removed).map S8v), cOwn 9 1 A7 (s.taken.length) (c7) ((sortS s.taken).map S8v)] _
    have HO : Hid (RTab w g cap rest s.t) := hold rfl
    clear hold
    refine stSeq ?_
    refine stSeq ?_
    refine reg ?_
    refine li rfl (opVal (.int .i64 ((k : Nat) : Int)) rfl (by kernel_rfl) (rMove rfl rfl) ?_)
    refine li rfl (opVal (.pointer (some ⟨b1, 1, none⟩)) rfl (by kernel_rfl) (rClosed fun _ => by kernel_rfl) ?_)
    refine li rfl (opVal (.slice (some ⟨g, 0, none⟩) (n) (cap)) rfl (by kernel_rfl) (rLoad 0 rfl rfl (by kernel_rfl) rfl rfl) ?_)
    refine li rfl (opVal (.int .i64 ((n : Nat) : Int)) rfl (by kernel_rfl) (rClosed fun _ => by kernel_rfl) ?_)
    refine li rfl (opVal (.bool (decide (((k : Nat) : Int) < ((n : Nat) : Int)))) rfl (by kernel_rfl) (rClosed fun _ => by kernel_rfl) ?_)
    refine liNil ?_
    refine qThen ?_
    refine stCond rfl (fun hc20 => ?_) (fun hc20 => ?_)
    · have hd20 := of_decide_eq_true hc20
      have hklt : k < n := by omega
      refine stSkip ?_
      refine qThen ?_
      refine stSeq ?_
      refine stBlock ?_
      refine stSeq ?_
      refine reg ?_
      refine li rfl (opVal (.agg #[(.int .u64 ((seed : Nat) : Int)), (.slice (some ⟨g, 0, none⟩) (n) (cap))]) rfl (by kernel_rfl) (rLoadA [(.int .u64 ((seed : Nat) : Int)), (.slice (some ⟨g, 0, none⟩) (n) (cap))] rfl rfl (by kernel_rfl) (by kernel_rfl) (segAt (i := 0) rfl (by intro j v hj; first | (rw [Nat.zero_add]; exact hj) | (match j, hj with | 0, h => exact h | 1, h => exact h)))) ?_)
      refine li rfl ?_
      refine opCall 52 #[(.agg #[(.int .u64 ((seed : Nat) : Int)), (.slice (some ⟨g, 0, none⟩) (n) (cap))])] rfl (by kernel_rfl) (fun _ => by kernel_rfl) (fun w hM => ?_)
      refine (refPure_any g cap rest s.t n seed w (HO.out.fr hM.fr (by simp)) hok.len.symm hok.seed.symm).mono ?_
      rintro e w' ⟨rfl, hf⟩
      have hM' := hM.fr0 hf
      refine ⟨_, _, rfl, hM', ?_⟩
      clear hM hM' hf
      refine li rfl (opVal (.int .i64 (refFirst s.t)) rfl (by kernel_rfl) (rAssign rfl rfl) ?_)
      refine liNil ?_
      refine qThen ?_
      refine stSeq ?_
      refine stSeq ?_
      refine reg ?_
      refine li rfl (opVal (.int .i64 (refFirst s.t)) rfl (by kernel_rfl) (rMove rfl rfl) ?_)
      refine li rfl (opVal (.bool (decide ((refFirst s.t) < 0))) rfl (by kernel_rfl) (rClosed fun _ => by kernel_rfl) ?_)
      refine liNil ?_
      refine qThen ?_
      refine stCond rfl (fun hc26 => ?_) (fun hc26 => ?_)
      · have hd26 := of_decide_eq_true hc26
        have hno : s.t.first = none := refFirst_neg hd26
        have hfin := hok.fin (.inr hno)
        refine stExit ?_
        refine qThenX ?_
        refine qBlockY rfl ?_
        refine qThenX ?_
        refine qThenX ?_
        refine qBlockX ?_
        refine qThen ?_
        refine stSeq ?_
        refine reg ?_
        refine li rfl (opVal (.slice A5 (s.added.length) (c5)) rfl (by kernel_rfl) (rMove rfl rfl) ?_)
        refine li rfl (opVal (.slice A6 (s.removed.length) (c6)) rfl (by kernel_rfl) (rMove rfl rfl) ?_)
        refine li rfl (opVal (.agg #[(.int .u64 ((seed : Nat) : Int)), (.slice (some ⟨g, 0, none⟩) (n) (cap))]) rfl (by kernel_rfl) (rLoadA [(.int .u64 ((seed : Nat) : Int)), (.slice (some ⟨g, 0, none⟩) (n) (cap))] rfl rfl (by kernel_rfl) (by kernel_rfl) (segAt (i := 0) rfl (by intro j v hj; first | (rw [Nat.zero_add]; exact hj) | (match j, hj with | 0, h => exact h | 1, h => exact h)))) ?_)
        refine li rfl ?_
        refine opCall 36 #[(.agg #[(.int .u64 ((seed : Nat) : Int)), (.slice (some ⟨g, 0, none⟩) (n) (cap))])] rfl (by kernel_rfl) (fun _ => by kernel_rfl) (fun w hM => ?_)
        refine (by have h := refEmpty_any g cap rest s.t w (HO.out.fr hM.fr (by simp)); rw [hok.len, hok.seed] at h; exact h : Calls _ _ _ w fun e w' => e = .returned (.bool s.t.empty) ∧ Fr [] w w').mono ?_
        rintro e w' ⟨rfl, hf⟩
        have hM' := hM.fr0 hf
        refine ⟨_, _, rfl, hM', ?_⟩
        clear hM hM' hf
        refine li rfl (opVal (.slice A5 (s.added.length) (c5)) rfl (by kernel_rfl) (rAssign rfl rfl) ?_)
        refine li rfl (opVal (.slice A6 (s.removed.length) (c6)) rfl (by kernel_rfl) (rAssign rfl rfl) ?_)
        refine li rfl (opVal (.bool s.t.empty) rfl (by kernel_rfl) (rAssign rfl rfl) ?_)
        refine liNil ?_
        refine qThen ?_
        refine stRet ?_
        refine stEnd [(.slice A5 (s.added.length) (c5)), (.slice A6 (s.removed.length) (c6)), (.bool s.t.empty)] rfl ⟨rfl, rfl, rfl, trivial⟩ (fun w hM => ?_)
        exact ⟨hM.fr, by rw [hfin]; exact ⟨A5, c5, A6, c6, rfl, rowOwn (i := 1) rfl w hM, rowOwn (i := 2) rfl w hM⟩⟩
      · have hd26 := of_decide_eq_false hc26
        obtain ⟨i, hfi⟩ : ∃ i, s.t.first = some i := refFirst_pos hd26
        have hfe : refFirst s.t = ((i : Nat) : Int) := refFirst_some hfi
        obtain ⟨cc, hc, hcp, hcc⟩ := first_some hfi
        have hlti : i < n := by have h := (List.getElem?_eq_some_iff.1 hc).1; rw [hok.len] at h; exact h
        have hcok : cc.Ok := hok.ok.cells cc (List.mem_of_getElem? hc)
        have hclen := BC.cells_len hcok
        have hcnt := pure_count hcp
        refine St.conv 9 (v' := .int .i64 ((i : Nat) : Int)) rfl (congrArg (Value.int .i64) hfe) ?_
        refine stSkip ?_
        refine qThen ?_
        refine stSeq ?_
        refine reg ?_
        refine li rfl (opVal (.pointer (some ⟨b1, 1, none⟩)) rfl (by kernel_rfl) (rClosed fun _ => by kernel_rfl) ?_)
        refine li rfl (opVal (.slice (some ⟨g, 0, none⟩) (n) (cap)) rfl (by kernel_rfl) (rLoad 0 rfl rfl (by kernel_rfl) rfl rfl) ?_)
        refine li rfl (opVal (.int .i64 ((i : Nat) : Int)) rfl (by kernel_rfl) (rMove rfl rfl) ?_)
        refine li rfl (opVal (.pointer (some ⟨g, 0 + i * 34, none⟩)) rfl (by kernel_rfl) (rIndexAddr (e := 95) (sz := 34) rfl (by kernel_rfl) (by kernel_rfl) rfl rfl (by omega)) ?_)
        refine li rfl (opVal (.agg (cc.cells).toArray) rfl (by kernel_rfl) (rLoadA cc.cells rfl rfl (by kernel_rfl) (by rw [hclen]; kernel_rfl) (fun w hM j v hj => by rw [Nat.zero_add]; exact hM.old (refCell HO.out hc j v hj) (by simp))) ?_)
        refine li rfl ?_
        refine opAlloc [(.int .i64 0), (.int .u8 0), (.int .u8 0), (.int .u8 0), (.int .u8 0), (.int .u8 0), (.int .u8 0), (.int .u8 0), (.int .u8 0), (.int .u8 0), (.int .u8 0), (.int .u8 0), (.int .u8 0), (.int .u8 0), (.int .u8 0), (.int .u8 0), (.int .u8 0), (.int .u8 0), (.int .u8 0), (.int .u8 0), (.int .u8 0), (.int .u8 0), (.int .u8 0), (.int .u8 0), (.int .u8 0), (.int .u8 0), (.int .u8 0), (.int .u8 0), (.int .u8 0), (.int .u8 0), (.int .u8 0), (.int .u8 0), (.int .u8 0), (.int .u64 0)] rfl rfl (by kernel_rfl) (by kernel_rfl) (fun b10 => ?_)
        refine li rfl ?_
        refine opStoreN 4 cc.cells (vs := cc.cells) rfl rfl (by kernel_rfl) rfl rfl rfl (by rw [hclen]; kernel_rfl) rfl (by rw [hclen]; decide) (BC.cells_one cc) (store_all (by rw [hclen]; rfl)) ?_
        refine liNil ?_
        refine qThen ?_
        refine stSeq ?_
        refine reg ?_
        refine li rfl (opVal (.pointer (some ⟨b10, 1, none⟩)) rfl (by kernel_rfl) (rClosed fun _ => by kernel_rfl) ?_)
        refine li rfl (opVal (.slice (some ⟨b10, 1, none⟩) (32) (32)) rfl (by kernel_rfl) (rClosed fun _ => by kernel_rfl) ?_)
        refine li rfl (opVal (.string (strOf cc.keys)) rfl (by kernel_rfl) (rStr (e := 5) cc.keys rfl (by kernel_rfl) (by kernel_rfl) (by kernel_rfl) rfl hcok.keys.symm (rowAt' (i := 4) (off := 1) rfl (fun j v hj => cells_keys hj))) ?_)
        refine li rfl (opVal (.string (strOf cc.keys)) rfl (by kernel_rfl) (rAssign rfl rfl) ?_)
        refine li rfl (opVal (.bool false) rfl (by kernel_rfl) (rAssign rfl rfl) ?_)
        refine liNil ?_
        refine qThen ?_
        refine stSeq ?_
        cases hnt : s.taken.contains cc.keys with
        | true =>
          have htw := hok.twice hfi hcc hnt hklt
          refine reg ?_
          refine li rfl (opVal (.slice A7 (s.taken.length) (c7)) rfl (by kernel_rfl) (rMove rfl rfl) ?_)
          refine li rfl (opVal (.string (strOf cc.keys)) rfl (by kernel_rfl) (rMove rfl rfl) ?_)
          refine li rfl ?_
          refine opCall 53 #[(.slice A7 (s.taken.length) (c7)), (.string (strOf cc.keys))] rfl (by kernel_rfl) (fun _ => by kernel_rfl) (fun w hM => ?_)
          refine (by have h := refInsert_found A7 c7 (sortS s.taken) cc.keys w (rowOwn (i := 3) rfl w hM) (by rw [sortS_len]; omega) (by rw [insF_sort]; exact hnt); rw [sortS_len] at h; exact h : Calls _ _ _ w fun e w' => e = .returned (.tuple #[.slice A7 s.taken.length c7, .bool true]) ∧ Fr [] w w').mono ?_
          rintro e w' ⟨rfl, hf⟩
          have hM' := hM.fr0 hf
          refine ⟨_, _, rfl, hM', ?_⟩
          clear hM hM' hf
          refine li rfl (opVal (.tuple #[(.slice A7 (s.taken.length) (c7)), (.bool true)]) rfl (by kernel_rfl) (rMove rfl rfl) ?_)
          refine li rfl (opVal (.slice A7 (s.taken.length) (c7)) rfl (by kernel_rfl) (rClosed fun _ => by kernel_rfl) ?_)
          refine li rfl (opVal (.bool true) rfl (by kernel_rfl) (rClosed fun _ => by kernel_rfl) ?_)
          refine li rfl (opVal (.slice A7 (s.taken.length) (c7)) rfl (by kernel_rfl) (rAssign rfl rfl) ?_)
          refine li rfl (opVal (.bool true) rfl (by kernel_rfl) (rAssign rfl rfl) ?_)
          refine liNil ?_
          refine qThen ?_
          refine stSeq ?_
          refine stSeq ?_
          refine reg ?_
          refine li rfl (opVal (.bool true) rfl (by kernel_rfl) (rMove rfl rfl) ?_)
          refine liNil ?_
          refine qThen ?_
          refine stTrue rfl ?_
          refine stSeq ?_
          refine reg ?_
          refine li rfl (opVal (.slice none 0 0) rfl (by kernel_rfl) (rAssign rfl rfl) ?_)
          refine li rfl (opVal (.slice none 0 0) rfl (by kernel_rfl) (rAssign rfl rfl) ?_)
          refine li rfl (opVal (.bool false) rfl (by kernel_rfl) (rAssign rfl rfl) ?_)
          refine liNil ?_
          refine qThen ?_
          refine stRet ?_
          refine qThenR ?_
          refine qBlockR ?_
          refine qThenR ?_
          refine qThenR ?_
          refine qBlockR ?_
          refine qThenR ?_
          refine stEnd [(.slice none 0 0), (.slice none 0 0), (.bool false)] rfl ⟨rfl, rfl, rfl, trivial⟩ (fun w hM => ?_)
          exact ⟨hM.fr, by rw [htw]; rfl⟩
        | false =>
          refine reg ?_
          refine li rfl (opVal (.slice A7 (s.taken.length) (c7)) rfl (by kernel_rfl) (rMove rfl rfl) ?_)
          refine li rfl (opVal (.string (strOf cc.keys)) rfl (by kernel_rfl) (rMove rfl rfl) ?_)
          refine li rfl ?_
          refine opCall 53 #[(.slice A7 (s.taken.length) (c7)), (.string (strOf cc.keys))] rfl (by kernel_rfl) (fun _ => by kernel_rfl) (fun w hM => ?_)
          refine (by have h := refInsert_new A7 c7 (sortS s.taken) cc.keys w (rowOwn (i := 3) rfl w hM) (by rw [sortS_len]; omega) (by rw [sortS_len]; exact hM.ownCap (i := 3) rfl) (by rw [insF_sort]; exact hnt); rw [sortS_len, (take_taken s cc).1, (take_taken s cc).2] at h; exact h : Calls _ _ _ w fun e w' => ∃ A' c', e = .returned (.tuple #[.slice A' (s.take cc).taken.length c', .bool false]) ∧ Mm w [] [cOwn 9 1 A' (s.take cc).taken.length c' ((sortS (s.take cc).taken).map S8v)] w').mono ?_
          rintro e w' ⟨A38, c38, rfl, hP⟩
          have hM' := hM.lift hP
          refine ⟨_, _, rfl, hM', ?_⟩
          clear hM hM' hP
          refine li rfl (opVal (.tuple #[(.slice A38 ((s.take cc).taken.length) (c38)), (.bool false)]) rfl (by kernel_rfl) (rMove rfl rfl) ?_)
          refine li rfl (opVal (.slice A38 ((s.take cc).taken.length) (c38)) rfl (by kernel_rfl) (rClosed fun _ => by kernel_rfl) ?_)
          refine li rfl (opVal (.bool false) rfl (by kernel_rfl) (rClosed fun _ => by kernel_rfl) ?_)
          refine li rfl (opVal (.slice A38 ((s.take cc).taken.length) (c38)) rfl (by kernel_rfl) (rAssign rfl rfl) ?_)
          refine li rfl (opVal (.bool false) rfl (by kernel_rfl) (rAssign rfl rfl) ?_)
          refine liNil ?_
          refine qThen ?_
          refine stSeq ?_
          refine stSeq ?_
          refine reg ?_
          refine li rfl (opVal (.bool false) rfl (by kernel_rfl) (rMove rfl rfl) ?_)
          refine liNil ?_
          refine qThen ?_
          refine stFalse rfl ?_
          refine stSkip ?_
          refine qThen ?_
          refine stSeq ?_
          refine stSeq ?_
          refine reg ?_
          refine li rfl (opVal (.pointer (some ⟨b10, 0, none⟩)) rfl (by kernel_rfl) (rClosed fun _ => by kernel_rfl) ?_)
          refine li rfl (opVal (.int .i64 cc.count) rfl (by kernel_rfl) (rLoad 4 rfl rfl (by kernel_rfl) rfl (cells_get0 cc)) ?_)
          refine li rfl (opVal (.bool ((cc.count : Int) == 1)) rfl (by kernel_rfl) (rClosed fun _ => by kernel_rfl) ?_)
          refine liNil ?_
          refine qThen ?_
          refine stCond rfl (fun hc44 => ?_) (fun hc44 => ?_)
          · have hct : cc.count = 1 := eq_of_beq hc44
            have hsame : (s.take cc).removed = s.removed := by simp [Peel.take, hct]
            refine St.conv 6 (v' := .slice A6 (s.take cc).removed.length c6) rfl (by rw [hsame]) ?_
            refine St.mem (cs' := [cAt b1 53 [(.int .u64 ((seed : Nat) : Int)), (.slice (some ⟨g, 0, none⟩) (n) (cap))], cOwn 9 1 A5 (s.added.length) (c5) ((sortS s.added).map S8v), cOwn 9 1 A6 ((s.take cc).removed.length) (c6) ((sortS (s.take cc).removed).map S8v), cOwn 9 1 A7 (s.taken.length) (c7) ((sortS s.taken).map S8v), cAt b10 95 (cc.cells), cOwn 9 1 A38 ((s.take cc).taken.length) (c38) ((sortS (s.take cc).taken).map S8v)]) (fun w hM => by rw [hsame]; exact hM) ?_
            refine reg ?_
            refine li rfl (opVal (.slice A5 (s.added.length) (c5)) rfl (by kernel_rfl) (rMove rfl rfl) ?_)
            refine li rfl (opVal (.string (strOf cc.keys)) rfl (by kernel_rfl) (rMove rfl rfl) ?_)
            refine li rfl ?_
            refine opCall 53 #[(.slice A5 (s.added.length) (c5)), (.string (strOf cc.keys))] rfl (by kernel_rfl) (fun _ => by kernel_rfl) (fun w hM => ?_)
            refine (by have h := refInsert_new A5 c5 (sortS s.added) cc.keys w (rowOwn (i := 1) rfl w hM) (by rw [sortS_len]; omega) (by rw [sortS_len]; exact hM.ownCap (i := 1) rfl) (by rw [insF_sort]; exact hok.not_added hnt); rw [sortS_len, (take_added s cc hct).1, (take_added s cc hct).2] at h; exact h : Calls _ _ _ w fun e w' => ∃ A' c', e = .returned (.tuple #[.slice A' (s.take cc).added.length c', .bool false]) ∧ Mm w [] [cOwn 9 1 A' (s.take cc).added.length c' ((sortS (s.take cc).added).map S8v)] w').mono ?_
            rintro e w' ⟨A48, c48, rfl, hP⟩
            have hM' := hM.lift hP
            refine ⟨_, _, rfl, hM', ?_⟩
            clear hM hM' hP
            refine li rfl (opVal (.tuple #[(.slice A48 ((s.take cc).added.length) (c48)), (.bool false)]) rfl (by kernel_rfl) (rMove rfl rfl) ?_)
            refine li rfl (opVal (.slice A48 ((s.take cc).added.length) (c48)) rfl (by kernel_rfl) (rClosed fun _ => by kernel_rfl) ?_)
            refine li rfl (opVal (.bool false) rfl (by kernel_rfl) (rClosed fun _ => by kernel_rfl) ?_)
            refine li rfl (opVal (.slice A48 ((s.take cc).added.length) (c48)) rfl (by kernel_rfl) (rAssign rfl rfl) ?_)
            refine liNil ?_
            refine qThen ?_
            refine reg ?_
            refine li rfl (opVal (.agg #[(.int .u64 ((seed : Nat) : Int)), (.slice (some ⟨g, 0, none⟩) (n) (cap))]) rfl (by kernel_rfl) (rLoadA [(.int .u64 ((seed : Nat) : Int)), (.slice (some ⟨g, 0, none⟩) (n) (cap))] rfl rfl (by kernel_rfl) (by kernel_rfl) (segAt (i := 0) rfl (by intro j v hj; first | (rw [Nat.zero_add]; exact hj) | (match j, hj with | 0, h => exact h | 1, h => exact h)))) ?_)
            refine li rfl (opVal (.string (strOf cc.keys)) rfl (by kernel_rfl) (rMove rfl rfl) ?_)
            refine li rfl (opVal (.pointer (some ⟨b10, 0, none⟩)) rfl (by kernel_rfl) (rClosed fun _ => by kernel_rfl) ?_)
            refine li rfl (opVal (.int .i64 cc.count) rfl (by kernel_rfl) (rLoad 4 rfl rfl (by kernel_rfl) rfl (cells_get0 cc)) ?_)
            refine li rfl (opVal (.int .i64 (-cc.count)) rfl (by kernel_rfl) (rNegCount hcnt (fun _ => by kernel_rfl)) ?_)
            refine li rfl ?_
            refine opCall 51 #[(.agg #[(.int .u64 ((seed : Nat) : Int)), (.slice (some ⟨g, 0, none⟩) (n) (cap))]), (.string (strOf cc.keys)), (.int .i64 (-cc.count))] rfl (by kernel_rfl) (fun _ => by kernel_rfl) (fun w hM => ?_)
            refine (by have h := refAdd_any g cap rest s.t cc.keys (-cc.count) w (HO.out.fr hM.fr (by simp)) hcok.keys; rw [hok.len, hok.seed] at h; exact h : Calls _ _ _ w fun e w' => ∃ g c rest, e = .returned (.agg #[.int .u64 (seed : Int), .slice (some ⟨g, 0, none⟩) n c]) ∧ w.heap.size ≤ g ∧ Fr [] w w' ∧ RTab w' g c rest (s.take cc).t).mono ?_
            rintro e w' ⟨g3, cap3, rest3, rfl, hg, hf, ht⟩
            have hM' := hM.pushRTab hf ht hg
            refine ⟨_, _, rfl, hM', ?_⟩
            clear hM hM' hg hf ht
            refine li rfl ?_
            refine opStoreN 0 [(.int .u64 ((seed : Nat) : Int)), (.slice (some ⟨g3, 0, none⟩) (n) (cap3))] (vs := [(.int .u64 ((seed : Nat) : Int)), (.slice (some ⟨g3, 0, none⟩) (n) (cap3))]) rfl rfl (by kernel_rfl) rfl rfl rfl (by kernel_rfl) rfl (by simp) (by simp [Value.oneCell']) rfl ?_
            refine liNil ?_
            refine qBlock ?_
            refine qThen ?_
            refine reg ?_
            refine li rfl (opVal (.int .i64 ((k : Nat) : Int)) rfl (by kernel_rfl) (rMove rfl rfl) ?_)
            refine li rfl (opVal (.int .i64 ((k + 1 : Nat) : Int)) rfl (by kernel_rfl) (rAdd _ rfl rfl rfl (by omega) (by omega) (by omega)) ?_)
            refine li rfl (opVal (.int .i64 ((k + 1 : Nat) : Int)) rfl (by kernel_rfl) (rAssign rfl rfl) ?_)
            refine liNil ?_
            refine qThen ?_
            exact stAgain (false, (⟨k + 1, s.take cc, g3, cap3, rest3, A48, c48, A6, c6, A38, c38⟩ : KIdx)) ⟨hok.step hfi hcc hnt hklt hcok, fun h => by cases h⟩ (by show n - (k + 1) < n - k; omega) ⟨rfl, rfl, rfl, rfl, rfl, trivial⟩ (fun w hM => by show Mm _ _ [cAt b1 53 [(.int .u64 ((seed : Nat) : Int)), (.slice (some ⟨g3, 0, none⟩) (n) (cap3))], cOwn 9 1 A48 ((s.take cc).added.length) (c48) ((sortS (s.take cc).added).map S8v), cOwn 9 1 A6 ((s.take cc).removed.length) (c6) ((sortS (s.take cc).removed).map S8v), cOwn 9 1 A38 ((s.take cc).taken.length) (c38) ((sortS (s.take cc).taken).map S8v), cRTab g3 cap3 rest3 (s.take cc).t] w; exact (fun (w : World) (h : Mm _ _ _ w) => Mm.perm h (.trans (.cons _ (.cons _ (.swap _ _ _))) (.cons _ (.swap _ _ _)))) w ((fun (w : World) (h : Mm _ _ _ w) => Mm.sub h (.cons_cons _ (.cons _ (.cons_cons _ (.cons _ (.cons _ (.cons_cons _ (.cons_cons _ (.cons_cons _ .slnil))))))))) w hM))
          · have hct : cc.count ≠ 1 := ne_of_beq_false hc44
            have hsame : (s.take cc).added = s.added := by simp [Peel.take, hct]
            refine St.conv 5 (v' := .slice A5 (s.take cc).added.length c5) rfl (by rw [hsame]) ?_
            refine St.mem (cs' := [cAt b1 53 [(.int .u64 ((seed : Nat) : Int)), (.slice (some ⟨g, 0, none⟩) (n) (cap))], cOwn 9 1 A5 ((s.take cc).added.length) (c5) ((sortS (s.take cc).added).map S8v), cOwn 9 1 A6 (s.removed.length) (c6) ((sortS s.removed).map S8v), cOwn 9 1 A7 (s.taken.length) (c7) ((sortS s.taken).map S8v), cAt b10 95 (cc.cells), cOwn 9 1 A38 ((s.take cc).taken.length) (c38) ((sortS (s.take cc).taken).map S8v)]) (fun w hM => by rw [hsame]; exact hM) ?_
            refine reg ?_
            refine li rfl (opVal (.slice A6 (s.removed.length) (c6)) rfl (by kernel_rfl) (rMove rfl rfl) ?_)
            refine li rfl (opVal (.string (strOf cc.keys)) rfl (by kernel_rfl) (rMove rfl rfl) ?_)
            refine li rfl ?_
            refine opCall 53 #[(.slice A6 (s.removed.length) (c6)), (.string (strOf cc.keys))] rfl (by kernel_rfl) (fun _ => by kernel_rfl) (fun w hM => ?_)
            refine (by have h := refInsert_new A6 c6 (sortS s.removed) cc.keys w (rowOwn (i := 2) rfl w hM) (by rw [sortS_len]; omega) (by rw [sortS_len]; exact hM.ownCap (i := 2) rfl) (by rw [insF_sort]; exact hok.not_removed hnt); rw [sortS_len, (take_removed s cc hct).1, (take_removed s cc hct).2] at h; exact h : Calls _ _ _ w fun e w' => ∃ A' c', e = .returned (.tuple #[.slice A' (s.take cc).removed.length c', .bool false]) ∧ Mm w [] [cOwn 9 1 A' (s.take cc).removed.length c' ((sortS (s.take cc).removed).map S8v)] w').mono ?_
            rintro e w' ⟨A54, c54, rfl, hP⟩
            have hM' := hM.lift hP
            refine ⟨_, _, rfl, hM', ?_⟩
            clear hM hM' hP
            refine li rfl (opVal (.tuple #[(.slice A54 ((s.take cc).removed.length) (c54)), (.bool false)]) rfl (by kernel_rfl) (rMove rfl rfl) ?_)
            refine li rfl (opVal (.slice A54 ((s.take cc).removed.length) (c54)) rfl (by kernel_rfl) (rClosed fun _ => by kernel_rfl) ?_)
            refine li rfl (opVal (.bool false) rfl (by kernel_rfl) (rClosed fun _ => by kernel_rfl) ?_)
            refine li rfl (opVal (.slice A54 ((s.take cc).removed.length) (c54)) rfl (by kernel_rfl) (rAssign rfl rfl) ?_)
            refine liNil ?_
            refine qThen ?_
            refine reg ?_
            refine li rfl (opVal (.agg #[(.int .u64 ((seed : Nat) : Int)), (.slice (some ⟨g, 0, none⟩) (n) (cap))]) rfl (by kernel_rfl) (rLoadA [(.int .u64 ((seed : Nat) : Int)), (.slice (some ⟨g, 0, none⟩) (n) (cap))] rfl rfl (by kernel_rfl) (by kernel_rfl) (segAt (i := 0) rfl (by intro j v hj; first | (rw [Nat.zero_add]; exact hj) | (match j, hj with | 0, h => exact h | 1, h => exact h)))) ?_)
            refine li rfl (opVal (.string (strOf cc.keys)) rfl (by kernel_rfl) (rMove rfl rfl) ?_)
            refine li rfl (opVal (.pointer (some ⟨b10, 0, none⟩)) rfl (by kernel_rfl) (rClosed fun _ => by kernel_rfl) ?_)
            refine li rfl (opVal (.int .i64 cc.count) rfl (by kernel_rfl) (rLoad 4 rfl rfl (by kernel_rfl) rfl (cells_get0 cc)) ?_)
            refine li rfl (opVal (.int .i64 (-cc.count)) rfl (by kernel_rfl) (rNegCount hcnt (fun _ => by kernel_rfl)) ?_)
            refine li rfl ?_
            refine opCall 51 #[(.agg #[(.int .u64 ((seed : Nat) : Int)), (.slice (some ⟨g, 0, none⟩) (n) (cap))]), (.string (strOf cc.keys)), (.int .i64 (-cc.count))] rfl (by kernel_rfl) (fun _ => by kernel_rfl) (fun w hM => ?_)
            refine (by have h := refAdd_any g cap rest s.t cc.keys (-cc.count) w (HO.out.fr hM.fr (by simp)) hcok.keys; rw [hok.len, hok.seed] at h; exact h : Calls _ _ _ w fun e w' => ∃ g c rest, e = .returned (.agg #[.int .u64 (seed : Int), .slice (some ⟨g, 0, none⟩) n c]) ∧ w.heap.size ≤ g ∧ Fr [] w w' ∧ RTab w' g c rest (s.take cc).t).mono ?_
            rintro e w' ⟨g3, cap3, rest3, rfl, hg, hf, ht⟩
            have hM' := hM.pushRTab hf ht hg
            refine ⟨_, _, rfl, hM', ?_⟩
            clear hM hM' hg hf ht
            refine li rfl ?_
            refine opStoreN 0 [(.int .u64 ((seed : Nat) : Int)), (.slice (some ⟨g3, 0, none⟩) (n) (cap3))] (vs := [(.int .u64 ((seed : Nat) : Int)), (.slice (some ⟨g3, 0, none⟩) (n) (cap3))]) rfl rfl (by kernel_rfl) rfl rfl rfl (by kernel_rfl) rfl (by simp) (by simp [Value.oneCell']) rfl ?_
            refine liNil ?_
            refine qBlock ?_
            refine qThen ?_
            refine reg ?_
            refine li rfl (opVal (.int .i64 ((k : Nat) : Int)) rfl (by kernel_rfl) (rMove rfl rfl) ?_)
            refine li rfl (opVal (.int .i64 ((k + 1 : Nat) : Int)) rfl (by kernel_rfl) (rAdd _ rfl rfl rfl (by omega) (by omega) (by omega)) ?_)
            refine li rfl (opVal (.int .i64 ((k + 1 : Nat) : Int)) rfl (by kernel_rfl) (rAssign rfl rfl) ?_)
            refine liNil ?_
            refine qThen ?_
            exact stAgain (false, (⟨k + 1, s.take cc, g3, cap3, rest3, A5, c5, A54, c54, A38, c38⟩ : KIdx)) ⟨hok.step hfi hcc hnt hklt hcok, fun h => by cases h⟩ (by show n - (k + 1) < n - k; omega) ⟨rfl, rfl, rfl, rfl, rfl, trivial⟩ (fun w hM => by show Mm _ _ [cAt b1 53 [(.int .u64 ((seed : Nat) : Int)), (.slice (some ⟨g3, 0, none⟩) (n) (cap3))], cOwn 9 1 A5 ((s.take cc).added.length) (c5) ((sortS (s.take cc).added).map S8v), cOwn 9 1 A54 ((s.take cc).removed.length) (c54) ((sortS (s.take cc).removed).map S8v), cOwn 9 1 A38 ((s.take cc).taken.length) (c38) ((sortS (s.take cc).taken).map S8v), cRTab g3 cap3 rest3 (s.take cc).t] w; exact (fun (w : World) (h : Mm _ _ _ w) => Mm.perm h (.cons _ (.cons _ (.swap _ _ _)))) w ((fun (w : World) (h : Mm _ _ _ w) => Mm.sub h (.cons_cons _ (.cons_cons _ (.cons _ (.cons _ (.cons _ (.cons_cons _ (.cons_cons _ (.cons_cons _ .slnil))))))))) w hM))
    · have hd20 := of_decide_eq_false hc20
      have hke : k = n := by omega
      have hfin := hok.fin (.inl hke)
      refine stExit ?_
      refine qThenX ?_
      refine qThenX ?_
      refine qBlockX ?_
      refine qThen ?_
      refine stSeq ?_
      refine reg ?_
      refine li rfl (opVal (.slice A5 (s.added.length) (c5)) rfl (by kernel_rfl) (rMove rfl rfl) ?_)
      refine li rfl (opVal (.slice A6 (s.removed.length) (c6)) rfl (by kernel_rfl) (rMove rfl rfl) ?_)
      refine li rfl (opVal (.agg #[(.int .u64 ((seed : Nat) : Int)), (.slice (some ⟨g, 0, none⟩) (n) (cap))]) rfl (by kernel_rfl) (rLoadA [(.int .u64 ((seed : Nat) : Int)), (.slice (some ⟨g, 0, none⟩) (n) (cap))] rfl rfl (by kernel_rfl) (by kernel_rfl) (segAt (i := 0) rfl (by intro j v hj; first | (rw [Nat.zero_add]; exact hj) | (match j, hj with | 0, h => exact h | 1, h => exact h)))) ?_)
      refine li rfl ?_
      refine opCall 36 #[(.agg #[(.int .u64 ((seed : Nat) : Int)), (.slice (some ⟨g, 0, none⟩) (n) (cap))])] rfl (by kernel_rfl) (fun _ => by kernel_rfl) (fun w hM => ?_)
      refine (by have h := refEmpty_any g cap rest s.t w (HO.out.fr hM.fr (by simp)); rw [hok.len, hok.seed] at h; exact h : Calls _ _ _ w fun e w' => e = .returned (.bool s.t.empty) ∧ Fr [] w w').mono ?_
      rintro e w' ⟨rfl, hf⟩
      have hM' := hM.fr0 hf
      refine ⟨_, _, rfl, hM', ?_⟩
      clear hM hM' hf
      refine li rfl (opVal (.slice A5 (s.added.length) (c5)) rfl (by kernel_rfl) (rAssign rfl rfl) ?_)
      refine li rfl (opVal (.slice A6 (s.removed.length) (c6)) rfl (by kernel_rfl) (rAssign rfl rfl) ?_)
      refine li rfl (opVal (.bool s.t.empty) rfl (by kernel_rfl) (rAssign rfl rfl) ?_)
      refine liNil ?_
      refine qThen ?_
      refine stRet ?_
      refine stEnd [(.slice A5 (s.added.length) (c5)), (.slice A6 (s.removed.length) (c6)), (.bool s.t.empty)] rfl ⟨rfl, rfl, rfl, trivial⟩ (fun w hM => ?_)
      exact ⟨hM.fr, by rw [hfin]; exact ⟨A5, c5, A6, c6, rfl, rowOwn (i := 1) rfl w hM, rowOwn (i := 2) rfl w hM⟩⟩

end Go.Proofs.YtnhagokkamobaaaDoor
