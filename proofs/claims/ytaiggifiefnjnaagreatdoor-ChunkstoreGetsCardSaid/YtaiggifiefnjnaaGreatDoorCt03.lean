/- Part 3 of a proof about rangesum: what its row uses. -/
import Derived.Test.YtaiggifiefnjnaaGreatDoorCt02
set_option maxRecDepth 100000
set_option maxHeartbeats 1000000
namespace Go.Proofs.YtaiggifiefnjnaaGreatDoor
open Go.RowKit
abbrev noB : Bs := []
theorem own_cellA {w : World} {e : TypeId} {sz m c g : Nat} {A : Option Addr} {xs : List Value} (h : (cOwn e sz A m c xs).holds w) (hA : A = some ⟨g, 0, none⟩) (j : Nat) (v : Value) (hj : xs[j]? = some v) : w.cell? ⟨g, j, none⟩ = some v := by
 subst hA
 exact own_cell h j v hj
theorem dNew_any (n : Nat) (sz : Nat) (w : World) (h1 : 1 ≤ n) (h2 : n ≤ 65536) (h3 : 1 ≤ sz) (h4 : sz ≤ 4096) :
  Calls Tryz.prog 7 #[(vI n), (vI sz)] w fun e w' => ∃ (bd : Nat) (X : DX), e = .returned (.tuple #[(vP bd 0), (.int .i64 0)]) ∧ Back [] w [cDisk bd X sz (List.replicate n (zerosB sz)) []] w' := by
 have _u0 := h1
 have _u1 := h2
 have _u2 := h3
 have _u3 := h4
 clear _u0 _u1 _u2 _u3
 refine stEnter (args := [(vI n), (vI sz)]) (fps []) Tryz.func7 rfl 26 rfl [(0, (vI n)), (1, (vI sz))] ⟨rfl, rfl, trivial⟩ [] (Mm.start w []) ?_
 refine stSeq ?_
 obtain ⟨dv, hdl, hdr⟩ : ∃ dv : List SlV, n = dv.length ∧ List.replicate n ((none, 0, 0) : SlV) = dv := ⟨_, (List.length_replicate ..).symm, rfl⟩
 subst hdl
 refine reg ?_
 refine la ?_
 refine la ?_
 refine liNil (qThen (stSeq (stSeq (reg ?_))))
 refine lm ?_
 refine lc (.bool (decide (((dv.length : Nat) : Int) < 1))) ?_
 refine lm ?_
 refine St.known 8 (b' := false) rfl (by simp; omega) ?_
 refine lgm ?_
 refine lgc (.bool (decide (((dv.length : Nat) : Int) > 65536))) ?_
 refine lc (.bool (decide (((dv.length : Nat) : Int) > 65536))) ?_
 refine lm ?_
 refine St.known 12 (b' := false) rfl (by simp; omega) ?_
 refine lgm ?_
 refine lgc (.bool (decide (((sz : Nat) : Int) < 1))) ?_
 refine lc (.bool (decide (((sz : Nat) : Int) < 1))) ?_
 refine lm ?_
 refine St.known 16 (b' := false) rfl (by simp; omega) ?_
 refine lgm ?_
 refine lgc (.bool (decide (((sz : Nat) : Int) > 4096))) ?_
 refine lc (.bool (decide (((sz : Nat) : Int) > 4096))) ?_
 refine liNil (qThen ?_)
 refine stFalseK rfl (by simp; omega) ?_
 refine stSkip (qThen (stSeq (reg ?_)))
 refine lm ?_
 refine lm ?_
 refine li rfl ?_
 refine opMkN el_by dv.length (by omega) (dv.map slv) rfl rfl (by kernel_rfl) rfl rfl rfl (by rw [← hdr, List.map_replicate, List.length_replicate]; rfl) (fun b22 => ?_)
 refine li rfl ?_
 refine opMakeMapK kI natV rfl rfl (by kernel_rfl) (fun m23 => ?_)
 refine lc (.agg #[(vI sz), (vL (some ⟨b22, 0, none⟩) dv (dv.length)), (.slice none 0 0), (.map (some m23)), (.int .i64 (-1)), (.bool false)]) ?_
 refine li rfl ?_
 refine opBox [(vI sz), (vL (some ⟨b22, 0, none⟩) dv (dv.length)), (.slice none 0 0), (.map (some m23)), (.int .i64 (-1)), (.bool false)] rfl rfl (by kernel_rfl) rfl rfl (fun b25 => ?_)
 refine la ?_
 refine la ?_
 refine liNil (qThen (stRet ?_))
 refine stEnd [(vP b25 0), (.int .i64 0)] rfl ⟨rfl, rfl, trivial⟩ (fun w hM => ?_)
 have h5 := hM.toOwn 0 rfl 1 dv.length dv.length (by simp) (Nat.le_refl _) (by unfold maxLen; omega)
 rw [List.take_of_length_le (by simp)] at h5
 have h6 := (h5.nilOwn 61 2).newRows
 refine ⟨b25, ⟨m23, some ⟨b22, 0, none⟩, dv.length, none, 0, dv, [], [], []⟩, rfl, Mm.pack (A := []) (B := []) (h6.pick [2, 0, 3, 1, 4] rfl rfl) ⟨by simp, rfl, fun i s v hs hv => ?_, fun i p q hp => by simp at hp, fun _ => rfl, h3, h4, by simp; omega, by simp; omega⟩⟩
 rw [← hdr] at hv
 have e1 := List.eq_of_mem_replicate (List.mem_of_getElem? hs)
 have e2 := List.eq_of_mem_replicate (List.mem_of_getElem? hv)
 exact ⟨by rw [e1]; simp [zerosB], .inl ⟨e2, e1⟩⟩
theorem dWrite_any (bd : Nat) (X : DX) (sz : Nat) (secs : List Bs) (pend : List (Nat × Bs)) (i : Nat) (A : Option Addr) (c : Nat) (bs : List UInt8) (w : World) (hO : Own [cDisk bd X sz secs pend] w) (r0 : Rf [cDisk bd X sz secs pend] w (fun w => RowIn w A (B8 bs))) (hi : i < secs.length) (hl : bs.length = sz) (hp : pend.length ≤ 100000) :
  Calls Tryz.prog 52 #[(vP bd 0), (vI i), (vL A bs c)] w fun e w' => ∃ (X2 : DX), e = .returned (.int .i64 0) ∧ Back [cDisk bd X sz secs pend] w [cDisk bd X2 sz secs (pend ++ [(i, bs)])] w' := by
 have _u0 := r0
 have _u1 := hi
 have _u2 := hl
 have _u3 := hp
 clear _u0 _u1 _u2 _u3
 refine stEnter (args := [(vP bd 0), (vI i), (vL A bs c)]) (fps [cDisk bd X sz secs pend]) Tryz.func52 rfl 50 rfl [(0, (vP bd 0)), (1, (vI i)), (2, (vL A bs c))] ⟨rfl, rfl, rfl, trivial⟩ [cDisk bd X sz secs pend] (hO) ?_
 refine stSeq ?_
 refine St.fact (fun w hM => (Mm.unpack (A := []) (B := []) hM).2) (fun wf => ?_)
 refine St.mem (cs' := [cAt bd 59 [(vI sz), (vL X.Ad X.dv (X.cd)), (vL X.Ap X.pv (X.cp)), (.map (some X.lat)), (.int .i64 (-1)), (.bool false)], cOwn 41 1 X.Ad (X.dv.length) (X.cd) (X.dv.map slv), cOwn 61 2 X.Ap (X.pv.length) (X.cp) (PW X.pv), cMap kI natV X.lat X.kv, cRows X.L]) (fun w hM => (Mm.unpack (A := []) (B := []) hM).1) ?_
 have w1 := wf.dl
 have w2 := wf.pl
 have w3 := wf.n2
 have w4 := wf.s2
 refine reg ?_
 refine la ?_
 refine liNil (qThen (stSeq (stSeq (reg ?_))))
 refine lm ?_
 refine lc (vP bd 0) ?_
 refine lc (vP bd 5) ?_
 refine lv (v := (.bool false)) (rLoad 0 rfl rfl (by kernel_rfl) rfl rfl) ?_
 refine liNil (qThen (stFalse rfl (stSkip (qThen (stSeq (stSeq (reg ?_)))))))
 refine lm ?_
 refine lm ?_
 refine li rfl ?_
 refine opK0 (fun w hM => (dValid_any bd (vI sz) X.Ad X.dv.length X.cd (vL X.Ap X.pv (X.cp)) (.map (some X.lat)) (.int .i64 (-1)) (.bool false) i w (hM.keep0 (j := 0) rfl (fun _ h => h)) (by omega)).mono ?_)
 rintro e w' ⟨rfl, hP⟩
 refine ⟨_, _, rfl, hP, ?_⟩; clear hP hM
 refine lc (.bool false) ?_
 refine lm ?_
 refine lgm ?_
 refine lgc (vI bs.length) ?_
 refine lgm ?_
 refine lgc (vP bd 0) ?_
 refine lgc (vP bd 0) ?_
 refine lgv (v := (vI sz)) (rLoad 0 rfl rfl (by kernel_rfl) rfl rfl) ?_
 refine lgc (.bool ((((bs.length : Nat) : Int) : Int) != ((sz : Nat) : Int))) ?_
 refine lc (.bool ((((bs.length : Nat) : Int) : Int) != ((sz : Nat) : Int))) ?_
 refine liNil (qThen ?_)
 refine stFalseK rfl (by simp; omega) ?_
 refine stSkip (qThen (stSeq ?_))
 refine anyBegin [cAt bd 59 [(vI sz), (vL X.Ad X.dv (X.cd)), (vL X.Ap X.pv (X.cp)), (.map (some X.lat)), (.int .i64 (-1)), (.bool false)], cOwn 41 1 X.Ad (X.dv.length) (X.cd) (X.dv.map slv), cOwn 61 2 X.Ap (X.pv.length) (X.cp) (PW X.pv), cMap kI natV X.lat X.kv, cRows X.L] 10 (by kernel_rfl) (fun _ h => h) ?_
 refine am 0 ?_
 refine ac 1 (vP bd 0) ?_
 refine ac 2 (vP bd 3) ?_
 refine av 3 (.map (some X.lat)) rfl (rLoad 0 rfl rfl (by kernel_rfl) rfl rfl) ?_
 refine am 4 ?_
 refine am 5 ?_
 refine ac 6 (vP bd 0) ?_
 refine ac 7 (vP bd 2) ?_
 refine av 8 (vL X.Ap X.pv (X.cp)) rfl (rLoad 0 rfl rfl (by kernel_rfl) rfl rfl) ?_
 refine ac 9 (vI X.pv.length) ?_
 refine a1 10 ?_
 refine opMapPutK (D := kI) (val := natV) (a := i) (u := X.pv.length) 3 (kvPut X.kv i X.pv.length) rfl rfl (by kernel_rfl) rfl rfl rfl Tryz.underlying56 rfl (by show i < _; omega) rfl ?_
 refine anyLast (by kernel_rfl) rfl ?_
 refine qThen (stSeq ?_)
 refine anyBegin [cAt bd 59 [(vI sz), (vL X.Ad X.dv (X.cd)), (vL X.Ap X.pv (X.cp)), (.map (some X.lat)), (.int .i64 (-1)), (.bool false)], cOwn 41 1 X.Ad (X.dv.length) (X.cd) (X.dv.map slv), cOwn 61 2 X.Ap (X.pv.length) (X.cp) (PW X.pv), cMap kI natV X.lat (kvPut X.kv i X.pv.length), cRows X.L] 11 (by kernel_rfl) (fun _ h => h) ?_
 refine am 0 ?_
 refine am 1 ?_
 refine ac 2 (vP bd 0) ?_
 refine ac 3 (vP bd 2) ?_
 refine av 4 (vL X.Ap X.pv (X.cp)) rfl (rLoad 0 rfl rfl (by kernel_rfl) rfl rfl) ?_
 refine am 5 ?_
 refine am 6 ?_
 refine am 7 ?_
 refine a1 8 ?_
 refine opK0 (fun w hM => (dFill_any bd sz (vL X.Ad X.dv (X.cd)) (vL X.Ap X.pv (X.cp)) (.map (some X.lat)) (.int .i64 (-1)) (.bool false) A c bs w (hM.keep0 (j := 0) rfl (fun _ h => h)) (r0.go0 hM) (by omega) (by omega)).mono ?_)
 rintro e w' ⟨b42, rfl, hP⟩
 refine ⟨_, _, rfl, hP, ?_⟩; clear hP hM
 refine St.to [cAt bd 59 [(vI sz), (vL X.Ad X.dv (X.cd)), (vL X.Ap X.pv (X.cp)), (.map (some X.lat)), (.int .i64 (-1)), (.bool false)], cOwn 41 1 X.Ad (X.dv.length) (X.cd) (X.dv.map slv), cOwn 61 2 X.Ap (X.pv.length) (X.cp) (PW X.pv), cMap kI natV X.lat (kvPut X.kv i X.pv.length), cRows X.L, cAt b42 5 (B8 (bs ++ zerosB (sz - bs.length)))] (by kernel_rfl) ?_
 refine anyNext [cAt bd 59 [(vI sz), (vL X.Ad X.dv (X.cd)), (vL X.Ap X.pv (X.cp)), (.map (some X.lat)), (.int .i64 (-1)), (.bool false)], cOwn 41 1 X.Ad (X.dv.length) (X.cd) (X.dv.map slv), cOwn 61 2 X.Ap (X.pv.length) (X.cp) (PW X.pv), cMap kI natV X.lat (kvPut X.kv i X.pv.length), cRows X.L, cAt b42 5 (B8 (bs ++ zerosB (sz - bs.length)))] (fun _ h => h.pick [0, 1, 2, 3, 4] rfl rfl) (fun _ h => h) ?_
 refine ac 9 (.agg #[(vI i), (.slice (some ⟨b42, 0, none⟩) (sz) (sz))]) ?_
 refine a1 10 ?_
 refine opNew (v := fun b => .slice (some ⟨b, 0, none⟩) 1 1) 61 [(vI i), (.slice (some ⟨b42, 0, none⟩) (sz) (sz))] rfl (by kernel_rfl) (fun _ => by kernel_rfl) (fun b44 => ?_)
 refine anyNext [cAt bd 59 [(vI sz), (vL X.Ad X.dv (X.cd)), (vL X.Ap X.pv (X.cp)), (.map (some X.lat)), (.int .i64 (-1)), (.bool false)], cOwn 41 1 X.Ad (X.dv.length) (X.cd) (X.dv.map slv), cOwn 61 2 X.Ap (X.pv.length) (X.cp) (PW X.pv), cMap kI natV X.lat (kvPut X.kv i X.pv.length), cRows X.L, cAt b42 5 (B8 (bs ++ zerosB (sz - bs.length))), cAt b44 61 [(vI i), (.slice (some ⟨b42, 0, none⟩) (sz) (sz))]] (fun _ h => h.pick [0, 1, 2, 3, 4, 5] rfl rfl) (fun _ h => h) ?_
 refine a1 11 ?_
 refine opAppend el_wr 2 ([(vI i), (.slice (some ⟨b42, 0, none⟩) (sz) (sz))]) rfl rfl (by kernel_rfl) rfl rfl rfl (rfl) (srcAt (i := 6) rfl (fun j v h => by rw [Nat.zero_add]; exact h)) (by simp [Value.oneCell']) (by omega) ((X.pv ++ [((i, ((some (Addr.mk b42 0 none) : Option Addr), sz, sz)) : Nat × SlV)]).length) (by first | exact (List.length_append ..).symm | (simp; done) | (simp; omega)) (PW (X.pv ++ [((i, ((some (Addr.mk b42 0 none) : Option Addr), sz, sz)) : Nat × SlV)])) (by rw [PW_append]; rfl) (fun A45 c45 => ?_)
 refine anyPhase [cAt bd 59 [(vI sz), (vL X.Ad X.dv (X.cd)), (vL X.Ap X.pv (X.cp)), (.map (some X.lat)), (.int .i64 (-1)), (.bool false)], cOwn 41 1 X.Ad (X.dv.length) (X.cd) (X.dv.map slv), cOwn 61 2 A45 ((X.pv ++ [((i, ((some (Addr.mk b42 0 none) : Option Addr), sz, sz)) : Nat × SlV)]).length) (c45) (PW (X.pv ++ [((i, ((some (Addr.mk b42 0 none) : Option Addr), sz, sz)) : Nat × SlV)])), cMap kI natV X.lat (kvPut X.kv i X.pv.length), cRows X.L, cAt b42 5 (B8 (bs ++ zerosB (sz - bs.length))), cAt b44 61 [(vI i), (.slice (some ⟨b42, 0, none⟩) (sz) (sz))]] 14 rfl (fun _ h => h) ?_
 refine ac 12 (vP bd 0) ?_
 refine ac 13 (vP bd 2) ?_
 refine a1 14 ?_
 refine opStore1 0 rfl rfl (by kernel_rfl) rfl rfl rfl (by kernel_rfl) rfl (by simp) ?_
 refine anyLast (by kernel_rfl) rfl ?_
 refine qThen (stSeq (stSeq (reg ?_)))
 refine lm ?_
 refine li rfl ?_
 refine opK0 (fun w hM => (dFails_no bd (vI sz) (vL X.Ad X.dv (X.cd)) (vL A45 (X.pv ++ [((i, ((some (Addr.mk b42 0 none) : Option Addr), sz, sz)) : Nat × SlV)]) c45) (.map (some X.lat)) (.bool false) w (hM.keep0 (j := 0) rfl (fun _ h => h))).mono ?_)
 rintro e w' ⟨rfl, hP⟩
 refine ⟨_, _, rfl, hP, ?_⟩; clear hP hM
 refine liNil (qThen (stFalse rfl (stSkip (qThen (stSeq ?_)))))
 refine St.to [cAt bd 59 [(vI sz), (vL X.Ad X.dv (X.cd)), (vL A45 (X.pv ++ [((i, ((some (Addr.mk b42 0 none) : Option Addr), sz, sz)) : Nat × SlV)]) c45), (.map (some X.lat)), (.int .i64 (-1)), (.bool false)], cOwn 41 1 X.Ad (X.dv.length) (X.cd) (X.dv.map slv), cOwn 61 2 A45 ((X.pv ++ [((i, ((some (Addr.mk b42 0 none) : Option Addr), sz, sz)) : Nat × SlV)]).length) (c45) (PW (X.pv ++ [((i, ((some (Addr.mk b42 0 none) : Option Addr), sz, sz)) : Nat × SlV)])), cMap kI natV X.lat (kvPut X.kv i X.pv.length), cRows X.L, cAt b42 5 (B8 (bs ++ zerosB (sz - bs.length))), cAt b44 61 [(vI i), (.slice (some ⟨b42, 0, none⟩) (sz) (sz))]] (by kernel_rfl) ?_
 refine reg ?_
 refine la ?_
 refine liNil (qThen (stRet ?_))
 refine stEnd [(.int .i64 0)] rfl ⟨rfl, trivial⟩ (fun w hM => ?_)
 have hr : bs ++ zerosB (sz - bs.length) = bs := by rw [hl]; simp [zerosB]
 have h5 := Mm.joinRow (cs := [cAt bd 59 [(vI sz), (vL X.Ad X.dv (X.cd)), (vL A45 (X.pv ++ [((i, ((some (Addr.mk b42 0 none) : Option Addr), sz, sz)) : Nat × SlV)]) c45), (.map (some X.lat)), (.int .i64 (-1)), (.bool false)], cOwn 41 1 X.Ad (X.dv.length) (X.cd) (X.dv.map slv), cOwn 61 2 A45 ((X.pv ++ [((i, ((some (Addr.mk b42 0 none) : Option Addr), sz, sz)) : Nat × SlV)]).length) (c45) (PW (X.pv ++ [((i, ((some (Addr.mk b42 0 none) : Option Addr), sz, sz)) : Nat × SlV)])), cMap kI natV X.lat (kvPut X.kv i X.pv.length)]) (hM.pick [0, 1, 2, 3, 4, 5] rfl rfl)
 refine ⟨⟨X.lat, X.Ad, X.cd, A45, c45, X.dv, X.pv ++ [((i, ((some (Addr.mk b42 0 none) : Option Addr), sz, sz)) : Nat × SlV)], kvPut X.kv i X.pv.length, X.L ++ [(b42, bs ++ zerosB (sz - bs.length))]⟩, rfl, Mm.pack (A := []) (B := []) h5 ⟨wf.dl, by simp [w2], fun j s v hs hv => (wf.dr j s v hs hv).more _, fun j p q hp hq => ?_, fun h => by simp at h, wf.s1, wf.s2, wf.n1, wf.n2⟩⟩
 rcases Nat.lt_or_ge j pend.length with hj | hj
 ·rw [List.getElem?_append_left hj] at hp
  rw [List.getElem?_append_left (by omega)] at hq
  obtain ⟨q1, q2, q3⟩ := wf.pr j p q hp hq
  exact ⟨q1, q2, q3.more _⟩
 ·rw [List.getElem?_append_right hj] at hp
  rw [List.getElem?_append_right (by omega), w2] at hq
  obtain ⟨k, hk⟩ : ∃ k, j - pend.length = k := ⟨_, rfl⟩
  rw [hk] at hp hq
  cases k with
  | zero =>
    simp only [List.getElem?_cons_zero, Option.some.injEq] at hp hq
    subst hp hq
    exact ⟨rfl, hi, hl, .inr ⟨b42, rfl, by rw [hr]; simp⟩⟩
  | succ k => simp at hp
theorem dRead_any (bd : Nat) (X : DX) (sz : Nat) (secs : List Bs) (i : Nat) (s : Bs) (w : World) (hO : Own [cDisk bd X sz secs []] w) (hs : secs[i]? = some s) :
  Calls Tryz.prog 58 #[(vP bd 0), (vI i)] w fun e w' => ∃ (b : Nat), e = .returned (.tuple #[(.slice (some ⟨b, 0, none⟩) (sz) (sz)), (.int .i64 0)]) ∧ Back [cDisk bd X sz secs []] w [cDisk bd X sz secs [], cAt b 5 (B8 s)] w' ∧ (s.length = sz) := by
 have _u0 := hs
 clear _u0
 refine stEnter (args := [(vP bd 0), (vI i)]) (fps [cDisk bd X sz secs []]) Tryz.func58 rfl 45 rfl [(0, (vP bd 0)), (1, (vI i))] ⟨rfl, rfl, trivial⟩ [cDisk bd X sz secs []] (hO) ?_
 refine stSeq ?_
 refine St.fact (fun w hM => (Mm.unpack (A := []) (B := []) hM).2) (fun wf => ?_)
 refine St.mem (cs' := [cAt bd 59 [(vI sz), (vL X.Ad X.dv (X.cd)), (vL X.Ap X.pv (X.cp)), (.map (some X.lat)), (.int .i64 (-1)), (.bool false)], cOwn 41 1 X.Ad (X.dv.length) (X.cd) (X.dv.map slv), cOwn 61 2 X.Ap (X.pv.length) (X.cp) (PW X.pv), cMap kI natV X.lat X.kv, cRows X.L]) (fun w hM => (Mm.unpack (A := []) (B := []) hM).1) ?_
 have w1 := wf.dl
 have w3 := wf.n2
 have w4 := wf.s2
 have w5 := wf.n1
 have hil := (List.getElem?_eq_some_iff.1 hs).1
 obtain ⟨v, hv⟩ : ∃ v, X.dv[i]? = some v := ⟨_, List.getElem?_eq_getElem (by omega)⟩
 have hrd := wf.dr i s v hs hv
 obtain rfl : s.length = sz := hrd.1
 refine St.ownSome 1 rfl (by omega) (fun g hg => ?_)
 refine reg ?_
 refine la ?_
 refine la ?_
 refine liNil (qThen (stSeq (stSeq (reg ?_))))
 refine lm ?_
 refine lc (vP bd 0) ?_
 refine lc (vP bd 5) ?_
 refine lv (v := (.bool false)) (rLoad 0 rfl rfl (by kernel_rfl) rfl rfl) ?_
 refine liNil (qThen (stFalse rfl (stSkip (qThen (stSeq (stSeq (reg ?_)))))))
 refine lm ?_
 refine lm ?_
 refine li rfl ?_
 refine opK0 (fun w hM => (dValid_any bd (vI s.length) X.Ad X.dv.length X.cd (vL X.Ap X.pv (X.cp)) (.map (some X.lat)) (.int .i64 (-1)) (.bool false) i w (hM.keep0 (j := 0) rfl (fun _ h => h)) (by omega)).mono ?_)
 rintro e w' ⟨rfl, hP⟩
 refine ⟨_, _, rfl, hP, ?_⟩; clear hP hM
 refine lc (.bool false) ?_
 refine liNil (qThen (stFalse rfl (stSkip (qThen (stSeq (stSeq (reg ?_)))))))
 refine lm ?_
 refine lc (vP bd 0) ?_
 refine lc (vP bd 3) ?_
 refine lv (v := (.map (some X.lat))) (rLoad 0 rfl rfl (by kernel_rfl) rfl rfl) ?_
 refine lm ?_
 refine lv (v := (.tuple #[(.int .i64 0), (.bool false)])) (rConv (rMapGetOk (D := kI) (val := natV) (a := i) 3 rfl rfl rfl Tryz.underlying56 Tryz.zeroValue3 rfl (by show i < _; omega)) (by rw [wf.calm rfl]; rfl)) ?_
 refine lm ?_
 refine lc (.int .i64 0) ?_
 refine lc (.bool false) ?_
 refine la ?_
 refine la ?_
 refine liNil (qThen (stSeq (reg ?_)))
 refine lm ?_
 refine liNil (qThen (stFalse rfl (stSkip (qThen (stSeq ?_)))))
 refine St.to [cAt bd 59 [(vI s.length), (vL X.Ad X.dv (X.cd)), (vL X.Ap X.pv (X.cp)), (.map (some X.lat)), (.int .i64 (-1)), (.bool false)], cOwn 41 1 X.Ad (X.dv.length) (X.cd) (X.dv.map slv), cOwn 61 2 X.Ap (X.pv.length) (X.cp) (PW X.pv), cMap kI natV X.lat X.kv, cRows X.L] (by kernel_rfl) ?_
 rcases hrd.2 with ⟨e1, e2⟩ | ⟨rb, e1, e2⟩
 ·have hv2 : (X.dv.map slv)[i]? = some (.slice none 0 0) := by rw [List.getElem?_map, hv, e1]; rfl
  refine reg ?_
  refine lm ?_
  refine lm ?_
  refine lc (vP bd 0) ?_
  refine lc (vP bd 1) ?_
  refine lv (v := (vL X.Ad X.dv (X.cd))) (rLoad 0 rfl rfl (by kernel_rfl) rfl rfl) ?_
  refine lm ?_
  refine lv (v := (vP g (0 + i))) (rIndexRow (e := 41) rfl (by kernel_rfl) (by kernel_rfl) rfl rfl hg (by omega)) ?_
  refine lv (v := (vL none noB 0)) (rLoadW rfl rfl (by kernel_rfl) (fun w hM => by rw [Nat.zero_add]; exact own_cellA (hM.at (i := 1) rfl) hg i _ hv2)) ?_
  refine li rfl ?_
  refine opK0 (fun w hM => (dFill_any bd s.length (vL X.Ad X.dv (X.cd)) (vL X.Ap X.pv (X.cp)) (.map (some X.lat)) (.int .i64 (-1)) (.bool false) none 0 noB w (hM.keep0 (j := 0) rfl (fun _ h => h)) (Ro.nil _ _) (by simp [noB]) (by omega)).mono ?_)
  rintro e w' ⟨b44, rfl, hP⟩
  refine ⟨_, _, rfl, hP, ?_⟩; clear hP hM
  refine la ?_
  refine la ?_
  refine liNil (qThen (stRet ?_))
  refine stEnd [(vL (some ⟨b44, 0, none⟩) s (s.length)), (.int .i64 0)] rfl ⟨rfl, rfl, trivial⟩ (fun w hM => ?_)
  have e3 : noB ++ zerosB (s.length - noB.length) = s := by rw [noB]; simpa using e2.symm
  rw [e3] at hM
  exact ⟨b44, rfl, Mm.pack (A := []) (B := [cAt b44 5 (B8 s)]) hM wf, rfl⟩
 ·have hv2 : (X.dv.map slv)[i]? = some (.slice (some ⟨rb, 0, none⟩) s.length s.length) := by rw [List.getElem?_map, hv, e1]; rfl
  refine reg ?_
  refine lm ?_
  refine lm ?_
  refine lc (vP bd 0) ?_
  refine lc (vP bd 1) ?_
  refine lv (v := (vL X.Ad X.dv (X.cd))) (rLoad 0 rfl rfl (by kernel_rfl) rfl rfl) ?_
  refine lm ?_
  refine lv (v := (vP g (0 + i))) (rIndexRow (e := 41) rfl (by kernel_rfl) (by kernel_rfl) rfl rfl hg (by omega)) ?_
  refine lv (v := (vL (some ⟨rb, 0, none⟩) s (s.length))) (rLoadW rfl rfl (by kernel_rfl) (fun w hM => by rw [Nat.zero_add]; exact own_cellA (hM.at (i := 1) rfl) hg i _ hv2)) ?_
  refine li rfl ?_
  refine opK0 (fun w hM => (dFill_any bd s.length (vL X.Ad X.dv (X.cd)) (vL X.Ap X.pv (X.cp)) (.map (some X.lat)) (.int .i64 (-1)) (.bool false) (some ⟨rb, 0, none⟩) s.length s w (hM.keep0 (j := 0) rfl (fun _ h => h)) (hM.keep0 (j := 4) rfl (fun _ h => rows_row h e2)) (by omega) (by omega)).mono ?_)
  rintro e w' ⟨b44, rfl, hP⟩
  refine ⟨_, _, rfl, hP, ?_⟩; clear hP hM
  refine la ?_
  refine la ?_
  refine liNil (qThen (stRet ?_))
  refine stEnd [(vL (some ⟨b44, 0, none⟩) s (s.length)), (.int .i64 0)] rfl ⟨rfl, rfl, trivial⟩ (fun w hM => ?_)
  have e3 : s ++ zerosB (s.length - s.length) = s := by simp [zerosB]
  rw [e3] at hM
  exact ⟨b44, rfl, Mm.pack (A := []) (B := [cAt b44 5 (B8 s)]) hM wf, rfl⟩
end Go.Proofs.YtaiggifiefnjnaaGreatDoor
namespace Go.Proofs.YtaiggifiefnjnaaGreatDoor
open Go.RowKit
section
variable {P : Program} {Q : Exit → Act → World → Prop} {n : Nat} {w0 : World} {F : List Nat} {E : Env} {cs : List Ch} {K : Act → World → Prop} {o : Oper}
theorem rIndexRow2 {ty e : TypeId} {z : Nat} {x i : Operand} {A : Option Addr} {b off len cap j : Nat} {k : IntKind} (ho : o.op = .indexAddr ty x i) (hu : P.underlying ty = some (.slice e)) (hsz : sizeT P e = some z) (hx : evO E x = some (.slice A len cap)) (hi : evO E i = some (.int k (j : Int))) (hA : A = some ⟨b, off, none⟩) (hlt : j < len) : RunV P w0 F cs E o (vP b (off + j * z)) := by
 subst hA
 exact rIndexAddr ho hu hsz hx hi hlt
theorem opStoreOwnA {e ty : TypeId} {x y : Operand} {m c g j : Nat} {A : Option Addr} {xs : List Value} {v : Value} (i : Nat) (hA : A = some ⟨g, 0, none⟩) (xs' : List Value) (ho : o.op = .store ty x y) (hd : o.dst = none) (hk : opOk n E o = true) (hx : evO E x = some (vP g (0 + j))) (hy : evO E y = some v) (h1 : v.oneCell' = true) (hsz : sizeT P ty = some 1) (hi : cs[i]? = some (cOwn e 1 A m c xs)) (hj : j < xs.length) (hxs : xs.set j v = xs')
  (h : St n w0 F E (cs.set i (cOwn e 1 A m c xs')) K) : OpW P Q n w0 F E cs o K := by
 subst hA
 exact opStoreOwn i xs' ho hd hk hx hy h1 hsz hi hj hxs h
end
theorem applyW_take {secs : List Bs} {pend : List (Nat × Bs)} {i : Nat} {p : Nat × Bs} (h : pend[i]? = some p) : applyW secs (pend.take (i + 1)) = (applyW secs (pend.take i)).set p.1 p.2 := by
 unfold applyW
 rw [List.take_add_one, h, Option.toList_some, List.foldl_append]
 rfl
theorem dr_step {sz : Nat} {L : List (Nat × Bs)} {ss : List Bs} {dvi : List SlV} {p : Nat × Bs} {q : Nat × SlV} (h : ∀ (j : Nat) (s : Bs) (v : SlV), ss[j]? = some s → dvi[j]? = some v → Rd sz L v s) (hq : q.1 = p.1) (hr : Rd sz L q.2 p.2) (j : Nat) (s : Bs) (v : SlV) (hs : (ss.set p.1 p.2)[j]? = some s) (hv : (dvi.set q.1 q.2)[j]? = some v) : Rd sz L v s := by
 rw [hq] at hv
 by_cases e : p.1 = j
 ·subst e
  rw [List.getElem?_set] at hs hv
  simp only [if_true] at hs hv
  split at hs
  ·split at hv
   ·cases hs; cases hv; exact hr
   ·cases hv
  ·cases hs
 ·rw [List.getElem?_set_ne e] at hs hv
  exact h j s v hs hv
theorem dSync_any (bd : Nat) (X : DX) (sz : Nat) (secs : List Bs) (pend : List (Nat × Bs)) (w : World) (hO : Own [cDisk bd X sz secs pend] w) (hpl : pend.length ≤ 100000) :
  Calls Tryz.prog 9 #[(vP bd 0)] w fun e w' => ∃ (X2 : DX), e = .returned (.int .i64 0) ∧ Back [cDisk bd X sz secs pend] w [cDisk bd X2 sz (applyW secs pend) []] w' := by
 have _u0 := hpl
 clear _u0
 refine stEnter (args := [(vP bd 0)]) (fps [cDisk bd X sz secs pend]) Tryz.func9 rfl 34 rfl [(0, (vP bd 0))] ⟨rfl, trivial⟩ [cDisk bd X sz secs pend] (hO) ?_
 refine stSeq ?_
 refine St.fact (fun w hM => (Mm.unpack (A := []) (B := []) hM).2) (fun wf => ?_)
 refine St.mem (cs' := [cAt bd 59 [(vI sz), (vL X.Ad X.dv (X.cd)), (vL X.Ap X.pv (X.cp)), (.map (some X.lat)), (.int .i64 (-1)), (.bool false)], cOwn 41 1 X.Ad (X.dv.length) (X.cd) (X.dv.map slv), cOwn 61 2 X.Ap (X.pv.length) (X.cp) (PW X.pv), cMap kI natV X.lat X.kv, cRows X.L]) (fun w hM => (Mm.unpack (A := []) (B := []) hM).1) ?_
 have w1 := wf.dl
 have w2 := wf.pl
 have w3 := wf.n2
 have w4 := wf.s2
 refine reg ?_
 refine la ?_
 refine liNil (qThen (stSeq (stSeq (reg ?_))))
 refine lm ?_
 refine lc (vP bd 0) ?_
 refine lc (vP bd 5) ?_
 refine lv (v := (.bool false)) (rLoad 0 rfl rfl (by kernel_rfl) rfl rfl) ?_
 refine lm ?_
 refine lgm ?_
 refine liGo rfl rfl ?_
 refine opK0 (fun w hM => (dFails_no bd (vI sz) (vL X.Ad X.dv (X.cd)) (vL X.Ap X.pv (X.cp)) (.map (some X.lat)) (.bool false) w (hM.keep0 (j := 0) rfl (fun _ h => h))).mono ?_)
 rintro e w' ⟨rfl, hP⟩
 refine ⟨_, _, rfl, hP, ?_⟩; clear hP hM
 refine lc (.bool false) ?_
 refine liNil (qThen (stFalse rfl (stSkip (qThen (stSeq (stSeq (reg ?_)))))))
 refine lm ?_
 refine lc (vP bd 0) ?_
 refine lc (vP bd 2) ?_
 refine lv (v := (vL X.Ap X.pv (X.cp))) (rLoad 0 rfl rfl (by kernel_rfl) rfl rfl) ?_
 refine lc (vI X.pv.length) ?_
 refine lm ?_
 refine liNil (qThen (stBlock ?_))
 have hin : ∀ (j : Nat) (s : Bs) (v : SlV), (applyW secs (pend.take 0))[j]? = some s → X.dv[j]? = some v → Rd sz X.L v s := fun j s v hs hv => wf.dr j s v (by simpa [applyW] using hs) hv
 refine stLoop (ι := Nat × List SlV) (fun (i, dvi) => i ≤ pend.length ∧ dvi.length = X.dv.length ∧ ∀ (j : Nat) (s : Bs) (v : SlV), (applyW secs (pend.take i))[j]? = some s → dvi[j]? = some v → Rd sz X.L v s) (fun (i, dvi) => X.pv.length - i) (fun (i, dvi) => [(0, (vP bd 0)), (2, (.int .i64 0)), (16, (vL X.Ap X.pv (X.cp))), (17, (vI X.pv.length)), (18, (vI i))]) (fun (i, dvi) => [cAt bd 59 [(vI sz), (vL X.Ad X.dv (X.cd)), (vL X.Ap X.pv (X.cp)), (.map (some X.lat)), (.int .i64 (-1)), (.bool false)], cOwn 41 1 X.Ad (X.dv.length) (X.cd) (dvi.map slv), cOwn 61 2 X.Ap (X.pv.length) (X.cp) (PW X.pv), cMap kI natV X.lat X.kv, cRows X.L]) (0, X.dv) ⟨by omega, rfl, hin⟩ ⟨rfl, rfl, rfl, rfl, rfl, trivial⟩ (fun _ h => h) ?_
 rintro ⟨i, dvi⟩ ⟨hi, hd1, hd2⟩
 show St _ _ _ [(0, (vP bd 0)), (2, (.int .i64 0)), (16, (vL X.Ap X.pv (X.cp))), (17, (vI X.pv.length)), (18, (vI i))] [cAt bd 59 [(vI sz), (vL X.Ad X.dv (X.cd)), (vL X.Ap X.pv (X.cp)), (.map (some X.lat)), (.int .i64 (-1)), (.bool false)], cOwn 41 1 X.Ad (X.dv.length) (X.cd) (dvi.map slv), cOwn 61 2 X.Ap (X.pv.length) (X.cp) (PW X.pv), cMap kI natV X.lat X.kv, cRows X.L] _
 refine stSeq (reg ?_)
 refine lc (.bool (decide (((i : Nat) : Int) < ((X.pv.length : Nat) : Int)))) ?_
 refine liNil (qThen (stSeq ?_))
 refine stCond rfl (fun hc19 => ?_) (fun hc19 => ?_)
 ·have hd19 := of_decide_eq_true hc19
  refine stSkip (qThen (stSeq (stBlock (stSeq ?_))))
  obtain ⟨p, hp⟩ : ∃ p, pend[i]? = some p := ⟨_, List.getElem?_eq_getElem (by omega)⟩
  obtain ⟨q, hq⟩ : ∃ q, X.pv[i]? = some q := ⟨_, List.getElem?_eq_getElem (by omega)⟩
  obtain ⟨hw5, hw6, hw7⟩ := wf.pr i p q hp hq
  have hc0 := (PW_at hq).1
  have hc1 := (PW_at hq).2
  refine St.ownSome 2 rfl (by omega) (fun g hg => ?_)
  refine St.ownSome 1 rfl (by omega) (fun g1 hg1 => ?_)
  refine reg ?_
  refine lv (v := (vP g (0 + i * 2))) (rIndexRow2 (e := 61) rfl (by kernel_rfl) (by kernel_rfl) rfl rfl hg (by omega)) ?_
  refine lv (v := (.agg #[(vI q.1), (.slice q.2.1 (q.2.2.1) (q.2.2.2))])) (rLoadA [(vI q.1), (.slice q.2.1 (q.2.2.1) (q.2.2.2))] rfl rfl (by kernel_rfl) (by kernel_rfl) (fun w hM j v hj => by match j, hj with | 0, h => cases h; rw [Nat.zero_add]; exact own_cellA (hM.at (i := 2) rfl) hg _ _ hc0 | 1, h => cases h; rw [Nat.zero_add]; exact own_cellA (hM.at (i := 2) rfl) hg _ _ hc1)) ?_
  refine li rfl ?_
  refine opAlloc [(.int .i64 0), (.slice none 0 0)] rfl rfl (by kernel_rfl) (by kernel_rfl) (fun b4 => ?_)
  refine li rfl ?_
  refine opStoreN 5 [(vI q.1), (.slice q.2.1 (q.2.2.1) (q.2.2.2))] (vs := [(vI q.1), (.slice q.2.1 (q.2.2.1) (q.2.2.2))]) rfl rfl (by kernel_rfl) rfl rfl rfl (by kernel_rfl) rfl (by simp) (by simp [Value.oneCell']) rfl ?_
  refine liNil (qThen ?_)
  refine anyBegin [cAt bd 59 [(vI sz), (vL X.Ad X.dv (X.cd)), (vL X.Ap X.pv (X.cp)), (.map (some X.lat)), (.int .i64 (-1)), (.bool false)], cOwn 41 1 X.Ad (X.dv.length) (X.cd) (dvi.map slv), cOwn 61 2 X.Ap (X.pv.length) (X.cp) (PW X.pv), cMap kI natV X.lat X.kv, cRows X.L, cAt b4 61 [(vI q.1), (.slice q.2.1 (q.2.2.1) (q.2.2.2))]] 9 (by kernel_rfl) (fun _ h => h) ?_
  refine am 0 ?_
  refine ac 1 (vP bd 0) ?_
  refine ac 2 (vP bd 1) ?_
  refine av 3 (vL X.Ad X.dv (X.cd)) rfl (rLoad 0 rfl rfl (by kernel_rfl) rfl rfl) ?_
  refine ac 4 (vP b4 0) ?_
  refine av 5 (vI q.1) rfl (rLoad 5 rfl rfl (by kernel_rfl) rfl rfl) ?_
  refine ac 6 (vP b4 1) ?_
  refine av 7 (.slice q.2.1 (q.2.2.1) (q.2.2.2)) rfl (rLoad 5 rfl rfl (by kernel_rfl) rfl rfl) ?_
  refine av 8 (vP g1 (0 + q.1)) rfl (rIndexRow (e := 41) rfl (by kernel_rfl) (by kernel_rfl) rfl rfl hg1 (by omega)) ?_
  refine a1 9 ?_
  refine opStoreOwnA 1 hg1 ((dvi.set q.1 q.2).map slv) rfl rfl (by kernel_rfl) rfl rfl rfl (by kernel_rfl) rfl (by rw [List.length_map]; omega) (by rw [List.map_set]; rfl) ?_
  refine anyLast (by kernel_rfl) rfl ?_
  refine qBlock (qThen ?_)
  refine St.to [cAt bd 59 [(vI sz), (vL X.Ad X.dv (X.cd)), (vL X.Ap X.pv (X.cp)), (.map (some X.lat)), (.int .i64 (-1)), (.bool false)], cOwn 41 1 X.Ad (X.dv.length) (X.cd) ((dvi.set q.1 q.2).map slv), cOwn 61 2 X.Ap (X.pv.length) (X.cp) (PW X.pv), cMap kI natV X.lat X.kv, cRows X.L, cAt b4 61 [(vI q.1), (.slice q.2.1 (q.2.2.1) (q.2.2.2))]] (by kernel_rfl) ?_
  refine reg ?_
  refine lv (v := (vI (i + 1))) (rAdd _ rfl rfl rfl (by omega) (by omega) (by omega)) ?_
  refine lm ?_
  refine liNil (qThen ?_)
  exact stAgain (i + 1, dvi.set q.1 q.2) (⟨by show _ ≤ _; omega, by show (dvi.set q.1 q.2).length = _; rw [List.length_set]; exact hd1, by show ∀ (j : Nat) (s : Bs) (v : SlV), (applyW secs (pend.take (i + 1)))[j]? = some s → (dvi.set q.1 q.2)[j]? = some v → Rd sz X.L v s; rw [applyW_take hp]; exact dr_step hd2 hw5 hw7⟩) (by show _ - _ < _ - _; omega) ⟨rfl, rfl, rfl, rfl, rfl, trivial⟩ (fun w hM => (hM.pick [0, 1, 2, 3, 4] rfl rfl))
 ·have hd19 := of_decide_eq_false hc19
  refine stExit (qThenX (qThenX (qBlockX (qThen (stSeq (reg ?_))))))
  refine lm ?_
  refine li rfl ?_
  refine opK [0] [cAt bd 59 [(vI sz), (vL X.Ad X.dv (X.cd)), (vL X.Ap X.pv (X.cp)), (.map (some X.lat)), (.int .i64 (-1)), (.bool false)]] (fun w hM hO => (dForget_any bd (vI sz) (vL X.Ad X.dv (X.cd)) (vL X.Ap X.pv (X.cp)) (.map (some X.lat)) (.int .i64 (-1)) (.bool false) w hO (⟨rfl, rfl⟩)).mono ?_)
  rintro e w' ⟨lat33, rfl, hP⟩
  refine ⟨_, [cAt bd 59 [(vI sz), (vL X.Ad X.dv (X.cd)), (.slice none 0 0), (.map (some lat33)), (.int .i64 (-1)), (.bool false)]], _, rfl, hP, rfl, ?_⟩; clear hP hM hO
  refine liNil (qThen (stSeq (reg ?_)))
  refine la ?_
  refine liNil (qThen (stRet ?_))
  refine stEnd [(.int .i64 0)] rfl ⟨rfl, trivial⟩ (fun w hM => ?_)
  obtain rfl : i = pend.length := by omega
  rw [List.take_length] at hd2
  have hM2 := (hM.pick [0, 1, 5, 4] rfl rfl).nilOwn 61 2
  have e1 : (vL X.Ad X.dv (X.cd)) = Value.slice X.Ad dvi.length X.cd := by show Value.slice _ _ _ = _; rw [hd1]
  rw [e1, ← hd1] at hM2
  have hM3 := hM2.pick [0, 1, 4, 2, 3] rfl rfl
  refine ⟨⟨lat33, X.Ad, X.cd, none, 0, dvi, [], [], X.L⟩, rfl, Mm.pack (A := []) (B := []) hM3 ⟨by rw [applyW_len]; show dvi.length = _; omega, rfl, hd2, fun j p q hp => by simp at hp, fun _ => rfl, wf.s1, wf.s2, by rw [applyW_len]; exact wf.n1, by rw [applyW_len]; exact wf.n2⟩⟩
end Go.Proofs.YtaiggifiefnjnaaGreatDoor
namespace Go.Proofs.YtaiggifiefnjnaaGreatDoor
open Go.RowKit
theorem dFail_any (bd : Nat) (v0 : Value) (v1 : Value) (v2 : Value) (v3 : Value) (w : World) (hO : Own [cAt bd 59 [v0, v1, v2, v3, (.int .i64 (-1)), (.bool false)]] w) :
  Calls Tryz.prog 8 #[(vP bd 0), (.int .i64 0)] w fun e w' => e = .returned (.tuple #[]) ∧ Back [cAt bd 59 [v0, v1, v2, v3, (.int .i64 (-1)), (.bool false)]] w [cAt bd 59 [v0, v1, v2, v3, (.int .i64 0), (.bool false)]] w' := by
 refine stEnter (args := [(vP bd 0), (.int .i64 0)]) (fps [cAt bd 59 [v0, v1, v2, v3, (.int .i64 (-1)), (.bool false)]]) Tryz.func8 rfl 14 rfl [(0, (vP bd 0)), (1, (.int .i64 0))] ⟨rfl, rfl, trivial⟩ [cAt bd 59 [v0, v1, v2, v3, (.int .i64 (-1)), (.bool false)]] (hO) ?_
 refine stSeq (reg ?_)
 refine lm ?_
 refine lc (vP bd 0) ?_
 refine lc (vP bd 5) ?_
 refine lv (v := (.bool false)) (rLoad 0 rfl rfl (by kernel_rfl) rfl rfl) ?_
 refine lc (.bool true) ?_
 refine liNil (qThen (stTrue rfl (reg ?_)))
 refine lm ?_
 refine lm ?_
 refine lc (.int .i64 0) ?_
 refine lc (vP bd 0) ?_
 refine lc (vP bd 4) ?_
 refine li rfl ?_
 refine opStore1 0 rfl rfl (by kernel_rfl) rfl rfl rfl (by kernel_rfl) rfl (by simp) ?_
 refine liNil ?_
 refine stEndN [] rfl trivial (fun w hM => ?_)
 exact ⟨rfl, hM⟩
theorem dFails_yes (bd : Nat) (v0 : Value) (v1 : Value) (v2 : Value) (v3 : Value) (w : World) (hO : Own [cAt bd 59 [v0, v1, v2, v3, (.int .i64 0), (.bool false)]] w) :
  Calls Tryz.prog 23 #[(vP bd 0)] w fun e w' => e = .returned (.bool true) ∧ Back [cAt bd 59 [v0, v1, v2, v3, (.int .i64 0), (.bool false)]] w [cAt bd 59 [v0, v1, v2, v3, (.int .i64 (-1)), (.bool true)]] w' := by
 refine stEnter (args := [(vP bd 0)]) (fps [cAt bd 59 [v0, v1, v2, v3, (.int .i64 0), (.bool false)]]) Tryz.func23 rfl 27 rfl [(0, (vP bd 0))] ⟨rfl, trivial⟩ [cAt bd 59 [v0, v1, v2, v3, (.int .i64 0), (.bool false)]] (hO) ?_
 refine stSeq (reg ?_)
 refine la ?_
 refine liNil (qThen (stSeq (stSeq (reg ?_))))
 refine lm ?_
 refine lc (vP bd 0) ?_
 refine lc (vP bd 4) ?_
 refine lv (v := (.int .i64 0)) (rLoad 0 rfl rfl (by kernel_rfl) rfl rfl) ?_
 refine lc (.bool false) ?_
 refine liNil (qThen (stFalse rfl (stSkip (qThen (stSeq (reg ?_))))))
 refine lm ?_
 refine lc (vP bd 0) ?_
 refine lc (vP bd 4) ?_
 refine lv (v := (.int .i64 0)) (rLoad 0 rfl rfl (by kernel_rfl) rfl rfl) ?_
 refine lc (.int .i64 (-1)) ?_
 refine lc (vP bd 0) ?_
 refine lc (vP bd 4) ?_
 refine li rfl ?_
 refine opStore1 0 rfl rfl (by kernel_rfl) rfl rfl rfl (by kernel_rfl) rfl (by simp) ?_
 refine liNil (qThen (stSeq (reg ?_)))
 refine lm ?_
 refine lm ?_
 refine lc (vP bd 0) ?_
 refine lc (vP bd 4) ?_
 refine lv (v := (.int .i64 (-1))) (rLoad 0 rfl rfl (by kernel_rfl) rfl rfl) ?_
 refine lc (.bool true) ?_
 refine lc (vP bd 0) ?_
 refine lc (vP bd 5) ?_
 refine li rfl ?_
 refine opStore1 0 rfl rfl (by kernel_rfl) rfl rfl rfl (by kernel_rfl) rfl (by simp) ?_
 refine liNil (qThen (stSeq (reg ?_)))
 refine lm ?_
 refine lc (vP bd 0) ?_
 refine lc (vP bd 5) ?_
 refine lv (v := (.bool true)) (rLoad 0 rfl rfl (by kernel_rfl) rfl rfl) ?_
 refine la ?_
 refine liNil (qThen (stRet ?_))
 refine stEnd [(.bool true)] rfl ⟨rfl, trivial⟩ (fun w hM => ?_)
 exact ⟨rfl, hM⟩
theorem dSync_off (bd : Nat) (v0 : Value) (v1 : Value) (v2 : Value) (v3 : Value) (w : World) (hO : Own [cAt bd 59 [v0, v1, v2, v3, (.int .i64 0), (.bool false)]] w) :
  Calls Tryz.prog 9 #[(vP bd 0)] w fun e w' => e = .returned (.int .i64 8) ∧ Back [cAt bd 59 [v0, v1, v2, v3, (.int .i64 0), (.bool false)]] w [cAt bd 59 [v0, v1, v2, v3, (.int .i64 (-1)), (.bool true)]] w' := by
 refine stEnter (args := [(vP bd 0)]) (fps [cAt bd 59 [v0, v1, v2, v3, (.int .i64 0), (.bool false)]]) Tryz.func9 rfl 34 rfl [(0, (vP bd 0))] ⟨rfl, trivial⟩ [cAt bd 59 [v0, v1, v2, v3, (.int .i64 0), (.bool false)]] (hO) ?_
 refine stSeq (reg ?_)
 refine la ?_
 refine liNil (qThen (stSeq (stSeq (reg ?_))))
 refine lm ?_
 refine lc (vP bd 0) ?_
 refine lc (vP bd 5) ?_
 refine lv (v := (.bool false)) (rLoad 0 rfl rfl (by kernel_rfl) rfl rfl) ?_
 refine lm ?_
 refine lgm ?_
 refine liGo rfl rfl ?_
 refine opK [0] [cAt bd 59 [v0, v1, v2, v3, (.int .i64 0), (.bool false)]] (fun w hM hO => (dFails_yes bd v0 v1 v2 v3 w hO).mono ?_)
 rintro e w' ⟨rfl, hP⟩
 refine ⟨_, [cAt bd 59 [v0, v1, v2, v3, (.int .i64 (-1)), (.bool true)]], _, rfl, hP, rfl, ?_⟩; clear hP hM hO
 refine lc (.bool true) ?_
 refine liNil (qThen (stTrue rfl (stSeq (reg ?_))))
 refine la ?_
 refine liNil (qThen (stRet (qThenR ?_)))
 refine stEnd [(.int .i64 8)] rfl ⟨rfl, trivial⟩ (fun w hM => ?_)
 exact ⟨rfl, hM⟩
theorem dCrash_any (bd : Nat) (X : DX) (sz : Nat) (secs : List Bs) (v1 : Value) (t : Int) (w : World) (hO : Own [cDisk bd X sz secs []] w) :
  Calls Tryz.prog 19 #[(vP bd 0), v1, (.int .i64 t)] w fun e w' => ∃ (X2 : DX), e = .returned (.tuple #[]) ∧ Back [cDisk bd X sz secs []] w [cDisk bd X2 sz secs []] w' := by
 refine stEnter (args := [(vP bd 0), v1, (.int .i64 t)]) (fps [cDisk bd X sz secs []]) Tryz.func19 rfl 81 rfl [(0, (vP bd 0)), (1, v1), (2, (.int .i64 t))] ⟨rfl, rfl, rfl, trivial⟩ [cDisk bd X sz secs []] (hO) ?_
 refine stSeq ?_
 refine St.fact (fun w hM => (Mm.unpack (A := []) (B := []) hM).2) (fun wf => ?_)
 refine St.mem (cs' := [cAt bd 59 [(vI sz), (vL X.Ad X.dv (X.cd)), (vL X.Ap X.pv (X.cp)), (.map (some X.lat)), (.int .i64 (-1)), (.bool false)], cOwn 41 1 X.Ad (X.dv.length) (X.cd) (X.dv.map slv), cOwn 61 2 X.Ap (X.pv.length) (X.cp) (PW X.pv), cMap kI natV X.lat X.kv, cRows X.L]) (fun w hM => (Mm.unpack (A := []) (B := []) hM).1) ?_
 have w2 : X.pv.length = 0 := wf.pl
 refine reg ?_
 refine la ?_
 refine liNil (qThen (stSeq (stSeq (reg ?_))))
 refine lm ?_
 refine lc (vP bd 0) ?_
 refine lc (vP bd 2) ?_
 refine lv (v := (vL X.Ap X.pv (X.cp))) (rLoad 0 rfl rfl (by kernel_rfl) rfl rfl) ?_
 refine lc (vI X.pv.length) ?_
 refine lm ?_
 refine liNil (qThen (stBlock ?_))
 refine stLoop (ι := Unit) (fun u => True) (fun u => 0) (fun u => [(0, (vP bd 0)), (1, v1), (2, (.int .i64 t)), (6, (.bool true)), (13, (vL X.Ap X.pv (X.cp))), (14, (vI X.pv.length)), (15, (.int .i64 0))]) (fun u => [cAt bd 59 [(vI sz), (vL X.Ad X.dv (X.cd)), (vL X.Ap X.pv (X.cp)), (.map (some X.lat)), (.int .i64 (-1)), (.bool false)], cOwn 41 1 X.Ad (X.dv.length) (X.cd) (X.dv.map slv), cOwn 61 2 X.Ap (X.pv.length) (X.cp) (PW X.pv), cMap kI natV X.lat X.kv, cRows X.L]) () trivial ⟨rfl, rfl, rfl, rfl, rfl, rfl, rfl, trivial⟩ (fun _ h => h) ?_
 rintro u -
 show St _ _ _ [(0, (vP bd 0)), (1, v1), (2, (.int .i64 t)), (6, (.bool true)), (13, (vL X.Ap X.pv (X.cp))), (14, (vI X.pv.length)), (15, (.int .i64 0))] [cAt bd 59 [(vI sz), (vL X.Ad X.dv (X.cd)), (vL X.Ap X.pv (X.cp)), (.map (some X.lat)), (.int .i64 (-1)), (.bool false)], cOwn 41 1 X.Ad (X.dv.length) (X.cd) (X.dv.map slv), cOwn 61 2 X.Ap (X.pv.length) (X.cp) (PW X.pv), cMap kI natV X.lat X.kv, cRows X.L] _
 refine stSeq (reg ?_)
 refine lc (.bool (decide ((0 : Int) < ((X.pv.length : Nat) : Int)))) ?_
 refine liNil (qThen (stSeq ?_))
 refine stFalseK rfl (by simp [w2]) ?_
 refine stExit (qThenX (qThenX (qBlockX (qThen (stSeq (reg ?_))))))
 refine lm ?_
 refine li rfl ?_
 refine opK [0] [cAt bd 59 [(vI sz), (vL X.Ad X.dv (X.cd)), (vL X.Ap X.pv (X.cp)), (.map (some X.lat)), (.int .i64 (-1)), (.bool false)]] (fun w hM hO => (dForget_any bd (vI sz) (vL X.Ad X.dv (X.cd)) (vL X.Ap X.pv (X.cp)) (.map (some X.lat)) (.int .i64 (-1)) (.bool false) w hO (⟨rfl, rfl⟩)).mono ?_)
 rintro e w' ⟨lat74, rfl, hP⟩
 refine ⟨_, [cAt bd 59 [(vI sz), (vL X.Ad X.dv (X.cd)), (.slice none 0 0), (.map (some lat74)), (.int .i64 (-1)), (.bool false)]], _, rfl, hP, rfl, ?_⟩; clear hP hM hO
 refine liNil (qThen (stSeq (reg ?_)))
 refine lm ?_
 refine lc (vP bd 0) ?_
 refine lc (vP bd 4) ?_
 refine li rfl ?_
 refine opStore1 0 rfl rfl (by kernel_rfl) rfl rfl rfl (by kernel_rfl) rfl (by simp) ?_
 refine liNil (qThen (reg ?_))
 refine lm ?_
 refine lc (vP bd 0) ?_
 refine lc (vP bd 5) ?_
 refine li rfl ?_
 refine opStore1 0 rfl rfl (by kernel_rfl) rfl rfl rfl (by kernel_rfl) rfl (by simp) ?_
 refine liNil ?_
 refine stEndN [] rfl trivial (fun w hM => ?_)
 have hM2 := (hM.pick [0, 1, 5, 4] rfl rfl).nilOwn 61 2
 have hM3 := hM2.pick [0, 1, 4, 2, 3] rfl rfl
 exact ⟨⟨lat74, X.Ad, X.cd, none, 0, X.dv, [], [], X.L⟩, rfl, Mm.pack (A := []) (B := []) hM3 ⟨wf.dl, rfl, wf.dr, fun j p q hp => by simp at hp, fun _ => rfl, wf.s1, wf.s2, wf.n1, wf.n2⟩⟩
end Go.Proofs.YtaiggifiefnjnaaGreatDoor
namespace Go.Proofs.YtaiggifiefnjnaaGreatDoor
open Go.RowKit
section
variable {P : Program} {Q : Exit → Act → World → Prop} {n : Nat} {w0 : World} {F : List Nat} {E : Env} {cs : List Ch} {c : Code} {l id : Nat}
theorem stScope (h : St n w0 F E cs (c.wp P (Exit.noGoto Q))) : St n w0 F E cs ((Code.scope c).wp P Q) := fun a w ha hM => wp_scope_straight (h a w ha hM)
theorem stLabel (h : St n w0 F E cs (Q .normal)) : St n w0 F E cs ((Code.label l).wp P Q) := fun a w ha hM => wp_label (h a w ha hM)
theorem qScopeR (h : St n w0 F E cs (Q .ret)) : St n w0 F E cs (Exit.noGoto Q .ret) := h
end
section
variable {P : Program} {w0 : World} {F : List Nat} {E : Env} {cs : List Ch} {o : Oper}
theorem rAddU {ty u : TypeId} {x y : Operand} {a b : Nat} (ho : o.op = .binOp .add ty x y u) (hx : evO E x = some (.int .u64 (a : Int))) (hy : evO E y = some (.int .u64 (b : Int))) (h : a + b < 18446744073709551616) : RunV P w0 F cs E o (.int .u64 ((a + b : Nat) : Int)) := fun w _ => by
 unfold execOp
 simp only [ho, evE_of hx, evE_of hy, Sem.run_bind, run_eqGuard_int, Result.andThen_ok, binOp, Op.intArith]
 rw [wrapU64_id (by omega) (by omega), show ((a : Int) + (b : Int)) = ((a + b : Nat) : Int) by omega]
 simp
end
section
variable {P : Program} {k : TypeId} {α β : Type} {D : Kd P k α} {val : β → Value} {b : Nat} {kv : List (α × β)} {w0 : World} {F : List Nat} {E : Env} {cs : List Ch} {o : Oper} {t e : TypeId} [DecidableEq α]
theorem rMapGetOkW {x y : Operand} {a : α} {z : Value} (ho : o.op = .lookup t x y true) (hx : evO E x = some (.map (some b))) (hy : evO E y = some (D.enc a)) (ht : P.underlying t = some (.map k e)) (hz : ∀ w, (zeroValue e).run P w = .ok z w) (h : ∀ w, Mm w0 F cs w → MapAt D val w b kv) (ha : D.ok a) : RunV P w0 F cs E o (.tuple #[((kvGet kv a).map val).getD z, .bool (kvGet kv a).isSome]) := fun w hM => by
 unfold execOp
 simp only [ho, evE_of hx, evE_of hy, Sem.run_bind, (h w hM).lookup ht hz ha true]
 rfl
end
structure Bl where
 num : Nat
 key : Bs
 data : Bs
 secs : List Nat
structure BV where
 b : Bl
 A : Option Addr
 c : Nat
def Bl.len (b : Bl) : Nat := 33 + b.key.length + b.data.length
def Bl.stream (b : Bl) : Bs := UInt8.ofNat b.key.length :: (sha b.data ++ b.key ++ b.data)
def Bl.part (sz : Nat) (b : Bl) (i : Nat) : Bs := (b.stream.take (min ((i + 1) * (sz - 32)) b.stream.length)).drop (i * (sz - 32))
def Bl.sec (sz : Nat) (b : Bl) (i s : Nat) : Bs := packB s sz b.num i b.len (b.part sz i)
def needN (sz n : Nat) : Nat := (n + (sz - 32) - 1) / (sz - 32)
theorem Bl.stream_len (b : Bl) : b.stream.length = b.len := by simp [Bl.stream, Bl.len, sha_len]; omega
abbrev II (l : List Nat) : List Value := l.map fun n => vI n
abbrev BB (l : List Bool) : List Value := l.map Value.bool
theorem II_at {l : List Nat} {i : Nat} {x : Nat} (h : l[i]? = some x) : (II l)[i]? = some (vI x) := by simp [II, h]
theorem BB_at {l : List Bool} {i : Nat} {x : Bool} (h : l[i]? = some x) : (BB l)[i]? = some (.bool x) := by simp [BB, h]
theorem el_int : Elem Tryz.prog 64 3 (.int .i64 0) 1 8 := ⟨Tryz.underlying64, by kernel_rfl, rfl, by omega, by omega⟩
theorem el_bool : Elem Tryz.prog 42 4 (.bool false) 1 1 := ⟨Tryz.underlying42, by kernel_rfl, rfl, by omega, by omega⟩
noncomputable def kB : Kd Tryz.prog 9 (List UInt8) := kStr Tryz.prog 9 Tryz.underlying9
def blV (b : Bl) (A : Option Addr) (c : Nat) : Value := .agg #[.int .u64 (b.num : Int), vI b.len, vI b.data.length, .string (strOf (sha b.data)), .slice A b.secs.length c]
def bvV (v : BV) : Value := blV v.b v.A v.c
structure SX where
 bm : Nat
 Au : Option Addr
 cu : Nat
 num : Nat
 us : List Bool
 fr : Nat
 kv : List (Bs × BV)
 L : List (Option Addr × List Nat)
def cInts (L : List (Option Addr × List Nat)) : Ch := cPack (L.map fun p => cRw p.1 (II p.2)) True
structure SW (Y : SX) : Prop where
 key : ∀ p ∈ Y.kv, p.1 = p.2.b.key
 row : ∀ p ∈ Y.kv, (p.2.A, p.2.b.secs) ∈ Y.L
noncomputable def cStore (bs bd first : Nat) (Y : SX) : Ch :=
 cPack [cAt bs 66 [.pointer (some ⟨bd, 0, none⟩), vI first, vI Y.us.length, .int .u64 (Y.num : Int), .map (some Y.bm), .slice Y.Au Y.us.length Y.cu, .slice none 0 0, vI Y.fr, .bool false],
  cMap kB bvV Y.bm Y.kv, cOwn 4 1 Y.Au Y.us.length Y.cu (BB Y.us), cInts Y.L] (SW Y)
section
variable {w0 w : World} {F : List Nat} {cs : List Ch} {L : List (Option Addr × List Nat)} {bs bd first : Nat} {Y : SX}
theorem ints_row (h : (cInts L).holds w) {A : Option Addr} {l : List Nat} (hm : (A, l) ∈ L) : RowIn w A (II l) := h.1 (cRw A (II l)) (List.mem_map.2 ⟨_, hm, rfl⟩)
theorem Mm.newInts (h : Mm w0 F cs w) : Mm w0 F (cs ++ [cInts []]) w :=
 h.push (c := cInts []) (Fr.refl _ _) ⟨by simp, by simp, trivial⟩ (by simp [cInts, cPack]) (by simp [cInts, cPack])
theorem Mm.joinInts {A : Option Addr} {l : List Nat} (h : Mm w0 F (cs ++ [cInts L, cRw A (II l)]) w) : Mm w0 F (cs ++ [cInts (L ++ [(A, l)])]) w := by
 have h1 := (Mm.unpack (A := cs) (B := [cRw A (II l)]) (l := L.map fun p => cRw p.1 (II p.2)) (p := True) (by simpa [cInts] using h)).1
 have h2 : Mm w0 F (cs ++ ((L ++ [(A, l)]).map fun p => cRw p.1 (II p.2)) ++ []) w := by simpa using h1
 exact Mm.pack (A := cs) (B := []) (l := (L ++ [(A, l)]).map fun p => cRw p.1 (II p.2)) (p := True) h2 trivial
theorem store_at (h : (cStore bs bd first Y).holds w) : At w bs 66 [.pointer (some ⟨bd, 0, none⟩), vI first, vI Y.us.length, .int .u64 (Y.num : Int), .map (some Y.bm), .slice Y.Au Y.us.length Y.cu, .slice none 0 0, vI Y.fr, .bool false] := h.1 (cAt bs 66 _) (List.mem_cons_self ..)
theorem store_map (h : (cStore bs bd first Y).holds w) : MapAt kB bvV w Y.bm Y.kv := h.1 (cMap kB bvV Y.bm Y.kv) (by simp)
theorem store_used (h : (cStore bs bd first Y).holds w) : RowIn w Y.Au (BB Y.us) := RowIn.of_own (h.1 (cOwn 4 1 Y.Au Y.us.length Y.cu (BB Y.us)) (by simp))
theorem store_row (h : (cStore bs bd first Y).holds w) {p : Bs × BV} (hp : p ∈ Y.kv) : RowIn w p.2.A (II p.2.b.secs) := ints_row (h.1 (cInts Y.L) (by simp)) (h.2.2.row p hp)
end
/-! ### What the functions compute -/
def freeL (us : List Bool) : List Nat := (List.range us.length).filter fun s => us[s]? == some false
def putErr (sz : Nat) (Y : SX) (key data : Bs) : Nat :=
 if key.length < 1 ∨ 64 < key.length then 1 else if 65536 < data.length then 2 else if (kvGet Y.kv key).isSome then 5 else if Y.fr < needN sz (33 + key.length + data.length) then 7 else 0
theorem putErr_ok {sz : Nat} {Y : SX} {key data : Bs} (h : putErr sz Y key data = 0) : (1 ≤ key.length ∧ key.length ≤ 64 ∧ data.length ≤ 65536) ∧ kvGet Y.kv key = none ∧ needN sz (33 + key.length + data.length) ≤ Y.fr := by
 unfold putErr at h
 split at h
 ·cases h
 ·split at h
  ·cases h
  ·split at h
   ·cases h
   ·split at h
    ·cases h
    ·rename_i h3 h4
     refine ⟨⟨by omega, by omega, by omega⟩, ?_, by omega⟩
     cases hk : kvGet Y.kv key with
     | none => rfl
     | some v => rw [hk] at h3; exact (h3 rfl).elim
def newB (sz : Nat) (Y : SX) (key data : Bs) : Bl := ⟨Y.num, key, data, (freeL Y.us).take (needN sz (33 + key.length + data.length))⟩
def freeI (sz : Nat) (fr : Nat) : Int := max (-1) (min (((fr * (sz - 32) : Nat) : Int) - 33 - 64) 65536)
def setFl (us : List Bool) (l : List Nat) (x : Bool) : List Bool := l.foldl (fun u s => u.set s x) us
theorem setFl_len (us : List Bool) (l : List Nat) (x : Bool) : (setFl us l x).length = us.length := by
 unfold setFl
 induction l generalizing us with
 | nil => rfl
 | cons p l ih => rw [List.foldl_cons, ih, List.length_set]
theorem setFl_take {us : List Bool} {l : List Nat} {x : Bool} {i s : Nat} (h : l[i]? = some s) : setFl us (l.take (i + 1)) x = (setFl us (l.take i) x).set s x := by
 unfold setFl
 rw [List.take_add_one, h, Option.toList_some, List.foldl_append]
 rfl
def freeT (us : List Bool) (i : Nat) : List Nat := (List.range i).filter fun s => us[s]? == some false
theorem freeT_succ (us : List Bool) (i : Nat) : freeT us (i + 1) = freeT us i ++ if us[i]? == some false then [i] else [] := by
 unfold freeT
 rw [List.range_succ, List.filter_append, List.filter_cons, List.filter_nil]
theorem freeT_le (us : List Bool) {i j : Nat} (h : i ≤ j) : ∃ l, freeT us j = freeT us i ++ l := by
 induction j with
 | zero => obtain rfl : i = 0 := by omega
           exact ⟨[], by simp⟩
 | succ j ih =>
   rcases Nat.lt_or_ge j i with hj | hj
   ·obtain rfl : i = j + 1 := by omega
    exact ⟨[], by simp⟩
   ·obtain ⟨l, hl⟩ := ih hj
    exact ⟨_, by rw [freeT_succ, hl, List.append_assoc]⟩
theorem freeT_len (us : List Bool) (i : Nat) : (freeT us i).length ≤ i := by
 have := List.length_filter_le (fun s => us[s]? == some false) (List.range i)
 simpa [freeT] using this
def addY (Y : SX) (v : BV) : SX := { Y with kv := kvPut Y.kv v.b.key v, us := setFl Y.us v.b.secs true, fr := Y.fr - v.b.secs.length, num := max Y.num (v.b.num + 1), L := Y.L ++ [(v.A, v.b.secs)] }
def delY (Y : SX) (v : BV) : SX := { Y with kv := kvDel Y.kv v.b.key, us := setFl Y.us v.b.secs false, fr := Y.fr + v.b.secs.length }
def wrB (first sz : Nat) (b : Bl) (i : Nat) : List (Nat × Bs) := (List.range i).map fun j => (first + b.secs.getD j 0, b.sec sz j (b.secs.getD j 0))
theorem wrB_succ {first sz : Nat} {b : Bl} {i s : Nat} (h : b.secs[i]? = some s) : wrB first sz b (i + 1) = wrB first sz b i ++ [(first + s, b.sec sz i s)] := by
 unfold wrB
 rw [List.range_succ, List.map_append]
 simp [List.getD, h]
theorem wrB_len (first sz : Nat) (b : Bl) (i : Nat) : (wrB first sz b i).length = i := by simp [wrB]
def wpB (first sz : Nat) (l : List Nat) (i : Nat) : List (Nat × Bs) := (l.take i).map fun s => (first + s, zerosB sz)
theorem wpB_succ {first sz : Nat} {l : List Nat} {i s : Nat} (h : l[i]? = some s) : wpB first sz l (i + 1) = wpB first sz l i ++ [(first + s, zerosB sz)] := by
 unfold wpB
 rw [List.take_add_one, h, Option.toList_some, List.map_append]
 rfl
end Go.Proofs.YtaiggifiefnjnaaGreatDoor
namespace Go.Proofs.YtaiggifiefnjnaaGreatDoor
open Go.RowKit
theorem unusedA {us : List Bool} {l : List Nat} {m i : Nat} (h2 : l = freeT us i) (h3 : l.length < m) (h : us.length ≤ i) (h1 : i ≤ us.length) : (freeL us).take m = l := by
 obtain rfl : i = us.length := by omega
 rw [show freeL us = l from h2.symm, List.take_of_length_le (by omega)]
theorem unusedB {us : List Bool} {l : List Nat} {m i : Nat} (h2 : l = freeT us (i + 1)) (h3 : l.length = m) (h : i + 1 ≤ us.length) : (freeL us).take m = l := by
 obtain ⟨r, hr⟩ := freeT_le us h
 rw [show freeL us = freeT us us.length from rfl, hr, ← h2, ← h3, List.take_left']
 rfl
theorem sRoom_any (bs : Nat) (bd : Nat) (u1 : Value) (u2 : Value) (u3 : Value) (u4 : Value) (u5 : Value) (u6 : Value) (u7 : Value) (u8 : Value) (sz : Nat) (v1 : Value) (v2 : Value) (v3 : Value) (v4 : Value) (v5 : Value) (w : World) (r0 : Rf [] w (fun w => At w bs 66 [(vP bd 0), u1, u2, u3, u4, u5, u6, u7, u8])) (r1 : Rf [] w (fun w => At w bd 59 [(vI sz), v1, v2, v3, v4, v5])) (hsz : 33 ≤ sz ∧ sz ≤ 4096) :
  Calls Tryz.prog 37 #[(vP bs 0)] w fun e w' => e = .returned (vI (sz - 32)) ∧ Back [] w [] w' := by
 have _u0 := r0
 have _u1 := r1
 have _u2 := hsz
 clear _u0 _u1 _u2
 refine stEnter (args := [(vP bs 0)]) (fps []) Tryz.func37 rfl 9 rfl [(0, (vP bs 0))] ⟨rfl, trivial⟩ [] (Mm.start w []) ?_
 refine stSeq (reg ?_)
 refine la ?_
 refine liNil (qThen (stSeq (reg ?_)))
 refine lm ?_
 refine lc (vP bs 0) ?_
 refine lc (vP bs 0) ?_
 refine lv (v := (vP bd 0)) (rLoadW rfl rfl (by kernel_rfl) (fun w hM => At.cell (r0.now hM) 0)) ?_
 refine li rfl ?_
 refine opK0 (fun w hM => (dSize_any bd sz v1 v2 v3 v4 v5 w (r1.go0 hM)).mono ?_)
 rintro e w' ⟨rfl, hP⟩
 refine ⟨_, _, rfl, hP, ?_⟩; clear hP hM
 refine lv (v := (vI (sz - 32))) (rSubN rfl rfl rfl (by omega) (by omega)) ?_
 refine la ?_
 refine liNil (qThen (stRet ?_))
 refine stEnd [(vI (sz - 32))] rfl ⟨rfl, trivial⟩ (fun w hM => ?_)
 exact ⟨rfl, hM⟩
theorem sNeed_any (bs : Nat) (bd : Nat) (u1 : Value) (u2 : Value) (u3 : Value) (u4 : Value) (u5 : Value) (u6 : Value) (u7 : Value) (u8 : Value) (sz : Nat) (v1 : Value) (v2 : Value) (v3 : Value) (v4 : Value) (v5 : Value) (n : Nat) (w : World) (r0 : Rf [] w (fun w => At w bs 66 [(vP bd 0), u1, u2, u3, u4, u5, u6, u7, u8])) (r1 : Rf [] w (fun w => At w bd 59 [(vI sz), v1, v2, v3, v4, v5])) (hsz : 33 ≤ sz ∧ sz ≤ 4096) (hn : n ≤ 1000000000) :
  Calls Tryz.prog 30 #[(vP bs 0), (vI n)] w fun e w' => e = .returned (vI (needN sz n)) ∧ Back [] w [] w' := by
 have _u0 := r0
 have _u1 := r1
 have _u2 := hsz
 have _u3 := hn
 clear _u0 _u1 _u2 _u3
 refine stEnter (args := [(vP bs 0), (vI n)]) (fps []) Tryz.func30 rfl 13 rfl [(0, (vP bs 0)), (1, (vI n))] ⟨rfl, rfl, trivial⟩ [] (Mm.start w []) ?_
 refine stSeq (reg ?_)
 refine la ?_
 refine liNil (qThen (stSeq (reg ?_)))
 refine lm ?_
 refine lm ?_
 refine li rfl ?_
 refine opK0 (fun w hM => (sRoom_any bs bd u1 u2 u3 u4 u5 u6 u7 u8 sz v1 v2 v3 v4 v5 w (r0.go0 hM) (r1.go0 hM) (⟨by omega, by omega⟩)).mono ?_)
 rintro e w' ⟨rfl, hP⟩
 refine ⟨_, _, rfl, hP, ?_⟩; clear hP hM
 refine lv (v := (vI (n + (sz - 32)))) (rAdd _ rfl rfl rfl (by omega) (by omega) (by omega)) ?_
 refine lv (v := (vI ((n + (sz - 32)) - 1))) (rSubN rfl rfl rfl (by omega) (by omega)) ?_
 refine lm ?_
 refine li rfl ?_
 refine opK0 (fun w hM => (sRoom_any bs bd u1 u2 u3 u4 u5 u6 u7 u8 sz v1 v2 v3 v4 v5 w (r0.go0 hM) (r1.go0 hM) (⟨by omega, by omega⟩)).mono ?_)
 rintro e w' ⟨rfl, hP⟩
 refine ⟨_, _, rfl, hP, ?_⟩; clear hP hM
 refine lv (v := (vI (((n + (sz - 32)) - 1) / (sz - 32)))) (rQuoN rfl rfl rfl (by omega) (by omega)) ?_
 refine la ?_
 refine liNil (qThen (stRet ?_))
 refine stEnd [(vI (((n + (sz - 32)) - 1) / (sz - 32)))] rfl ⟨rfl, trivial⟩ (fun w hM => ?_)
 -- ret: (vI (needN sz n)) / [(vI (((n + (sz - 32)) - 1) / (sz - 32)))]
 exact ⟨rfl, hM⟩
theorem sStop_no (bs : Nat) (bd : Nat) (u1 : Value) (u2 : Value) (u3 : Value) (u4 : Value) (u5 : Value) (u6 : Value) (u7 : Value) (v0 : Value) (v1 : Value) (v2 : Value) (v3 : Value) (v4 : Value) (w : World) (r0 : Rf [] w (fun w => At w bs 66 [(vP bd 0), u1, u2, u3, u4, u5, u6, u7, (.bool false)])) (r1 : Rf [] w (fun w => At w bd 59 [v0, v1, v2, v3, v4, (.bool false)])) :
  Calls Tryz.prog 29 #[(vP bs 0)] w fun e w' => e = .returned (.bool false) ∧ Back [] w [] w' := by
 have _u0 := r0
 have _u1 := r1
 clear _u0 _u1
 refine stEnter (args := [(vP bs 0)]) (fps []) Tryz.func29 rfl 15 rfl [(0, (vP bs 0))] ⟨rfl, trivial⟩ [] (Mm.start w []) ?_
 refine stSeq (reg ?_)
 refine la ?_
 refine liNil (qThen (stSeq (stSeq (reg ?_))))
 refine lm ?_
 refine lc (vP bs 0) ?_
 refine lc (vP bs 0) ?_
 refine lv (v := (vP bd 0)) (rLoadW rfl rfl (by kernel_rfl) (fun w hM => At.cell (r0.now hM) 0)) ?_
 refine li rfl ?_
 refine opK0 (fun w hM => (dDown_any bd v0 v1 v2 v3 v4 false w (r1.go0 hM)).mono ?_)
 rintro e w' ⟨rfl, hP⟩
 refine ⟨_, _, rfl, hP, ?_⟩; clear hP hM
 refine liNil (qThen (stFalse rfl (stSkip (qThen (stSeq (reg ?_))))))
 refine lm ?_
 refine lc (vP bs 0) ?_
 refine lc (vP bs 8) ?_
 refine lv (v := (.bool false)) (rLoadW rfl rfl (by kernel_rfl) (fun w hM => At.cell (r0.now hM) 8)) ?_
 refine la ?_
 refine liNil (qThen (stRet ?_))
 refine stEnd [(.bool false)] rfl ⟨rfl, trivial⟩ (fun w hM => ?_)
 exact ⟨rfl, hM⟩
theorem sUnused_any (bs : Nat) (bd : Nat) (u1 : Value) (u2 : Value) (u3 : Value) (u4 : Value) (u6 : Value) (u7 : Value) (u8 : Value) (Au : Option Addr) (us : List Bool) (cu : Nat) (m : Nat) (w : World) (r0 : Rf [] w (fun w => At w bs 66 [(vP bd 0), u1, u2, u3, u4, (vL Au us cu), u6, u7, u8])) (r1 : Rf [] w (fun w => RowIn w Au (BB us))) (hm : 1 ≤ m) (hu : us.length ≤ 1000000) :
  Calls Tryz.prog 33 #[(vP bs 0), (vI m)] w fun e w' => ∃ (A : Option Addr) (c : Nat), e = .returned (vL A ((freeL us).take m) c) ∧ Back [] w [cOwn 3 1 A (((freeL us).take m).length) (c) (II ((freeL us).take m))] w' := by
 have _u0 := r0
 have _u1 := r1
 have _u2 := hm
 have _u3 := hu
 clear _u0 _u1 _u2 _u3
 refine stEnter (args := [(vP bs 0), (vI m)]) (fps []) Tryz.func33 rfl 29 rfl [(0, (vP bs 0)), (1, (vI m))] ⟨rfl, rfl, trivial⟩ [] (Mm.start w []) ?_
 refine stSeq (reg ?_)
 refine la ?_
 refine liNil (qThen ?_)
 refine stScope ?_
 refine stSeq (reg ?_)
 refine la ?_
 refine liNil (qThen (stSeq ?_))
 refine stLabel ?_
 refine qThen (stSeq (stSeq (reg ?_)))
 refine lm ?_
 refine lc (vP bs 0) ?_
 refine lc (vP bs 5) ?_
 refine lv (v := (vL Au us cu)) (rLoadW rfl rfl (by kernel_rfl) (fun w hM => At.cell (r0.now hM) 5)) ?_
 refine lc (vI us.length) ?_
 refine lm ?_
 refine liNil (qThen (stBlock ?_))
 refine St.mem (fun w hM => hM.nilOwn 3 1) ?_
 refine stLoop (ι := Nat × List Nat × Option Addr × Nat) (fun (i, l, A, c) => i ≤ us.length ∧ l = freeT us i ∧ l.length < m) (fun (i, l, A, c) => us.length - i) (fun (i, l, A, c) => [(1, (vI m)), (4, (.slice none 0 0)), (11, (vL Au us cu)), (12, (vI us.length)), (5, (vL A l c)), (13, (vI i))]) (fun (i, l, A, c) => [cOwn 3 1 A (l.length) (c) (II l)]) (0, [], none, 0) ⟨by omega, rfl, by show (0 : Nat) < _; omega⟩ ⟨rfl, rfl, rfl, rfl, rfl, rfl, trivial⟩ (fun _ h => h) ?_
 rintro ⟨i, l, A, c⟩ ⟨h1, h2, h3⟩
 show St _ _ _ [(1, (vI m)), (4, (.slice none 0 0)), (11, (vL Au us cu)), (12, (vI us.length)), (5, (vL A l c)), (13, (vI i))] [cOwn 3 1 A (l.length) (c) (II l)] _
 refine stSeq (reg ?_)
 refine lc (.bool (decide (((i : Nat) : Int) < ((us.length : Nat) : Int)))) ?_
 refine liNil (qThen (stSeq ?_))
 refine stCond rfl (fun hc14 => ?_) (fun hc14 => ?_)
 ·have hd14 := of_decide_eq_true hc14
  refine stSkip (qThen (stSeq (stBlock (stSeq (reg ?_)))))
  refine lm ?_
  obtain ⟨x0, hx0⟩ : ∃ ξ, (us)[i]? = some ξ := ⟨_, List.getElem?_eq_getElem (by omega)⟩
  refine St.rowPtr (fun w hM => r1.now hM) (BB_at hx0) (fun p16 q16 hA16 hc16 => ?_)
  refine lv (v := (vP p16 (q16 + i))) (rIndexRow (e := 4) rfl (by kernel_rfl) (by kernel_rfl) rfl rfl hA16 (by omega)) ?_
  refine lv (v := (.bool x0)) (rLoadW rfl rfl (by kernel_rfl) hc16) ?_
  refine la ?_
  refine la ?_
  refine liNil (qThen (stSeq (stSeq (reg ?_))))
  refine lm ?_
  refine liNil (qThen ?_)
  refine stCond rfl (fun hc18 => ?_) (fun hc18 => ?_)
  ·have hnx : l = freeT us (i + 1) := by rw [freeT_succ, hx0, hc18, h2]; simp
   refine stExit (qThenX (qBlockX (qThen (reg ?_))))
   refine lv (v := (vI (i + 1))) (rAdd _ rfl rfl rfl (by omega) (by omega) (by omega)) ?_
   refine lm ?_
   refine liNil (qThen ?_)
   exact stAgain (i + 1, l, A, c) (⟨by omega, hnx, by first | exact h3 | exact hnl⟩) (by show _ - _ < _ - _; omega) ⟨rfl, rfl, rfl, rfl, rfl, rfl, trivial⟩ (fun w hM => hM)
  ·have hnx : l ++ [i] = freeT us (i + 1) := by rw [freeT_succ, hx0, hc18, h2]; simp
   refine stSkip (qThen (stSeq (reg ?_)))
   refine lm ?_
   refine lm ?_
   refine li rfl ?_
   refine opNew (v := fun b => .slice (some ⟨b, 0, none⟩) 1 1) 3 [(vI i)] rfl (by kernel_rfl) (fun _ => by kernel_rfl) (fun b21 => ?_)
   refine li rfl ?_
   refine opAppend el_int 0 ([(vI i)]) rfl rfl (by kernel_rfl) rfl rfl rfl (rfl) (srcAt (i := 1) rfl (fun j v h => by rw [Nat.zero_add]; exact h)) (by simp [Value.oneCell']) (by have := h2 ▸ freeT_len us i; omega) ((l ++ [i]).length) (by first | exact (List.length_append ..).symm | (simp; done) | (simp; omega)) (II (l ++ [i])) (by simp [II]) (fun A22 c22 => ?_)
   refine la ?_
   refine liNil (qThen (stSeq (reg ?_)))
   refine lm ?_
   refine lc (vI ((l ++ [i]).length)) ?_
   refine lm ?_
   refine lc (.bool (((((l ++ [i]).length : Nat) : Int) : Int) == ((m : Nat) : Int))) ?_
   refine liNil (qThen ?_)
   refine stCond rfl (fun hc26 => ?_) (fun hc26 => ?_)
   ·have hnl : (l ++ [i]).length = m := by have h := beq_iff_eq.1 hc26; omega
    refine stExit (qBlockY rfl (qThenX (qThenX (qBlockX (qThen (stSeq (reg ?_)))))))
    refine lm ?_
    refine la ?_
    refine liNil (qThen (stRet ?_))
    refine qScopeR ?_
    refine stEnd [(vL A22 (l ++ [i]) c22)] rfl ⟨rfl, trivial⟩ (fun w hM => ?_)
    have hout : (freeL us).take m = l ++ [i] := unusedB hnx hnl (by omega)
    rw [hout]
    exact ⟨_, _, rfl, hM.pick [0] rfl rfl⟩
   ·have hnl : (l ++ [i]).length < m := by have h := beq_eq_false_iff_ne.1 hc26; have h2 : (l ++ [i]).length = l.length + 1 := List.length_append ..; omega
    refine stSkip (qBlock (qThen (reg ?_)))
    refine lv (v := (vI (i + 1))) (rAdd _ rfl rfl rfl (by omega) (by omega) (by omega)) ?_
    refine lm ?_
    refine liNil (qThen ?_)
    exact stAgain (i + 1, l ++ [i], A22, c22) (⟨by omega, hnx, by first | exact h3 | exact hnl⟩) (by show _ - _ < _ - _; omega) ⟨rfl, rfl, rfl, rfl, rfl, rfl, trivial⟩ (fun w hM => (hM.pick [0] rfl rfl))
 ·have hd14 := of_decide_eq_false hc14
  refine stExit (qThenX (qThenX (qBlockX (qThen (stSeq (reg ?_))))))
  refine lm ?_
  refine la ?_
  refine liNil (qThen (stRet ?_))
  refine qScopeR ?_
  refine stEnd [(vL A l c)] rfl ⟨rfl, trivial⟩ (fun w hM => ?_)
  have hout : (freeL us).take m = l := unusedA h2 h3 (by omega) h1
  rw [hout]
  exact ⟨_, _, rfl, hM⟩
end Go.Proofs.YtaiggifiefnjnaaGreatDoor
namespace Go.Proofs.YtaiggifiefnjnaaGreatDoor
open Go.RowKit
theorem kvPut_mem {α β : Type} [DecidableEq α] {kv : List (α × β)} {a : α} {v : β} {p : α × β} (h : p ∈ kvPut kv a v) : p ∈ kv ∨ p = (a, v) := by
 unfold kvPut at h
 split at h
 ·obtain ⟨q, hq, rfl⟩ := List.mem_map.1 h
  split
  ·exact .inr rfl
  ·exact .inl hq
 ·rcases List.mem_append.1 h with h | h
  ·exact .inl h
  ·exact .inr (by simpa using h)
theorem addY_wf {Y : SX} (h : SW Y) (v : BV) : SW (addY Y v) where
 key p hp := by
  rcases kvPut_mem hp with hp | rfl
  ·exact h.key p hp
  ·rfl
 row p hp := by
  show _ ∈ Y.L ++ [_]
  rcases kvPut_mem hp with hp | rfl
  ·exact List.mem_append_left _ (h.row p hp)
  ·simp
theorem sAdd_any (bs : Nat) (bd : Nat) (first : Nat) (Y : SX) (b : Bl) (A : Option Addr) (c : Nat) (w : World) (hO : Own [cStore bs bd first Y, cRw A (II b.secs)] w) (hb : b.key.length ≤ 64 ∧ b.data.length ≤ 65536 ∧ b.num ≤ 1000000 ∧ b.secs.length ≤ 100000) (hs : ∀ s ∈ b.secs, s < Y.us.length) (hf : b.secs.length ≤ Y.fr) (hn : Y.num ≤ 1000000) (hu : Y.us.length ≤ 1000000) (hfr : Y.fr ≤ 1000000) :
  Calls Tryz.prog 35 #[(vP bs 0), (vS b.key), (.agg #[(.int .u64 ((b.num : Nat) : Int)), (vI b.len), (vI b.data.length), (vS (sha b.data)), (vL A b.secs c)])] w fun e w' => e = .returned (.tuple #[]) ∧ Back [cStore bs bd first Y, cRw A (II b.secs)] w [cStore bs bd first (addY Y ⟨b, A, c⟩), cInts []] w' := by
 have _u0 := hb
 have _u1 := hs
 have _u2 := hf
 have _u3 := hn
 have _u4 := hu
 have _u5 := hfr
 clear _u0 _u1 _u2 _u3 _u4 _u5
 refine stEnter (args := [(vP bs 0), (vS b.key), (.agg #[(.int .u64 ((b.num : Nat) : Int)), (vI b.len), (vI b.data.length), (vS (sha b.data)), (vL A b.secs c)])]) (fps [cStore bs bd first Y, cRw A (II b.secs)]) Tryz.func35 rfl 49 rfl [(0, (vP bs 0)), (1, (vS b.key)), (2, (.agg #[(.int .u64 ((b.num : Nat) : Int)), (vI b.len), (vI b.data.length), (vS (sha b.data)), (vL A b.secs c)]))] ⟨rfl, rfl, rfl, trivial⟩ [cStore bs bd first Y, cRw A (II b.secs)] (hO) ?_
 refine stSeq ?_
 refine St.fact (fun w hM => (Mm.unpack (A := []) (B := [cRw A (II b.secs)]) hM).2) (fun sw => ?_)
 refine St.mem (cs' := [cAt bs 66 [(vP bd 0), (vI first), (vI Y.us.length), (.int .u64 ((Y.num : Nat) : Int)), (.map (some Y.bm)), (vL Y.Au Y.us (Y.cu)), (.slice none 0 0), (vI Y.fr), (.bool false)], cMap kB bvV Y.bm Y.kv, cOwn 4 1 Y.Au (Y.us.length) (Y.cu) (BB Y.us), cInts Y.L, cRw A (II b.secs)]) (fun w hM => (Mm.unpack (A := []) (B := [cRw A (II b.secs)]) hM).1) ?_
 obtain ⟨g1, g2, g3, g4⟩ := hb
 refine reg (li rfl ?_)
 refine opBox [(.int .u64 ((b.num : Nat) : Int)), (vI b.len), (vI b.data.length), (vS (sha b.data)), (vL A b.secs c)] rfl rfl (by kernel_rfl) rfl rfl (fun b5 => ?_)
 refine liNil (qThen (stSeq ?_))
 refine anyBegin [cAt bs 66 [(vP bd 0), (vI first), (vI Y.us.length), (.int .u64 ((Y.num : Nat) : Int)), (.map (some Y.bm)), (vL Y.Au Y.us (Y.cu)), (.slice none 0 0), (vI Y.fr), (.bool false)], cMap kB bvV Y.bm Y.kv, cOwn 4 1 Y.Au (Y.us.length) (Y.cu) (BB Y.us), cInts Y.L, cRw A (II b.secs), cAt b5 70 [(.int .u64 ((b.num : Nat) : Int)), (vI b.len), (vI b.data.length), (vS (sha b.data)), (vL A b.secs c)]] 6 (by kernel_rfl) (fun _ h => h) ?_
 refine am 0 ?_
 refine ac 1 (vP bs 0) ?_
 refine ac 2 (vP bs 4) ?_
 refine av 3 (.map (some Y.bm)) rfl (rLoad 0 rfl rfl (by kernel_rfl) rfl rfl) ?_
 refine am 4 ?_
 refine av 5 (.agg #[(.int .u64 ((b.num : Nat) : Int)), (vI b.len), (vI b.data.length), (vS (sha b.data)), (vL A b.secs c)]) rfl (rLoadA [(.int .u64 ((b.num : Nat) : Int)), (vI b.len), (vI b.data.length), (vS (sha b.data)), (vL A b.secs c)] rfl rfl (by kernel_rfl) (by kernel_rfl) (segAt (i := 5) rfl (by intro j v hj; first | (rw [Nat.zero_add]; exact hj) | (match j, hj with | 0, h => exact h | 1, h => exact h | 2, h => exact h | 3, h => exact h | 4, h => exact h)))) ?_
 refine a1 6 ?_
 refine opMapPutK (D := kB) (val := bvV) (a := b.key) (u := ⟨b, A, c⟩) 1 (kvPut Y.kv b.key ⟨b, A, c⟩) rfl rfl (by kernel_rfl) rfl rfl rfl Tryz.underlying63 rfl (by show b.key.length ≤ _; omega) rfl ?_
 refine anyLast (by kernel_rfl) rfl ?_
 refine qThen (stSeq (stSeq (reg ?_)))
 refine lc (vP b5 4) ?_
 refine lv (v := (vL A b.secs c)) (rLoad 5 rfl rfl (by kernel_rfl) rfl rfl) ?_
 refine lc (vI b.secs.length) ?_
 refine lm ?_
 refine liNil (qThen (stBlock ?_))
 refine stLoop (ι := Nat) (fun i => i ≤ b.secs.length) (fun i => b.secs.length - i) (fun i => [(0, (vP bs 0)), (5, (vP b5 0)), (15, (vL A b.secs c)), (16, (vI b.secs.length)), (17, (vI i))]) (fun i => [cAt bs 66 [(vP bd 0), (vI first), (vI Y.us.length), (.int .u64 ((Y.num : Nat) : Int)), (.map (some Y.bm)), (vL Y.Au Y.us (Y.cu)), (.slice none 0 0), (vI Y.fr), (.bool false)], cMap kB bvV Y.bm (kvPut Y.kv b.key ⟨b, A, c⟩), cOwn 4 1 Y.Au (Y.us.length) (Y.cu) (BB (setFl Y.us (b.secs.take i) true)), cInts Y.L, cRw A (II b.secs), cAt b5 70 [(.int .u64 ((b.num : Nat) : Int)), (vI b.len), (vI b.data.length), (vS (sha b.data)), (vL A b.secs c)]]) 0 (Nat.zero_le _) ⟨rfl, rfl, rfl, rfl, rfl, trivial⟩ (fun _ h => h) ?_
 intro i hok
 show St _ _ _ [(0, (vP bs 0)), (5, (vP b5 0)), (15, (vL A b.secs c)), (16, (vI b.secs.length)), (17, (vI i))] [cAt bs 66 [(vP bd 0), (vI first), (vI Y.us.length), (.int .u64 ((Y.num : Nat) : Int)), (.map (some Y.bm)), (vL Y.Au Y.us (Y.cu)), (.slice none 0 0), (vI Y.fr), (.bool false)], cMap kB bvV Y.bm (kvPut Y.kv b.key ⟨b, A, c⟩), cOwn 4 1 Y.Au (Y.us.length) (Y.cu) (BB (setFl Y.us (b.secs.take i) true)), cInts Y.L, cRw A (II b.secs), cAt b5 70 [(.int .u64 ((b.num : Nat) : Int)), (vI b.len), (vI b.data.length), (vS (sha b.data)), (vL A b.secs c)]] _
 refine stSeq (reg ?_)
 refine lc (.bool (decide (((i : Nat) : Int) < ((b.secs.length : Nat) : Int)))) ?_
 refine liNil (qThen (stSeq ?_))
 refine stCond rfl (fun hc18 => ?_) (fun hc18 => ?_)
 ·have hd18 := of_decide_eq_true hc18
  refine stSkip (qThen (stSeq (stBlock (stSeq (reg ?_)))))
  obtain ⟨x0, hx0⟩ : ∃ ξ, (b.secs)[i]? = some ξ := ⟨_, List.getElem?_eq_getElem (by omega)⟩
  refine St.rowPtr (fun w hM => cRw_row (hM.at (i := 4) rfl)) (II_at hx0) (fun p19 q19 hA19 hc19 => ?_)
  refine lv (v := (vP p19 (q19 + i))) (rIndexRow (e := 3) rfl (by kernel_rfl) (by kernel_rfl) rfl rfl hA19 (by omega)) ?_
  refine lv (v := (vI x0)) (rLoadW rfl rfl (by kernel_rfl) hc19) ?_
  refine la ?_
  refine liNil (qThen ?_)
  have hxs := hs _ (List.mem_of_getElem? hx0)
  refine St.ownSome 2 rfl (by omega) (fun g hg => ?_)
  refine reg ?_
  refine lm ?_
  refine lc (vP bs 0) ?_
  refine lc (vP bs 5) ?_
  refine lv (v := (vL Y.Au Y.us (Y.cu))) (rLoad 0 rfl rfl (by kernel_rfl) rfl rfl) ?_
  refine lm ?_
  refine lv (v := (vP g (0 + x0))) (rIndexRow (e := 4) rfl (by kernel_rfl) (by kernel_rfl) rfl rfl hg (by omega)) ?_
  refine li rfl ?_
  refine opStoreOwnA 2 hg (BB (setFl Y.us (b.secs.take (i + 1)) true)) rfl rfl (by kernel_rfl) rfl rfl rfl (by kernel_rfl) rfl (by rw [List.length_map, setFl_len]; omega) (by rw [setFl_take hx0, ← List.map_set]) ?_
  refine liNil (qBlock (qThen (reg ?_)))
  refine lv (v := (vI (i + 1))) (rAdd _ rfl rfl rfl (by omega) (by omega) (by omega)) ?_
  refine lm ?_
  refine liNil (qThen ?_)
  exact stAgain (i + 1) (by show _ ≤ _; omega) (by show _ - _ < _ - _; omega) ⟨rfl, rfl, rfl, rfl, rfl, trivial⟩ (fun w hM => hM)
 ·have hd18 := of_decide_eq_false hc18
  refine stExit (qThenX (qThenX (qBlockX (qThen (stSeq ?_)))))
  refine anyBegin [cAt bs 66 [(vP bd 0), (vI first), (vI Y.us.length), (.int .u64 ((Y.num : Nat) : Int)), (.map (some Y.bm)), (vL Y.Au Y.us (Y.cu)), (.slice none 0 0), (vI Y.fr), (.bool false)], cMap kB bvV Y.bm (kvPut Y.kv b.key ⟨b, A, c⟩), cOwn 4 1 Y.Au (Y.us.length) (Y.cu) (BB (setFl Y.us (b.secs.take i) true)), cInts Y.L, cRw A (II b.secs), cAt b5 70 [(.int .u64 ((b.num : Nat) : Int)), (vI b.len), (vI b.data.length), (vS (sha b.data)), (vL A b.secs c)]] 10 (by kernel_rfl) (fun _ h => h) ?_
  refine am 0 ?_
  refine ac 1 (vP bs 0) ?_
  refine ac 2 (vP bs 7) ?_
  refine av 3 (vI Y.fr) rfl (rLoad 0 rfl rfl (by kernel_rfl) rfl rfl) ?_
  refine ac 4 (vP b5 4) ?_
  refine av 5 (vL A b.secs c) rfl (rLoad 5 rfl rfl (by kernel_rfl) rfl rfl) ?_
  refine ac 6 (vI b.secs.length) ?_
  refine av 7 (vI (Y.fr - b.secs.length)) rfl (rSubN rfl rfl rfl (by omega) (by omega)) ?_
  refine ac 8 (vP bs 0) ?_
  refine ac 9 (vP bs 7) ?_
  refine a1 10 ?_
  refine opStore1 0 rfl rfl (by kernel_rfl) rfl rfl rfl (by kernel_rfl) rfl (by simp) ?_
  refine anyLast (by kernel_rfl) rfl ?_
  refine qThen ?_
  refine anyBegin [cAt bs 66 [(vP bd 0), (vI first), (vI Y.us.length), (.int .u64 ((Y.num : Nat) : Int)), (.map (some Y.bm)), (vL Y.Au Y.us (Y.cu)), (.slice none 0 0), (vI (Y.fr - b.secs.length)), (.bool false)], cMap kB bvV Y.bm (kvPut Y.kv b.key ⟨b, A, c⟩), cOwn 4 1 Y.Au (Y.us.length) (Y.cu) (BB (setFl Y.us (b.secs.take i) true)), cInts Y.L, cRw A (II b.secs), cAt b5 70 [(.int .u64 ((b.num : Nat) : Int)), (vI b.len), (vI b.data.length), (vS (sha b.data)), (vL A b.secs c)]] 11 (by kernel_rfl) (fun _ h => h) ?_
  refine am 0 ?_
  refine am 1 ?_
  refine ac 2 (vP bs 0) ?_
  refine ac 3 (vP bs 3) ?_
  refine av 4 (.int .u64 ((Y.num : Nat) : Int)) rfl (rLoad 0 rfl rfl (by kernel_rfl) rfl rfl) ?_
  refine ac 5 (vP b5 0) ?_
  refine av 6 (.int .u64 ((b.num : Nat) : Int)) rfl (rLoad 5 rfl rfl (by kernel_rfl) rfl rfl) ?_
  refine av 7 (.int .u64 (((b.num + 1) : Nat) : Int)) rfl (rAddU rfl rfl rfl (by omega)) ?_
  refine av 8 (.int .u64 (((max Y.num (b.num + 1)) : Nat) : Int)) rfl (rMaxN rfl rfl rfl) ?_
  refine ac 9 (vP bs 0) ?_
  refine ac 10 (vP bs 3) ?_
  refine a1 11 ?_
  refine opStore1 0 rfl rfl (by kernel_rfl) rfl rfl rfl (by kernel_rfl) rfl (by simp) ?_
  refine anyLast (by kernel_rfl) rfl ?_
  refine stEndN [] rfl trivial (fun w hM => ?_)
  have hM2 := Mm.joinInts (cs := [cAt bs 66 [(vP bd 0), (vI first), (vI Y.us.length), (.int .u64 (((max Y.num (b.num + 1)) : Nat) : Int)), (.map (some Y.bm)), (vL Y.Au Y.us (Y.cu)), (.slice none 0 0), (vI (Y.fr - b.secs.length)), (.bool false)], cMap kB bvV Y.bm (kvPut Y.kv b.key ⟨b, A, c⟩), cOwn 4 1 Y.Au (Y.us.length) (Y.cu) (BB (setFl Y.us (b.secs.take i) true))]) (hM.pick [0, 1, 2, 3, 4] rfl rfl)
  obtain rfl : i = b.secs.length := by omega
  have e1 : (vL Y.Au Y.us (Y.cu)) = Value.slice Y.Au (setFl Y.us b.secs true).length Y.cu := by show Value.slice _ _ _ = _; rw [setFl_len]
  rw [List.take_length, e1, ← setFl_len Y.us b.secs true] at hM2
  exact ⟨rfl, Mm.pack (A := []) (B := [cInts []]) hM2.newInts (addY_wf sw _)⟩
end Go.Proofs.YtaiggifiefnjnaaGreatDoor
namespace Go.Proofs.YtaiggifiefnjnaaGreatDoor
open Go.RowKit
theorem wpB_le (first sz : Nat) (l : List Nat) (i : Nat) : (wpB first sz l i).length ≤ i := by
 unfold wpB
 rw [List.length_map, List.length_take]
 omega
theorem sWipe_nil (bs : Nat) (w : World) :
  Calls Tryz.prog 36 #[(vP bs 0), (.slice none 0 0)] w fun e w' => e = .returned (.int .i64 0) ∧ Back [] w [] w' := by
 refine stEnter (args := [(vP bs 0), (.slice none 0 0)]) (fps []) Tryz.func36 rfl 45 rfl [(0, (vP bs 0)), (1, (.slice none 0 0))] ⟨rfl, rfl, trivial⟩ [] (Mm.start w []) ?_
 refine stSeq (reg ?_)
 refine la ?_
 refine liNil (qThen (stSeq (stSeq (reg ?_))))
 refine lm ?_
 refine lc (.int .i64 0) ?_
 refine lc (.bool true) ?_
 refine liNil (qThen (stTrue rfl (stSeq (reg ?_))))
 refine la ?_
 refine liNil (qThen (stRet (qThenR ?_)))
 refine stEnd [(.int .i64 0)] rfl ⟨rfl, trivial⟩ (fun w hM => ?_)
 exact ⟨rfl, hM⟩
theorem sWipe_any (bs : Nat) (bd : Nat) (first : Nat) (u2 : Value) (u3 : Value) (u4 : Value) (u5 : Value) (u6 : Value) (u7 : Value) (u8 : Value) (X : DX) (sz : Nat) (secs : List Bs) (A : Option Addr) (c : Nat) (l : List Nat) (w : World) (hO : Own [cDisk bd X sz secs []] w) (r0 : Rf [cDisk bd X sz secs []] w (fun w => At w bs 66 [(vP bd 0), (vI first), u2, u3, u4, u5, u6, u7, u8])) (r1 : Rf [cDisk bd X sz secs []] w (fun w => RowIn w A (II l))) (hs : ∀ s ∈ l, first + s < secs.length) (hl : 1 ≤ l.length ∧ l.length ≤ 100000) (hsz : 1 ≤ sz ∧ sz ≤ 4096) (hf : secs.length ≤ 1000000) :
  Calls Tryz.prog 36 #[(vP bs 0), (vL A l c)] w fun e w' => ∃ (X2 : DX), e = .returned (.int .i64 0) ∧ Back [cDisk bd X sz secs []] w [cDisk bd X2 sz (applyW secs (wpB first sz l l.length)) []] w' := by
 have _u0 := r0
 have _u1 := r1
 have _u2 := hs
 have _u3 := hl
 have _u4 := hsz
 have _u5 := hf
 clear _u0 _u1 _u2 _u3 _u4 _u5
 refine stEnter (args := [(vP bs 0), (vL A l c)]) (fps [cDisk bd X sz secs []]) Tryz.func36 rfl 45 rfl [(0, (vP bs 0)), (1, (vL A l c))] ⟨rfl, rfl, trivial⟩ [cDisk bd X sz secs []] (hO) ?_
 refine stSeq ?_
 obtain ⟨l1, l2⟩ := hl
 obtain ⟨z1, z2⟩ := hsz
 obtain ⟨zz, hzl, hz⟩ : ∃ zz : Bs, sz = zz.length ∧ zz = zerosB sz := ⟨zerosB sz, by simp [zerosB], rfl⟩
 rw [hzl] at hz
 subst hzl
 refine reg ?_
 refine la ?_
 refine liNil (qThen (stSeq (stSeq (reg ?_))))
 refine lm ?_
 refine lc (vI l.length) ?_
 refine lc (.bool ((((l.length : Nat) : Int) : Int) == 0)) ?_
 refine liNil (qThen ?_)
 refine stFalseK rfl (by simp only [beq_eq_false_iff_ne]; omega) ?_
 refine stSkip (qThen (stSeq (stSeq (reg ?_))))
 refine lm ?_
 refine lc (vI l.length) ?_
 refine lm ?_
 refine liNil (qThen (stBlock ?_))
 refine stLoop (ι := Nat × DX) (fun (i, X1) => i ≤ l.length) (fun (i, X1) => l.length - i) (fun (i, X1) => [(0, (vP bs 0)), (4, (.int .i64 0)), (10, (vL A l c)), (11, (vI l.length)), (12, (vI i))]) (fun (i, X1) => [cDisk bd X1 zz.length secs (wpB first zz.length l i)]) (0, X) (Nat.zero_le _) ⟨rfl, rfl, rfl, rfl, rfl, trivial⟩ (fun _ h => h) ?_
 rintro ⟨i, X1⟩ hok
 show St _ _ _ [(0, (vP bs 0)), (4, (.int .i64 0)), (10, (vL A l c)), (11, (vI l.length)), (12, (vI i))] [cDisk bd X1 zz.length secs (wpB first zz.length l i)] _
 refine stSeq (reg ?_)
 refine lc (.bool (decide (((i : Nat) : Int) < ((l.length : Nat) : Int)))) ?_
 refine liNil (qThen (stSeq ?_))
 refine stCond rfl (fun hc13 => ?_) (fun hc13 => ?_)
 ·have hd13 := of_decide_eq_true hc13
  refine stSkip (qThen (stSeq (stBlock (stSeq (reg ?_)))))
  obtain ⟨x0, hx0⟩ : ∃ ξ, (l)[i]? = some ξ := ⟨_, List.getElem?_eq_getElem (by omega)⟩
  refine St.rowPtr (fun w hM => r1.now hM) (II_at hx0) (fun p14 q14 hA14 hc14 => ?_)
  refine lv (v := (vP p14 (q14 + i))) (rIndexRow (e := 3) rfl (by kernel_rfl) (by kernel_rfl) rfl rfl hA14 (by omega)) ?_
  refine lv (v := (vI x0)) (rLoadW rfl rfl (by kernel_rfl) hc14) ?_
  refine la ?_
  refine liNil (qThen (stSeq ?_))
  have hxs := hs _ (List.mem_of_getElem? hx0)
  refine anyBegin [cDisk bd X1 zz.length secs (wpB first zz.length l i)] 16 (by kernel_rfl) (fun _ h => h) ?_
  refine am 0 ?_
  refine ac 1 (vP bs 0) ?_
  refine ac 2 (vP bs 0) ?_
  refine av 3 (vP bd 0) rfl (rLoadW rfl rfl (by kernel_rfl) (fun w hM => At.cell (r0.now hM) 0)) ?_
  refine am 4 ?_
  refine ac 5 (vP bs 0) ?_
  refine ac 6 (vP bs 1) ?_
  refine av 7 (vI first) rfl (rLoadW rfl rfl (by kernel_rfl) (fun w hM => At.cell (r0.now hM) 1)) ?_
  refine am 8 ?_
  refine av 9 (vI (first + x0)) rfl (rAdd _ rfl rfl rfl (by omega) (by omega) (by omega)) ?_
  refine am 10 ?_
  refine ac 11 (vP bs 0) ?_
  refine ac 12 (vP bs 0) ?_
  refine av 13 (vP bd 0) rfl (rLoadW rfl rfl (by kernel_rfl) (fun w hM => At.cell (r0.now hM) 0)) ?_
  refine a1 14 ?_
  refine opK0 (fun w hM => (dSize_any bd zz.length (vL X1.Ad X1.dv (X1.cd)) (vL X1.Ap X1.pv (X1.cp)) (.map (some X1.lat)) (.int .i64 (-1)) (.bool false) w (hM.keep0 (j := 0) rfl (fun _ h => disk_at h))).mono ?_)
  rintro e w' ⟨rfl, hP⟩
  refine ⟨_, _, rfl, hP, ?_⟩; clear hP hM
  refine anyNext [cDisk bd X1 zz.length secs (wpB first zz.length l i)] (fun _ h => h) (fun _ h => h) ?_
  refine a1 15 ?_
  refine opMkN el_u8 zz.length (by omega) (B8 zz) rfl rfl (by kernel_rfl) rfl rfl rfl (by rw [hz]; simp [B8, zerosB]) (fun b31 => ?_)
  refine anyNext [cDisk bd X1 zz.length secs (wpB first zz.length l i), cAt b31 5 (B8 zz)] (fun _ h => h.pick [0] rfl rfl) (fun _ h => h) ?_
  refine a1 16 ?_
  refine opK [0] [cDisk bd X1 zz.length secs (wpB first zz.length l i)] (fun w hM hO => (dWrite_any bd X1 zz.length secs (wpB first zz.length l i) (first + x0) (some ⟨b31, 0, none⟩) zz.length zz w hO (hM.keepS [0] (j := 1) rfl (fun _ h => rowAtI h rfl)) (by omega) (by omega) (by have := wpB_le first zz.length l i; omega)).mono ?_)
  rintro e w' ⟨X232, rfl, hP⟩
  refine ⟨_, [cDisk bd X232 zz.length secs ((wpB first zz.length l i) ++ [((first + x0), zz)])], _, rfl, hP, rfl, ?_⟩; clear hP hM hO
  refine St.to [cDisk bd X232 zz.length secs ((wpB first zz.length l i) ++ [((first + x0), zz)]), cAt b31 5 (B8 zz)] (by kernel_rfl) ?_
  refine anyPhase [cDisk bd X232 zz.length secs ((wpB first zz.length l i) ++ [((first + x0), zz)]), cAt b31 5 (B8 zz)] 18 rfl (fun _ h => h) ?_
  refine ac 17 (.bool false) ?_
  refine anyDone (by kernel_rfl) ?_
  refine qThen (stFalse rfl (stSkip (qBlock (qThen (reg ?_)))))
  refine lv (v := (vI (i + 1))) (rAdd _ rfl rfl rfl (by omega) (by omega) (by omega)) ?_
  refine lm ?_
  refine liNil (qThen ?_)
  rw [show (wpB first zz.length l i) ++ [((first + x0), zz)] = wpB first zz.length l (i + 1) from by rw [wpB_succ hx0, ← hz]]
  exact stAgain (i + 1, X232) (by show _ ≤ _; omega) (by show _ - _ < _ - _; omega) ⟨rfl, rfl, rfl, rfl, rfl, trivial⟩ (fun w hM => (hM.pick [0] rfl rfl))
 ·have hd13 := of_decide_eq_false hc13
  refine stExit (qThenX (qThenX (qBlockX (qThen (stSeq (stSeq (reg ?_)))))))
  refine lm ?_
  refine lc (vP bs 0) ?_
  refine lc (vP bs 0) ?_
  refine lv (v := (vP bd 0)) (rLoadW rfl rfl (by kernel_rfl) (fun w hM => At.cell (r0.now hM) 0)) ?_
  refine li rfl ?_
  refine opK [0] [cDisk bd X1 zz.length secs (wpB first zz.length l i)] (fun w hM hO => (dSync_any bd X1 zz.length secs (wpB first zz.length l i) w hO (by have := wpB_le first zz.length l i; omega)).mono ?_)
  rintro e w' ⟨X241, rfl, hP⟩
  refine ⟨_, [cDisk bd X241 zz.length (applyW secs (wpB first zz.length l i)) []], _, rfl, hP, rfl, ?_⟩; clear hP hM hO
  refine lc (.bool false) ?_
  refine liNil (qThen (stFalse rfl (stSkip (qThen (stSeq (reg ?_))))))
  refine la ?_
  refine liNil (qThen (stRet ?_))
  refine stEnd [(.int .i64 0)] rfl ⟨rfl, trivial⟩ (fun w hM => ?_)
  obtain rfl : i = l.length := by omega
  exact ⟨_, rfl, hM⟩
theorem sClear_any (bs : Nat) (bd : Nat) (first : Nat) (Y : SX) (w : World) (hO : Own [cStore bs bd first Y] w) :
  Calls Tryz.prog 31 #[(vP bs 0)] w fun e w' => e = .returned (.int .i64 0) ∧ Back [cStore bs bd first Y] w [cStore bs bd first Y] w' := by
 refine stEnter (args := [(vP bs 0)]) (fps [cStore bs bd first Y]) Tryz.func31 rfl 16 rfl [(0, (vP bs 0))] ⟨rfl, trivial⟩ [cStore bs bd first Y] (hO) ?_
 refine stSeq ?_
 refine St.fact (fun w hM => (Mm.unpack (A := []) (B := []) hM).2) (fun sw => ?_)
 refine St.mem (cs' := [cAt bs 66 [(vP bd 0), (vI first), (vI Y.us.length), (.int .u64 ((Y.num : Nat) : Int)), (.map (some Y.bm)), (vL Y.Au Y.us (Y.cu)), (.slice none 0 0), (vI Y.fr), (.bool false)], cMap kB bvV Y.bm Y.kv, cOwn 4 1 Y.Au (Y.us.length) (Y.cu) (BB Y.us), cInts Y.L]) (fun w hM => (Mm.unpack (A := []) (B := []) hM).1) ?_
 refine reg ?_
 refine la ?_
 refine liNil (qThen (stSeq (stSeq (reg ?_))))
 refine lm ?_
 refine lm ?_
 refine lc (vP bs 0) ?_
 refine lc (vP bs 6) ?_
 refine lv (v := (.slice none 0 0)) (rLoad 0 rfl rfl (by kernel_rfl) rfl rfl) ?_
 refine li rfl ?_
 refine opK0 (fun w hM => (sWipe_nil bs w ).mono ?_)
 rintro e w' ⟨rfl, hP⟩
 refine ⟨_, _, rfl, hP, ?_⟩; clear hP hM
 refine la ?_
 refine liNil (qThen (stSeq (reg ?_)))
 refine lm ?_
 refine lc (.bool false) ?_
 refine liNil (qThen (stFalse rfl (stSkip (qThen (stSeq (reg ?_))))))
 refine lm ?_
 refine lc (vP bs 0) ?_
 refine lc (vP bs 6) ?_
 refine li rfl ?_
 refine opStore1 0 rfl rfl (by kernel_rfl) rfl rfl rfl (by kernel_rfl) rfl (by simp) ?_
 refine liNil (qThen (stSeq (reg ?_)))
 refine la ?_
 refine liNil (qThen (stRet ?_))
 refine stEnd [(.int .i64 0)] rfl ⟨rfl, trivial⟩ (fun w hM => ?_)
 exact ⟨rfl, Mm.pack (A := []) (B := []) hM sw⟩
end Go.Proofs.YtaiggifiefnjnaaGreatDoor
namespace Go.Proofs.YtaiggifiefnjnaaGreatDoor
open Go.RowKit
theorem wrap8 (x : Nat) : IntKind.u8.wrap (x : Int) = (((UInt8.ofNat x).toNat : Nat) : Int) := by
 rw [IntKind.wrap_u8, UInt8.toNat_ofNat']
 omega
theorem need_mul {i sz n : Nat} (hi : i < needN sz n) (hz : 33 ≤ sz) : i * (sz - 32) < n ∧ (i + 1) * (sz - 32) < n + sz ∧ (i + 1) * (sz - 32) = i * (sz - 32) + (sz - 32) := by
 unfold needN at hi
 obtain ⟨r, hr⟩ : ∃ r, r = sz - 32 := ⟨_, rfl⟩
 rw [← hr] at hi ⊢
 have h1 : (i + 1) * r ≤ n + r - 1 := by
  have := (Nat.le_div_iff_mul_le (by omega : 0 < r)).1 (show i + 1 ≤ _ from hi)
  exact this
 rw [Nat.add_mul, Nat.one_mul] at h1 ⊢
 omega
theorem cPackL_any (s : Nat) (size : Nat) (num : Nat) (idx : Nat) (st : Nat) (A : Option Addr) (c : Nat) (part : List UInt8) (w : World) (r0 : Rf [] w (Vars)) (r1 : Rf [] w (fun w => RowIn w A (B8 part))) (hs : s ≤ 1000000) (hp : part.length + 32 ≤ size) (hz : size ≤ 4096) (hn : num < 18446744073709551616) (hi : idx ≤ 1000000) (ht : st ≤ 1000000) :
  Calls Tryz.prog 53 #[(vI s), (vI size), (.agg #[(.int .u64 ((num : Nat) : Int)), (vI idx), (vI st)]), (vL A part c)] w fun e w' => ∃ (b : Nat) (k : Nat), e = .returned (vL (some ⟨b, 0, none⟩) (packB s size num idx st part) k) ∧ Back [] w [cBlk b 5 (B8 (packB s size num idx st part))] w' := by
 have h := packB_len (sector := s) (num := num) (idx := idx) (stream := st) hp
 simp only [vL, h]
 exact cPack_any s size num idx st A c part w r0 r1 hs hp hz hn hi ht
theorem sWrite_any (bs : Nat) (bd : Nat) (first : Nat) (u2 : Value) (u3 : Value) (u4 : Value) (u5 : Value) (u6 : Value) (u7 : Value) (u8 : Value) (X : DX) (sz : Nat) (secs : List Bs) (b : Bl) (A : Option Addr) (c : Nat) (A3 : Option Addr) (c3 : Nat) (w : World) (hO : Own [cDisk bd X sz secs []] w) (r0 : Rf [cDisk bd X sz secs []] w (Vars)) (r1 : Rf [cDisk bd X sz secs []] w (fun w => At w bs 66 [(vP bd 0), (vI first), u2, u3, u4, u5, u6, u7, u8])) (r2 : Rf [cDisk bd X sz secs []] w (fun w => RowIn w A (II b.secs))) (r3 : Rf [cDisk bd X sz secs []] w (fun w => RowIn w A3 (B8 b.data))) (hb : b.key.length ≤ 64 ∧ b.data.length ≤ 65536 ∧ b.num ≤ 1000000 ∧ b.secs.length ≤ 100000) (hs : ∀ s ∈ b.secs, first + s < secs.length) (hl : b.secs.length = needN sz b.len) (hsz : 64 ≤ sz ∧ sz ≤ 4096) (hf : secs.length ≤ 1000000) :
  Calls Tryz.prog 34 #[(vP bs 0), (vS b.key), (.agg #[(.int .u64 ((b.num : Nat) : Int)), (vI b.len), (vI b.data.length), (vS (sha b.data)), (vL A b.secs c)]), (vL A3 b.data c3)] w fun e w' => ∃ (X2 : DX), e = .returned (.int .i64 0) ∧ Back [cDisk bd X sz secs []] w [cDisk bd X2 sz (applyW secs (wrB first sz b b.secs.length)) []] w' := by
 have _u0 := r0
 have _u1 := r1
 have _u2 := r2
 have _u3 := r3
 have _u4 := hb
 have _u5 := hs
 have _u6 := hl
 have _u7 := hsz
 have _u8 := hf
 clear _u0 _u1 _u2 _u3 _u4 _u5 _u6 _u7 _u8
 refine stEnter (args := [(vP bs 0), (vS b.key), (.agg #[(.int .u64 ((b.num : Nat) : Int)), (vI b.len), (vI b.data.length), (vS (sha b.data)), (vL A b.secs c)]), (vL A3 b.data c3)]) (fps [cDisk bd X sz secs []]) Tryz.func34 rfl 94 rfl [(0, (vP bs 0)), (1, (vS b.key)), (2, (.agg #[(.int .u64 ((b.num : Nat) : Int)), (vI b.len), (vI b.data.length), (vS (sha b.data)), (vL A b.secs c)])), (3, (vL A3 b.data c3))] ⟨rfl, rfl, rfl, rfl, trivial⟩ [cDisk bd X sz secs []] (hO) ?_
 refine stSeq ?_
 obtain ⟨g1, g2, g3, g4⟩ := hb
 obtain ⟨z1, z2⟩ := hsz
 have hbl : b.len = 33 + b.key.length + b.data.length := rfl
 have hsl := b.stream_len
 refine reg (li rfl ?_)
 refine opBox [(.int .u64 ((b.num : Nat) : Int)), (vI b.len), (vI b.data.length), (vS (sha b.data)), (vL A b.secs c)] rfl rfl (by kernel_rfl) rfl rfl (fun b6 => ?_)
 refine la ?_
 refine liNil (qThen (stSeq (reg ?_)))
 refine lc (vP b6 1) ?_
 refine lv (v := (vI b.len)) (rLoad 1 rfl rfl (by kernel_rfl) rfl rfl) ?_
 refine li rfl ?_
 refine opMk0 el_u8 b.len (by omega) rfl rfl (by kernel_rfl) rfl rfl (fun b17 => ?_) (by omega)
 refine la ?_
 refine liNil (qThen (stSeq (reg ?_)))
 refine lm ?_
 refine lm ?_
 refine lv (v := (vI ((b.key).length))) (rLenS rfl rfl (by kernel_rfl)) ?_
 refine lv (v := (.int .u8 (((UInt8.ofNat b.key.length).toNat : Nat) : Int))) (rIntC _ (fun _ => by kernel_rfl) rfl rfl (wrap8 _)) ?_
 refine li rfl ?_
 refine opNew (v := fun b => .slice (some ⟨b, 0, none⟩) 1 1) 5 [(.int .u8 (((UInt8.ofNat b.key.length).toNat : Nat) : Int))] rfl (by kernel_rfl) (fun _ => by kernel_rfl) (fun b22 => ?_)
 refine li rfl ?_
 refine opAppend el_u8 2 ([(.int .u8 (((UInt8.ofNat b.key.length).toNat : Nat) : Int))]) rfl rfl (by kernel_rfl) rfl rfl rfl (rfl) (srcAt (i := 3) rfl (fun j v h => by rw [Nat.zero_add]; exact h)) (by simp [Value.oneCell']) (by omega) (([UInt8.ofNat b.key.length]).length) (by first | exact (List.length_append ..).symm | (simp; done) | (simp; omega)) (B8 ([UInt8.ofNat b.key.length])) (by simp [B8]) (fun A23 c23 => ?_)
 refine la ?_
 refine liNil (qThen (stSeq ?_))
 refine St.to [cDisk bd X sz secs [], cAt b6 70 [(.int .u64 ((b.num : Nat) : Int)), (vI b.len), (vI b.data.length), (vS (sha b.data)), (vL A b.secs c)], cB A23 ([UInt8.ofNat b.key.length]) c23, cAt b22 5 [(.int .u8 (((UInt8.ofNat b.key.length).toNat : Nat) : Int))]] (by kernel_rfl) ?_
 refine reg ?_
 refine lm ?_
 refine lc (vP b6 3) ?_
 refine lv (v := (vS (sha b.data))) (rLoad 1 rfl rfl (by kernel_rfl) rfl rfl) ?_
 refine li rfl ?_
 refine opAppendStr 2 rfl rfl (by kernel_rfl) (by kernel_rfl) (by kernel_rfl) (by kernel_rfl) rfl rfl rfl (by have := sha_len b.data; simp only [List.length_cons, List.length_nil] at *; omega) ((([UInt8.ofNat b.key.length]) ++ (sha b.data)).length) (by first | exact (List.length_append ..).symm | (simp; done) | (simp; omega)) (B8 (([UInt8.ofNat b.key.length]) ++ (sha b.data))) (by simp [B8]) (fun A27 c27 => ?_)
 refine la ?_
 refine liNil (qThen (stSeq (reg ?_)))
 refine lm ?_
 refine lm ?_
 refine li rfl ?_
 refine opAppendStr 2 rfl rfl (by kernel_rfl) (by kernel_rfl) (by kernel_rfl) (by kernel_rfl) rfl rfl rfl (by have := sha_len b.data; simp only [List.length_append, List.length_cons, List.length_nil] at *; omega) (((([UInt8.ofNat b.key.length]) ++ (sha b.data)) ++ b.key).length) (by first | exact (List.length_append ..).symm | (simp; done) | (simp; omega)) (B8 ((([UInt8.ofNat b.key.length]) ++ (sha b.data)) ++ b.key)) (by simp [B8]) (fun A30 c30 => ?_)
 refine la ?_
 refine liNil (qThen (stSeq (reg ?_)))
 refine lm ?_
 refine lm ?_
 refine li rfl ?_
 refine opAppend el_u8 2 (B8 b.data) rfl rfl (by kernel_rfl) rfl rfl rfl (by simp [B8]) (fun w hM => CellsAt.of_row (r3.now hM)) ((B8_one _)) (by have := sha_len b.data; simp only [List.length_append, List.length_cons, List.length_nil] at *; omega) (((([UInt8.ofNat b.key.length]) ++ (sha b.data)) ++ b.key ++ b.data).length) (by first | exact (List.length_append ..).symm | (simp; done) | (simp; omega)) (B8 ((([UInt8.ofNat b.key.length]) ++ (sha b.data)) ++ b.key ++ b.data)) (by simp [B8]) (fun A33 c33 => ?_)
 refine la ?_
 refine liNil (qThen (stSeq ?_))
 rw [show (([UInt8.ofNat b.key.length]) ++ (sha b.data)) ++ b.key ++ b.data = b.stream from by simp [Bl.stream]]
 refine reg ?_
 refine lm ?_
 refine li rfl ?_
 refine opK0 (fun w hM => (sRoom_any bs bd (vI first) u2 u3 u4 u5 u6 u7 u8 sz (vL X.Ad X.dv (X.cd)) (vL X.Ap X.pv (X.cp)) (.map (some X.lat)) (.int .i64 (-1)) (.bool false) w (r1.go0 hM) (hM.keep0 (j := 0) rfl (fun _ h => disk_at h)) (⟨by omega, by omega⟩)).mono ?_)
 rintro e w' ⟨rfl, hP⟩
 refine ⟨_, _, rfl, hP, ?_⟩; clear hP hM
 refine la ?_
 refine liNil (qThen (stSeq (stSeq ?_)))
 refine St.to [cDisk bd X sz secs [], cAt b6 70 [(.int .u64 ((b.num : Nat) : Int)), (vI b.len), (vI b.data.length), (vS (sha b.data)), (vL A b.secs c)], cB A33 b.stream c33, cAt b22 5 [(.int .u8 (((UInt8.ofNat b.key.length).toNat : Nat) : Int))]] (by kernel_rfl) ?_
 refine reg ?_
 refine lc (vP b6 4) ?_
 refine lv (v := (vL A b.secs c)) (rLoad 1 rfl rfl (by kernel_rfl) rfl rfl) ?_
 refine lc (vI b.secs.length) ?_
 refine lm ?_
 refine liNil (qThen (stBlock ?_))
 refine stLoop (ι := Nat × DX) (fun (i, X1) => i ≤ b.secs.length) (fun (i, X1) => b.secs.length - i) (fun (i, X1) => [(0, (vP bs 0)), (6, (vP b6 0)), (8, (.int .i64 0)), (9, (vL A33 b.stream c33)), (10, (vI (sz - 32))), (37, (vL A b.secs c)), (38, (vI b.secs.length)), (39, (vI i))]) (fun (i, X1) => [cDisk bd X1 sz secs (wrB first sz b i), cAt b6 70 [(.int .u64 ((b.num : Nat) : Int)), (vI b.len), (vI b.data.length), (vS (sha b.data)), (vL A b.secs c)], cB A33 b.stream c33, cAt b22 5 [(.int .u8 (((UInt8.ofNat b.key.length).toNat : Nat) : Int))]]) (0, X) (Nat.zero_le _) ⟨rfl, rfl, rfl, rfl, rfl, rfl, rfl, rfl, trivial⟩ (fun _ h => h) ?_
 rintro ⟨i, X1⟩ hok
 show St _ _ _ [(0, (vP bs 0)), (6, (vP b6 0)), (8, (.int .i64 0)), (9, (vL A33 b.stream c33)), (10, (vI (sz - 32))), (37, (vL A b.secs c)), (38, (vI b.secs.length)), (39, (vI i))] [cDisk bd X1 sz secs (wrB first sz b i), cAt b6 70 [(.int .u64 ((b.num : Nat) : Int)), (vI b.len), (vI b.data.length), (vS (sha b.data)), (vL A b.secs c)], cB A33 b.stream c33, cAt b22 5 [(.int .u8 (((UInt8.ofNat b.key.length).toNat : Nat) : Int))]] _
 refine stSeq (reg ?_)
 refine lc (.bool (decide (((i : Nat) : Int) < ((b.secs.length : Nat) : Int)))) ?_
 refine liNil (qThen (stSeq ?_))
 refine stCond rfl (fun hc40 => ?_) (fun hc40 => ?_)
 ·have hd40 := of_decide_eq_true hc40
  refine stSkip (qThen (stSeq (stBlock (stSeq (reg ?_)))))
  refine lm ?_
  obtain ⟨x0, hx0⟩ : ∃ ξ, (b.secs)[i]? = some ξ := ⟨_, List.getElem?_eq_getElem (by omega)⟩
  refine St.rowPtr (fun w hM => r2.now hM) (II_at hx0) (fun p42 q42 hA42 hc42 => ?_)
  refine lv (v := (vP p42 (q42 + i))) (rIndexRow (e := 3) rfl (by kernel_rfl) (by kernel_rfl) rfl rfl hA42 (by omega)) ?_
  refine lv (v := (vI x0)) (rLoadW rfl rfl (by kernel_rfl) hc42) ?_
  refine la ?_
  refine la ?_
  refine liNil (qThen (stSeq ?_))
  have hxs := hs _ (List.mem_of_getElem? hx0)
  obtain ⟨hm1, hm2, hm3⟩ := need_mul (i := i) (sz := sz) (n := b.len) (by omega) (by omega)
  obtain ⟨lo, hlo⟩ : ∃ lo, i * (sz - 32) = lo := ⟨_, rfl⟩
  obtain ⟨hi, hhi⟩ : ∃ hi, (i + 1) * (sz - 32) = hi := ⟨_, rfl⟩
  obtain ⟨mn, hmn⟩ : ∃ mn, min hi b.stream.length = mn := ⟨_, rfl⟩
  rw [hlo] at hm1 hm3
  rw [hhi] at hm2 hm3
  refine reg ?_
  refine lm ?_
  refine lm ?_
  refine lm ?_
  refine lv (v := (vI lo)) (rMul _ rfl rfl rfl (by rw [← hlo]; exact (Int.natCast_mul _ _).symm) (by omega) (by omega)) ?_
  refine lm ?_
  refine lv (v := (vI (i + 1))) (rAdd _ rfl rfl rfl (by omega) (by omega) (by omega)) ?_
  refine lm ?_
  refine lv (v := (vI hi)) (rMul _ rfl rfl rfl (by rw [← hhi]; exact (Int.natCast_mul _ _).symm) (by omega) (by omega)) ?_
  refine lm ?_
  refine lc (vI b.stream.length) ?_
  refine lv (v := (vI mn)) (rConv (rMinN rfl rfl rfl) (by rw [hmn])) ?_
  refine St.fact (fun w hM => own_cap (hM.at (i := 2) rfl)) (fun hcap55 => ?_)
  refine lv (v := (vL (if c33 = lo then A33 else A33.map (·.add (lo * 1))) ((b.stream.take mn).drop lo) (c33 - lo))) (rConv (rSliceLH (e := 5) (sz := 1) (k := lo) (m := mn) rfl (by kernel_rfl) (by kernel_rfl) rfl rfl rfl (by omega) (by have := hcap55; omega)) (by show Value.slice _ _ _ = Value.slice _ _ _; rw [List.length_drop, List.length_take, Nat.min_eq_left (by omega)])) ?_
  refine la ?_
  refine liNil (qThen (stSeq (reg ?_)))
  refine lc (vP b6 0) ?_
  refine lv (v := (.int .u64 ((b.num : Nat) : Int))) (rLoad 1 rfl rfl (by kernel_rfl) rfl rfl) ?_
  refine lm ?_
  refine lc (vP b6 1) ?_
  refine lv (v := (vI b.len)) (rLoad 1 rfl rfl (by kernel_rfl) rfl rfl) ?_
  refine lc (.agg #[(.int .u64 ((b.num : Nat) : Int)), (vI i), (vI b.len)]) ?_
  refine li rfl ?_
  refine opAlloc [(.int .u64 0), (.int .i64 0), (.int .i64 0)] rfl rfl (by kernel_rfl) (by kernel_rfl) (fun b14 => ?_)
  refine li rfl ?_
  refine opStoreN 4 [(.int .u64 ((b.num : Nat) : Int)), (vI i), (vI b.len)] (vs := [(.int .u64 ((b.num : Nat) : Int)), (vI i), (vI b.len)]) rfl rfl (by kernel_rfl) rfl rfl rfl (by kernel_rfl) rfl (by simp) (by simp [Value.oneCell']) rfl ?_
  refine liNil (qThen (stSeq ?_))
  refine anyBegin [cDisk bd X1 sz secs (wrB first sz b i), cAt b6 70 [(.int .u64 ((b.num : Nat) : Int)), (vI b.len), (vI b.data.length), (vS (sha b.data)), (vL A b.secs c)], cB A33 b.stream c33, cAt b22 5 [(.int .u8 (((UInt8.ofNat b.key.length).toNat : Nat) : Int))], cAt b14 103 [(.int .u64 ((b.num : Nat) : Int)), (vI i), (vI b.len)]] 19 (by kernel_rfl) (fun _ h => h) ?_
  refine am 0 ?_
  refine ac 1 (vP bs 0) ?_
  refine ac 2 (vP bs 0) ?_
  refine av 3 (vP bd 0) rfl (rLoadW rfl rfl (by kernel_rfl) (fun w hM => At.cell (r1.now hM) 0)) ?_
  refine am 4 ?_
  refine ac 5 (vP bs 0) ?_
  refine ac 6 (vP bs 1) ?_
  refine av 7 (vI first) rfl (rLoadW rfl rfl (by kernel_rfl) (fun w hM => At.cell (r1.now hM) 1)) ?_
  refine am 8 ?_
  refine av 9 (vI (first + x0)) rfl (rAdd _ rfl rfl rfl (by omega) (by omega) (by omega)) ?_
  refine am 10 ?_
  refine am 11 ?_
  refine ac 12 (vP bs 0) ?_
  refine ac 13 (vP bs 0) ?_
  refine av 14 (vP bd 0) rfl (rLoadW rfl rfl (by kernel_rfl) (fun w hM => At.cell (r1.now hM) 0)) ?_
  refine av 16 (.agg #[(.int .u64 ((b.num : Nat) : Int)), (vI i), (vI b.len)]) rfl (rLoadA [(.int .u64 ((b.num : Nat) : Int)), (vI i), (vI b.len)] rfl rfl (by kernel_rfl) (by kernel_rfl) (segAt (i := 4) rfl (by intro j v hj; first | (rw [Nat.zero_add]; exact hj) | (match j, hj with | 0, h => exact h | 1, h => exact h | 2, h => exact h)))) ?_
  refine am 17 ?_
  refine a1 15 ?_
  refine opK0 (fun w hM => (dSize_any bd sz (vL X1.Ad X1.dv (X1.cd)) (vL X1.Ap X1.pv (X1.cp)) (.map (some X1.lat)) (.int .i64 (-1)) (.bool false) w (hM.keep0 (j := 0) rfl (fun _ h => disk_at h))).mono ?_)
  rintro e w' ⟨rfl, hP⟩
  refine ⟨_, _, rfl, hP, ?_⟩; clear hP hM
  refine St.to [cDisk bd X1 sz secs (wrB first sz b i), cAt b6 70 [(.int .u64 ((b.num : Nat) : Int)), (vI b.len), (vI b.data.length), (vS (sha b.data)), (vL A b.secs c)], cB A33 b.stream c33, cAt b22 5 [(.int .u8 (((UInt8.ofNat b.key.length).toNat : Nat) : Int))], cAt b14 103 [(.int .u64 ((b.num : Nat) : Int)), (vI i), (vI b.len)]] (by kernel_rfl) ?_
  refine anyNext [cDisk bd X1 sz secs (wrB first sz b i), cAt b6 70 [(.int .u64 ((b.num : Nat) : Int)), (vI b.len), (vI b.data.length), (vS (sha b.data)), (vL A b.secs c)], cB A33 b.stream c33, cAt b22 5 [(.int .u8 (((UInt8.ofNat b.key.length).toNat : Nat) : Int))], cAt b14 103 [(.int .u64 ((b.num : Nat) : Int)), (vI i), (vI b.len)]] (fun _ h => h) (fun _ h => h) ?_
  refine a1 18 ?_
  refine opK0 (fun w hM => (cPackL_any x0 sz b.num i b.len (if c33 = lo then A33 else A33.map (·.add (lo * 1))) (c33 - lo) ((b.stream.take mn).drop lo) w (r0.go0 hM) (hM.keep0 (j := 2) rfl (fun _ h => rowMid lo mn (RowIn.of_own h) (hcap55))) (by omega) (by rw [List.length_drop, List.length_take]; omega) (by omega) (by omega) (by omega) (by omega)).mono ?_)
  rintro e w' ⟨b80, k80, rfl, hP⟩
  refine ⟨_, _, rfl, hP, ?_⟩; clear hP hM
  refine anyNext [cDisk bd X1 sz secs (wrB first sz b i), cAt b6 70 [(.int .u64 ((b.num : Nat) : Int)), (vI b.len), (vI b.data.length), (vS (sha b.data)), (vL A b.secs c)], cB A33 b.stream c33, cAt b22 5 [(.int .u8 (((UInt8.ofNat b.key.length).toNat : Nat) : Int))], cAt b14 103 [(.int .u64 ((b.num : Nat) : Int)), (vI i), (vI b.len)], cBlk b80 5 (B8 (packB x0 sz b.num i b.len ((b.stream.take mn).drop lo)))] (fun _ h => h.pick [0, 1, 2, 3, 4] rfl rfl) (fun _ h => h) ?_
  refine a1 19 ?_
  refine opK [0] [cDisk bd X1 sz secs (wrB first sz b i)] (fun w hM hO => (dWrite_any bd X1 sz secs (wrB first sz b i) (first + x0) (some ⟨b80, 0, none⟩) k80 (packB x0 sz b.num i b.len ((b.stream.take mn).drop lo)) w hO (hM.keepS [0] (j := 5) rfl (fun _ h => cBlk_row h)) (by omega) (packB_len (by rw [List.length_drop, List.length_take]; omega)) (by rw [wrB_len]; omega)).mono ?_)
  rintro e w' ⟨X281, rfl, hP⟩
  refine ⟨_, [cDisk bd X281 sz secs ((wrB first sz b i) ++ [((first + x0), (packB x0 sz b.num i b.len ((b.stream.take mn).drop lo)))])], _, rfl, hP, rfl, ?_⟩; clear hP hM hO
  refine anyPhase [cDisk bd X281 sz secs ((wrB first sz b i) ++ [((first + x0), (packB x0 sz b.num i b.len ((b.stream.take mn).drop lo)))]), cAt b6 70 [(.int .u64 ((b.num : Nat) : Int)), (vI b.len), (vI b.data.length), (vS (sha b.data)), (vL A b.secs c)], cB A33 b.stream c33, cAt b22 5 [(.int .u8 (((UInt8.ofNat b.key.length).toNat : Nat) : Int))], cAt b14 103 [(.int .u64 ((b.num : Nat) : Int)), (vI i), (vI b.len)], cBlk b80 5 (B8 (packB x0 sz b.num i b.len ((b.stream.take mn).drop lo)))] 21 rfl (fun _ h => h) ?_
  refine ac 20 (.bool false) ?_
  refine anyDone (by kernel_rfl) ?_
  refine qThen (stFalse rfl (stSkip (qBlock (qThen (reg ?_)))))
  refine lv (v := (vI (i + 1))) (rAdd _ rfl rfl rfl (by omega) (by omega) (by omega)) ?_
  refine lm ?_
  refine liNil (qThen ?_)
  rw [show (wrB first sz b i) ++ [((first + x0), (packB x0 sz b.num i b.len ((b.stream.take mn).drop lo)))] = wrB first sz b (i + 1) from by rw [wrB_succ hx0]; unfold Bl.sec Bl.part; rw [hlo, hhi, hmn]]
  exact stAgain (i + 1, X281) (by show _ ≤ _; omega) (by show _ - _ < _ - _; omega) ⟨rfl, rfl, rfl, rfl, rfl, rfl, rfl, rfl, trivial⟩ (fun w hM => (hM.pick [0, 1, 2, 3] rfl rfl))
 ·have hd40 := of_decide_eq_false hc40
  refine stExit (qThenX (qThenX (qBlockX (qThen (stSeq (stSeq (reg ?_)))))))
  refine lm ?_
  refine lc (vP bs 0) ?_
  refine lc (vP bs 0) ?_
  refine lv (v := (vP bd 0)) (rLoadW rfl rfl (by kernel_rfl) (fun w hM => At.cell (r1.now hM) 0)) ?_
  refine li rfl ?_
  refine opK [0] [cDisk bd X1 sz secs (wrB first sz b i)] (fun w hM hO => (dSync_any bd X1 sz secs (wrB first sz b i) w hO (by rw [wrB_len]; omega)).mono ?_)
  rintro e w' ⟨X290, rfl, hP⟩
  refine ⟨_, [cDisk bd X290 sz (applyW secs (wrB first sz b i)) []], _, rfl, hP, rfl, ?_⟩; clear hP hM hO
  refine lc (.bool false) ?_
  refine liNil (qThen (stFalse rfl (stSkip (qThen (stSeq (reg ?_))))))
  refine la ?_
  refine liNil (qThen (stRet ?_))
  refine stEnd [(.int .i64 0)] rfl ⟨rfl, trivial⟩ (fun w hM => ?_)
  obtain rfl : i = b.secs.length := by omega
  exact ⟨_, rfl, hM.pick [0] rfl rfl⟩
end Go.Proofs.YtaiggifiefnjnaaGreatDoor
namespace Go.Proofs.YtaiggifiefnjnaaGreatDoor
open Go.RowKit
theorem need_pos {sz n : Nat} (h : 33 ≤ sz) (hn : 1 ≤ n) : 1 ≤ needN sz n := (Nat.le_div_iff_mul_le (by omega)).2 (by omega)
theorem freeL_lt {us : List Bool} {s : Nat} (h : s ∈ freeL us) : s < us.length := List.mem_range.1 (List.mem_filter.1 h).1
theorem sHas_any (bs : Nat) (bd : Nat) (u1 : Value) (u2 : Value) (u3 : Value) (bm : Nat) (u5 : Value) (u6 : Value) (u7 : Value) (u8 : Value) (kv : List (Bs × BV)) (key : List UInt8) (w : World) (r0 : Rf [] w (fun w => At w bs 66 [(vP bd 0), u1, u2, u3, (.map (some bm)), u5, u6, u7, u8])) (r1 : Rf [] w (fun w => MapAt kB bvV w bm kv)) (hk : key.length ≤ 1000000) :
  Calls Tryz.prog 16 #[(vP bs 0), (vS key)] w fun e w' => e = .returned (.bool (kvGet kv key).isSome) ∧ Back [] w [] w' := by
 have _u0 := r0
 have _u1 := r1
 have _u2 := hk
 clear _u0 _u1 _u2
 refine stEnter (args := [(vP bs 0), (vS key)]) (fps []) Tryz.func16 rfl 17 rfl [(0, (vP bs 0)), (1, (vS key))] ⟨rfl, rfl, trivial⟩ [] (Mm.start w []) ?_
 refine stSeq (reg ?_)
 refine la ?_
 refine liNil (qThen (stSeq ?_))
 cases e1 : kvGet kv key with
 | none =>
   refine reg ?_
   refine lm ?_
   refine lc (vP bs 0) ?_
   refine lc (vP bs 4) ?_
   refine lv (v := (.map (some bm))) (rLoadW rfl rfl (by kernel_rfl) (fun w hM => At.cell (r0.now hM) 4)) ?_
   refine lm ?_
   refine lv (v := (.tuple #[(.agg #[(.int .u64 ((0 : Nat) : Int)), (.int .i64 0), (.int .i64 0), (.string ⟨#[]⟩), (.slice none 0 0)]), (.bool false)])) (rConv (rMapGetOkW (D := kB) (val := bvV) (a := key) rfl rfl rfl Tryz.underlying63 Tryz.zeroValue70 (fun w hM => r1.now hM) (by show _ ≤ 1099511627776; omega)) (by rw [e1]; rfl)) ?_
   refine lm ?_
   refine lc (.agg #[(.int .u64 ((0 : Nat) : Int)), (.int .i64 0), (.int .i64 0), (.string ⟨#[]⟩), (.slice none 0 0)]) ?_
   refine lc (.bool false) ?_
   refine li rfl ?_
   refine opAlloc [(.int .u64 0), (.int .i64 0), (.int .i64 0), (.string ⟨#[]⟩), (.slice none 0 0)] rfl rfl (by kernel_rfl) (by kernel_rfl) (fun b5 => ?_)
   refine li rfl ?_
   refine opStoreN 0 [(.int .u64 ((0 : Nat) : Int)), (.int .i64 0), (.int .i64 0), (.string ⟨#[]⟩), (.slice none 0 0)] (vs := [(.int .u64 ((0 : Nat) : Int)), (.int .i64 0), (.int .i64 0), (.string ⟨#[]⟩), (.slice none 0 0)]) rfl rfl (by kernel_rfl) rfl rfl rfl (by kernel_rfl) rfl (by simp) (by simp [Value.oneCell']) rfl ?_
   refine la ?_
   refine liNil (qThen (stSeq (reg ?_)))
   refine lm ?_
   refine la ?_
   refine liNil (qThen (stRet ?_))
   refine stEnd [(.bool false)] rfl ⟨rfl, trivial⟩ (fun w hM => ?_)
   exact ⟨rfl, (hM.pick [] rfl rfl)⟩
 | some v =>
   refine reg ?_
   refine lm ?_
   refine lc (vP bs 0) ?_
   refine lc (vP bs 4) ?_
   refine lv (v := (.map (some bm))) (rLoadW rfl rfl (by kernel_rfl) (fun w hM => At.cell (r0.now hM) 4)) ?_
   refine lm ?_
   refine lv (v := (.tuple #[(.agg #[(.int .u64 ((v.b.num : Nat) : Int)), (vI v.b.len), (vI v.b.data.length), (vS (sha v.b.data)), (vL v.A v.b.secs (v.c))]), (.bool true)])) (rConv (rMapGetOkW (D := kB) (val := bvV) (a := key) rfl rfl rfl Tryz.underlying63 Tryz.zeroValue70 (fun w hM => r1.now hM) (by show _ ≤ 1099511627776; omega)) (by rw [e1]; rfl)) ?_
   refine lm ?_
   refine lc (.agg #[(.int .u64 ((v.b.num : Nat) : Int)), (vI v.b.len), (vI v.b.data.length), (vS (sha v.b.data)), (vL v.A v.b.secs (v.c))]) ?_
   refine lc (.bool true) ?_
   refine li rfl ?_
   refine opAlloc [(.int .u64 0), (.int .i64 0), (.int .i64 0), (.string ⟨#[]⟩), (.slice none 0 0)] rfl rfl (by kernel_rfl) (by kernel_rfl) (fun b5 => ?_)
   refine li rfl ?_
   refine opStoreN 0 [(.int .u64 ((v.b.num : Nat) : Int)), (vI v.b.len), (vI v.b.data.length), (vS (sha v.b.data)), (vL v.A v.b.secs (v.c))] (vs := [(.int .u64 ((v.b.num : Nat) : Int)), (vI v.b.len), (vI v.b.data.length), (vS (sha v.b.data)), (vL v.A v.b.secs (v.c))]) rfl rfl (by kernel_rfl) rfl rfl rfl (by kernel_rfl) rfl (by simp) (by simp [Value.oneCell']) rfl ?_
   refine la ?_
   refine liNil (qThen (stSeq ?_))
   refine St.to [cAt b5 70 [(.int .u64 ((v.b.num : Nat) : Int)), (vI v.b.len), (vI v.b.data.length), (vS (sha v.b.data)), (vL v.A v.b.secs (v.c))]] (by kernel_rfl) ?_
   refine reg ?_
   refine lm ?_
   refine la ?_
   refine liNil (qThen (stRet ?_))
   refine stEnd [(.bool true)] rfl ⟨rfl, trivial⟩ (fun w hM => ?_)
   exact ⟨rfl, (hM.pick [] rfl rfl)⟩
theorem sPut_bad (bs : Nat) (bd : Nat) (first : Nat) (Y : SX) (X : DX) (sz : Nat) (secs : List Bs) (key : List UInt8) (data : List UInt8) (A3 : Option Addr) (c3 : Nat) (w : World) (hO : Own [cDisk bd X sz secs [], cStore bs bd first Y] w) (hE : putErr sz Y key data ≠ 0) (hsz : 64 ≤ sz ∧ sz ≤ 4096) (hkl : key.length ≤ 1000000 ∧ data.length ≤ 9223372036854775807) :
  Calls Tryz.prog 14 #[(vP bs 0), (vS key), (vL A3 data c3)] w fun e w' => e = .returned (vI (putErr sz Y key data)) ∧ Back [cDisk bd X sz secs [], cStore bs bd first Y] w [cDisk bd X sz secs [], cStore bs bd first Y] w' := by
 have _u0 := hE
 have _u1 := hsz
 have _u2 := hkl
 clear _u0 _u1 _u2
 refine stEnter (args := [(vP bs 0), (vS key), (vL A3 data c3)]) (fps [cDisk bd X sz secs [], cStore bs bd first Y]) Tryz.func14 rfl 82 rfl [(0, (vP bs 0)), (1, (vS key)), (2, (vL A3 data c3))] ⟨rfl, rfl, rfl, trivial⟩ [cDisk bd X sz secs [], cStore bs bd first Y] (hO) ?_
 refine stSeq ?_
 obtain ⟨z1, z2⟩ := hsz
 obtain ⟨k1, k2⟩ := hkl
 refine reg ?_
 refine la ?_
 refine liNil (qThen (stSeq (stSeq (reg ?_))))
 refine lm ?_
 refine li rfl ?_
 refine opK0 (fun w hM => (sStop_no bs bd (vI first) (vI Y.us.length) (.int .u64 ((Y.num : Nat) : Int)) (.map (some Y.bm)) (vL Y.Au Y.us (Y.cu)) (.slice none 0 0) (vI Y.fr) (vI sz) (vL X.Ad X.dv (X.cd)) (vL X.Ap X.pv (X.cp)) (.map (some X.lat)) (.int .i64 (-1)) w (hM.keep0 (j := 1) rfl (fun _ h => store_at h)) (hM.keep0 (j := 0) rfl (fun _ h => disk_at h))).mono ?_)
 rintro e w' ⟨rfl, hP⟩
 refine ⟨_, _, rfl, hP, ?_⟩; clear hP hM
 refine liNil (qThen (stFalse rfl (stSkip (qThen (stSeq (stSeq (reg ?_)))))))
 refine lm ?_
 refine lv (v := (vI ((key).length))) (rLenS rfl rfl (by kernel_rfl)) ?_
 refine lc (.bool (decide ((((key).length : Nat) : Int) < 1))) ?_
 refine lm ?_
 refine St.dec 19 rfl (fun hc19 => ?_) (fun hc19 => ?_)
 ·have hd19 := of_decide_eq_true hc19
  refine lnT ?_
  refine lnT ?_
  refine lnT ?_
  refine lc (.bool true) ?_
  refine liNil (qThen (stTrue rfl (stSeq (reg ?_))))
  refine la ?_
  refine liNil (qThen (stRet (qThenR ?_)))
  refine stEnd [(.int .i64 1)] rfl ⟨rfl, trivial⟩ (fun w hM => ?_)
  rw [show putErr sz Y key data = 1 by unfold putErr; rw [if_pos (by omega)]]
  exact ⟨rfl, hM⟩
 ·have hd19 := of_decide_eq_false hc19
  refine lgm ?_
  refine lgv (v := (vI ((key).length))) (rLenS rfl rfl (by kernel_rfl)) ?_
  refine lgc (.bool (decide ((((key).length : Nat) : Int) > 64))) ?_
  refine lc (.bool (decide ((((key).length : Nat) : Int) > 64))) ?_
  refine liNil (qThen ?_)
  refine stCond rfl (fun hc23 => ?_) (fun hc23 => ?_)
  ·have hd23 := of_decide_eq_true hc23
   refine stSeq (reg ?_)
   refine la ?_
   refine liNil (qThen (stRet (qThenR ?_)))
   refine stEnd [(.int .i64 1)] rfl ⟨rfl, trivial⟩ (fun w hM => ?_)
   rw [show putErr sz Y key data = 1 by unfold putErr; rw [if_pos (by omega)]]
   exact ⟨rfl, hM⟩
  ·have hd23 := of_decide_eq_false hc23
   refine stSkip (qThen (stSeq (stSeq (reg ?_))))
   refine lm ?_
   refine lc (vI data.length) ?_
   refine lc (.bool (decide (((data.length : Nat) : Int) > 65536))) ?_
   refine liNil (qThen ?_)
   refine stCond rfl (fun hc26 => ?_) (fun hc26 => ?_)
   ·have hd26 := of_decide_eq_true hc26
    refine stSeq (reg ?_)
    refine la ?_
    refine liNil (qThen (stRet (qThenR ?_)))
    refine stEnd [(.int .i64 2)] rfl ⟨rfl, trivial⟩ (fun w hM => ?_)
    rw [show putErr sz Y key data = 2 by unfold putErr; rw [if_neg (by omega), if_pos (by omega)]]
    exact ⟨rfl, hM⟩
   ·have hd26 := of_decide_eq_false hc26
    refine stSkip (qThen (stSeq (stSeq ?_)))
    refine St.to [cDisk bd X sz secs [], cStore bs bd first Y] (by kernel_rfl) ?_
    cases e1 : kvGet Y.kv key with
    | none =>
      refine reg ?_
      refine lm ?_
      refine lc (vP bs 0) ?_
      refine lc (vP bs 4) ?_
      refine lv (v := (.map (some Y.bm))) (rLoadW rfl rfl (by kernel_rfl) (fun w hM => At.cell (store_at (hM.at (i := 1) rfl)) 4)) ?_
      refine lm ?_
      refine lv (v := (.tuple #[(.agg #[(.int .u64 ((0 : Nat) : Int)), (.int .i64 0), (.int .i64 0), (.string ⟨#[]⟩), (.slice none 0 0)]), (.bool false)])) (rConv (rMapGetOkW (D := kB) (val := bvV) (a := key) rfl rfl rfl Tryz.underlying63 Tryz.zeroValue70 (fun w hM => store_map (hM.at (i := 1) rfl)) (by show _ ≤ 1099511627776; omega)) (by rw [e1]; rfl)) ?_
      refine lm ?_
      refine lc (.agg #[(.int .u64 ((0 : Nat) : Int)), (.int .i64 0), (.int .i64 0), (.string ⟨#[]⟩), (.slice none 0 0)]) ?_
      refine lc (.bool false) ?_
      refine li rfl ?_
      refine opAlloc [(.int .u64 0), (.int .i64 0), (.int .i64 0), (.string ⟨#[]⟩), (.slice none 0 0)] rfl rfl (by kernel_rfl) (by kernel_rfl) (fun b7 => ?_)
      refine li rfl ?_
      refine opStoreN 2 [(.int .u64 ((0 : Nat) : Int)), (.int .i64 0), (.int .i64 0), (.string ⟨#[]⟩), (.slice none 0 0)] (vs := [(.int .u64 ((0 : Nat) : Int)), (.int .i64 0), (.int .i64 0), (.string ⟨#[]⟩), (.slice none 0 0)]) rfl rfl (by kernel_rfl) rfl rfl rfl (by kernel_rfl) rfl (by simp) (by simp [Value.oneCell']) rfl ?_
      refine la ?_
      refine liNil (qThen (stSeq (reg ?_)))
      refine lm ?_
      refine liNil (qThen (stFalse rfl (stSkip (qThen (stSeq (reg ?_))))))
      refine lm ?_
      refine lv (v := (vI ((key).length))) (rLenS rfl rfl (by kernel_rfl)) ?_
      refine lv (v := (vI (33 + (key).length))) (rAdd _ rfl rfl rfl (by omega) (by omega) (by omega)) ?_
      refine lm ?_
      refine lc (vI data.length) ?_
      refine lv (v := (vI (33 + (key).length + data.length))) (rAdd _ rfl rfl rfl (by omega) (by omega) (by omega)) ?_
      refine la ?_
      refine liNil (qThen (stSeq (reg ?_)))
      refine lm ?_
      refine lm ?_
      refine li rfl ?_
      refine opK0 (fun w hM => (sNeed_any bs bd (vI first) (vI Y.us.length) (.int .u64 ((Y.num : Nat) : Int)) (.map (some Y.bm)) (vL Y.Au Y.us (Y.cu)) (.slice none 0 0) (vI Y.fr) (.bool false) sz (vL X.Ad X.dv (X.cd)) (vL X.Ap X.pv (X.cp)) (.map (some X.lat)) (.int .i64 (-1)) (.bool false) (33 + (key).length + data.length) w (hM.keep0 (j := 1) rfl (fun _ h => store_at h)) (hM.keep0 (j := 0) rfl (fun _ h => disk_at h)) (⟨by omega, by omega⟩) (by omega)).mono ?_)
      rintro e w' ⟨rfl, hP⟩
      refine ⟨_, _, rfl, hP, ?_⟩; clear hP hM
      refine la ?_
      refine liNil (qThen (stSeq (stSeq (reg ?_))))
      refine lm ?_
      refine lm ?_
      refine lc (vP bs 0) ?_
      refine lc (vP bs 7) ?_
      refine lv (v := (vI Y.fr)) (rLoadW rfl rfl (by kernel_rfl) (fun w hM => At.cell (store_at (hM.at (i := 1) rfl)) 7)) ?_
      refine lc (.bool (decide ((((needN sz (33 + (key).length + data.length)) : Nat) : Int) > ((Y.fr : Nat) : Int)))) ?_
      refine liNil (qThen ?_)
      refine stCond rfl (fun hc51 => ?_) (fun hc51 => ?_)
      ·have hd51 := of_decide_eq_true hc51
       refine stSeq (reg ?_)
       refine la ?_
       refine liNil (qThen (stRet (qThenR ?_)))
       refine stEnd [(.int .i64 7)] rfl ⟨rfl, trivial⟩ (fun w hM => ?_)
       rw [show putErr sz Y key data = 7 by unfold putErr; rw [if_neg (by omega), if_neg (by omega), if_neg (by rw [e1]; simp), if_pos (by omega)]]
       exact ⟨rfl, hM.pick [0, 1] rfl rfl⟩
      ·have hd51 := of_decide_eq_false hc51
       exact (hE (by unfold putErr; rw [if_neg (by omega), if_neg (by omega), if_neg (by rw [e1]; simp), if_neg (by omega)])).elim
    | some v =>
      refine reg ?_
      refine lm ?_
      refine lc (vP bs 0) ?_
      refine lc (vP bs 4) ?_
      refine lv (v := (.map (some Y.bm))) (rLoadW rfl rfl (by kernel_rfl) (fun w hM => At.cell (store_at (hM.at (i := 1) rfl)) 4)) ?_
      refine lm ?_
      refine lv (v := (.tuple #[(.agg #[(.int .u64 ((v.b.num : Nat) : Int)), (vI v.b.len), (vI v.b.data.length), (vS (sha v.b.data)), (vL v.A v.b.secs (v.c))]), (.bool true)])) (rConv (rMapGetOkW (D := kB) (val := bvV) (a := key) rfl rfl rfl Tryz.underlying63 Tryz.zeroValue70 (fun w hM => store_map (hM.at (i := 1) rfl)) (by show _ ≤ 1099511627776; omega)) (by rw [e1]; rfl)) ?_
      refine lm ?_
      refine lc (.agg #[(.int .u64 ((v.b.num : Nat) : Int)), (vI v.b.len), (vI v.b.data.length), (vS (sha v.b.data)), (vL v.A v.b.secs (v.c))]) ?_
      refine lc (.bool true) ?_
      refine li rfl ?_
      refine opAlloc [(.int .u64 0), (.int .i64 0), (.int .i64 0), (.string ⟨#[]⟩), (.slice none 0 0)] rfl rfl (by kernel_rfl) (by kernel_rfl) (fun b7 => ?_)
      refine li rfl ?_
      refine opStoreN 2 [(.int .u64 ((v.b.num : Nat) : Int)), (vI v.b.len), (vI v.b.data.length), (vS (sha v.b.data)), (vL v.A v.b.secs (v.c))] (vs := [(.int .u64 ((v.b.num : Nat) : Int)), (vI v.b.len), (vI v.b.data.length), (vS (sha v.b.data)), (vL v.A v.b.secs (v.c))]) rfl rfl (by kernel_rfl) rfl rfl rfl (by kernel_rfl) rfl (by simp) (by simp [Value.oneCell']) rfl ?_
      refine la ?_
      refine liNil (qThen (stSeq (reg ?_)))
      refine lm ?_
      refine liNil (qThen (stTrue rfl (stSeq (reg ?_))))
      refine la ?_
      refine liNil (qThen (stRet (qThenR ?_)))
      refine stEnd [(.int .i64 5)] rfl ⟨rfl, trivial⟩ (fun w hM => ?_)
      rw [show putErr sz Y key data = 5 by unfold putErr; rw [if_neg (by omega), if_neg (by omega), if_pos (by rw [e1]; rfl)]]
      exact ⟨rfl, hM.pick [0, 1] rfl rfl⟩
theorem sPut_ok (bs : Nat) (bd : Nat) (first : Nat) (Y : SX) (X : DX) (sz : Nat) (secs : List Bs) (key : List UInt8) (data : List UInt8) (A3 : Option Addr) (c3 : Nat) (w : World) (hO : Own [cDisk bd X sz secs [], cStore bs bd first Y] w) (r0 : Rf [cDisk bd X sz secs [], cStore bs bd first Y] w (Vars)) (r1 : Rf [cDisk bd X sz secs [], cStore bs bd first Y] w (fun w => RowIn w A3 (B8 data))) (hE : putErr sz Y key data = 0) (hsz : 64 ≤ sz ∧ sz ≤ 4096) (hc3 : data.length ≤ c3) (hfl : (freeL Y.us).length = Y.fr) (hreg : first + Y.us.length ≤ secs.length) (hsec : secs.length ≤ 100000 ∧ Y.num ≤ 100000) :
  Calls Tryz.prog 14 #[(vP bs 0), (vS key), (vL A3 data c3)] w fun e w' => ∃ (X2 : DX) (A : Option Addr) (c : Nat), e = .returned (.int .i64 0) ∧ Back [cDisk bd X sz secs [], cStore bs bd first Y] w [cDisk bd X2 sz (applyW secs (wrB first sz (newB sz Y key data) (newB sz Y key data).secs.length)) [], cStore bs bd first (addY Y ⟨(newB sz Y key data), A, c⟩)] w' := by
 have _u0 := r0
 have _u1 := r1
 have _u2 := hE
 have _u3 := hsz
 have _u4 := hc3
 have _u5 := hfl
 have _u6 := hreg
 have _u7 := hsec
 clear _u0 _u1 _u2 _u3 _u4 _u5 _u6 _u7
 refine stEnter (args := [(vP bs 0), (vS key), (vL A3 data c3)]) (fps [cDisk bd X sz secs [], cStore bs bd first Y]) Tryz.func14 rfl 82 rfl [(0, (vP bs 0)), (1, (vS key)), (2, (vL A3 data c3))] ⟨rfl, rfl, rfl, trivial⟩ [cDisk bd X sz secs [], cStore bs bd first Y] (hO) ?_
 refine stSeq ?_
 obtain ⟨z1, z2⟩ := hsz
 obtain ⟨⟨k1, k2, k3⟩, e1, k4⟩ := putErr_ok hE
 obtain ⟨s1, s2⟩ := hsec
 refine reg ?_
 refine la ?_
 refine liNil (qThen (stSeq (stSeq (reg ?_))))
 refine lm ?_
 refine li rfl ?_
 refine opK0 (fun w hM => (sStop_no bs bd (vI first) (vI Y.us.length) (.int .u64 ((Y.num : Nat) : Int)) (.map (some Y.bm)) (vL Y.Au Y.us (Y.cu)) (.slice none 0 0) (vI Y.fr) (vI sz) (vL X.Ad X.dv (X.cd)) (vL X.Ap X.pv (X.cp)) (.map (some X.lat)) (.int .i64 (-1)) w (hM.keep0 (j := 1) rfl (fun _ h => store_at h)) (hM.keep0 (j := 0) rfl (fun _ h => disk_at h))).mono ?_)
 rintro e w' ⟨rfl, hP⟩
 refine ⟨_, _, rfl, hP, ?_⟩; clear hP hM
 refine liNil (qThen (stFalse rfl (stSkip (qThen (stSeq (stSeq (reg ?_)))))))
 refine lm ?_
 refine lv (v := (vI ((key).length))) (rLenS rfl rfl (by kernel_rfl)) ?_
 refine lc (.bool (decide ((((key).length : Nat) : Int) < 1))) ?_
 refine lm ?_
 refine St.known 19 (b' := false) rfl (decide_eq_false (by omega)) ?_
 refine lgm ?_
 refine lgv (v := (vI ((key).length))) (rLenS rfl rfl (by kernel_rfl)) ?_
 refine lgc (.bool (decide ((((key).length : Nat) : Int) > 64))) ?_
 refine lc (.bool (decide ((((key).length : Nat) : Int) > 64))) ?_
 refine liNil (qThen ?_)
 refine stFalseK rfl (decide_eq_false (by omega)) ?_
 refine stSkip (qThen (stSeq (stSeq (reg ?_))))
 refine lm ?_
 refine lc (vI data.length) ?_
 refine lc (.bool (decide (((data.length : Nat) : Int) > 65536))) ?_
 refine liNil (qThen ?_)
 refine stFalseK rfl (decide_eq_false (by omega)) ?_
 refine stSkip (qThen (stSeq (stSeq (reg ?_))))
 refine lm ?_
 refine lc (vP bs 0) ?_
 refine lc (vP bs 4) ?_
 refine lv (v := (.map (some Y.bm))) (rLoadW rfl rfl (by kernel_rfl) (fun w hM => At.cell (store_at (hM.at (i := 1) rfl)) 4)) ?_
 refine lm ?_
 refine lv (v := (.tuple #[(.agg #[(.int .u64 ((0 : Nat) : Int)), (.int .i64 0), (.int .i64 0), (.string ⟨#[]⟩), (.slice none 0 0)]), (.bool false)])) (rConv (rMapGetOkW (D := kB) (val := bvV) (a := key) rfl rfl rfl Tryz.underlying63 Tryz.zeroValue70 (fun w hM => store_map (hM.at (i := 1) rfl)) (by show _ ≤ 1099511627776; omega)) (by rw [e1]; rfl)) ?_
 refine lm ?_
 refine lc (.agg #[(.int .u64 ((0 : Nat) : Int)), (.int .i64 0), (.int .i64 0), (.string ⟨#[]⟩), (.slice none 0 0)]) ?_
 refine lc (.bool false) ?_
 refine li rfl ?_
 refine opAlloc [(.int .u64 0), (.int .i64 0), (.int .i64 0), (.string ⟨#[]⟩), (.slice none 0 0)] rfl rfl (by kernel_rfl) (by kernel_rfl) (fun b7 => ?_)
 refine li rfl ?_
 refine opStoreN 2 [(.int .u64 ((0 : Nat) : Int)), (.int .i64 0), (.int .i64 0), (.string ⟨#[]⟩), (.slice none 0 0)] (vs := [(.int .u64 ((0 : Nat) : Int)), (.int .i64 0), (.int .i64 0), (.string ⟨#[]⟩), (.slice none 0 0)]) rfl rfl (by kernel_rfl) rfl rfl rfl (by kernel_rfl) rfl (by simp) (by simp [Value.oneCell']) rfl ?_
 refine la ?_
 refine liNil (qThen (stSeq (reg ?_)))
 refine lm ?_
 refine liNil (qThen (stFalse rfl (stSkip (qThen (stSeq (reg ?_))))))
 refine lm ?_
 refine lv (v := (vI ((key).length))) (rLenS rfl rfl (by kernel_rfl)) ?_
 refine lv (v := (vI (33 + (key).length))) (rAdd _ rfl rfl rfl (by omega) (by omega) (by omega)) ?_
 refine lm ?_
 refine lc (vI data.length) ?_
 refine lv (v := (vI (33 + (key).length + data.length))) (rAdd _ rfl rfl rfl (by omega) (by omega) (by omega)) ?_
 refine la ?_
 refine liNil (qThen (stSeq (reg ?_)))
 refine lm ?_
 refine lm ?_
 refine li rfl ?_
 refine opK0 (fun w hM => (sNeed_any bs bd (vI first) (vI Y.us.length) (.int .u64 ((Y.num : Nat) : Int)) (.map (some Y.bm)) (vL Y.Au Y.us (Y.cu)) (.slice none 0 0) (vI Y.fr) (.bool false) sz (vL X.Ad X.dv (X.cd)) (vL X.Ap X.pv (X.cp)) (.map (some X.lat)) (.int .i64 (-1)) (.bool false) (33 + (key).length + data.length) w (hM.keep0 (j := 1) rfl (fun _ h => store_at h)) (hM.keep0 (j := 0) rfl (fun _ h => disk_at h)) (⟨by omega, by omega⟩) (by omega)).mono ?_)
 rintro e w' ⟨rfl, hP⟩
 refine ⟨_, _, rfl, hP, ?_⟩; clear hP hM
 refine la ?_
 refine liNil (qThen (stSeq (stSeq ?_)))
 refine St.to [cDisk bd X sz secs [], cStore bs bd first Y, cAt b7 70 [(.int .u64 ((0 : Nat) : Int)), (.int .i64 0), (.int .i64 0), (.string ⟨#[]⟩), (.slice none 0 0)]] (by kernel_rfl) ?_
 refine reg ?_
 refine lm ?_
 refine lm ?_
 refine lc (vP bs 0) ?_
 refine lc (vP bs 7) ?_
 refine lv (v := (vI Y.fr)) (rLoadW rfl rfl (by kernel_rfl) (fun w hM => At.cell (store_at (hM.at (i := 1) rfl)) 7)) ?_
 refine lc (.bool (decide ((((needN sz (33 + (key).length + data.length)) : Nat) : Int) > ((Y.fr : Nat) : Int)))) ?_
 refine liNil (qThen ?_)
 refine stFalseK rfl (decide_eq_false (by omega)) ?_
 refine stSkip (qThen (stSeq (stSeq (reg ?_))))
 refine lm ?_
 refine li rfl ?_
 refine opK [1] [cStore bs bd first Y] (fun w hM hO => (sClear_any bs bd first Y w hO).mono ?_)
 rintro e w' ⟨rfl, hP⟩
 refine ⟨_, [cStore bs bd first Y], _, rfl, hP, rfl, ?_⟩; clear hP hM hO
 refine la ?_
 refine liNil (qThen (stSeq (reg ?_)))
 refine lm ?_
 refine lc (.bool false) ?_
 refine liNil (qThen (stFalse rfl (stSkip (qThen ?_))))
 refine stCut (ι := Option Addr × Nat × Nat) (fun _ => True) (fun (A68, c68, b12) => [(0, (vP bs 0)), (1, (vS key)), (2, (vL A3 data c3)), (6, (.int .i64 0)), (14, (vP bs 0)), (15, (.bool false)), (16, (vS key)), (17, (vI ((key).length))), (18, (.bool (decide ((((key).length : Nat) : Int) < 1)))), (19, (.bool false)), (20, (vS key)), (21, (vI ((key).length))), (22, (.bool (decide ((((key).length : Nat) : Int) > 64)))), (23, (.bool (decide ((((key).length : Nat) : Int) > 64)))), (24, (vL A3 data c3)), (25, (vI data.length)), (26, (.bool (decide (((data.length : Nat) : Int) > 65536)))), (28, (vP bs 0)), (29, (vP bs 0)), (30, (vP bs 4)), (31, (.map (some Y.bm))), (32, (vS key)), (33, (.tuple #[(.agg #[(.int .u64 ((0 : Nat) : Int)), (.int .i64 0), (.int .i64 0), (.string ⟨#[]⟩), (.slice none 0 0)]), (.bool false)])), (27, (.tuple #[(.agg #[(.int .u64 ((0 : Nat) : Int)), (.int .i64 0), (.int .i64 0), (.string ⟨#[]⟩), (.slice none 0 0)]), (.bool false)])), (34, (.agg #[(.int .u64 ((0 : Nat) : Int)), (.int .i64 0), (.int .i64 0), (.string ⟨#[]⟩), (.slice none 0 0)])), (35, (.bool false)), (7, (vP b7 0)), (8, (.bool false)), (36, (.bool false)), (37, (vS key)), (38, (vI ((key).length))), (39, (vI (33 + (key).length))), (40, (vL A3 data c3)), (41, (vI data.length)), (42, (vI (33 + (key).length + data.length))), (9, (vI (33 + (key).length + data.length))), (43, (vP bs 0)), (44, (vI (33 + (key).length + data.length))), (45, (vI (needN sz (33 + (key).length + data.length)))), (10, (vI (needN sz (33 + (key).length + data.length)))), (46, (vI (needN sz (33 + (key).length + data.length)))), (47, (vP bs 0)), (48, (vP bs 0)), (49, (vP bs 7)), (50, (vI Y.fr)), (51, (.bool (decide ((((needN sz (33 + (key).length + data.length)) : Nat) : Int) > ((Y.fr : Nat) : Int))))), (52, (vP bs 0)), (53, (.int .i64 0)), (11, (.int .i64 0)), (54, (.int .i64 0)), (55, (.bool false)), (57, (vP bs 0)), (58, (vP bs 0)), (59, (vP bs 3)), (60, (.int .u64 ((Y.num : Nat) : Int))), (61, (vI (33 + (key).length + data.length))), (62, (vL A3 data c3)), (63, (vI data.length)), (64, (vL A3 data c3)), (66, (vP bs 0)), (67, (vI (needN sz (33 + (key).length + data.length)))), (65, (vS (sha data))), (68, (vL A68 ((freeL Y.us).take (needN sz (33 + (key).length + data.length))) c68)), (69, (.agg #[(.int .u64 ((Y.num : Nat) : Int)), (vI (33 + (key).length + data.length)), (vI data.length), (vS (sha data)), (vL A68 ((freeL Y.us).take (needN sz (33 + (key).length + data.length))) c68)])), (12, (vP b12 0))]) (fun (A68, c68, b12) => [cDisk bd X sz secs [], cStore bs bd first Y, cAt b7 70 [(.int .u64 ((0 : Nat) : Int)), (.int .i64 0), (.int .i64 0), (.string ⟨#[]⟩), (.slice none 0 0)], cOwn 3 1 A68 (((freeL Y.us).take (needN sz (33 + (key).length + data.length))).length) (c68) (II ((freeL Y.us).take (needN sz (33 + (key).length + data.length)))), cAt b12 70 [(.int .u64 ((Y.num : Nat) : Int)), (vI (33 + (key).length + data.length)), (vI data.length), (vS (sha data)), (vL A68 ((freeL Y.us).take (needN sz (33 + (key).length + data.length))) c68)]]) ?_ ?_
 ·refine St.to [cDisk bd X sz secs [], cStore bs bd first Y, cAt b7 70 [(.int .u64 ((0 : Nat) : Int)), (.int .i64 0), (.int .i64 0), (.string ⟨#[]⟩), (.slice none 0 0)]] (by kernel_rfl) ?_
  have q0 := need_pos (sz := sz) (n := 33 + key.length + data.length) (by omega) (by omega)
  refine anyBegin [cDisk bd X sz secs [], cStore bs bd first Y, cAt b7 70 [(.int .u64 ((0 : Nat) : Int)), (.int .i64 0), (.int .i64 0), (.string ⟨#[]⟩), (.slice none 0 0)]] 15 (by kernel_rfl) (fun _ h => h) ?_
  refine am 0 ?_
  refine ac 1 (vP bs 0) ?_
  refine ac 2 (vP bs 3) ?_
  refine av 3 (.int .u64 ((Y.num : Nat) : Int)) rfl (rLoadW rfl rfl (by kernel_rfl) (fun w hM => At.cell (store_at (hM.at (i := 1) rfl)) 3)) ?_
  refine am 4 ?_
  refine am 5 ?_
  refine ac 6 (vI data.length) ?_
  refine am 7 ?_
  refine am 9 ?_
  refine am 10 ?_
  refine anyTwo (i := 8) (j := 13) (by kernel_rfl) rfl rfl rfl rfl ?_ ?_
  ·refine opK0 (fun w hM => (cSum_any A3 c3 data w (r0.go0 hM) (r1.go0 hM) (by omega) (by omega)).mono ?_)
   rintro e w' ⟨rfl, hP⟩
   refine ⟨_, _, rfl, hP, ?_⟩; clear hP hM
   refine anyNext [cDisk bd X sz secs [], cStore bs bd first Y, cAt b7 70 [(.int .u64 ((0 : Nat) : Int)), (.int .i64 0), (.int .i64 0), (.string ⟨#[]⟩), (.slice none 0 0)]] (fun _ h => h) (fun _ h => h) ?_
   refine anyTwo (i := 11) (j := 13) (by kernel_rfl) rfl rfl rfl rfl ?_ ?_
   ·refine opK0 (fun w hM => (sUnused_any bs bd (vI first) (vI Y.us.length) (.int .u64 ((Y.num : Nat) : Int)) (.map (some Y.bm)) (.slice none 0 0) (vI Y.fr) (.bool false) Y.Au Y.us Y.cu (needN sz (33 + (key).length + data.length)) w (hM.keep0 (j := 1) rfl (fun _ h => store_at h)) (hM.keep0 (j := 1) rfl (fun _ h => store_used h)) (by omega) (by omega)).mono ?_)
    rintro e w' ⟨A68, c68, rfl, hP⟩
    refine ⟨_, _, rfl, hP, ?_⟩; clear hP hM
    refine St.to [cDisk bd X sz secs [], cStore bs bd first Y, cAt b7 70 [(.int .u64 ((0 : Nat) : Int)), (.int .i64 0), (.int .i64 0), (.string ⟨#[]⟩), (.slice none 0 0)], cOwn 3 1 A68 (((freeL Y.us).take (needN sz (33 + (key).length + data.length))).length) (c68) (II ((freeL Y.us).take (needN sz (33 + (key).length + data.length))))] (by kernel_rfl) ?_
    refine anyNext [cDisk bd X sz secs [], cStore bs bd first Y, cAt b7 70 [(.int .u64 ((0 : Nat) : Int)), (.int .i64 0), (.int .i64 0), (.string ⟨#[]⟩), (.slice none 0 0)], cOwn 3 1 A68 (((freeL Y.us).take (needN sz (33 + (key).length + data.length))).length) (c68) (II ((freeL Y.us).take (needN sz (33 + (key).length + data.length))))] (fun _ h => h.pick [0, 1, 2] rfl rfl) (fun _ h => h) ?_
    refine ac 12 (.agg #[(.int .u64 ((Y.num : Nat) : Int)), (vI (33 + (key).length + data.length)), (vI data.length), (vS (sha data)), (vL A68 ((freeL Y.us).take (needN sz (33 + (key).length + data.length))) c68)]) ?_
    refine a1 13 ?_
    refine opAlloc [(.int .u64 0), (.int .i64 0), (.int .i64 0), (.string ⟨#[]⟩), (.slice none 0 0)] rfl rfl (by kernel_rfl) (by kernel_rfl) (fun b12 => ?_)
    refine anyNext [cDisk bd X sz secs [], cStore bs bd first Y, cAt b7 70 [(.int .u64 ((0 : Nat) : Int)), (.int .i64 0), (.int .i64 0), (.string ⟨#[]⟩), (.slice none 0 0)], cOwn 3 1 A68 (((freeL Y.us).take (needN sz (33 + (key).length + data.length))).length) (c68) (II ((freeL Y.us).take (needN sz (33 + (key).length + data.length))))] (fun _ h => h) (fun _ h => h.pick [0, 1, 2, 3] rfl rfl) ?_
    refine a1 14 ?_
    refine opStoreN 4 [(.int .u64 ((Y.num : Nat) : Int)), (vI (33 + (key).length + data.length)), (vI data.length), (vS (sha data)), (vL A68 ((freeL Y.us).take (needN sz (33 + (key).length + data.length))) c68)] (vs := [(.int .u64 ((Y.num : Nat) : Int)), (vI (33 + (key).length + data.length)), (vI data.length), (vS (sha data)), (vL A68 ((freeL Y.us).take (needN sz (33 + (key).length + data.length))) c68)]) rfl rfl (by kernel_rfl) rfl rfl rfl (by kernel_rfl) rfl (by simp) (by simp [Value.oneCell']) rfl ?_
    refine anyNext [cDisk bd X sz secs [], cStore bs bd first Y, cAt b7 70 [(.int .u64 ((0 : Nat) : Int)), (.int .i64 0), (.int .i64 0), (.string ⟨#[]⟩), (.slice none 0 0)], cOwn 3 1 A68 (((freeL Y.us).take (needN sz (33 + (key).length + data.length))).length) (c68) (II ((freeL Y.us).take (needN sz (33 + (key).length + data.length)))), cAt b12 70 [(.int .u64 ((Y.num : Nat) : Int)), (vI (33 + (key).length + data.length)), (vI data.length), (vS (sha data)), (vL A68 ((freeL Y.us).take (needN sz (33 + (key).length + data.length))) c68)]] (fun _ h => h.pick [0, 1, 2, 3] rfl rfl) (fun _ h => h) ?_
    refine anyDone (by kernel_rfl) ?_
    refine qThen ?_
    exact stMeet (A68, c68, b12) trivial ⟨rfl, rfl, rfl, rfl, rfl, rfl, rfl, rfl, rfl, rfl, rfl, rfl, rfl, rfl, rfl, rfl, rfl, rfl, rfl, rfl, rfl, rfl, rfl, rfl, rfl, rfl, rfl, rfl, rfl, rfl, rfl, rfl, rfl, rfl, rfl, rfl, rfl, rfl, rfl, rfl, rfl, rfl, rfl, rfl, rfl, rfl, rfl, rfl, rfl, rfl, rfl, rfl, rfl, rfl, rfl, rfl, rfl, rfl, rfl, rfl, rfl, rfl, rfl, rfl, rfl, trivial⟩ (fun _ h => h)
   ·refine opAlloc [(.int .u64 0), (.int .i64 0), (.int .i64 0), (.string ⟨#[]⟩), (.slice none 0 0)] rfl rfl (by kernel_rfl) (by kernel_rfl) (fun b12 => ?_)
    refine anyNext [cDisk bd X sz secs [], cStore bs bd first Y, cAt b7 70 [(.int .u64 ((0 : Nat) : Int)), (.int .i64 0), (.int .i64 0), (.string ⟨#[]⟩), (.slice none 0 0)]] (fun _ h => h) (fun _ h => h.pick [0, 1, 2] rfl rfl) ?_
    refine a1 11 ?_
    refine opK0 (fun w hM => (sUnused_any bs bd (vI first) (vI Y.us.length) (.int .u64 ((Y.num : Nat) : Int)) (.map (some Y.bm)) (.slice none 0 0) (vI Y.fr) (.bool false) Y.Au Y.us Y.cu (needN sz (33 + (key).length + data.length)) w (hM.keep0 (j := 1) rfl (fun _ h => store_at h)) (hM.keep0 (j := 1) rfl (fun _ h => store_used h)) (by omega) (by omega)).mono ?_)
    rintro e w' ⟨A68, c68, rfl, hP⟩
    refine ⟨_, _, rfl, hP, ?_⟩; clear hP hM
    refine anyNext [cDisk bd X sz secs [], cStore bs bd first Y, cAt b7 70 [(.int .u64 ((0 : Nat) : Int)), (.int .i64 0), (.int .i64 0), (.string ⟨#[]⟩), (.slice none 0 0)], cOwn 3 1 A68 (((freeL Y.us).take (needN sz (33 + (key).length + data.length))).length) (c68) (II ((freeL Y.us).take (needN sz (33 + (key).length + data.length))))] (fun _ h => h.pick [0, 1, 2] rfl rfl) (fun _ h => h.pick [0, 1, 2, 4] rfl rfl) ?_
    refine ac 12 (.agg #[(.int .u64 ((Y.num : Nat) : Int)), (vI (33 + (key).length + data.length)), (vI data.length), (vS (sha data)), (vL A68 ((freeL Y.us).take (needN sz (33 + (key).length + data.length))) c68)]) ?_
    refine a1 14 ?_
    refine opStoreN 3 [(.int .u64 ((Y.num : Nat) : Int)), (vI (33 + (key).length + data.length)), (vI data.length), (vS (sha data)), (vL A68 ((freeL Y.us).take (needN sz (33 + (key).length + data.length))) c68)] (vs := [(.int .u64 ((Y.num : Nat) : Int)), (vI (33 + (key).length + data.length)), (vI data.length), (vS (sha data)), (vL A68 ((freeL Y.us).take (needN sz (33 + (key).length + data.length))) c68)]) rfl rfl (by kernel_rfl) rfl rfl rfl (by kernel_rfl) rfl (by simp) (by simp [Value.oneCell']) rfl ?_
    refine anyNext [cDisk bd X sz secs [], cStore bs bd first Y, cAt b7 70 [(.int .u64 ((0 : Nat) : Int)), (.int .i64 0), (.int .i64 0), (.string ⟨#[]⟩), (.slice none 0 0)], cAt b12 70 [(.int .u64 ((Y.num : Nat) : Int)), (vI (33 + (key).length + data.length)), (vI data.length), (vS (sha data)), (vL A68 ((freeL Y.us).take (needN sz (33 + (key).length + data.length))) c68)], cOwn 3 1 A68 (((freeL Y.us).take (needN sz (33 + (key).length + data.length))).length) (c68) (II ((freeL Y.us).take (needN sz (33 + (key).length + data.length))))] (fun _ h => h.pick [0, 1, 2, 4] rfl rfl) (fun _ h => h) ?_
    refine anyDone (by kernel_rfl) ?_
    refine qThen ?_
    exact stMeet (A68, c68, b12) trivial ⟨rfl, rfl, rfl, rfl, rfl, rfl, rfl, rfl, rfl, rfl, rfl, rfl, rfl, rfl, rfl, rfl, rfl, rfl, rfl, rfl, rfl, rfl, rfl, rfl, rfl, rfl, rfl, rfl, rfl, rfl, rfl, rfl, rfl, rfl, rfl, rfl, rfl, rfl, rfl, rfl, rfl, rfl, rfl, rfl, rfl, rfl, rfl, rfl, rfl, rfl, rfl, rfl, rfl, rfl, rfl, rfl, rfl, rfl, rfl, rfl, rfl, rfl, rfl, rfl, rfl, trivial⟩ (fun _ h => h.pick [0, 1, 2, 4, 3] rfl rfl)
  ·refine opAlloc [(.int .u64 0), (.int .i64 0), (.int .i64 0), (.string ⟨#[]⟩), (.slice none 0 0)] rfl rfl (by kernel_rfl) (by kernel_rfl) (fun b12 => ?_)
   refine St.to [cDisk bd X sz secs [], cStore bs bd first Y, cAt b7 70 [(.int .u64 ((0 : Nat) : Int)), (.int .i64 0), (.int .i64 0), (.string ⟨#[]⟩), (.slice none 0 0)], cAt b12 70 [(.int .u64 0), (.int .i64 0), (.int .i64 0), (.string ⟨#[]⟩), (.slice none 0 0)]] (by kernel_rfl) ?_
   refine anyNext [cDisk bd X sz secs [], cStore bs bd first Y, cAt b7 70 [(.int .u64 ((0 : Nat) : Int)), (.int .i64 0), (.int .i64 0), (.string ⟨#[]⟩), (.slice none 0 0)]] (fun _ h => h) (fun _ h => h.pick [0, 1, 2] rfl rfl) ?_
   refine a1 8 ?_
   refine opK0 (fun w hM => (cSum_any A3 c3 data w (r0.go0 hM) (r1.go0 hM) (by omega) (by omega)).mono ?_)
   rintro e w' ⟨rfl, hP⟩
   refine ⟨_, _, rfl, hP, ?_⟩; clear hP hM
   refine anyNext [cDisk bd X sz secs [], cStore bs bd first Y, cAt b7 70 [(.int .u64 ((0 : Nat) : Int)), (.int .i64 0), (.int .i64 0), (.string ⟨#[]⟩), (.slice none 0 0)]] (fun _ h => h) (fun _ h => h.pick [0, 1, 2] rfl rfl) ?_
   refine a1 11 ?_
   refine opK0 (fun w hM => (sUnused_any bs bd (vI first) (vI Y.us.length) (.int .u64 ((Y.num : Nat) : Int)) (.map (some Y.bm)) (.slice none 0 0) (vI Y.fr) (.bool false) Y.Au Y.us Y.cu (needN sz (33 + (key).length + data.length)) w (hM.keep0 (j := 1) rfl (fun _ h => store_at h)) (hM.keep0 (j := 1) rfl (fun _ h => store_used h)) (by omega) (by omega)).mono ?_)
   rintro e w' ⟨A68, c68, rfl, hP⟩
   refine ⟨_, _, rfl, hP, ?_⟩; clear hP hM
   refine anyNext [cDisk bd X sz secs [], cStore bs bd first Y, cAt b7 70 [(.int .u64 ((0 : Nat) : Int)), (.int .i64 0), (.int .i64 0), (.string ⟨#[]⟩), (.slice none 0 0)], cOwn 3 1 A68 (((freeL Y.us).take (needN sz (33 + (key).length + data.length))).length) (c68) (II ((freeL Y.us).take (needN sz (33 + (key).length + data.length))))] (fun _ h => h.pick [0, 1, 2] rfl rfl) (fun _ h => h.pick [0, 1, 2, 4] rfl rfl) ?_
   refine ac 12 (.agg #[(.int .u64 ((Y.num : Nat) : Int)), (vI (33 + (key).length + data.length)), (vI data.length), (vS (sha data)), (vL A68 ((freeL Y.us).take (needN sz (33 + (key).length + data.length))) c68)]) ?_
   refine a1 14 ?_
   refine opStoreN 3 [(.int .u64 ((Y.num : Nat) : Int)), (vI (33 + (key).length + data.length)), (vI data.length), (vS (sha data)), (vL A68 ((freeL Y.us).take (needN sz (33 + (key).length + data.length))) c68)] (vs := [(.int .u64 ((Y.num : Nat) : Int)), (vI (33 + (key).length + data.length)), (vI data.length), (vS (sha data)), (vL A68 ((freeL Y.us).take (needN sz (33 + (key).length + data.length))) c68)]) rfl rfl (by kernel_rfl) rfl rfl rfl (by kernel_rfl) rfl (by simp) (by simp [Value.oneCell']) rfl ?_
   refine anyNext [cDisk bd X sz secs [], cStore bs bd first Y, cAt b7 70 [(.int .u64 ((0 : Nat) : Int)), (.int .i64 0), (.int .i64 0), (.string ⟨#[]⟩), (.slice none 0 0)], cAt b12 70 [(.int .u64 ((Y.num : Nat) : Int)), (vI (33 + (key).length + data.length)), (vI data.length), (vS (sha data)), (vL A68 ((freeL Y.us).take (needN sz (33 + (key).length + data.length))) c68)], cOwn 3 1 A68 (((freeL Y.us).take (needN sz (33 + (key).length + data.length))).length) (c68) (II ((freeL Y.us).take (needN sz (33 + (key).length + data.length))))] (fun _ h => h.pick [0, 1, 2, 4] rfl rfl) (fun _ h => h) ?_
   refine anyDone (by kernel_rfl) ?_
   refine qThen ?_
   exact stMeet (A68, c68, b12) trivial ⟨rfl, rfl, rfl, rfl, rfl, rfl, rfl, rfl, rfl, rfl, rfl, rfl, rfl, rfl, rfl, rfl, rfl, rfl, rfl, rfl, rfl, rfl, rfl, rfl, rfl, rfl, rfl, rfl, rfl, rfl, rfl, rfl, rfl, rfl, rfl, rfl, rfl, rfl, rfl, rfl, rfl, rfl, rfl, rfl, rfl, rfl, rfl, rfl, rfl, rfl, rfl, rfl, rfl, rfl, rfl, rfl, rfl, rfl, rfl, rfl, rfl, rfl, rfl, rfl, rfl, trivial⟩ (fun _ h => h.pick [0, 1, 2, 4, 3] rfl rfl)
 ·rintro ⟨A68, c68, b12⟩ -
  show St _ _ _ [(0, (vP bs 0)), (1, (vS key)), (2, (vL A3 data c3)), (6, (.int .i64 0)), (14, (vP bs 0)), (15, (.bool false)), (16, (vS key)), (17, (vI ((key).length))), (18, (.bool (decide ((((key).length : Nat) : Int) < 1)))), (19, (.bool false)), (20, (vS key)), (21, (vI ((key).length))), (22, (.bool (decide ((((key).length : Nat) : Int) > 64)))), (23, (.bool (decide ((((key).length : Nat) : Int) > 64)))), (24, (vL A3 data c3)), (25, (vI data.length)), (26, (.bool (decide (((data.length : Nat) : Int) > 65536)))), (28, (vP bs 0)), (29, (vP bs 0)), (30, (vP bs 4)), (31, (.map (some Y.bm))), (32, (vS key)), (33, (.tuple #[(.agg #[(.int .u64 ((0 : Nat) : Int)), (.int .i64 0), (.int .i64 0), (.string ⟨#[]⟩), (.slice none 0 0)]), (.bool false)])), (27, (.tuple #[(.agg #[(.int .u64 ((0 : Nat) : Int)), (.int .i64 0), (.int .i64 0), (.string ⟨#[]⟩), (.slice none 0 0)]), (.bool false)])), (34, (.agg #[(.int .u64 ((0 : Nat) : Int)), (.int .i64 0), (.int .i64 0), (.string ⟨#[]⟩), (.slice none 0 0)])), (35, (.bool false)), (7, (vP b7 0)), (8, (.bool false)), (36, (.bool false)), (37, (vS key)), (38, (vI ((key).length))), (39, (vI (33 + (key).length))), (40, (vL A3 data c3)), (41, (vI data.length)), (42, (vI (33 + (key).length + data.length))), (9, (vI (33 + (key).length + data.length))), (43, (vP bs 0)), (44, (vI (33 + (key).length + data.length))), (45, (vI (needN sz (33 + (key).length + data.length)))), (10, (vI (needN sz (33 + (key).length + data.length)))), (46, (vI (needN sz (33 + (key).length + data.length)))), (47, (vP bs 0)), (48, (vP bs 0)), (49, (vP bs 7)), (50, (vI Y.fr)), (51, (.bool (decide ((((needN sz (33 + (key).length + data.length)) : Nat) : Int) > ((Y.fr : Nat) : Int))))), (52, (vP bs 0)), (53, (.int .i64 0)), (11, (.int .i64 0)), (54, (.int .i64 0)), (55, (.bool false)), (57, (vP bs 0)), (58, (vP bs 0)), (59, (vP bs 3)), (60, (.int .u64 ((Y.num : Nat) : Int))), (61, (vI (33 + (key).length + data.length))), (62, (vL A3 data c3)), (63, (vI data.length)), (64, (vL A3 data c3)), (66, (vP bs 0)), (67, (vI (needN sz (33 + (key).length + data.length)))), (65, (vS (sha data))), (68, (vL A68 ((freeL Y.us).take (needN sz (33 + (key).length + data.length))) c68)), (69, (.agg #[(.int .u64 ((Y.num : Nat) : Int)), (vI (33 + (key).length + data.length)), (vI data.length), (vS (sha data)), (vL A68 ((freeL Y.us).take (needN sz (33 + (key).length + data.length))) c68)])), (12, (vP b12 0))] [cDisk bd X sz secs [], cStore bs bd first Y, cAt b7 70 [(.int .u64 ((0 : Nat) : Int)), (.int .i64 0), (.int .i64 0), (.string ⟨#[]⟩), (.slice none 0 0)], cOwn 3 1 A68 (((freeL Y.us).take (needN sz (33 + (key).length + data.length))).length) (c68) (II ((freeL Y.us).take (needN sz (33 + (key).length + data.length)))), cAt b12 70 [(.int .u64 ((Y.num : Nat) : Int)), (vI (33 + (key).length + data.length)), (vI data.length), (vS (sha data)), (vL A68 ((freeL Y.us).take (needN sz (33 + (key).length + data.length))) c68)]] _
  refine stSeq (stSeq ?_)
  refine St.mem (cs' := [cDisk bd X sz secs [], cStore bs bd first Y, cAt b7 70 [(.int .u64 ((0 : Nat) : Int)), (.int .i64 0), (.int .i64 0), (.string ⟨#[]⟩), (.slice none 0 0)], cRw A68 (II ((freeL Y.us).take (needN sz (33 + (key).length + data.length)))), cAt b12 70 [(.int .u64 ((Y.num : Nat) : Int)), (vI (33 + (key).length + data.length)), (vI data.length), (vS (sha data)), (vL A68 ((freeL Y.us).take (needN sz (33 + (key).length + data.length))) c68)]]) (fun w hM => hM.toRw 3 rfl) ?_
  refine St.to [cDisk bd X sz secs [], cStore bs bd first Y, cAt b7 70 [(.int .u64 ((0 : Nat) : Int)), (.int .i64 0), (.int .i64 0), (.string ⟨#[]⟩), (.slice none 0 0)], cRw A68 (II (newB sz Y key data).secs), cAt b12 70 [(.int .u64 ((Y.num : Nat) : Int)), (vI (33 + (key).length + data.length)), (vI data.length), (vS (sha data)), (vL A68 ((freeL Y.us).take (needN sz (33 + (key).length + data.length))) c68)]] (by kernel_rfl) ?_
  have q1 : (newB sz Y key data).secs.length = needN sz (newB sz Y key data).len := by show ((freeL Y.us).take _).length = _; rw [List.length_take, hfl]; exact Nat.min_eq_left k4
  have q2 : (newB sz Y key data).secs.length ≤ Y.fr := by rw [q1]; exact k4
  have q3 : ∀ s ∈ (newB sz Y key data).secs, s < Y.us.length := fun s hs => freeL_lt (List.mem_of_mem_take hs)
  have q4 : Y.fr ≤ Y.us.length := by rw [← hfl]; exact freeT_len _ _
  refine reg ?_
  refine lm ?_
  refine lv (v := (vS ((newB sz Y key data).key))) (rConv (rMove rfl rfl) rfl) ?_
  refine lv (v := (.agg #[(.int .u64 (((newB sz Y key data).num : Nat) : Int)), (vI ((newB sz Y key data).len)), (vI ((newB sz Y key data).data.length)), (vS (sha (newB sz Y key data).data)), (.slice A68 ((newB sz Y key data).secs.length) (c68))])) (rConv (rLoadA [(.int .u64 ((Y.num : Nat) : Int)), (vI (33 + (key).length + data.length)), (vI data.length), (vS (sha data)), (vL A68 ((freeL Y.us).take (needN sz (33 + (key).length + data.length))) c68)] rfl rfl (by kernel_rfl) (by kernel_rfl) (segAt (i := 4) (off := 0) rfl (by intro j v hj; rw [Nat.zero_add]; exact hj))) rfl) ?_
  refine lv (v := (.slice A3 ((newB sz Y key data).data.length) (c3))) (rConv (rMove rfl rfl) rfl) ?_
  refine li rfl ?_
  refine opK [0] [cDisk bd X sz secs []] (fun w hM hO => (sWrite_any bs bd first (vI Y.us.length) (.int .u64 ((Y.num : Nat) : Int)) (.map (some Y.bm)) (vL Y.Au Y.us (Y.cu)) (.slice none 0 0) (vI Y.fr) (.bool false) X sz secs (newB sz Y key data) A68 c68 A3 c3 w hO (r0.goS hM [0]) (hM.keepS [0] (j := 1) rfl (fun _ h => store_at h)) (hM.keepS [0] (j := 3) rfl (fun _ h => cRw_row h)) (r1.goS hM [0]) (⟨by show key.length ≤ 64; omega, by show data.length ≤ 65536; omega, by show Y.num ≤ 1000000; omega, Nat.le_trans q2 (by omega)⟩) (fun s hs => by have := q3 s hs; omega) (q1) (⟨by omega, by omega⟩) (by omega)).mono ?_)
  rintro e w' ⟨X274, rfl, hP⟩
  refine ⟨_, [cDisk bd X274 sz (applyW secs (wrB first sz (newB sz Y key data) (newB sz Y key data).secs.length)) []], _, rfl, hP, rfl, ?_⟩; clear hP hM hO
  refine la ?_
  refine liNil (qThen (stSeq ?_))
  refine St.to [cDisk bd X274 sz (applyW secs (wrB first sz (newB sz Y key data) (newB sz Y key data).secs.length)) [], cStore bs bd first Y, cAt b7 70 [(.int .u64 ((0 : Nat) : Int)), (.int .i64 0), (.int .i64 0), (.string ⟨#[]⟩), (.slice none 0 0)], cRw A68 (II (newB sz Y key data).secs), cAt b12 70 [(.int .u64 ((Y.num : Nat) : Int)), (vI (33 + (key).length + data.length)), (vI data.length), (vS (sha data)), (vL A68 ((freeL Y.us).take (needN sz (33 + (key).length + data.length))) c68)]] (by kernel_rfl) ?_
  refine reg ?_
  refine lm ?_
  refine lc (.bool false) ?_
  refine liNil (qThen (stFalse rfl (stSkip (qThen (stSeq (reg ?_))))))
  refine lm ?_
  refine lv (v := (vS ((newB sz Y key data).key))) (rConv (rMove rfl rfl) rfl) ?_
  refine lv (v := (.agg #[(.int .u64 (((newB sz Y key data).num : Nat) : Int)), (vI ((newB sz Y key data).len)), (vI ((newB sz Y key data).data.length)), (vS (sha (newB sz Y key data).data)), (.slice A68 ((newB sz Y key data).secs.length) (c68))])) (rConv (rLoadA [(.int .u64 ((Y.num : Nat) : Int)), (vI (33 + (key).length + data.length)), (vI data.length), (vS (sha data)), (vL A68 ((freeL Y.us).take (needN sz (33 + (key).length + data.length))) c68)] rfl rfl (by kernel_rfl) (by kernel_rfl) (segAt (i := 4) (off := 0) rfl (by intro j v hj; rw [Nat.zero_add]; exact hj))) rfl) ?_
  refine li rfl ?_
  refine opK [1, 3] [cStore bs bd first Y, cRw A68 (II (newB sz Y key data).secs)] (fun w hM hO => (sAdd_any bs bd first Y (newB sz Y key data) A68 c68 w hO (⟨by show key.length ≤ 64; omega, by show data.length ≤ 65536; omega, by show Y.num ≤ 1000000; omega, Nat.le_trans q2 (by omega)⟩) (q3) (by omega) (by omega) (by omega) (by omega)).mono ?_)
  rintro e w' ⟨rfl, hP⟩
  refine ⟨_, [cStore bs bd first (addY Y ⟨(newB sz Y key data), A68, c68⟩), cInts []], _, rfl, hP, rfl, ?_⟩; clear hP hM hO
  refine liNil (qThen (stSeq (reg ?_)))
  refine la ?_
  refine liNil (qThen (stRet ?_))
  refine stEnd [(.int .i64 0)] rfl ⟨rfl, trivial⟩ (fun w hM => ?_)
  exact ⟨_, _, _, rfl, hM.pick [0, 1] rfl rfl⟩
end Go.Proofs.YtaiggifiefnjnaaGreatDoor
namespace Go.Proofs.YtaiggifiefnjnaaGreatDoor
open Go.RowKit
theorem delY_wf {Y : SX} (h : SW Y) (v : BV) : SW (delY Y v) where
 key p hp := h.key p (List.mem_filter.1 hp).1
 row p hp := h.row p (List.mem_filter.1 hp).1
section
variable {P : Program} {k : TypeId} {α β : Type} {D : Kd P k α} {val : β → Value} {b : Nat} {kv : List (α × β)} {Q : Exit → Act → World → Prop} {n : Nat} {w0 : World} {F : List Nat} {E : Env} {cs : List Ch} {K : Act → World → Prop} {o : Oper} {t e : TypeId} [DecidableEq α]
omit [DecidableEq α] in
theorem opValN (hd : o.dst = none) (hk : opOk n E o = true) (hr : ∀ w, Mm w0 F cs w → ∃ v w' cs', (execOp (evE E) o).run P w = .ok (.value v) w' ∧ Mm w0 F cs' w' ∧ St n w0 F E cs' K) : OpW P Q n w0 F E cs o K := by
 intro a w ha hM
 obtain ⟨v, w', cs', h1, h2, h3⟩ := hr w hM
 unfold Oper.wp
 rw [opOk_exec hk ha, h1]
 have h5 := h3 _ _ ha h2
 unfold Oper.upon
 rw [hd]
 exact h5
theorem opMapDelK0 {x y : Operand} {a : α} (i : Nat) (kv' : List (α × β)) (ho : o.op = .call { callee := .builtin .delete, args := #[x, y], argTypes := #[t, k] }) (hd : o.dst = none) (hk : opOk n E o = true) (hx : evO E x = some (.map (some b))) (hy : evO E y = some (D.enc a)) (ht : P.underlying t = some (.map k e)) (hi : cs[i]? = some (cMap D val b kv)) (ha : D.ok a) (hkv : kvDel kv a = kv')
  (h : St n w0 F E (cs.set i (cMap D val b kv')) K) : OpW P Q n w0 F E cs o K :=
 opValN hd hk fun w hM => by
  subst hkv
  have hs : MapAt D val w b kv := hM.at hi
  obtain ⟨w', hrun, hf, hm⟩ := hs.del (ty := o.type) ht ha
  refine ⟨.tuple #[], w', _, ?_, hM.swap i hi (c' := cMap D val b (kvDel kv a)) hf hm (fun c hc => .inl hc) (by simp [cMap]), h⟩
  unfold execOp
  simp only [ho, resolve, invoke, builtin, Sem.run_bind, Sem.run_pure, Result.andThen_ok, List.map_toArray, List.map_cons, List.map_nil, evE_of hx, evE_of hy, hrun]
omit [DecidableEq α] in
theorem rMaxZ {x y : Operand} {t1 t2 : TypeId} {k : IntKind} {a b : Int} (ho : o.op = .call { callee := .builtin .max, args := #[x, y], argTypes := #[t1, t2] }) (hx : evO E x = some (.int k a)) (hy : evO E y = some (.int k b)) : RunV P w0 F cs E o (.int k (max a b)) := fun w _ => by
 unfold execOp
 simp only [ho, resolve, invoke, builtin, Sem.run_bind, Sem.run_pure, Result.andThen_ok, List.map_toArray, List.map_cons, List.map_nil, evE_of hx, evE_of hy, Builtin.max_, List.foldlM_cons, List.foldlM_nil, Builtin.max2]
 congr 3
 split <;> omega
omit [DecidableEq α] in
theorem rMinZ {x y : Operand} {t1 t2 : TypeId} {k : IntKind} {a b : Int} (ho : o.op = .call { callee := .builtin .min, args := #[x, y], argTypes := #[t1, t2] }) (hx : evO E x = some (.int k a)) (hy : evO E y = some (.int k b)) : RunV P w0 F cs E o (.int k (min a b)) := fun w _ => by
 unfold execOp
 simp only [ho, resolve, invoke, builtin, Sem.run_bind, Sem.run_pure, Result.andThen_ok, List.map_toArray, List.map_cons, List.map_nil, evE_of hx, evE_of hy, Builtin.min_, List.foldlM_cons, List.foldlM_nil, Builtin.min2]
 congr 3
 split <;> omega
end
theorem sDel_no (bs : Nat) (bd : Nat) (first : Nat) (Y : SX) (X : DX) (sz : Nat) (secs : List Bs) (key : List UInt8) (w : World) (hO : Own [cDisk bd X sz secs [], cStore bs bd first Y] w) (hk : kvGet Y.kv key = none) (hkl : key.length ≤ 1000000) :
  Calls Tryz.prog 15 #[(vP bs 0), (vS key)] w fun e w' => e = .returned (.int .i64 4) ∧ Back [cDisk bd X sz secs [], cStore bs bd first Y] w [cDisk bd X sz secs [], cStore bs bd first Y] w' := by
 have _u0 := hk
 have _u1 := hkl
 clear _u0 _u1
 refine stEnter (args := [(vP bs 0), (vS key)]) (fps [cDisk bd X sz secs [], cStore bs bd first Y]) Tryz.func15 rfl 65 rfl [(0, (vP bs 0)), (1, (vS key))] ⟨rfl, rfl, trivial⟩ [cDisk bd X sz secs [], cStore bs bd first Y] (hO) ?_
 refine stSeq (reg ?_)
 refine la ?_
 refine liNil (qThen (stSeq (stSeq (reg ?_))))
 refine lm ?_
 refine li rfl ?_
 refine opK0 (fun w hM => (sStop_no bs bd (vI first) (vI Y.us.length) (.int .u64 ((Y.num : Nat) : Int)) (.map (some Y.bm)) (vL Y.Au Y.us (Y.cu)) (.slice none 0 0) (vI Y.fr) (vI sz) (vL X.Ad X.dv (X.cd)) (vL X.Ap X.pv (X.cp)) (.map (some X.lat)) (.int .i64 (-1)) w (hM.keep0 (j := 1) rfl (fun _ h => store_at h)) (hM.keep0 (j := 0) rfl (fun _ h => disk_at h))).mono ?_)
 rintro e w' ⟨rfl, hP⟩
 refine ⟨_, _, rfl, hP, ?_⟩; clear hP hM
 refine liNil (qThen (stFalse rfl (stSkip (qThen (stSeq (reg ?_))))))
 refine lm ?_
 refine lc (vP bs 0) ?_
 refine lc (vP bs 4) ?_
 refine lv (v := (.map (some Y.bm))) (rLoadW rfl rfl (by kernel_rfl) (fun w hM => At.cell (store_at (hM.at (i := 1) rfl)) 4)) ?_
 refine lm ?_
 refine lv (v := (.tuple #[(.agg #[(.int .u64 ((0 : Nat) : Int)), (.int .i64 0), (.int .i64 0), (.string ⟨#[]⟩), (.slice none 0 0)]), (.bool false)])) (rConv (rMapGetOkW (D := kB) (val := bvV) (a := key) rfl rfl rfl Tryz.underlying63 Tryz.zeroValue70 (fun w hM => store_map (hM.at (i := 1) rfl)) (by show _ ≤ 1099511627776; omega)) (by rw [hk]; rfl)) ?_
 refine lm ?_
 refine lc (.agg #[(.int .u64 ((0 : Nat) : Int)), (.int .i64 0), (.int .i64 0), (.string ⟨#[]⟩), (.slice none 0 0)]) ?_
 refine lc (.bool false) ?_
 refine li rfl ?_
 refine opAlloc [(.int .u64 0), (.int .i64 0), (.int .i64 0), (.string ⟨#[]⟩), (.slice none 0 0)] rfl rfl (by kernel_rfl) (by kernel_rfl) (fun b5 => ?_)
 refine li rfl ?_
 refine opStoreN 2 [(.int .u64 ((0 : Nat) : Int)), (.int .i64 0), (.int .i64 0), (.string ⟨#[]⟩), (.slice none 0 0)] (vs := [(.int .u64 ((0 : Nat) : Int)), (.int .i64 0), (.int .i64 0), (.string ⟨#[]⟩), (.slice none 0 0)]) rfl rfl (by kernel_rfl) rfl rfl rfl (by kernel_rfl) rfl (by simp) (by simp [Value.oneCell']) rfl ?_
 refine la ?_
 refine liNil (qThen (stSeq (stSeq (reg ?_))))
 refine lm ?_
 refine lc (.bool true) ?_
 refine liNil (qThen (stTrue rfl (stSeq (reg ?_))))
 refine la ?_
 refine liNil (qThen (stRet (qThenR ?_)))
 refine stEnd [(.int .i64 4)] rfl ⟨rfl, trivial⟩ (fun w hM => ?_)
 exact ⟨rfl, hM.pick [0, 1] rfl rfl⟩
theorem sDel_ok (bs : Nat) (bd : Nat) (first : Nat) (Y : SX) (X : DX) (sz : Nat) (secs : List Bs) (key : List UInt8) (v : BV) (w : World) (hO : Own [cDisk bd X sz secs [], cStore bs bd first Y] w) (hk : kvGet Y.kv key = some v) (hkl : key.length ≤ 1000000) (hs : ∀ s ∈ v.b.secs, s < Y.us.length) (hl : 1 ≤ v.b.secs.length ∧ v.b.secs.length ≤ 100000) (hz : 1 ≤ sz ∧ sz ≤ 4096) (hreg : first + Y.us.length ≤ secs.length) (hsec : secs.length ≤ 100000 ∧ Y.fr ≤ 100000) :
  Calls Tryz.prog 15 #[(vP bs 0), (vS key)] w fun e w' => ∃ (X2 : DX), e = .returned (.int .i64 0) ∧ Back [cDisk bd X sz secs [], cStore bs bd first Y] w [cDisk bd X2 sz (applyW secs (wpB first sz v.b.secs v.b.secs.length)) [], cStore bs bd first (delY Y v)] w' := by
 have _u0 := hk
 have _u1 := hkl
 have _u2 := hs
 have _u3 := hl
 have _u4 := hz
 have _u5 := hreg
 have _u6 := hsec
 clear _u0 _u1 _u2 _u3 _u4 _u5 _u6
 refine stEnter (args := [(vP bs 0), (vS key)]) (fps [cDisk bd X sz secs [], cStore bs bd first Y]) Tryz.func15 rfl 65 rfl [(0, (vP bs 0)), (1, (vS key))] ⟨rfl, rfl, trivial⟩ [cDisk bd X sz secs [], cStore bs bd first Y] (hO) ?_
 refine stSeq ?_
 obtain ⟨l1, l2⟩ := hl
 obtain ⟨z1, z2⟩ := hz
 obtain ⟨s1, s2⟩ := hsec
 refine reg ?_
 refine la ?_
 refine liNil (qThen (stSeq (stSeq (reg ?_))))
 refine lm ?_
 refine li rfl ?_
 refine opK0 (fun w hM => (sStop_no bs bd (vI first) (vI Y.us.length) (.int .u64 ((Y.num : Nat) : Int)) (.map (some Y.bm)) (vL Y.Au Y.us (Y.cu)) (.slice none 0 0) (vI Y.fr) (vI sz) (vL X.Ad X.dv (X.cd)) (vL X.Ap X.pv (X.cp)) (.map (some X.lat)) (.int .i64 (-1)) w (hM.keep0 (j := 1) rfl (fun _ h => store_at h)) (hM.keep0 (j := 0) rfl (fun _ h => disk_at h))).mono ?_)
 rintro e w' ⟨rfl, hP⟩
 refine ⟨_, _, rfl, hP, ?_⟩; clear hP hM
 refine liNil (qThen (stFalse rfl (stSkip (qThen (stSeq (reg ?_))))))
 refine lm ?_
 refine lc (vP bs 0) ?_
 refine lc (vP bs 4) ?_
 refine lv (v := (.map (some Y.bm))) (rLoadW rfl rfl (by kernel_rfl) (fun w hM => At.cell (store_at (hM.at (i := 1) rfl)) 4)) ?_
 refine lm ?_
 refine lv (v := (.tuple #[(.agg #[(.int .u64 ((v.b.num : Nat) : Int)), (vI v.b.len), (vI v.b.data.length), (vS (sha v.b.data)), (vL v.A v.b.secs (v.c))]), (.bool true)])) (rConv (rMapGetOkW (D := kB) (val := bvV) (a := key) rfl rfl rfl Tryz.underlying63 Tryz.zeroValue70 (fun w hM => store_map (hM.at (i := 1) rfl)) (by show _ ≤ 1099511627776; omega)) (by rw [hk]; rfl)) ?_
 refine lm ?_
 refine lc (.agg #[(.int .u64 ((v.b.num : Nat) : Int)), (vI v.b.len), (vI v.b.data.length), (vS (sha v.b.data)), (vL v.A v.b.secs (v.c))]) ?_
 refine lc (.bool true) ?_
 refine li rfl ?_
 refine opAlloc [(.int .u64 0), (.int .i64 0), (.int .i64 0), (.string ⟨#[]⟩), (.slice none 0 0)] rfl rfl (by kernel_rfl) (by kernel_rfl) (fun b5 => ?_)
 refine li rfl ?_
 refine opStoreN 2 [(.int .u64 ((v.b.num : Nat) : Int)), (vI v.b.len), (vI v.b.data.length), (vS (sha v.b.data)), (vL v.A v.b.secs (v.c))] (vs := [(.int .u64 ((v.b.num : Nat) : Int)), (vI v.b.len), (vI v.b.data.length), (vS (sha v.b.data)), (vL v.A v.b.secs (v.c))]) rfl rfl (by kernel_rfl) rfl rfl rfl (by kernel_rfl) rfl (by simp) (by simp [Value.oneCell']) rfl ?_
 refine la ?_
 refine liNil (qThen (stSeq (stSeq (reg ?_))))
 refine lm ?_
 refine lc (.bool false) ?_
 refine liNil (qThen (stFalse rfl (stSkip (qThen (stSeq (stSeq (reg ?_)))))))
 refine lm ?_
 refine li rfl ?_
 refine opK [1] [cStore bs bd first Y] (fun w hM hO => (sClear_any bs bd first Y w hO).mono ?_)
 rintro e w' ⟨rfl, hP⟩
 refine ⟨_, [cStore bs bd first Y], _, rfl, hP, rfl, ?_⟩; clear hP hM hO
 refine la ?_
 refine liNil (qThen (stSeq ?_))
 refine St.to [cDisk bd X sz secs [], cStore bs bd first Y, cAt b5 70 [(.int .u64 ((v.b.num : Nat) : Int)), (vI v.b.len), (vI v.b.data.length), (vS (sha v.b.data)), (vL v.A v.b.secs (v.c))]] (by kernel_rfl) ?_
 refine reg ?_
 refine lm ?_
 refine lc (.bool false) ?_
 refine liNil (qThen (stFalse rfl (stSkip (qThen (stSeq (stSeq (reg ?_)))))))
 refine lm ?_
 refine lc (vP b5 4) ?_
 refine lv (v := (vL v.A v.b.secs (v.c))) (rLoad 2 rfl rfl (by kernel_rfl) rfl rfl) ?_
 refine li rfl ?_
 refine opK [0] [cDisk bd X sz secs []] (fun w hM hO => (sWipe_any bs bd first (vI Y.us.length) (.int .u64 ((Y.num : Nat) : Int)) (.map (some Y.bm)) (vL Y.Au Y.us (Y.cu)) (.slice none 0 0) (vI Y.fr) (.bool false) X sz secs v.A v.c v.b.secs w hO (hM.keepS [0] (j := 1) rfl (fun _ h => store_at h)) (hM.keepS [0] (j := 1) rfl (fun _ h => store_row h (kvGet_mem hk))) (fun s h => by have := hs s h; omega) (⟨by omega, by omega⟩) (⟨by omega, by omega⟩) (by omega)).mono ?_)
 rintro e w' ⟨X232, rfl, hP⟩
 refine ⟨_, [cDisk bd X232 sz (applyW secs (wpB first sz v.b.secs v.b.secs.length)) []], _, rfl, hP, rfl, ?_⟩; clear hP hM hO
 refine la ?_
 refine liNil (qThen (stSeq (reg ?_)))
 refine lm ?_
 refine lc (.bool false) ?_
 refine liNil (qThen (stFalse rfl (stSkip (qThen (stSeq (stSeq ?_))))))
 refine St.fact (fun w hM => (Mm.unpack (A := [cDisk bd X232 sz (applyW secs (wpB first sz v.b.secs v.b.secs.length)) []]) (B := [cAt b5 70 [(.int .u64 ((v.b.num : Nat) : Int)), (vI v.b.len), (vI v.b.data.length), (vS (sha v.b.data)), (vL v.A v.b.secs (v.c))]]) hM).2) (fun sw => ?_)
 refine St.mem (cs' := [cDisk bd X232 sz (applyW secs (wpB first sz v.b.secs v.b.secs.length)) [], cAt bs 66 [(vP bd 0), (vI first), (vI Y.us.length), (.int .u64 ((Y.num : Nat) : Int)), (.map (some Y.bm)), (vL Y.Au Y.us (Y.cu)), (.slice none 0 0), (vI Y.fr), (.bool false)], cMap kB bvV Y.bm Y.kv, cOwn 4 1 Y.Au (Y.us.length) (Y.cu) (BB Y.us), cInts Y.L, cAt b5 70 [(.int .u64 ((v.b.num : Nat) : Int)), (vI v.b.len), (vI v.b.data.length), (vS (sha v.b.data)), (vL v.A v.b.secs (v.c))]]) (fun w hM => (Mm.unpack (A := [cDisk bd X232 sz (applyW secs (wpB first sz v.b.secs v.b.secs.length)) []]) (B := [cAt b5 70 [(.int .u64 ((v.b.num : Nat) : Int)), (vI v.b.len), (vI v.b.data.length), (vS (sha v.b.data)), (vL v.A v.b.secs (v.c))]]) hM).1) ?_
 have hvk : key = v.b.key := sw.key _ (kvGet_mem hk)
 refine reg ?_
 refine lc (vP b5 4) ?_
 refine lv (v := (vL v.A v.b.secs (v.c))) (rLoad 5 rfl rfl (by kernel_rfl) rfl rfl) ?_
 refine lc (vI v.b.secs.length) ?_
 refine lm ?_
 refine liNil (qThen (stBlock ?_))
 refine stLoop (ι := Nat) (fun i => i ≤ v.b.secs.length) (fun i => v.b.secs.length - i) (fun i => [(0, (vP bs 0)), (1, (vS key)), (4, (.int .i64 0)), (5, (vP b5 0)), (37, (vL v.A v.b.secs (v.c))), (38, (vI v.b.secs.length)), (39, (vI i))]) (fun i => [cDisk bd X232 sz (applyW secs (wpB first sz v.b.secs v.b.secs.length)) [], cAt bs 66 [(vP bd 0), (vI first), (vI Y.us.length), (.int .u64 ((Y.num : Nat) : Int)), (.map (some Y.bm)), (vL Y.Au Y.us (Y.cu)), (.slice none 0 0), (vI Y.fr), (.bool false)], cMap kB bvV Y.bm Y.kv, cOwn 4 1 Y.Au (Y.us.length) (Y.cu) (BB (setFl Y.us (v.b.secs.take i) false)), cInts Y.L, cAt b5 70 [(.int .u64 ((v.b.num : Nat) : Int)), (vI v.b.len), (vI v.b.data.length), (vS (sha v.b.data)), (vL v.A v.b.secs (v.c))]]) 0 (Nat.zero_le _) ⟨rfl, rfl, rfl, rfl, rfl, rfl, rfl, trivial⟩ (fun _ h => h) ?_
 intro i hok
 show St _ _ _ [(0, (vP bs 0)), (1, (vS key)), (4, (.int .i64 0)), (5, (vP b5 0)), (37, (vL v.A v.b.secs (v.c))), (38, (vI v.b.secs.length)), (39, (vI i))] [cDisk bd X232 sz (applyW secs (wpB first sz v.b.secs v.b.secs.length)) [], cAt bs 66 [(vP bd 0), (vI first), (vI Y.us.length), (.int .u64 ((Y.num : Nat) : Int)), (.map (some Y.bm)), (vL Y.Au Y.us (Y.cu)), (.slice none 0 0), (vI Y.fr), (.bool false)], cMap kB bvV Y.bm Y.kv, cOwn 4 1 Y.Au (Y.us.length) (Y.cu) (BB (setFl Y.us (v.b.secs.take i) false)), cInts Y.L, cAt b5 70 [(.int .u64 ((v.b.num : Nat) : Int)), (vI v.b.len), (vI v.b.data.length), (vS (sha v.b.data)), (vL v.A v.b.secs (v.c))]] _
 refine stSeq (reg ?_)
 refine lc (.bool (decide (((i : Nat) : Int) < ((v.b.secs.length : Nat) : Int)))) ?_
 refine liNil (qThen (stSeq ?_))
 refine stCond rfl (fun hc40 => ?_) (fun hc40 => ?_)
 ·have hd40 := of_decide_eq_true hc40
  refine stSkip (qThen (stSeq (stBlock (stSeq (reg ?_)))))
  obtain ⟨x0, hx0⟩ : ∃ ξ, (v.b.secs)[i]? = some ξ := ⟨_, List.getElem?_eq_getElem (by omega)⟩
  refine St.rowPtr (fun w hM => ints_row (hM.at (i := 4) rfl) (sw.row _ (kvGet_mem hk))) (II_at hx0) (fun p41 q41 hA41 hc41 => ?_)
  refine lv (v := (vP p41 (q41 + i))) (rIndexRow (e := 3) rfl (by kernel_rfl) (by kernel_rfl) rfl rfl hA41 (by omega)) ?_
  refine lv (v := (vI x0)) (rLoadW rfl rfl (by kernel_rfl) hc41) ?_
  refine la ?_
  refine liNil (qThen ?_)
  have hxs := hs _ (List.mem_of_getElem? hx0)
  refine St.ownSome 3 rfl (by omega) (fun g hg => ?_)
  refine reg ?_
  refine lm ?_
  refine lc (vP bs 0) ?_
  refine lc (vP bs 5) ?_
  refine lv (v := (vL Y.Au Y.us (Y.cu))) (rLoad 1 rfl rfl (by kernel_rfl) rfl rfl) ?_
  refine lm ?_
  refine lv (v := (vP g (0 + x0))) (rIndexRow (e := 4) rfl (by kernel_rfl) (by kernel_rfl) rfl rfl hg (by omega)) ?_
  refine li rfl ?_
  refine opStoreOwnA 3 hg (BB (setFl Y.us (v.b.secs.take (i + 1)) false)) rfl rfl (by kernel_rfl) rfl rfl rfl (by kernel_rfl) rfl (by rw [List.length_map, setFl_len]; omega) (by rw [setFl_take hx0, ← List.map_set]) ?_
  refine liNil (qBlock (qThen (reg ?_)))
  refine lv (v := (vI (i + 1))) (rAdd _ rfl rfl rfl (by omega) (by omega) (by omega)) ?_
  refine lm ?_
  refine liNil (qThen ?_)
  exact stAgain (i + 1) (by show _ ≤ _; omega) (by show _ - _ < _ - _; omega) ⟨rfl, rfl, rfl, rfl, rfl, rfl, rfl, trivial⟩ (fun w hM => hM)
 ·have hd40 := of_decide_eq_false hc40
  refine stExit (qThenX (qThenX (qBlockX (qThen (stSeq ?_)))))
  refine anyBegin [cDisk bd X232 sz (applyW secs (wpB first sz v.b.secs v.b.secs.length)) [], cAt bs 66 [(vP bd 0), (vI first), (vI Y.us.length), (.int .u64 ((Y.num : Nat) : Int)), (.map (some Y.bm)), (vL Y.Au Y.us (Y.cu)), (.slice none 0 0), (vI Y.fr), (.bool false)], cMap kB bvV Y.bm Y.kv, cOwn 4 1 Y.Au (Y.us.length) (Y.cu) (BB (setFl Y.us (v.b.secs.take i) false)), cInts Y.L, cAt b5 70 [(.int .u64 ((v.b.num : Nat) : Int)), (vI v.b.len), (vI v.b.data.length), (vS (sha v.b.data)), (vL v.A v.b.secs (v.c))]] 10 (by kernel_rfl) (fun _ h => h) ?_
  refine am 0 ?_
  refine ac 1 (vP bs 0) ?_
  refine ac 2 (vP bs 7) ?_
  refine av 3 (vI Y.fr) rfl (rLoad 1 rfl rfl (by kernel_rfl) rfl rfl) ?_
  refine ac 4 (vP b5 4) ?_
  refine av 5 (vL v.A v.b.secs (v.c)) rfl (rLoad 5 rfl rfl (by kernel_rfl) rfl rfl) ?_
  refine ac 6 (vI v.b.secs.length) ?_
  refine av 7 (vI (Y.fr + v.b.secs.length)) rfl (rAdd _ rfl rfl rfl (by omega) (by omega) (by omega)) ?_
  refine ac 8 (vP bs 0) ?_
  refine ac 9 (vP bs 7) ?_
  refine a1 10 ?_
  refine opStore1 1 rfl rfl (by kernel_rfl) rfl rfl rfl (by kernel_rfl) rfl (by simp) ?_
  refine anyLast (by kernel_rfl) rfl ?_
  refine qThen (stSeq (reg ?_))
  refine lm ?_
  refine lc (vP bs 0) ?_
  refine lc (vP bs 4) ?_
  refine lv (v := (.map (some Y.bm))) (rLoad 1 rfl rfl (by kernel_rfl) rfl rfl) ?_
  refine lm ?_
  refine li rfl ?_
  refine opMapDelK0 (D := kB) (val := bvV) (a := key) 2 (kvDel Y.kv key) rfl rfl (by kernel_rfl) rfl rfl Tryz.underlying63 rfl (by show key.length ≤ _; omega) rfl ?_
  refine liNil (qThen (stSeq ?_))
  refine St.to [cDisk bd X232 sz (applyW secs (wpB first sz v.b.secs v.b.secs.length)) [], cAt bs 66 [(vP bd 0), (vI first), (vI Y.us.length), (.int .u64 ((Y.num : Nat) : Int)), (.map (some Y.bm)), (vL Y.Au Y.us (Y.cu)), (.slice none 0 0), (vI (Y.fr + v.b.secs.length)), (.bool false)], cMap kB bvV Y.bm (kvDel Y.kv key), cOwn 4 1 Y.Au (Y.us.length) (Y.cu) (BB (setFl Y.us (v.b.secs.take i) false)), cInts Y.L, cAt b5 70 [(.int .u64 ((v.b.num : Nat) : Int)), (vI v.b.len), (vI v.b.data.length), (vS (sha v.b.data)), (vL v.A v.b.secs (v.c))]] (by kernel_rfl) ?_
  refine reg ?_
  refine la ?_
  refine liNil (qThen (stRet ?_))
  refine stEnd [(.int .i64 0)] rfl ⟨rfl, trivial⟩ (fun w hM => ?_)
  have hM2 := hM.pick [0, 1, 2, 3, 4] rfl rfl
  obtain rfl : i = v.b.secs.length := by omega
  have e1 : (vL Y.Au Y.us (Y.cu)) = Value.slice Y.Au (setFl Y.us v.b.secs false).length Y.cu := by show Value.slice _ _ _ = _; rw [setFl_len]
  rw [List.take_length, e1, ← setFl_len Y.us v.b.secs false, hvk] at hM2
  exact ⟨_, rfl, Mm.pack (A := [_]) (B := []) hM2 (delY_wf sw v)⟩
theorem sFree_any (bs : Nat) (bd : Nat) (u1 : Value) (u2 : Value) (u3 : Value) (u4 : Value) (u5 : Value) (u6 : Value) (fr : Nat) (u8 : Value) (sz : Nat) (v1 : Value) (v2 : Value) (v3 : Value) (v4 : Value) (v5 : Value) (w : World) (r0 : Rf [] w (fun w => At w bs 66 [(vP bd 0), u1, u2, u3, u4, u5, u6, (vI fr), u8])) (r1 : Rf [] w (fun w => At w bd 59 [(vI sz), v1, v2, v3, v4, v5])) (hsz : 33 ≤ sz ∧ sz ≤ 4096) (hf : fr ≤ 100000) :
  Calls Tryz.prog 17 #[(vP bs 0)] w fun e w' => e = .returned (.int .i64 (freeI sz fr)) ∧ Back [] w [] w' := by
 have _u0 := r0
 have _u1 := r1
 have _u2 := hsz
 have _u3 := hf
 clear _u0 _u1 _u2 _u3
 refine stEnter (args := [(vP bs 0)]) (fps []) Tryz.func17 rfl 16 rfl [(0, (vP bs 0))] ⟨rfl, trivial⟩ [] (Mm.start w []) ?_
 refine stSeq ?_
 obtain ⟨z1, z2⟩ := hsz
 obtain ⟨m, hm⟩ : ∃ m, fr * (sz - 32) = m := ⟨_, rfl⟩
 have hm2 : m ≤ 100000 * 4096 := by rw [← hm]; exact Nat.mul_le_mul hf (by omega)
 refine reg ?_
 refine la ?_
 refine liNil (qThen (stSeq ?_))
 refine anyBegin [] 10 (by kernel_rfl) (fun _ h => h) ?_
 refine am 0 ?_
 refine ac 1 (vP bs 0) ?_
 refine ac 2 (vP bs 7) ?_
 refine av 3 (vI fr) rfl (rLoadW rfl rfl (by kernel_rfl) (fun w hM => At.cell (r0.now hM) 7)) ?_
 refine am 4 ?_
 refine a1 5 ?_
 refine opK0 (fun w hM => (sRoom_any bs bd u1 u2 u3 u4 u5 u6 (vI fr) u8 sz v1 v2 v3 v4 v5 w (r0.go0 hM) (r1.go0 hM) (⟨by omega, by omega⟩)).mono ?_)
 rintro e w' ⟨rfl, hP⟩
 refine ⟨_, _, rfl, hP, ?_⟩; clear hP hM
 refine anyNext [] (fun _ h => h) (fun _ h => h) ?_
 refine av 6 (vI m) rfl (rMul _ rfl rfl rfl (by rw [← hm]; exact (Int.natCast_mul _ _).symm) (by omega) (by omega)) ?_
 refine av 7 (.int .i64 (((m : Nat) : Int) - 33)) rfl (rSub _ rfl rfl rfl rfl (by omega) (by omega)) ?_
 refine av 8 (.int .i64 ((((m : Nat) : Int) - 33) - 64)) rfl (rSub _ rfl rfl rfl rfl (by omega) (by omega)) ?_
 refine aa 9 ?_
 refine anyDone (by kernel_rfl) ?_
 refine qThen (stSeq (reg ?_))
 refine lm ?_
 refine lv (v := (.int .i64 (min (((m : Nat) : Int) - 33 - 64) 65536))) (rMinZ rfl rfl rfl) ?_
 refine lv (v := (.int .i64 (max (-1) (min (((m : Nat) : Int) - 33 - 64) 65536)))) (rMaxZ rfl rfl rfl) ?_
 refine la ?_
 refine liNil (qThen (stRet ?_))
 refine stEnd [(.int .i64 (max (-1) (min (((m : Nat) : Int) - 33 - 64) 65536)))] rfl ⟨rfl, trivial⟩ (fun w hM => ?_)
 exact ⟨by rw [← hm]; rfl, hM⟩
end Go.Proofs.YtaiggifiefnjnaaGreatDoor
namespace Go.Proofs.YtaiggifiefnjnaaGreatDoor
open Go.RowKit
theorem byteAt_succ (n m : Nat) : byteAt n (m + 1) = byteAt (n / 256) m := by
 unfold byteAt
 rw [Nat.div_div_eq_div_mul, show 8 * (m + 1) = 8 * m + 8 by omega, Nat.pow_add, Nat.mul_comm (2 ^ (8 * m))]
theorem numB_succ (n k : Nat) : numB n (k + 1) = numB (n / 256) k ++ [byteAt n 0] := by
 unfold numB
 rw [List.range_succ, List.map_append]
 congr 1
 ·refine List.map_congr_left fun j hj => ?_
  rw [List.mem_range] at hj
  rw [show k + 1 - 1 - j = (k - 1 - j) + 1 by omega, byteAt_succ]
 ·simp
theorem valB_numB {n k : Nat} (h : n < 256 ^ k) : valB (numB n k) = n := by
 induction k generalizing n with
 | zero => simp at h; subst h; rfl
 | succ k ih =>
   rw [numB_succ, valB_snoc, ih (by rw [Nat.pow_succ] at h; omega), byteAt_nat]
   simp only [Nat.mul_zero, Nat.pow_zero, Nat.div_one]
   omega
section
variable {s size num idx st : Nat} {part : Bs}
theorem packB_drop : (packB s size num idx st part).drop 16 = bodyB size num idx st part := by
 unfold packB
 rw [List.drop_left' (chkB_len _ _)]
theorem okB_pack : okB s (packB s size num idx st part) = true := by
 unfold okB
 rw [packB_drop, decide_eq_true_eq]
 unfold packB
 rw [List.take_left' (chkB_len _ _)]
theorem headB_pack (h1 : num < 18446744073709551616) (h2 : idx < 4294967296) (h3 : st < 4294967296) : headB (packB s size num idx st part) = (num, idx, st) := by
 unfold headB
 rw [packB_drop]
 have e1 : (bodyB size num idx st part).take 8 = numB num 8 := by
  unfold bodyB
  rw [List.append_assoc, List.append_assoc, List.append_assoc, List.take_left' (numB_len _ _)]
 have e2 : ((bodyB size num idx st part).take 12).drop 8 = numB idx 4 := by
  unfold bodyB
  rw [List.append_assoc, List.append_assoc, List.take_left' (by simp [numB_len]), List.drop_left' (numB_len _ _)]
 have e3 : ((bodyB size num idx st part).take 16).drop 12 = numB st 4 := by
  unfold bodyB
  rw [List.append_assoc, List.take_left' (by simp [numB_len]), List.drop_left' (by simp [numB_len])]
 rw [e1, e2, e3, valB_numB h1, valB_numB h2, valB_numB h3]
theorem packB_drop32 : (packB s size num idx st part).drop 32 = part ++ zerosB (size - 32 - part.length) := by
 rw [show 32 = 16 + 16 from rfl, ← List.drop_drop, packB_drop]
 unfold bodyB
 rw [List.append_assoc, List.drop_left' (by simp [numB_len])]
end
theorem divB_stream {b : Bl} (h1 : 1 ≤ b.key.length) (h2 : b.key.length ≤ 64) (h3 : b.data.length ≤ 65536) : divB b.stream = some (b.key, sha b.data, b.data) := by
 have e : (UInt8.ofNat b.key.length).toNat = b.key.length := by rw [UInt8.toNat_ofNat']; omega
 have hs := sha_len b.data
 have hl := b.stream_len
 unfold Bl.len at hl
 unfold divB
 rw [if_neg (by omega)]
 have e0 : (b.stream.headD 0).toNat = b.key.length := e
 have e1 : b.stream.drop (33 + b.key.length) = b.data := by
  unfold Bl.stream
  rw [show 33 + b.key.length = (32 + b.key.length) + 1 by omega, List.drop_succ_cons, List.drop_left' (by simp [hs])]
 have e2 : (b.stream.take 33).drop 1 = sha b.data := by
  unfold Bl.stream
  rw [List.take_succ_cons, List.drop_succ_cons, List.drop_zero, List.append_assoc, List.take_left' hs]
 have e3 : (b.stream.take (33 + b.key.length)).drop 33 = b.key := by
  unfold Bl.stream
  rw [show 33 + b.key.length = (32 + b.key.length) + 1 by omega, List.take_succ_cons, List.drop_succ_cons, List.take_left' (by simp [hs]), List.drop_left' hs]
 simp only [e0, e1, e2, e3]
 rw [if_neg (by omega), if_neg (by simp; omega)]
def Bl.acc (sz : Nat) (b : Bl) (i : Nat) : Bs := ((List.range i).map fun j => (b.sec sz j (b.secs.getD j 0)).drop 32).flatten
theorem Bl.acc_succ {sz : Nat} {b : Bl} {i s : Nat} (h : b.secs[i]? = some s) : b.acc sz (i + 1) = b.acc sz i ++ (b.sec sz i s).drop 32 := by
 unfold Bl.acc
 rw [List.range_succ, List.map_append, List.flatten_append]
 simp [List.getD, h]
theorem Bl.part_len {sz : Nat} {b : Bl} {i : Nat} : (b.part sz i).length ≤ sz - 32 := by
 unfold Bl.part
 rw [List.length_drop, List.length_take, Nat.add_mul]
 omega
theorem Bl.sec_len {sz : Nat} {b : Bl} {i s : Nat} (hz : 32 ≤ sz) : (b.sec sz i s).length = sz := packB_len (by have := Bl.part_len (sz := sz) (b := b) (i := i); omega)
theorem Bl.acc_eq {sz : Nat} {b : Bl} (hz : 33 ≤ sz) {i : Nat} (hi : i ≤ needN sz b.len) : b.acc sz i = (b.stream ++ zerosB (sz - 32)).take (i * (sz - 32)) := by
 induction i with
 | zero => simp [Bl.acc]
 | succ i ih =>
   have h1 : b.acc sz (i + 1) = b.acc sz i ++ (b.sec sz i (b.secs.getD i 0)).drop 32 := by
    unfold Bl.acc
    rw [List.range_succ, List.map_append, List.flatten_append]
    simp
   obtain ⟨m1, m2, m3⟩ := need_mul (i := i) (sz := sz) (n := b.len) (by omega) hz
   rw [h1, ih (by omega), m3, List.take_add]
   congr 1
   unfold Bl.sec
   rw [packB_drop32, Bl.part, m3]
   have hl := b.stream_len
   obtain ⟨lo, hlo⟩ : ∃ lo, i * (sz - 32) = lo := ⟨_, rfl⟩
   obtain ⟨r, hr⟩ : ∃ r, sz - 32 = r := ⟨_, rfl⟩
   rw [hlo, hr]
   rw [hlo] at m1
   rw [List.drop_append_of_le_length (by omega), List.take_append, List.length_drop]
   have e1 : (b.stream.take (min (lo + r) b.stream.length)).drop lo = (b.stream.drop lo).take r := by
    rw [List.drop_take]
    rcases Nat.le_total (lo + r) b.stream.length with h | h
    ·rw [Nat.min_eq_left h, Nat.add_sub_cancel_left]
    ·rw [Nat.min_eq_right h, List.take_of_length_le (by rw [List.length_drop]; omega), List.take_of_length_le (by rw [List.length_drop]; omega)]
   rw [e1]
   congr 1
   unfold zerosB
   rw [List.take_replicate, List.length_take, List.length_drop]
   congr 1
   omega
theorem need_ge {sz n : Nat} (hz : 33 ≤ sz) : n ≤ needN sz n * (sz - 32) := by
 unfold needN
 obtain ⟨r, hr⟩ : ∃ r, sz - 32 = r := ⟨_, rfl⟩
 rw [hr]
 have hr0 : 0 < r := by omega
 have h1 := Nat.div_add_mod (n + r - 1) r
 have h2 := Nat.mod_lt (n + r - 1) hr0
 rw [Nat.mul_comm] at h1
 omega
theorem Bl.acc_all {sz : Nat} {b : Bl} (hz : 33 ≤ sz) : (b.acc sz (needN sz b.len)).take b.len = b.stream ∧ b.len ≤ (b.acc sz (needN sz b.len)).length := by
 have hl := b.stream_len
 have h1 := need_ge (n := b.len) hz
 rw [Bl.acc_eq hz (Nat.le_refl _), List.take_take, Nat.min_eq_left h1]
 refine ⟨List.take_left' hl, ?_⟩
 rw [List.length_take, List.length_append]
 omega
theorem Bl.acc_le {sz : Nat} {b : Bl} (hz : 33 ≤ sz) {i : Nat} (hi : i ≤ needN sz b.len) : (b.acc sz i).length ≤ b.len + sz := by
 rw [Bl.acc_eq hz hi, List.length_take, List.length_append, b.stream_len]
 simp [zerosB]
 omega
end Go.Proofs.YtaiggifiefnjnaaGreatDoor
namespace Go.Proofs.YtaiggifiefnjnaaGreatDoor
open Go.RowKit
theorem part_int {P : Program} {t : TypeId} {k : IntKind} (h : P.underlying t = some (.int k)) {cs : Array Value} {j : Nat} {v : Value} (hv : cs[j]? = some v) (w : World) : (part t cs j).run P w = .ok v w := by
 unfold part
 simp only [Sem.run_bind, run_isAgg_plain h rfl w, Result.andThen_ok, hv]
 rfl
theorem rHeadNe {w0 : World} {F : List Nat} {E : Env} {cs : List Ch} {o : Oper} {u : TypeId} {x y : Operand} {a b c : Int} (ho : o.op = .binOp .neq 103 x y u) (hx : evO E x = some (.agg #[.int .u64 a, .int .i64 b, .int .i64 c])) (hy : evO E y = some (.agg #[.int .u64 a, .int .i64 b, .int .i64 c])) : RunV Tryz.prog w0 F cs E o (.bool false) := fun w _ => by
 have hu : Tryz.prog.underlying 103 = some (.struct (Tryz.prog.fieldsOf 103)) := by rw [Program.fieldsOf, Tryz.underlying103]
 have hp : Tryz.prog.stoodInHeld 103 = false := by kernel_rfl
 have hg : Tryz.prog.eqGuardType Tryz.prog.depth 103 = false := by kernel_rfl
 have key : (Op.eqFields 9999 #[.int .u64 a, .int .i64 b, .int .i64 c] #[.int .u64 a, .int .i64 b, .int .i64 c] (Tryz.prog.fieldsOf 103).toList).run Tryz.prog w = .ok true w := by
  rw [Program.fieldsOf, Tryz.underlying103]
  simp only [Op.eqFields]
  simp [part_int (cs := #[.int .u64 a, .int .i64 b, .int .i64 c]) (j := 0) Tryz.underlying62 (v := .int .u64 a) rfl, part_int (cs := #[.int .u64 a, .int .i64 b, .int .i64 c]) (j := 1) Tryz.underlying3 (v := .int .i64 b) rfl, part_int (cs := #[.int .u64 a, .int .i64 b, .int .i64 c]) (j := 2) Tryz.underlying3 (v := .int .i64 c) rfl, run_equalIn_int _ _ _ _ _ _ _ Tryz.underlying62, run_equalIn_int _ _ _ _ _ _ _ Tryz.underlying3]
 unfold execOp
 simp only [ho, evE_of hx, evE_of hy, Sem.run_bind, run_eqGuard_agg _ _ _ _ _ _ _ hg, Result.andThen_ok, run_neq_struct, run_equalIn_agg _ _ _ _ _ hu hp, key]
 rfl
theorem Mm.toRwTake {w0 w : World} {F : List Nat} {cs : List Ch} (h : Mm w0 F cs w) (i : Nat) {A : Option Addr} {m c : Nat} {l : Bs} (hi : cs[i]? = some (cOwn 5 1 A m c (B8 l))) (k : Nat) : Mm w0 F (cs.set i (cRw A (B8 (l.take k)))) w :=
 h.swap i hi (c' := cRw A (B8 (l.take k))) (Fr.refl _ _) (rowTake k (RowIn.of_own (h.at hi))) (fun b hb => .inl (by simp only [cRw] at hb; split at hb <;> simp_all [cOwn])) (by simp only [cRw]; split <;> simp [ownFp_nodup])
theorem dReadL_any (bd : Nat) (X : DX) (sz : Nat) (secs : List Bs) (i : Nat) (s : Bs) (w : World) (hO : Own [cDisk bd X sz secs []] w) (hs : secs[i]? = some s) :
  Calls Tryz.prog 58 #[(vP bd 0), (vI i)] w fun e w' => ∃ (b : Nat), e = .returned (.tuple #[(vL (some ⟨b, 0, none⟩) s (s.length)), (.int .i64 0)]) ∧ Back [cDisk bd X sz secs []] w [cDisk bd X sz secs [], cAt b 5 (B8 s)] w' ∧ (s.length = sz) := by
 refine (dRead_any bd X sz secs i s w hO hs).mono ?_
 rintro e w' ⟨b, rfl, hP, hl⟩
 exact ⟨b, by simp only [vL, hl], hP, hl⟩
theorem sStream_ok (bs : Nat) (bd : Nat) (first : Nat) (u2 : Value) (u3 : Value) (u4 : Value) (u5 : Value) (u6 : Value) (u7 : Value) (u8 : Value) (X : DX) (sz : Nat) (secs : List Bs) (b : Bl) (vc : Value) (vs : Value) (A : Option Addr) (c : Nat) (w : World) (hO : Own [cDisk bd X sz secs []] w) (r0 : Rf [cDisk bd X sz secs []] w (Vars)) (r1 : Rf [cDisk bd X sz secs []] w (fun w => At w bs 66 [(vP bd 0), (vI first), u2, u3, u4, u5, u6, u7, u8])) (r2 : Rf [cDisk bd X sz secs []] w (fun w => RowIn w A (II b.secs))) (hb : b.key.length ≤ 64 ∧ b.data.length ≤ 65536 ∧ b.num ≤ 1000000 ∧ b.secs.length ≤ 100000) (hd : ∀ (i s : Nat), b.secs[i]? = some s → s ≤ 100000 ∧ first + s ≤ 200000 ∧ secs[first + s]? = some (b.sec sz i s)) (hl : b.secs.length = needN sz b.len) (hsz : 64 ≤ sz ∧ sz ≤ 4096) (h1 : vc.oneCell' = true ∧ vs.oneCell' = true) :
  Calls Tryz.prog 46 #[(vP bs 0), (.agg #[(.int .u64 ((b.num : Nat) : Int)), (vI b.len), vc, vs, (vL A b.secs c)])] w fun e w' => ∃ (S : Option Addr) (cs : Nat), e = .returned (.tuple #[(vL S b.stream cs), (.bool true), (.int .i64 0)]) ∧ Back [cDisk bd X sz secs []] w [cDisk bd X sz secs [], cRw S (B8 b.stream)] w' ∧ (b.stream.length ≤ cs) := by
 have _u0 := r0
 have _u1 := r1
 have _u2 := r2
 have _u3 := hb
 have _u4 := hd
 have _u5 := hl
 have _u6 := hsz
 have _u7 := h1
 clear _u0 _u1 _u2 _u3 _u4 _u5 _u6 _u7
 refine stEnter (args := [(vP bs 0), (.agg #[(.int .u64 ((b.num : Nat) : Int)), (vI b.len), vc, vs, (vL A b.secs c)])]) (fps [cDisk bd X sz secs []]) Tryz.func46 rfl 73 rfl [(0, (vP bs 0)), (1, (.agg #[(.int .u64 ((b.num : Nat) : Int)), (vI b.len), vc, vs, (vL A b.secs c)]))] ⟨rfl, rfl, trivial⟩ [cDisk bd X sz secs []] (hO) ?_
 refine stSeq ?_
 obtain ⟨g1, g2, g3, g4⟩ := hb
 obtain ⟨z1, z2⟩ := hsz
 obtain ⟨o1, o2⟩ := h1
 have hbl : b.len = 33 + b.key.length + b.data.length := rfl
 have hsl := b.stream_len
 refine reg (li rfl ?_)
 refine opBox [(.int .u64 ((b.num : Nat) : Int)), (vI b.len), vc, vs, (vL A b.secs c)] rfl rfl (by kernel_rfl) rfl rfl (fun b3 => ?_)
 refine la ?_
 refine la ?_
 refine la ?_
 refine liNil (qThen (stSeq (reg ?_)))
 refine la ?_
 refine liNil (qThen (stSeq (stSeq (reg ?_))))
 refine lc (vP b3 4) ?_
 refine lv (v := (vL A b.secs c)) (rLoad 1 rfl rfl (by kernel_rfl) rfl rfl) ?_
 refine lc (vI b.secs.length) ?_
 refine lm ?_
 refine liNil (qThen (stBlock ?_))
 refine St.mem (fun w hM => hM.nilOwn 5 1) ?_
 refine stLoop (ι := Nat × Option Addr × Nat) (fun (i, S, cs) => i ≤ b.secs.length) (fun (i, S, cs) => b.secs.length - i) (fun (i, S, cs) => [(0, (vP bs 0)), (3, (vP b3 0)), (4, (.slice none 0 0)), (5, (.bool false)), (6, (.int .i64 0)), (16, (vL A b.secs c)), (17, (vI b.secs.length)), (7, (vL S (b.acc sz i) cs)), (18, (vI i))]) (fun (i, S, cs) => [cDisk bd X sz secs [], cAt b3 70 [(.int .u64 ((b.num : Nat) : Int)), (vI b.len), vc, vs, (vL A b.secs c)], cB S (b.acc sz i) cs]) (0, none, 0) (Nat.zero_le _) ⟨rfl, rfl, rfl, rfl, rfl, rfl, rfl, rfl, rfl, trivial⟩ (fun _ h => h) ?_
 rintro ⟨i, S, cs⟩ hok
 show St _ _ _ [(0, (vP bs 0)), (3, (vP b3 0)), (4, (.slice none 0 0)), (5, (.bool false)), (6, (.int .i64 0)), (16, (vL A b.secs c)), (17, (vI b.secs.length)), (7, (vL S (b.acc sz i) cs)), (18, (vI i))] [cDisk bd X sz secs [], cAt b3 70 [(.int .u64 ((b.num : Nat) : Int)), (vI b.len), vc, vs, (vL A b.secs c)], cB S (b.acc sz i) cs] _
 refine stSeq (reg ?_)
 refine lc (.bool (decide (((i : Nat) : Int) < ((b.secs.length : Nat) : Int)))) ?_
 refine liNil (qThen (stSeq ?_))
 refine stCond rfl (fun hc19 => ?_) (fun hc19 => ?_)
 ·have hd19 := of_decide_eq_true hc19
  refine stSkip (qThen (stSeq (stBlock (stSeq (reg ?_)))))
  refine lm ?_
  obtain ⟨x0, hx0⟩ : ∃ ξ, (b.secs)[i]? = some ξ := ⟨_, List.getElem?_eq_getElem (by omega)⟩
  refine St.rowPtr (fun w hM => r2.now hM) (II_at hx0) (fun p21 q21 hA21 hc21 => ?_)
  refine lv (v := (vP p21 (q21 + i))) (rIndexRow (e := 3) rfl (by kernel_rfl) (by kernel_rfl) rfl rfl hA21 (by omega)) ?_
  refine lv (v := (vI x0)) (rLoadW rfl rfl (by kernel_rfl) hc21) ?_
  refine la ?_
  refine la ?_
  refine liNil (qThen (stSeq ?_))
  obtain ⟨d1, d2, d3⟩ := hd i x0 hx0
  have d4 : (b.sec sz i x0).length = sz := Bl.sec_len (by omega)
  have d5 : okB x0 (b.sec sz i x0) = true := okB_pack
  have d6 : headB (b.sec sz i x0) = (b.num, i, b.len) := headB_pack (by omega) (by omega) (by omega)
  refine anyBegin [cDisk bd X sz secs [], cAt b3 70 [(.int .u64 ((b.num : Nat) : Int)), (vI b.len), vc, vs, (vL A b.secs c)], cB S (b.acc sz i) cs] 10 (by kernel_rfl) (fun _ h => h) ?_
  refine am 0 ?_
  refine ac 1 (vP bs 0) ?_
  refine ac 2 (vP bs 0) ?_
  refine av 3 (vP bd 0) rfl (rLoadW rfl rfl (by kernel_rfl) (fun w hM => At.cell (r1.now hM) 0)) ?_
  refine am 4 ?_
  refine ac 5 (vP bs 0) ?_
  refine ac 6 (vP bs 1) ?_
  refine av 7 (vI first) rfl (rLoadW rfl rfl (by kernel_rfl) (fun w hM => At.cell (r1.now hM) 1)) ?_
  refine am 8 ?_
  refine av 9 (vI (first + x0)) rfl (rAdd _ rfl rfl rfl (by omega) (by omega) (by omega)) ?_
  refine a1 10 ?_
  refine opK [0] [cDisk bd X sz secs []] (fun w hM hO => (dReadL_any bd X sz secs (first + x0) (b.sec sz i x0) w hO (by assumption)).mono ?_)
  rintro e w' ⟨b34, rfl, hP, hhl34⟩
  refine ⟨_, [cDisk bd X sz secs []], _, rfl, hP, rfl, ?_⟩; clear hP hM hO
  refine anyPhase [cDisk bd X sz secs [], cAt b3 70 [(.int .u64 ((b.num : Nat) : Int)), (vI b.len), vc, vs, (vL A b.secs c)], cB S (b.acc sz i) cs, cAt b34 5 (B8 (b.sec sz i x0))] 16 rfl (fun _ h => h) ?_
  refine am 11 ?_
  refine ac 12 (vL (some ⟨b34, 0, none⟩) (b.sec sz i x0) ((b.sec sz i x0).length)) ?_
  refine ac 13 (.int .i64 0) ?_
  refine aa 14 ?_
  refine aa 15 ?_
  refine anyDone (by kernel_rfl) ?_
  refine qThen (stSeq (stSeq (reg ?_)))
  refine lm ?_
  refine lc (.bool false) ?_
  refine liNil (qThen (stFalse rfl (stSkip (qThen (stSeq (reg ?_))))))
  refine lm ?_
  refine lm ?_
  refine li rfl ?_
  refine opK0 (fun w hM => (cUnp_ok x0 (some ⟨b34, 0, none⟩) ((b.sec sz i x0).length) (b.sec sz i x0) w (r0.go0 hM) (hM.keep0 (j := 3) rfl (fun _ h => rowAtI h rfl)) (by omega) (by omega) (by omega) (by omega) (by assumption)).mono ?_)
  rintro e w' ⟨B44, cb44, rfl, hP, hsub44⟩
  refine ⟨_, _, rfl, hP, ?_⟩; clear hP hM
  refine lm ?_
  refine lc (.agg #[(.int .u64 (((headB (b.sec sz i x0)).1 : Nat) : Int)), (vI ((headB (b.sec sz i x0)).2.1)), (vI ((headB (b.sec sz i x0)).2.2))]) ?_
  refine lc (vL B44 ((b.sec sz i x0).drop 32) cb44) ?_
  refine lc (.bool true) ?_
  refine li rfl ?_
  refine opAlloc [(.int .u64 0), (.int .i64 0), (.int .i64 0)] rfl rfl (by kernel_rfl) (by kernel_rfl) (fun b12 => ?_)
  refine li rfl ?_
  refine opStoreN 4 [(.int .u64 (((headB (b.sec sz i x0)).1 : Nat) : Int)), (vI ((headB (b.sec sz i x0)).2.1)), (vI ((headB (b.sec sz i x0)).2.2))] (vs := [(.int .u64 (((headB (b.sec sz i x0)).1 : Nat) : Int)), (vI ((headB (b.sec sz i x0)).2.1)), (vI ((headB (b.sec sz i x0)).2.2))]) rfl rfl (by kernel_rfl) rfl rfl rfl (by kernel_rfl) rfl (by simp) (by simp [Value.oneCell']) rfl ?_
  refine la ?_
  refine la ?_
  refine liNil (qThen (stSeq (stSeq ?_)))
  refine St.to [cDisk bd X sz secs [], cAt b3 70 [(.int .u64 ((b.num : Nat) : Int)), (vI b.len), vc, vs, (vL A b.secs c)], cB S (b.acc sz i) cs, cAt b34 5 (B8 (b.sec sz i x0)), cAt b12 103 [(.int .u64 (((headB (b.sec sz i x0)).1 : Nat) : Int)), (vI ((headB (b.sec sz i x0)).2.1)), (vI ((headB (b.sec sz i x0)).2.2))]] (by kernel_rfl) ?_
  rw [show (headB (b.sec sz i x0)).1 = b.num from by rw [d6]]
  rw [show (headB (b.sec sz i x0)).2.1 = i from by rw [d6]]
  rw [show (headB (b.sec sz i x0)).2.2 = b.len from by rw [d6]]
  refine reg ?_
  refine lm ?_
  refine lc (.bool false) ?_
  refine lm ?_
  refine lgv (v := (.agg #[(.int .u64 ((b.num : Nat) : Int)), (vI i), (vI b.len)])) (rLoadA [(.int .u64 ((b.num : Nat) : Int)), (vI i), (vI b.len)] rfl rfl (by kernel_rfl) (by kernel_rfl) (segAt (i := 4) rfl (by intro j v hj; first | (rw [Nat.zero_add]; exact hj) | (match j, hj with | 0, h => exact h | 1, h => exact h | 2, h => exact h)))) ?_
  refine lgc (vP b3 0) ?_
  refine lgv (v := (.int .u64 ((b.num : Nat) : Int))) (rLoad 1 rfl rfl (by kernel_rfl) rfl rfl) ?_
  refine lgm ?_
  refine lgc (vP b3 1) ?_
  refine lgv (v := (vI b.len)) (rLoad 1 rfl rfl (by kernel_rfl) rfl rfl) ?_
  refine lgc (.agg #[(.int .u64 ((b.num : Nat) : Int)), (vI i), (vI b.len)]) ?_
  refine lgv (v := (.bool false)) (rHeadNe rfl rfl rfl) ?_
  refine lc (.bool false) ?_
  refine liNil (qThen (stFalse rfl (stSkip (qThen (reg ?_)))))
  refine lm ?_
  refine lm ?_
  refine li rfl ?_
  refine opAppend el_u8 2 (B8 ((b.sec sz i x0).drop 32)) rfl rfl (by kernel_rfl) rfl rfl rfl (by simp [B8]) (fun w hM => CellsAt.of_row (hsub44 w (rowAtI (hM.at (i := 3) rfl) rfl))) ((B8_one _)) (by have := Bl.acc_le (b := b) (i := i) (sz := sz) (by omega) (by omega); rw [List.length_drop]; omega) ((b.acc sz i ++ ((b.sec sz i x0).drop 32)).length) (by first | exact (List.length_append ..).symm | (simp; done) | (simp; omega)) (B8 (b.acc sz i ++ ((b.sec sz i x0).drop 32))) (by simp [B8]) (fun A62 c62 => ?_)
  refine la ?_
  refine liNil (qBlock (qThen (reg ?_)))
  refine lv (v := (vI (i + 1))) (rAdd _ rfl rfl rfl (by omega) (by omega) (by omega)) ?_
  refine lm ?_
  refine liNil (qThen ?_)
  rw [show b.acc sz i ++ ((b.sec sz i x0).drop 32) = b.acc sz (i + 1) from by rw [Bl.acc_succ hx0]]
  exact stAgain (i + 1, A62, c62) (by show _ ≤ _; omega) (by show _ - _ < _ - _; omega) ⟨rfl, rfl, rfl, rfl, rfl, rfl, rfl, rfl, rfl, trivial⟩ (fun w hM => (hM.pick [0, 1, 2] rfl rfl))
 ·have hd19 := of_decide_eq_false hc19
  refine stExit (qThenX (qThenX (qBlockX (qThen (stSeq (stSeq ?_))))))
  obtain rfl : i = b.secs.length := by omega
  obtain ⟨e1, e2⟩ := Bl.acc_all (b := b) (sz := sz) (by omega)
  rw [← hl] at e1 e2
  refine reg ?_
  refine lm ?_
  refine lc (vI ((b.acc sz b.secs.length).length)) ?_
  refine lc (vP b3 1) ?_
  refine lv (v := (vI b.len)) (rLoad 1 rfl rfl (by kernel_rfl) rfl rfl) ?_
  refine lc (.bool (decide ((((b.acc sz b.secs.length).length : Nat) : Int) < ((b.len : Nat) : Int)))) ?_
  refine liNil (qThen ?_)
  refine stFalseK rfl (decide_eq_false (by omega)) ?_
  refine stSkip (qThen (stSeq (reg ?_)))
  refine lm ?_
  refine lc (vP b3 1) ?_
  refine lv (v := (vI b.len)) (rLoad 1 rfl rfl (by kernel_rfl) rfl rfl) ?_
  refine St.fact (fun w hM => own_cap (hM.at (i := 2) rfl)) (fun hcap72 => ?_)
  refine lv (v := (vL S ((b.acc sz b.secs.length).take b.len) cs)) (rConv (rSliceHi (e := 5) (k := b.len) rfl (by kernel_rfl) (by kernel_rfl) rfl rfl (by have := hcap72; omega)) (by show Value.slice _ _ _ = Value.slice _ _ _; rw [List.length_take, Nat.min_eq_left (by omega)])) ?_
  rw [show (b.acc sz b.secs.length).take b.len = b.stream from e1]
  refine la ?_
  refine la ?_
  refine la ?_
  refine liNil (qThen (stRet ?_))
  refine stEnd [(vL S b.stream cs), (.bool true), (.int .i64 0)] rfl ⟨rfl, rfl, rfl, trivial⟩ (fun w hM => ?_)
  have hc := own_cap (hM.at (i := 2) rfl)
  have h2 := (hM.toRwTake 2 rfl b.len).pick [0, 2] rfl rfl
  rw [e1] at h2
  exact ⟨_, _, rfl, h2, by omega⟩
end Go.Proofs.YtaiggifiefnjnaaGreatDoor
namespace Go.Proofs.YtaiggifiefnjnaaGreatDoor
open Go.RowKit
theorem sRead_ok (bs : Nat) (bd : Nat) (first : Nat) (u2 : Value) (u3 : Value) (u4 : Value) (u5 : Value) (u6 : Value) (u7 : Value) (u8 : Value) (X : DX) (sz : Nat) (secs : List Bs) (b : Bl) (A : Option Addr) (c : Nat) (w : World) (hO : Own [cDisk bd X sz secs []] w) (r0 : Rf [cDisk bd X sz secs []] w (Vars)) (r1 : Rf [cDisk bd X sz secs []] w (fun w => At w bs 66 [(vP bd 0), (vI first), u2, u3, u4, u5, u6, u7, u8])) (r2 : Rf [cDisk bd X sz secs []] w (fun w => RowIn w A (II b.secs))) (hb : b.key.length ≤ 64 ∧ b.data.length ≤ 65536 ∧ b.num ≤ 1000000 ∧ b.secs.length ≤ 100000) (hd : ∀ (i s : Nat), b.secs[i]? = some s → s ≤ 100000 ∧ first + s ≤ 200000 ∧ secs[first + s]? = some (b.sec sz i s)) (hl : b.secs.length = needN sz b.len) (hsz : 64 ≤ sz ∧ sz ≤ 4096) (h1 : 1 ≤ b.key.length) :
  Calls Tryz.prog 41 #[(vP bs 0), (vS b.key), (.agg #[(.int .u64 ((b.num : Nat) : Int)), (vI b.len), (vI b.data.length), (vS (sha b.data)), (vL A b.secs c)])] w fun e w' => ∃ (B : Option Addr) (cb : Nat), e = .returned (.tuple #[(vL B b.data cb), (.bool true), (.int .i64 0)]) ∧ Back [cDisk bd X sz secs []] w [cDisk bd X sz secs [], cRw B (B8 b.data)] w' := by
 have _u0 := r0
 have _u1 := r1
 have _u2 := r2
 have _u3 := hb
 have _u4 := hd
 have _u5 := hl
 have _u6 := hsz
 have _u7 := h1
 clear _u0 _u1 _u2 _u3 _u4 _u5 _u6 _u7
 refine stEnter (args := [(vP bs 0), (vS b.key), (.agg #[(.int .u64 ((b.num : Nat) : Int)), (vI b.len), (vI b.data.length), (vS (sha b.data)), (vL A b.secs c)])]) (fps [cDisk bd X sz secs []]) Tryz.func41 rfl 57 rfl [(0, (vP bs 0)), (1, (vS b.key)), (2, (.agg #[(.int .u64 ((b.num : Nat) : Int)), (vI b.len), (vI b.data.length), (vS (sha b.data)), (vL A b.secs c)]))] ⟨rfl, rfl, rfl, trivial⟩ [cDisk bd X sz secs []] (hO) ?_
 refine stSeq ?_
 obtain ⟨g1, g2, g3, g4⟩ := hb
 obtain ⟨z1, z2⟩ := hsz
 have hbl : b.len = 33 + b.key.length + b.data.length := rfl
 have hsl := b.stream_len
 refine reg (li rfl ?_)
 refine opBox [(.int .u64 ((b.num : Nat) : Int)), (vI b.len), (vI b.data.length), (vS (sha b.data)), (vL A b.secs c)] rfl rfl (by kernel_rfl) rfl rfl (fun b5 => ?_)
 refine la ?_
 refine la ?_
 refine la ?_
 refine liNil (qThen (stSeq (reg ?_)))
 refine lm ?_
 refine lv (v := (.agg #[(.int .u64 ((b.num : Nat) : Int)), (vI b.len), (vI b.data.length), (vS (sha b.data)), (vL A b.secs c)])) (rLoadA [(.int .u64 ((b.num : Nat) : Int)), (vI b.len), (vI b.data.length), (vS (sha b.data)), (vL A b.secs c)] rfl rfl (by kernel_rfl) (by kernel_rfl) (segAt (i := 1) rfl (by intro j v hj; first | (rw [Nat.zero_add]; exact hj) | (match j, hj with | 0, h => exact h | 1, h => exact h | 2, h => exact h | 3, h => exact h | 4, h => exact h)))) ?_
 refine li rfl ?_
 refine opK [0] [cDisk bd X sz secs []] (fun w hM hO => (sStream_ok bs bd first u2 u3 u4 u5 u6 u7 u8 X sz secs b (vI b.data.length) (vS (sha b.data)) A c w hO (r0.goS hM [0]) (r1.goS hM [0]) (r2.goS hM [0]) (⟨g1, g2, g3, g4⟩) (hd) (hl) (⟨by omega, by omega⟩) (⟨rfl, rfl⟩)).mono ?_)
 rintro e w' ⟨S18, cs18, rfl, hP, hcap18⟩
 refine ⟨_, [cDisk bd X sz secs []], _, rfl, hP, rfl, ?_⟩; clear hP hM hO
 refine lm ?_
 refine lc (vL S18 b.stream cs18) ?_
 refine lc (.bool true) ?_
 refine lc (.int .i64 0) ?_
 refine la ?_
 refine la ?_
 refine la ?_
 refine liNil (qThen (stSeq (stSeq (reg ?_))))
 refine lm ?_
 refine lc (.bool false) ?_
 refine lm ?_
 refine lgm ?_
 refine lgc (.bool false) ?_
 refine lc (.bool false) ?_
 refine liNil (qThen (stFalse rfl (stSkip (qThen (stSeq (reg ?_))))))
 refine lm ?_
 refine li rfl ?_
 refine opK0 (fun w hM => (cDiv_ok S18 cs18 b.stream b.key (sha b.data) b.data w (r0.go0 hM) (hM.keep0 (j := 2) rfl (fun _ h => cRw_row h)) (by omega) (hcap18) (divB_stream h1 g1 g2)).mono ?_)
 rintro e w' ⟨B31, cb31, rfl, hP⟩
 refine ⟨_, _, rfl, hP, ?_⟩; clear hP hM
 refine lm ?_
 refine lc (vS b.key) ?_
 refine lc (vS (sha b.data)) ?_
 refine lc (vL B31 b.data cb31) ?_
 refine lc (.bool true) ?_
 refine la ?_
 refine la ?_
 refine la ?_
 refine la ?_
 refine liNil (qThen (stSeq (stSeq (reg ?_))))
 refine lm ?_
 refine lc (.bool false) ?_
 refine lm ?_
 refine lgm ?_
 refine lgm ?_
 refine lgv (v := (.bool false)) (rConv (rStrNe rfl rfl rfl) (by simp)) ?_
 refine lc (.bool false) ?_
 refine lm ?_
 refine lgm ?_
 refine lgc (vP b5 3) ?_
 refine lgv (v := (vS (sha b.data))) (rLoad 1 rfl rfl (by kernel_rfl) rfl rfl) ?_
 refine lgv (v := (.bool false)) (rConv (rStrNe rfl rfl rfl) (by simp)) ?_
 refine lc (.bool false) ?_
 refine lm ?_
 refine lgm ?_
 refine lgc (vI b.data.length) ?_
 refine lgc (vP b5 2) ?_
 refine lgv (v := (vI b.data.length)) (rLoad 1 rfl rfl (by kernel_rfl) rfl rfl) ?_
 refine lgv (v := (.bool false)) (rConv (v := .bool ((((b.data.length : Nat) : Int) : Int) != ((b.data.length : Nat) : Int))) (rClosed fun _ => by kernel_rfl) (by simp)) ?_
 refine lc (.bool false) ?_
 refine liNil (qThen (stFalse rfl (stSkip (qThen (stSeq (reg ?_))))))
 refine lm ?_
 refine la ?_
 refine la ?_
 refine la ?_
 refine liNil (qThen (stRet ?_))
 refine stEnd [(vL B31 b.data cb31), (.bool true), (.int .i64 0)] rfl ⟨rfl, rfl, rfl, trivial⟩ (fun w hM => ?_)
 exact ⟨B31, cb31, rfl, (hM.pick [0, 3] rfl rfl)⟩
theorem sGet_no (bs : Nat) (bd : Nat) (first : Nat) (Y : SX) (X : DX) (sz : Nat) (secs : List Bs) (key : List UInt8) (w : World) (hO : Own [cDisk bd X sz secs [], cStore bs bd first Y] w) (hk : kvGet Y.kv key = none) (hkl : key.length ≤ 1000000) :
  Calls Tryz.prog 20 #[(vP bs 0), (vS key)] w fun e w' => e = .returned (.tuple #[(.slice none 0 0), (.int .i64 4)]) ∧ Back [cDisk bd X sz secs [], cStore bs bd first Y] w [cDisk bd X sz secs [], cStore bs bd first Y] w' := by
 have _u0 := hk
 have _u1 := hkl
 clear _u0 _u1
 refine stEnter (args := [(vP bs 0), (vS key)]) (fps [cDisk bd X sz secs [], cStore bs bd first Y]) Tryz.func20 rfl 38 rfl [(0, (vP bs 0)), (1, (vS key))] ⟨rfl, rfl, trivial⟩ [cDisk bd X sz secs [], cStore bs bd first Y] (hO) ?_
 refine stSeq (reg ?_)
 refine la ?_
 refine la ?_
 refine liNil (qThen (stSeq (stSeq (reg ?_))))
 refine lm ?_
 refine li rfl ?_
 refine opK0 (fun w hM => (sStop_no bs bd (vI first) (vI Y.us.length) (.int .u64 ((Y.num : Nat) : Int)) (.map (some Y.bm)) (vL Y.Au Y.us (Y.cu)) (.slice none 0 0) (vI Y.fr) (vI sz) (vL X.Ad X.dv (X.cd)) (vL X.Ap X.pv (X.cp)) (.map (some X.lat)) (.int .i64 (-1)) w (hM.keep0 (j := 1) rfl (fun _ h => store_at h)) (hM.keep0 (j := 0) rfl (fun _ h => disk_at h))).mono ?_)
 rintro e w' ⟨rfl, hP⟩
 refine ⟨_, _, rfl, hP, ?_⟩; clear hP hM
 refine liNil (qThen (stFalse rfl (stSkip (qThen (stSeq (reg ?_))))))
 refine lm ?_
 refine lc (vP bs 0) ?_
 refine lc (vP bs 4) ?_
 refine lv (v := (.map (some Y.bm))) (rLoadW rfl rfl (by kernel_rfl) (fun w hM => At.cell (store_at (hM.at (i := 1) rfl)) 4)) ?_
 refine lm ?_
 refine lv (v := (.tuple #[(.agg #[(.int .u64 ((0 : Nat) : Int)), (.int .i64 0), (.int .i64 0), (.string ⟨#[]⟩), (.slice none 0 0)]), (.bool false)])) (rConv (rMapGetOkW (D := kB) (val := bvV) (a := key) rfl rfl rfl Tryz.underlying63 Tryz.zeroValue70 (fun w hM => store_map (hM.at (i := 1) rfl)) (by show _ ≤ 1099511627776; omega)) (by rw [hk]; rfl)) ?_
 refine lm ?_
 refine lc (.agg #[(.int .u64 ((0 : Nat) : Int)), (.int .i64 0), (.int .i64 0), (.string ⟨#[]⟩), (.slice none 0 0)]) ?_
 refine lc (.bool false) ?_
 refine li rfl ?_
 refine opAlloc [(.int .u64 0), (.int .i64 0), (.int .i64 0), (.string ⟨#[]⟩), (.slice none 0 0)] rfl rfl (by kernel_rfl) (by kernel_rfl) (fun b6 => ?_)
 refine li rfl ?_
 refine opStoreN 2 [(.int .u64 ((0 : Nat) : Int)), (.int .i64 0), (.int .i64 0), (.string ⟨#[]⟩), (.slice none 0 0)] (vs := [(.int .u64 ((0 : Nat) : Int)), (.int .i64 0), (.int .i64 0), (.string ⟨#[]⟩), (.slice none 0 0)]) rfl rfl (by kernel_rfl) rfl rfl rfl (by kernel_rfl) rfl (by simp) (by simp [Value.oneCell']) rfl ?_
 refine la ?_
 refine liNil (qThen (stSeq (stSeq (reg ?_))))
 refine lm ?_
 refine lc (.bool true) ?_
 refine liNil (qThen (stTrue rfl (stSeq (reg ?_))))
 refine la ?_
 refine la ?_
 refine liNil (qThen (stRet (qThenR ?_)))
 refine stEnd [(.slice none 0 0), (.int .i64 4)] rfl ⟨rfl, rfl, trivial⟩ (fun w hM => ?_)
 exact ⟨rfl, hM.pick [0, 1] rfl rfl⟩
theorem sGet_ok (bs : Nat) (bd : Nat) (first : Nat) (Y : SX) (X : DX) (sz : Nat) (secs : List Bs) (key : List UInt8) (v : BV) (w : World) (hO : Own [cDisk bd X sz secs [], cStore bs bd first Y] w) (r0 : Rf [cDisk bd X sz secs [], cStore bs bd first Y] w (Vars)) (hk : kvGet Y.kv key = some v) (hb : v.b.key.length ≤ 64 ∧ v.b.data.length ≤ 65536 ∧ v.b.num ≤ 1000000 ∧ v.b.secs.length ≤ 100000) (hd : ∀ (i s : Nat), v.b.secs[i]? = some s → s ≤ 100000 ∧ first + s ≤ 200000 ∧ secs[first + s]? = some (v.b.sec sz i s)) (hl : v.b.secs.length = needN sz v.b.len) (hsz : 64 ≤ sz ∧ sz ≤ 4096) (h1 : 1 ≤ v.b.key.length) :
  Calls Tryz.prog 20 #[(vP bs 0), (vS key)] w fun e w' => ∃ (B : Option Addr) (cb : Nat), e = .returned (.tuple #[(vL B v.b.data cb), (.int .i64 0)]) ∧ Back [cDisk bd X sz secs [], cStore bs bd first Y] w [cDisk bd X sz secs [], cStore bs bd first Y, cRw B (B8 v.b.data)] w' := by
 have _u0 := r0
 have _u1 := hk
 have _u2 := hb
 have _u3 := hd
 have _u4 := hl
 have _u5 := hsz
 have _u6 := h1
 clear _u0 _u1 _u2 _u3 _u4 _u5 _u6
 refine stEnter (args := [(vP bs 0), (vS key)]) (fps [cDisk bd X sz secs [], cStore bs bd first Y]) Tryz.func20 rfl 38 rfl [(0, (vP bs 0)), (1, (vS key))] ⟨rfl, rfl, trivial⟩ [cDisk bd X sz secs [], cStore bs bd first Y] (hO) ?_
 refine stSeq ?_
 refine St.fact (fun w hM => (hM.at (i := 1) rfl : (cStore bs bd first Y).holds w).2.2) (fun sw => ?_)
 obtain ⟨g1, g2, g3, g4⟩ := hb
 refine reg ?_
 refine la ?_
 refine la ?_
 refine liNil (qThen (stSeq (stSeq (reg ?_))))
 refine lm ?_
 refine li rfl ?_
 refine opK0 (fun w hM => (sStop_no bs bd (vI first) (vI Y.us.length) (.int .u64 ((Y.num : Nat) : Int)) (.map (some Y.bm)) (vL Y.Au Y.us (Y.cu)) (.slice none 0 0) (vI Y.fr) (vI sz) (vL X.Ad X.dv (X.cd)) (vL X.Ap X.pv (X.cp)) (.map (some X.lat)) (.int .i64 (-1)) w (hM.keep0 (j := 1) rfl (fun _ h => store_at h)) (hM.keep0 (j := 0) rfl (fun _ h => disk_at h))).mono ?_)
 rintro e w' ⟨rfl, hP⟩
 refine ⟨_, _, rfl, hP, ?_⟩; clear hP hM
 refine liNil (qThen (stFalse rfl (stSkip (qThen (stSeq (reg ?_))))))
 refine lm ?_
 refine lc (vP bs 0) ?_
 refine lc (vP bs 4) ?_
 refine lv (v := (.map (some Y.bm))) (rLoadW rfl rfl (by kernel_rfl) (fun w hM => At.cell (store_at (hM.at (i := 1) rfl)) 4)) ?_
 refine lm ?_
 refine lv (v := (.tuple #[(.agg #[(.int .u64 ((v.b.num : Nat) : Int)), (vI v.b.len), (vI v.b.data.length), (vS (sha v.b.data)), (vL v.A v.b.secs (v.c))]), (.bool true)])) (rConv (rMapGetOkW (D := kB) (val := bvV) (a := key) rfl rfl rfl Tryz.underlying63 Tryz.zeroValue70 (fun w hM => store_map (hM.at (i := 1) rfl)) (by have := congrArg List.length (sw.key _ (kvGet_mem hk)); show key.length ≤ 1099511627776; simp only at this; omega)) (by rw [hk]; rfl)) ?_
 refine lm ?_
 refine lc (.agg #[(.int .u64 ((v.b.num : Nat) : Int)), (vI v.b.len), (vI v.b.data.length), (vS (sha v.b.data)), (vL v.A v.b.secs (v.c))]) ?_
 refine lc (.bool true) ?_
 refine li rfl ?_
 refine opAlloc [(.int .u64 0), (.int .i64 0), (.int .i64 0), (.string ⟨#[]⟩), (.slice none 0 0)] rfl rfl (by kernel_rfl) (by kernel_rfl) (fun b6 => ?_)
 refine li rfl ?_
 refine opStoreN 2 [(.int .u64 ((v.b.num : Nat) : Int)), (vI v.b.len), (vI v.b.data.length), (vS (sha v.b.data)), (vL v.A v.b.secs (v.c))] (vs := [(.int .u64 ((v.b.num : Nat) : Int)), (vI v.b.len), (vI v.b.data.length), (vS (sha v.b.data)), (vL v.A v.b.secs (v.c))]) rfl rfl (by kernel_rfl) rfl rfl rfl (by kernel_rfl) rfl (by simp) (by simp [Value.oneCell']) rfl ?_
 refine la ?_
 refine liNil (qThen (stSeq (stSeq (reg ?_))))
 refine lm ?_
 refine lc (.bool false) ?_
 refine liNil (qThen (stFalse rfl (stSkip (qThen (stSeq (reg ?_))))))
 refine lm ?_
 refine lv (v := (vS v.b.key)) (rConv (rMove rfl rfl) (by rw [show key = v.b.key from sw.key _ (kvGet_mem hk)])) ?_
 refine lv (v := (.agg #[(.int .u64 ((v.b.num : Nat) : Int)), (vI v.b.len), (vI v.b.data.length), (vS (sha v.b.data)), (vL v.A v.b.secs (v.c))])) (rLoadA [(.int .u64 ((v.b.num : Nat) : Int)), (vI v.b.len), (vI v.b.data.length), (vS (sha v.b.data)), (vL v.A v.b.secs (v.c))] rfl rfl (by kernel_rfl) (by kernel_rfl) (segAt (i := 2) rfl (by intro j v hj; first | (rw [Nat.zero_add]; exact hj) | (match j, hj with | 0, h => exact h | 1, h => exact h | 2, h => exact h | 3, h => exact h | 4, h => exact h)))) ?_
 refine li rfl ?_
 refine opK [0] [cDisk bd X sz secs []] (fun w hM hO => (sRead_ok bs bd first (vI Y.us.length) (.int .u64 ((Y.num : Nat) : Int)) (.map (some Y.bm)) (vL Y.Au Y.us (Y.cu)) (.slice none 0 0) (vI Y.fr) (.bool false) X sz secs v.b v.A v.c w hO (r0.goS hM [0]) (hM.keepS [0] (j := 1) rfl (fun _ h => store_at h)) (hM.keepS [0] (j := 1) rfl (fun _ h => store_row h (kvGet_mem hk))) (⟨g1, g2, g3, g4⟩) (hd) (hl) (hsz) (h1)).mono ?_)
 rintro e w' ⟨B28, cb28, rfl, hP⟩
 refine ⟨_, [cDisk bd X sz secs []], _, rfl, hP, rfl, ?_⟩; clear hP hM hO
 refine lm ?_
 refine lc (vL B28 v.b.data cb28) ?_
 refine lc (.bool true) ?_
 refine lc (.int .i64 0) ?_
 refine la ?_
 refine la ?_
 refine la ?_
 refine liNil (qThen (stSeq (stSeq ?_)))
 refine St.to [cDisk bd X sz secs [], cStore bs bd first Y, cAt b6 70 [(.int .u64 ((v.b.num : Nat) : Int)), (vI v.b.len), (vI v.b.data.length), (vS (sha v.b.data)), (vL v.A v.b.secs (v.c))], cRw B28 (B8 v.b.data)] (by kernel_rfl) ?_
 refine reg ?_
 refine lm ?_
 refine lc (.bool false) ?_
 refine liNil (qThen (stFalse rfl (stSkip (qThen (stSeq (stSeq (reg ?_)))))))
 refine lm ?_
 refine lc (.bool false) ?_
 refine liNil (qThen (stFalse rfl (stSkip (qThen (stSeq (reg ?_))))))
 refine lm ?_
 refine la ?_
 refine la ?_
 refine liNil (qThen (stRet ?_))
 refine stEnd [(vL B28 v.b.data cb28), (.int .i64 0)] rfl ⟨rfl, rfl, trivial⟩ (fun w hM => ?_)
 exact ⟨B28, cb28, rfl, (hM.pick [0, 1, 3] rfl rfl)⟩
end Go.Proofs.YtaiggifiefnjnaaGreatDoor
namespace Go.Proofs.YtaiggifiefnjnaaGreatDoor
open Go.RowKit
open Go.ChangeMaps (setBlock)
open Go.MapKept (Stamped)
theorem left_split {es : Array MapEntry} {seen : Array Nat} {e : MapEntry} (hn : (es.toList.map (·.born)).Nodup) (he : e ∈ (leftOf es seen).toList) : ∃ l1 l2, (leftOf es seen).toList = l1 ++ e :: l2 ∧ (leftOf es (seen.push e.born)).toList = l1 ++ l2 := by
 have h1 : (leftOf es (seen.push e.born)).toList = (leftOf es seen).toList.filter (fun x => !(x.born == e.born)) := by
  unfold leftOf
  rw [Array.toList_filter, Array.toList_filter, List.filter_filter]
  refine List.filter_congr fun x _ => ?_
  rw [contains_push, Bool.not_or, Bool.and_comm]
 obtain ⟨l1, l2, h2⟩ := List.append_of_mem he
 refine ⟨l1, l2, h2, ?_⟩
 have hnd : ((leftOf es seen).toList.map (·.born)).Nodup := by
  unfold leftOf
  rw [Array.toList_filter]
  exact hn.sublist (List.filter_sublist.map _)
 rw [h2, List.map_append, List.map_cons, List.nodup_append] at hnd
 obtain ⟨n1, n2, n3⟩ := hnd
 rw [List.nodup_cons] at n2
 rw [h1, h2, List.filter_append, List.filter_cons]
 simp only [BEq.rfl, Bool.not_true, Bool.false_eq_true, if_false]
 rw [List.filter_eq_self.2, List.filter_eq_self.2]
 ·intro x hx
  have : x.born ≠ e.born := fun e1 => n2.1 (e1 ▸ List.mem_map.2 ⟨x, hx, rfl⟩)
  simpa using this
 ·intro x hx
  have : x.born ≠ e.born := n3 _ (List.mem_map.2 ⟨x, hx, rfl⟩) _ (List.mem_cons_self ..)
  simpa using this
def cRng {P : Program} {k : TypeId} {α β : Type} (D : Kd P k α) (val : β → Value) (b r : Nat) (kv todo : List (α × β)) (last : Option (α × β)) : Ch where
 fp := [b, r]
 holds w := r ≠ b ∧ ∃ es clock since seen c0, w.heap[b]? = some (.map es clock) ∧ w.heap[r]? = some (.mapIter (some b) since seen c0) ∧ Stamped es clock ∧ es.toList.map (fun e => (e.key, e.val)) = kv.map (fun p => (D.enc p.1, val p.2)) ∧ (∀ p ∈ kv, D.ok p.1) ∧ (∀ x ∈ es.toList, x.born < since) ∧ since ≤ c0 ∧ since ≤ clock ∧
  (leftOf es seen).toList.map (fun e => (e.key, e.val)) = todo.map (fun p => (D.enc p.1, val p.2)) ∧ ∀ p, last = some p → c0 = clock ∧ ∃ (e : MapEntry) (s : Array Nat), e ∈ es.toList ∧ seen = s.push e.born ∧ e.key = D.enc p.1 ∧ e.val = val p.2
 ok w w' hb h := by
  obtain ⟨hne, es, clock, since, seen, c0, h1, h2, h3⟩ := h
  exact ⟨hne, es, clock, since, seen, c0, (hb b (by simp)).trans h1, (hb r (by simp)).trans h2, h3⟩
 lt w h c hc := by
  obtain ⟨hne, es, clock, since, seen, c0, h1, h2, h3⟩ := h
  simp only [List.mem_cons, List.not_mem_nil, or_false] at hc
  rcases hc with rfl | rfl
  ·exact (Array.getElem?_eq_some_iff.1 h1).1
  ·exact (Array.getElem?_eq_some_iff.1 h2).1
section
variable {P : Program} {k : TypeId} {α β : Type} {D : Kd P k α} {val : β → Value} {b r : Nat} {kv todo : List (α × β)} {last : Option (α × β)}
variable {Q : Exit → Act → World → Prop} {n : Nat} {w0 : World} {F : List Nat} {E : Env} {cs : List Ch} {K : Act → World → Prop} {o : Oper} {d : Nat} {t e : TypeId}
theorem opRangeK {x : Operand} (i : Nat) (ho : o.op = .range t x) (hd : o.dst = some d) (hk : opOk n E o = true) (hx : evO E x = some (.map (some b))) (ht : P.underlying t = some (.map k e)) (hi : cs[i]? = some (cMap D val b kv))
  (h : ∀ r, St n w0 F ((d, .pointer (some ⟨r, 0, none⟩)) :: E) (cs.set i (cRng D val b r kv kv none)) K) : OpW P Q n w0 F E cs o K :=
 opEff hd hk fun w hM => by
  have hm : MapAt D val w b kv := hM.at hi
  have hlt := hm.lt
  obtain ⟨es, clock, hb, hs, he, hok⟩ := hm
  refine ⟨_, w.alloc (.mapIter (some b) clock #[] clock), _, ?_, hM.swap i hi (c' := cRng D val b w.heap.size kv kv none) ((Fr.refl _ _).alloc _) ⟨by omega, es, clock, clock, #[], clock, ((MapKept.heap_alloc w _).2 b hlt).trans hb, (MapKept.heap_alloc w _).1, hs, he, hok, hs.1, Nat.le_refl _, Nat.le_refl _, ?_, fun p hp => by cases hp⟩ ?_ ?_, h w.heap.size⟩
  ·unfold execOp
   simp only [ho, evE_of hx, Sem.run_bind, run_range_map w t k e b es clock ht hb]
   rfl
  ·have : leftOf es #[] = es := Array.filter_eq_self.2 fun x _ => by simp
   rw [this, he]
  ·intro c hc
   simp only [cRng, List.mem_cons, List.not_mem_nil, or_false] at hc
   rcases hc with rfl | rfl
   ·exact .inl (by simp [cMap])
   ·exact .inr (Nat.le_refl _)
  ·simp only [cRng, List.nodup_cons, List.mem_cons, List.not_mem_nil, or_false, not_false_eq_true, List.nodup_nil, and_true]
   omega
theorem opNextK {x : Operand} (i : Nat) (ho : o.op = .next x false) (hd : o.dst = some d) (hk : opOk n E o = true) (hx : evO E x = some (.pointer (some ⟨r, 0, none⟩))) (hi : cs[i]? = some (cRng D val b r kv todo last))
  (h0 : todo = [] → St n w0 F ((d, .tuple #[.bool false]) :: E) cs K)
  (h1 : ∀ t1 p t2, todo = t1 ++ p :: t2 → St n w0 F ((d, .tuple #[.bool true, D.enc p.1, val p.2]) :: E) (cs.set i (cRng D val b r kv (t1 ++ t2) (some p))) K) : OpW P Q n w0 F E cs o K :=
 opEff hd hk fun w hM => by
  obtain ⟨hne, es, clock, since, seen, c0, hb, hr, hs, he, hok, hold, hsc, hsk, htd, hla⟩ := (hM.at hi : (cRng D val b r kv todo last).holds w)
  rcases run_next_at (P := P) w o.type r b since c0 seen es clock hr hb hold hsc with ⟨hz, hrun⟩ | ⟨x0, hx0, w1, hal, hrun⟩
  ·have hnil : (leftOf es seen).toList = [] := by rw [Array.eq_empty_of_size_eq_zero hz]
   rw [hnil] at htd
   refine ⟨_, w, cs, ?_, hM, h0 (by simpa using htd.symm)⟩
   unfold execOp
   simp only [ho, evE_of hx, Sem.run_bind, hrun]
   rfl
  ·obtain ⟨l1, l2, e1, e2⟩ := left_split hs.2.1 hx0
   have hm := htd
   rw [e1, List.map_append, List.map_cons] at hm
   obtain ⟨t1, t3, rfl, g1, g2⟩ := List.map_eq_append_iff.1 hm.symm
   obtain ⟨p, t2, rfl, g3, g4⟩ := List.map_eq_cons_iff.1 g2
   injection g3 with g5 g6
   have hm1 := (mem_left hx0).1
   have hw1 : Fr [] w w1 := by rcases hal with rfl | rfl <;> exact ⟨rfl, rfl, rfl, Nat.le_refl _, fun _ _ _ => rfl⟩
   have hrl := (Array.getElem?_eq_some_iff.1 hr).1
   have hw2 : Fr [b, r] w (setBlock w1 r (.mapIter (some b) since (seen.push x0.born) clock)) := by
    have := fr_setBlock w1 r (.mapIter (some b) since (seen.push x0.born) clock)
    exact (hw1.mono (by simp)).trans' this (by simp)
   have hsz : r < w1.heap.size := by rcases hal with rfl | rfl <;> exact hrl
   have hb1 : w1.heap[b]? = some (.map es clock) := by rcases hal with rfl | rfl <;> exact hb
   have hset : (setBlock w1 r (.mapIter (some b) since (seen.push x0.born) clock)).heap[r]? = some (.mapIter (some b) since (seen.push x0.born) clock) := by simp [setBlock, hsz]
   have hb2 : (setBlock w1 r (.mapIter (some b) since (seen.push x0.born) clock)).heap[b]? = some (.map es clock) := by
    simp only [setBlock]
    rw [Array.getElem?_setIfInBounds_ne hne]
    exact hb1
   refine ⟨_, _, _, ?_, hM.swap i hi (c' := cRng D val b r kv (t1 ++ t2) (some p)) hw2 ⟨hne, es, clock, since, seen.push x0.born, clock, hb2, hset, hs, he, hok, hold, hsk, hsk, ?_, fun q hq => ?_⟩ (fun c hc => .inl hc) ?_, h1 t1 p t2 rfl⟩
   ·unfold execOp
    simp only [ho, evE_of hx, Sem.run_bind, hrun, g5, g6]
    rfl
   ·rw [e2, List.map_append, List.map_append, g1, g4]
   ·cases hq
    exact ⟨rfl, x0, seen, hm1, rfl, g5.symm, g6.symm⟩
   ·simp only [cRng, List.nodup_cons, List.mem_cons, List.not_mem_nil, or_false, not_false_eq_true, List.nodup_nil, and_true]
    exact fun e => hne e.symm
theorem rEntryK {x : Operand} {p : α × β} (i : Nat) (ho : o.op = .entry x) (hx : evO E x = some (.pointer (some ⟨r, 0, none⟩))) (hi : cs[i]? = some (cRng D val b r kv todo (some p))) : RunV P w0 F cs E o (.tuple #[D.enc p.1, val p.2]) := fun w hM => by
 obtain ⟨hne, es, clock, since, seen, c0, hb, hr, hs, he, hok, hold, hsc, hsk, htd, hla⟩ := (hM.at hi : (cRng D val b r kv todo (some p)).holds w)
 obtain ⟨rfl, x0, s, hx0, rfl, g1, g2⟩ := hla p rfl
 unfold execOp
 simp only [ho, evE_of hx, Sem.run_bind, run_entry_at w r b since s es c0 x0 hr hb hx0 hs.2.1, g1, g2]
 rfl
theorem Mm.rngMap {w : World} (h : Mm w0 F cs w) (i : Nat) (hi : cs[i]? = some (cRng D val b r kv todo last)) : Mm w0 F (cs.set i (cMap D val b kv)) w := by
 obtain ⟨hne, es, clock, since, seen, c0, hb, hr, hs, he, hok, h2⟩ := (h.at hi : (cRng D val b r kv todo last).holds w)
 exact h.swap i hi (c' := cMap D val b kv) (Fr.refl _ _) ⟨es, clock, hb, hs, he, hok⟩ (fun c hc => .inl (by simp only [cMap, List.mem_singleton] at hc; subst hc; simp [cRng])) (by simp [cMap])
end
end Go.Proofs.YtaiggifiefnjnaaGreatDoor
namespace Go.Proofs.YtaiggifiefnjnaaGreatDoor
open Go.RowKit Go.Sort Go.Shelf
abbrev sortL (l : List Bs) : List Bs := l.mergeSort fun x y => decide (x ≤ y)
def sumB (kv : List (Bs × BV)) : Nat := (kv.map fun p => p.2.b.data.length).sum
theorem sumB_mid (t1 : List (Bs × BV)) (p : Bs × BV) (t2 : List (Bs × BV)) : sumB (t1 ++ p :: t2) = sumB (t1 ++ t2) + p.2.b.data.length := by
 simp [sumB]
 omega
theorem sumB_le (kv : List (Bs × BV)) (h : ∀ p ∈ kv, p.2.b.data.length ≤ 65536) : sumB kv ≤ kv.length * 65536 := by
 induction kv with
 | nil => simp [sumB]
 | cons p kv ih =>
   have h1 := ih (fun q hq => h q (List.mem_cons_of_mem _ hq))
   have h2 := h p (List.mem_cons_self ..)
   simp only [sumB, List.map_cons, List.sum_cons, List.length_cons] at h1 ⊢
   omega
theorem own_newR {w w' : World} {e : TypeId} {v : Value} {n : Nat} {xs : List Value} (hf : Fr [] w w') (ho : w'.ownsRow w.heap.size e 1 v n xs) : ∃ A c, v = .slice A n c ∧ Back [] w [cOwn e 1 A n c xs] w' := by
 obtain ⟨hl, h⟩ := ho
 rcases h with ⟨rfl, rfl⟩ | ⟨g, cap, cur, rfl, hge, h1, h2, h3, h4, h5⟩
 ·refine ⟨none, 0, rfl, (Mm.start w []).push (c := cOwn e 1 none 0 0 xs) hf ?_ (by simp [cOwn, ownFp]) (by simp [cOwn, ownFp])⟩
  exact ⟨hl, .inl ⟨rfl, rfl⟩⟩
 ·refine ⟨some ⟨g, 0, none⟩, cap, rfl, (Mm.start w []).push (c := cOwn e 1 (some ⟨g, 0, none⟩) n cap xs) hf ?_ (by simp [cOwn, ownFp]; exact hge) (by simp [cOwn, ownFp])⟩
  exact ⟨hl, .inr ⟨g, cap, cur, rfl, Nat.zero_le _, h1, h2, h3, h4, h5⟩⟩
theorem bKeys_any (bm : Nat) (w : World) :
  Calls Tryz.prog 39 #[(.map (some bm))] w fun e w' => ∃ (bk : Nat), e = .returned (.func (.func 57) #[] #[(vP bk 0)]) ∧ Back [] w [cAt bk 63 [(.map (some bm))]] w' := by
 have h := (callsIn_wide (n := 5)).1 (AnyZ.keys_in Tryz.keysA Fence.wide 5 trivial rfl (some bm) w)
 change Calls Tryz.prog 39 _ _ _ at h
 refine h.mono ?_
 rintro e w' ⟨rfl, rfl⟩
 exact ⟨w.heap.size, rfl, (Mm.start w []).push (c := cAt w.heap.size 63 [.map (some bm)]) ((Fr.refl _ _).alloc _) (At.new w _ _) (by simp [cAt]) (by simp [cAt])⟩
theorem sorts_in (m : Nat) : AnyZ.SortsIn Tryz.prog Tryz.sortedA_ren Fence.wide m :=
 ⟨fun blk off cap ss W hH hblk hsz => callsIn_wide.2 (Tryz.slices_Sort_string blk off cap ss W hH hblk hsz),
  fun p cap W => callsIn_wide.2 (Tryz.slices_Sort_string_none p cap W)⟩
theorem bSorted_any (bk : Nat) (bm : Nat) (kv : List (Bs × BV)) (w : World) (r0 : Rf [] w (fun w => At w bk 63 [(.map (some bm))])) (r1 : Rf [] w (fun w => MapAt kB bvV w bm kv)) (hS : kv.length ≤ 1000000) :
  Calls Tryz.prog 38 #[(.func (.func 57) #[] #[(vP bk 0)])] w fun e w' => ∃ (B : Option Addr) (cb : Nat), e = .returned (vL B (sortL (kvKeys kv)) cb) ∧ Back [] w [cS B (sortL (kvKeys kv)) cb] w' := by
 have hm : w.cell? ⟨bk, 0, none⟩ = some (.map (some bm)) := by have h := r0.here; rw [h.cell]; rfl
 have hBm : bk < w.heap.size := by have h := r0.here; exact h.lt
 have hmap : MapAt kB bvV w bm kv := r1.here
 obtain ⟨Dt, hown, hsz, hhas⟩ := hmap.owns (by unfold maxLen; omega)
 have hseq : SeqGives Fence.wide 2 Tryz.prog 57 #[.pointer (some ⟨bk, 0, none⟩)] encStr (fun ss => ss.Perm (strKeys Dt)) (Maps.size Dt) w :=
  AnyZ.keys_gives (ρ := Tryz.keysA_ren) { Tryz.keysA with } Fence.wide _ trivial rfl (by omega) bk bm kv.length _ w hBm hm hown
 have cS := AnyZ.sorted_in Tryz.sortedA Fence.wide 5 trivial trivial trivial trivial rfl (by omega) (sorts_in _) (enters_of Tryz.func56 (by kernel_rfl) rfl) 57 #[.pointer (some ⟨bk, 0, none⟩)] trivial (enters_of Tryz.func57 (by kernel_rfl) rfl) _ _ (by unfold maxLen; omega) (by omega) _ hseq
 have hC := (callsIn_wide (n := 5)).1 cS
 change Calls Tryz.prog 38 _ _ _ at hC
 refine hC.mono ?_
 rintro e w' ⟨v, ss, rfl, hS, hrow, hnil, hb⟩
 have hcol : Collected Dt (fun _ => false) (kvKeys kv) := by
  refine ⟨hmap.nodup, fun x => ?_⟩
  rw [hhas, List.any_eq_true]
  constructor
  ·intro h
   obtain ⟨p, hp, rfl⟩ := List.mem_map.1 h
   exact ⟨⟨p, hp, WideAt.sameKey_self (a := Lit.string p.1) True.intro⟩, rfl⟩
  ·rintro ⟨⟨p, hp, h1⟩, _⟩
   have := WideAt.sameKey_eq (show (Lit.string p.1).sameKey (Lit.string x) = true from h1)
   injection this with this
   exact List.mem_map.2 ⟨p, hp, this⟩
 have hperm := hcol.perm hown kB.keyed Tryz.underlying9 (fun _ => rfl)
 have he : ss.mergeSort (fun x y => decide (x ≤ y)) = sortL (kvKeys kv) := mergeSort_of_perm (hS.trans hperm.symm)
 have hl : ss.length = (sortL (kvKeys kv)).length := by rw [← he, List.length_mergeSort]
 rw [he, hl] at hrow
 obtain ⟨A, c, rfl, hB⟩ := own_newR (Fr.of_below hb []) hrow
 exact ⟨A, c, rfl, hB⟩
theorem sKeys_any (bs : Nat) (bd : Nat) (u1 : Value) (u2 : Value) (u3 : Value) (bm : Nat) (u5 : Value) (u6 : Value) (u7 : Value) (u8 : Value) (kv : List (Bs × BV)) (w : World) (r0 : Rf [] w (fun w => At w bs 66 [(vP bd 0), u1, u2, u3, (.map (some bm)), u5, u6, u7, u8])) (r1 : Rf [] w (fun w => MapAt kB bvV w bm kv)) (hS : kv.length ≤ 1000000) :
  Calls Tryz.prog 18 #[(vP bs 0)] w fun e w' => ∃ (B : Option Addr) (cb : Nat), e = .returned (vL B (sortL (kvKeys kv)) cb) ∧ Back [] w [cS B (sortL (kvKeys kv)) cb] w' := by
 have _u0 := r0
 have _u1 := r1
 have _u2 := hS
 clear _u0 _u1 _u2
 refine stEnter (args := [(vP bs 0)]) (fps []) Tryz.func18 rfl 9 rfl [(0, (vP bs 0))] ⟨rfl, trivial⟩ [] (Mm.start w []) ?_
 refine stSeq (reg ?_)
 refine la ?_
 refine liNil (qThen (stSeq (reg ?_)))
 refine lm ?_
 refine lc (vP bs 0) ?_
 refine lc (vP bs 4) ?_
 refine lv (v := (.map (some bm))) (rLoadW rfl rfl (by kernel_rfl) (fun w hM => At.cell (r0.now hM) 4)) ?_
 refine li rfl ?_
 refine opK0 (fun w hM => (bKeys_any bm w ).mono ?_)
 rintro e w' ⟨bk7, rfl, hP⟩
 refine ⟨_, _, rfl, hP, ?_⟩; clear hP hM
 refine li rfl ?_
 refine opK0 (fun w hM => (bSorted_any bk7 bm kv w (hM.keep0 (j := 0) rfl (fun _ h => h)) (r1.go0 hM) (by omega)).mono ?_)
 rintro e w' ⟨B8, cb8, rfl, hP⟩
 refine ⟨_, _, rfl, hP, ?_⟩; clear hP hM
 refine la ?_
 refine liNil (qThen (stRet ?_))
 refine stEnd [(vL B8 (sortL (kvKeys kv)) cb8)] rfl ⟨rfl, trivial⟩ (fun w hM => ?_)
 exact ⟨B8, cb8, rfl, (hM.pick [1] rfl rfl)⟩
theorem sBytes_any (bs : Nat) (bd : Nat) (first : Nat) (Y : SX) (w : World) (hO : Own [cStore bs bd first Y] w) (hS : Y.kv.length ≤ 100000) (hb : ∀ p ∈ Y.kv, p.2.b.data.length ≤ 65536) :
  Calls Tryz.prog 22 #[(vP bs 0)] w fun e w' => e = .returned (vI (sumB Y.kv)) ∧ Back [cStore bs bd first Y] w [cStore bs bd first Y] w' := by
 have _u0 := hS
 have _u1 := hb
 clear _u0 _u1
 refine stEnter (args := [(vP bs 0)]) (fps [cStore bs bd first Y]) Tryz.func22 rfl 20 rfl [(0, (vP bs 0))] ⟨rfl, trivial⟩ [cStore bs bd first Y] (hO) ?_
 refine stSeq ?_
 refine St.fact (fun w hM => (Mm.unpack (A := []) (B := []) hM).2) (fun sw => ?_)
 refine St.mem (cs' := [cAt bs 66 [(vP bd 0), (vI first), (vI Y.us.length), (.int .u64 ((Y.num : Nat) : Int)), (.map (some Y.bm)), (vL Y.Au Y.us (Y.cu)), (.slice none 0 0), (vI Y.fr), (.bool false)], cMap kB bvV Y.bm Y.kv, cOwn 4 1 Y.Au (Y.us.length) (Y.cu) (BB Y.us), cInts Y.L]) (fun w hM => (Mm.unpack (A := []) (B := []) hM).1) ?_
 refine reg ?_
 refine la ?_
 refine liNil (qThen (stSeq (reg ?_)))
 refine la ?_
 refine liNil (qThen (stSeq (stSeq (reg ?_))))
 refine lm ?_
 refine lc (vP bs 0) ?_
 refine lc (vP bs 4) ?_
 refine lv (v := (.map (some Y.bm))) (rLoad 0 rfl rfl (by kernel_rfl) rfl rfl) ?_
 refine li rfl ?_
 refine opRangeK 1 rfl rfl (by kernel_rfl) rfl Tryz.underlying63 rfl (fun r10 => ?_)
 refine liNil (qThen (stBlock ?_))
 refine stLoop (ι := Nat × List (Bs × BV) × Option (Bs × BV)) (fun (tot, td, lst) => tot + sumB td = sumB Y.kv ∧ ∀ p ∈ td, p ∈ Y.kv) (fun (tot, td, lst) => td.length) (fun (tot, td, lst) => [(2, (.int .i64 0)), (10, (vP r10 0)), (3, (vI tot))]) (fun (tot, td, lst) => [cAt bs 66 [(vP bd 0), (vI first), (vI Y.us.length), (.int .u64 ((Y.num : Nat) : Int)), (.map (some Y.bm)), (vL Y.Au Y.us (Y.cu)), (.slice none 0 0), (vI Y.fr), (.bool false)], cRng kB bvV Y.bm r10 Y.kv td lst, cOwn 4 1 Y.Au (Y.us.length) (Y.cu) (BB Y.us), cInts Y.L]) (0, Y.kv, none) ⟨Nat.zero_add _, fun p h => h⟩ ⟨rfl, rfl, rfl, trivial⟩ (fun _ h => h) ?_
 rintro ⟨tot, td, lst⟩ ⟨o1, o2⟩
 show St _ _ _ [(2, (.int .i64 0)), (10, (vP r10 0)), (3, (vI tot))] [cAt bs 66 [(vP bd 0), (vI first), (vI Y.us.length), (.int .u64 ((Y.num : Nat) : Int)), (.map (some Y.bm)), (vL Y.Au Y.us (Y.cu)), (.slice none 0 0), (vI Y.fr), (.bool false)], cRng kB bvV Y.bm r10 Y.kv td lst, cOwn 4 1 Y.Au (Y.us.length) (Y.cu) (BB Y.us), cInts Y.L] _
 refine stSeq (reg (li rfl ?_))
 refine opNextK 1 rfl rfl (by kernel_rfl) rfl rfl (fun h0 => ?_) (fun t1 p t2 h1 => ?_)
 ·subst h0
  refine lv (v := .bool false) (rClosed fun _ => by kernel_rfl) ?_
  refine liNil (qThen (stSeq (stFalse rfl (stExit (qThenX (qThenX (qBlockX (qThen (stSeq (reg ?_))))))))))
  refine lm ?_
  refine la ?_
  refine liNil (qThen (stRet ?_))
  refine stEnd [(vI tot)] rfl ⟨rfl, trivial⟩ (fun w hM => ?_)
  obtain rfl : tot = sumB Y.kv := by simpa [sumB] using o1
  exact ⟨rfl, Mm.pack (A := []) (B := []) ((hM.rngMap 1 rfl).pick [0, 1, 2, 3] rfl rfl) sw⟩
 ·subst h1
  refine lv (v := .bool true) (rClosed fun _ => by kernel_rfl) ?_
  refine liNil (qThen (stSeq (stTrue rfl (stSkip (qThen (stBlock (stSeq ?_)))))))
  have hp := hb p (o2 p (by simp))
  have hsm := sumB_le Y.kv hb
  have hs2 := sumB_mid t1 p t2
  refine reg ?_
  refine lv (v := (.tuple #[(vS p.1), (.agg #[(.int .u64 ((p.2.b.num : Nat) : Int)), (vI p.2.b.len), (vI p.2.b.data.length), (vS (sha p.2.b.data)), (vL p.2.A p.2.b.secs (p.2.c))])])) (rEntryK (D := kB) (val := bvV) (p := p) 1 rfl rfl rfl) ?_
  refine lc (.agg #[(.int .u64 ((p.2.b.num : Nat) : Int)), (vI p.2.b.len), (vI p.2.b.data.length), (vS (sha p.2.b.data)), (vL p.2.A p.2.b.secs (p.2.c))]) ?_
  refine li rfl ?_
  refine opAlloc [(.int .u64 0), (.int .i64 0), (.int .i64 0), (.string ⟨#[]⟩), (.slice none 0 0)] rfl rfl (by kernel_rfl) (by kernel_rfl) (fun b5 => ?_)
  refine li rfl ?_
  refine opStoreN 4 [(.int .u64 ((p.2.b.num : Nat) : Int)), (vI p.2.b.len), (vI p.2.b.data.length), (vS (sha p.2.b.data)), (vL p.2.A p.2.b.secs (p.2.c))] (vs := [(.int .u64 ((p.2.b.num : Nat) : Int)), (vI p.2.b.len), (vI p.2.b.data.length), (vS (sha p.2.b.data)), (vL p.2.A p.2.b.secs (p.2.c))]) rfl rfl (by kernel_rfl) rfl rfl rfl (by kernel_rfl) rfl (by simp) (by simp [Value.oneCell']) rfl ?_
  refine liNil (qThen (reg ?_))
  refine lm ?_
  refine lc (vP b5 2) ?_
  refine lv (v := (vI p.2.b.data.length)) (rLoad 4 rfl rfl (by kernel_rfl) rfl rfl) ?_
  refine lv (v := (vI (tot + p.2.b.data.length))) (rAdd _ rfl rfl rfl (by omega) (by omega) (by omega)) ?_
  refine la ?_
  refine liNil (qBlock (qThen ?_))
  exact stAgain (tot + p.2.b.data.length, t1 ++ t2, some p) (⟨by show _ + _ = _; rw [← o1, sumB_mid]; omega, fun q hq => o2 q (by rcases List.mem_append.1 hq with h | h; exact List.mem_append_left _ h; exact List.mem_append_right _ (List.mem_cons_of_mem _ h))⟩) (by show (t1 ++ t2).length < (t1 ++ p :: t2).length; rw [List.length_append, List.length_append, List.length_cons]; omega) ⟨rfl, rfl, rfl, trivial⟩ (fun w hM => (hM.pick [0, 1, 2, 3] rfl rfl))
end Go.Proofs.YtaiggifiefnjnaaGreatDoor
namespace Go.Proofs.YtaiggifiefnjnaaGreatDoor
open Go.RowKit
def nzB (bs : Bs) : Bool := bs.any fun b => b != 0
theorem nzB_take {bs : Bs} {i : Nat} {x : UInt8} (h : bs[i]? = some x) : nzB (bs.take (i + 1)) = (nzB (bs.take i) || (x != 0)) := by
 unfold nzB
 rw [List.take_add_one, h, Option.toList_some, List.any_append]
 simp
theorem nzB_hit {bs : Bs} {i : Nat} {x : UInt8} (h : bs[i]? = some x) (hx : (x != 0) = true) : nzB bs = true := List.any_eq_true.2 ⟨x, List.mem_of_getElem? h, hx⟩
theorem nzB_zeros (n : Nat) : nzB (zerosB n) = false := by
 unfold nzB zerosB
 rw [List.any_eq_false]
 intro x hx
 rw [List.eq_of_mem_replicate hx]
 simp
theorem u8_ne (x : UInt8) : (((x.toNat : Nat) : Int) != 0) = (x != 0) := by
 rw [Bool.eq_iff_iff, bne_iff_ne, bne_iff_ne]
 constructor
 ·intro h e
  subst e
  exact h rfl
 ·intro h e
  exact h (UInt8.toNat_inj.1 (by show x.toNat = 0; omega))
theorem sClo_any (x : UInt8) (w : World) :
  Calls Tryz.prog 60 #[(.int .u8 ((x.toNat : Nat) : Int))] w fun e w' => e = .returned (.bool (x != 0)) ∧ Back [] w [] w' := by
 refine stEnter (args := [(.int .u8 ((x.toNat : Nat) : Int))]) (fps []) Tryz.func60 rfl 5 rfl [(0, (.int .u8 ((x.toNat : Nat) : Int)))] ⟨rfl, trivial⟩ [] (Mm.start w []) ?_
 refine stSeq (reg ?_)
 refine la ?_
 refine liNil (qThen (stSeq (reg ?_)))
 refine lm ?_
 refine lc (.bool ((((x.toNat : Nat) : Int) : Int) != 0)) ?_
 refine la ?_
 refine liNil (qThen (stRet ?_))
 refine stEnd [(.bool ((((x.toNat : Nat) : Int) : Int) != 0))] rfl ⟨rfl, trivial⟩ (fun w hM => ?_)
 exact ⟨ret_bool (u8_ne x), hM⟩
theorem sIdxF_any (A : Option Addr) (c : Nat) (bs : List UInt8) (w : World) (r0 : Rf [] w (fun w => RowIn w A (B8 bs))) (hl : bs.length ≤ 1000000) :
  Calls Tryz.prog 74 #[(vL A bs c), (.func (.func 60) #[] #[])] w fun e w' => ∃ (k : Int), e = .returned (.int .i64 k) ∧ Back [] w [] w' ∧ (decide (k ≥ 0) = nzB bs) := by
 have _u0 := r0
 have _u1 := hl
 clear _u0 _u1
 refine stEnter (args := [(vL A bs c), (.func (.func 60) #[] #[])]) (fps []) Tryz.func74 rfl 19 rfl [(0, (vL A bs c)), (1, (.func (.func 60) #[] #[]))] ⟨rfl, rfl, trivial⟩ [] (Mm.start w []) ?_
 refine stSeq (reg ?_)
 refine la ?_
 refine liNil (qThen (stSeq (stSeq (reg ?_))))
 refine lm ?_
 refine lc (vI bs.length) ?_
 refine lm ?_
 refine liNil (qThen (stBlock ?_))
 refine stLoop (ι := Nat) (fun i => i ≤ bs.length ∧ nzB (bs.take i) = false) (fun i => bs.length - i) (fun i => [(0, (vL A bs c)), (1, (.func (.func 60) #[] #[])), (4, (.int .i64 0)), (7, (vI bs.length)), (8, (vI i))]) (fun i => []) 0 ⟨Nat.zero_le _, by simp [nzB]⟩ ⟨rfl, rfl, rfl, rfl, rfl, trivial⟩ (fun _ h => h) ?_
 rintro i ⟨o1, o2⟩
 show St _ _ _ [(0, (vL A bs c)), (1, (.func (.func 60) #[] #[])), (4, (.int .i64 0)), (7, (vI bs.length)), (8, (vI i))] [] _
 refine stSeq (reg ?_)
 refine lc (.bool (decide (((i : Nat) : Int) < ((bs.length : Nat) : Int)))) ?_
 refine liNil (qThen (stSeq ?_))
 refine stCond rfl (fun hc9 => ?_) (fun hc9 => ?_)
 ·have hd9 := of_decide_eq_true hc9
  refine stSkip (qThen (stSeq (stBlock (stSeq (reg ?_)))))
  refine lm ?_
  refine la ?_
  refine liNil (qThen (stSeq (reg ?_)))
  refine lm ?_
  refine lm ?_
  refine lm ?_
  obtain ⟨x0, hx0⟩ : ∃ ξ, (bs)[i]? = some ξ := ⟨_, List.getElem?_eq_getElem (by omega)⟩
  refine St.rowPtr (fun w hM => r0.now hM) (B8_at hx0) (fun p14 q14 hA14 hc14 => ?_)
  refine lv (v := (vP p14 (q14 + i))) (rIndexRow (e := 5) rfl (by kernel_rfl) (by kernel_rfl) rfl rfl hA14 (by omega)) ?_
  refine lv (v := (.int .u8 ((x0.toNat : Nat) : Int))) (rLoadW rfl rfl (by kernel_rfl) hc14) ?_
  refine li rfl ?_
  refine opKF (f := 60) (caps := #[]) rfl rfl rfl (enters Tryz.func60 (by kernel_rfl) rfl) (fun w hM => (sClo_any x0 w).mono ?_)
  rintro e w' ⟨rfl, hP⟩
  refine ⟨_, _, rfl, hP, ?_⟩; clear hP hM
  refine liNil (qThen ?_)
  refine stCond rfl (fun hc16 => ?_) (fun hc16 => ?_)
  ·refine stSeq (reg ?_)
   refine lm ?_
   refine la ?_
   refine liNil (qThen (stRet (qBlockR (qThenR (qThenR (qBlockR (qThenR ?_)))))))
   refine stEnd [(vI i)] rfl ⟨rfl, trivial⟩ (fun w hM => ?_)
   exact ⟨_, rfl, hM, by rw [nzB_hit hx0 (by simpa using hc16)]; simp⟩
  ·refine stSkip (qBlock (qThen (reg ?_)))
   refine lv (v := (vI (i + 1))) (rAdd _ rfl rfl rfl (by omega) (by omega) (by omega)) ?_
   refine lm ?_
   refine liNil (qThen ?_)
   exact stAgain (i + 1) (⟨by omega, by rw [nzB_take hx0, o2, hc16]; rfl⟩) (by show _ - _ < _ - _; omega) ⟨rfl, rfl, rfl, rfl, rfl, trivial⟩ (fun w hM => hM)
 ·have hd9 := of_decide_eq_false hc9
  refine stExit (qThenX (qThenX (qBlockX (qThen (stSeq (reg ?_))))))
  refine la ?_
  refine liNil (qThen (stRet ?_))
  refine stEnd [(.int .i64 (-1))] rfl ⟨rfl, trivial⟩ (fun w hM => ?_)
  obtain rfl : i = bs.length := by omega
  rw [List.take_length] at o2
  exact ⟨_, rfl, hM, by rw [o2]; rfl⟩
theorem sContF_any (A : Option Addr) (c : Nat) (bs : List UInt8) (w : World) (r0 : Rf [] w (fun w => RowIn w A (B8 bs))) (hl : bs.length ≤ 1000000) :
  Calls Tryz.prog 59 #[(vL A bs c), (.func (.func 60) #[] #[])] w fun e w' => e = .returned (.bool (nzB bs)) ∧ Back [] w [] w' := by
 have _u0 := r0
 have _u1 := hl
 clear _u0 _u1
 refine stEnter (args := [(vL A bs c), (.func (.func 60) #[] #[])]) (fps []) Tryz.func59 rfl 9 rfl [(0, (vL A bs c)), (1, (.func (.func 60) #[] #[]))] ⟨rfl, rfl, trivial⟩ [] (Mm.start w []) ?_
 refine stSeq (reg ?_)
 refine la ?_
 refine liNil (qThen (stSeq (reg ?_)))
 refine lm ?_
 refine lm ?_
 refine li rfl ?_
 refine opK0 (fun w hM => (sIdxF_any A c bs w (r0.go0 hM) (by omega)).mono ?_)
 rintro e w' ⟨k7, rfl, hP, hnz7⟩
 refine ⟨_, _, rfl, hP, ?_⟩; clear hP hM
 refine lc (.bool (decide ((k7 : Int) ≥ 0))) ?_
 refine la ?_
 refine liNil (qThen (stRet ?_))
 refine stEnd [(.bool (decide ((k7 : Int) ≥ 0)))] rfl ⟨rfl, trivial⟩ (fun w hM => ?_)
 exact ⟨by rw [← hnz7]; rfl, hM⟩
end Go.Proofs.YtaiggifiefnjnaaGreatDoor
namespace Go.Proofs.YtaiggifiefnjnaaGreatDoor
open Go.RowKit
structure Pl where
 sec : Nat
 num : Nat
 idx : Nat
 st : Nat
def plV (p : Pl) : List Value := [vI p.sec, .int .u64 (p.num : Int), vI p.idx, vI p.st]
abbrev PL (l : List Pl) : List Value := l.flatMap plV
theorem PL_append (a b : List Pl) : PL (a ++ b) = PL a ++ PL b := by simp [PL]
theorem el_pl : Elem Tryz.prog 93 113 (.agg #[.int .i64 0, .int .u64 0, .int .i64 0, .int .i64 0]) 4 32 := ⟨Tryz.underlying93, by kernel_rfl, rfl, by omega, by omega⟩
theorem PL_at {l : List Pl} {i : Nat} {p : Pl} (h : l[i]? = some p) (j : Nat) (v : Value) (hj : (plV p)[j]? = some v) : (PL l)[i * 4 + j]? = some v := by
 induction l generalizing i with
 | nil => simp at h
 | cons q l ih =>
   have hl : (plV q).length = 4 := rfl
   cases i with
   | zero =>
     simp at h; subst h
     have : j < 4 := by have := (List.getElem?_eq_some_iff.1 hj).1; simpa [plV] using this
     rw [show PL (q :: l) = plV q ++ PL l from rfl, Nat.zero_mul, Nat.zero_add, List.getElem?_append_left (by omega)]
     exact hj
   | succ i =>
     rw [show PL (q :: l) = plV q ++ PL l from rfl, show (i + 1) * 4 + j = 4 + (i * 4 + j) by omega, ← hl, List.getElem?_append_right (by omega), Nat.add_sub_cancel_left]
     exact ih (by simpa using h)
structure FE where
 key : Nat
 A : Option Addr
 c : Nat
 pls : List Pl
def feV (e : FE) : Nat × SlV := (e.key, (e.A, e.pls.length, e.c))
def feP (e : FE) : Nat × List Pl := (e.key, e.pls)
def feO (e : FE) : Ch := cOwn 113 4 e.A e.pls.length e.c (PL e.pls)
def cFam (F : List FE) : Ch := cPack (F.map feO) True
section
variable {w0 w : World} {S : List Nat} {cs : List Ch} {F1 F2 : List FE} {e : FE}
theorem Mm.newFam (h : Mm w0 S cs w) : Mm w0 S (cs ++ [cFam []]) w :=
 h.push (c := cFam []) (Fr.refl _ _) ⟨by simp, by simp, trivial⟩ (by simp [cFam, cPack]) (by simp [cFam, cPack])
theorem Mm.splitFam (h : Mm w0 S (cs ++ [cFam (F1 ++ e :: F2)]) w) : Mm w0 S (cs ++ [cFam F1, feO e, cFam F2]) w := by
 have h1 := (Mm.unpack (A := cs) (B := []) (l := (F1 ++ e :: F2).map feO) (p := True) h).1
 have h2 : Mm w0 S (cs ++ F1.map feO ++ (feO e :: F2.map feO)) w := by simpa using h1
 have h3 := Mm.pack (A := cs) (B := feO e :: F2.map feO) (l := F1.map feO) (p := True) h2 trivial
 have h4 : Mm w0 S ((cs ++ [cFam F1, feO e]) ++ F2.map feO ++ []) w := by simpa [cFam] using h3
 have h5 := Mm.pack (A := cs ++ [cFam F1, feO e]) (B := []) (l := F2.map feO) (p := True) h4 trivial
 simpa [cFam] using h5
theorem Mm.joinFam (h : Mm w0 S (cs ++ [cFam F1, feO e, cFam F2]) w) : Mm w0 S (cs ++ [cFam (F1 ++ e :: F2)]) w := by
 have h1 := (Mm.unpack (A := cs) (B := [feO e, cFam F2]) (l := F1.map feO) (p := True) h).1
 have h2 : Mm w0 S ((cs ++ F1.map feO ++ [feO e]) ++ [cFam F2]) w := by simpa using h1
 have h3 := (Mm.unpack (A := cs ++ F1.map feO ++ [feO e]) (B := []) (l := F2.map feO) (p := True) h2).1
 have h4 : Mm w0 S (cs ++ (F1 ++ e :: F2).map feO ++ []) w := by simpa using h3
 exact Mm.pack (A := cs) (B := []) (l := (F1 ++ e :: F2).map feO) (p := True) h4 trivial
theorem Mm.addFam (h : Mm w0 S (cs ++ [cFam F1, feO e]) w) : Mm w0 S (cs ++ [cFam (F1 ++ [e])]) w := by
 have h1 := h.newFam
 have h2 : Mm w0 S (cs ++ [cFam F1, feO e, cFam []]) w := by simpa using h1
 exact h2.joinFam
theorem fam_row (h : (cFam F1).holds w) {e : FE} (he : e ∈ F1) : (feO e).holds w := h.1 _ (List.mem_map.2 ⟨e, he, rfl⟩)
end
theorem fe_split (F : List FE) (k : Nat) : (∀ e ∈ F, e.key ≠ k) ∨ ∃ F1 e F2, F = F1 ++ e :: F2 ∧ e.key = k := by
 by_cases h : ∃ e ∈ F, e.key = k
 ·obtain ⟨e, he, hk⟩ := h
  obtain ⟨F1, F2, h1⟩ := List.append_of_mem he
  exact .inr ⟨F1, e, F2, h1, hk⟩
 ·exact .inl fun e he hk => h ⟨e, he, hk⟩
section
variable {α β : Type} [DecidableEq α]
theorem kvGet_mid {l1 l2 : List (α × β)} {a : α} {u : β} (hn : (kvKeys (l1 ++ (a, u) :: l2)).Nodup) : kvGet (l1 ++ (a, u) :: l2) a = some u :=
 kvGet_at (j := l1.length) hn (by rw [List.getElem?_append_right (Nat.le_refl _), Nat.sub_self]; rfl)
theorem kvPut_mid {l1 l2 : List (α × β)} {a : α} {u v : β} (hn : (kvKeys (l1 ++ (a, u) :: l2)).Nodup) : kvPut (l1 ++ (a, u) :: l2) a v = l1 ++ (a, v) :: l2 := by
 rw [kvPut_at (j := l1.length) (u := u) hn (by rw [List.getElem?_append_right (Nat.le_refl _), Nat.sub_self]; rfl), List.set_append_right _ _ (Nat.le_refl _), Nat.sub_self]
 rfl
end
def plOf (s : Nat) (x : Bs) : Pl := ⟨s, (headB x).1, (headB x).2.1, (headB x).2.2⟩
def addPl (f : List (Nat × List Pl)) (p : Pl) : List (Nat × List Pl) := kvPut f p.num ((kvGet f p.num).getD [] ++ [p])
def secG (first : Nat) (secs : List Bs) (s : Nat) : Bs := secs.getD (first + s) []
def scanT (g : Nat → Bs) : Nat → List (Nat × List Pl) × List Nat
 | 0 => ([], [])
 | s + 1 => if nzB (g s) then (if okB s (g s) then addPl (scanT g s).1 (plOf s (g s)) else (scanT g s).1, (scanT g s).2 ++ [s]) else scanT g s
theorem fe_nodup {F : List FE} (h : (kvKeys (F.map feV)).Nodup) : (kvKeys (F.map feP)).Nodup := by
 unfold kvKeys at h ⊢
 rw [List.map_map] at h ⊢
 exact h
theorem scanT_zero {g : Nat → Bs} {s : Nat} (h : nzB (g s) = false) : scanT g (s + 1) = scanT g s := by rw [scanT, h]; rfl
theorem scanT_nz {g : Nat → Bs} {s : Nat} (h : nzB (g s) = true) : (scanT g (s + 1)).2 = (scanT g s).2 ++ [s] := by rw [scanT, h]; rfl
theorem scanT_bad {g : Nat → Bs} {s : Nat} (h : nzB (g s) = true) (hk : okB s (g s) = false) : (scanT g (s + 1)).1 = (scanT g s).1 := by rw [scanT, h, hk]; rfl
theorem scanT_ok {g : Nat → Bs} {s : Nat} (h : nzB (g s) = true) (hk : okB s (g s) = true) : (scanT g (s + 1)).1 = addPl (scanT g s).1 (plOf s (g s)) := by rw [scanT, h, hk]; rfl
theorem fe_new {F : List FE} {p : Pl} {A : Option Addr} {c : Nat} (h : ∀ e ∈ F, e.key ≠ p.num) : (F ++ [FE.mk p.num A c [p]]).map feP = addPl (F.map feP) p := by
 have hk : p.num ∉ kvKeys (F.map feP) := by
  unfold kvKeys
  rw [List.map_map]
  intro hm
  obtain ⟨e, he, h1⟩ := List.mem_map.1 hm
  exact h e he h1
 unfold addPl
 rw [kvPut_new hk, kvGet_none hk, List.map_append]
 rfl
theorem fe_mid {F1 F2 : List FE} {e : FE} {p : Pl} {A : Option Addr} {c : Nat} (hn : (kvKeys ((F1 ++ e :: F2).map feV)).Nodup) (h : e.key = p.num) : (F1 ++ FE.mk p.num A c (e.pls ++ [p]) :: F2).map feP = addPl ((F1 ++ e :: F2).map feP) p := by
 have hn2 := fe_nodup hn
 unfold addPl
 rw [List.map_append, List.map_cons, show feP e = (p.num, e.pls) by rw [← h]; rfl] at hn2
 rw [List.map_append, List.map_cons, List.map_append, List.map_cons, show feP e = (p.num, e.pls) by rw [← h]; rfl, kvGet_mid hn2, kvPut_mid hn2]
 rfl
theorem feV_new {F : List FE} {p : Pl} {A : Option Addr} {c m : Nat} (h : ∀ e ∈ F, e.key ≠ p.num) (hm : m = 1) : kvPut (F.map feV) p.num (A, m, c) = (F ++ [FE.mk p.num A c [p]]).map feV ∧ kvGet (F.map feV) p.num = none := by
 have hk : p.num ∉ kvKeys (F.map feV) := by
  unfold kvKeys
  rw [List.map_map]
  intro hm
  obtain ⟨e, he, h1⟩ := List.mem_map.1 hm
  exact h e he h1
 subst hm
 exact ⟨by rw [kvPut_new hk, List.map_append]; rfl, kvGet_none hk⟩
theorem feV_mid {F1 F2 : List FE} {e : FE} {k : Nat} (hn : (kvKeys ((F1 ++ e :: F2).map feV)).Nodup) (h : e.key = k) : kvGet ((F1 ++ e :: F2).map feV) k = some (e.A, e.pls.length, e.c) ∧ ∀ A c pls, kvPut ((F1 ++ e :: F2).map feV) k (A, pls.length, c) = (F1 ++ FE.mk k A c pls :: F2).map feV := by
 subst h
 rw [List.map_append, List.map_cons, show feV e = (e.key, (e.A, e.pls.length, e.c)) from rfl] at hn ⊢
 refine ⟨kvGet_mid hn, fun A c pls => ?_⟩
 rw [kvPut_mid hn, List.map_append, List.map_cons]
 rfl
theorem headB_lt (x : Bs) : (headB x).1 < 18446744073709551616 := by
 have h := valB_lt ((x.drop 16).take 8)
 have h2 : ((x.drop 16).take 8).length ≤ 8 := by rw [List.length_take]; omega
 exact Nat.lt_of_lt_of_le h (Nat.pow_le_pow_right (by omega) h2)
end Go.Proofs.YtaiggifiefnjnaaGreatDoor
namespace Go.Proofs.YtaiggifiefnjnaaGreatDoor
open Go.RowKit
theorem scanT_len (g : Nat → Bs) (i : Nat) : (scanT g i).2.length ≤ i := by
 induction i with
 | zero => exact Nat.le_refl _
 | succ i ih =>
   rw [scanT]
   split
   ·simp only [List.length_append, List.length_cons, List.length_nil]
    omega
   ·omega
theorem scanT_pl {g : Nat → Bs} {i : Nat} {p : Nat × List Pl} (h : p ∈ (scanT g i).1) : p.2.length ≤ i := by
 induction i generalizing p with
 | zero => cases h
 | succ i ih =>
   rw [scanT] at h
   split at h
   ·simp only at h
    split at h
    ·rcases kvPut_mem h with h | rfl
     ·have := ih h; omega
     ·simp only [List.length_append, List.length_cons, List.length_nil]
      cases hg : kvGet (scanT g i).1 (plOf i (g i)).num with
      | none => simp
      | some v => have := ih (kvGet_mem hg); simp only [Option.getD_some]; simp only at this; omega
    ·have := ih h; omega
   ·have := ih h; omega
theorem sScan_any (bs : Nat) (bd : Nat) (first : Nat) (n : Nat) (u3 : Value) (u4 : Value) (u5 : Value) (u6 : Value) (u7 : Value) (u8 : Value) (X : DX) (sz : Nat) (secs : List Bs) (w : World) (hO : Own [cDisk bd X sz secs []] w) (r0 : Rf [cDisk bd X sz secs []] w (Vars)) (r1 : Rf [cDisk bd X sz secs []] w (fun w => At w bs 66 [(vP bd 0), (vI first), (vI n), u3, u4, u5, u6, u7, u8])) (hs : first + n ≤ secs.length) (hn : n ≤ 1000 ∧ first ≤ 200000) (hsz : 64 ≤ sz ∧ sz ≤ 4096) :
  Calls Tryz.prog 42 #[(vP bs 0)] w fun e w' => ∃ (bf : Nat) (F : List FE) (W : Option Addr) (cw : Nat), e = .returned (.tuple #[(.map (some bf)), (.slice W ((scanT (secG first secs) n).2.length) (cw)), (.int .i64 0)]) ∧ Back [cDisk bd X sz secs []] w [cDisk bd X sz secs [], cMap kU slv bf (F.map feV), cFam F, cOwn 3 1 W ((scanT (secG first secs) n).2.length) (cw) (II (scanT (secG first secs) n).2)] w' ∧ (F.map feP = (scanT (secG first secs) n).1) := by
 have _u0 := r0
 have _u1 := r1
 have _u2 := hs
 have _u3 := hn
 have _u4 := hsz
 clear _u0 _u1 _u2 _u3 _u4
 refine stEnter (args := [(vP bs 0)]) (fps [cDisk bd X sz secs []]) Tryz.func42 rfl 69 rfl [(0, (vP bs 0))] ⟨rfl, trivial⟩ [cDisk bd X sz secs []] (hO) ?_
 refine stSeq ?_
 obtain ⟨n1, n2⟩ := hn
 obtain ⟨z1, z2⟩ := hsz
 refine reg ?_
 refine la ?_
 refine la ?_
 refine la ?_
 refine liNil (qThen (stSeq (reg (li rfl ?_))))
 refine opMakeMapK kU slv rfl rfl (by kernel_rfl) (fun bf => ?_)
 refine St.mem (fun w hM => hM.newFam) ?_
 refine la ?_
 refine liNil (qThen (stSeq (reg ?_)))
 refine la ?_
 refine liNil (qThen (stSeq (stSeq (reg ?_))))
 refine lm ?_
 refine lc (vP bs 0) ?_
 refine lc (vP bs 2) ?_
 refine lv (v := (vI n)) (rLoadW rfl rfl (by kernel_rfl) (fun w hM => At.cell (r1.now hM) 2)) ?_
 refine lm ?_
 refine liNil (qThen (stBlock ?_))
 refine St.mem (fun w hM => hM.nilOwn 3 1) ?_
 refine stLoop (ι := Nat × List FE × Option Addr × Nat) (fun (i, F, W, cw) => i ≤ n ∧ F.map feP = (scanT (secG first secs) i).1) (fun (i, F, W, cw) => n - i) (fun (i, F, W, cw) => [(0, (vP bs 0)), (2, (.map none)), (3, (.slice none 0 0)), (4, (.int .i64 0)), (5, (.map (some bf))), (17, (vI n)), (6, (.slice W ((scanT (secG first secs) i).2.length) (cw))), (18, (vI i))]) (fun (i, F, W, cw) => [cDisk bd X sz secs [], cMap kU slv bf (F.map feV), cFam F, cOwn 3 1 W ((scanT (secG first secs) i).2.length) (cw) (II (scanT (secG first secs) i).2)]) (0, [], none, 0) ⟨Nat.zero_le _, rfl⟩ ⟨rfl, rfl, rfl, rfl, rfl, rfl, rfl, rfl, trivial⟩ (fun _ h => h) ?_
 rintro ⟨i, F, W, cw⟩ ⟨o1, o2⟩
 show St _ _ _ [(0, (vP bs 0)), (2, (.map none)), (3, (.slice none 0 0)), (4, (.int .i64 0)), (5, (.map (some bf))), (17, (vI n)), (6, (.slice W ((scanT (secG first secs) i).2.length) (cw))), (18, (vI i))] [cDisk bd X sz secs [], cMap kU slv bf (F.map feV), cFam F, cOwn 3 1 W ((scanT (secG first secs) i).2.length) (cw) (II (scanT (secG first secs) i).2)] _
 refine stSeq (reg ?_)
 refine lc (.bool (decide (((i : Nat) : Int) < ((n : Nat) : Int)))) ?_
 refine liNil (qThen (stSeq ?_))
 refine stCond rfl (fun hc19 => ?_) (fun hc19 => ?_)
 ·have hd19 := of_decide_eq_true hc19
  refine stSkip (qThen (stSeq (stBlock (stSeq (reg ?_)))))
  refine lm ?_
  refine la ?_
  refine liNil (qThen (stSeq ?_))
  obtain ⟨x, hx⟩ : ∃ x, secs[first + i]? = some x := ⟨_, List.getElem?_eq_getElem (by omega)⟩
  have hgx : secG first secs i = x := by unfold secG; rw [List.getD, hx]; rfl
  refine anyBegin [cDisk bd X sz secs [], cMap kU slv bf (F.map feV), cFam F, cOwn 3 1 W ((scanT (secG first secs) i).2.length) (cw) (II (scanT (secG first secs) i).2)] 10 (by kernel_rfl) (fun _ h => h) ?_
  refine am 0 ?_
  refine ac 1 (vP bs 0) ?_
  refine ac 2 (vP bs 0) ?_
  refine av 3 (vP bd 0) rfl (rLoadW rfl rfl (by kernel_rfl) (fun w hM => At.cell (r1.now hM) 0)) ?_
  refine am 4 ?_
  refine ac 5 (vP bs 0) ?_
  refine ac 6 (vP bs 1) ?_
  refine av 7 (vI first) rfl (rLoadW rfl rfl (by kernel_rfl) (fun w hM => At.cell (r1.now hM) 1)) ?_
  refine am 8 ?_
  refine av 9 (vI (first + i)) rfl (rAdd _ rfl rfl rfl (by omega) (by omega) (by omega)) ?_
  refine a1 10 ?_
  refine opK [0] [cDisk bd X sz secs []] (fun w hM hO => (dReadL_any bd X sz secs (first + i) x w hO (by assumption)).mono ?_)
  rintro e w' ⟨b32, rfl, hP, hhl32⟩
  refine ⟨_, [cDisk bd X sz secs []], _, rfl, hP, rfl, ?_⟩; clear hP hM hO
  refine anyPhase [cDisk bd X sz secs [], cMap kU slv bf (F.map feV), cFam F, cOwn 3 1 W ((scanT (secG first secs) i).2.length) (cw) (II (scanT (secG first secs) i).2), cAt b32 5 (B8 x)] 16 rfl (fun _ h => h) ?_
  refine am 11 ?_
  refine ac 12 (vL (some ⟨b32, 0, none⟩) x (x.length)) ?_
  refine ac 13 (.int .i64 0) ?_
  refine aa 14 ?_
  refine aa 15 ?_
  refine anyDone (by kernel_rfl) ?_
  refine qThen (stSeq (stSeq (reg ?_)))
  refine lm ?_
  refine lc (.bool false) ?_
  refine liNil (qThen (stFalse rfl (stSkip (qThen (stSeq (stSeq (reg ?_)))))))
  refine lm ?_
  refine li rfl ?_
  refine opK0 (fun w hM => (sContF_any (some ⟨b32, 0, none⟩) x.length x w (hM.keep0 (j := 4) rfl (fun _ h => rowAtI h rfl)) (by omega)).mono ?_)
  rintro e w' ⟨rfl, hP⟩
  refine ⟨_, _, rfl, hP, ?_⟩; clear hP hM
  refine lc (.bool (!(nzB x))) ?_
  refine liNil (qThen ?_)
  refine stCond rfl (fun hc41 => ?_) (fun hc41 => ?_)
  ·have hnz : nzB (secG first secs i) = false := by rw [hgx]; simpa using hc41
   refine stExit (qThenX (qBlockX (qThen (reg ?_))))
   refine lv (v := (vI (i + 1))) (rAdd _ rfl rfl rfl (by omega) (by omega) (by omega)) ?_
   refine lm ?_
   refine liNil (qThen ?_)
   rw [show (scanT (secG first secs) i) = (scanT (secG first secs) (i + 1)) from (scanT_zero hnz).symm]
   have hnx := o2
   rw [← scanT_zero hnz] at hnx
   exact stAgain (i + 1, F, W, cw) (⟨by show _ ≤ _; omega, hnx⟩) (by show _ - _ < _ - _; omega) ⟨rfl, rfl, rfl, rfl, rfl, rfl, rfl, rfl, trivial⟩ (fun w hM => (hM.pick [0, 1, 2, 3] rfl rfl))
  ·have hnz : nzB (secG first secs i) = true := by rw [hgx]; simpa using hc41
   refine stSkip (qThen (stSeq (reg ?_)))
   refine lm ?_
   refine lm ?_
   refine li rfl ?_
   refine opNew (v := fun b => .slice (some ⟨b, 0, none⟩) 1 1) 3 [(vI i)] rfl (by kernel_rfl) (fun _ => by kernel_rfl) (fun b44 => ?_)
   refine li rfl ?_
   refine opAppend el_int 3 ([(vI i)]) rfl rfl (by kernel_rfl) rfl rfl rfl (rfl) (srcAt (i := 5) rfl (fun j v h => by rw [Nat.zero_add]; exact h)) (by simp [Value.oneCell']) (by have := scanT_len (secG first secs) i; omega) (((scanT (secG first secs) i).2 ++ [i]).length) (by first | exact (List.length_append ..).symm | (simp; done) | (simp; omega)) (II ((scanT (secG first secs) i).2 ++ [i])) (by simp [II]) (fun A45 c45 => ?_)
   refine la ?_
   refine liNil (qThen (stSeq ?_))
   refine St.to [cDisk bd X sz secs [], cMap kU slv bf (F.map feV), cFam F, cOwn 3 1 A45 (((scanT (secG first secs) i).2 ++ [i]).length) (c45) (II ((scanT (secG first secs) i).2 ++ [i])), cAt b32 5 (B8 x), cAt b44 3 [(vI i)]] (by kernel_rfl) ?_
   cases hk : okB i x with
   | false =>
     refine reg ?_
     refine lm ?_
     refine lm ?_
     refine li rfl ?_
     refine opK0 (fun w hM => (cUnp_bad i (some ⟨b32, 0, none⟩) x.length x w (r0.go0 hM) (hM.keep0 (j := 4) rfl (fun _ h => rowAtI h rfl)) (by omega) (by omega) (by omega) (by omega) (by assumption)).mono ?_)
     rintro e w' ⟨rfl, hP⟩
     refine ⟨_, _, rfl, hP, ?_⟩; clear hP hM
     refine lm ?_
     refine lc (.agg #[(.int .u64 ((0 : Nat) : Int)), (.int .i64 0), (.int .i64 0)]) ?_
     refine lc (.slice none 0 0) ?_
     refine lc (.bool false) ?_
     refine li rfl ?_
     refine opAlloc [(.int .u64 0), (.int .i64 0), (.int .i64 0)] rfl rfl (by kernel_rfl) (by kernel_rfl) (fun b10 => ?_)
     refine li rfl ?_
     refine opStoreN 6 [(.int .u64 ((0 : Nat) : Int)), (.int .i64 0), (.int .i64 0)] (vs := [(.int .u64 ((0 : Nat) : Int)), (.int .i64 0), (.int .i64 0)]) rfl rfl (by kernel_rfl) rfl rfl rfl (by kernel_rfl) rfl (by simp) (by simp [Value.oneCell']) rfl ?_
     refine la ?_
     refine la ?_
     refine liNil (qThen (stSeq (reg ?_)))
     refine lm ?_
     refine liNil (qThen (stFalse rfl (stSkip (qBlock (qThen (reg ?_))))))
     refine lv (v := (vI (i + 1))) (rAdd _ rfl rfl rfl (by omega) (by omega) (by omega)) ?_
     refine lm ?_
     refine liNil (qThen ?_)
     rw [show (scanT (secG first secs) i).2 ++ [i] = (scanT (secG first secs) (i + 1)).2 from (scanT_nz hnz).symm]
     have hnx : F.map feP = (scanT (secG first secs) (i + 1)).1 := by rw [scanT_bad hnz (by rw [hgx]; exact hk)]; exact o2
     exact stAgain (i + 1, F, A45, c45) (⟨by show _ ≤ _; omega, hnx⟩) (by show _ - _ < _ - _; omega) ⟨rfl, rfl, rfl, rfl, rfl, rfl, rfl, rfl, trivial⟩ (fun w hM => (hM.pick [0, 1, 2, 3] rfl rfl))
   | true =>
     refine reg ?_
     refine lm ?_
     refine lm ?_
     refine li rfl ?_
     refine opK0 (fun w hM => (cUnp_ok i (some ⟨b32, 0, none⟩) x.length x w (r0.go0 hM) (hM.keep0 (j := 4) rfl (fun _ h => rowAtI h rfl)) (by omega) (by omega) (by omega) (by omega) (by assumption)).mono ?_)
     rintro e w' ⟨B49, cb49, rfl, hP, hsub49⟩
     refine ⟨_, _, rfl, hP, ?_⟩; clear hP hM
     refine lm ?_
     refine lc (.agg #[(.int .u64 (((headB x).1 : Nat) : Int)), (vI ((headB x).2.1)), (vI ((headB x).2.2))]) ?_
     refine lc (vL B49 (x.drop 32) cb49) ?_
     refine lc (.bool true) ?_
     refine li rfl ?_
     refine opAlloc [(.int .u64 0), (.int .i64 0), (.int .i64 0)] rfl rfl (by kernel_rfl) (by kernel_rfl) (fun b10 => ?_)
     refine li rfl ?_
     refine opStoreN 6 [(.int .u64 (((headB x).1 : Nat) : Int)), (vI ((headB x).2.1)), (vI ((headB x).2.2))] (vs := [(.int .u64 (((headB x).1 : Nat) : Int)), (vI ((headB x).2.1)), (vI ((headB x).2.2))]) rfl rfl (by kernel_rfl) rfl rfl rfl (by kernel_rfl) rfl (by simp) (by simp [Value.oneCell']) rfl ?_
     refine la ?_
     refine la ?_
     refine liNil (qThen (stSeq (reg ?_)))
     refine lm ?_
     refine liNil (qThen (stTrue rfl ?_))
     refine St.to [cDisk bd X sz secs [], cMap kU slv bf (F.map feV), cFam F, cOwn 3 1 A45 (((scanT (secG first secs) i).2 ++ [i]).length) (c45) (II ((scanT (secG first secs) i).2 ++ [i])), cAt b32 5 (B8 x), cAt b44 3 [(vI i)], cAt b10 103 [(.int .u64 (((headB x).1 : Nat) : Int)), (vI ((headB x).2.1)), (vI ((headB x).2.2))]] (by kernel_rfl) ?_
     rcases fe_split F (plOf i x).num with hnew | ⟨F1, e9, F2, hF, hkey⟩
     ·obtain ⟨fv1, fv2⟩ := feV_new (p := plOf i x) (A := none) (c := 0) (m := 1) hnew rfl
      refine anyBegin [cDisk bd X sz secs [], cMap kU slv bf (F.map feV), cFam F, cOwn 3 1 A45 (((scanT (secG first secs) i).2 ++ [i]).length) (c45) (II ((scanT (secG first secs) i).2 ++ [i])), cAt b32 5 (B8 x), cAt b44 3 [(vI i)], cAt b10 103 [(.int .u64 (((headB x).1 : Nat) : Int)), (vI ((headB x).2.1)), (vI ((headB x).2.2))]] 12 (by kernel_rfl) (fun _ h => h) ?_
      refine am 0 ?_
      refine ac 1 (vP b10 0) ?_
      refine av 2 (.int .u64 (((headB x).1 : Nat) : Int)) rfl (rLoad 6 rfl rfl (by kernel_rfl) rfl rfl) ?_
      refine am 3 ?_
      refine ac 4 (vP b10 0) ?_
      refine av 5 (.int .u64 (((headB x).1 : Nat) : Int)) rfl (rLoad 6 rfl rfl (by kernel_rfl) rfl rfl) ?_
      refine av 6 (.slice none 0 0) rfl (rConv (rMapGet (D := kU) (val := slv) (a := (headB x).1) 1 rfl rfl rfl Tryz.underlying85 Tryz.zeroValue93 rfl (headB_lt x)) (by rw [show kvGet _ (headB x).1 = none from fv2]; rfl)) ?_
      refine am 7 ?_
      refine av 8 (.agg #[(.int .u64 (((headB x).1 : Nat) : Int)), (vI ((headB x).2.1)), (vI ((headB x).2.2))]) rfl (rLoadA [(.int .u64 (((headB x).1 : Nat) : Int)), (vI ((headB x).2.1)), (vI ((headB x).2.2))] rfl rfl (by kernel_rfl) (by kernel_rfl) (segAt (i := 6) rfl (by intro j v hj; first | (rw [Nat.zero_add]; exact hj) | (match j, hj with | 0, h => exact h | 1, h => exact h | 2, h => exact h)))) ?_
      refine ac 9 (.agg #[(vI i), (.int .u64 (((headB x).1 : Nat) : Int)), (vI ((headB x).2.1)), (vI ((headB x).2.2))]) ?_
      refine a1 10 ?_
      refine opNew (v := fun b => .slice (some ⟨b, 0, none⟩) 1 1) 113 [(vI i), (.int .u64 (((headB x).1 : Nat) : Int)), (vI ((headB x).2.1)), (vI ((headB x).2.2))] rfl (by kernel_rfl) (fun _ => by kernel_rfl) (fun b64 => ?_)
      refine anyNext [cDisk bd X sz secs [], cMap kU slv bf (F.map feV), cFam F, cOwn 3 1 A45 (((scanT (secG first secs) i).2 ++ [i]).length) (c45) (II ((scanT (secG first secs) i).2 ++ [i])), cAt b32 5 (B8 x), cAt b44 3 [(vI i)], cAt b10 103 [(.int .u64 (((headB x).1 : Nat) : Int)), (vI ((headB x).2.1)), (vI ((headB x).2.2))], cAt b64 113 [(vI i), (.int .u64 (((headB x).1 : Nat) : Int)), (vI ((headB x).2.1)), (vI ((headB x).2.2))]] (fun _ h => h.pick [0, 1, 2, 3, 4, 5, 6] rfl rfl) (fun _ h => h) ?_
      refine a1 11 ?_
      refine opMem (fun w hM => hM.nilOwn 113 4) ?_
      refine opAppend el_pl 8 ([(vI i), (.int .u64 (((headB x).1 : Nat) : Int)), (vI ((headB x).2.1)), (vI ((headB x).2.2))]) rfl rfl (by kernel_rfl) rfl rfl rfl (rfl) (srcAt (i := 7) rfl (fun j v h => by rw [Nat.zero_add]; exact h)) (by simp [Value.oneCell']) (by omega) (([plOf i x]).length) (by first | exact (List.length_append ..).symm | (simp; done) | (simp; omega)) (PL ([plOf i x])) (by first | rfl | (rw [PL_append]; rfl)) (fun A65 c65 => ?_)
      refine anyNext [cDisk bd X sz secs [], cMap kU slv bf (F.map feV), cFam F, cOwn 3 1 A45 (((scanT (secG first secs) i).2 ++ [i]).length) (c45) (II ((scanT (secG first secs) i).2 ++ [i])), cAt b32 5 (B8 x), cAt b44 3 [(vI i)], cAt b10 103 [(.int .u64 (((headB x).1 : Nat) : Int)), (vI ((headB x).2.1)), (vI ((headB x).2.2))], cAt b64 113 [(vI i), (.int .u64 (((headB x).1 : Nat) : Int)), (vI ((headB x).2.1)), (vI ((headB x).2.2))], cOwn 113 4 A65 (([plOf i x]).length) (c65) (PL ([plOf i x]))] (fun _ h => h.pick [0, 1, 2, 3, 4, 5, 6, 7] rfl rfl) (fun _ h => h) ?_
      refine a1 12 ?_
      refine opMapPutK (D := kU) (val := slv) (a := (headB x).1) (u := (A65, ([plOf i x]).length, c65)) 1 ((F ++ [FE.mk (headB x).1 A65 c65 [plOf i x]]).map feV) rfl rfl (by kernel_rfl) rfl rfl rfl Tryz.underlying85 rfl (headB_lt x) ((feV_new (p := plOf i x) hnew rfl).1) ?_
      refine St.to [cDisk bd X sz secs [], cMap kU slv bf ((F ++ [FE.mk (headB x).1 A65 c65 [plOf i x]]).map feV), cFam F, cOwn 3 1 A45 (((scanT (secG first secs) i).2 ++ [i]).length) (c45) (II ((scanT (secG first secs) i).2 ++ [i])), cAt b32 5 (B8 x), cAt b44 3 [(vI i)], cAt b10 103 [(.int .u64 (((headB x).1 : Nat) : Int)), (vI ((headB x).2.1)), (vI ((headB x).2.2))], cAt b64 113 [(vI i), (.int .u64 (((headB x).1 : Nat) : Int)), (vI ((headB x).2.1)), (vI ((headB x).2.2))], cOwn 113 4 A65 (([plOf i x]).length) (c65) (PL ([plOf i x]))] (by kernel_rfl) ?_
      refine anyLast (by kernel_rfl) rfl ?_
      refine qBlock (qThen ?_)
      refine St.mem (cs' := [cDisk bd X sz secs [], cMap kU slv bf ((F ++ [FE.mk (headB x).1 A65 c65 [plOf i x]]).map feV), cOwn 3 1 A45 (((scanT (secG first secs) i).2 ++ [i]).length) (c45) (II ((scanT (secG first secs) i).2 ++ [i])), cAt b32 5 (B8 x), cAt b44 3 [(vI i)], cAt b10 103 [(.int .u64 (((headB x).1 : Nat) : Int)), (vI ((headB x).2.1)), (vI ((headB x).2.2))], cAt b64 113 [(vI i), (.int .u64 (((headB x).1 : Nat) : Int)), (vI ((headB x).2.1)), (vI ((headB x).2.2))], cFam (F ++ [FE.mk (headB x).1 A65 c65 [plOf i x]])]) (fun w hM => Mm.addFam (cs := [cDisk bd X sz secs [], cMap kU slv bf ((F ++ [FE.mk (headB x).1 A65 c65 [plOf i x]]).map feV), cOwn 3 1 A45 (((scanT (secG first secs) i).2 ++ [i]).length) (c45) (II ((scanT (secG first secs) i).2 ++ [i])), cAt b32 5 (B8 x), cAt b44 3 [(vI i)], cAt b10 103 [(.int .u64 (((headB x).1 : Nat) : Int)), (vI ((headB x).2.1)), (vI ((headB x).2.2))], cAt b64 113 [(vI i), (.int .u64 (((headB x).1 : Nat) : Int)), (vI ((headB x).2.1)), (vI ((headB x).2.2))]]) (hM.pick [0, 1, 3, 4, 5, 6, 7, 2, 8] rfl rfl)) ?_
      have hnx : (F ++ [FE.mk (headB x).1 A65 c65 [plOf i x]]).map feP = (scanT (secG first secs) (i + 1)).1 := by rw [scanT_ok hnz (by rw [hgx]; exact hk), hgx, ← o2]; exact fe_new hnew
      refine reg ?_
      refine lv (v := (vI (i + 1))) (rAdd _ rfl rfl rfl (by omega) (by omega) (by omega)) ?_
      refine lm ?_
      refine liNil (qThen ?_)
      rw [show (scanT (secG first secs) i).2 ++ [i] = (scanT (secG first secs) (i + 1)).2 from (scanT_nz hnz).symm]
      exact stAgain (i + 1, F ++ [FE.mk (headB x).1 A65 c65 [plOf i x]], A45, c45) (⟨by show _ ≤ _; omega, hnx⟩) (by show _ - _ < _ - _; omega) ⟨rfl, rfl, rfl, rfl, rfl, rfl, rfl, rfl, trivial⟩ (fun w hM => (hM.pick [0, 1, 7, 2] rfl rfl))
     ·subst hF
      refine St.fact (fun w hM => (MapAt.nodup (hM.at (i := 1) rfl) : (kvKeys ((F1 ++ e9 :: F2).map feV)).Nodup)) (fun hnd => ?_)
      obtain ⟨fv1, fv2⟩ := feV_mid hnd hkey
      have hpl : e9.pls.length ≤ i := scanT_pl (g := secG first secs) (p := feP e9) (by rw [← o2]; exact List.mem_map.2 ⟨e9, by simp, rfl⟩)
      refine St.mem (cs' := [cDisk bd X sz secs [], cMap kU slv bf ((F1 ++ e9 :: F2).map feV), cOwn 3 1 A45 (((scanT (secG first secs) i).2 ++ [i]).length) (c45) (II ((scanT (secG first secs) i).2 ++ [i])), cAt b32 5 (B8 x), cAt b44 3 [(vI i)], cAt b10 103 [(.int .u64 (((headB x).1 : Nat) : Int)), (vI ((headB x).2.1)), (vI ((headB x).2.2))], cFam F1, cOwn 113 4 e9.A (e9.pls.length) (e9.c) (PL e9.pls), cFam F2]) (fun w hM => Mm.splitFam (cs := [cDisk bd X sz secs [], cMap kU slv bf ((F1 ++ e9 :: F2).map feV), cOwn 3 1 A45 (((scanT (secG first secs) i).2 ++ [i]).length) (c45) (II ((scanT (secG first secs) i).2 ++ [i])), cAt b32 5 (B8 x), cAt b44 3 [(vI i)], cAt b10 103 [(.int .u64 (((headB x).1 : Nat) : Int)), (vI ((headB x).2.1)), (vI ((headB x).2.2))]]) (hM.pick [0, 1, 3, 4, 5, 6, 2] rfl rfl)) ?_
      refine anyBegin [cDisk bd X sz secs [], cMap kU slv bf ((F1 ++ e9 :: F2).map feV), cOwn 3 1 A45 (((scanT (secG first secs) i).2 ++ [i]).length) (c45) (II ((scanT (secG first secs) i).2 ++ [i])), cAt b32 5 (B8 x), cAt b44 3 [(vI i)], cAt b10 103 [(.int .u64 (((headB x).1 : Nat) : Int)), (vI ((headB x).2.1)), (vI ((headB x).2.2))], cFam F1, cFam F2] 12 (by kernel_rfl) (fun _ h => h.pick [0, 1, 2, 3, 4, 5, 6, 8] rfl rfl) ?_
      refine am 0 ?_
      refine ac 1 (vP b10 0) ?_
      refine av 2 (.int .u64 (((headB x).1 : Nat) : Int)) rfl (rLoad 5 rfl rfl (by kernel_rfl) rfl rfl) ?_
      refine am 3 ?_
      refine ac 4 (vP b10 0) ?_
      refine av 5 (.int .u64 (((headB x).1 : Nat) : Int)) rfl (rLoad 5 rfl rfl (by kernel_rfl) rfl rfl) ?_
      refine av 6 (vL e9.A e9.pls (e9.c)) rfl (rConv (rMapGet (D := kU) (val := slv) (a := (headB x).1) 1 rfl rfl rfl Tryz.underlying85 Tryz.zeroValue93 rfl (headB_lt x)) (by rw [show kvGet _ (headB x).1 = _ from fv1]; rfl)) ?_
      refine am 7 ?_
      refine av 8 (.agg #[(.int .u64 (((headB x).1 : Nat) : Int)), (vI ((headB x).2.1)), (vI ((headB x).2.2))]) rfl (rLoadA [(.int .u64 (((headB x).1 : Nat) : Int)), (vI ((headB x).2.1)), (vI ((headB x).2.2))] rfl rfl (by kernel_rfl) (by kernel_rfl) (segAt (i := 5) rfl (by intro j v hj; first | (rw [Nat.zero_add]; exact hj) | (match j, hj with | 0, h => exact h | 1, h => exact h | 2, h => exact h)))) ?_
      refine ac 9 (.agg #[(vI i), (.int .u64 (((headB x).1 : Nat) : Int)), (vI ((headB x).2.1)), (vI ((headB x).2.2))]) ?_
      refine a1 10 ?_
      refine opNew (v := fun b => .slice (some ⟨b, 0, none⟩) 1 1) 113 [(vI i), (.int .u64 (((headB x).1 : Nat) : Int)), (vI ((headB x).2.1)), (vI ((headB x).2.2))] rfl (by kernel_rfl) (fun _ => by kernel_rfl) (fun b64 => ?_)
      refine anyNext [cDisk bd X sz secs [], cMap kU slv bf ((F1 ++ e9 :: F2).map feV), cOwn 3 1 A45 (((scanT (secG first secs) i).2 ++ [i]).length) (c45) (II ((scanT (secG first secs) i).2 ++ [i])), cAt b32 5 (B8 x), cAt b44 3 [(vI i)], cAt b10 103 [(.int .u64 (((headB x).1 : Nat) : Int)), (vI ((headB x).2.1)), (vI ((headB x).2.2))], cFam F1, cFam F2, cAt b64 113 [(vI i), (.int .u64 (((headB x).1 : Nat) : Int)), (vI ((headB x).2.1)), (vI ((headB x).2.2))]] (fun _ h => h.pick [0, 1, 2, 3, 4, 5, 6, 7] rfl rfl) (fun _ h => h.pick [0, 1, 2, 3, 4, 5, 6, 8, 9] rfl rfl) ?_
      refine a1 11 ?_
      refine opAppend el_pl 7 ([(vI i), (.int .u64 (((headB x).1 : Nat) : Int)), (vI ((headB x).2.1)), (vI ((headB x).2.2))]) rfl rfl (by kernel_rfl) rfl rfl rfl (rfl) (srcAt (i := 9) rfl (fun j v h => by rw [Nat.zero_add]; exact h)) (by simp [Value.oneCell']) (by omega) ((e9.pls ++ [plOf i x]).length) (by first | exact (List.length_append ..).symm | (simp; done) | (simp; omega)) (PL (e9.pls ++ [plOf i x])) (by first | rfl | (rw [PL_append]; rfl)) (fun A65 c65 => ?_)
      refine anyNext [cDisk bd X sz secs [], cMap kU slv bf ((F1 ++ e9 :: F2).map feV), cOwn 3 1 A45 (((scanT (secG first secs) i).2 ++ [i]).length) (c45) (II ((scanT (secG first secs) i).2 ++ [i])), cAt b32 5 (B8 x), cAt b44 3 [(vI i)], cAt b10 103 [(.int .u64 (((headB x).1 : Nat) : Int)), (vI ((headB x).2.1)), (vI ((headB x).2.2))], cFam F1, cFam F2, cAt b64 113 [(vI i), (.int .u64 (((headB x).1 : Nat) : Int)), (vI ((headB x).2.1)), (vI ((headB x).2.2))]] (fun _ h => h) (fun _ h => h.pick [0, 1, 2, 3, 4, 5, 6, 8, 9] rfl rfl) ?_
      refine a1 12 ?_
      refine opMapPutK (D := kU) (val := slv) (a := (headB x).1) (u := (A65, (e9.pls ++ [plOf i x]).length, c65)) 1 ((F1 ++ FE.mk (headB x).1 A65 c65 (e9.pls ++ [plOf i x]) :: F2).map feV) rfl rfl (by kernel_rfl) rfl rfl rfl Tryz.underlying85 rfl (headB_lt x) (fv2 A65 c65 _) ?_
      refine St.to [cDisk bd X sz secs [], cMap kU slv bf ((F1 ++ FE.mk (headB x).1 A65 c65 (e9.pls ++ [plOf i x]) :: F2).map feV), cOwn 3 1 A45 (((scanT (secG first secs) i).2 ++ [i]).length) (c45) (II ((scanT (secG first secs) i).2 ++ [i])), cAt b32 5 (B8 x), cAt b44 3 [(vI i)], cAt b10 103 [(.int .u64 (((headB x).1 : Nat) : Int)), (vI ((headB x).2.1)), (vI ((headB x).2.2))], cFam F1, cOwn 113 4 A65 ((e9.pls ++ [plOf i x]).length) (c65) (PL (e9.pls ++ [plOf i x])), cFam F2, cAt b64 113 [(vI i), (.int .u64 (((headB x).1 : Nat) : Int)), (vI ((headB x).2.1)), (vI ((headB x).2.2))]] (by kernel_rfl) ?_
      refine anyLast (by kernel_rfl) rfl ?_
      refine qBlock (qThen ?_)
      refine St.mem (cs' := [cDisk bd X sz secs [], cMap kU slv bf ((F1 ++ FE.mk (headB x).1 A65 c65 (e9.pls ++ [plOf i x]) :: F2).map feV), cOwn 3 1 A45 (((scanT (secG first secs) i).2 ++ [i]).length) (c45) (II ((scanT (secG first secs) i).2 ++ [i])), cAt b32 5 (B8 x), cAt b44 3 [(vI i)], cAt b10 103 [(.int .u64 (((headB x).1 : Nat) : Int)), (vI ((headB x).2.1)), (vI ((headB x).2.2))], cAt b64 113 [(vI i), (.int .u64 (((headB x).1 : Nat) : Int)), (vI ((headB x).2.1)), (vI ((headB x).2.2))], cFam (F1 ++ FE.mk (headB x).1 A65 c65 (e9.pls ++ [plOf i x]) :: F2)]) (fun w hM => Mm.joinFam (cs := [cDisk bd X sz secs [], cMap kU slv bf ((F1 ++ FE.mk (headB x).1 A65 c65 (e9.pls ++ [plOf i x]) :: F2).map feV), cOwn 3 1 A45 (((scanT (secG first secs) i).2 ++ [i]).length) (c45) (II ((scanT (secG first secs) i).2 ++ [i])), cAt b32 5 (B8 x), cAt b44 3 [(vI i)], cAt b10 103 [(.int .u64 (((headB x).1 : Nat) : Int)), (vI ((headB x).2.1)), (vI ((headB x).2.2))], cAt b64 113 [(vI i), (.int .u64 (((headB x).1 : Nat) : Int)), (vI ((headB x).2.1)), (vI ((headB x).2.2))]]) (hM.pick [0, 1, 2, 3, 4, 5, 9, 6, 7, 8] rfl rfl)) ?_
      have hnx : (F1 ++ FE.mk (headB x).1 A65 c65 (e9.pls ++ [plOf i x]) :: F2).map feP = (scanT (secG first secs) (i + 1)).1 := by rw [scanT_ok hnz (by rw [hgx]; exact hk), hgx, ← o2]; exact fe_mid hnd hkey
      refine reg ?_
      refine lv (v := (vI (i + 1))) (rAdd _ rfl rfl rfl (by omega) (by omega) (by omega)) ?_
      refine lm ?_
      refine liNil (qThen ?_)
      rw [show (scanT (secG first secs) i).2 ++ [i] = (scanT (secG first secs) (i + 1)).2 from (scanT_nz hnz).symm]
      exact stAgain (i + 1, F1 ++ FE.mk (headB x).1 A65 c65 (e9.pls ++ [plOf i x]) :: F2, A45, c45) (⟨by show _ ≤ _; omega, hnx⟩) (by show _ - _ < _ - _; omega) ⟨rfl, rfl, rfl, rfl, rfl, rfl, rfl, rfl, trivial⟩ (fun w hM => (hM.pick [0, 1, 7, 2] rfl rfl))
 ·have hd19 := of_decide_eq_false hc19
  refine stExit (qThenX (qThenX (qBlockX (qThen (stSeq (reg ?_))))))
  refine lm ?_
  refine lm ?_
  refine la ?_
  refine la ?_
  refine la ?_
  refine liNil (qThen (stRet ?_))
  refine stEnd [(.map (some bf)), (.slice W ((scanT (secG first secs) i).2.length) (cw)), (.int .i64 0)] rfl ⟨rfl, rfl, rfl, trivial⟩ (fun w hM => ?_)
  obtain rfl : i = n := by omega
  exact ⟨_, _, _, _, rfl, hM.pick [0, 1, 2, 3] rfl rfl, o2⟩
end Go.Proofs.YtaiggifiefnjnaaGreatDoor
namespace Go.Proofs.YtaiggifiefnjnaaGreatDoor
open Go.RowKit
def arrT (pls : List Pl) (i : Nat) : List Nat := (pls.take i).foldl (fun l p => l.set p.idx p.sec) (List.replicate pls.length 0)
def seenT (pls : List Pl) (i : Nat) : List Bool := (pls.take i).foldl (fun l p => l.set p.idx true) (List.replicate pls.length false)
def arrS (pls : List Pl) : List Nat := arrT pls pls.length
theorem foldSet_len {α : Type} (f : Pl → α) (l : List Pl) (z : List α) : (l.foldl (fun l p => l.set p.idx (f p)) z).length = z.length := by
 induction l generalizing z with
 | nil => rfl
 | cons p l ih => rw [List.foldl_cons, ih, List.length_set]
theorem arrT_len (pls : List Pl) (i : Nat) : (arrT pls i).length = pls.length := by unfold arrT; rw [foldSet_len (fun p => p.sec), List.length_replicate]
theorem seenT_len (pls : List Pl) (i : Nat) : (seenT pls i).length = pls.length := by unfold seenT; rw [foldSet_len (fun _ => true), List.length_replicate]
theorem arrT_succ {pls : List Pl} {i : Nat} {p : Pl} (h : pls[i]? = some p) : arrT pls (i + 1) = (arrT pls i).set p.idx p.sec := by
 unfold arrT
 rw [List.take_add_one, h, Option.toList_some, List.foldl_append]
 rfl
theorem seenT_succ {pls : List Pl} {i : Nat} {p : Pl} (h : pls[i]? = some p) : seenT pls (i + 1) = (seenT pls i).set p.idx true := by
 unfold seenT
 rw [List.take_add_one, h, Option.toList_some, List.foldl_append]
 rfl
theorem foldSet_out {α : Type} (f : Pl → α) {l : List Pl} {z : List α} {k : Nat} (h : ∀ p ∈ l, p.idx ≠ k) : (l.foldl (fun l p => l.set p.idx (f p)) z)[k]? = z[k]? := by
 induction l generalizing z with
 | nil => rfl
 | cons p l ih => rw [List.foldl_cons, ih (fun q hq => h q (List.mem_cons_of_mem _ hq)), List.getElem?_set_ne (h p (List.mem_cons_self ..))]
theorem foldSet_in {α : Type} (f : Pl → α) {l : List Pl} {z : List α} {p : Pl} (hn : (l.map Pl.idx).Nodup) (hp : p ∈ l) (hk : p.idx < z.length) : (l.foldl (fun l p => l.set p.idx (f p)) z)[p.idx]? = some (f p) := by
 induction l generalizing z with
 | nil => cases hp
 | cons q l ih =>
   rw [List.map_cons, List.nodup_cons] at hn
   rw [List.foldl_cons]
   rcases List.mem_cons.1 hp with rfl | hp
   ·rw [foldSet_out f (fun r hr e => hn.1 (List.mem_map.2 ⟨r, hr, e⟩)), List.getElem?_set_self hk]
   ·exact ih hn.2 hp (by rw [List.length_set]; exact hk)
theorem seenT_at {pls : List Pl} {i : Nat} {p : Pl} (hn : (pls.map Pl.idx).Nodup) (h : pls[i]? = some p) (hk : p.idx < pls.length) : (seenT pls i)[p.idx]? = some false := by
 unfold seenT
 rw [foldSet_out (fun _ => true), List.getElem?_replicate, if_pos hk]
 intro q hq e
 obtain ⟨j, hj, he⟩ := List.mem_iff_getElem.1 hq
 rw [List.length_take] at hj
 rw [List.getElem_take] at he
 have e1 : (pls.map Pl.idx)[j]? = some p.idx := by rw [List.getElem?_map, List.getElem?_eq_getElem (by omega), he, Option.map_some, e]
 have e2 : (pls.map Pl.idx)[i]? = some p.idx := by rw [List.getElem?_map, h]; rfl
 obtain ⟨a1, a2⟩ := List.getElem?_eq_some_iff.1 e1
 obtain ⟨c1, c2⟩ := List.getElem?_eq_some_iff.1 e2
 have := (List.getElem_inj hn).1 (a2.trans c2.symm)
 omega
section
variable {P : Program} {ops : Array Oper} {Q : Exit → Act → World → Prop} {n : Nat} {w0 : World} {F : List Nat} {E : Env} {cs : List Ch} {X : Act → World → Prop}
theorem pl_cells {w : World} {A : Option Addr} {ps : List Pl} {i : Nat} {p : Pl} (h : RowIn w A (PL ps)) (hp : ps[i]? = some p) {b q : Nat} (hA : A = some ⟨b, q, none⟩) : ∀ j v, (plV p)[j]? = some v → w.cell? ⟨b, q + i * 4 + j, none⟩ = some v := fun j v hj => by
 rw [Nat.add_assoc]
 exact row_cell h (PL_at hp j v hj) hA
theorem St.plPtr {A : Option Addr} {ps : List Pl} {i : Nat} {p : Pl} (h : ∀ w, Mm w0 F cs w → RowIn w A (PL ps)) (hp : ps[i]? = some p) (k : ∀ b q, A = some ⟨b, q, none⟩ → (∀ w, Mm w0 F cs w → ∀ j v, (plV p)[j]? = some v → w.cell? ⟨b, q + i * 4 + j, none⟩ = some v) → St n w0 F E cs X) : St n w0 F E cs X := fun a w ha hM => by
 obtain ⟨b, q, hA⟩ := row_form (h w hM) (PL_at hp 0 _ rfl)
 exact k b q hA (fun w' hM' => pl_cells (h w' hM') hp hA) a w ha hM
theorem Any.plPtr {css : List Ch} {z fuel : Nat} {listed : Array Bool} {A : Option Addr} {ps : List Pl} {i : Nat} {p : Pl} (h : ∀ w, Mm w0 F css w → RowIn w A (PL ps)) (hp : ps[i]? = some p) (k : ∀ b q, A = some ⟨b, q, none⟩ → (∀ w, Mm w0 F css w → ∀ j v, (plV p)[j]? = some v → w.cell? ⟨b, q + i * 4 + j, none⟩ = some v) → Any P ops Q n w0 F E cs css z fuel listed) : Any P ops Q n w0 F E cs css z fuel listed := fun a w ha hM hS hc => by
 obtain ⟨b, q, hA⟩ := row_form (h w hS) (PL_at hp 0 _ rfl)
 exact k b q hA (fun w' hM' => pl_cells (h w' hM') hp hA) a w ha hM hS hc
theorem Mm.mkOwn {w : World} (h : Mm w0 F cs w) (i : Nat) {e : TypeId} {b m : Nat} {xs : List Value} (hi : cs[i]? = some (cAt b e xs)) (hm : xs.length = m) (hl : m ≤ maxLen) : Mm w0 F (cs.set i (cOwn e 1 (some ⟨b, 0, none⟩) m m xs)) w := by
 have h5 := h.toOwn i hi 1 m m (by omega) (Nat.le_refl _) hl
 rw [Nat.mul_one, List.take_of_length_le (by omega)] at h5
 exact h5
end
theorem sArr_ok (bs : Nat) (bd : Nat) (u1 : Value) (u2 : Value) (u3 : Value) (u4 : Value) (u5 : Value) (u6 : Value) (u7 : Value) (u8 : Value) (sz : Nat) (v1 : Value) (v2 : Value) (v3 : Value) (v4 : Value) (v5 : Value) (A : Option Addr) (c : Nat) (pls : List Pl) (num : Nat) (st : Nat) (w : World) (r0 : Rf [] w (fun w => At w bs 66 [(vP bd 0), u1, u2, u3, u4, u5, u6, u7, u8])) (r1 : Rf [] w (fun w => At w bd 59 [(vI sz), v1, v2, v3, v4, v5])) (r2 : Rf [] w (fun w => RowIn w A (PL pls))) (hsz : 33 ≤ sz ∧ sz ≤ 4096) (hp : ∀ p ∈ pls, p.num = num ∧ p.st = st ∧ p.idx < pls.length) (hl : pls.length = needN sz st) (h1 : 1 ≤ pls.length ∧ pls.length ≤ 1000 ∧ st ≤ 1000000) (hnd : (pls.map Pl.idx).Nodup) :
  Calls Tryz.prog 45 #[(vP bs 0), (vL A pls c)] w fun e w' => ∃ (B : Option Addr) (cb : Nat), e = .returned (.tuple #[(.agg #[(.int .u64 ((num : Nat) : Int)), (vI st), (.int .i64 0), (.string ⟨#[]⟩), (vL B (arrS pls) cb)]), (.bool true)]) ∧ Back [] w [cRw B (II (arrS pls))] w' := by
 have _u0 := r0
 have _u1 := r1
 have _u2 := r2
 have _u3 := hsz
 have _u4 := hp
 have _u5 := hl
 have _u6 := h1
 have _u7 := hnd
 clear _u0 _u1 _u2 _u3 _u4 _u5 _u6 _u7
 refine stEnter (args := [(vP bs 0), (vL A pls c)]) (fps []) Tryz.func45 rfl 76 rfl [(0, (vP bs 0)), (1, (vL A pls c))] ⟨rfl, rfl, trivial⟩ [] (Mm.start w []) ?_
 refine stSeq (reg (li rfl ?_))
 refine opAlloc [(.int .u64 0), (.int .i64 0), (.int .i64 0), (.string ⟨#[]⟩), (.slice none 0 0)] rfl rfl (by kernel_rfl) (by kernel_rfl) (fun b4 => ?_)
 refine la ?_
 refine liNil (qThen (stSeq ?_))
 obtain ⟨l1, l2, l3⟩ := h1
 obtain ⟨y, hy⟩ : ∃ y, pls[0]? = some y := ⟨_, List.getElem?_eq_getElem (by omega)⟩
 obtain ⟨y1, y2, y3⟩ := hp y (List.mem_of_getElem? hy)
 refine anyBegin [cAt b4 70 [(.int .u64 0), (.int .i64 0), (.int .i64 0), (.string ⟨#[]⟩), (.slice none 0 0)]] 13 (by kernel_rfl) (fun _ h => h) ?_
 refine am 0 ?_
 refine Any.plPtr (fun w hM => r2.now hM) hy (fun p12 q12 hA12 hc12 => ?_)
 refine av 1 (vP p12 (q12 + 0 * 4)) rfl (rIndexRow2 (e := 113) rfl (by kernel_rfl) (by kernel_rfl) rfl rfl hA12 (by omega)) ?_
 refine ac 2 (vP p12 (q12 + 0 * 4 + 1)) ?_
 refine ac 3 (vP p12 (q12 + 0 * 4 + 1)) ?_
 refine av 4 (.int .u64 ((num : Nat) : Int)) rfl (rConv (rLoadW rfl rfl (by kernel_rfl) (fun w hM => hc12 w hM 1 _ rfl)) (by rw [y1])) ?_
 refine am 5 ?_
 refine Any.plPtr (fun w hM => r2.now hM) hy (fun p17 q17 hA17 hc17 => ?_)
 refine av 6 (vP p17 (q17 + 0 * 4)) rfl (rIndexRow2 (e := 113) rfl (by kernel_rfl) (by kernel_rfl) rfl rfl hA17 (by omega)) ?_
 refine ac 7 (vP p17 (q17 + 0 * 4 + 1)) ?_
 refine ac 8 (vP p17 (q17 + 0 * 4 + 1 + 2)) ?_
 refine av 9 (vI st) rfl (rConv (rLoadW rfl rfl (by kernel_rfl) (fun w hM => hc17 w hM 3 _ rfl)) (by rw [y2])) ?_
 refine ac 10 (.agg #[(.int .u64 ((num : Nat) : Int)), (vI st), (.int .i64 0), (.string ⟨#[]⟩), (.slice none 0 0)]) ?_
 refine a1 11 ?_
 refine opAlloc [(.int .u64 0), (.int .i64 0), (.int .i64 0), (.string ⟨#[]⟩), (.slice none 0 0)] rfl rfl (by kernel_rfl) (by kernel_rfl) (fun b6 => ?_)
 refine anyNext [cAt b4 70 [(.int .u64 0), (.int .i64 0), (.int .i64 0), (.string ⟨#[]⟩), (.slice none 0 0)]] (fun _ h => h) (fun _ h => h.pick [0] rfl rfl) ?_
 refine a1 12 ?_
 refine opStoreN 1 [(.int .u64 ((num : Nat) : Int)), (vI st), (.int .i64 0), (.string ⟨#[]⟩), (.slice none 0 0)] (vs := [(.int .u64 ((num : Nat) : Int)), (vI st), (.int .i64 0), (.string ⟨#[]⟩), (.slice none 0 0)]) rfl rfl (by kernel_rfl) rfl rfl rfl (by kernel_rfl) rfl (by simp) (by simp [Value.oneCell']) rfl ?_
 refine anyNext [cAt b4 70 [(.int .u64 0), (.int .i64 0), (.int .i64 0), (.string ⟨#[]⟩), (.slice none 0 0)], cAt b6 70 [(.int .u64 ((num : Nat) : Int)), (vI st), (.int .i64 0), (.string ⟨#[]⟩), (.slice none 0 0)]] (fun _ h => h.pick [0] rfl rfl) (fun _ h => h) ?_
 refine anyDone (by kernel_rfl) ?_
 refine qThen (stSeq (stSeq ?_))
 refine St.to [cAt b4 70 [(.int .u64 0), (.int .i64 0), (.int .i64 0), (.string ⟨#[]⟩), (.slice none 0 0)], cAt b6 70 [(.int .u64 ((num : Nat) : Int)), (vI st), (.int .i64 0), (.string ⟨#[]⟩), (.slice none 0 0)]] (by kernel_rfl) ?_
 refine reg ?_
 refine lm ?_
 refine lc (vI pls.length) ?_
 refine lm ?_
 refine lc (vP b6 1) ?_
 refine lv (v := (vI st)) (rLoad 1 rfl rfl (by kernel_rfl) rfl rfl) ?_
 refine li rfl ?_
 refine opK0 (fun w hM => (sNeed_any bs bd u1 u2 u3 u4 u5 u6 u7 u8 sz v1 v2 v3 v4 v5 st w (r0.go0 hM) (r1.go0 hM) (⟨by omega, by omega⟩) (by omega)).mono ?_)
 rintro e w' ⟨rfl, hP⟩
 refine ⟨_, _, rfl, hP, ?_⟩; clear hP hM
 refine lc (.bool ((((pls.length : Nat) : Int) : Int) != (((needN sz st) : Nat) : Int))) ?_
 refine liNil (qThen ?_)
 refine stFalseK rfl (by rw [hl]; simp) ?_
 refine stSkip (qThen (stSeq (reg ?_)))
 refine lm ?_
 refine lc (vI pls.length) ?_
 refine li rfl ?_
 refine opMkN el_int pls.length (by omega) (II (arrT pls 0)) rfl rfl (by kernel_rfl) rfl rfl rfl (by simp [arrT]) (fun b32 => ?_)
 refine St.mem (cs' := [cAt b4 70 [(.int .u64 0), (.int .i64 0), (.int .i64 0), (.string ⟨#[]⟩), (.slice none 0 0)], cAt b6 70 [(.int .u64 ((num : Nat) : Int)), (vI st), (.int .i64 0), (.string ⟨#[]⟩), (.slice none 0 0)], cOwn 3 1 (some ⟨b32, 0, none⟩) (pls.length) (pls.length) (II (arrT pls 0))]) (fun w hM => hM.mkOwn 2 rfl (by simp [arrT_len]) (by unfold maxLen; omega)) ?_
 refine lc (vP b6 4) ?_
 refine li rfl ?_
 refine opStore1 1 rfl rfl (by kernel_rfl) rfl rfl rfl (by kernel_rfl) rfl (by simp) ?_
 refine liNil (qThen (stSeq (reg ?_)))
 refine lm ?_
 refine lc (vI pls.length) ?_
 refine li rfl ?_
 refine opMkN el_bool pls.length (by omega) (BB (seenT pls 0)) rfl rfl (by kernel_rfl) rfl rfl rfl (by simp [seenT]) (fun b36 => ?_)
 refine St.mem (cs' := [cAt b4 70 [(.int .u64 0), (.int .i64 0), (.int .i64 0), (.string ⟨#[]⟩), (.slice none 0 0)], cAt b6 70 [(.int .u64 ((num : Nat) : Int)), (vI st), (.int .i64 0), (.string ⟨#[]⟩), (vL (some ⟨b32, 0, none⟩) pls (pls.length))], cOwn 3 1 (some ⟨b32, 0, none⟩) (pls.length) (pls.length) (II (arrT pls 0)), cOwn 4 1 (some ⟨b36, 0, none⟩) (pls.length) (pls.length) (BB (seenT pls 0))]) (fun w hM => hM.mkOwn 3 rfl (by simp [seenT_len]) (by unfold maxLen; omega)) ?_
 refine la ?_
 refine liNil (qThen (stSeq (stSeq ?_)))
 refine St.to [cAt b4 70 [(.int .u64 0), (.int .i64 0), (.int .i64 0), (.string ⟨#[]⟩), (.slice none 0 0)], cAt b6 70 [(.int .u64 ((num : Nat) : Int)), (vI st), (.int .i64 0), (.string ⟨#[]⟩), (vL (some ⟨b32, 0, none⟩) pls (pls.length))], cOwn 3 1 (some ⟨b32, 0, none⟩) (pls.length) (pls.length) (II (arrT pls 0)), cOwn 4 1 (some ⟨b36, 0, none⟩) (pls.length) (pls.length) (BB (seenT pls 0))] (by kernel_rfl) ?_
 refine reg ?_
 refine lm ?_
 refine lc (vI pls.length) ?_
 refine lm ?_
 refine liNil (qThen (stBlock ?_))
 refine stLoop (ι := Nat) (fun i => i ≤ pls.length) (fun i => pls.length - i) (fun i => [(1, (vL A pls c)), (4, (vP b4 0)), (5, (.bool false)), (6, (vP b6 0)), (7, (vL (some ⟨b36, 0, none⟩) pls (pls.length))), (37, (vL A pls c)), (38, (vI pls.length)), (39, (vI i))]) (fun i => [cAt b4 70 [(.int .u64 0), (.int .i64 0), (.int .i64 0), (.string ⟨#[]⟩), (.slice none 0 0)], cAt b6 70 [(.int .u64 ((num : Nat) : Int)), (vI st), (.int .i64 0), (.string ⟨#[]⟩), (vL (some ⟨b32, 0, none⟩) pls (pls.length))], cOwn 3 1 (some ⟨b32, 0, none⟩) (pls.length) (pls.length) (II (arrT pls i)), cOwn 4 1 (some ⟨b36, 0, none⟩) (pls.length) (pls.length) (BB (seenT pls i))]) 0 (Nat.zero_le _) ⟨rfl, rfl, rfl, rfl, rfl, rfl, rfl, rfl, trivial⟩ (fun _ h => h) ?_
 intro i hok
 show St _ _ _ [(1, (vL A pls c)), (4, (vP b4 0)), (5, (.bool false)), (6, (vP b6 0)), (7, (vL (some ⟨b36, 0, none⟩) pls (pls.length))), (37, (vL A pls c)), (38, (vI pls.length)), (39, (vI i))] [cAt b4 70 [(.int .u64 0), (.int .i64 0), (.int .i64 0), (.string ⟨#[]⟩), (.slice none 0 0)], cAt b6 70 [(.int .u64 ((num : Nat) : Int)), (vI st), (.int .i64 0), (.string ⟨#[]⟩), (vL (some ⟨b32, 0, none⟩) pls (pls.length))], cOwn 3 1 (some ⟨b32, 0, none⟩) (pls.length) (pls.length) (II (arrT pls i)), cOwn 4 1 (some ⟨b36, 0, none⟩) (pls.length) (pls.length) (BB (seenT pls i))] _
 refine stSeq (reg ?_)
 refine lc (.bool (decide (((i : Nat) : Int) < ((pls.length : Nat) : Int)))) ?_
 refine liNil (qThen (stSeq ?_))
 refine stCond rfl (fun hc40 => ?_) (fun hc40 => ?_)
 ·have hd40 := of_decide_eq_true hc40
  refine stSkip (qThen (stSeq (stBlock (stSeq (reg ?_)))))
  obtain ⟨x1, hx1⟩ : ∃ ξ, (pls)[i]? = some ξ := ⟨_, List.getElem?_eq_getElem (by omega)⟩
  refine St.plPtr (fun w hM => r2.now hM) hx1 (fun p41 q41 hA41 hc41 => ?_)
  refine lv (v := (vP p41 (q41 + i * 4))) (rIndexRow2 (e := 113) rfl (by kernel_rfl) (by kernel_rfl) rfl rfl hA41 (by omega)) ?_
  refine lv (v := (.agg #[(vI x1.sec), (.int .u64 ((x1.num : Nat) : Int)), (vI x1.idx), (vI x1.st)])) (rLoadA [(vI x1.sec), (.int .u64 ((x1.num : Nat) : Int)), (vI x1.idx), (vI x1.st)] rfl rfl (by kernel_rfl) (by kernel_rfl) (hc41)) ?_
  refine li rfl ?_
  refine opAlloc [(.int .i64 0), (.int .u64 0), (.int .i64 0), (.int .i64 0)] rfl rfl (by kernel_rfl) (by kernel_rfl) (fun b9 => ?_)
  refine li rfl ?_
  refine opStoreN 4 [(vI x1.sec), (.int .u64 ((x1.num : Nat) : Int)), (vI x1.idx), (vI x1.st)] (vs := [(vI x1.sec), (.int .u64 ((x1.num : Nat) : Int)), (vI x1.idx), (vI x1.st)]) rfl rfl (by kernel_rfl) rfl rfl rfl (by kernel_rfl) rfl (by simp) (by simp [Value.oneCell']) rfl ?_
  refine liNil (qThen (stSeq ?_))
  obtain ⟨w1, w2, w3⟩ := hp x1 (List.mem_of_getElem? hx1)
  have hse := seenT_at hnd hx1 w3
  refine reg ?_
  refine lc (vP b9 1) ?_
  refine lc (vP b9 2) ?_
  refine lv (v := (vI x1.idx)) (rLoad 4 rfl rfl (by kernel_rfl) rfl rfl) ?_
  refine la ?_
  refine liNil (qThen (stSeq (stSeq (reg ?_))))
  refine lc (vP b9 1) ?_
  refine lc (vP b9 3) ?_
  refine lv (v := (vI st)) (rConv (rLoadW rfl rfl (by kernel_rfl) (fun w hM => At.cell (hM.at (i := 4) rfl) 3)) (by rw [w2])) ?_
  refine lc (vP b6 1) ?_
  refine lv (v := (vI st)) (rLoad 1 rfl rfl (by kernel_rfl) rfl rfl) ?_
  refine lv (v := (.bool false)) (rConv (v := .bool ((((st : Nat) : Int) : Int) != ((st : Nat) : Int))) (rClosed fun _ => by kernel_rfl) (by simp)) ?_
  refine lm ?_
  refine lgm ?_
  refine lgm ?_
  refine lgc (vI pls.length) ?_
  refine lgc (.bool (decide (((x1.idx : Nat) : Int) ≥ ((pls.length : Nat) : Int)))) ?_
  refine lc (.bool (decide (((x1.idx : Nat) : Int) ≥ ((pls.length : Nat) : Int)))) ?_
  refine lm ?_
  refine St.known 58 (b' := false) rfl (decide_eq_false (by omega)) ?_
  refine lgm ?_
  refine lgm ?_
  refine lgv (v := (vP b36 (0 + x1.idx))) (rIndexAddr1 (e := 4) rfl (by kernel_rfl) (by kernel_rfl) rfl rfl (by omega)) ?_
  refine lgv (v := (.bool false)) (rLoadOwn 3 rfl rfl (by kernel_rfl) rfl (BB_at hse)) ?_
  refine lc (.bool false) ?_
  refine liNil (qThen (stFalse rfl (stSkip (qThen (stSeq (reg ?_))))))
  refine lm ?_
  refine lm ?_
  refine lv (v := (vP b36 (0 + x1.idx))) (rIndexAddr1 (e := 4) rfl (by kernel_rfl) (by kernel_rfl) rfl rfl (by omega)) ?_
  refine li rfl ?_
  refine opStoreOwn 3 (BB (seenT pls (i + 1))) rfl rfl (by kernel_rfl) rfl rfl rfl (by kernel_rfl) rfl (by rw [List.length_map, seenT_len]; omega) (by rw [seenT_succ hx1]; exact List.map_set.symm) ?_
  refine liNil (qThen (reg ?_))
  refine lc (vP b6 4) ?_
  refine lv (v := (vL (some ⟨b32, 0, none⟩) pls (pls.length))) (rLoad 1 rfl rfl (by kernel_rfl) rfl rfl) ?_
  refine lm ?_
  refine lc (vP b9 0) ?_
  refine lv (v := (vI x1.sec)) (rLoad 4 rfl rfl (by kernel_rfl) rfl rfl) ?_
  refine lv (v := (vP b32 (0 + x1.idx))) (rIndexAddr1 (e := 3) rfl (by kernel_rfl) (by kernel_rfl) rfl rfl (by omega)) ?_
  refine li rfl ?_
  refine opStoreOwn 2 (II (arrT pls (i + 1))) rfl rfl (by kernel_rfl) rfl rfl rfl (by kernel_rfl) rfl (by rw [List.length_map, arrT_len]; omega) (by rw [arrT_succ hx1]; exact List.map_set.symm) ?_
  refine liNil (qBlock (qThen ?_))
  refine St.to [cAt b4 70 [(.int .u64 0), (.int .i64 0), (.int .i64 0), (.string ⟨#[]⟩), (.slice none 0 0)], cAt b6 70 [(.int .u64 ((num : Nat) : Int)), (vI st), (.int .i64 0), (.string ⟨#[]⟩), (vL (some ⟨b32, 0, none⟩) pls (pls.length))], cOwn 3 1 (some ⟨b32, 0, none⟩) (pls.length) (pls.length) (II (arrT pls (i + 1))), cOwn 4 1 (some ⟨b36, 0, none⟩) (pls.length) (pls.length) (BB (seenT pls (i + 1))), cAt b9 113 [(vI x1.sec), (.int .u64 ((x1.num : Nat) : Int)), (vI x1.idx), (vI x1.st)]] (by kernel_rfl) ?_
  refine reg ?_
  refine lv (v := (vI (i + 1))) (rAdd _ rfl rfl rfl (by omega) (by omega) (by omega)) ?_
  refine lm ?_
  refine liNil (qThen ?_)
  exact stAgain (i + 1) (by show _ ≤ _; omega) (by show _ - _ < _ - _; omega) ⟨rfl, rfl, rfl, rfl, rfl, rfl, rfl, rfl, trivial⟩ (fun w hM => (hM.pick [0, 1, 2, 3] rfl rfl))
 ·have hd40 := of_decide_eq_false hc40
  refine stExit (qThenX (qThenX (qBlockX (qThen (stSeq (reg ?_))))))
  refine lv (v := (.agg #[(.int .u64 ((num : Nat) : Int)), (vI st), (.int .i64 0), (.string ⟨#[]⟩), (vL (some ⟨b32, 0, none⟩) pls (pls.length))])) (rLoadA [(.int .u64 ((num : Nat) : Int)), (vI st), (.int .i64 0), (.string ⟨#[]⟩), (vL (some ⟨b32, 0, none⟩) pls (pls.length))] rfl rfl (by kernel_rfl) (by kernel_rfl) (segAt (i := 1) rfl (by intro j v hj; first | (rw [Nat.zero_add]; exact hj) | (match j, hj with | 0, h => exact h | 1, h => exact h | 2, h => exact h | 3, h => exact h | 4, h => exact h)))) ?_
  refine li rfl ?_
  refine opStoreN 0 [(.int .u64 ((num : Nat) : Int)), (vI st), (.int .i64 0), (.string ⟨#[]⟩), (vL (some ⟨b32, 0, none⟩) pls (pls.length))] (vs := [(.int .u64 ((num : Nat) : Int)), (vI st), (.int .i64 0), (.string ⟨#[]⟩), (vL (some ⟨b32, 0, none⟩) pls (pls.length))]) rfl rfl (by kernel_rfl) rfl rfl rfl (by kernel_rfl) rfl (by simp) (by simp [Value.oneCell']) rfl ?_
  refine la ?_
  refine liNil (qThen (stRet ?_))
  refine stEnd [(.agg #[(.int .u64 ((num : Nat) : Int)), (vI st), (.int .i64 0), (.string ⟨#[]⟩), (vL (some ⟨b32, 0, none⟩) pls (pls.length))]), (.bool true)] rfl ⟨⟨_, rfl, fun w hM => run_loadVarA (by kernel_rfl) (by kernel_rfl) (segAt (i := 0) (off := 0) rfl (by intro j v hj; rw [Nat.zero_add]; exact hj) w hM)⟩, rfl, trivial⟩ (fun w hM => ?_)
  obtain rfl : i = pls.length := by omega
  have h2 := (hM.toRw 2 rfl).pick [2] rfl rfl
  exact ⟨_, _, by simp only [vL, arrS, arrT_len]; rfl, h2⟩
end Go.Proofs.YtaiggifiefnjnaaGreatDoor
