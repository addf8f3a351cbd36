/- Part 5 of a proof: what its row uses. -/
import Derived.Test.YtdflaaiondmjdaaGreatDoorQs04
set_option maxRecDepth 100000
set_option maxHeartbeats 1000000
namespace Go.Proofs.YtdflaaiondmjdaaGreatDoor
open Go.RowKit
theorem Rd.sums_pre (r:Rd):∀ (k i:Nat),(r.sums i).1 <+: (r.sums (i+k)).1
 | 0,i=>List.prefix_refl _
 | k+1,i=>(Rd.sums_pre r k i).trans ⟨_,rfl⟩
theorem sums_asc {r:Rd} {most i:Nat} {x y:Bs} (h:(r.items most).1.Pairwise (· < ·)) (hlt:i < (r.cnt (r.most most)).1) (hi:0 < i) (hx:((r.cnt (r.most most)).2.sums (i+1)).1[i - 1]?=some x) (hy:((r.cnt (r.most most)).2.sums (i+1)).1[i]?=some y):x < y:=by
 obtain ⟨t,ht⟩:=Rd.sums_pre (r.cnt (r.most most)).2 ((r.cnt (r.most most)).1 - (i+1)) (i+1)
 rw [show i+1+((r.cnt (r.most most)).1 - (i+1))=(r.cnt (r.most most)).1 by omega] at ht
 have h':(((r.cnt (r.most most)).2.sums (i+1)).1++t).Pairwise (· < ·):=by rw [ht]; exact h
 have h1:=(List.pairwise_append.1 h').1
 obtain ⟨a1,a2⟩:=List.getElem?_eq_some_iff.1 hx
 obtain ⟨b1,b2⟩:=List.getElem?_eq_some_iff.1 hy
 have:=List.pairwise_iff_getElem.1 h1 (i - 1) i a1 b1 (by omega)
 rw [a2,b2] at this
 exact this
theorem qNewT (A:Option Addr) (c:Nat) (l:List (List UInt8)) (w:World) (r0:Rf [] w (Vars)) (r1:Rf [] w (fun w=>RowIn w A (SS l))) (hl:l.length≤9223372036854775807) (he:setE l=0) (h40:l.length≤1000) :
  Calls Tryz.prog 16 #[(vL A l c),(.bool true)] w fun e w'=>∃ (bs:Nat) (A1:Option Addr) (c1 se:Nat) (A2:Option Addr) (c2 nm om:Nat) (Am:Option Addr) (cm:Nat),e = .returned (.tuple #[(vP bs 0),(.int .i64 0)])∧Back [] w [cAt bs 101 [(vL A1 l c1),(.bool true),(.int .i64 1),(vI 1),(vL Am (withB 1 (skB (strata l))) cm),(.bool false),(.bool false),(vP se 0),(.bool false),(.slice none 0 0),(.slice none 0 0)],cS A1 l c1,cAt se 149 [(vL A2 l c2),(vI 4),(vI 4),(.map (some nm)),(.map (some om))],cS A2 l c2,cSet nm ([]),cSet om ([]),cB Am (withB 1 (skB (strata l))) cm] w':=by
 refine sE2 Tryz.func16 42 (Mm.start w []) ?_
 refine stSeq (reg (la ?_))
 refine la ?_
 refine liNil (qThen (stSeq (stSeq (reg (lm ?_)))))
 refine li rfl (opK0 (fun w hM=>(rsFp_ok A c l w (r0.go0 hM) (r1.go0 hM) (by omega) (by assumption) (by omega)).mono ?_))
 rintro e w' ⟨rfl,hP⟩
 refine ⟨_,_,rfl,hP,?_⟩; clear hP hM
 refine lm ?_
 refine lc (vS (fpB l)) ?_
 refine lc (.int .i64 0) ?_
 refine la ?_
 refine la ?_
 refine liNil (qThen (stSeq (reg (lm ?_))))
 refine lc (.bool false) ?_
 refine liNil (qThen (stFalse rfl (stSkip (qThen (stSeq (reg ?_))))))
 refine lm ?_
 refine lc (.agg #[(.int .i64 4),(.int .i64 4)]) ?_
 refine li rfl (opK0 (fun w hM=>(rsNew_ok A c l 4 4 w (r1.go0 hM) (by omega) (by decide) (by assumption)).mono ?_))
 rintro e w' ⟨bs22,A222,c222,nm22,om22,rfl,hP⟩
 refine ⟨_,_,rfl,hP,?_⟩; clear hP hM
 refine lm ?_
 refine lc (vP bs22 0) ?_
 refine lc (.int .i64 0) ?_
 refine la ?_
 refine la ?_
 refine liNil (qThen (stSeq (stSeq (reg (lm ?_)))))
 refine lc (.bool false) ?_
 refine liNil (qThen (stFalse rfl (stSkip (qThen (stSeq ?_)))))
 have hset:=(setE_zero he).2
 have h32:=hset.1
 have hskl:=skB_len (strata_ok h32).all
 rw [strata_len] at hskl
 refine reg (lm ?_)
 refine li rfl (opK0 (fun w hM=>(rsClone_any A c l w (r1.go0 hM) (by omega)).mono ?_))
 rintro e w' ⟨B29,cb29,rfl,hP⟩
 refine ⟨_,_,rfl,hP,?_⟩; clear hP hM
 refine lm ?_
 refine lm ?_
 refine lc (.agg #[(vL B29 l cb29),(.bool true),(.int .i64 2),(.int .i64 0),(.slice none 0 0),(.bool false),(.bool false),(vP bs22 0),(.bool false),(.slice none 0 0),(.slice none 0 0)]) ?_
 refine li rfl (oBx [(vL B29 l cb29),(.bool true),(.int .i64 2),(.int .i64 0),(.slice none 0 0),(.bool false),(.bool false),(vP bs22 0),(.bool false),(.slice none 0 0),(.slice none 0 0)] fun b33=>?_)
 refine la ?_
 refine liNil (qThen (stSeq (stSeq ?_)))
 dsimp only [setAll,List.set,List.cons_append,List.nil_append]
 refine reg (lm ?_)
 refine liNil (qThen (stTrue rfl (reg ?_)))
 refine lm ?_
 refine lm ?_
 refine li rfl (opK0 (fun w hM=>(qStrataOf A c l w (r0.go0 hM) (r1.go0 hM) (by assumption) (by omega)).mono ?_))
 rintro e w' ⟨Xs37,rfl,hP,hn37⟩
 refine ⟨_,_,rfl,hP,?_⟩; clear hP hM
 refine li rfl (opK0 (fun w hM=>(qSketch1 Xs37 (strata l) w (hM.keep0 (j:=6) rfl (fun _ h=>h)) (strata_ok h32) (strata_len l) (hn37)).mono ?_))
 rintro e w' ⟨A38,c38,rfl,hP⟩
 refine ⟨_,_,rfl,hP,?_⟩; clear hP hM
 refine li rfl (opK0 (fun w hM=>(qWithB 1 A38 c38 (skB (strata l)) w (hM.keep0 (j:=7) rfl (fun _ h=>RowIn.of_own h)) (by omega) (by omega)).mono ?_))
 rintro e w' ⟨A239,c239,rfl,hP⟩
 refine ⟨_,_,rfl,hP,?_⟩; clear hP hM
 refine li rfl (opK [5] _ (fun w hM hO=>(qSend b33 (vL B29 l cb29) (.bool true) (.int .i64 2) (.int .i64 0) (.slice none 0 0) (.bool false) (.bool false) (vP bs22 0) (.bool false) (.slice none 0 0) (.slice none 0 0) 1 A239 ((withB 1 (skB (strata l))).length) c239 w hO).mono ?_))
 rintro e w' ⟨rfl,hP⟩
 refine ⟨_,[_],_,rfl,hP,rfl,?_⟩; clear hP hM hO
 refine liNil (qThen (stSeq ?_))
 dsimp only [setAll,List.set,List.cons_append,List.nil_append]
 refine reg (lm ?_)
 refine la ?_
 refine la ?_
 refine liNil (qThen (stRet (sN [(vP b33 0),(.int .i64 0)] fun w hM=>?_)))
 exact ⟨b33,B29,cb29,bs22,A222,c222,nm22,om22,A239,c239,rfl,(hM.pick [5,4,0,1,2,3,8] rfl rfl)⟩
theorem qNewF (A:Option Addr) (c:Nat) (l:List (List UInt8)) (w:World) (r0:Rf [] w (Vars)) (r1:Rf [] w (fun w=>RowIn w A (SS l))) (hl:l.length≤9223372036854775807) (he:setE l=0) (h40:l.length≤1000) :
  Calls Tryz.prog 16 #[(vL A l c),(.bool false)] w fun e w'=>∃ (bs:Nat) (A1:Option Addr) (c1 se:Nat) (A2:Option Addr) (c2 nm om:Nat),e = .returned (.tuple #[(vP bs 0),(.int .i64 0)])∧Back [] w [cAt bs 101 [(vL A1 l c1),(.bool false),(.int .i64 2),(.int .i64 0),(.slice none 0 0),(.bool false),(.bool false),(vP se 0),(.bool false),(.slice none 0 0),(.slice none 0 0)],cS A1 l c1,cAt se 149 [(vL A2 l c2),(vI 4),(vI 4),(.map (some nm)),(.map (some om))],cS A2 l c2,cSet nm ([]),cSet om ([])] w':=by
 refine sE2 Tryz.func16 42 (Mm.start w []) ?_
 refine stSeq (reg (la ?_))
 refine la ?_
 refine liNil (qThen (stSeq (stSeq (reg (lm ?_)))))
 refine li rfl (opK0 (fun w hM=>(rsFp_ok A c l w (r0.go0 hM) (r1.go0 hM) (by omega) (by assumption) (by omega)).mono ?_))
 rintro e w' ⟨rfl,hP⟩
 refine ⟨_,_,rfl,hP,?_⟩; clear hP hM
 refine lm ?_
 refine lc (vS (fpB l)) ?_
 refine lc (.int .i64 0) ?_
 refine la ?_
 refine la ?_
 refine liNil (qThen (stSeq (reg (lm ?_))))
 refine lc (.bool false) ?_
 refine liNil (qThen (stFalse rfl (stSkip (qThen (stSeq (reg ?_))))))
 refine lm ?_
 refine lc (.agg #[(.int .i64 4),(.int .i64 4)]) ?_
 refine li rfl (opK0 (fun w hM=>(rsNew_ok A c l 4 4 w (r1.go0 hM) (by omega) (by decide) (by assumption)).mono ?_))
 rintro e w' ⟨bs22,A222,c222,nm22,om22,rfl,hP⟩
 refine ⟨_,_,rfl,hP,?_⟩; clear hP hM
 refine lm ?_
 refine lc (vP bs22 0) ?_
 refine lc (.int .i64 0) ?_
 refine la ?_
 refine la ?_
 refine liNil (qThen (stSeq (stSeq (reg (lm ?_)))))
 refine lc (.bool false) ?_
 refine liNil (qThen (stFalse rfl (stSkip (qThen (stSeq ?_)))))
 have hset:=(setE_zero he).2
 have h32:=hset.1
 have hskl:=skB_len (strata_ok h32).all
 rw [strata_len] at hskl
 refine reg (lm ?_)
 refine li rfl (opK0 (fun w hM=>(rsClone_any A c l w (r1.go0 hM) (by omega)).mono ?_))
 rintro e w' ⟨B29,cb29,rfl,hP⟩
 refine ⟨_,_,rfl,hP,?_⟩; clear hP hM
 refine lm ?_
 refine lm ?_
 refine lc (.agg #[(vL B29 l cb29),(.bool false),(.int .i64 2),(.int .i64 0),(.slice none 0 0),(.bool false),(.bool false),(vP bs22 0),(.bool false),(.slice none 0 0),(.slice none 0 0)]) ?_
 refine li rfl (oBx [(vL B29 l cb29),(.bool false),(.int .i64 2),(.int .i64 0),(.slice none 0 0),(.bool false),(.bool false),(vP bs22 0),(.bool false),(.slice none 0 0),(.slice none 0 0)] fun b33=>?_)
 refine la ?_
 refine liNil (qThen (stSeq (stSeq ?_)))
 dsimp only [setAll,List.set,List.cons_append,List.nil_append]
 refine reg (lm ?_)
 refine liNil (qThen (stFalse rfl (stSkip (qThen (stSeq (reg ?_))))))
 refine lm ?_
 refine la ?_
 refine la ?_
 refine liNil (qThen (stRet (sN [(vP b33 0),(.int .i64 0)] fun w hM=>?_)))
 exact ⟨b33,B29,cb29,bs22,A222,c222,nm22,om22,rfl,(hM.pick [5,4,0,1,2,3] rfl rfl)⟩
theorem qNext_wait (bs:Nat) (v0 v1:Value) (v5 v6:Value) (v7 v8:Value) (v9 v10:Value) (k:Nat) (Am:Option Addr) (cm:Nat) (m:List UInt8) (b:Nat) (w:World) (hO:Own [cAt bs 101 [v0,v1,(.int .i64 1),(vI k),(vL Am m cm),v5,v6,v7,v8,v9,v10]] w) (hb:m.length≤b) (hk:k≠4∧k≠5) :
  Calls Tryz.prog 18 #[(vP bs 0),(vI b)] w fun e w'=>e = .returned (.tuple #[(vL Am m cm),(.int .i64 0)])∧Back [cAt bs 101 [v0,v1,(.int .i64 1),(vI k),(vL Am m cm),v5,v6,v7,v8,v9,v10]] w [cAt bs 101 [v0,v1,(.int .i64 2),(vI k),(.slice none 0 0),v5,v6,v7,v8,v9,v10]] w':=by
 refine sE2 Tryz.func18 56 (hO) ?_
 refine stSeq (reg (la ?_))
 refine la ?_
 refine liNil (qThen (stSeq (stBlock (stSeq (reg (lm ?_))))))
 refine lc (.bool (decide (((b:Nat):Int) < 0))) ?_
 refine la ?_
 refine liNil (qThen (stFalseK rfl (by simp) ?_))
 refine stSeq (reg (lm ?_))
 refine lc (vP bs 0) ?_
 refine lc (vP bs 2) ?_
 refine ll 0 ?_
 refine lc (.bool false) ?_
 refine la ?_
 refine liNil (qThen (stFalse rfl (stSeq (reg ?_))))
 refine lm ?_
 refine lc (vP bs 0) ?_
 refine lc (vP bs 2) ?_
 refine ll 0 ?_
 refine lc (.bool false) ?_
 refine la ?_
 refine liNil (qThen (stFalse rfl (stSeq (reg ?_))))
 refine lm ?_
 refine lc (vP bs 0) ?_
 refine lc (vP bs 4) ?_
 refine ll 0 ?_
 refine lc (vI m.length) ?_
 refine lm ?_
 refine lc (.bool (decide (((m.length:Nat):Int) > ((b:Nat):Int)))) ?_
 refine la ?_
 refine liNil (qThen (stFalseK rfl (by simp; omega) ?_))
 refine stSkip (qBlock (qThen (stSeq (reg ?_))))
 refine lm ?_
 refine lc (vP bs 0) ?_
 refine lc (vP bs 4) ?_
 refine ll 0 ?_
 refine la ?_
 refine liNil (qThen (stSeq (reg (lm ?_))))
 refine lc (vP bs 0) ?_
 refine lc (vP bs 4) ?_
 refine li rfl (oS1 0 ?_)
 refine liNil (qThen (stSeq (reg (lm ?_))))
 refine lc (vP bs 0) ?_
 refine lc (vP bs 2) ?_
 refine li rfl (oS1 0 ?_)
 refine liNil (qThen (stSeq (stSeq (reg (lm ?_)))))
 refine lc (vP bs 0) ?_
 refine lc (vP bs 3) ?_
 refine ll 0 ?_
 refine lc (.bool ((((k:Nat):Int):Int) == 4)) ?_
 refine lm ?_
 refine St.known 45 (b':=false) rfl (by simp; omega) ?_
 refine lgm ?_
 refine lgc (vP bs 0) ?_
 refine lgc (vP bs 3) ?_
 refine lgv (v:=(vI k)) (rLoad 0 rfl rfl (by kernel_rfl) rfl rfl) ?_
 refine lgc (.bool ((((k:Nat):Int):Int) == 5)) ?_
 refine lc (.bool ((((k:Nat):Int):Int) == 5)) ?_
 refine liNil (qThen (stFalseK rfl (by simp; omega) ?_))
 refine stSkip (qThen (stSeq (reg (lm ?_))))
 refine la ?_
 refine la ?_
 refine liNil (qThen (stRet (sN [(vL Am m cm),(.int .i64 0)] fun w hM=>?_)))
 exact ⟨rfl,hM⟩
theorem qNext_fin (bs:Nat) (v0 v1:Value) (v5 v6:Value) (v7 v8:Value) (v9 v10:Value) (k:Nat) (Am:Option Addr) (cm:Nat) (m:List UInt8) (b:Nat) (w:World) (hO:Own [cAt bs 101 [v0,v1,(.int .i64 1),(vI k),(vL Am m cm),v5,v6,v7,v8,v9,v10]] w) (hb:m.length≤b) (hk:k=4) :
  Calls Tryz.prog 18 #[(vP bs 0),(vI b)] w fun e w'=>e = .returned (.tuple #[(vL Am m cm),(.int .i64 0)])∧Back [cAt bs 101 [v0,v1,(.int .i64 1),(vI k),(vL Am m cm),v5,v6,v7,v8,v9,v10]] w [cAt bs 101 [v0,v1,(.int .i64 0),(vI k),(.slice none 0 0),v5,v6,v7,v8,v9,v10]] w':=by
 refine sE2 Tryz.func18 56 (hO) ?_
 refine stSeq (reg (la ?_))
 refine la ?_
 refine liNil (qThen (stSeq (stBlock (stSeq (reg (lm ?_))))))
 refine lc (.bool (decide (((b:Nat):Int) < 0))) ?_
 refine la ?_
 refine liNil (qThen (stFalseK rfl (by simp) ?_))
 refine stSeq (reg (lm ?_))
 refine lc (vP bs 0) ?_
 refine lc (vP bs 2) ?_
 refine ll 0 ?_
 refine lc (.bool false) ?_
 refine la ?_
 refine liNil (qThen (stFalse rfl (stSeq (reg ?_))))
 refine lm ?_
 refine lc (vP bs 0) ?_
 refine lc (vP bs 2) ?_
 refine ll 0 ?_
 refine lc (.bool false) ?_
 refine la ?_
 refine liNil (qThen (stFalse rfl (stSeq (reg ?_))))
 refine lm ?_
 refine lc (vP bs 0) ?_
 refine lc (vP bs 4) ?_
 refine ll 0 ?_
 refine lc (vI m.length) ?_
 refine lm ?_
 refine lc (.bool (decide (((m.length:Nat):Int) > ((b:Nat):Int)))) ?_
 refine la ?_
 refine liNil (qThen (stFalseK rfl (by simp; omega) ?_))
 refine stSkip (qBlock (qThen (stSeq (reg ?_))))
 refine lm ?_
 refine lc (vP bs 0) ?_
 refine lc (vP bs 4) ?_
 refine ll 0 ?_
 refine la ?_
 refine liNil (qThen (stSeq (reg (lm ?_))))
 refine lc (vP bs 0) ?_
 refine lc (vP bs 4) ?_
 refine li rfl (oS1 0 ?_)
 refine liNil (qThen (stSeq (reg (lm ?_))))
 refine lc (vP bs 0) ?_
 refine lc (vP bs 2) ?_
 refine li rfl (oS1 0 ?_)
 refine liNil (qThen (stSeq (stSeq (reg (lm ?_)))))
 refine lc (vP bs 0) ?_
 refine lc (vP bs 3) ?_
 refine ll 0 ?_
 refine lc (.bool ((((k:Nat):Int):Int) == 4)) ?_
 refine lm ?_
 refine St.known 45 (b':=true) rfl (by simp; omega) ?_
 iterate 5 refine lnT ?_
 refine lc (.bool true) ?_
 refine liNil (qThen (stTrue rfl (reg ?_)))
 refine lm ?_
 refine lc (vP bs 0) ?_
 refine lc (vP bs 2) ?_
 refine li rfl (oS1 0 ?_)
 refine liNil (qThen (stSeq (reg (lm ?_))))
 refine la ?_
 refine la ?_
 refine liNil (qThen (stRet (sN [(vL Am m cm),(.int .i64 0)] fun w hM=>?_)))
 exact ⟨rfl,hM⟩
theorem qNext_fin5 (bs:Nat) (v0 v1:Value) (v5 v6:Value) (v7 v8:Value) (v9 v10:Value) (k:Nat) (Am:Option Addr) (cm:Nat) (m:List UInt8) (b:Nat) (w:World) (hO:Own [cAt bs 101 [v0,v1,(.int .i64 1),(vI k),(vL Am m cm),v5,v6,v7,v8,v9,v10]] w) (hb:m.length≤b) (hk:k=5) :
  Calls Tryz.prog 18 #[(vP bs 0),(vI b)] w fun e w'=>e = .returned (.tuple #[(vL Am m cm),(.int .i64 0)])∧Back [cAt bs 101 [v0,v1,(.int .i64 1),(vI k),(vL Am m cm),v5,v6,v7,v8,v9,v10]] w [cAt bs 101 [v0,v1,(.int .i64 0),(vI k),(.slice none 0 0),v5,v6,v7,v8,v9,v10]] w':=by
 refine sE2 Tryz.func18 56 (hO) ?_
 refine stSeq (reg (la ?_))
 refine la ?_
 refine liNil (qThen (stSeq (stBlock (stSeq (reg (lm ?_))))))
 refine lc (.bool (decide (((b:Nat):Int) < 0))) ?_
 refine la ?_
 refine liNil (qThen (stFalseK rfl (by simp) ?_))
 refine stSeq (reg (lm ?_))
 refine lc (vP bs 0) ?_
 refine lc (vP bs 2) ?_
 refine ll 0 ?_
 refine lc (.bool false) ?_
 refine la ?_
 refine liNil (qThen (stFalse rfl (stSeq (reg ?_))))
 refine lm ?_
 refine lc (vP bs 0) ?_
 refine lc (vP bs 2) ?_
 refine ll 0 ?_
 refine lc (.bool false) ?_
 refine la ?_
 refine liNil (qThen (stFalse rfl (stSeq (reg ?_))))
 refine lm ?_
 refine lc (vP bs 0) ?_
 refine lc (vP bs 4) ?_
 refine ll 0 ?_
 refine lc (vI m.length) ?_
 refine lm ?_
 refine lc (.bool (decide (((m.length:Nat):Int) > ((b:Nat):Int)))) ?_
 refine la ?_
 refine liNil (qThen (stFalseK rfl (by simp; omega) ?_))
 refine stSkip (qBlock (qThen (stSeq (reg ?_))))
 refine lm ?_
 refine lc (vP bs 0) ?_
 refine lc (vP bs 4) ?_
 refine ll 0 ?_
 refine la ?_
 refine liNil (qThen (stSeq (reg (lm ?_))))
 refine lc (vP bs 0) ?_
 refine lc (vP bs 4) ?_
 refine li rfl (oS1 0 ?_)
 refine liNil (qThen (stSeq (reg (lm ?_))))
 refine lc (vP bs 0) ?_
 refine lc (vP bs 2) ?_
 refine li rfl (oS1 0 ?_)
 refine liNil (qThen (stSeq (stSeq (reg (lm ?_)))))
 refine lc (vP bs 0) ?_
 refine lc (vP bs 3) ?_
 refine ll 0 ?_
 refine lc (.bool ((((k:Nat):Int):Int) == 4)) ?_
 refine lm ?_
 refine St.known 45 (b':=false) rfl (by simp; omega) ?_
 refine lgm ?_
 refine lgc (vP bs 0) ?_
 refine lgc (vP bs 3) ?_
 refine lgv (v:=(vI k)) (rLoad 0 rfl rfl (by kernel_rfl) rfl rfl) ?_
 refine lgc (.bool ((((k:Nat):Int):Int) == 5)) ?_
 refine lc (.bool ((((k:Nat):Int):Int) == 5)) ?_
 refine liNil (qThen (stTrueK rfl (by simp; omega) ?_))
 refine reg (lm ?_)
 refine lc (vP bs 0) ?_
 refine lc (vP bs 2) ?_
 refine li rfl (oS1 0 ?_)
 refine liNil (qThen (stSeq (reg (lm ?_))))
 refine la ?_
 refine la ?_
 refine liNil (qThen (stRet (sN [(vL Am m cm),(.int .i64 0)] fun w hM=>?_)))
 exact ⟨rfl,hM⟩
theorem qNext_short (bs:Nat) (v0 v1:Value) (v5 v6:Value) (v7 v8:Value) (v9 v10:Value) (k:Nat) (Am:Option Addr) (cm:Nat) (m:List UInt8) (b:Nat) (w:World) (r0:Rf [] w (fun w=>At w bs 101 [v0,v1,(.int .i64 1),(vI k),(vL Am m cm),v5,v6,v7,v8,v9,v10])) (hb:b < m.length) :
  Calls Tryz.prog 18 #[(vP bs 0),(vI b)] w fun e w'=>e = .returned (.tuple #[(.slice none 0 0),(.int .i64 10)])∧Back [] w [] w':=by
 refine sE2 Tryz.func18 56 (Mm.start w []) ?_
 refine stSeq (reg (la ?_))
 refine la ?_
 refine liNil (qThen (stSeq (stBlock (stSeq (reg (lm ?_))))))
 refine lc (.bool (decide (((b:Nat):Int) < 0))) ?_
 refine la ?_
 refine liNil (qThen (stFalseK rfl (by simp) ?_))
 refine stSeq (reg (lm ?_))
 refine lc (vP bs 0) ?_
 refine lc (vP bs 2) ?_
 refine lv (rW (fun w hM=>At.cell (r0.now hM) 2)) ?_
 refine lc (.bool false) ?_
 refine la ?_
 refine liNil (qThen (stFalse rfl (stSeq (reg ?_))))
 refine lm ?_
 refine lc (vP bs 0) ?_
 refine lc (vP bs 2) ?_
 refine lv (rW (fun w hM=>At.cell (r0.now hM) 2)) ?_
 refine lc (.bool false) ?_
 refine la ?_
 refine liNil (qThen (stFalse rfl (stSeq (reg ?_))))
 refine lm ?_
 refine lc (vP bs 0) ?_
 refine lc (vP bs 4) ?_
 refine lv (rW (fun w hM=>At.cell (r0.now hM) 4)) ?_
 refine lc (vI m.length) ?_
 refine lm ?_
 refine lc (.bool (decide (((m.length:Nat):Int) > ((b:Nat):Int)))) ?_
 refine la ?_
 refine liNil (qThen (stTrueK rfl (by simp; omega) ?_))
 refine stSeq (reg (la ?_))
 refine la ?_
 refine liNil (qThen (stRet (qBlockR (qThenR ?_))))
 refine sN [(.slice none 0 0),(.int .i64 10)] fun w hM=>?_
 exact ⟨rfl,hM⟩
theorem qNext_end (bs:Nat) (v0 v1:Value) (v3 v4:Value) (v5 v6:Value) (v7 v8:Value) (v9 v10:Value) (b:Nat) (w:World) (r0:Rf [] w (fun w=>At w bs 101 [v0,v1,(.int .i64 0),v3,v4,v5,v6,v7,v8,v9,v10])) :
  Calls Tryz.prog 18 #[(vP bs 0),(vI b)] w fun e w'=>e = .returned (.tuple #[(.slice none 0 0),(.int .i64 4)])∧Back [] w [] w':=by
 refine sE2 Tryz.func18 56 (Mm.start w []) ?_
 refine stSeq (reg (la ?_))
 refine la ?_
 refine liNil (qThen (stSeq (stBlock (stSeq (reg (lm ?_))))))
 refine lc (.bool (decide (((b:Nat):Int) < 0))) ?_
 refine la ?_
 refine liNil (qThen (stFalseK rfl (by simp) ?_))
 refine stSeq (reg (lm ?_))
 refine lc (vP bs 0) ?_
 refine lc (vP bs 2) ?_
 refine lv (rW (fun w hM=>At.cell (r0.now hM) 2)) ?_
 refine lc (.bool true) ?_
 refine la ?_
 refine liNil (qThen (stTrue rfl (stSeq (reg ?_))))
 refine la ?_
 refine la ?_
 refine liNil (qThen (stRet (qBlockR (qThenR ?_))))
 refine sN [(.slice none 0 0),(.int .i64 4)] fun w hM=>?_
 exact ⟨rfl,hM⟩
theorem qNeed_set (bs:Nat) (v0 v1:Value) (v2 v3:Value) (v4 v5:Value) (v6 v7 v10:Value) (An:Option Addr) (cn:Nat) (needs:List (List UInt8)) (w:World) (r0:Rf [] w (fun w=>At w bs 101 [v0,v1,v2,v3,v4,v5,v6,v7,(.bool true),(vL An needs cn),v10])) (r1:Rf [] w (fun w=>RowIn w An (SS needs))) (hl4:needs.length≤4294967296) :
  Calls Tryz.prog 24 #[(vP bs 0)] w fun e w'=>∃ (B:Option Addr) (cb:Nat),e = .returned (vL B needs cb)∧Back [] w [cS B needs cb] w':=by
 refine sE1 Tryz.func24 24 (Mm.start w []) ?_
 refine stSeq (reg (la ?_))
 refine liNil (qThen (stSeq (stSeq (reg (lm ?_)))))
 refine lc (vP bs 0) ?_
 refine lc (vP bs 8) ?_
 refine lv (rW (fun w hM=>At.cell (r0.now hM) 8)) ?_
 refine lm ?_
 iterate 5 refine lnT ?_
 refine lc (.bool true) ?_
 refine liNil (qThen (stTrue rfl (stSeq (reg ?_))))
 refine lm ?_
 refine lc (vP bs 0) ?_
 refine lc (vP bs 9) ?_
 refine lv (rW (fun w hM=>At.cell (r0.now hM) 9)) ?_
 refine li rfl (opK0 (fun w hM=>(rsClone_any An cn needs w (r1.go0 hM) (by omega)).mono ?_))
 rintro e w' ⟨B18,cb18,rfl,hP⟩
 refine ⟨_,_,rfl,hP,?_⟩; clear hP hM
 refine la ?_
 refine liNil (qThen (stRet (qThenR (sN [(vL B18 needs cb18)] fun w hM=>?_))))
 exact ⟨B18,cb18,rfl,hM⟩
theorem qNeed_open (bs:Nat) (v0 v1:Value) (v2 v3:Value) (v4 v5:Value) (v6 v9 v10:Value) (se:Nat) (A:Option Addr) (c:Nat) (its:List (List UInt8)) (nm om:Nat) (S:List (List UInt8)) (w:World) (r0:Rf [] w (fun w=>At w bs 101 [v0,v1,v2,v3,v4,v5,v6,(vP se 0),(.bool false),v9,v10])) (r1:Rf [] w (fun w=>At w se 149 [(vL A its c),(vI 4),(vI 4),(.map (some nm)),(.map (some om))])) (r2:Rf [] w (fun w=>SetAt w nm S)) (hS:S.length≤1099511627776) :
  Calls Tryz.prog 24 #[(vP bs 0)] w fun e w'=>∃ (B:Option Addr) (cb:Nat),e = .returned (vL B (withL [] S) cb)∧Back [] w [cS B (withL [] S) cb] w':=by
 refine sE1 Tryz.func24 24 (Mm.start w []) ?_
 refine stSeq (reg (la ?_))
 refine liNil (qThen (stSeq (stSeq (reg (lm ?_)))))
 refine lc (vP bs 0) ?_
 refine lc (vP bs 8) ?_
 refine lv (rW (fun w hM=>At.cell (r0.now hM) 8)) ?_
 refine lm ?_
 refine lgm ?_
 refine lgc (vP bs 0) ?_
 refine lgc (vP bs 7) ?_
 refine lgv (v:=(vP se 0)) (rLoadW rfl rfl (by kernel_rfl) (fun w hM=>At.cell (r0.now hM) 7)) ?_
 refine lgc (.bool false) ?_
 refine lc (.bool false) ?_
 refine liNil (qThen (stFalse rfl (stSkip (qThen (stSeq (reg ?_))))))
 refine lm ?_
 refine lc (vP bs 0) ?_
 refine lc (vP bs 7) ?_
 refine lv (rW (fun w hM=>At.cell (r0.now hM) 7)) ?_
 refine li rfl (opK0 (fun w hM=>(rsNeed_any se A c its 4 4 nm om S w (r1.go0 hM) (r2.go0 hM) (by omega)).mono ?_))
 rintro e w' ⟨B23,cb23,rfl,hP⟩
 refine ⟨_,_,rfl,hP,?_⟩; clear hP hM
 refine la ?_
 refine liNil (qThen (stRet (sN [(vL B23 (withL [] S) cb23)] fun w hM=>?_)))
 exact ⟨B23,cb23,rfl,hM⟩
theorem qOffer_set (bs:Nat) (v0 v1:Value) (v2 v3:Value) (v4 v5:Value) (v6 v7 v9:Value) (Ao:Option Addr) (co:Nat) (offs:List (List UInt8)) (w:World) (r0:Rf [] w (fun w=>At w bs 101 [v0,v1,v2,v3,v4,v5,v6,v7,(.bool true),v9,(vL Ao offs co)])) (r1:Rf [] w (fun w=>RowIn w Ao (SS offs))) (hl4:offs.length≤4294967296) :
  Calls Tryz.prog 25 #[(vP bs 0)] w fun e w'=>∃ (B:Option Addr) (cb:Nat),e = .returned (vL B offs cb)∧Back [] w [cS B offs cb] w':=by
 refine sE1 Tryz.func25 24 (Mm.start w []) ?_
 refine stSeq (reg (la ?_))
 refine liNil (qThen (stSeq (stSeq (reg (lm ?_)))))
 refine lc (vP bs 0) ?_
 refine lc (vP bs 8) ?_
 refine lv (rW (fun w hM=>At.cell (r0.now hM) 8)) ?_
 refine lm ?_
 iterate 5 refine lnT ?_
 refine lc (.bool true) ?_
 refine liNil (qThen (stTrue rfl (stSeq (reg ?_))))
 refine lm ?_
 refine lc (vP bs 0) ?_
 refine lc (vP bs 10) ?_
 refine lv (rW (fun w hM=>At.cell (r0.now hM) 10)) ?_
 refine li rfl (opK0 (fun w hM=>(rsClone_any Ao co offs w (r1.go0 hM) (by omega)).mono ?_))
 rintro e w' ⟨B18,cb18,rfl,hP⟩
 refine ⟨_,_,rfl,hP,?_⟩; clear hP hM
 refine la ?_
 refine liNil (qThen (stRet (qThenR (sN [(vL B18 offs cb18)] fun w hM=>?_))))
 exact ⟨B18,cb18,rfl,hM⟩
theorem qOffer_open (bs:Nat) (v0 v1:Value) (v2 v3:Value) (v4 v5:Value) (v6 v9 v10:Value) (se:Nat) (A:Option Addr) (c:Nat) (its:List (List UInt8)) (nm om:Nat) (S:List (List UInt8)) (w:World) (r0:Rf [] w (fun w=>At w bs 101 [v0,v1,v2,v3,v4,v5,v6,(vP se 0),(.bool false),v9,v10])) (r1:Rf [] w (fun w=>At w se 149 [(vL A its c),(vI 4),(vI 4),(.map (some nm)),(.map (some om))])) (r2:Rf [] w (fun w=>SetAt w om S)) (hS:S.length≤1099511627776) :
  Calls Tryz.prog 25 #[(vP bs 0)] w fun e w'=>∃ (B:Option Addr) (cb:Nat),e = .returned (vL B (withL [] S) cb)∧Back [] w [cS B (withL [] S) cb] w':=by
 refine sE1 Tryz.func25 24 (Mm.start w []) ?_
 refine stSeq (reg (la ?_))
 refine liNil (qThen (stSeq (stSeq (reg (lm ?_)))))
 refine lc (vP bs 0) ?_
 refine lc (vP bs 8) ?_
 refine lv (rW (fun w hM=>At.cell (r0.now hM) 8)) ?_
 refine lm ?_
 refine lgm ?_
 refine lgc (vP bs 0) ?_
 refine lgc (vP bs 7) ?_
 refine lgv (v:=(vP se 0)) (rLoadW rfl rfl (by kernel_rfl) (fun w hM=>At.cell (r0.now hM) 7)) ?_
 refine lgc (.bool false) ?_
 refine lc (.bool false) ?_
 refine liNil (qThen (stFalse rfl (stSkip (qThen (stSeq (reg ?_))))))
 refine lm ?_
 refine lc (vP bs 0) ?_
 refine lc (vP bs 7) ?_
 refine lv (rW (fun w hM=>At.cell (r0.now hM) 7)) ?_
 refine li rfl (opK0 (fun w hM=>(rsOffer_any se A c its 4 4 nm om S w (r1.go0 hM) (r2.go0 hM) (by omega)).mono ?_))
 rintro e w' ⟨B23,cb23,rfl,hP⟩
 refine ⟨_,_,rfl,hP,?_⟩; clear hP hM
 refine la ?_
 refine liNil (qThen (stRet (sN [(vL B23 (withL [] S) cb23)] fun w hM=>?_)))
 exact ⟨B23,cb23,rfl,hM⟩
theorem qReadItems (X:Option Addr × Nat) (br:Nat) (r:Rd) (w:World) (hO:Own [cRd X br (r)] w) (hasc:(r.items 16384).1.Pairwise (· < ·)) :
  Calls Tryz.prog 153 #[(vP br 0)] w fun e w'=>∃ (B:Option Addr) (cb:Nat),e = .returned (.tuple #[(.slice B ((r.items 16384).1.length) (cb)),(.bool true)])∧Back [cRd X br (r)] w [cRd X br ((r.items 16384).2),cOwn 9 1 B ((r.items 16384).1.length) (cb) (SS (r.items 16384).1)] w':=by
 refine sE1 Tryz.func153 40 (hO) ?_
 refine stSeq (reg (la ?_))
 refine la ?_
 refine liNil (qThen (stSeq (St.fact (fun w hM=>(hM.at (i:=0) (c:=cRd X br r) rfl).2.len) (fun hrl=>?_))))
 refine reg (lm ?_)
 refine lm ?_
 refine li rfl (opK [0] _ (fun w hM hO=>(rsRLeft_any X br r w hO).mono ?_))
 rintro e w' ⟨rfl,hP⟩
 refine ⟨_,[_],_,rfl,hP,rfl,?_⟩; clear hP hM hO
 refine lv (v:=(vI ((r.D.length - r.off) / 32))) (rQuoN rfl rfl rfl (by omega) (by omega)) ?_
 refine lv (v:=(vI (r.most 16384))) (rMinN rfl rfl rfl) ?_
 have hml:r.most 16384≤16384:=Nat.min_le_left _ _
 refine li rfl (opK [0] _ (fun w hM hO=>(rsRCount_any X br r (r.most 16384) w hO (by omega)).mono ?_))
 rintro e w' ⟨rfl,hP⟩
 refine ⟨_,[_],_,rfl,hP,rfl,?_⟩; clear hP hM hO
 have hcl:=r.cnt_le (r.most 16384)
 refine la ?_
 refine liNil (qThen (stSeq (reg (lm ?_))))
 refine li rfl (opMk0 el_strC ((r.cnt (r.most 16384)).1) (by omega) rfl rfl (by kernel_rfl) rfl rfl (fun b14=>?_) (by omega))
 refine la ?_
 refine liNil (qThen (stSeq (stSeq (reg (lm ?_)))))
 refine lm ?_
 refine liNil (qThen (stBlock (sL (fun (i,AX,cX)=>i≤(r.cnt (r.most 16384)).1) (fun (i,AX,cX)=>(r.cnt (r.most 16384)).1 - i) (fun (i,AX,cX)=>[(0,(vP br 0)),(2,(.slice none 0 0)),(3,(.bool false)),(15,(vI ((r.cnt (r.most 16384)).1))),(5,(vL AX (((r.cnt (r.most 16384)).2.sums i).1) cX)),(16,(vI i))]) (fun (i,AX,cX)=>[cRd X br (((r.cnt (r.most 16384)).2.sums i).2),cS AX (((r.cnt (r.most 16384)).2.sums i).1) cX]) (0,(some ⟨b14,0,none⟩),((r.cnt (r.most 16384)).1)) (Nat.zero_le _) (fun w hM=>by show Mm _ _ [cRd X br (((r.cnt (r.most 16384)).2.sums 0).2),cS (some ⟨b14,0,none⟩) (((r.cnt (r.most 16384)).2.sums 0).1) (((r.cnt (r.most 16384)).1))] w; exact hM) ?_)))
 rintro ⟨i,AX,cX⟩ (hok:i≤(r.cnt (r.most 16384)).1)
 dsimp only
 refine stSeq (reg (lc (.bool (decide (((i:Nat):Int) < (((r.cnt (r.most 16384)).1:Nat):Int)))) ?_))
 refine liNil (qThen (stSeq (stCond rfl (fun hc17=>?_) (fun hc17=>?_))))
 ·have hd17:=of_decide_eq_true hc17
  have hlt:i < (r.cnt (r.most 16384)).1:=by omega
  refine stSkip (qThen (stSeq (stBlock (stSeq (reg (lm ?_))))))
  refine la ?_
  refine liNil (qThen (stSeq (reg (lm ?_))))
  refine lm ?_
  refine li rfl (opK [0] _ (fun w hM hO=>(rsRSum_any X br (((r.cnt (r.most 16384)).2.sums i).2) w hO).mono ?_))
  rintro e w' ⟨rfl,hP⟩
  refine ⟨_,[_],_,rfl,hP,rfl,?_⟩; clear hP hM hO
  refine li rfl (oNw 1 9 [(vS ((((r.cnt (r.most 16384)).2.sums i).2).sum.1))] fun b22=>?_)
  refine li rfl (opAppend el_strC 1 ([(vS ((((r.cnt (r.most 16384)).2.sums i).2).sum.1))]) rfl rfl (by kernel_rfl) rfl rfl rfl (rfl) (srcAt (i:=2) rfl (fun j v h=>by rw [Nat.zero_add]; exact h)) (by simp [Value.oneCell']) (by rw [Rd.sums_len]; omega) ((((r.cnt (r.most 16384)).2.sums i).1++[(((r.cnt (r.most 16384)).2.sums i).2).sum.1]).length) (by first | exact (List.length_append ..).symm | (simp; done) | (simp; omega)) (SS (((r.cnt (r.most 16384)).2.sums i).1++[(((r.cnt (r.most 16384)).2.sums i).2).sum.1])) (by simp [SS]) (fun A23 c23=>?_))
  refine la ?_
  refine liNil (qThen (stSeq ?_))
  rw [show ((r.cnt (r.most 16384)).2.sums i).1++[(((r.cnt (r.most 16384)).2.sums i).2).sum.1]=((r.cnt (r.most 16384)).2.sums (i+1)).1 from rfl]
  rw [show (((r.cnt (r.most 16384)).2.sums i).2).sum.2=((r.cnt (r.most 16384)).2.sums (i+1)).2 from rfl]
  have hsl:(((r.cnt (r.most 16384)).2.sums (i+1)).1).length=i+1:=Rd.sums_len _ _
  refine anyBegin _ 14 (by kernel_rfl) (fun _ h=>h) ?_
  refine am 0 ?_
  refine ac 1 (.bool (decide (((i:Nat):Int) > 0))) ?_
  refine am 2 ?_
  refine Any.dec 26 rfl (fun hc26=>?_) (fun hc26=>?_)
  ·have hd26:=of_decide_eq_true hc26
   refine agm 3 ?_
   refine agm 4 ?_
   refine agv 5 (vI (i - 1)) rfl (rSub _ rfl rfl rfl (by omega) (by omega) (by omega)) ?_
   obtain ⟨x0,hx0⟩:∃ ξ,(((r.cnt (r.most 16384)).2.sums (i+1)).1)[i - 1]?=some ξ:=⟨_,List.getElem?_eq_getElem (by omega)⟩
   refine Any.rowPtr (fun w hM=>rowOwn (i:=1) rfl w hM) (SS_at hx0) (fun p30 q30 hA30 hc30=>?_)
   refine agv 6 (vP p30 (q30+(i - 1))) rfl (rIndexRow (e:=9) rfl (by kernel_rfl) (by kernel_rfl) rfl rfl hA30 (by omega)) ?_
   refine agv 7 (vS x0) rfl (rLoadW rfl rfl (by kernel_rfl) hc30) ?_
   refine agm 8 ?_
   refine agm 9 ?_
   obtain ⟨x1,hx1⟩:∃ ξ,(((r.cnt (r.most 16384)).2.sums (i+1)).1)[i]?=some ξ:=⟨_,List.getElem?_eq_getElem (by omega)⟩
   refine Any.rowPtr (fun w hM=>rowOwn (i:=1) rfl w hM) (SS_at hx1) (fun p34 q34 hA34 hc34=>?_)
   refine agv 10 (vP p34 (q34+i)) rfl (rIndexRow (e:=9) rfl (by kernel_rfl) (by kernel_rfl) rfl rfl hA34 (by omega)) ?_
   refine agv 11 (vS x1) rfl (rLoadW rfl rfl (by kernel_rfl) hc34) ?_
   refine agv 12 (.bool (!decide (x0 < x1))) rfl (rStrGe rfl rfl rfl) ?_
   refine ac 13 (.bool (!decide (x0 < x1))) ?_
   refine anyDone (by kernel_rfl) ?_
   refine qThen (stFalseK rfl (by simpa using sums_asc hasc hlt (by have:=hc26; simp at this; omega) hx0 hx1) ?_)
   refine stSkip (qBlock (qThen (reg ?_)))
   refine lv (v:=(vI (i+1))) rAd ?_
   refine lm ?_
   exact liNil (qThen (sA (i+1,A23,c23) (by show _≤_; omega) (by show (r.cnt (r.most 16384)).1 - (i+1) < (r.cnt (r.most 16384)).1 - i; omega) (fun w hM=>(hM.pick [0,1] rfl rfl))))
  ·have hd26:=of_decide_eq_false hc26
   refine anF 3 ?_
   refine anF 4 ?_
   refine anF 5 ?_
   refine anF 6 ?_
   refine anF 7 ?_
   refine anF 8 ?_
   refine anF 9 ?_
   refine anF 10 ?_
   refine anF 11 ?_
   refine anF 12 ?_
   refine ac 13 (.bool false) ?_
   refine anyDone (by kernel_rfl) ?_
   refine qThen (stFalse rfl (stSkip (qBlock (qThen (reg ?_)))))
   refine lv (v:=(vI (i+1))) rAd ?_
   refine lm ?_
   exact liNil (qThen (sA (i+1,A23,c23) (by show _≤_; omega) (by show (r.cnt (r.most 16384)).1 - (i+1) < (r.cnt (r.most 16384)).1 - i; omega) (fun w hM=>(hM.pick [0,1] rfl rfl))))
 ·have hd17:=of_decide_eq_false hc17
  obtain rfl:i=(r.cnt (r.most 16384)).1:=by omega
  rw [show (r.cnt (r.most 16384)).2.sums (r.cnt (r.most 16384)).1=r.items 16384 from rfl]
  refine stExit (qThenX (qThenX (qBlockX (qThen (stSeq (reg ?_))))))
  refine lm ?_
  refine la ?_
  refine la ?_
  refine liNil (qThen (stRet (sN [(vL AX ((r.items 16384).1) cX),(.bool true)] fun w hM=>?_)))
  exact ⟨AX,cX,rfl,hM⟩
section
section
variable {P : Program} {Q : Exit → Act → World → Prop} {n : Nat} {w0 : World} {F : List Nat} {E : Env} {cs : List Ch} {c : Code}
theorem stRounds (k:Nat) (h:St n w0 F E cs (Code.rounds P c Q k)):St n w0 F E cs ((Code.loop c).wp P Q):=fun a w ha hM=>wp_loop_rounds k (h a w ha hM)
theorem stRound {k:Nat} (h:St n w0 F E cs (c.wp P (Exit.then (Code.rounds P c Q k) Q))):St n w0 F E cs (Code.rounds P c Q (k+1)):=h
end
def tabMsg (its : List Bs) (n : Nat) : Bs := num 2 ++ (fpB its ++ tb8 (tabT its n))
def difMsg (offs needs : List Bs) : Bs := num 4 ++ ((num offs.length ++ offs.flatten) ++ (num needs.length ++ needs.flatten))
theorem tabMsg_len {its:List Bs} {n:Nat} (h:(tabT its n).enc.length≤200000):(tabMsg its n).length≤200100:=by
 have h1:=num_length 2 (by omega)
 have h2:=num_length (tabT its n).enc.length (by omega)
 have h3:(fpB its).length=32:=sha_len _
 unfold tabMsg tb8
 simp only [List.length_append]
 omega
theorem qflat32 {l:List Bs} (h:∀ x∈l,x.length=32):l.flatten.length=l.length*32:=by
 induction l with
 | nil=>rfl
 | cons x l ih =>
   have h1:=h x (by simp)
   have h2:=ih fun y hy=>h y (by simp [hy])
   simp only [List.flatten_cons,List.length_append,List.length_cons]
   omega
theorem difMsg_len {offs needs:List Bs} (h1:∀ x∈offs,x.length=32) (h2:∀ x∈needs,x.length=32) (h3:offs.length≤3072) (h4:needs.length≤3072):(difMsg offs needs).length≤200000:=by
 have a:=qflat32 h1
 have b:=qflat32 h2
 have c:=num_length 4 (by omega)
 have d:=num_length offs.length (by omega)
 have e:=num_length needs.length (by omega)
 unfold difMsg
 simp only [List.length_append]
 omega
theorem flat_take {l:List Bs} {i:Nat} {x:Bs} (h:l[i]?=some x):(l.take (i+1)).flatten=(l.take i).flatten++x:=by
 rw [List.take_add_one,h,Option.toList_some,List.flatten_append]
 simp
theorem flat_take_le {l:List Bs} (i:Nat):(l.take i).flatten.length≤l.flatten.length:=by
 conv=>rhs; rw [← List.take_append_drop i l,List.flatten_append,List.length_append]
 omega
theorem isT_self {t:BT} (h:t.seed=0):isT t t.cells.length 0=true:=by simp [isT,h]
theorem diffA_some {its:List Bs} {t:BT} {print:Bs} {offs needs:List Bs} (h:diffA its t print=some (offs,needs)):((tabT its t.cells.length).sub t).keys=some (offs,needs)∧agreesB its needs offs=true∧setE (otherL its offs needs)=0∧fpB (otherL its offs needs)=print:=by
 unfold diffA at h
 split at h
 ·cases h
 ·rename_i o n hk
  split at h
  ·rename_i hc
   simp only [Bool.and_eq_true,decide_eq_true_eq] at hc
   injection h with h
   injection h with e1 e2
   subst e1 e2
   exact ⟨hk,hc.1.1,hc.1.2,hc.2⟩
  ·cases h
theorem qAccSketch (bs:Nat) (A:Option Addr) (c:Nat) (its:List (List UInt8)) (v1 v2:Value) (v3 v4:Value) (v5 v6:Value) (v7 v8:Value) (v9 v10:Value) (X:Option Addr × Nat) (br:Nat) (r:Rd) (ts:List BT) (k n:Nat) (w:World) (hO:Own [cAt bs 101 [(vL A its c),v1,v2,v3,v4,v5,v6,v7,v8,v9,v10],cRd X br (r)] w) (r0:Rf [cAt bs 101 [(vL A its c),v1,v2,v3,v4,v5,v6,v7,v8,v9,v10],cRd X br (r)] w (Vars)) (r1:Rf [cAt bs 101 [(vL A its c),v1,v2,v3,v4,v5,v6,v7,v8,v9,v10],cRd X br (r)] w (fun w=>RowIn w A (SS its))) (hts:rdSk r.rest.1=some ts) (hend:r.rest.2.end_=0) (hset:okSet its) (h40:its.length≤40) (hest:est ts (strata its)=k) (hk:k≤500) (hsz:blSize ((k+k / 2:Nat):Int)=(n:Int)) (hz:isSz (n:Int)=true) :
  Calls Tryz.prog 103 #[(vP bs 0),(vP br 0)] w fun e w'=>∃ (Am:Option Addr) (cm:Nat),e = .returned (.int .i64 0)∧Back [cAt bs 101 [(vL A its c),v1,v2,v3,v4,v5,v6,v7,v8,v9,v10],cRd X br (r)] w [cAt bs 101 [(vL A its c),v1,(.int .i64 1),(vI 2),(vL Am (tabMsg its n) cm),v5,v6,v7,v8,v9,v10],cRd X br (r.rest.2),cB Am (tabMsg its n) cm] w':=by
 refine sE2 Tryz.func103 103 (hO) ?_
 refine stSeq (reg (la ?_))
 refine liNil (qThen (stSeq ?_))
 have h32:=hset.1
 refine St.fact (fun w hM=>(hM.at (i:=1) (c:=cRd X br r) rfl).2.len) (fun hrl=>?_)
 have hrt:=r.text_le (r.D.length - r.off)
 refine reg (lm ?_)
 refine lm ?_
 refine li rfl (opK [1] _ (fun w hM hO=>(rsRLeft_any X br r w hO).mono ?_))
 rintro e w' ⟨rfl,hP⟩
 refine ⟨_,[_],_,rfl,hP,rfl,?_⟩; clear hP hM hO
 refine li rfl (opK [1] _ (fun w hM hO=>(rsRBytes_any X br r (r.D.length - r.off) w hO (by omega)).mono ?_))
 rintro e w' ⟨B20,cb20,rfl,hP⟩
 refine ⟨_,[_],_,rfl,hP,rfl,?_⟩; clear hP hM hO
 rw [show r.text (r.D.length - r.off)=r.rest from rfl]
 refine li rfl (opK0 (fun w hM=>(qRead B20 cb20 r.rest.1 w (hM.keep0 (j:=2) rfl (fun _ h=>RowIn.of_own h)) (by unfold Rd.rest; omega)).mono ?_))
 rintro e w' ⟨cl21,Xs21,ts21,rfl,hP,hs21,hcl21⟩
 refine ⟨_,_,rfl,hP,?_⟩; clear hP hM
 obtain ⟨rfl,rfl,hXl21⟩:=hs21 _ hts
 have hB21:(rdSk r.rest.1).isSome=true:=by rw [hts]; rfl
 refine lm ?_
 refine lc (.agg ((pcs Xs21)).toArray) ?_
 refine lc (.bool (rdSk r.rest.1).isSome) ?_
 refine li rfl (oAl [(.pointer none),(.pointer none),(.pointer none),(.pointer none),(.pointer none),(.pointer none),(.pointer none),(.pointer none),(.pointer none),(.pointer none),(.pointer none),(.pointer none)] fun b5=>?_)
 refine li rfl (opStoreN 4 (pcs Xs21) (vs:=(pcs Xs21)) rfl rfl (by kernel_rfl) rfl rfl rfl (by rw [pcs_len,hXl21]; kernel_rfl) rfl (by rw [pcs_len,hXl21]; decide) (pcs_one _) (by rw [List.take_zero,List.nil_append,pcs_len,hXl21]; simp) ?_)
 refine la ?_
 refine liNil (qThen (stSeq (stSeq ?_)))
 dsimp only [setAll,List.set,List.cons_append,List.nil_append]
 refine reg (lm ?_)
 refine li rfl (opK [1] _ (fun w hM hO=>(rsREnd_any X br r.rest.2 w hO).mono ?_))
 rintro e w' ⟨rfl,hP⟩
 refine ⟨_,[_],_,rfl,hP,rfl,?_⟩; clear hP hM hO
 refine lm ?_
 refine lc (vI r.rest.2.off) ?_
 refine lc (.int .i64 r.rest.2.end_) ?_
 refine la ?_
 refine la ?_
 refine liNil (qThen (stSeq (reg (lm ?_))))
 refine lc (.bool ((r.rest.2.end_:Int) != 0)) ?_
 refine lm ?_
 refine St.known 31 (b':=false) rfl (by rw [hend]; simp) ?_
 refine lgm ?_
 refine lgc (.bool (!(rdSk r.rest.1).isSome)) ?_
 refine lc (.bool (!(rdSk r.rest.1).isSome)) ?_
 refine liNil (qThen (stFalseK rfl (by rw [hB21]; rfl) ?_))
 refine stSkip (qThen (stSeq (anyBegin _ 20 (by kernel_rfl) (fun _ h=>h) ?_)))
 refine av 0 (.agg (pcs Xs21).toArray) rfl (rLoadA (pcs Xs21) rfl rfl (by kernel_rfl) (by rw [pcs_len,hXl21]; kernel_rfl) (segAt (i:=4) rfl (fun j v hj=>by rw [Nat.zero_add]; exact hj))) ?_
 refine am 1 ?_
 refine ac 2 (vP bs 0) ?_
 refine ac 3 (vP bs 0) ?_
 refine al 4 0 ?_
 refine am 7 ?_
 refine ac 8 (vP bs 0) ?_
 refine ac 9 (vP bs 0) ?_
 refine al 10 0 ?_
 refine ac 11 (vI its.length) ?_
 refine a1 5 ?_
 refine opK0 (fun w hM=>(qStrataOf A c its w (r0.go0 hM) (r1.go0 hM) (by assumption) (by omega)).mono ?_)
 rintro e w' ⟨Xs41,rfl,hP,hn41⟩
 refine ⟨_,_,rfl,hP,?_⟩; clear hP hM
 refine anyNext _ (fun _ h=>h.pick [0,1,2,3,4] rfl rfl) (fun _ h=>h) ?_
 refine a1 6 ?_
 refine opK0 (fun w hM=>(qEst Xs21 ts Xs41 (strata its) w (r0.go0 hM) (hM.keep0 (j:=3) rfl (fun _ h=>h)) (hM.keep0 (j:=5) rfl (fun _ h=>h)) ((rdSk_ok hts).2) ((rdSk_ok hts).1) (hXl21) (strata_ok h32) (strata_len its) (hn41)).mono ?_)
 rintro e w' ⟨rfl,hP⟩
 refine ⟨_,_,rfl,hP,?_⟩; clear hP hM
 dsimp only [setAll,List.set,List.cons_append,List.nil_append]
 refine anyNext _ (fun _ h=>h) (fun _ h=>h) ?_
 refine a1 12 ?_
 refine opK0 (fun w hM=>(qChoose_table (est ts (strata its)) its.length w (by rw [hest]; exact hk)).mono ?_)
 rintro e w' ⟨rfl,hP⟩
 refine ⟨_,_,rfl,hP,?_⟩; clear hP hM
 refine anyNext _ (fun _ h=>h) (fun _ h=>h) ?_
 refine am 13 ?_
 refine ac 14 (.int .i64 1) ?_
 refine ac 15 (.int .i64 (blSize (((est ts (strata its))+(est ts (strata its)) / 2:Nat):Int))) ?_
 refine ac 16 (.int .i64 0) ?_
 refine aa 17 ?_
 refine aa 18 ?_
 refine aa 19 ?_
 refine anyDone (by kernel_rfl) ?_
 refine qThen (stSeq (stSeq ?_))
 rw [show est ts (strata its)=k from hest]
 rw [hsz]
 refine reg (lm ?_)
 refine lc (.bool false) ?_
 refine liNil (qThen (stFalse rfl (stSkip (qThen (stSeq (stSeq (reg ?_)))))))
 refine lm ?_
 refine lc (.bool false) ?_
 refine liNil (qThen (stFalse rfl (stSkip (qThen (stSeq ?_)))))
 have hn9:n≤3072:=(isSz_bounds hz).2.1
 refine reg (lm ?_)
 refine lc (vP bs 0) ?_
 refine lc (vP bs 0) ?_
 refine ll 0 ?_
 refine lm ?_
 refine li rfl (opK0 (fun w hM=>(qTableOf A c its n w (r0.go0 hM) (r1.go0 hM) (by assumption) (by assumption) (by omega)).mono ?_))
 rintro e w' ⟨X65,rfl,hP⟩
 refine ⟨_,_,rfl,hP,?_⟩; clear hP hM
 refine lm ?_
 refine lc (vP X65.bt 0) ?_
 refine lc (.int .i64 0) ?_
 refine la ?_
 refine la ?_
 refine liNil (qThen (stSeq (stSeq (reg (lm ?_)))))
 refine lc (.bool false) ?_
 refine liNil (qThen (stFalse rfl (stSkip (qThen (stSeq (reg ?_))))))
 refine lm ?_
 refine lc (vP bs 0) ?_
 refine lc (vP bs 0) ?_
 refine ll 0 ?_
 refine li rfl (opK0 (fun w hM=>(rsFp_ok A c its w (r0.go0 hM) (r1.go0 hM) (by omega) (setE_ok (by omega) hset) (by omega)).mono ?_))
 rintro e w' ⟨rfl,hP⟩
 refine ⟨_,_,rfl,hP,?_⟩; clear hP hM
 refine lm ?_
 refine lc (vS (fpB its)) ?_
 refine lc (.int .i64 0) ?_
 refine la ?_
 refine la ?_
 refine liNil (qThen (stSeq (stSeq (reg (lm ?_)))))
 refine lc (.bool false) ?_
 refine liNil (qThen (stFalse rfl (stSkip (qThen (stSeq (reg (li rfl ?_)))))))
 refine opK0 (fun w hM=>(rsNewW_any  w ).mono ?_)
 rintro e w' ⟨bw82,rfl,hP⟩
 refine ⟨_,_,rfl,hP,?_⟩; clear hP hM
 refine la ?_
 refine liNil (qThen (stSeq ?_))
 dsimp only [setAll,List.set,List.cons_append,List.nil_append]
 refine St.mem (fun w hM=>hM.nilOwn 5 1) ?_
 dsimp only [setAll,List.set,List.cons_append,List.nil_append]
 have hen:(tabT its n).enc.length≤200000:=encTo_len (tabT_ok h32 n) (by rw [tabT_len]; omega) _
 have hnu:=num_length (tabT its n).enc.length (by omega)
 have hfl:(fpB its).length=32:=sha_len _
 have hnn:=num_length 2 (by omega)
 refine reg (lm ?_)
 refine li rfl (opK [7,8] _ (fun w hM hO=>(rsWUint_any bw82 none 0 noB 2 w hO (by omega) (by decide)).mono ?_))
 rintro e w' ⟨A284,c284,rfl,hP⟩
 refine ⟨_,[_,_],_,rfl,hP,rfl,?_⟩; clear hP hM hO
 refine liNil (qThen (stSeq (reg (lm ?_))))
 refine lm ?_
 refine li rfl (opK [7,8] _ (fun w hM hO=>(rsWSum_any bw82 A284 c284 (noB++num 2) (fpB its) w hO (hfl) (by simp only [List.length_append,List.length_nil,noB] at *; omega)).mono ?_))
 rintro e w' ⟨A287,c287,rfl,hP⟩
 refine ⟨_,[_,_],_,rfl,hP,rfl,?_⟩; clear hP hM hO
 refine liNil (qThen (stSeq (reg (lm ?_))))
 refine lm ?_
 refine li rfl (opK0 (fun w hM=>(qEncode X65 (tabT its n) w (hM.keep0 (j:=6) rfl (fun _ h=>h))).mono ?_))
 rintro e w' ⟨A90,c90,rfl,hP⟩
 refine ⟨_,_,rfl,hP,?_⟩; clear hP hM
 refine li rfl (opK [7,8] _ (fun w hM hO=>(qWBytes bw82 A287 c287 ((noB++num 2)++(fpB its)) A90 c90 ((tabT its n).enc) w hO (hM.keepS [7,8] (j:=9) rfl (fun _ h=>RowIn.of_own h)) (by omega) (by simp only [List.length_append,List.length_nil,noB] at *; omega)).mono ?_))
 rintro e w' ⟨A291,c291,rfl,hP⟩
 refine ⟨_,[_,_],_,rfl,hP,rfl,?_⟩; clear hP hM hO
 rw [show ((noB++num 2)++(fpB its))++num ((tabT its n).enc).length++((tabT its n).enc)=tabMsg its n from by simp [tabMsg,tb8,noB]]
 refine liNil (qThen (stSeq ?_))
 dsimp only [setAll,List.set,List.cons_append,List.nil_append]
 refine reg (lm ?_)
 refine li rfl (opK [7,8] _ (fun w hM hO=>(rsDone_ok bw82 A291 c291 (tabMsg its n) w hO (by have h9:=tabMsg_len (its:=its) (n:=n) hen; omega)).mono ?_))
 rintro e w' ⟨A294,c294,rfl,hP⟩
 refine ⟨_,[_,_],_,rfl,hP,rfl,?_⟩; clear hP hM hO
 refine lm ?_
 refine lc (vL A294 (tabMsg its n) c294) ?_
 refine lc (.int .i64 0) ?_
 refine la ?_
 refine la ?_
 refine liNil (qThen (stSeq (stSeq (reg (lm ?_)))))
 refine lc (.bool false) ?_
 refine liNil (qThen (stFalse rfl (stSkip (qThen (stSeq (reg ?_))))))
 refine lm ?_
 refine lm ?_
 refine li rfl (opK [0] _ (fun w hM hO=>(qSend bs (vL A its c) v1 v2 v3 v4 v5 v6 v7 v8 v9 v10 2 A294 ((tabMsg its n).length) c294 w hO).mono ?_))
 rintro e w' ⟨rfl,hP⟩
 refine ⟨_,[_],_,rfl,hP,rfl,?_⟩; clear hP hM hO
 refine liNil (qThen (stSeq (reg (la ?_))))
 refine liNil (qThen (stRet (sN [(.int .i64 0)] fun w hM=>?_)))
 exact ⟨A294,c294,rfl,(hM.pick [0,1,10] rfl rfl)⟩
theorem qDifference (bs:Nat) (A:Option Addr) (c:Nat) (its:List (List UInt8)) (v1 v2:Value) (v3 v4:Value) (v5 v6:Value) (v7 v8:Value) (v9 v10:Value) (X:TX) (t:BT) (print:List UInt8) (offs needs:List (List UInt8)) (w:World) (r0:Rf [] w (Vars)) (r1:Rf [] w (fun w=>At w bs 101 [(vL A its c),v1,v2,v3,v4,v5,v6,v7,v8,v9,v10])) (r2:Rf [] w (fun w=>RowIn w A (SS its))) (r3:Rf [] w (fun w=>(cT X t).holds w)) (hz:isSz (t.cells.length:Int)=true) (hs0:t.seed=0) (hset:okSet its) (h40:its.length≤40) (hsm:t.cells.length≤600) (hd:diffA its t print=some (offs,needs)) (hao:offs.Pairwise (· < ·)) :
  Calls Tryz.prog 149 #[(vP bs 0),(vP X.bt 0),(vS print)] w fun e w'=>∃ (Ao:Option Addr) (co:Nat) (An:Option Addr) (cn:Nat),e = .returned (.tuple #[(vL Ao offs co),(vL An needs cn),(.bool true)])∧Back [] w [cRw Ao (SS offs),cRw An (SS needs)] w':=by
 refine sE3 Tryz.func149 94 (Mm.start w []) ?_
 refine stSeq (reg (la ?_))
 refine la ?_
 refine la ?_
 refine liNil (qThen (stSeq ?_))
 have h32:=hset.1
 have hs:=hset.2
 obtain ⟨hk,hag,hse,hfp⟩:=diffA_some hd
 have hkl:=keys_le hk
 rw [sub_len (by rw [tabT_len]),tabT_len] at hkl
 refine anyBegin [] 12 (by kernel_rfl) (fun _ h=>h) ?_
 refine am 0 ?_
 refine ac 1 (vP bs 0) ?_
 refine ac 2 (vP bs 0) ?_
 refine av 3 _ rfl (rW (fun w hM=>At.cell (r1.now hM) 0)) ?_
 refine am 4 ?_
 refine a1 5 ?_
 refine opK0 (fun w hM=>(qCells X t w (r3.go0 hM)).mono ?_)
 rintro e w' ⟨rfl,hP⟩
 refine ⟨_,_,rfl,hP,?_⟩; clear hP hM
 refine anyNext _ (fun _ h=>h) (fun _ h=>h) ?_
 refine a1 6 ?_
 refine opK0 (fun w hM=>(qTableOf A c its t.cells.length w (r0.go0 hM) (r2.go0 hM) (by assumption) (by assumption) (by omega)).mono ?_)
 rintro e w' ⟨X25,rfl,hP⟩
 refine ⟨_,_,rfl,hP,?_⟩; clear hP hM
 refine anyNext _ (fun _ h=>h.pick [] rfl rfl) (fun _ h=>h) ?_
 refine am 7 ?_
 refine ac 8 (vP X25.bt 0) ?_
 refine ac 9 (.int .i64 0) ?_
 refine aa 10 ?_
 refine aa 11 ?_
 refine anyDone (by kernel_rfl) ?_
 refine qThen (stSeq (stSeq ?_))
 dsimp only [setAll,List.set,List.cons_append,List.nil_append]
 refine reg (lm ?_)
 refine lc (.bool false) ?_
 refine liNil (qThen (stFalse rfl (stSkip (qThen (stSeq (reg ?_))))))
 refine lm ?_
 refine lm ?_
 refine li rfl (opK0 (fun w hM=>(qSub_ok X25 (tabT its t.cells.length) X t w (hM.keep0 (j:=0) rfl (fun _ h=>h)) (r3.go0 hM) (by simp [tsame,tabT_len,tabT_seed,hs0])).mono ?_))
 rintro e w' ⟨Z33,rfl,hP⟩
 refine ⟨_,_,rfl,hP,?_⟩; clear hP hM
 refine lm ?_
 refine lc (vP Z33.bt 0) ?_
 refine lc (.int .i64 0) ?_
 refine la ?_
 refine la ?_
 refine liNil (qThen (stSeq (stSeq (reg (lm ?_)))))
 refine lc (.bool false) ?_
 refine liNil (qThen (stFalse rfl (stSkip (qThen (stSeq (reg ?_))))))
 refine lm ?_
 refine li rfl (opK0 (fun w hM=>(qKeys_some Z33 ((tabT its t.cells.length).sub t) offs needs w (r0.go0 hM) (hM.keep0 (j:=1) rfl (fun _ h=>h)) (by assumption)).mono ?_))
 rintro e w' ⟨A140,c140,A240,c240,rfl,hP⟩
 refine ⟨_,_,rfl,hP,?_⟩; clear hP hM
 refine lm ?_
 refine lc (vL A140 offs c140) ?_
 refine lc (vL A240 needs c240) ?_
 refine lc (.int .i64 0) ?_
 iterate 3 refine la ?_
 refine liNil (qThen (stSeq (stSeq (reg (lm ?_)))))
 refine lc (.bool false) ?_
 refine lm ?_
 iterate 3 refine lgm ?_
 refine liGo rfl rfl ?_
 refine opK0 (fun w hM=>(qAgrees bs A c its v1 v2 v3 v4 v5 v6 v7 v8 v9 v10 A240 c240 needs A140 c140 offs w (r1.go0 hM) (r2.go0 hM) (hM.keep0 (j:=3) rfl (fun _ h=>cRw_row h)) (hM.keep0 (j:=2) rfl (fun _ h=>cRw_row h)) (by assumption) (by omega) (by omega) (by omega)).mono ?_)
 rintro e w' ⟨rfl,hP⟩
 refine ⟨_,_,rfl,hP,?_⟩; clear hP hM
 refine lgc (.bool (!(agreesB its needs offs))) ?_
 refine lc (.bool (!(agreesB its needs offs))) ?_
 refine liNil (qThen (stFalseK rfl (by rw [hag]; rfl) ?_))
 refine stSkip (qThen (stSeq (reg (la ?_))))
 refine liNil (qThen (stSeq (stSeq (reg (lm ?_)))))
 refine lc (vP bs 0) ?_
 refine lc (vP bs 0) ?_
 refine lv (rW (fun w hM=>At.cell (r1.now hM) 0)) ?_
 refine lc (vI its.length) ?_
 refine lm ?_
 refine liNil (qThen (stBlock (St.mem (fun w hM=>hM.nilOwn 9 1) ?_)))
 refine sL (fun (i,B,cb)=>i≤its.length) (fun (i,B,cb)=>its.length - i) (fun (i,B,cb)=>[(2,(vS print)),(6,(vL A140 offs c140)),(7,(vL A240 needs c240)),(8,(.bool false)),(10,(.int .i64 0)),(56,(vL A its c)),(57,(vI its.length)),(12,(vL B (without (its.take i) offs) cb)),(58,(vI i))]) (fun (i,B,cb)=>[cT X25 (tabT its t.cells.length),cT Z33 ((tabT its t.cells.length).sub t),cRw A140 (SS offs),cRw A240 (SS needs),cS B (without (its.take i) offs) cb]) (0,none,0) (Nat.zero_le _) (fun _ h=>h) ?_
 rintro ⟨i,B,cb⟩ (hok:i≤its.length)
 dsimp only
 refine stSeq (reg (lc (.bool (decide (((i:Nat):Int) < ((its.length:Nat):Int)))) ?_))
 refine liNil (qThen (stSeq (stCond rfl (fun hc59=>?_) (fun hc59=>?_))))
 ·have hd59:=of_decide_eq_true hc59
  refine stSkip (qThen (stSeq (stBlock (stSeq (reg ?_)))))
  obtain ⟨x0,hx0⟩:∃ ξ,(its)[i]?=some ξ:=⟨_,List.getElem?_eq_getElem (by omega)⟩
  refine St.rowPtr (fun w hM=>r2.now hM) (SS_at hx0) (fun p60 q60 hA60 hc60=>?_)
  refine lv (v:=(vP p60 (q60+i))) (rR 9 hA60) ?_
  refine lv (rW hc60) ?_
  refine la ?_
  refine liNil (qThen (stSeq (reg (lm ?_))))
  refine lm ?_
  refine li rfl (opK0 (fun w hM=>(qBSearch A140 c140 offs x0 w (hM.keep0 (j:=2) rfl (fun _ h=>cRw_row h)) (by assumption) (by omega)).mono ?_))
  rintro e w' ⟨rfl,hP⟩
  refine ⟨_,_,rfl,hP,?_⟩; clear hP hM
  refine lm ?_
  refine lc (vI (posB offs x0)) ?_
  refine lc (.bool (offs.contains x0)) ?_
  refine la ?_
  refine la ?_
  refine liNil (qThen (stSeq (reg (lm ?_))))
  refine lc (.bool (!(offs.contains x0))) ?_
  refine liNil (qThen (stCond rfl (fun hc69=>?_) (fun hc69=>?_)))
  ·refine reg (lm ?_)
   refine lm ?_
   refine li rfl (oNw 1 9 [(vS x0)] fun b72=>?_)
   refine li rfl (opAppend el_strC 4 ([(vS x0)]) rfl rfl (by kernel_rfl) rfl rfl rfl (rfl) (srcAt (i:=5) rfl (fun j v h=>by rw [Nat.zero_add]; exact h)) (by simp [Value.oneCell']) (by have h:=without_len (its.take i) offs; simp only [List.length_take] at h; omega) ((without (its.take i) offs++[x0]).length) (by first | exact (List.length_append ..).symm | (simp; done) | (simp; omega)) (SS (without (its.take i) offs++[x0])) (by simp [SS]) (fun A73 c73=>?_))
   refine la ?_
   refine liNil (qBlock (qThen (reg ?_)))
   refine lv (v:=(vI (i+1))) rAd ?_
   refine lm ?_
   refine liNil (qThen ?_)
   rw [show without (its.take i) offs++[x0]=without (its.take (i+1)) offs from without_yes hx0 (by simpa using hc69)]
   exact sA (i+1,A73,c73) (by show _≤_; omega) (by show its.length - (i+1) < its.length - i; omega) (fun w hM=>(hM.pick [0,1,2,3,4] rfl rfl))
  ·refine stSkip (qBlock (qThen (reg ?_)))
   refine lv (v:=(vI (i+1))) rAd ?_
   refine lm ?_
   refine liNil (qThen ?_)
   rw [show without (its.take i) offs=without (its.take (i+1)) offs from without_no hx0 (by simpa using hc69)]
   exact sA (i+1,B,cb) (by show _≤_; omega) (by show its.length - (i+1) < its.length - i; omega) (fun w hM=>hM)
 ·have hd59:=of_decide_eq_false hc59
  obtain rfl:i=its.length:=by omega
  rw [List.take_length]
  have hwl:=without_len its offs
  refine stExit (qThenX (qThenX (qBlockX (qThen (stSeq (reg ?_))))))
  refine lm ?_
  refine lm ?_
  refine li rfl (opAppend el_strC 4 (SS needs) rfl rfl (by kernel_rfl) rfl rfl rfl (by simp) (fun w hM=>CellsAt.of_row (cRw_row (hM.at (i:=3) rfl))) (SS_one) (by omega) ((without its offs++needs).length) (by first | exact (List.length_append ..).symm | (simp; done) | (simp; omega)) (SS (without its offs++needs)) (by simp [SS]) (fun A77 c77=>?_))
  refine la ?_
  refine liNil (qThen (stSeq ?_))
  dsimp only [setAll,List.set,List.cons_append,List.nil_append]
  have hol:(without its offs++needs).length≤1000:=by rw [List.length_append]; omega
  refine reg (lm ?_)
  refine li rfl (opK [4] _ (fun w hM hO=>(qSort A77 c77 (without its offs++needs) w hO (by rw [List.length_append]; omega)).mono ?_))
  rintro e w' ⟨rfl,hP⟩
  refine ⟨_,[_],_,rfl,hP,rfl,?_⟩; clear hP hM hO
  refine liNil (qThen (stSeq ?_))
  rw [show (without its offs++needs).length=(otherL its offs needs).length from (qsortS_len _).symm]
  have hol2:(otherL its offs needs).length≤1000:=by unfold otherL; rw [qsortS_len]; exact hol
  refine reg (lm ?_)
  refine li rfl (opK0 (fun w hM=>(rsFp_ok A77 c77 (otherL its offs needs) w (r0.go0 hM) (hM.keep0 (j:=4) rfl (fun _ h=>cRw_row h)) (by omega) (by assumption) (by omega)).mono ?_))
  rintro e w' ⟨rfl,hP⟩
  refine ⟨_,_,rfl,hP,?_⟩; clear hP hM
  refine lm ?_
  refine lc (vS (fpB (otherL its offs needs))) ?_
  refine lc (.int .i64 0) ?_
  refine la ?_
  refine la ?_
  refine liNil (qThen (stSeq (reg (lm ?_))))
  refine lm ?_
  refine lm ?_
  refine lc (.bool true) ?_
  refine lm ?_
  refine lgm ?_
  refine lgm ?_
  refine lgv (v:=(.bool (decide ((fpB (otherL its offs needs))=print)))) (rStrEq rfl rfl rfl) ?_
  refine lc (.bool (decide ((fpB (otherL its offs needs))=print))) ?_
  iterate 3 refine la ?_
  refine liNil (qThen (stRet (sN [(vL A140 offs c140),(vL A240 needs c240),(.bool (decide ((fpB (otherL its offs needs))=print)))] fun w hM=>?_)))
  exact ⟨A140,c140,A240,c240,by rw [hfp]; simp; rfl,(hM.pick [2,3] rfl rfl)⟩
theorem qAccTable (bs:Nat) (A:Option Addr) (c:Nat) (its:List (List UInt8)) (v1 v2:Value) (v3 v4:Value) (v5 v6:Value) (v7 v8:Value) (v9 v10:Value) (X:Option Addr × Nat) (br:Nat) (r:Rd) (print:List UInt8) (q1:Rd) (t:BT) (offs needs:List (List UInt8)) (w:World) (hO:Own [cAt bs 101 [(vL A its c),v1,v2,v3,v4,v5,v6,v7,v8,v9,v10],cRd X br (r)] w) (r0:Rf [cAt bs 101 [(vL A its c),v1,v2,v3,v4,v5,v6,v7,v8,v9,v10],cRd X br (r)] w (Vars)) (r1:Rf [cAt bs 101 [(vL A its c),v1,v2,v3,v4,v5,v6,v7,v8,v9,v10],cRd X br (r)] w (fun w=>RowIn w A (SS its))) (hp:r.sum=(print,q1)) (htd:decd q1.rest.1=some t) (hend:q1.rest.2.end_=0) (hs0:t.seed=0) (hset:okSet its) (h40:its.length≤40) (hsm:t.cells.length≤600) (hd:diffA its t print=some (offs,needs)) (hao:offs.Pairwise (· < ·)) (h32o:∀ x∈offs,x.length=32) (h32n:∀ x∈needs,x.length=32) :
  Calls Tryz.prog 104 #[(vP bs 0),(vP br 0)] w fun e w'=>∃ (Ao:Option Addr) (co:Nat) (An:Option Addr) (cn:Nat) (Am:Option Addr) (cm:Nat),e = .returned (.int .i64 0)∧Back [cAt bs 101 [(vL A its c),v1,v2,v3,v4,v5,v6,v7,v8,v9,v10],cRd X br (r)] w [cAt bs 101 [(vL A its c),v1,(.int .i64 1),(vI 4),(vL Am (difMsg offs needs) cm),v5,(.bool true),v7,(.bool true),(vL An needs cn),(vL Ao offs co)],cRd X br (q1.rest.2),cRw Ao (SS offs),cRw An (SS needs),cB Am (difMsg offs needs) cm] w':=by
 refine sE2 Tryz.func104 100 (hO) ?_
 refine stSeq (reg (la ?_))
 refine liNil (qThen (stSeq ?_))
 have h32:=hset.1
 refine reg (lm ?_)
 refine li rfl (opK [1] _ (fun w hM hO=>(rsRSum_any X br r w hO).mono ?_))
 rintro e w' ⟨rfl,hP⟩
 refine ⟨_,[_],_,rfl,hP,rfl,?_⟩; clear hP hM hO
 refine la ?_
 refine liNil (qThen (stSeq ?_))
 rw [show r.sum.1=print from by rw [hp]]
 rw [show r.sum.2=q1 from by rw [hp]]
 refine St.fact (fun w hM=>(hM.at (i:=1) (c:=cRd X br q1) rfl).2.len) (fun hrl=>?_)
 have hrt:=q1.text_le (q1.D.length - q1.off)
 refine reg (lm ?_)
 refine lm ?_
 refine li rfl (opK [1] _ (fun w hM hO=>(rsRLeft_any X br q1 w hO).mono ?_))
 rintro e w' ⟨rfl,hP⟩
 refine ⟨_,[_],_,rfl,hP,rfl,?_⟩; clear hP hM hO
 refine li rfl (opK [1] _ (fun w hM hO=>(rsRBytes_any X br q1 (q1.D.length - q1.off) w hO (by omega)).mono ?_))
 rintro e w' ⟨B25,cb25,rfl,hP⟩
 refine ⟨_,[_],_,rfl,hP,rfl,?_⟩; clear hP hM hO
 rw [show q1.text (q1.D.length - q1.off)=q1.rest from rfl]
 refine li rfl (opK0 (fun w hM=>(qDec_some B25 cb25 q1.rest.1 t w (hM.keep0 (j:=2) rfl (fun _ h=>RowIn.of_own h)) (by unfold Rd.rest; omega) (by assumption)).mono ?_))
 rintro e w' ⟨X26,rfl,hP⟩
 refine ⟨_,_,rfl,hP,?_⟩; clear hP hM
 have hz:=(decd_enc htd).2
 refine lm ?_
 refine lc (vP X26.bt 0) ?_
 refine lc (.int .i64 0) ?_
 refine la ?_
 refine la ?_
 refine liNil (qThen (stSeq (stSeq ?_)))
 dsimp only [setAll,List.set,List.cons_append,List.nil_append]
 refine reg (lm ?_)
 refine li rfl (opK [1] _ (fun w hM hO=>(rsREnd_any X br q1.rest.2 w hO).mono ?_))
 rintro e w' ⟨rfl,hP⟩
 refine ⟨_,[_],_,rfl,hP,rfl,?_⟩; clear hP hM hO
 refine lm ?_
 refine lc (vI q1.rest.2.off) ?_
 refine lc (.int .i64 q1.rest.2.end_) ?_
 refine la ?_
 refine la ?_
 refine liNil (qThen (stSeq (reg (lm ?_))))
 refine lc (.bool ((q1.rest.2.end_:Int) != 0)) ?_
 refine lm ?_
 refine St.known 36 (b':=false) rfl (by rw [hend]; simp) ?_
 refine lgm ?_
 refine lgc (.bool false) ?_
 refine lc (.bool false) ?_
 refine lm ?_
 refine lgm ?_
 refine lgm ?_
 refine liGo rfl rfl ?_
 refine opK0 (fun w hM=>(qCells X26 t w (hM.keep0 (j:=3) rfl (fun _ h=>h))).mono ?_)
 rintro e w' ⟨rfl,hP⟩
 refine ⟨_,_,rfl,hP,?_⟩; clear hP hM
 refine liGo rfl rfl ?_
 refine opK0 (fun w hM=>(qIsT X26 t t.cells.length 0 w (hM.keep0 (j:=3) rfl (fun _ h=>h)) (hz) (by unfold U64; decide)).mono ?_)
 rintro e w' ⟨rfl,hP⟩
 refine ⟨_,_,rfl,hP,?_⟩; clear hP hM
 refine lgc (.bool (!(isT t t.cells.length 0))) ?_
 refine lc (.bool (!(isT t t.cells.length 0))) ?_
 refine liNil (qThen (stFalseK rfl (by rw [isT_self hs0]; rfl) ?_))
 refine stSkip (qThen (stSeq (reg (lm ?_))))
 refine lm ?_
 refine lm ?_
 refine li rfl (opK0 (fun w hM=>(qDifference bs A c its v1 v2 v3 v4 v5 v6 v7 v8 v9 v10 X26 t print offs needs w (r0.go0 hM) (hM.keep0 (j:=0) rfl (fun _ h=>h)) (r1.go0 hM) (hM.keep0 (j:=3) rfl (fun _ h=>h)) (by assumption) (by assumption) (by assumption) (by assumption) (by assumption) (by assumption) (by assumption)).mono ?_))
 rintro e w' ⟨Ao51,co51,An51,cn51,rfl,hP⟩
 refine ⟨_,_,rfl,hP,?_⟩; clear hP hM
 refine lm ?_
 refine lc (vL Ao51 offs co51) ?_
 refine lc (vL An51 needs cn51) ?_
 refine lc (.bool true) ?_
 iterate 3 refine la ?_
 refine liNil (qThen (stSeq (stSeq ?_)))
 dsimp only [setAll,List.set,List.cons_append,List.nil_append]
 refine reg (lm ?_)
 refine lc (.bool false) ?_
 refine liNil (qThen (stFalse rfl (stSkip (qThen (stSeq (reg (li rfl ?_)))))))
 refine opK0 (fun w hM=>(rsNewW_any  w ).mono ?_)
 rintro e w' ⟨bw59,rfl,hP⟩
 refine ⟨_,_,rfl,hP,?_⟩; clear hP hM
 refine la ?_
 refine liNil (qThen (stSeq (St.mem (fun w hM=>hM.nilOwn 5 1) ?_)))
 dsimp only [setAll,List.set,List.cons_append,List.nil_append]
 obtain ⟨hk,hag,hse,hfp⟩:=diffA_some hd
 have hkl:=keys_le hk
 rw [sub_len (by rw [tabT_len]),tabT_len] at hkl
 have hn4:=num_length 4 (by omega)
 have hno:=num_length offs.length (by omega)
 have hnn:=num_length needs.length (by omega)
 have hfo:=qflat32 h32o
 have hfn:=qflat32 h32n
 refine reg (lm ?_)
 refine li rfl (opK [6,7] _ (fun w hM hO=>(rsWUint_any bw59 none 0 noB 4 w hO (by omega) (by decide)).mono ?_))
 rintro e w' ⟨A261,c261,rfl,hP⟩
 refine ⟨_,[_,_],_,rfl,hP,rfl,?_⟩; clear hP hM hO
 refine liNil (qThen (stSeq (stSeq (reg (lm ?_)))))
 refine lm ?_
 refine li rfl (oNw 2 22 [(vL Ao51 offs co51),(vL An51 needs cn51)] fun b64=>?_)
 refine lc (vI 2) ?_
 refine lm ?_
 refine liNil (qThen (stBlock (stRounds 3 ?_)))
 refine stRound ?_
 refine stSeq (reg (lc (.bool true) ?_))
 refine liNil (qThen (stSeq (stTrue rfl (stSkip (qThen (stSeq (stBlock (stSeq (reg ?_)))))))))
 refine lc (vP b64 0) ?_
 refine ll 8 ?_
 refine la ?_
 refine liNil (qThen (stSeq (reg (lm ?_))))
 refine lm ?_
 refine lc (vI offs.length) ?_
 refine li rfl (opK [6,7] _ (fun w hM hO=>(rsWCount_any bw59 A261 c261 (noB++num 4) offs.length w hO (by omega) (by simp only [List.length_append,List.length_nil,noB] at *; omega)).mono ?_))
 rintro e w' ⟨A273,c273,rfl,hP⟩
 refine ⟨_,[_,_],_,rfl,hP,rfl,?_⟩; clear hP hM hO
 refine liNil (qThen (stSeq (reg (lm ?_))))
 refine lc (vI offs.length) ?_
 refine lm ?_
 refine liNil (qThen (stBlock (sL (fun (i,AX,cX)=>i≤offs.length) (fun (i,AX,cX)=>offs.length - i) (fun (i,AX,cX)=>[(0,(vP bs 0)),(4,(.int .i64 0)),(7,(.int .i64 0)),(10,(vL Ao51 offs co51)),(11,(vL An51 needs cn51)),(13,(vP bw59 0)),(15,(vL Ao51 offs co51)),(64,(.slice (some ⟨b64,0,none⟩) (2) (2))),(65,(vI 2)),(66,(.int .i64 0)),(67,(.bool true)),(68,(vP b64 0)),(69,(vL Ao51 offs co51)),(70,(vP bw59 0)),(71,(vL Ao51 offs co51)),(72,(vI offs.length)),(74,(vL Ao51 offs co51)),(75,(vI offs.length)),(76,(vI i))]) (fun (i,AX,cX)=>[cAt bs 101 [(vL A its c),v1,v2,v3,v4,v5,v6,v7,v8,v9,v10],cRd X br (q1.rest.2),cB B25 (q1.rest.1) cb25,cT X26 t,cRw Ao51 (SS offs),cRw An51 (SS needs),cAt bw59 180 [(vL AX (((noB++num 4)++num offs.length)++(offs.take i).flatten) cX),(.int .i64 0)],cB AX (((noB++num 4)++num offs.length)++(offs.take i).flatten) cX,cAt b64 22 [(vL Ao51 offs co51),(vL An51 needs cn51)]]) (0,A273,c273) (Nat.zero_le _) (fun w hM=>by show Mm _ _ [cAt bs 101 [(vL A its c),v1,v2,v3,v4,v5,v6,v7,v8,v9,v10],cRd X br (q1.rest.2),cB B25 (q1.rest.1) cb25,cT X26 t,cRw Ao51 (SS offs),cRw An51 (SS needs),cAt bw59 180 [(vL A273 (((noB++num 4)++num offs.length)++(offs.take 0).flatten) c273),(.int .i64 0)],cB A273 (((noB++num 4)++num offs.length)++(offs.take 0).flatten) c273,cAt b64 22 [(vL Ao51 offs co51),(vL An51 needs cn51)]] w; rw [show ((noB++num 4)++num offs.length)++(offs.take 0).flatten=(noB++num 4)++num offs.length from by simp]; exact hM) ?_)))
 rintro ⟨i,AX,cX⟩ (hok:i≤offs.length)
 dsimp only
 refine stSeq (reg (lc (.bool (decide (((i:Nat):Int) < ((offs.length:Nat):Int)))) ?_))
 refine liNil (qThen (stSeq (stCond rfl (fun hc77=>?_) (fun hc77=>?_))))
 ·have hd77:=of_decide_eq_true hc77
  have hlt:i < offs.length:=by omega
  have hft:=flat_take_le (l:=offs) i
  refine stSkip (qThen (stSeq (stBlock (stSeq (reg ?_)))))
  obtain ⟨x0,hx0⟩:∃ ξ,(offs)[i]?=some ξ:=⟨_,List.getElem?_eq_getElem (by omega)⟩
  refine St.rowPtr (fun w hM=>cRw_row (hM.at (i:=4) rfl)) (SS_at hx0) (fun p78 q78 hA78 hc78=>?_)
  refine lv (v:=(vP p78 (q78+i))) (rR 9 hA78) ?_
  refine lv (rW hc78) ?_
  refine la ?_
  refine liNil (qThen (reg (lm ?_)))
  refine lm ?_
  refine li rfl (opK [6,7] _ (fun w hM hO=>(rsWSum_any bw59 AX cX (((noB++num 4)++num offs.length)++(offs.take i).flatten) x0 w hO (h32o _ (List.mem_of_getElem? hx0)) (by simp only [List.length_append,List.length_nil,noB] at *; omega)).mono ?_))
  rintro e w' ⟨A282,c282,rfl,hP⟩
  refine ⟨_,[_,_],_,rfl,hP,rfl,?_⟩; clear hP hM hO
  refine liNil (qBlock (qThen (reg ?_)))
  refine lv (v:=(vI (i+1))) rAd ?_
  refine lm ?_
  refine liNil (qThen ?_)
  rw [show (((noB++num 4)++num offs.length)++(offs.take i).flatten)++x0=((noB++num 4)++num offs.length)++(offs.take (i+1)).flatten from by rw [List.append_assoc,← flat_take hx0]]
  exact sA (i+1,A282,c282) (by show _≤_; omega) (by show offs.length - (i+1) < offs.length - i; omega) (fun w hM=>hM)
 ·have hd77:=of_decide_eq_false hc77
  obtain rfl:i=offs.length:=by omega
  rw [List.take_length]
  refine stExit (qThenX (qThenX (qBlockX (qBlock (qThen (reg ?_))))))
  refine lc (.int .i64 1) ?_
  refine lm ?_
  refine liNil (qThen (stRound ?_))
  refine stSeq (reg (lc (.bool true) ?_))
  refine liNil (qThen (stSeq (stTrue rfl (stSkip (qThen (stSeq (stBlock (stSeq (reg ?_)))))))))
  refine lc (vP b64 1) ?_
  refine ll 8 ?_
  refine la ?_
  refine liNil (qThen (stSeq (reg (lm ?_))))
  refine lm ?_
  refine lc (vI needs.length) ?_
  refine li rfl (opK [6,7] _ (fun w hM hO=>(rsWCount_any bw59 AX cX (((noB++num 4)++num offs.length)++offs.flatten) needs.length w hO (by omega) (by simp only [List.length_append,List.length_nil,noB] at *; omega)).mono ?_))
  rintro e w' ⟨A273,c273,rfl,hP⟩
  refine ⟨_,[_,_],_,rfl,hP,rfl,?_⟩; clear hP hM hO
  refine liNil (qThen (stSeq (reg (lm ?_))))
  refine lc (vI needs.length) ?_
  refine lm ?_
  refine liNil (qThen (stBlock (sL (fun (i,AX,cX)=>i≤needs.length) (fun (i,AX,cX)=>needs.length - i) (fun (i,AX,cX)=>[(0,(vP bs 0)),(4,(.int .i64 0)),(7,(.int .i64 0)),(10,(vL Ao51 offs co51)),(11,(vL An51 needs cn51)),(13,(vP bw59 0)),(15,(vL An51 needs cn51)),(64,(.slice (some ⟨b64,0,none⟩) (2) (2))),(65,(vI 2)),(66,(.int .i64 1)),(67,(.bool true)),(68,(vP b64 1)),(69,(vL An51 needs cn51)),(70,(vP bw59 0)),(71,(vL An51 needs cn51)),(72,(vI needs.length)),(74,(vL An51 needs cn51)),(75,(vI needs.length)),(84,(.int .i64 1)),(76,(vI i))]) (fun (i,AX,cX)=>[cAt bs 101 [(vL A its c),v1,v2,v3,v4,v5,v6,v7,v8,v9,v10],cRd X br (q1.rest.2),cB B25 (q1.rest.1) cb25,cT X26 t,cRw Ao51 (SS offs),cRw An51 (SS needs),cAt bw59 180 [(vL AX (((((noB++num 4)++num offs.length)++offs.flatten)++num needs.length)++(needs.take i).flatten) cX),(.int .i64 0)],cB AX (((((noB++num 4)++num offs.length)++offs.flatten)++num needs.length)++(needs.take i).flatten) cX,cAt b64 22 [(vL Ao51 offs co51),(vL An51 needs cn51)]]) (0,A273,c273) (Nat.zero_le _) (fun w hM=>by show Mm _ _ [cAt bs 101 [(vL A its c),v1,v2,v3,v4,v5,v6,v7,v8,v9,v10],cRd X br (q1.rest.2),cB B25 (q1.rest.1) cb25,cT X26 t,cRw Ao51 (SS offs),cRw An51 (SS needs),cAt bw59 180 [(vL A273 (((((noB++num 4)++num offs.length)++offs.flatten)++num needs.length)++(needs.take 0).flatten) c273),(.int .i64 0)],cB A273 (((((noB++num 4)++num offs.length)++offs.flatten)++num needs.length)++(needs.take 0).flatten) c273,cAt b64 22 [(vL Ao51 offs co51),(vL An51 needs cn51)]] w; rw [show ((((noB++num 4)++num offs.length)++offs.flatten)++num needs.length)++(needs.take 0).flatten=(((noB++num 4)++num offs.length)++offs.flatten)++num needs.length from by simp]; exact hM) ?_)))
  rintro ⟨i,AX,cX⟩ (hok:i≤needs.length)
  dsimp only
  refine stSeq (reg (lc (.bool (decide (((i:Nat):Int) < ((needs.length:Nat):Int)))) ?_))
  refine liNil (qThen (stSeq (stCond rfl (fun hc77=>?_) (fun hc77=>?_))))
  ·have hd77:=of_decide_eq_true hc77
   have hlt:i < needs.length:=by omega
   have hft:=flat_take_le (l:=needs) i
   refine stSkip (qThen (stSeq (stBlock (stSeq (reg ?_)))))
   obtain ⟨x0,hx0⟩:∃ ξ,(needs)[i]?=some ξ:=⟨_,List.getElem?_eq_getElem (by omega)⟩
   refine St.rowPtr (fun w hM=>cRw_row (hM.at (i:=5) rfl)) (SS_at hx0) (fun p78 q78 hA78 hc78=>?_)
   refine lv (v:=(vP p78 (q78+i))) (rR 9 hA78) ?_
   refine lv (rW hc78) ?_
   refine la ?_
   refine liNil (qThen (reg (lm ?_)))
   refine lm ?_
   refine li rfl (opK [6,7] _ (fun w hM hO=>(rsWSum_any bw59 AX cX (((((noB++num 4)++num offs.length)++offs.flatten)++num needs.length)++(needs.take i).flatten) x0 w hO (h32n _ (List.mem_of_getElem? hx0)) (by simp only [List.length_append,List.length_nil,noB] at *; omega)).mono ?_))
   rintro e w' ⟨A282,c282,rfl,hP⟩
   refine ⟨_,[_,_],_,rfl,hP,rfl,?_⟩; clear hP hM hO
   refine liNil (qBlock (qThen (reg ?_)))
   refine lv (v:=(vI (i+1))) rAd ?_
   refine lm ?_
   refine liNil (qThen ?_)
   rw [show (((((noB++num 4)++num offs.length)++offs.flatten)++num needs.length)++(needs.take i).flatten)++x0=((((noB++num 4)++num offs.length)++offs.flatten)++num needs.length)++(needs.take (i+1)).flatten from by rw [List.append_assoc,← flat_take hx0]]
   exact sA (i+1,A282,c282) (by show _≤_; omega) (by show needs.length - (i+1) < needs.length - i; omega) (fun w hM=>hM)
  ·have hd77:=of_decide_eq_false hc77
   obtain rfl:i=needs.length:=by omega
   rw [List.take_length]
   refine stExit (qThenX (qThenX (qBlockX (qBlock (qThen (reg ?_))))))
   refine lc (.int .i64 2) ?_
   refine lm ?_
   refine liNil (qThen (stRound ?_))
   refine stSeq (reg (lc (.bool false) ?_))
   refine liNil (qThen (stSeq (stFalse rfl (stExit (qThenX (qThenX (qBlockX (qThen (stSeq ?_)))))))))
   rw [show ((((noB++num 4)++num offs.length)++offs.flatten)++num needs.length)++needs.flatten=difMsg offs needs from by simp [difMsg,noB]]
   have hdl:=difMsg_len h32o h32n (by omega) (by omega)
   refine reg (lm ?_)
   refine li rfl (opK [6,7] _ (fun w hM hO=>(rsDone_ok bw59 AX cX (difMsg offs needs) w hO (by omega)).mono ?_))
   rintro e w' ⟨A287,c287,rfl,hP⟩
   refine ⟨_,[_,_],_,rfl,hP,rfl,?_⟩; clear hP hM hO
   refine lm ?_
   refine lc (vL A287 (difMsg offs needs) c287) ?_
   refine lc (.int .i64 0) ?_
   refine la ?_
   refine la ?_
   refine liNil (qThen (stSeq (stSeq (reg (lm ?_)))))
   refine lc (.bool false) ?_
   refine liNil (qThen (stFalse rfl (stSkip (qThen (stSeq (reg ?_))))))
   iterate 3 refine lm ?_
   refine li rfl (opK [0] _ (fun w hM hO=>(qSettle bs (vL A its c) v1 v2 v3 v4 v5 v6 v7 v8 v9 v10 An51 needs.length cn51 Ao51 offs.length co51 w hO).mono ?_))
   rintro e w' ⟨rfl,hP⟩
   refine ⟨_,[_],_,rfl,hP,rfl,?_⟩; clear hP hM hO
   refine liNil (qThen (stSeq (reg (lm ?_))))
   refine lm ?_
   refine li rfl (opK [0] _ (fun w hM hO=>(qSend bs (vL A its c) v1 v2 v3 v4 v5 (.bool true) v7 (.bool true) (vL An51 needs cn51) (vL Ao51 offs co51) 4 A287 ((difMsg offs needs).length) c287 w hO).mono ?_))
   rintro e w' ⟨rfl,hP⟩
   refine ⟨_,[_],_,rfl,hP,rfl,?_⟩; clear hP hM hO
   refine liNil (qThen (stSeq ?_))
   dsimp only [setAll,List.set,List.cons_append,List.nil_append]
   refine reg (la ?_)
   refine liNil (qThen (stRet (sN [(.int .i64 0)] fun w hM=>?_)))
   exact ⟨Ao51,co51,An51,cn51,A287,c287,rfl,(hM.pick [0,1,4,5,9] rfl rfl)⟩
theorem qAccDiff (bs:Nat) (A:Option Addr) (c:Nat) (its:List (List UInt8)) (v1 v2:Value) (v3 v4:Value) (v5 v6:Value) (v7 v8:Value) (v9 v10:Value) (X:Option Addr × Nat) (br:Nat) (r q1 q2:Rd) (offs needs:List (List UInt8)) (w:World) (hO:Own [cAt bs 101 [(vL A its c),v1,v2,v3,v4,v5,v6,v7,v8,v9,v10],cRd X br (r)] w) (r0:Rf [cAt bs 101 [(vL A its c),v1,v2,v3,v4,v5,v6,v7,v8,v9,v10],cRd X br (r)] w (fun w=>RowIn w A (SS its))) (hi1:r.items 16384=(needs,q1)) (hi2:q1.items 16384=(offs,q2)) (hend:q2.end_=0) (han:needs.Pairwise (· < ·)) (hao:offs.Pairwise (· < ·)) (hag:agreesB its needs offs=true) (hs:its.Pairwise (· < ·)) (hn:its.length≤68719476736) :
  Calls Tryz.prog 106 #[(vP bs 0),(vP br 0)] w fun e w'=>∃ (An:Option Addr) (cn:Nat) (Ao:Option Addr) (co:Nat),e = .returned (.int .i64 0)∧Back [cAt bs 101 [(vL A its c),v1,v2,v3,v4,v5,v6,v7,v8,v9,v10],cRd X br (r)] w [cAt bs 101 [(vL A its c),v1,(.int .i64 0),v3,v4,v5,(.bool true),v7,(.bool true),(vL An needs cn),(vL Ao offs co)],cRd X br (q2),cS An needs cn,cS Ao offs co] w':=by
 refine sE2 Tryz.func106 47 (hO) ?_
 refine stSeq (reg (la ?_))
 refine liNil (qThen (stSeq (reg (lm ?_))))
 refine li rfl (opK [1] _ (fun w hM hO=>(qReadItems X br r w hO (by rw [hi1]; exact han)).mono ?_))
 rintro e w' ⟨B12,cb12,rfl,hP⟩
 refine ⟨_,[_],_,rfl,hP,rfl,?_⟩; clear hP hM hO
 rw [show (r.items 16384).1=needs from by rw [hi1]]
 rw [show (r.items 16384).2=q1 from by rw [hi1]]
 refine lm ?_
 refine lc (vL B12 needs cb12) ?_
 refine lc (.bool true) ?_
 refine la ?_
 refine la ?_
 refine liNil (qThen (stSeq (stSeq (reg (lm ?_)))))
 refine lc (.bool false) ?_
 refine liNil (qThen (stFalse rfl (stSkip (qThen (stSeq (reg ?_))))))
 refine lm ?_
 refine li rfl (opK [1] _ (fun w hM hO=>(qReadItems X br q1 w hO (by rw [hi2]; exact hao)).mono ?_))
 rintro e w' ⟨B19,cb19,rfl,hP⟩
 refine ⟨_,[_],_,rfl,hP,rfl,?_⟩; clear hP hM hO
 rw [show (q1.items 16384).1=offs from by rw [hi2]]
 rw [show (q1.items 16384).2=q2 from by rw [hi2]]
 have hnl:needs.length≤16384:=by have h:=r.items_len 16384; rw [hi1] at h; exact h
 have hol:offs.length≤16384:=by have h:=q1.items_len 16384; rw [hi2] at h; exact h
 refine lm ?_
 refine lc (vL B19 offs cb19) ?_
 refine lc (.bool true) ?_
 refine la ?_
 refine la ?_
 refine liNil (qThen (stSeq (stSeq (reg (lm ?_)))))
 refine li rfl (opK [1] _ (fun w hM hO=>(rsREnd_any X br q2 w hO).mono ?_))
 rintro e w' ⟨rfl,hP⟩
 refine ⟨_,[_],_,rfl,hP,rfl,?_⟩; clear hP hM hO
 refine lm ?_
 refine lc (vI q2.off) ?_
 refine lc (.int .i64 q2.end_) ?_
 refine la ?_
 refine la ?_
 refine liNil (qThen (stSeq (reg (lm ?_))))
 refine lc (.bool ((q2.end_:Int) != 0)) ?_
 refine lm ?_
 refine St.known 29 (b':=false) rfl (by rw [hend]; simp) ?_
 refine lgm ?_
 refine lgc (.bool false) ?_
 refine lc (.bool false) ?_
 refine lm ?_
 iterate 3 refine lgm ?_
 refine liGo rfl rfl ?_
 refine opK0 (fun w hM=>(qAgrees bs A c its v1 v2 v3 v4 v5 v6 v7 v8 v9 v10 B12 cb12 needs B19 cb19 offs w (hM.keep0 (j:=0) rfl (fun _ h=>h)) (r0.go0 hM) (hM.keep0 (j:=2) rfl (fun _ h=>RowIn.of_own h)) (hM.keep0 (j:=3) rfl (fun _ h=>RowIn.of_own h)) (by assumption) (by omega) (by omega) (by omega)).mono ?_)
 rintro e w' ⟨rfl,hP⟩
 refine ⟨_,_,rfl,hP,?_⟩; clear hP hM
 refine lgc (.bool (!(agreesB its needs offs))) ?_
 refine lc (.bool (!(agreesB its needs offs))) ?_
 refine liNil (qThen (stFalseK rfl (by rw [hag]; rfl) ?_))
 refine stSkip (qThen (stSeq ?_))
 dsimp only [setAll,List.set,List.cons_append,List.nil_append]
 refine reg (lm ?_)
 refine lm ?_
 refine lm ?_
 refine li rfl (opK [0] _ (fun w hM hO=>(qSettle bs (vL A its c) v1 v2 v3 v4 v5 v6 v7 v8 v9 v10 B12 needs.length cb12 B19 offs.length cb19 w hO).mono ?_))
 rintro e w' ⟨rfl,hP⟩
 refine ⟨_,[_],_,rfl,hP,rfl,?_⟩; clear hP hM hO
 refine liNil (qThen (stSeq (reg (lm ?_))))
 refine lc (vP bs 0) ?_
 refine lc (vP bs 2) ?_
 refine li rfl (oS1 0 ?_)
 refine liNil (qThen (stSeq (reg (la ?_))))
 refine liNil (qThen (stRet (sN [(.int .i64 0)] fun w hM=>?_)))
 exact ⟨B12,cb12,B19,cb19,rfl,hM⟩
end
section
open Go.Maps (Keyed)
open Go.ChangeMaps (setBlock)
open Go.MapKept (Stamped)
section
variable {α β : Type} [DecidableEq α]
def kvGet (kv : List (α × β)) (a : α) : Option β := (kv.find? fun p => decide (p.1 = a)).map (·.2)
def kvPut (kv : List (α × β)) (a : α) (v : β) : List (α × β) := if (kvGet kv a).isSome then kv.map (fun p => if p.1 = a then (a, v) else p) else kv ++ [(a, v)]
def kvKeys (kv : List (α × β)) : List α := kv.map (·.1)
theorem kvGet_none {kv:List (α × β)} {a:α} (h:a∉kvKeys kv):kvGet kv a=none:=by
 unfold kvGet
 rw [List.find?_eq_none.2]
 ·rfl
 ·intro p hp e
  exact h (List.mem_map.2 ⟨p,hp,by simpa using e⟩)
theorem kvGet_at {kv:List (α × β)} {a:α} {v:β} {j:Nat} (hn:(kvKeys kv).Nodup) (hj:kv[j]?=some (a,v)):kvGet kv a=some v:=by
 induction kv generalizing j with
 | nil=>simp at hj
 | cons p kv ih =>
   unfold kvGet
   rw [List.find?_cons]
   by_cases hp:p.1=a
   ·rw [show (decide (p.1=a))=true by simpa using hp]
    cases j with
    | zero=>simp at hj; rw [hj]; rfl
    | succ j =>
      exfalso
      simp only [List.getElem?_cons_succ] at hj
      have:a∈kvKeys kv:=List.mem_map.2 ⟨(a,v),List.mem_of_getElem? hj,rfl⟩
      unfold kvKeys at hn this
      rw [List.map_cons,List.nodup_cons] at hn
      exact hn.1 (hp▸this)
   ·rw [show (decide (p.1=a))=false by simpa using hp]
    cases j with
    | zero=>simp at hj; rw [hj] at hp; exact (hp rfl).elim
    | succ j =>
      unfold kvKeys at hn
      rw [List.map_cons,List.nodup_cons] at hn
      exact ih hn.2 (by simpa using hj)
theorem kvPut_new {kv:List (α × β)} {a:α} {v:β} (h:a∉kvKeys kv):kvPut kv a v=kv++[(a,v)]:=by unfold kvPut; rw [kvGet_none h]; rfl
theorem kvPut_at {kv:List (α × β)} {a:α} {u v:β} {j:Nat} (hn:(kvKeys kv).Nodup) (hj:kv[j]?=some (a,u)):kvPut kv a v=kv.set j (a,v):=by
 unfold kvPut
 rw [kvGet_at hn hj]
 show kv.map _=_
 apply List.ext_getElem?
 intro i
 rw [List.getElem?_map,List.getElem?_set]
 by_cases hij:j=i
 ·subst hij
  rw [if_pos rfl,if_pos (List.getElem?_eq_some_iff.1 hj).1,hj]
  simp
 ·rw [if_neg hij]
  cases hi:kv[i]? with
  | none=>rfl
  | some p =>
    simp only [Option.map_some]
    by_cases hp:p.1=a
    ·exfalso
     have e1:(kvKeys kv)[i]?=some a:=by unfold kvKeys; rw [List.getElem?_map,hi]; simp [hp]
     have e2:(kvKeys kv)[j]?=some a:=by unfold kvKeys; rw [List.getElem?_map,hj]; rfl
     obtain ⟨li,f1⟩:=List.getElem?_eq_some_iff.1 e1
     obtain ⟨lj,f2⟩:=List.getElem?_eq_some_iff.1 e2
     exact hij ((List.getElem_inj hn).1 (f2.trans f1.symm))
    ·rw [if_neg hp]
end
/-! ### Maps in memory -/
/-- How the keys of a type are told. -/
structure Kd (P : Program) (k : TypeId) (α : Type) where
 keyed : Keyed P k
 enc : α → Value
 lit : α → Lit
 ok : α → Prop
 key : ∀ a, ok a → keyOf P k (enc a) = some (lit a)
 inj : ∀ a b, ok a → ok b → enc a = enc b → a = b
section
variable {P : Program} {k : TypeId} {α β : Type} (D : Kd P k α) (val : β → Value)
def MapAt (w : World) (b : Nat) (kv : List (α × β)) : Prop :=
 ∃ es clock, w.heap[b]? = some (.map es clock) ∧ Stamped es clock ∧ es.toList.map (fun e => (e.key, e.val)) = kv.map (fun p => (D.enc p.1, val p.2)) ∧ ∀ p ∈ kv, D.ok p.1
variable {D : Kd P k α} {val : β → Value} {w : World} {b : Nat} {kv : List (α × β)}
theorem MapAt.lt (h:MapAt D val w b kv):b < w.heap.size:=by
 obtain ⟨es,clock,h1,_⟩:=h
 exact (Array.getElem?_eq_some_iff.1 h1).1
theorem MapAt.new (w:World):MapAt D val (w.alloc (.map #[] 0)) w.heap.size ([]:List (α × β)):=⟨#[],0,by show (w.heap.push _)[w.heap.size]?=_; simp,MapKept.stamped_empty 0,by simp,by simp⟩
theorem MapAt.entry {es:Array MapEntry} (he:es.toList.map (fun e=>(e.key,e.val))=kv.map (fun p=>(D.enc p.1,val p.2))) (j:Nat) {e:MapEntry} (h:es.toList[j]?=some e):∃ p,kv[j]?=some p∧D.enc p.1=e.key∧val p.2=e.val:=by
 have h1:(es.toList.map (fun e=>(e.key,e.val)))[j]?=some (e.key,e.val):=by rw [List.getElem?_map,h]; rfl
 rw [he,List.getElem?_map] at h1
 obtain ⟨p,hp,e1⟩:=Option.map_eq_some_iff.1 h1
 injection e1 with e2 e3
 exact ⟨p,hp,e2,e3⟩
theorem MapAt.keysOf {es:Array MapEntry} (he:es.toList.map (fun e=>(e.key,e.val))=kv.map (fun p=>(D.enc p.1,val p.2))) (hok:∀ p∈kv,D.ok p.1):∀ x∈es.toList,∃ l,keyOf P k x.key=some l:=by
 intro x hx
 obtain ⟨j,hj,e⟩:=List.mem_iff_getElem.1 hx
 obtain ⟨p,hp,h1,_⟩:=MapAt.entry he j (e▸List.getElem?_eq_getElem hj)
 exact ⟨_,h1▸D.key p.1 (hok p (List.mem_of_getElem? hp))⟩
theorem MapAt.nodup (h:MapAt D val w b kv):(kvKeys kv).Nodup:=by
 obtain ⟨es,clock,_,hs,he,hok⟩:=h
 have h1:(es.toList.map (·.key)).Nodup:=hs.2.2
 have h2:es.toList.map (·.key)=(kvKeys kv).map D.enc:=by
  have:=congrArg (List.map Prod.fst) he
  rw [List.map_map,List.map_map] at this
  unfold kvKeys
  rw [List.map_map]
  exact this
 rw [h2] at h1
 unfold List.Nodup at h1 ⊢
 rw [List.pairwise_map] at h1
 exact h1.imp fun {a b} hne e=>hne (by rw [e])
theorem MapAt.find {es:Array MapEntry} {a:α} (ha:D.ok a) (he:es.toList.map (fun e=>(e.key,e.val))=kv.map (fun p=>(D.enc p.1,val p.2))) (hok:∀ p∈kv,D.ok p.1) (W:World) :
  ((Instr.findKey k (D.enc a) es.toList).run P W = .ok none W∧a∉kvKeys kv∧∀ e∈es.toList,e.key≠D.enc a) ∨
  ∃ j e p,(Instr.findKey k (D.enc a) es.toList).run P W = .ok (some (j,val p.2)) W∧es.toList[j]?=some e∧e.key=D.enc a∧kv[j]?=some p∧p.1=a:=by
 rcases D.keyed.find W (D.key a ha) es.toList (MapAt.keysOf he hok) with ⟨h1,h2⟩ | ⟨j,e,h1,h2,h3⟩
 ·refine .inl ⟨h1,fun hm=>?_,h2⟩
  obtain ⟨p,hp,rfl⟩:=List.mem_map.1 hm
  obtain ⟨j,hj,e1⟩:=List.mem_iff_getElem.1 hp
  have hl:es.toList.length=kv.length:=by have:=congrArg List.length he; simpa using this
  have hj':j < es.toList.length:=by omega
  obtain ⟨p',hp',h4,_⟩:=MapAt.entry he j (List.getElem?_eq_getElem hj')
  rw [List.getElem?_eq_getElem hj,e1] at hp'
  cases hp'
  exact h2 _ (List.getElem_mem hj') h4.symm
 ·obtain ⟨p,hp,h4,h5⟩:=MapAt.entry he j h2
  exact .inr ⟨j,e,p,by rw [h1,h5],h2,h3,hp,D.inj _ _ (hok p (List.mem_of_getElem? hp)) ha (h4.trans h3)⟩
variable {t e : TypeId} [DecidableEq α]
theorem MapAt.lookup (h:MapAt D val w b kv) (ht:P.underlying t=some (.map k e)) {z:Value} (hz:∀ w,(zeroValue e).run P w = .ok z w) {a:α} (ha:D.ok a) (ok:Bool) :
  (Instr.lookup t (.map (some b)) (D.enc a) ok).run P w = .ok (if ok then .tuple #[((kvGet kv a).map val).getD z,.bool (kvGet kv a).isSome] else ((kvGet kv a).map val).getD z) w:=by
 have hn:=h.nodup
 obtain ⟨es,clock,hb,hs,he,hok⟩:=h
 unfold Instr.lookup
 simp only [Sem.run_bind,run_underlying ht,Result.andThen_ok,MapKept.run_getObj_map hb,Sem.run_pure,D.keyed.check w _ (D.key a ha)]
 rcases MapAt.find ha he hok w with ⟨h1,h2,_⟩ | ⟨j,x,p,h1,h2,h3,h4,h5⟩
 ·simp only [h1,Result.andThen_ok,kvGet_none h2,Sem.run_bind,hz,Sem.run_pure]
  cases ok <;> rfl
 ·obtain ⟨a',v⟩:=p
  cases h5
  simp only [h1,Result.andThen_ok,kvGet_at hn h4]
  cases ok <;> rfl
theorem fr_setBlock (w:World) (b:Nat) (o:Obj):Fr [b] w (setBlock w b o):=⟨rfl,rfl,rfl,by simp [setBlock],fun k _ hn=>by simp only [setBlock]; rw [Array.getElem?_setIfInBounds_ne (by intro e; exact hn (by simp [e]))]⟩
theorem MapAt.put (h:MapAt D val w b kv) (ht:P.underlying t=some (.map k e)) {a:α} (ha:D.ok a) (v:β) :
  ∃ w',(Instr.mapUpdate t (.map (some b)) (D.enc a) (val v)).run P w = .ok () w'∧Fr [b] w w'∧MapAt D val w' b (kvPut kv a v):=by
 have hn:=h.nodup
 obtain ⟨es,clock,hb,hs,he,hok⟩:=h
 have hlt:=(Array.getElem?_eq_some_iff.1 hb).1
 have hset:∀ o,(setBlock w b o).heap[b]?=some o:=fun o=>by simp [setBlock,hlt]
 rcases MapAt.find ha he hok w with ⟨h1,h2,h3⟩ | ⟨j,x,p,h1,h2,h3,h4,h5⟩
 ·refine ⟨setBlock w b (.map (es.push ⟨D.enc a,val v,clock⟩) (clock+1)),?_,fr_setBlock _ _ _,_,_,hset _,MapKept.stamped_push hs h3,?_,?_⟩
  ·simp [Instr.mapUpdate,run_underlying ht,MapKept.run_getObj_map hb,D.keyed.check w false (D.key a ha),h1,MapKept.run_setObj_map _ hb,Result.andThen,setBlock]
  ·rw [kvPut_new h2,Array.toList_push,List.map_append,List.map_append,he]
   rfl
  ·rw [kvPut_new h2]
   intro p hp
   rcases List.mem_append.1 hp with hp | hp
   ·exact hok p hp
   ·rw [List.mem_singleton] at hp
    subst hp
    exact ha
 ·obtain ⟨a',u⟩:=p
  cases h5
  have hj:es[j]?=some x:=by simpa using h2
  have hjl:j < es.toList.length:=(List.getElem?_eq_some_iff.1 h2).1
  have hkeyf:∀ e',es[j]?=some e'→({ e' with key:=D.enc a',val:=val v }:MapEntry).key=e'.key:=fun e' he'=>by rw [hj] at he'; cases he'; exact h3.symm
  refine ⟨setBlock w b (.map (es.modify j (fun e'=>{ e' with key:=D.enc a',val:=val v })) clock),?_,fr_setBlock _ _ _,_,_,hset _,MapKept.stamped_modify hs _ _ (fun _ _=>rfl) (fun e' _ he'=>hkeyf e' he'),?_,?_⟩
  ·simp [Instr.mapUpdate,run_underlying ht,MapKept.run_getObj_map hb,D.keyed.check w false (D.key a' ha),h1,hj,h3,D.keyed.stays w (D.key a' ha),MapKept.run_setObj_map _ hb,Result.andThen,setBlock]
  ·rw [kvPut_at hn h4,Array.toList_modify,ChangeMaps.modify_eq_set _ _ _ _ h2,List.map_set,he,List.map_set]
  ·rw [kvPut_at hn h4]
   intro p hp
   rcases List.mem_or_eq_of_mem_set hp with hp | rfl
   ·exact hok p hp
   ·exact ha
end
def cMap {P : Program} {k : TypeId} {α β : Type} (D : Kd P k α) (val : β → Value) (b : Nat) (kv : List (α × β)) : Ch where
 fp := [b]
 holds w := MapAt D val w b kv
 ok w w' hb h := by
  obtain ⟨es, clock, h1, h2⟩ := h
  exact ⟨es, clock, (hb b (by simp)).trans h1, h2⟩
 lt w h c hc := by
  rw [List.mem_singleton] at hc
  subst hc
  exact h.lt
section
variable {P : Program} {k : TypeId} {α β : Type} {D : Kd P k α} {val : β → Value} {b : Nat} {kv : List (α × β)}
variable {Q : Exit → Act → World → Prop} {n : Nat} {w0 : World} {F : List Nat} {E : Env} {cs : List Ch} {X K : Act → World → Prop} {o : Oper} {d : Nat} {t e : TypeId}
theorem opMakeMapK (D:Kd P k α) (val:β→Value) (ho:o.op = .makeMap t none) (hd:o.dst=some d) (hk:opOk n E o=true) (h:∀ b,St n w0 F ((d,.map (some b))::E) (cs++[cMap D val b ([]:List (α × β))]) K):OpW P Q n w0 F E cs o K :=
 opEff hd hk fun w hM=>by
  refine ⟨.map (some w.heap.size),w.alloc (.map #[] 0),_,?_,hM.push (c:=cMap D val w.heap.size []) ((Fr.refl _ _).alloc _) (MapAt.new w) (by simp [cMap]) (by simp [cMap]),h _⟩
  unfold execOp
  simp only [ho,Option.map_none,Sem.run_bind,run_makeMap,Result.andThen_ok]
  rfl
variable [DecidableEq α]
theorem rMapGetOk {x y:Operand} {a:α} {z:Value} (i:Nat) (ho:o.op = .lookup t x y true) (hx:evO E x=some (.map (some b))) (hy:evO E y=some (D.enc a)) (ht:P.underlying t=some (.map k e)) (hz:∀ w,(zeroValue e).run P w = .ok z w) (hi:cs[i]?=some (cMap D val b kv)) (ha:D.ok a):RunV P w0 F cs E o (.tuple #[((kvGet kv a).map val).getD z,.bool (kvGet kv a).isSome]):=fun w hM=>by
 have h:MapAt D val w b kv:=hM.at hi
 unfold execOp
 simp only [ho,evE_of hx,evE_of hy,Sem.run_bind,h.lookup ht hz ha true]
 rfl
end
def kInt (P : Program) (k : TypeId) (q : IntKind) (hk : P.underlying k = some (.int q)) (m : Nat) (hm : ∀ a : Nat, a < m → (Lit.int q (a : Int)).wf = true) : Kd P k Nat where
 keyed := Maps.int_keyed hk
 enc a := .int q (a : Int)
 lit a := .int q (a : Int)
 ok a := a < m
 key a ha := Maps.keyOf_int_mk hk (hm a ha)
 inj a b _ _ h := by injection h with _ h; omega
end
section
noncomputable def kSt : Kd Tryz.prog 99 Nat := kInt Tryz.prog 99 .i64 Tryz.underlying99 100 (fun a h => by simp [Lit.wf, IntKind.min, IntKind.max, IntKind.bits, IntKind.signed]; omega)
section
variable {P : Program} {Q : Exit → Act → World → Prop} {k : TypeId} {α β : Type} {D : Kd P k α} {val : β → Value} {b : Nat} {kv : List (α × β)} {n : Nat} {w0 : World} {F : List Nat} {E : Env} {cs : List Ch} {K : Act → World → Prop} {o : Oper} {t e : TypeId} [DecidableEq α]
theorem opMapIns {x y v:Operand} {a:α} {u:β} (i:Nat) (kv':List (α × β)) (ho:o.op = .insert t x y v) (hd:o.dst=none) (hk:opOk n E o=true) (hx:evO E x=some (.map (some b))) (hy:evO E y=some (D.enc a)) (hv:evO E v=some (val u)) (ht:P.underlying t=some (.map k e)) (hi:cs[i]?=some (cMap D val b kv)) (ha:D.ok a) (hkv:kvPut kv a u=kv')
  (h:St n w0 F E (cs.set i (cMap D val b kv')) K):OpW P Q n w0 F E cs o K :=
 opSkip hd hk fun w hM=>by
  subst hkv
  have hs:MapAt D val w b kv:=hM.at hi
  obtain ⟨w',hrun,hf,hm⟩:=hs.put ht ha u
  refine ⟨w',_,?_,hM.swap i hi (c':=cMap D val b (kvPut kv a u)) hf hm (fun c hc=>.inl hc) (by simp [cMap]),h⟩
  unfold execOp
  simp only [ho,evE_of hx,evE_of hy,evE_of hv,Sem.run_bind,hrun]
  rfl
end
theorem hrBound {P:Program} {E:Env} {o:Oper} {f:FuncId} {x y:Operand} {r u:Value} {t:Array TypeId} (ho:o.op = .call { callee:=.value x,args:=#[y],argTypes:=t }) (hx:evO E x=some (.func (.func f) #[r] #[])) (hy:evO E y=some u) (eg:∀ args w,(callFunc f args).run P w = .ok (.enter f args) w):∀ w,(execOp (evE E) o).run P w = .ok (.enter f #[r,u]) w:=fun w=>by
 unfold execOp
 simp only [ho,resolve,evE_of hx,Deferred.ofValue,Sem.run_bind,Sem.run_pure,Result.andThen_ok,invoke,List.map_toArray,List.map_cons,List.map_nil,evE_of hy]
 simpa using eg #[r,u] w
theorem qAccept1 (bs:Nat) (A:Option Addr) (c:Nat) (its:List (List UInt8)) (v2 v3:Value) (v4 v6:Value) (v7 v8:Value) (v9 v10:Value) (AD:Option Addr) (cD:Nat) (Dm:List UInt8) (q0:Rd) (ts:List BT) (k n:Nat) (w:World) (hO:Own [cAt bs 101 [(vL A its c),(.bool false),v2,v3,v4,(.bool false),v6,v7,v8,v9,v10]] w) (r0:Rf [cAt bs 101 [(vL A its c),(.bool false),v2,v3,v4,(.bool false),v6,v7,v8,v9,v10]] w (Vars)) (r1:Rf [cAt bs 101 [(vL A its c),(.bool false),v2,v3,v4,(.bool false),v6,v7,v8,v9,v10]] w (fun w=>RowIn w A (SS its))) (r2:Rf [cAt bs 101 [(vL A its c),(.bool false),v2,v3,v4,(.bool false),v6,v7,v8,v9,v10]] w (fun w=>RowIn w AD (B8 Dm))) (hDl:Dm.length≤4294967296) (hu:(Rd.mk Dm 0 0 0).uint=(1,q0)) (hts:rdSk q0.rest.1=some ts) (hend:q0.rest.2.end_=0) (hset:okSet its) (h40:its.length≤40) (hest:est ts (strata its)=k) (hk:k≤500) (hsz:blSize ((k+k / 2:Nat):Int)=(n:Int)) (hz:isSz (n:Int)=true) :
  Calls Tryz.prog 58 #[(vP bs 0),(vL AD Dm cD)] w fun e w'=>∃ (Am:Option Addr) (cm:Nat),e = .returned (.int .i64 0)∧Back [cAt bs 101 [(vL A its c),(.bool false),v2,v3,v4,(.bool false),v6,v7,v8,v9,v10]] w [cAt bs 101 [(vL A its c),(.bool false),(.int .i64 1),(vI 2),(vL Am (tabMsg its n) cm),(.bool true),v6,v7,v8,v9,v10],cB Am (tabMsg its n) cm] w':=by
 refine sE2 Tryz.func58 95 (hO) ?_
 refine stSeq (reg (la ?_))
 refine liNil (qThen (stSeq (reg (lm ?_))))
 refine li rfl (opK0 (fun w hM=>(rsRNew_any AD cD Dm w (r2.go0 hM) (hDl)).mono ?_))
 rintro e w' ⟨X10,br10,rfl,hP⟩
 refine ⟨_,_,rfl,hP,?_⟩; clear hP hM
 refine la ?_
 refine liNil (qThen (stSeq (reg (la ?_))))
 refine liNil (qThen (stSeq (stSeq (reg (lm ?_)))))
 refine li rfl (opK [1] _ (fun w hM hO=>(rsRUint_any X10 br10 (Rd.mk Dm 0 0 0) w hO).mono ?_))
 rintro e w' ⟨rfl,hP⟩
 refine ⟨_,[_],_,rfl,hP,rfl,?_⟩; clear hP hM hO
 refine liNil (qThen (stBlock (stSeq ?_)))
 rw [show (Rd.mk Dm 0 0 0).uint.1=1 from by rw [hu]]
 rw [show (Rd.mk Dm 0 0 0).uint.2=q0 from by rw [hu]]
 refine reg (lc (.bool true) ?_)
 refine la ?_
 refine liNil (qThen (stTrue rfl (stSeq (reg ?_))))
 refine lm ?_
 refine lc (vP bs 0) ?_
 refine lc (vP bs 1) ?_
 refine ll 0 ?_
 refine lc (.bool true) ?_
 refine lm ?_
 refine lgm ?_
 refine lgc (vP bs 0) ?_
 refine lgc (vP bs 5) ?_
 refine lgv (v:=(.bool false)) (rLoad 0 rfl rfl (by kernel_rfl) rfl rfl) ?_
 refine lgc (.bool true) ?_
 refine lc (.bool true) ?_
 refine liNil (qThen (stTrue rfl (reg ?_)))
 refine lm ?_
 refine lm ?_
 refine li rfl (opK [0,1] _ (fun w hM hO=>(qAccSketch bs A c its (.bool false) v2 v3 v4 (.bool false) v6 v7 v8 v9 v10 X10 br10 q0 ts k n w hO (r0.goS hM [0,1]) (r1.goS hM [0,1]) (hts) (hend) (hset) (h40) (hest) (hk) (hsz) (hz)).mono ?_))
 rintro e w' ⟨Am29,cm29,rfl,hP⟩
 refine ⟨_,[_,_],_,rfl,hP,rfl,?_⟩; clear hP hM hO
 refine la ?_
 refine liNil (qBlock (qThen (stSeq (stSeq (reg ?_)))))
 refine lm ?_
 refine lc (.bool true) ?_
 refine liNil (qThen (stTrue rfl (reg ?_)))
 refine lm ?_
 refine lc (vP bs 0) ?_
 refine lc (vP bs 5) ?_
 refine li rfl (oS1 0 ?_)
 refine liNil (qThen (stSeq ?_))
 dsimp only [setAll,List.set,List.cons_append,List.nil_append]
 refine reg (lm ?_)
 refine la ?_
 refine liNil (qThen (stRet (sN [(.int .i64 0)] fun w hM=>?_)))
 exact ⟨Am29,cm29,rfl,(hM.pick [0,2] rfl rfl)⟩
theorem qAccept2 (bs:Nat) (A:Option Addr) (c:Nat) (its:List (List UInt8)) (v1 v2:Value) (v4 v6:Value) (v7 v8:Value) (v9 v10:Value) (AD:Option Addr) (cD:Nat) (Dm:List UInt8) (q0:Rd) (print:List UInt8) (q1:Rd) (t:BT) (offs needs:List (List UInt8)) (w:World) (hO:Own [cAt bs 101 [(vL A its c),v1,v2,(vI 1),v4,(.bool false),v6,v7,v8,v9,v10]] w) (r0:Rf [cAt bs 101 [(vL A its c),v1,v2,(vI 1),v4,(.bool false),v6,v7,v8,v9,v10]] w (Vars)) (r1:Rf [cAt bs 101 [(vL A its c),v1,v2,(vI 1),v4,(.bool false),v6,v7,v8,v9,v10]] w (fun w=>RowIn w A (SS its))) (r2:Rf [cAt bs 101 [(vL A its c),v1,v2,(vI 1),v4,(.bool false),v6,v7,v8,v9,v10]] w (fun w=>RowIn w AD (B8 Dm))) (hDl:Dm.length≤4294967296) (hu:(Rd.mk Dm 0 0 0).uint=(2,q0)) (hp:q0.sum=(print,q1)) (htd:decd q1.rest.1=some t) (hend:q1.rest.2.end_=0) (hs0:t.seed=0) (hset:okSet its) (h40:its.length≤40) (hsm:t.cells.length≤600) (hd:diffA its t print=some (offs,needs)) (hao:offs.Pairwise (· < ·)) (h32o:∀ x∈offs,x.length=32) (h32n:∀ x∈needs,x.length=32) :
  Calls Tryz.prog 58 #[(vP bs 0),(vL AD Dm cD)] w fun e w'=>∃ (Ao:Option Addr) (co:Nat) (An:Option Addr) (cn:Nat) (Am:Option Addr) (cm:Nat),e = .returned (.int .i64 0)∧Back [cAt bs 101 [(vL A its c),v1,v2,(vI 1),v4,(.bool false),v6,v7,v8,v9,v10]] w [cAt bs 101 [(vL A its c),v1,(.int .i64 1),(vI 4),(vL Am (difMsg offs needs) cm),(.bool true),(.bool true),v7,(.bool true),(vL An needs cn),(vL Ao offs co)],cRw Ao (SS offs),cRw An (SS needs),cB Am (difMsg offs needs) cm] w':=by
 refine sE2 Tryz.func58 95 (hO) ?_
 refine stSeq (reg (la ?_))
 refine liNil (qThen (stSeq (reg (lm ?_))))
 refine li rfl (opK0 (fun w hM=>(rsRNew_any AD cD Dm w (r2.go0 hM) (hDl)).mono ?_))
 rintro e w' ⟨X10,br10,rfl,hP⟩
 refine ⟨_,_,rfl,hP,?_⟩; clear hP hM
 refine la ?_
 refine liNil (qThen (stSeq (reg (la ?_))))
 refine liNil (qThen (stSeq (stSeq (reg (lm ?_)))))
 refine li rfl (opK [1] _ (fun w hM hO=>(rsRUint_any X10 br10 (Rd.mk Dm 0 0 0) w hO).mono ?_))
 rintro e w' ⟨rfl,hP⟩
 refine ⟨_,[_],_,rfl,hP,rfl,?_⟩; clear hP hM hO
 refine liNil (qThen (stBlock (stSeq ?_)))
 rw [show (Rd.mk Dm 0 0 0).uint.1=2 from by rw [hu]]
 rw [show (Rd.mk Dm 0 0 0).uint.2=q0 from by rw [hu]]
 refine reg (lc (.bool false) ?_)
 refine la ?_
 refine liNil (qThen (stFalse rfl (stSeq (reg ?_))))
 refine lc (.bool true) ?_
 refine la ?_
 refine liNil (qThen (stTrue rfl (stSeq (reg ?_))))
 refine lm ?_
 refine lc (vP bs 0) ?_
 refine lc (vP bs 3) ?_
 refine ll 0 ?_
 refine lc (.bool true) ?_
 refine lm ?_
 refine lgm ?_
 refine lgc (vP bs 0) ?_
 refine lgc (vP bs 5) ?_
 refine lgv (v:=(.bool false)) (rLoad 0 rfl rfl (by kernel_rfl) rfl rfl) ?_
 refine lgc (.bool true) ?_
 refine lc (.bool true) ?_
 refine liNil (qThen (stTrue rfl (reg ?_)))
 refine lm ?_
 refine lm ?_
 refine li rfl (opK [0,1] _ (fun w hM hO=>(qAccTable bs A c its v1 v2 (vI 1) v4 (.bool false) v6 v7 v8 v9 v10 X10 br10 q0 print q1 t offs needs w hO (r0.goS hM [0,1]) (r1.goS hM [0,1]) (hp) (htd) (hend) (hs0) (hset) (h40) (hsm) (hd) (hao) (h32o) (h32n)).mono ?_))
 rintro e w' ⟨Ao46,co46,An46,cn46,Am46,cm46,rfl,hP⟩
 refine ⟨_,[_,_],_,rfl,hP,rfl,?_⟩; clear hP hM hO
 refine la ?_
 refine liNil (qBlock (qThen (stSeq (stSeq (reg ?_)))))
 refine lm ?_
 refine lc (.bool true) ?_
 refine liNil (qThen (stTrue rfl (reg ?_)))
 refine lm ?_
 refine lc (vP bs 0) ?_
 refine lc (vP bs 5) ?_
 refine li rfl (oS1 0 ?_)
 refine liNil (qThen (stSeq ?_))
 dsimp only [setAll,List.set,List.cons_append,List.nil_append]
 refine reg (lm ?_)
 refine la ?_
 refine liNil (qThen (stRet (sN [(.int .i64 0)] fun w hM=>?_)))
 exact ⟨Ao46,co46,An46,cn46,Am46,cm46,rfl,(hM.pick [0,2,3,4] rfl rfl)⟩
theorem qAccept4 (bs:Nat) (A:Option Addr) (c:Nat) (its:List (List UInt8)) (v1 v2:Value) (v4 v5:Value) (v6 v7:Value) (v8 v9 v10:Value) (AD:Option Addr) (cD:Nat) (Dm:List UInt8) (q0 q1 q2:Rd) (offs needs:List (List UInt8)) (w:World) (hO:Own [cAt bs 101 [(vL A its c),v1,v2,(vI 2),v4,v5,v6,v7,v8,v9,v10]] w) (r0:Rf [cAt bs 101 [(vL A its c),v1,v2,(vI 2),v4,v5,v6,v7,v8,v9,v10]] w (fun w=>RowIn w A (SS its))) (r1:Rf [cAt bs 101 [(vL A its c),v1,v2,(vI 2),v4,v5,v6,v7,v8,v9,v10]] w (fun w=>RowIn w AD (B8 Dm))) (hDl:Dm.length≤4294967296) (hu:(Rd.mk Dm 0 0 0).uint=(4,q0)) (hi1:q0.items 16384=(needs,q1)) (hi2:q1.items 16384=(offs,q2)) (hend:q2.end_=0) (han:needs.Pairwise (· < ·)) (hao:offs.Pairwise (· < ·)) (hag:agreesB its needs offs=true) (hs:its.Pairwise (· < ·)) (hn:its.length≤68719476736) :
  Calls Tryz.prog 58 #[(vP bs 0),(vL AD Dm cD)] w fun e w'=>∃ (An:Option Addr) (cn:Nat) (Ao:Option Addr) (co:Nat),e = .returned (.int .i64 0)∧Back [cAt bs 101 [(vL A its c),v1,v2,(vI 2),v4,v5,v6,v7,v8,v9,v10]] w [cAt bs 101 [(vL A its c),v1,(.int .i64 0),(vI 2),v4,(.bool true),(.bool true),v7,(.bool true),(vL An needs cn),(vL Ao offs co)],cS An needs cn,cS Ao offs co] w':=by
 refine sE2 Tryz.func58 95 (hO) ?_
 refine stSeq (reg (la ?_))
 refine liNil (qThen (stSeq (reg (lm ?_))))
 refine li rfl (opK0 (fun w hM=>(rsRNew_any AD cD Dm w (r1.go0 hM) (hDl)).mono ?_))
 rintro e w' ⟨X10,br10,rfl,hP⟩
 refine ⟨_,_,rfl,hP,?_⟩; clear hP hM
 refine la ?_
 refine liNil (qThen (stSeq (reg (la ?_))))
 refine liNil (qThen (stSeq (stSeq (reg (lm ?_)))))
 refine li rfl (opK [1] _ (fun w hM hO=>(rsRUint_any X10 br10 (Rd.mk Dm 0 0 0) w hO).mono ?_))
 rintro e w' ⟨rfl,hP⟩
 refine ⟨_,[_],_,rfl,hP,rfl,?_⟩; clear hP hM hO
 refine liNil (qThen (stBlock (stSeq ?_)))
 rw [show (Rd.mk Dm 0 0 0).uint.1=4 from by rw [hu]]
 rw [show (Rd.mk Dm 0 0 0).uint.2=q0 from by rw [hu]]
 refine reg (lc (.bool false) ?_)
 refine la ?_
 refine liNil (qThen (stFalse rfl (stSeq (reg ?_))))
 refine lc (.bool false) ?_
 refine la ?_
 refine liNil (qThen (stFalse rfl (stSeq (reg ?_))))
 refine lc (.bool false) ?_
 refine la ?_
 refine liNil (qThen (stFalse rfl (stSeq (reg ?_))))
 refine lc (.bool true) ?_
 refine la ?_
 refine liNil (qThen (stTrue rfl (stSeq (reg ?_))))
 refine lm ?_
 refine lc (vP bs 0) ?_
 refine lc (vP bs 3) ?_
 refine ll 0 ?_
 refine lc (.bool true) ?_
 refine liNil (qThen (stTrue rfl (reg ?_)))
 refine lm ?_
 refine lm ?_
 refine li rfl (opK [0,1] _ (fun w hM hO=>(qAccDiff bs A c its v1 v2 (vI 2) v4 v5 v6 v7 v8 v9 v10 X10 br10 q0 q1 q2 offs needs w hO (r0.goS hM [0,1]) (hi1) (hi2) (hend) (han) (hao) (hag) (hs) (hn)).mono ?_))
 rintro e w' ⟨An66,cn66,Ao66,co66,rfl,hP⟩
 refine ⟨_,[_,_],_,rfl,hP,rfl,?_⟩; clear hP hM hO
 refine la ?_
 refine liNil (qBlock (qThen (stSeq (stSeq (reg ?_)))))
 refine lm ?_
 refine lc (.bool true) ?_
 refine liNil (qThen (stTrue rfl (reg ?_)))
 refine lm ?_
 refine lc (vP bs 0) ?_
 refine lc (vP bs 5) ?_
 refine li rfl (oS1 0 ?_)
 refine liNil (qThen (stSeq ?_))
 dsimp only [setAll,List.set,List.cons_append,List.nil_append]
 refine reg (lm ?_)
 refine la ?_
 refine liNil (qThen (stRet (sN [(.int .i64 0)] fun w hM=>?_)))
 exact ⟨An66,cn66,Ao66,co66,rfl,(hM.pick [0,2,3] rfl rfl)⟩
theorem qReceive1 (bs:Nat) (A:Option Addr) (c:Nat) (its:List (List UInt8)) (v3 v4:Value) (v6 v7:Value) (v8 v9 v10:Value) (AD:Option Addr) (cD:Nat) (Dm:List UInt8) (q0:Rd) (ts:List BT) (k n:Nat) (w:World) (hO:Own [cAt bs 101 [(vL A its c),(.bool false),(.int .i64 2),v3,v4,(.bool false),v6,v7,v8,v9,v10]] w) (r0:Rf [cAt bs 101 [(vL A its c),(.bool false),(.int .i64 2),v3,v4,(.bool false),v6,v7,v8,v9,v10]] w (Vars)) (r1:Rf [cAt bs 101 [(vL A its c),(.bool false),(.int .i64 2),v3,v4,(.bool false),v6,v7,v8,v9,v10]] w (fun w=>RowIn w A (SS its))) (r2:Rf [cAt bs 101 [(vL A its c),(.bool false),(.int .i64 2),v3,v4,(.bool false),v6,v7,v8,v9,v10]] w (fun w=>RowIn w AD (B8 Dm))) (hDl:Dm.length≤4294967296) (hu:(Rd.mk Dm 0 0 0).uint=(1,q0)) (hts:rdSk q0.rest.1=some ts) (hend:q0.rest.2.end_=0) (hset:okSet its) (h40:its.length≤40) (hest:est ts (strata its)=k) (hk:k≤500) (hsz:blSize ((k+k / 2:Nat):Int)=(n:Int)) (hz:isSz (n:Int)=true) :
  Calls Tryz.prog 21 #[(vP bs 0),(vL AD Dm cD)] w fun e w'=>∃ (Am:Option Addr) (cm:Nat),e = .returned (.int .i64 0)∧Back [cAt bs 101 [(vL A its c),(.bool false),(.int .i64 2),v3,v4,(.bool false),v6,v7,v8,v9,v10]] w [cAt bs 101 [(vL A its c),(.bool false),(.int .i64 1),(vI 2),(vL Am (tabMsg its n) cm),(.bool true),v6,v7,v8,v9,v10],cB Am (tabMsg its n) cm] w':=by
 refine sE2 Tryz.func21 26 (hO) ?_
 refine stSeq (reg (la ?_))
 refine liNil (qThen (stSeq (reg (li rfl (opMakeMapK kSt (fun v:Value=>v) rfl rfl (by kernel_rfl) (fun b8=>?_))))))
 refine lm ?_
 refine lc (.func (.func 58) #[(vP bs 0)] #[]) ?_
 refine li rfl (opMapIns (D:=kSt) (val:=fun v:Value=>v) (a:=2) (u:=(.func (.func 58) #[(vP bs 0)] #[])) 1 [(2,(.func (.func 58) #[(vP bs 0)] #[]))] rfl rfl (by kernel_rfl) rfl rfl rfl Tryz.underlying112 rfl (show (2:Nat) < 100 by decide) rfl ?_)
 refine lm ?_
 refine la ?_
 refine liNil (qThen (stSeq (reg (lm ?_))))
 refine lm ?_
 refine lc (vP bs 0) ?_
 refine lc (vP bs 2) ?_
 refine ll 0 ?_
 refine lv (v:=(.tuple #[(.func (.func 58) #[(vP bs 0)] #[]),(.bool true)])) (rConv (rMapGetOk (D:=kSt) (val:=fun v:Value=>v) (a:=2) (kv:=[(2,(.func (.func 58) #[(vP bs 0)] #[]))]) 1 rfl rfl rfl Tryz.underlying112 Tryz.zeroValue60 rfl (show (2:Nat) < 100 by decide)) rfl) ?_
 refine lm ?_
 refine lc (.func (.func 58) #[(vP bs 0)] #[]) ?_
 refine lc (.bool true) ?_
 refine la ?_
 refine la ?_
 refine liNil (qThen (stSeq (stSeq (reg (lm ?_)))))
 refine lc (.bool false) ?_
 refine liNil (qThen (stFalse rfl (stSkip (qThen (stSeq (reg ?_))))))
 refine lm ?_
 refine lm ?_
 refine li rfl (opK [0] [cAt bs 101 [(vL A its c),(.bool false),(.int .i64 2),v3,v4,(.bool false),v6,v7,v8,v9,v10]] (fun w hM hO=>(qAccept1 bs A c its (.int .i64 2) v3 v4 v6 v7 v8 v9 v10 AD cD Dm q0 ts k n w hO (r0.goS hM [0]) (r1.goS hM [0]) (r2.goS hM [0]) (hDl) (hu) (hts) (hend) (hset) (h40) (hest) (hk) (hsz) (hz)).mono ?_) rfl rfl rfl (by kernel_rfl) (hrBound rfl rfl rfl (enters Tryz.func58 (by kernel_rfl) rfl)))
 rintro e w' ⟨Am25,cm25,rfl,hP⟩
 refine ⟨_,[_],_,rfl,hP,rfl,?_⟩; clear hP hM hO
 refine la ?_
 refine liNil (qThen (stRet (sN [(.int .i64 0)] fun w hM=>?_)))
 exact ⟨Am25,cm25,rfl,(hM.pick [0,2] rfl rfl)⟩
theorem qReceive2 (bs:Nat) (A:Option Addr) (c:Nat) (its:List (List UInt8)) (v1 v4:Value) (v6 v7:Value) (v8 v9 v10:Value) (AD:Option Addr) (cD:Nat) (Dm:List UInt8) (q0:Rd) (print:List UInt8) (q1:Rd) (t:BT) (offs needs:List (List UInt8)) (w:World) (hO:Own [cAt bs 101 [(vL A its c),v1,(.int .i64 2),(vI 1),v4,(.bool false),v6,v7,v8,v9,v10]] w) (r0:Rf [cAt bs 101 [(vL A its c),v1,(.int .i64 2),(vI 1),v4,(.bool false),v6,v7,v8,v9,v10]] w (Vars)) (r1:Rf [cAt bs 101 [(vL A its c),v1,(.int .i64 2),(vI 1),v4,(.bool false),v6,v7,v8,v9,v10]] w (fun w=>RowIn w A (SS its))) (r2:Rf [cAt bs 101 [(vL A its c),v1,(.int .i64 2),(vI 1),v4,(.bool false),v6,v7,v8,v9,v10]] w (fun w=>RowIn w AD (B8 Dm))) (hDl:Dm.length≤4294967296) (hu:(Rd.mk Dm 0 0 0).uint=(2,q0)) (hp:q0.sum=(print,q1)) (htd:decd q1.rest.1=some t) (hend:q1.rest.2.end_=0) (hs0:t.seed=0) (hset:okSet its) (h40:its.length≤40) (hsm:t.cells.length≤600) (hd:diffA its t print=some (offs,needs)) (hao:offs.Pairwise (· < ·)) (h32o:∀ x∈offs,x.length=32) (h32n:∀ x∈needs,x.length=32) :
  Calls Tryz.prog 21 #[(vP bs 0),(vL AD Dm cD)] w fun e w'=>∃ (Ao:Option Addr) (co:Nat) (An:Option Addr) (cn:Nat) (Am:Option Addr) (cm:Nat),e = .returned (.int .i64 0)∧Back [cAt bs 101 [(vL A its c),v1,(.int .i64 2),(vI 1),v4,(.bool false),v6,v7,v8,v9,v10]] w [cAt bs 101 [(vL A its c),v1,(.int .i64 1),(vI 4),(vL Am (difMsg offs needs) cm),(.bool true),(.bool true),v7,(.bool true),(vL An needs cn),(vL Ao offs co)],cRw Ao (SS offs),cRw An (SS needs),cB Am (difMsg offs needs) cm] w':=by
 refine sE2 Tryz.func21 26 (hO) ?_
 refine stSeq (reg (la ?_))
 refine liNil (qThen (stSeq (reg (li rfl (opMakeMapK kSt (fun v:Value=>v) rfl rfl (by kernel_rfl) (fun b8=>?_))))))
 refine lm ?_
 refine lc (.func (.func 58) #[(vP bs 0)] #[]) ?_
 refine li rfl (opMapIns (D:=kSt) (val:=fun v:Value=>v) (a:=2) (u:=(.func (.func 58) #[(vP bs 0)] #[])) 1 [(2,(.func (.func 58) #[(vP bs 0)] #[]))] rfl rfl (by kernel_rfl) rfl rfl rfl Tryz.underlying112 rfl (show (2:Nat) < 100 by decide) rfl ?_)
 refine lm ?_
 refine la ?_
 refine liNil (qThen (stSeq (reg (lm ?_))))
 refine lm ?_
 refine lc (vP bs 0) ?_
 refine lc (vP bs 2) ?_
 refine ll 0 ?_
 refine lv (v:=(.tuple #[(.func (.func 58) #[(vP bs 0)] #[]),(.bool true)])) (rConv (rMapGetOk (D:=kSt) (val:=fun v:Value=>v) (a:=2) (kv:=[(2,(.func (.func 58) #[(vP bs 0)] #[]))]) 1 rfl rfl rfl Tryz.underlying112 Tryz.zeroValue60 rfl (show (2:Nat) < 100 by decide)) rfl) ?_
 refine lm ?_
 refine lc (.func (.func 58) #[(vP bs 0)] #[]) ?_
 refine lc (.bool true) ?_
 refine la ?_
 refine la ?_
 refine liNil (qThen (stSeq (stSeq (reg (lm ?_)))))
 refine lc (.bool false) ?_
 refine liNil (qThen (stFalse rfl (stSkip (qThen (stSeq (reg ?_))))))
 refine lm ?_
 refine lm ?_
 refine li rfl (opK [0] [cAt bs 101 [(vL A its c),v1,(.int .i64 2),(vI 1),v4,(.bool false),v6,v7,v8,v9,v10]] (fun w hM hO=>(qAccept2 bs A c its v1 (.int .i64 2) v4 v6 v7 v8 v9 v10 AD cD Dm q0 print q1 t offs needs w hO (r0.goS hM [0]) (r1.goS hM [0]) (r2.goS hM [0]) (hDl) (hu) (hp) (htd) (hend) (hs0) (hset) (h40) (hsm) (hd) (hao) (h32o) (h32n)).mono ?_) rfl rfl rfl (by kernel_rfl) (hrBound rfl rfl rfl (enters Tryz.func58 (by kernel_rfl) rfl)))
 rintro e w' ⟨Ao25,co25,An25,cn25,Am25,cm25,rfl,hP⟩
 refine ⟨_,[_],_,rfl,hP,rfl,?_⟩; clear hP hM hO
 refine la ?_
 refine liNil (qThen (stRet (sN [(.int .i64 0)] fun w hM=>?_)))
 exact ⟨Ao25,co25,An25,cn25,Am25,cm25,rfl,(hM.pick [0,2,3,4] rfl rfl)⟩
theorem qReceive4 (bs:Nat) (A:Option Addr) (c:Nat) (its:List (List UInt8)) (v1 v4:Value) (v5 v6:Value) (v7 v8:Value) (v9 v10:Value) (AD:Option Addr) (cD:Nat) (Dm:List UInt8) (q0 q1 q2:Rd) (offs needs:List (List UInt8)) (w:World) (hO:Own [cAt bs 101 [(vL A its c),v1,(.int .i64 2),(vI 2),v4,v5,v6,v7,v8,v9,v10]] w) (r0:Rf [cAt bs 101 [(vL A its c),v1,(.int .i64 2),(vI 2),v4,v5,v6,v7,v8,v9,v10]] w (fun w=>RowIn w A (SS its))) (r1:Rf [cAt bs 101 [(vL A its c),v1,(.int .i64 2),(vI 2),v4,v5,v6,v7,v8,v9,v10]] w (fun w=>RowIn w AD (B8 Dm))) (hDl:Dm.length≤4294967296) (hu:(Rd.mk Dm 0 0 0).uint=(4,q0)) (hi1:q0.items 16384=(needs,q1)) (hi2:q1.items 16384=(offs,q2)) (hend:q2.end_=0) (han:needs.Pairwise (· < ·)) (hao:offs.Pairwise (· < ·)) (hag:agreesB its needs offs=true) (hs:its.Pairwise (· < ·)) (hn:its.length≤68719476736) :
  Calls Tryz.prog 21 #[(vP bs 0),(vL AD Dm cD)] w fun e w'=>∃ (An:Option Addr) (cn:Nat) (Ao:Option Addr) (co:Nat),e = .returned (.int .i64 0)∧Back [cAt bs 101 [(vL A its c),v1,(.int .i64 2),(vI 2),v4,v5,v6,v7,v8,v9,v10]] w [cAt bs 101 [(vL A its c),v1,(.int .i64 0),(vI 2),v4,(.bool true),(.bool true),v7,(.bool true),(vL An needs cn),(vL Ao offs co)],cS An needs cn,cS Ao offs co] w':=by
 refine sE2 Tryz.func21 26 (hO) ?_
 refine stSeq (reg (la ?_))
 refine liNil (qThen (stSeq (reg (li rfl (opMakeMapK kSt (fun v:Value=>v) rfl rfl (by kernel_rfl) (fun b8=>?_))))))
 refine lm ?_
 refine lc (.func (.func 58) #[(vP bs 0)] #[]) ?_
 refine li rfl (opMapIns (D:=kSt) (val:=fun v:Value=>v) (a:=2) (u:=(.func (.func 58) #[(vP bs 0)] #[])) 1 [(2,(.func (.func 58) #[(vP bs 0)] #[]))] rfl rfl (by kernel_rfl) rfl rfl rfl Tryz.underlying112 rfl (show (2:Nat) < 100 by decide) rfl ?_)
 refine lm ?_
 refine la ?_
 refine liNil (qThen (stSeq (reg (lm ?_))))
 refine lm ?_
 refine lc (vP bs 0) ?_
 refine lc (vP bs 2) ?_
 refine ll 0 ?_
 refine lv (v:=(.tuple #[(.func (.func 58) #[(vP bs 0)] #[]),(.bool true)])) (rConv (rMapGetOk (D:=kSt) (val:=fun v:Value=>v) (a:=2) (kv:=[(2,(.func (.func 58) #[(vP bs 0)] #[]))]) 1 rfl rfl rfl Tryz.underlying112 Tryz.zeroValue60 rfl (show (2:Nat) < 100 by decide)) rfl) ?_
 refine lm ?_
 refine lc (.func (.func 58) #[(vP bs 0)] #[]) ?_
 refine lc (.bool true) ?_
 refine la ?_
 refine la ?_
 refine liNil (qThen (stSeq (stSeq (reg (lm ?_)))))
 refine lc (.bool false) ?_
 refine liNil (qThen (stFalse rfl (stSkip (qThen (stSeq (reg ?_))))))
 refine lm ?_
 refine lm ?_
 refine li rfl (opK [0] [cAt bs 101 [(vL A its c),v1,(.int .i64 2),(vI 2),v4,v5,v6,v7,v8,v9,v10]] (fun w hM hO=>(qAccept4 bs A c its v1 (.int .i64 2) v4 v5 v6 v7 v8 v9 v10 AD cD Dm q0 q1 q2 offs needs w hO (r0.goS hM [0]) (r1.goS hM [0]) (hDl) (hu) (hi1) (hi2) (hend) (han) (hao) (hag) (hs) (hn)).mono ?_) rfl rfl rfl (by kernel_rfl) (hrBound rfl rfl rfl (enters Tryz.func58 (by kernel_rfl) rfl)))
 rintro e w' ⟨An25,cn25,Ao25,co25,rfl,hP⟩
 refine ⟨_,[_],_,rfl,hP,rfl,?_⟩; clear hP hM hO
 refine la ?_
 refine liNil (qThen (stRet (sN [(.int .i64 0)] fun w hM=>?_)))
 exact ⟨An25,cn25,Ao25,co25,rfl,(hM.pick [0,2,3] rfl rfl)⟩
end
structure PK (s : Peel) : Prop where
 ok : s.t.Ok
 len : ∀ x ∈ s.taken, x.length = 32
 nda : s.added.Nodup
 ndr : s.removed.Nodup
 ia : ∀ x ∈ s.added, x ∈ s.taken
 ir : ∀ x ∈ s.removed, x ∈ s.taken
theorem nodup_snoc {l:List Bs} {x:Bs} (h:l.Nodup) (hx:x∉l):(l++[x]).Nodup:=by
 rw [List.nodup_append]
 refine ⟨h,List.nodup_cons.2 ⟨by simp,List.nodup_nil⟩,fun a ha b hb e=>?_⟩
 rw [List.mem_singleton] at hb
 subst e hb
 exact hx ha
theorem PK.take {s:Peel} (h:PK s) {c:BC} (hc:c.keys.length=32) (hn:s.taken.contains c.keys=false):PK (s.take c):=by
 have hn':c.keys∉s.taken:=by simpa using hn
 refine ⟨h.ok.change hc _,fun x hx=>?_,?_,?_,fun x hx=>?_,fun x hx=>?_⟩
 ·rcases List.mem_cons.1 hx with rfl | hx
  ·exact hc
  ·exact h.len x hx
 ·unfold Peel.take; dsimp only; split
  ·exact nodup_snoc h.nda fun hx=>hn' (h.ia _ hx)
  ·exact h.nda
 ·unfold Peel.take; dsimp only; split
  ·exact h.ndr
  ·exact nodup_snoc h.ndr fun hx=>hn' (h.ir _ hx)
 ·unfold Peel.take at hx ⊢; dsimp only at hx ⊢
  split at hx
  ·rcases List.mem_append.1 hx with hx | hx
   ·exact List.mem_cons_of_mem _ (h.ia x hx)
   ·rw [List.mem_singleton.1 hx]; exact List.mem_cons_self
  ·exact List.mem_cons_of_mem _ (h.ia x hx)
 ·unfold Peel.take at hx ⊢; dsimp only at hx ⊢
  split at hx
  ·exact List.mem_cons_of_mem _ (h.ir x hx)
  ·rcases List.mem_append.1 hx with hx | hx
   ·exact List.mem_cons_of_mem _ (h.ir x hx)
   ·rw [List.mem_singleton.1 hx]; exact List.mem_cons_self
theorem peel_pk:∀ (n:Nat) {s s':Peel},PK s→peel n s=some s'→PK s'
 | 0,s,s',h,e=>by cases e; exact h
 | n+1,s,s',h,e=>by
   unfold peel at e
   cases hf:s.t.first with
   | none=>rw [hf] at e; cases e; exact h
   | some i =>
     rw [hf] at e
     simp only at e
     split at e
     ·cases e
     ·rename_i hc
      exact peel_pk n (h.take (cellAt_ok h.ok i).keys (by simpa using hc)) e
theorem sortS_asc {l:List Bs} (h:l.Nodup):(sortS l).Pairwise (· < ·):=by
 have h1:=sortS_sorted l
 have h2:(sortS l).Nodup:=(sortS_perm l).nodup_iff.2 h
 refine (List.Pairwise.and h1 h2).imp fun {a b} hab=>?_
 rcases Decidable.em (a < b) with hl | hl
 ·exact hl
 ·exact absurd (k_antisymm hab.1 (k_not_lt.1 hl)) hab.2
theorem keys_pk {t:BT} {l m:List Bs} (ht:t.Ok) (h:t.keys=some (l,m)):(l.Pairwise (· < ·)∧∀ x∈l,x.length=32)∧m.Pairwise (· < ·)∧∀ x∈m,x.length=32:=by
 obtain ⟨p,hp,rfl,rfl⟩:=keys_raw h
 unfold BT.raw at hp
 cases hq:peel t.cells.length ⟨t,[],[],[]⟩ with
 | none=>rw [hq] at hp; cases hp
 | some s =>
   rw [hq] at hp
   have hk:=peel_pk _ (s:=⟨t,[],[],[]⟩) ⟨ht,by simp,List.nodup_nil,List.nodup_nil,by simp,by simp⟩ hq
   simp only at hp
   split at hp
   ·injection hp with hp
    subst hp
    exact ⟨⟨sortS_asc hk.nda,fun x hx=>hk.len x (hk.ia x ((sortS_perm _).mem_iff.1 hx))⟩,sortS_asc hk.ndr,fun x hx=>hk.len x (hk.ir x ((sortS_perm _).mem_iff.1 hx))⟩
   ·cases hp
theorem cells_len {l:List BC} (h:∀ c∈l,c.Ok):l.length*34≤(l.flatMap BC.enc).length:=by
 induction l with
 | nil=>simp
 | cons c l ih =>
   have h1:=ih fun x hx=>h x (by simp [hx])
   have h2:=(h c (by simp)).keys
   have h3:=num_pos (zig c.count)
   have h4:=num_pos c.checks
   simp only [List.flatMap_cons,List.length_append,List.length_cons,BC.enc]
   omega
theorem decd_small {D:Bs} {t:BT} (h:decd D=some t):t.Ok∧t.cells.length*34≤D.length:=by
 have hok:t.Ok:=by
  unfold decd at h
  split at h
  ·injection h with h
   subst h
   exact decT_ok _
  ·cases h
 refine ⟨hok,?_⟩
 obtain ⟨he,-⟩:=decd_enc h
 have h1:=cells_len hok.cells
 rw [← he]
 unfold BT.enc encTo
 rw [List.take_of_length_le (Nat.le_refl _),List.length_append,List.length_append]
 omega
section
def Part (s r : List Bs) (p : AP) : Prop := match p.c with
 | .sum n f => n = cnt s p.lo p.hi ∧ f = fpB (inL s p.lo p.hi)
 | .list xs => xs = inL s p.lo p.hi
 | .ans xs ms => (∀ x, x ∈ xs ↔ (x ∈ s ∧ x ∉ r) ∧ inR p.lo p.hi x = true) ∧ (∀ x, x ∈ ms ↔ (x ∈ r ∧ x ∉ s) ∧ inR p.lo p.hi x = true)
structure Hon (s r : List Bs) (m : List AP) : Prop where
 ok : ∀ p ∈ m, p.ok
 bef : m.Pairwise Bef
 con : ∀ p ∈ m, Part s r p
theorem chain_of_bef {m:List AP} (h:m.Pairwise Bef):chain m:=by
 intro k p hp
 unfold follows
 cases hl:(m.take k).getLast? with
 | none=>rfl
 | some q =>
   dsimp only
   rw [List.getLast?_eq_getElem?] at hl
   obtain ⟨h1,h2⟩:=List.getElem?_eq_some_iff.1 hl
   rw [List.getElem_take] at h2
   obtain ⟨h3,h4⟩:=List.getElem?_eq_some_iff.1 hp
   have hlt:(m.take k).length - 1 < k:=by rw [List.length_take] at h1 ⊢; omega
   have hb:=List.pairwise_iff_getElem.1 h ((m.take k).length - 1) k (by rw [List.length_take] at h1 ⊢; omega) h3 hlt
   rw [h2,h4] at hb
   simp [hb.1,hb.2]
theorem Hon.msg {s r:List Bs} {m:List AP} (h:Hon s r m) (hne:m≠[]):okMsg m:=⟨hne,h.ok,chain_of_bef h.bef⟩
theorem ordOk_filter {l:List Bs} {lo hi:Bs} (p:Bs→Bool) (h:ordOk l lo hi=true):ordOk (l.filter p) lo hi=true:=by
 unfold ordOk at h ⊢
 rw [Bool.and_eq_true,decide_eq_true_eq] at h ⊢
 refine ⟨?_,h.2.sublist List.filter_sublist⟩
 rw [List.all_eq_true] at h ⊢
 exact fun x hx=>h.1 x (List.mem_filter.1 hx).1
theorem ordOk_inL {l:List Bs} (h:Asc l) (lo hi:Bs):ordOk (inL l lo hi) lo hi=true:=by
 unfold ordOk
 rw [Bool.and_eq_true,decide_eq_true_eq]
 refine ⟨?_,asc_inL h lo hi⟩
 rw [List.all_eq_true]
 exact fun x hx=>(mem_inL.1 hx).2
theorem bound_mem {its:List Bs} (hs:okSet its) {a x:Bs} (ha:boundOk a=true) (h:x=a∨x∈its):boundOk x=true:=by
 rcases h with rfl | h
 ·exact ha
 ·unfold boundOk; simp [hs.1 x h]
abbrev Wt (l : List Bs) (m : List AP) : Nat := (m.map fun p => cnt l p.lo p.hi).sum
section
variable {s r : List Bs} {fan leaf : Nat}
structure RepP (s r : List Bs) (leaf : Nat) (p : AP) (l : List AP) : Prop where
 ok : ∀ q ∈ l, q.ok
 bef : l.Pairwise Bef
 con : ∀ q ∈ l, Part r s q
 sub : ∀ q ∈ l, Sub p.lo p.hi q.lo q.hi
 wt : ∀ t : List Bs, Wt t l ≤ cnt t p.lo p.hi
 len : l.length ≤ 1 + 2 * cnt r p.lo p.hi
 enc : ∀ q ∈ l, q.enc.length ≤ 100 + 32 * (cnt r q.lo q.hi + cnt s q.lo q.hi)
theorem RepP.nil (p:AP):RepP s r leaf p []:=⟨fun q hq=>(by cases hq),List.Pairwise.nil,fun q hq=>(by cases hq),fun q hq=>(by cases hq),fun t=>Nat.zero_le _,Nat.zero_le _,fun q hq=>(by cases hq)⟩
theorem RepP.one {p q:AP} (hlo:q.lo=p.lo) (hhi:q.hi=p.hi) (h1:q.ok) (h2:Part r s q) (h3:q.enc.length≤100+32*(cnt r q.lo q.hi+cnt s q.lo q.hi)):RepP s r leaf p [q]:=by
 refine ⟨?_,List.pairwise_singleton _ _,?_,?_,?_,by simp,?_⟩
 ·intro x hx; rw [List.mem_singleton.1 hx]; exact h1
 ·intro x hx; rw [List.mem_singleton.1 hx]; exact h2
 ·intro x hx; rw [List.mem_singleton.1 hx,hlo,hhi]; exact Sub.refl _ _
 ·intro t; simp [Wt,hlo,hhi]
 ·intro x hx; rw [List.mem_singleton.1 hx]; exact h3
theorem enc_hd {p:AP} (h:p.ok):p.enc.length≤66+p.c.enc.length:=by
 have l1:=bound_le h.1.1
 have l2:=bound_le h.1.2.1
 have e1:=num_one (n:=p.lo.length) (by omega)
 have e2:=num_one (n:=p.hi.length) (by omega)
 simp only [AP.enc,List.length_append]
 omega
theorem repP (hs:okSet s) (hr:okSet r) (hs4:s.length≤40) (hr4:r.length≤40) (hf:2≤fan) (hl:1≤leaf) (hl2:leaf≤64) {p:AP} (hp:p.ok) (hc:Part s r p):RepP s r leaf p (repA r fan leaf p):=by
 obtain ⟨⟨b1,b2,b3⟩,hcok⟩:=hp
 obtain ⟨lo,hi,c⟩:=p
 dsimp only at b1 b2 b3
 cases c with
 | sum n f =>
   show RepP s r leaf _ (cmpA r fan leaf lo hi n f)
   unfold cmpA
   split
   ·exact RepP.nil _
   ·split
    ·have hle:=inL_len r lo hi
     have ho:AP.ok ⟨lo,hi,.list (inL r lo hi)⟩:=⟨⟨b1,b2,b3⟩,by omega,inL32 hr lo hi,ordOk_inL hr.2 lo hi⟩
     refine RepP.one rfl rfl ho rfl ?_
     have h1:=enc_hd ho
     have h2:=flat_len (inL32 hr lo hi)
     have h3:=num_one (n:=2) (by omega)
     have h4:=num_one (n:=(inL r lo hi).length) (by omega)
     simp only [AC.enc,List.length_append,h2,h3,h4] at h1
     show _≤100+32*((inL r lo hi).length+_)
     omega
    ·rename_i hgt
     have hD:=divided_ok (lo:=lo) (hi:=hi) hr (show 0 < (inL r lo hi).length by omega) hf
     change RepP s r leaf _ (dividA r fan lo hi)
     have hq:∀ q∈dividA r fan lo hi,q.ok∧q.enc.length≤100:=fun q hq=>by
      obtain ⟨a,b,_,d,e,_⟩:=hD.part q hq
      have q1:=bound_mem hr b1 d
      have q2:=bound_mem hr b2 e
      have h5:=sumA_ok hr4 a (bound_le q1) (bound_le q2)
      refine ⟨⟨⟨q1,q2,b⟩,?_⟩,h5.2⟩
      rw [a]
      exact ⟨Nat.le_trans (inL_len _ _ _) (by omega),fpB_len _⟩
     refine ⟨fun q h=>(hq q h).1,hD.bef,fun q h=>?_,fun q h=>(hD.part q h).2.2.1,fun t=>Nat.le_of_eq (hD.sum t),?_,fun q h=>Nat.le_trans (hq q h).2 (by omega)⟩
     ·have a:=(hD.part q h).1
      rw [a]
      exact ⟨rfl,rfl⟩
     ·have h6:=hD.len.1
      have h7:1 < cnt r lo hi:=by show 1 < (inL r lo hi).length; omega
      show _≤1+2*cnt r lo hi
      omega
 | list xs =>
   obtain rfl:xs=inL s lo hi:=hc
   show RepP s r leaf _ (ansA r lo hi (inL s lo hi))
   unfold ansA
   split
   ·have o1:ordOk (without (inL r lo hi) (inL s lo hi)) lo hi=true:=ordOk_filter _ (ordOk_inL hr.2 lo hi)
    have o2:ordOk (without (inL s lo hi) r) lo hi=true:=ordOk_filter _ (ordOk_inL hs.2 lo hi)
    have a1:=without_len (inL r lo hi) (inL s lo hi)
    have a2:=without_len (inL s lo hi) r
    have a3:=inL_len r lo hi
    have a4:=inL_len s lo hi
    have c1:=without32 (m:=inL s lo hi) (inL32 hr lo hi)
    have c2:=without32 (m:=r) (inL32 hs lo hi)
    have ho:AP.ok ⟨lo,hi,.ans (without (inL r lo hi) (inL s lo hi)) (without (inL s lo hi) r)⟩:=⟨⟨b1,b2,b3⟩,⟨by omega,c1,o1⟩,by omega,c2,o2⟩
    refine RepP.one rfl rfl ho ⟨fun x=>?_,fun x=>?_⟩ ?_
    ·rw [mem_without,mem_inL,mem_inL]
     constructor
     ·rintro ⟨⟨h1,h2⟩,h3⟩; exact ⟨⟨h1,fun h=>h3 ⟨h,h2⟩⟩,h2⟩
     ·rintro ⟨⟨h1,h2⟩,h3⟩; exact ⟨⟨h1,h3⟩,fun h=>h2 h.1⟩
    ·rw [mem_without,mem_inL]
     constructor
     ·rintro ⟨⟨h1,h2⟩,h3⟩; exact ⟨⟨h1,h3⟩,h2⟩
     ·rintro ⟨⟨h1,h2⟩,h3⟩; exact ⟨⟨h1,h3⟩,h2⟩
    ·have h1:=enc_hd ho
     have f1:=flat_len c1
     have f2:=flat_len c2
     have h3:=num_one (n:=3) (by omega)
     have h4:=num_one (n:=(without (inL r lo hi) (inL s lo hi)).length) (by omega)
     have h5:=num_one (n:=(without (inL s lo hi) r).length) (by omega)
     simp only [AC.enc,List.length_append,f1,f2,h3,h4,h5] at h1
     show _≤100+32*((inL r lo hi).length+(inL s lo hi).length)
     omega
   ·exact RepP.nil _
 | ans xs ms=>exact RepP.nil _
theorem sum_flat_le {f:AP→List AP} {t:List Bs}:∀ {m:List AP},(∀ p∈m,Wt t (f p)≤cnt t p.lo p.hi)→Wt t (m.flatMap f)≤Wt t m
 | [],_=>Nat.le_refl _
 | p::m,h=>by
   have ih:=sum_flat_le (f:=f) (t:=t) (m:=m) fun q hq=>h q (by simp [hq])
   have h1:=h p (by simp)
   simp only [Wt,List.flatMap_cons,List.map_append,List.sum_append,List.map_cons,List.sum_cons] at ih h1 ⊢
   omega
theorem len_flat_le {f:AP→List AP}:∀ {m:List AP},(∀ p∈m,(f p).length≤1+2*cnt r p.lo p.hi)→(m.flatMap f).length≤m.length+2*Wt r m
 | [],_=>Nat.le_refl _
 | p::m,h=>by
   have ih:=len_flat_le (f:=f) (m:=m) fun q hq=>h q (by simp [hq])
   have h1:=h p (by simp)
   simp only [Wt,List.flatMap_cons,List.length_append,List.map_cons,List.sum_cons,List.length_cons] at ih h1 ⊢
   omega
theorem Hon.reply (hs:okSet s) (hr:okSet r) (hs4:s.length≤40) (hr4:r.length≤40) (hf:2≤fan) (hl:1≤leaf) (hl2:leaf≤64) {m:List AP} (h:Hon s r m) :
  Hon r s (replyA r fan leaf m)∧(∀ t,Wt t (replyA r fan leaf m)≤Wt t m)∧(replyA r fan leaf m).length≤m.length+2*Wt r m∧∀ q∈replyA r fan leaf m,q.enc.length≤100+32*(cnt r q.lo q.hi+cnt s q.lo q.hi):=by
 have hR:∀ p∈m,RepP s r leaf p (repA r fan leaf p):=fun p hp=>repP hs hr hs4 hr4 hf hl hl2 (h.ok p hp) (h.con p hp)
 refine ⟨⟨?_,?_,?_⟩,fun t=>sum_flat_le fun p hp=>(hR p hp).wt t,len_flat_le fun p hp=>(hR p hp).len,?_⟩
 ·intro q hq
  obtain ⟨p,h1,h2⟩:=List.mem_flatMap.1 hq
  exact (hR p h1).ok q h2
 ·unfold replyA
  rw [List.pairwise_flatMap]
  refine ⟨fun p hp=>(hR p hp).bef,h.bef.imp_of_mem fun {p p'} hp hp' hb q hq q' hq'=>?_⟩
  have s1:=(hR p hp).sub q hq
  have s2:=(hR p' hp').sub q' hq'
  have s3:=s1.2.resolve_left hb.1
  exact ⟨s3.1,bs_le_le (bs_le_le s3.2 hb.2) s2.1⟩
 ·intro q hq
  obtain ⟨p,h1,h2⟩:=List.mem_flatMap.1 hq
  exact (hR p h1).con q h2
 ·intro q hq
  obtain ⟨p,h1,h2⟩:=List.mem_flatMap.1 hq
  exact (hR p h1).enc q h2
end
/-! ### A run of messages -/
def sendOf (a b : List Bs) (j : Nat) : List Bs := if j % 2 = 0 then a else b
def msgA (a b : List Bs) (fan leaf : Nat) : Nat → List AP
 | 0 => [sumA a [] []]
 | j + 1 => replyA (sideOf a b j) fan leaf (msgA a b fan leaf j)
theorem send_succ (a b:List Bs) (j:Nat):sendOf a b (j+1)=sideOf a b j:=by
 unfold sendOf sideOf
 by_cases h:j % 2=0
 ·rw [if_neg (by omega),if_pos h]
 ·rw [if_pos (by omega),if_neg h]
theorem side_succ (a b:List Bs) (j:Nat):sideOf a b (j+1)=sendOf a b j:=by
 unfold sendOf sideOf
 by_cases h:j % 2=0
 ·rw [if_neg (by omega),if_pos h]
 ·rw [if_pos (by omega),if_neg h]
structure Sets (a b : List Bs) (fan leaf : Nat) : Prop where
 (ha : okSet a) (hb : okSet b) (ha4 : a.length ≤ 40) (hb4 : b.length ≤ 40) (hf : 2 ≤ fan) (hf2 : fan ≤ 16) (hl : 1 ≤ leaf) (hl2 : leaf ≤ 64)
structure MsgInv (a b : List Bs) (fan leaf j : Nat) (m : List AP) : Prop where
 hon : Hon (sendOf a b j) (sideOf a b j) m
 len : m.length ≤ 1 + 80 * j
 wt : ∀ t : List Bs, Wt t m ≤ t.length
 enc : ∀ q ∈ m, q.enc.length ≤ 100 + 32 * (cnt a q.lo q.hi + cnt b q.lo q.hi)
section
variable {a b : List Bs} {fan leaf : Nat}
theorem Sets.side (h:Sets a b fan leaf) (j:Nat):(okSet (sideOf a b j)∧(sideOf a b j).length≤40)∧okSet (sendOf a b j)∧(sendOf a b j).length≤40:=by
 unfold sideOf sendOf
 split
 ·exact ⟨⟨h.hb,h.hb4⟩,h.ha,h.ha4⟩
 ·exact ⟨⟨h.ha,h.ha4⟩,h.hb,h.hb4⟩
theorem msg_inv (h:Sets a b fan leaf):∀ j,MsgInv a b fan leaf j (msgA a b fan leaf j)
 | 0=>by
   have e:msgA a b fan leaf 0=[sumA a [] []]:=rfl
   rw [e]
   have h0:=sumA_ok h.ha4 (p:=sumA a [] []) rfl (by simp [sumA]) (by simp [sumA])
   refine ⟨⟨?_,List.pairwise_singleton _ _,?_⟩,by simp,?_,?_⟩
   ·intro p hp
    rw [List.mem_singleton.1 hp]
    have:=inL_len a [] []
    have h4:=h.ha4
    exact ⟨⟨by simp [sumA,boundOk],by simp [sumA,boundOk],by simp [sumA,spanOk]⟩,by omega,fpB_len _⟩
   ·intro p hp
    rw [List.mem_singleton.1 hp]
    exact ⟨rfl,rfl⟩
   ·intro t
    simp only [Wt,List.map_cons,List.map_nil,List.sum_cons,List.sum_nil]
    show (inL t [] []).length+0≤_
    rw [inL_all]
    omega
   ·intro q hq
    rw [List.mem_singleton.1 hq]
    exact Nat.le_trans h0.2 (by omega)
 | j+1=>by
   have ih:=msg_inv h j
   obtain ⟨⟨r1,r2⟩,s1,s2⟩:=h.side j
   obtain ⟨h1,h2,h3,h4⟩:=ih.hon.reply s1 r1 s2 r2 h.hf h.hl h.hl2
   have e:msgA a b fan leaf (j+1)=replyA (sideOf a b j) fan leaf (msgA a b fan leaf j):=rfl
   rw [e]
   refine ⟨by rw [send_succ,side_succ]; exact h1,?_,fun t=>Nat.le_trans (h2 t) (ih.wt t),fun q hq=>?_⟩
   ·have:=ih.wt (sideOf a b j)
    have:=ih.len
    omega
   ·have h5:=h4 q hq
    have e2:cnt (sideOf a b j) q.lo q.hi+cnt (sendOf a b j) q.lo q.hi=cnt a q.lo q.hi+cnt b q.lo q.hi:=by
     unfold sideOf sendOf
     split
     ·exact Nat.add_comm _ _
     ·rfl
    rw [e2] at h5
    exact h5
theorem enc_sum:∀ {m:List AP},(∀ q∈m,q.enc.length≤100+32*(cnt a q.lo q.hi+cnt b q.lo q.hi))→(m.flatMap AP.enc).length≤m.length*100+32*(Wt a m+Wt b m)
 | [],_=>Nat.zero_le _
 | p::m,h=>by
   have ih:=enc_sum (m:=m) fun q hq=>h q (by simp [hq])
   have h1:=h p (by simp)
   simp only [Wt,List.flatMap_cons,List.length_append,List.map_cons,List.sum_cons,List.length_cons] at ih h1 ⊢
   omega
theorem enc_small (h:Sets a b fan leaf) {j:Nat} (hj:j≤100):(encA (msgA a b fan leaf j)).length≤1048576:=by
 have hi:=msg_inv h j
 have h1:=hi.len
 have h2:=enc_sum hi.enc
 have h3:=hi.wt a
 have h4:=hi.wt b
 have h5:=encA_le (msgA a b fan leaf j) (by omega)
 have:=h.ha4
 have:=h.hb4
 omega
theorem runM_enc (h:Sets a b fan leaf):∀ j,j≤30→runM a b fan leaf j=encA (msgA a b fan leaf j)∧runR a b fan leaf j=⟨encA (msgA a b fan leaf (j+1)),0,(msgA a b fan leaf j).flatMap (needA (sideOf a b j)),(msgA a b fan leaf j).flatMap (offA (sideOf a b j))⟩:=by
 intro j hj
 have key:runM a b fan leaf j=encA (msgA a b fan leaf j)→runR a b fan leaf j=⟨encA (msgA a b fan leaf (j+1)),0,(msgA a b fan leaf j).flatMap (needA (sideOf a b j)),(msgA a b fan leaf j).flatMap (offA (sideOf a b j))⟩:=by
  intro he
  unfold runR
  rw [he]
  have hs1:=enc_small h (j:=j) (by omega)
  have hs2:=enc_small h (j:=j+1) (by omega)
  have e:msgA a b fan leaf (j+1)=replyA (sideOf a b j) fan leaf (msgA a b fan leaf j):=rfl
  have hi:=msg_inv h j
  rw [e] at hs2 ⊢
  generalize msgA a b fan leaf j=m at *
  by_cases hm:m=[]
  ·subst hm
   rfl
  ·have hne:encA m≠[]:=by
    unfold encA
    have hml:m.length≠0:=fun e=>hm (List.eq_nil_of_length_eq_zero e)
    rw [if_neg hml]
    intro e
    have e2:=congrArg List.length e
    have:=numPos m.length
    rw [List.length_append,List.length_nil] at e2
    omega
   unfold stepA
   rw [if_neg hne,decA_enc (hi.hon.msg hm) (by omega)]
   dsimp only
   rw [if_neg (by omega)]
 induction j with
 | zero=>exact ⟨rfl,key rfl⟩
 | succ j ih =>
   have ih':=ih (by omega) (fun he=>?_)
   ·have e:runM a b fan leaf (j+1)=encA (msgA a b fan leaf (j+1)):=by
     show (runR a b fan leaf j).reply=_
     rw [ih'.2]
    exact ⟨e,key e⟩
   ·unfold runR
    rw [he]
    have hs1:=enc_small h (j:=j) (by omega)
    have hs2:=enc_small h (j:=j+1) (by omega)
    have e:msgA a b fan leaf (j+1)=replyA (sideOf a b j) fan leaf (msgA a b fan leaf j):=rfl
    have hi:=msg_inv h j
    rw [e] at hs2 ⊢
    generalize msgA a b fan leaf j=m at *
    by_cases hm:m=[]
    ·subst hm
     rfl
    ·have hne:encA m≠[]:=by
      unfold encA
      have hml:m.length≠0:=fun e=>hm (List.eq_nil_of_length_eq_zero e)
      rw [if_neg hml]
      intro e
      have e2:=congrArg List.length e
      have:=numPos m.length
      rw [List.length_append,List.length_nil] at e2
      omega
     unfold stepA
     rw [if_neg hne,decA_enc (hi.hon.msg hm) (by omega)]
     dsimp only
     rw [if_neg (by omega)]
theorem encA_nil {m:List AP}:encA m=[]↔m=[]:=by
 constructor
 ·intro h
  by_cases hm:m=[]
  ·exact hm
  ·exfalso
   have hml:m.length≠0:=fun e=>hm (List.eq_nil_of_length_eq_zero e)
   rw [encA,if_neg hml] at h
   have e2:=congrArg List.length h
   have:=numPos m.length
   rw [List.length_append,List.length_nil] at e2
   omega
 ·rintro rfl; rfl
end
abbrev awI (n : Nat) : Bs := itemB (UInt8.ofNat n)
theorem aw_one:okSet [awI 65]:=by decide +kernel
end
section
section
variable {a b : List Bs} {fan leaf : Nat}
theorem nodup_sub_len {α:Type} [DecidableEq α]:∀ {l m:List α},l.Nodup→(∀ x∈l,x∈m)→l.length≤m.length
 | [],_,_,_=>Nat.zero_le _
 | x::l,m,h,hs=>by
   obtain ⟨h1,h2⟩:=List.nodup_cons.1 h
   have hx:=hs x List.mem_cons_self
   have ih:=nodup_sub_len (m:=m.erase x) h2 fun y hy=>(List.mem_erase_of_ne (fun e=>h1 (by rw [← e]; exact hy))).2 (hs y (List.mem_cons_of_mem _ hy))
   rw [List.length_erase_of_mem hx] at ih
   have:=List.length_pos_of_mem hx
   rw [List.length_cons]
   omega
theorem asc_sub_len {l m:List Bs} (h:Asc l) (hs:∀ x∈l,x∈m):l.length≤m.length:=nodup_sub_len (h.imp fun {x y} h e=>by subst e; exact b_lt_irrefl h) hs
end
end
section
section
variable {a b : List Bs} {fan leaf : Nat}
theorem first_len (h:a.length≤40):(encA [sumA a [] []]).length=37:=by
 have e:encA [sumA a [] []]=num 1++(sumA a [] []).enc:=by
  unfold encA
  rw [if_neg (by simp)]
  simp
 have ho:=num_one (n:=1) (by omega)
 have hz:=num_one (n:=0) (by omega)
 have hn:=num_one (n:=(inL a [] []).length) (by have:=inL_len a [] []; omega)
 rw [e]
 simp only [sumA,AP.enc,AC.enc,List.length_append,fpB_len,List.length_nil,ho,hz,hn]
end
end
theorem diffA_none {its:List Bs} {t:BT} {print:Bs} (h:diffA its t print=none):((tabT its t.cells.length).sub t).keys=none∨∃ offs needs,((tabT its t.cells.length).sub t).keys=some (offs,needs)∧(agreesB its needs offs=true→setE (otherL its offs needs)=0→fpB (otherL its offs needs)≠print):=by
 unfold diffA at h
 split at h
 ·exact .inl (by assumption)
 ·rename_i o n hk
  refine .inr ⟨o,n,hk,fun h1 h2 h3=>?_⟩
  rw [if_pos (by simp [h1,h2,h3])] at h
  cases h
theorem qBegin (bs:Nat) (v0 v1:Value) (v2 v3:Value) (v4 v5:Value) (v6 v8:Value) (v9 v10:Value) (its:List (List UInt8)) (se:Nat) (A2:Option Addr) (c2 nm om:Nat) (w:World) (hO:Own [cAt bs 101 [v0,v1,v2,v3,v4,v5,v6,(vP se 0),v8,v9,v10]] w) (r0:Rf [cAt bs 101 [v0,v1,v2,v3,v4,v5,v6,(vP se 0),v8,v9,v10]] w (Vars)) (r1:Rf [cAt bs 101 [v0,v1,v2,v3,v4,v5,v6,(vP se 0),v8,v9,v10]] w (SessAt se A2 c2 its 4 4 nm om)) (hset:okSet its) (h40:its.length≤40) (hc2:its.length≤c2) :
  Calls Tryz.prog 146 #[(vP bs 0)] w fun e w'=>∃ (Am:Option Addr) (cm:Nat),e = .returned (.tuple #[])∧Back [cAt bs 101 [v0,v1,v2,v3,v4,v5,v6,(vP se 0),v8,v9,v10]] w [cAt bs 101 [v0,v1,(.int .i64 1),(vI 3),(vL Am (withB 3 (encA [sumA its [] []])) cm),v5,v6,(vP se 0),v8,v9,v10],cB Am (withB 3 (encA [sumA its [] []])) cm] w':=by
 refine sE1 Tryz.func146 10 (hO) ?_
 have hfl:=first_len h40
 refine reg (lm ?_)
 refine lm ?_
 refine lc (vP bs 0) ?_
 refine lc (vP bs 7) ?_
 refine ll 0 ?_
 refine li rfl (opK0 (fun w hM=>(rsStart_any se A2 c2 its 4 4 nm om w (r0.go0 hM) (r1.go0 hM) (hset) (by omega) (hc2) (h40)).mono ?_))
 rintro e w' ⟨B7,cb7,rfl,hP⟩
 refine ⟨_,_,rfl,hP,?_⟩; clear hP hM
 refine li rfl (opK0 (fun w hM=>(qWithB 3 B7 cb7 (encA [sumA its [] []]) w (hM.keep0 (j:=1) rfl (fun _ h=>RowIn.of_own h)) (by omega) (by omega)).mono ?_))
 rintro e w' ⟨A28,c28,rfl,hP⟩
 refine ⟨_,_,rfl,hP,?_⟩; clear hP hM
 refine li rfl (opK [0] _ (fun w hM hO=>(qSend bs v0 v1 v2 v3 v4 v5 v6 (vP se 0) v8 v9 v10 3 A28 ((withB 3 (encA [sumA its [] []])).length) c28 w hO).mono ?_))
 rintro e w' ⟨rfl,hP⟩
 refine ⟨_,[_],_,rfl,hP,rfl,?_⟩; clear hP hM hO
 refine liNil (stEndN [] rfl trivial (fun w hM=>?_))
 exact ⟨A28,c28,rfl,(hM.pick [0,2] rfl rfl)⟩
theorem qDifference_none (bs:Nat) (A:Option Addr) (c:Nat) (its:List (List UInt8)) (v1 v2:Value) (v3 v4:Value) (v5 v6:Value) (v7 v8:Value) (v9 v10:Value) (X:TX) (t:BT) (print:List UInt8) (w:World) (r0:Rf [] w (Vars)) (r1:Rf [] w (fun w=>At w bs 101 [(vL A its c),v1,v2,v3,v4,v5,v6,v7,v8,v9,v10])) (r2:Rf [] w (fun w=>RowIn w A (SS its))) (r3:Rf [] w (fun w=>(cT X t).holds w)) (hz:isSz (t.cells.length:Int)=true) (hs0:t.seed=0) (hset:okSet its) (h40:its.length≤40) (hto:t.Ok) (hsm:t.cells.length≤600) (hd:diffA its t print=none) :
  Calls Tryz.prog 149 #[(vP bs 0),(vP X.bt 0),(vS print)] w fun e w'=>∃ (x1 x2:Value),e = .returned (.tuple #[x1,x2,(.bool false)])∧Back [] w [] w':=by
 refine sE3 Tryz.func149 94 (Mm.start w []) ?_
 refine stSeq (reg (la ?_))
 refine la ?_
 refine la ?_
 refine liNil (qThen (stSeq ?_))
 have h32:=hset.1
 have hs:=hset.2
 refine anyBegin [] 12 (by kernel_rfl) (fun _ h=>h) ?_
 refine am 0 ?_
 refine ac 1 (vP bs 0) ?_
 refine ac 2 (vP bs 0) ?_
 refine av 3 _ rfl (rW (fun w hM=>At.cell (r1.now hM) 0)) ?_
 refine am 4 ?_
 refine a1 5 ?_
 refine opK0 (fun w hM=>(qCells X t w (r3.go0 hM)).mono ?_)
 rintro e w' ⟨rfl,hP⟩
 refine ⟨_,_,rfl,hP,?_⟩; clear hP hM
 refine anyNext _ (fun _ h=>h) (fun _ h=>h) ?_
 refine a1 6 ?_
 refine opK0 (fun w hM=>(qTableOf A c its t.cells.length w (r0.go0 hM) (r2.go0 hM) (by assumption) (by assumption) (by omega)).mono ?_)
 rintro e w' ⟨X25,rfl,hP⟩
 refine ⟨_,_,rfl,hP,?_⟩; clear hP hM
 refine anyNext _ (fun _ h=>h.pick [] rfl rfl) (fun _ h=>h) ?_
 refine am 7 ?_
 refine ac 8 (vP X25.bt 0) ?_
 refine ac 9 (.int .i64 0) ?_
 refine aa 10 ?_
 refine aa 11 ?_
 refine anyDone (by kernel_rfl) ?_
 refine qThen (stSeq (stSeq ?_))
 dsimp only [setAll,List.set,List.cons_append,List.nil_append]
 refine reg (lm ?_)
 refine lc (.bool false) ?_
 refine liNil (qThen (stFalse rfl (stSkip (qThen (stSeq (reg ?_))))))
 refine lm ?_
 refine lm ?_
 refine li rfl (opK0 (fun w hM=>(qSub_ok X25 (tabT its t.cells.length) X t w (hM.keep0 (j:=0) rfl (fun _ h=>h)) (r3.go0 hM) (by simp [tsame,tabT_len,tabT_seed,hs0])).mono ?_))
 rintro e w' ⟨Z33,rfl,hP⟩
 refine ⟨_,_,rfl,hP,?_⟩; clear hP hM
 refine lm ?_
 refine lc (vP Z33.bt 0) ?_
 refine lc (.int .i64 0) ?_
 refine la ?_
 refine la ?_
 refine liNil (qThen (stSeq (stSeq (reg (lm ?_)))))
 refine lc (.bool false) ?_
 refine liNil (qThen (stFalse rfl (stSkip (qThen (stSeq ?_)))))
 dsimp only [setAll,List.set,List.cons_append,List.nil_append]
 rcases diffA_none hd with hk | ⟨offs,needs,hk,hno⟩
 ·refine reg (lm ?_)
  refine li rfl (opK0 (fun w hM=>(qKeys_none Z33 ((tabT its t.cells.length).sub t) w (r0.go0 hM) (hM.keep0 (j:=1) rfl (fun _ h=>h)) (by assumption)).mono ?_))
  rintro e w' ⟨rfl,hP⟩
  refine ⟨_,_,rfl,hP,?_⟩; clear hP hM
  refine lm ?_
  refine lc (.slice none 0 0) ?_
  refine lc (.slice none 0 0) ?_
  refine lc (.int .i64 10) ?_
  iterate 3 refine la ?_
  refine liNil (qThen (stSeq (stSeq (reg (lm ?_)))))
  refine lc (.bool true) ?_
  refine lm ?_
  iterate 5 refine lnT ?_
  refine lc (.bool true) ?_
  refine liNil (qThen (stTrue rfl (stSeq (reg ?_))))
  iterate 3 refine la ?_
  refine liNil (qThen (stRet (qThenR (sN [(.slice none 0 0),(.slice none 0 0),(.bool false)] fun w hM=>?_))))
  exact ⟨(.slice none 0 0),(.slice none 0 0),rfl,(hM.pick [] rfl rfl)⟩
 ·have hkl:=keys_le hk
  rw [sub_len (by rw [tabT_len]),tabT_len] at hkl
  refine reg (lm ?_)
  refine li rfl (opK0 (fun w hM=>(qKeys_some Z33 ((tabT its t.cells.length).sub t) offs needs w (r0.go0 hM) (hM.keep0 (j:=1) rfl (fun _ h=>h)) (by assumption)).mono ?_))
  rintro e w' ⟨A140,c140,A240,c240,rfl,hP⟩
  refine ⟨_,_,rfl,hP,?_⟩; clear hP hM
  refine lm ?_
  refine lc (vL A140 offs c140) ?_
  refine lc (vL A240 needs c240) ?_
  refine lc (.int .i64 0) ?_
  iterate 3 refine la ?_
  refine liNil (qThen (stSeq (stSeq (reg (lm ?_)))))
  refine lc (.bool false) ?_
  refine lm ?_
  iterate 3 refine lgm ?_
  refine liGo rfl rfl ?_
  refine opK0 (fun w hM=>(qAgrees bs A c its v1 v2 v3 v4 v5 v6 v7 v8 v9 v10 A240 c240 needs A140 c140 offs w (r1.go0 hM) (r2.go0 hM) (hM.keep0 (j:=3) rfl (fun _ h=>cRw_row h)) (hM.keep0 (j:=2) rfl (fun _ h=>cRw_row h)) (by assumption) (by omega) (by omega) (by omega)).mono ?_)
  rintro e w' ⟨rfl,hP⟩
  refine ⟨_,_,rfl,hP,?_⟩; clear hP hM
  refine lgc (.bool (!(agreesB its needs offs))) ?_
  refine lc (.bool (!(agreesB its needs offs))) ?_
  refine liNil (qThen (stCond rfl (fun hc52=>?_) (fun hc52=>?_)))
  ·refine stSeq (reg (la ?_))
   refine la ?_
   refine la ?_
   refine liNil (qThen (stRet (qThenR (sN [(.slice none 0 0),(.slice none 0 0),(.bool false)] fun w hM=>?_))))
   exact ⟨(.slice none 0 0),(.slice none 0 0),rfl,(hM.pick [] rfl rfl)⟩
  ·have hag:agreesB its needs offs=true:=by simpa using hc52
   refine stSkip (qThen (stSeq (reg (la ?_))))
   refine liNil (qThen (stSeq (stSeq (reg (lm ?_)))))
   refine lc (vP bs 0) ?_
   refine lc (vP bs 0) ?_
   refine lv (rW (fun w hM=>At.cell (r1.now hM) 0)) ?_
   refine lc (vI its.length) ?_
   refine lm ?_
   refine liNil (qThen (stBlock ?_))
   have hse2:=hno hag
   have hao:=(keys_pk (sub_ok (tabT_ok h32 t.cells.length) hto) hk).1.1
   refine St.mem (fun w hM=>hM.nilOwn 9 1) ?_
   refine sL (fun (i,B,cb)=>i≤its.length) (fun (i,B,cb)=>its.length - i) (fun (i,B,cb)=>[(2,(vS print)),(6,(vL A140 offs c140)),(7,(vL A240 needs c240)),(8,(.bool false)),(10,(.int .i64 0)),(56,(vL A its c)),(57,(vI its.length)),(12,(vL B (without (its.take i) offs) cb)),(58,(vI i))]) (fun (i,B,cb)=>[cT X25 (tabT its t.cells.length),cT Z33 ((tabT its t.cells.length).sub t),cRw A140 (SS offs),cRw A240 (SS needs),cS B (without (its.take i) offs) cb]) (0,none,0) (Nat.zero_le _) (fun _ h=>h) ?_
   rintro ⟨i,B,cb⟩ (hok:i≤its.length)
   dsimp only
   refine stSeq (reg (lc (.bool (decide (((i:Nat):Int) < ((its.length:Nat):Int)))) ?_))
   refine liNil (qThen (stSeq (stCond rfl (fun hc59=>?_) (fun hc59=>?_))))
   ·have hd59:=of_decide_eq_true hc59
    refine stSkip (qThen (stSeq (stBlock (stSeq (reg ?_)))))
    obtain ⟨x0,hx0⟩:∃ ξ,(its)[i]?=some ξ:=⟨_,List.getElem?_eq_getElem (by omega)⟩
    refine St.rowPtr (fun w hM=>r2.now hM) (SS_at hx0) (fun p60 q60 hA60 hc60=>?_)
    refine lv (v:=(vP p60 (q60+i))) (rR 9 hA60) ?_
    refine lv (rW hc60) ?_
    refine la ?_
    refine liNil (qThen (stSeq (reg (lm ?_))))
    refine lm ?_
    refine li rfl (opK0 (fun w hM=>(qBSearch A140 c140 offs x0 w (hM.keep0 (j:=2) rfl (fun _ h=>cRw_row h)) (by assumption) (by omega)).mono ?_))
    rintro e w' ⟨rfl,hP⟩
    refine ⟨_,_,rfl,hP,?_⟩; clear hP hM
    refine lm ?_
    refine lc (vI (posB offs x0)) ?_
    refine lc (.bool (offs.contains x0)) ?_
    refine la ?_
    refine la ?_
    refine liNil (qThen (stSeq (reg (lm ?_))))
    refine lc (.bool (!(offs.contains x0))) ?_
    refine liNil (qThen (stCond rfl (fun hc69=>?_) (fun hc69=>?_)))
    ·refine reg (lm ?_)
     refine lm ?_
     refine li rfl (oNw 1 9 [(vS x0)] fun b72=>?_)
     refine li rfl (opAppend el_strC 4 ([(vS x0)]) rfl rfl (by kernel_rfl) rfl rfl rfl (rfl) (srcAt (i:=5) rfl (fun j v h=>by rw [Nat.zero_add]; exact h)) (by simp [Value.oneCell']) (by have h:=without_len (its.take i) offs; simp only [List.length_take] at h; omega) ((without (its.take i) offs++[x0]).length) (by first | exact (List.length_append ..).symm | (simp; done) | (simp; omega)) (SS (without (its.take i) offs++[x0])) (by simp [SS]) (fun A73 c73=>?_))
     refine la ?_
     refine liNil (qBlock (qThen (reg ?_)))
     refine lv (v:=(vI (i+1))) rAd ?_
     refine lm ?_
     refine liNil (qThen ?_)
     rw [show without (its.take i) offs++[x0]=without (its.take (i+1)) offs from without_yes hx0 (by simpa using hc69)]
     exact sA (i+1,A73,c73) (by show _≤_; omega) (by show its.length - (i+1) < its.length - i; omega) (fun w hM=>(hM.pick [0,1,2,3,4] rfl rfl))
    ·refine stSkip (qBlock (qThen (reg ?_)))
     refine lv (v:=(vI (i+1))) rAd ?_
     refine lm ?_
     refine liNil (qThen ?_)
     rw [show without (its.take i) offs=without (its.take (i+1)) offs from without_no hx0 (by simpa using hc69)]
     exact sA (i+1,B,cb) (by show _≤_; omega) (by show its.length - (i+1) < its.length - i; omega) (fun w hM=>hM)
   ·have hd59:=of_decide_eq_false hc59
    obtain rfl:i=its.length:=by omega
    rw [List.take_length]
    have hwl:=without_len its offs
    refine stExit (qThenX (qThenX (qBlockX (qThen (stSeq (reg ?_))))))
    refine lm ?_
    refine lm ?_
    refine li rfl (opAppend el_strC 4 (SS needs) rfl rfl (by kernel_rfl) rfl rfl rfl (by simp) (fun w hM=>CellsAt.of_row (cRw_row (hM.at (i:=3) rfl))) (SS_one) (by omega) ((without its offs++needs).length) (by first | exact (List.length_append ..).symm | (simp; done) | (simp; omega)) (SS (without its offs++needs)) (by simp [SS]) (fun A77 c77=>?_))
    refine la ?_
    refine liNil (qThen (stSeq ?_))
    dsimp only [setAll,List.set,List.cons_append,List.nil_append]
    have hol:(without its offs++needs).length≤1000:=by rw [List.length_append]; omega
    refine reg (lm ?_)
    refine li rfl (opK [4] _ (fun w hM hO=>(qSort A77 c77 (without its offs++needs) w hO (by rw [List.length_append]; omega)).mono ?_))
    rintro e w' ⟨rfl,hP⟩
    refine ⟨_,[_],_,rfl,hP,rfl,?_⟩; clear hP hM hO
    refine liNil (qThen (stSeq ?_))
    dsimp only [setAll,List.set,List.cons_append,List.nil_append]
    rcases Decidable.em (setE (otherL its offs needs)=0) with he9 | he9
    ·rw [show (without its offs++needs).length=(otherL its offs needs).length from (qsortS_len _).symm]
     have hol2:(otherL its offs needs).length≤1000:=by unfold otherL; rw [qsortS_len]; exact hol
     refine reg (lm ?_)
     refine li rfl (opK0 (fun w hM=>(rsFp_ok A77 c77 (otherL its offs needs) w (r0.go0 hM) (hM.keep0 (j:=4) rfl (fun _ h=>cRw_row h)) (by omega) (he9) (by omega)).mono ?_))
     rintro e w' ⟨rfl,hP⟩
     refine ⟨_,_,rfl,hP,?_⟩; clear hP hM
     refine lm ?_
     refine lc (vS (fpB (otherL its offs needs))) ?_
     refine lc (.int .i64 0) ?_
     refine la ?_
     refine la ?_
     refine liNil (qThen (stSeq (reg (lm ?_))))
     refine lm ?_
     refine lm ?_
     refine lc (.bool true) ?_
     refine lm ?_
     refine lgm ?_
     refine lgm ?_
     refine lgv (v:=(.bool (decide ((fpB (otherL its offs needs))=print)))) (rStrEq rfl rfl rfl) ?_
     refine lc (.bool (decide ((fpB (otherL its offs needs))=print))) ?_
     iterate 3 refine la ?_
     refine liNil (qThen (stRet (sN [(vL A140 offs c140),(vL A240 needs c240),(.bool (decide ((fpB (otherL its offs needs))=print)))] fun w hM=>?_)))
     exact ⟨(vL A140 offs c140),(vL A240 needs c240),by rw [show decide (fpB (otherL its offs needs)=print)=false from by simpa using hse2 he9]; rfl,(hM.pick [] rfl rfl)⟩
    ·rw [show (without its offs++needs).length=(otherL its offs needs).length from (qsortS_len _).symm]
     have hol2:(otherL its offs needs).length≤1000:=by unfold otherL; rw [qsortS_len]; exact hol
     refine reg (lm ?_)
     refine li rfl (opK0 (fun w hM=>(rsFp_bad A77 c77 (otherL its offs needs) w (hM.keep0 (j:=4) rfl (fun _ h=>cRw_row h)) (by omega) (he9)).mono ?_))
     rintro e w' ⟨rfl,hP⟩
     refine ⟨_,_,rfl,hP,?_⟩; clear hP hM
     refine lm ?_
     refine lc (vS []) ?_
     refine lc (.int .i64 (setE (otherL its offs needs))) ?_
     refine la ?_
     refine la ?_
     refine liNil (qThen (stSeq (reg (lm ?_))))
     refine lm ?_
     refine lm ?_
     refine lc (.bool (((setE (otherL its offs needs)):Int) == 0)) ?_
     refine lm ?_
     refine St.known 89 (b':=false) rfl (by simpa using he9) ?_
     iterate 3 refine lnF ?_
     refine lc (.bool false) ?_
     iterate 3 refine la ?_
     refine liNil (qThen (stRet (sN [(vL A140 offs c140),(vL A240 needs c240),(.bool false)] fun w hM=>?_)))
     exact ⟨(vL A140 offs c140),(vL A240 needs c240),rfl,(hM.pick [] rfl rfl)⟩
theorem qAccTable0 (bs:Nat) (A:Option Addr) (c:Nat) (its:List (List UInt8)) (v1 v2:Value) (v3 v4:Value) (v5 v6:Value) (v8 v9 v10:Value) (X:Option Addr × Nat) (br:Nat) (r:Rd) (print:List UInt8) (q1:Rd) (t:BT) (se:Nat) (A2:Option Addr) (c2 nm om:Nat) (w:World) (hO:Own [cAt bs 101 [(vL A its c),v1,v2,v3,v4,v5,v6,(vP se 0),v8,v9,v10],cRd X br (r)] w) (r0:Rf [cAt bs 101 [(vL A its c),v1,v2,v3,v4,v5,v6,(vP se 0),v8,v9,v10],cRd X br (r)] w (Vars)) (r1:Rf [cAt bs 101 [(vL A its c),v1,v2,v3,v4,v5,v6,(vP se 0),v8,v9,v10],cRd X br (r)] w (fun w=>RowIn w A (SS its))) (r2:Rf [cAt bs 101 [(vL A its c),v1,v2,v3,v4,v5,v6,(vP se 0),v8,v9,v10],cRd X br (r)] w (SessAt se A2 c2 its 4 4 nm om)) (hp:r.sum=(print,q1)) (htd:decd q1.rest.1=some t) (hend:q1.rest.2.end_=0) (hs0:t.seed=0) (hset:okSet its) (h40:its.length≤40) (hc2:its.length≤c2) (hsm:t.cells.length≤600) (hd:diffA its t print=none) :
  Calls Tryz.prog 104 #[(vP bs 0),(vP br 0)] w fun e w'=>∃ (Am:Option Addr) (cm:Nat),e = .returned (.int .i64 0)∧Back [cAt bs 101 [(vL A its c),v1,v2,v3,v4,v5,v6,(vP se 0),v8,v9,v10],cRd X br (r)] w [cAt bs 101 [(vL A its c),v1,(.int .i64 1),(vI 3),(vL Am (withB 3 (encA [sumA its [] []])) cm),v5,v6,(vP se 0),v8,v9,v10],cRd X br (q1.rest.2),cB Am (withB 3 (encA [sumA its [] []])) cm] w':=by
 refine sE2 Tryz.func104 100 (hO) ?_
 refine stSeq (reg (la ?_))
 refine liNil (qThen (stSeq (reg (lm ?_))))
 refine li rfl (opK [1] _ (fun w hM hO=>(rsRSum_any X br r w hO).mono ?_))
 rintro e w' ⟨rfl,hP⟩
 refine ⟨_,[_],_,rfl,hP,rfl,?_⟩; clear hP hM hO
 refine la ?_
 refine liNil (qThen (stSeq ?_))
 rw [show r.sum.1=print from by rw [hp]]
 rw [show r.sum.2=q1 from by rw [hp]]
 refine St.fact (fun w hM=>(hM.at (i:=1) (c:=cRd X br q1) rfl).2.len) (fun hrl=>?_)
 have hrt:=q1.text_le (q1.D.length - q1.off)
 refine reg (lm ?_)
 refine lm ?_
 refine li rfl (opK [1] _ (fun w hM hO=>(rsRLeft_any X br q1 w hO).mono ?_))
 rintro e w' ⟨rfl,hP⟩
 refine ⟨_,[_],_,rfl,hP,rfl,?_⟩; clear hP hM hO
 refine li rfl (opK [1] _ (fun w hM hO=>(rsRBytes_any X br q1 (q1.D.length - q1.off) w hO (by omega)).mono ?_))
 rintro e w' ⟨B25,cb25,rfl,hP⟩
 refine ⟨_,[_],_,rfl,hP,rfl,?_⟩; clear hP hM hO
 rw [show q1.text (q1.D.length - q1.off)=q1.rest from rfl]
 refine li rfl (opK0 (fun w hM=>(qDec_some B25 cb25 q1.rest.1 t w (hM.keep0 (j:=2) rfl (fun _ h=>RowIn.of_own h)) (by unfold Rd.rest; omega) (by assumption)).mono ?_))
 rintro e w' ⟨X26,rfl,hP⟩
 refine ⟨_,_,rfl,hP,?_⟩; clear hP hM
 have hz:=(decd_enc htd).2
 have hto:=(decd_small htd).1
 refine lm ?_
 refine lc (vP X26.bt 0) ?_
 refine lc (.int .i64 0) ?_
 refine la ?_
 refine la ?_
 refine liNil (qThen (stSeq (stSeq ?_)))
 dsimp only [setAll,List.set,List.cons_append,List.nil_append]
 refine reg (lm ?_)
 refine li rfl (opK [1] _ (fun w hM hO=>(rsREnd_any X br q1.rest.2 w hO).mono ?_))
 rintro e w' ⟨rfl,hP⟩
 refine ⟨_,[_],_,rfl,hP,rfl,?_⟩; clear hP hM hO
 refine lm ?_
 refine lc (vI q1.rest.2.off) ?_
 refine lc (.int .i64 q1.rest.2.end_) ?_
 refine la ?_
 refine la ?_
 refine liNil (qThen (stSeq (reg (lm ?_))))
 refine lc (.bool ((q1.rest.2.end_:Int) != 0)) ?_
 refine lm ?_
 refine St.known 36 (b':=false) rfl (by rw [hend]; simp) ?_
 refine lgm ?_
 refine lgc (.bool false) ?_
 refine lc (.bool false) ?_
 refine lm ?_
 refine lgm ?_
 refine lgm ?_
 refine liGo rfl rfl ?_
 refine opK0 (fun w hM=>(qCells X26 t w (hM.keep0 (j:=3) rfl (fun _ h=>h))).mono ?_)
 rintro e w' ⟨rfl,hP⟩
 refine ⟨_,_,rfl,hP,?_⟩; clear hP hM
 refine liGo rfl rfl ?_
 refine opK0 (fun w hM=>(qIsT X26 t t.cells.length 0 w (hM.keep0 (j:=3) rfl (fun _ h=>h)) (hz) (by unfold U64; decide)).mono ?_)
 rintro e w' ⟨rfl,hP⟩
 refine ⟨_,_,rfl,hP,?_⟩; clear hP hM
 refine lgc (.bool (!(isT t t.cells.length 0))) ?_
 refine lc (.bool (!(isT t t.cells.length 0))) ?_
 refine liNil (qThen (stFalseK rfl (by rw [isT_self hs0]; rfl) ?_))
 refine stSkip (qThen (stSeq (reg (lm ?_))))
 refine lm ?_
 refine lm ?_
 refine li rfl (opK0 (fun w hM=>(qDifference_none bs A c its v1 v2 v3 v4 v5 v6 (vP se 0) v8 v9 v10 X26 t print w (r0.go0 hM) (hM.keep0 (j:=0) rfl (fun _ h=>h)) (r1.go0 hM) (hM.keep0 (j:=3) rfl (fun _ h=>h)) (by assumption) (by assumption) (by assumption) (by assumption) (by assumption) (by assumption) (by assumption)).mono ?_))
 rintro e w' ⟨x151,x251,rfl,hP⟩
 refine ⟨_,_,rfl,hP,?_⟩; clear hP hM
 refine lm ?_
 refine lc x151 ?_
 refine lc x251 ?_
 refine lc (.bool false) ?_
 iterate 3 refine la ?_
 refine liNil (qThen (stSeq (stSeq ?_)))
 dsimp only [setAll,List.set,List.cons_append,List.nil_append]
 refine reg (lm ?_)
 refine lc (.bool true) ?_
 refine liNil (qThen (stTrue rfl (stSeq (reg ?_))))
 refine lm ?_
 refine li rfl (opK [0] _ (fun w hM hO=>(qBegin bs (vL A its c) v1 v2 v3 v4 v5 v6 v8 v9 v10 its se A2 c2 nm om w hO (r0.goS hM [0]) (r2.goS hM [0]) (by assumption) (by assumption) (by assumption)).mono ?_))
 rintro e w' ⟨Am58,cm58,rfl,hP⟩
 refine ⟨_,[_],_,rfl,hP,rfl,?_⟩; clear hP hM hO
 refine liNil (qThen (stSeq (reg (la ?_))))
 refine liNil (qThen (stRet (qThenR (sN [(.int .i64 0)] fun w hM=>?_))))
 exact ⟨Am58,cm58,rfl,(hM.pick [0,1,4] rfl rfl)⟩
theorem qAccRange (bs:Nat) (A:Option Addr) (c:Nat) (its:List (List UInt8)) (v1 v2:Value) (v3 v4:Value) (v5 v6:Value) (v8 v9 v10:Value) (X:Option Addr × Nat) (br:Nat) (r:Rd) (se:Nat) (A2:Option Addr) (c2 nm om:Nat) (S S2:List (List UInt8)) (w:World) (hO:Own [cAt bs 101 [(vL A its c),v1,v2,v3,v4,v5,v6,(vP se 0),v8,v9,v10],cRd X br (r),cSet nm (S),cSet om (S2)] w) (r0:Rf [cAt bs 101 [(vL A its c),v1,v2,v3,v4,v5,v6,(vP se 0),v8,v9,v10],cRd X br (r),cSet nm (S),cSet om (S2)] w (Vars)) (r1:Rf [cAt bs 101 [(vL A its c),v1,v2,v3,v4,v5,v6,(vP se 0),v8,v9,v10],cRd X br (r),cSet nm (S),cSet om (S2)] w (fun w=>RowIn w A (SS its))) (r2:Rf [cAt bs 101 [(vL A its c),v1,v2,v3,v4,v5,v6,(vP se 0),v8,v9,v10],cRd X br (r),cSet nm (S),cSet om (S2)] w (SessAt se A2 c2 its 4 4 nm om)) (hend:r.rest.2.end_=0) (hne:r.rest.1≠[]) (hset:okSet its) (h40:its.length≤40) (hc2:its.length≤c2) (hD1:r.rest.1.length≤1048576) (her:(stepA its 4 4 r.rest.1).err=0) (hS:S.length≤549755813888) (hT:S2.length≤549755813888) (hre:(stepA its 4 4 r.rest.1).reply≠[]) :
  Calls Tryz.prog 105 #[(vP bs 0),(vP br 0)] w fun e w'=>∃ (Am:Option Addr) (cm:Nat),e = .returned (.int .i64 0)∧Back [cAt bs 101 [(vL A its c),v1,v2,v3,v4,v5,v6,(vP se 0),v8,v9,v10],cRd X br (r),cSet nm (S),cSet om (S2)] w [cAt bs 101 [(vL A its c),v1,(.int .i64 1),(vI 3),(vL Am (withB 3 (stepA its 4 4 r.rest.1).reply) cm),v5,v6,(vP se 0),v8,v9,v10],cRd X br (r.rest.2),cSet nm (S++(stepA its 4 4 r.rest.1).need),cSet om (S2++(stepA its 4 4 r.rest.1).off),cB Am (withB 3 (stepA its 4 4 r.rest.1).reply) cm] w':=by
 refine sE2 Tryz.func105 51 (hO) ?_
 refine stSeq (reg (la ?_))
 refine liNil (qThen (stSeq (St.fact (fun w hM=>(hM.at (i:=1) (c:=cRd X br r) rfl).2.len) (fun hrl=>?_))))
 have hsl:=step_len its 4 4 r.rest.1
 refine reg (lm ?_)
 refine lm ?_
 refine li rfl (opK [1] _ (fun w hM hO=>(rsRLeft_any X br r w hO).mono ?_))
 rintro e w' ⟨rfl,hP⟩
 refine ⟨_,[_],_,rfl,hP,rfl,?_⟩; clear hP hM hO
 refine li rfl (opK [1] _ (fun w hM hO=>(rsRBytes_any X br r (r.D.length - r.off) w hO (by omega)).mono ?_))
 rintro e w' ⟨B13,cb13,rfl,hP⟩
 refine ⟨_,[_],_,rfl,hP,rfl,?_⟩; clear hP hM hO
 rw [show r.text (r.D.length - r.off)=r.rest from rfl]
 refine la ?_
 refine liNil (qThen (stSeq (stSeq (reg (lm ?_)))))
 refine li rfl (opK [1] _ (fun w hM hO=>(rsREnd_any X br r.rest.2 w hO).mono ?_))
 rintro e w' ⟨rfl,hP⟩
 refine ⟨_,[_],_,rfl,hP,rfl,?_⟩; clear hP hM hO
 refine lm ?_
 refine lc (vI r.rest.2.off) ?_
 refine lc (.int .i64 r.rest.2.end_) ?_
 refine la ?_
 refine la ?_
 refine liNil (qThen (stSeq (reg (lm ?_))))
 refine lc (.bool ((r.rest.2.end_:Int) != 0)) ?_
 refine lm ?_
 refine St.known 21 (b':=false) rfl (by rw [hend]; simp) ?_
 refine lgm ?_
 refine lgc (vI ((r.rest.1).length)) ?_
 refine lgc (.bool (((((r.rest.1).length:Nat):Int):Int) == 0)) ?_
 refine lc (.bool (((((r.rest.1).length:Nat):Int):Int) == 0)) ?_
 refine liNil (qThen (stFalseK rfl (by have h9:=List.length_pos_iff.2 hne; simp; exact hne) ?_))
 refine stSkip (qThen (stSeq (reg (lm ?_))))
 refine lc (vP bs 0) ?_
 refine lc (vP bs 7) ?_
 refine ll 0 ?_
 refine lm ?_
 refine li rfl (opK [2,3] _ (fun w hM hO=>(rsStep_any se A2 c2 its 4 4 nm om B13 cb13 r.rest.1 S S2 w hO (r0.goS hM [2,3]) (r2.goS hM [2,3]) (hM.keepS [2,3] (j:=4) rfl (fun _ h=>RowIn.of_own h)) (hset) (by omega) (hc2) (h40) (by decide) (by decide) (by decide) (by decide) (hD1) (hS) (hT)).mono ?_))
 rintro e w' ⟨B32,cb32,rfl,hP⟩
 refine ⟨_,[_,_],_,rfl,hP,rfl,?_⟩; clear hP hM hO
 refine lm ?_
 refine lc (vL B32 ((stepA its 4 4 r.rest.1).reply) cb32) ?_
 refine lc (.int .i64 (stepA its 4 4 r.rest.1).err) ?_
 refine la ?_
 refine la ?_
 refine liNil (qThen (stSeq (stSeq ?_)))
 dsimp only [setAll,List.set,List.cons_append,List.nil_append]
 refine reg (lm ?_)
 refine lc (.bool (((stepA its 4 4 r.rest.1).err:Int) != 0)) ?_
 refine liNil (qThen (stFalseK rfl (by rw [her]; simp) ?_))
 refine stSkip (qThen (stSeq (stSeq (reg (lm ?_)))))
 refine lc (vI (((stepA its 4 4 r.rest.1).reply).length)) ?_
 refine lc (.bool (decide (((((stepA its 4 4 r.rest.1).reply).length:Nat):Int) > 0))) ?_
 refine liNil (qThen (stTrueK rfl (by have h9:=List.length_pos_iff.2 hre; simp; omega) ?_))
 refine stSeq (reg (lm ?_))
 refine lm ?_
 refine li rfl (opK0 (fun w hM=>(qWithB 3 B32 cb32 ((stepA its 4 4 r.rest.1).reply) w (hM.keep0 (j:=5) rfl (fun _ h=>RowIn.of_own h)) (by omega) (by omega)).mono ?_))
 rintro e w' ⟨A243,c243,rfl,hP⟩
 refine ⟨_,_,rfl,hP,?_⟩; clear hP hM
 refine li rfl (opK [0] _ (fun w hM hO=>(qSend bs (vL A its c) v1 v2 v3 v4 v5 v6 (vP se 0) v8 v9 v10 3 A243 ((withB 3 ((stepA its 4 4 r.rest.1).reply)).length) c243 w hO).mono ?_))
 rintro e w' ⟨rfl,hP⟩
 refine ⟨_,[_],_,rfl,hP,rfl,?_⟩; clear hP hM hO
 refine liNil (qThen (stSeq (reg (la ?_))))
 refine liNil (qThen (stRet (qThenR (sN [(.int .i64 0)] fun w hM=>?_))))
 exact ⟨A243,c243,rfl,(hM.pick [0,1,2,3,6] rfl rfl)⟩
theorem qAccRange0 (bs:Nat) (A:Option Addr) (c:Nat) (its:List (List UInt8)) (v1 v2:Value) (v3 v4:Value) (v5 v6:Value) (v8 v9 v10:Value) (X:Option Addr × Nat) (br:Nat) (r:Rd) (se:Nat) (A2:Option Addr) (c2 nm om:Nat) (S S2:List (List UInt8)) (w:World) (hO:Own [cAt bs 101 [(vL A its c),v1,v2,v3,v4,v5,v6,(vP se 0),v8,v9,v10],cRd X br (r),cSet nm (S),cSet om (S2)] w) (r0:Rf [cAt bs 101 [(vL A its c),v1,v2,v3,v4,v5,v6,(vP se 0),v8,v9,v10],cRd X br (r),cSet nm (S),cSet om (S2)] w (Vars)) (r1:Rf [cAt bs 101 [(vL A its c),v1,v2,v3,v4,v5,v6,(vP se 0),v8,v9,v10],cRd X br (r),cSet nm (S),cSet om (S2)] w (fun w=>RowIn w A (SS its))) (r2:Rf [cAt bs 101 [(vL A its c),v1,v2,v3,v4,v5,v6,(vP se 0),v8,v9,v10],cRd X br (r),cSet nm (S),cSet om (S2)] w (SessAt se A2 c2 its 4 4 nm om)) (hend:r.rest.2.end_=0) (hne:r.rest.1≠[]) (hset:okSet its) (h40:its.length≤40) (hc2:its.length≤c2) (hD1:r.rest.1.length≤1048576) (her:(stepA its 4 4 r.rest.1).err=0) (hS:S.length≤549755813888) (hT:S2.length≤549755813888) (hre:(stepA its 4 4 r.rest.1).reply=[]) :
  Calls Tryz.prog 105 #[(vP bs 0),(vP br 0)] w fun e w'=>∃ (Am:Option Addr) (cm:Nat),e = .returned (.int .i64 0)∧Back [cAt bs 101 [(vL A its c),v1,v2,v3,v4,v5,v6,(vP se 0),v8,v9,v10],cRd X br (r),cSet nm (S),cSet om (S2)] w [cAt bs 101 [(vL A its c),v1,(.int .i64 1),(vI 5),(vL Am (num 5) cm),v5,(.bool true),(vP se 0),v8,v9,v10],cRd X br (r.rest.2),cSet nm (S++(stepA its 4 4 r.rest.1).need),cSet om (S2++(stepA its 4 4 r.rest.1).off),cB Am (num 5) cm] w':=by
 refine sE2 Tryz.func105 51 (hO) ?_
 refine stSeq (reg (la ?_))
 refine liNil (qThen (stSeq (St.fact (fun w hM=>(hM.at (i:=1) (c:=cRd X br r) rfl).2.len) (fun hrl=>?_))))
 have hsl:=step_len its 4 4 r.rest.1
 refine reg (lm ?_)
 refine lm ?_
 refine li rfl (opK [1] _ (fun w hM hO=>(rsRLeft_any X br r w hO).mono ?_))
 rintro e w' ⟨rfl,hP⟩
 refine ⟨_,[_],_,rfl,hP,rfl,?_⟩; clear hP hM hO
 refine li rfl (opK [1] _ (fun w hM hO=>(rsRBytes_any X br r (r.D.length - r.off) w hO (by omega)).mono ?_))
 rintro e w' ⟨B13,cb13,rfl,hP⟩
 refine ⟨_,[_],_,rfl,hP,rfl,?_⟩; clear hP hM hO
 rw [show r.text (r.D.length - r.off)=r.rest from rfl]
 refine la ?_
 refine liNil (qThen (stSeq (stSeq (reg (lm ?_)))))
 refine li rfl (opK [1] _ (fun w hM hO=>(rsREnd_any X br r.rest.2 w hO).mono ?_))
 rintro e w' ⟨rfl,hP⟩
 refine ⟨_,[_],_,rfl,hP,rfl,?_⟩; clear hP hM hO
 refine lm ?_
 refine lc (vI r.rest.2.off) ?_
 refine lc (.int .i64 r.rest.2.end_) ?_
 refine la ?_
 refine la ?_
 refine liNil (qThen (stSeq (reg (lm ?_))))
 refine lc (.bool ((r.rest.2.end_:Int) != 0)) ?_
 refine lm ?_
 refine St.known 21 (b':=false) rfl (by rw [hend]; simp) ?_
 refine lgm ?_
 refine lgc (vI ((r.rest.1).length)) ?_
 refine lgc (.bool (((((r.rest.1).length:Nat):Int):Int) == 0)) ?_
 refine lc (.bool (((((r.rest.1).length:Nat):Int):Int) == 0)) ?_
 refine liNil (qThen (stFalseK rfl (by have h9:=List.length_pos_iff.2 hne; simp; exact hne) ?_))
 refine stSkip (qThen (stSeq (reg (lm ?_))))
 refine lc (vP bs 0) ?_
 refine lc (vP bs 7) ?_
 refine ll 0 ?_
 refine lm ?_
 refine li rfl (opK [2,3] _ (fun w hM hO=>(rsStep_any se A2 c2 its 4 4 nm om B13 cb13 r.rest.1 S S2 w hO (r0.goS hM [2,3]) (r2.goS hM [2,3]) (hM.keepS [2,3] (j:=4) rfl (fun _ h=>RowIn.of_own h)) (hset) (by omega) (hc2) (h40) (by decide) (by decide) (by decide) (by decide) (hD1) (hS) (hT)).mono ?_))
 rintro e w' ⟨B32,cb32,rfl,hP⟩
 refine ⟨_,[_,_],_,rfl,hP,rfl,?_⟩; clear hP hM hO
 refine lm ?_
 refine lc (vL B32 ((stepA its 4 4 r.rest.1).reply) cb32) ?_
 refine lc (.int .i64 (stepA its 4 4 r.rest.1).err) ?_
 refine la ?_
 refine la ?_
 refine liNil (qThen (stSeq (stSeq ?_)))
 dsimp only [setAll,List.set,List.cons_append,List.nil_append]
 refine reg (lm ?_)
 refine lc (.bool (((stepA its 4 4 r.rest.1).err:Int) != 0)) ?_
 refine liNil (qThen (stFalseK rfl (by rw [her]; simp) ?_))
 refine stSkip (qThen (stSeq (stSeq (reg (lm ?_)))))
 refine lc (vI (((stepA its 4 4 r.rest.1).reply).length)) ?_
 refine lc (.bool (decide (((((stepA its 4 4 r.rest.1).reply).length:Nat):Int) > 0))) ?_
 refine liNil (qThen (stFalseK rfl (by rw [hre]; rfl) ?_))
 refine stSkip (qThen (stSeq (reg (lm ?_))))
 refine lc (vP bs 0) ?_
 refine lc (vP bs 6) ?_
 refine li rfl (oS1 0 ?_)
 refine liNil (qThen (stSeq (reg (lm ?_))))
 refine li rfl (opK0 (fun w hM=>(qAppU none 0 noB 5 w ro_nilB (by omega) (by decide)).mono ?_))
 rintro e w' ⟨A249,c249,rfl,hP⟩
 refine ⟨_,_,rfl,hP,?_⟩; clear hP hM
 rw [show noB++num 5=num 5 from rfl]
 refine li rfl (opK [0] _ (fun w hM hO=>(qSend bs (vL A its c) v1 v2 v3 v4 v5 (.bool true) (vP se 0) v8 v9 v10 5 A249 ((num 5).length) c249 w hO).mono ?_))
 rintro e w' ⟨rfl,hP⟩
 refine ⟨_,[_],_,rfl,hP,rfl,?_⟩; clear hP hM hO
 refine liNil (qThen (stSeq (reg (la ?_))))
 refine liNil (qThen (stRet (sN [(.int .i64 0)] fun w hM=>?_)))
 exact ⟨A249,c249,rfl,(hM.pick [0,1,2,3,6] rfl rfl)⟩
theorem qAcceptT (bs:Nat) (A:Option Addr) (c:Nat) (its:List (List UInt8)) (v1 v2:Value) (v4 v6:Value) (v8 v9 v10:Value) (AD:Option Addr) (cD:Nat) (Dm:List UInt8) (q0:Rd) (print:List UInt8) (q1:Rd) (t:BT) (se:Nat) (A2:Option Addr) (c2 nm om:Nat) (w:World) (hO:Own [cAt bs 101 [(vL A its c),v1,v2,(vI 1),v4,(.bool false),v6,(vP se 0),v8,v9,v10]] w) (r0:Rf [cAt bs 101 [(vL A its c),v1,v2,(vI 1),v4,(.bool false),v6,(vP se 0),v8,v9,v10]] w (Vars)) (r1:Rf [cAt bs 101 [(vL A its c),v1,v2,(vI 1),v4,(.bool false),v6,(vP se 0),v8,v9,v10]] w (fun w=>RowIn w A (SS its))) (r2:Rf [cAt bs 101 [(vL A its c),v1,v2,(vI 1),v4,(.bool false),v6,(vP se 0),v8,v9,v10]] w (fun w=>RowIn w AD (B8 Dm))) (r3:Rf [cAt bs 101 [(vL A its c),v1,v2,(vI 1),v4,(.bool false),v6,(vP se 0),v8,v9,v10]] w (SessAt se A2 c2 its 4 4 nm om)) (hDl:Dm.length≤4294967296) (hu:(Rd.mk Dm 0 0 0).uint=(2,q0)) (hp:q0.sum=(print,q1)) (htd:decd q1.rest.1=some t) (hend:q1.rest.2.end_=0) (hs0:t.seed=0) (hset:okSet its) (h40:its.length≤40) (hc2:its.length≤c2) (hsm:t.cells.length≤600) (hd:diffA its t print=none) :
  Calls Tryz.prog 58 #[(vP bs 0),(vL AD Dm cD)] w fun e w'=>∃ (Am:Option Addr) (cm:Nat),e = .returned (.int .i64 0)∧Back [cAt bs 101 [(vL A its c),v1,v2,(vI 1),v4,(.bool false),v6,(vP se 0),v8,v9,v10]] w [cAt bs 101 [(vL A its c),v1,(.int .i64 1),(vI 3),(vL Am (withB 3 (encA [sumA its [] []])) cm),(.bool true),v6,(vP se 0),v8,v9,v10],cB Am (withB 3 (encA [sumA its [] []])) cm] w':=by
 refine sE2 Tryz.func58 95 (hO) ?_
 refine stSeq (reg (la ?_))
 refine liNil (qThen (stSeq (reg (lm ?_))))
 refine li rfl (opK0 (fun w hM=>(rsRNew_any AD cD Dm w (r2.go0 hM) (hDl)).mono ?_))
 rintro e w' ⟨X10,br10,rfl,hP⟩
 refine ⟨_,_,rfl,hP,?_⟩; clear hP hM
 refine la ?_
 refine liNil (qThen (stSeq (reg (la ?_))))
 refine liNil (qThen (stSeq (stSeq (reg (lm ?_)))))
 refine li rfl (opK [1] _ (fun w hM hO=>(rsRUint_any X10 br10 (Rd.mk Dm 0 0 0) w hO).mono ?_))
 rintro e w' ⟨rfl,hP⟩
 refine ⟨_,[_],_,rfl,hP,rfl,?_⟩; clear hP hM hO
 refine liNil (qThen (stBlock (stSeq ?_)))
 rw [show (Rd.mk Dm 0 0 0).uint.1=2 from by rw [hu]]
 rw [show (Rd.mk Dm 0 0 0).uint.2=q0 from by rw [hu]]
 refine reg (lc (.bool false) ?_)
 refine la ?_
 refine liNil (qThen (stFalse rfl (stSeq (reg ?_))))
 refine lc (.bool true) ?_
 refine la ?_
 refine liNil (qThen (stTrue rfl (stSeq (reg ?_))))
 refine lm ?_
 refine lc (vP bs 0) ?_
 refine lc (vP bs 3) ?_
 refine ll 0 ?_
 refine lc (.bool true) ?_
 refine lm ?_
 refine lgm ?_
 refine lgc (vP bs 0) ?_
 refine lgc (vP bs 5) ?_
 refine lgv (v:=(.bool false)) (rLoad 0 rfl rfl (by kernel_rfl) rfl rfl) ?_
 refine lgc (.bool true) ?_
 refine lc (.bool true) ?_
 refine liNil (qThen (stTrue rfl (reg ?_)))
 refine lm ?_
 refine lm ?_
 refine li rfl (opK [0,1] _ (fun w hM hO=>(qAccTable0 bs A c its v1 v2 (vI 1) v4 (.bool false) v6 v8 v9 v10 X10 br10 q0 print q1 t se A2 c2 nm om w hO (r0.goS hM [0,1]) (r1.goS hM [0,1]) (r3.goS hM [0,1]) (hp) (htd) (hend) (hs0) (hset) (h40) (hc2) (hsm) (hd)).mono ?_))
 rintro e w' ⟨Am46,cm46,rfl,hP⟩
 refine ⟨_,[_,_],_,rfl,hP,rfl,?_⟩; clear hP hM hO
 refine la ?_
 refine liNil (qBlock (qThen (stSeq (stSeq (reg ?_)))))
 refine lm ?_
 refine lc (.bool true) ?_
 refine liNil (qThen (stTrue rfl (reg ?_)))
 refine lm ?_
 refine lc (vP bs 0) ?_
 refine lc (vP bs 5) ?_
 refine li rfl (oS1 0 ?_)
 refine liNil (qThen (stSeq ?_))
 dsimp only [setAll,List.set,List.cons_append,List.nil_append]
 refine reg (lm ?_)
 refine la ?_
 refine liNil (qThen (stRet (sN [(.int .i64 0)] fun w hM=>?_)))
 exact ⟨Am46,cm46,rfl,(hM.pick [0,2] rfl rfl)⟩
theorem qAcceptR (bs:Nat) (A:Option Addr) (c:Nat) (its:List (List UInt8)) (v1 v2:Value) (v4 v5:Value) (v6 v8:Value) (v9 v10:Value) (AD:Option Addr) (cD:Nat) (Dm:List UInt8) (q0:Rd) (se:Nat) (A2:Option Addr) (c2 nm om:Nat) (S S2:List (List UInt8)) (kd:Nat) (w:World) (hO:Own [cAt bs 101 [(vL A its c),v1,v2,(vI kd),v4,v5,v6,(vP se 0),v8,v9,v10],cSet nm (S),cSet om (S2)] w) (r0:Rf [cAt bs 101 [(vL A its c),v1,v2,(vI kd),v4,v5,v6,(vP se 0),v8,v9,v10],cSet nm (S),cSet om (S2)] w (Vars)) (r1:Rf [cAt bs 101 [(vL A its c),v1,v2,(vI kd),v4,v5,v6,(vP se 0),v8,v9,v10],cSet nm (S),cSet om (S2)] w (fun w=>RowIn w A (SS its))) (r2:Rf [cAt bs 101 [(vL A its c),v1,v2,(vI kd),v4,v5,v6,(vP se 0),v8,v9,v10],cSet nm (S),cSet om (S2)] w (fun w=>RowIn w AD (B8 Dm))) (r3:Rf [cAt bs 101 [(vL A its c),v1,v2,(vI kd),v4,v5,v6,(vP se 0),v8,v9,v10],cSet nm (S),cSet om (S2)] w (SessAt se A2 c2 its 4 4 nm om)) (hDl:Dm.length≤4294967296) (hu:(Rd.mk Dm 0 0 0).uint=(3,q0)) (hend:q0.rest.2.end_=0) (hne:q0.rest.1≠[]) (hset:okSet its) (h40:its.length≤40) (hc2:its.length≤c2) (hD1:q0.rest.1.length≤1048576) (her:(stepA its 4 4 q0.rest.1).err=0) (hS:S.length≤549755813888) (hT:S2.length≤549755813888) (hre:(stepA its 4 4 q0.rest.1).reply≠[]) (hkd:kd≠0) :
  Calls Tryz.prog 58 #[(vP bs 0),(vL AD Dm cD)] w fun e w'=>∃ (Am:Option Addr) (cm:Nat),e = .returned (.int .i64 0)∧Back [cAt bs 101 [(vL A its c),v1,v2,(vI kd),v4,v5,v6,(vP se 0),v8,v9,v10],cSet nm (S),cSet om (S2)] w [cAt bs 101 [(vL A its c),v1,(.int .i64 1),(vI 3),(vL Am (withB 3 (stepA its 4 4 q0.rest.1).reply) cm),(.bool true),v6,(vP se 0),v8,v9,v10],cSet nm (S++(stepA its 4 4 q0.rest.1).need),cSet om (S2++(stepA its 4 4 q0.rest.1).off),cB Am (withB 3 (stepA its 4 4 q0.rest.1).reply) cm] w':=by
 refine sE2 Tryz.func58 95 (hO) ?_
 refine stSeq (reg (la ?_))
 refine liNil (qThen (stSeq (reg (lm ?_))))
 refine li rfl (opK0 (fun w hM=>(rsRNew_any AD cD Dm w (r2.go0 hM) (hDl)).mono ?_))
 rintro e w' ⟨X10,br10,rfl,hP⟩
 refine ⟨_,_,rfl,hP,?_⟩; clear hP hM
 refine la ?_
 refine liNil (qThen (stSeq (reg (la ?_))))
 refine liNil (qThen (stSeq (stSeq (reg (lm ?_)))))
 refine li rfl (opK [3] _ (fun w hM hO=>(rsRUint_any X10 br10 (Rd.mk Dm 0 0 0) w hO).mono ?_))
 rintro e w' ⟨rfl,hP⟩
 refine ⟨_,[_],_,rfl,hP,rfl,?_⟩; clear hP hM hO
 refine liNil (qThen (stBlock (stSeq ?_)))
 rw [show (Rd.mk Dm 0 0 0).uint.1=3 from by rw [hu]]
 rw [show (Rd.mk Dm 0 0 0).uint.2=q0 from by rw [hu]]
 refine reg (lc (.bool false) ?_)
 refine la ?_
 refine liNil (qThen (stFalse rfl (stSeq (reg ?_))))
 refine lc (.bool false) ?_
 refine la ?_
 refine liNil (qThen (stFalse rfl (stSeq (reg ?_))))
 refine lc (.bool true) ?_
 refine la ?_
 refine liNil (qThen (stTrue rfl (stSeq (reg ?_))))
 refine lm ?_
 refine lc (vP bs 0) ?_
 refine lc (vP bs 3) ?_
 refine ll 0 ?_
 refine lc (.bool ((((kd:Nat):Int):Int) != 0)) ?_
 refine liNil (qThen (stTrueK rfl (by simp; omega) ?_))
 refine reg (lm ?_)
 refine lm ?_
 refine li rfl (opK [0,3,1,2] _ (fun w hM hO=>(qAccRange bs A c its v1 v2 (vI kd) v4 v5 v6 v8 v9 v10 X10 br10 q0 se A2 c2 nm om S S2 w hO (r0.goS hM [0,3,1,2]) (r1.goS hM [0,3,1,2]) (r3.goS hM [0,3,1,2]) (hend) (hne) (hset) (h40) (hc2) (hD1) (her) (hS) (hT) (hre)).mono ?_))
 rintro e w' ⟨Am56,cm56,rfl,hP⟩
 refine ⟨_,[_,_,_,_],_,rfl,hP,rfl,?_⟩; clear hP hM hO
 refine la ?_
 refine liNil (qBlock (qThen (stSeq (stSeq (reg ?_)))))
 refine lm ?_
 refine lc (.bool true) ?_
 refine liNil (qThen (stTrue rfl (reg ?_)))
 refine lm ?_
 refine lc (vP bs 0) ?_
 refine lc (vP bs 5) ?_
 refine li rfl (oS1 0 ?_)
 refine liNil (qThen (stSeq ?_))
 dsimp only [setAll,List.set,List.cons_append,List.nil_append]
 refine reg (lm ?_)
 refine la ?_
 refine liNil (qThen (stRet (sN [(.int .i64 0)] fun w hM=>?_)))
 exact ⟨Am56,cm56,rfl,(hM.pick [0,1,2,4] rfl rfl)⟩
theorem qAcceptE (bs:Nat) (A:Option Addr) (c:Nat) (its:List (List UInt8)) (v1 v2:Value) (v4 v5:Value) (v6 v8:Value) (v9 v10:Value) (AD:Option Addr) (cD:Nat) (Dm:List UInt8) (q0:Rd) (se:Nat) (A2:Option Addr) (c2 nm om:Nat) (S S2:List (List UInt8)) (kd:Nat) (w:World) (hO:Own [cAt bs 101 [(vL A its c),v1,v2,(vI kd),v4,v5,v6,(vP se 0),v8,v9,v10],cSet nm (S),cSet om (S2)] w) (r0:Rf [cAt bs 101 [(vL A its c),v1,v2,(vI kd),v4,v5,v6,(vP se 0),v8,v9,v10],cSet nm (S),cSet om (S2)] w (Vars)) (r1:Rf [cAt bs 101 [(vL A its c),v1,v2,(vI kd),v4,v5,v6,(vP se 0),v8,v9,v10],cSet nm (S),cSet om (S2)] w (fun w=>RowIn w A (SS its))) (r2:Rf [cAt bs 101 [(vL A its c),v1,v2,(vI kd),v4,v5,v6,(vP se 0),v8,v9,v10],cSet nm (S),cSet om (S2)] w (fun w=>RowIn w AD (B8 Dm))) (r3:Rf [cAt bs 101 [(vL A its c),v1,v2,(vI kd),v4,v5,v6,(vP se 0),v8,v9,v10],cSet nm (S),cSet om (S2)] w (SessAt se A2 c2 its 4 4 nm om)) (hDl:Dm.length≤4294967296) (hu:(Rd.mk Dm 0 0 0).uint=(3,q0)) (hend:q0.rest.2.end_=0) (hne:q0.rest.1≠[]) (hset:okSet its) (h40:its.length≤40) (hc2:its.length≤c2) (hD1:q0.rest.1.length≤1048576) (her:(stepA its 4 4 q0.rest.1).err=0) (hS:S.length≤549755813888) (hT:S2.length≤549755813888) (hre:(stepA its 4 4 q0.rest.1).reply=[]) (hkd:kd≠0) :
  Calls Tryz.prog 58 #[(vP bs 0),(vL AD Dm cD)] w fun e w'=>∃ (Am:Option Addr) (cm:Nat),e = .returned (.int .i64 0)∧Back [cAt bs 101 [(vL A its c),v1,v2,(vI kd),v4,v5,v6,(vP se 0),v8,v9,v10],cSet nm (S),cSet om (S2)] w [cAt bs 101 [(vL A its c),v1,(.int .i64 1),(vI 5),(vL Am (num 5) cm),(.bool true),(.bool true),(vP se 0),v8,v9,v10],cSet nm (S++(stepA its 4 4 q0.rest.1).need),cSet om (S2++(stepA its 4 4 q0.rest.1).off),cB Am (num 5) cm] w':=by
 refine sE2 Tryz.func58 95 (hO) ?_
 refine stSeq (reg (la ?_))
 refine liNil (qThen (stSeq (reg (lm ?_))))
 refine li rfl (opK0 (fun w hM=>(rsRNew_any AD cD Dm w (r2.go0 hM) (hDl)).mono ?_))
 rintro e w' ⟨X10,br10,rfl,hP⟩
 refine ⟨_,_,rfl,hP,?_⟩; clear hP hM
 refine la ?_
 refine liNil (qThen (stSeq (reg (la ?_))))
 refine liNil (qThen (stSeq (stSeq (reg (lm ?_)))))
 refine li rfl (opK [3] _ (fun w hM hO=>(rsRUint_any X10 br10 (Rd.mk Dm 0 0 0) w hO).mono ?_))
 rintro e w' ⟨rfl,hP⟩
 refine ⟨_,[_],_,rfl,hP,rfl,?_⟩; clear hP hM hO
 refine liNil (qThen (stBlock (stSeq ?_)))
 rw [show (Rd.mk Dm 0 0 0).uint.1=3 from by rw [hu]]
 rw [show (Rd.mk Dm 0 0 0).uint.2=q0 from by rw [hu]]
 refine reg (lc (.bool false) ?_)
 refine la ?_
 refine liNil (qThen (stFalse rfl (stSeq (reg ?_))))
 refine lc (.bool false) ?_
 refine la ?_
 refine liNil (qThen (stFalse rfl (stSeq (reg ?_))))
 refine lc (.bool true) ?_
 refine la ?_
 refine liNil (qThen (stTrue rfl (stSeq (reg ?_))))
 refine lm ?_
 refine lc (vP bs 0) ?_
 refine lc (vP bs 3) ?_
 refine ll 0 ?_
 refine lc (.bool ((((kd:Nat):Int):Int) != 0)) ?_
 refine liNil (qThen (stTrueK rfl (by simp; omega) ?_))
 refine reg (lm ?_)
 refine lm ?_
 refine li rfl (opK [0,3,1,2] _ (fun w hM hO=>(qAccRange0 bs A c its v1 v2 (vI kd) v4 v5 v6 v8 v9 v10 X10 br10 q0 se A2 c2 nm om S S2 w hO (r0.goS hM [0,3,1,2]) (r1.goS hM [0,3,1,2]) (r3.goS hM [0,3,1,2]) (hend) (hne) (hset) (h40) (hc2) (hD1) (her) (hS) (hT) (hre)).mono ?_))
 rintro e w' ⟨Am56,cm56,rfl,hP⟩
 refine ⟨_,[_,_,_,_],_,rfl,hP,rfl,?_⟩; clear hP hM hO
 refine la ?_
 refine liNil (qBlock (qThen (stSeq (stSeq (reg ?_)))))
 refine lm ?_
 refine lc (.bool true) ?_
 refine liNil (qThen (stTrue rfl (reg ?_)))
 refine lm ?_
 refine lc (vP bs 0) ?_
 refine lc (vP bs 5) ?_
 refine li rfl (oS1 0 ?_)
 refine liNil (qThen (stSeq ?_))
 dsimp only [setAll,List.set,List.cons_append,List.nil_append]
 refine reg (lm ?_)
 refine la ?_
 refine liNil (qThen (stRet (sN [(.int .i64 0)] fun w hM=>?_)))
 exact ⟨Am56,cm56,rfl,(hM.pick [0,1,2,4] rfl rfl)⟩
theorem qAcceptF (bs:Nat) (v0 v1:Value) (v2 v4:Value) (v5 v6:Value) (v7 v8:Value) (v9 v10:Value) (AD:Option Addr) (cD:Nat) (Dm:List UInt8) (q0:Rd) (w:World) (hO:Own [cAt bs 101 [v0,v1,v2,(vI 3),v4,v5,v6,v7,v8,v9,v10]] w) (r0:Rf [cAt bs 101 [v0,v1,v2,(vI 3),v4,v5,v6,v7,v8,v9,v10]] w (fun w=>RowIn w AD (B8 Dm))) (hDl:Dm.length≤4294967296) (hu:(Rd.mk Dm 0 0 0).uint=(5,q0)) (hend:q0.end_=0) :
  Calls Tryz.prog 58 #[(vP bs 0),(vL AD Dm cD)] w fun e w'=>e = .returned (.int .i64 0)∧Back [cAt bs 101 [v0,v1,v2,(vI 3),v4,v5,v6,v7,v8,v9,v10]] w [cAt bs 101 [v0,v1,(.int .i64 0),(vI 3),v4,(.bool true),(.bool true),v7,v8,v9,v10]] w':=by
 refine sE2 Tryz.func58 95 (hO) ?_
 refine stSeq (reg (la ?_))
 refine liNil (qThen (stSeq (reg (lm ?_))))
 refine li rfl (opK0 (fun w hM=>(rsRNew_any AD cD Dm w (r0.go0 hM) (hDl)).mono ?_))
 rintro e w' ⟨X10,br10,rfl,hP⟩
 refine ⟨_,_,rfl,hP,?_⟩; clear hP hM
 refine la ?_
 refine liNil (qThen (stSeq (reg (la ?_))))
 refine liNil (qThen (stSeq (stSeq (reg (lm ?_)))))
 refine li rfl (opK [1] _ (fun w hM hO=>(rsRUint_any X10 br10 (Rd.mk Dm 0 0 0) w hO).mono ?_))
 rintro e w' ⟨rfl,hP⟩
 refine ⟨_,[_],_,rfl,hP,rfl,?_⟩; clear hP hM hO
 refine liNil (qThen (stBlock (stSeq ?_)))
 rw [show (Rd.mk Dm 0 0 0).uint.1=5 from by rw [hu]]
 rw [show (Rd.mk Dm 0 0 0).uint.2=q0 from by rw [hu]]
 refine reg (lc (.bool false) ?_)
 refine la ?_
 refine liNil (qThen (stFalse rfl (stSeq (reg ?_))))
 refine lc (.bool false) ?_
 refine la ?_
 refine liNil (qThen (stFalse rfl (stSeq (reg ?_))))
 refine lc (.bool false) ?_
 refine la ?_
 refine liNil (qThen (stFalse rfl (stSeq (reg ?_))))
 refine lc (.bool false) ?_
 refine la ?_
 refine liNil (qThen (stFalse rfl (stSeq (reg ?_))))
 refine lc (.bool true) ?_
 refine la ?_
 refine liNil (qThen (stTrue rfl (stSeq (reg ?_))))
 refine lm ?_
 refine li rfl (opK [1] _ (fun w hM hO=>(rsREnd_any X10 br10 q0 w hO).mono ?_))
 rintro e w' ⟨rfl,hP⟩
 refine ⟨_,[_],_,rfl,hP,rfl,?_⟩; clear hP hM hO
 refine lm ?_
 refine lc (vI q0.off) ?_
 refine lc (.int .i64 q0.end_) ?_
 refine la ?_
 refine la ?_
 refine liNil (qThen (stSeq (reg (lm ?_))))
 refine lc (.bool ((q0.end_:Int) == 0)) ?_
 refine lm ?_
 refine St.known 76 (b':=true) rfl (by rw [hend]; rfl) ?_
 refine lgm ?_
 refine lgc (vP bs 0) ?_
 refine lgc (vP bs 3) ?_
 refine lgv (v:=(vI 3)) (rLoad 0 rfl rfl (by kernel_rfl) rfl rfl) ?_
 refine lgc (.bool true) ?_
 refine lc (.bool true) ?_
 refine liNil (qThen (stTrue rfl (stSeq (reg ?_))))
 refine lm ?_
 refine lm ?_
 refine lc (vP bs 0) ?_
 refine lc (vP bs 6) ?_
 refine li rfl (oS1 0 ?_)
 refine lc (vP bs 0) ?_
 refine lc (vP bs 2) ?_
 refine li rfl (oS1 0 ?_)
 refine liNil (qThen ?_)
 dsimp only [setAll,List.set,List.cons_append,List.nil_append]
 refine reg (la ?_)
 refine liNil (qBlock (qThen (stSeq (stSeq (reg ?_)))))
 refine lm ?_
 refine lc (.bool true) ?_
 refine liNil (qThen (stTrue rfl (reg ?_)))
 refine lm ?_
 refine lc (vP bs 0) ?_
 refine lc (vP bs 5) ?_
 refine li rfl (oS1 0 ?_)
 refine liNil (qThen (stSeq (reg (lm ?_))))
 refine la ?_
 refine liNil (qThen (stRet (sN [(.int .i64 0)] fun w hM=>?_)))
 exact ⟨rfl,(hM.pick [0] rfl rfl)⟩
theorem qReceiveT (bs:Nat) (A:Option Addr) (c:Nat) (its:List (List UInt8)) (v1 v4:Value) (v6 v8:Value) (v9 v10:Value) (AD:Option Addr) (cD:Nat) (Dm:List UInt8) (q0:Rd) (print:List UInt8) (q1:Rd) (t:BT) (se:Nat) (A2:Option Addr) (c2 nm om:Nat) (w:World) (hO:Own [cAt bs 101 [(vL A its c),v1,(.int .i64 2),(vI 1),v4,(.bool false),v6,(vP se 0),v8,v9,v10]] w) (r0:Rf [cAt bs 101 [(vL A its c),v1,(.int .i64 2),(vI 1),v4,(.bool false),v6,(vP se 0),v8,v9,v10]] w (Vars)) (r1:Rf [cAt bs 101 [(vL A its c),v1,(.int .i64 2),(vI 1),v4,(.bool false),v6,(vP se 0),v8,v9,v10]] w (fun w=>RowIn w A (SS its))) (r2:Rf [cAt bs 101 [(vL A its c),v1,(.int .i64 2),(vI 1),v4,(.bool false),v6,(vP se 0),v8,v9,v10]] w (fun w=>RowIn w AD (B8 Dm))) (r3:Rf [cAt bs 101 [(vL A its c),v1,(.int .i64 2),(vI 1),v4,(.bool false),v6,(vP se 0),v8,v9,v10]] w (SessAt se A2 c2 its 4 4 nm om)) (hDl:Dm.length≤4294967296) (hu:(Rd.mk Dm 0 0 0).uint=(2,q0)) (hp:q0.sum=(print,q1)) (htd:decd q1.rest.1=some t) (hend:q1.rest.2.end_=0) (hs0:t.seed=0) (hset:okSet its) (h40:its.length≤40) (hc2:its.length≤c2) (hsm:t.cells.length≤600) (hd:diffA its t print=none) :
  Calls Tryz.prog 21 #[(vP bs 0),(vL AD Dm cD)] w fun e w'=>∃ (Am:Option Addr) (cm:Nat),e = .returned (.int .i64 0)∧Back [cAt bs 101 [(vL A its c),v1,(.int .i64 2),(vI 1),v4,(.bool false),v6,(vP se 0),v8,v9,v10]] w [cAt bs 101 [(vL A its c),v1,(.int .i64 1),(vI 3),(vL Am (withB 3 (encA [sumA its [] []])) cm),(.bool true),v6,(vP se 0),v8,v9,v10],cB Am (withB 3 (encA [sumA its [] []])) cm] w':=by
 refine sE2 Tryz.func21 26 (hO) ?_
 refine stSeq (reg (la ?_))
 refine liNil (qThen (stSeq (reg (li rfl (opMakeMapK kSt (fun v:Value=>v) rfl rfl (by kernel_rfl) (fun b8=>?_))))))
 refine lm ?_
 refine lc (.func (.func 58) #[(vP bs 0)] #[]) ?_
 refine li rfl (opMapIns (D:=kSt) (val:=fun v:Value=>v) (a:=2) (u:=(.func (.func 58) #[(vP bs 0)] #[])) 1 [(2,(.func (.func 58) #[(vP bs 0)] #[]))] rfl rfl (by kernel_rfl) rfl rfl rfl Tryz.underlying112 rfl (show (2:Nat) < 100 by decide) rfl ?_)
 refine lm ?_
 refine la ?_
 refine liNil (qThen (stSeq (reg (lm ?_))))
 refine lm ?_
 refine lc (vP bs 0) ?_
 refine lc (vP bs 2) ?_
 refine ll 0 ?_
 refine lv (v:=(.tuple #[(.func (.func 58) #[(vP bs 0)] #[]),(.bool true)])) (rConv (rMapGetOk (D:=kSt) (val:=fun v:Value=>v) (a:=2) (kv:=[(2,(.func (.func 58) #[(vP bs 0)] #[]))]) 1 rfl rfl rfl Tryz.underlying112 Tryz.zeroValue60 rfl (show (2:Nat) < 100 by decide)) rfl) ?_
 refine lm ?_
 refine lc (.func (.func 58) #[(vP bs 0)] #[]) ?_
 refine lc (.bool true) ?_
 refine la ?_
 refine la ?_
 refine liNil (qThen (stSeq (stSeq (reg (lm ?_)))))
 refine lc (.bool false) ?_
 refine liNil (qThen (stFalse rfl (stSkip (qThen (stSeq (reg ?_))))))
 refine lm ?_
 refine lm ?_
 refine li rfl (opK [0] [cAt bs 101 [(vL A its c),v1,(.int .i64 2),(vI 1),v4,(.bool false),v6,(vP se 0),v8,v9,v10]] (fun w hM hO=>(qAcceptT bs A c its v1 (.int .i64 2) v4 v6 v8 v9 v10 AD cD Dm q0 print q1 t se A2 c2 nm om w hO (r0.goS hM [0]) (r1.goS hM [0]) (r2.goS hM [0]) (r3.goS hM [0]) (hDl) (hu) (hp) (htd) (hend) (hs0) (hset) (h40) (hc2) (hsm) (hd)).mono ?_) rfl rfl rfl (by kernel_rfl) (hrBound rfl rfl rfl (enters Tryz.func58 (by kernel_rfl) rfl)))
 rintro e w' ⟨Am25,cm25,rfl,hP⟩
 refine ⟨_,[_],_,rfl,hP,rfl,?_⟩; clear hP hM hO
 refine la ?_
 refine liNil (qThen (stRet (sN [(.int .i64 0)] fun w hM=>?_)))
 exact ⟨Am25,cm25,rfl,(hM.pick [0,2] rfl rfl)⟩
theorem qReceiveR (bs:Nat) (A:Option Addr) (c:Nat) (its:List (List UInt8)) (v1 v4:Value) (v5 v6:Value) (v8 v9 v10:Value) (AD:Option Addr) (cD:Nat) (Dm:List UInt8) (q0:Rd) (se:Nat) (A2:Option Addr) (c2 nm om:Nat) (S S2:List (List UInt8)) (kd:Nat) (w:World) (hO:Own [cAt bs 101 [(vL A its c),v1,(.int .i64 2),(vI kd),v4,v5,v6,(vP se 0),v8,v9,v10],cSet nm (S),cSet om (S2)] w) (r0:Rf [cAt bs 101 [(vL A its c),v1,(.int .i64 2),(vI kd),v4,v5,v6,(vP se 0),v8,v9,v10],cSet nm (S),cSet om (S2)] w (Vars)) (r1:Rf [cAt bs 101 [(vL A its c),v1,(.int .i64 2),(vI kd),v4,v5,v6,(vP se 0),v8,v9,v10],cSet nm (S),cSet om (S2)] w (fun w=>RowIn w A (SS its))) (r2:Rf [cAt bs 101 [(vL A its c),v1,(.int .i64 2),(vI kd),v4,v5,v6,(vP se 0),v8,v9,v10],cSet nm (S),cSet om (S2)] w (fun w=>RowIn w AD (B8 Dm))) (r3:Rf [cAt bs 101 [(vL A its c),v1,(.int .i64 2),(vI kd),v4,v5,v6,(vP se 0),v8,v9,v10],cSet nm (S),cSet om (S2)] w (SessAt se A2 c2 its 4 4 nm om)) (hDl:Dm.length≤4294967296) (hu:(Rd.mk Dm 0 0 0).uint=(3,q0)) (hend:q0.rest.2.end_=0) (hne:q0.rest.1≠[]) (hset:okSet its) (h40:its.length≤40) (hc2:its.length≤c2) (hD1:q0.rest.1.length≤1048576) (her:(stepA its 4 4 q0.rest.1).err=0) (hS:S.length≤549755813888) (hT:S2.length≤549755813888) (hre:(stepA its 4 4 q0.rest.1).reply≠[]) (hkd:kd≠0) :
  Calls Tryz.prog 21 #[(vP bs 0),(vL AD Dm cD)] w fun e w'=>∃ (Am:Option Addr) (cm:Nat),e = .returned (.int .i64 0)∧Back [cAt bs 101 [(vL A its c),v1,(.int .i64 2),(vI kd),v4,v5,v6,(vP se 0),v8,v9,v10],cSet nm (S),cSet om (S2)] w [cAt bs 101 [(vL A its c),v1,(.int .i64 1),(vI 3),(vL Am (withB 3 (stepA its 4 4 q0.rest.1).reply) cm),(.bool true),v6,(vP se 0),v8,v9,v10],cSet nm (S++(stepA its 4 4 q0.rest.1).need),cSet om (S2++(stepA its 4 4 q0.rest.1).off),cB Am (withB 3 (stepA its 4 4 q0.rest.1).reply) cm] w':=by
 refine sE2 Tryz.func21 26 (hO) ?_
 refine stSeq (reg (la ?_))
 refine liNil (qThen (stSeq (reg (li rfl (opMakeMapK kSt (fun v:Value=>v) rfl rfl (by kernel_rfl) (fun b8=>?_))))))
 refine lm ?_
 refine lc (.func (.func 58) #[(vP bs 0)] #[]) ?_
 refine li rfl (opMapIns (D:=kSt) (val:=fun v:Value=>v) (a:=2) (u:=(.func (.func 58) #[(vP bs 0)] #[])) 3 [(2,(.func (.func 58) #[(vP bs 0)] #[]))] rfl rfl (by kernel_rfl) rfl rfl rfl Tryz.underlying112 rfl (show (2:Nat) < 100 by decide) rfl ?_)
 refine lm ?_
 refine la ?_
 refine liNil (qThen (stSeq (reg (lm ?_))))
 refine lm ?_
 refine lc (vP bs 0) ?_
 refine lc (vP bs 2) ?_
 refine ll 0 ?_
 refine lv (v:=(.tuple #[(.func (.func 58) #[(vP bs 0)] #[]),(.bool true)])) (rConv (rMapGetOk (D:=kSt) (val:=fun v:Value=>v) (a:=2) (kv:=[(2,(.func (.func 58) #[(vP bs 0)] #[]))]) 3 rfl rfl rfl Tryz.underlying112 Tryz.zeroValue60 rfl (show (2:Nat) < 100 by decide)) rfl) ?_
 refine lm ?_
 refine lc (.func (.func 58) #[(vP bs 0)] #[]) ?_
 refine lc (.bool true) ?_
 refine la ?_
 refine la ?_
 refine liNil (qThen (stSeq (stSeq (reg (lm ?_)))))
 refine lc (.bool false) ?_
 refine liNil (qThen (stFalse rfl (stSkip (qThen (stSeq (reg ?_))))))
 refine lm ?_
 refine lm ?_
 refine li rfl (opK [0,1,2] [cAt bs 101 [(vL A its c),v1,(.int .i64 2),(vI kd),v4,v5,v6,(vP se 0),v8,v9,v10],cSet nm (S),cSet om (S2)] (fun w hM hO=>(qAcceptR bs A c its v1 (.int .i64 2) v4 v5 v6 v8 v9 v10 AD cD Dm q0 se A2 c2 nm om S S2 kd w hO (r0.goS hM [0,1,2]) (r1.goS hM [0,1,2]) (r2.goS hM [0,1,2]) (r3.goS hM [0,1,2]) (hDl) (hu) (hend) (hne) (hset) (h40) (hc2) (hD1) (her) (hS) (hT) (hre) (hkd)).mono ?_) rfl rfl rfl (by kernel_rfl) (hrBound rfl rfl rfl (enters Tryz.func58 (by kernel_rfl) rfl)))
 rintro e w' ⟨Am25,cm25,rfl,hP⟩
 refine ⟨_,[_,_,_],_,rfl,hP,rfl,?_⟩; clear hP hM hO
 refine la ?_
 refine liNil (qThen (stRet (sN [(.int .i64 0)] fun w hM=>?_)))
 exact ⟨Am25,cm25,rfl,(hM.pick [0,1,2,4] rfl rfl)⟩
theorem qReceiveE (bs:Nat) (A:Option Addr) (c:Nat) (its:List (List UInt8)) (v1 v4:Value) (v5 v6:Value) (v8 v9 v10:Value) (AD:Option Addr) (cD:Nat) (Dm:List UInt8) (q0:Rd) (se:Nat) (A2:Option Addr) (c2 nm om:Nat) (S S2:List (List UInt8)) (kd:Nat) (w:World) (hO:Own [cAt bs 101 [(vL A its c),v1,(.int .i64 2),(vI kd),v4,v5,v6,(vP se 0),v8,v9,v10],cSet nm (S),cSet om (S2)] w) (r0:Rf [cAt bs 101 [(vL A its c),v1,(.int .i64 2),(vI kd),v4,v5,v6,(vP se 0),v8,v9,v10],cSet nm (S),cSet om (S2)] w (Vars)) (r1:Rf [cAt bs 101 [(vL A its c),v1,(.int .i64 2),(vI kd),v4,v5,v6,(vP se 0),v8,v9,v10],cSet nm (S),cSet om (S2)] w (fun w=>RowIn w A (SS its))) (r2:Rf [cAt bs 101 [(vL A its c),v1,(.int .i64 2),(vI kd),v4,v5,v6,(vP se 0),v8,v9,v10],cSet nm (S),cSet om (S2)] w (fun w=>RowIn w AD (B8 Dm))) (r3:Rf [cAt bs 101 [(vL A its c),v1,(.int .i64 2),(vI kd),v4,v5,v6,(vP se 0),v8,v9,v10],cSet nm (S),cSet om (S2)] w (SessAt se A2 c2 its 4 4 nm om)) (hDl:Dm.length≤4294967296) (hu:(Rd.mk Dm 0 0 0).uint=(3,q0)) (hend:q0.rest.2.end_=0) (hne:q0.rest.1≠[]) (hset:okSet its) (h40:its.length≤40) (hc2:its.length≤c2) (hD1:q0.rest.1.length≤1048576) (her:(stepA its 4 4 q0.rest.1).err=0) (hS:S.length≤549755813888) (hT:S2.length≤549755813888) (hre:(stepA its 4 4 q0.rest.1).reply=[]) (hkd:kd≠0) :
  Calls Tryz.prog 21 #[(vP bs 0),(vL AD Dm cD)] w fun e w'=>∃ (Am:Option Addr) (cm:Nat),e = .returned (.int .i64 0)∧Back [cAt bs 101 [(vL A its c),v1,(.int .i64 2),(vI kd),v4,v5,v6,(vP se 0),v8,v9,v10],cSet nm (S),cSet om (S2)] w [cAt bs 101 [(vL A its c),v1,(.int .i64 1),(vI 5),(vL Am (num 5) cm),(.bool true),(.bool true),(vP se 0),v8,v9,v10],cSet nm (S++(stepA its 4 4 q0.rest.1).need),cSet om (S2++(stepA its 4 4 q0.rest.1).off),cB Am (num 5) cm] w':=by
 refine sE2 Tryz.func21 26 (hO) ?_
 refine stSeq (reg (la ?_))
 refine liNil (qThen (stSeq (reg (li rfl (opMakeMapK kSt (fun v:Value=>v) rfl rfl (by kernel_rfl) (fun b8=>?_))))))
 refine lm ?_
 refine lc (.func (.func 58) #[(vP bs 0)] #[]) ?_
 refine li rfl (opMapIns (D:=kSt) (val:=fun v:Value=>v) (a:=2) (u:=(.func (.func 58) #[(vP bs 0)] #[])) 3 [(2,(.func (.func 58) #[(vP bs 0)] #[]))] rfl rfl (by kernel_rfl) rfl rfl rfl Tryz.underlying112 rfl (show (2:Nat) < 100 by decide) rfl ?_)
 refine lm ?_
 refine la ?_
 refine liNil (qThen (stSeq (reg (lm ?_))))
 refine lm ?_
 refine lc (vP bs 0) ?_
 refine lc (vP bs 2) ?_
 refine ll 0 ?_
 refine lv (v:=(.tuple #[(.func (.func 58) #[(vP bs 0)] #[]),(.bool true)])) (rConv (rMapGetOk (D:=kSt) (val:=fun v:Value=>v) (a:=2) (kv:=[(2,(.func (.func 58) #[(vP bs 0)] #[]))]) 3 rfl rfl rfl Tryz.underlying112 Tryz.zeroValue60 rfl (show (2:Nat) < 100 by decide)) rfl) ?_
 refine lm ?_
 refine lc (.func (.func 58) #[(vP bs 0)] #[]) ?_
 refine lc (.bool true) ?_
 refine la ?_
 refine la ?_
 refine liNil (qThen (stSeq (stSeq (reg (lm ?_)))))
 refine lc (.bool false) ?_
 refine liNil (qThen (stFalse rfl (stSkip (qThen (stSeq (reg ?_))))))
 refine lm ?_
 refine lm ?_
 refine li rfl (opK [0,1,2] [cAt bs 101 [(vL A its c),v1,(.int .i64 2),(vI kd),v4,v5,v6,(vP se 0),v8,v9,v10],cSet nm (S),cSet om (S2)] (fun w hM hO=>(qAcceptE bs A c its v1 (.int .i64 2) v4 v5 v6 v8 v9 v10 AD cD Dm q0 se A2 c2 nm om S S2 kd w hO (r0.goS hM [0,1,2]) (r1.goS hM [0,1,2]) (r2.goS hM [0,1,2]) (r3.goS hM [0,1,2]) (hDl) (hu) (hend) (hne) (hset) (h40) (hc2) (hD1) (her) (hS) (hT) (hre) (hkd)).mono ?_) rfl rfl rfl (by kernel_rfl) (hrBound rfl rfl rfl (enters Tryz.func58 (by kernel_rfl) rfl)))
 rintro e w' ⟨Am25,cm25,rfl,hP⟩
 refine ⟨_,[_,_,_],_,rfl,hP,rfl,?_⟩; clear hP hM hO
 refine la ?_
 refine liNil (qThen (stRet (sN [(.int .i64 0)] fun w hM=>?_)))
 exact ⟨Am25,cm25,rfl,(hM.pick [0,1,2,4] rfl rfl)⟩
theorem qReceiveF (bs:Nat) (v0 v1:Value) (v4 v5:Value) (v6 v7:Value) (v8 v9 v10:Value) (AD:Option Addr) (cD:Nat) (Dm:List UInt8) (q0:Rd) (w:World) (hO:Own [cAt bs 101 [v0,v1,(.int .i64 2),(vI 3),v4,v5,v6,v7,v8,v9,v10]] w) (r0:Rf [cAt bs 101 [v0,v1,(.int .i64 2),(vI 3),v4,v5,v6,v7,v8,v9,v10]] w (fun w=>RowIn w AD (B8 Dm))) (hDl:Dm.length≤4294967296) (hu:(Rd.mk Dm 0 0 0).uint=(5,q0)) (hend:q0.end_=0) :
  Calls Tryz.prog 21 #[(vP bs 0),(vL AD Dm cD)] w fun e w'=>e = .returned (.int .i64 0)∧Back [cAt bs 101 [v0,v1,(.int .i64 2),(vI 3),v4,v5,v6,v7,v8,v9,v10]] w [cAt bs 101 [v0,v1,(.int .i64 0),(vI 3),v4,(.bool true),(.bool true),v7,v8,v9,v10]] w':=by
 refine sE2 Tryz.func21 26 (hO) ?_
 refine stSeq (reg (la ?_))
 refine liNil (qThen (stSeq (reg (li rfl (opMakeMapK kSt (fun v:Value=>v) rfl rfl (by kernel_rfl) (fun b8=>?_))))))
 refine lm ?_
 refine lc (.func (.func 58) #[(vP bs 0)] #[]) ?_
 refine li rfl (opMapIns (D:=kSt) (val:=fun v:Value=>v) (a:=2) (u:=(.func (.func 58) #[(vP bs 0)] #[])) 1 [(2,(.func (.func 58) #[(vP bs 0)] #[]))] rfl rfl (by kernel_rfl) rfl rfl rfl Tryz.underlying112 rfl (show (2:Nat) < 100 by decide) rfl ?_)
 refine lm ?_
 refine la ?_
 refine liNil (qThen (stSeq (reg (lm ?_))))
 refine lm ?_
 refine lc (vP bs 0) ?_
 refine lc (vP bs 2) ?_
 refine ll 0 ?_
 refine lv (v:=(.tuple #[(.func (.func 58) #[(vP bs 0)] #[]),(.bool true)])) (rConv (rMapGetOk (D:=kSt) (val:=fun v:Value=>v) (a:=2) (kv:=[(2,(.func (.func 58) #[(vP bs 0)] #[]))]) 1 rfl rfl rfl Tryz.underlying112 Tryz.zeroValue60 rfl (show (2:Nat) < 100 by decide)) rfl) ?_
 refine lm ?_
 refine lc (.func (.func 58) #[(vP bs 0)] #[]) ?_
 refine lc (.bool true) ?_
 refine la ?_
 refine la ?_
 refine liNil (qThen (stSeq (stSeq (reg (lm ?_)))))
 refine lc (.bool false) ?_
 refine liNil (qThen (stFalse rfl (stSkip (qThen (stSeq (reg ?_))))))
 refine lm ?_
 refine lm ?_
 refine li rfl (opK [0] [cAt bs 101 [v0,v1,(.int .i64 2),(vI 3),v4,v5,v6,v7,v8,v9,v10]] (fun w hM hO=>(qAcceptF bs v0 v1 (.int .i64 2) v4 v5 v6 v7 v8 v9 v10 AD cD Dm q0 w hO (r0.goS hM [0]) (hDl) (hu) (hend)).mono ?_) rfl rfl rfl (by kernel_rfl) (hrBound rfl rfl rfl (enters Tryz.func58 (by kernel_rfl) rfl)))
 rintro e w' ⟨rfl,hP⟩
 refine ⟨_,[_],_,rfl,hP,rfl,?_⟩; clear hP hM hO
 refine la ?_
 refine liNil (qThen (stRet (sN [(.int .i64 0)] fun w hM=>?_)))
 exact ⟨rfl,(hM.pick [0] rfl rfl)⟩
structure StepOk (its : List Bs) (D : Bs) (r : StepR) : Prop where
 need : ∀ x ∈ r.need, x ∉ its ∧ x.length = 32
 off : ∀ x ∈ r.off, x ∈ its
 cnt : r.need.length * 32 ≤ D.length
 err : r.err ≠ 0 → r.reply = [] ∧ r.need = [] ∧ r.off = []
theorem need_enc {its:List Bs} {p:AP} (hp:p.ok):(needA its p).length*32≤p.enc.length:=by
 obtain ⟨_,h3⟩:=hp
 obtain ⟨lo,hi,c⟩:=p
 cases c with
 | sum n f=>simp [needA]
 | list xs =>
   have h1:=without_len xs its
   have h2:=flat_len h3.2.1
   simp only [needA,AP.enc,AC.enc,List.length_append,h2]
   omega
 | ans xs ms =>
   have h1:=without_len xs its
   have h2:=flat_len h3.1.2.1
   simp only [needA,AP.enc,AC.enc,List.length_append,h2]
   omega
theorem step_sound (its:List Bs) (fan leaf:Nat) (D:Bs):StepOk its D (stepA its fan leaf D):=by
 have h0:∀ e:Int,StepOk its D ⟨[],e,[],[]⟩:=fun e=>⟨(fun x hx=>by cases hx),(fun x hx=>by cases hx),by simp,fun _=>⟨rfl,rfl,rfl⟩⟩
 unfold stepA
 split
 ·exact h0 0
 ·split
  ·exact h0 3
  ·rename_i ps hd
   split
   ·exact h0 2
   ·obtain ⟨hD,hm,_⟩:=decA_sound hd
    refine ⟨?_,?_,?_,fun h=>absurd rfl h⟩
    ·intro x hx
     obtain ⟨p,hp,hx⟩:=List.mem_flatMap.1 hx
     refine ⟨?_,(needA_len (hm.2.1 p hp)).2 x hx⟩
     obtain ⟨lo,hi,c⟩:=p
     cases c with
     | sum n f=>cases hx
     | list xs=>exact (mem_without.1 (show x∈without xs its from hx)).2
     | ans xs ms=>exact (mem_without.1 (show x∈without xs its from hx)).2
    ·intro x hx
     obtain ⟨p,hp,hx⟩:=List.mem_flatMap.1 hx
     obtain ⟨lo,hi,c⟩:=p
     cases c with
     | sum n f=>cases hx
     | list xs=>exact (mem_inL.1 (mem_without.1 (show x∈without (inL its lo hi) xs from hx)).1).1
     | ans xs ms=>exact (mem_keepIn.1 (show x∈keepIn ms its from hx)).2
    ·have key:∀ l:List AP,(∀ p∈l,p.ok)→(l.flatMap (needA its)).length*32≤(l.flatMap AP.enc).length:=by
      intro l
      induction l with
      | nil=>intro _; simp
      | cons p l ih =>
        intro h
        have h1:=need_enc (its:=its) (h p (by simp))
        have h2:=ih fun q hq=>h q (by simp [hq])
        simp only [List.flatMap_cons,List.length_append]
        omega
     have h1:=key ps hm.2.1
     have hne:ps.length≠0:=fun e=>hm.1 (List.eq_nil_of_length_eq_zero e)
     have h2:(ps.flatMap AP.enc).length≤D.length:=by
      rw [hD,encA,if_neg hne,List.length_append]; omega
     exact Nat.le_trans h1 h2
theorem setE_with {N:List Bs} (h:∀ x∈N,x.length=32) (hl:N.length≤16384):setE (withL [] N)=0:=by
 have h1:=withL_len N []
 exact setE_ok (by simp at h1; omega) ⟨fun x hx=>h x (mem_withL0.1 hx),withL_asc0 N⟩
theorem setE_off {O l:List Bs} (h:∀ x∈O,x∈l) (hl:okSet l) (h4:l.length≤40):setE (withL [] O)=0∧(withL [] O).length≤40:=by
 have h1:(withL [] O).length≤40:=Nat.le_trans (asc_sub_len (withL_asc0 _) fun x hx=>h x (mem_withL0.1 hx)) h4
 exact ⟨setE_ok (by omega) ⟨fun x hx=>hl.1 x (h x (mem_withL0.1 hx)),withL_asc0 O⟩,h1⟩
theorem isT_seed {t:BT} (h:t.seed≠0):isT t t.cells.length 0=false:=by simp [isT,h]
theorem qAccSketchB (bs:Nat) (X:Option Addr × Nat) (br:Nat) (r:Rd) (w:World) (hO:Own [cRd X br (r)] w) (hbad:rdSk r.rest.1=none∨r.rest.2.end_≠0) :
  Calls Tryz.prog 103 #[(vP bs 0),(vP br 0)] w fun e w'=>∃ (z:Int),e = .returned (.int .i64 z)∧Back [cRd X br (r)] w [cRd X br (r.rest.2)] w'∧(z≠0):=by
 refine sE2 Tryz.func103 103 (hO) ?_
 refine stSeq (reg (la ?_))
 refine liNil (qThen (stSeq (St.fact (fun w hM=>(hM.at (i:=0) (c:=cRd X br r) rfl).2.len) (fun hrl=>?_))))
 have hrt:=r.text_le (r.D.length - r.off)
 refine reg (lm ?_)
 refine lm ?_
 refine li rfl (opK [0] _ (fun w hM hO=>(rsRLeft_any X br r w hO).mono ?_))
 rintro e w' ⟨rfl,hP⟩
 refine ⟨_,[_],_,rfl,hP,rfl,?_⟩; clear hP hM hO
 refine li rfl (opK [0] _ (fun w hM hO=>(rsRBytes_any X br r (r.D.length - r.off) w hO (by omega)).mono ?_))
 rintro e w' ⟨B20,cb20,rfl,hP⟩
 refine ⟨_,[_],_,rfl,hP,rfl,?_⟩; clear hP hM hO
 rw [show r.text (r.D.length - r.off)=r.rest from rfl]
 refine li rfl (opK0 (fun w hM=>(qRead B20 cb20 r.rest.1 w (hM.keep0 (j:=1) rfl (fun _ h=>RowIn.of_own h)) (by unfold Rd.rest; omega)).mono ?_))
 rintro e w' ⟨cl21,Xs21,ts21,rfl,hP,hs21,hcl21⟩
 refine ⟨_,_,rfl,hP,?_⟩; clear hP hM
 refine lm ?_
 refine lc (.agg (cl21).toArray) ?_
 refine lc (.bool (rdSk r.rest.1).isSome) ?_
 refine li rfl (oAl [(.pointer none),(.pointer none),(.pointer none),(.pointer none),(.pointer none),(.pointer none),(.pointer none),(.pointer none),(.pointer none),(.pointer none),(.pointer none),(.pointer none)] fun b5=>?_)
 refine li rfl (opStoreN 3 cl21 (vs:=cl21) rfl rfl (by kernel_rfl) rfl rfl rfl (by rw [hcl21.1]; kernel_rfl) rfl (by rw [hcl21.1]; decide) hcl21.2 (by rw [List.take_zero,List.nil_append,hcl21.1]; simp) ?_)
 refine la ?_
 refine liNil (qThen (stSeq (stSeq ?_)))
 dsimp only [setAll,List.set,List.cons_append,List.nil_append]
 refine reg (lm ?_)
 refine li rfl (opK [0] _ (fun w hM hO=>(rsREnd_any X br r.rest.2 w hO).mono ?_))
 rintro e w' ⟨rfl,hP⟩
 refine ⟨_,[_],_,rfl,hP,rfl,?_⟩; clear hP hM hO
 refine lm ?_
 refine lc (vI r.rest.2.off) ?_
 refine lc (.int .i64 r.rest.2.end_) ?_
 refine la ?_
 refine la ?_
 refine liNil (qThen (stSeq (reg (lm ?_))))
 refine lc (.bool ((r.rest.2.end_:Int) != 0)) ?_
 refine lm ?_
 refine St.dec 31 rfl (fun hc31=>?_) (fun hc31=>?_)
 ·refine lnT ?_
  refine lnT ?_
  refine lc (.bool true) ?_
  refine liNil (qThen (stTrue rfl (stSeq (reg ?_))))
  refine la ?_
  refine liNil (qThen (stRet (qThenR (sN [(.int .i64 3)] fun w hM=>?_))))
  exact ⟨3,rfl,(hM.pick [0] rfl rfl),by decide⟩
 ·have hno:rdSk r.rest.1=none:=hbad.resolve_right (by simpa using hc31)
  refine lgm ?_
  refine lgc (.bool (!(rdSk r.rest.1).isSome)) ?_
  refine lc (.bool (!(rdSk r.rest.1).isSome)) ?_
  refine liNil (qThen (stTrueK rfl (by rw [hno]; rfl) ?_))
  refine stSeq (reg (la ?_))
  refine liNil (qThen (stRet (qThenR (sN [(.int .i64 3)] fun w hM=>?_))))
  exact ⟨3,rfl,(hM.pick [0] rfl rfl),by decide⟩
theorem qAccSketchS (bs:Nat) (A:Option Addr) (c:Nat) (its:List (List UInt8)) (v1 v2:Value) (v3 v4:Value) (v5 v6:Value) (v8 v9 v10:Value) (X:Option Addr × Nat) (br:Nat) (r:Rd) (ts:List BT) (k se:Nat) (A2:Option Addr) (c2 nm om:Nat) (w:World) (hO:Own [cAt bs 101 [(vL A its c),v1,v2,v3,v4,v5,v6,(vP se 0),v8,v9,v10],cRd X br (r)] w) (r0:Rf [cAt bs 101 [(vL A its c),v1,v2,v3,v4,v5,v6,(vP se 0),v8,v9,v10],cRd X br (r)] w (Vars)) (r1:Rf [cAt bs 101 [(vL A its c),v1,v2,v3,v4,v5,v6,(vP se 0),v8,v9,v10],cRd X br (r)] w (fun w=>RowIn w A (SS its))) (r2:Rf [cAt bs 101 [(vL A its c),v1,v2,v3,v4,v5,v6,(vP se 0),v8,v9,v10],cRd X br (r)] w (SessAt se A2 c2 its 4 4 nm om)) (hts:rdSk r.rest.1=some ts) (hend:r.rest.2.end_=0) (hset:okSet its) (h40:its.length≤40) (hc2:its.length≤c2) (hest:est ts (strata its)=k) (hk:500 < k) :
  Calls Tryz.prog 103 #[(vP bs 0),(vP br 0)] w fun e w'=>∃ (Am:Option Addr) (cm:Nat),e = .returned (.int .i64 0)∧Back [cAt bs 101 [(vL A its c),v1,v2,v3,v4,v5,v6,(vP se 0),v8,v9,v10],cRd X br (r)] w [cAt bs 101 [(vL A its c),v1,(.int .i64 1),(vI 3),(vL Am (withB 3 (encA [sumA its [] []])) cm),v5,v6,(vP se 0),v8,v9,v10],cRd X br (r.rest.2),cB Am (withB 3 (encA [sumA its [] []])) cm] w':=by
 refine sE2 Tryz.func103 103 (hO) ?_
 refine stSeq (reg (la ?_))
 refine liNil (qThen (stSeq ?_))
 have h32:=hset.1
 refine St.fact (fun w hM=>(hM.at (i:=1) (c:=cRd X br r) rfl).2.len) (fun hrl=>?_)
 have hrt:=r.text_le (r.D.length - r.off)
 refine reg (lm ?_)
 refine lm ?_
 refine li rfl (opK [1] _ (fun w hM hO=>(rsRLeft_any X br r w hO).mono ?_))
 rintro e w' ⟨rfl,hP⟩
 refine ⟨_,[_],_,rfl,hP,rfl,?_⟩; clear hP hM hO
 refine li rfl (opK [1] _ (fun w hM hO=>(rsRBytes_any X br r (r.D.length - r.off) w hO (by omega)).mono ?_))
 rintro e w' ⟨B20,cb20,rfl,hP⟩
 refine ⟨_,[_],_,rfl,hP,rfl,?_⟩; clear hP hM hO
 rw [show r.text (r.D.length - r.off)=r.rest from rfl]
 refine li rfl (opK0 (fun w hM=>(qRead B20 cb20 r.rest.1 w (hM.keep0 (j:=2) rfl (fun _ h=>RowIn.of_own h)) (by unfold Rd.rest; omega)).mono ?_))
 rintro e w' ⟨cl21,Xs21,ts21,rfl,hP,hs21,hcl21⟩
 refine ⟨_,_,rfl,hP,?_⟩; clear hP hM
 obtain ⟨rfl,rfl,hXl21⟩:=hs21 _ hts
 have hB21:(rdSk r.rest.1).isSome=true:=by rw [hts]; rfl
 refine lm ?_
 refine lc (.agg ((pcs Xs21)).toArray) ?_
 refine lc (.bool (rdSk r.rest.1).isSome) ?_
 refine li rfl (oAl [(.pointer none),(.pointer none),(.pointer none),(.pointer none),(.pointer none),(.pointer none),(.pointer none),(.pointer none),(.pointer none),(.pointer none),(.pointer none),(.pointer none)] fun b5=>?_)
 refine li rfl (opStoreN 4 (pcs Xs21) (vs:=(pcs Xs21)) rfl rfl (by kernel_rfl) rfl rfl rfl (by rw [pcs_len,hXl21]; kernel_rfl) rfl (by rw [pcs_len,hXl21]; decide) (pcs_one _) (by rw [List.take_zero,List.nil_append,pcs_len,hXl21]; simp) ?_)
 refine la ?_
 refine liNil (qThen (stSeq (stSeq ?_)))
 dsimp only [setAll,List.set,List.cons_append,List.nil_append]
 refine reg (lm ?_)
 refine li rfl (opK [1] _ (fun w hM hO=>(rsREnd_any X br r.rest.2 w hO).mono ?_))
 rintro e w' ⟨rfl,hP⟩
 refine ⟨_,[_],_,rfl,hP,rfl,?_⟩; clear hP hM hO
 refine lm ?_
 refine lc (vI r.rest.2.off) ?_
 refine lc (.int .i64 r.rest.2.end_) ?_
 refine la ?_
 refine la ?_
 refine liNil (qThen (stSeq (reg (lm ?_))))
 refine lc (.bool ((r.rest.2.end_:Int) != 0)) ?_
 refine lm ?_
 refine St.known 31 (b':=false) rfl (by rw [hend]; simp) ?_
 refine lgm ?_
 refine lgc (.bool (!(rdSk r.rest.1).isSome)) ?_
 refine lc (.bool (!(rdSk r.rest.1).isSome)) ?_
 refine liNil (qThen (stFalseK rfl (by rw [hB21]; rfl) ?_))
 refine stSkip (qThen (stSeq (anyBegin _ 20 (by kernel_rfl) (fun _ h=>h) ?_)))
 refine av 0 (.agg (pcs Xs21).toArray) rfl (rLoadA (pcs Xs21) rfl rfl (by kernel_rfl) (by rw [pcs_len,hXl21]; kernel_rfl) (segAt (i:=4) rfl (fun j v hj=>by rw [Nat.zero_add]; exact hj))) ?_
 refine am 1 ?_
 refine ac 2 (vP bs 0) ?_
 refine ac 3 (vP bs 0) ?_
 refine al 4 0 ?_
 refine am 7 ?_
 refine ac 8 (vP bs 0) ?_
 refine ac 9 (vP bs 0) ?_
 refine al 10 0 ?_
 refine ac 11 (vI its.length) ?_
 refine a1 5 ?_
 refine opK0 (fun w hM=>(qStrataOf A c its w (r0.go0 hM) (r1.go0 hM) (by assumption) (by omega)).mono ?_)
 rintro e w' ⟨Xs41,rfl,hP,hn41⟩
 refine ⟨_,_,rfl,hP,?_⟩; clear hP hM
 refine anyNext _ (fun _ h=>h.pick [0,1,2,3,4] rfl rfl) (fun _ h=>h) ?_
 refine a1 6 ?_
 refine opK0 (fun w hM=>(qEst Xs21 ts Xs41 (strata its) w (r0.go0 hM) (hM.keep0 (j:=3) rfl (fun _ h=>h)) (hM.keep0 (j:=5) rfl (fun _ h=>h)) ((rdSk_ok hts).2) ((rdSk_ok hts).1) (hXl21) (strata_ok h32) (strata_len its) (hn41)).mono ?_)
 rintro e w' ⟨rfl,hP⟩
 refine ⟨_,_,rfl,hP,?_⟩; clear hP hM
 dsimp only [setAll,List.set,List.cons_append,List.nil_append]
 refine anyNext _ (fun _ h=>h) (fun _ h=>h) ?_
 refine a1 12 ?_
 refine opK0 (fun w hM=>(qChoose_range (est ts (strata its)) its.length w (by rw [hest]; exact hk)).mono ?_)
 rintro e w' ⟨rfl,hP⟩
 refine ⟨_,_,rfl,hP,?_⟩; clear hP hM
 refine anyNext _ (fun _ h=>h) (fun _ h=>h) ?_
 refine am 13 ?_
 refine ac 14 (.int .i64 2) ?_
 refine ac 15 (.int .i64 0) ?_
 refine ac 16 (.int .i64 0) ?_
 refine aa 17 ?_
 refine aa 18 ?_
 refine aa 19 ?_
 refine anyDone (by kernel_rfl) ?_
 refine qThen (stSeq (stSeq (reg (lm ?_))))
 refine lc (.bool false) ?_
 refine liNil (qThen (stFalse rfl (stSkip (qThen (stSeq (stSeq (reg ?_)))))))
 refine lm ?_
 refine lc (.bool true) ?_
 refine liNil (qThen (stTrue rfl (stSeq (reg ?_))))
 refine lm ?_
 refine li rfl (opK [0] _ (fun w hM hO=>(qBegin bs (vL A its c) v1 v2 v3 v4 v5 v6 v8 v9 v10 its se A2 c2 nm om w hO (r0.goS hM [0]) (r2.goS hM [0]) (by assumption) (by assumption) (by assumption)).mono ?_))
 rintro e w' ⟨Am58,cm58,rfl,hP⟩
 refine ⟨_,[_],_,rfl,hP,rfl,?_⟩; clear hP hM hO
 refine liNil (qThen (stSeq (reg (la ?_))))
 refine liNil (qThen (stRet (qThenR (sN [(.int .i64 0)] fun w hM=>?_))))
 exact ⟨Am58,cm58,rfl,(hM.pick [0,1,6] rfl rfl)⟩
theorem qAccTableB (bs:Nat) (X:Option Addr × Nat) (br:Nat) (r:Rd) (w:World) (hO:Own [cRd X br (r)] w) (hbad:(r.sum.2.rest.2.end_≠0∨∀ t,decd r.sum.2.rest.1=some t→t.seed≠0)) :
  Calls Tryz.prog 104 #[(vP bs 0),(vP br 0)] w fun e w'=>∃ (z:Int),e = .returned (.int .i64 z)∧Back [cRd X br (r)] w [cRd X br (r.sum.2.rest.2)] w'∧(z≠0):=by
 refine sE2 Tryz.func104 100 (hO) ?_
 refine stSeq (reg (la ?_))
 refine liNil (qThen (stSeq (reg (lm ?_))))
 refine li rfl (opK [0] _ (fun w hM hO=>(rsRSum_any X br r w hO).mono ?_))
 rintro e w' ⟨rfl,hP⟩
 refine ⟨_,[_],_,rfl,hP,rfl,?_⟩; clear hP hM hO
 refine la ?_
 refine liNil (qThen (stSeq (St.to [cRd X br (r.sum.2)] (by kernel_rfl) ?_)))
 rcases hd:decd r.sum.2.rest.1 with _ | t
 ·refine St.fact (fun w hM=>(hM.at (i:=0) (c:=cRd X br r.sum.2) rfl).2.len) (fun hrl=>?_)
  have hrt:=r.sum.2.text_le (r.sum.2.D.length - r.sum.2.off)
  refine reg (lm ?_)
  refine lm ?_
  refine li rfl (opK [0] _ (fun w hM hO=>(rsRLeft_any X br r.sum.2 w hO).mono ?_))
  rintro e w' ⟨rfl,hP⟩
  refine ⟨_,[_],_,rfl,hP,rfl,?_⟩; clear hP hM hO
  refine li rfl (opK [0] _ (fun w hM hO=>(rsRBytes_any X br r.sum.2 (r.sum.2.D.length - r.sum.2.off) w hO (by omega)).mono ?_))
  rintro e w' ⟨B25,cb25,rfl,hP⟩
  refine ⟨_,[_],_,rfl,hP,rfl,?_⟩; clear hP hM hO
  rw [show r.sum.2.text (r.sum.2.D.length - r.sum.2.off)=r.sum.2.rest from rfl]
  refine li rfl (opK0 (fun w hM=>(qDec_none B25 cb25 r.sum.2.rest.1 w (hM.keep0 (j:=1) rfl (fun _ h=>RowIn.of_own h)) (by unfold Rd.rest; omega) (by assumption)).mono ?_))
  rintro e w' ⟨rfl,hP⟩
  refine ⟨_,_,rfl,hP,?_⟩; clear hP hM
  refine lm ?_
  refine lc (.pointer none) ?_
  refine lc (.int .i64 3) ?_
  refine la ?_
  refine la ?_
  refine liNil (qThen (stSeq (stSeq (reg (lm ?_)))))
  refine li rfl (opK [0] _ (fun w hM hO=>(rsREnd_any X br r.sum.2.rest.2 w hO).mono ?_))
  rintro e w' ⟨rfl,hP⟩
  refine ⟨_,[_],_,rfl,hP,rfl,?_⟩; clear hP hM hO
  refine lm ?_
  refine lc (vI r.sum.2.rest.2.off) ?_
  refine lc (.int .i64 r.sum.2.rest.2.end_) ?_
  refine la ?_
  refine la ?_
  refine liNil (qThen (stSeq ?_))
  dsimp only [setAll,List.set,List.cons_append,List.nil_append]
  refine reg (lm ?_)
  refine lc (.bool ((r.sum.2.rest.2.end_:Int) != 0)) ?_
  refine lm ?_
  refine St.dec 36 rfl (fun hc36=>?_) (fun hc36=>?_)
  ·refine lnT ?_
   refine lnT ?_
   refine lc (.bool true) ?_
   refine lm ?_
   iterate 5 refine lnT ?_
   refine lc (.bool true) ?_
   refine liNil (qThen (stTrue rfl (stSeq (reg ?_))))
   refine la ?_
   refine liNil (qThen (stRet (qThenR (sN [(.int .i64 3)] fun w hM=>?_))))
   exact ⟨3,rfl,(hM.pick [0] rfl rfl),by decide⟩
  ·replace hbad:=hbad.resolve_left (by simpa using hc36)
   refine lgm ?_
   refine lgc (.bool true) ?_
   refine lc (.bool true) ?_
   refine lm ?_
   iterate 5 refine lnT ?_
   refine lc (.bool true) ?_
   refine liNil (qThen (stTrue rfl (stSeq (reg ?_))))
   refine la ?_
   refine liNil (qThen (stRet (qThenR (sN [(.int .i64 3)] fun w hM=>?_))))
   exact ⟨3,rfl,(hM.pick [0] rfl rfl),by decide⟩
 ·have hz:=(decd_enc hd).2
  refine St.fact (fun w hM=>(hM.at (i:=0) (c:=cRd X br r.sum.2) rfl).2.len) (fun hrl=>?_)
  have hrt:=r.sum.2.text_le (r.sum.2.D.length - r.sum.2.off)
  refine reg (lm ?_)
  refine lm ?_
  refine li rfl (opK [0] _ (fun w hM hO=>(rsRLeft_any X br r.sum.2 w hO).mono ?_))
  rintro e w' ⟨rfl,hP⟩
  refine ⟨_,[_],_,rfl,hP,rfl,?_⟩; clear hP hM hO
  refine li rfl (opK [0] _ (fun w hM hO=>(rsRBytes_any X br r.sum.2 (r.sum.2.D.length - r.sum.2.off) w hO (by omega)).mono ?_))
  rintro e w' ⟨B25,cb25,rfl,hP⟩
  refine ⟨_,[_],_,rfl,hP,rfl,?_⟩; clear hP hM hO
  rw [show r.sum.2.text (r.sum.2.D.length - r.sum.2.off)=r.sum.2.rest from rfl]
  refine li rfl (opK0 (fun w hM=>(qDec_some B25 cb25 r.sum.2.rest.1 t w (hM.keep0 (j:=1) rfl (fun _ h=>RowIn.of_own h)) (by unfold Rd.rest; omega) (by assumption)).mono ?_))
  rintro e w' ⟨X26,rfl,hP⟩
  refine ⟨_,_,rfl,hP,?_⟩; clear hP hM
  refine lm ?_
  refine lc (vP X26.bt 0) ?_
  refine lc (.int .i64 0) ?_
  refine la ?_
  refine la ?_
  refine liNil (qThen (stSeq (stSeq (reg (lm ?_)))))
  refine li rfl (opK [0] _ (fun w hM hO=>(rsREnd_any X br r.sum.2.rest.2 w hO).mono ?_))
  rintro e w' ⟨rfl,hP⟩
  refine ⟨_,[_],_,rfl,hP,rfl,?_⟩; clear hP hM hO
  refine lm ?_
  refine lc (vI r.sum.2.rest.2.off) ?_
  refine lc (.int .i64 r.sum.2.rest.2.end_) ?_
  refine la ?_
  refine la ?_
  refine liNil (qThen (stSeq ?_))
  dsimp only [setAll,List.set,List.cons_append,List.nil_append]
  refine reg (lm ?_)
  refine lc (.bool ((r.sum.2.rest.2.end_:Int) != 0)) ?_
  refine lm ?_
  refine St.dec 36 rfl (fun hc36=>?_) (fun hc36=>?_)
  ·refine lnT ?_
   refine lnT ?_
   refine lc (.bool true) ?_
   refine lm ?_
   iterate 5 refine lnT ?_
   refine lc (.bool true) ?_
   refine liNil (qThen (stTrue rfl (stSeq (reg ?_))))
   refine la ?_
   refine liNil (qThen (stRet (qThenR (sN [(.int .i64 3)] fun w hM=>?_))))
   exact ⟨3,rfl,(hM.pick [0] rfl rfl),by decide⟩
  ·replace hbad:=hbad.resolve_left (by simpa using hc36)
   refine lgm ?_
   refine lgc (.bool false) ?_
   refine lc (.bool false) ?_
   refine lm ?_
   refine lgm ?_
   refine lgm ?_
   refine liGo rfl rfl ?_
   refine opK0 (fun w hM=>(qCells X26 t w (hM.keep0 (j:=2) rfl (fun _ h=>h))).mono ?_)
   rintro e w' ⟨rfl,hP⟩
   refine ⟨_,_,rfl,hP,?_⟩; clear hP hM
   refine liGo rfl rfl ?_
   refine opK0 (fun w hM=>(qIsT X26 t t.cells.length 0 w (hM.keep0 (j:=2) rfl (fun _ h=>h)) (hz) (by unfold U64; decide)).mono ?_)
   rintro e w' ⟨rfl,hP⟩
   refine ⟨_,_,rfl,hP,?_⟩; clear hP hM
   refine lgc (.bool (!(isT t t.cells.length 0))) ?_
   refine lc (.bool (!(isT t t.cells.length 0))) ?_
   refine liNil (qThen (stTrueK rfl (by rw [isT_seed (hbad _ hd)]; rfl) ?_))
   refine stSeq (reg (la ?_))
   refine liNil (qThen (stRet (qThenR (sN [(.int .i64 3)] fun w hM=>?_))))
   exact ⟨3,rfl,(hM.pick [0] rfl rfl),by decide⟩
theorem qAccRangeB (bs:Nat) (A:Option Addr) (c:Nat) (its:List (List UInt8)) (v1 v2:Value) (v3 v4:Value) (v5 v6:Value) (v8 v9 v10:Value) (X:Option Addr × Nat) (br:Nat) (r:Rd) (se:Nat) (A2:Option Addr) (c2 nm om:Nat) (S S2:List (List UInt8)) (w:World) (hO:Own [cRd X br (r),cSet nm (S),cSet om (S2)] w) (r0:Rf [cRd X br (r),cSet nm (S),cSet om (S2)] w (Vars)) (r1:Rf [cRd X br (r),cSet nm (S),cSet om (S2)] w (fun w=>At w bs 101 [(vL A its c),v1,v2,v3,v4,v5,v6,(vP se 0),v8,v9,v10])) (r2:Rf [cRd X br (r),cSet nm (S),cSet om (S2)] w (fun w=>RowIn w A (SS its))) (r3:Rf [cRd X br (r),cSet nm (S),cSet om (S2)] w (SessAt se A2 c2 its 4 4 nm om)) (hbad:(r.rest.2.end_≠0∨r.rest.1=[]∨(stepA its 4 4 r.rest.1).err≠0)) (hset:okSet its) (h40:its.length≤40) (hc2:its.length≤c2) (hD1:r.rest.1.length≤1048576) (hS:S.length≤549755813888) (hT:S2.length≤549755813888) :
  Calls Tryz.prog 105 #[(vP bs 0),(vP br 0)] w fun e w'=>∃ (z:Int),e = .returned (.int .i64 z)∧Back [cRd X br (r),cSet nm (S),cSet om (S2)] w [cRd X br (r.rest.2),cSet nm (S),cSet om (S2)] w'∧(z≠0):=by
 refine sE2 Tryz.func105 51 (hO) ?_
 refine stSeq (reg (la ?_))
 refine liNil (qThen (stSeq (St.fact (fun w hM=>(hM.at (i:=0) (c:=cRd X br r) rfl).2.len) (fun hrl=>?_))))
 refine reg (lm ?_)
 refine lm ?_
 refine li rfl (opK [0] _ (fun w hM hO=>(rsRLeft_any X br r w hO).mono ?_))
 rintro e w' ⟨rfl,hP⟩
 refine ⟨_,[_],_,rfl,hP,rfl,?_⟩; clear hP hM hO
 refine li rfl (opK [0] _ (fun w hM hO=>(rsRBytes_any X br r (r.D.length - r.off) w hO (by omega)).mono ?_))
 rintro e w' ⟨B13,cb13,rfl,hP⟩
 refine ⟨_,[_],_,rfl,hP,rfl,?_⟩; clear hP hM hO
 rw [show r.text (r.D.length - r.off)=r.rest from rfl]
 refine la ?_
 refine liNil (qThen (stSeq (stSeq (reg (lm ?_)))))
 refine li rfl (opK [0] _ (fun w hM hO=>(rsREnd_any X br r.rest.2 w hO).mono ?_))
 rintro e w' ⟨rfl,hP⟩
 refine ⟨_,[_],_,rfl,hP,rfl,?_⟩; clear hP hM hO
 refine lm ?_
 refine lc (vI r.rest.2.off) ?_
 refine lc (.int .i64 r.rest.2.end_) ?_
 refine la ?_
 refine la ?_
 refine liNil (qThen (stSeq (reg (lm ?_))))
 refine lc (.bool ((r.rest.2.end_:Int) != 0)) ?_
 refine lm ?_
 refine St.dec 21 rfl (fun hc21=>?_) (fun hc21=>?_)
 ·refine lnT ?_
  refine lnT ?_
  refine lnT ?_
  refine lc (.bool true) ?_
  refine liNil (qThen (stTrue rfl (stSeq (reg ?_))))
  refine la ?_
  refine liNil (qThen (stRet (qThenR (sN [(.int .i64 3)] fun w hM=>?_))))
  exact ⟨3,rfl,(hM.pick [0,1,2] rfl rfl),by decide⟩
 ·replace hbad:=hbad.resolve_left (by simpa using hc21)
  refine lgm ?_
  refine lgc (vI ((r.rest.1).length)) ?_
  refine lgc (.bool (((((r.rest.1).length:Nat):Int):Int) == 0)) ?_
  refine lc (.bool (((((r.rest.1).length:Nat):Int):Int) == 0)) ?_
  refine liNil (qThen (stCond rfl (fun hc25=>?_) (fun hc25=>?_)))
  ·refine stSeq (reg (la ?_))
   refine liNil (qThen (stRet (qThenR (sN [(.int .i64 3)] fun w hM=>?_))))
   exact ⟨3,rfl,(hM.pick [0,1,2] rfl rfl),by decide⟩
  ·replace hbad:=hbad.resolve_left (by simpa using hc25)
   refine stSkip (qThen (stSeq (reg (lm ?_))))
   refine lc (vP bs 0) ?_
   refine lc (vP bs 7) ?_
   refine lv (rW (fun w hM=>At.cell (r1.now hM) 7)) ?_
   refine lm ?_
   refine li rfl (opK [1,2] _ (fun w hM hO=>(rsStep_any se A2 c2 its 4 4 nm om B13 cb13 r.rest.1 S S2 w hO (r0.goS hM [1,2]) (r3.goS hM [1,2]) (hM.keepS [1,2] (j:=3) rfl (fun _ h=>RowIn.of_own h)) (hset) (by omega) (hc2) (h40) (by decide) (by decide) (by decide) (by decide) (hD1) (hS) (hT)).mono ?_))
   rintro e w' ⟨B32,cb32,rfl,hP⟩
   refine ⟨_,[_,_],_,rfl,hP,rfl,?_⟩; clear hP hM hO
   obtain ⟨-,e8,e9⟩:=(step_sound its 4 4 r.rest.1).err hbad
   rw [show S++(stepA its 4 4 r.rest.1).need=S from by rw [e8,List.append_nil]]
   rw [show S2++(stepA its 4 4 r.rest.1).off=S2 from by rw [e9,List.append_nil]]
   refine lm ?_
   refine lc (vL B32 ((stepA its 4 4 r.rest.1).reply) cb32) ?_
   refine lc (.int .i64 (stepA its 4 4 r.rest.1).err) ?_
   refine la ?_
   refine la ?_
   refine liNil (qThen (stSeq (stSeq ?_)))
   dsimp only [setAll,List.set,List.cons_append,List.nil_append]
   refine reg (lm ?_)
   refine lc (.bool (((stepA its 4 4 r.rest.1).err:Int) != 0)) ?_
   refine liNil (qThen (stTrueK rfl (by simpa using hbad) ?_))
   refine stSeq (reg (lm ?_))
   refine la ?_
   refine liNil (qThen (stRet (qThenR (sN [(.int .i64 (stepA its 4 4 r.rest.1).err)] fun w hM=>?_))))
   exact ⟨((stepA its 4 4 r.rest.1).err),rfl,(hM.pick [0,1,2] rfl rfl),hbad⟩
theorem rest_le {Dm:Bs} {q0:Rd} {k:Nat} (hu:(Rd.mk Dm 0 0 0).uint=(k,q0)) (h:Dm.length≤1000000):q0.rest.1.length≤1048576:=by
 have h7:=Rd.uint_D (Rd.mk Dm 0 0 0)
 rw [hu] at h7
 have h9:=q0.text_le (q0.D.length - q0.off)
 have h8:q0.D.length=Dm.length:=congrArg List.length h7
 unfold Rd.rest
 omega
theorem kvSt_no {F:Value} {st:Nat} (h:st≠2):Value.tuple #[((kvGet [(2,F)] st).map (fun v:Value=>v)).getD .nilFunc,.bool (kvGet [(2,F)] st).isSome] = .tuple #[.nilFunc,.bool false]:=by
 have e:kvGet [(2,F)] st=none:=by simp [kvGet,Ne.symm h]
 rw [e]
 rfl
theorem asc_more {r:Rd} {i:Nat} (h:(r.sums i).1.Pairwise (· < ·)) (hx:0 < i→∃ x y,(r.sums (i+1)).1[i - 1]?=some x∧(r.sums (i+1)).1[i]?=some y∧x < y):(r.sums (i+1)).1.Pairwise (· < ·):=by
 have e:(r.sums (i+1)).1=(r.sums i).1++[(r.sums i).2.sum.1]:=rfl
 have hl:(r.sums i).1.length=i:=Rd.sums_len _ _
 rw [e,List.pairwise_append]
 refine ⟨h,List.pairwise_singleton ..,fun a ha b hb=>?_⟩
 rw [List.mem_singleton] at hb
 subst hb
 obtain ⟨j,hj⟩:=List.mem_iff_getElem?.1 ha
 have hjl:=(List.getElem?_eq_some_iff.1 hj).1
 obtain ⟨x,y,h1,h2,h3⟩:=hx (by omega)
 rw [e,List.getElem?_append_left (by omega)] at h1
 rw [e,List.getElem?_append_right (by omega),hl,Nat.sub_self] at h2
 simp only [List.getElem?_cons_zero,Option.some.injEq] at h2
 subst h2
 rcases Nat.lt_or_ge j (i - 1) with hlt | hge
 ·obtain ⟨a1,a2⟩:=List.getElem?_eq_some_iff.1 hj
  obtain ⟨b1,b2⟩:=List.getElem?_eq_some_iff.1 h1
  have:=List.pairwise_iff_getElem.1 h j (i - 1) a1 b1 hlt
  rw [a2,b2] at this
  exact List.lt_trans this h3
 ·have hji:j=i - 1:=by omega
  subst hji
  rw [hj] at h1
  injection h1 with h1
  subst h1
  exact h3
theorem qReadItemsB (X:Option Addr × Nat) (br:Nat) (r:Rd) (w:World) (hO:Own [cRd X br (r)] w) (hasc:¬ (r.items 16384).1.Pairwise (· < ·)) :
  Calls Tryz.prog 153 #[(vP br 0)] w fun e w'=>∃ (q:Rd),e = .returned (.tuple #[(.slice none 0 0),(.bool false)])∧Back [cRd X br (r)] w [cRd X br (q)] w':=by
 refine sE1 Tryz.func153 40 (hO) ?_
 refine stSeq (reg (la ?_))
 refine la ?_
 refine liNil (qThen (stSeq (St.fact (fun w hM=>(hM.at (i:=0) (c:=cRd X br r) rfl).2.len) (fun hrl=>?_))))
 refine reg (lm ?_)
 refine lm ?_
 refine li rfl (opK [0] _ (fun w hM hO=>(rsRLeft_any X br r w hO).mono ?_))
 rintro e w' ⟨rfl,hP⟩
 refine ⟨_,[_],_,rfl,hP,rfl,?_⟩; clear hP hM hO
 refine lv (v:=(vI ((r.D.length - r.off) / 32))) (rQuoN rfl rfl rfl (by omega) (by omega)) ?_
 refine lv (v:=(vI (r.most 16384))) (rMinN rfl rfl rfl) ?_
 have hml:r.most 16384≤16384:=Nat.min_le_left _ _
 refine li rfl (opK [0] _ (fun w hM hO=>(rsRCount_any X br r (r.most 16384) w hO (by omega)).mono ?_))
 rintro e w' ⟨rfl,hP⟩
 refine ⟨_,[_],_,rfl,hP,rfl,?_⟩; clear hP hM hO
 have hcl:=r.cnt_le (r.most 16384)
 refine la ?_
 refine liNil (qThen (stSeq (reg (lm ?_))))
 refine li rfl (opMk0 el_strC ((r.cnt (r.most 16384)).1) (by omega) rfl rfl (by kernel_rfl) rfl rfl (fun b14=>?_) (by omega))
 refine la ?_
 refine liNil (qThen (stSeq (stSeq (reg (lm ?_)))))
 refine lm ?_
 refine liNil (qThen (stBlock (sL (fun (i,AX,cX)=>i≤(r.cnt (r.most 16384)).1∧(((r.cnt (r.most 16384)).2.sums i).1).Pairwise (· < ·)) (fun (i,AX,cX)=>(r.cnt (r.most 16384)).1 - i) (fun (i,AX,cX)=>[(0,(vP br 0)),(2,(.slice none 0 0)),(3,(.bool false)),(15,(vI ((r.cnt (r.most 16384)).1))),(5,(vL AX (((r.cnt (r.most 16384)).2.sums i).1) cX)),(16,(vI i))]) (fun (i,AX,cX)=>[cRd X br (((r.cnt (r.most 16384)).2.sums i).2),cS AX (((r.cnt (r.most 16384)).2.sums i).1) cX]) (0,(some ⟨b14,0,none⟩),((r.cnt (r.most 16384)).1)) ⟨Nat.zero_le _,List.Pairwise.nil⟩ (fun w hM=>by show Mm _ _ [cRd X br (((r.cnt (r.most 16384)).2.sums 0).2),cS (some ⟨b14,0,none⟩) (((r.cnt (r.most 16384)).2.sums 0).1) (((r.cnt (r.most 16384)).1))] w; exact hM) ?_)))
 rintro ⟨i,AX,cX⟩ ⟨hok,hpw⟩
 dsimp only
 refine stSeq (reg (lc (.bool (decide (((i:Nat):Int) < (((r.cnt (r.most 16384)).1:Nat):Int)))) ?_))
 refine liNil (qThen (stSeq (stCond rfl (fun hc17=>?_) (fun hc17=>?_))))
 ·have hd17:=of_decide_eq_true hc17
  have hlt:i < (r.cnt (r.most 16384)).1:=by omega
  refine stSkip (qThen (stSeq (stBlock (stSeq (reg (lm ?_))))))
  refine la ?_
  refine liNil (qThen (stSeq (reg (lm ?_))))
  refine lm ?_
  refine li rfl (opK [0] _ (fun w hM hO=>(rsRSum_any X br (((r.cnt (r.most 16384)).2.sums i).2) w hO).mono ?_))
  rintro e w' ⟨rfl,hP⟩
  refine ⟨_,[_],_,rfl,hP,rfl,?_⟩; clear hP hM hO
  refine li rfl (oNw 1 9 [(vS ((((r.cnt (r.most 16384)).2.sums i).2).sum.1))] fun b22=>?_)
  refine li rfl (opAppend el_strC 1 ([(vS ((((r.cnt (r.most 16384)).2.sums i).2).sum.1))]) rfl rfl (by kernel_rfl) rfl rfl rfl (rfl) (srcAt (i:=2) rfl (fun j v h=>by rw [Nat.zero_add]; exact h)) (by simp [Value.oneCell']) (by rw [Rd.sums_len]; omega) ((((r.cnt (r.most 16384)).2.sums i).1++[(((r.cnt (r.most 16384)).2.sums i).2).sum.1]).length) (by first | exact (List.length_append ..).symm | (simp; done) | (simp; omega)) (SS (((r.cnt (r.most 16384)).2.sums i).1++[(((r.cnt (r.most 16384)).2.sums i).2).sum.1])) (by simp [SS]) (fun A23 c23=>?_))
  refine la ?_
  refine liNil (qThen (stSeq ?_))
  rw [show ((r.cnt (r.most 16384)).2.sums i).1++[(((r.cnt (r.most 16384)).2.sums i).2).sum.1]=((r.cnt (r.most 16384)).2.sums (i+1)).1 from rfl]
  rw [show (((r.cnt (r.most 16384)).2.sums i).2).sum.2=((r.cnt (r.most 16384)).2.sums (i+1)).2 from rfl]
  have hsl:(((r.cnt (r.most 16384)).2.sums (i+1)).1).length=i+1:=Rd.sums_len _ _
  refine anyBegin _ 14 (by kernel_rfl) (fun _ h=>h) ?_
  refine am 0 ?_
  refine ac 1 (.bool (decide (((i:Nat):Int) > 0))) ?_
  refine am 2 ?_
  refine Any.dec 26 rfl (fun hc26=>?_) (fun hc26=>?_)
  ·have hd26:=of_decide_eq_true hc26
   refine agm 3 ?_
   refine agm 4 ?_
   refine agv 5 (vI (i - 1)) rfl (rSub _ rfl rfl rfl (by omega) (by omega) (by omega)) ?_
   obtain ⟨x0,hx0⟩:∃ ξ,(((r.cnt (r.most 16384)).2.sums (i+1)).1)[i - 1]?=some ξ:=⟨_,List.getElem?_eq_getElem (by omega)⟩
   refine Any.rowPtr (fun w hM=>rowOwn (i:=1) rfl w hM) (SS_at hx0) (fun p30 q30 hA30 hc30=>?_)
   refine agv 6 (vP p30 (q30+(i - 1))) rfl (rIndexRow (e:=9) rfl (by kernel_rfl) (by kernel_rfl) rfl rfl hA30 (by omega)) ?_
   refine agv 7 (vS x0) rfl (rLoadW rfl rfl (by kernel_rfl) hc30) ?_
   refine agm 8 ?_
   refine agm 9 ?_
   obtain ⟨x1,hx1⟩:∃ ξ,(((r.cnt (r.most 16384)).2.sums (i+1)).1)[i]?=some ξ:=⟨_,List.getElem?_eq_getElem (by omega)⟩
   refine Any.rowPtr (fun w hM=>rowOwn (i:=1) rfl w hM) (SS_at hx1) (fun p34 q34 hA34 hc34=>?_)
   refine agv 10 (vP p34 (q34+i)) rfl (rIndexRow (e:=9) rfl (by kernel_rfl) (by kernel_rfl) rfl rfl hA34 (by omega)) ?_
   refine agv 11 (vS x1) rfl (rLoadW rfl rfl (by kernel_rfl) hc34) ?_
   refine agv 12 (.bool (!decide (x0 < x1))) rfl (rStrGe rfl rfl rfl) ?_
   refine ac 13 (.bool (!decide (x0 < x1))) ?_
   refine anyDone (by kernel_rfl) ?_
   refine qThen (stCond rfl (fun hc37=>?_) (fun hc37=>?_))
   ·refine stSeq (reg (la ?_))
    refine la ?_
    refine liNil (qThen (stRet (qBlockR (qThenR (qThenR (qBlockR (qThenR ?_)))))))
    refine sN [(.slice none 0 0),(.bool false)] fun w hM=>?_
    exact ⟨(((r.cnt (r.most 16384)).2.sums (i+1)).2),rfl,(hM.pick [0] rfl rfl)⟩
   ·have hnx:=asc_more hpw (fun _=>⟨_,_,hx0,hx1,by simpa using hc37⟩)
    refine stSkip (qBlock (qThen (reg ?_)))
    refine lv (v:=(vI (i+1))) rAd ?_
    refine lm ?_
    exact liNil (qThen (sA (i+1,A23,c23) (⟨by omega,hnx⟩) (by show (r.cnt (r.most 16384)).1 - (i+1) < (r.cnt (r.most 16384)).1 - i; omega) (fun w hM=>(hM.pick [0,1] rfl rfl))))
  ·have hd26:=of_decide_eq_false hc26
   have hnx:=asc_more hpw (fun h=>absurd h (by have:=hc26; simp at this; omega))
   refine anF 3 ?_
   refine anF 4 ?_
   refine anF 5 ?_
   refine anF 6 ?_
   refine anF 7 ?_
   refine anF 8 ?_
   refine anF 9 ?_
   refine anF 10 ?_
   refine anF 11 ?_
   refine anF 12 ?_
   refine ac 13 (.bool false) ?_
   refine anyDone (by kernel_rfl) ?_
   refine qThen (stFalse rfl (stSkip (qBlock (qThen (reg ?_)))))
   refine lv (v:=(vI (i+1))) rAd ?_
   refine lm ?_
   exact liNil (qThen (sA (i+1,A23,c23) (⟨by omega,hnx⟩) (by show (r.cnt (r.most 16384)).1 - (i+1) < (r.cnt (r.most 16384)).1 - i; omega) (fun w hM=>(hM.pick [0,1] rfl rfl))))
 ·have hd17:=of_decide_eq_false hc17
  obtain rfl:i=(r.cnt (r.most 16384)).1:=by omega
  exact absurd hpw hasc
theorem qAccDiffB (bs:Nat) (A:Option Addr) (c:Nat) (its:List (List UInt8)) (v1 v2:Value) (v3 v4:Value) (v5 v6:Value) (v7 v8:Value) (v9 v10:Value) (X:Option Addr × Nat) (br:Nat) (r:Rd) (w:World) (hO:Own [cRd X br (r)] w) (r0:Rf [cRd X br (r)] w (fun w=>At w bs 101 [(vL A its c),v1,v2,v3,v4,v5,v6,v7,v8,v9,v10])) (r1:Rf [cRd X br (r)] w (fun w=>RowIn w A (SS its))) (hbad:(¬ (r.items 16384).1.Pairwise (· < ·)∨¬ ((r.items 16384).2.items 16384).1.Pairwise (· < ·)∨((r.items 16384).2.items 16384).2.end_≠0∨agreesB its (r.items 16384).1 ((r.items 16384).2.items 16384).1=false)) (hs:its.Pairwise (· < ·)) (hn:its.length≤68719476736) :
  Calls Tryz.prog 106 #[(vP bs 0),(vP br 0)] w fun e w'=>∃ (z:Int) (q:Rd),e = .returned (.int .i64 z)∧Back [cRd X br (r)] w [cRd X br (q)] w'∧(z≠0):=by
 refine sE2 Tryz.func106 47 (hO) ?_
 refine stSeq (reg (la ?_))
 refine liNil (qThen (stSeq ?_))
 rcases Decidable.em ((r.items 16384).1.Pairwise (· < ·)) with hp1 | hp1
 ·replace hbad:=hbad.resolve_left (fun h=>h hp1)
  refine reg (lm ?_)
  refine li rfl (opK [0] _ (fun w hM hO=>(qReadItems X br r w hO (hp1)).mono ?_))
  rintro e w' ⟨B12,cb12,rfl,hP⟩
  refine ⟨_,[_],_,rfl,hP,rfl,?_⟩; clear hP hM hO
  have hnl:=r.items_len 16384
  have hol:=(r.items 16384).2.items_len 16384
  refine lm ?_
  refine lc (.slice B12 ((r.items 16384).1.length) (cb12)) ?_
  refine lc (.bool true) ?_
  refine la ?_
  refine la ?_
  refine liNil (qThen (stSeq (stSeq (reg (lm ?_)))))
  refine lc (.bool false) ?_
  refine liNil (qThen (stFalse rfl (stSkip (qThen (stSeq ?_)))))
  dsimp only [setAll,List.set,List.cons_append,List.nil_append]
  rcases Decidable.em (((r.items 16384).2.items 16384).1.Pairwise (· < ·)) with hp2 | hp2
  ·replace hbad:=hbad.resolve_left (fun h=>h hp2)
   refine reg (lm ?_)
   refine li rfl (opK [0] _ (fun w hM hO=>(qReadItems X br ((r.items 16384).2) w hO (hp2)).mono ?_))
   rintro e w' ⟨B19,cb19,rfl,hP⟩
   refine ⟨_,[_],_,rfl,hP,rfl,?_⟩; clear hP hM hO
   refine lm ?_
   refine lc (.slice B19 ((((r.items 16384).2).items 16384).1.length) (cb19)) ?_
   refine lc (.bool true) ?_
   refine la ?_
   refine la ?_
   refine liNil (qThen (stSeq (stSeq (reg (lm ?_)))))
   refine li rfl (opK [0] _ (fun w hM hO=>(rsREnd_any X br ((((r.items 16384).2).items 16384).2) w hO).mono ?_))
   rintro e w' ⟨rfl,hP⟩
   refine ⟨_,[_],_,rfl,hP,rfl,?_⟩; clear hP hM hO
   refine lm ?_
   refine lc (vI (((((r.items 16384).2).items 16384).2).off)) ?_
   refine lc (.int .i64 ((((r.items 16384).2).items 16384).2).end_) ?_
   refine la ?_
   refine la ?_
   refine liNil (qThen (stSeq (reg (lm ?_))))
   refine lc (.bool ((((((r.items 16384).2).items 16384).2).end_:Int) != 0)) ?_
   refine lm ?_
   refine St.dec 29 rfl (fun hc29=>?_) (fun hc29=>?_)
   ·refine lnT ?_
    refine lnT ?_
    refine lc (.bool true) ?_
    refine lm ?_
    iterate 5 refine lnT ?_
    refine lc (.bool true) ?_
    refine liNil (qThen (stTrue rfl (stSeq (reg ?_))))
    refine la ?_
    refine liNil (qThen (stRet (qThenR (sN [(.int .i64 3)] fun w hM=>?_))))
    exact ⟨3,((((r.items 16384).2).items 16384).2),rfl,(hM.pick [0] rfl rfl),by decide⟩
   ·try replace hbad:=hbad.resolve_left (by simpa using hc29)
    refine lgm ?_
    refine lgc (.bool false) ?_
    refine lc (.bool false) ?_
    refine lm ?_
    iterate 3 refine lgm ?_
    refine liGo rfl rfl ?_
    refine opK0 (fun w hM=>(qAgrees bs A c its v1 v2 v3 v4 v5 v6 v7 v8 v9 v10 B12 cb12 ((r.items 16384).1) B19 cb19 ((((r.items 16384).2).items 16384).1) w (r0.go0 hM) (r1.go0 hM) (hM.keep0 (j:=1) rfl (fun _ h=>RowIn.of_own h)) (hM.keep0 (j:=2) rfl (fun _ h=>RowIn.of_own h)) (by assumption) (by omega) (by omega) (by omega)).mono ?_)
    rintro e w' ⟨rfl,hP⟩
    refine ⟨_,_,rfl,hP,?_⟩; clear hP hM
    refine lgc (.bool (!(agreesB its ((r.items 16384).1) ((((r.items 16384).2).items 16384).1)))) ?_
    refine lc (.bool (!(agreesB its ((r.items 16384).1) ((((r.items 16384).2).items 16384).1)))) ?_
    refine liNil (qThen (stTrueK rfl (by rw [hbad]; rfl) ?_))
    refine stSeq (reg (la ?_))
    refine liNil (qThen (stRet (qThenR (sN [(.int .i64 3)] fun w hM=>?_))))
    exact ⟨3,((((r.items 16384).2).items 16384).2),rfl,(hM.pick [0] rfl rfl),by decide⟩
  ·refine reg (lm ?_)
   refine li rfl (opK [0] _ (fun w hM hO=>(qReadItemsB X br ((r.items 16384).2) w hO (hp2)).mono ?_))
   rintro e w' ⟨q19,rfl,hP⟩
   refine ⟨_,[_],_,rfl,hP,rfl,?_⟩; clear hP hM hO
   refine lm ?_
   refine lc (.slice none 0 0) ?_
   refine lc (.bool false) ?_
   refine la ?_
   refine la ?_
   refine liNil (qThen (stSeq (stSeq ?_)))
   dsimp only [setAll,List.set,List.cons_append,List.nil_append]
   refine reg (lm ?_)
   refine li rfl (opK [0] _ (fun w hM hO=>(rsREnd_any X br q19 w hO).mono ?_))
   rintro e w' ⟨rfl,hP⟩
   refine ⟨_,[_],_,rfl,hP,rfl,?_⟩; clear hP hM hO
   refine lm ?_
   refine lc (vI q19.off) ?_
   refine lc (.int .i64 q19.end_) ?_
   refine la ?_
   refine la ?_
   refine liNil (qThen (stSeq (reg (lm ?_))))
   refine lc (.bool ((q19.end_:Int) != 0)) ?_
   refine lm ?_
   refine St.dec 29 rfl (fun hc29=>?_) (fun hc29=>?_)
   ·refine lnT ?_
    refine lnT ?_
    refine lc (.bool true) ?_
    refine lm ?_
    iterate 5 refine lnT ?_
    refine lc (.bool true) ?_
    refine liNil (qThen (stTrue rfl (stSeq (reg ?_))))
    refine la ?_
    refine liNil (qThen (stRet (qThenR (sN [(.int .i64 3)] fun w hM=>?_))))
    exact ⟨3,q19,rfl,(hM.pick [0] rfl rfl),by decide⟩
   ·try replace hbad:=hbad.resolve_left (by simpa using hc29)
    refine lgm ?_
    refine lgc (.bool true) ?_
    refine lc (.bool true) ?_
    refine lm ?_
    iterate 5 refine lnT ?_
    refine lc (.bool true) ?_
    refine liNil (qThen (stTrue rfl (stSeq (reg ?_))))
    refine la ?_
    refine liNil (qThen (stRet (qThenR (sN [(.int .i64 3)] fun w hM=>?_))))
    exact ⟨3,q19,rfl,(hM.pick [0] rfl rfl),by decide⟩
 ·refine reg (lm ?_)
  refine li rfl (opK [0] _ (fun w hM hO=>(qReadItemsB X br r w hO (hp1)).mono ?_))
  rintro e w' ⟨q12,rfl,hP⟩
  refine ⟨_,[_],_,rfl,hP,rfl,?_⟩; clear hP hM hO
  refine lm ?_
  refine lc (.slice none 0 0) ?_
  refine lc (.bool false) ?_
  refine la ?_
  refine la ?_
  refine liNil (qThen (stSeq (stSeq (reg (lm ?_)))))
  refine lc (.bool true) ?_
  refine liNil (qThen (stTrue rfl (stSeq (reg ?_))))
  refine la ?_
  refine liNil (qThen (stRet (qThenR (sN [(.int .i64 3)] fun w hM=>?_))))
  exact ⟨3,q12,rfl,hM,by decide⟩
theorem qAcceptS (bs:Nat) (A:Option Addr) (c:Nat) (its:List (List UInt8)) (v2 v3:Value) (v4 v6:Value) (v8 v9 v10:Value) (AD:Option Addr) (cD:Nat) (Dm:List UInt8) (q0:Rd) (ts:List BT) (k se:Nat) (A2:Option Addr) (c2 nm om:Nat) (w:World) (hO:Own [cAt bs 101 [(vL A its c),(.bool false),v2,v3,v4,(.bool false),v6,(vP se 0),v8,v9,v10]] w) (r0:Rf [cAt bs 101 [(vL A its c),(.bool false),v2,v3,v4,(.bool false),v6,(vP se 0),v8,v9,v10]] w (Vars)) (r1:Rf [cAt bs 101 [(vL A its c),(.bool false),v2,v3,v4,(.bool false),v6,(vP se 0),v8,v9,v10]] w (fun w=>RowIn w A (SS its))) (r2:Rf [cAt bs 101 [(vL A its c),(.bool false),v2,v3,v4,(.bool false),v6,(vP se 0),v8,v9,v10]] w (fun w=>RowIn w AD (B8 Dm))) (r3:Rf [cAt bs 101 [(vL A its c),(.bool false),v2,v3,v4,(.bool false),v6,(vP se 0),v8,v9,v10]] w (SessAt se A2 c2 its 4 4 nm om)) (hDl:Dm.length≤4294967296) (hu:(Rd.mk Dm 0 0 0).uint=(1,q0)) (hts:rdSk q0.rest.1=some ts) (hend:q0.rest.2.end_=0) (hset:okSet its) (h40:its.length≤40) (hc2:its.length≤c2) (hest:est ts (strata its)=k) (hk:500 < k) :
  Calls Tryz.prog 58 #[(vP bs 0),(vL AD Dm cD)] w fun e w'=>∃ (Am:Option Addr) (cm:Nat),e = .returned (.int .i64 0)∧Back [cAt bs 101 [(vL A its c),(.bool false),v2,v3,v4,(.bool false),v6,(vP se 0),v8,v9,v10]] w [cAt bs 101 [(vL A its c),(.bool false),(.int .i64 1),(vI 3),(vL Am (withB 3 (encA [sumA its [] []])) cm),(.bool true),v6,(vP se 0),v8,v9,v10],cB Am (withB 3 (encA [sumA its [] []])) cm] w':=by
 refine sE2 Tryz.func58 95 (hO) ?_
 refine stSeq (reg (la ?_))
 refine liNil (qThen (stSeq (reg (lm ?_))))
 refine li rfl (opK0 (fun w hM=>(rsRNew_any AD cD Dm w (r2.go0 hM) (hDl)).mono ?_))
 rintro e w' ⟨X10,br10,rfl,hP⟩
 refine ⟨_,_,rfl,hP,?_⟩; clear hP hM
 refine la ?_
 refine liNil (qThen (stSeq (reg (la ?_))))
 refine liNil (qThen (stSeq (stSeq (reg (lm ?_)))))
 refine li rfl (opK [1] _ (fun w hM hO=>(rsRUint_any X10 br10 (Rd.mk Dm 0 0 0) w hO).mono ?_))
 rintro e w' ⟨rfl,hP⟩
 refine ⟨_,[_],_,rfl,hP,rfl,?_⟩; clear hP hM hO
 refine liNil (qThen (stBlock (stSeq ?_)))
 rw [show (Rd.mk Dm 0 0 0).uint.1=1 from by rw [hu]]
 rw [show (Rd.mk Dm 0 0 0).uint.2=q0 from by rw [hu]]
 refine reg (lc (.bool true) ?_)
 refine la ?_
 refine liNil (qThen (stTrue rfl (stSeq (reg ?_))))
 refine lm ?_
 refine lc (vP bs 0) ?_
 refine lc (vP bs 1) ?_
 refine ll 0 ?_
 refine lc (.bool true) ?_
 refine lm ?_
 refine lgm ?_
 refine lgc (vP bs 0) ?_
 refine lgc (vP bs 5) ?_
 refine lgv (v:=(.bool false)) (rLoad 0 rfl rfl (by kernel_rfl) rfl rfl) ?_
 refine lgc (.bool true) ?_
 refine lc (.bool true) ?_
 refine liNil (qThen (stTrue rfl (reg ?_)))
 refine lm ?_
 refine lm ?_
 refine li rfl (opK [0,1] _ (fun w hM hO=>(qAccSketchS bs A c its (.bool false) v2 v3 v4 (.bool false) v6 v8 v9 v10 X10 br10 q0 ts k se A2 c2 nm om w hO (r0.goS hM [0,1]) (r1.goS hM [0,1]) (r3.goS hM [0,1]) (hts) (hend) (hset) (h40) (hc2) (hest) (hk)).mono ?_))
 rintro e w' ⟨Am29,cm29,rfl,hP⟩
 refine ⟨_,[_,_],_,rfl,hP,rfl,?_⟩; clear hP hM hO
 refine la ?_
 refine liNil (qBlock (qThen (stSeq (stSeq (reg ?_)))))
 refine lm ?_
 refine lc (.bool true) ?_
 refine liNil (qThen (stTrue rfl (reg ?_)))
 refine lm ?_
 refine lc (vP bs 0) ?_
 refine lc (vP bs 5) ?_
 refine li rfl (oS1 0 ?_)
 refine liNil (qThen (stSeq ?_))
 dsimp only [setAll,List.set,List.cons_append,List.nil_append]
 refine reg (lm ?_)
 refine la ?_
 refine liNil (qThen (stRet (sN [(.int .i64 0)] fun w hM=>?_)))
 exact ⟨Am29,cm29,rfl,(hM.pick [0,2] rfl rfl)⟩
theorem qAcceptB (bs:Nat) (A:Option Addr) (c:Nat) (its:List (List UInt8)) (v2 v4:Value) (v6 v8:Value) (v9 v10:Value) (AD:Option Addr) (cD:Nat) (Dm:List UInt8) (q0:Rd) (se:Nat) (A2:Option Addr) (c2 nm om:Nat) (S S2:List (List UInt8)) (k:Nat) (bg rc:Bool) (kd:Nat) (w:World) (hO:Own [cAt bs 101 [(vL A its c),(.bool bg),v2,(vI kd),v4,(.bool rc),v6,(vP se 0),v8,v9,v10],cSet nm (S),cSet om (S2)] w) (r0:Rf [cAt bs 101 [(vL A its c),(.bool bg),v2,(vI kd),v4,(.bool rc),v6,(vP se 0),v8,v9,v10],cSet nm (S),cSet om (S2)] w (Vars)) (r1:Rf [cAt bs 101 [(vL A its c),(.bool bg),v2,(vI kd),v4,(.bool rc),v6,(vP se 0),v8,v9,v10],cSet nm (S),cSet om (S2)] w (fun w=>RowIn w A (SS its))) (r2:Rf [cAt bs 101 [(vL A its c),(.bool bg),v2,(vI kd),v4,(.bool rc),v6,(vP se 0),v8,v9,v10],cSet nm (S),cSet om (S2)] w (fun w=>RowIn w AD (B8 Dm))) (r3:Rf [cAt bs 101 [(vL A its c),(.bool bg),v2,(vI kd),v4,(.bool rc),v6,(vP se 0),v8,v9,v10],cSet nm (S),cSet om (S2)] w (SessAt se A2 c2 its 4 4 nm om)) (hDl:Dm.length≤1000000) (hu:(Rd.mk Dm 0 0 0).uint=(k,q0)) (hs:its.Pairwise (· < ·)) (hn:its.length≤68719476736) (hset:okSet its) (h40:its.length≤40) (hc2:its.length≤c2) (hS:S.length≤549755813888) (hT:S2.length≤549755813888) (h1:k=1→bg=true∨rc=true∨rdSk q0.rest.1=none∨q0.rest.2.end_≠0) (h2:k=2→kd≠1∨rc=true∨(q0.sum.2.rest.2.end_≠0∨∀ t,decd q0.sum.2.rest.1=some t→t.seed≠0)) (h3:k=3→kd=0∨(q0.rest.2.end_≠0∨q0.rest.1=[]∨(stepA its 4 4 q0.rest.1).err≠0)) (h4:k=4→kd≠2∨(¬ (q0.items 16384).1.Pairwise (· < ·)∨¬ ((q0.items 16384).2.items 16384).1.Pairwise (· < ·)∨((q0.items 16384).2.items 16384).2.end_≠0∨agreesB its (q0.items 16384).1 ((q0.items 16384).2.items 16384).1=false)) (h5:k=5→q0.end_≠0∨kd≠3) :
  Calls Tryz.prog 58 #[(vP bs 0),(vL AD Dm cD)] w fun e w'=>∃ (z:Int),e = .returned (.int .i64 z)∧Back [cAt bs 101 [(vL A its c),(.bool bg),v2,(vI kd),v4,(.bool rc),v6,(vP se 0),v8,v9,v10],cSet nm (S),cSet om (S2)] w [cAt bs 101 [(vL A its c),(.bool bg),v2,(vI kd),v4,(.bool rc),v6,(vP se 0),v8,v9,v10],cSet nm (S),cSet om (S2)] w'∧(z≠0):=by
 refine sE2 Tryz.func58 95 (hO) ?_
 refine stSeq (reg (la ?_))
 refine liNil (qThen (stSeq (reg (lm ?_))))
 refine li rfl (opK0 (fun w hM=>(rsRNew_any AD cD Dm w (r2.go0 hM) (by omega)).mono ?_))
 rintro e w' ⟨X10,br10,rfl,hP⟩
 refine ⟨_,_,rfl,hP,?_⟩; clear hP hM
 refine la ?_
 refine liNil (qThen (stSeq (reg (la ?_))))
 refine liNil (qThen (stSeq (stSeq (reg (lm ?_)))))
 refine li rfl (opK [3] _ (fun w hM hO=>(rsRUint_any X10 br10 (Rd.mk Dm 0 0 0) w hO).mono ?_))
 rintro e w' ⟨rfl,hP⟩
 refine ⟨_,[_],_,rfl,hP,rfl,?_⟩; clear hP hM hO
 refine liNil (qThen (stBlock (stSeq ?_)))
 rw [show (Rd.mk Dm 0 0 0).uint.1=k from by rw [hu]]
 rw [show (Rd.mk Dm 0 0 0).uint.2=q0 from by rw [hu]]
 refine reg (lc (.bool ((((k:Nat):Int):Int) == 1)) ?_)
 refine la ?_
 refine liNil (qThen (stCond rfl (fun hc13=>?_) (fun hc13=>?_)))
 ·obtain rfl:k=1:=by have:=hc13; simp at this; omega
  replace h1:=h1 rfl
  refine stSeq (reg (lm ?_))
  refine lc (vP bs 0) ?_
  refine lc (vP bs 1) ?_
  refine ll 0 ?_
  refine lc (.bool (!bg)) ?_
  refine lm ?_
  refine St.dec 20 rfl (fun hc20=>?_) (fun hc20=>?_)
  ·replace h1:=h1.resolve_left (by first | (simpa using hc20) | (have h9:=hc20; simp at h9; omega))
   refine lgm ?_
   refine lgc (vP bs 0) ?_
   refine lgc (vP bs 5) ?_
   refine lgv (v:=(.bool rc)) (rLoad 0 rfl rfl (by kernel_rfl) rfl rfl) ?_
   refine lgc (.bool (!rc)) ?_
   refine lc (.bool (!rc)) ?_
   refine liNil (qThen (stCond rfl (fun hc26=>?_) (fun hc26=>?_)))
   ·replace h1:=h1.resolve_left (by first | (simpa using hc26) | (have h9:=hc26; simp at h9; omega))
    refine reg (lm ?_)
    refine lm ?_
    refine li rfl (opK [3] _ (fun w hM hO=>(qAccSketchB bs X10 br10 q0 w hO (h1)).mono ?_))
    rintro e w' ⟨z29,rfl,hP,hz29⟩
    refine ⟨_,[_],_,rfl,hP,rfl,?_⟩; clear hP hM hO
    refine la ?_
    refine liNil (qBlock (qThen (stSeq (stSeq (reg ?_)))))
    refine lm ?_
    refine lc (.bool ((z29:Int) == 0)) ?_
    refine liNil (qThen (stFalseK rfl (by simpa using hz29) ?_))
    refine stSkip (qThen (stSeq (reg (lm ?_))))
    refine la ?_
    refine liNil (qThen (stRet (sN [(.int .i64 z29)] fun w hM=>?_)))
    exact ⟨z29,rfl,(hM.pick [0,1,2] rfl rfl),hz29⟩
   ·refine stSkip (qBlock (qThen (stSeq (stSeq (reg ?_)))))
    refine lm ?_
    refine lc (.bool false) ?_
    refine liNil (qThen (stFalse rfl (stSkip (qThen (stSeq (reg ?_))))))
    refine lm ?_
    refine la ?_
    refine liNil (qThen (stRet (sN [(.int .i64 3)] fun w hM=>?_)))
    exact ⟨3,rfl,(hM.pick [0,1,2] rfl rfl),by decide⟩
  ·refine lnF ?_
   iterate 4 refine lnF ?_
   refine lc (.bool false) ?_
   refine liNil (qThen (stFalse rfl (stSkip (qBlock (qThen (stSeq (stSeq (reg ?_))))))))
   refine lm ?_
   refine lc (.bool false) ?_
   refine liNil (qThen (stFalse rfl (stSkip (qThen (stSeq (reg ?_))))))
   refine lm ?_
   refine la ?_
   refine liNil (qThen (stRet (sN [(.int .i64 3)] fun w hM=>?_)))
   exact ⟨3,rfl,(hM.pick [0,1,2] rfl rfl),by decide⟩
 ·refine stSeq (reg (lc (.bool ((((k:Nat):Int):Int) == 2)) ?_))
  refine la ?_
  refine liNil (qThen (stCond rfl (fun hc30=>?_) (fun hc30=>?_)))
  ·obtain rfl:k=2:=by have:=hc30; simp at this; omega
   replace h2:=h2 rfl
   refine stSeq (reg (lm ?_))
   refine lc (vP bs 0) ?_
   refine lc (vP bs 3) ?_
   refine ll 0 ?_
   refine lc (.bool ((((kd:Nat):Int):Int) == 1)) ?_
   refine lm ?_
   refine St.dec 37 rfl (fun hc37=>?_) (fun hc37=>?_)
   ·replace h2:=h2.resolve_left (by first | (simpa using hc37) | (have h9:=hc37; simp at h9; omega))
    refine lgm ?_
    refine lgc (vP bs 0) ?_
    refine lgc (vP bs 5) ?_
    refine lgv (v:=(.bool rc)) (rLoad 0 rfl rfl (by kernel_rfl) rfl rfl) ?_
    refine lgc (.bool (!rc)) ?_
    refine lc (.bool (!rc)) ?_
    refine liNil (qThen (stCond rfl (fun hc43=>?_) (fun hc43=>?_)))
    ·replace h2:=h2.resolve_left (by first | (simpa using hc43) | (have h9:=hc43; simp at h9; omega))
     refine reg (lm ?_)
     refine lm ?_
     refine li rfl (opK [3] _ (fun w hM hO=>(qAccTableB bs X10 br10 q0 w hO (h2)).mono ?_))
     rintro e w' ⟨z46,rfl,hP,hz46⟩
     refine ⟨_,[_],_,rfl,hP,rfl,?_⟩; clear hP hM hO
     refine la ?_
     refine liNil (qBlock (qThen (stSeq (stSeq ?_))))
     dsimp only [setAll,List.set,List.cons_append,List.nil_append]
     refine reg (lm ?_)
     refine lc (.bool ((z46:Int) == 0)) ?_
     refine liNil (qThen (stFalseK rfl (by simpa using hz46) ?_))
     refine stSkip (qThen (stSeq (reg (lm ?_))))
     refine la ?_
     refine liNil (qThen (stRet (sN [(.int .i64 z46)] fun w hM=>?_)))
     exact ⟨z46,rfl,(hM.pick [0,1,2] rfl rfl),hz46⟩
    ·refine stSkip (qBlock (qThen (stSeq (stSeq (reg ?_)))))
     refine lm ?_
     refine lc (.bool false) ?_
     refine liNil (qThen (stFalse rfl (stSkip (qThen (stSeq (reg ?_))))))
     refine lm ?_
     refine la ?_
     refine liNil (qThen (stRet (sN [(.int .i64 3)] fun w hM=>?_)))
     exact ⟨3,rfl,(hM.pick [0,1,2] rfl rfl),by decide⟩
   ·refine lnF ?_
    iterate 4 refine lnF ?_
    refine lc (.bool false) ?_
    refine liNil (qThen (stFalse rfl (stSkip (qBlock (qThen (stSeq (stSeq (reg ?_))))))))
    refine lm ?_
    refine lc (.bool false) ?_
    refine liNil (qThen (stFalse rfl (stSkip (qThen (stSeq (reg ?_))))))
    refine lm ?_
    refine la ?_
    refine liNil (qThen (stRet (sN [(.int .i64 3)] fun w hM=>?_)))
    exact ⟨3,rfl,(hM.pick [0,1,2] rfl rfl),by decide⟩
  ·refine stSeq (reg (lc (.bool ((((k:Nat):Int):Int) == 3)) ?_))
   refine la ?_
   refine liNil (qThen (stCond rfl (fun hc47=>?_) (fun hc47=>?_)))
   ·obtain rfl:k=3:=by have:=hc47; simp at this; omega
    replace h3:=h3 rfl
    refine stSeq (reg (lm ?_))
    refine lc (vP bs 0) ?_
    refine lc (vP bs 3) ?_
    refine ll 0 ?_
    refine lc (.bool ((((kd:Nat):Int):Int) != 0)) ?_
    refine liNil (qThen (stCond rfl (fun hc53=>?_) (fun hc53=>?_)))
    ·replace h3:=h3.resolve_left (by first | (simpa using hc53) | (have h9:=hc53; simp at h9; omega))
     refine reg (lm ?_)
     refine lm ?_
     refine li rfl (opK [3,1,2] _ (fun w hM hO=>(qAccRangeB bs A c its (.bool bg) v2 (vI kd) v4 (.bool rc) v6 v8 v9 v10 X10 br10 q0 se A2 c2 nm om S S2 w hO (r0.goS hM [3,1,2]) (hM.keepS [3,1,2] (j:=0) rfl (fun _ h=>h)) (r1.goS hM [3,1,2]) (r3.goS hM [3,1,2]) (h3) (hset) (h40) (hc2) (rest_le hu hDl) (hS) (hT)).mono ?_))
     rintro e w' ⟨z56,rfl,hP,hz56⟩
     refine ⟨_,[_,_,_],_,rfl,hP,rfl,?_⟩; clear hP hM hO
     refine la ?_
     refine liNil (qBlock (qThen (stSeq (stSeq (reg ?_)))))
     refine lm ?_
     refine lc (.bool ((z56:Int) == 0)) ?_
     refine liNil (qThen (stFalseK rfl (by simpa using hz56) ?_))
     refine stSkip (qThen (stSeq (reg (lm ?_))))
     refine la ?_
     refine liNil (qThen (stRet (sN [(.int .i64 z56)] fun w hM=>?_)))
     exact ⟨z56,rfl,(hM.pick [0,1,2] rfl rfl),hz56⟩
    ·refine stSkip (qBlock (qThen (stSeq (stSeq (reg ?_)))))
     refine lm ?_
     refine lc (.bool false) ?_
     refine liNil (qThen (stFalse rfl (stSkip (qThen (stSeq (reg ?_))))))
     refine lm ?_
     refine la ?_
     refine liNil (qThen (stRet (sN [(.int .i64 3)] fun w hM=>?_)))
     exact ⟨3,rfl,(hM.pick [0,1,2] rfl rfl),by decide⟩
   ·refine stSeq (reg (lc (.bool ((((k:Nat):Int):Int) == 4)) ?_))
    refine la ?_
    refine liNil (qThen (stCond rfl (fun hc57=>?_) (fun hc57=>?_)))
    ·obtain rfl:k=4:=by have:=hc57; simp at this; omega
     replace h4:=h4 rfl
     refine stSeq (reg (lm ?_))
     refine lc (vP bs 0) ?_
     refine lc (vP bs 3) ?_
     refine ll 0 ?_
     refine lc (.bool ((((kd:Nat):Int):Int) == 2)) ?_
     refine liNil (qThen (stCond rfl (fun hc63=>?_) (fun hc63=>?_)))
     ·replace h4:=h4.resolve_left (by first | (simpa using hc63) | (have h9:=hc63; simp at h9; omega))
      refine reg (lm ?_)
      refine lm ?_
      refine li rfl (opK [3] _ (fun w hM hO=>(qAccDiffB bs A c its (.bool bg) v2 (vI kd) v4 (.bool rc) v6 (vP se 0) v8 v9 v10 X10 br10 q0 w hO (hM.keepS [3] (j:=0) rfl (fun _ h=>h)) (r1.goS hM [3]) (h4) (hs) (hn)).mono ?_))
      rintro e w' ⟨z66,q66,rfl,hP,hz66⟩
      refine ⟨_,[_],_,rfl,hP,rfl,?_⟩; clear hP hM hO
      refine la ?_
      refine liNil (qBlock (qThen (stSeq (stSeq (reg ?_)))))
      refine lm ?_
      refine lc (.bool ((z66:Int) == 0)) ?_
      refine liNil (qThen (stFalseK rfl (by simpa using hz66) ?_))
      refine stSkip (qThen (stSeq (reg (lm ?_))))
      refine la ?_
      refine liNil (qThen (stRet (sN [(.int .i64 z66)] fun w hM=>?_)))
      exact ⟨z66,rfl,(hM.pick [0,1,2] rfl rfl),hz66⟩
     ·refine stSkip (qBlock (qThen (stSeq (stSeq (reg ?_)))))
      refine lm ?_
      refine lc (.bool false) ?_
      refine liNil (qThen (stFalse rfl (stSkip (qThen (stSeq (reg ?_))))))
      refine lm ?_
      refine la ?_
      refine liNil (qThen (stRet (sN [(.int .i64 3)] fun w hM=>?_)))
      exact ⟨3,rfl,(hM.pick [0,1,2] rfl rfl),by decide⟩
    ·refine stSeq (reg (lc (.bool ((((k:Nat):Int):Int) == 5)) ?_))
     refine la ?_
     refine liNil (qThen (stCond rfl (fun hc67=>?_) (fun hc67=>?_)))
     ·obtain rfl:k=5:=by have:=hc67; simp at this; omega
      replace h5:=h5 rfl
      refine stSeq (reg (lm ?_))
      refine li rfl (opK [3] _ (fun w hM hO=>(rsREnd_any X10 br10 q0 w hO).mono ?_))
      rintro e w' ⟨rfl,hP⟩
      refine ⟨_,[_],_,rfl,hP,rfl,?_⟩; clear hP hM hO
      refine lm ?_
      refine lc (vI q0.off) ?_
      refine lc (.int .i64 q0.end_) ?_
      refine la ?_
      refine la ?_
      refine liNil (qThen (stSeq (reg (lm ?_))))
      refine lc (.bool ((q0.end_:Int) == 0)) ?_
      refine lm ?_
      refine St.dec 76 rfl (fun hc76=>?_) (fun hc76=>?_)
      ·replace h5:=h5.resolve_left (by simpa using hc76)
       refine lgm ?_
       refine lgc (vP bs 0) ?_
       refine lgc (vP bs 3) ?_
       refine lgv (v:=(vI kd)) (rLoad 0 rfl rfl (by kernel_rfl) rfl rfl) ?_
       refine lgc (.bool ((((kd:Nat):Int):Int) == 3)) ?_
       refine lc (.bool ((((kd:Nat):Int):Int) == 3)) ?_
       refine liNil (qThen (stFalseK rfl (by simp; omega) ?_))
       refine stSkip (qBlock (qThen (stSeq (stSeq (reg ?_)))))
       refine lm ?_
       refine lc (.bool false) ?_
       refine liNil (qThen (stFalse rfl (stSkip (qThen (stSeq (reg ?_))))))
       refine lm ?_
       refine la ?_
       refine liNil (qThen (stRet (sN [(.int .i64 3)] fun w hM=>?_)))
       exact ⟨3,rfl,(hM.pick [0,1,2] rfl rfl),by decide⟩
      ·refine lnF ?_
       iterate 4 refine lnF ?_
       refine lc (.bool false) ?_
       refine liNil (qThen (stFalse rfl (stSkip (qBlock (qThen (stSeq (stSeq (reg ?_))))))))
       refine lm ?_
       refine lc (.bool false) ?_
       refine liNil (qThen (stFalse rfl (stSkip (qThen (stSeq (reg ?_))))))
       refine lm ?_
       refine la ?_
       refine liNil (qThen (stRet (sN [(.int .i64 3)] fun w hM=>?_)))
       exact ⟨3,rfl,(hM.pick [0,1,2] rfl rfl),by decide⟩
     ·refine stSkip (qBlock (qThen (stSeq (stSeq (reg ?_)))))
      refine lm ?_
      refine lc (.bool false) ?_
      refine liNil (qThen (stFalse rfl (stSkip (qThen (stSeq (reg ?_))))))
      refine lm ?_
      refine la ?_
      refine liNil (qThen (stRet (sN [(.int .i64 3)] fun w hM=>?_)))
      exact ⟨3,rfl,(hM.pick [0,1,2] rfl rfl),by decide⟩
theorem qReceiveS (bs:Nat) (A:Option Addr) (c:Nat) (its:List (List UInt8)) (v3 v4:Value) (v6 v8:Value) (v9 v10:Value) (AD:Option Addr) (cD:Nat) (Dm:List UInt8) (q0:Rd) (ts:List BT) (k se:Nat) (A2:Option Addr) (c2 nm om:Nat) (w:World) (hO:Own [cAt bs 101 [(vL A its c),(.bool false),(.int .i64 2),v3,v4,(.bool false),v6,(vP se 0),v8,v9,v10]] w) (r0:Rf [cAt bs 101 [(vL A its c),(.bool false),(.int .i64 2),v3,v4,(.bool false),v6,(vP se 0),v8,v9,v10]] w (Vars)) (r1:Rf [cAt bs 101 [(vL A its c),(.bool false),(.int .i64 2),v3,v4,(.bool false),v6,(vP se 0),v8,v9,v10]] w (fun w=>RowIn w A (SS its))) (r2:Rf [cAt bs 101 [(vL A its c),(.bool false),(.int .i64 2),v3,v4,(.bool false),v6,(vP se 0),v8,v9,v10]] w (fun w=>RowIn w AD (B8 Dm))) (r3:Rf [cAt bs 101 [(vL A its c),(.bool false),(.int .i64 2),v3,v4,(.bool false),v6,(vP se 0),v8,v9,v10]] w (SessAt se A2 c2 its 4 4 nm om)) (hDl:Dm.length≤4294967296) (hu:(Rd.mk Dm 0 0 0).uint=(1,q0)) (hts:rdSk q0.rest.1=some ts) (hend:q0.rest.2.end_=0) (hset:okSet its) (h40:its.length≤40) (hc2:its.length≤c2) (hest:est ts (strata its)=k) (hk:500 < k) :
  Calls Tryz.prog 21 #[(vP bs 0),(vL AD Dm cD)] w fun e w'=>∃ (Am:Option Addr) (cm:Nat),e = .returned (.int .i64 0)∧Back [cAt bs 101 [(vL A its c),(.bool false),(.int .i64 2),v3,v4,(.bool false),v6,(vP se 0),v8,v9,v10]] w [cAt bs 101 [(vL A its c),(.bool false),(.int .i64 1),(vI 3),(vL Am (withB 3 (encA [sumA its [] []])) cm),(.bool true),v6,(vP se 0),v8,v9,v10],cB Am (withB 3 (encA [sumA its [] []])) cm] w':=by
 refine sE2 Tryz.func21 26 (hO) ?_
 refine stSeq (reg (la ?_))
 refine liNil (qThen (stSeq (reg (li rfl (opMakeMapK kSt (fun v:Value=>v) rfl rfl (by kernel_rfl) (fun b8=>?_))))))
 refine lm ?_
 refine lc (.func (.func 58) #[(vP bs 0)] #[]) ?_
 refine li rfl (opMapIns (D:=kSt) (val:=fun v:Value=>v) (a:=2) (u:=(.func (.func 58) #[(vP bs 0)] #[])) 1 [(2,(.func (.func 58) #[(vP bs 0)] #[]))] rfl rfl (by kernel_rfl) rfl rfl rfl Tryz.underlying112 rfl (show (2:Nat) < 100 by decide) rfl ?_)
 refine lm ?_
 refine la ?_
 refine liNil (qThen (stSeq (reg (lm ?_))))
 refine lm ?_
 refine lc (vP bs 0) ?_
 refine lc (vP bs 2) ?_
 refine ll 0 ?_
 refine lv (v:=(.tuple #[(.func (.func 58) #[(vP bs 0)] #[]),(.bool true)])) (rConv (rMapGetOk (D:=kSt) (val:=fun v:Value=>v) (a:=2) (kv:=[(2,(.func (.func 58) #[(vP bs 0)] #[]))]) 1 rfl rfl rfl Tryz.underlying112 Tryz.zeroValue60 rfl (show (2:Nat) < 100 by decide)) rfl) ?_
 refine lm ?_
 refine lc (.func (.func 58) #[(vP bs 0)] #[]) ?_
 refine lc (.bool true) ?_
 refine la ?_
 refine la ?_
 refine liNil (qThen (stSeq (stSeq (reg (lm ?_)))))
 refine lc (.bool false) ?_
 refine liNil (qThen (stFalse rfl (stSkip (qThen (stSeq (reg ?_))))))
 refine lm ?_
 refine lm ?_
 refine li rfl (opK [0] [cAt bs 101 [(vL A its c),(.bool false),(.int .i64 2),v3,v4,(.bool false),v6,(vP se 0),v8,v9,v10]] (fun w hM hO=>(qAcceptS bs A c its (.int .i64 2) v3 v4 v6 v8 v9 v10 AD cD Dm q0 ts k se A2 c2 nm om w hO (r0.goS hM [0]) (r1.goS hM [0]) (r2.goS hM [0]) (r3.goS hM [0]) (hDl) (hu) (hts) (hend) (hset) (h40) (hc2) (hest) (hk)).mono ?_) rfl rfl rfl (by kernel_rfl) (hrBound rfl rfl rfl (enters Tryz.func58 (by kernel_rfl) rfl)))
 rintro e w' ⟨Am25,cm25,rfl,hP⟩
 refine ⟨_,[_],_,rfl,hP,rfl,?_⟩; clear hP hM hO
 refine la ?_
 refine liNil (qThen (stRet (sN [(.int .i64 0)] fun w hM=>?_)))
 exact ⟨Am25,cm25,rfl,(hM.pick [0,2] rfl rfl)⟩
theorem qReceiveB (bs:Nat) (A:Option Addr) (c:Nat) (its:List (List UInt8)) (v4 v6:Value) (v8 v9 v10:Value) (AD:Option Addr) (cD:Nat) (Dm:List UInt8) (q0:Rd) (se:Nat) (A2:Option Addr) (c2 nm om:Nat) (S S2:List (List UInt8)) (k:Nat) (bg rc:Bool) (kd:Nat) (w:World) (hO:Own [cAt bs 101 [(vL A its c),(.bool bg),(.int .i64 2),(vI kd),v4,(.bool rc),v6,(vP se 0),v8,v9,v10],cSet nm (S),cSet om (S2)] w) (r0:Rf [cAt bs 101 [(vL A its c),(.bool bg),(.int .i64 2),(vI kd),v4,(.bool rc),v6,(vP se 0),v8,v9,v10],cSet nm (S),cSet om (S2)] w (Vars)) (r1:Rf [cAt bs 101 [(vL A its c),(.bool bg),(.int .i64 2),(vI kd),v4,(.bool rc),v6,(vP se 0),v8,v9,v10],cSet nm (S),cSet om (S2)] w (fun w=>RowIn w A (SS its))) (r2:Rf [cAt bs 101 [(vL A its c),(.bool bg),(.int .i64 2),(vI kd),v4,(.bool rc),v6,(vP se 0),v8,v9,v10],cSet nm (S),cSet om (S2)] w (fun w=>RowIn w AD (B8 Dm))) (r3:Rf [cAt bs 101 [(vL A its c),(.bool bg),(.int .i64 2),(vI kd),v4,(.bool rc),v6,(vP se 0),v8,v9,v10],cSet nm (S),cSet om (S2)] w (SessAt se A2 c2 its 4 4 nm om)) (hDl:Dm.length≤1000000) (hu:(Rd.mk Dm 0 0 0).uint=(k,q0)) (hs:its.Pairwise (· < ·)) (hn:its.length≤68719476736) (hset:okSet its) (h40:its.length≤40) (hc2:its.length≤c2) (hS:S.length≤549755813888) (hT:S2.length≤549755813888) (h1:k=1→bg=true∨rc=true∨rdSk q0.rest.1=none∨q0.rest.2.end_≠0) (h2:k=2→kd≠1∨rc=true∨(q0.sum.2.rest.2.end_≠0∨∀ t,decd q0.sum.2.rest.1=some t→t.seed≠0)) (h3:k=3→kd=0∨(q0.rest.2.end_≠0∨q0.rest.1=[]∨(stepA its 4 4 q0.rest.1).err≠0)) (h4:k=4→kd≠2∨(¬ (q0.items 16384).1.Pairwise (· < ·)∨¬ ((q0.items 16384).2.items 16384).1.Pairwise (· < ·)∨((q0.items 16384).2.items 16384).2.end_≠0∨agreesB its (q0.items 16384).1 ((q0.items 16384).2.items 16384).1=false)) (h5:k=5→q0.end_≠0∨kd≠3) :
  Calls Tryz.prog 21 #[(vP bs 0),(vL AD Dm cD)] w fun e w'=>∃ (z:Int),e = .returned (.int .i64 z)∧Back [cAt bs 101 [(vL A its c),(.bool bg),(.int .i64 2),(vI kd),v4,(.bool rc),v6,(vP se 0),v8,v9,v10],cSet nm (S),cSet om (S2)] w [cAt bs 101 [(vL A its c),(.bool bg),(.int .i64 2),(vI kd),v4,(.bool rc),v6,(vP se 0),v8,v9,v10],cSet nm (S),cSet om (S2)] w'∧(z≠0):=by
 refine sE2 Tryz.func21 26 (hO) ?_
 refine stSeq (reg (la ?_))
 refine liNil (qThen (stSeq (reg (li rfl (opMakeMapK kSt (fun v:Value=>v) rfl rfl (by kernel_rfl) (fun b8=>?_))))))
 refine lm ?_
 refine lc (.func (.func 58) #[(vP bs 0)] #[]) ?_
 refine li rfl (opMapIns (D:=kSt) (val:=fun v:Value=>v) (a:=2) (u:=(.func (.func 58) #[(vP bs 0)] #[])) 3 [(2,(.func (.func 58) #[(vP bs 0)] #[]))] rfl rfl (by kernel_rfl) rfl rfl rfl Tryz.underlying112 rfl (show (2:Nat) < 100 by decide) rfl ?_)
 refine lm ?_
 refine la ?_
 refine liNil (qThen (stSeq (reg (lm ?_))))
 refine lm ?_
 refine lc (vP bs 0) ?_
 refine lc (vP bs 2) ?_
 refine ll 0 ?_
 refine lv (v:=(.tuple #[(.func (.func 58) #[(vP bs 0)] #[]),(.bool true)])) (rConv (rMapGetOk (D:=kSt) (val:=fun v:Value=>v) (a:=2) (kv:=[(2,(.func (.func 58) #[(vP bs 0)] #[]))]) 3 rfl rfl rfl Tryz.underlying112 Tryz.zeroValue60 rfl (show (2:Nat) < 100 by decide)) rfl) ?_
 refine lm ?_
 refine lc (.func (.func 58) #[(vP bs 0)] #[]) ?_
 refine lc (.bool true) ?_
 refine la ?_
 refine la ?_
 refine liNil (qThen (stSeq (stSeq (reg (lm ?_)))))
 refine lc (.bool false) ?_
 refine liNil (qThen (stFalse rfl (stSkip (qThen (stSeq (reg ?_))))))
 refine lm ?_
 refine lm ?_
 refine li rfl (opK [0,1,2] [cAt bs 101 [(vL A its c),(.bool bg),(.int .i64 2),(vI kd),v4,(.bool rc),v6,(vP se 0),v8,v9,v10],cSet nm (S),cSet om (S2)] (fun w hM hO=>(qAcceptB bs A c its (.int .i64 2) v4 v6 v8 v9 v10 AD cD Dm q0 se A2 c2 nm om S S2 k bg rc kd w hO (r0.goS hM [0,1,2]) (r1.goS hM [0,1,2]) (r2.goS hM [0,1,2]) (r3.goS hM [0,1,2]) (hDl) (hu) (hs) (hn) (hset) (h40) (hc2) (hS) (hT) (h1) (h2) (h3) (h4) (h5)).mono ?_) rfl rfl rfl (by kernel_rfl) (hrBound rfl rfl rfl (enters Tryz.func58 (by kernel_rfl) rfl)))
 rintro e w' ⟨z25,rfl,hP,hz25⟩
 refine ⟨_,[_,_,_],_,rfl,hP,rfl,?_⟩; clear hP hM hO
 refine la ?_
 refine liNil (qThen (stRet (sN [(.int .i64 z25)] fun w hM=>?_)))
 exact ⟨z25,rfl,(hM.pick [0,1,2] rfl rfl),hz25⟩
theorem qReceiveX (bs:Nat) (v0 v1:Value) (v3 v4:Value) (v5 v6:Value) (v7 v8:Value) (v9 v10:Value) (A:Option Addr) (n c st:Nat) (w:World) (r0:Rf [] w (fun w=>At w bs 101 [v0,v1,(vI st),v3,v4,v5,v6,v7,v8,v9,v10])) (hst:st≠2) (hst2:st < 100) :
  Calls Tryz.prog 21 #[(vP bs 0),(.slice A (n) (c))] w fun e w'=>e = .returned (.int .i64 6)∧Back [] w [] w':=by
 refine sE2 Tryz.func21 26 (Mm.start w []) ?_
 refine stSeq (reg (la ?_))
 refine liNil (qThen (stSeq (reg (li rfl (opMakeMapK kSt (fun v:Value=>v) rfl rfl (by kernel_rfl) (fun b8=>?_))))))
 refine lm ?_
 refine lc (.func (.func 58) #[(vP bs 0)] #[]) ?_
 refine li rfl (opMapIns (D:=kSt) (val:=fun v:Value=>v) (a:=2) (u:=(.func (.func 58) #[(vP bs 0)] #[])) 0 [(2,(.func (.func 58) #[(vP bs 0)] #[]))] rfl rfl (by kernel_rfl) rfl rfl rfl Tryz.underlying112 rfl (show (2:Nat) < 100 by decide) rfl ?_)
 refine lm ?_
 refine la ?_
 refine liNil (qThen (stSeq (reg (lm ?_))))
 refine lm ?_
 refine lc (vP bs 0) ?_
 refine lc (vP bs 2) ?_
 refine lv (rW (fun w hM=>At.cell (r0.now hM) 2)) ?_
 refine lv (v:=(.tuple #[.nilFunc,(.bool false)])) (rConv (rMapGetOk (D:=kSt) (val:=fun v:Value=>v) (a:=st) (kv:=[(2,(.func (.func 58) #[(vP bs 0)] #[]))]) 0 rfl rfl rfl Tryz.underlying112 Tryz.zeroValue60 rfl (show st < 100 by omega)) (kvSt_no hst)) ?_
 refine lm ?_
 refine lc .nilFunc ?_
 refine lc (.bool false) ?_
 refine la ?_
 refine la ?_
 refine liNil (qThen (stSeq (stSeq (reg (lm ?_)))))
 refine lc (.bool true) ?_
 refine liNil (qThen (stTrue rfl (stSeq (reg ?_))))
 refine la ?_
 refine liNil (qThen (stRet (qThenR (sN [(.int .i64 6)] fun w hM=>?_))))
 exact ⟨rfl,(hM.pick [] rfl rfl)⟩
theorem qNext_arg (bs:Nat) (b:Int) (w:World) (hb:b < 0) :
  Calls Tryz.prog 18 #[(vP bs 0),(.int .i64 b)] w fun e w'=>e = .returned (.tuple #[(.slice none 0 0),(.int .i64 1)])∧Back [] w [] w':=by
 refine sE2 Tryz.func18 56 (Mm.start w []) ?_
 refine stSeq (reg (la ?_))
 refine la ?_
 refine liNil (qThen (stSeq (stBlock (stSeq (reg (lm ?_))))))
 refine lc (.bool (decide ((b:Int) < 0))) ?_
 refine la ?_
 refine liNil (qThen (stTrueK rfl (by simpa using hb) ?_))
 refine stSeq (reg (la ?_))
 refine la ?_
 refine liNil (qThen (stRet (qBlockR (qThenR ?_))))
 refine sN [(.slice none 0 0),(.int .i64 1)] fun w hM=>?_
 exact ⟨rfl,hM⟩
theorem qNext_wst (bs:Nat) (v0 v1:Value) (v3 v4:Value) (v5 v6:Value) (v7 v8:Value) (v9 v10:Value) (b:Nat) (w:World) (r0:Rf [] w (fun w=>At w bs 101 [v0,v1,(.int .i64 2),v3,v4,v5,v6,v7,v8,v9,v10])) :
  Calls Tryz.prog 18 #[(vP bs 0),(vI b)] w fun e w'=>e = .returned (.tuple #[(.slice none 0 0),(.int .i64 6)])∧Back [] w [] w':=by
 refine sE2 Tryz.func18 56 (Mm.start w []) ?_
 refine stSeq (reg (la ?_))
 refine la ?_
 refine liNil (qThen (stSeq (stBlock (stSeq (reg (lm ?_))))))
 refine lc (.bool (decide (((b:Nat):Int) < 0))) ?_
 refine la ?_
 refine liNil (qThen (stFalseK rfl (by simp) ?_))
 refine stSeq (reg (lm ?_))
 refine lc (vP bs 0) ?_
 refine lc (vP bs 2) ?_
 refine lv (rW (fun w hM=>At.cell (r0.now hM) 2)) ?_
 refine lc (.bool false) ?_
 refine la ?_
 refine liNil (qThen (stFalse rfl (stSeq (reg ?_))))
 refine lm ?_
 refine lc (vP bs 0) ?_
 refine lc (vP bs 2) ?_
 refine lv (rW (fun w hM=>At.cell (r0.now hM) 2)) ?_
 refine lc (.bool true) ?_
 refine la ?_
 refine liNil (qThen (stTrue rfl (stSeq (reg ?_))))
 refine la ?_
 refine la ?_
 refine liNil (qThen (stRet (qBlockR (qThenR ?_))))
 refine sN [(.slice none 0 0),(.int .i64 6)] fun w hM=>?_
 exact ⟨rfl,hM⟩
section
theorem Own.sub {w:World} {ms ms0:List Ch} (hO:Own ms w) (is:List Nat) (hs:sel ms is=ms0:=by rfl) (hi:isOk ms.length is=true:=by rfl):Own ms0 w:=hO.sels is hs (isOk_spec hi).1 (isOk_spec hi).2
theorem Own.res {w w':World} {ms ms0 ms' news:List Ch} (hO:Own ms w) (is:List Nat) (hP:Back ms0 w (ms'++news) w') (hs:sel ms is=ms0:=by rfl) (hi:isOk ms.length is=true:=by rfl) (hl:ms'.length=is.length:=by rfl):Back ms w (setAll ms is ms'++news) w':=hO.con is hs (isOk_spec hi).1 (isOk_spec hi).2 hl hP
theorem Own.same {w w':World} {ms:List Ch} (hO:Own ms w) (hP:Back [] w [] w'):Back ms w ms w':=Mm.fr0 hO hP.fr
def needV (sd : Bool) (l S : List Bs) : List Bs := if sd then l else withL [] S
structure SInv (its : List Bs) (n st k : Nat) (sd : Bool) (needs offs S S2 : List Bs) : Prop where
 le : st ≤ 2
 set : sd = true → st ≠ 2 ∧ (st = 1 → k = 4)
 opn : sd = false → needs = [] ∧ offs = []
 nd : ∀ x ∈ needs, x ∉ its ∧ x.length = 32
 of : ∀ x ∈ offs, x ∈ its
 an : needs.Pairwise (· < ·)
 ao : offs.Pairwise (· < ·)
 ln : needs.length ≤ 16384
 s1 : ∀ x ∈ S, x ∉ its ∧ x.length = 32
 s2 : ∀ x ∈ S2, x ∈ its
 l1 : S.length ≤ n * 700
 l2 : S2.length ≤ n * 17179869184
section
variable {its needs offs S S2 : List Bs} {n st st2 k k2 : Nat} {sd : Bool}
theorem SInv.go (h:SInv its n st k sd needs offs S S2) (hs:st2≤2) (hd:sd=true→st2≠2∧(st2=1→k2=4)):SInv its (n+1) st2 k2 sd needs offs S S2:=⟨hs,hd,h.opn,h.nd,h.of,h.an,h.ao,h.ln,h.s1,h.s2,Nat.le_trans h.l1 (Nat.mul_le_mul_right _ (Nat.le_succ n)),Nat.le_trans h.l2 (Nat.mul_le_mul_right _ (Nat.le_succ n))⟩
theorem SInv.settle (h:SInv its n st k false needs offs S S2) {nd of:List Bs} (h1:∀ x∈nd,x∉its∧x.length=32) (h2:∀ x∈of,x∈its) (h3:nd.Pairwise (· < ·)) (h4:of.Pairwise (· < ·)) (h5:nd.length≤16384) (hd:st2=0∨st2=1∧k2=4):SInv its (n+1) st2 k2 true nd of S S2:=⟨by omega,fun _=>⟨by omega,fun h=>by omega⟩,(fun h=>by cases h),h1,h2,h3,h4,h5,h.s1,h.s2,Nat.le_trans h.l1 (Nat.mul_le_mul_right _ (Nat.le_succ n)),Nat.le_trans h.l2 (Nat.mul_le_mul_right _ (Nat.le_succ n))⟩
theorem SInv.step (h:SInv its n st k false [] [] S S2) {D:Bs} (hD:D.length≤20000) (hs:okSet its) (h40:its.length≤40) (hst:st2≤2):SInv its (n+1) st2 k2 false [] [] (S++(stepA its 4 4 D).need) (S2++(stepA its 4 4 D).off):=by
 have hc:=step_sound its 4 4 D
 have hn:=(step_need (its:=its) (fan:=4) (leaf:=4) (D:=D) (by omega) hs h40).2
 have hl:=hc.cnt
 have l1:=h.l1
 have l2:=h.l2
 exact ⟨hst,(fun h=>by cases h),h.opn,h.nd,h.of,h.an,h.ao,h.ln,fun x hx=>(List.mem_append.1 hx).elim (h.s1 x) (hc.need x),fun x hx=>(List.mem_append.1 hx).elim (h.s2 x) (hc.off x),by rw [List.length_append,Nat.add_mul]; omega,by rw [List.length_append,Nat.add_mul]; exact Nat.add_le_add l2 (by rw [Nat.one_mul]; exact hn)⟩
theorem SInv.need (h:SInv its n st k sd needs offs S S2):∀ x∈needV sd needs S,x∉its∧x.length=32:=fun x hx=>by
 cases sd with
 | true=>exact h.nd x hx
 | false=>exact h.s1 x (mem_withL0.1 hx)
theorem SInv.off (h:SInv its n st k sd needs offs S S2):∀ x∈needV sd offs S2,x∈its:=fun x hx=>by
 cases sd with
 | true=>exact h.of x hx
 | false=>exact h.s2 x (mem_withL0.1 hx)
theorem SInv.setN (h:SInv its n st k sd needs offs S S2) (hn:n≤20):setE (needV sd needs S)=0:=by
 cases sd with
 | true=>exact setE_ok h.ln ⟨fun x hx=>(h.nd x hx).2,h.an⟩
 | false=>exact setE_with (fun x hx=>(h.s1 x hx).2) (by have:=h.l1; omega)
theorem SInv.setO (h:SInv its n st k sd needs offs S S2) (hs:okSet its) (h40:its.length≤40):setE (needV sd offs S2)=0∧(needV sd offs S2).length≤40:=by
 cases sd with
 | true =>
   have h1:offs.length≤40:=Nat.le_trans (asc_sub_len h.ao h.of) h40
   exact ⟨setE_ok (show offs.length≤_ by omega) ⟨fun x hx=>hs.1 x (h.of x hx),h.ao⟩,h1⟩
 | false=>exact setE_off h.s2 hs h40
theorem SInv.lenN (h:SInv its n st k sd needs offs S S2) (hn:n≤20):(needV sd needs S).length≤16384:=by
 cases sd with
 | true=>exact h.ln
 | false =>
   have h1:=withL_len S []
   have h2:=h.l1
   simp only [List.length_nil,Nat.zero_add] at h1
   exact Nat.le_trans h1 (by omega)
end
theorem sums_err {r:Rd}:∀ {n:Nat},(r.sums n).2.err=0→r.err=0∧∀ x∈(r.sums n).1,x.length=32
 | 0,h=>⟨h,fun x hx=>by cases hx⟩
 | n+1,h=>by
   obtain ⟨t1,t2⟩:=took_sum _ h
   obtain ⟨h1,h2⟩:=sums_err (n:=n) t1.err
   refine ⟨h1,fun x hx=>?_⟩
   rcases List.mem_append.1 hx with hx | hx
   ·exact h2 x hx
   ·rw [List.mem_singleton.1 hx]; exact t2
theorem items_err {r:Rd} {m:Nat} (h:(r.items m).2.err=0):r.err=0∧∀ x∈(r.items m).1,x.length=32:=by
 obtain ⟨h1,h2⟩:=sums_err (r:=(r.cnt (r.most m)).2) (n:=(r.cnt (r.most m)).1) h
 refine ⟨?_,h2⟩
 unfold Rd.cnt Rd.count at h1
 by_cases he:r.err=0
 ·exact he
 ·rw [if_neg he] at h1; exact h1
theorem end_err {r:Rd} (h:r.end_=0):r.err=0:=by
 unfold Rd.end_ at h
 by_cases he:r.err=0
 ·exact he
 ·rw [if_pos he] at h; exact absurd h he
theorem agrees_mem {its needs offs:List Bs} (h:agreesB its needs offs=true):(∀ x∈needs,x∉its)∧∀ x∈offs,x∈its:=by
 unfold agreesB at h
 rw [Bool.and_eq_true,Bool.not_eq_true',Bool.not_eq_true',List.any_eq_false,List.any_eq_false] at h
 exact ⟨fun x hx hi=>h.1 x hx (by simpa using hi),fun x hx=>by simpa using h.2 x hx⟩
theorem size_ok {k:Nat} (h:k≤500):∃ n:Nat,blSize ((k+k / 2:Nat):Int)=(n:Int)∧isSz (n:Int)=true:=by
 refine ⟨(2*(k+k / 2)+14) / 3*3,?_,?_⟩
 ·unfold blSize
  rw [if_neg (by omega),if_neg (by omega),Int.min_eq_right (by omega)]
  omega
 ·simp only [isSz,Bool.and_eq_true,decide_eq_true_eq]
  omega
theorem rest_len {Dm:Bs} {q0:Rd} {k:Nat} (hu:(Rd.mk Dm 0 0 0).uint=(k,q0)):q0.rest.1.length≤Dm.length:=by
 have h7:=Rd.uint_D (Rd.mk Dm 0 0 0)
 rw [hu] at h7
 have h9:=q0.text_le (q0.D.length - q0.off)
 have h8:q0.D.length=Dm.length:=congrArg List.length h7
 exact Nat.le_trans h9 (Nat.le_of_eq h8)
theorem rest_len2 {Dm:Bs} {q0:Rd} {k:Nat} (hu:(Rd.mk Dm 0 0 0).uint=(k,q0)):q0.sum.2.rest.1.length≤Dm.length:=by
 have h7:=Rd.uint_D (Rd.mk Dm 0 0 0)
 rw [hu] at h7
 have h9:=q0.sum.2.text_le (q0.sum.2.D.length - q0.sum.2.off)
 have h8:q0.sum.2.D.length=Dm.length:=congrArg List.length ((Rd.sum_D q0).trans h7)
 exact Nat.le_trans h9 (Nat.le_of_eq h8)
end
set_option maxHeartbeats 400000 in
theorem qNeedG (bs:Nat) (A1:Option Addr) (c1:Nat) (its:List (List UInt8)) (bg:Bool) (st k:Nat) (Am:Option Addr) (m:List UInt8) (cm:Nat) (rc dn:Bool) (se:Nat) (sd:Bool) (An:Option Addr) (needs:List (List UInt8)) (cn:Nat) (Ao:Option Addr) (offs:List (List UInt8)) (co:Nat) (A2:Option Addr) (c2 nm om:Nat) (S:List (List UInt8)) (w:World) (r0:Rf [] w (fun w=>At w bs 101 [(vL A1 its c1),(.bool bg),(vI st),(vI k),(vL Am m cm),(.bool rc),(.bool dn),(vP se 0),(.bool sd),(vL An needs cn),(vL Ao offs co)])) (r1:Rf [] w (fun w=>At w se 149 [(vL A2 its c2),(vI 4),(vI 4),(.map (some nm)),(.map (some om))])) (r2:Rf [] w (fun w=>SetAt w nm S)) (r3:Rf [] w (fun w=>RowIn w An (SS needs))) (hS:S.length≤1099511627776) (hl4:needs.length≤4294967296) :
  Calls Tryz.prog 24 #[(vP bs 0)] w fun e w'=>∃ (B:Option Addr) (cb:Nat),e = .returned (vL B (needV sd needs S) cb)∧Back [] w [cS B (needV sd needs S) cb] w':=by
 cases sd with
 | true=>exact qNeed_set _ _ _ _ _ _ _ _ _ _ _ _ _ w r0 r3 hl4
 | false=>exact qNeed_open _ _ _ _ _ _ _ _ _ _ _ _ _ _ _ _ _ w r0 r1 r2 hS
set_option maxHeartbeats 400000 in
theorem qOfferG (bs:Nat) (A1:Option Addr) (c1:Nat) (its:List (List UInt8)) (bg:Bool) (st k:Nat) (Am:Option Addr) (m:List UInt8) (cm:Nat) (rc dn:Bool) (se:Nat) (sd:Bool) (An:Option Addr) (needs:List (List UInt8)) (cn:Nat) (Ao:Option Addr) (offs:List (List UInt8)) (co:Nat) (A2:Option Addr) (c2 nm om:Nat) (S2:List (List UInt8)) (w:World) (r0:Rf [] w (fun w=>At w bs 101 [(vL A1 its c1),(.bool bg),(vI st),(vI k),(vL Am m cm),(.bool rc),(.bool dn),(vP se 0),(.bool sd),(vL An needs cn),(vL Ao offs co)])) (r1:Rf [] w (fun w=>At w se 149 [(vL A2 its c2),(vI 4),(vI 4),(.map (some nm)),(.map (some om))])) (r2:Rf [] w (fun w=>SetAt w om S2)) (r3:Rf [] w (fun w=>RowIn w Ao (SS offs))) (hS:S2.length≤1099511627776) (hl4:offs.length≤4294967296) :
  Calls Tryz.prog 25 #[(vP bs 0)] w fun e w'=>∃ (B:Option Addr) (cb:Nat),e = .returned (vL B (needV sd offs S2) cb)∧Back [] w [cS B (needV sd offs S2) cb] w':=by
 cases sd with
 | true=>exact qOffer_set _ _ _ _ _ _ _ _ _ _ _ _ _ w r0 r3 hl4
 | false=>exact qOffer_open _ _ _ _ _ _ _ _ _ _ _ _ _ _ _ _ _ w r0 r1 r2 hS
theorem qDone (bs:Nat) (v0 v1:Value) (v2 v3:Value) (v4 v5:Value) (v7 v8:Value) (v9 v10:Value) (dn:Bool) (w:World) (r0:Rf [] w (fun w=>At w bs 101 [v0,v1,v2,v3,v4,v5,(.bool dn),v7,v8,v9,v10])) :
  Calls Tryz.prog 22 #[(vP bs 0)] w fun e w'=>e = .returned (.bool dn)∧Back [] w [] w':=by
 refine sE1 Tryz.func22 7 (Mm.start w []) ?_
 refine stSeq (reg (la ?_))
 refine liNil (qThen (stSeq (reg (lm ?_))))
 refine lc (vP bs 0) ?_
 refine lc (vP bs 6) ?_
 refine lv (rW (fun w hM=>At.cell (r0.now hM) 6)) ?_
 refine la ?_
 refine liNil (qThen (stRet (sN [(.bool dn)] fun w hM=>?_)))
 exact ⟨rfl,hM⟩
set_option maxHeartbeats 400000 in
theorem qNextG (bs:Nat) (A1:Option Addr) (c1:Nat) (its:List (List UInt8)) (bg:Bool) (st k:Nat) (Am:Option Addr) (m:List UInt8) (cm:Nat) (rc dn:Bool) (se:Nat) (sd:Bool) (An:Option Addr) (needs:List (List UInt8)) (cn:Nat) (Ao:Option Addr) (offs:List (List UInt8)) (co:Nat) (b:Int) (w:World) (hO:Own [cAt bs 101 [(vL A1 its c1),(.bool bg),(vI st),(vI k),(vL Am m cm),(.bool rc),(.bool dn),(vP se 0),(.bool sd),(vL An needs cn),(vL Ao offs co)]] w) (hst:st≤2) :
  Calls Tryz.prog 18 #[(vP bs 0),(.int .i64 b)] w fun e w'=>∃ (x:Value) (z:Int) (st2:Nat) (Am2:Option Addr) (m2:List UInt8) (cm2:Nat),e = .returned (.tuple #[x,(.int .i64 z)])∧Back [cAt bs 101 [(vL A1 its c1),(.bool bg),(vI st),(vI k),(vL Am m cm),(.bool rc),(.bool dn),(vP se 0),(.bool sd),(vL An needs cn),(vL Ao offs co)]] w [cAt bs 101 [(vL A1 its c1),(.bool bg),(vI st2),(vI k),(vL Am2 m2 cm2),(.bool rc),(.bool dn),(vP se 0),(.bool sd),(vL An needs cn),(vL Ao offs co)]] w'∧(st2≤2∧(st2≠1∨st=1)∧(st2=2→st=2∨st=1∧k≠4)):=by
 rcases Int.lt_or_le b 0 with hb | hb
 ·refine (qNext_arg _ b w hb).mono ?_
  rintro e w' ⟨rfl,hP⟩
  exact ⟨_,_,st,Am,m,cm,rfl,hO.same hP,hst,by omega,by omega⟩
 obtain ⟨b,rfl⟩:=Int.eq_ofNat_of_zero_le hb
 have r0:=hO.keep0 (j:=0) rfl (fun _ h=>h)
 rcases Nat.lt_or_ge st 1 with h1 | h1
 ·obtain rfl:st=0:=by omega
  refine (qNext_end _ _ _ _ _ _ _ _ _ _ _ b w r0).mono ?_
  rintro e w' ⟨rfl,hP⟩
  exact ⟨_,_,0,Am,m,cm,rfl,hO.same hP,by omega,by omega,by omega⟩
 rcases Nat.lt_or_ge 1 st with h2 | h2
 ·obtain rfl:st=2:=by omega
  refine (qNext_wst _ _ _ _ _ _ _ _ _ _ _ b w r0).mono ?_
  rintro e w' ⟨rfl,hP⟩
  exact ⟨_,_,2,Am,m,cm,rfl,hO.same hP,by omega,by omega,by omega⟩
 obtain rfl:st=1:=by omega
 rcases Nat.lt_or_ge b m.length with h3 | h3
 ·refine (qNext_short _ _ _ _ _ _ _ _ _ _ _ _ _ b w r0 h3).mono ?_
  rintro e w' ⟨rfl,hP⟩
  exact ⟨_,_,1,Am,m,cm,rfl,hO.same hP,by omega,by omega,by omega⟩
 rcases Decidable.em (k=4) with h4 | h4
 ·refine (qNext_fin _ _ _ _ _ _ _ _ _ _ _ _ _ b w hO h3 h4).mono ?_
  rintro e w' ⟨rfl,hP⟩
  exact ⟨_,_,0,none,[],0,rfl,hP,by omega,by omega,by omega⟩
 rcases Decidable.em (k=5) with h5 | h5
 ·refine (qNext_fin5 _ _ _ _ _ _ _ _ _ _ _ _ _ b w hO h3 h5).mono ?_
  rintro e w' ⟨rfl,hP⟩
  exact ⟨_,_,0,none,[],0,rfl,hP,by omega,by omega,by omega⟩
 ·refine (qNext_wait _ _ _ _ _ _ _ _ _ _ _ _ _ b w hO h3 ⟨h4,h5⟩).mono ?_
  rintro e w' ⟨rfl,hP⟩
  exact ⟨_,_,2,none,[],0,rfl,hP,by omega,by omega,by omega⟩
set_option maxHeartbeats 2000000 in
theorem qReceiveG (bs:Nat) (A1:Option Addr) (c1:Nat) (its:List (List UInt8)) (bg:Bool) (st k:Nat) (Am:Option Addr) (m:List UInt8) (cm:Nat) (rc dn:Bool) (se:Nat) (sd:Bool) (An:Option Addr) (needs:List (List UInt8)) (cn:Nat) (Ao:Option Addr) (offs:List (List UInt8)) (co:Nat) (A2:Option Addr) (c2 nm om:Nat) (S S2:List (List UInt8)) (AD:Option Addr) (cD:Nat) (Dm:List UInt8) (n:Nat) (w:World) (hO:Own [cAt bs 101 [(vL A1 its c1),(.bool bg),(vI st),(vI k),(vL Am m cm),(.bool rc),(.bool dn),(vP se 0),(.bool sd),(vL An needs cn),(vL Ao offs co)],cSet nm (S),cSet om (S2),cRw An (SS needs),cRw Ao (SS offs)] w) (r0:Rf [cAt bs 101 [(vL A1 its c1),(.bool bg),(vI st),(vI k),(vL Am m cm),(.bool rc),(.bool dn),(vP se 0),(.bool sd),(vL An needs cn),(vL Ao offs co)],cSet nm (S),cSet om (S2),cRw An (SS needs),cRw Ao (SS offs)] w (Vars)) (r1:Rf [cAt bs 101 [(vL A1 its c1),(.bool bg),(vI st),(vI k),(vL Am m cm),(.bool rc),(.bool dn),(vP se 0),(.bool sd),(vL An needs cn),(vL Ao offs co)],cSet nm (S),cSet om (S2),cRw An (SS needs),cRw Ao (SS offs)] w (fun w=>RowIn w A1 (SS its))) (r2:Rf [cAt bs 101 [(vL A1 its c1),(.bool bg),(vI st),(vI k),(vL Am m cm),(.bool rc),(.bool dn),(vP se 0),(.bool sd),(vL An needs cn),(vL Ao offs co)],cSet nm (S),cSet om (S2),cRw An (SS needs),cRw Ao (SS offs)] w (fun w=>RowIn w AD (B8 Dm))) (r3:Rf [cAt bs 101 [(vL A1 its c1),(.bool bg),(vI st),(vI k),(vL Am m cm),(.bool rc),(.bool dn),(vP se 0),(.bool sd),(vL An needs cn),(vL Ao offs co)],cSet nm (S),cSet om (S2),cRw An (SS needs),cRw Ao (SS offs)] w (SessAt se A2 c2 its 4 4 nm om)) (hI:SInv its n st k sd needs offs S S2) (hDm:Dm.length≤20000) (hset:okSet its) (h40:its.length≤40) (hc2:its.length≤c2) (hn:n≤20) :
  Calls Tryz.prog 21 #[(vP bs 0),(vL AD Dm cD)] w fun e w'=>∃ (z:Int) (st2 k2:Nat) (Am2:Option Addr) (m2:List UInt8) (cm2:Nat) (rc2 dn2 sd2:Bool) (An2:Option Addr) (needs2:List (List UInt8)) (cn2:Nat) (Ao2:Option Addr) (offs2:List (List UInt8)) (co2:Nat) (S9 T9:List (List UInt8)),e = .returned (.int .i64 z)∧Back [cAt bs 101 [(vL A1 its c1),(.bool bg),(vI st),(vI k),(vL Am m cm),(.bool rc),(.bool dn),(vP se 0),(.bool sd),(vL An needs cn),(vL Ao offs co)],cSet nm (S),cSet om (S2),cRw An (SS needs),cRw Ao (SS offs)] w [cAt bs 101 [(vL A1 its c1),(.bool bg),(vI st2),(vI k2),(vL Am2 m2 cm2),(.bool rc2),(.bool dn2),(vP se 0),(.bool sd2),(vL An2 needs2 cn2),(vL Ao2 offs2 co2)],cSet nm (S9),cSet om (T9),cRw An2 (SS needs2),cRw Ao2 (SS offs2)] w'∧(SInv its (n+1) st2 k2 sd2 needs2 offs2 S9 T9)∧(dn=true→dn2=true)∧(z≠0→needV sd2 needs2 S9=needV sd needs S∧needV sd2 offs2 T9=needV sd offs S2∧dn2=dn):=by
 have hI0:=hI
 rcases Decidable.em (st=2) with hst | hst
 rotate_left
 ·refine (qReceiveX _ _ _ _ _ _ _ _ _ _ _ _ _ _ st w (hO.keep0 (j:=0) rfl (fun _ h=>h)) hst (by have:=hI.le; omega)).mono ?_
  rintro e w' ⟨rfl,hP⟩
  exact ⟨6,st,k,Am,m,cm,rc,dn,sd,An,needs,cn,Ao,offs,co,S,S2,rfl,hO.same hP,hI.go hI.le hI.set,id,fun _=>⟨rfl,rfl,rfl⟩⟩
 subst hst
 cases sd with
 | true=>exact absurd rfl (hI.set rfl).1
 | false =>
 obtain ⟨rfl,rfl⟩:=hI.opn rfl
 have hl1:=hI.l1
 have hl2:=hI.l2
 have hSb:S.length≤549755813888:=by omega
 have hTb:S2.length≤549755813888:=by omega
 obtain ⟨u,q0,hu⟩:∃ u q0,(Rd.mk Dm 0 0 0).uint=(u,q0):=⟨_,_,rfl⟩
 have hB:(u=1→bg=true∨rc=true∨rdSk q0.rest.1=none∨q0.rest.2.end_≠0)→(u=2→k≠1∨rc=true∨(q0.sum.2.rest.2.end_≠0∨∀ t,decd q0.sum.2.rest.1=some t→t.seed≠0))→(u=3→k=0∨(q0.rest.2.end_≠0∨q0.rest.1=[]∨(stepA its 4 4 q0.rest.1).err≠0))→(u=4→k≠2∨(¬ (q0.items 16384).1.Pairwise (· < ·)∨¬ ((q0.items 16384).2.items 16384).1.Pairwise (· < ·)∨((q0.items 16384).2.items 16384).2.end_≠0∨agreesB its (q0.items 16384).1 ((q0.items 16384).2.items 16384).1=false))→(u=5→q0.end_≠0∨k≠3)→Calls Tryz.prog 21 #[(vP bs 0),(vL AD Dm cD)] w fun e w'=>∃ (z:Int) (st2:Nat) (k2:Nat) (Am2:Option Addr) (m2:List UInt8) (cm2:Nat) (rc2:Bool) (dn2:Bool) (sd2:Bool) (An2:Option Addr) (needs2:List (List UInt8)) (cn2:Nat) (Ao2:Option Addr) (offs2:List (List UInt8)) (co2:Nat) (S9:List (List UInt8)) (T9:List (List UInt8)),e = .returned (.int .i64 z)∧Back [cAt bs 101 [(vL A1 its c1),(.bool bg),(vI 2),(vI k),(vL Am m cm),(.bool rc),(.bool dn),(vP se 0),(.bool false),(vL An ([]:List Bs) cn),(vL Ao ([]:List Bs) co)],cSet nm (S),cSet om (S2),cRw An (SS []),cRw Ao (SS [])] w [cAt bs 101 [(vL A1 its c1),(.bool bg),(vI st2),(vI k2),(vL Am2 m2 cm2),(.bool rc2),(.bool dn2),(vP se 0),(.bool sd2),(vL An2 needs2 cn2),(vL Ao2 offs2 co2)],cSet nm (S9),cSet om (T9),cRw An2 (SS needs2),cRw Ao2 (SS offs2)] w'∧(SInv its (n+1) st2 k2 sd2 needs2 offs2 S9 T9)∧(dn=true→dn2=true)∧(z≠0→needV sd2 needs2 S9=needV false [] S∧needV sd2 offs2 T9=needV false [] S2∧dn2=dn):=fun h1 h2 h3 h4 h5=>by
  refine (qReceiveB bs A1 c1 its _ _ _ _ _ AD cD Dm q0 se A2 c2 nm om S S2 u bg rc k w (hO.sub [0,1,2]) (r0.goS hO [0,1,2]) (r1.goS hO [0,1,2]) (r2.goS hO [0,1,2]) (r3.goS hO [0,1,2]) (by omega) hu hset.2 (by omega) hset h40 hc2 (by omega) (by omega) h1 h2 h3 h4 h5).mono ?_
  rintro e w' ⟨z,rfl,hP,hz⟩
  have hR:=hO.res [0,1,2] (ms':=[_,_,_]) (news:=[]) hP
  exact ⟨z,2,k,Am,m,cm,rc,dn,false,An,[],cn,Ao,[],co,S,S2,rfl,hR.pick [0,1,2,3,4] rfl rfl,hI.go hI.le hI.set,id,fun _=>⟨rfl,rfl,rfl⟩⟩
 rcases Decidable.em (u=1) with h | h
 ·subst h
  rcases Decidable.em (bg=true∨rc=true∨rdSk q0.rest.1=none∨q0.rest.2.end_≠0) with hr | hr
  ·exact hB (fun _=>hr) (fun h=>by omega) (fun h=>by omega) (fun h=>by omega) (fun h=>by omega)
  ·simp only [not_or,Bool.not_eq_true,Decidable.not_not] at hr
   obtain ⟨rfl,rfl,hsk,hend⟩:=hr
   obtain ⟨ts,hts⟩:∃ ts,rdSk q0.rest.1=some ts:=Option.ne_none_iff_exists'.1 hsk
   rcases Nat.lt_or_ge 500 (est ts (strata its)) with hk | hk
   ·refine (qReceiveS bs A1 c1 its _ _ _ _ _ _ AD cD Dm q0 ts (est ts (strata its)) se A2 c2 nm om w (hO.sub [0]) (r0.goS hO [0]) (r1.goS hO [0]) (r2.goS hO [0]) (r3.goS hO [0]) (by omega) hu hts hend hset h40 hc2 rfl hk).mono ?_
    rintro e w' ⟨Am',cm',rfl,hP⟩
    have hR:=hO.res [0] (ms':=[_]) (news:=[_]) hP
    exact ⟨0,1,3,Am',withB 3 (encA [sumA its [] []]),cm',true,dn,false,An,[],cn,Ao,[],co,S,S2,rfl,hR.pick [0,1,2,3,4] rfl rfl,hI.go (by omega) (fun h=>by cases h),id,fun h=>absurd rfl h⟩
   ·obtain ⟨sz,hsz,hz⟩:=size_ok hk
    refine (qReceive1 bs A1 c1 its _ _ _ _ _ _ _ AD cD Dm q0 ts (est ts (strata its)) sz w (hO.sub [0]) (r0.goS hO [0]) (r1.goS hO [0]) (r2.goS hO [0]) (by omega) hu hts hend hset h40 rfl hk hsz hz).mono ?_
    rintro e w' ⟨Am',cm',rfl,hP⟩
    have hR:=hO.res [0] (ms':=[_]) (news:=[_]) hP
    exact ⟨0,1,2,Am',tabMsg its sz,cm',true,dn,false,An,[],cn,Ao,[],co,S,S2,rfl,hR.pick [0,1,2,3,4] rfl rfl,hI.go (by omega) (fun h=>by cases h),id,fun h=>absurd rfl h⟩
 rcases Decidable.em (u=2) with h | h
 ·subst h
  rcases Decidable.em (k≠1∨rc=true∨q0.sum.2.rest.2.end_≠0) with hr | hr
  ·exact hB (fun h=>by omega) (fun _=>hr.imp id (Or.imp id Or.inl)) (fun h=>by omega) (fun h=>by omega) (fun h=>by omega)
  simp only [not_or,Bool.not_eq_true,Decidable.not_not] at hr
  obtain ⟨rfl,rfl,hend⟩:=hr
  cases htd:decd q0.sum.2.rest.1 with
  | none=>exact hB (fun h=>by omega) (fun _=>.inr (.inr (.inr fun t ht=>by rw [htd] at ht; cases ht))) (fun h=>by omega) (fun h=>by omega) (fun h=>by omega)
  | some t =>
  rcases Decidable.em (t.seed=0) with hs0 | hs0
  rotate_left
  ·exact hB (fun h=>by omega) (fun _=>.inr (.inr (.inr fun t' ht=>by rw [htd] at ht; cases ht; exact hs0))) (fun h=>by omega) (fun h=>by omega) (fun h=>by omega)
  obtain ⟨hto,hcl⟩:=decd_small htd
  have hrl:=rest_len2 hu
  have hsm:t.cells.length≤600:=by omega
  cases hd:diffA its t q0.sum.1 with
  | none =>
    refine (qReceiveT bs A1 c1 its _ _ _ _ _ _ AD cD Dm q0 _ _ t se A2 c2 nm om w (hO.sub [0]) (r0.goS hO [0]) (r1.goS hO [0]) (r2.goS hO [0]) (r3.goS hO [0]) (by omega) hu rfl htd hend hs0 hset h40 hc2 hsm hd).mono ?_
    rintro e w' ⟨Am',cm',rfl,hP⟩
    have hR:=hO.res [0] (ms':=[_]) (news:=[_]) hP
    exact ⟨0,1,3,Am',withB 3 (encA [sumA its [] []]),cm',true,dn,false,An,[],cn,Ao,[],co,S,S2,rfl,hR.pick [0,1,2,3,4] rfl rfl,hI.go (by omega) (fun h=>by cases h),id,fun h=>absurd rfl h⟩
  | some p =>
    obtain ⟨of,nd⟩:=p
    obtain ⟨hkk,hag,-,-⟩:=diffA_some hd
    obtain ⟨⟨ho1,ho2⟩,hn1,hn2⟩:=keys_pk (sub_ok (tabT_ok hset.1 t.cells.length) hto) hkk
    have hkl:=(keys_le hkk).2
    rw [sub_len (by rw [tabT_len]),tabT_len] at hkl
    obtain ⟨ha1,ha2⟩:=agrees_mem hag
    refine (qReceive2 bs A1 c1 its _ _ _ _ _ _ _ AD cD Dm q0 _ _ t of nd w (hO.sub [0]) (r0.goS hO [0]) (r1.goS hO [0]) (r2.goS hO [0]) (by omega) hu rfl htd hend hs0 hset h40 hsm hd ho1 ho2 hn2).mono ?_
    rintro e w' ⟨Ao',co',An',cn',Am',cm',rfl,hP⟩
    have hR:=hO.res [0] (ms':=[_]) (news:=[_,_,_]) hP
    exact ⟨0,1,4,Am',difMsg of nd,cm',true,true,true,An',nd,cn',Ao',of,co',S,S2,rfl,hR.pick [0,1,2,6,5] rfl rfl,hI.settle (fun x hx=>⟨ha1 x hx,hn2 x hx⟩) ha2 hn1 ho1 (by omega) (.inr ⟨rfl,rfl⟩),fun _=>rfl,fun h=>absurd rfl h⟩
 rcases Decidable.em (u=3) with h | h
 ·subst h
  rcases Decidable.em (k=0∨q0.rest.2.end_≠0∨q0.rest.1=[]∨(stepA its 4 4 q0.rest.1).err≠0) with hr | hr
  ·exact hB (fun h=>by omega) (fun h=>by omega) (fun _=>hr) (fun h=>by omega) (fun h=>by omega)
  simp only [not_or,Decidable.not_not] at hr
  obtain ⟨hkd,hend,hne,her⟩:=hr
  have hrl:=rest_len hu
  rcases Decidable.em ((stepA its 4 4 q0.rest.1).reply=[]) with hre | hre
  ·refine (qReceiveE bs A1 c1 its _ _ _ _ _ _ _ AD cD Dm q0 se A2 c2 nm om S S2 k w (hO.sub [0,1,2]) (r0.goS hO [0,1,2]) (r1.goS hO [0,1,2]) (r2.goS hO [0,1,2]) (r3.goS hO [0,1,2]) (by omega) hu hend hne hset h40 hc2 (by omega) her (by omega) (by omega) hre hkd).mono ?_
   rintro e w' ⟨Am',cm',rfl,hP⟩
   have hR:=hO.res [0,1,2] (ms':=[_,_,_]) (news:=[_]) hP
   exact ⟨0,1,5,Am',num 5,cm',true,true,false,An,[],cn,Ao,[],co,_,_,rfl,hR.pick [0,1,2,3,4] rfl rfl,hI.step (by omega) hset h40 (by omega),fun _=>rfl,fun h=>absurd rfl h⟩
  ·refine (qReceiveR bs A1 c1 its _ _ _ _ _ _ _ AD cD Dm q0 se A2 c2 nm om S S2 k w (hO.sub [0,1,2]) (r0.goS hO [0,1,2]) (r1.goS hO [0,1,2]) (r2.goS hO [0,1,2]) (r3.goS hO [0,1,2]) (by omega) hu hend hne hset h40 hc2 (by omega) her (by omega) (by omega) hre hkd).mono ?_
   rintro e w' ⟨Am',cm',rfl,hP⟩
   have hR:=hO.res [0,1,2] (ms':=[_,_,_]) (news:=[_]) hP
   exact ⟨0,1,3,Am',withB 3 (stepA its 4 4 q0.rest.1).reply,cm',true,dn,false,An,[],cn,Ao,[],co,_,_,rfl,hR.pick [0,1,2,3,4] rfl rfl,hI.step (by omega) hset h40 (by omega),id,fun h=>absurd rfl h⟩
 rcases Decidable.em (u=4) with h | h
 ·subst h
  rcases Decidable.em (k≠2∨(¬ (q0.items 16384).1.Pairwise (· < ·)∨¬ ((q0.items 16384).2.items 16384).1.Pairwise (· < ·)∨((q0.items 16384).2.items 16384).2.end_≠0∨agreesB its (q0.items 16384).1 ((q0.items 16384).2.items 16384).1=false)) with hr | hr
  ·exact hB (fun h=>by omega) (fun h=>by omega) (fun h=>by omega) (fun _=>hr) (fun h=>by omega)
  simp only [not_or,Decidable.not_not,Bool.not_eq_false] at hr
  obtain ⟨rfl,han,hao,hend,hag⟩:=hr
  obtain ⟨ha1,ha2⟩:=agrees_mem hag
  obtain ⟨e1,e2⟩:=items_err (end_err hend)
  obtain ⟨-,e4⟩:=items_err e1
  have hil:=q0.items_len 16384
  refine (qReceive4 bs A1 c1 its _ _ _ _ _ _ _ _ AD cD Dm q0 _ _ _ _ w (hO.sub [0]) (r1.goS hO [0]) (r2.goS hO [0]) (by omega) hu rfl rfl hend han hao hag hset.2 (by omega)).mono ?_
  rintro e w' ⟨An',cn',Ao',co',rfl,hP⟩
  have hR:=hO.res [0] (ms':=[_]) (news:=[_,_]) hP
  exact ⟨0,0,2,Am,m,cm,true,true,true,An',_,cn',Ao',_,co',S,S2,rfl,(((Mm.toRw hR 5 rfl).toRw 6 rfl).pick [0,1,2,5,6] rfl rfl),hI.settle (fun x hx=>⟨ha1 x hx,e4 x hx⟩) ha2 han hao hil (.inl rfl),fun _=>rfl,fun h=>absurd rfl h⟩
 rcases Decidable.em (u=5) with h | h
 ·subst h
  rcases Decidable.em (q0.end_≠0∨k≠3) with hr | hr
  ·exact hB (fun h=>by omega) (fun h=>by omega) (fun h=>by omega) (fun h=>by omega) (fun _=>hr)
  simp only [not_or,Decidable.not_not] at hr
  obtain ⟨hend,rfl⟩:=hr
  refine (qReceiveF bs _ _ _ _ _ _ _ _ _ AD cD Dm q0 w (hO.sub [0]) (r2.goS hO [0]) (by omega) hu hend).mono ?_
  rintro e w' ⟨rfl,hP⟩
  have hR:=hO.res [0] (ms':=[_]) (news:=[]) hP
  exact ⟨0,0,3,Am,m,cm,true,true,false,An,[],cn,Ao,[],co,S,S2,rfl,hR.pick [0,1,2,3,4] rfl rfl,hI.go (by omega) (fun h=>by cases h),fun _=>rfl,fun h=>absurd rfl h⟩
 exact hB (fun h=>by omega) (fun h=>by omega) (fun h=>by omega) (fun h=>by omega) (fun h=>by omega)
section
section
variable {P : Program} {w0 : World} {F : List Nat} {E : Env} {cs : List Ch} {o : Oper}
theorem rSubN {ty u:TypeId} {x y:Operand} {a b:Nat} (ho:o.op = .binOp .sub ty x y u) (hx:evO E x=some (.int .i64 ((a:Nat):Int))) (hy:evO E y=some (.int .i64 ((b:Nat):Int))) (hb:b≤a) (ha:a≤9223372036854775807):RunV P w0 F cs E o (.int .i64 ((a - b:Nat):Int)) :=
 rSub _ ho hx hy (by omega) (by omega) (by omega)
end
theorem Ahead.len {r:Rd} {bs:Bs} (h:Ahead r bs):r.D.length - r.off=bs.length:=by rw [← h.bytes,List.length_drop]
theorem Ahead.start (D:Bs):Ahead (Rd.mk D 0 0 0) D:=⟨rfl,rfl⟩
theorem Ahead.rest {r:Rd} {t rest:Bs} (h:Ahead r ((num t.length++t)++rest)) (hm:U64 t.length):r.rest.1=t∧Ahead r.rest.2 rest:=by
 have hl:=h.len
 simp only [List.length_append] at hl
 exact h.text (by omega) hm
theorem withB_rd {k:Nat} {D:Bs} (hk:k≤100) (hD:D.length≤4294967296):∃ q0,(Rd.mk (withB k D) 0 0 0).uint=(k,q0)∧q0.rest.1=D∧q0.rest.2.end_=0:=by
 have h0:=Ahead.start (withB k D)
 obtain ⟨h1,h2⟩:=Ahead.uint (n:=k) (rest:=num D.length++D) h0 (u64_small (by omega))
 obtain ⟨h3,h4⟩:=Ahead.rest (t:=D) (rest:=[]) (by rw [List.append_nil]; exact h2) (u64_small (by omega))
 exact ⟨_,Prod.ext h1 rfl,h3,h4.end_⟩
theorem num_rd {k:Nat} (hk:k≤100):∃ q0,(Rd.mk (num k) 0 0 0).uint=(k,q0)∧q0.end_=0:=by
 have h0:=Ahead.start (num k)
 obtain ⟨h1,h2⟩:=Ahead.uint (n:=k) (rest:=[]) (by rw [List.append_nil]; exact h0) (u64_small (by omega))
 exact ⟨_,Prod.ext h1 rfl,h2.end_⟩
theorem rdStr_enc {ts:List BT} (hok:okStr ts) {r:Rd} {rest:Bs} (h:Ahead r (skB ts++rest)):∀ i,i≤ts.length→∃ q,rdStr r i=(some (ts.take i),q)∧Ahead q (skB (ts.drop i)++rest)
 | 0,_=>⟨r,rfl,h⟩
 | i+1,hi=>by
   obtain ⟨q,h1,h2⟩:=rdStr_enc hok h i (by omega)
   have ht:ts[i]?=some ts[i]:=List.getElem?_eq_getElem (by omega)
   obtain ⟨t1,t2,t3⟩:=hok i _ ht
   have hs:skB (ts.drop i)=tb8 ts[i]++skB (ts.drop (i+1)):=by rw [List.drop_eq_getElem_cons (by omega)]; rfl
   rw [hs,List.append_assoc] at h2
   obtain ⟨h3,h4⟩:=Ahead.rest (t:=ts[i].enc) h2 (u64_small (by have:=enc12_len t1 t2; omega))
   refine ⟨_,?_,h4⟩
   have hd:decd q.rest.1=some ts[i]:=by rw [h3]; exact enc_decd t1 (by rw [t2]; decide)
   rw [rdStr_go h1 hd (by simp [isT,t2,t3]),List.take_add_one,ht]
   rfl
theorem rdSk_enc {ts:List BT} (hok:okStr ts) (hl:ts.length=12):rdSk (skB ts)=some ts:=by
 obtain ⟨q,h1,h2⟩:=rdStr_enc hok (r:=Rd.mk (skB ts) 0 0 0) (rest:=[]) (by rw [List.append_nil]; exact Ahead.start _) 12 (by omega)
 rw [← hl,List.take_length] at h1
 rw [← hl,List.drop_length] at h2
 rw [hl] at h1
 rw [rdSk_end h1,if_pos h2.end_]
theorem tabMsg_rd {its:List Bs} {n:Nat} (h32:∀ x∈its,x.length=32) (hz:isSz (n:Int)=true):∃ q0 q1,(Rd.mk (tabMsg its n) 0 0 0).uint=(2,q0)∧q0.sum=(fpB its,q1)∧decd q1.rest.1=some (tabT its n)∧q1.rest.2.end_=0:=by
 have hn:=(isSz_bounds hz).2.1
 have hen:(tabT its n).enc.length≤200000:=encTo_len (tabT_ok h32 n) (by rw [tabT_len]; omega) _
 have h0:=Ahead.start (tabMsg its n)
 obtain ⟨h1,h2⟩:=Ahead.uint (n:=2) (rest:=fpB its++tb8 (tabT its n)) h0 (u64_small (by omega))
 obtain ⟨h3,h4⟩:=Ahead.sum h2 (sha_len _)
 obtain ⟨h5,h6⟩:=Ahead.rest (t:=(tabT its n).enc) (rest:=[]) (by rw [List.append_nil]; exact h4) (u64_small (by omega))
 exact ⟨_,_,Prod.ext h1 rfl,Prod.ext h3 rfl,by rw [h5]; exact enc_decd (tabT_ok h32 n) (by rw [tabT_len]; exact hz),h6.end_⟩
theorem withB_len {k:Nat} {D:Bs} (hk:k≤100) (hD:D.length≤4294967296):(withB k D).length≤D.length+20:=by
 have h1:=num_length k (by omega)
 have h2:=num_length D.length (by omega)
 unfold withB
 simp only [List.length_append]
 omega
theorem runN_go {a b:List Bs} {f l par j:Nat} (h:j % 2=par):runN a b f l par (j+1)=((runN a b f l par j).1++(runR a b f l j).need,(runN a b f l par j).2++(runR a b f l j).off):=by rw [runN,if_pos h]
theorem runN_no {a b:List Bs} {f l par j:Nat} (h:¬ j % 2=par):runN a b f l par (j+1)=runN a b f l par j:=by rw [runN,if_neg h]
end
end Go.Proofs.YtdflaaiondmjdaaGreatDoor
