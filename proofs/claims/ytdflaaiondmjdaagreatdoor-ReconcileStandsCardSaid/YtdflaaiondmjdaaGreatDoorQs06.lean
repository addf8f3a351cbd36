/- Part 6 of a proof: what its row uses. -/
import Derived.Test.YtdflaaiondmjdaaGreatDoorQs05
set_option maxRecDepth 100000
set_option maxHeartbeats 1000000
namespace Go.Proofs.YtdflaaiondmjdaaGreatDoor
open Go.RowKit
theorem qRunX (A:Option Addr) (c:Nat) (a:List (List UInt8)) (A2:Option Addr) (c2:Nat) (b:List (List UInt8)) (bd k n:Nat) (na oa:List (List UInt8)) (nb ob:List (List UInt8)) (w:World) (r0:Rf [] w (Vars)) (r1:Rf [] w (fun w=>RowIn w A (SS a))) (r2:Rf [] w (fun w=>RowIn w A2 (SS b))) (hsa:okSet a) (hsb:okSet b) (ha4:a.length≤40) (hb4:b.length≤40) (hest:est (strata a) (strata b)=k) (hk:k≤500) (hsz:blSize ((k+k / 2:Nat):Int)=(n:Int)) (hz:isSz (n:Int)=true) (hn6:n≤600) (hdf:((tabT a n).sub (tabT b n)).keys=none) (hK:RunEnds a b 4 4 3) (hbd:(withB 1 (skB (strata a))).length+(tabMsg b n).length+(withB 3 (runM a b 4 4 0)).length+(withB 3 (runM a b 4 4 1)).length+(withB 3 (runM a b 4 4 2)).length+(num 5).length≤bd) (hbd2:bd≤1099511627776) (hl0:withL [] ((runN a b 4 4 1 3).1)=na) (hl1:withL [] ((runN a b 4 4 1 3).2)=oa) (hl2:withL [] ((runN a b 4 4 0 3).1)=nb) (hl3:withL [] ((runN a b 4 4 0 3).2)=ob) (hna:na.Pairwise (· < ·)) (hnb:nb.Pairwise (· < ·)) :
  Calls Tryz.prog 28 #[(vL A a c),(vL A2 b c2),(vI bd)] w fun e w'=>∃ (B1:Option Addr) (cb1:Nat) (B2:Option Addr) (cb2 nbt:Nat),e = .returned (.tuple #[(vL B1 (keepIn oa nb) cb1),(vL B2 (keepIn ob na) cb2),(vI nbt),(.bool true),(.int .i64 0)])∧Back [] w [cS B1 (keepIn oa nb) cb1,cS B2 (keepIn ob na) cb2] w':=by
 refine sE3 Tryz.func28 83 (Mm.start w []) ?_
 refine stSeq (reg (la ?_))
 iterate 4 refine la ?_
 refine liNil (qThen (stSeq (stSeq ?_)))
 have hea:setE a=0:=setE_ok (by omega) hsa
 have heb:setE b=0:=setE_ok (by omega) hsb
 have h32a:=hsa.1
 have h32b:=hsb.1
 have hska:=skB_len (strata_ok h32a).all
 rw [strata_len] at hska
 obtain ⟨q1,u1,s1,e1⟩:=withB_rd (k:=1) (D:=skB (strata a)) (by omega) (by omega)
 obtain ⟨q2,p2,u2,s2,d2,e2⟩:=tabMsg_rd h32b hz
 have hm0:(runM a b 4 4 0).length≤1048576:=by rw [show runM a b 4 4 0=encA [sumA a [] []] from rfl,first_len ha4]; omega
 have hg0:=hK.go 0 (by omega)
 obtain ⟨q3,u3,s3,e3⟩:=withB_rd (k:=3) (D:=runM a b 4 4 0) (by omega) (by omega)
 have hm1:(runM a b 4 4 1).length≤1048576:=step_len _ _ _ _
 have hg1:=hK.go 1 (by omega)
 obtain ⟨q4,u4,s4,e4⟩:=withB_rd (k:=3) (D:=runM a b 4 4 1) (by omega) (by omega)
 have hm2:(runM a b 4 4 2).length≤1048576:=step_len _ _ _ _
 have hg2:=hK.go 2 (by omega)
 obtain ⟨q5,u5,s5,e5⟩:=withB_rd (k:=3) (D:=runM a b 4 4 2) (by omega) (by omega)
 have:=withB_len (k:=1) (D:=(skB (strata a))) (by omega) (by omega)
 have:=withB_len (k:=3) (D:=(runM a b 4 4 0)) (by omega) (by omega)
 have:=withB_len (k:=3) (D:=(runM a b 4 4 1)) (by omega) (by omega)
 have:=withB_len (k:=3) (D:=(runM a b 4 4 2)) (by omega) (by omega)
 have:=num_length 5 (by omega)
 obtain ⟨q6,u6,e6⟩:=num_rd (k:=5) (by omega)
 have hml2:(tabMsg b n).length≤200100:=tabMsg_len (encTo_len (tabT_ok h32b n) (by rw [tabT_len]; exact (isSz_bounds hz).2.1) _)
 refine reg (lm ?_)
 refine lc (.bool (decide (((bd:Nat):Int) < 0))) ?_
 refine liNil (qThen (stFalseK rfl (by simp) ?_))
 refine stSkip (qThen (stSeq (reg (lm ?_))))
 refine li rfl (opK0 (fun w hM=>(qNewT A c a w (r0.go0 hM) (r1.go0 hM) (by omega) (hea) (by omega)).mono ?_))
 rintro e w' ⟨bs22,A122,c122,se22,A222,c222,nm22,om22,Am22,cm22,rfl,hP⟩
 refine ⟨_,_,rfl,hP,?_⟩; clear hP hM
 refine lm ?_
 refine lc (vP bs22 0) ?_
 refine lc (.int .i64 0) ?_
 refine la ?_
 refine la ?_
 refine liNil (qThen (stSeq (stSeq (reg (lm ?_)))))
 refine lc (.bool false) ?_
 refine liNil (qThen (stFalse rfl (stSkip (qThen (stSeq (reg ?_))))))
 refine lm ?_
 refine li rfl (opK0 (fun w hM=>(qNewF A2 c2 b w (r0.go0 hM) (r2.go0 hM) (by omega) (heb) (by omega)).mono ?_))
 rintro e w' ⟨bs30,A130,c130,se30,A230,c230,nm30,om30,rfl,hP⟩
 refine ⟨_,_,rfl,hP,?_⟩; clear hP hM
 refine lm ?_
 refine lc (vP bs30 0) ?_
 refine lc (.int .i64 0) ?_
 refine la ?_
 refine la ?_
 refine liNil (qThen (stSeq (stSeq (reg (lm ?_)))))
 refine lc (.bool false) ?_
 refine liNil (qThen (stFalse rfl (stSkip (qThen (stSeq (stSeq ?_))))))
 refine St.fact (fun w hM=>own_cap (hM.at (i:=3) rfl)) (fun hcapa=>?_)
 refine St.fact (fun w hM=>own_cap (hM.at (i:=10) rfl)) (fun hcapb=>?_)
 dsimp only [setAll,List.set,List.cons_append,List.nil_append]
 refine reg (lm ?_)
 refine lm ?_
 refine la ?_
 refine la ?_
 refine liNil (qThen (stBlock (stRounds 7 ?_)))
 refine stRound ?_
 refine stSeq (stBlock (stSeq (reg (lm ?_))))
 refine lm ?_
 refine lm ?_
 refine lv (v:=(vI bd)) (rSub ((bd:Nat):Int) rfl rfl rfl (by omega) (by omega) (by omega)) ?_
 refine li rfl (opK [0] _ (fun w hM hO=>(qNext_wait bs22 (vL A122 a c122) (.bool true) (.bool false) (.bool false) (vP se22 0) (.bool false) (.slice none 0 0) (.slice none 0 0) 1 Am22 cm22 (withB 1 (skB (strata a))) bd w hO (by omega) (by decide)).mono ?_))
 rintro e w' ⟨rfl,hP⟩
 refine ⟨_,[_],_,rfl,hP,rfl,?_⟩; clear hP hM hO
 refine lm ?_
 refine lc (vL Am22 (withB 1 (skB (strata a))) cm22) ?_
 refine lc (.int .i64 0) ?_
 refine la ?_
 refine la ?_
 refine liNil (qThen (stSeq (stSeq (reg (lm ?_)))))
 refine lc (.bool false) ?_
 refine liNil (qThen (stFalse rfl (stSkip (qThen (stSeq (reg ?_))))))
 refine lm ?_
 refine lm ?_
 refine lc (vI ((withB 1 (skB (strata a))).length)) ?_
 refine lv (v:=(vI (0+(withB 1 (skB (strata a))).length))) rAd ?_
 refine la ?_
 refine liNil (qThen (stSeq (reg (lm ?_))))
 refine lm ?_
 refine li rfl (opK [7] _ (fun w hM hO=>(qReceive1 bs30 A130 c130 b (.int .i64 0) (.slice none 0 0) (.bool false) (vP se30 0) (.bool false) (.slice none 0 0) (.slice none 0 0) Am22 cm22 (withB 1 (skB (strata a))) q1 (strata a) k n w hO (r0.goS hM [7]) (hM.keepS [7] (j:=8) rfl (fun _ h=>RowIn.of_own h)) (hM.keepS [7] (j:=6) rfl (fun _ h=>RowIn.of_own h)) (by omega) (u1) (by rw [s1]; exact rdSk_enc (strata_ok h32a) (strata_len a)) (e1) (hsb) (hb4) (hest) (hk) (hsz) (hz)).mono ?_))
 rintro e w' ⟨Am56r0,cm56r0,rfl,hP⟩
 refine ⟨_,[_],_,rfl,hP,rfl,?_⟩; clear hP hM hO
 refine la ?_
 refine liNil (qThen (stSeq (reg (lm ?_))))
 refine lc (.bool false) ?_
 refine liNil (qThen (stFalse rfl (stSkip (qBlock (qThen (reg ?_))))))
 refine lm ?_
 refine lm ?_
 refine la ?_
 refine la ?_
 refine liNil (qThen (stRound ?_))
 refine stSeq (stBlock (stSeq (reg (lm ?_))))
 refine lm ?_
 refine lm ?_
 refine lv (v:=(vI (bd - (0+(withB 1 (skB (strata a))).length)))) (rSubN rfl rfl rfl (by omega) (by omega)) ?_
 refine li rfl (opK [7] _ (fun w hM hO=>(qNext_wait bs30 (vL A130 b c130) (.bool false) (.bool true) (.bool false) (vP se30 0) (.bool false) (.slice none 0 0) (.slice none 0 0) 2 Am56r0 cm56r0 (tabMsg b n) (bd - (0+(withB 1 (skB (strata a))).length)) w hO (by omega) (by decide)).mono ?_))
 rintro e w' ⟨rfl,hP⟩
 refine ⟨_,[_],_,rfl,hP,rfl,?_⟩; clear hP hM hO
 refine lm ?_
 refine lc (vL Am56r0 (tabMsg b n) cm56r0) ?_
 refine lc (.int .i64 0) ?_
 refine la ?_
 refine la ?_
 refine liNil (qThen (stSeq (stSeq (reg (lm ?_)))))
 refine lc (.bool false) ?_
 refine liNil (qThen (stFalse rfl (stSkip (qThen (stSeq (reg ?_))))))
 refine lm ?_
 refine lm ?_
 refine lc (vI ((tabMsg b n).length)) ?_
 refine lv (v:=(vI (0+(withB 1 (skB (strata a))).length+(tabMsg b n).length))) rAd ?_
 refine la ?_
 refine liNil (qThen (stSeq (reg (lm ?_))))
 refine lm ?_
 refine li rfl (opK [0] [cAt bs22 101 [(vL A122 a c122),(.bool true),(.int .i64 2),(vI 1),(.slice none 0 0),(.bool false),(.bool false),(vP se22 0),(.bool false),(.slice none 0 0),(.slice none 0 0)]] (fun w hM hO=>(qReceiveT bs22 A122 c122 a (.bool true) (.slice none 0 0) (.bool false) (.bool false) (.slice none 0 0) (.slice none 0 0) Am56r0 cm56r0 (tabMsg b n) q2 (fpB b) p2 (tabT b n) se22 A222 c222 nm22 om22 w hO (r0.goS hM [0]) (hM.keepS [0] (j:=1) rfl (fun _ h=>RowIn.of_own h)) (hM.keepS [0] (j:=13) rfl (fun _ h=>RowIn.of_own h)) (((hM.keepS [0] (j:=2) rfl (fun _ h=>h)).and (hM.keepS [0] (j:=3) rfl (fun _ h=>RowIn.of_own h))).imp (fun _ h=>⟨h.1,h.2⟩)) (by omega) (u2) (s2) (d2) (e2) (tabT_seed b n) (hsa) (ha4) (hcapa) (by rw [tabT_len]; exact hn6) (by unfold diffA; rw [tabT_len,hdf])).mono ?_))
 rintro e w' ⟨Am56r1,cm56r1,rfl,hP⟩
 refine ⟨_,[cAt bs22 101 [(vL A122 a c122),(.bool true),(.int .i64 1),(vI 3),(vL Am56r1 (withB 3 (encA [sumA a [] []])) cm56r1),(.bool true),(.bool false),(vP se22 0),(.bool false),(.slice none 0 0),(.slice none 0 0)]],_,rfl,hP,rfl,?_⟩; clear hP hM hO
 rw [show encA [sumA a [] []]=runM a b 4 4 0 from rfl]
 refine la ?_
 refine liNil (qThen (stSeq (St.to [cAt bs22 101 [(vL A122 a c122),(.bool true),(.int .i64 1),(vI 3),(vL Am56r1 (withB 3 (runM a b 4 4 0)) cm56r1),(.bool true),(.bool false),(vP se22 0),(.bool false),(.slice none 0 0),(.slice none 0 0)],cS A122 a c122,cAt se22 149 [(vL A222 a c222),(vI 4),(vI 4),(.map (some nm22)),(.map (some om22))],cS A222 a c222,cSet nm22 ((runN a b 4 4 1 0).1),cSet om22 ((runN a b 4 4 1 0).2),cB Am22 (withB 1 (skB (strata a))) cm22,cAt bs30 101 [(vL A130 b c130),(.bool false),(.int .i64 2),(vI 2),(.slice none 0 0),(.bool true),(.bool false),(vP se30 0),(.bool false),(.slice none 0 0),(.slice none 0 0)],cS A130 b c130,cAt se30 149 [(vL A230 b c230),(vI 4),(vI 4),(.map (some nm30)),(.map (some om30))],cS A230 b c230,cSet nm30 ((runN a b 4 4 0 0).1),cSet om30 ((runN a b 4 4 0 0).2),cB Am56r0 (tabMsg b n) cm56r0,cB Am56r1 (withB 3 (runM a b 4 4 0)) cm56r1] (by kernel_rfl) ?_)))
 refine reg (lm ?_)
 refine lc (.bool false) ?_
 refine liNil (qThen (stFalse rfl (stSkip (qBlock (qThen (reg ?_))))))
 refine lm ?_
 refine lm ?_
 refine la ?_
 refine la ?_
 refine liNil (qThen ?_)
 have hn9:=runN_len (fan:=4) (leaf:=4) (par:=0) hsa hsb ha4 hb4 0
 have hS2:((runN a b 4 4 0 0).1).length≤549755813888:=by have h9:=hn9.1; omega
 have hT2:((runN a b 4 4 0 0).2).length≤549755813888:=by have h9:=hn9.2; omega
 refine stRound ?_
 refine stSeq (stBlock (stSeq (reg (lm ?_))))
 refine lm ?_
 refine lm ?_
 refine lv (v:=(vI (bd - (0+(withB 1 (skB (strata a))).length+(tabMsg b n).length)))) (rSubN rfl rfl rfl (by omega) (by omega)) ?_
 refine li rfl (opK [0] [cAt bs22 101 [(vL A122 a c122),(.bool true),(.int .i64 1),(vI 3),(vL Am56r1 (withB 3 (runM a b 4 4 0)) cm56r1),(.bool true),(.bool false),(vP se22 0),(.bool false),(.slice none 0 0),(.slice none 0 0)]] (fun w hM hO=>(qNext_wait bs22 (vL A122 a c122) (.bool true) (.bool true) (.bool false) (vP se22 0) (.bool false) (.slice none 0 0) (.slice none 0 0) 3 Am56r1 cm56r1 (withB 3 (runM a b 4 4 0)) (bd - (0+(withB 1 (skB (strata a))).length+(tabMsg b n).length)) w hO (by omega) (by decide)).mono ?_))
 rintro e w' ⟨rfl,hP⟩
 refine ⟨_,[cAt bs22 101 [(vL A122 a c122),(.bool true),(.int .i64 2),(vI 3),(.slice none 0 0),(.bool true),(.bool false),(vP se22 0),(.bool false),(.slice none 0 0),(.slice none 0 0)]],_,rfl,hP,rfl,?_⟩; clear hP hM hO
 refine lm ?_
 refine lc (vL Am56r1 (withB 3 (runM a b 4 4 0)) cm56r1) ?_
 refine lc (.int .i64 0) ?_
 refine la ?_
 refine la ?_
 refine liNil (qThen (stSeq (stSeq (reg (lm ?_)))))
 refine lc (.bool false) ?_
 refine liNil (qThen (stFalse rfl (stSkip (qThen (stSeq (reg ?_))))))
 refine lm ?_
 refine lm ?_
 refine lc (vI ((withB 3 (runM a b 4 4 0)).length)) ?_
 refine lv (v:=(vI (0+(withB 1 (skB (strata a))).length+(tabMsg b n).length+(withB 3 (runM a b 4 4 0)).length))) (rAdd _ rfl rfl rfl (by omega) (by omega) (by omega)) ?_
 refine la ?_
 refine liNil (qThen (stSeq (reg (lm ?_))))
 refine lm ?_
 refine li rfl (opK [7,11,12] [cAt bs30 101 [(vL A130 b c130),(.bool false),(.int .i64 2),(vI 2),(.slice none 0 0),(.bool true),(.bool false),(vP se30 0),(.bool false),(.slice none 0 0),(.slice none 0 0)],cSet nm30 ((runN a b 4 4 0 0).1),cSet om30 ((runN a b 4 4 0 0).2)] (fun w hM hO=>(qReceiveR bs30 A130 c130 b (.bool false) (.slice none 0 0) (.bool true) (.bool false) (.bool false) (.slice none 0 0) (.slice none 0 0) Am56r1 cm56r1 (withB 3 (runM a b 4 4 0)) q3 se30 A230 c230 nm30 om30 ((runN a b 4 4 0 0).1) ((runN a b 4 4 0 0).2) 2 w hO (r0.goS hM [7,11,12]) (hM.keepS [7,11,12] (j:=8) rfl (fun _ h=>RowIn.of_own h)) (hM.keepS [7,11,12] (j:=14) rfl (fun _ h=>RowIn.of_own h)) (((hM.keepS [7,11,12] (j:=9) rfl (fun _ h=>h)).and (hM.keepS [7,11,12] (j:=10) rfl (fun _ h=>RowIn.of_own h))).imp (fun _ h=>⟨h.1,h.2⟩)) (by omega) (u3) (e3) (by rw [s3]; exact hg0.1) (hsb) (hb4) (hcapb) (by rw [s3]; exact hm0) (by rw [s3]; exact hg0.2) (hS2) (hT2) (by rw [s3]; exact hg1.1) (by decide)).mono ?_))
 rintro e w' ⟨Am56r2,cm56r2,rfl,hP⟩
 refine ⟨_,[cAt bs30 101 [(vL A130 b c130),(.bool false),(.int .i64 1),(vI 3),(vL Am56r2 (withB 3 (stepA b 4 4 q3.rest.1).reply) cm56r2),(.bool true),(.bool false),(vP se30 0),(.bool false),(.slice none 0 0),(.slice none 0 0)],cSet nm30 (((runN a b 4 4 0 0).1)++(stepA b 4 4 q3.rest.1).need),cSet om30 (((runN a b 4 4 0 0).2)++(stepA b 4 4 q3.rest.1).off)],_,rfl,hP,rfl,?_⟩; clear hP hM hO
 rw [show stepA b 4 4 q3.rest.1=runR a b 4 4 0 from by rw [s3]; rfl]
 rw [show (runR a b 4 4 0).reply=runM a b 4 4 1 from rfl]
 rw [show ((runN a b 4 4 0 0).1)++(runR a b 4 4 0).need=(runN a b 4 4 0 1).1 from by rw [runN_go (j:=0) (by decide)]]
 rw [show (runN a b 4 4 1 0).1 = (runN a b 4 4 1 1).1 from by rw [runN_no (j := 0) (by decide)]]
 rw [show ((runN a b 4 4 0 0).2)++(runR a b 4 4 0).off=(runN a b 4 4 0 1).2 from by rw [runN_go (j:=0) (by decide)]]
 rw [show (runN a b 4 4 1 0).2=(runN a b 4 4 1 1).2 from by rw [runN_no (j:=0) (by decide)]]
 refine la ?_
 refine liNil (qThen (stSeq (reg (lm ?_))))
 refine lc (.bool false) ?_
 refine liNil (qThen (stFalse rfl (stSkip (qBlock (qThen (reg ?_))))))
 refine lm ?_
 refine lm ?_
 refine la ?_
 refine la ?_
 refine liNil (qThen ?_)
 have hn9:=runN_len (fan:=4) (leaf:=4) (par:=1) hsa hsb ha4 hb4 1
 have hS3:((runN a b 4 4 1 1).1).length≤549755813888:=by have h9:=hn9.1; omega
 have hT3:((runN a b 4 4 1 1).2).length≤549755813888:=by have h9:=hn9.2; omega
 refine stRound ?_
 refine stSeq (stBlock (stSeq (reg (lm ?_))))
 refine lm ?_
 refine lm ?_
 refine lv (v:=(vI (bd - (0+(withB 1 (skB (strata a))).length+(tabMsg b n).length+(withB 3 (runM a b 4 4 0)).length)))) (rSubN rfl rfl rfl (by omega) (by omega)) ?_
 refine li rfl (opK [7] _ (fun w hM hO=>(qNext_wait bs30 (vL A130 b c130) (.bool false) (.bool true) (.bool false) (vP se30 0) (.bool false) (.slice none 0 0) (.slice none 0 0) 3 Am56r2 cm56r2 (withB 3 (runM a b 4 4 1)) (bd - (0+(withB 1 (skB (strata a))).length+(tabMsg b n).length+(withB 3 (runM a b 4 4 0)).length)) w hO (by omega) (by decide)).mono ?_))
 rintro e w' ⟨rfl,hP⟩
 refine ⟨_,[_],_,rfl,hP,rfl,?_⟩; clear hP hM hO
 refine lm ?_
 refine lc (vL Am56r2 (withB 3 (runM a b 4 4 1)) cm56r2) ?_
 refine lc (.int .i64 0) ?_
 refine la ?_
 refine la ?_
 refine liNil (qThen (stSeq (stSeq (reg (lm ?_)))))
 refine lc (.bool false) ?_
 refine liNil (qThen (stFalse rfl (stSkip (qThen (stSeq (reg ?_))))))
 refine lm ?_
 refine lm ?_
 refine lc (vI ((withB 3 (runM a b 4 4 1)).length)) ?_
 refine lv (v:=(vI (0+(withB 1 (skB (strata a))).length+(tabMsg b n).length+(withB 3 (runM a b 4 4 0)).length+(withB 3 (runM a b 4 4 1)).length))) rAd ?_
 refine la ?_
 refine liNil (qThen (stSeq (reg (lm ?_))))
 refine lm ?_
 refine li rfl (opK [0,4,5] _ (fun w hM hO=>(qReceiveR bs22 A122 c122 a (.bool true) (.slice none 0 0) (.bool true) (.bool false) (.bool false) (.slice none 0 0) (.slice none 0 0) Am56r2 cm56r2 (withB 3 (runM a b 4 4 1)) q4 se22 A222 c222 nm22 om22 ((runN a b 4 4 1 1).1) ((runN a b 4 4 1 1).2) 3 w hO (r0.goS hM [0,4,5]) (hM.keepS [0,4,5] (j:=1) rfl (fun _ h=>RowIn.of_own h)) (hM.keepS [0,4,5] (j:=15) rfl (fun _ h=>RowIn.of_own h)) (((hM.keepS [0,4,5] (j:=2) rfl (fun _ h=>h)).and (hM.keepS [0,4,5] (j:=3) rfl (fun _ h=>RowIn.of_own h))).imp (fun _ h=>⟨h.1,h.2⟩)) (by omega) (u4) (e4) (by rw [s4]; exact hg1.1) (hsa) (ha4) (hcapa) (by rw [s4]; exact hm1) (by rw [s4]; exact hg1.2) (hS3) (hT3) (by rw [s4]; exact hg2.1) (by decide)).mono ?_))
 rintro e w' ⟨Am56r3,cm56r3,rfl,hP⟩
 refine ⟨_,[_,_,_],_,rfl,hP,rfl,?_⟩; clear hP hM hO
 rw [show stepA a 4 4 q4.rest.1=runR a b 4 4 1 from by rw [s4]; rfl]
 rw [show (runR a b 4 4 1).reply=runM a b 4 4 2 from rfl]
 rw [show ((runN a b 4 4 1 1).1)++(runR a b 4 4 1).need=(runN a b 4 4 1 2).1 from by rw [runN_go (j:=1) (by decide)]]
 rw [show (runN a b 4 4 0 1).1=(runN a b 4 4 0 2).1 from by rw [runN_no (j:=1) (by decide)]]
 rw [show ((runN a b 4 4 1 1).2)++(runR a b 4 4 1).off=(runN a b 4 4 1 2).2 from by rw [runN_go (j:=1) (by decide)]]
 rw [show (runN a b 4 4 0 1).2=(runN a b 4 4 0 2).2 from by rw [runN_no (j:=1) (by decide)]]
 refine la ?_
 refine liNil (qThen (stSeq ?_))
 dsimp only [setAll,List.set,List.cons_append,List.nil_append]
 refine reg (lm ?_)
 refine lc (.bool false) ?_
 refine liNil (qThen (stFalse rfl (stSkip (qBlock (qThen (reg ?_))))))
 refine lm ?_
 refine lm ?_
 refine la ?_
 refine la ?_
 refine liNil (qThen ?_)
 have hn9:=runN_len (fan:=4) (leaf:=4) (par:=0) hsa hsb ha4 hb4 2
 have hS4:((runN a b 4 4 0 2).1).length≤549755813888:=by have h9:=hn9.1; omega
 have hT4:((runN a b 4 4 0 2).2).length≤549755813888:=by have h9:=hn9.2; omega
 refine stRound ?_
 refine stSeq (stBlock (stSeq (reg (lm ?_))))
 refine lm ?_
 refine lm ?_
 refine lv (v:=(vI (bd - (0+(withB 1 (skB (strata a))).length+(tabMsg b n).length+(withB 3 (runM a b 4 4 0)).length+(withB 3 (runM a b 4 4 1)).length)))) (rSubN rfl rfl rfl (by omega) (by omega)) ?_
 refine li rfl (opK [0] _ (fun w hM hO=>(qNext_wait bs22 (vL A122 a c122) (.bool true) (.bool true) (.bool false) (vP se22 0) (.bool false) (.slice none 0 0) (.slice none 0 0) 3 Am56r3 cm56r3 (withB 3 (runM a b 4 4 2)) (bd - (0+(withB 1 (skB (strata a))).length+(tabMsg b n).length+(withB 3 (runM a b 4 4 0)).length+(withB 3 (runM a b 4 4 1)).length)) w hO (by omega) (by decide)).mono ?_))
 rintro e w' ⟨rfl,hP⟩
 refine ⟨_,[_],_,rfl,hP,rfl,?_⟩; clear hP hM hO
 refine lm ?_
 refine lc (vL Am56r3 (withB 3 (runM a b 4 4 2)) cm56r3) ?_
 refine lc (.int .i64 0) ?_
 refine la ?_
 refine la ?_
 refine liNil (qThen (stSeq (stSeq (reg (lm ?_)))))
 refine lc (.bool false) ?_
 refine liNil (qThen (stFalse rfl (stSkip (qThen (stSeq (reg ?_))))))
 refine lm ?_
 refine lm ?_
 refine lc (vI ((withB 3 (runM a b 4 4 2)).length)) ?_
 refine lv (v:=(vI (0+(withB 1 (skB (strata a))).length+(tabMsg b n).length+(withB 3 (runM a b 4 4 0)).length+(withB 3 (runM a b 4 4 1)).length+(withB 3 (runM a b 4 4 2)).length))) rAd ?_
 refine la ?_
 refine liNil (qThen (stSeq (reg (lm ?_))))
 refine lm ?_
 refine li rfl (opK [7,11,12] _ (fun w hM hO=>(qReceiveE bs30 A130 c130 b (.bool false) (.slice none 0 0) (.bool true) (.bool false) (.bool false) (.slice none 0 0) (.slice none 0 0) Am56r3 cm56r3 (withB 3 (runM a b 4 4 2)) q5 se30 A230 c230 nm30 om30 ((runN a b 4 4 0 2).1) ((runN a b 4 4 0 2).2) 3 w hO (r0.goS hM [7,11,12]) (hM.keepS [7,11,12] (j:=8) rfl (fun _ h=>RowIn.of_own h)) (hM.keepS [7,11,12] (j:=16) rfl (fun _ h=>RowIn.of_own h)) (((hM.keepS [7,11,12] (j:=9) rfl (fun _ h=>h)).and (hM.keepS [7,11,12] (j:=10) rfl (fun _ h=>RowIn.of_own h))).imp (fun _ h=>⟨h.1,h.2⟩)) (by omega) (u5) (e5) (by rw [s5]; exact hg2.1) (hsb) (hb4) (hcapb) (by rw [s5]; exact hm2) (by rw [s5]; exact hg2.2) (hS4) (hT4) (by rw [s5]; exact hK.stop) (by decide)).mono ?_))
 rintro e w' ⟨Am56r4,cm56r4,rfl,hP⟩
 refine ⟨_,[_,_,_],_,rfl,hP,rfl,?_⟩; clear hP hM hO
 rw [show stepA b 4 4 q5.rest.1=runR a b 4 4 2 from by rw [s5]; rfl]
 rw [show ((runN a b 4 4 0 2).1)++(runR a b 4 4 2).need=(runN a b 4 4 0 3).1 from by rw [runN_go (j:=2) (by decide)]]
 rw [show (runN a b 4 4 1 2).1=(runN a b 4 4 1 3).1 from by rw [runN_no (j:=2) (by decide)]]
 rw [show ((runN a b 4 4 0 2).2)++(runR a b 4 4 2).off=(runN a b 4 4 0 3).2 from by rw [runN_go (j:=2) (by decide)]]
 rw [show (runN a b 4 4 1 2).2=(runN a b 4 4 1 3).2 from by rw [runN_no (j:=2) (by decide)]]
 refine la ?_
 refine liNil (qThen (stSeq (reg (lm ?_))))
 refine lc (.bool false) ?_
 refine liNil (qThen (stFalse rfl (stSkip (qBlock (qThen (reg ?_))))))
 refine lm ?_
 refine lm ?_
 refine la ?_
 refine la ?_
 refine liNil (qThen (stRound ?_))
 refine stSeq (stBlock (stSeq (reg (lm ?_))))
 refine lm ?_
 refine lm ?_
 refine lv (v:=(vI (bd - (0+(withB 1 (skB (strata a))).length+(tabMsg b n).length+(withB 3 (runM a b 4 4 0)).length+(withB 3 (runM a b 4 4 1)).length+(withB 3 (runM a b 4 4 2)).length)))) (rSubN rfl rfl rfl (by omega) (by omega)) ?_
 refine li rfl (opK [7] _ (fun w hM hO=>(qNext_fin5 bs30 (vL A130 b c130) (.bool false) (.bool true) (.bool true) (vP se30 0) (.bool false) (.slice none 0 0) (.slice none 0 0) 5 Am56r4 cm56r4 (num 5) (bd - (0+(withB 1 (skB (strata a))).length+(tabMsg b n).length+(withB 3 (runM a b 4 4 0)).length+(withB 3 (runM a b 4 4 1)).length+(withB 3 (runM a b 4 4 2)).length)) w hO (by omega) (by decide)).mono ?_))
 rintro e w' ⟨rfl,hP⟩
 refine ⟨_,[_],_,rfl,hP,rfl,?_⟩; clear hP hM hO
 refine lm ?_
 refine lc (vL Am56r4 (num 5) cm56r4) ?_
 refine lc (.int .i64 0) ?_
 refine la ?_
 refine la ?_
 refine liNil (qThen (stSeq (stSeq (reg (lm ?_)))))
 refine lc (.bool false) ?_
 refine liNil (qThen (stFalse rfl (stSkip (qThen (stSeq (reg ?_))))))
 refine lm ?_
 refine lm ?_
 refine lc (vI ((num 5).length)) ?_
 refine lv (v:=(vI (0+(withB 1 (skB (strata a))).length+(tabMsg b n).length+(withB 3 (runM a b 4 4 0)).length+(withB 3 (runM a b 4 4 1)).length+(withB 3 (runM a b 4 4 2)).length+(num 5).length))) rAd ?_
 refine la ?_
 refine liNil (qThen (stSeq (reg (lm ?_))))
 refine lm ?_
 refine li rfl (opK [0] _ (fun w hM hO=>(qReceiveF bs22 (vL A122 a c122) (.bool true) (.slice none 0 0) (.bool true) (.bool false) (vP se22 0) (.bool false) (.slice none 0 0) (.slice none 0 0) Am56r4 cm56r4 (num 5) q6 w hO (hM.keepS [0] (j:=17) rfl (fun _ h=>RowIn.of_own h)) (by omega) (u6) (e6)).mono ?_))
 rintro e w' ⟨rfl,hP⟩
 refine ⟨_,[_],_,rfl,hP,rfl,?_⟩; clear hP hM hO
 refine la ?_
 refine liNil (qThen (stSeq ?_))
 dsimp only [setAll,List.set,List.cons_append,List.nil_append]
 refine reg (lm ?_)
 refine lc (.bool false) ?_
 refine liNil (qThen (stFalse rfl (stSkip (qBlock (qThen (reg ?_))))))
 refine lm ?_
 refine lm ?_
 refine la ?_
 refine la ?_
 refine liNil (qThen (stRound ?_))
 refine stSeq (stBlock (stSeq (reg (lm ?_))))
 refine lm ?_
 refine lm ?_
 refine lv (v:=(vI (bd - (0+(withB 1 (skB (strata a))).length+(tabMsg b n).length+(withB 3 (runM a b 4 4 0)).length+(withB 3 (runM a b 4 4 1)).length+(withB 3 (runM a b 4 4 2)).length+(num 5).length)))) (rSubN rfl rfl rfl (by omega) (by omega)) ?_
 refine li rfl (opK0 (fun w hM=>(qNext_end bs22 (vL A122 a c122) (.bool true) (vI 3) (.slice none 0 0) (.bool true) (.bool true) (vP se22 0) (.bool false) (.slice none 0 0) (.slice none 0 0) (bd - (0+(withB 1 (skB (strata a))).length+(tabMsg b n).length+(withB 3 (runM a b 4 4 0)).length+(withB 3 (runM a b 4 4 1)).length+(withB 3 (runM a b 4 4 2)).length+(num 5).length)) w (hM.keep0 (j:=0) rfl (fun _ h=>h))).mono ?_))
 rintro e w' ⟨rfl,hP⟩
 refine ⟨_,_,rfl,hP,?_⟩; clear hP hM
 refine lm ?_
 refine lc (.slice none 0 0) ?_
 refine lc (.int .i64 4) ?_
 refine la ?_
 refine la ?_
 refine liNil (qThen (stSeq (stSeq (reg (lm ?_)))))
 refine lc (.bool true) ?_
 refine liNil (qThen (stTrue rfl (stExit (qThenX (qBlockY rfl (qThenX (qThenX (qBlockX (qThen (stSeq ?_))))))))))
 have h71:=runN_len (fan:=4) (leaf:=4) (par:=1) hsa hsb ha4 hb4 3
 have h70:=runN_len (fan:=4) (leaf:=4) (par:=0) hsa hsb ha4 hb4 3
 refine reg (lm ?_)
 refine li rfl (opK0 (fun w hM=>(qOffer_open bs22 (vL A122 a c122) (.bool true) (.int .i64 0) (vI 3) (.slice none 0 0) (.bool true) (.bool true) (.slice none 0 0) (.slice none 0 0) se22 A222 c222 a nm22 om22 ((runN a b 4 4 1 3).2) w (hM.keep0 (j:=0) rfl (fun _ h=>h)) (hM.keep0 (j:=2) rfl (fun _ h=>h)) (hM.keep0 (j:=5) rfl (fun _ h=>h)) (Nat.le_trans h71.2 (by omega))).mono ?_))
 rintro e w' ⟨B61,cb61,rfl,hP⟩
 refine ⟨_,_,rfl,hP,?_⟩; clear hP hM
 rw [show withL [] ((runN a b 4 4 1 3).2)=oa from hl1]
 refine lm ?_
 refine li rfl (opK0 (fun w hM=>(qNeed_open bs30 (vL A130 b c130) (.bool false) (.int .i64 0) (vI 5) (.slice none 0 0) (.bool true) (.bool true) (.slice none 0 0) (.slice none 0 0) se30 A230 c230 b nm30 om30 ((runN a b 4 4 0 3).1) w (hM.keep0 (j:=7) rfl (fun _ h=>h)) (hM.keep0 (j:=9) rfl (fun _ h=>h)) (hM.keep0 (j:=11) rfl (fun _ h=>h)) (Nat.le_trans h70.1 (by omega))).mono ?_))
 rintro e w' ⟨B63,cb63,rfl,hP⟩
 refine ⟨_,_,rfl,hP,?_⟩; clear hP hM
 rw [show withL [] ((runN a b 4 4 0 3).1)=nb from hl2]
 refine li rfl (opK0 (fun w hM=>(qCommon B61 cb61 oa B63 cb63 nb w (hM.keep0 (j:=18) rfl (fun _ h=>RowIn.of_own h)) (hM.keep0 (j:=19) rfl (fun _ h=>RowIn.of_own h)) (by rw [← hl1]; exact Nat.le_trans (Nat.le_trans (withL_len _ []) (by simp)) (Nat.le_trans h71.2 (by omega))) (hnb) (by rw [← hl2]; exact Nat.le_trans (Nat.le_trans (withL_len _ []) (by simp)) (Nat.le_trans h70.1 (by omega)))).mono ?_))
 rintro e w' ⟨B64,cb64,rfl,hP⟩
 refine ⟨_,_,rfl,hP,?_⟩; clear hP hM
 refine lm ?_
 refine li rfl (opK0 (fun w hM=>(qOffer_open bs30 (vL A130 b c130) (.bool false) (.int .i64 0) (vI 5) (.slice none 0 0) (.bool true) (.bool true) (.slice none 0 0) (.slice none 0 0) se30 A230 c230 b nm30 om30 ((runN a b 4 4 0 3).2) w (hM.keep0 (j:=7) rfl (fun _ h=>h)) (hM.keep0 (j:=9) rfl (fun _ h=>h)) (hM.keep0 (j:=12) rfl (fun _ h=>h)) (Nat.le_trans h70.2 (by omega))).mono ?_))
 rintro e w' ⟨B66,cb66,rfl,hP⟩
 refine ⟨_,_,rfl,hP,?_⟩; clear hP hM
 rw [show withL [] ((runN a b 4 4 0 3).2)=ob from hl3]
 refine lm ?_
 refine li rfl (opK0 (fun w hM=>(qNeed_open bs22 (vL A122 a c122) (.bool true) (.int .i64 0) (vI 3) (.slice none 0 0) (.bool true) (.bool true) (.slice none 0 0) (.slice none 0 0) se22 A222 c222 a nm22 om22 ((runN a b 4 4 1 3).1) w (hM.keep0 (j:=0) rfl (fun _ h=>h)) (hM.keep0 (j:=2) rfl (fun _ h=>h)) (hM.keep0 (j:=4) rfl (fun _ h=>h)) (Nat.le_trans h71.1 (by omega))).mono ?_))
 rintro e w' ⟨B68,cb68,rfl,hP⟩
 refine ⟨_,_,rfl,hP,?_⟩; clear hP hM
 dsimp only [setAll,List.set,List.cons_append,List.nil_append]
 rw [show withL [] ((runN a b 4 4 1 3).1)=na from hl0]
 refine li rfl (opK0 (fun w hM=>(qCommon B66 cb66 ob B68 cb68 na w (hM.keep0 (j:=21) rfl (fun _ h=>RowIn.of_own h)) (hM.keep0 (j:=22) rfl (fun _ h=>RowIn.of_own h)) (by rw [← hl3]; exact Nat.le_trans (Nat.le_trans (withL_len _ []) (by simp)) (Nat.le_trans h70.2 (by omega))) (hna) (by rw [← hl0]; exact Nat.le_trans (Nat.le_trans (withL_len _ []) (by simp)) (Nat.le_trans h71.1 (by omega)))).mono ?_))
 rintro e w' ⟨B69,cb69,rfl,hP⟩
 refine ⟨_,_,rfl,hP,?_⟩; clear hP hM
 refine la ?_
 refine la ?_
 refine liNil (qThen (stSeq (anyBegin _ 18 (by kernel_rfl) (fun _ h=>h) ?_)))
 refine am 0 ?_
 refine am 1 ?_
 refine am 2 ?_
 refine am 3 ?_
 refine ac 4 (vP bs22 0) ?_
 refine ac 5 (vP bs22 6) ?_
 refine al 6 0 ?_
 refine am 7 ?_
 refine agm 8 ?_
 refine agc 9 (vP bs30 0) ?_
 refine agc 10 (vP bs30 6) ?_
 refine agv 11 (.bool true) rfl (rLoad 7 rfl rfl (by kernel_rfl) rfl rfl) ?_
 refine ac 12 (.bool true) ?_
 refine aa 13 ?_
 refine aa 14 ?_
 refine aa 15 ?_
 refine aa 16 ?_
 refine aa 17 ?_
 refine anyDone (by kernel_rfl) ?_
 refine qThen (stRet (sN [(vL B64 (keepIn oa nb) cb64),(vL B69 (keepIn ob na) cb69),(vI (0+(withB 1 (skB (strata a))).length+(tabMsg b n).length+(withB 3 (runM a b 4 4 0)).length+(withB 3 (runM a b 4 4 1)).length+(withB 3 (runM a b 4 4 2)).length+(num 5).length)),(.bool true),(.int .i64 0)] fun w hM=>?_))
 exact ⟨B64,cb64,B69,cb69,(0+(withB 1 (skB (strata a))).length+(tabMsg b n).length+(withB 3 (runM a b 4 4 0)).length+(withB 3 (runM a b 4 4 1)).length+(withB 3 (runM a b 4 4 2)).length+(num 5).length),rfl,(hM.pick [20,23] rfl rfl)⟩
theorem qRun0 (A:Option Addr) (c:Nat) (a:List (List UInt8)) (w:World) (r0:Rf [] w (Vars)) (r1:Rf [] w (fun w=>RowIn w A (SS a))) (hsa:okSet a) (ha4:a.length≤40) :
  Calls Tryz.prog 28 #[(vL A a c),(.slice none 0 0),(.int .i64 0)] w fun e w'=>∃ (x1 x2:Value),e = .returned (.tuple #[x1,x2,(.int .i64 0),(.bool false),(.int .i64 0)])∧Back [] w [] w':=by
 refine sE3 Tryz.func28 83 (Mm.start w []) ?_
 refine stSeq (reg (la ?_))
 iterate 4 refine la ?_
 refine liNil (qThen (stSeq (stSeq ?_)))
 have hea:setE a=0:=setE_ok (by omega) hsa
 have heb:setE noS=0:=by decide
 refine reg (lm ?_)
 refine lc (.bool false) ?_
 refine liNil (qThen (stFalse rfl (stSkip (qThen (stSeq (reg ?_))))))
 refine lm ?_
 refine li rfl (opK0 (fun w hM=>(qNewT A c a w (r0.go0 hM) (r1.go0 hM) (by omega) (hea) (by omega)).mono ?_))
 rintro e w' ⟨bs22,A122,c122,se22,A222,c222,nm22,om22,Am22,cm22,rfl,hP⟩
 refine ⟨_,_,rfl,hP,?_⟩; clear hP hM
 refine lm ?_
 refine lc (vP bs22 0) ?_
 refine lc (.int .i64 0) ?_
 refine la ?_
 refine la ?_
 refine liNil (qThen (stSeq (stSeq (reg (lm ?_)))))
 refine lc (.bool false) ?_
 refine liNil (qThen (stFalse rfl (stSkip (qThen (stSeq (reg ?_))))))
 refine lm ?_
 refine li rfl (opK0 (fun w hM=>(qNewF none 0 noS w (r0.go0 hM) ro_nilS (by decide) (heb) (by decide)).mono ?_))
 rintro e w' ⟨bs30,A130,c130,se30,A230,c230,nm30,om30,rfl,hP⟩
 refine ⟨_,_,rfl,hP,?_⟩; clear hP hM
 refine lm ?_
 refine lc (vP bs30 0) ?_
 refine lc (.int .i64 0) ?_
 refine la ?_
 refine la ?_
 refine liNil (qThen (stSeq (stSeq (reg (lm ?_)))))
 refine lc (.bool false) ?_
 refine liNil (qThen (stFalse rfl (stSkip (qThen (stSeq (stSeq (reg ?_)))))))
 refine lm ?_
 refine lm ?_
 refine la ?_
 refine la ?_
 refine liNil (qThen (stBlock (stRounds 1 ?_)))
 refine stRound ?_
 refine stSeq (stBlock (stSeq (reg (lm ?_))))
 refine lm ?_
 refine lm ?_
 refine lv (v:=(vI 0)) (rSub (0:Int) rfl rfl rfl (by omega) (by omega) (by omega)) ?_
 refine li rfl (opK0 (fun w hM=>(qNext_short bs22 (vL A122 a c122) (.bool true) (.bool false) (.bool false) (vP se22 0) (.bool false) (.slice none 0 0) (.slice none 0 0) 1 Am22 cm22 (withB 1 (skB (strata a))) 0 w (hM.keep0 (j:=0) rfl (fun _ h=>h)) (by have h9:=num_pos 1; simp only [withB,List.length_append]; omega)).mono ?_))
 rintro e w' ⟨rfl,hP⟩
 refine ⟨_,_,rfl,hP,?_⟩; clear hP hM
 refine lm ?_
 refine lc (.slice none 0 0) ?_
 refine lc (.int .i64 10) ?_
 refine la ?_
 refine la ?_
 refine liNil (qThen (stSeq (stSeq (reg (lm ?_)))))
 refine lc (.bool true) ?_
 refine liNil (qThen (stTrue rfl (stExit (qThenX (qBlockY rfl (qThenX (qThenX (qBlockX (qThen (stSeq (reg ?_)))))))))))
 refine lm ?_
 refine li rfl (opK0 (fun w hM=>(qOffer_open bs22 (vL A122 a c122) (.bool true) (.int .i64 1) (vI 1) (vL Am22 (withB 1 (skB (strata a))) cm22) (.bool false) (.bool false) (.slice none 0 0) (.slice none 0 0) se22 A222 c222 a nm22 om22 [] w (hM.keep0 (j:=0) rfl (fun _ h=>h)) (hM.keep0 (j:=2) rfl (fun _ h=>h)) (hM.keep0 (j:=5) rfl (fun _ h=>h)) (by decide)).mono ?_))
 rintro e w' ⟨B61,cb61,rfl,hP⟩
 refine ⟨_,_,rfl,hP,?_⟩; clear hP hM
 refine lm ?_
 refine li rfl (opK0 (fun w hM=>(qNeed_open bs30 (vL A130 noS c130) (.bool false) (.int .i64 2) (.int .i64 0) (.slice none 0 0) (.bool false) (.bool false) (.slice none 0 0) (.slice none 0 0) se30 A230 c230 noS nm30 om30 [] w (hM.keep0 (j:=7) rfl (fun _ h=>h)) (hM.keep0 (j:=9) rfl (fun _ h=>h)) (hM.keep0 (j:=11) rfl (fun _ h=>h)) (by decide)).mono ?_))
 rintro e w' ⟨B63,cb63,rfl,hP⟩
 refine ⟨_,_,rfl,hP,?_⟩; clear hP hM
 refine li rfl (opK0 (fun w hM=>(qCommon B61 cb61 (withL [] []) B63 cb63 (withL [] []) w (hM.keep0 (j:=13) rfl (fun _ h=>RowIn.of_own h)) (hM.keep0 (j:=14) rfl (fun _ h=>RowIn.of_own h)) (by decide) (List.Pairwise.nil) (by decide)).mono ?_))
 rintro e w' ⟨B64,cb64,rfl,hP⟩
 refine ⟨_,_,rfl,hP,?_⟩; clear hP hM
 dsimp only [setAll,List.set,List.cons_append,List.nil_append]
 refine lm ?_
 refine li rfl (opK0 (fun w hM=>(qOffer_open bs30 (vL A130 noS c130) (.bool false) (.int .i64 2) (.int .i64 0) (.slice none 0 0) (.bool false) (.bool false) (.slice none 0 0) (.slice none 0 0) se30 A230 c230 noS nm30 om30 [] w (hM.keep0 (j:=7) rfl (fun _ h=>h)) (hM.keep0 (j:=9) rfl (fun _ h=>h)) (hM.keep0 (j:=12) rfl (fun _ h=>h)) (by decide)).mono ?_))
 rintro e w' ⟨B66,cb66,rfl,hP⟩
 refine ⟨_,_,rfl,hP,?_⟩; clear hP hM
 refine lm ?_
 refine li rfl (opK0 (fun w hM=>(qNeed_open bs22 (vL A122 a c122) (.bool true) (.int .i64 1) (vI 1) (vL Am22 (withB 1 (skB (strata a))) cm22) (.bool false) (.bool false) (.slice none 0 0) (.slice none 0 0) se22 A222 c222 a nm22 om22 [] w (hM.keep0 (j:=0) rfl (fun _ h=>h)) (hM.keep0 (j:=2) rfl (fun _ h=>h)) (hM.keep0 (j:=4) rfl (fun _ h=>h)) (by decide)).mono ?_))
 rintro e w' ⟨B68,cb68,rfl,hP⟩
 refine ⟨_,_,rfl,hP,?_⟩; clear hP hM
 refine li rfl (opK0 (fun w hM=>(qCommon B66 cb66 (withL [] []) B68 cb68 (withL [] []) w (hM.keep0 (j:=16) rfl (fun _ h=>RowIn.of_own h)) (hM.keep0 (j:=17) rfl (fun _ h=>RowIn.of_own h)) (by decide) (List.Pairwise.nil) (by decide)).mono ?_))
 rintro e w' ⟨B69,cb69,rfl,hP⟩
 refine ⟨_,_,rfl,hP,?_⟩; clear hP hM
 refine la ?_
 refine la ?_
 refine liNil (qThen (stSeq (anyBegin _ 18 (by kernel_rfl) (fun _ h=>h) ?_)))
 refine am 0 ?_
 refine am 1 ?_
 refine am 2 ?_
 refine am 3 ?_
 refine ac 4 (vP bs22 0) ?_
 refine ac 5 (vP bs22 6) ?_
 refine al 6 0 ?_
 refine am 7 ?_
 refine anF 8 ?_
 refine anF 9 ?_
 refine anF 10 ?_
 refine anF 11 ?_
 refine ac 12 (.bool false) ?_
 refine aa 13 ?_
 refine aa 14 ?_
 refine aa 15 ?_
 refine aa 16 ?_
 refine aa 17 ?_
 refine anyDone (by kernel_rfl) ?_
 refine qThen (stRet (sN [(vL B64 (keepIn (withL [] []) (withL [] [])) cb64),(vL B69 (keepIn (withL [] []) (withL [] [])) cb69),(.int .i64 0),(.bool false),(.int .i64 0)] fun w hM=>?_))
 exact ⟨(vL B64 (keepIn (withL [] []) (withL [] [])) cb64),(vL B69 (keepIn (withL [] []) (withL [] [])) cb69),rfl,(hM.pick [] rfl rfl)⟩
abbrev qA : List Bs := [awI 65, awI 66]
abbrev qB : List Bs := [awI 66, awI 67]
theorem qaw_sets:Sets qA qB 4 4:=⟨by decide +kernel,by decide +kernel,by decide,by decide,by decide,by decide,by decide,by decide⟩
theorem qaw_est:est (strata qA) (strata qB)=2:=by decide +kernel
theorem qaw_self:est (strata [awI 65]) (strata [awI 65])=0:=by decide +kernel
theorem qaw_keys:((tabT qA 18).sub (tabT qB 18)).keys=none:=by
 have h:((tabT qA 18).sub (tabT qB 18)).raw.isNone=true:=by decide +kernel
 unfold BT.keys
 rw [Option.isNone_iff_eq_none.1 h]
 rfl
theorem qaw_m (j:Nat) (hj:j < 3):msgA qA qB 4 4 j≠[]:=by
 intro e
 have h:(msgA qA qB 4 4 j).isEmpty=true:=by rw [e]; rfl
 match j,hj with
 | 0,_=>exact absurd h (by decide +kernel)
 | 1,_=>exact absurd h (by decide +kernel)
 | 2,_=>exact absurd h (by decide +kernel)
theorem qaw_ends:RunEnds qA qB 4 4 3:=by
 refine ⟨fun j hj=>?_,?_,by omega⟩
 ·obtain ⟨e1,e2⟩:=runM_enc qaw_sets j (by omega)
  exact ⟨by rw [e1]; exact fun e=>qaw_m j hj (encA_nil.1 e),by rw [e2]⟩
 ·rw [(runM_enc qaw_sets 3 (by omega)).1,encA_nil]
  have h:(msgA qA qB 4 4 3).isEmpty=true:=by decide +kernel
  exact List.isEmpty_iff.1 h
theorem qaw_n1:runN qA qB 4 4 1 3=((msgA qA qB 4 4 1).flatMap (needA qA),(msgA qA qB 4 4 1).flatMap (offA qA)):=by
 have e:runN qA qB 4 4 1 3=([]++(runR qA qB 4 4 1).need,[]++(runR qA qB 4 4 1).off):=by simp [runN]
 rw [e,(runM_enc qaw_sets 1 (by omega)).2]
 rfl
theorem qaw_n0:runN qA qB 4 4 0 3=((msgA qA qB 4 4 0).flatMap (needA qB)++(msgA qA qB 4 4 2).flatMap (needA qB),(msgA qA qB 4 4 0).flatMap (offA qB)++(msgA qA qB 4 4 2).flatMap (offA qB)):=by
 have e:runN qA qB 4 4 0 3=(([]++(runR qA qB 4 4 0).need)++(runR qA qB 4 4 2).need,([]++(runR qA qB 4 4 0).off)++(runR qA qB 4 4 2).off):=by simp [runN]
 rw [e,(runM_enc qaw_sets 0 (by omega)).2,(runM_enc qaw_sets 2 (by omega)).2]
 rfl
theorem qaw_l0:withL [] (runN qA qB 4 4 1 3).1=[awI 67]:=by rw [qaw_n1]; decide +kernel
theorem qaw_l1:withL [] (runN qA qB 4 4 1 3).2=[awI 65]:=by rw [qaw_n1]; decide +kernel
theorem qaw_l2:withL [] (runN qA qB 4 4 0 3).1=[awI 65]:=by rw [qaw_n0]; decide +kernel
theorem qaw_l3:withL [] (runN qA qB 4 4 0 3).2=[awI 67]:=by rw [qaw_n0]; decide +kernel
theorem qaw_c:(msgA qA qB 4 4 1).length≤10∧(encA (msgA qA qB 4 4 1)).length≤1000∧(encA (msgA qA qB 4 4 2)).length≤1000:=by decide +kernel
theorem qaw_bd:(withB 1 (skB (strata qA))).length+(tabMsg qB 18).length+(withB 3 (runM qA qB 4 4 0)).length+(withB 3 (runM qA qB 4 4 1)).length+(withB 3 (runM qA qB 4 4 2)).length+(num 5).length≤1048576:=by
 have h1:=skB_len (strata_ok (l:=qA) qaw_sets.ha.1).all
 rw [strata_len] at h1
 have h2:=withB_len (k:=1) (D:=skB (strata qA)) (by omega) (by omega)
 have h3:(tabMsg qB 18).length≤200100:=tabMsg_len (encTo_len (tabT_ok qaw_sets.hb.1 18) (by rw [tabT_len]; omega) _)
 have h4:(runM qA qB 4 4 0).length=37:=first_len (by decide)
 have h5:(runM qA qB 4 4 1).length≤1000:=by rw [(runM_enc qaw_sets 1 (by omega)).1]; exact qaw_c.2.1
 have h6:(runM qA qB 4 4 2).length≤1000:=by rw [(runM_enc qaw_sets 2 (by omega)).1]; exact qaw_c.2.2
 have h7:=withB_len (k:=3) (D:=runM qA qB 4 4 0) (by omega) (by omega)
 have h8:=withB_len (k:=3) (D:=runM qA qB 4 4 1) (by omega) (by omega)
 have h9:=withB_len (k:=3) (D:=runM qA qB 4 4 2) (by omega) (by omega)
 have h10:=num_length 5 (by omega)
 omega
theorem qaw_sk:rdSk (skB (strata [awI 65]))=some (strata [awI 65]):=rdSk_enc (strata_ok aw_one.1) (strata_len _)
theorem qaw_skl:(skB (strata [awI 65])).length≤4294967296:=by
 have h:=skB_len (strata_ok (l:=[awI 65]) aw_one.1).all
 rw [strata_len] at h
 omega
theorem qaw_x:keepIn [awI 65] [awI 65]=[awI 65]:=by decide +kernel
theorem qaw_y:keepIn [awI 67] [awI 67]=[awI 67]:=by decide +kernel
theorem qsItem_any (y:UInt8) (w:World) :
  Calls Tryz.prog 29 #[(.int .u8 ((y.toNat:Nat):Int))] w fun e w'=>e = .returned (vS (itemB y))∧Back [] w [] w':=by
 refine sE1 Tryz.func29 15 (Mm.start w []) ?_
 refine stSeq (reg (la ?_))
 refine liNil (qThen (stSeq (reg (la ?_))))
 refine liNil (qThen (stSeq (stSeq (reg (la ?_)))))
 refine liNil (qThen (stBlock (sL (fun i=>i≤32) (fun i=>32 - i) (fun i=>[(0,(.int .u8 ((y.toNat:Nat):Int))),(2,(.string ⟨#[]⟩)),(3,(vS (List.replicate i y))),(4,(vI i))]) (fun i=>[]) 0 (by omega) (fun _ h=>h) ?_)))
 intro i hok
 show St _ _ _ [(0,(.int .u8 ((y.toNat:Nat):Int))),(2,(.string ⟨#[]⟩)),(3,(vS (List.replicate i y))),(4,(vI i))] [] _
 refine stSeq (stSeq (reg (lm ?_)))
 refine lc (.bool (decide (((i:Nat):Int) < 32))) ?_
 refine liNil (qThen (stCond rfl (fun hc6=>?_) (fun hc6=>?_)))
 ·have hd6:=of_decide_eq_true hc6
  refine stSkip (qThen (stSeq (stBlock (reg (lm ?_)))))
  refine lm ?_
  refine li rfl (oNw 1 5 [(.int .u8 ((y.toNat:Nat):Int))] fun b11=>?_)
  refine lv (v:=(vS [y])) (rStr (e:=5) [y] rfl (by kernel_rfl) (by kernel_rfl) (by kernel_rfl) rfl rfl (fun w hM=>rowAtI (hM.at (i:=0) rfl) rfl)) ?_
  refine lv (v:=(vS ((List.replicate i y)++[y]))) (rStrAdd rfl rfl rfl (by simp; omega)) ?_
  refine la ?_
  refine liNil (qBlock (qThen (reg ?_)))
  refine lm ?_
  refine lv (v:=(vI (i+1))) rAd ?_
  refine la ?_
  refine liNil (qThen ?_)
  rw [show List.replicate i y++[y]=List.replicate (i+1) y from (List.replicate_succ' ..).symm]
  refine St.drop (cs':=[]) (List.nil_sublist _) ?_
  exact sA (i+1) (by show _≤_; omega) (by show 32 - (i+1) < 32 - i; omega) (fun w hM=>hM)
 ·have hd6:=of_decide_eq_false hc6
  refine stExit (qThenX (qThenX (qBlockX (qThen (stSeq (reg ?_))))))
  refine lm ?_
  refine la ?_
  refine liNil (qThen (stRet (sN [(vS (List.replicate i y))] fun w hM=>?_)))
  exact ⟨by rw [show i=32 by omega]; rfl,hM⟩
theorem qsItemN_any (n:Nat) (w:World) (hn:n < 256) :
  Calls Tryz.prog 29 #[(.int .u8 ((n:Nat):Int))] w fun e w'=>e = .returned (vS (awI n))∧Back [] w [] w':=by
 have h:=qsItem_any (UInt8.ofNat n) w
 rw [show (UInt8.ofNat n).toNat=n from by simp; omega] at h
 exact h
theorem qsSame_any (A:Option Addr) (c:Nat) (l:List (List UInt8)) (A2:Option Addr) (c2:Nat) (m:List (List UInt8)) (w:World) (r0:Rf [] w (fun w=>RowIn w A (SS l))) (r1:Rf [] w (fun w=>RowIn w A2 (SS m))) (hl:l.length≤68719476736) (hl2:m.length≤68719476736) :
  Calls Tryz.prog 23 #[(vL A l c),(vL A2 m c2)] w fun e w'=>e = .returned (.bool (decide (l=m)))∧Back [] w [] w':=by
 refine sE2 Tryz.func23 8 (Mm.start w []) ?_
 refine stSeq (reg (la ?_))
 refine liNil (qThen (stSeq (reg (lm ?_))))
 refine lm ?_
 refine li rfl (opK0 (fun w hM=>(rsSame_any A c l A2 c2 m w (r0.go0 hM) (r1.go0 hM) (by omega) (by omega)).mono ?_))
 rintro e w' ⟨rfl,hP⟩
 refine ⟨_,_,rfl,hP,?_⟩; clear hP hM
 refine la ?_
 refine liNil (qThen (stRet (sN [(.bool (decide (l=m)))] fun w hM=>?_)))
 exact ⟨rfl,hM⟩
theorem qsSet_any (A:Option Addr) (c:Nat) (l:List (List UInt8)) (w:World) (r0:Rf [] w (fun w=>RowIn w A (SS l))) (hl:l.length≤9223372036854775807) :
  Calls Tryz.prog 26 #[(vL A l c)] w fun e w'=>e = .returned (.bool (setB l))∧Back [] w [] w':=by
 refine sE1 Tryz.func26 11 (Mm.start w []) ?_
 refine stSeq (reg (la ?_))
 refine liNil (qThen (stSeq (reg (lm ?_))))
 refine lc (vI l.length) ?_
 refine lc (.bool (decide (((l.length:Nat):Int)≤40))) ?_
 refine lm ?_
 refine St.dec 6 rfl (fun hc6=>?_) (fun hc6=>?_)
 ·have hd6:=of_decide_eq_true hc6
  refine lgm ?_
  refine liGo rfl rfl ?_
  refine opK0 (fun w hM=>(rsSet_any A c l w (r0.go0 hM) (by omega)).mono ?_)
  rintro e w' ⟨rfl,hP⟩
  refine ⟨_,_,rfl,hP,?_⟩; clear hP hM
  refine lgc (.bool (((setE l):Int) == 0)) ?_
  refine lc (.bool (((setE l):Int) == 0)) ?_
  refine la ?_
  refine liNil (qThen (stRet (sN [(.bool (((setE l):Int) == 0))] fun w hM=>?_)))
  exact ⟨ret_bool (by unfold setB; rw [Bool.eq_iff_iff]; simp; omega),hM⟩
 ·have hd6:=of_decide_eq_false hc6
  iterate 3 refine lnF ?_
  refine lc (.bool false) ?_
  refine la ?_
  refine liNil (qThen (stRet (sN [(.bool false)] fun w hM=>?_)))
  exact ⟨ret_bool (by unfold setB; rw [Bool.eq_iff_iff]; simp; omega),hM⟩
theorem qsAwake_any (w:World) (r0:Rf [] w (Vars)) :
  Calls Tryz.prog 6 #[] w fun e w'=>e = .returned (.bool true)∧Back [] w [] w':=by
 refine sE0 Tryz.func6 133 (Mm.start w []) ?_
 refine stSeq (reg (la ?_))
 refine liNil (qThen (stSeq (reg (li rfl (opK0 (fun w hM=>(qChoose_table 10 9 w (by decide)).mono ?_))))))
 rintro e w' ⟨rfl,hP⟩
 refine ⟨_,_,rfl,hP,?_⟩; clear hP hM
 refine lm ?_
 refine lc (.int .i64 1) ?_
 refine lc (.int .i64 (blSize ((10+10 / 2:Nat):Int))) ?_
 refine lc (.int .i64 0) ?_
 iterate 3 refine la ?_
 refine liNil (qThen (stSeq (reg (li rfl (opK0 (fun w hM=>(qsItemN_any 65 w (by decide)).mono ?_))))))
 rintro e w' ⟨rfl,hP⟩
 refine ⟨_,_,rfl,hP,?_⟩; clear hP hM
 refine li rfl (opK0 (fun w hM=>(qsItemN_any 66 w (by decide)).mono ?_))
 rintro e w' ⟨rfl,hP⟩
 refine ⟨_,_,rfl,hP,?_⟩; clear hP hM
 refine li rfl (oNw 2 9 [(vS (awI 65)),(vS (awI 66))] fun b30=>?_)
 refine li rfl (opK0 (fun w hM=>(qsItemN_any 66 w (by decide)).mono ?_))
 rintro e w' ⟨rfl,hP⟩
 refine ⟨_,_,rfl,hP,?_⟩; clear hP hM
 refine li rfl (opK0 (fun w hM=>(qsItemN_any 67 w (by decide)).mono ?_))
 rintro e w' ⟨rfl,hP⟩
 refine ⟨_,_,rfl,hP,?_⟩; clear hP hM
 dsimp only [setAll,List.set,List.cons_append,List.nil_append]
 refine li rfl (oNw 2 9 [(vS (awI 66)),(vS (awI 67))] fun b33=>?_)
 refine li rfl (opK0 (fun w hM=>(qRunX (some ⟨b30,0,none⟩) 2 [(awI 65),(awI 66)] (some ⟨b33,0,none⟩) 2 [(awI 66),(awI 67)] 1048576 2 18 [awI 67] [awI 65] [awI 65] [awI 67] w (r0.go0 hM) (hM.keep0 (j:=0) rfl (fun _ h=>rowAtI h rfl)) (hM.keep0 (j:=1) rfl (fun _ h=>rowAtI h rfl)) (qaw_sets.ha) (qaw_sets.hb) (by decide) (by decide) (qaw_est) (by decide) (by decide) (by decide) (by decide) (qaw_keys) (qaw_ends) (qaw_bd) (by decide) (qaw_l0) (qaw_l1) (qaw_l2) (qaw_l3) (List.pairwise_singleton ..) (List.pairwise_singleton ..)).mono ?_))
 rintro e w' ⟨B134,cb134,B234,cb234,nbt34,rfl,hP⟩
 refine ⟨_,_,rfl,hP,?_⟩; clear hP hM
 refine lm ?_
 refine lc (vL B134 (keepIn [awI 65] [awI 65]) cb134) ?_
 refine lc (vL B234 (keepIn [awI 67] [awI 67]) cb234) ?_
 refine lc (vI nbt34) ?_
 refine lc (.bool true) ?_
 refine lc (.int .i64 0) ?_
 iterate 5 refine la ?_
 refine liNil (qThen (stSeq (reg (li rfl (opK0 (fun w hM=>(qsItemN_any 65 w (by decide)).mono ?_))))))
 rintro e w' ⟨rfl,hP⟩
 refine ⟨_,_,rfl,hP,?_⟩; clear hP hM
 refine li rfl (oNw 1 9 [(vS (awI 65))] fun b42=>?_)
 refine li rfl (opK0 (fun w hM=>(qRun0 (some ⟨b42,0,none⟩) 1 [(awI 65)] w (r0.go0 hM) (hM.keep0 (j:=4) rfl (fun _ h=>rowAtI h rfl)) (aw_one) (by decide)).mono ?_))
 rintro e w' ⟨x143,x243,rfl,hP⟩
 refine ⟨_,_,rfl,hP,?_⟩; clear hP hM
 refine lm ?_
 refine lc x143 ?_
 refine lc x243 ?_
 refine lc (.int .i64 0) ?_
 refine lc (.bool false) ?_
 refine lc (.int .i64 0) ?_
 iterate 5 refine la ?_
 refine liNil (qThen (stSeq ?_))
 dsimp only [setAll,List.set,List.cons_append,List.nil_append]
 refine reg (li rfl (opK0 (fun w hM=>(qsItemN_any 65 w (by decide)).mono ?_)))
 rintro e w' ⟨rfl,hP⟩
 refine ⟨_,_,rfl,hP,?_⟩; clear hP hM
 refine li rfl (oNw 1 9 [(vS (awI 65))] fun b51=>?_)
 refine li rfl (opK0 (fun w hM=>(qSketch_ok (some ⟨b51,0,none⟩) 1 [(awI 65)] w (r0.go0 hM) (hM.keep0 (j:=5) rfl (fun _ h=>rowAtI h rfl)) (by decide) (setE_ok (by decide) aw_one) (by decide)).mono ?_))
 rintro e w' ⟨A252,c252,rfl,hP⟩
 refine ⟨_,_,rfl,hP,?_⟩; clear hP hM
 refine lm ?_
 refine lc (vL A252 (skB (strata [(awI 65)])) c252) ?_
 refine lc (.int .i64 0) ?_
 refine la ?_
 refine la ?_
 refine liNil (qThen (stSeq (reg (lm ?_))))
 refine lm ?_
 refine li rfl (opK0 (fun w hM=>(qEst_ok A252 c252 (skB (strata [(awI 65)])) A252 c252 (skB (strata [(awI 65)])) (strata [awI 65]) (strata [awI 65]) w (r0.go0 hM) (hM.keep0 (j:=6) rfl (fun _ h=>RowIn.of_own h)) (hM.keep0 (j:=6) rfl (fun _ h=>RowIn.of_own h)) (qaw_skl) (qaw_skl) (qaw_sk) (qaw_sk)).mono ?_))
 rintro e w' ⟨rfl,hP⟩
 refine ⟨_,_,rfl,hP,?_⟩; clear hP hM
 refine lm ?_
 refine lc (vI (est (strata [awI 65]) (strata [awI 65]))) ?_
 refine lc (.int .i64 0) ?_
 refine la ?_
 refine la ?_
 refine liNil (qThen (stSeq ?_))
 dsimp only [setAll,List.set,List.cons_append,List.nil_append]
 refine reg (li rfl (opK0 (fun w hM=>(qNewT none 0 noS w (r0.go0 hM) ro_nilS (by decide) (by decide) (by decide)).mono ?_)))
 rintro e w' ⟨bs62,A162,c162,se62,A262,c262,nm62,om62,Am62,cm62,rfl,hP⟩
 refine ⟨_,_,rfl,hP,?_⟩; clear hP hM
 refine lm ?_
 refine lc (vP bs62 0) ?_
 refine lc (.int .i64 0) ?_
 refine la ?_
 refine la ?_
 refine liNil (qThen (stSeq (stSeq (reg (lm ?_)))))
 refine lc (.bool false) ?_
 refine lm ?_
 refine lgm ?_
 refine lgc (.bool false) ?_
 refine lc (.bool false) ?_
 refine liNil (qThen (stFalse rfl (stSkip (qThen (stSeq (reg ?_))))))
 refine lm ?_
 refine li rfl (opK0 (fun w hM=>(qNext_short bs62 (vL A162 noS c162) (.bool true) (.bool false) (.bool false) (vP se62 0) (.bool false) (.slice none 0 0) (.slice none 0 0) 1 Am62 cm62 (withB 1 (skB (strata noS))) 0 w (hM.keep0 (j:=7) rfl (fun _ h=>h)) (by have h9:=num_pos 1; simp only [withB,List.length_append]; omega)).mono ?_))
 rintro e w' ⟨rfl,hP⟩
 refine ⟨_,_,rfl,hP,?_⟩; clear hP hM
 refine lm ?_
 refine lc (.slice none 0 0) ?_
 refine lc (.int .i64 10) ?_
 refine la ?_
 refine la ?_
 refine liNil (qThen (stSeq (reg (lm ?_))))
 refine lc (.bool true) ?_
 refine lm ?_
 refine lgm ?_
 refine lgc (.bool true) ?_
 refine lc (.bool true) ?_
 refine lm ?_
 refine lgm ?_
 refine lgc (.bool (((blSize ((10+10 / 2:Nat):Int)):Int) == 42)) ?_
 refine lc (.bool (((blSize ((10+10 / 2:Nat):Int)):Int) == 42)) ?_
 refine lm ?_
 refine St.known 86 (b':=true) rfl (by decide) ?_
 refine lgm ?_
 refine lgc (.bool true) ?_
 refine lc (.bool true) ?_
 refine lm ?_
 refine lgm ?_
 refine lc (.bool true) ?_
 refine lm ?_
 refine lgm ?_
 refine liGo rfl rfl ?_
 refine opK0 (fun w hM=>(qsItemN_any 65 w (by decide)).mono ?_)
 rintro e w' ⟨rfl,hP⟩
 refine ⟨_,_,rfl,hP,?_⟩; clear hP hM
 refine liGo rfl rfl ?_
 refine oNw 1 9 [(vS (awI 65))] fun b96=>?_
 refine liGo rfl rfl ?_
 refine opK0 (fun w hM=>(qsSame_any B134 cb134 (keepIn [awI 65] [awI 65]) (some ⟨b96,0,none⟩) 1 [(awI 65)] w (hM.keep0 (j:=2) rfl (fun _ h=>RowIn.of_own h)) (hM.keep0 (j:=14) rfl (fun _ h=>rowAtI h rfl)) (by decide) (by decide)).mono ?_)
 rintro e w' ⟨rfl,hP⟩
 refine ⟨_,_,rfl,hP,?_⟩; clear hP hM
 refine lc (.bool (decide ((keepIn [awI 65] [awI 65])=[(awI 65)]))) ?_
 refine lm ?_
 refine St.known 99 (b':=true) rfl (decide_eq_true qaw_x) ?_
 refine lgm ?_
 refine liGo rfl rfl ?_
 refine opK0 (fun w hM=>(qsItemN_any 67 w (by decide)).mono ?_)
 rintro e w' ⟨rfl,hP⟩
 refine ⟨_,_,rfl,hP,?_⟩; clear hP hM
 dsimp only [setAll,List.set,List.cons_append,List.nil_append]
 refine liGo rfl rfl ?_
 refine oNw 1 9 [(vS (awI 67))] fun b102=>?_
 refine liGo rfl rfl ?_
 refine opK0 (fun w hM=>(qsSame_any B234 cb234 (keepIn [awI 67] [awI 67]) (some ⟨b102,0,none⟩) 1 [(awI 67)] w (hM.keep0 (j:=3) rfl (fun _ h=>RowIn.of_own h)) (hM.keep0 (j:=15) rfl (fun _ h=>rowAtI h rfl)) (by decide) (by decide)).mono ?_)
 rintro e w' ⟨rfl,hP⟩
 refine ⟨_,_,rfl,hP,?_⟩; clear hP hM
 refine lc (.bool (decide ((keepIn [awI 67] [awI 67])=[(awI 67)]))) ?_
 refine lm ?_
 refine St.known 105 (b':=true) rfl (decide_eq_true qaw_y) ?_
 refine lgm ?_
 refine lgc (.bool true) ?_
 refine lc (.bool true) ?_
 refine lm ?_
 refine lgm ?_
 refine lgc (.bool true) ?_
 refine lc (.bool true) ?_
 refine lm ?_
 refine lgm ?_
 refine lgc (.bool true) ?_
 refine lc (.bool true) ?_
 refine lm ?_
 refine lgm ?_
 refine lgc (.bool true) ?_
 refine lc (.bool true) ?_
 refine lm ?_
 refine lgm ?_
 refine lgc (.bool true) ?_
 refine lc (.bool true) ?_
 refine lm ?_
 refine lgm ?_
 refine lgc (.bool (((((est (strata [awI 65]) (strata [awI 65])):Nat):Int):Int) == 0)) ?_
 refine lc (.bool (((((est (strata [awI 65]) (strata [awI 65])):Nat):Int):Int) == 0)) ?_
 refine lm ?_
 refine St.known 129 (b':=true) rfl (by rw [qaw_self]; rfl) ?_
 refine lgm ?_
 refine lgc (.bool true) ?_
 refine lc (.bool true) ?_
 refine la ?_
 refine liNil (qThen (stRet (sN [(.bool true)] fun w hM=>?_)))
 exact ⟨rfl,(hM.pick [] rfl rfl)⟩
section
structure AcX where
 nx : Bool
 b : Int
 A : Option Addr
 c : Nat
 D : Bs
def acV (p : AcX) : List Value := [.bool p.nx, .int .i64 p.b, .slice p.A p.D.length p.c]
abbrev AX (l : List AcX) : List Value := l.flatMap acV
def AcRows (l : List AcX) (w : World) : Prop := ∀ x ∈ l, RowIn w x.A (B8 x.D)
theorem AX_length (l:List AcX):(AX l).length=l.length*3:=by
 induction l with
 | nil=>rfl
 | cons p l ih=>simp only [AX,List.flatMap_cons,List.length_append,List.length_cons,acV,List.length_nil] at ih ⊢; omega
theorem AX_at {l:List AcX} {i:Nat} {p:AcX} (h:l[i]?=some p) (j:Nat) (v:Value) (hj:(acV p)[j]?=some v):(AX l)[i*3+j]?=some v:=by
 induction l generalizing i with
 | nil=>simp at h
 | cons q l ih =>
   have hl:(acV q).length=3:=rfl
   cases i with
   | zero =>
     simp at h; subst h
     have:j < 3:=by have:=(List.getElem?_eq_some_iff.1 hj).1; simpa [acV] using this
     rw [show AX (q::l)=acV q++AX l from rfl,Nat.zero_mul,Nat.zero_add,List.getElem?_append_left (by omega)]
     exact hj
   | succ i =>
     rw [show AX (q::l)=acV q++AX l from rfl,show (i+1)*3+j=3+(i*3+j) by omega,← hl,List.getElem?_append_right (by omega),Nat.add_sub_cancel_left]
     exact ih (by simpa using h)
section
variable {P : Program} {ops : Array Oper} {Q : Exit → Act → World → Prop} {n : Nat} {w0 : World} {F : List Nat} {E : Env} {cs : List Ch} {X : Act → World → Prop}
theorem ac_cells {w:World} {A:Option Addr} {ps:List AcX} {i:Nat} {p:AcX} (h:RowIn w A (AX ps)) (hp:ps[i]?=some p) {b q:Nat} (hA:A=some ⟨b,q,none⟩):∀ j v,(acV p)[j]?=some v→w.cell? ⟨b,q+i*3+j,none⟩=some v:=fun j v hj=>by
 rw [Nat.add_assoc]
 exact row_cell h (AX_at hp j v hj) hA
theorem St.acPtr {A:Option Addr} {ps:List AcX} {i:Nat} {p:AcX} (h:∀ w,Mm w0 F cs w→RowIn w A (AX ps)) (hp:ps[i]?=some p) (k:∀ b q,A=some ⟨b,q,none⟩→(∀ w,Mm w0 F cs w→∀ j v,(acV p)[j]?=some v→w.cell? ⟨b,q+i*3+j,none⟩=some v)→St n w0 F E cs X):St n w0 F E cs X:=fun a w ha hM=>by
 obtain ⟨b,q,hA⟩:=row_form (h w hM) (AX_at hp 0 _ rfl)
 exact k b q hA (fun w' hM'=>ac_cells (h w' hM') hp hA) a w ha hM
end
end
theorem has_yes {l:List Bs} {x y:Bs} {i:Nat} (h:l[i]?=some y) (e:x=y):true=l.contains x:=by
 subst e
 exact (List.contains_iff_mem.2 (List.mem_of_getElem? h)).symm
theorem has_no {l:List Bs} {x y:Bs} {i:Nat} (hn:(l.take i).contains x=false) (h:l[i]?=some y) (e:¬ x=y):(l.take (i+1)).contains x=false:=by
 rw [List.take_add_one,h,Option.toList_some]
 simp at hn ⊢
 exact ⟨hn,e⟩
set_option maxHeartbeats 400000 in
theorem qNewG (A:Option Addr) (c:Nat) (l:List (List UInt8)) (bg:Bool) (w:World) (r0:Rf [] w (Vars)) (r1:Rf [] w (fun w=>RowIn w A (SS l))) (hl:l.length≤9223372036854775807) (he:setE l=0) (h40:l.length≤1000) :
  Calls Tryz.prog 16 #[(vL A l c),(.bool bg)] w fun e w'=>∃ (bs:Nat) (A1:Option Addr) (c1 st k:Nat) (Am:Option Addr) (m:List UInt8) (cm se:Nat) (A2:Option Addr) (c2 nm om:Nat),e = .returned (.tuple #[(vP bs 0),(.int .i64 0)])∧Back [] w [cAt bs 101 [(vL A1 l c1),(.bool bg),(vI st),(vI k),(vL Am m cm),(.bool false),(.bool false),(vP se 0),(.bool false),(.slice none 0 0),(.slice none 0 0)],cS A1 l c1,cAt se 149 [(vL A2 l c2),(vI 4),(vI 4),(.map (some nm)),(.map (some om))],cS A2 l c2,cSet nm ([]),cSet om ([])] w'∧(st≤2):=by
 cases bg with
 | true =>
   refine (qNewT _ _ _ w r0 r1 hl he h40).mono ?_
   rintro e w' ⟨bs,A1,c1,se,A2,c2,nm,om,Am,cm,rfl,hP⟩
   exact ⟨bs,A1,c1,1,1,Am,_,cm,se,A2,c2,nm,om,rfl,hP.pick [0,1,2,3,4,5] rfl rfl,by omega⟩
 | false =>
   refine (qNewF _ _ _ w r0 r1 hl he h40).mono ?_
   rintro e w' ⟨bs,A1,c1,se,A2,c2,nm,om,rfl,hP⟩
   exact ⟨bs,A1,c1,2,0,none,[],0,se,A2,c2,nm,om,rfl,hP,by omega⟩
theorem qHas (A:Option Addr) (c:Nat) (l:List (List UInt8)) (x:List UInt8) (w:World) (r0:Rf [] w (fun w=>RowIn w A (SS l))) (hl:l.length≤68719476736) :
  Calls Tryz.prog 27 #[(vL A l c),(vS x)] w fun e w'=>e = .returned (.bool (l.contains x))∧Back [] w [] w':=by
 refine sE2 Tryz.func27 17 (Mm.start w []) ?_
 refine stSeq (reg (la ?_))
 refine liNil (qThen (stSeq (stSeq (reg (lm ?_)))))
 refine lc (vI l.length) ?_
 refine lm ?_
 refine liNil (qThen (stBlock (sL (fun i=>i≤l.length∧(l.take i).contains x=false) (fun i=>l.length - i) (fun i=>[(1,(vS x)),(4,(.bool false)),(7,(vL A l c)),(8,(vI l.length)),(9,(vI i))]) (fun i=>[]) 0 ⟨Nat.zero_le _,rfl⟩ (fun _ h=>h) ?_)))
 rintro i ⟨hi,hno⟩
 show St _ _ _ [(1,(vS x)),(4,(.bool false)),(7,(vL A l c)),(8,(vI l.length)),(9,(vI i))] [] _
 refine stSeq (reg (lc (.bool (decide (((i:Nat):Int) < ((l.length:Nat):Int)))) ?_))
 refine liNil (qThen (stSeq (stCond rfl (fun hc10=>?_) (fun hc10=>?_))))
 ·have hd10:=of_decide_eq_true hc10
  refine stSkip (qThen (stSeq (stBlock (stSeq (reg ?_)))))
  obtain ⟨x0,hx0⟩:∃ ξ,(l)[i]?=some ξ:=⟨_,List.getElem?_eq_getElem (by omega)⟩
  refine St.rowPtr (fun w hM=>r0.now hM) (SS_at hx0) (fun p11 q11 hA11 hc11=>?_)
  refine lv (v:=(vP p11 (q11+i))) (rR 9 hA11) ?_
  refine lv (rW hc11) ?_
  refine la ?_
  refine liNil (qThen (stSeq (reg (lm ?_))))
  refine lm ?_
  refine lv (v:=(.bool (decide (x=x0)))) (rStrEq rfl rfl rfl) ?_
  refine liNil (qThen (stCond rfl (fun hc15=>?_) (fun hc15=>?_)))
  ·have hd15:=of_decide_eq_true hc15
   refine stSeq (reg (la ?_))
   refine liNil (qThen (stRet (qBlockR (qThenR (qThenR (qBlockR (qThenR ?_)))))))
   refine sN [(.bool true)] fun w hM=>?_
   exact ⟨ret_bool (has_yes hx0 (by simpa using hc15)),hM⟩
  ·have hd15:=of_decide_eq_false hc15
   have hno2:=has_no hno hx0 (by simpa using hc15)
   refine stSkip (qBlock (qThen (reg ?_)))
   refine lv (v:=(vI (i+1))) rAd ?_
   refine lm ?_
   exact liNil (qThen (sA (i+1) (⟨by omega,hno2⟩) (by show l.length - (i+1) < l.length - i; omega) (fun w hM=>hM)))
 ·have hd10:=of_decide_eq_false hc10
  obtain rfl:i=l.length:=by omega
  refine stExit (qThenX (qThenX (qBlockX (qThen (stSeq (reg ?_))))))
  refine la ?_
  refine liNil (qThen (stRet (sN [(.bool false)] fun w hM=>?_)))
  exact ⟨ret_bool (by rw [List.take_length] at hno; rw [hno]),hM⟩
theorem lawStands40 (A:Option Addr) (c:Nat) (l:List (List UInt8)) (bg:Bool) (AM:Option Addr) (cA:Nat) (acts:List AcX) (w:World) (r0:Rf [] w (Vars)) (r1:Rf [] w (fun w=>RowIn w A (SS l))) (r2:Rf [] w (fun w=>RowIn w AM (AX acts))) (r3:Rf [] w (AcRows acts)) (hl:l.length≤9223372036854775807) (hlm:acts.length≤9223372036854775807) :
  Calls Tryz.prog 5 #[(vL A l c),(.bool bg),(vL AM acts cA)] w fun e w'=>e = .returned (.bool true)∧Back [] w [] w':=by
 refine sE3 Tryz.func5 130 (Mm.start w []) ?_
 refine stSeq (reg (la ?_))
 refine liNil (qThen (stSeq (stSeq (reg (li rfl (opK0 (fun w hM=>(qsAwake_any  w (r0.go0 hM)).mono ?_)))))))
 rintro e w' ⟨rfl,hP⟩
 refine ⟨_,_,rfl,hP,?_⟩; clear hP hM
 refine lc (.bool false) ?_
 refine liNil (qThen (stFalse rfl (stSkip (qThen (stSeq (stSeq (reg ?_)))))))
 refine lm ?_
 refine li rfl (opK0 (fun w hM=>(qsSet_any A c l w (r1.go0 hM) (by omega)).mono ?_))
 rintro e w' ⟨rfl,hP⟩
 refine ⟨_,_,rfl,hP,?_⟩; clear hP hM
 refine lc (.bool (!(setB l))) ?_
 refine lm ?_
 refine St.dec 24 rfl (fun hc24=>?_) (fun hc24=>?_)
 ·refine lnT ?_
  refine lnT ?_
  refine lnT ?_
  refine lc (.bool true) ?_
  refine liNil (qThen (stTrue rfl (stSeq (reg ?_))))
  refine la ?_
  refine liNil (qThen (stRet (qThenR (sN [(.bool true)] fun w hM=>?_))))
  exact ⟨rfl,hM⟩
 ·refine lgm ?_
  refine lgc (vI acts.length) ?_
  refine lgc (.bool (decide (((acts.length:Nat):Int) > 8))) ?_
  refine lc (.bool (decide (((acts.length:Nat):Int) > 8))) ?_
  refine liNil (qThen (stCond rfl (fun hc28=>?_) (fun hc28=>?_)))
  ·have hd28:=of_decide_eq_true hc28
   refine stSeq (reg (la ?_))
   refine liNil (qThen (stRet (qThenR (sN [(.bool true)] fun w hM=>?_))))
   exact ⟨rfl,hM⟩
  ·have hd28:=of_decide_eq_false hc28
   obtain ⟨hset,h40⟩:=setB_ok (by simpa using hc24)
   have hm8:acts.length≤8:=by omega
   have hse:setE l=0:=setE_ok (by omega) hset
   have hrow:l.length≤68719476736:=by omega
   refine stSkip (qThen (stSeq (reg (lm ?_))))
   refine lm ?_
   refine li rfl (opK0 (fun w hM=>(qNewG A c l bg w (r0.go0 hM) (r1.go0 hM) (by omega) (hse) (by omega)).mono ?_))
   rintro e w' ⟨bs32,A132,c132,st32,k32,Am32,m32,cm32,se32,A232,c232,nm32,om32,rfl,hP,hst32⟩
   refine ⟨_,_,rfl,hP,?_⟩; clear hP hM
   refine lm ?_
   refine lc (vP bs32 0) ?_
   refine lc (.int .i64 0) ?_
   refine la ?_
   refine la ?_
   refine liNil (qThen (stSeq (stSeq (reg (lm ?_)))))
   refine lc (.bool false) ?_
   refine liNil (qThen (stFalse rfl (stSkip (qThen (stSeq (stSeq ?_))))))
   refine St.fact (fun w hM=>own_cap (hM.at (i:=3) rfl)) (fun hcap=>?_)
   refine St.mem (cs':=[cAt bs32 101 [(vL A132 l c132),(.bool bg),(vI st32),(vI k32),(vL Am32 m32 cm32),(.bool false),(.bool false),(vP se32 0),(.bool false),(.slice none 0 0),(.slice none 0 0)],cS A132 l c132,cAt se32 149 [(vL A232 l c232),(vI 4),(vI 4),(.map (some nm32)),(.map (some om32))],cS A232 l c232,cSet nm32 ([]),cSet om32 ([]),cRw none (SS noS),cRw none (SS noS)]) (fun w hM=>(Mm.nilRw (Mm.nilRw hM none) none)) ?_
   refine reg (lm ?_)
   refine lc (vI acts.length) ?_
   refine lm ?_
   refine liNil (qThen (stBlock ?_))
   have hI0:SInv l 0 st32 k32 false noS noS noS noS:=⟨hst32,(fun h=>by cases h),fun _=>⟨rfl,rfl⟩,(fun x hx=>by cases hx),(fun x hx=>by cases hx),List.Pairwise.nil,List.Pairwise.nil,Nat.zero_le _,(fun x hx=>by cases hx),(fun x hx=>by cases hx),Nat.zero_le _,Nat.zero_le _⟩
   refine sL (fun (i,st,k,Am,m,cm,rc,dn,sd,An,needs,cn,Ao,offs,co,S,S2)=>i≤acts.length∧SInv l i st k sd needs offs S S2) (fun (i,st,k,Am,m,cm,rc,dn,sd,An,needs,cn,Ao,offs,co,S,S2)=>acts.length - i) (fun (i,st,k,Am,m,cm,rc,dn,sd,An,needs,cn,Ao,offs,co,S,S2)=>[(0,(vL A l c)),(6,(.bool false)),(7,(vP bs32 0)),(37,(vL AM acts cA)),(38,(vI acts.length)),(39,(vI i))]) (fun (i,st,k,Am,m,cm,rc,dn,sd,An,needs,cn,Ao,offs,co,S,S2)=>[cAt bs32 101 [(vL A132 l c132),(.bool bg),(vI st),(vI k),(vL Am m cm),(.bool rc),(.bool dn),(vP se32 0),(.bool sd),(vL An needs cn),(vL Ao offs co)],cS A132 l c132,cAt se32 149 [(vL A232 l c232),(vI 4),(vI 4),(.map (some nm32)),(.map (some om32))],cS A232 l c232,cSet nm32 (S),cSet om32 (S2),cRw An (SS needs),cRw Ao (SS offs)]) (0,st32,k32,Am32,m32,cm32,false,false,false,none,noS,0,none,noS,0,noS,noS) ⟨Nat.zero_le _,hI0⟩ (fun w hM=>by show Mm _ _ [cAt bs32 101 [(vL A132 l c132),(.bool bg),(vI st32),(vI k32),(vL Am32 m32 cm32),(.bool false),(.bool false),(vP se32 0),(.bool false),(vL none noS 0),(vL none noS 0)],cS A132 l c132,cAt se32 149 [(vL A232 l c232),(vI 4),(vI 4),(.map (some nm32)),(.map (some om32))],cS A232 l c232,cSet nm32 (noS),cSet om32 (noS),cRw none (SS noS),cRw none (SS noS)] w; exact hM) ?_
   rintro ⟨i,st,k,Am,m,cm,rc,dn,sd,An,needs,cn,Ao,offs,co,S,S2⟩ ⟨hi,hI⟩
   dsimp only
   refine stSeq (reg (lc (.bool (decide (((i:Nat):Int) < ((acts.length:Nat):Int)))) ?_))
   refine liNil (qThen (stSeq (stCond rfl (fun hc40=>?_) (fun hc40=>?_))))
   ·have hd40:=of_decide_eq_true hc40
    refine stSkip (qThen (stSeq (stBlock (stSeq (reg ?_)))))
    obtain ⟨x0,hx0⟩:∃ ξ,(acts)[i]?=some ξ:=⟨_,List.getElem?_eq_getElem (by omega)⟩
    refine St.acPtr (fun w hM=>r2.now hM) hx0 (fun p41 q41 hA41 hc41=>?_)
    refine lv (v:=(vP p41 (q41+i*3))) (rIndexRow3 (e:=54) rfl (by kernel_rfl) (by kernel_rfl) rfl rfl hA41 (by omega)) ?_
    refine lv (v:=(.agg #[(.bool x0.nx),(.int .i64 x0.b),(vL x0.A x0.D (x0.c))])) (rLoadA [(.bool x0.nx),(.int .i64 x0.b),(vL x0.A x0.D (x0.c))] rfl rfl (by kernel_rfl) (by kernel_rfl) (hc41)) ?_
    have rsm:=Ro.imp (Ψ:=fun w=>RowIn w x0.A (B8 x0.D)) r3 (fun w h=>h x0 (List.mem_of_getElem? hx0))
    have hlO:=(hI.setO hset h40).2; have hlN:=hI.lenN (by omega)
    have hb1:=hI.l1; have hb2:=hI.l2; have hb3:=hI.ln
    refine li rfl (oAl [(.bool false),(.int .i64 0),(.slice none 0 0)] fun b10=>?_)
    refine li rfl (oSN 8 [(.bool x0.nx),(.int .i64 x0.b),(vL x0.A x0.D (x0.c))] ?_)
    refine liNil (qThen (stSeq (stSeq (reg (lc (vP b10 2) ?_)))))
    refine ll 8 ?_
    refine lc (vI x0.D.length) ?_
    refine lc (.bool (decide (((x0.D.length:Nat):Int) > 20000))) ?_
    refine liNil (qThen (stCond rfl (fun hc46=>?_) (fun hc46=>?_)))
    ·have hd46:=of_decide_eq_true hc46
     refine stSeq (reg (la ?_))
     refine liNil (qThen (stRet (qThenR (qBlockR (qThenR (qThenR (qBlockR (qThenR ?_))))))))
     refine sN [(.bool true)] fun w hM=>?_
     exact ⟨rfl,(hM.pick [] rfl rfl)⟩
    ·have hd46:=of_decide_eq_false hc46
     refine stSkip (qThen (stSeq (reg (lm ?_))))
     refine li rfl (opK0 (fun w hM=>(qNeedG bs32 A132 c132 l bg st k Am m cm rc dn se32 sd An needs cn Ao offs co A232 c232 nm32 om32 S w (hM.keep0 (j:=0) rfl (fun _ h=>h)) (hM.keep0 (j:=2) rfl (fun _ h=>h)) (hM.keep0 (j:=4) rfl (fun _ h=>h)) (hM.keep0 (j:=6) rfl (fun _ h=>cRw_row h)) (by have h9:=hI.l1; omega) (by have h9:=hI.ln; omega)).mono ?_))
     rintro e w' ⟨B48,cb48,rfl,hP⟩
     refine ⟨_,_,rfl,hP,?_⟩; clear hP hM
     refine lm ?_
     refine li rfl (opK0 (fun w hM=>(qOfferG bs32 A132 c132 l bg st k Am m cm rc dn se32 sd An needs cn Ao offs co A232 c232 nm32 om32 S2 w (hM.keep0 (j:=0) rfl (fun _ h=>h)) (hM.keep0 (j:=2) rfl (fun _ h=>h)) (hM.keep0 (j:=5) rfl (fun _ h=>h)) (hM.keep0 (j:=7) rfl (fun _ h=>cRw_row h)) (by have h9:=hI.l2; omega) (by have h9:=asc_sub_len hI.ao hI.of; omega)).mono ?_))
     rintro e w' ⟨B50,cb50,rfl,hP⟩
     refine ⟨_,_,rfl,hP,?_⟩; clear hP hM
     refine lm ?_
     refine li rfl (opK0 (fun w hM=>(qDone bs32 (vL A132 l c132) (.bool bg) (vI st) (vI k) (vL Am m cm) (.bool rc) (vP se32 0) (.bool sd) (vL An needs cn) (vL Ao offs co) dn w (hM.keep0 (j:=0) rfl (fun _ h=>h))).mono ?_))
     rintro e w' ⟨rfl,hP⟩
     refine ⟨_,_,rfl,hP,?_⟩; clear hP hM
     iterate 3 refine la ?_
     refine liNil (qThen (stSeq ?_))
     dsimp only [setAll,List.set,List.cons_append,List.nil_append]
     refine reg (la ?_)
     refine liNil (qThen (stCut (ι:=Int × Nat × Nat × (Option Addr) × (List UInt8) × Nat × Bool × Bool × Bool × (Option Addr) × (List (List UInt8)) × Nat × (Option Addr) × (List (List UInt8)) × Nat × (List (List UInt8)) × (List (List UInt8))) (fun (z,st',k',Am',m',cm',rc',dn',sd',An',needs',cn',Ao',offs',co',S',S2')=>SInv l (i+1) st' k' sd' needs' offs' S' S2'∧(dn=true→dn'=true)∧(z≠0→needV sd' needs' S'=needV sd needs S∧needV sd' offs' S2'=needV sd offs S2∧dn'=dn)) (fun (z,st',k',Am',m',cm',rc',dn',sd',An',needs',cn',Ao',offs',co',S',S2')=>[(0,(vL A l c)),(6,(.bool false)),(7,(vP bs32 0)),(37,(vL AM acts cA)),(38,(vI acts.length)),(39,(vI i)),(10,(vP b10 0)),(11,(vL B48 (needV sd needs S) cb48)),(12,(vL B50 (needV sd offs S2) cb50)),(13,(.bool dn)),(14,(.int .i64 z))]) (fun (z,st',k',Am',m',cm',rc',dn',sd',An',needs',cn',Ao',offs',co',S',S2')=>[cAt bs32 101 [(vL A132 l c132),(.bool bg),(vI st'),(vI k'),(vL Am' m' cm'),(.bool rc'),(.bool dn'),(vP se32 0),(.bool sd'),(vL An' needs' cn'),(vL Ao' offs' co')],cS A132 l c132,cAt se32 149 [(vL A232 l c232),(vI 4),(vI 4),(.map (some nm32)),(.map (some om32))],cS A232 l c232,cSet nm32 (S'),cSet om32 (S2'),cRw An' (SS needs'),cRw Ao' (SS offs'),cAt b10 54 [(.bool x0.nx),(.int .i64 x0.b),(vL x0.A x0.D (x0.c))],cS B48 (needV sd needs S) cb48,cS B50 (needV sd offs S2) cb50]) ?_ ?_))
     ·refine stSeq (reg (lc (vP b10 0) ?_))
      refine ll 8 ?_
      refine liNil (qThen (stCond rfl (fun hc54=>?_) (fun hc54=>?_)))
      ·refine reg (lm ?_)
       refine lc (vP b10 1) ?_
       refine ll 8 ?_
       refine li rfl (opK [0] _ (fun w hM hO=>(qNextG bs32 A132 c132 l bg st k Am m cm rc dn se32 sd An needs cn Ao offs co x0.b w hO (hI.le)).mono ?_))
       rintro e w' ⟨x59,z59,st259,Am259,m259,cm259,rfl,hP,hst59⟩
       refine ⟨_,[_],_,rfl,hP,rfl,?_⟩; clear hP hM hO
       refine lm ?_
       refine lc x59 ?_
       refine lc (.int .i64 z59) ?_
       refine la ?_
       exact liNil (qThen (sM (z59,st259,k,Am259,m259,cm259,rc,dn,sd,An,needs,cn,Ao,offs,co,S,S2) (⟨hI.go hst59.1 (fun h=>by have h9:=hI.set h; have h8:=hst59.2; omega),id,fun _=>⟨rfl,rfl,rfl⟩⟩) (fun _ h=>h)))
      ·refine reg (lm ?_)
       refine lc (vP b10 2) ?_
       refine ll 8 ?_
       refine li rfl (opK [0,4,5,6,7] _ (fun w hM hO=>(qReceiveG bs32 A132 c132 l bg st k Am m cm rc dn se32 sd An needs cn Ao offs co A232 c232 nm32 om32 S S2 x0.A x0.c x0.D i w hO (r0.goS hM [0,4,5,6,7]) (hM.keepS [0,4,5,6,7] (j:=1) rfl (fun _ h=>RowIn.of_own h)) (rsm.goS hM [0,4,5,6,7]) (((hM.keepS [0,4,5,6,7] (j:=2) rfl (fun _ h=>h)).and (hM.keepS [0,4,5,6,7] (j:=3) rfl (fun _ h=>RowIn.of_own h))).imp (fun _ h=>⟨h.1,h.2⟩)) (hI) (by omega) (hset) (h40) (hcap) (by omega)).mono ?_))
       rintro e w' ⟨z65,st265,k265,Am265,m265,cm265,rc265,dn265,sd265,An265,needs265,cn265,Ao265,offs265,co265,S965,T965,rfl,hP,hhI65,hhd65,hhz65⟩
       refine ⟨_,[_,_,_,_,_],_,rfl,hP,rfl,?_⟩; clear hP hM hO
       refine la ?_
       exact liNil (qThen (sM (z65,st265,k265,Am265,m265,cm265,rc265,dn265,sd265,An265,needs265,cn265,Ao265,offs265,co265,S965,T965) (⟨hhI65,hhd65,hhz65⟩) (fun _ h=>h)))
     ·rintro ⟨z,st',k',Am',m',cm',rc',dn',sd',An',needs',cn',Ao',offs',co',S',S2'⟩ ⟨hI2,hdn2,hz2⟩
      dsimp only
      have hlO2:=(hI2.setO hset h40).2; have hlN2:=hI2.lenN (by omega)
      refine stCut (ι:=Unit) (fun _=>True) (fun _=>[(0,(vL A l c)),(6,(.bool false)),(7,(vP bs32 0)),(37,(vL AM acts cA)),(38,(vI acts.length)),(39,(vI i))]) (fun _=>[cAt bs32 101 [(vL A132 l c132),(.bool bg),(vI st'),(vI k'),(vL Am' m' cm'),(.bool rc'),(.bool dn'),(vP se32 0),(.bool sd'),(vL An' needs' cn'),(vL Ao' offs' co')],cS A132 l c132,cAt se32 149 [(vL A232 l c232),(vI 4),(vI 4),(.map (some nm32)),(.map (some om32))],cS A232 l c232,cSet nm32 (S'),cSet om32 (S2'),cRw An' (SS needs'),cRw Ao' (SS offs')]) ?_ ?_
      ·refine stSeq (reg (lm ?_))
       refine lc (.bool ((z:Int) != 0)) ?_
       refine lm ?_
       refine St.dec 68 rfl (fun hc68=>?_) (fun hc68=>?_)
       ·obtain ⟨e1,e2,e3⟩:=hz2 (by simpa using hc68)
        refine lgm ?_
        refine lgm ?_
        refine liGo rfl rfl ?_
        refine opK0 (fun w hM=>(qNeedG bs32 A132 c132 l bg st' k' Am' m' cm' rc' dn' se32 sd' An' needs' cn' Ao' offs' co' A232 c232 nm32 om32 S' w (hM.keep0 (j:=0) rfl (fun _ h=>h)) (hM.keep0 (j:=2) rfl (fun _ h=>h)) (hM.keep0 (j:=4) rfl (fun _ h=>h)) (hM.keep0 (j:=6) rfl (fun _ h=>cRw_row h)) (by have h9:=hI2.l1; omega) (by have h9:=hI2.ln; omega)).mono ?_)
        rintro e w' ⟨B71,cb71,rfl,hP⟩
        refine ⟨_,_,rfl,hP,?_⟩; clear hP hM
        refine liGo rfl rfl ?_
        refine opK0 (fun w hM=>(qsSame_any B48 cb48 (needV sd needs S) B71 cb71 (needV sd' needs' S') w (hM.keep0 (j:=9) rfl (fun _ h=>RowIn.of_own h)) (hM.keep0 (j:=11) rfl (fun _ h=>RowIn.of_own h)) (by omega) (by omega)).mono ?_)
        rintro e w' ⟨rfl,hP⟩
        refine ⟨_,_,rfl,hP,?_⟩; clear hP hM
        refine lgc (.bool (!(decide ((needV sd needs S)=(needV sd' needs' S'))))) ?_
        refine lgm ?_
        refine St.known 74 (b':=false) rfl (by rw [e1]; simp) ?_
        refine lgm ?_
        refine lgm ?_
        refine liGo rfl rfl ?_
        refine opK0 (fun w hM=>(qOfferG bs32 A132 c132 l bg st' k' Am' m' cm' rc' dn' se32 sd' An' needs' cn' Ao' offs' co' A232 c232 nm32 om32 S2' w (hM.keep0 (j:=0) rfl (fun _ h=>h)) (hM.keep0 (j:=2) rfl (fun _ h=>h)) (hM.keep0 (j:=5) rfl (fun _ h=>h)) (hM.keep0 (j:=7) rfl (fun _ h=>cRw_row h)) (by have h9:=hI2.l2; omega) (by have h9:=asc_sub_len hI2.ao hI2.of; omega)).mono ?_)
        rintro e w' ⟨B77,cb77,rfl,hP⟩
        refine ⟨_,_,rfl,hP,?_⟩; clear hP hM
        refine liGo rfl rfl ?_
        refine opK0 (fun w hM=>(qsSame_any B50 cb50 (needV sd offs S2) B77 cb77 (needV sd' offs' S2') w (hM.keep0 (j:=10) rfl (fun _ h=>RowIn.of_own h)) (hM.keep0 (j:=12) rfl (fun _ h=>RowIn.of_own h)) (by omega) (by omega)).mono ?_)
        rintro e w' ⟨rfl,hP⟩
        refine ⟨_,_,rfl,hP,?_⟩; clear hP hM
        refine lgc (.bool (!(decide ((needV sd offs S2)=(needV sd' offs' S2'))))) ?_
        refine lgc (.bool (!(decide ((needV sd offs S2)=(needV sd' offs' S2'))))) ?_
        refine lgm ?_
        refine St.known 81 (b':=false) rfl (by rw [e2]; simp) ?_
        refine lgm ?_
        refine lgm ?_
        refine liGo rfl rfl ?_
        refine opK0 (fun w hM=>(qDone bs32 (vL A132 l c132) (.bool bg) (vI st') (vI k') (vL Am' m' cm') (.bool rc') (vP se32 0) (.bool sd') (vL An' needs' cn') (vL Ao' offs' co') dn' w (hM.keep0 (j:=0) rfl (fun _ h=>h))).mono ?_)
        rintro e w' ⟨rfl,hP⟩
        refine ⟨_,_,rfl,hP,?_⟩; clear hP hM
        refine lgc (.bool !(dn == dn')) ?_
        refine lgc (.bool !(dn == dn')) ?_
        refine lc (.bool !(dn == dn')) ?_
        refine lm ?_
        refine St.known 88 (b':=false) rfl (by rw [e3]; simp) ?_
        refine lgm ?_
        refine lgm ?_
        refine St.dec 90 rfl (fun hc90=>?_) (fun hc90=>?_)
        ·have hd9:=hdn2 (by simpa using hc90)
         refine lgm ?_
         refine liGo rfl rfl ?_
         refine opK0 (fun w hM=>(qDone bs32 (vL A132 l c132) (.bool bg) (vI st') (vI k') (vL Am' m' cm') (.bool rc') (vP se32 0) (.bool sd') (vL An' needs' cn') (vL Ao' offs' co') dn' w (hM.keep0 (j:=0) rfl (fun _ h=>h))).mono ?_)
         rintro e w' ⟨rfl,hP⟩
         refine ⟨_,_,rfl,hP,?_⟩; clear hP hM
         dsimp only [setAll,List.set,List.cons_append,List.nil_append]
         refine lgc (.bool (!dn')) ?_
         refine lgc (.bool (!dn')) ?_
         refine lc (.bool (!dn')) ?_
         refine liNil (qThen (stCond rfl (fun hc95=>?_) (fun hc95=>?_)))
         ·exact absurd hc95 (by rw [hd9]; simp)
         ·exact stSkip (qThen (sM () (trivial) (fun _ h=>h.pick [0,1,2,3,4,5,6,7] rfl rfl)))
        ·refine lnF ?_
         refine lnF ?_
         refine lnF ?_
         refine lgc (.bool false) ?_
         refine lc (.bool false) ?_
         refine liNil (qThen (stFalse rfl (stSkip (qThen ?_))))
         exact sM () (trivial) (fun _ h=>h.pick [0,1,2,3,4,5,6,7] rfl rfl)
       ·refine lnF ?_
        iterate 5 refine lnF ?_
        iterate 5 refine lnU ?_
        refine lnF ?_
        refine lnF ?_
        iterate 4 refine lnU ?_
        refine lnF ?_
        refine lc (.bool false) ?_
        refine lm ?_
        refine lgm ?_
        refine lgm ?_
        refine St.dec 90 rfl (fun hc90=>?_) (fun hc90=>?_)
        ·have hd9:=hdn2 (by simpa using hc90)
         refine lgm ?_
         refine liGo rfl rfl ?_
         refine opK0 (fun w hM=>(qDone bs32 (vL A132 l c132) (.bool bg) (vI st') (vI k') (vL Am' m' cm') (.bool rc') (vP se32 0) (.bool sd') (vL An' needs' cn') (vL Ao' offs' co') dn' w (hM.keep0 (j:=0) rfl (fun _ h=>h))).mono ?_)
         rintro e w' ⟨rfl,hP⟩
         refine ⟨_,_,rfl,hP,?_⟩; clear hP hM
         refine lgc (.bool (!dn')) ?_
         refine lgc (.bool (!dn')) ?_
         refine lc (.bool (!dn')) ?_
         refine liNil (qThen (stCond rfl (fun hc95=>?_) (fun hc95=>?_)))
         ·exact absurd hc95 (by rw [hd9]; simp)
         ·exact stSkip (qThen (sM () (trivial) (fun _ h=>h.pick [0,1,2,3,4,5,6,7] rfl rfl)))
        ·refine lnF ?_
         refine lnF ?_
         refine lnF ?_
         refine lgc (.bool false) ?_
         refine lc (.bool false) ?_
         refine liNil (qThen (stFalse rfl (stSkip (qThen ?_))))
         exact sM () (trivial) (fun _ h=>h.pick [0,1,2,3,4,5,6,7] rfl rfl)
      ·rintro _ -
       show St _ _ _ [(0,(vL A l c)),(6,(.bool false)),(7,(vP bs32 0)),(37,(vL AM acts cA)),(38,(vI acts.length)),(39,(vI i))] [cAt bs32 101 [(vL A132 l c132),(.bool bg),(vI st'),(vI k'),(vL Am' m' cm'),(.bool rc'),(.bool dn'),(vP se32 0),(.bool sd'),(vL An' needs' cn'),(vL Ao' offs' co')],cS A132 l c132,cAt se32 149 [(vL A232 l c232),(vI 4),(vI 4),(.map (some nm32)),(.map (some om32))],cS A232 l c232,cSet nm32 (S'),cSet om32 (S2'),cRw An' (SS needs'),cRw Ao' (SS offs')] _
       refine stSeq (stSeq (reg (lm ?_)))
       refine li rfl (opK0 (fun w hM=>(qNeedG bs32 A132 c132 l bg st' k' Am' m' cm' rc' dn' se32 sd' An' needs' cn' Ao' offs' co' A232 c232 nm32 om32 S' w (hM.keep0 (j:=0) rfl (fun _ h=>h)) (hM.keep0 (j:=2) rfl (fun _ h=>h)) (hM.keep0 (j:=4) rfl (fun _ h=>h)) (hM.keep0 (j:=6) rfl (fun _ h=>cRw_row h)) (by have h9:=hI2.l1; omega) (by have h9:=hI2.ln; omega)).mono ?_))
       rintro e w' ⟨B97,cb97,rfl,hP⟩
       refine ⟨_,_,rfl,hP,?_⟩; clear hP hM
       refine lc (vI ((needV sd' needs' S').length)) ?_
       refine lm ?_
       refine liNil (qThen (stBlock (sL (fun j=>j≤(needV sd' needs' S').length) (fun j=>(needV sd' needs' S').length - j) (fun j=>[(0,(vL A l c)),(6,(.bool false)),(7,(vP bs32 0)),(37,(vL AM acts cA)),(38,(vI acts.length)),(39,(vI i)),(97,(vL B97 (needV sd' needs' S') cb97)),(98,(vI ((needV sd' needs' S').length))),(99,(vI j))]) (fun j=>[cAt bs32 101 [(vL A132 l c132),(.bool bg),(vI st'),(vI k'),(vL Am' m' cm'),(.bool rc'),(.bool dn'),(vP se32 0),(.bool sd'),(vL An' needs' cn'),(vL Ao' offs' co')],cS A132 l c132,cAt se32 149 [(vL A232 l c232),(vI 4),(vI 4),(.map (some nm32)),(.map (some om32))],cS A232 l c232,cSet nm32 (S'),cSet om32 (S2'),cRw An' (SS needs'),cRw Ao' (SS offs'),cS B97 (needV sd' needs' S') cb97]) 0 (Nat.zero_le _) (fun _ h=>h) ?_)))
       intro j hj
       show St _ _ _ [(0,(vL A l c)),(6,(.bool false)),(7,(vP bs32 0)),(37,(vL AM acts cA)),(38,(vI acts.length)),(39,(vI i)),(97,(vL B97 (needV sd' needs' S') cb97)),(98,(vI ((needV sd' needs' S').length))),(99,(vI j))] [cAt bs32 101 [(vL A132 l c132),(.bool bg),(vI st'),(vI k'),(vL Am' m' cm'),(.bool rc'),(.bool dn'),(vP se32 0),(.bool sd'),(vL An' needs' cn'),(vL Ao' offs' co')],cS A132 l c132,cAt se32 149 [(vL A232 l c232),(vI 4),(vI 4),(.map (some nm32)),(.map (some om32))],cS A232 l c232,cSet nm32 (S'),cSet om32 (S2'),cRw An' (SS needs'),cRw Ao' (SS offs'),cS B97 (needV sd' needs' S') cb97] _
       refine stSeq (reg (lc (.bool (decide (((j:Nat):Int) < (((needV sd' needs' S').length:Nat):Int)))) ?_))
       refine liNil (qThen (stSeq (stCond rfl (fun hc100=>?_) (fun hc100=>?_))))
       ·have hd100:=of_decide_eq_true hc100
        refine stSkip (qThen (stSeq (stBlock (stSeq (reg ?_)))))
        obtain ⟨x1,hx1⟩:∃ ξ,(needV sd' needs' S')[j]?=some ξ:=⟨_,List.getElem?_eq_getElem (by omega)⟩
        refine St.rowPtr (fun w hM=>rowOwn (i:=8) rfl w hM) (SS_at hx1) (fun p101 q101 hA101 hc101=>?_)
        refine lv (v:=(vP p101 (q101+j))) (rR 9 hA101) ?_
        refine lv (rW hc101) ?_
        have hxn:=hI2.need _ (List.mem_of_getElem? hx1)
        refine la ?_
        refine liNil (qThen (stSeq (reg (lm ?_))))
        refine lm ?_
        refine li rfl (opK0 (fun w hM=>(qHas A c l x1 w (r1.go0 hM) (by omega)).mono ?_))
        rintro e w' ⟨rfl,hP⟩
        refine ⟨_,_,rfl,hP,?_⟩; clear hP hM
        refine liNil (qThen (stFalseK rfl (by simpa using hxn.1) ?_))
        refine stSkip (qBlock (qThen (reg ?_)))
        refine lv (v:=(vI (j+1))) rAd ?_
        refine lm ?_
        exact liNil (qThen (sA (j+1) (by show _≤_; omega) (by show (needV sd' needs' S').length - (j+1) < (needV sd' needs' S').length - j; omega) (fun w hM=>hM)))
       ·have hd100:=of_decide_eq_false hc100
        refine stExit (qThenX (qThenX (qBlockX (qThen (stSeq (reg ?_))))))
        refine lm ?_
        refine li rfl (opK0 (fun w hM=>(qOfferG bs32 A132 c132 l bg st' k' Am' m' cm' rc' dn' se32 sd' An' needs' cn' Ao' offs' co' A232 c232 nm32 om32 S2' w (hM.keep0 (j:=0) rfl (fun _ h=>h)) (hM.keep0 (j:=2) rfl (fun _ h=>h)) (hM.keep0 (j:=5) rfl (fun _ h=>h)) (hM.keep0 (j:=7) rfl (fun _ h=>cRw_row h)) (by have h9:=hI2.l2; omega) (by have h9:=asc_sub_len hI2.ao hI2.of; omega)).mono ?_))
        rintro e w' ⟨B108,cb108,rfl,hP⟩
        refine ⟨_,_,rfl,hP,?_⟩; clear hP hM
        refine lc (vI ((needV sd' offs' S2').length)) ?_
        refine lm ?_
        refine liNil (qThen (stBlock (sL (fun j=>j≤(needV sd' offs' S2').length) (fun j=>(needV sd' offs' S2').length - j) (fun j=>[(0,(vL A l c)),(6,(.bool false)),(7,(vP bs32 0)),(37,(vL AM acts cA)),(38,(vI acts.length)),(39,(vI i)),(108,(vL B108 (needV sd' offs' S2') cb108)),(109,(vI ((needV sd' offs' S2').length))),(110,(vI j))]) (fun j=>[cAt bs32 101 [(vL A132 l c132),(.bool bg),(vI st'),(vI k'),(vL Am' m' cm'),(.bool rc'),(.bool dn'),(vP se32 0),(.bool sd'),(vL An' needs' cn'),(vL Ao' offs' co')],cS A132 l c132,cAt se32 149 [(vL A232 l c232),(vI 4),(vI 4),(.map (some nm32)),(.map (some om32))],cS A232 l c232,cSet nm32 (S'),cSet om32 (S2'),cRw An' (SS needs'),cRw Ao' (SS offs'),cS B97 (needV sd' needs' S') cb97,cS B108 (needV sd' offs' S2') cb108]) 0 (Nat.zero_le _) (fun _ h=>h) ?_)))
        intro j hj
        show St _ _ _ [(0,(vL A l c)),(6,(.bool false)),(7,(vP bs32 0)),(37,(vL AM acts cA)),(38,(vI acts.length)),(39,(vI i)),(108,(vL B108 (needV sd' offs' S2') cb108)),(109,(vI ((needV sd' offs' S2').length))),(110,(vI j))] [cAt bs32 101 [(vL A132 l c132),(.bool bg),(vI st'),(vI k'),(vL Am' m' cm'),(.bool rc'),(.bool dn'),(vP se32 0),(.bool sd'),(vL An' needs' cn'),(vL Ao' offs' co')],cS A132 l c132,cAt se32 149 [(vL A232 l c232),(vI 4),(vI 4),(.map (some nm32)),(.map (some om32))],cS A232 l c232,cSet nm32 (S'),cSet om32 (S2'),cRw An' (SS needs'),cRw Ao' (SS offs'),cS B97 (needV sd' needs' S') cb97,cS B108 (needV sd' offs' S2') cb108] _
        refine stSeq (reg (lc (.bool (decide (((j:Nat):Int) < (((needV sd' offs' S2').length:Nat):Int)))) ?_))
        refine liNil (qThen (stSeq (stCond rfl (fun hc111=>?_) (fun hc111=>?_))))
        ·have hd111:=of_decide_eq_true hc111
         refine stSkip (qThen (stSeq (stBlock (stSeq (reg ?_)))))
         obtain ⟨x1,hx1⟩:∃ ξ,(needV sd' offs' S2')[j]?=some ξ:=⟨_,List.getElem?_eq_getElem (by omega)⟩
         refine St.rowPtr (fun w hM=>rowOwn (i:=9) rfl w hM) (SS_at hx1) (fun p112 q112 hA112 hc112=>?_)
         refine lv (v:=(vP p112 (q112+j))) (rR 9 hA112) ?_
         refine lv (rW hc112) ?_
         have hxo:=hI2.off _ (List.mem_of_getElem? hx1)
         refine la ?_
         refine liNil (qThen (stSeq (reg (lm ?_))))
         refine lm ?_
         refine li rfl (opK0 (fun w hM=>(qHas A c l x1 w (r1.go0 hM) (by omega)).mono ?_))
         rintro e w' ⟨rfl,hP⟩
         refine ⟨_,_,rfl,hP,?_⟩; clear hP hM
         refine lc (.bool (!(l.contains x1))) ?_
         refine liNil (qThen (stFalseK rfl (by simpa using hxo) ?_))
         refine stSkip (qBlock (qThen (reg ?_)))
         refine lv (v:=(vI (j+1))) rAd ?_
         refine lm ?_
         exact liNil (qThen (sA (j+1) (by show _≤_; omega) (by show (needV sd' offs' S2').length - (j+1) < (needV sd' offs' S2').length - j; omega) (fun w hM=>hM)))
        ·have hd111:=of_decide_eq_false hc111
         refine stExit (qThenX (qThenX (qBlockX (qBlock (qThen (reg ?_))))))
         refine lv (v:=(vI (i+1))) rAd ?_
         refine lm ?_
         exact liNil (qThen (sA (i+1,st',k',Am',m',cm',rc',dn',sd',An',needs',cn',Ao',offs',co',S',S2') (⟨by omega,hI2⟩) (by show acts.length - (i+1) < acts.length - i; omega) (fun w hM=>(hM.pick [0,1,2,3,4,5,6,7] rfl rfl))))
   ·have hd40:=of_decide_eq_false hc40
    refine stExit (qThenX (qThenX (qBlockX (qThen (stSeq ?_)))))
    have hlO:=(hI.setO hset h40).2; have hlN:=hI.lenN (by omega)
    refine reg (lm ?_)
    refine li rfl (opK0 (fun w hM=>(qNeedG bs32 A132 c132 l bg st k Am m cm rc dn se32 sd An needs cn Ao offs co A232 c232 nm32 om32 S w (hM.keep0 (j:=0) rfl (fun _ h=>h)) (hM.keep0 (j:=2) rfl (fun _ h=>h)) (hM.keep0 (j:=4) rfl (fun _ h=>h)) (hM.keep0 (j:=6) rfl (fun _ h=>cRw_row h)) (by have h9:=hI.l1; omega) (by have h9:=hI.ln; omega)).mono ?_))
    rintro e w' ⟨B121,cb121,rfl,hP⟩
    refine ⟨_,_,rfl,hP,?_⟩; clear hP hM
    refine li rfl (opK0 (fun w hM=>(rsSet_any B121 cb121 (needV sd needs S) w (hM.keep0 (j:=8) rfl (fun _ h=>RowIn.of_own h)) (by omega)).mono ?_))
    rintro e w' ⟨rfl,hP⟩
    refine ⟨_,_,rfl,hP,?_⟩; clear hP hM
    refine lc (.bool (((setE (needV sd needs S)):Int) == 0)) ?_
    refine lm ?_
    refine St.known 124 (b':=true) rfl (by rw [hI.setN (by omega)]; rfl) ?_
    refine lgm ?_
    refine liGo rfl rfl ?_
    refine opK0 (fun w hM=>(qOfferG bs32 A132 c132 l bg st k Am m cm rc dn se32 sd An needs cn Ao offs co A232 c232 nm32 om32 S2 w (hM.keep0 (j:=0) rfl (fun _ h=>h)) (hM.keep0 (j:=2) rfl (fun _ h=>h)) (hM.keep0 (j:=5) rfl (fun _ h=>h)) (hM.keep0 (j:=7) rfl (fun _ h=>cRw_row h)) (by have h9:=hI.l2; omega) (by have h9:=asc_sub_len hI.ao hI.of; omega)).mono ?_)
    rintro e w' ⟨B126,cb126,rfl,hP⟩
    refine ⟨_,_,rfl,hP,?_⟩; clear hP hM
    refine liGo rfl rfl ?_
    refine opK0 (fun w hM=>(rsSet_any B126 cb126 (needV sd offs S2) w (hM.keep0 (j:=9) rfl (fun _ h=>RowIn.of_own h)) (by omega)).mono ?_)
    rintro e w' ⟨rfl,hP⟩
    refine ⟨_,_,rfl,hP,?_⟩; clear hP hM
    refine lgc (.bool (((setE (needV sd offs S2)):Int) == 0)) ?_
    refine lc (.bool (((setE (needV sd offs S2)):Int) == 0)) ?_
    refine la ?_
    refine liNil (qThen (stRet (sN [(.bool (((setE (needV sd offs S2)):Int) == 0))] fun w hM=>?_)))
    exact ⟨by rw [(hI.setO hset h40).1]; rfl,(hM.pick [] rfl rfl)⟩
section
open Go.ChangeShapes Go.WideShapes Go.ChangeAt Go.RowKit
theorem trodAll_stays {H:Type} {enc:TypeId × Value→H} {P:Program} (hl:laidOutB P=true) {W W':World} (hb:Below W.heap.size W W') :
  ∀ (ts:List TypeId) (vs:List Value) (ds:List (DataW H)) (ps:List MemPlace),(∀ t∈ts,P.readableRec t=true∧t < P.types.size)→(∀ p∈ps,p.block < W.heap.size) →
    DataW.TrodAll enc P W 0 (fun _=>true) true ts vs ds ps→DataW.TrodAll enc P W' 0 (fun b=>decide (b < W.heap.size)) true ts vs ds ps:=by
 intro ts
 induction ts with
 | nil =>
   intro vs ds ps _ _ h
   obtain ⟨rfl,rfl,rfl⟩:=trodAll_nil h
   exact trodAll_mk0
 | cons t ts ih =>
   intro vs ds ps hr hp h
   obtain ⟨v,vs',d,ds',p,q,rfl,rfl,rfl,h1,h2⟩:=trodAll_cons h
   refine trodAll_cons_mk (WideElems.Trod_stays hl (hr t (by simp)).1 (hr t (by simp)).2 h1 (fun x hx=>hb.same (hp x (by simp [hx]))) (fun x hx=>by simpa using hp x (by simp [hx]))) (ih vs' ds' q (fun t ht=>hr t (by simp [ht])) (fun x hx=>hp x (by simp [hx])) h2)
theorem post_law {H:Type} {enc:TypeId × Value→H} {P:Program} {f:Func} {s:ChangeSpec} {W W':World} {args:Array Value} {ds gs:List (DataW H)} {before:List MemPlace}
  (hl:laidOutB P=true) (hr:f.params.toList.all (fun t=>P.readableRec t && decide (t < P.types.size))=true) (hv:s.vars=[])
  (hW:DataW.Whole enc P f.params.toList s.vars false W args.toList ds gs before)
  (hs:(s.fn H ds).results=[.lit (.bool true)]∧(s.fn H ds).args=ds∧(s.fn H ds).vars=[])
  (hres:∀ (b:Nat),DataW.TrodAll enc P W' b (fun _=>false) false f.resultTypes.toList ((Value.bool true).resultList f.resultTypes.size) [.lit (.bool true)] [])
  (hb:Below W.heap.size W W'):s.post enc P f false true false false W args (.bool true) W':=by
 have hlt:∀ p∈before,p.block < W.heap.size:=fun p hp=>hW.lt p hp
 obtain ⟨p,q,hA,hV,rfl,hfz,hnd⟩:=id hW
 rw [hv] at hV
 obtain ⟨rfl,rfl⟩:=trodVars_none hV
 have hA':=trodAll_stays hl hb f.params.toList args.toList ds p (fun t ht=>by
  have:=List.all_eq_true.1 hr t ht
  simpa using this) (fun x hx=>hlt x (by simp [hx])) hA
 refine ⟨ds,[],p++[],[],p,[],hW,?_,?_,?_,?_,fun h=>by cases h⟩
 ·rw [List.append_nil,hs.1]; exact hres _
 ·rw [List.append_nil,hs.2.1]; exact hA'
 ·rw [List.append_nil,hs.2.2,hv]; rfl
 ·exact hb.frame _
open Go.ChangeShapes Go.WideShapes Go.ChangeAt Go.RowKit
theorem wf_u8 {n:Int} (h:(Lit.int .u8 n).wf=true):0≤n∧n≤255:=by
 simpa [Lit.wf,IntKind.min,IntKind.max,IntKind.signed,IntKind.bits] using h
theorem spot_none {w:World} {a:Addr} {v:Value} (h:w.cell? a=some v):a.spot=none:=by
 unfold World.cell? at h
 split at h
 ·split at h
  ·cases h
  ·rename_i hs
   cases he:a.spot with
   | none=>rfl
   | some x=>rw [he] at hs; exact absurd rfl hs
 ·cases h
theorem addr_add (b o j:Nat):(⟨b,o,none⟩:Addr).add j=⟨b,o+j,none⟩:=by
 unfold Addr.add
 split
 ·simp_all
 ·rfl
theorem cell_lt {w:World} {b o:Nat} {v:Value} (h:w.cell? ⟨b,o,none⟩=some v):b < w.heap.size:=World.block_lt_of_cell? w ⟨b,o,none⟩ h
section
variable {H : Type} {enc : TypeId × Value → H} {P : Program} {W : World}
theorem open_rows {t e:TypeId} {base:Nat} {v:Value} {d:DataW H} {p:List MemPlace} (C:Nat) (hC0:0 < C) (ht:P.underlying t=some (.slice e)) (hC:P.cellsOf e=C) (hv:Value.okWide P W .any base t v)
  (h:DataW.Trod enc P W 0 (fun _=>true) true t v d p) :
  ∃ (A:Option Addr) (n cap:Nat),v = .slice A n cap∧n≤cap∧cap≤maxLen ∧
    (0 < n→∃ b o,A=some ⟨b,o,none⟩∧b < W.heap.size∧∀ i,i < n→∃ (cs:List Value) (f:Nat) (x:DataW H × List MemPlace),cs.length=C∧(∀ j,j < C→W.cell? ⟨b,o+i*C+j,none⟩=cs[j]?)∧DataW.trod enc P W 0 (fun _=>true) true f e cs=some x):=by
 obtain ⟨A,n,cap,rfl⟩:=okWide_slice ht hv
 obtain ⟨f,hf⟩:=h
 rcases Go.Deep.open_slice ht (by simpa [Value.cells] using hf) with ⟨h0,_⟩ | ⟨a,len,cap',m,n',D,Pl,hcs,_,hl,hm,hmm,_,hi⟩
 ·simp only [List.cons.injEq,Value.slice.injEq,and_true] at h0
  obtain ⟨rfl,rfl,rfl⟩:=h0
  exact ⟨none,0,0,rfl,Nat.le_refl _,Nat.zero_le _,fun h=>absurd h (by omega)⟩
 ·simp only [List.cons.injEq,Value.slice.injEq,and_true] at hcs
  obtain ⟨rfl,rfl,rfl⟩:=hcs
  simp only [if_true] at hmm
  have hrow:∀ i,i < n→∃ (cs:List Value) (x:DataW H × List MemPlace),cs.length=C∧(∀ j,j < C→W.cell? ((a.add (i*C)).add j)=cs[j]?)∧DataW.trod enc P W 0 (fun _=>true) true n' e cs=some x:=by
   intro i hin
   obtain ⟨cs',hc,ht'⟩:=hi i (by omega)
   rw [hC] at hc
   obtain ⟨_,hcl,hat⟩:=World.cells?_some hc
   exact ⟨cs',_,hcl,hat,ht'⟩
  refine ⟨_,n,cap,rfl,hl,hm,fun hn=>?_⟩
  obtain ⟨cs,x,hcl,hat,_⟩:=hrow 0 hn
  have h0:=hat 0 hC0
  rw [Nat.zero_mul,List.getElem?_eq_getElem (by omega)] at h0
  have ha0:(a.add 0).add 0=a:=by unfold Addr.add; simp
  rw [ha0] at h0
  obtain ⟨b,o,s⟩:=a
  have hs:=spot_none h0
  simp only at hs
  subst hs
  refine ⟨b,o,rfl,cell_lt h0,fun i hin=>?_⟩
  obtain ⟨cs,x,hcl,hat,ht'⟩:=hrow i hin
  refine ⟨cs,n',x,hcl,fun j hj=>?_,ht'⟩
  have:=hat j hj
  rwa [addr_add,addr_add] at this
end
end
section
open Go.ChangeShapes Go.WideShapes Go.ChangeAt Go.RowKit
theorem gInit : Tryz.prog.globalNamed "kinkeep/sha256.initial" = some 0 := by kernel_rfl
theorem gCons : Tryz.prog.globalNamed "kinkeep/sha256.constants" = some 1 := by kernel_rfl
theorem tInit:(Tryz.prog.globals[0]?).map (·.type)=some 201:=by kernel_rfl
theorem tCons:(Tryz.prog.globals[1]?).map (·.type)=some 232:=by kernel_rfl
def laid2 : List (String × DataW Unit) := [("kinkeep/sha256.initial", Rows.laid_kinkeep_sha256_initial), ("kinkeep/sha256.constants", Rows.laid_kinkeep_sha256_constants)]
theorem door_met (os:Os) (args:Array Value):laidMetH Tryz.prog laid2 ((World.doorLaid Tryz.prog 400 os).forCall (fun _ _=>0) ⟨#[],args,[]⟩).memory :=
 laidMetH_of_parts3 (fuel:=8) (laidMet_of_run' 8 (by kernel_rfl) (by kernel_rfl)) (by kernel_rfl) (by kernel_rfl)
theorem words_trod {enc:TypeId × Value→Unit} {W:World} {base:Nat} {spare:Nat→Bool} {held:Bool} {fuel:Nat} {t:TypeId} {n:Nat} {cs:List Value} {l:List Nat} {ps:List MemPlace} (ht:Tryz.prog.underlying t=some (.array n 200)) (h:DataW.trod enc Tryz.prog W base spare held fuel t cs=some (.agg (l.map fun k:Nat=>DataW.lit (Lit.int .u32 (k:Int))),ps)) :
  ∀ i x:Nat,l[i]?=some x→cs[i]?=some (.int .u32 (x:Int)):=by
 obtain ⟨xs,m,_,hx,_,hn,hel⟩:=DataW.trod_array ht h
 simp only [Prod.mk.injEq,DataW.agg.injEq] at hx
 have hc:Tryz.prog.cellsOf 200=1:=by kernel_rfl
 intro i x hi
 have hl:l.length=n:=by
  have:=congrArg List.length hx.1
  simp at this
  omega
 have hin:i < n:=by rw [← hl]; exact (List.getElem?_eq_some_iff.1 hi).1
 have h1:=hel i hin
 rw [List.getElem?_eq_getElem (by omega)] at h1
 obtain ⟨k,e1,e2,_⟩:=DataW.trod_int Tryz.underlying200 h1
 have h2:=congrArg (fun z=>z[i]?) hx.1
 simp only [List.getElem?_map,hi,Option.map_some] at h2
 rw [List.getElem?_eq_getElem (by omega)] at h2
 simp only [Option.map_some,Option.some.injEq] at h2
 rw [e2] at h2
 simp only [DataW.lit.injEq,Lit.int.injEq,true_and] at h2
 rw [hc,Nat.mul_one] at e1
 have h3:(List.take 1 (List.drop i cs))[0]?=some (.int .u32 k):=by rw [e1]; rfl
 rw [List.getElem?_take_of_lt (by omega),List.getElem?_drop,Nat.add_zero] at h3
 rw [h3,h2]
theorem vars_of_laid {W:World} (h:laidMetH Tryz.prog laid2 W):Vars W:=by
 rw [MakeChecks.laidMetH_plain _ _ _ (by kernel_rfl)] at h
 obtain ⟨ps,⟨g0,t0,cs0,f0,p0,q0,hg0,ht0,hv0,hd0,⟨g1,t1,cs1,f1,p1,q1,hg1,ht1,hv1,hd1,_,_⟩,_⟩,_,_⟩:=h
 obtain rfl:=Option.some.inj (gInit.symm.trans hg0)
 obtain rfl:=Option.some.inj (gCons.symm.trans hg1)
 obtain rfl:=Option.some.inj (tInit.symm.trans ht0)
 obtain rfl:=Option.some.inj (tCons.symm.trans ht1)
 refine ⟨fun i x hx=>?_,fun i x hx=>?_⟩
 ·rw [World.var?_cell hg0 hv0 i]
  have:=words_trod (l:=shaI) Tryz.underlying201 hd0 i x hx
  simpa using this
 ·rw [World.var?_cell hg1 hv1 i]
  have:=words_trod (l:=shaK) Tryz.underlying232 hd1 i x hx
  simpa using this
theorem str_eta (s:ByteArray):s=strOf s.data.toList:=by
 cases s
 simp [strOf]
end
section
open Go.ChangeShapes Go.WideShapes Go.ChangeAt Go.RowKit
section
variable {H : Type} {enc : TypeId × Value → H} {P : Program} {W : World}
theorem open_strs {t e:TypeId} {base:Nat} {v:Value} {d:DataW H} {p:List MemPlace} (ht:P.underlying t=some (.slice e)) (he:P.underlying e=some .string) (hC:P.cellsOf e=1) (hv:Value.okWide P W .any base t v)
  (h:DataW.Trod enc P W 0 (fun _=>true) true t v d p) :
  ∃ (A:Option Addr) (cap:Nat) (l:List (List UInt8)),v = .slice A l.length cap∧l.length≤9223372036854775807∧RowIn W A (SS l)∧l.length≤cap:=by
 obtain ⟨A,n,cap,rfl,hnc,hcm,hr⟩:=open_rows 1 (by omega) ht hC hv h
 have hmax:n≤9223372036854775807:=by unfold maxLen at hcm; omega
 rcases Nat.eq_zero_or_pos n with rfl | hn
 ·exact ⟨A,cap,[],rfl,Nat.zero_le _,(fun i x hx=>by simp at hx),Nat.zero_le _⟩
 ·obtain ⟨b,o,rfl,hb,hi⟩:=hr hn
  have hx:∀ i,i < n→∃ x:List UInt8,W.cell? ⟨b,o+i,none⟩=some (.string (strOf x)):=by
   intro i hin
   obtain ⟨cs,f,x,hl,hc,ht⟩:=hi i hin
   obtain ⟨a,ha,_⟩:=DataW.trod_string he ht
   have h0:=hc 0 (by omega)
   rw [Nat.mul_one,ha] at h0
   exact ⟨a.data.toList, by rw [← str_eta]; exact h0⟩
  let g:Nat→List UInt8:=fun i=>if h:i < n then Classical.choose (hx i h) else []
  have hgs:∀ i (hin:i < n),W.cell? ⟨b,o+i,none⟩=some (.string (strOf (g i))):=by
   intro i hin
   have hgi:g i=Classical.choose (hx i hin):=by simp only [g,hin,dif_pos]
   rw [hgi]
   exact Classical.choose_spec (hx i hin)
  refine ⟨some ⟨b,o,none⟩,cap,(List.range n).map g,by simp,by simp; omega,?_,by simpa using hnc⟩
  intro i u hu
  have hin:i < n:=by
   have:=(List.getElem?_eq_some_iff.1 hu).1
   simpa using this
  have hg:Value.string (strOf (g i))=u:=by simpa [hin] using hu
  exact ⟨b, o, rfl, hb, by rw [hgs i hin, hg]⟩
end
end
section
open Go.ChangeShapes Go.WideShapes Go.ChangeAt Go.RowKit
section
variable {H : Type} {enc : TypeId × Value → H} {P : Program} {W : World}
theorem open_u8 {e u:TypeId} {f:Nat} {c:Value} {x:DataW H × List MemPlace} (he:P.underlying e=some (.slice u)) (hu:P.underlying u=some (.int .u8)) (hC:P.cellsOf u=1)
  (h:DataW.trod enc P W 0 (fun _=>true) true f e [c]=some x):∃ (A:Option Addr) (cap:Nat) (bs:List UInt8),c = .slice A bs.length cap∧RowIn W A (B8 bs)∧bs.length≤cap:=by
 rcases Go.Deep.open_slice he h with ⟨h0,_⟩ | ⟨a,len,cap,m,n,D,Pl,hcs,_,hl,hm,hmm,_,hi⟩
 ·simp only [List.cons.injEq,and_true] at h0
  exact ⟨none,0,[],h0,(fun i u hu=>by simp [B8] at hu),Nat.le_refl _⟩
 ·simp only [List.cons.injEq,and_true] at hcs
  simp only [if_true] at hmm
  have hx:∀ i,i < len→∃ y:UInt8,W.cell? (a.add i)=some (.int .u8 ((y.toNat:Nat):Int)):=by
   intro i hin
   obtain ⟨cs',hc,ht⟩:=hi i (by omega)
   rw [hC,Nat.mul_one] at hc
   obtain ⟨_,hcl,hat⟩:=World.cells?_some hc
   match cs',hcl with
   | [y],_ =>
     obtain ⟨z,hz,_,wz⟩:=DataW.trod_int hu ht
     have h0:=hat 0 (by omega)
     rw [show (a.add i).add 0=a.add i by unfold Addr.add; simp] at h0
     simp only [List.cons.injEq,and_true] at hz
     obtain ⟨h1,h2⟩:=wf_u8 wz
     refine ⟨UInt8.ofNat z.toNat,?_⟩
     have h4:z.toNat % 256=z.toNat:=Nat.mod_eq_of_lt (by omega)
     have h3:(((UInt8.ofNat z.toNat).toNat:Nat):Int)=z:=by rw [UInt8.toNat_ofNat',show (2 ^ 8:Nat)=256 from rfl,h4]; omega
     rw [h0,hz,h3]
     rfl
  rcases Nat.eq_zero_or_pos len with rfl | hn
  ·exact ⟨_,cap,[],hcs,(fun i u hu=>by simp [B8] at hu),Nat.zero_le _⟩
  ·obtain ⟨y0,h0⟩:=hx 0 hn
   rw [show a.add 0=a by unfold Addr.add; simp] at h0
   obtain ⟨b,o,s⟩:=a
   have hs:=spot_none h0
   simp only at hs
   subst hs
   obtain ⟨g,hg⟩:=Go.Deep.choose_lt hx
   have hlen:((List.range len).map g).length=len:=by simp
   refine ⟨some ⟨b,o,none⟩,cap,(List.range len).map g,by rw [hlen]; exact hcs,fun i v hv=>?_,by rw [hlen]; exact hl⟩
   have hin:i < len:=by
    have:=(List.getElem?_eq_some_iff.1 hv).1
    simpa [B8] using this
   have h1:=hg i hin
   rw [addr_add] at h1
   refine ⟨b,o,rfl,cell_lt h0,?_⟩
   rw [h1,← hv]
   simp [B8,hin]
end
end
section
open Go.ChangeShapes Go.WideShapes Go.ChangeAt Go.RowKit
section
variable {H : Type} {enc : TypeId × Value → H} {P : Program} {W : World}
theorem open_boolC {t:TypeId} {base:Nat} {v:Value} (ht:P.underlying t=some .bool) (hv:Value.okWide P W .any base t v):∃ b:Bool,v = .bool b:=by
 obtain ⟨b,rfl⟩:=okWide_bool ht hv
 exact ⟨b,rfl⟩
theorem open_ac3 {e tn ti tb u:TypeId} {f:Nat} {cs:List Value} {x:DataW H × List MemPlace} {fs:Array Field} (he:P.underlying e=some (.struct fs)) (hn:P.underlying tn=some .bool) (hi:P.underlying ti=some (.int .i64)) (hb:P.underlying tb=some (.slice u)) (hu:P.underlying u=some (.int .u8)) (cu:P.cellsOf u=1)
  (c0:P.cellsOf tn=1) (c1:P.cellsOf ti=1) (c2:P.cellsOf tb=1)
  (hf:fs.toList.map (fun f=>(f.type,f.offset))=[(tn,0),(ti,1),(tb,2)]) (h:DataW.trod enc P W 0 (fun _=>true) true f e cs=some x) (hl:cs.length=3) :
  ∃ p:AcX,cs=acV p∧RowIn W p.A (B8 p.D):=by
 obtain ⟨xs,n,_,_,_,hxl,hg⟩:=DataW.trod_struct he h
 match cs,hl with
 | [v0,v1,v2],_ =>
   have hfs:fs.toList.length=3:=by have:=congrArg List.length hf; simpa using this
   match hfl:fs.toList,hfs with
   | [f0,f1,f2],_ =>
     rw [hfl] at hf
     simp only [List.map_cons,List.map_nil,List.cons.injEq,Prod.mk.injEq,and_true] at hf
     obtain ⟨⟨t0,o0⟩,⟨t1,o1⟩,⟨t2,o2⟩⟩:=hf
     have hx:∀ i,i < 3→∃ y,xs[i]?=some y:=fun i hi=>⟨xs[i]'(by rw [hxl,← Array.length_toList,hfl]; simpa using hi),List.getElem?_eq_getElem _⟩
     have g0:=hg 0 f0 (by rw [← Array.getElem?_toList,hfl]; rfl)
     have g1:=hg 1 f1 (by rw [← Array.getElem?_toList,hfl]; rfl)
     have g2:=hg 2 f2 (by rw [← Array.getElem?_toList,hfl]; rfl)
     obtain ⟨y0,e0⟩:=hx 0 (by omega)
     obtain ⟨y1,e1⟩:=hx 1 (by omega)
     obtain ⟨y2,e2⟩:=hx 2 (by omega)
     rw [t0,o0,c0,e0] at g0
     rw [t1,o1,c1,e1] at g1
     rw [t2,o2,c2,e2] at g2
     obtain ⟨b0,hb0,_⟩:=DataW.trod_bool hn g0
     obtain ⟨z1,hz1,_,_⟩:=DataW.trod_int hi g1
     obtain ⟨A2,cap2,bs,hb2,hr2,hc2⟩:=open_u8 (c:=v2) hb hu cu g2
     simp at hb0 hz1
     refine ⟨⟨b0,z1,A2,cap2,bs⟩,?_,hr2⟩
     rw [hb0,hz1,hb2]
     rfl
end
theorem open_acts {H:Type} {enc:TypeId × Value→H} {W:World} {base:Nat} {v:Value} {d:DataW H} {p:List MemPlace} (hv:Value.okWide Tryz.prog W .any base 42 v)
  (h:DataW.Trod enc Tryz.prog W 0 (fun _=>true) true 42 v d p):∃ (A:Option Addr) (cap:Nat) (l:List AcX),v = .slice A l.length cap∧l.length≤9223372036854775807∧RowIn W A (AX l)∧AcRows l W:=by
 obtain ⟨A,n,cap,rfl,hnc,hcm,hr⟩:=open_rows 3 (by omega) Tryz.underlying42 (by kernel_rfl) hv h
 have hmax:n≤9223372036854775807:=by unfold maxLen at hcm; omega
 rcases Nat.eq_zero_or_pos n with rfl | hn
 ·exact ⟨A,cap,[],rfl,Nat.zero_le _,(fun i x hx=>by simp at hx),(fun x hx=>by simp at hx)⟩
 ·obtain ⟨b,o,rfl,hb,hi⟩:=hr hn
  have hx:∀ i,i < n→∃ p:AcX,(∀ j u,(acV p)[j]?=some u→W.cell? ⟨b,o+i*3+j,none⟩=some u)∧RowIn W p.A (B8 p.D):=by
   intro i hin
   obtain ⟨cs,f,x,hl,hc,ht⟩:=hi i hin
   obtain ⟨p,rfl,h1⟩:=open_ac3 Tryz.underlying54 Tryz.underlying4 Tryz.underlying3 Tryz.underlying23 Tryz.underlying5 (by kernel_rfl) (by kernel_rfl) (by kernel_rfl) (by kernel_rfl) (by rfl) ht hl
   refine ⟨p,fun j u hu=>?_,h1⟩
   have hj:j < 3:=(List.getElem?_eq_some_iff.1 hu).1
   rw [hc j hj]
   exact hu
  haveI:Inhabited AcX:=⟨⟨false,0,none,0,[]⟩⟩
  obtain ⟨g,hg⟩:=Go.Deep.choose_lt hx
  have hgi:∀ i,i < n→((List.range n).map g)[i]?=some (g i):=fun i hi=>by simp [hi]
  refine ⟨some ⟨b,o,none⟩,cap,(List.range n).map g,by simp,by simp; omega,?_,?_⟩
  ·intro q u hu
   have hq:q < n*3:=by
    have:=(List.getElem?_eq_some_iff.1 hu).1
    rw [AX_length] at this
    simpa using this
   have hin:q / 3 < n:=by omega
   have hm5:q % 3 < 3:=Nat.mod_lt _ (by omega)
   obtain ⟨c,hc⟩:∃ c,(acV (g (q / 3)))[q % 3]?=some c:=⟨_,List.getElem?_eq_getElem (by show q % 3 < 3; exact hm5)⟩
   have h1:=AX_at (hgi _ hin) (q % 3) c hc
   have e:q / 3*3+q % 3=q:=by omega
   rw [e,hu] at h1
   refine ⟨b,o,rfl,hb,?_⟩
   have h2:=(hg _ hin).1 (q % 3) c hc
   rw [Nat.add_assoc,e] at h2
   rw [h2,h1]
  ·intro x hx
   obtain ⟨i,hi',rfl⟩:=List.mem_map.1 hx
   exact (hg i (List.mem_range.1 hi')).2
end
end Go.Proofs.YtdflaaiondmjdaaGreatDoor
