/- Part 5 of a proof: what its row uses. -/
import Derived.Test.YtignomkdngnmgaaGreatDoorTk04
set_option maxRecDepth 100000
set_option maxHeartbeats 1000000
namespace Go.Proofs.YtignomkdngnmgaaGreatDoor
open Go.RowKit
theorem LC {pvs:List PV} {pv:PV} {L M:List (Option Addr × List Bs)} (h:∀ p∈pvs,∀ q∈p.c.rows,q∈L) (k:∀ q∈pv.c.rows,q∈M):∀ p∈pvs++[pv],∀ q∈p.c.rows,q∈L++M:=by
 intro p hp q hq
 rcases List.mem_append.1 hp with hp | hp
 ·exact List.mem_append_left _ (h p hp q hq)
 ·rw [List.mem_singleton.1 hp] at hq
  exact List.mem_append_right _ (k q hq)
theorem Wa (A:Option Addr) (c:Nat) (D:List UInt8) (ps:List AP) (w:World) (r0:Rf [] w (fun w=>aF w A (B8 D))) (hD:D.length≤1048576) (hd:jN D=some ps) :
  Calls Tryz.prog 60 #[(vL A D c)] w fun e w'=>∃ (R:Option Addr) (rc:Nat) (pvs:List PV) (L:List (Option Addr × List (List UInt8))),e = .returned (.tuple #[(vL R (pvs) rc),(vi 0)])∧aK [] w [cP R (pvs) rc,dF (L)] w'∧(pvs.map PV.abs=ps)∧(∀ p∈pvs,∀ q∈p.c.rows,q∈L):=by
 refine eH Tryz.func60 74 (Mm.start w []) rfl<|Nc<|lx rfl<|Ne<|lx rfl<|lk (vI D.length)<|lk (.bool (decide (((D.length:Nat):Int) > 1048576)))<|Na<|eF rfl (by have:=hD; simp; omega)<|Ni<|lx rfl<|Nx<|cF (fun w hM=>oR A c D w (r0.aO hM) om) fun X16 br16=>lx rfl<|Nb<|lx rfl<|lk (vI D.length)<|Nx<|uJ [0] (fun w hM hO=>Jh X16 br16 (Rd.mk D 0 0 0) D.length w hO om) fun n20 r220 heq20=>?_
 have hnl:n20≤D.length:=by have h:=(Rd.mk D 0 0 0).zE D.length; rw [heq20] at h; exact h
 refine lx rfl<|Ne<|lx rfl<|lk (.bool ((((n20:Nat):Int):Int) == 0)) ?_
 refine aS (aJ (bR rfl (fun hc22=>?_) (fun hc22=>?_)))
 ·exact Nc<|lx rfl<|Nh<|sN [nS,(vi 3)] fun w hM=>absurd ((RF heq20 (AE hc22)).symm.trans hd) si
 ·have hn0:¬ n20=0:=AF hc22
  refine Ni<|lx rfl<|Ne<|lx rfl<|Ng<|St.mem (fun w hM=>hM.jD 115 3)<|St.mem (fun w hM=>Mm.tR hM)<|sL (fun (i,RX,rcX,pvs,rX,LX)=>i≤n20∧r220.parts i=(some (pvs.map PV.abs),rX)∧∀ p∈pvs,∀ q∈p.c.rows,q∈LX) (fun (i,RX,rcX,pvs,rX,LX)=>n20 - i) (fun (i,RX,rcX,pvs,rX,LX)=>[(2,nS),(3,(vi 0)),(4,(vP br16 0)),(23,(vI n20)),(6,(vL RX (pvs) rcX)),(24,(vI i))]) (fun (i,RX,rcX,pvs,rX,LX)=>[aU X16 br16 (rX),cP RX (pvs) rcX,dF (LX)]) (0,none,0,[],r220,[]) ⟨Nat.zero_le _,rfl,fun p hp=>by cases hp⟩ (fun w hM=>by show Mm _ _ [aU X16 br16 (r220),dA 115 3 none (([]).length) (0) (PS ([])),dF ([])] w; exact hM) ?_
  rintro ⟨i,RX,rcX,pvs,rX,LX⟩ ⟨hi,hpt,hrows⟩
  dsimp only
  refine Nc<|lk (.bool (decide (((i:Nat):Int) < ((n20:Nat):Int)))) ?_
  refine aS (aJ (aQ (bR rfl (fun hc25=>?_) (fun hc25=>?_))))
  ·have hd25:=of_decide_eq_true hc25
   have hlt:i < n20:=om
   have hpl:pvs.length=i:=by have h:=Rd.Fy hpt; simpa using h
   refine Nm<|aE<|lx rfl<|Nb<|lx rfl<|Nx<|fB [0] _ (fun w hM hO=>(SE X16 br16 rX w hO).mono ?_)
   rintro e w' ⟨cl29,L29,o29,r229,rfl,hP,heq29,hhl29,hhv29⟩
   refine ⟨_,[_],_,rfl,hP,rfl,?_⟩; clear hP hM hO
   refine lx rfl<|Nx<|pA [(.string ⟨#[]⟩),(.string ⟨#[]⟩),.nilIface] fun b8=>Nx<|oE 4 (cl29) (vs:=cl29) rfl rfl kr rfl rfl rfl (by rw [hhl29.1]; kernel_rfl) rfl (by rw [hhl29.1]; decide) hhl29.2 (by rw [hhl29.1]; simp) ?_
   refine lx rfl<|Nf<|aQ ?_
   cases hfk:o29.isSome with
   | true =>
     obtain ⟨p29,rfl⟩:=Option.isSome_iff_exists.1 hfk
     obtain ⟨pv,rfl,hab,hrw⟩:=hhv29 p29 rfl
     dsimp only [bC,List.set,List.cons_append,List.nil_append]
     refine dN _ 29 kr (fun _ h=>h)<|am 0 ?_
     refine aC 1 bF rfl<|am 2 ?_
     refine jI 3 ?_
     refine aG 4 (.bool (decide (((i:Nat):Int) > 0))) rfl ?_
     refine jI 5 ?_
     refine Any.dec 37 rfl (fun hc37=>?_) (fun hc37=>?_)
     ·have hd37:=of_decide_eq_true hc37
      have hip:0 < i:=om
      refine jI 6 ?_
      refine jI 7 ?_
      refine aW 8 (vI (i - 1)) rfl (mH _ rfl rfl rfl om om om) ?_
      obtain ⟨x0,hx0⟩:∃ ξ,(pvs)[i - 1]?=some ξ:=⟨_,List.getElem?_eq_getElem om⟩
      refine Any.zD (fun w hM=>AA (i:=1) rfl w hM) hx0 (fun p41 q41 hA41 hc41=>aW 9 (vP p41 (q41+(i - 1)*3)) rfl (AB (e:=115) rfl kr kr rfl rfl hA41 om)<|aG 10 (vP p41 (q41+(i - 1)*3)) rfl ?_)
      refine aG 11 (vP p41 (q41+(i - 1)*3+1)) rfl<|aW 12 (vS x0.hi) rfl (hJ rfl rfl kr (fun w hM=>hc41 w hM 1 _ rfl)) ?_
      refine aW 13 (.bool (decide (x0.hi=[]))) rfl (oG rfl rfl rfl) ?_
      refine jI 14 ?_
      refine Any.dec 46 rfl (fun hc46=>?_) (fun hc46=>?_)
      ·have hd46:=of_decide_eq_true hc46
       refine kP 15 ?_
       refine kP 16 ?_
       refine kP 17 ?_
       refine kP 18 ?_
       refine kP 19 ?_
       refine kP 20 ?_
       refine kP 21 ?_
       refine kP 22 ?_
       refine kP 23 ?_
       refine kP 24 ?_
       refine kP 25 ?_
       refine aG 26 bT rfl<|aG 27 bT rfl<|aC 28 bT rfl<|dO kr<|aJ<|pJ rfl<|Nc<|lx rfl<|Nq<|eA<|sN [nS,(vi 3)] fun w hM=>absurd ((DA heq20 (i:=i+1) hlt (Rd.MB hpt heq29 (by rw [(DB (i:=i - 1) (q:=x0.abs) (by rw [List.getElem?_map,hx0]; rfl) (by rw [List.length_map]; omega))]; have e:=of_decide_eq_true hc46; simp [PV.abs,e]))).symm.trans hd) si
      ·have hd46:=of_decide_eq_false hc46
       refine jI 15 ?_
       refine jI 16 ?_
       refine aW 17 (vI (i - 1)) rfl (mH _ rfl rfl rfl om om om)<|Any.zD (fun w hM=>AA (i:=1) rfl w hM) hx0 (fun p50 q50 hA50 hc50=>aW 18 (vP p50 (q50+(i - 1)*3)) rfl (AB (e:=115) rfl kr kr rfl rfl hA50 om)<|aG 19 (vP p50 (q50+(i - 1)*3)) rfl<|aG 20 (vP p50 (q50+(i - 1)*3+1)) rfl<|aW 21 (vS x0.hi) rfl (hJ rfl rfl kr (fun w hM=>hc50 w hM 1 _ rfl))<|aG 22 (vP b8 0) rfl<|aG 23 (vP b8 0) rfl<|aW 24 (vS pv.lo) rfl (eT 4 rfl rfl kr rfl rfl)<|aW 25 (.bool (!(decide (x0.hi < pv.lo) || decide (x0.hi=pv.lo)))) rfl (NO rfl rfl rfl)<|aG 26 (.bool (!(decide (x0.hi < pv.lo) || decide (x0.hi=pv.lo)))) rfl<|aG 27 (.bool (!(decide (x0.hi < pv.lo) || decide (x0.hi=pv.lo)))) rfl<|aC 28 (.bool (!(decide (x0.hi < pv.lo) || decide (x0.hi=pv.lo)))) rfl<|dO kr ?_)
       refine aJ (bR rfl (fun hc60=>?_) (fun hc60=>?_))
       ·refine Nc<|lx rfl<|Nq<|eA<|sN [nS,(vi 3)] fun w hM=>absurd ((DA heq20 (i:=i+1) hlt (Rd.MB hpt heq29 (by rw [(DB (i:=i - 1) (q:=x0.abs) (by rw [List.getElem?_map,hx0]; rfl) (by rw [List.length_map]; omega))]; rw [IQ] at hc60; rw [← hab]; have e:=of_decide_eq_true hc60; simp [PV.abs,e]))).symm.trans hd) si
       ·have hfo:follows (pvs.map PV.abs) p29=true:=by rw [(DB (i:=i - 1) (q:=x0.abs) (by rw [List.getElem?_map,hx0]; rfl) (by rw [List.length_map]; omega))]; rw [IQ] at hc60; rw [← hab]; have e:=of_decide_eq_false hc46; have e2:=of_decide_eq_false hc60; simp [PV.abs,e,e2]
        exact jF<|aJ<|aE<|lx rfl<|lW (rA 4 [(vS pv.lo),(vS pv.hi),pv.c.val])<|Nx<|pN 1 115 [(vS pv.lo),(vS pv.hi),pv.c.val] fun b63=>Nx<|fJ uW 1 ([(vS pv.lo),(vS pv.hi),pv.c.val]) rfl rfl kr rfl rfl rfl (rfl) (kA (i:=5) rfl (fun j v h=>by rw [Nat.zero_add]; exact h)) (PV.one pv) om ((pvs++[pv]).length) fN (PS (pvs++[pv])) ((uV _ ([pv])).symm) (fun A64 c64=>lx rfl<|Nk<|aE<|lw (vI (i+1)) bJ<|lx rfl<|aS (aJ (sA (i+1,A64,c64,pvs++[pv],r229,LX++L29) (⟨om,by rw [Rd.Fx hpt heq29 hfo,← hab,List.map_append]; rfl,LC hrows hrw⟩) (by show n20 - (i+1) < n20 - i; omega) (fun w hM=>by show Mm _ _ [aU X16 br16 (r229),cP A64 (pvs++[pv]) c64,dF (LX++L29)] w; exact Mm.join (cs:=[aU X16 br16 (r229),cP A64 (pvs++[pv]) c64]) (L:=LX) (M:=L29) ((hM.pick [0,1,2,3] rfl rfl))))))
     ·have hd37:=of_decide_eq_false hc37
      have hi0:i=0:=om
      have hfo:follows (pvs.map PV.abs) p29=true:=by rw [List.eq_nil_of_length_eq_zero (hpl.trans hi0)]; rfl
      refine fF 6 ?_
      refine fF 7 ?_
      refine fF 8 ?_
      refine fF 9 ?_
      refine fF 10 ?_
      refine fF 11 ?_
      refine fF 12 ?_
      refine fF 13 ?_
      refine fF 14 ?_
      refine eU 15 ?_
      refine eU 16 ?_
      refine eU 17 ?_
      refine eU 18 ?_
      refine eU 19 ?_
      refine eU 20 ?_
      refine eU 21 ?_
      refine eU 22 ?_
      refine eU 23 ?_
      refine eU 24 ?_
      refine eU 25 ?_
      refine fF 26 ?_
      refine aG 27 bF rfl<|aC 28 bF rfl<|dO kr<|aJ<|qL rfl<|jF<|aJ<|aE<|lx rfl<|lW (rA 4 [(vS pv.lo),(vS pv.hi),pv.c.val])<|Nx<|pN 1 115 [(vS pv.lo),(vS pv.hi),pv.c.val] fun b63=>Nx<|fJ uW 1 ([(vS pv.lo),(vS pv.hi),pv.c.val]) rfl rfl kr rfl rfl rfl (rfl) (kA (i:=5) rfl (fun j v h=>by rw [Nat.zero_add]; exact h)) (PV.one pv) om ((pvs++[pv]).length) fN (PS (pvs++[pv])) ((uV _ ([pv])).symm) (fun A64 c64=>lx rfl<|Nk ?_)
      dsimp only [bC,List.set,List.cons_append,List.nil_append]
      exact aE<|lw (vI (i+1)) bJ<|lx rfl<|aS (aJ (sA (i+1,A64,c64,pvs++[pv],r229,LX++L29) (⟨om,by rw [Rd.Fx hpt heq29 hfo,← hab,List.map_append]; rfl,LC hrows hrw⟩) (by show n20 - (i+1) < n20 - i; omega) (fun w hM=>by show Mm _ _ [aU X16 br16 (r229),cP A64 (pvs++[pv]) c64,dF (LX++L29)] w; exact Mm.join (cs:=[aU X16 br16 (r229),cP A64 (pvs++[pv]) c64]) (L:=LX) (M:=L29) ((hM.pick [0,1,2,3] rfl rfl)))))
   | false =>
     obtain rfl:o29=none:=by cases o29 with | none=>rfl | some _=>cases hfk
     refine dN _ 29 kr (fun _ h=>h) ?_
     refine am 0 ?_
     refine aC 1 bT rfl ?_
     refine am 2 ?_
     refine kP 3 ?_
     refine kP 4 ?_
     refine kP 5 ?_
     refine eU 6 ?_
     refine eU 7 ?_
     refine eU 8 ?_
     refine eU 9 ?_
     refine eU 10 ?_
     refine eU 11 ?_
     refine eU 12 ?_
     refine eU 13 ?_
     refine eU 14 ?_
     refine eU 15 ?_
     refine eU 16 ?_
     refine eU 17 ?_
     refine eU 18 ?_
     refine eU 19 ?_
     refine eU 20 ?_
     refine eU 21 ?_
     refine eU 22 ?_
     refine eU 23 ?_
     refine eU 24 ?_
     refine eU 25 ?_
     refine eU 26 ?_
     refine kP 27 ?_
     exact aC 28 bT rfl<|dO kr<|aJ<|pJ rfl<|Nc<|lx rfl<|Nq<|eA<|sN [nS,(vi 3)] fun w hM=>absurd ((DA heq20 (i:=i+1) hlt (Rd.XV hpt heq29)).symm.trans hd) si
  ·have hd25:=of_decide_eq_false hc25
   obtain rfl:i=n20:=om
   refine Nj<|Nc<|lx rfl<|Nx<|bZ [0] (fun w hM hO=>oQ X16 br16 rX w hO)<|lx rfl<|Nb<|lx rfl<|lk (.bool ((rX.end_:Int) != 0)) ?_
   refine aS (aJ (bR rfl (fun hc72=>?_) (fun hc72=>?_)))
   ·exact Nc<|lx rfl<|Nh<|sN [nS,(vi 3)] fun w hM=>absurd ((RG heq20 hpt (by simpa using hc72)).symm.trans hd) si
   ·have hok:jN D=some (pvs.map PV.abs):=RH heq20 hn0 hpt (by simpa using hc72)
    exact Ni<|lx rfl<|Nd<|sN [(vL RX (pvs) rcX),(vi 0)] fun w hM=>⟨RX,rcX,pvs,LX,rfl,(hM.pick [1,2] rfl rfl),Option.some.inj (hok.symm.trans hd),hrows⟩
theorem Wb (bs:Nat) (A:Option Addr) (c:Nat) (its:List (List UInt8)) (fan leaf:Nat) (nm om:Nat) (lo hi:List UInt8) (n:Nat) (f:List UInt8) (bo:Nat) (R:Option Addr) (rc:Nat) (ps:List PV) (N O:Value) (w:World) (hO:bO [aB bo 120 [(vL R (ps) rc),N,O],cP R (ps) rc] w) (r0:Rf [aB bo 120 [(vL R (ps) rc),N,O],cP R (ps) rc] w (bW)) (r1:Rf [aB bo 120 [(vL R (ps) rc),N,O],cP R (ps) rc] w (fX bs A c its fan leaf nm om)) (hs:bH its) (hn:its.length≤1000) (hcap:its.length≤c) (hf:2≤fan) (hf2:fan≤16) (hl1:1≤leaf) (hl2:leaf≤64) (hps:ps.length≤4294967296) :
  Calls Tryz.prog 61 #[(vP bs 0),(.agg #[(vS lo),(vS hi)]),(.agg #[(vI n),(vS f)]),(vP bo 0)] w fun e w'=>∃ (R2:Option Addr) (rc2:Nat) (ps2:List PV),e = .returned (.tuple #[])∧aK [aB bo 120 [(vL R (ps) rc),N,O],cP R (ps) rc] w [aB bo 120 [(vL R2 (ps++ps2) rc2),N,O],cP R2 (ps++ps2) rc2] w'∧(ps2.map PV.abs=iQ its fan leaf lo hi n f)∧(fY [] A its ps2):=by
 have ra:=r1.imp (fun _ h=>h.1)
 have rb:=r1.imp (fun _ h=>h.2)
 refine Cw Tryz.func61 110 (hO) rfl<|Nc<|Nx<|pB [(vS lo),(vS hi)] fun b5=>Nx<|pB [(vI n),(vS f)] fun b6=>Nf<|aQ<|dN _ 5 kr (fun _ h=>h)<|am 0 ?_
 refine aV 1 _ rfl (rA 2 [(vS lo),(vS hi)])<|aV 3 _ rfl (rA 3 [(vI n),(vS f)])<|aA 2 rfl<|bN (fun w hM=>Aw bs A c its fan leaf nm om lo hi w (r0.aO hM) (r1.aO hM) ag ag ag)<|cN _ (fun _ h=>h) (fun _ h=>h)<|aV 4 (.bool (decide ((inL its lo hi).length=n∧cQ (inL its lo hi)=f))) rfl (Rh rfl rfl rfl)<|dO kr ?_
 refine aJ (bR rfl (fun hc19=>?_) (fun hc19=>?_))
 ·have hd19:=of_decide_eq_true hc19
  have hd19:=of_decide_eq_true hc19
  exact gQ<|eA<|iJ [] rfl trivial (fun w hM=>⟨R,rc,[],rfl,by rw [List.append_nil]; exact (hM.pick [0,1] rfl rfl),by simp [iQ,hd19],fY.nil⟩)
 ·have hd19:=of_decide_eq_false hc19
  have hd19:=of_decide_eq_false hc19
  refine Nl ?_
  dsimp only [bC,List.set,List.cons_append,List.nil_append]
  refine aE<|lx rfl<|lW (rA 2 [(vS lo),(vS hi)])<|Nx<|Cy (fun w hM=>Dr bs A c its fan leaf nm om lo hi w (r1.aO hM) ag ag ag) fun B22 cb22 hsub22=>?_
  have rs22:=Ro.imp (Ψ:=fun w=>aF w B22 (SS (inL its lo hi))) rb hsub22
  refine lx rfl<|Nb<|lx rfl<|lk (vI ((inL its lo hi).length))<|lx rfl<|Ne<|lx rfl<|lk (vP bs 0)<|lk (vP bs 1)<|lk (vP bs 2)<|lW (rW (fun w hM=>At.cell (ra.now hM) 2))<|lk (.bool (decide ((((inL its lo hi).length:Nat):Int)≤((leaf:Nat):Int)))) ?_
  refine aS (aJ (bR rfl (fun hc31=>?_) (fun hc31=>?_)))
  ·have hd31:=of_decide_eq_true hc31
   refine aQ<|dN _ 14 kr (fun _ h=>h.pick [0,2,3] rfl rfl)<|am 0 ?_
   refine am 1 ?_
   refine aC 2 (vP bo 0) rfl<|aC 3 (vP bo 0) rfl<|al 4 0 ?_
   refine aV 5 _ rfl (rA 1 [(vS lo),(vS hi)])<|am 6 ?_
   refine aC 7 (.agg #[(vL B22 (inL its lo hi) cb22)]) rfl<|aC 8 (.iface 124 (.agg #[(vL B22 (inL its lo hi) cb22)])) rfl<|aC 9 (.agg #[(vS lo),(vS hi),(.iface 124 (.agg #[(vL B22 (inL its lo hi) cb22)]))]) rfl<|aA 10 rfl<|pN 1 115 [(vS lo),(vS hi),(.iface 124 (.agg #[(vL B22 (inL its lo hi) cb22)]))] fun b42=>cN _ (fun _ h=>h.pick [0,1,2] rfl rfl) (fun _ h=>h.pick [0,2,3,4] rfl rfl)<|aA 11 rfl<|fJ uW 1 ([(vS lo),(vS hi),(.iface 124 (.agg #[(vL B22 (inL its lo hi) cb22)]))]) rfl rfl (by kernel_rfl) rfl rfl rfl (rfl) (kA (i:=4) rfl (fun j v h=>by rw [Nat.zero_add]; exact h)) (Ax (ps:=[PV.mk lo hi (.list B22 cb22 (inL its lo hi))])) (by omega) ((ps++[PV.mk lo hi (.list B22 cb22 (inL its lo hi))]).length) (by first | exact (List.length_append ..).symm | (simp; done) | (simp; omega)) (PS (ps++[PV.mk lo hi (.list B22 cb22 (inL its lo hi))])) ((uV _ ([PV.mk lo hi (.list B22 cb22 (inL its lo hi))])).symm) (fun A43 c43=>?_)
   dsimp only [bC,List.set,List.cons_append,List.nil_append]
   exact cN _ (fun _ h=>h) (fun _ h=>h.pick [0,2,3,4] rfl rfl)<|aC 12 (vP bo 0) rfl<|aC 13 (vP bo 0) rfl<|aA 14 rfl<|pS 0 rfl<|oC kr rfl<|aJ<|gQ<|eA<|iJ [] rfl trivial (fun w hM=>⟨A43,c43,[PV.mk lo hi (.list B22 cb22 (inL its lo hi))],rfl,(hM.pick [0,1] rfl rfl),by rw [iQ,if_neg hd19,if_pos (by have:=of_decide_eq_true hc31; omega)]; rfl,fun p hp r hr=>.inr (by rw [List.mem_singleton.1 hp] at hr; rw [List.mem_singleton.1 hr]; exact hsub22)⟩)
  ·have hd31:=of_decide_eq_false hc31
   refine Ni<|lk (vP b5 0)<|lL 2 rfl<|lx rfl<|Ne<|lx rfl<|Ng ?_
   have h2:=List.length_filter_le (inR lo hi) its; change (inL its lo hi).length≤its.length at h2
   refine sL (fun (k,RX,rcX)=>k+1≤fan) (fun (k,RX,rcX)=>fan - k) (fun (k,RX,rcX)=>[(0,(vP bs 0)),(3,(vP bo 0)),(5,(vP b5 0)),(8,(vL B22 (inL its lo hi) cb22)),(9,(vI ((inL its lo hi).length))),(10,(vS ((bV its (inL its lo hi) fan lo k).1))),(11,(vI (k+1)))]) (fun (k,RX,rcX)=>[aB bo 120 [(vL RX (ps++(bV its (inL its lo hi) fan lo k).2) rcX),N,O],cP RX (ps++(bV its (inL its lo hi) fan lo k).2) rcX,aB b5 108 [(vS lo),(vS hi)],aB b6 110 [(vI n),(vS f)]]) (0,R,rc) (by show 0+1≤fan; omega) (fun w hM=>by show Mm _ _ [aB bo 120 [(vL R (ps++(bV its (inL its lo hi) fan lo 0).2) rc),N,O],cP R (ps++(bV its (inL its lo hi) fan lo 0).2) rc,aB b5 108 [(vS lo),(vS hi)],aB b6 110 [(vI n),(vS f)]] w; rw [show ps++(bV its (inL its lo hi) fan lo 0).2=ps from List.append_nil _]; exact hM) ?_
   rintro ⟨k,RX,rcX⟩ (hok:k+1≤fan)
   dsimp only
   refine Ny<|lx rfl<|lk (vP bs 0)<|lk (vP bs 1)<|lk (vP bs 1)<|lW (rW (fun w hM=>At.cell (ra.now hM) 1))<|lk (.bool (decide ((((k+1):Nat):Int) < ((fan:Nat):Int)))) ?_
   refine aS (aJ (bR rfl (fun hc54=>?_) (fun hc54=>?_)))
   ·have hd54:=of_decide_eq_true hc54
    have hk:k+1 < fan:=by have:=of_decide_eq_true hc54; omega
    refine Nm ?_
    have hm1:(k+1)*(inL its lo hi).length≤16*1000:=Nat.mul_le_mul (by omega) (by omega)
    have hm2:(k+1)*(inL its lo hi).length / fan < (inL its lo hi).length:=by
     rw [Nat.div_lt_iff_lt_mul (by omega),Nat.mul_comm]
     exact Nat.mul_lt_mul_of_pos_left hk (by have:=of_decide_eq_false hc31; omega)
    refine aE<|lx rfl<|lv (v:=(vI ((k+1)*(inL its lo hi).length))) (Gh _ rfl rfl rfl (by omega) (by omega) (by omega)) ?_
    refine lx rfl<|lk (vP bs 0)<|lk (vP bs 1)<|lk (vP bs 1)<|lW (rW (fun w hM=>At.cell (ra.now hM) 1))<|lv (v:=(vI ((k+1)*(inL its lo hi).length / fan))) (Az rfl rfl rfl (by omega) (by omega)) ?_
    obtain ⟨x0,hx0⟩:∃ ξ,(inL its lo hi)[(k+1)*(inL its lo hi).length / fan]?=some ξ:=⟨_,List.getElem?_eq_getElem (by omega)⟩
    refine St.eE (fun w hM=>rs22.now hM) (eG hx0) (fun p67 q67 hA67 hc67=>lw (vP p67 (q67+((k+1)*(inL its lo hi).length / fan))) (rR 9 hA67)<|lW (rW hc67)<|lx rfl<|Nb<|lx rfl<|lw (.bool (!decide (x0=(bV its (inL its lo hi) fan lo k).1))) (wO rfl rfl rfl) ?_)
    refine aS (aJ (bR rfl (fun hc71=>?_) (fun hc71=>?_)))
    ·refine Nc<|lx rfl<|lk (.agg #[(vS ((bV its (inL its lo hi) fan lo k).1)),(vS x0)])<|Nx<|pA [(.string ⟨#[]⟩),(.string ⟨#[]⟩)] fun b13=>Nx<|pT 4 [(vS ((bV its (inL its lo hi) fan lo k).1)),(vS x0)] rfl<|Nf<|dN _ 15 kr (fun _ h=>h.pick [0,2,3,4] rfl rfl)<|am 0 ?_
     refine am 1 ?_
     refine aC 2 (vP bo 0) rfl<|aC 3 (vP bo 0) rfl<|al 4 0 ?_
     refine aV 5 _ rfl (rA 3 [(vS ((bV its (inL its lo hi) fan lo k).1)),(vS x0)])<|am 6 ?_
     refine aV 7 _ rfl (rA 3 [(vS ((bV its (inL its lo hi) fan lo k).1)),(vS x0)])<|aA 8 rfl<|bN (fun w hM=>Aw bs A c its fan leaf nm om ((bV its (inL its lo hi) fan lo k).1) x0 w (r0.aO hM) (r1.aO hM) ag ag ag) ?_
     dsimp only [bC,List.set,List.cons_append,List.nil_append]
     refine cN _ (fun _ h=>h) (fun _ h=>h.pick [0,2,3,4] rfl rfl)<|aC 9 (.iface 110 (.agg #[(vI ((inL its ((bV its (inL its lo hi) fan lo k).1) x0).length)),(vS (cQ (inL its ((bV its (inL its lo hi) fan lo k).1) x0)))])) rfl<|aC 10 (.agg #[(vS ((bV its (inL its lo hi) fan lo k).1)),(vS x0),(.iface 110 (.agg #[(vI ((inL its ((bV its (inL its lo hi) fan lo k).1) x0).length)),(vS (cQ (inL its ((bV its (inL its lo hi) fan lo k).1) x0)))]))]) rfl<|aA 11 rfl<|pN 1 115 [(vS ((bV its (inL its lo hi) fan lo k).1)),(vS x0),(.iface 110 (.agg #[(vI ((inL its ((bV its (inL its lo hi) fan lo k).1) x0).length)),(vS (cQ (inL its ((bV its (inL its lo hi) fan lo k).1) x0)))]))] fun b86=>cN _ (fun _ h=>h.pick [0,1,2,3] rfl rfl) (fun _ h=>h.pick [0,2,3,4,5] rfl rfl)<|aA 12 rfl<|fJ uW 1 ([(vS ((bV its (inL its lo hi) fan lo k).1)),(vS x0),(.iface 110 (.agg #[(vI ((inL its ((bV its (inL its lo hi) fan lo k).1) x0).length)),(vS (cQ (inL its ((bV its (inL its lo hi) fan lo k).1) x0)))]))]) rfl rfl kr rfl rfl rfl (rfl) (kA (i:=5) rfl (fun j v h=>by rw [Nat.zero_add]; exact h)) (by intro u hu; exact Ax (ps:=[kW its _ _]) u hu) (by have:=Dv its (inL its lo hi) fan lo k; simp only [List.length_append] at *; omega) ((ps++(bV its (inL its lo hi) fan lo k).2++[kW its (bV its (inL its lo hi) fan lo k).1 x0]).length) fN (PS (ps++(bV its (inL its lo hi) fan lo k).2++[kW its (bV its (inL its lo hi) fan lo k).1 x0])) ((uV _ ([kW its (bV its (inL its lo hi) fan lo k).1 x0])).symm) (fun A87 c87=>cN _ (fun _ h=>h) (fun _ h=>h.pick [0,2,3,4,5] rfl rfl)<|aC 13 (vP bo 0) rfl<|aC 14 (vP bo 0) rfl<|aA 15 rfl<|pS 0 rfl<|oC kr rfl<|aJ<|aE<|lx rfl<|Nk<|aE<|lx rfl<|lw (vI ((k+1)+1)) bJ<|lx rfl<|Na ?_)
     rw [show ps++(bV its (inL its lo hi) fan lo k).2++[kW its (bV its (inL its lo hi) fan lo k).1 x0]=ps++(bV its (inL its lo hi) fan lo (k+1)).2 from by rw [II hx0 hc71,← List.append_assoc]]
     rw [show x0=(bV its (inL its lo hi) fan lo (k+1)).1 from by rw [II hx0 hc71]]
     exact sA (k+1,A87,c87) (by show _≤_; omega) (by show fan - (k+1) < fan - k; omega) (fun w hM=>(hM.pick [0,1,2,3] rfl rfl))
    ·refine Nw<|aE<|lx rfl<|lw (vI ((k+1)+1)) bJ<|lx rfl<|Na ?_
     rw [show bV its (inL its lo hi) fan lo k=bV its (inL its lo hi) fan lo (k+1) from (Rc hx0 hc71).symm]
     exact sA (k+1,RX,rcX) (by show _≤_; omega) (by show fan - (k+1) < fan - k; omega) (fun w hM=>hM)
   ·have hd54:=of_decide_eq_false hc54
    obtain rfl:k=fan - 1:=by have:=of_decide_eq_false hc54; omega
    refine Nj<|aE<|lx rfl<|lk (vP b5 1)<|lL 2 rfl<|lk (.agg #[(vS ((bV its (inL its lo hi) fan lo (fan - 1)).1)),(vS hi)])<|Nx<|pA [(.string ⟨#[]⟩),(.string ⟨#[]⟩)] fun b14=>Nx<|pT 4 [(vS ((bV its (inL its lo hi) fan lo (fan - 1)).1)),(vS hi)] rfl<|Na ?_
    dsimp only [bC,List.set,List.cons_append,List.nil_append]
    refine dN _ 15 kr (fun _ h=>h.pick [0,2,3,4] rfl rfl)<|am 0 ?_
    refine am 1 ?_
    refine aC 2 (vP bo 0) rfl<|aC 3 (vP bo 0) rfl<|al 4 0 ?_
    refine aV 5 _ rfl (rA 3 [(vS ((bV its (inL its lo hi) fan lo (fan - 1)).1)),(vS hi)])<|am 6 ?_
    refine aV 7 _ rfl (rA 3 [(vS ((bV its (inL its lo hi) fan lo (fan - 1)).1)),(vS hi)])<|aA 8 rfl<|bN (fun w hM=>Aw bs A c its fan leaf nm om ((bV its (inL its lo hi) fan lo (fan - 1)).1) hi w (r0.aO hM) (r1.aO hM) ag ag ag)<|cN _ (fun _ h=>h) (fun _ h=>h.pick [0,2,3,4] rfl rfl)<|aC 9 (.iface 110 (.agg #[(vI ((inL its ((bV its (inL its lo hi) fan lo (fan - 1)).1) hi).length)),(vS (cQ (inL its ((bV its (inL its lo hi) fan lo (fan - 1)).1) hi)))])) rfl<|aC 10 (.agg #[(vS ((bV its (inL its lo hi) fan lo (fan - 1)).1)),(vS hi),(.iface 110 (.agg #[(vI ((inL its ((bV its (inL its lo hi) fan lo (fan - 1)).1) hi).length)),(vS (cQ (inL its ((bV its (inL its lo hi) fan lo (fan - 1)).1) hi)))]))]) rfl<|aA 11 rfl<|pN 1 115 [(vS ((bV its (inL its lo hi) fan lo (fan - 1)).1)),(vS hi),(.iface 110 (.agg #[(vI ((inL its ((bV its (inL its lo hi) fan lo (fan - 1)).1) hi).length)),(vS (cQ (inL its ((bV its (inL its lo hi) fan lo (fan - 1)).1) hi)))]))] fun b106=>?_
    dsimp only [bC,List.set,List.cons_append,List.nil_append]
    refine cN _ (fun _ h=>h.pick [0,1,2,3] rfl rfl) (fun _ h=>h.pick [0,2,3,4,5] rfl rfl)<|aA 12 rfl<|fJ uW 1 ([(vS ((bV its (inL its lo hi) fan lo (fan - 1)).1)),(vS hi),(.iface 110 (.agg #[(vI ((inL its ((bV its (inL its lo hi) fan lo (fan - 1)).1) hi).length)),(vS (cQ (inL its ((bV its (inL its lo hi) fan lo (fan - 1)).1) hi)))]))]) rfl rfl kr rfl rfl rfl (rfl) (kA (i:=5) rfl (fun j v h=>by rw [Nat.zero_add]; exact h)) (by intro u hu; exact Ax (ps:=[kW its _ _]) u hu) (by have:=Dv its (inL its lo hi) fan lo (fan - 1); simp only [List.length_append] at *; omega) ((ps++(bV its (inL its lo hi) fan lo (fan - 1)).2++[kW its (bV its (inL its lo hi) fan lo (fan - 1)).1 hi]).length) fN (PS (ps++(bV its (inL its lo hi) fan lo (fan - 1)).2++[kW its (bV its (inL its lo hi) fan lo (fan - 1)).1 hi])) ((uV _ ([kW its (bV its (inL its lo hi) fan lo (fan - 1)).1 hi])).symm) (fun A107 c107=>cN _ (fun _ h=>h) (fun _ h=>h.pick [0,2,3,4,5] rfl rfl)<|aC 13 (vP bo 0) rfl<|aC 14 (vP bo 0) rfl<|aA 15 rfl<|pS 0 rfl<|oC kr rfl<|jY [] rfl trivial (fun w hM=>?_))
    refine ⟨A107,c107,(bV its (inL its lo hi) fan lo (fan - 1)).2++[kW its (bV its (inL its lo hi) fan lo (fan - 1)).1 hi],rfl,?_,?_,?_⟩
    ·rw [← List.append_assoc]; exact (hM.pick [0,1] rfl rfl)
    ·rw [iQ,if_neg hd19,if_neg (by have:=of_decide_eq_false hc31; omega),List.map_append,(Du its (inL its lo hi) fan lo (fan - 1)).2,← (Du its (inL its lo hi) fan lo (fan - 1)).1]; rfl
    ·exact fY.append (L:=[]) (fY.My (Dw _ _ _ _ _)) (fY.My (by intro p hp; rw [List.mem_singleton.1 hp]; rfl))
theorem Wc (bs:Nat) (A:Option Addr) (c:Nat) (its:List (List UInt8)) (fan leaf:Nat) (nm om:Nat) (lo hi:List UInt8) (A1:Option Addr) (c1:Nat) (xs:List (List UInt8)) (bo:Nat) (R:Option Addr) (rc:Nat) (ps:List PV) (N:Option Addr) (nc:Nat) (nl:List (List UInt8)) (O:Option Addr) (oc:Nat) (ol:List (List UInt8)) (w:World) (hO:bO [aB bo 120 [(vL R (ps) rc),(vL N (nl) nc),(vL O (ol) oc)],cP R (ps) rc,cS N (nl) nc,cS O (ol) oc] w) (r0:Rf [aB bo 120 [(vL R (ps) rc),(vL N (nl) nc),(vL O (ol) oc)],cP R (ps) rc,cS N (nl) nc,cS O (ol) oc] w (fX bs A c its fan leaf nm om)) (r1:Rf [aB bo 120 [(vL R (ps) rc),(vL N (nl) nc),(vL O (ol) oc)],cP R (ps) rc,cS N (nl) nc,cS O (ol) oc] w (fun w=>aF w A1 (SS xs))) (hs:bH its) (hn:its.length≤1000) (hcap:its.length≤c) (hps:ps.length≤4294967296) (hxl:xs.length≤4294967296) (hxs:∀ x∈xs,x.length≤1000) (hnl:nl.length≤68719476736) (hol:ol.length≤68719476736) :
  Calls Tryz.prog 62 #[(vP bs 0),(.agg #[(vS lo),(vS hi)]),(.agg #[(vL A1 xs c1)]),(vP bo 0)] w fun e w'=>∃ (R2:Option Addr) (rc2:Nat) (ps2:List PV) (N2:Option Addr) (nc2:Nat) (O2:Option Addr) (oc2:Nat) (L2:List (Option Addr × List (List UInt8))),e = .returned (.tuple #[])∧aK [aB bo 120 [(vL R (ps) rc),(vL N (nl) nc),(vL O (ol) oc)],cP R (ps) rc,cS N (nl) nc,cS O (ol) oc] w [aB bo 120 [(vL R2 (ps++ps2) rc2),(vL N2 (nl++aH xs its) nc2),(vL O2 (ol++aH (inL its lo hi) xs) oc2)],cP R2 (ps++ps2) rc2,cS N2 (nl++aH xs its) nc2,cS O2 (ol++aH (inL its lo hi) xs) oc2,dF (L2)] w'∧(ps2.map PV.abs=gW its lo hi xs)∧(fY L2 A its ps2):=by
 have ra:=r0.imp (fun _ h=>h.1)
 have rb:=r0.imp (fun _ h=>h.2)
 refine Cw Tryz.func62 95 (hO) rfl<|Nc<|Nx<|pB [(vS lo),(vS hi)] fun b5=>Nx<|pB [(vL A1 xs c1)] fun b6=>Nb<|Nx<|mS rfl rfl kr (fun m14=>lx rfl<|Nb<|Nx<|pA [nS,nS] fun b9=>Nf<|aQ ?_)
 dsimp only [bC,List.set,List.cons_append,List.nil_append]
 refine St.mem (fun w hM=>hM.jD 9 1)<|St.mem (fun w hM=>hM.jD 9 1)<|aE<|lk (vP b6 0)<|lL 5 rfl<|lk (vI xs.length)<|lx rfl<|Ng<|sL (fun (i,N32,nc32)=>i≤xs.length) (fun (i,N32,nc32)=>xs.length - i) (fun (i,N32,nc32)=>[(0,(vP bs 0)),(3,(vP bo 0)),(5,(vP b5 0)),(8,(.map (some m14))),(9,(vP b9 0)),(16,(vL A1 xs c1)),(17,(vI xs.length)),(18,(vI i))]) (fun (i,N32,nc32)=>[aB bo 120 [(vL R (ps) rc),(vL N (nl) nc),(vL O (ol) oc)],cP R (ps) rc,cS N (nl) nc,cS O (ol) oc,aB b5 108 [(vS lo),(vS hi)],aB b6 124 [(vL A1 xs c1)],aM m14 (xs.take i),aB b9 127 [nS,(vL N32 (aH (xs.take i) its) nc32)],dA 9 1 none (0) (0) ([]),cS N32 (aH (xs.take i) its) nc32]) (0,none,0) (Nat.zero_le _) (fun w hM=>by show Mm _ _ [aB bo 120 [(vL R (ps) rc),(vL N (nl) nc),(vL O (ol) oc)],cP R (ps) rc,cS N (nl) nc,cS O (ol) oc,aB b5 108 [(vS lo),(vS hi)],aB b6 124 [(vL A1 xs c1)],aM m14 (xs.take 0),aB b9 127 [nS,(vL none (aH (xs.take 0) its) 0)],dA 9 1 none (0) (0) ([]),cS none (aH (xs.take 0) its) 0] w; exact hM) ?_
 rintro ⟨i,N32,nc32⟩ (hok:i≤xs.length)
 dsimp only
 refine Nc<|lk (.bool (decide (((i:Nat):Int) < ((xs.length:Nat):Int)))) ?_
 refine aS (aJ (aQ (bR rfl (fun hc19=>?_) (fun hc19=>?_))))
 ·have hd19:=of_decide_eq_true hc19
  refine Nm<|aE ?_
  obtain ⟨x0,hx0⟩:∃ ξ,(xs)[i]?=some ξ:=⟨_,List.getElem?_eq_getElem (by omega)⟩
  refine St.eE (fun w hM=>r1.now hM) (eG hx0) (fun p20 q20 hA20 hc20=>lw (vP p20 (q20+i)) (rR 9 hA20)<|lW (rW hc20)<|lx rfl<|Nb<|lx rfl<|Nx<|Af 6 rfl rfl kr rfl rfl rfl rfl (by have:=hxs _ (List.mem_of_getElem? hx0); omega) (by rw [List.length_take]; omega)<|Nb<|lx rfl<|Nx<|bN (fun w hM=>Ds bs A c its fan leaf nm om x0 w (r0.aO hM) ag ag)<|lk (.bool (!(its.contains x0))) ?_)
  refine aS (aJ (bR rfl (fun hc27=>?_) (fun hc27=>?_)))
  ·refine aE<|lk (vP b9 1)<|lL 7 rfl<|lx rfl<|Nx<|pN 1 9 [(vS x0)] fun b31=>Nx<|fJ kB 9 ([(vS x0)]) rfl rfl kr rfl rfl rfl (rfl) (kA (i:=10) rfl (fun j v h=>by rw [Nat.zero_add]; exact h)) (by simp [Value.oneCell']) (by have h:=jL (xs.take i) its; simp only [List.length_take] at h; omega) ((aH (xs.take i) its++[x0]).length) fN (SS (aH (xs.take i) its++[x0])) (by simp [SS]) (fun A32 c32=>lk (vP b9 1)<|Nx<|pS 7 rfl<|Nk ?_)
   dsimp only [bC,List.set,List.cons_append,List.nil_append]
   refine aE<|lw (vI (i+1)) bJ<|lx rfl<|Na ?_
   rw [show xs.take i++[x0]=xs.take (i+1) from uU hx0]
   rw [show aH (xs.take i) its++[x0]=aH (xs.take (i+1)) its from by rw [xI hx0 (by simpa using hc27)]]
   exact sA (i+1,A32,c32) (by show _≤_; omega) (by show xs.length - (i+1) < xs.length - i; omega) (fun w hM=>(hM.pick [0,1,2,3,4,5,6,7,8,9] rfl rfl))
  ·refine Nw<|aE<|lw (vI (i+1)) bJ<|lx rfl<|Na ?_
   rw [show xs.take i++[x0]=xs.take (i+1) from uU hx0]
   rw [show aH (xs.take i) its=aH (xs.take (i+1)) its from by rw [xJ hx0 (by simpa using hc27)]]
   exact sA (i+1,N32,nc32) (by show _≤_; omega) (by show xs.length - (i+1) < xs.length - i; omega) (fun w hM=>hM)
 ·have hd19:=of_decide_eq_false hc19
  obtain rfl:i=xs.length:=by omega
  rw [List.take_length]
  refine Nj<|Nc<|lx rfl<|lW (rA 4 [(vS lo),(vS hi)])<|Nx<|Cy (fun w hM=>Dr bs A c its fan leaf nm om lo hi w (r0.aO hM) ag ag ag) fun B37 cb37 hsub37=>?_
  have rs37:=Ro.imp (Ψ:=fun w=>aF w B37 (SS (inL its lo hi))) rb hsub37
  have hl2:=List.length_filter_le (inR lo hi) its; change (inL its lo hi).length≤its.length at hl2
  refine lk (vI ((inL its lo hi).length))<|lx rfl<|Ng<|sL (fun (i,N51,nc51)=>i≤(inL its lo hi).length) (fun (i,N51,nc51)=>(inL its lo hi).length - i) (fun (i,N51,nc51)=>[(3,(vP bo 0)),(5,(vP b5 0)),(8,(.map (some m14))),(9,(vP b9 0)),(37,(vL B37 (inL its lo hi) cb37)),(38,(vI ((inL its lo hi).length))),(39,(vI i))]) (fun (i,N51,nc51)=>[aB bo 120 [(vL R (ps) rc),(vL N (nl) nc),(vL O (ol) oc)],cP R (ps) rc,cS N (nl) nc,cS O (ol) oc,aB b5 108 [(vS lo),(vS hi)],aB b6 124 [(vL A1 xs c1)],aM m14 (xs),aB b9 127 [(vL N51 (aH ((inL its lo hi).take i) xs) nc51),(vL N32 (aH xs its) nc32)],cS N51 (aH ((inL its lo hi).take i) xs) nc51,cS N32 (aH xs its) nc32]) (0,none,0) (Nat.zero_le _) (fun w hM=>by show Mm _ _ [aB bo 120 [(vL R (ps) rc),(vL N (nl) nc),(vL O (ol) oc)],cP R (ps) rc,cS N (nl) nc,cS O (ol) oc,aB b5 108 [(vS lo),(vS hi)],aB b6 124 [(vL A1 xs c1)],aM m14 (xs),aB b9 127 [(vL none (aH ((inL its lo hi).take 0) xs) 0),(vL N32 (aH xs its) nc32)],cS none (aH ((inL its lo hi).take 0) xs) 0,cS N32 (aH xs its) nc32] w; exact hM) ?_
  rintro ⟨i,N51,nc51⟩ (hok:i≤(inL its lo hi).length)
  dsimp only
  refine Nc<|lk (.bool (decide (((i:Nat):Int) < (((inL its lo hi).length:Nat):Int)))) ?_
  refine aS (aJ (aQ (bR rfl (fun hc40=>?_) (fun hc40=>?_))))
  ·have hd40:=of_decide_eq_true hc40
   refine Nm<|aE ?_
   obtain ⟨x0,hx0⟩:∃ ξ,(inL its lo hi)[i]?=some ξ:=⟨_,List.getElem?_eq_getElem (by omega)⟩
   refine St.eE (fun w hM=>rs37.now hM) (eG hx0) (fun p41 q41 hA41 hc41=>lw (vP p41 (q41+i)) (rR 9 hA41)<|lW (rW hc41)<|lx rfl<|Nb<|lx rfl<|lw (.bool (xs.contains x0)) (Hc 6 rfl rfl rfl rfl (by have:=(hs.1 _ (List.mem_filter.1 (List.mem_of_getElem? hx0)).1); omega))<|lk (.bool (!(xs.contains x0))) ?_)
   refine aS (aJ (bR rfl (fun hc46=>?_) (fun hc46=>?_)))
   ·refine aE<|lk (vP b9 0)<|lL 7 rfl<|lx rfl<|Nx<|pN 1 9 [(vS x0)] fun b50=>Nx<|fJ kB 8 ([(vS x0)]) rfl rfl kr rfl rfl rfl (rfl) (kA (i:=10) rfl (fun j v h=>by rw [Nat.zero_add]; exact h)) (by simp [Value.oneCell']) (by have h:=jL ((inL its lo hi).take i) xs; simp only [List.length_take] at h; omega) ((aH ((inL its lo hi).take i) xs++[x0]).length) fN (SS (aH ((inL its lo hi).take i) xs++[x0])) (by simp [SS]) (fun A51 c51=>lk (vP b9 0)<|Nx<|pS 7 rfl<|Nk<|aE<|lw (vI (i+1)) bJ<|lx rfl<|Na ?_)
    rw [show aH ((inL its lo hi).take i) xs++[x0]=aH ((inL its lo hi).take (i+1)) xs from by rw [xI hx0 (by simpa using hc46)]]
    exact sA (i+1,A51,c51) (by show _≤_; omega) (by show (inL its lo hi).length - (i+1) < (inL its lo hi).length - i; omega) (fun w hM=>(hM.pick [0,1,2,3,4,5,6,7,8,9] rfl rfl))
   ·refine Nw<|aE<|lw (vI (i+1)) bJ<|lx rfl<|Na ?_
    rw [show aH ((inL its lo hi).take i) xs=aH ((inL its lo hi).take (i+1)) xs from by rw [xJ hx0 (by simpa using hc46)]]
    exact sA (i+1,N51,nc51) (by show _≤_; omega) (by show (inL its lo hi).length - (i+1) < (inL its lo hi).length - i; omega) (fun w hM=>hM)
  ·have hd40:=of_decide_eq_false hc40
   obtain rfl:i=(inL its lo hi).length:=by omega
   rw [List.take_length]
   refine Nj ?_
   have hw1:=jL xs its; have hw2:=jL (inL its lo hi) xs
   refine dN _ 10 kr (fun _ h=>h.pick [0,1,3,4,5,6,7,8,9] rfl rfl)<|am 0 ?_
   refine am 1 ?_
   refine aC 2 (vP bo 0) rfl<|aC 3 (vP bo 1) rfl<|al 4 0 ?_
   refine aC 5 (vP b9 1) rfl<|al 6 6 ?_
   refine aA 7 rfl ?_
   refine fJ kB 2 (SS (aH xs its)) rfl rfl (by kernel_rfl) rfl rfl rfl (by simp) (fun w hM=>eQ.mC (mG (i:=9) rfl w hM)) (zU) (by omega) ((nl++(aH xs its)).length) (by first | exact (List.length_append ..).symm | (simp; done) | (simp; omega)) (SS (nl++(aH xs its))) (by simp [SS]) (fun A61 c61=>?_)
   dsimp only [bC,List.set,List.cons_append,List.nil_append]
   refine cN _ (fun _ h=>h) (fun _ h=>h.pick [0,1,3,4,5,6,7,8,9] rfl rfl)<|aC 8 (vP bo 0) rfl<|aC 9 (vP bo 1) rfl<|aA 10 rfl<|pS 0 rfl<|oC kr rfl<|aJ<|aQ<|dN _ 10 kr (fun _ h=>h.pick [0,1,2,4,5,6,7,8,9] rfl rfl)<|am 0 ?_
   refine am 1 ?_
   refine aC 2 (vP bo 0) rfl<|aC 3 (vP bo 2) rfl<|al 4 0 ?_
   refine aC 5 (vP b9 0) rfl<|al 6 6 ?_
   refine aA 7 rfl ?_
   refine fJ kB 3 (SS (aH (inL its lo hi) xs)) rfl rfl (by kernel_rfl) rfl rfl rfl (by simp) (fun w hM=>eQ.mC (mG (i:=8) rfl w hM)) (zU) (by omega) ((ol++(aH (inL its lo hi) xs)).length) (by first | exact (List.length_append ..).symm | (simp; done) | (simp; omega)) (SS (ol++(aH (inL its lo hi) xs))) (by simp [SS]) (fun A71 c71=>?_)
   refine cN _ (fun _ h=>h) (fun _ h=>h.pick [0,1,2,4,5,6,7,8,9] rfl rfl)<|aC 8 (vP bo 0) rfl<|aC 9 (vP bo 2) rfl ?_
   refine aA 10 rfl<|pS 0 rfl<|oC kr rfl<|aJ<|aQ ?_
   dsimp only [bC,List.set,List.cons_append,List.nil_append]
   refine aE<|lk (vP b9 0)<|lL 7 rfl<|lk (vI ((aH (inL its lo hi) xs).length))<|lk (vP b9 1)<|lL 7 rfl<|lk (vI ((aH xs its).length))<|lw (vI ((aH (inL its lo hi) xs).length+(aH xs its).length)) bJ<|lk (.bool (decide ((((aH (inL its lo hi) xs).length+(aH xs its).length:Nat):Int) > 0))) ?_
   refine aS (aJ (bR rfl (fun hc81=>?_) (fun hc81=>?_)))
   ·have hd81:=of_decide_eq_true hc81
    refine dN _ 13 kr (fun _ h=>h.pick [0,2,3,4,5,6,7,8,9] rfl rfl)<|am 0 ?_
    refine am 1 ?_
    refine aC 2 (vP bo 0) rfl<|aC 3 (vP bo 0) rfl<|al 4 0 ?_
    refine aV 5 _ rfl (rA 3 [(vS lo),(vS hi)])<|aV 6 _ rfl (rA 6 [(vL N51 (aH (inL its lo hi) xs) nc51),(vL N32 (aH xs its) nc32)])<|aC 7 (.iface 127 (.agg #[(vL N51 (aH (inL its lo hi) xs) nc51),(vL N32 (aH xs its) nc32)])) rfl<|aC 8 (.agg #[(vS lo),(vS hi),(.iface 127 (.agg #[(vL N51 (aH (inL its lo hi) xs) nc51),(vL N32 (aH xs its) nc32)]))]) rfl<|aA 9 rfl<|pN 1 115 [(vS lo),(vS hi),(.iface 127 (.agg #[(vL N51 (aH (inL its lo hi) xs) nc51),(vL N32 (aH xs its) nc32)]))] fun b91=>cN _ (fun _ h=>h.pick [0,1,2,3,4,5,6,7,8] rfl rfl) (fun _ h=>h.pick [0,2,3,4,5,6,7,8,9,10] rfl rfl) ?_
    refine aA 10 rfl ?_
    refine fJ uW 1 ([(vS lo),(vS hi),(.iface 127 (.agg #[(vL N51 (aH (inL its lo hi) xs) nc51),(vL N32 (aH xs its) nc32)]))]) rfl rfl (by kernel_rfl) rfl rfl rfl (rfl) (kA (i:=10) rfl (fun j v h=>by rw [Nat.zero_add]; exact h)) (by intro u hu; exact Ax (ps:=[PV.mk lo hi (.ans N51 nc51 (aH (inL its lo hi) xs) N32 nc32 (aH xs its))]) u hu) (by omega) ((ps++[PV.mk lo hi (.ans N51 nc51 (aH (inL its lo hi) xs) N32 nc32 (aH xs its))]).length) (by first | exact (List.length_append ..).symm | (simp; done) | (simp; omega)) (PS (ps++[PV.mk lo hi (.ans N51 nc51 (aH (inL its lo hi) xs) N32 nc32 (aH xs its))])) ((uV _ ([PV.mk lo hi (.ans N51 nc51 (aH (inL its lo hi) xs) N32 nc32 (aH xs its))])).symm) (fun A92 c92=>?_)
    refine cN _ (fun _ h=>h) (fun _ h=>h.pick [0,2,3,4,5,6,7,8,9,10] rfl rfl) ?_
    refine aC 11 (vP bo 0) rfl<|aC 12 (vP bo 0) rfl<|aA 13 rfl<|pS 0 rfl ?_
    dsimp only [bC,List.set,List.cons_append,List.nil_append]
    refine oC kr rfl<|jY [] rfl trivial (fun w hM=>?_)
    replace hM:Mm _ _ [aB bo 120 [(vL A92 (ps++[PV.mk lo hi (.ans N51 nc51 (aH (inL its lo hi) xs) N32 nc32 (aH xs its))]) c92),(vL A61 (nl++(aH xs its)) c61),(vL A71 (ol++(aH (inL its lo hi) xs)) c71)],cP A92 (ps++[PV.mk lo hi (.ans N51 nc51 (aH (inL its lo hi) xs) N32 nc32 (aH xs its))]) c92,cS A61 (nl++(aH xs its)) c61,cS A71 (ol++(aH (inL its lo hi) xs)) c71,aB b5 108 [(vS lo),(vS hi)],aB b6 124 [(vL A1 xs c1)],aM m14 (xs),aB b9 127 [(vL N51 (aH (inL its lo hi) xs) nc51),(vL N32 (aH xs its) nc32)],dF ([(N51,aH (inL its lo hi) xs)]),cS N32 (aH xs its) nc32,aB b91 115 [(vS lo),(vS hi),(.iface 127 (.agg #[(vL N51 (aH (inL its lo hi) xs) nc51),(vL N32 (aH xs its) nc32)]))]] w:=hM.tQ 8 rfl
    replace hM:Mm _ _ [aB bo 120 [(vL A92 (ps++[PV.mk lo hi (.ans N51 nc51 (aH (inL its lo hi) xs) N32 nc32 (aH xs its))]) c92),(vL A61 (nl++(aH xs its)) c61),(vL A71 (ol++(aH (inL its lo hi) xs)) c71)],cP A92 (ps++[PV.mk lo hi (.ans N51 nc51 (aH (inL its lo hi) xs) N32 nc32 (aH xs its))]) c92,cS A61 (nl++(aH xs its)) c61,cS A71 (ol++(aH (inL its lo hi) xs)) c71,aB b5 108 [(vS lo),(vS hi)],aB b6 124 [(vL A1 xs c1)],aM m14 (xs),aB b9 127 [(vL N51 (aH (inL its lo hi) xs) nc51),(vL N32 (aH xs its) nc32)],dF ([(N51,aH (inL its lo hi) xs)]),dF ([(N32,aH xs its)]),aB b91 115 [(vS lo),(vS hi),(.iface 127 (.agg #[(vL N51 (aH (inL its lo hi) xs) nc51),(vL N32 (aH xs its) nc32)]))]] w:=hM.tQ 9 rfl
    refine ⟨A92,c92,[PV.mk lo hi (.ans N51 nc51 (aH (inL its lo hi) xs) N32 nc32 (aH xs its))],A61,c61,A71,c71,[(N51,aH (inL its lo hi) xs),(N32,aH xs its)],rfl,Mm.join (cs:=[_,_,_,_]) (L:=[(N51,aH (inL its lo hi) xs)]) (M:=[(N32,aH xs its)]) ?_,?_,?_⟩
    ·exact (hM.pick [0,1,2,3,8,9] rfl rfl)
    ·rw [gW,if_pos (by have:=of_decide_eq_true hc81; omega)]; rfl
    ·intro p hp r hr; rw [List.mem_singleton.1 hp] at hr; exact .inl hr
   ·have hd81:=of_decide_eq_false hc81
    refine jF<|jY [] rfl trivial (fun w hM=>?_)
    replace hM:Mm _ _ [aB bo 120 [(vL R (ps) rc),(vL A61 (nl++(aH xs its)) c61),(vL A71 (ol++(aH (inL its lo hi) xs)) c71)],cP R (ps) rc,cS A61 (nl++(aH xs its)) c61,cS A71 (ol++(aH (inL its lo hi) xs)) c71,aB b5 108 [(vS lo),(vS hi)],aB b6 124 [(vL A1 xs c1)],aM m14 (xs),aB b9 127 [(vL N51 (aH (inL its lo hi) xs) nc51),(vL N32 (aH xs its) nc32)],dF ([(N51,aH (inL its lo hi) xs)]),cS N32 (aH xs its) nc32] w:=hM.tQ 8 rfl
    replace hM:Mm _ _ [aB bo 120 [(vL R (ps) rc),(vL A61 (nl++(aH xs its)) c61),(vL A71 (ol++(aH (inL its lo hi) xs)) c71)],cP R (ps) rc,cS A61 (nl++(aH xs its)) c61,cS A71 (ol++(aH (inL its lo hi) xs)) c71,aB b5 108 [(vS lo),(vS hi)],aB b6 124 [(vL A1 xs c1)],aM m14 (xs),aB b9 127 [(vL N51 (aH (inL its lo hi) xs) nc51),(vL N32 (aH xs its) nc32)],dF ([(N51,aH (inL its lo hi) xs)]),dF ([(N32,aH xs its)])] w:=hM.tQ 9 rfl
    refine ⟨R,rc,[],A61,c61,A71,c71,[(N51,aH (inL its lo hi) xs),(N32,aH xs its)],rfl,Mm.join (cs:=[_,_,_,_]) (L:=[(N51,aH (inL its lo hi) xs)]) (M:=[(N32,aH xs its)]) ?_,?_,?_⟩
    ·rw [List.append_nil]; exact (hM.pick [0,1,2,3,8,9] rfl rfl)
    ·rw [gW,if_neg (by have:=of_decide_eq_false hc81; omega)]; rfl
    ·exact fY.nil
theorem EX (bw:Nat) (A:Option Addr) (c:Nat) (xs:List UInt8) (A1:Option Addr) (c1:Nat) (l:List (List UInt8)) (w:World) (hO:bO [aB bw 140 [(vL A (xs) c),(vi 0)],cB A (xs) c] w) (r0:Rf [aB bw 140 [(vL A (xs) c),(vi 0)],cB A (xs) c] w (fun w=>aF w A1 (SS l))) (hl:l.length≤16384) (h32:∀ x∈l,x.length=32) (hx:xs.length≤4294400000) :
  Calls Tryz.prog 183 #[(vP bw 0),(vL A1 l c1)] w fun e w'=>∃ (A2:Option Addr) (c2:Nat),e = .returned (.tuple #[])∧aK [aB bw 140 [(vL A (xs) c),(vi 0)],cB A (xs) c] w [aB bw 140 [(vL A2 (xs++(aD l.length++l.flatten)) c2),(vi 0)],cB A2 (xs++(aD l.length++l.flatten)) c2] w':=by
 refine bG Tryz.func183 20 (hO) rfl<|Nc<|lx rfl<|lk (vI l.length)<|Nx<|eV [0,1] (fun w hM hO=>xR bw A c xs l.length w hO om om) fun A29 c29=>Nb<|lx rfl<|lk (vI l.length)<|lx rfl<|Ng<|sL (fun (i,AX,cX)=>i≤l.length) (fun (i,AX,cX)=>l.length - i) (fun (i,AX,cX)=>[(0,(vP bw 0)),(10,(vL A1 l c1)),(11,(vI l.length)),(12,(vI i))]) (fun (i,AX,cX)=>[aB bw 140 [(vL AX (xs++aD l.length++(l.take i).flatten) cX),(vi 0)],cB AX (xs++aD l.length++(l.take i).flatten) cX]) (0,A29,c29) (Nat.zero_le _) (fun w hM=>by show Mm _ _ [aB bw 140 [(vL A29 (xs++aD l.length++(l.take 0).flatten) c29),(vi 0)],cB A29 (xs++aD l.length++(l.take 0).flatten) c29] w; rw [show xs++aD l.length++(l.take 0).flatten=xs++aD l.length from List.append_nil _]; exact hM) ?_
 rintro ⟨i,AX,cX⟩ (hok:i≤l.length)
 dsimp only
 refine Nc<|lk (.bool (decide (((i:Nat):Int) < ((l.length:Nat):Int)))) ?_
 refine aS (aJ (aQ (bR rfl (fun hc13=>?_) (fun hc13=>?_))))
 ·have hd13:=of_decide_eq_true hc13
  have hfl:=Av (l.take i) (fun x hx=>h32 x (List.mem_of_mem_take hx)); rw [List.length_take] at hfl; have hnl:=eJ l.length om
  refine Nm<|aE ?_
  obtain ⟨x0,hx0⟩:∃ ξ,(l)[i]?=some ξ:=⟨_,List.getElem?_eq_getElem om⟩
  refine St.eE (fun w hM=>r0.now hM) (eG hx0) (fun p14 q14 hA14 hc14=>lw (vP p14 (q14+i)) (rR 9 hA14)<|lW (rW hc14)<|lx rfl<|Nv<|lx rfl<|Nx<|eV [0,1] (fun w hM hO=>xS bw AX cX (xs++aD l.length++(l.take i).flatten) x0 w hO (h32 _ (List.mem_of_getElem? hx0)) (by simp only [List.length_append]; omega)) fun A218 c218=>Nk<|aE<|lw (vI (i+1)) bJ<|lx rfl<|Na ?_)
  rw [show (xs++aD l.length++(l.take i).flatten)++x0=xs++aD l.length++(l.take (i+1)).flatten from by rw [List.append_assoc,QR hx0]]
  exact sA (i+1,A218,c218) (by show _≤_; omega) (by show l.length - (i+1) < l.length - i; omega) (fun w hM=>hM)
 ·have hd13:=of_decide_eq_false hc13
  obtain rfl:i=l.length:=om
  rw [List.take_length]
  refine Nr<|lN<|jY [] rfl trivial (fun w hM=>⟨AX,cX,rfl,?_⟩)
  rw [← List.append_assoc]
  exact hM
theorem Wd (bw:Nat) (A:Option Addr) (c:Nat) (xs:List UInt8) (n:Nat) (f:List UInt8) (w:World) (hO:bO [aB bw 140 [(vL A (xs) c),(vi 0)],cB A (xs) c] w) (hn:n≤16384) (hf:f.length=32) (hx:xs.length≤4293800000) :
  Calls Tryz.prog 179 #[(.agg #[(vI n),(vS f)]),(vP bw 0)] w fun e w'=>∃ (A2:Option Addr) (c2:Nat),e = .returned (.tuple #[])∧aK [aB bw 140 [(vL A (xs) c),(vi 0)],cB A (xs) c] w [aB bw 140 [(vL A2 (xs++((aD 1++aD n)++f)) c2),(vi 0)],cB A2 (xs++((aD 1++aD n)++f)) c2] w':=by
 refine bG Tryz.func179 14 (hO) rfl<|Nc<|Nx<|pB [(vI n),(vS f)] fun b2=>Nb<|lx rfl<|Nx<|eV [0,1] (fun w hM hO=>vE bw A c xs 1 w hO om om) fun A25 c25=>?_
 have hn1:=eJ 1 om; have hn2:=eJ n om
 refine Nb<|lx rfl<|lk (vP b2 0)<|lL 2 rfl<|Nx<|eV [0,1] (fun w hM hO=>xR bw A25 c25 (xs++aD 1) n w hO om (by simp only [List.length_append]; omega)) fun A29 c29=>Nv<|lx rfl<|lk (vP b2 1)<|lL 2 rfl<|Nx<|eV [0,1] (fun w hM hO=>xS bw A29 c29 ((xs++aD 1)++aD n) f w hO ag (by simp only [List.length_append]; omega)) fun A213 c213=>aS<|jY [] rfl trivial (fun w hM=>⟨A213,c213,rfl,?_⟩)
 simp only [← List.append_assoc] at hM ⊢
 exact (hM.pick [0,1] rfl rfl)
theorem We (bw:Nat) (A:Option Addr) (c:Nat) (xs:List UInt8) (A1:Option Addr) (c1:Nat) (l:List (List UInt8)) (w:World) (hO:bO [aB bw 140 [(vL A (xs) c),(vi 0)],cB A (xs) c] w) (r0:Rf [aB bw 140 [(vL A (xs) c),(vi 0)],cB A (xs) c] w (fun w=>aF w A1 (SS l))) (hl:l.length≤16384) (h32:∀ x∈l,x.length=32) (hx:xs.length≤4293800000) :
  Calls Tryz.prog 181 #[(.agg #[(vL A1 l c1)]),(vP bw 0)] w fun e w'=>∃ (A2:Option Addr) (c2:Nat),e = .returned (.tuple #[])∧aK [aB bw 140 [(vL A (xs) c),(vi 0)],cB A (xs) c] w [aB bw 140 [(vL A2 (xs++(aD 2++(aD l.length++l.flatten))) c2),(vi 0)],cB A2 (xs++(aD 2++(aD l.length++l.flatten))) c2] w':=by
 refine bG Tryz.func181 10 (hO) rfl<|Nc<|Nx<|pB [(vL A1 l c1)] fun b2=>Nb<|lx rfl<|Nx<|eV [0,1] (fun w hM hO=>vE bw A c xs 2 w hO om om) fun A25 c25=>?_
 have hn1:=eJ 2 om
 refine Nv<|lx rfl<|lk (vP b2 0)<|lL 2 rfl<|Nx<|eV [0,1] (fun w hM hO=>EX bw A25 c25 (xs++aD 2) A1 c1 l w hO (r0.bP hM [0,1]) om ag (by simp only [List.length_append]; omega)) fun A29 c29=>aS<|jY [] rfl trivial (fun w hM=>⟨A29,c29,rfl,?_⟩)
 simp only [← List.append_assoc] at hM ⊢
 exact (hM.pick [0,1] rfl rfl)
theorem Wf (bw:Nat) (A:Option Addr) (c:Nat) (xs:List UInt8) (A1:Option Addr) (c1:Nat) (l:List (List UInt8)) (A3:Option Addr) (c3:Nat) (m:List (List UInt8)) (w:World) (hO:bO [aB bw 140 [(vL A (xs) c),(vi 0)],cB A (xs) c] w) (r0:Rf [aB bw 140 [(vL A (xs) c),(vi 0)],cB A (xs) c] w (fun w=>aF w A1 (SS l))) (r1:Rf [aB bw 140 [(vL A (xs) c),(vi 0)],cB A (xs) c] w (fun w=>aF w A3 (SS m))) (hl:l.length≤16384) (h32:∀ x∈l,x.length=32) (hm:m.length≤16384) (hm32:∀ x∈m,x.length=32) (hx:xs.length≤4293800000) :
  Calls Tryz.prog 186 #[(.agg #[(vL A1 l c1),(vL A3 m c3)]),(vP bw 0)] w fun e w'=>∃ (A2:Option Addr) (c2:Nat),e = .returned (.tuple #[])∧aK [aB bw 140 [(vL A (xs) c),(vi 0)],cB A (xs) c] w [aB bw 140 [(vL A2 (xs++((aD 3++(aD l.length++l.flatten))++(aD m.length++m.flatten))) c2),(vi 0)],cB A2 (xs++((aD 3++(aD l.length++l.flatten))++(aD m.length++m.flatten))) c2] w':=by
 refine bG Tryz.func186 14 (hO) rfl<|Nc<|Nx<|pB [(vL A1 l c1),(vL A3 m c3)] fun b2=>Nb<|lx rfl<|Nx<|eV [0,1] (fun w hM hO=>vE bw A c xs 3 w hO om om) fun A25 c25=>?_
 have hn1:=eJ 3 om; have hn2:=eJ l.length om; have hfl:=Av l h32
 refine Nb<|lx rfl<|lk (vP b2 0)<|lL 2 rfl<|Nx<|eV [0,1] (fun w hM hO=>EX bw A25 c25 (xs++aD 3) A1 c1 l w hO (r0.bP hM [0,1]) om ag (by simp only [List.length_append]; omega)) fun A29 c29=>Nv<|lx rfl<|lk (vP b2 1)<|lL 2 rfl<|Nx<|eV [0,1] (fun w hM hO=>EX bw A29 c29 ((xs++aD 3)++(aD l.length++l.flatten)) A3 c3 m w hO (r1.bP hM [0,1]) om ag (by simp only [List.length_append]; omega)) fun A213 c213=>aS<|jY [] rfl trivial (fun w hM=>⟨A213,c213,rfl,?_⟩)
 simp only [← List.append_assoc] at hM ⊢
 exact (hM.pick [0,1] rfl rfl)
theorem Wg (v:CV) (hfit:v.abs.fit) (bw:Nat) (A:Option Addr) (c:Nat) (xs:List UInt8) (w:World) (hO:bO [aB bw 140 [(vL A (xs) c),(vi 0)],cB A (xs) c] w) (r:Rf [aB bw 140 [(vL A (xs) c),(vi 0)],cB A (xs) c] w (fun w=>∀ q∈v.rows,aF w q.1 (SS q.2))) (hx:xs.length≤4293800000) :
  Calls Tryz.prog v.MA #[v.Mz,vP bw 0] w fun e w'=>∃ (A2:Option Addr) (c2:Nat),e = .returned (.tuple #[])∧aK [aB bw 140 [(vL A (xs) c),(vi 0)],cB A (xs) c] w [aB bw 140 [(vL A2 (xs++v.abs.enc) c2),(vi 0)],cB A2 (xs++v.abs.enc) c2] w':=by
 cases v with
 | sum n f=>exact Wd bw A c xs n f w hO hfit.1 hfit.2 hx
 | list A1 c1 l=>exact We bw A c xs A1 c1 l w hO (r.imp fun _ h=>h (A1,l) (by simp [CV.rows])) hfit.1 hfit.2 hx
 | ans A1 c1 l A3 c3 m=>exact Wf bw A c xs A1 c1 l A3 c3 m w hO (r.imp fun _ h=>h (A1,l) (by simp [CV.rows])) (r.imp fun _ h=>h (A3,m) (by simp [CV.rows])) hfit.1.1 hfit.1.2 hfit.2.1 hfit.2.2 hx
theorem Wh (A1:Option Addr) (c1:Nat) (ps:List PV) (w:World) (h0:ps.length=0) :
  Calls Tryz.prog 58 #[(vL A1 ps c1)] w fun e w'=>e = .returned (.tuple #[nS,(vi 0)])∧aK [] w [] w':=by
 exact eH Tryz.func58 40 (Mm.start w []) rfl<|Nc<|lx rfl<|Ne<|lx rfl<|lk (vI ps.length)<|lk (.bool ((((ps.length:Nat):Int):Int) == 0))<|Na<|rV rfl (by simp [h0])<|Nc<|lx rfl<|Nh<|sN [nS,(vi 0)] fun w hM=>⟨rfl,hM⟩
theorem Wi (A1:Option Addr) (c1:Nat) (ps:List PV) (w:World) (r0:Rf [] w (fun w=>aF w A1 (PS ps))) (r1:Rf [] w (Ay ps)) (hfit:∀ p∈ps.map PV.abs,p.fit) (hne:ps.length≠0) (hsz:(bS (ps.map PV.abs)).length≤1048576) :
  Calls Tryz.prog 58 #[(vL A1 ps c1)] w fun e w'=>∃ (B:Option Addr) (cb:Nat),e = .returned (.tuple #[(vL B (bS (ps.map PV.abs)) cb),(vi 0)])∧aK [] w [cB B (bS (ps.map PV.abs)) cb] w':=by
 refine eH Tryz.func58 40 (Mm.start w []) rfl<|Nc<|lx rfl<|Ne<|lx rfl<|lk (vI ps.length)<|lk (.bool ((((ps.length:Nat):Int):Int) == 0))<|Na<|eF rfl (by simpa using hne)<|Ni<|Nx<|fP (fun w hM=>AN  w ) fun bw10=>lx rfl<|Nf ?_
 have henc:bS (ps.map PV.abs)=aD ps.length++(ps.map PV.abs).flatMap AP.enc:=by rw [bS,if_neg (by simpa using hne),List.length_map]
 have hel:(aD ps.length).length+((ps.map PV.abs).flatMap AP.enc).length≤4293800000:=by have e:=congrArg List.length henc; rw [List.length_append] at e; omega
 have hpl:ps.length≤((ps.map PV.abs).flatMap AP.enc).length:=by rw [← List.length_map (f:=PV.abs)]; exact Dn _
 have hnb:cW.length=0:=rfl
 refine St.mem (fun w hM=>hM.jD 5 1)<|aE<|lx rfl<|lk (vI ps.length)<|Nx<|eV [0,1] (fun w hM hO=>xR bw10 none 0 cW ps.length w hO om om) fun A214 c214=>Ne<|lx rfl<|lk (vI ps.length)<|lx rfl<|Ng<|sL (fun (i,AX,cX)=>i≤ps.length) (fun (i,AX,cX)=>ps.length - i) (fun (i,AX,cX)=>[(2,nS),(3,(vi 0)),(4,(vP bw10 0)),(15,(vL A1 ps c1)),(16,(vI ps.length)),(17,(vI i))]) (fun (i,AX,cX)=>[aB bw10 140 [(vL AX (cW++aD ps.length++((ps.map PV.abs).take i).flatMap AP.enc) cX),(vi 0)],cB AX (cW++aD ps.length++((ps.map PV.abs).take i).flatMap AP.enc) cX]) (0,A214,c214) (Nat.zero_le _) (fun w hM=>by show Mm _ _ [aB bw10 140 [(vL A214 (cW++aD ps.length++((ps.map PV.abs).take 0).flatMap AP.enc) c214),(vi 0)],cB A214 (cW++aD ps.length++((ps.map PV.abs).take 0).flatMap AP.enc) c214] w; rw [show cW++aD ps.length++((ps.map PV.abs).take 0).flatMap AP.enc=cW++aD ps.length from List.append_nil _]; exact hM) ?_
 rintro ⟨i,AX,cX⟩ (hok:i≤ps.length)
 dsimp only
 refine Nc<|lk (.bool (decide (((i:Nat):Int) < ((ps.length:Nat):Int)))) ?_
 refine aS (aJ (aQ (bR rfl (fun hc18=>?_) (fun hc18=>?_))))
 ·have hd18:=of_decide_eq_true hc18
  refine Nm<|aE ?_
  obtain ⟨x0,hx0⟩:∃ ξ,(ps)[i]?=some ξ:=⟨_,List.getElem?_eq_getElem om⟩
  refine St.zD (fun w hM=>r0.now hM) hx0 (fun p19 q19 hA19 hc19=>lw (vP p19 (q19+i*3)) (AB (e:=115) rfl kr kr rfl rfl hA19 om)<|lw (.agg #[(vS x0.lo),(vS x0.hi),x0.c.val]) (oD [(vS x0.lo),(vS x0.hi),x0.c.val] rfl rfl kr kr (hc19))<|Nx<|pA [(.string ⟨#[]⟩),(.string ⟨#[]⟩),.nilIface] fun b6=>Nx<|oE 2 [(vS x0.lo),(vS x0.hi),x0.c.val] (vs:=[(vS x0.lo),(vS x0.hi),x0.c.val]) rfl rfl kr rfl rfl rfl kr rfl si (PV.one x0) rfl ?_)
  refine Nf ?_
  have hf0:=hfit _ (List.mem_map_of_mem (List.mem_of_getElem? hx0))
  have hxa:(ps.map PV.abs)[i]?=some x0.abs:=by rw [List.getElem?_map,hx0]; rfl
  have hle:=QV hxa
  have hpe:x0.abs.enc.length=(aD x0.lo.length).length+x0.lo.length+((aD x0.hi.length).length+x0.hi.length)+x0.c.abs.enc.length:=by simp only [AP.enc,PV.abs,List.length_append]
  have hf1:x0.lo.length≤32:=hf0.1
  have hf2:x0.hi.length≤32:=hf0.2.1
  refine aE<|lx rfl<|lk (vP b6 0)<|lk (vP b6 0)<|lL 2 rfl<|Nx<|eV [0,1] (fun w hM hO=>Jj bw10 AX cX (cW++aD ps.length++((ps.map PV.abs).take i).flatMap AP.enc) x0.lo w hO om (by simp only [List.length_append]; omega)) fun A225 c225=>Nb<|lx rfl<|lk (vP b6 0)<|lk (vP b6 1)<|lL 2 rfl<|Nx<|eV [0,1] (fun w hM hO=>Jj bw10 A225 c225 ((cW++aD ps.length++((ps.map PV.abs).take i).flatMap AP.enc)++aD x0.lo.length++x0.lo) x0.hi w hO om (by simp only [List.length_append]; omega)) fun A230 c230=>Na ?_
  dsimp only [bC,List.set,List.cons_append,List.nil_append]
  refine aE<|lk (vP b6 2)<|lL 2 rfl<|lx rfl<|Nx<|fB [0,1] [aB bw10 140 [(vL A230 (((cW++aD ps.length++((ps.map PV.abs).take i).flatMap AP.enc)++aD x0.lo.length++x0.lo)++aD x0.hi.length++x0.hi) c230),(vi 0)],cB A230 (((cW++aD ps.length++((ps.map PV.abs).take i).flatMap AP.enc)++aD x0.lo.length++x0.lo)++aD x0.hi.length++x0.hi) c230] (fun w hM hO=>(Wg x0.c hf0.2.2 bw10 A230 c230 (((cW++aD ps.length++((ps.map PV.abs).take i).flatMap AP.enc)++aD x0.lo.length++x0.lo)++aD x0.hi.length++x0.hi) w hO ((r1.bP hM [0,1]).imp fun _ h=>h x0 (List.mem_of_getElem? hx0)) (by simp only [List.length_append]; omega)).mono ?_) rfl rfl rfl kr (Rj rfl rfl rfl)
  rintro e w' ⟨A34,c34,rfl,hP⟩
  refine ⟨_,[_,_],_,rfl,hP,rfl,?_⟩; clear hP hM hO
  refine Nk<|aE<|lw (vI (i+1)) bJ<|lx rfl<|Na ?_
  rw [show (((cW++aD ps.length++((ps.map PV.abs).take i).flatMap AP.enc)++aD x0.lo.length++x0.lo)++aD x0.hi.length++x0.hi)++x0.c.abs.enc=cW++aD ps.length++((ps.map PV.abs).take (i+1)).flatMap AP.enc from by rw [← ID hxa]; simp only [AP.enc,PV.abs,List.append_assoc]]
  exact sA (i+1,A34,c34) (by show _≤_; omega) (by show ps.length - (i+1) < ps.length - i; omega) (fun w hM=>(hM.pick [0,1] rfl rfl))
 ·have hd18:=of_decide_eq_false hc18
  obtain rfl:i=ps.length:=om
  rw [show (ps.map PV.abs).take ps.length=ps.map PV.abs from by rw [← List.length_map (f:=PV.abs),List.take_length]]
  refine Nj ?_
  have hxe:cW++aD ps.length++(ps.map PV.abs).flatMap AP.enc=bS (ps.map PV.abs):=by rw [henc]; rfl
  rw [hxe]
  exact aE<|lx rfl<|Nx<|eV [0,1] (fun w hM hO=>AO bw10 AX cX (bS (ps.map PV.abs)) w hO ag) fun A237 c237=>lx rfl<|Nd<|sN [(vL A237 (bS (ps.map PV.abs)) c237),(vi 0)] fun w hM=>⟨A237,c237,rfl,(hM.pick [2] rfl rfl)⟩
section
abbrev vX : List Bs := []
structure gP (its : List Bs) (fan leaf : Nat) (A : Option Addr) (pvs : List PV) (i : Nat) (rp : List PV) (nl ol : List Bs) (L : List (Option Addr × List Bs)) : Prop where
 le : i ≤ pvs.length
 rep : rp.map PV.abs = (pvs.take i).flatMap fun p => lD its fan leaf p.abs
 need : nl = (pvs.take i).flatMap fun p => iE its p.abs
 off : ol = (pvs.take i).flatMap fun p => iF its p.abs
 src : fY L A its rp
 len1 : rp.length ≤ i * 17
 len2 : nl.length ≤ i * 16384
 len3 : ol.length ≤ i * 16384
section
variable {its : List Bs} {fan leaf : Nat} {A : Option Addr} {pvs rp ps2 : List PV} {i : Nat} {nl ol : List Bs} {L M : List (Option Addr × List Bs)} {lo hi : Bs}
theorem gP.zero:gP its fan leaf A pvs 0 [] [] [] []:=⟨Nat.zero_le _,rfl,rfl,rfl,fY.nil,by rw [Nat.zero_mul]; exact Nat.le_refl 0,by rw [Nat.zero_mul]; exact Nat.le_refl 0,by rw [Nat.zero_mul]; exact Nat.le_refl 0⟩
theorem EY {α:Type} {l:List α} {i:Nat} {x:α} (h:l[i]?=some x):i+1≤l.length:=(List.getElem?_eq_some_iff.1 h).1
theorem fY.Yd (h:fY L A its rp) (k:fY [] A its ps2):fY L A its (rp++ps2):=by have:=h.append k; rwa [List.append_nil] at this
theorem LD {c:CV} (h:ps2.map PV.abs=lD its fan leaf (PV.abs ⟨lo,hi,c⟩)) (hr:tK (lD its fan leaf (PV.abs ⟨lo,hi,c⟩))):ps2.length≤17:=by rw [← List.length_map (f:=PV.abs),h]; exact hr.cnt
theorem gP.sum (h:gP its fan leaf A pvs i rp nl ol L) {n:Nat} {f:Bs} (hx:pvs[i]?=some ⟨lo,hi,.sum n f⟩) (he:ps2.map PV.abs=iQ its fan leaf lo hi n f) (hs:fY [] A its ps2) (hr:tK (lD its fan leaf (PV.abs ⟨lo,hi,.sum n f⟩))):gP its fan leaf A pvs (i+1) (rp++ps2) nl ol L:=by
 have hl:=LD (c:=.sum n f) he hr
 have h1:=h.len1
 have h2:=h.len2
 have h3:=h.len3
 refine ⟨EY hx,?_,h.need.trans (EI hx rfl),h.off.trans (EI hx rfl),h.src.Yd hs,?_,Nat.le_trans h2 (Nat.mul_le_mul_right _ (Nat.le_succ i)),Nat.le_trans h3 (Nat.mul_le_mul_right _ (Nat.le_succ i))⟩
 ·rw [List.map_append,h.rep,he]; exact tH (g:=fun p=>lD its fan leaf p.abs) hx
 ·rw [List.length_append]; omega
theorem gP.list (h:gP its fan leaf A pvs i rp nl ol L) {B:Option Addr} {c:Nat} {xs:List Bs} (hx:pvs[i]?=some ⟨lo,hi,.list B c xs⟩) (he:ps2.map PV.abs=gW its lo hi xs) (hs:fY M A its ps2) (hr:tK (lD its fan leaf (PV.abs ⟨lo,hi,.list B c xs⟩))) (hn:(iE its (PV.abs ⟨lo,hi,.list B c xs⟩)).length≤16384∧gS (iE its (PV.abs ⟨lo,hi,.list B c xs⟩))) (ho:(iF its (PV.abs ⟨lo,hi,.list B c xs⟩)).length≤16384∧gS (iF its (PV.abs ⟨lo,hi,.list B c xs⟩))) :
  gP its fan leaf A pvs (i+1) (rp++ps2) (nl++aH xs its) (ol++aH (inL its lo hi) xs) (L++M):=by
 have hl:=LD (c:=.list B c xs) he hr
 have h1:=h.len1
 have h2:=h.len2
 have h3:=h.len3
 have h4:(aH xs its).length≤16384:=hn.1
 have h5:(aH (inL its lo hi) xs).length≤16384:=ho.1
 refine ⟨EY hx,?_,?_,?_,h.src.append hs,?_,?_,?_⟩
 ·rw [List.map_append,h.rep,he]; exact tH (g:=fun p=>lD its fan leaf p.abs) hx
 ·rw [h.need]; exact tH (g:=fun p=>iE its p.abs) hx
 ·rw [h.off]; exact tH (g:=fun p=>iF its p.abs) hx
 all_goals rw [List.length_append]; omega
theorem gP.ans (h:gP its fan leaf A pvs i rp nl ol L) {B B2:Option Addr} {c c2:Nat} {xs ms:List Bs} (hx:pvs[i]?=some ⟨lo,hi,.ans B c xs B2 c2 ms⟩) (hn:(iE its (PV.abs ⟨lo,hi,.ans B c xs B2 c2 ms⟩)).length≤16384∧gS (iE its (PV.abs ⟨lo,hi,.ans B c xs B2 c2 ms⟩))) (ho:(iF its (PV.abs ⟨lo,hi,.ans B c xs B2 c2 ms⟩)).length≤16384∧gS (iF its (PV.abs ⟨lo,hi,.ans B c xs B2 c2 ms⟩))) :
  gP its fan leaf A pvs (i+1) rp (nl++aH xs its) (ol++cK ms its) L:=by
 have h1:=h.len1
 have h2:=h.len2
 have h3:=h.len3
 have h4:(aH xs its).length≤16384:=hn.1
 have h5:(cK ms its).length≤16384:=ho.1
 refine ⟨EY hx,h.rep.trans (EI hx rfl),?_,?_,h.src,om,?_,?_⟩
 ·rw [h.need]; exact tH (g:=fun p=>iE its p.abs) hx
 ·rw [h.off]; exact tH (g:=fun p=>iF its p.abs) hx
 all_goals rw [List.length_append]; omega
theorem EZ {β:Type} (g:AP→List β) {ps:List AP} (h:pvs.map PV.abs=ps):(pvs.take pvs.length).flatMap (fun p=>g p.abs)=ps.flatMap g:=by rw [← h,List.take_length,List.flatMap_map]
theorem gP.Ye (h:gP its fan leaf A pvs pvs.length rp nl ol L) {ps:List AP} (he:pvs.map PV.abs=ps):rp.map PV.abs=dV its fan leaf ps:=h.rep.trans (EZ _ he)
theorem gP.Yf (h:gP its fan leaf A pvs pvs.length rp nl ol L) {ps:List AP} (he:pvs.map PV.abs=ps):nl=ps.flatMap (iE its):=h.need.trans (EZ _ he)
theorem gP.Yg (h:gP its fan leaf A pvs pvs.length rp nl ol L) {ps:List AP} (he:pvs.map PV.abs=ps):ol=ps.flatMap (iF its):=h.off.trans (EZ _ he)
end
abbrev Fa : List PV := []
theorem LF (A1:Option Addr) (c1:Nat) (ps:List PV) (w:World) (r0:Rf [] w (fun w=>aF w A1 (PS ps))) (r1:Rf [] w (Ay ps)) (hfit:∀ p∈ps.map PV.abs,p.fit) (hsz:(bS (ps.map PV.abs)).length≤1048576) :
  Calls Tryz.prog 58 #[(vL A1 ps c1)] w fun e w'=>∃ (B:Option Addr) (cb:Nat),e = .returned (.tuple #[(vL B (bS (ps.map PV.abs)) cb),(vi 0)])∧aK [] w [cB B (bS (ps.map PV.abs)) cb] w':=by
 by_cases h0:ps.length=0
 ·refine (Wh A1 c1 ps w h0).mono ?_
  rintro e w' ⟨rfl,hB⟩
  have e0:bS (ps.map PV.abs)=[]:=by rw [bS,if_pos (by rw [List.length_map]; exact h0)]
  rw [e0]
  exact ⟨none,0,rfl,hB.jD 5 1⟩
 ·exact Wi A1 c1 ps w r0 r1 hfit h0 hsz
theorem Wj (bs:Nat) (A:Option Addr) (c:Nat) (its:List (List UInt8)) (fan leaf:Nat) (nm om:Nat) (A1:Option Addr) (c1:Nat) (D:List UInt8) (S S2:List (List UInt8)) (ps:List AP) (w:World) (hO:bO [aM nm (S),aM om (S2)] w) (r0:Rf [aM nm (S),aM om (S2)] w (bW)) (r1:Rf [aM nm (S),aM om (S2)] w (fX bs A c its fan leaf nm om)) (r2:Rf [aM nm (S),aM om (S2)] w (fun w=>aF w A1 (B8 D))) (hs:bH its) (hn:its.length≤1000) (hcap:its.length≤c) (h40:its.length≤40) (hf:2≤fan) (hf2:fan≤16) (hl1:1≤leaf) (hl2:leaf≤64) (hD:D.length≤1048576) (hS:S.length≤549755813888) (hT:S2.length≤549755813888) (hne:¬ D.length=0) (hd:jN D=some ps) (hsz:(bS (dV its fan leaf ps)).length≤1048576) :
  Calls Tryz.prog 30 #[(vP bs 0),(vL A1 D c1)] w fun e w'=>∃ (B:Option Addr) (cb:Nat),e = .returned (.tuple #[(vL B (bS (dV its fan leaf ps)) cb),(vi 0)])∧aK [aM nm (S),aM om (S2)] w [aM nm (S++ps.flatMap (iE its)),aM om (S2++ps.flatMap (iF its)),cB B (bS (dV its fan leaf ps)) cb] w':=by
 have ra:=r1.imp (fun _ h=>h.1)
 have rb:=r1.imp (fun _ h=>h.2)
 refine bG Tryz.func30 110 (hO) rfl<|Nc<|lx rfl<|Ne<|lx rfl<|lk (vI D.length)<|lk (.bool ((((D.length:Nat):Int):Int) == 0))<|Na<|eF rfl (by simpa using hne)<|Ni<|lx rfl<|Nx<|fM (fun w hM=>(Wa A1 c1 D ps w (r2.aO hM) ag ag).mono ?_)
 rintro e w' ⟨R24,rc24,pvs24,L24,rfl,hP,heq24,hsrc24⟩
 refine ⟨_,_,rfl,hP,?_⟩; clear hP hM
 obtain ⟨_,hmsg,hpl⟩:=IW hd
 have hok:∀ p∈ps,p.ok:=hmsg.2.1
 have hpl2:pvs24.length=ps.length:=by rw [← heq24,List.length_map]
 refine lx rfl<|Ne<|lx rfl<|lF<|Nn<|aE<|Nx<|pA [nS,nS,nS] fun b8=>Ne<|lx rfl<|lk (vI ((pvs24).length))<|lx rfl<|Ng<|St.mem (fun w hM=>hM.jD 115 3)<|St.mem (fun w hM=>hM.jD 9 1)<|St.mem (fun w hM=>hM.jD 9 1)<|St.mem (fun w hM=>Mm.tR hM)<|sL (fun (i,RX,rcX,rp,NX,ncX,nl,OX,ocX,ol,LX)=>gP its fan leaf A pvs24 i rp nl ol LX) (fun (i,RX,rcX,rp,NX,ncX,nl,OX,ocX,ol,LX)=>pvs24.length - i) (fun (i,RX,rcX,rp,NX,ncX,nl,OX,ocX,ol,LX)=>[(0,(vP bs 0)),(4,nS),(5,(vi 0)),(7,(vi 0)),(8,(vP b8 0)),(30,(vL R24 (pvs24) rc24)),(31,(vI ((pvs24).length))),(32,(vI i))]) (fun (i,RX,rcX,rp,NX,ncX,nl,OX,ocX,ol,LX)=>[aM nm (S),aM om (S2),cP R24 (pvs24) rc24,dF (L24),aB b8 120 [(vL RX (rp) rcX),(vL NX (nl) ncX),(vL OX (ol) ocX)],cP RX (rp) rcX,cS NX (nl) ncX,cS OX (ol) ocX,dF (LX)]) (0,none,0,Fa,none,0,vX,none,0,vX,[]) gP.zero (fun w hM=>by show Mm _ _ [aM nm (S),aM om (S2),cP R24 (pvs24) rc24,dF (L24),aB b8 120 [(vL none (Fa) 0),(vL none (vX) 0),(vL none (vX) 0)],cP none (Fa) 0,cS none (vX) 0,cS none (vX) 0,dF ([])] w; exact hM) ?_
 rintro ⟨i,RX,rcX,rp,NX,ncX,nl,OX,ocX,ol,LX⟩ (hinv:gP its fan leaf A pvs24 i rp nl ol LX)
 dsimp only
 refine Nc<|lk (.bool (decide (((i:Nat):Int) < (((pvs24).length:Nat):Int)))) ?_
 refine aS (aJ (aQ (bR rfl (fun hc33=>?_) (fun hc33=>?_))))
 ·have hd33:=of_decide_eq_true hc33
  have hil:=hinv.le; have hil1:=hinv.len1; have hil2:=hinv.len2; have hil3:=hinv.len3
  refine Nm<|aE ?_
  obtain ⟨x0,hx0⟩:∃ ξ,(pvs24)[i]?=some ξ:=⟨_,List.getElem?_eq_getElem (by omega)⟩
  refine St.zD (fun w hM=>AA (i:=2) rfl w hM) hx0 (fun p34 q34 hA34 hc34=>lv (v:=(vP p34 (q34+i*3))) (AB (e:=115) rfl (by kernel_rfl) (by kernel_rfl) rfl rfl hA34 (by omega)) ?_)
  refine lw (.agg #[(vS x0.lo),(vS x0.hi),x0.c.val]) (oD [(vS x0.lo),(vS x0.hi),x0.c.val] rfl rfl kr kr (hc34))<|Nx<|pA [(.string ⟨#[]⟩),(.string ⟨#[]⟩),.nilIface] fun b10=>Nx<|oE 9 [(vS x0.lo),(vS x0.hi),x0.c.val] (vs:=[(vS x0.lo),(vS x0.hi),x0.c.val]) rfl rfl kr rfl rfl rfl kr rfl si (PV.one x0) rfl ?_
  refine Nb<|lk (vP b10 2)<|lL 9 rfl<|Ng<|aQ ?_
  dsimp only [bC,List.set,List.cons_append,List.nil_append]
  have hp0:x0.abs.ok:=hok _ (by rw [← heq24]; exact List.mem_map_of_mem (List.mem_of_getElem? hx0))
  obtain ⟨xlo,xhi,xc⟩:=x0
  cases xc with
  | sum xn xf =>
    dsimp only [bC,List.set,List.cons_append,List.nil_append]
    refine aE<|lk (.tuple #[(.agg #[(vI xn),(vS xf)]),bT])<|lx rfl<|No<|Nx<|pA [(vi 0),(.string ⟨#[]⟩)] fun b11=>Nx<|pT 10 [(vI xn),(vS xf)] rfl<|Nv<|lx rfl<|lk (vP b10 0)<|lW (rA 9 [(vS xlo),(vS xhi)])<|lW (rA 10 [(vI xn),(vS xf)])<|Nx<|fB [4,5] _ (fun w hM hO=>(Wb bs A c its fan leaf nm om xlo xhi xn xf b8 RX rcX rp (vL NX (nl) ncX) (vL OX (ol) ocX) w hO (r0.bP hM [4,5]) (r1.bP hM [4,5]) (by assumption) (by assumption) (by assumption) (by omega) (by omega) (by omega) (by omega) (by omega)).mono ?_)
    rintro e w' ⟨R245,rc245,ps245,rfl,hP,heq45,hsrc45⟩
    refine ⟨_,[_,_],_,rfl,hP,rfl,?_⟩; clear hP hM hO
    refine Ns<|nF<|aJ<|aE<|lw (vI (i+1)) bJ<|lx rfl<|Na ?_
    have hnext:gP its fan leaf A pvs24 (i+1) (rp++ps245) nl ol LX:=hinv.sum hx0 heq45 hsrc45 (Bv hs h40 hf hf2 hl1 hp0)
    exact sA (i+1,R245,rc245,rp++ps245,NX,ncX,nl,OX,ocX,ol,LX) (hnext) (by show pvs24.length - (i+1) < pvs24.length - i; omega) (fun w hM=>(hM.pick [0,1,2,3,4,5,6,7,8] rfl rfl))
  | list XA xca xl =>
    dsimp only [bC,List.set,List.cons_append,List.nil_append]
    have hsx:(XA,xl)∈L24:=hsrc24 _ (List.mem_of_getElem? hx0) (XA,xl) (by simp [CV.rows])
    refine aE<|lk (.tuple #[(.agg #[(vi 0),(.string ⟨#[]⟩)]),bF])<|lx rfl<|Np<|aE<|lk (.tuple #[(.agg #[(vL XA xl xca)]),bT])<|lx rfl<|No<|Nx<|pA [nS] fun b12=>Nx<|pT 10 [(vL XA xl xca)] rfl<|Nv<|lx rfl<|lk (vP b10 0)<|lW (rA 9 [(vS xlo),(vS xhi)])<|lW (rA 10 [(vL XA xl xca)])<|Nx<|fB [4,5,6,7] _ (fun w hM hO=>(Wc bs A c its fan leaf nm om xlo xhi XA xca xl b8 RX rcX rp NX ncX nl OX ocX ol w hO (r1.bP hM [4,5,6,7]) (hM.cL [4,5,6,7] (j:=3) rfl (fun w h=>(h (XA,xl) hsx).1)) (by assumption) (by assumption) (by assumption) (by omega) (Nat.le_trans hp0.2.1 (by omega)) (fun x hx=>Nat.le_trans (Nat.le_of_eq (hp0.2.2.1 x hx)) (by omega)) (by omega) (by omega)).mono ?_)
    rintro e w' ⟨R253,rc253,ps253,N253,nc253,O253,oc253,L253,rfl,hP,heq53,hsrc53⟩
    refine ⟨_,[_,_,_,_],_,rfl,hP,rfl,?_⟩; clear hP hM hO
    refine Ns<|nF<|aJ<|aE<|lw (vI (i+1)) bJ<|lx rfl<|Na ?_
    have hnext:gP its fan leaf A pvs24 (i+1) (rp++ps253) (nl++aH xl its) (ol++aH (inL its xlo xhi) xl) (LX++L253):=hinv.list hx0 heq53 hsrc53 (Bv hs h40 hf hf2 hl1 hp0) (Bw hp0) (Bx hs h40 hp0)
    exact sA (i+1,R253,rc253,rp++ps253,N253,nc253,nl++aH xl its,O253,oc253,ol++aH (inL its xlo xhi) xl,LX++L253) (hnext) (by show pvs24.length - (i+1) < pvs24.length - i; omega) (fun w hM=>by show Mm _ _ [aM nm (S),aM om (S2),cP R24 (pvs24) rc24,dF (L24),aB b8 120 [(vL R253 (rp++ps253) rc253),(vL N253 (nl++aH xl its) nc253),(vL O253 (ol++aH (inL its xlo xhi) xl) oc253)],cP R253 (rp++ps253) rc253,cS N253 (nl++aH xl its) nc253,cS O253 (ol++aH (inL its xlo xhi) xl) oc253,dF (LX++L253)] w; exact Mm.join (cs:=[aM nm (S),aM om (S2),cP R24 (pvs24) rc24,dF (L24),aB b8 120 [(vL R253 (rp++ps253) rc253),(vL N253 (nl++aH xl its) nc253),(vL O253 (ol++aH (inL its xlo xhi) xl) oc253)],cP R253 (rp++ps253) rc253,cS N253 (nl++aH xl its) nc253,cS O253 (ol++aH (inL its xlo xhi) xl) oc253]) (L:=LX) (M:=L253) ((hM.pick [0,1,2,3,4,5,6,7,8,11] rfl rfl)))
  | ans XA xca xl XB xcb xm =>
    dsimp only [bC,List.set,List.cons_append,List.nil_append]
    have hsx:(XA,xl)∈L24:=hsrc24 _ (List.mem_of_getElem? hx0) (XA,xl) (by simp [CV.rows])
    have hsm:(XB,xm)∈L24:=hsrc24 _ (List.mem_of_getElem? hx0) (XB,xm) (by simp [CV.rows])
    refine aE<|lk (.tuple #[(.agg #[(vi 0),(.string ⟨#[]⟩)]),bF])<|lx rfl<|Np<|aE<|lk (.tuple #[(.agg #[nS]),bF])<|lx rfl<|Np<|aE<|lk (.tuple #[(.agg #[(vL XA xl xca),(vL XB xm xcb)]),bT])<|lx rfl<|No<|Nx<|pA [nS,nS] fun b13=>Nx<|pT 10 [(vL XA xl xca),(vL XB xm xcb)] rfl<|Nv<|lx rfl<|lW (rA 10 [(vL XA xl xca),(vL XB xm xcb)])<|Nx<|fB [4,6,7] _ (fun w hM hO=>(Te bs A c its fan leaf nm om XA xca xl XB xcb xm b8 (vL RX (rp) rcX) NX ncX nl OX ocX ol w hO (r1.bP hM [4,6,7]) (hM.cL [4,6,7] (j:=3) rfl (fun w h=>(h (XA,xl) hsx).1)) (hM.cL [4,6,7] (j:=3) rfl (fun w h=>(h (XB,xm) hsm).1)) (by assumption) (by assumption) (Nat.le_trans hp0.2.1.1 (by omega)) (Nat.le_trans hp0.2.2.1 (by omega)) (by omega) (by omega) (rfl)).mono ?_)
    rintro e w' ⟨N259,nc259,O259,oc259,rfl,hP⟩
    refine ⟨_,[_,_,_],_,rfl,hP,rfl,?_⟩; clear hP hM hO
    refine Ns<|nF<|aJ<|aE<|lw (vI (i+1)) bJ<|lx rfl<|Na ?_
    have hnext:gP its fan leaf A pvs24 (i+1) rp (nl++aH xl its) (ol++cK xm its) LX:=hinv.ans hx0 (Bw hp0) (Bx hs h40 hp0)
    exact sA (i+1,RX,rcX,rp,N259,nc259,nl++aH xl its,O259,oc259,ol++cK xm its,LX) (hnext) (by show pvs24.length - (i+1) < pvs24.length - i; omega) (fun w hM=>(hM.pick [0,1,2,3,4,5,6,7,8] rfl rfl))
 ·have hd33:=of_decide_eq_false hc33
  have hil:=hinv.le; have hil1:=hinv.len1; have hil2:=hinv.len2; have hil3:=hinv.len3
  obtain rfl:i=pvs24.length:=by omega
  have hrp':rp.map PV.abs=dV its fan leaf ps:=hinv.Ye heq24
  have hnl':nl=ps.flatMap (iE its):=hinv.Yf heq24
  have hol':ol=ps.flatMap (iF its):=hinv.Yg heq24
  have hrfit:∀ p∈rp.map PV.abs,p.fit:=by rw [hrp']; exact Vo hs h40 hf hf2 hl1 hok
  have hn32:∀ x∈nl,x.length=32:=by rw [hnl']; exact KN fun p hp=>(Bw (hok p hp)).2
  have ho32:∀ x∈ol,x.length=32:=by rw [hol']; exact KN fun p hp=>(Bx hs h40 (hok p hp)).2
  have henc:=KL hs h40 hf hf2 hl1 (leaf:=leaf) hok
  have hrl:rp.length=(dV its fan leaf ps).length:=by rw [← hrp',List.length_map]
  refine Nj<|aE<|lk (vP b8 0)<|lL 4 rfl<|Nx<|cF (fun w hM=>LF RX rcX rp w (hM.aL (j:=5) rfl (fun _ h=>Ri h)) ((Ro.and (hM.aL (j:=8) rfl (fun w h=>h)) (rb.aO hM)).imp (fun w h=>hinv.src.ok h.1 h.2)) (hrfit) (by rw [hrp']; exact hsz)) fun B64 cb64=>?_
  rw [show rp.map PV.abs=dV its fan leaf ps from hrp']
  refine lx rfl<|Nf<|aQ ?_
  dsimp only [bC,List.set,List.cons_append,List.nil_append]
  refine aE<|lx rfl<|lF<|Nn<|Nc<|lx rfl<|lk (vP bs 0)<|lk (vP bs 3)<|lW (rW (fun w hM=>At.cell (ra.now hM) 3))<|lF<|Nn<|Nc<|lk (vP b8 1)<|lL 4 rfl<|lk (vI ((nl).length))<|lx rfl<|Ng<|sL (fun j=>j≤nl.length) (fun j=>nl.length - j) (fun j=>[(0,(vP bs 0)),(4,nS),(5,(vi 0)),(8,(vP b8 0)),(14,(vL B64 (bS (dV its fan leaf ps)) cb64)),(84,(vL NX (nl) ncX)),(85,(vI ((nl).length))),(86,(vI j))]) (fun j=>[aM nm (S++nl.take j),aM om (S2),cP R24 (pvs24) rc24,dF (L24),aB b8 120 [(vL RX (rp) rcX),(vL NX (nl) ncX),(vL OX (ol) ocX)],cP RX (rp) rcX,cS NX (nl) ncX,cS OX (ol) ocX,dF (LX),cB B64 (bS (dV its fan leaf ps)) cb64]) 0 (Nat.zero_le _) (fun w hM=>by show Mm _ _ [aM nm (S++nl.take 0),aM om (S2),cP R24 (pvs24) rc24,dF (L24),aB b8 120 [(vL RX (rp) rcX),(vL NX (nl) ncX),(vL OX (ol) ocX)],cP RX (rp) rcX,cS NX (nl) ncX,cS OX (ol) ocX,dF (LX),cB B64 (bS (dV its fan leaf ps)) cb64] w; rw [List.take_zero,List.append_nil]; exact hM) ?_
  intro j hj
  show St _ _ _ [(0,(vP bs 0)),(4,nS),(5,(vi 0)),(8,(vP b8 0)),(14,(vL B64 (bS (dV its fan leaf ps)) cb64)),(84,(vL NX (nl) ncX)),(85,(vI ((nl).length))),(86,(vI j))] [aM nm (S++nl.take j),aM om (S2),cP R24 (pvs24) rc24,dF (L24),aB b8 120 [(vL RX (rp) rcX),(vL NX (nl) ncX),(vL OX (ol) ocX)],cP RX (rp) rcX,cS NX (nl) ncX,cS OX (ol) ocX,dF (LX),cB B64 (bS (dV its fan leaf ps)) cb64] _
  refine Nc<|lk (.bool (decide (((j:Nat):Int) < (((nl).length:Nat):Int)))) ?_
  refine aS (aJ (aQ (bR rfl (fun hc87=>?_) (fun hc87=>?_))))
  ·have hd87:=of_decide_eq_true hc87
   refine Nm<|aE ?_
   obtain ⟨x0,hx0⟩:∃ ξ,(nl)[j]?=some ξ:=⟨_,List.getElem?_eq_getElem (by omega)⟩
   refine St.eE (fun w hM=>mG (i:=6) rfl w hM) (eG hx0) (fun p88 q88 hA88 hc88=>lw (vP p88 (q88+j)) (rR 9 hA88)<|lW (rW hc88)<|lx rfl<|Nv<|lx rfl<|lk (vP bs 0)<|lk (vP bs 3)<|lW (rW (fun w hM=>At.cell (ra.now hM) 3))<|lx rfl<|Nx<|Af 0 rfl rfl kr rfl rfl rfl rfl (by have h:=hn32 _ (List.mem_of_getElem? hx0); omega) (by rw [List.length_append,List.length_take]; omega)<|Nk<|aE<|lw (vI (j+1)) bJ<|lx rfl<|Na ?_)
   rw [show S++nl.take j++[x0]=S++nl.take (j+1) from by rw [List.append_assoc,uU hx0]]
   exact sA (j+1) (by show _≤_; omega) (by show nl.length - (j+1) < nl.length - j; omega) (fun w hM=>hM)
  ·have hd87:=of_decide_eq_false hc87
   obtain rfl:j=nl.length:=by omega
   rw [List.take_length]
   refine Nj<|Nc<|lk (vP b8 2)<|lL 4 rfl<|lk (vI ((ol).length))<|lx rfl<|Ng<|sL (fun j=>j≤ol.length) (fun j=>ol.length - j) (fun j=>[(0,(vP bs 0)),(4,nS),(5,(vi 0)),(14,(vL B64 (bS (dV its fan leaf ps)) cb64)),(97,(vL OX (ol) ocX)),(98,(vI ((ol).length))),(99,(vI j))]) (fun j=>[aM nm (S++nl),aM om (S2++ol.take j),cP R24 (pvs24) rc24,dF (L24),aB b8 120 [(vL RX (rp) rcX),(vL NX (nl) ncX),(vL OX (ol) ocX)],cP RX (rp) rcX,cS NX (nl) ncX,cS OX (ol) ocX,dF (LX),cB B64 (bS (dV its fan leaf ps)) cb64]) 0 (Nat.zero_le _) (fun w hM=>by show Mm _ _ [aM nm (S++nl),aM om (S2++ol.take 0),cP R24 (pvs24) rc24,dF (L24),aB b8 120 [(vL RX (rp) rcX),(vL NX (nl) ncX),(vL OX (ol) ocX)],cP RX (rp) rcX,cS NX (nl) ncX,cS OX (ol) ocX,dF (LX),cB B64 (bS (dV its fan leaf ps)) cb64] w; rw [List.take_zero,List.append_nil]; exact hM) ?_
   intro j hj
   show St _ _ _ [(0,(vP bs 0)),(4,nS),(5,(vi 0)),(14,(vL B64 (bS (dV its fan leaf ps)) cb64)),(97,(vL OX (ol) ocX)),(98,(vI ((ol).length))),(99,(vI j))] [aM nm (S++nl),aM om (S2++ol.take j),cP R24 (pvs24) rc24,dF (L24),aB b8 120 [(vL RX (rp) rcX),(vL NX (nl) ncX),(vL OX (ol) ocX)],cP RX (rp) rcX,cS NX (nl) ncX,cS OX (ol) ocX,dF (LX),cB B64 (bS (dV its fan leaf ps)) cb64] _
   refine Nc<|lk (.bool (decide (((j:Nat):Int) < (((ol).length:Nat):Int)))) ?_
   refine aS (aJ (aQ (bR rfl (fun hc100=>?_) (fun hc100=>?_))))
   ·have hd100:=of_decide_eq_true hc100
    refine Nm<|aE ?_
    obtain ⟨x0,hx0⟩:∃ ξ,(ol)[j]?=some ξ:=⟨_,List.getElem?_eq_getElem (by omega)⟩
    refine St.eE (fun w hM=>mG (i:=7) rfl w hM) (eG hx0) (fun p101 q101 hA101 hc101=>lw (vP p101 (q101+j)) (rR 9 hA101)<|lW (rW hc101)<|lx rfl<|Nv<|lx rfl<|lk (vP bs 0)<|lk (vP bs 4)<|lW (rW (fun w hM=>At.cell (ra.now hM) 4))<|lx rfl<|Nx<|Af 1 rfl rfl kr rfl rfl rfl rfl (by have h:=ho32 _ (List.mem_of_getElem? hx0); omega) (by rw [List.length_append,List.length_take]; omega)<|Nk<|aE<|lw (vI (j+1)) bJ<|lx rfl<|Na ?_)
    rw [show S2++ol.take j++[x0]=S2++ol.take (j+1) from by rw [List.append_assoc,uU hx0]]
    exact sA (j+1) (by show _≤_; omega) (by show ol.length - (j+1) < ol.length - j; omega) (fun w hM=>hM)
   ·have hd100:=of_decide_eq_false hc100
    obtain rfl:j=ol.length:=by omega
    rw [List.take_length]
    refine Nj<|aE<|lx rfl<|Nd<|sN [(vL B64 (bS (dV its fan leaf ps)) cb64),(vi 0)] fun w hM=>⟨B64,cb64,rfl,?_⟩
    rw [← hnl',← hol']
    exact (hM.pick [0,1,9] rfl rfl)
theorem BI (bs:Nat) (A:Option Addr) (c:Nat) (its:List (List UInt8)) (fan leaf:Nat) (nm om:Nat) (A1:Option Addr) (c1:Nat) (D:List UInt8) (S S2:List (List UInt8)) (w:World) (hO:bO [aM nm (S),aM om (S2)] w) (r0:Rf [aM nm (S),aM om (S2)] w (bW)) (r1:Rf [aM nm (S),aM om (S2)] w (fX bs A c its fan leaf nm om)) (r2:Rf [aM nm (S),aM om (S2)] w (fun w=>aF w A1 (B8 D))) (hs:bH its) (hn:its.length≤1000) (hcap:its.length≤c) (h40:its.length≤40) (hf:2≤fan) (hf2:fan≤16) (hl1:1≤leaf) (hl2:leaf≤64) (hD:D.length≤1048576) (hS:S.length≤549755813888) (hT:S2.length≤549755813888) (hDn:D≠[]) (her:(cC its fan leaf D).err=0) :
  Calls Tryz.prog 30 #[(vP bs 0),(vL A1 D c1)] w fun e w'=>∃ (B:Option Addr) (cb:Nat),e = .returned (.tuple #[(vL B ((cC its fan leaf D).reply) cb),(.int .i64 (cC its fan leaf D).err)])∧aK [aM nm (S),aM om (S2)] w [aM nm (S++(cC its fan leaf D).need),aM om (S2++(cC its fan leaf D).off),cB B ((cC its fan leaf D).reply) cb] w':=by
 have h0:¬ D.length=0:=fun e=>hDn (List.eq_nil_of_length_eq_zero e)
 unfold cC at her ⊢
 rw [if_neg hDn] at her ⊢
 cases hd:jN D with
 | none=>rw [hd] at her; exact absurd her (by show ¬ (3:Int)=0; decide)
 | some ps =>
   rw [hd] at her
   dsimp only at her ⊢
   split at her
   ·exact absurd her (by show ¬ (2:Int)=0; decide)
   ·rename_i hsz
    rw [if_neg hsz]
    exact Wj bs A c its fan leaf nm om A1 c1 D S S2 ps w hO r0 r1 r2 hs hn hcap h40 hf hf2 hl1 hl2 hD hS hT h0 hd (by omega)
end
theorem Wk {its lo hi:_} {w:World}:Ay [kW its lo hi] w:=fun p hp r hr=>by rw [List.mem_singleton.1 hp] at hr; cases hr
theorem Wl {w:World} {α:Type} {f:α→Value} {l:List α} (h:aF w none (l.map f)):l=[]:=by
 cases l with
 | nil=>rfl
 | cons x l=>obtain ⟨b,o,h1,_⟩:=h 0 _ rfl; cases h1
theorem qF (A:Option Addr) (c:Nat) (l:List (List UInt8)) (w:World) (r0:Rf [] w (fun w=>aF w A (SS l))) (hl4:l.length≤4294967296) :
  Calls Tryz.prog 50 #[(vL A l c)] w fun e w'=>∃ (B:Option Addr) (cb:Nat),e = .returned (vL B l cb)∧aK [] w [cS B l cb] w':=by
 refine eH Tryz.func50 8 (Mm.start w []) rfl<|Nc<|lx rfl<|Ne<|lx rfl<|lw (.bool A.isNone) (by cases A <;> exact jG fun _=>by kernel_rfl) ?_
 refine aS (aJ (bR rfl (fun hc4=>?_) (fun hc4=>?_)))
 ·obtain rfl:A=none:=by cases A with | none=>rfl | some _=>cases hc4
  obtain rfl:l=[]:=Wl r0.here
  exact St.mem (fun w hM=>hM.jD 9 1)<|Nc<|lx rfl<|Nh<|sN [nS] fun w hM=>⟨none,0,rfl,hM⟩
 ·exact Ni<|Nx<|pN 0 9 [] fun b5=>lx rfl<|Nx<|uI (fun w hM=>hM.BQ 0 rfl 1)<|fJ kB 0 (SS l) rfl rfl kr rfl rfl rfl si (fun w hM=>eQ.mC (r0.now hM)) (zU) om ((l).length) fN (SS (l)) (by simp [SS]) (fun A7 c7=>lx rfl<|Nd<|sN [(vL A7 (l) c7)] fun w hM=>⟨A7,c7,rfl,hM⟩)
theorem BJ (A : Option Addr) (c : Nat) (l : List (List UInt8)) (fan : Nat) (leaf : Nat) (w : World) (r0 : Rf [] w (fun w => aF w A (SS l))) (hl4 : l.length ≤ 4294967296) (hp : oP (fan : Int) (leaf : Int) = true) (he : fC l = 0) :
  Calls Tryz.prog 28 #[(vL A l c), (.agg #[(vI fan), (vI leaf)])] w fun e w' => ∃ (bs : Nat) (A2 : Option Addr) (c2 : Nat) (nm : Nat) (om : Nat), e = .returned (.tuple #[(vP bs 0), (vi 0)]) ∧ aK [] w [aB bs 105 [(vL A2 l c2), (vI fan), (vI leaf), (.map (some nm)), (.map (some om))], cS A2 l c2, aM nm ([]), aM om ([])] w':=by
 refine bG Tryz.func28 22 (Mm.start w []) rfl<|Nc<|Nx<|pB [(vI fan),(vI leaf)] fun b3=>lx rfl<|Ne<|lW (rA 0 [(vI fan),(vI leaf)])<|Nx<|bN (fun w hM=>QW ((fan:Nat):Int) ((leaf:Nat):Int) w )<|lk (.bool (!(oP ((fan:Nat):Int) ((leaf:Nat):Int))))<|Na<|eF rfl (by simp [hp])<|Nl<|Nc<|lx rfl<|Nx<|bN (fun w hM=>IE A c l w (r0.aO hM) om)<|lx rfl<|Nb<|lx rfl<|lk (.bool (((fC l):Int) != 0))<|Na<|eF rfl (by simp [he]) ?_
 refine jF (aJ (FT (ι:=Option Addr × Nat × Nat × Nat × Nat) (fun _=>True) (fun (B16,cb16,m18,m19,b21)=>[(0,(vL A l c)),(1,(.agg #[(vI fan),(vI leaf)])),(3,(vP b3 0)),(4,(vP b21 0)),(5,(vi 0)),(7,(.agg #[(vI fan),(vI leaf)])),(8,(.bool (oP ((fan:Nat):Int) ((leaf:Nat):Int)))),(9,(.bool (!(oP ((fan:Nat):Int) ((leaf:Nat):Int))))),(10,(vL A l c)),(11,(vi (fC l))),(6,(vi (fC l))),(12,(vi (fC l))),(13,(.bool (((fC l):Int) != 0))),(15,(vL A l c)),(17,(.agg #[(vI fan),(vI leaf)])),(16,(vL B16 l cb16)),(18,(.map (some m18))),(19,(.map (some m19))),(20,(.agg #[(vL B16 l cb16),(vI fan),(vI leaf),(.map (some m18)),(.map (some m19))])),(21,(vP b21 0))]) (fun (B16,cb16,m18,m19,b21)=>[aB b3 33 [(vI fan),(vI leaf)],cS B16 l cb16,aM m18 ([]),aM m19 ([]),aB b21 105 [(vL B16 l cb16),(vI fan),(vI leaf),(.map (some m18)),(.map (some m19))]]) ?_ ?_))
 ·refine dN _ 9 kr (fun _ h=>h)<|am 0 ?_
  refine aV 2 _ rfl (rA 0 [(vI fan),(vI leaf)]) ?_
  refine NV (i:=1) (j:=3) (k:=4) kr rfl rfl rfl rfl rfl rfl ?_ ?_ ?_
  ·refine cF (fun w hM=>qF A c l w (r0.aO hM) om) fun B16 cb16=>?_
   dsimp only [bC,List.set,List.cons_append,List.nil_append]
   refine cN _ (fun _ h=>h.pick [0] rfl rfl) (fun _ h=>h) ?_
   refine zM (i:=3) (j:=4) kr rfl rfl rfl rfl ?_ ?_
   ·refine mS rfl rfl kr (fun m18=>cN _ (fun _ h=>h.pick [0,1] rfl rfl) (fun _ h=>h)<|aA 4 rfl<|mS rfl rfl kr (fun m19=>cN _ (fun _ h=>h.pick [0,1,2] rfl rfl) (fun _ h=>h)<|aC 5 (.agg #[(vL B16 l cb16),(vI fan),(vI leaf),(.map (some m18)),(.map (some m19))]) rfl<|aA 6 rfl<|pB [(vL B16 l cb16),(vI fan),(vI leaf),(.map (some m18)),(.map (some m19))] fun b21=>cN _ (fun _ h=>h.pick [0,1,2,3] rfl rfl) (fun _ h=>h)<|aa 7 ?_))
    refine aa 8 ?_
    exact dO kr<|aJ (sM (B16,cb16,m18,m19,b21) trivial (fun _ h=>h))
   ·refine mS rfl rfl kr (fun m19=>cN _ (fun _ h=>h.pick [0,1] rfl rfl) (fun _ h=>h)<|aA 3 rfl<|mS rfl rfl kr (fun m18=>cN _ (fun _ h=>h.pick [0,1,2] rfl rfl) (fun _ h=>h)<|aC 5 (.agg #[(vL B16 l cb16),(vI fan),(vI leaf),(.map (some m18)),(.map (some m19))]) rfl<|aA 6 rfl<|pB [(vL B16 l cb16),(vI fan),(vI leaf),(.map (some m18)),(.map (some m19))] fun b21=>?_))
    dsimp only [bC,List.set,List.cons_append,List.nil_append]
    refine cN _ (fun _ h=>h.pick [0,1,2,3] rfl rfl) (fun _ h=>h) ?_
    refine aa 7 ?_
    refine aa 8 ?_
    exact dO kr<|aJ (sM (B16,cb16,m18,m19,b21) trivial (fun _ h=>h.pick [0,1,3,2,4] rfl rfl))
  ·refine mS rfl rfl kr (fun m18=>cN _ (fun _ h=>h.pick [0] rfl rfl) (fun _ h=>h) ?_)
   refine zM (i:=1) (j:=4) kr rfl rfl rfl rfl ?_ ?_
   ·refine cF (fun w hM=>qF A c l w (r0.aO hM) om) fun B16 cb16=>cN _ (fun _ h=>h.pick [0,1] rfl rfl) (fun _ h=>h)<|aA 4 rfl<|mS rfl rfl kr (fun m19=>cN _ (fun _ h=>h.pick [0,1,2] rfl rfl) (fun _ h=>h)<|aC 5 (.agg #[(vL B16 l cb16),(vI fan),(vI leaf),(.map (some m18)),(.map (some m19))]) rfl<|aA 6 rfl<|pB [(vL B16 l cb16),(vI fan),(vI leaf),(.map (some m18)),(.map (some m19))] fun b21=>cN _ (fun _ h=>h.pick [0,1,2,3] rfl rfl) (fun _ h=>h)<|aa 7 ?_)
    refine aa 8 ?_
    exact dO kr<|aJ (sM (B16,cb16,m18,m19,b21) trivial (fun _ h=>h.pick [0,2,1,3,4] rfl rfl))
   ·refine mS rfl rfl kr (fun m19=>cN _ (fun _ h=>h.pick [0,1] rfl rfl) (fun _ h=>h)<|aA 1 rfl<|cF (fun w hM=>qF A c l w (r0.aO hM) om) fun B16 cb16=>?_)
    dsimp only [bC,List.set,List.cons_append,List.nil_append]
    refine cN _ (fun _ h=>h.pick [0,1,2] rfl rfl) (fun _ h=>h)<|aC 5 (.agg #[(vL B16 l cb16),(vI fan),(vI leaf),(.map (some m18)),(.map (some m19))]) rfl<|aA 6 rfl<|pB [(vL B16 l cb16),(vI fan),(vI leaf),(.map (some m18)),(.map (some m19))] fun b21=>cN _ (fun _ h=>h.pick [0,1,2,3] rfl rfl) (fun _ h=>h)<|aa 7 ?_
    refine aa 8 ?_
    exact dO kr<|aJ (sM (B16,cb16,m18,m19,b21) trivial (fun _ h=>h.pick [0,3,1,2,4] rfl rfl))
  ·refine mS rfl rfl kr (fun m19=>cN _ (fun _ h=>h.pick [0] rfl rfl) (fun _ h=>h) ?_)
   refine zM (i:=1) (j:=3) kr rfl rfl rfl rfl ?_ ?_
   ·refine cF (fun w hM=>qF A c l w (r0.aO hM) om) fun B16 cb16=>cN _ (fun _ h=>h.pick [0,1] rfl rfl) (fun _ h=>h)<|aA 3 rfl<|mS rfl rfl kr (fun m18=>cN _ (fun _ h=>h.pick [0,1,2] rfl rfl) (fun _ h=>h)<|aC 5 (.agg #[(vL B16 l cb16),(vI fan),(vI leaf),(.map (some m18)),(.map (some m19))]) rfl<|aA 6 rfl<|pB [(vL B16 l cb16),(vI fan),(vI leaf),(.map (some m18)),(.map (some m19))] fun b21=>cN _ (fun _ h=>h.pick [0,1,2,3] rfl rfl) (fun _ h=>h)<|aa 7 ?_)
    refine aa 8 ?_
    exact dO kr<|aJ (sM (B16,cb16,m18,m19,b21) trivial (fun _ h=>h.pick [0,2,3,1,4] rfl rfl))
   ·refine mS rfl rfl kr (fun m18=>?_)
    dsimp only [bC,List.set,List.cons_append,List.nil_append]
    refine cN _ (fun _ h=>h.pick [0,1] rfl rfl) (fun _ h=>h)<|aA 1 rfl<|cF (fun w hM=>qF A c l w (r0.aO hM) om) fun B16 cb16=>cN _ (fun _ h=>h.pick [0,1,2] rfl rfl) (fun _ h=>h)<|aC 5 (.agg #[(vL B16 l cb16),(vI fan),(vI leaf),(.map (some m18)),(.map (some m19))]) rfl<|aA 6 rfl<|pB [(vL B16 l cb16),(vI fan),(vI leaf),(.map (some m18)),(.map (some m19))] fun b21=>cN _ (fun _ h=>h.pick [0,1,2,3] rfl rfl) (fun _ h=>h)<|aa 7 ?_
    refine aa 8 ?_
    exact dO kr<|aJ (sM (B16,cb16,m18,m19,b21) trivial (fun _ h=>h.pick [0,3,2,1,4] rfl rfl))
 ·rintro ⟨B16,cb16,m18,m19,b21⟩ -
  dsimp only
  exact gQ<|iJ [(vP b21 0),(vi 0)] rfl ⟨rfl,rfl,trivial⟩ (fun w hM=>⟨b21,B16,cb16,m18,m19,rfl,(hM.pick [4,1,2,3] rfl rfl)⟩)
theorem LG (bs:Nat) (A:Option Addr) (c:Nat) (its:List (List UInt8)) (fan leaf:Nat) (nm om:Nat) (w:World) (r0:Rf [] w (bW)) (r1:Rf [] w (fX bs A c its fan leaf nm om)) (hs:bH its) (hn:its.length≤1000) (hcap:its.length≤c) (h40:its.length≤40) :
  Calls Tryz.prog 29 #[(vP bs 0)] w fun e w'=>∃ (B:Option Addr) (cb:Nat),e = .returned (vL B (bS [dG its [] []]) cb)∧aK [] w [cB B (bS [dG its [] []]) cb] w':=by
 have ra:=r1.imp (fun _ h=>h.1)
 have rb:=r1.imp (fun _ h=>h.2)
 exact eH Tryz.func29 17 (Mm.start w []) rfl<|Nc<|lx rfl<|Nb<|lk (.agg #[(.string ⟨#[]⟩),(.string ⟨#[]⟩)])<|lx rfl<|lk (.agg #[(.string ⟨#[]⟩),(.string ⟨#[]⟩)])<|Nx<|bN (fun w hM=>Aw bs A c its fan leaf nm om [] [] w (r0.aO hM) (r1.aO hM) ag ag ag)<|lk (.iface 110 (.agg #[(vI ((inL its [] []).length)),(vS (cQ (inL its [] [])))]))<|lk (.agg #[(.string ⟨#[]⟩),(.string ⟨#[]⟩),(.iface 110 (.agg #[(vI ((inL its [] []).length)),(vS (cQ (inL its [] [])))]))])<|Nx<|pN 1 115 [(.string ⟨#[]⟩),(.string ⟨#[]⟩),(.iface 110 (.agg #[(vI ((inL its [] []).length)),(vS (cQ (inL its [] [])))]))] fun b12=>Nx<|cF (fun w hM=>LF (some ⟨b12,0,none⟩) 1 ([kW its [] []]) w (hM.aL (j:=0) rfl (fun _ h=>Gn h rfl)) ((r0.aO hM).imp (fun w _=>Wk)) (fun p hp=>by rw [List.mem_singleton.1 hp]; exact (EJ h40).1) ((EJ h40).2.1)) fun B13 cb13=>lx rfl<|Nb<|lx rfl<|Nd<|sN [(vL B13 (bS (([kW its [] []]).map PV.abs)) cb13)] fun w hM=>⟨B13,cb13,rfl,(hM.pick [1] rfl rfl)⟩
section
open Go.RowKit Go.Sort Go.Shelf
open Go.Maps (setOf)
theorem Wm {S ss:List Bs} {D:DataW Unit} (hD:D=setOf (DataW.lit (.bool true)) (S.map Lit.string)) (hk:∀ p,∀ es,D = .map es→p∈es→∃ x,p.1=Lit.string x) (hp:ss.Perm (strKeys D)):ss.mergeSort (fun x y=>decide (x≤y))=bA [] S:=by
 have hlit:∀ x∈S.map Lit.string,WideAt.IsKeyLit x:=by intro y hy; obtain ⟨q,_,rfl⟩:=List.mem_map.1 hy; exact True.intro
 have hasc:=mO S
 have hnd:(bA [] S).Nodup:=hasc.imp fun {a b} h e=>by subst e; exact iY h
 obtain ⟨es,he,hpw⟩:=Maps.tidy_setOf (DataW.lit (H:=Unit) (.bool true)) (S.map Lit.string) hlit
 have hq:(bA [] S).Perm (strKeys D):=by
  rw [hD,he]
  refine perm_strKeys hpw (fun p hp=>hk p es (hD.trans he) hp) hnd fun x=>?_
  rw [← he,Maps.has_setOf _ _ _ hlit,qD,List.any_map,List.any_eq_true]
  constructor
  ·intro h
   exact ⟨x,h,WideAt.sameKey_self (a:=Lit.string x) True.intro⟩
  ·rintro ⟨q,h1,h2⟩
   have:=WideAt.sameKey_eq (show (Lit.string q).sameKey (Lit.string x)=true from h2)
   injection this with this
   rw [← this]
   exact h1
 have hps:ss.Perm (bA [] S):=hp.trans hq.symm
 have hm:=mergeSort_of_perm hps
 have hsorted:(bA [] S).mergeSort (fun x y=>decide (x≤y))=bA [] S:=by
  have tr:∀ a b c:Bs,decide (a≤b)=true→decide (b≤c)=true→decide (a≤c)=true:=fun a b c h1 h2=>by simp only [decide_eq_true_eq] at *; exact List.le_trans h1 h2
  have tot:∀ a b:Bs,(decide (a≤b) || decide (b≤a))=true:=fun a b=>by simp only [Bool.or_eq_true,decide_eq_true_eq]; exact List.le_total a b
  exact List.Perm.eq_of_pairwise (le:=fun a b=>decide (a≤b)=true) (fun a b _ _ h1 h2=>List.le_antisymm (by simpa using h1) (by simpa using h2)) (List.pairwise_mergeSort tr tot _) (hasc.imp fun {a b} h=>by simpa using List.le_of_lt h) (List.mergeSort_perm _ _)
 exact hm.trans hsorted
theorem Wn {w w':World} {e:TypeId} {v:Value} {n:Nat} {xs:List Value} (hf:Fr [] w w') (ho:w'.ownsRow w.heap.size e 1 v n xs):∃ A c,v = .slice A n c∧aK [] w [dA e 1 A n c xs] w':=by
 obtain ⟨hl,h⟩:=ho
 rcases h with ⟨rfl,rfl⟩ | ⟨g,cap,cur,rfl,hge,h1,h2,h3,h4,h5⟩
 ·exact ⟨none,0,rfl,(Mm.start w []).push (c:=dA e 1 none 0 0 xs) hf (⟨hl,.inl ⟨rfl,rfl⟩⟩) (by simp [dA,dD]) (by simp [dA,dD])⟩
 ·exact ⟨some ⟨g,0,none⟩,cap,rfl,(Mm.start w []).push (c:=dA e 1 (some ⟨g,0,none⟩) n cap xs) hf (⟨hl,.inr ⟨g,cap,cur,rfl,Nat.zero_le _,h1,h2,h3,h4,h5⟩⟩) (by simp [dA,dD]; exact hge) (by simp [dA,dD])⟩
theorem LH (nm:Nat) (w:World) :
  Calls Tryz.prog 65 #[(.map (some nm))] w fun e w'=>∃ (bk:Nat),e = .returned (.func (.func 95) #[] #[(vP bk 0)])∧aK [] w [aB bk 54 [(.map (some nm))]] w':=by
 have h:=(callsIn_wide (n:=5)).1 (AnyZ.keys_in Tryz.Mr Fence.wide 5 trivial rfl (some nm) w)
 change Calls Tryz.prog 65 _ _ _ at h
 refine h.mono ?_
 rintro e w' ⟨rfl,rfl⟩
 exact ⟨w.heap.size,rfl,(Mm.start w []).push (c:=aB w.heap.size 54 [.map (some nm)]) ((Fr.refl _ _).alloc _) (At.new w _ _) (by simp [aB]) (by simp [aB])⟩
theorem Wo (m:Nat):AnyZ.SortsIn Tryz.prog Tryz.Ms Fence.wide m :=
 ⟨fun blk off cap ss W hH hblk hsz=>callsIn_wide.2 (Tryz.slices_Sort_string blk off cap ss W hH hblk hsz),
  fun p cap W=>callsIn_wide.2 (Tryz.slices_Sort_string_none p cap W)⟩
theorem LI (bk nm:Nat) (S:List (List UInt8)) (w:World) (r0:Rf [] w (fun w=>At w bk 54 [(.map (some nm))])) (r1:Rf [] w (fun w=>eO w nm S)) (hS:S.length≤1099511627776) :
  Calls Tryz.prog 64 #[(.func (.func 95) #[] #[(vP bk 0)])] w fun e w'=>∃ (B:Option Addr) (cb:Nat),e = .returned (vL B (bA [] S) cb)∧aK [] w [cS B (bA [] S) cb] w':=by
 have hm:w.cell? ⟨bk,0,none⟩=some (.map (some nm)):=by have h:=r0.here; rw [h.cell]; rfl
 have hBm:bk < w.heap.size:=by have h:=r0.here; exact h.lt
 have hown:eO w nm S:=r1.here
 have hlen:Maps.size (setOf (DataW.lit (H:=Unit) (.bool true)) (S.map Lit.string))≤S.length:=by
  have hlit:∀ x∈S.map Lit.string,WideAt.IsKeyLit x:=by intro y hy; obtain ⟨q,_,rfl⟩:=List.mem_map.1 hy; exact True.intro
  rw [Maps.size_setOf _ _ hlit]
  have key:∀ (xs L:List Lit),(xs.foldl Maps.addKey L).length≤L.length+xs.length:=by
   intro xs
   induction xs with
   | nil=>intro L; exact Nat.le_refl _
   | cons x xs ih =>
     intro L
     refine Nat.le_trans (ih _) ?_
     unfold Maps.addKey
     split <;> simp only [List.length_append,List.length_cons,List.length_nil] <;> omega
  refine Nat.le_trans (key _ _) ?_
  simp
 have hseq:SeqGives Fence.wide 2 Tryz.prog 95 #[.pointer (some ⟨bk,0,none⟩)] encStr (fun ss=>ss.Perm (strKeys (setOf (DataW.lit (H:=Unit) (.bool true)) (S.map Lit.string)))) (Maps.size (setOf (DataW.lit (H:=Unit) (.bool true)) (S.map Lit.string))) w :=
  AnyZ.keys_gives (ρ:=Tryz.Mq) { Tryz.Mr with } Fence.wide _ trivial rfl om bk nm S.length _ w hBm hm hown
 have cS:=AnyZ.sorted_in Tryz.XI Fence.wide 5 trivial trivial trivial trivial rfl om (Wo _) (enters_of Tryz.func42 kr rfl) 95 #[vP bk 0] trivial (enters_of Tryz.func95 kr rfl) _ _ (by unfold maxLen; omega) om _ hseq
 have hC:=(callsIn_wide (n:=5)).1 cS
 change Calls Tryz.prog 64 _ _ _ at hC
 refine hC.mono ?_
 rintro e w' ⟨v,ss,rfl,hS,hrow,hnil,hb⟩
 have hes:=World.ownsMap.keysOf hown
 have he:=Wm (S:=S) (ss:=ss) rfl (fun p es e hp=>by
  obtain ⟨es',he',hk'⟩:=hes
  rw [he'] at e
  injection e with e
  obtain ⟨u,hu⟩:=hk' p (e▸hp)
  obtain ⟨x,_,hx,_⟩:=Maps.keyOf_str Tryz.underlying9 hu
  exact ⟨x,hx⟩) hS
 have hl:ss.length=(bA [] S).length:=by rw [← he,List.length_mergeSort]
 rw [he,hl] at hrow
 obtain ⟨A,c,rfl,hB⟩:=Wn (Fr.Xx hb []) hrow
 exact ⟨A,c,rfl,hB⟩
theorem LJ (bs:Nat) (A:Option Addr) (c:Nat) (its:List (List UInt8)) (fan leaf:Nat) (nm om:Nat) (S:List (List UInt8)) (w:World) (r0:Rf [] w (fun w=>At w bs 105 [(vL A its c),(vI fan),(vI leaf),(.map (some nm)),(.map (some om))])) (r1:Rf [] w (fun w=>eO w nm S)) (hS:S.length≤1099511627776) :
  Calls Tryz.prog 32 #[(vP bs 0)] w fun e w'=>∃ (B:Option Addr) (cb:Nat),e = .returned (vL B (bA [] S) cb)∧aK [] w [cS B (bA [] S) cb] w':=by
 refine eH Tryz.func32 9 (Mm.start w []) rfl<|Nc<|lx rfl<|Nb<|lx rfl<|lk (vP bs 0) ?_
 refine lk (vP bs 3)<|lW (rW (fun w hM=>At.cell (r0.now hM) 3))<|Nx ?_
 refine fP (fun w hM=>LH nm w ) fun bk7=>?_
 refine Nx ?_
 refine fM (fun w hM=>(LI bk7 nm S w (hM.aL (j:=0) rfl (fun _ h=>h)) (r1.aO hM) (by omega)).mono ?_)
 rintro e w' ⟨B8,cb8,rfl,hP⟩
 refine ⟨_,_,rfl,hP,?_⟩; clear hP hM
 exact lx rfl<|Nd<|sN [(vL B8 (bA [] S) cb8)] fun w hM=>⟨B8,cb8,rfl,(fun (w:World) (h:Mm _ _ _ w)=>Mm.sub h (.cons _ (.cons_cons _ .slnil))) w hM⟩
theorem LK (bs:Nat) (A:Option Addr) (c:Nat) (its:List (List UInt8)) (fan leaf:Nat) (nm om:Nat) (S:List (List UInt8)) (w:World) (r0:Rf [] w (fun w=>At w bs 105 [(vL A its c),(vI fan),(vI leaf),(.map (some nm)),(.map (some om))])) (r1:Rf [] w (fun w=>eO w om S)) (hS:S.length≤1099511627776) :
  Calls Tryz.prog 31 #[(vP bs 0)] w fun e w'=>∃ (B:Option Addr) (cb:Nat),e = .returned (vL B (bA [] S) cb)∧aK [] w [cS B (bA [] S) cb] w':=by
 refine eH Tryz.func31 9 (Mm.start w []) rfl<|Nc<|lx rfl<|Nb<|lx rfl<|lk (vP bs 0) ?_
 refine lk (vP bs 4)<|lW (rW (fun w hM=>At.cell (r0.now hM) 4))<|Nx ?_
 refine fP (fun w hM=>LH om w ) fun bk7=>?_
 refine Nx ?_
 refine fM (fun w hM=>(LI bk7 om S w (hM.aL (j:=0) rfl (fun _ h=>h)) (r1.aO hM) (by omega)).mono ?_)
 rintro e w' ⟨B8,cb8,rfl,hP⟩
 refine ⟨_,_,rfl,hP,?_⟩; clear hP hM
 exact lx rfl<|Nd<|sN [(vL B8 (bA [] S) cb8)] fun w hM=>⟨B8,cb8,rfl,(fun (w:World) (h:Mm _ _ _ w)=>Mm.sub h (.cons _ (.cons_cons _ .slnil))) w hM⟩
end
theorem Rd.MF (r:Rd):∀ (k i:Nat),(r.cR i).1 <+: (r.cR (i+k)).1
 | 0,_i=>List.prefix_refl _
 | k+1,i=>(Rd.MF r k i).trans ⟨_,rfl⟩
theorem Wp {r:Rd} {most i:Nat} {x y:Bs} (h:(r.items most).1.Pairwise (· < ·)) (hlt:i < (r.cnt (r.bM most)).1) (hi:0 < i) (hx:((r.cnt (r.bM most)).2.cR (i+1)).1[i - 1]?=some x) (hy:((r.cnt (r.bM most)).2.cR (i+1)).1[i]?=some y):x < y:=by
 obtain ⟨t,ht⟩:=Rd.MF (r.cnt (r.bM most)).2 ((r.cnt (r.bM most)).1 - (i+1)) (i+1)
 rw [show i+1+((r.cnt (r.bM most)).1 - (i+1))=(r.cnt (r.bM most)).1 by omega] at ht
 have h':(((r.cnt (r.bM most)).2.cR (i+1)).1++t).Pairwise (· < ·):=by rw [ht]; exact h
 have h1:=(List.pairwise_append.1 h').1
 obtain ⟨a1,a2⟩:=List.getElem?_eq_some_iff.1 hx
 obtain ⟨b1,b2⟩:=List.getElem?_eq_some_iff.1 hy
 have:=List.pairwise_iff_getElem.1 h1 (i - 1) i a1 b1 om
 rw [a2,b2] at this
 exact this
theorem Fb (A:Option Addr) (c:Nat) (l:List (List UInt8)) (w:World) (r0:Rf [] w (bW)) (r1:Rf [] w (fun w=>aF w A (SS l))) (hl:l.length≤9223372036854775807) (he:fC l=0) (h40:l.length≤1000) :
  Calls Tryz.prog 22 #[(vL A l c),bT] w fun e w'=>∃ (bs:Nat) (A1:Option Addr) (c1 se:Nat) (A2:Option Addr) (c2 nm om:Nat) (Am:Option Addr) (cm:Nat),e = .returned (.tuple #[(vP bs 0),(vi 0)])∧aK [] w [aB bs 65 [(vL A1 l c1),bT,(vi 1),(vI 1),(vL Am (aX 1 (cZ (bQ l))) cm),bF,bF,(vP se 0),bF,nS,nS],cS A1 l c1,aB se 105 [(vL A2 l c2),(vI 4),(vI 4),(.map (some nm)),(.map (some om))],cS A2 l c2,aM nm ([]),aM om ([]),cB Am (aX 1 (cZ (bQ l))) cm] w':=by
 refine bG Tryz.func22 42 (Mm.start w []) rfl<|Nc<|lx rfl<|Ne<|lx rfl<|Nx<|bN (fun w hM=>sS A c l w (r0.aO hM) (r1.aO hM) om ag om)<|lx rfl<|Nb<|lx rfl<|lF<|Nn<|aE<|lx rfl<|lk (.agg #[(vi 4),(vi 4)])<|Nx<|zW (fun w hM=>BJ A c l 4 4 w (r1.aO hM) om (by decide) ag) fun bs22 A222 c222 nm22 om22=>lx rfl<|Ne<|lx rfl<|lF<|Nn ?_
 have hset:=(Dk he).2
 have h32:=hset.1
 have hskl:=rB (nT h32).all
 rw [lA] at hskl
 refine aE<|lx rfl<|Nx<|cF (fun w hM=>qF A c l w (r1.aO hM) om) fun B29 cb29=>lx rfl<|lk (.agg #[(vL B29 l cb29),bT,(vi 2),(vi 0),nS,bF,bF,(vP bs22 0),bF,nS,nS])<|Nx<|pB [(vL B29 l cb29),bT,(vi 2),(vi 0),nS,bF,bF,(vP bs22 0),bF,nS,nS] fun b33=>lx rfl<|Nf<|aQ ?_
 dsimp only [bC,List.set,List.cons_append,List.nil_append]
 refine aE<|lx rfl<|Nt<|aE<|lx rfl<|Nx<|Cx (fun w hM=>DO A c l w (r0.aO hM) (r1.aO hM) ag om) fun Xs37 hn37=>Nx<|cF (fun w hM=>Td Xs37 (bQ l) w (hM.aL (j:=6) rfl (fun _ h=>h)) (nT h32) (lA l) (hn37)) fun A38 c38=>Nx<|cF (fun w hM=>DQ 1 A38 c38 (cZ (bQ l)) w (hM.aL (j:=7) rfl (fun _ h=>aF.aR h)) om om) fun A239 c239=>Nx<|bZ [5] (fun w hM hO=>vG b33 (vL B29 l cb29) bT (vi 2) (vi 0) nS bF bF (vP bs22 0) bF nS nS 1 A239 ((aX 1 (cZ (bQ l))).length) c239 w hO)<|Nf ?_
 dsimp only [bC,List.set,List.cons_append,List.nil_append]
 exact aE<|lx rfl<|Nd<|sN [(vP b33 0),(vi 0)] fun w hM=>⟨b33,B29,cb29,bs22,A222,c222,nm22,om22,A239,c239,rfl,(hM.pick [5,4,0,1,2,3,8] rfl rfl)⟩
theorem Fc (A:Option Addr) (c:Nat) (l:List (List UInt8)) (w:World) (r0:Rf [] w (bW)) (r1:Rf [] w (fun w=>aF w A (SS l))) (hl:l.length≤9223372036854775807) (he:fC l=0) (h40:l.length≤1000) :
  Calls Tryz.prog 22 #[(vL A l c),bF] w fun e w'=>∃ (bs:Nat) (A1:Option Addr) (c1 se:Nat) (A2:Option Addr) (c2 nm om:Nat),e = .returned (.tuple #[(vP bs 0),(vi 0)])∧aK [] w [aB bs 65 [(vL A1 l c1),bF,(vi 2),(vi 0),nS,bF,bF,(vP se 0),bF,nS,nS],cS A1 l c1,aB se 105 [(vL A2 l c2),(vI 4),(vI 4),(.map (some nm)),(.map (some om))],cS A2 l c2,aM nm ([]),aM om ([])] w':=by
 refine bG Tryz.func22 42 (Mm.start w []) rfl<|Nc<|lx rfl<|Ne<|lx rfl<|Nx<|bN (fun w hM=>sS A c l w (r0.aO hM) (r1.aO hM) om ag om)<|lx rfl<|Nb<|lx rfl<|lF<|Nn<|aE<|lx rfl<|lk (.agg #[(vi 4),(vi 4)])<|Nx<|zW (fun w hM=>BJ A c l 4 4 w (r1.aO hM) om (by decide) ag) fun bs22 A222 c222 nm22 om22=>lx rfl<|Ne<|lx rfl<|lF<|Nn ?_
 have hset:=(Dk he).2
 have h32:=hset.1
 have hskl:=rB (nT h32).all
 rw [lA] at hskl
 refine aE<|lx rfl<|Nx<|cF (fun w hM=>qF A c l w (r1.aO hM) om) fun B29 cb29=>lx rfl<|lk (.agg #[(vL B29 l cb29),bF,(vi 2),(vi 0),nS,bF,bF,(vP bs22 0),bF,nS,nS])<|Nx<|pB [(vL B29 l cb29),bF,(vi 2),(vi 0),nS,bF,bF,(vP bs22 0),bF,nS,nS] fun b33=>lx rfl<|Nf<|aQ ?_
 dsimp only [bC,List.set,List.cons_append,List.nil_append]
 exact aE<|lx rfl<|Nn<|aE<|lx rfl<|Nd<|sN [(vP b33 0),(vi 0)] fun w hM=>⟨b33,B29,cb29,bs22,A222,c222,nm22,om22,rfl,(hM.pick [5,4,0,1,2,3] rfl rfl)⟩
theorem qG (bs:Nat) (v0 v1:Value) (v5 v6:Value) (v7 v8:Value) (v9 v10:Value) (k:Nat) (Am:Option Addr) (cm:Nat) (m:List UInt8) (b:Nat) (w:World) (hO:bO [aB bs 65 [v0,v1,(vi 1),(vI k),(vL Am m cm),v5,v6,v7,v8,v9,v10]] w) (hb:m.length≤b) (hk:k≠4∧k≠5) :
  Calls Tryz.prog 23 #[(vP bs 0),(vI b)] w fun e w'=>e = .returned (.tuple #[(vL Am m cm),(vi 0)])∧aK [aB bs 65 [v0,v1,(vi 1),(vI k),(vL Am m cm),v5,v6,v7,v8,v9,v10]] w [aB bs 65 [v0,v1,(vi 2),(vI k),nS,v5,v6,v7,v8,v9,v10]] w':=by
 refine bG Tryz.func23 56 (hO) rfl<|Nc<|lx rfl<|Nf<|eS<|Nc<|lx rfl<|lk (.bool (decide (((b:Nat):Int) < 0)))<|lx rfl<|Na<|eF rfl si<|Nc<|lx rfl<|lk (vP bs 0)<|lk (vP bs 2)<|lL 0 rfl<|lF<|lx rfl<|Np<|aE<|lx rfl<|lk (vP bs 0)<|lk (vP bs 2)<|lL 0 rfl ?_
 refine lF<|lx rfl<|Np<|aE<|lx rfl<|lk (vP bs 0)<|lk (vP bs 4)<|lL 0 rfl<|lk (vI m.length)<|lx rfl<|lk (.bool (decide (((m.length:Nat):Int) > ((b:Nat):Int))))<|lx rfl<|Na<|eF rfl (by simp; omega)<|Nw<|Nc<|lx rfl<|lk (vP bs 0)<|lk (vP bs 4)<|lL 0 rfl<|lx rfl<|Nb<|lx rfl<|lk (vP bs 0) ?_
 refine lk (vP bs 4)<|Nx<|pS 0 rfl<|Nb<|lx rfl<|lk (vP bs 0)<|lk (vP bs 2)<|Nx<|pS 0 rfl<|Ne<|lx rfl<|lk (vP bs 0)<|lk (vP bs 3)<|lL 0 rfl<|lk (.bool ((((k:Nat):Int):Int) == 4))<|lm ?_
 exact St.known 45 (b':=false) rfl (by simp; omega)<|lx rfl<|lg (vP bs 0)<|lg (vP bs 3)<|lu (vI k) (eT 0 rfl rfl kr rfl rfl)<|lg (.bool ((((k:Nat):Int):Int) == 5))<|lk (.bool ((((k:Nat):Int):Int) == 5))<|Na<|eF rfl (by simp; omega)<|Ni<|lx rfl<|Nd<|sN [(vL Am m cm),(vi 0)] fun w hM=>⟨rfl,hM⟩
theorem Wq (bs:Nat) (v0 v1:Value) (v5 v6:Value) (v7 v8:Value) (v9 v10:Value) (k:Nat) (Am:Option Addr) (cm:Nat) (m:List UInt8) (b:Nat) (w:World) (hO:bO [aB bs 65 [v0,v1,(vi 1),(vI k),(vL Am m cm),v5,v6,v7,v8,v9,v10]] w) (hb:m.length≤b) (hk:k=4) :
  Calls Tryz.prog 23 #[(vP bs 0),(vI b)] w fun e w'=>e = .returned (.tuple #[(vL Am m cm),(vi 0)])∧aK [aB bs 65 [v0,v1,(vi 1),(vI k),(vL Am m cm),v5,v6,v7,v8,v9,v10]] w [aB bs 65 [v0,v1,(vi 0),(vI k),nS,v5,v6,v7,v8,v9,v10]] w':=by
 refine bG Tryz.func23 56 (hO) rfl<|Nc<|lx rfl<|Nf<|eS<|Nc<|lx rfl<|lk (.bool (decide (((b:Nat):Int) < 0)))<|lx rfl<|Na<|eF rfl si<|Nc<|lx rfl<|lk (vP bs 0)<|lk (vP bs 2)<|lL 0 rfl<|lF<|lx rfl<|Np<|aE<|lx rfl<|lk (vP bs 0)<|lk (vP bs 2)<|lL 0 rfl ?_
 refine lF<|lx rfl<|Np<|aE<|lx rfl<|lk (vP bs 0)<|lk (vP bs 4)<|lL 0 rfl<|lk (vI m.length)<|lx rfl<|lk (.bool (decide (((m.length:Nat):Int) > ((b:Nat):Int))))<|lx rfl<|Na<|eF rfl (by simp; omega)<|Nw<|Nc<|lx rfl<|lk (vP bs 0)<|lk (vP bs 4)<|lL 0 rfl<|lx rfl<|Nb<|lx rfl<|lk (vP bs 0) ?_
 refine lk (vP bs 4)<|Nx<|pS 0 rfl<|Nb<|lx rfl<|lk (vP bs 0)<|lk (vP bs 2)<|Nx<|pS 0 rfl<|Ne<|lx rfl<|lk (vP bs 0)<|lk (vP bs 3)<|lL 0 rfl<|lk (.bool ((((k:Nat):Int):Int) == 4))<|lm ?_
 exact St.known 45 (b':=true) rfl (by simp; omega)<|lx rfl<|lT<|Nt<|aE<|lx rfl<|lk (vP bs 0)<|lk (vP bs 2)<|Nx<|pS 0 rfl<|Nb<|lx rfl<|Nd<|sN [(vL Am m cm),(vi 0)] fun w hM=>⟨rfl,hM⟩
theorem BK (bs:Nat) (v0 v1:Value) (v5 v6:Value) (v7 v8:Value) (v9 v10:Value) (k:Nat) (Am:Option Addr) (cm:Nat) (m:List UInt8) (b:Nat) (w:World) (hO:bO [aB bs 65 [v0,v1,(vi 1),(vI k),(vL Am m cm),v5,v6,v7,v8,v9,v10]] w) (hb:m.length≤b) (hk:k=5) :
  Calls Tryz.prog 23 #[(vP bs 0),(vI b)] w fun e w'=>e = .returned (.tuple #[(vL Am m cm),(vi 0)])∧aK [aB bs 65 [v0,v1,(vi 1),(vI k),(vL Am m cm),v5,v6,v7,v8,v9,v10]] w [aB bs 65 [v0,v1,(vi 0),(vI k),nS,v5,v6,v7,v8,v9,v10]] w':=by
 refine bG Tryz.func23 56 (hO) rfl<|Nc<|lx rfl<|Nf<|eS<|Nc<|lx rfl<|lk (.bool (decide (((b:Nat):Int) < 0)))<|lx rfl<|Na<|eF rfl si<|Nc<|lx rfl<|lk (vP bs 0)<|lk (vP bs 2)<|lL 0 rfl<|lF<|lx rfl<|Np<|aE<|lx rfl<|lk (vP bs 0)<|lk (vP bs 2)<|lL 0 rfl ?_
 refine lF<|lx rfl<|Np<|aE<|lx rfl<|lk (vP bs 0)<|lk (vP bs 4)<|lL 0 rfl<|lk (vI m.length)<|lx rfl<|lk (.bool (decide (((m.length:Nat):Int) > ((b:Nat):Int))))<|lx rfl<|Na<|eF rfl (by simp; omega)<|Nw<|Nc<|lx rfl<|lk (vP bs 0)<|lk (vP bs 4)<|lL 0 rfl<|lx rfl<|Nb<|lx rfl<|lk (vP bs 0) ?_
 refine lk (vP bs 4)<|Nx<|pS 0 rfl<|Nb<|lx rfl<|lk (vP bs 0)<|lk (vP bs 2)<|Nx<|pS 0 rfl<|Ne<|lx rfl<|lk (vP bs 0)<|lk (vP bs 3)<|lL 0 rfl<|lk (.bool ((((k:Nat):Int):Int) == 4))<|lm ?_
 exact St.known 45 (b':=false) rfl (by simp; omega)<|lx rfl<|lg (vP bs 0)<|lg (vP bs 3)<|lu (vI k) (eT 0 rfl rfl kr rfl rfl)<|lg (.bool ((((k:Nat):Int):Int) == 5))<|lk (.bool ((((k:Nat):Int):Int) == 5))<|Na<|rV rfl (by simp; omega)<|aE<|lx rfl<|lk (vP bs 0)<|lk (vP bs 2)<|Nx<|pS 0 rfl<|Nb<|lx rfl<|Nd<|sN [(vL Am m cm),(vi 0)] fun w hM=>⟨rfl,hM⟩
theorem yU (bs:Nat) (v0 v1:Value) (v3 v4:Value) (v5 v6:Value) (v7 v8:Value) (v9 v10:Value) (b:Nat) (w:World) (r0:Rf [] w (fun w=>At w bs 65 [v0,v1,(vi 0),v3,v4,v5,v6,v7,v8,v9,v10])) :
  Calls Tryz.prog 23 #[(vP bs 0),(vI b)] w fun e w'=>e = .returned (.tuple #[nS,(vi 4)])∧aK [] w [] w':=by
 refine bG Tryz.func23 56 (Mm.start w []) rfl<|Nc<|lx rfl<|Nf<|eS<|Nc<|lx rfl<|lk (.bool (decide (((b:Nat):Int) < 0)))<|lx rfl<|Na<|eF rfl si<|Nc<|lx rfl<|lk (vP bs 0)<|lk (vP bs 2)<|lW (rW (fun w hM=>At.cell (r0.now hM) 2))<|lT<|lx rfl<|No<|lx rfl<|Nd<|gB<|eA<|sN [nS,(vi 4)] fun w hM=>?_
 exact ⟨rfl,hM⟩
theorem LL (bs:Nat) (v0 v1:Value) (v2 v3:Value) (v4 v5:Value) (v6 v7 v10:Value) (An:Option Addr) (cn:Nat) (needs:List (List UInt8)) (w:World) (r0:Rf [] w (fun w=>At w bs 65 [v0,v1,v2,v3,v4,v5,v6,v7,bT,(vL An needs cn),v10])) (r1:Rf [] w (fun w=>aF w An (SS needs))) (hl4:needs.length≤4294967296) :
  Calls Tryz.prog 27 #[(vP bs 0)] w fun e w'=>∃ (B:Option Addr) (cb:Nat),e = .returned (vL B needs cb)∧aK [] w [cS B needs cb] w':=by
 exact eH Tryz.func27 24 (Mm.start w []) rfl<|Nc<|lx rfl<|Ne<|lx rfl<|lk (vP bs 0)<|lk (vP bs 8)<|lW (rW (fun w hM=>At.cell (r0.now hM) 8))<|lx rfl<|lT<|No<|lx rfl<|lk (vP bs 0)<|lk (vP bs 9)<|lW (rW (fun w hM=>At.cell (r0.now hM) 9))<|Nx<|cF (fun w hM=>qF An cn needs w (r1.aO hM) om) fun B18 cb18=>lx rfl<|Nh<|sN [(vL B18 needs cb18)] fun w hM=>⟨B18,cb18,rfl,hM⟩
theorem rJ (bs:Nat) (v0 v1:Value) (v2 v3:Value) (v4 v5:Value) (v6 v9 v10:Value) (se:Nat) (A:Option Addr) (c:Nat) (its:List (List UInt8)) (nm om:Nat) (S:List (List UInt8)) (w:World) (r0:Rf [] w (fun w=>At w bs 65 [v0,v1,v2,v3,v4,v5,v6,(vP se 0),bF,v9,v10])) (r1:Rf [] w (fun w=>At w se 105 [(vL A its c),(vI 4),(vI 4),(.map (some nm)),(.map (some om))])) (r2:Rf [] w (fun w=>eO w nm S)) (hS:S.length≤1099511627776) :
  Calls Tryz.prog 27 #[(vP bs 0)] w fun e w'=>∃ (B:Option Addr) (cb:Nat),e = .returned (vL B (bA [] S) cb)∧aK [] w [cS B (bA [] S) cb] w':=by
 refine eH Tryz.func27 24 (Mm.start w []) rfl<|Nc<|lx rfl<|Ne<|lx rfl<|lk (vP bs 0)<|lk (vP bs 8)<|lW (rW (fun w hM=>At.cell (r0.now hM) 8))<|lx rfl<|lg (vP bs 0)<|lg (vP bs 7) ?_
 refine lu (vP se 0) (hJ rfl rfl kr (fun w hM=>At.cell (r0.now hM) 7))<|lg bF<|lF<|Nn<|aE ?_
 refine lx rfl<|lk (vP bs 0)<|lk (vP bs 7) ?_
 refine lW (rW (fun w hM=>At.cell (r0.now hM) 7)) ?_
 refine Nx ?_
 refine fM (fun w hM=>(LJ se A c its 4 4 nm om S w (r1.aO hM) (r2.aO hM) (by omega)).mono ?_)
 rintro e w' ⟨B23,cb23,rfl,hP⟩
 refine ⟨_,_,rfl,hP,?_⟩; clear hP hM
 exact lx rfl<|Nd<|sN [(vL B23 (bA [] S) cb23)] fun w hM=>⟨B23,cb23,rfl,hM⟩
theorem LM (bs:Nat) (v0 v1:Value) (v2 v3:Value) (v4 v5:Value) (v6 v7 v9:Value) (Ao:Option Addr) (co:Nat) (offs:List (List UInt8)) (w:World) (r0:Rf [] w (fun w=>At w bs 65 [v0,v1,v2,v3,v4,v5,v6,v7,bT,v9,(vL Ao offs co)])) (r1:Rf [] w (fun w=>aF w Ao (SS offs))) (hl4:offs.length≤4294967296) :
  Calls Tryz.prog 26 #[(vP bs 0)] w fun e w'=>∃ (B:Option Addr) (cb:Nat),e = .returned (vL B offs cb)∧aK [] w [cS B offs cb] w':=by
 exact eH Tryz.func26 24 (Mm.start w []) rfl<|Nc<|lx rfl<|Ne<|lx rfl<|lk (vP bs 0)<|lk (vP bs 8)<|lW (rW (fun w hM=>At.cell (r0.now hM) 8))<|lx rfl<|lT<|No<|lx rfl<|lk (vP bs 0)<|lk (vP bs 10)<|lW (rW (fun w hM=>At.cell (r0.now hM) 10))<|Nx<|cF (fun w hM=>qF Ao co offs w (r1.aO hM) om) fun B18 cb18=>lx rfl<|Nh<|sN [(vL B18 offs cb18)] fun w hM=>⟨B18,cb18,rfl,hM⟩
theorem rK (bs:Nat) (v0 v1:Value) (v2 v3:Value) (v4 v5:Value) (v6 v9 v10:Value) (se:Nat) (A:Option Addr) (c:Nat) (its:List (List UInt8)) (nm om:Nat) (S:List (List UInt8)) (w:World) (r0:Rf [] w (fun w=>At w bs 65 [v0,v1,v2,v3,v4,v5,v6,(vP se 0),bF,v9,v10])) (r1:Rf [] w (fun w=>At w se 105 [(vL A its c),(vI 4),(vI 4),(.map (some nm)),(.map (some om))])) (r2:Rf [] w (fun w=>eO w om S)) (hS:S.length≤1099511627776) :
  Calls Tryz.prog 26 #[(vP bs 0)] w fun e w'=>∃ (B:Option Addr) (cb:Nat),e = .returned (vL B (bA [] S) cb)∧aK [] w [cS B (bA [] S) cb] w':=by
 refine eH Tryz.func26 24 (Mm.start w []) rfl<|Nc<|lx rfl<|Ne<|lx rfl<|lk (vP bs 0)<|lk (vP bs 8)<|lW (rW (fun w hM=>At.cell (r0.now hM) 8))<|lx rfl<|lg (vP bs 0)<|lg (vP bs 7) ?_
 refine lu (vP se 0) (hJ rfl rfl kr (fun w hM=>At.cell (r0.now hM) 7))<|lg bF<|lF<|Nn<|aE ?_
 refine lx rfl<|lk (vP bs 0)<|lk (vP bs 7) ?_
 refine lW (rW (fun w hM=>At.cell (r0.now hM) 7)) ?_
 refine Nx ?_
 refine fM (fun w hM=>(LK se A c its 4 4 nm om S w (r1.aO hM) (r2.aO hM) (by omega)).mono ?_)
 rintro e w' ⟨B23,cb23,rfl,hP⟩
 refine ⟨_,_,rfl,hP,?_⟩; clear hP hM
 exact lx rfl<|Nd<|sN [(vL B23 (bA [] S) cb23)] fun w hM=>⟨B23,cb23,rfl,hM⟩
theorem LN (X:Option Addr × Nat) (br:Nat) (r:Rd) (w:World) (hO:bO [aU X br (r)] w) (hasc:(r.items 16384).1.Pairwise (· < ·)) :
  Calls Tryz.prog 122 #[(vP br 0)] w fun e w'=>∃ (B:Option Addr) (cb:Nat),e = .returned (.tuple #[(.slice B ((r.items 16384).1.length) (cb)),bT])∧aK [aU X br (r)] w [aU X br ((r.items 16384).2),dA 9 1 B ((r.items 16384).1.length) (cb) (SS (r.items 16384).1)] w':=by
 refine eH Tryz.func122 40 (hO) rfl<|Nc<|lx rfl<|Nf<|St.fact (fun w hM=>(hM.at (i:=0) (c:=aU X br r) rfl).2.len) (fun hrl=>aE<|lx rfl<|Nx<|bZ [0] (fun w hM hO=>oS X br r w hO)<|lw (vI ((r.D.length - r.off) / 32)) (Az rfl rfl rfl om om)<|lw (vI (r.bM 16384)) (Ct rfl rfl rfl) ?_)
 have hml:r.bM 16384≤16384:=Nat.min_le_left _ _
 refine Nx<|bZ [0] (fun w hM hO=>Dy X br r (r.bM 16384) w hO om) ?_
 have hcl:=r.zE (r.bM 16384)
 refine lx rfl<|Nb<|lx rfl<|Nx<|Dz kB ((r.cnt (r.bM 16384)).1) om rfl rfl kr rfl rfl (fun b14=>lx rfl<|Ne<|lx rfl<|Ng<|sL (fun (i,AX,cX)=>i≤(r.cnt (r.bM 16384)).1) (fun (i,AX,cX)=>(r.cnt (r.bM 16384)).1 - i) (fun (i,AX,cX)=>[(0,(vP br 0)),(2,nS),(3,bF),(15,(vI ((r.cnt (r.bM 16384)).1))),(5,(vL AX (((r.cnt (r.bM 16384)).2.cR i).1) cX)),(16,(vI i))]) (fun (i,AX,cX)=>[aU X br (((r.cnt (r.bM 16384)).2.cR i).2),cS AX (((r.cnt (r.bM 16384)).2.cR i).1) cX]) (0,(some ⟨b14,0,none⟩),((r.cnt (r.bM 16384)).1)) (Nat.zero_le _) (fun w hM=>by show Mm _ _ [aU X br (((r.cnt (r.bM 16384)).2.cR 0).2),cS (some ⟨b14,0,none⟩) (((r.cnt (r.bM 16384)).2.cR 0).1) (((r.cnt (r.bM 16384)).1))] w; exact hM) ?_) om
 rintro ⟨i,AX,cX⟩ (hok:i≤(r.cnt (r.bM 16384)).1)
 dsimp only
 refine Nc<|lk (.bool (decide (((i:Nat):Int) < (((r.cnt (r.bM 16384)).1:Nat):Int)))) ?_
 refine aS (aJ (aQ (bR rfl (fun hc17=>?_) (fun hc17=>?_))))
 ·have hd17:=of_decide_eq_true hc17
  have hlt:i < (r.cnt (r.bM 16384)).1:=om
  refine Nm<|aE<|lx rfl<|Nb<|lx rfl<|Nx<|bZ [0] (fun w hM hO=>xP X br (((r.cnt (r.bM 16384)).2.cR i).2) w hO)<|Nx<|pN 1 9 [(vS ((((r.cnt (r.bM 16384)).2.cR i).2).sum.1))] fun b22=>Nx<|fJ kB 1 ([(vS ((((r.cnt (r.bM 16384)).2.cR i).2).sum.1))]) rfl rfl kr rfl rfl rfl (rfl) (kA (i:=2) rfl (fun j v h=>by rw [Nat.zero_add]; exact h)) (by simp [Value.oneCell']) (by rw [Rd.wE]; omega) ((((r.cnt (r.bM 16384)).2.cR i).1++[(((r.cnt (r.bM 16384)).2.cR i).2).sum.1]).length) fN (SS (((r.cnt (r.bM 16384)).2.cR i).1++[(((r.cnt (r.bM 16384)).2.cR i).2).sum.1])) (by simp [SS]) (fun A23 c23=>lx rfl<|Nf ?_)
  rw [show ((r.cnt (r.bM 16384)).2.cR i).1++[(((r.cnt (r.bM 16384)).2.cR i).2).sum.1]=((r.cnt (r.bM 16384)).2.cR (i+1)).1 from rfl]
  rw [show (((r.cnt (r.bM 16384)).2.cR i).2).sum.2=((r.cnt (r.bM 16384)).2.cR (i+1)).2 from rfl]
  have hsl:(((r.cnt (r.bM 16384)).2.cR (i+1)).1).length=i+1:=Rd.wE _ _
  refine dN _ 14 kr (fun _ h=>h) ?_
  refine am 0 ?_
  refine aC 1 (.bool (decide (((i:Nat):Int) > 0))) rfl ?_
  refine am 2 ?_
  refine Any.dec 26 rfl (fun hc26=>?_) (fun hc26=>?_)
  ·have hd26:=of_decide_eq_true hc26
   refine jI 3 ?_
   refine jI 4 ?_
   refine aW 5 (vI (i - 1)) rfl (mH _ rfl rfl rfl om om om) ?_
   obtain ⟨x0,hx0⟩:∃ ξ,(((r.cnt (r.bM 16384)).2.cR (i+1)).1)[i - 1]?=some ξ:=⟨_,List.getElem?_eq_getElem om⟩
   refine Any.eE (fun w hM=>mG (i:=1) rfl w hM) (eG hx0) (fun p30 q30 hA30 hc30=>aW 6 (vP p30 (q30+(i - 1))) rfl (qO (e:=9) rfl kr kr rfl rfl hA30 om)<|aW 7 (vS x0) rfl (hJ rfl rfl kr hc30)<|jI 8 ?_)
   refine jI 9 ?_
   obtain ⟨x1,hx1⟩:∃ ξ,(((r.cnt (r.bM 16384)).2.cR (i+1)).1)[i]?=some ξ:=⟨_,List.getElem?_eq_getElem om⟩
   exact Any.eE (fun w hM=>mG (i:=1) rfl w hM) (eG hx1) (fun p34 q34 hA34 hc34=>aW 10 (vP p34 (q34+i)) rfl (qO (e:=9) rfl kr kr rfl rfl hA34 om)<|aW 11 (vS x1) rfl (hJ rfl rfl kr hc34)<|aW 12 (.bool (!decide (x0 < x1))) rfl (uG rfl rfl rfl)<|aC 13 (.bool (!decide (x0 < x1))) rfl<|dO kr<|aJ<|eF rfl (by simpa using Wp hasc hlt (by have:=hc26; simp at this; omega) hx0 hx1)<|Nw<|aE<|lw (vI (i+1)) bJ<|lx rfl<|aS (aJ (sA (i+1,A23,c23) (by show _≤_; omega) (by show (r.cnt (r.bM 16384)).1 - (i+1) < (r.cnt (r.bM 16384)).1 - i; omega) (fun w hM=>(hM.pick [0,1] rfl rfl)))))
  ·have hd26:=of_decide_eq_false hc26
   refine fF 3 ?_
   refine fF 4 ?_
   refine fF 5 ?_
   refine fF 6 ?_
   refine fF 7 ?_
   refine fF 8 ?_
   refine fF 9 ?_
   refine fF 10 ?_
   refine fF 11 ?_
   refine fF 12 ?_
   exact aC 13 bF rfl<|dO kr<|aJ<|qL rfl<|Nw<|aE<|lw (vI (i+1)) bJ<|lx rfl<|aS (aJ (sA (i+1,A23,c23) (by show _≤_; omega) (by show (r.cnt (r.bM 16384)).1 - (i+1) < (r.cnt (r.bM 16384)).1 - i; omega) (fun w hM=>(hM.pick [0,1] rfl rfl))))
 ·have hd17:=of_decide_eq_false hc17
  obtain rfl:i=(r.cnt (r.bM 16384)).1:=om
  rw [show (r.cnt (r.bM 16384)).2.cR (r.cnt (r.bM 16384)).1=r.items 16384 from rfl]
  exact Nj<|aE<|lx rfl<|Nd<|sN [(vL AX ((r.items 16384).1) cX),bT] fun w hM=>⟨AX,cX,rfl,hM⟩
section
section
variable {P : Program} {Q : Exit → Act → World → Prop} {n : Nat} {w0 : World} {F : List Nat} {E : cH} {cs : List Ch} {c : Code}
theorem LO (k:Nat) (h:St n w0 F E cs (Code.rounds P c Q k)):St n w0 F E cs ((Code.loop c).wp P Q):=fun a w ha hM=>wp_loop_rounds k (h a w ha hM)
theorem tN {k:Nat} (h:St n w0 F E cs (c.wp P (Exit.then (Code.rounds P c Q k) Q))):St n w0 F E cs (Code.rounds P c Q (k+1)):=h
end
def eY (its : List Bs) (n : Nat) : Bs := aD 2 ++ (cQ its ++ oT (dE its n))
def gU (offs needs : List Bs) : Bs := aD 4 ++ ((aD offs.length ++ offs.flatten) ++ (aD needs.length ++ needs.flatten))
theorem Fe {its:List Bs} {n:Nat} (h:(dE its n).enc.length≤200000):(eY its n).length≤200100:=by
 have h1:=eJ 2 om
 have h2:=eJ (dE its n).enc.length om
 have h3:(cQ its).length=32:=tX _
 unfold eY oT
 simp only [List.length_append]
 omega
theorem BL {l:List Bs} (h:∀ x∈l,x.length=32):l.flatten.length=l.length*32:=by
 induction l with
 | nil=>rfl
 | cons x l ih =>
   have h1:=h x si
   have h2:=ih fun y hy=>h y (by simp [hy])
   simp only [List.flatten_cons,List.length_append,List.length_cons]
   omega
theorem LP {offs needs:List Bs} (h1:∀ x∈offs,x.length=32) (h2:∀ x∈needs,x.length=32) (h3:offs.length≤3072) (h4:needs.length≤3072):(gU offs needs).length≤200000:=by
 have a:=BL h1
 have b:=BL h2
 have c:=eJ 4 om
 have d:=eJ offs.length om
 have e:=eJ needs.length om
 unfold gU
 simp only [List.length_append]
 omega
theorem LQ {l:List Bs} {i:Nat} {x:Bs} (h:l[i]?=some x):(l.take (i+1)).flatten=(l.take i).flatten++x:=by
 rw [List.take_add_one,h,Option.toList_some,List.flatten_append]
 simp
theorem LR {l:List Bs} (i:Nat):(l.take i).flatten.length≤l.flatten.length:=by
 conv=>rhs; rw [← List.take_append_drop i l,List.flatten_append,List.length_append]
 omega
theorem LS {t:BT} (h:t.seed=0):iR t t.cells.length 0=true:=by simp [iR,h]
theorem LU {its:List Bs} {t:BT} {print:Bs} {offs needs:List Bs} (h:mW its t print=some (offs,needs)):((dE its t.cells.length).sub t).keys=some (offs,needs)∧kG its needs offs=true∧fC (lV its offs needs)=0∧cQ (lV its offs needs)=print:=by
 unfold mW at h
 split at h
 ·cases h
 ·rename_i o n hk
  split at h
  ·rename_i hc
   simp only [Bool.and_eq_true,decide_eq_true_eq] at hc
   injection h with h
   injection h with e1 e2
   subst e1 e2
   exact ⟨hk,hc.1.1,hc.1.2,hc.2⟩
  ·cases h
theorem Wr (bs:Nat) (A:Option Addr) (c:Nat) (its:List (List UInt8)) (v1 v2:Value) (v3 v4:Value) (v5 v6:Value) (v7 v8:Value) (v9 v10:Value) (X:Option Addr × Nat) (br:Nat) (r:Rd) (ts:List BT) (k n:Nat) (w:World) (hO:bO [aB bs 65 [(vL A its c),v1,v2,v3,v4,v5,v6,v7,v8,v9,v10],aU X br (r)] w) (r0:Rf [aB bs 65 [(vL A its c),v1,v2,v3,v4,v5,v6,v7,v8,v9,v10],aU X br (r)] w (bW)) (r1:Rf [aB bs 65 [(vL A its c),v1,v2,v3,v4,v5,v6,v7,v8,v9,v10],aU X br (r)] w (fun w=>aF w A (SS its))) (hts:gN r.rest.1=some ts) (hend:r.rest.2.end_=0) (hset:bH its) (h40:its.length≤40) (hest:gX ts (bQ its)=k) (hk:k≤500) (hsz:iM ((k+k / 2:Nat):Int)=(n:Int)) (hz:eW (n:Int)=true) :
  Calls Tryz.prog 81 #[(vP bs 0),(vP br 0)] w fun e w'=>∃ (Am:Option Addr) (cm:Nat),e = .returned (vi 0)∧aK [aB bs 65 [(vL A its c),v1,v2,v3,v4,v5,v6,v7,v8,v9,v10],aU X br (r)] w [aB bs 65 [(vL A its c),v1,(vi 1),(vI 2),(vL Am (eY its n) cm),v5,v6,v7,v8,v9,v10],aU X br (r.rest.2),cB Am (eY its n) cm] w':=by
 refine bG Tryz.func81 103 (hO) rfl<|Nc<|lx rfl<|Nf ?_
 have h32:=hset.1
 refine St.fact (fun w hM=>(hM.at (i:=1) (c:=aU X br r) rfl).2.len) (fun hrl=>?_)
 have hrt:=r.wF (r.D.length - r.off)
 refine aE<|lx rfl<|Nx<|bZ [1] (fun w hM hO=>oS X br r w hO)<|Nx<|kC [1] (fun w hM hO=>rC X br r (r.D.length - r.off) w hO om) fun B20 cb20=>?_
 rw [show r.text (r.D.length - r.off)=r.rest from rfl]
 refine Nx<|Gv (fun w hM=>Jr B20 cb20 r.rest.1 w (hM.aL (j:=2) rfl (fun _ h=>aF.aR h)) (by unfold Rd.rest; omega)) fun cl21 Xs21 ts21 hs21 hcl21=>?_
 obtain ⟨rfl,rfl,hXl21⟩:=hs21 _ hts
 have hB21:(gN r.rest.1).isSome=true:=by rw [hts]; rfl
 refine lx rfl<|Nx<|pA [(.pointer none),(.pointer none),(.pointer none),(.pointer none),(.pointer none),(.pointer none),(.pointer none),(.pointer none),(.pointer none),(.pointer none),(.pointer none),(.pointer none)] fun b5=>Nx<|oE 4 (cA Xs21) (vs:=(cA Xs21)) rfl rfl kr rfl rfl rfl (by rw [gT,hXl21]; kernel_rfl) rfl (by rw [gT,hXl21]; decide) (xT _) (by rw [List.take_zero,List.nil_append,gT,hXl21]; simp) ?_
 refine lx rfl<|Nf<|aQ ?_
 dsimp only [bC,List.set,List.cons_append,List.nil_append]
 refine aE<|lx rfl<|Nx<|bZ [1] (fun w hM hO=>oQ X br r.rest.2 w hO)<|lx rfl<|Nb<|lx rfl<|lk (.bool ((r.rest.2.end_:Int) != 0))<|lm ?_
 refine St.known 31 (b':=false) rfl (by rw [hend]; simp)<|lx rfl<|lg (.bool (!(gN r.rest.1).isSome))<|lk (.bool (!(gN r.rest.1).isSome))<|Na<|eF rfl (by rw [hB21]; rfl)<|Nl<|dN _ 20 kr (fun _ h=>h)<|aV 0 (.agg (cA Xs21).toArray) rfl (oD (cA Xs21) rfl rfl kr (by rw [gT,hXl21]; kernel_rfl) (hU (i:=4) rfl (fun j v hj=>by rw [Nat.zero_add]; exact hj)))<|am 1 ?_
 refine aC 2 (vP bs 0) rfl<|aC 3 (vP bs 0) rfl<|al 4 0 ?_
 refine am 7 ?_
 refine aC 8 (vP bs 0) rfl<|aC 9 (vP bs 0) rfl<|al 10 0 ?_
 refine aC 11 (vI its.length) rfl<|aA 5 rfl<|Cx (fun w hM=>DO A c its w (r0.aO hM) (r1.aO hM) ag om) fun Xs41 hn41=>cN _ (fun _ h=>h.pick [0,1,2,3,4] rfl rfl) (fun _ h=>h)<|aA 6 rfl<|bN (fun w hM=>Js Xs21 ts Xs41 (bQ its) w (r0.aO hM) (hM.aL (j:=3) rfl (fun _ h=>h)) (hM.aL (j:=5) rfl (fun _ h=>h)) ((AJ hts).2) ((AJ hts).1) (hXl21) (nT h32) (lA its) (hn41)) ?_
 dsimp only [bC,List.set,List.cons_append,List.nil_append]
 refine cN _ (fun _ h=>h) (fun _ h=>h)<|aA 12 rfl<|bN (fun w hM=>Jn (gX ts (bQ its)) its.length w (by rw [hest]; exact hk))<|cN _ (fun _ h=>h) (fun _ h=>h)<|am 13 ?_
 refine aC 14 (vi 1) rfl<|aC 15 (.int .i64 (iM (((gX ts (bQ its))+(gX ts (bQ its)) / 2:Nat):Int))) rfl<|aC 16 (vi 0) rfl<|aa 17 ?_
 refine aa 18 ?_
 refine aa 19 ?_
 refine dO kr<|aJ<|aQ<|aQ ?_
 rw [show gX ts (bQ its)=k from hest]
 rw [hsz]
 refine aE<|lx rfl<|lF<|Nn<|Nc<|lx rfl<|lF<|Nn ?_
 have hn9:n≤3072:=(kE hz).2.1
 refine aE<|lx rfl<|lk (vP bs 0)<|lk (vP bs 0)<|lL 0 rfl<|lx rfl<|Nx<|fP (fun w hM=>DK A c its n w (r0.aO hM) (r1.aO hM) ag ag om) fun X65=>lx rfl<|Ne<|lx rfl<|lF<|Nn<|aE<|lx rfl<|lk (vP bs 0)<|lk (vP bs 0)<|lL 0 rfl<|Nx<|bN (fun w hM=>sS A c its w (r0.aO hM) (r1.aO hM) om (lS om hset) om)<|lx rfl<|Ne<|lx rfl<|lF ?_
 refine Nn<|aE<|Nx<|fP (fun w hM=>AN  w ) fun bw82=>lx rfl<|Nf ?_
 dsimp only [bC,List.set,List.cons_append,List.nil_append]
 refine St.mem (fun w hM=>hM.jD 5 1) ?_
 dsimp only [bC,List.set,List.cons_append,List.nil_append]
 have hen:(dE its n).enc.length≤200000:=xC (vB h32 n) (by rw [kZ]; omega) _
 have hnu:=eJ (dE its n).enc.length om
 have hfl:(cQ its).length=32:=tX _
 have hnn:=eJ 2 om
 refine aE<|lx rfl<|Nx<|eV [7,8] (fun w hM hO=>vE bw82 none 0 cW 2 w hO om (by decide)) fun A284 c284=>Nb<|lx rfl<|Nx<|eV [7,8] (fun w hM hO=>xS bw82 A284 c284 (cW++aD 2) (cQ its) w hO (hfl) (by simp only [List.length_append,List.length_nil,cW] at *; omega)) fun A287 c287=>Nb<|lx rfl<|Nx<|cF (fun w hM=>uS X65 (dE its n) w (hM.aL (j:=6) rfl (fun _ h=>h))) fun A90 c90=>Nx<|eV [7,8] (fun w hM hO=>Jm bw82 A287 c287 ((cW++aD 2)++(cQ its)) A90 c90 ((dE its n).enc) w hO (hM.cL [7,8] (j:=9) rfl (fun _ h=>aF.aR h)) om (by simp only [List.length_append,List.length_nil,cW] at *; omega)) fun A291 c291=>?_
 rw [show ((cW++aD 2)++(cQ its))++aD ((dE its n).enc).length++((dE its n).enc)=eY its n from by simp [eY,oT,cW]]
 refine Nf ?_
 dsimp only [bC,List.set,List.cons_append,List.nil_append]
 exact aE<|lx rfl<|Nx<|eV [7,8] (fun w hM hO=>AO bw82 A291 c291 (eY its n) w hO (by have h9:=Fe (its:=its) (n:=n) hen; omega)) fun A294 c294=>lx rfl<|Ne<|lx rfl<|lF<|Nn<|aE<|lx rfl<|Nx<|bZ [0] (fun w hM hO=>vG bs (vL A its c) v1 v2 v3 v4 v5 v6 v7 v8 v9 v10 2 A294 ((eY its n).length) c294 w hO)<|Nb<|lx rfl<|Nd<|sN [(vi 0)] fun w hM=>⟨A294,c294,rfl,(hM.pick [0,1,10] rfl rfl)⟩
theorem Ws (bs:Nat) (A:Option Addr) (c:Nat) (its:List (List UInt8)) (v1 v2:Value) (v3 v4:Value) (v5 v6:Value) (v7 v8:Value) (v9 v10:Value) (X:TX) (t:BT) (print:List UInt8) (offs needs:List (List UInt8)) (w:World) (r0:Rf [] w (bW)) (r1:Rf [] w (fun w=>At w bs 65 [(vL A its c),v1,v2,v3,v4,v5,v6,v7,v8,v9,v10])) (r2:Rf [] w (fun w=>aF w A (SS its))) (r3:Rf [] w (fun w=>(cT X t).holds w)) (hz:eW (t.cells.length:Int)=true) (hs0:t.seed=0) (hset:bH its) (h40:its.length≤40) (hsm:needs.length≤600) (hd:mW its t print=some (offs,needs)) (hao:offs.Pairwise (· < ·)) :
  Calls Tryz.prog 120 #[(vP bs 0),(vP X.bt 0),(vS print)] w fun e w'=>∃ (Ao:Option Addr) (co:Nat) (An:Option Addr) (cn:Nat),e = .returned (.tuple #[(vL Ao offs co),(vL An needs cn),bT])∧aK [] w [dJ Ao (SS offs),dJ An (SS needs)] w':=by
 refine kQ Tryz.func120 94 (Mm.start w []) rfl<|Nc<|lx rfl<|Nf ?_
 have h32:=hset.1
 have hs:=hset.2
 obtain ⟨hk,hag,hse,hfp⟩:=LU hd
 have hkl:=AL hk
 rw [nM (by rw [kZ]),kZ] at hkl
 have hn9:=(kE hz).2.1
 refine dN [] 12 kr (fun _ h=>h) ?_
 refine am 0 ?_
 refine aC 1 (vP bs 0) rfl<|aC 2 (vP bs 0) rfl<|aV 3 _ rfl (rW (fun w hM=>At.cell (r1.now hM) 0))<|am 4 ?_
 refine aA 5 rfl<|bN (fun w hM=>uR X t w (r3.aO hM))<|cN _ (fun _ h=>h) (fun _ h=>h)<|aA 6 rfl<|fP (fun w hM=>DK A c its t.cells.length w (r0.aO hM) (r2.aO hM) ag ag om) fun X25=>cN _ (fun _ h=>h.pick [] rfl rfl) (fun _ h=>h)<|am 7 ?_
 refine aC 8 (vP X25.bt 0) rfl<|aC 9 (vi 0) rfl<|aa 10 ?_
 refine aa 11 ?_
 refine dO kr<|aJ<|aQ<|aQ ?_
 dsimp only [bC,List.set,List.cons_append,List.nil_append]
 refine aE<|lx rfl<|lF<|Nn<|aE<|lx rfl<|Nx<|fP (fun w hM=>xH X25 (dE its t.cells.length) X t w (hM.aL (j:=0) rfl (fun _ h=>h)) (r3.aO hM) (by simp [nN,kZ,xQ,hs0])) fun Z33=>lx rfl<|Ne<|lx rfl<|lF<|Nn<|aE<|lx rfl<|Nx<|wT (fun w hM=>Dh Z33 ((dE its t.cells.length).sub t) offs needs w (r0.aO hM) (hM.aL (j:=1) rfl (fun _ h=>h)) ag) fun A140 c140 A240 c240=>lx rfl<|Ne<|lx rfl<|lF<|lx rfl<|fI rfl rfl<|bN (fun w hM=>Jw bs A c its v1 v2 v3 v4 v5 v6 v7 v8 v9 v10 A240 c240 needs A140 c140 offs w (r1.aO hM) (r2.aO hM) (hM.aL (j:=3) rfl (fun _ h=>kV h)) (hM.aL (j:=2) rfl (fun _ h=>kV h)) ag om om om) ?_
 refine lg (.bool (!(kG its needs offs)))<|lk (.bool (!(kG its needs offs)))<|Na<|eF rfl (by rw [hag]; rfl)<|Ni<|lx rfl<|Ne<|lx rfl<|lk (vP bs 0)<|lk (vP bs 0)<|lW (rW (fun w hM=>At.cell (r1.now hM) 0))<|lk (vI its.length)<|lx rfl<|Ng<|St.mem (fun w hM=>hM.jD 9 1)<|sL (fun (i,B,cb)=>i≤its.length) (fun (i,B,cb)=>its.length - i) (fun (i,B,cb)=>[(2,(vS print)),(6,(vL A140 offs c140)),(7,(vL A240 needs c240)),(8,bF),(10,(vi 0)),(56,(vL A its c)),(57,(vI its.length)),(12,(vL B (aH (its.take i) offs) cb)),(58,(vI i))]) (fun (i,B,cb)=>[cT X25 (dE its t.cells.length),cT Z33 ((dE its t.cells.length).sub t),dJ A140 (SS offs),dJ A240 (SS needs),cS B (aH (its.take i) offs) cb]) (0,none,0) (Nat.zero_le _) (fun _ h=>h) ?_
 rintro ⟨i,B,cb⟩ (hok:i≤its.length)
 dsimp only
 refine Nc<|lk (.bool (decide (((i:Nat):Int) < ((its.length:Nat):Int)))) ?_
 refine aS (aJ (aQ (bR rfl (fun hc59=>?_) (fun hc59=>?_))))
 ·have hd59:=of_decide_eq_true hc59
  refine Nm<|aE ?_
  obtain ⟨x0,hx0⟩:∃ ξ,(its)[i]?=some ξ:=⟨_,List.getElem?_eq_getElem om⟩
  refine St.eE (fun w hM=>r2.now hM) (eG hx0) (fun p60 q60 hA60 hc60=>lw (vP p60 (q60+i)) (rR 9 hA60)<|lW (rW hc60)<|lx rfl<|Nb<|lx rfl<|Nx<|bN (fun w hM=>DP A140 c140 offs x0 w (hM.aL (j:=2) rfl (fun _ h=>kV h)) ag om)<|lx rfl<|Nb<|lx rfl<|lk (.bool (!(offs.contains x0))) ?_)
  refine aS (aJ (bR rfl (fun hc69=>?_) (fun hc69=>?_)))
  ·refine aE<|lx rfl<|Nx<|pN 1 9 [(vS x0)] fun b72=>Nx<|fJ kB 4 ([(vS x0)]) rfl rfl kr rfl rfl rfl (rfl) (kA (i:=5) rfl (fun j v h=>by rw [Nat.zero_add]; exact h)) (by simp [Value.oneCell']) (by have h:=jL (its.take i) offs; simp only [List.length_take] at h; omega) ((aH (its.take i) offs++[x0]).length) fN (SS (aH (its.take i) offs++[x0])) (by simp [SS]) (fun A73 c73=>lx rfl<|Nk<|aE<|lw (vI (i+1)) bJ<|lx rfl<|Na ?_)
   rw [show aH (its.take i) offs++[x0]=aH (its.take (i+1)) offs from xI hx0 (by simpa using hc69)]
   exact sA (i+1,A73,c73) (by show _≤_; omega) (by show its.length - (i+1) < its.length - i; omega) (fun w hM=>(hM.pick [0,1,2,3,4] rfl rfl))
  ·refine Nw<|aE<|lw (vI (i+1)) bJ<|lx rfl<|Na ?_
   rw [show aH (its.take i) offs=aH (its.take (i+1)) offs from xJ hx0 (by simpa using hc69)]
   exact sA (i+1,B,cb) (by show _≤_; omega) (by show its.length - (i+1) < its.length - i; omega) (fun w hM=>hM)
 ·have hd59:=of_decide_eq_false hc59
  obtain rfl:i=its.length:=om
  rw [List.take_length]
  have hwl:=jL its offs
  refine Nj<|aE<|lx rfl<|Nx<|fJ kB 4 (SS needs) rfl rfl kr rfl rfl rfl si (fun w hM=>eQ.mC (kV (hM.at (i:=3) rfl))) (zU) om ((aH its offs++needs).length) fN (SS (aH its offs++needs)) (by simp [SS]) (fun A77 c77=>lx rfl<|Nf ?_)
  dsimp only [bC,List.set,List.cons_append,List.nil_append]
  have hol:(aH its offs++needs).length≤1000:=by rw [List.length_append]; omega
  refine aE<|lx rfl<|Nx<|bZ [4] (fun w hM hO=>SR A77 c77 (aH its offs++needs) w hO (by rw [List.length_append]; omega))<|Nf ?_
  rw [show (aH its offs++needs).length=(lV its offs needs).length from (vD _).symm]
  have hol2:(lV its offs needs).length≤1000:=by unfold lV; rw [vD]; exact hol
  exact aE<|lx rfl<|Nx<|bN (fun w hM=>sS A77 c77 (lV its offs needs) w (r0.aO hM) (hM.aL (j:=4) rfl (fun _ h=>kV h)) om ag om)<|lx rfl<|Nb<|lx rfl<|lT<|lx rfl<|lu (.bool (decide ((cQ (lV its offs needs))=print))) (oG rfl rfl rfl)<|lk (.bool (decide ((cQ (lV its offs needs))=print)))<|lx rfl<|Nd<|sN [(vL A140 offs c140),(vL A240 needs c240),(.bool (decide ((cQ (lV its offs needs))=print)))] fun w hM=>⟨A140,c140,A240,c240,by rw [hfp]; simp; rfl,(hM.pick [2,3] rfl rfl)⟩
theorem Wu (bs:Nat) (A:Option Addr) (c:Nat) (its:List (List UInt8)) (v1 v2:Value) (v3 v4:Value) (v5 v6:Value) (v7 v8:Value) (v9 v10:Value) (X:Option Addr × Nat) (br:Nat) (r:Rd) (print:List UInt8) (q1:Rd) (t:BT) (offs needs:List (List UInt8)) (w:World) (hO:bO [aB bs 65 [(vL A its c),v1,v2,v3,v4,v5,v6,v7,v8,v9,v10],aU X br (r)] w) (r0:Rf [aB bs 65 [(vL A its c),v1,v2,v3,v4,v5,v6,v7,v8,v9,v10],aU X br (r)] w (bW)) (r1:Rf [aB bs 65 [(vL A its c),v1,v2,v3,v4,v5,v6,v7,v8,v9,v10],aU X br (r)] w (fun w=>aF w A (SS its))) (hp:r.sum=(print,q1)) (htd:fW q1.rest.1=some t) (hend:q1.rest.2.end_=0) (hs0:t.seed=0) (hset:bH its) (h40:its.length≤40) (hsm:needs.length≤600) (hd:mW its t print=some (offs,needs)) (hao:offs.Pairwise (· < ·)) (h32o:∀ x∈offs,x.length=32) (h32n:∀ x∈needs,x.length=32) :
  Calls Tryz.prog 82 #[(vP bs 0),(vP br 0)] w fun e w'=>∃ (Ao:Option Addr) (co:Nat) (An:Option Addr) (cn:Nat) (Am:Option Addr) (cm:Nat),e = .returned (vi 0)∧aK [aB bs 65 [(vL A its c),v1,v2,v3,v4,v5,v6,v7,v8,v9,v10],aU X br (r)] w [aB bs 65 [(vL A its c),v1,(vi 1),(vI 4),(vL Am (gU offs needs) cm),v5,bT,v7,bT,(vL An needs cn),(vL Ao offs co)],aU X br (q1.rest.2),dJ Ao (SS offs),dJ An (SS needs),cB Am (gU offs needs) cm] w':=by
 refine bG Tryz.func82 100 (hO) rfl<|Nc<|lx rfl<|Nf ?_
 have h32:=hset.1
 refine aE<|lx rfl<|Nx<|bZ [1] (fun w hM hO=>xP X br r w hO)<|lx rfl<|Nf ?_
 rw [show r.sum.1=print from by rw [hp]]
 rw [show r.sum.2=q1 from by rw [hp]]
 refine St.fact (fun w hM=>(hM.at (i:=1) (c:=aU X br q1) rfl).2.len) (fun hrl=>?_)
 have hrt:=q1.wF (q1.D.length - q1.off)
 refine aE<|lx rfl<|Nx<|bZ [1] (fun w hM hO=>oS X br q1 w hO)<|Nx<|kC [1] (fun w hM hO=>rC X br q1 (q1.D.length - q1.off) w hO om) fun B25 cb25=>?_
 rw [show q1.text (q1.D.length - q1.off)=q1.rest from rfl]
 refine Nx<|fP (fun w hM=>Di B25 cb25 q1.rest.1 t w (hM.aL (j:=2) rfl (fun _ h=>aF.aR h)) (by unfold Rd.rest; omega) ag) fun X26=>?_
 have hz:=(Ir htd).2
 refine lx rfl<|Nf<|aQ ?_
 dsimp only [bC,List.set,List.cons_append,List.nil_append]
 refine aE<|lx rfl<|Nx<|bZ [1] (fun w hM hO=>oQ X br q1.rest.2 w hO)<|lx rfl<|Nb<|lx rfl<|lk (.bool ((q1.rest.2.end_:Int) != 0))<|lm ?_
 refine St.known 36 (b':=false) rfl (by rw [hend]; simp)<|lx rfl<|lg bF<|lF<|lx rfl<|fI rfl rfl<|bN (fun w hM=>uR X26 t w (hM.aL (j:=3) rfl (fun _ h=>h)))<|fI rfl rfl<|bN (fun w hM=>DL X26 t t.cells.length 0 w (hM.aL (j:=3) rfl (fun _ h=>h)) (hz) (by unfold cG; decide))<|lg (.bool (!(iR t t.cells.length 0)))<|lk (.bool (!(iR t t.cells.length 0)))<|Na<|eF rfl (by rw [LS hs0]; rfl)<|Ni<|lx rfl<|Nx<|wT (fun w hM=>Ws bs A c its v1 v2 v3 v4 v5 v6 v7 v8 v9 v10 X26 t print offs needs w (r0.aO hM) (hM.aL (j:=0) rfl (fun _ h=>h)) (r1.aO hM) (hM.aL (j:=3) rfl (fun _ h=>h)) ag ag ag ag ag ag ag) fun Ao51 co51 An51 cn51=>lx rfl<|Nf<|aQ ?_
 dsimp only [bC,List.set,List.cons_append,List.nil_append]
 refine aE<|lx rfl<|lF<|Nn<|aE<|Nx<|fP (fun w hM=>AN  w ) fun bw59=>lx rfl<|Nf<|St.mem (fun w hM=>hM.jD 5 1) ?_
 dsimp only [bC,List.set,List.cons_append,List.nil_append]
 obtain ⟨hk,hag,hse,hfp⟩:=LU hd
 have hkl:=AL hk
 rw [nM (by rw [kZ]),kZ] at hkl
 have hn9:=(kE hz).2.1
 have hn4:=eJ 4 om
 have hno:=eJ offs.length om
 have hnn:=eJ needs.length om
 have hfo:=BL h32o
 have hfn:=BL h32n
 refine aE<|lx rfl<|Nx<|eV [6,7] (fun w hM hO=>vE bw59 none 0 cW 4 w hO om (by decide)) fun A261 c261=>Ne<|lx rfl<|Nx<|pN 2 24 [(vL Ao51 offs co51),(vL An51 needs cn51)] fun b64=>lk (vI 2)<|lx rfl<|Ng<|LO 3<|tN<|Nc<|lT<|Nf<|pJ rfl<|Nm<|aE<|lk (vP b64 0)<|lL 8 rfl<|lx rfl<|Nb<|lx rfl ?_
 refine lk (vI offs.length)<|Nx<|eV [6,7] (fun w hM hO=>xR bw59 A261 c261 (cW++aD 4) offs.length w hO om (by simp only [List.length_append,List.length_nil,cW] at *; omega)) fun A273 c273=>Nb<|lx rfl<|lk (vI offs.length)<|lx rfl<|Ng<|sL (fun (i,AX,cX)=>i≤offs.length) (fun (i,AX,cX)=>offs.length - i) (fun (i,AX,cX)=>[(0,(vP bs 0)),(4,(vi 0)),(7,(vi 0)),(10,(vL Ao51 offs co51)),(11,(vL An51 needs cn51)),(13,(vP bw59 0)),(15,(vL Ao51 offs co51)),(64,(.slice (some ⟨b64,0,none⟩) (2) (2))),(65,(vI 2)),(66,(vi 0)),(67,bT),(68,(vP b64 0)),(69,(vL Ao51 offs co51)),(70,(vP bw59 0)),(71,(vL Ao51 offs co51)),(72,(vI offs.length)),(74,(vL Ao51 offs co51)),(75,(vI offs.length)),(76,(vI i))]) (fun (i,AX,cX)=>[aB bs 65 [(vL A its c),v1,v2,v3,v4,v5,v6,v7,v8,v9,v10],aU X br (q1.rest.2),cB B25 (q1.rest.1) cb25,cT X26 t,dJ Ao51 (SS offs),dJ An51 (SS needs),aB bw59 140 [(vL AX (((cW++aD 4)++aD offs.length)++(offs.take i).flatten) cX),(vi 0)],cB AX (((cW++aD 4)++aD offs.length)++(offs.take i).flatten) cX,aB b64 24 [(vL Ao51 offs co51),(vL An51 needs cn51)]]) (0,A273,c273) (Nat.zero_le _) (fun w hM=>by show Mm _ _ [aB bs 65 [(vL A its c),v1,v2,v3,v4,v5,v6,v7,v8,v9,v10],aU X br (q1.rest.2),cB B25 (q1.rest.1) cb25,cT X26 t,dJ Ao51 (SS offs),dJ An51 (SS needs),aB bw59 140 [(vL A273 (((cW++aD 4)++aD offs.length)++(offs.take 0).flatten) c273),(vi 0)],cB A273 (((cW++aD 4)++aD offs.length)++(offs.take 0).flatten) c273,aB b64 24 [(vL Ao51 offs co51),(vL An51 needs cn51)]] w; rw [show ((cW++aD 4)++aD offs.length)++(offs.take 0).flatten=(cW++aD 4)++aD offs.length from by simp]; exact hM) ?_
 rintro ⟨i,AX,cX⟩ (hok:i≤offs.length)
 dsimp only
 refine Nc<|lk (.bool (decide (((i:Nat):Int) < ((offs.length:Nat):Int)))) ?_
 refine aS (aJ (aQ (bR rfl (fun hc77=>?_) (fun hc77=>?_))))
 ·have hd77:=of_decide_eq_true hc77
  have hlt:i < offs.length:=om
  have hft:=LR (l:=offs) i
  refine Nm<|aE ?_
  obtain ⟨x0,hx0⟩:∃ ξ,(offs)[i]?=some ξ:=⟨_,List.getElem?_eq_getElem om⟩
  refine St.eE (fun w hM=>kV (hM.at (i:=4) rfl)) (eG hx0) (fun p78 q78 hA78 hc78=>lw (vP p78 (q78+i)) (rR 9 hA78)<|lW (rW hc78)<|lx rfl<|Nv<|lx rfl<|Nx<|eV [6,7] (fun w hM hO=>xS bw59 AX cX (((cW++aD 4)++aD offs.length)++(offs.take i).flatten) x0 w hO (h32o _ (List.mem_of_getElem? hx0)) (by simp only [List.length_append,List.length_nil,cW] at *; omega)) fun A282 c282=>Nk<|aE<|lw (vI (i+1)) bJ<|lx rfl<|Na ?_)
  rw [show (((cW++aD 4)++aD offs.length)++(offs.take i).flatten)++x0=((cW++aD 4)++aD offs.length)++(offs.take (i+1)).flatten from by rw [List.append_assoc,← LQ hx0]]
  exact sA (i+1,A282,c282) (by show _≤_; omega) (by show offs.length - (i+1) < offs.length - i; omega) (fun w hM=>hM)
 ·have hd77:=of_decide_eq_false hc77
  obtain rfl:i=offs.length:=om
  rw [List.take_length]
  refine Nr<|lN<|nF<|aJ<|aE<|lk (vi 1)<|lx rfl<|Na<|tN<|Nc<|lT<|Nf<|pJ rfl<|Nm<|aE<|lk (vP b64 1)<|lL 8 rfl<|lx rfl<|Nb<|lx rfl<|lk (vI needs.length)<|Nx<|eV [6,7] (fun w hM hO=>xR bw59 AX cX (((cW++aD 4)++aD offs.length)++offs.flatten) needs.length w hO om (by simp only [List.length_append,List.length_nil,cW] at *; omega)) fun A273 c273=>Nb ?_
  refine lx rfl<|lk (vI needs.length)<|lx rfl<|Ng<|sL (fun (i,AX,cX)=>i≤needs.length) (fun (i,AX,cX)=>needs.length - i) (fun (i,AX,cX)=>[(0,(vP bs 0)),(4,(vi 0)),(7,(vi 0)),(10,(vL Ao51 offs co51)),(11,(vL An51 needs cn51)),(13,(vP bw59 0)),(15,(vL An51 needs cn51)),(64,(.slice (some ⟨b64,0,none⟩) (2) (2))),(65,(vI 2)),(66,(vi 1)),(67,bT),(68,(vP b64 1)),(69,(vL An51 needs cn51)),(70,(vP bw59 0)),(71,(vL An51 needs cn51)),(72,(vI needs.length)),(74,(vL An51 needs cn51)),(75,(vI needs.length)),(84,(vi 1)),(76,(vI i))]) (fun (i,AX,cX)=>[aB bs 65 [(vL A its c),v1,v2,v3,v4,v5,v6,v7,v8,v9,v10],aU X br (q1.rest.2),cB B25 (q1.rest.1) cb25,cT X26 t,dJ Ao51 (SS offs),dJ An51 (SS needs),aB bw59 140 [(vL AX (((((cW++aD 4)++aD offs.length)++offs.flatten)++aD needs.length)++(needs.take i).flatten) cX),(vi 0)],cB AX (((((cW++aD 4)++aD offs.length)++offs.flatten)++aD needs.length)++(needs.take i).flatten) cX,aB b64 24 [(vL Ao51 offs co51),(vL An51 needs cn51)]]) (0,A273,c273) (Nat.zero_le _) (fun w hM=>by show Mm _ _ [aB bs 65 [(vL A its c),v1,v2,v3,v4,v5,v6,v7,v8,v9,v10],aU X br (q1.rest.2),cB B25 (q1.rest.1) cb25,cT X26 t,dJ Ao51 (SS offs),dJ An51 (SS needs),aB bw59 140 [(vL A273 (((((cW++aD 4)++aD offs.length)++offs.flatten)++aD needs.length)++(needs.take 0).flatten) c273),(vi 0)],cB A273 (((((cW++aD 4)++aD offs.length)++offs.flatten)++aD needs.length)++(needs.take 0).flatten) c273,aB b64 24 [(vL Ao51 offs co51),(vL An51 needs cn51)]] w; rw [show ((((cW++aD 4)++aD offs.length)++offs.flatten)++aD needs.length)++(needs.take 0).flatten=(((cW++aD 4)++aD offs.length)++offs.flatten)++aD needs.length from by simp]; exact hM) ?_
  rintro ⟨i,AX,cX⟩ (hok:i≤needs.length)
  dsimp only
  refine Nc<|lk (.bool (decide (((i:Nat):Int) < ((needs.length:Nat):Int)))) ?_
  refine aS (aJ (aQ (bR rfl (fun hc77=>?_) (fun hc77=>?_))))
  ·have hd77:=of_decide_eq_true hc77
   have hlt:i < needs.length:=om
   have hft:=LR (l:=needs) i
   refine Nm<|aE ?_
   obtain ⟨x0,hx0⟩:∃ ξ,(needs)[i]?=some ξ:=⟨_,List.getElem?_eq_getElem om⟩
   refine St.eE (fun w hM=>kV (hM.at (i:=5) rfl)) (eG hx0) (fun p78 q78 hA78 hc78=>lw (vP p78 (q78+i)) (rR 9 hA78)<|lW (rW hc78)<|lx rfl<|Nv<|lx rfl<|Nx<|eV [6,7] (fun w hM hO=>xS bw59 AX cX (((((cW++aD 4)++aD offs.length)++offs.flatten)++aD needs.length)++(needs.take i).flatten) x0 w hO (h32n _ (List.mem_of_getElem? hx0)) (by simp only [List.length_append,List.length_nil,cW] at *; omega)) fun A282 c282=>Nk<|aE<|lw (vI (i+1)) bJ<|lx rfl<|Na ?_)
   rw [show (((((cW++aD 4)++aD offs.length)++offs.flatten)++aD needs.length)++(needs.take i).flatten)++x0=((((cW++aD 4)++aD offs.length)++offs.flatten)++aD needs.length)++(needs.take (i+1)).flatten from by rw [List.append_assoc,← LQ hx0]]
   exact sA (i+1,A282,c282) (by show _≤_; omega) (by show needs.length - (i+1) < needs.length - i; omega) (fun w hM=>hM)
  ·have hd77:=of_decide_eq_false hc77
   obtain rfl:i=needs.length:=om
   rw [List.take_length]
   refine Nr<|lN<|nF<|aJ<|aE<|lk (vi 2)<|lx rfl<|Na<|tN<|Nc<|lF<|Nf<|qL rfl<|Nj ?_
   rw [show ((((cW++aD 4)++aD offs.length)++offs.flatten)++aD needs.length)++needs.flatten=gU offs needs from by simp [gU,cW]]
   have hdl:=LP h32o h32n om om
   refine aE<|lx rfl<|Nx<|eV [6,7] (fun w hM hO=>AO bw59 AX cX (gU offs needs) w hO om) fun A287 c287=>lx rfl<|Ne<|lx rfl<|lF<|Nn<|aE<|lx rfl<|Nx<|bZ [0] (fun w hM hO=>Jx bs (vL A its c) v1 v2 v3 v4 v5 v6 v7 v8 v9 v10 An51 needs.length cn51 Ao51 offs.length co51 w hO)<|Nb<|lx rfl<|Nx<|bZ [0] (fun w hM hO=>vG bs (vL A its c) v1 v2 v3 v4 v5 bT v7 bT (vL An51 needs cn51) (vL Ao51 offs co51) 4 A287 ((gU offs needs).length) c287 w hO)<|Nf ?_
   dsimp only [bC,List.set,List.cons_append,List.nil_append]
   exact aE<|lx rfl<|Nd<|sN [(vi 0)] fun w hM=>⟨Ao51,co51,An51,cn51,A287,c287,rfl,(hM.pick [0,1,4,5,9] rfl rfl)⟩
theorem Wv (bs:Nat) (A:Option Addr) (c:Nat) (its:List (List UInt8)) (v1 v2:Value) (v3 v4:Value) (v5 v6:Value) (v7 v8:Value) (v9 v10:Value) (X:Option Addr × Nat) (br:Nat) (r q1 q2:Rd) (offs needs:List (List UInt8)) (w:World) (hO:bO [aB bs 65 [(vL A its c),v1,v2,v3,v4,v5,v6,v7,v8,v9,v10],aU X br (r)] w) (r0:Rf [aB bs 65 [(vL A its c),v1,v2,v3,v4,v5,v6,v7,v8,v9,v10],aU X br (r)] w (fun w=>aF w A (SS its))) (hi1:r.items 16384=(needs,q1)) (hi2:q1.items 16384=(offs,q2)) (hend:q2.end_=0) (han:needs.Pairwise (· < ·)) (hao:offs.Pairwise (· < ·)) (hag:kG its needs offs=true) (hs:its.Pairwise (· < ·)) (hn:its.length≤68719476736) :
  Calls Tryz.prog 84 #[(vP bs 0),(vP br 0)] w fun e w'=>∃ (An:Option Addr) (cn:Nat) (Ao:Option Addr) (co:Nat),e = .returned (vi 0)∧aK [aB bs 65 [(vL A its c),v1,v2,v3,v4,v5,v6,v7,v8,v9,v10],aU X br (r)] w [aB bs 65 [(vL A its c),v1,(vi 0),v3,v4,v5,bT,v7,bT,(vL An needs cn),(vL Ao offs co)],aU X br (q2),cS An needs cn,cS Ao offs co] w':=by
 refine bG Tryz.func84 47 (hO) rfl<|Nc<|lx rfl<|Nb<|lx rfl<|Nx<|kC [1] (fun w hM hO=>LN X br r w hO (by rw [hi1]; exact han)) fun B12 cb12=>?_
 rw [show (r.items 16384).1=needs from by rw [hi1]]
 rw [show (r.items 16384).2=q1 from by rw [hi1]]
 refine lx rfl<|Ne<|lx rfl<|lF<|Nn<|aE<|lx rfl<|Nx<|kC [1] (fun w hM hO=>LN X br q1 w hO (by rw [hi2]; exact hao)) fun B19 cb19=>?_
 rw [show (q1.items 16384).1=offs from by rw [hi2]]
 rw [show (q1.items 16384).2=q2 from by rw [hi2]]
 have hnl:needs.length≤16384:=by have h:=r.rQ 16384; rw [hi1] at h; exact h
 have hol:offs.length≤16384:=by have h:=q1.rQ 16384; rw [hi2] at h; exact h
 refine lx rfl<|Ne<|lx rfl<|Nx<|bZ [1] (fun w hM hO=>oQ X br q2 w hO)<|lx rfl<|Nb<|lx rfl<|lk (.bool ((q2.end_:Int) != 0))<|lm ?_
 refine St.known 29 (b':=false) rfl (by rw [hend]; simp)<|lx rfl<|lg bF<|lF<|lx rfl<|fI rfl rfl<|bN (fun w hM=>Jw bs A c its v1 v2 v3 v4 v5 v6 v7 v8 v9 v10 B12 cb12 needs B19 cb19 offs w (hM.aL (j:=0) rfl (fun _ h=>h)) (r0.aO hM) (hM.aL (j:=2) rfl (fun _ h=>aF.aR h)) (hM.aL (j:=3) rfl (fun _ h=>aF.aR h)) ag om om om)<|lg (.bool (!(kG its needs offs)))<|lk (.bool (!(kG its needs offs)))<|Na<|eF rfl (by rw [hag]; rfl)<|Nl ?_
 dsimp only [bC,List.set,List.cons_append,List.nil_append]
 exact aE<|lx rfl<|Nx<|bZ [0] (fun w hM hO=>Jx bs (vL A its c) v1 v2 v3 v4 v5 v6 v7 v8 v9 v10 B12 needs.length cb12 B19 offs.length cb19 w hO)<|Nb<|lx rfl<|lk (vP bs 0)<|lk (vP bs 2)<|Nx<|pS 0 rfl<|Nb<|lx rfl<|Nd<|sN [(vi 0)] fun w hM=>⟨B12,cb12,B19,cb19,rfl,hM⟩
end
section
open Go.Maps (Keyed)
open Go.ChangeMaps (setBlock)
open Go.MapKept (Stamped)
section
variable {α β : Type} [DecidableEq α]
def pC (kv : List (α × β)) (a : α) : Option β := (kv.find? fun p => decide (p.1 = a)).map (·.2)
def tO (kv : List (α × β)) (a : α) (v : β) : List (α × β) := if (pC kv a).isSome then kv.map (fun p => if p.1 = a then (a, v) else p) else kv ++ [(a, v)]
def lE (kv : List (α × β)) : List α := kv.map (·.1)
theorem LV {kv:List (α × β)} {a:α} (h:a∉lE kv):pC kv a=none:=by
 unfold pC
 rw [List.find?_eq_none.2]
 ·rfl
 ·intro p hp e
  exact h (List.mem_map.2 ⟨p,hp,by simpa using e⟩)
theorem LW {kv:List (α × β)} {a:α} {v:β} {j:Nat} (hn:(lE kv).Nodup) (hj:kv[j]?=some (a,v)):pC kv a=some v:=by
 induction kv generalizing j with
 | nil=>simp at hj
 | cons p kv ih =>
   unfold pC
   rw [List.find?_cons]
   by_cases hp:p.1=a
   ·rw [show (decide (p.1=a))=true by simpa using hp]
    cases j with
    | zero=>simp at hj; rw [hj]; rfl
    | succ j =>
      exfalso
      simp only [List.getElem?_cons_succ] at hj
      have:a∈lE kv:=List.mem_map.2 ⟨(a,v),List.mem_of_getElem? hj,rfl⟩
      unfold lE at hn this
      rw [List.map_cons,List.nodup_cons] at hn
      exact hn.1 (hp▸this)
   ·rw [show (decide (p.1=a))=false by simpa using hp]
    cases j with
    | zero=>simp at hj; rw [hj] at hp; exact (hp rfl).elim
    | succ j =>
      unfold lE at hn
      rw [List.map_cons,List.nodup_cons] at hn
      exact ih hn.2 (by simpa using hj)
theorem LY {kv:List (α × β)} {a:α} {v:β} (h:a∉lE kv):tO kv a v=kv++[(a,v)]:=by unfold tO; rw [LV h]; rfl
theorem LZ {kv:List (α × β)} {a:α} {u v:β} {j:Nat} (hn:(lE kv).Nodup) (hj:kv[j]?=some (a,u)):tO kv a v=kv.set j (a,v):=by
 unfold tO
 rw [LW hn hj]
 show kv.map _=_
 apply List.ext_getElem?
 intro i
 rw [List.getElem?_map,List.getElem?_set]
 by_cases hij:j=i
 ·subst hij
  rw [if_pos rfl,if_pos (List.getElem?_eq_some_iff.1 hj).1,hj]
  simp
 ·rw [if_neg hij]
  cases hi:kv[i]? with
  | none=>rfl
  | some p =>
    simp only [Option.map_some]
    by_cases hp:p.1=a
    ·exfalso
     have e1:(lE kv)[i]?=some a:=by unfold lE; rw [List.getElem?_map,hi]; simp [hp]
     have e2:(lE kv)[j]?=some a:=by unfold lE; rw [List.getElem?_map,hj]; rfl
     obtain ⟨li,f1⟩:=List.getElem?_eq_some_iff.1 e1
     obtain ⟨lj,f2⟩:=List.getElem?_eq_some_iff.1 e2
     exact hij ((List.getElem_inj hn).1 (f2.trans f1.symm))
    ·rw [if_neg hp]
end
/-! ### Maps in memory -/
/-- How the keys of a type are told. -/
structure Kd (P : Program) (k : TypeId) (α : Type) where
 keyed : Keyed P k
 enc : α → Value
 lit : α → Lit
 ok : α → Prop
 key : ∀ a, ok a → keyOf P k (enc a) = some (lit a)
 inj : ∀ a b, ok a → ok b → enc a = enc b → a = b
section
variable {P : Program} {k : TypeId} {α β : Type} (D : Kd P k α) (val : β → Value)
def gF (w : World) (b : Nat) (kv : List (α × β)) : Prop :=
 ∃ es clock, w.heap[b]? = some (.map es clock) ∧ Stamped es clock ∧ es.toList.map (fun e => (e.key, e.val)) = kv.map (fun p => (D.enc p.1, val p.2)) ∧ ∀ p ∈ kv, D.ok p.1
variable {D : Kd P k α} {val : β → Value} {w : World} {b : Nat} {kv : List (α × β)}
theorem gF.lt (h:gF D val w b kv):b < w.heap.size:=by
 obtain ⟨es,clock,h1,_⟩:=h
 exact (Array.getElem?_eq_some_iff.1 h1).1
theorem gF.new (w:World):gF D val (w.alloc (.map #[] 0)) w.heap.size ([]:List (α × β)):=⟨#[],0,by show (w.heap.push _)[w.heap.size]?=_; simp,MapKept.stamped_empty 0,si,si⟩
theorem gF.entry {es:Array MapEntry} (he:es.toList.map (fun e=>(e.key,e.val))=kv.map (fun p=>(D.enc p.1,val p.2))) (j:Nat) {e:MapEntry} (h:es.toList[j]?=some e):∃ p,kv[j]?=some p∧D.enc p.1=e.key∧val p.2=e.val:=by
 have h1:(es.toList.map (fun e=>(e.key,e.val)))[j]?=some (e.key,e.val):=by rw [List.getElem?_map,h]; rfl
 rw [he,List.getElem?_map] at h1
 obtain ⟨p,hp,e1⟩:=Option.map_eq_some_iff.1 h1
 injection e1 with e2 e3
 exact ⟨p,hp,e2,e3⟩
theorem gF.keysOf {es:Array MapEntry} (he:es.toList.map (fun e=>(e.key,e.val))=kv.map (fun p=>(D.enc p.1,val p.2))) (hok:∀ p∈kv,D.ok p.1):∀ x∈es.toList,∃ l,keyOf P k x.key=some l:=by
 intro x hx
 obtain ⟨j,hj,e⟩:=List.mem_iff_getElem.1 hx
 obtain ⟨p,hp,h1,_⟩:=gF.entry he j (e▸List.getElem?_eq_getElem hj)
 exact ⟨_,h1▸D.key p.1 (hok p (List.mem_of_getElem? hp))⟩
theorem gF.nodup (h:gF D val w b kv):(lE kv).Nodup:=by
 obtain ⟨es,clock,_,hs,he,hok⟩:=h
 have h1:(es.toList.map (·.key)).Nodup:=hs.2.2
 have h2:es.toList.map (·.key)=(lE kv).map D.enc:=by
  have:=congrArg (List.map Prod.fst) he
  rw [List.map_map,List.map_map] at this
  unfold lE
  rw [List.map_map]
  exact this
 rw [h2] at h1
 unfold List.Nodup at h1 ⊢
 rw [List.pairwise_map] at h1
 exact h1.imp fun {a b} hne e=>hne (by rw [e])
theorem gF.find {es:Array MapEntry} {a:α} (ha:D.ok a) (he:es.toList.map (fun e=>(e.key,e.val))=kv.map (fun p=>(D.enc p.1,val p.2))) (hok:∀ p∈kv,D.ok p.1) (W:World) :
  ((Instr.findKey k (D.enc a) es.toList).run P W = .ok none W∧a∉lE kv∧∀ e∈es.toList,e.key≠D.enc a) ∨
  ∃ j e p,(Instr.findKey k (D.enc a) es.toList).run P W = .ok (some (j,val p.2)) W∧es.toList[j]?=some e∧e.key=D.enc a∧kv[j]?=some p∧p.1=a:=by
 rcases D.keyed.find W (D.key a ha) es.toList (gF.keysOf he hok) with ⟨h1,h2⟩ | ⟨j,e,h1,h2,h3⟩
 ·refine .inl ⟨h1,fun hm=>?_,h2⟩
  obtain ⟨p,hp,rfl⟩:=List.mem_map.1 hm
  obtain ⟨j,hj,e1⟩:=List.mem_iff_getElem.1 hp
  have hl:es.toList.length=kv.length:=by have:=congrArg List.length he; simpa using this
  have hj':j < es.toList.length:=om
  obtain ⟨p',hp',h4,_⟩:=gF.entry he j (List.getElem?_eq_getElem hj')
  rw [List.getElem?_eq_getElem hj,e1] at hp'
  cases hp'
  exact h2 _ (List.getElem_mem hj') h4.symm
 ·obtain ⟨p,hp,h4,h5⟩:=gF.entry he j h2
  exact .inr ⟨j,e,p,by rw [h1,h5],h2,h3,hp,D.inj _ _ (hok p (List.mem_of_getElem? hp)) ha (h4.trans h3)⟩
variable {t e : TypeId} [DecidableEq α]
theorem gF.lookup (h:gF D val w b kv) (ht:P.underlying t=some (.map k e)) {z:Value} (hz:∀ w,(zeroValue e).run P w = .ok z w) {a:α} (ha:D.ok a) (ok:Bool) :
  (Instr.lookup t (.map (some b)) (D.enc a) ok).run P w = .ok (if ok then .tuple #[((pC kv a).map val).getD z,.bool (pC kv a).isSome] else ((pC kv a).map val).getD z) w:=by
 have hn:=h.nodup
 obtain ⟨es,clock,hb,hs,he,hok⟩:=h
 unfold Instr.lookup
 simp only [Sem.run_bind,run_underlying ht,Result.andThen_ok,MapKept.run_getObj_map hb,Sem.run_pure,D.keyed.check w _ (D.key a ha)]
 rcases gF.find ha he hok w with ⟨h1,h2,_⟩ | ⟨j,x,p,h1,h2,h3,h4,h5⟩
 ·simp only [h1,Result.andThen_ok,LV h2,Sem.run_bind,hz,Sem.run_pure]
  cases ok <;> rfl
 ·obtain ⟨a',v⟩:=p
  cases h5
  simp only [h1,Result.andThen_ok,LW hn h4]
  cases ok <;> rfl
theorem Ma (w:World) (b:Nat) (o:Obj):Fr [b] w (setBlock w b o):=⟨rfl,rfl,rfl,by simp [setBlock],fun k _ hn=>by simp only [setBlock]; rw [Array.getElem?_setIfInBounds_ne (by intro e; exact hn (by simp [e]))]⟩
theorem gF.put (h:gF D val w b kv) (ht:P.underlying t=some (.map k e)) {a:α} (ha:D.ok a) (v:β) :
  ∃ w',(Instr.mapUpdate t (.map (some b)) (D.enc a) (val v)).run P w = .ok () w'∧Fr [b] w w'∧gF D val w' b (tO kv a v):=by
 have hn:=h.nodup
 obtain ⟨es,clock,hb,hs,he,hok⟩:=h
 have hlt:=(Array.getElem?_eq_some_iff.1 hb).1
 have hset:∀ o,(setBlock w b o).heap[b]?=some o:=fun o=>by simp [setBlock,hlt]
 rcases gF.find ha he hok w with ⟨h1,h2,h3⟩ | ⟨j,x,p,h1,h2,h3,h4,h5⟩
 ·refine ⟨setBlock w b (.map (es.push ⟨D.enc a,val v,clock⟩) (clock+1)),?_,Ma _ _ _,_,_,hset _,MapKept.stamped_push hs h3,?_,?_⟩
  ·simp [Instr.mapUpdate,run_underlying ht,MapKept.run_getObj_map hb,D.keyed.check w false (D.key a ha),h1,MapKept.run_setObj_map _ hb,Result.andThen,setBlock]
  ·rw [LY h2,Array.toList_push,List.map_append,List.map_append,he]
   rfl
  ·rw [LY h2]
   intro p hp
   rcases List.mem_append.1 hp with hp | hp
   ·exact hok p hp
   ·rw [List.mem_singleton] at hp
    subst hp
    exact ha
 ·obtain ⟨a',u⟩:=p
  cases h5
  have hj:es[j]?=some x:=by simpa using h2
  have hjl:j < es.toList.length:=(List.getElem?_eq_some_iff.1 h2).1
  have hkeyf:∀ e',es[j]?=some e'→({ e' with key:=D.enc a',val:=val v }:MapEntry).key=e'.key:=fun e' he'=>by rw [hj] at he'; cases he'; exact h3.symm
  refine ⟨setBlock w b (.map (es.modify j (fun e'=>{ e' with key:=D.enc a',val:=val v })) clock),?_,Ma _ _ _,_,_,hset _,MapKept.stamped_modify hs _ _ (fun _ _=>rfl) (fun e' _ he'=>hkeyf e' he'),?_,?_⟩
  ·simp [Instr.mapUpdate,run_underlying ht,MapKept.run_getObj_map hb,D.keyed.check w false (D.key a' ha),h1,hj,h3,D.keyed.stays w (D.key a' ha),MapKept.run_setObj_map _ hb,Result.andThen,setBlock]
  ·rw [LZ hn h4,Array.toList_modify,ChangeMaps.modify_eq_set _ _ _ _ h2,List.map_set,he,List.map_set]
  ·rw [LZ hn h4]
   intro p hp
   rcases List.mem_or_eq_of_mem_set hp with hp | rfl
   ·exact hok p hp
   ·exact ha
end
def qH {P : Program} {k : TypeId} {α β : Type} (D : Kd P k α) (val : β → Value) (b : Nat) (kv : List (α × β)) : Ch where
 fp := [b]
 holds w := gF D val w b kv
 ok w w' hb h := by
  obtain ⟨es, clock, h1, h2⟩ := h
  exact ⟨es, clock, (hb b (by simp)).trans h1, h2⟩
 lt w h c hc := by
  rw [List.mem_singleton] at hc
  subst hc
  exact h.lt
section
variable {P : Program} {k : TypeId} {α β : Type} {D : Kd P k α} {val : β → Value} {b : Nat} {kv : List (α × β)}
variable {Q : Exit → Act → World → Prop} {n : Nat} {w0 : World} {F : List Nat} {E : cH} {cs : List Ch} {X K : Act → World → Prop} {o : Oper} {d : Nat} {t e : TypeId}
theorem rL (D:Kd P k α) (val:β→Value) (ho:o.op = .makeMap t none) (hd:o.dst=some d) (hk:bK n E o=true) (h:∀ b,St n w0 F ((d,.map (some b))::E) (cs++[qH D val b ([]:List (α × β))]) K):cM P Q n w0 F E cs o K :=
 nE hd hk fun w hM=>by
  refine ⟨.map (some w.heap.size),w.alloc (.map #[] 0),_,?_,hM.push (c:=qH D val w.heap.size []) ((Fr.refl _ _).alloc _) (gF.new w) (by simp [qH]) (by simp [qH]),h _⟩
  unfold execOp
  simp only [ho,Option.map_none,Sem.run_bind,run_makeMap,Result.andThen_ok]
  rfl
variable [DecidableEq α]
theorem rM {x y:Operand} {a:α} {z:Value} (i:Nat) (ho:o.op = .lookup t x y true) (hx:aN E x=some (.map (some b))) (hy:aN E y=some (D.enc a)) (ht:P.underlying t=some (.map k e)) (hz:∀ w,(zeroValue e).run P w = .ok z w) (hi:cs[i]?=some (qH D val b kv)) (ha:D.ok a):cJ P w0 F cs E o (.tuple #[((pC kv a).map val).getD z,.bool (pC kv a).isSome]):=fun w hM=>by
 have h:gF D val w b kv:=hM.at hi
 unfold execOp
 simp only [ho,bL hx,bL hy,Sem.run_bind,h.lookup ht hz ha true]
 rfl
end
def Ww (P : Program) (k : TypeId) (q : IntKind) (hk : P.underlying k = some (.int q)) (m : Nat) (hm : ∀ a : Nat, a < m → (Lit.int q (a : Int)).wf = true) : Kd P k Nat where
 keyed := Maps.int_keyed hk
 enc a := .int q (a : Int)
 lit a := .int q (a : Int)
 ok a := a < m
 key a ha := Maps.keyOf_int_mk hk (hm a ha)
 inj a b _ _ h := by injection h with _ h; omega
end
section
noncomputable def gG : Kd Tryz.prog 62 Nat := Ww Tryz.prog 62 .i64 Tryz.underlying62 100 (fun a h => by simp [Lit.wf, IntKind.min, IntKind.max, IntKind.bits, IntKind.signed]; omega)
section
variable {P : Program} {Q : Exit → Act → World → Prop} {k : TypeId} {α β : Type} {D : Kd P k α} {val : β → Value} {b : Nat} {kv : List (α × β)} {n : Nat} {w0 : World} {F : List Nat} {E : cH} {cs : List Ch} {K : Act → World → Prop} {o : Oper} {t e : TypeId} [DecidableEq α]
theorem rN {x y v:Operand} {a:α} {u:β} (i:Nat) (kv':List (α × β)) (ho:o.op = .insert t x y v) (hd:o.dst=none) (hk:bK n E o=true) (hx:aN E x=some (.map (some b))) (hy:aN E y=some (D.enc a)) (hv:aN E v=some (val u)) (ht:P.underlying t=some (.map k e)) (hi:cs[i]?=some (qH D val b kv)) (ha:D.ok a) (hkv:tO kv a u=kv')
  (h:St n w0 F E (cs.set i (qH D val b kv')) K):cM P Q n w0 F E cs o K :=
 Ca hd hk fun w hM=>by
  subst hkv
  have hs:gF D val w b kv:=hM.at hi
  obtain ⟨w',hrun,hf,hm⟩:=hs.put ht ha u
  refine ⟨w',_,?_,hM.swap i hi (c':=qH D val b (tO kv a u)) hf hm (fun c hc=>.inl hc) (by simp [qH]),h⟩
  unfold execOp
  simp only [ho,bL hx,bL hy,bL hv,Sem.run_bind,hrun]
  rfl
end
theorem rO {P:Program} {E:cH} {o:Oper} {f:FuncId} {x y:Operand} {r u:Value} {t:Array TypeId} (ho:o.op = .call { callee:=.value x,args:=#[y],argTypes:=t }) (hx:aN E x=some (.func (.func f) #[r] #[])) (hy:aN E y=some u) (eg:∀ args w,(callFunc f args).run P w = .ok (.enter f args) w):∀ w,(execOp (evE E) o).run P w = .ok (.enter f #[r,u]) w:=fun w=>by
 unfold execOp
 simp only [ho,resolve,bL hx,Deferred.ofValue,Sem.run_bind,Sem.run_pure,Result.andThen_ok,invoke,List.map_toArray,List.map_cons,List.map_nil,bL hy]
 simpa using eg #[r,u] w
theorem Wx (bs:Nat) (A:Option Addr) (c:Nat) (its:List (List UInt8)) (v2 v3:Value) (v4 v6:Value) (v7 v8:Value) (v9 v10:Value) (AD:Option Addr) (cD:Nat) (Dm:List UInt8) (q0:Rd) (ts:List BT) (k n:Nat) (w:World) (hO:bO [aB bs 65 [(vL A its c),bF,v2,v3,v4,bF,v6,v7,v8,v9,v10]] w) (r0:Rf [aB bs 65 [(vL A its c),bF,v2,v3,v4,bF,v6,v7,v8,v9,v10]] w (bW)) (r1:Rf [aB bs 65 [(vL A its c),bF,v2,v3,v4,bF,v6,v7,v8,v9,v10]] w (fun w=>aF w A (SS its))) (r2:Rf [aB bs 65 [(vL A its c),bF,v2,v3,v4,bF,v6,v7,v8,v9,v10]] w (fun w=>aF w AD (B8 Dm))) (hDl:Dm.length≤4294967296) (hu:(Rd.mk Dm 0 0 0).uint=(1,q0)) (hts:gN q0.rest.1=some ts) (hend:q0.rest.2.end_=0) (hset:bH its) (h40:its.length≤40) (hest:gX ts (bQ its)=k) (hk:k≤500) (hsz:iM ((k+k / 2:Nat):Int)=(n:Int)) (hz:eW (n:Int)=true) :
  Calls Tryz.prog 55 #[(vP bs 0),(vL AD Dm cD)] w fun e w'=>∃ (Am:Option Addr) (cm:Nat),e = .returned (vi 0)∧aK [aB bs 65 [(vL A its c),bF,v2,v3,v4,bF,v6,v7,v8,v9,v10]] w [aB bs 65 [(vL A its c),bF,(vi 1),(vI 2),(vL Am (eY its n) cm),bT,v6,v7,v8,v9,v10],cB Am (eY its n) cm] w':=by
 refine bG Tryz.func55 95 (hO) rfl<|Nc<|lx rfl<|Nb<|lx rfl<|Nx<|cF (fun w hM=>oR AD cD Dm w (r2.aO hM) (hDl)) fun X10 br10=>lx rfl<|Nb<|lx rfl<|Ne<|lx rfl<|Nx<|bZ [1] (fun w hM hO=>pU X10 br10 (Rd.mk Dm 0 0 0) w hO)<|Ng<|aQ ?_
 rw [show (Rd.mk Dm 0 0 0).uint.1=1 from by rw [hu]]
 rw [show (Rd.mk Dm 0 0 0).uint.2=q0 from by rw [hu]]
 refine aE<|lT<|lx rfl<|No<|lx rfl<|lk (vP bs 0)<|lk (vP bs 1)<|lL 0 rfl<|lT<|lx rfl<|lg (vP bs 0)<|lg (vP bs 5)<|lu bF (eT 0 rfl rfl kr rfl rfl)<|lg bT<|lT<|Nt<|aE<|lx rfl<|Nx<|eV [0,1] (fun w hM hO=>Wr bs A c its bF v2 v3 v4 bF v6 v7 v8 v9 v10 X10 br10 q0 ts k n w hO (r0.bP hM [0,1]) (r1.bP hM [0,1]) (hts) (hend) (hset) (h40) (hest) (hk) (hsz) (hz)) fun Am29 cm29=>lx rfl<|Nk<|Ny<|lx rfl ?_
 refine lT<|Nt<|aE<|lx rfl<|lk (vP bs 0)<|lk (vP bs 5)<|Nx<|pS 0 rfl<|Nf ?_
 dsimp only [bC,List.set,List.cons_append,List.nil_append]
 exact aE<|lx rfl<|Nd<|sN [(vi 0)] fun w hM=>⟨Am29,cm29,rfl,(hM.pick [0,2] rfl rfl)⟩
theorem Wy (bs:Nat) (A:Option Addr) (c:Nat) (its:List (List UInt8)) (v1 v2:Value) (v4 v6:Value) (v7 v8:Value) (v9 v10:Value) (AD:Option Addr) (cD:Nat) (Dm:List UInt8) (q0:Rd) (print:List UInt8) (q1:Rd) (t:BT) (offs needs:List (List UInt8)) (w:World) (hO:bO [aB bs 65 [(vL A its c),v1,v2,(vI 1),v4,bF,v6,v7,v8,v9,v10]] w) (r0:Rf [aB bs 65 [(vL A its c),v1,v2,(vI 1),v4,bF,v6,v7,v8,v9,v10]] w (bW)) (r1:Rf [aB bs 65 [(vL A its c),v1,v2,(vI 1),v4,bF,v6,v7,v8,v9,v10]] w (fun w=>aF w A (SS its))) (r2:Rf [aB bs 65 [(vL A its c),v1,v2,(vI 1),v4,bF,v6,v7,v8,v9,v10]] w (fun w=>aF w AD (B8 Dm))) (hDl:Dm.length≤4294967296) (hu:(Rd.mk Dm 0 0 0).uint=(2,q0)) (hp:q0.sum=(print,q1)) (htd:fW q1.rest.1=some t) (hend:q1.rest.2.end_=0) (hs0:t.seed=0) (hset:bH its) (h40:its.length≤40) (hsm:needs.length≤600) (hd:mW its t print=some (offs,needs)) (hao:offs.Pairwise (· < ·)) (h32o:∀ x∈offs,x.length=32) (h32n:∀ x∈needs,x.length=32) :
  Calls Tryz.prog 55 #[(vP bs 0),(vL AD Dm cD)] w fun e w'=>∃ (Ao:Option Addr) (co:Nat) (An:Option Addr) (cn:Nat) (Am:Option Addr) (cm:Nat),e = .returned (vi 0)∧aK [aB bs 65 [(vL A its c),v1,v2,(vI 1),v4,bF,v6,v7,v8,v9,v10]] w [aB bs 65 [(vL A its c),v1,(vi 1),(vI 4),(vL Am (gU offs needs) cm),bT,bT,v7,bT,(vL An needs cn),(vL Ao offs co)],dJ Ao (SS offs),dJ An (SS needs),cB Am (gU offs needs) cm] w':=by
 refine bG Tryz.func55 95 (hO) rfl<|Nc<|lx rfl<|Nb<|lx rfl<|Nx<|cF (fun w hM=>oR AD cD Dm w (r2.aO hM) (hDl)) fun X10 br10=>lx rfl<|Nb<|lx rfl<|Ne<|lx rfl<|Nx<|bZ [1] (fun w hM hO=>pU X10 br10 (Rd.mk Dm 0 0 0) w hO)<|Ng<|aQ ?_
 rw [show (Rd.mk Dm 0 0 0).uint.1=2 from by rw [hu]]
 rw [show (Rd.mk Dm 0 0 0).uint.2=q0 from by rw [hu]]
 refine aE<|lF<|lx rfl<|Np<|aE<|lT<|lx rfl<|No<|lx rfl<|lk (vP bs 0)<|lk (vP bs 3)<|lL 0 rfl<|lT<|lx rfl<|lg (vP bs 0)<|lg (vP bs 5)<|lu bF (eT 0 rfl rfl kr rfl rfl)<|lg bT<|lT<|Nt<|aE<|lx rfl<|Nx<|fB [0,1] _ (fun w hM hO=>(Wu bs A c its v1 v2 (vI 1) v4 bF v6 v7 v8 v9 v10 X10 br10 q0 print q1 t offs needs w hO (r0.bP hM [0,1]) (r1.bP hM [0,1]) (hp) (htd) (hend) (hs0) (hset) (h40) (hsm) (hd) (hao) (h32o) (h32n)).mono ?_)
 rintro e w' ⟨Ao46,co46,An46,cn46,Am46,cm46,rfl,hP⟩
 refine ⟨_,[_,_],_,rfl,hP,rfl,?_⟩; clear hP hM hO
 refine lx rfl<|Nk<|Ny<|lx rfl<|lT<|Nt<|aE<|lx rfl<|lk (vP bs 0)<|lk (vP bs 5)<|Nx<|pS 0 rfl<|Nf ?_
 dsimp only [bC,List.set,List.cons_append,List.nil_append]
 exact aE<|lx rfl<|Nd<|sN [(vi 0)] fun w hM=>⟨Ao46,co46,An46,cn46,Am46,cm46,rfl,(hM.pick [0,2,3,4] rfl rfl)⟩
theorem Wz (bs:Nat) (A:Option Addr) (c:Nat) (its:List (List UInt8)) (v1 v2:Value) (v4 v5:Value) (v6 v7:Value) (v8 v9 v10:Value) (AD:Option Addr) (cD:Nat) (Dm:List UInt8) (q0 q1 q2:Rd) (offs needs:List (List UInt8)) (w:World) (hO:bO [aB bs 65 [(vL A its c),v1,v2,(vI 2),v4,v5,v6,v7,v8,v9,v10]] w) (r0:Rf [aB bs 65 [(vL A its c),v1,v2,(vI 2),v4,v5,v6,v7,v8,v9,v10]] w (fun w=>aF w A (SS its))) (r1:Rf [aB bs 65 [(vL A its c),v1,v2,(vI 2),v4,v5,v6,v7,v8,v9,v10]] w (fun w=>aF w AD (B8 Dm))) (hDl:Dm.length≤4294967296) (hu:(Rd.mk Dm 0 0 0).uint=(4,q0)) (hi1:q0.items 16384=(needs,q1)) (hi2:q1.items 16384=(offs,q2)) (hend:q2.end_=0) (han:needs.Pairwise (· < ·)) (hao:offs.Pairwise (· < ·)) (hag:kG its needs offs=true) (hs:its.Pairwise (· < ·)) (hn:its.length≤68719476736) :
  Calls Tryz.prog 55 #[(vP bs 0),(vL AD Dm cD)] w fun e w'=>∃ (An:Option Addr) (cn:Nat) (Ao:Option Addr) (co:Nat),e = .returned (vi 0)∧aK [aB bs 65 [(vL A its c),v1,v2,(vI 2),v4,v5,v6,v7,v8,v9,v10]] w [aB bs 65 [(vL A its c),v1,(vi 0),(vI 2),v4,bT,bT,v7,bT,(vL An needs cn),(vL Ao offs co)],cS An needs cn,cS Ao offs co] w':=by
 refine bG Tryz.func55 95 (hO) rfl<|Nc<|lx rfl<|Nb<|lx rfl<|Nx<|cF (fun w hM=>oR AD cD Dm w (r1.aO hM) (hDl)) fun X10 br10=>lx rfl<|Nb<|lx rfl<|Ne<|lx rfl<|Nx<|bZ [1] (fun w hM hO=>pU X10 br10 (Rd.mk Dm 0 0 0) w hO)<|Ng<|aQ ?_
 rw [show (Rd.mk Dm 0 0 0).uint.1=4 from by rw [hu]]
 rw [show (Rd.mk Dm 0 0 0).uint.2=q0 from by rw [hu]]
 refine aE<|lF<|lx rfl<|Np<|aE<|lF<|lx rfl<|Np<|aE<|lF<|lx rfl<|Np<|aE<|lT<|lx rfl<|No<|lx rfl<|lk (vP bs 0)<|lk (vP bs 3)<|lL 0 rfl<|lT<|Nt<|aE<|lx rfl ?_
 refine Nx<|fB [0,1] _ (fun w hM hO=>(Wv bs A c its v1 v2 (vI 2) v4 v5 v6 v7 v8 v9 v10 X10 br10 q0 q1 q2 offs needs w hO (r0.bP hM [0,1]) (hi1) (hi2) (hend) (han) (hao) (hag) (hs) (hn)).mono ?_)
 rintro e w' ⟨An66,cn66,Ao66,co66,rfl,hP⟩
 refine ⟨_,[_,_],_,rfl,hP,rfl,?_⟩; clear hP hM hO
 refine lx rfl<|Nk<|Ny<|lx rfl<|lT<|Nt<|aE<|lx rfl<|lk (vP bs 0)<|lk (vP bs 5)<|Nx<|pS 0 rfl<|Nf ?_
 dsimp only [bC,List.set,List.cons_append,List.nil_append]
 exact aE<|lx rfl<|Nd<|sN [(vi 0)] fun w hM=>⟨An66,cn66,Ao66,co66,rfl,(hM.pick [0,2,3] rfl rfl)⟩
theorem Mb (bs:Nat) (A:Option Addr) (c:Nat) (its:List (List UInt8)) (v3 v4:Value) (v6 v7:Value) (v8 v9 v10:Value) (AD:Option Addr) (cD:Nat) (Dm:List UInt8) (q0:Rd) (ts:List BT) (k n:Nat) (w:World) (hO:bO [aB bs 65 [(vL A its c),bF,(vi 2),v3,v4,bF,v6,v7,v8,v9,v10]] w) (r0:Rf [aB bs 65 [(vL A its c),bF,(vi 2),v3,v4,bF,v6,v7,v8,v9,v10]] w (bW)) (r1:Rf [aB bs 65 [(vL A its c),bF,(vi 2),v3,v4,bF,v6,v7,v8,v9,v10]] w (fun w=>aF w A (SS its))) (r2:Rf [aB bs 65 [(vL A its c),bF,(vi 2),v3,v4,bF,v6,v7,v8,v9,v10]] w (fun w=>aF w AD (B8 Dm))) (hDl:Dm.length≤4294967296) (hu:(Rd.mk Dm 0 0 0).uint=(1,q0)) (hts:gN q0.rest.1=some ts) (hend:q0.rest.2.end_=0) (hset:bH its) (h40:its.length≤40) (hest:gX ts (bQ its)=k) (hk:k≤500) (hsz:iM ((k+k / 2:Nat):Int)=(n:Int)) (hz:eW (n:Int)=true) :
  Calls Tryz.prog 24 #[(vP bs 0),(vL AD Dm cD)] w fun e w'=>∃ (Am:Option Addr) (cm:Nat),e = .returned (vi 0)∧aK [aB bs 65 [(vL A its c),bF,(vi 2),v3,v4,bF,v6,v7,v8,v9,v10]] w [aB bs 65 [(vL A its c),bF,(vi 1),(vI 2),(vL Am (eY its n) cm),bT,v6,v7,v8,v9,v10],cB Am (eY its n) cm] w':=by
 refine bG Tryz.func24 26 (hO) rfl<|Nc<|lx rfl<|Nb<|Nx<|rL gG (fun v:Value=>v) rfl rfl kr (fun b8=>lx rfl<|lk (.func (.func 55) #[(vP bs 0)] #[])<|Nx<|rN (D:=gG) (val:=fun v:Value=>v) (a:=2) (u:=(.func (.func 55) #[(vP bs 0)] #[])) 1 [(2,(.func (.func 55) #[(vP bs 0)] #[]))] rfl rfl kr rfl rfl rfl Tryz.underlying100 rfl (show (2:Nat) < 100 by decide) rfl<|lx rfl<|Nb<|lx rfl<|lk (vP bs 0)<|lk (vP bs 2)<|lL 0 rfl<|lw (.tuple #[(.func (.func 55) #[(vP bs 0)] #[]),bT]) (gC (rM (D:=gG) (val:=fun v:Value=>v) (a:=2) (kv:=[(2,(.func (.func 55) #[(vP bs 0)] #[]))]) 1 rfl rfl rfl Tryz.underlying100 Tryz.zeroValue60 rfl (show (2:Nat) < 100 by decide)) rfl)<|lx rfl<|Ne<|lx rfl<|lF<|Nn<|aE<|lx rfl ?_)
 refine Nx<|fB [0] [aB bs 65 [(vL A its c),bF,(vi 2),v3,v4,bF,v6,v7,v8,v9,v10]] (fun w hM hO=>(Wx bs A c its (vi 2) v3 v4 v6 v7 v8 v9 v10 AD cD Dm q0 ts k n w hO (r0.bP hM [0]) (r1.bP hM [0]) (r2.bP hM [0]) (hDl) (hu) (hts) (hend) (hset) (h40) (hest) (hk) (hsz) (hz)).mono ?_) rfl rfl rfl kr (rO rfl rfl rfl (lO Tryz.func55 kr rfl))
 rintro e w' ⟨Am25,cm25,rfl,hP⟩
 refine ⟨_,[_],_,rfl,hP,rfl,?_⟩; clear hP hM hO
 exact lx rfl<|Nd<|sN [(vi 0)] fun w hM=>⟨Am25,cm25,rfl,(hM.pick [0,2] rfl rfl)⟩
theorem WA (bs:Nat) (A:Option Addr) (c:Nat) (its:List (List UInt8)) (v1 v4:Value) (v6 v7:Value) (v8 v9 v10:Value) (AD:Option Addr) (cD:Nat) (Dm:List UInt8) (q0:Rd) (print:List UInt8) (q1:Rd) (t:BT) (offs needs:List (List UInt8)) (w:World) (hO:bO [aB bs 65 [(vL A its c),v1,(vi 2),(vI 1),v4,bF,v6,v7,v8,v9,v10]] w) (r0:Rf [aB bs 65 [(vL A its c),v1,(vi 2),(vI 1),v4,bF,v6,v7,v8,v9,v10]] w (bW)) (r1:Rf [aB bs 65 [(vL A its c),v1,(vi 2),(vI 1),v4,bF,v6,v7,v8,v9,v10]] w (fun w=>aF w A (SS its))) (r2:Rf [aB bs 65 [(vL A its c),v1,(vi 2),(vI 1),v4,bF,v6,v7,v8,v9,v10]] w (fun w=>aF w AD (B8 Dm))) (hDl:Dm.length≤4294967296) (hu:(Rd.mk Dm 0 0 0).uint=(2,q0)) (hp:q0.sum=(print,q1)) (htd:fW q1.rest.1=some t) (hend:q1.rest.2.end_=0) (hs0:t.seed=0) (hset:bH its) (h40:its.length≤40) (hsm:needs.length≤600) (hd:mW its t print=some (offs,needs)) (hao:offs.Pairwise (· < ·)) (h32o:∀ x∈offs,x.length=32) (h32n:∀ x∈needs,x.length=32) :
  Calls Tryz.prog 24 #[(vP bs 0),(vL AD Dm cD)] w fun e w'=>∃ (Ao:Option Addr) (co:Nat) (An:Option Addr) (cn:Nat) (Am:Option Addr) (cm:Nat),e = .returned (vi 0)∧aK [aB bs 65 [(vL A its c),v1,(vi 2),(vI 1),v4,bF,v6,v7,v8,v9,v10]] w [aB bs 65 [(vL A its c),v1,(vi 1),(vI 4),(vL Am (gU offs needs) cm),bT,bT,v7,bT,(vL An needs cn),(vL Ao offs co)],dJ Ao (SS offs),dJ An (SS needs),cB Am (gU offs needs) cm] w':=by
 refine bG Tryz.func24 26 (hO) rfl<|Nc<|lx rfl<|Nb<|Nx<|rL gG (fun v:Value=>v) rfl rfl kr (fun b8=>lx rfl<|lk (.func (.func 55) #[(vP bs 0)] #[])<|Nx<|rN (D:=gG) (val:=fun v:Value=>v) (a:=2) (u:=(.func (.func 55) #[(vP bs 0)] #[])) 1 [(2,(.func (.func 55) #[(vP bs 0)] #[]))] rfl rfl kr rfl rfl rfl Tryz.underlying100 rfl (show (2:Nat) < 100 by decide) rfl<|lx rfl<|Nb<|lx rfl<|lk (vP bs 0)<|lk (vP bs 2)<|lL 0 rfl<|lw (.tuple #[(.func (.func 55) #[(vP bs 0)] #[]),bT]) (gC (rM (D:=gG) (val:=fun v:Value=>v) (a:=2) (kv:=[(2,(.func (.func 55) #[(vP bs 0)] #[]))]) 1 rfl rfl rfl Tryz.underlying100 Tryz.zeroValue60 rfl (show (2:Nat) < 100 by decide)) rfl)<|lx rfl<|Ne<|lx rfl<|lF<|Nn<|aE<|lx rfl ?_)
 refine Nx<|fB [0] [aB bs 65 [(vL A its c),v1,(vi 2),(vI 1),v4,bF,v6,v7,v8,v9,v10]] (fun w hM hO=>(Wy bs A c its v1 (vi 2) v4 v6 v7 v8 v9 v10 AD cD Dm q0 print q1 t offs needs w hO (r0.bP hM [0]) (r1.bP hM [0]) (r2.bP hM [0]) (hDl) (hu) (hp) (htd) (hend) (hs0) (hset) (h40) (hsm) (hd) (hao) (h32o) (h32n)).mono ?_) rfl rfl rfl kr (rO rfl rfl rfl (lO Tryz.func55 kr rfl))
 rintro e w' ⟨Ao25,co25,An25,cn25,Am25,cm25,rfl,hP⟩
 refine ⟨_,[_],_,rfl,hP,rfl,?_⟩; clear hP hM hO
 exact lx rfl<|Nd<|sN [(vi 0)] fun w hM=>⟨Ao25,co25,An25,cn25,Am25,cm25,rfl,(hM.pick [0,2,3,4] rfl rfl)⟩
theorem WB (bs:Nat) (A:Option Addr) (c:Nat) (its:List (List UInt8)) (v1 v4:Value) (v5 v6:Value) (v7 v8:Value) (v9 v10:Value) (AD:Option Addr) (cD:Nat) (Dm:List UInt8) (q0 q1 q2:Rd) (offs needs:List (List UInt8)) (w:World) (hO:bO [aB bs 65 [(vL A its c),v1,(vi 2),(vI 2),v4,v5,v6,v7,v8,v9,v10]] w) (r0:Rf [aB bs 65 [(vL A its c),v1,(vi 2),(vI 2),v4,v5,v6,v7,v8,v9,v10]] w (fun w=>aF w A (SS its))) (r1:Rf [aB bs 65 [(vL A its c),v1,(vi 2),(vI 2),v4,v5,v6,v7,v8,v9,v10]] w (fun w=>aF w AD (B8 Dm))) (hDl:Dm.length≤4294967296) (hu:(Rd.mk Dm 0 0 0).uint=(4,q0)) (hi1:q0.items 16384=(needs,q1)) (hi2:q1.items 16384=(offs,q2)) (hend:q2.end_=0) (han:needs.Pairwise (· < ·)) (hao:offs.Pairwise (· < ·)) (hag:kG its needs offs=true) (hs:its.Pairwise (· < ·)) (hn:its.length≤68719476736) :
  Calls Tryz.prog 24 #[(vP bs 0),(vL AD Dm cD)] w fun e w'=>∃ (An:Option Addr) (cn:Nat) (Ao:Option Addr) (co:Nat),e = .returned (vi 0)∧aK [aB bs 65 [(vL A its c),v1,(vi 2),(vI 2),v4,v5,v6,v7,v8,v9,v10]] w [aB bs 65 [(vL A its c),v1,(vi 0),(vI 2),v4,bT,bT,v7,bT,(vL An needs cn),(vL Ao offs co)],cS An needs cn,cS Ao offs co] w':=by
 refine bG Tryz.func24 26 (hO) rfl<|Nc<|lx rfl<|Nb<|Nx<|rL gG (fun v:Value=>v) rfl rfl kr (fun b8=>lx rfl<|lk (.func (.func 55) #[(vP bs 0)] #[])<|Nx<|rN (D:=gG) (val:=fun v:Value=>v) (a:=2) (u:=(.func (.func 55) #[(vP bs 0)] #[])) 1 [(2,(.func (.func 55) #[(vP bs 0)] #[]))] rfl rfl kr rfl rfl rfl Tryz.underlying100 rfl (show (2:Nat) < 100 by decide) rfl<|lx rfl<|Nb<|lx rfl<|lk (vP bs 0)<|lk (vP bs 2)<|lL 0 rfl<|lw (.tuple #[(.func (.func 55) #[(vP bs 0)] #[]),bT]) (gC (rM (D:=gG) (val:=fun v:Value=>v) (a:=2) (kv:=[(2,(.func (.func 55) #[(vP bs 0)] #[]))]) 1 rfl rfl rfl Tryz.underlying100 Tryz.zeroValue60 rfl (show (2:Nat) < 100 by decide)) rfl)<|lx rfl<|Ne<|lx rfl<|lF<|Nn<|aE<|lx rfl ?_)
 refine Nx<|fB [0] [aB bs 65 [(vL A its c),v1,(vi 2),(vI 2),v4,v5,v6,v7,v8,v9,v10]] (fun w hM hO=>(Wz bs A c its v1 (vi 2) v4 v5 v6 v7 v8 v9 v10 AD cD Dm q0 q1 q2 offs needs w hO (r0.bP hM [0]) (r1.bP hM [0]) (hDl) (hu) (hi1) (hi2) (hend) (han) (hao) (hag) (hs) (hn)).mono ?_) rfl rfl rfl kr (rO rfl rfl rfl (lO Tryz.func55 kr rfl))
 rintro e w' ⟨An25,cn25,Ao25,co25,rfl,hP⟩
 refine ⟨_,[_],_,rfl,hP,rfl,?_⟩; clear hP hM hO
 exact lx rfl<|Nd<|sN [(vi 0)] fun w hM=>⟨An25,cn25,Ao25,co25,rfl,(hM.pick [0,2,3] rfl rfl)⟩
end
section
section
variable {a b : List Bs} {fan leaf : Nat}
theorem WC (h:a.length≤40):(bS [dG a [] []]).length=37:=by
 have e:bS [dG a [] []]=aD 1++(dG a [] []).enc:=by
  unfold bS
  rw [if_neg si]
  simp
 have ho:=gE (n:=1) om
 have hz:=gE (n:=0) om
 have hn:=gE (n:=(inL a [] []).length) (by have:=mJ a [] []; omega)
 rw [e]
 simp only [dG,AP.enc,AC.enc,List.length_append,yN,List.length_nil,ho,hz,hn]
end
end
theorem Mc (bs:Nat) (v0 v1:Value) (v2 v3:Value) (v4 v5:Value) (v6 v8:Value) (v9 v10:Value) (its:List (List UInt8)) (se:Nat) (A2:Option Addr) (c2 nm om:Nat) (w:World) (hO:bO [aB bs 65 [v0,v1,v2,v3,v4,v5,v6,(vP se 0),v8,v9,v10]] w) (r0:Rf [aB bs 65 [v0,v1,v2,v3,v4,v5,v6,(vP se 0),v8,v9,v10]] w (bW)) (r1:Rf [aB bs 65 [v0,v1,v2,v3,v4,v5,v6,(vP se 0),v8,v9,v10]] w (fX se A2 c2 its 4 4 nm om)) (hset:bH its) (h40:its.length≤40) (hc2:its.length≤c2) :
  Calls Tryz.prog 115 #[(vP bs 0)] w fun e w'=>∃ (Am:Option Addr) (cm:Nat),e = .returned (.tuple #[])∧aK [aB bs 65 [v0,v1,v2,v3,v4,v5,v6,(vP se 0),v8,v9,v10]] w [aB bs 65 [v0,v1,(vi 1),(vI 3),(vL Am (aX 3 (bS [dG its [] []])) cm),v5,v6,(vP se 0),v8,v9,v10],cB Am (aX 3 (bS [dG its [] []])) cm] w':=by
 refine eH Tryz.func115 10 (hO) rfl ?_
 have hfl:=WC h40
 refine aE<|lx rfl<|lk (vP bs 0) ?_
 refine lk (vP bs 7)<|lL 0 rfl ?_
 refine Nx ?_
 refine fM (fun w hM=>(LG se A2 c2 its 4 4 nm om w (r0.aO hM) (r1.aO hM) (hset) (by omega) (hc2) (h40)).mono ?_)
 rintro e w' ⟨B7,cb7,rfl,hP⟩
 refine ⟨_,_,rfl,hP,?_⟩; clear hP hM
 refine Nx ?_
 refine fM (fun w hM=>(DQ 3 B7 cb7 (bS [dG its [] []]) w (hM.aL (j:=1) rfl (fun _ h=>aF.aR h)) (by omega) (by omega)).mono ?_)
 rintro e w' ⟨A28,c28,rfl,hP⟩
 refine ⟨_,_,rfl,hP,?_⟩; clear hP hM
 exact Nx<|bZ [0] (fun w hM hO=>vG bs v0 v1 v2 v3 v4 v5 v6 (vP se 0) v8 v9 v10 3 A28 ((aX 3 (bS [dG its [] []])).length) c28 w hO)<|aS<|jY [] rfl trivial (fun w hM=>⟨A28,c28,rfl,(hM.pick [0,2] rfl rfl)⟩)
theorem WD (bs:Nat) (A:Option Addr) (c:Nat) (its:List (List UInt8)) (v1 v2:Value) (v3 v4:Value) (v5 v6:Value) (v7 v8:Value) (v9 v10:Value) (X:TX) (t:BT) (print:List UInt8) (w:World) (r0:Rf [] w (bW)) (r1:Rf [] w (fun w=>At w bs 65 [(vL A its c),v1,v2,v3,v4,v5,v6,v7,v8,v9,v10])) (r2:Rf [] w (fun w=>aF w A (SS its))) (r3:Rf [] w (fun w=>(cT X t).holds w)) (hz:eW (t.cells.length:Int)=true) (hs0:t.seed=0) (hset:bH its) (h40:its.length≤40) (hk:((dE its t.cells.length).sub t).keys=none) :
  Calls Tryz.prog 120 #[(vP bs 0),(vP X.bt 0),(vS print)] w fun e w'=>∃ (x1 x2:Value),e = .returned (.tuple #[x1,x2,bF])∧aK [] w [] w':=by
 refine kQ Tryz.func120 94 (Mm.start w []) rfl<|Nc<|lx rfl<|Nf ?_
 have h32:=hset.1
 refine dN [] 12 kr (fun _ h=>h) ?_
 refine am 0 ?_
 refine aC 1 (vP bs 0) rfl<|aC 2 (vP bs 0) rfl<|aV 3 _ rfl (rW (fun w hM=>At.cell (r1.now hM) 0))<|am 4 ?_
 refine aA 5 rfl<|bN (fun w hM=>uR X t w (r3.aO hM))<|cN _ (fun _ h=>h) (fun _ h=>h)<|aA 6 rfl<|fP (fun w hM=>DK A c its t.cells.length w (r0.aO hM) (r2.aO hM) ag ag om) fun X25=>cN _ (fun _ h=>h.pick [] rfl rfl) (fun _ h=>h)<|am 7 ?_
 refine aC 8 (vP X25.bt 0) rfl<|aC 9 (vi 0) rfl<|aa 10 ?_
 refine aa 11 ?_
 refine dO kr<|aJ<|aQ<|aQ ?_
 dsimp only [bC,List.set,List.cons_append,List.nil_append]
 refine aE<|lx rfl<|lF<|Nn<|aE<|lx rfl<|Nx<|fP (fun w hM=>xH X25 (dE its t.cells.length) X t w (hM.aL (j:=0) rfl (fun _ h=>h)) (r3.aO hM) (by simp [nN,kZ,xQ,hs0])) fun Z33=>lx rfl<|Ne<|lx rfl<|lF<|Nn<|aE<|lx rfl<|Nx<|bN (fun w hM=>Dg Z33 ((dE its t.cells.length).sub t) w (r0.aO hM) (hM.aL (j:=1) rfl (fun _ h=>h)) ag)<|lx rfl<|Ne<|lx rfl<|lT<|lx rfl<|lT<|No ?_
 exact lx rfl<|Nh<|sN [nS,nS,bF] fun w hM=>⟨nS,nS,rfl,(hM.pick [] rfl rfl)⟩
theorem WE (bs:Nat) (A:Option Addr) (c:Nat) (its:List (List UInt8)) (v1 v2:Value) (v3 v4:Value) (v5 v6:Value) (v8 v9 v10:Value) (X:Option Addr × Nat) (br:Nat) (r:Rd) (print:List UInt8) (q1:Rd) (t:BT) (se:Nat) (A2:Option Addr) (c2 nm om:Nat) (w:World) (hO:bO [aB bs 65 [(vL A its c),v1,v2,v3,v4,v5,v6,(vP se 0),v8,v9,v10],aU X br (r)] w) (r0:Rf [aB bs 65 [(vL A its c),v1,v2,v3,v4,v5,v6,(vP se 0),v8,v9,v10],aU X br (r)] w (bW)) (r1:Rf [aB bs 65 [(vL A its c),v1,v2,v3,v4,v5,v6,(vP se 0),v8,v9,v10],aU X br (r)] w (fun w=>aF w A (SS its))) (r2:Rf [aB bs 65 [(vL A its c),v1,v2,v3,v4,v5,v6,(vP se 0),v8,v9,v10],aU X br (r)] w (fX se A2 c2 its 4 4 nm om)) (hp:r.sum=(print,q1)) (htd:fW q1.rest.1=some t) (hend:q1.rest.2.end_=0) (hs0:t.seed=0) (hset:bH its) (h40:its.length≤40) (hc2:its.length≤c2) (hk:((dE its t.cells.length).sub t).keys=none) :
  Calls Tryz.prog 82 #[(vP bs 0),(vP br 0)] w fun e w'=>∃ (Am:Option Addr) (cm:Nat),e = .returned (vi 0)∧aK [aB bs 65 [(vL A its c),v1,v2,v3,v4,v5,v6,(vP se 0),v8,v9,v10],aU X br (r)] w [aB bs 65 [(vL A its c),v1,(vi 1),(vI 3),(vL Am (aX 3 (bS [dG its [] []])) cm),v5,v6,(vP se 0),v8,v9,v10],aU X br (q1.rest.2),cB Am (aX 3 (bS [dG its [] []])) cm] w':=by
 refine bG Tryz.func82 100 (hO) rfl<|Nc<|lx rfl<|Nb<|lx rfl<|Nx<|bZ [1] (fun w hM hO=>xP X br r w hO)<|lx rfl<|Nf ?_
 rw [show r.sum.1=print from by rw [hp]]
 rw [show r.sum.2=q1 from by rw [hp]]
 refine St.fact (fun w hM=>(hM.at (i:=1) (c:=aU X br q1) rfl).2.len) (fun hrl=>?_)
 have hrt:=q1.wF (q1.D.length - q1.off)
 refine aE<|lx rfl<|Nx ?_
 refine bZ [1] (fun w hM hO=>oS X br q1 w hO) ?_
 refine Nx ?_
 refine fB [1] _ (fun w hM hO=>(rC X br q1 (q1.D.length - q1.off) w hO (by omega)).mono ?_)
 rintro e w' ⟨B25,cb25,rfl,hP⟩
 refine ⟨_,[_],_,rfl,hP,rfl,?_⟩; clear hP hM hO
 rw [show q1.text (q1.D.length - q1.off)=q1.rest from rfl]
 refine Nx<|fP (fun w hM=>Di B25 cb25 q1.rest.1 t w (hM.aL (j:=2) rfl (fun _ h=>aF.aR h)) (by unfold Rd.rest; omega) ag) fun X26=>?_
 have hz:=(Ir htd).2
 refine lx rfl<|Nf<|aQ ?_
 dsimp only [bC,List.set,List.cons_append,List.nil_append]
 refine aE<|lx rfl<|Nx<|bZ [1] (fun w hM hO=>oQ X br q1.rest.2 w hO)<|lx rfl<|Nb<|lx rfl<|lk (.bool ((q1.rest.2.end_:Int) != 0))<|lm ?_
 refine St.known 36 (b':=false) rfl (by rw [hend]; simp)<|lx rfl<|lg bF<|lF<|lx rfl<|fI rfl rfl<|bN (fun w hM=>uR X26 t w (hM.aL (j:=3) rfl (fun _ h=>h)))<|fI rfl rfl<|bN (fun w hM=>DL X26 t t.cells.length 0 w (hM.aL (j:=3) rfl (fun _ h=>h)) (hz) (by unfold cG; decide))<|lg (.bool (!(iR t t.cells.length 0)))<|lk (.bool (!(iR t t.cells.length 0)))<|Na<|eF rfl (by rw [LS hs0]; rfl)<|Ni<|lx rfl<|Nx<|cF (fun w hM=>WD bs A c its v1 v2 v3 v4 v5 v6 (vP se 0) v8 v9 v10 X26 t print w (r0.aO hM) (hM.aL (j:=0) rfl (fun _ h=>h)) (r1.aO hM) (hM.aL (j:=3) rfl (fun _ h=>h)) ag ag ag ag ag) fun x151 x251=>lx rfl<|Nf<|aQ ?_
 dsimp only [bC,List.set,List.cons_append,List.nil_append]
 exact aE<|lx rfl<|lT<|No<|lx rfl<|Nx<|kC [0] (fun w hM hO=>Mc bs (vL A its c) v1 v2 v3 v4 v5 v6 v8 v9 v10 its se A2 c2 nm om w hO (r0.bP hM [0]) (r2.bP hM [0]) ag ag ag) fun Am58 cm58=>Nb<|lx rfl<|Nh<|sN [(vi 0)] fun w hM=>⟨Am58,cm58,rfl,(hM.pick [0,1,4] rfl rfl)⟩
theorem WG (bs:Nat) (A:Option Addr) (c:Nat) (its:List (List UInt8)) (v1 v2:Value) (v3 v4:Value) (v5 v6:Value) (v8 v9 v10:Value) (X:Option Addr × Nat) (br:Nat) (r:Rd) (se:Nat) (A2:Option Addr) (c2 nm om:Nat) (S S2:List (List UInt8)) (w:World) (hO:bO [aB bs 65 [(vL A its c),v1,v2,v3,v4,v5,v6,(vP se 0),v8,v9,v10],aU X br (r),aM nm (S),aM om (S2)] w) (r0:Rf [aB bs 65 [(vL A its c),v1,v2,v3,v4,v5,v6,(vP se 0),v8,v9,v10],aU X br (r),aM nm (S),aM om (S2)] w (bW)) (_r1:Rf [aB bs 65 [(vL A its c),v1,v2,v3,v4,v5,v6,(vP se 0),v8,v9,v10],aU X br (r),aM nm (S),aM om (S2)] w (fun w=>aF w A (SS its))) (r2:Rf [aB bs 65 [(vL A its c),v1,v2,v3,v4,v5,v6,(vP se 0),v8,v9,v10],aU X br (r),aM nm (S),aM om (S2)] w (fX se A2 c2 its 4 4 nm om)) (hend:r.rest.2.end_=0) (hne:r.rest.1≠[]) (hset:bH its) (h40:its.length≤40) (hc2:its.length≤c2) (hD1:r.rest.1.length≤1048576) (her:(cC its 4 4 r.rest.1).err=0) (hS:S.length≤549755813888) (hT:S2.length≤549755813888) (hre:(cC its 4 4 r.rest.1).reply≠[]) :
  Calls Tryz.prog 83 #[(vP bs 0),(vP br 0)] w fun e w'=>∃ (Am:Option Addr) (cm:Nat),e = .returned (vi 0)∧aK [aB bs 65 [(vL A its c),v1,v2,v3,v4,v5,v6,(vP se 0),v8,v9,v10],aU X br (r),aM nm (S),aM om (S2)] w [aB bs 65 [(vL A its c),v1,(vi 1),(vI 3),(vL Am (aX 3 (cC its 4 4 r.rest.1).reply) cm),v5,v6,(vP se 0),v8,v9,v10],aU X br (r.rest.2),aM nm (S++(cC its 4 4 r.rest.1).need),aM om (S2++(cC its 4 4 r.rest.1).off),cB Am (aX 3 (cC its 4 4 r.rest.1).reply) cm] w':=by
 refine bG Tryz.func83 51 (hO) rfl<|Nc<|lx rfl<|Nf<|St.fact (fun w hM=>(hM.at (i:=1) (c:=aU X br r) rfl).2.len) (fun hrl=>?_)
 have hsl:=EK its 4 4 r.rest.1
 refine aE<|lx rfl<|Nx ?_
 refine bZ [1] (fun w hM hO=>oS X br r w hO) ?_
 refine Nx ?_
 refine fB [1] _ (fun w hM hO=>(rC X br r (r.D.length - r.off) w hO (by omega)).mono ?_)
 rintro e w' ⟨B13,cb13,rfl,hP⟩
 refine ⟨_,[_],_,rfl,hP,rfl,?_⟩; clear hP hM hO
 rw [show r.text (r.D.length - r.off)=r.rest from rfl]
 refine lx rfl<|Ne<|lx rfl<|Nx<|bZ [1] (fun w hM hO=>oQ X br r.rest.2 w hO)<|lx rfl<|Nb<|lx rfl<|lk (.bool ((r.rest.2.end_:Int) != 0))<|lm ?_
 refine St.known 21 (b':=false) rfl (by rw [hend]; simp)<|lx rfl<|lg (vI ((r.rest.1).length))<|lg (.bool (((((r.rest.1).length:Nat):Int):Int) == 0))<|lk (.bool (((((r.rest.1).length:Nat):Int):Int) == 0))<|Na<|eF rfl (by have h9:=List.length_pos_iff.2 hne; simp; exact hne) ?_
 refine Ni<|lx rfl<|lk (vP bs 0)<|lk (vP bs 7) ?_
 refine lL 0 rfl<|lx rfl ?_
 refine Nx ?_
 refine fB [2,3] _ (fun w hM hO=>(BI se A2 c2 its 4 4 nm om B13 cb13 r.rest.1 S S2 w hO (r0.bP hM [2,3]) (r2.bP hM [2,3]) (hM.cL [2,3] (j:=4) rfl (fun _ h=>aF.aR h)) (hset) (by omega) (hc2) (h40) (by decide) (by decide) (by decide) (by decide) (hD1) (hS) (hT) (hne) (her)).mono ?_)
 rintro e w' ⟨B32,cb32,rfl,hP⟩
 refine ⟨_,[_,_],_,rfl,hP,rfl,?_⟩; clear hP hM hO
 refine lx rfl<|Nf<|aQ ?_
 dsimp only [bC,List.set,List.cons_append,List.nil_append]
 refine aE<|lx rfl<|lk (.bool (((cC its 4 4 r.rest.1).err:Int) != 0))<|Na<|eF rfl (by rw [her]; simp)<|Nl<|Nc<|lx rfl ?_
 refine lk (vI (((cC its 4 4 r.rest.1).reply).length))<|lk (.bool (decide (((((cC its 4 4 r.rest.1).reply).length:Nat):Int) > 0)))<|Na<|rV rfl (by have h9:=List.length_pos_iff.2 hre; simp; omega) ?_
 refine Nc<|lx rfl ?_
 refine Nx ?_
 refine fM (fun w hM=>(DQ 3 B32 cb32 ((cC its 4 4 r.rest.1).reply) w (hM.aL (j:=5) rfl (fun _ h=>aF.aR h)) (by omega) (by omega)).mono ?_)
 rintro e w' ⟨A243,c243,rfl,hP⟩
 refine ⟨_,_,rfl,hP,?_⟩; clear hP hM
 exact Nx<|bZ [0] (fun w hM hO=>vG bs (vL A its c) v1 v2 v3 v4 v5 v6 (vP se 0) v8 v9 v10 3 A243 ((aX 3 ((cC its 4 4 r.rest.1).reply)).length) c243 w hO)<|Nb<|lx rfl<|Nh<|sN [(vi 0)] fun w hM=>⟨A243,c243,rfl,(hM.pick [0,1,2,3,6] rfl rfl)⟩
theorem WH (bs:Nat) (A:Option Addr) (c:Nat) (its:List (List UInt8)) (v1 v2:Value) (v3 v4:Value) (v5 v6:Value) (v8 v9 v10:Value) (X:Option Addr × Nat) (br:Nat) (r:Rd) (se:Nat) (A2:Option Addr) (c2 nm om:Nat) (S S2:List (List UInt8)) (w:World) (hO:bO [aB bs 65 [(vL A its c),v1,v2,v3,v4,v5,v6,(vP se 0),v8,v9,v10],aU X br (r),aM nm (S),aM om (S2)] w) (r0:Rf [aB bs 65 [(vL A its c),v1,v2,v3,v4,v5,v6,(vP se 0),v8,v9,v10],aU X br (r),aM nm (S),aM om (S2)] w (bW)) (_r1:Rf [aB bs 65 [(vL A its c),v1,v2,v3,v4,v5,v6,(vP se 0),v8,v9,v10],aU X br (r),aM nm (S),aM om (S2)] w (fun w=>aF w A (SS its))) (r2:Rf [aB bs 65 [(vL A its c),v1,v2,v3,v4,v5,v6,(vP se 0),v8,v9,v10],aU X br (r),aM nm (S),aM om (S2)] w (fX se A2 c2 its 4 4 nm om)) (hend:r.rest.2.end_=0) (hne:r.rest.1≠[]) (hset:bH its) (h40:its.length≤40) (hc2:its.length≤c2) (hD1:r.rest.1.length≤1048576) (her:(cC its 4 4 r.rest.1).err=0) (hS:S.length≤549755813888) (hT:S2.length≤549755813888) (hre:(cC its 4 4 r.rest.1).reply=[]) :
  Calls Tryz.prog 83 #[(vP bs 0),(vP br 0)] w fun e w'=>∃ (Am:Option Addr) (cm:Nat),e = .returned (vi 0)∧aK [aB bs 65 [(vL A its c),v1,v2,v3,v4,v5,v6,(vP se 0),v8,v9,v10],aU X br (r),aM nm (S),aM om (S2)] w [aB bs 65 [(vL A its c),v1,(vi 1),(vI 5),(vL Am (aD 5) cm),v5,bT,(vP se 0),v8,v9,v10],aU X br (r.rest.2),aM nm (S++(cC its 4 4 r.rest.1).need),aM om (S2++(cC its 4 4 r.rest.1).off),cB Am (aD 5) cm] w':=by
 refine bG Tryz.func83 51 (hO) rfl<|Nc<|lx rfl<|Nf<|St.fact (fun w hM=>(hM.at (i:=1) (c:=aU X br r) rfl).2.len) (fun hrl=>?_)
 have hsl:=EK its 4 4 r.rest.1
 refine aE<|lx rfl<|Nx ?_
 refine bZ [1] (fun w hM hO=>oS X br r w hO) ?_
 refine Nx ?_
 refine fB [1] _ (fun w hM hO=>(rC X br r (r.D.length - r.off) w hO (by omega)).mono ?_)
 rintro e w' ⟨B13,cb13,rfl,hP⟩
 refine ⟨_,[_],_,rfl,hP,rfl,?_⟩; clear hP hM hO
 rw [show r.text (r.D.length - r.off)=r.rest from rfl]
 refine lx rfl<|Ne<|lx rfl<|Nx<|bZ [1] (fun w hM hO=>oQ X br r.rest.2 w hO)<|lx rfl<|Nb<|lx rfl<|lk (.bool ((r.rest.2.end_:Int) != 0))<|lm ?_
 refine St.known 21 (b':=false) rfl (by rw [hend]; simp)<|lx rfl<|lg (vI ((r.rest.1).length))<|lg (.bool (((((r.rest.1).length:Nat):Int):Int) == 0))<|lk (.bool (((((r.rest.1).length:Nat):Int):Int) == 0))<|Na<|eF rfl (by have h9:=List.length_pos_iff.2 hne; simp; exact hne) ?_
 refine Ni<|lx rfl<|lk (vP bs 0)<|lk (vP bs 7) ?_
 refine lL 0 rfl<|lx rfl ?_
 refine Nx ?_
 refine fB [2,3] _ (fun w hM hO=>(BI se A2 c2 its 4 4 nm om B13 cb13 r.rest.1 S S2 w hO (r0.bP hM [2,3]) (r2.bP hM [2,3]) (hM.cL [2,3] (j:=4) rfl (fun _ h=>aF.aR h)) (hset) (by omega) (hc2) (h40) (by decide) (by decide) (by decide) (by decide) (hD1) (hS) (hT) (hne) (her)).mono ?_)
 rintro e w' ⟨B32,cb32,rfl,hP⟩
 refine ⟨_,[_,_],_,rfl,hP,rfl,?_⟩; clear hP hM hO
 refine lx rfl<|Nf<|aQ ?_
 dsimp only [bC,List.set,List.cons_append,List.nil_append]
 refine aE<|lx rfl<|lk (.bool (((cC its 4 4 r.rest.1).err:Int) != 0))<|Na<|eF rfl (by rw [her]; simp)<|Nl<|Nc<|lx rfl<|lk (vI (((cC its 4 4 r.rest.1).reply).length))<|lk (.bool (decide (((((cC its 4 4 r.rest.1).reply).length:Nat):Int) > 0)))<|Na ?_
 refine eF rfl (by rw [hre]; rfl)<|Ni<|lx rfl<|lk (vP bs 0)<|lk (vP bs 6) ?_
 refine Nx<|pS 0 rfl<|Nb ?_
 refine lx rfl ?_
 refine Nx ?_
 refine fM (fun w hM=>(DJ none 0 cW 5 w Jt (by omega) (by decide)).mono ?_)
 rintro e w' ⟨A249,c249,rfl,hP⟩
 refine ⟨_,_,rfl,hP,?_⟩; clear hP hM
 rw [show cW++aD 5=aD 5 from rfl]
 exact Nx<|bZ [0] (fun w hM hO=>vG bs (vL A its c) v1 v2 v3 v4 v5 bT (vP se 0) v8 v9 v10 5 A249 ((aD 5).length) c249 w hO)<|Nb<|lx rfl<|Nd<|sN [(vi 0)] fun w hM=>⟨A249,c249,rfl,(hM.pick [0,1,2,3,6] rfl rfl)⟩
theorem WI (bs:Nat) (A:Option Addr) (c:Nat) (its:List (List UInt8)) (v1 v2:Value) (v3 v4:Value) (v5 v6:Value) (v8 v9 v10:Value) (X:Option Addr × Nat) (br:Nat) (r:Rd) (ts:List BT) (k se:Nat) (A2:Option Addr) (c2 nm om:Nat) (w:World) (hO:bO [aB bs 65 [(vL A its c),v1,v2,v3,v4,v5,v6,(vP se 0),v8,v9,v10],aU X br (r)] w) (r0:Rf [aB bs 65 [(vL A its c),v1,v2,v3,v4,v5,v6,(vP se 0),v8,v9,v10],aU X br (r)] w (bW)) (r1:Rf [aB bs 65 [(vL A its c),v1,v2,v3,v4,v5,v6,(vP se 0),v8,v9,v10],aU X br (r)] w (fun w=>aF w A (SS its))) (r2:Rf [aB bs 65 [(vL A its c),v1,v2,v3,v4,v5,v6,(vP se 0),v8,v9,v10],aU X br (r)] w (fX se A2 c2 its 4 4 nm om)) (hts:gN r.rest.1=some ts) (hend:r.rest.2.end_=0) (hset:bH its) (h40:its.length≤40) (hc2:its.length≤c2) (hest:gX ts (bQ its)=k) (hk:500 < k) :
  Calls Tryz.prog 81 #[(vP bs 0),(vP br 0)] w fun e w'=>∃ (Am:Option Addr) (cm:Nat),e = .returned (vi 0)∧aK [aB bs 65 [(vL A its c),v1,v2,v3,v4,v5,v6,(vP se 0),v8,v9,v10],aU X br (r)] w [aB bs 65 [(vL A its c),v1,(vi 1),(vI 3),(vL Am (aX 3 (bS [dG its [] []])) cm),v5,v6,(vP se 0),v8,v9,v10],aU X br (r.rest.2),cB Am (aX 3 (bS [dG its [] []])) cm] w':=by
 refine bG Tryz.func81 103 (hO) rfl<|Nc<|lx rfl<|Nf ?_
 have h32:=hset.1
 refine St.fact (fun w hM=>(hM.at (i:=1) (c:=aU X br r) rfl).2.len) (fun hrl=>?_)
 have hrt:=r.wF (r.D.length - r.off)
 refine aE<|lx rfl<|Nx ?_
 refine bZ [1] (fun w hM hO=>oS X br r w hO) ?_
 refine Nx ?_
 refine fB [1] _ (fun w hM hO=>(rC X br r (r.D.length - r.off) w hO (by omega)).mono ?_)
 rintro e w' ⟨B20,cb20,rfl,hP⟩
 refine ⟨_,[_],_,rfl,hP,rfl,?_⟩; clear hP hM hO
 rw [show r.text (r.D.length - r.off)=r.rest from rfl]
 refine Nx<|Gv (fun w hM=>Jr B20 cb20 r.rest.1 w (hM.aL (j:=2) rfl (fun _ h=>aF.aR h)) (by unfold Rd.rest; omega)) fun cl21 Xs21 ts21 hs21 hcl21=>?_
 obtain ⟨rfl,rfl,hXl21⟩:=hs21 _ hts
 have hB21:(gN r.rest.1).isSome=true:=by rw [hts]; rfl
 refine lx rfl<|Nx<|pA [(.pointer none),(.pointer none),(.pointer none),(.pointer none),(.pointer none),(.pointer none),(.pointer none),(.pointer none),(.pointer none),(.pointer none),(.pointer none),(.pointer none)] fun b5=>Nx<|oE 4 (cA Xs21) (vs:=(cA Xs21)) rfl rfl kr rfl rfl rfl (by rw [gT,hXl21]; kernel_rfl) rfl (by rw [gT,hXl21]; decide) (xT _) (by rw [List.take_zero,List.nil_append,gT,hXl21]; simp) ?_
 refine lx rfl<|Nf<|aQ ?_
 dsimp only [bC,List.set,List.cons_append,List.nil_append]
 refine aE<|lx rfl<|Nx<|bZ [1] (fun w hM hO=>oQ X br r.rest.2 w hO)<|lx rfl<|Nb<|lx rfl<|lk (.bool ((r.rest.2.end_:Int) != 0))<|lm ?_
 refine St.known 31 (b':=false) rfl (by rw [hend]; simp)<|lx rfl<|lg (.bool (!(gN r.rest.1).isSome))<|lk (.bool (!(gN r.rest.1).isSome))<|Na<|eF rfl (by rw [hB21]; rfl)<|Nl<|dN _ 20 kr (fun _ h=>h)<|aV 0 (.agg (cA Xs21).toArray) rfl (oD (cA Xs21) rfl rfl kr (by rw [gT,hXl21]; kernel_rfl) (hU (i:=4) rfl (fun j v hj=>by rw [Nat.zero_add]; exact hj)))<|am 1 ?_
 refine aC 2 (vP bs 0) rfl<|aC 3 (vP bs 0) rfl<|al 4 0 ?_
 refine am 7 ?_
 refine aC 8 (vP bs 0) rfl<|aC 9 (vP bs 0) rfl<|al 10 0 ?_
 refine aC 11 (vI its.length) rfl ?_
 refine aA 5 rfl ?_
 refine fM (fun w hM=>(DO A c its w (r0.aO hM) (r1.aO hM) (by assumption) (by omega)).mono ?_)
 rintro e w' ⟨Xs41,rfl,hP,hn41⟩
 refine ⟨_,_,rfl,hP,?_⟩; clear hP hM
 refine cN _ (fun _ h=>h.pick [0,1,2,3,4] rfl rfl) (fun _ h=>h)<|aA 6 rfl<|bN (fun w hM=>Js Xs21 ts Xs41 (bQ its) w (r0.aO hM) (hM.aL (j:=3) rfl (fun _ h=>h)) (hM.aL (j:=5) rfl (fun _ h=>h)) ((AJ hts).2) ((AJ hts).1) (hXl21) (nT h32) (lA its) (hn41)) ?_
 dsimp only [bC,List.set,List.cons_append,List.nil_append]
 refine cN _ (fun _ h=>h) (fun _ h=>h)<|aA 12 rfl<|bN (fun w hM=>SW (gX ts (bQ its)) its.length w (by rw [hest]; exact hk))<|cN _ (fun _ h=>h) (fun _ h=>h)<|am 13 ?_
 refine aC 14 (vi 2) rfl<|aC 15 (vi 0) rfl<|aC 16 (vi 0) rfl<|aa 17 ?_
 refine aa 18 ?_
 refine aa 19 ?_
 exact dO kr<|aJ<|Ny<|lx rfl<|lF<|Nn<|Nc<|lx rfl<|lT<|No<|lx rfl<|Nx<|kC [0] (fun w hM hO=>Mc bs (vL A its c) v1 v2 v3 v4 v5 v6 v8 v9 v10 its se A2 c2 nm om w hO (r0.bP hM [0]) (r2.bP hM [0]) ag ag ag) fun Am58 cm58=>Nb<|lx rfl<|Nh<|sN [(vi 0)] fun w hM=>⟨Am58,cm58,rfl,(hM.pick [0,1,6] rfl rfl)⟩
theorem WJ (bs:Nat) (A:Option Addr) (c:Nat) (its:List (List UInt8)) (v2 v3:Value) (v4 v6:Value) (v8 v9 v10:Value) (AD:Option Addr) (cD:Nat) (Dm:List UInt8) (q0:Rd) (ts:List BT) (k se:Nat) (A2:Option Addr) (c2 nm om:Nat) (w:World) (hO:bO [aB bs 65 [(vL A its c),bF,v2,v3,v4,bF,v6,(vP se 0),v8,v9,v10]] w) (r0:Rf [aB bs 65 [(vL A its c),bF,v2,v3,v4,bF,v6,(vP se 0),v8,v9,v10]] w (bW)) (r1:Rf [aB bs 65 [(vL A its c),bF,v2,v3,v4,bF,v6,(vP se 0),v8,v9,v10]] w (fun w=>aF w A (SS its))) (r2:Rf [aB bs 65 [(vL A its c),bF,v2,v3,v4,bF,v6,(vP se 0),v8,v9,v10]] w (fun w=>aF w AD (B8 Dm))) (r3:Rf [aB bs 65 [(vL A its c),bF,v2,v3,v4,bF,v6,(vP se 0),v8,v9,v10]] w (fX se A2 c2 its 4 4 nm om)) (hDl:Dm.length≤4294967296) (hu:(Rd.mk Dm 0 0 0).uint=(1,q0)) (hts:gN q0.rest.1=some ts) (hend:q0.rest.2.end_=0) (hset:bH its) (h40:its.length≤40) (hc2:its.length≤c2) (hest:gX ts (bQ its)=k) (hk:500 < k) :
  Calls Tryz.prog 55 #[(vP bs 0),(vL AD Dm cD)] w fun e w'=>∃ (Am:Option Addr) (cm:Nat),e = .returned (vi 0)∧aK [aB bs 65 [(vL A its c),bF,v2,v3,v4,bF,v6,(vP se 0),v8,v9,v10]] w [aB bs 65 [(vL A its c),bF,(vi 1),(vI 3),(vL Am (aX 3 (bS [dG its [] []])) cm),bT,v6,(vP se 0),v8,v9,v10],cB Am (aX 3 (bS [dG its [] []])) cm] w':=by
 refine bG Tryz.func55 95 (hO) rfl<|Nc<|lx rfl<|Nb<|lx rfl<|Nx<|cF (fun w hM=>oR AD cD Dm w (r2.aO hM) (hDl)) fun X10 br10=>lx rfl<|Nb<|lx rfl<|Ne<|lx rfl<|Nx<|bZ [1] (fun w hM hO=>pU X10 br10 (Rd.mk Dm 0 0 0) w hO)<|Ng<|aQ ?_
 rw [show (Rd.mk Dm 0 0 0).uint.1=1 from by rw [hu]]
 rw [show (Rd.mk Dm 0 0 0).uint.2=q0 from by rw [hu]]
 refine aE<|lT<|lx rfl<|No<|lx rfl<|lk (vP bs 0)<|lk (vP bs 1)<|lL 0 rfl<|lT<|lx rfl<|lg (vP bs 0)<|lg (vP bs 5)<|lu bF (eT 0 rfl rfl kr rfl rfl)<|lg bT<|lT<|Nt<|aE<|lx rfl<|Nx<|eV [0,1] (fun w hM hO=>WI bs A c its bF v2 v3 v4 bF v6 v8 v9 v10 X10 br10 q0 ts k se A2 c2 nm om w hO (r0.bP hM [0,1]) (r1.bP hM [0,1]) (r3.bP hM [0,1]) (hts) (hend) (hset) (h40) (hc2) (hest) (hk)) fun Am29 cm29=>lx rfl<|Nk<|Ny<|lx rfl ?_
 refine lT<|Nt<|aE<|lx rfl<|lk (vP bs 0)<|lk (vP bs 5)<|Nx<|pS 0 rfl<|Nf ?_
 dsimp only [bC,List.set,List.cons_append,List.nil_append]
 exact aE<|lx rfl<|Nd<|sN [(vi 0)] fun w hM=>⟨Am29,cm29,rfl,(hM.pick [0,2] rfl rfl)⟩
theorem WK (bs:Nat) (A:Option Addr) (c:Nat) (its:List (List UInt8)) (v1 v2:Value) (v4 v6:Value) (v8 v9 v10:Value) (AD:Option Addr) (cD:Nat) (Dm:List UInt8) (q0:Rd) (print:List UInt8) (q1:Rd) (t:BT) (se:Nat) (A2:Option Addr) (c2 nm om:Nat) (w:World) (hO:bO [aB bs 65 [(vL A its c),v1,v2,(vI 1),v4,bF,v6,(vP se 0),v8,v9,v10]] w) (r0:Rf [aB bs 65 [(vL A its c),v1,v2,(vI 1),v4,bF,v6,(vP se 0),v8,v9,v10]] w (bW)) (r1:Rf [aB bs 65 [(vL A its c),v1,v2,(vI 1),v4,bF,v6,(vP se 0),v8,v9,v10]] w (fun w=>aF w A (SS its))) (r2:Rf [aB bs 65 [(vL A its c),v1,v2,(vI 1),v4,bF,v6,(vP se 0),v8,v9,v10]] w (fun w=>aF w AD (B8 Dm))) (r3:Rf [aB bs 65 [(vL A its c),v1,v2,(vI 1),v4,bF,v6,(vP se 0),v8,v9,v10]] w (fX se A2 c2 its 4 4 nm om)) (hDl:Dm.length≤4294967296) (hu:(Rd.mk Dm 0 0 0).uint=(2,q0)) (hp:q0.sum=(print,q1)) (htd:fW q1.rest.1=some t) (hend:q1.rest.2.end_=0) (hs0:t.seed=0) (hset:bH its) (h40:its.length≤40) (hc2:its.length≤c2) (hk:((dE its t.cells.length).sub t).keys=none) :
  Calls Tryz.prog 55 #[(vP bs 0),(vL AD Dm cD)] w fun e w'=>∃ (Am:Option Addr) (cm:Nat),e = .returned (vi 0)∧aK [aB bs 65 [(vL A its c),v1,v2,(vI 1),v4,bF,v6,(vP se 0),v8,v9,v10]] w [aB bs 65 [(vL A its c),v1,(vi 1),(vI 3),(vL Am (aX 3 (bS [dG its [] []])) cm),bT,v6,(vP se 0),v8,v9,v10],cB Am (aX 3 (bS [dG its [] []])) cm] w':=by
 refine bG Tryz.func55 95 (hO) rfl<|Nc<|lx rfl<|Nb<|lx rfl<|Nx<|cF (fun w hM=>oR AD cD Dm w (r2.aO hM) (hDl)) fun X10 br10=>lx rfl<|Nb<|lx rfl<|Ne<|lx rfl<|Nx<|bZ [1] (fun w hM hO=>pU X10 br10 (Rd.mk Dm 0 0 0) w hO)<|Ng<|aQ ?_
 rw [show (Rd.mk Dm 0 0 0).uint.1=2 from by rw [hu]]
 rw [show (Rd.mk Dm 0 0 0).uint.2=q0 from by rw [hu]]
 refine aE<|lF<|lx rfl<|Np<|aE<|lT<|lx rfl<|No<|lx rfl<|lk (vP bs 0)<|lk (vP bs 3)<|lL 0 rfl<|lT<|lx rfl<|lg (vP bs 0)<|lg (vP bs 5)<|lu bF (eT 0 rfl rfl kr rfl rfl)<|lg bT<|lT<|Nt<|aE<|lx rfl<|Nx<|eV [0,1] (fun w hM hO=>WE bs A c its v1 v2 (vI 1) v4 bF v6 v8 v9 v10 X10 br10 q0 print q1 t se A2 c2 nm om w hO (r0.bP hM [0,1]) (r1.bP hM [0,1]) (r3.bP hM [0,1]) (hp) (htd) (hend) (hs0) (hset) (h40) (hc2) (hk)) fun Am46 cm46=>?_
 refine lx rfl<|Nk<|Ny<|lx rfl<|lT<|Nt<|aE<|lx rfl<|lk (vP bs 0)<|lk (vP bs 5)<|Nx<|pS 0 rfl<|Nf ?_
 dsimp only [bC,List.set,List.cons_append,List.nil_append]
 exact aE<|lx rfl<|Nd<|sN [(vi 0)] fun w hM=>⟨Am46,cm46,rfl,(hM.pick [0,2] rfl rfl)⟩
theorem WL (bs:Nat) (A:Option Addr) (c:Nat) (its:List (List UInt8)) (v1 v2:Value) (v4 v5:Value) (v6 v8:Value) (v9 v10:Value) (AD:Option Addr) (cD:Nat) (Dm:List UInt8) (q0:Rd) (se:Nat) (A2:Option Addr) (c2 nm om:Nat) (S S2:List (List UInt8)) (kd:Nat) (w:World) (hO:bO [aB bs 65 [(vL A its c),v1,v2,(vI kd),v4,v5,v6,(vP se 0),v8,v9,v10],aM nm (S),aM om (S2)] w) (r0:Rf [aB bs 65 [(vL A its c),v1,v2,(vI kd),v4,v5,v6,(vP se 0),v8,v9,v10],aM nm (S),aM om (S2)] w (bW)) (r1:Rf [aB bs 65 [(vL A its c),v1,v2,(vI kd),v4,v5,v6,(vP se 0),v8,v9,v10],aM nm (S),aM om (S2)] w (fun w=>aF w A (SS its))) (r2:Rf [aB bs 65 [(vL A its c),v1,v2,(vI kd),v4,v5,v6,(vP se 0),v8,v9,v10],aM nm (S),aM om (S2)] w (fun w=>aF w AD (B8 Dm))) (r3:Rf [aB bs 65 [(vL A its c),v1,v2,(vI kd),v4,v5,v6,(vP se 0),v8,v9,v10],aM nm (S),aM om (S2)] w (fX se A2 c2 its 4 4 nm om)) (hDl:Dm.length≤4294967296) (hu:(Rd.mk Dm 0 0 0).uint=(3,q0)) (hend:q0.rest.2.end_=0) (hne:q0.rest.1≠[]) (hset:bH its) (h40:its.length≤40) (hc2:its.length≤c2) (hD1:q0.rest.1.length≤1048576) (her:(cC its 4 4 q0.rest.1).err=0) (hS:S.length≤549755813888) (hT:S2.length≤549755813888) (hre:(cC its 4 4 q0.rest.1).reply≠[]) (hkd:kd≠0) :
  Calls Tryz.prog 55 #[(vP bs 0),(vL AD Dm cD)] w fun e w'=>∃ (Am:Option Addr) (cm:Nat),e = .returned (vi 0)∧aK [aB bs 65 [(vL A its c),v1,v2,(vI kd),v4,v5,v6,(vP se 0),v8,v9,v10],aM nm (S),aM om (S2)] w [aB bs 65 [(vL A its c),v1,(vi 1),(vI 3),(vL Am (aX 3 (cC its 4 4 q0.rest.1).reply) cm),bT,v6,(vP se 0),v8,v9,v10],aM nm (S++(cC its 4 4 q0.rest.1).need),aM om (S2++(cC its 4 4 q0.rest.1).off),cB Am (aX 3 (cC its 4 4 q0.rest.1).reply) cm] w':=by
 refine bG Tryz.func55 95 (hO) rfl<|Nc<|lx rfl<|Nb<|lx rfl<|Nx<|cF (fun w hM=>oR AD cD Dm w (r2.aO hM) (hDl)) fun X10 br10=>lx rfl<|Nb<|lx rfl<|Ne<|lx rfl<|Nx<|bZ [3] (fun w hM hO=>pU X10 br10 (Rd.mk Dm 0 0 0) w hO)<|Ng<|aQ ?_
 rw [show (Rd.mk Dm 0 0 0).uint.1=3 from by rw [hu]]
 rw [show (Rd.mk Dm 0 0 0).uint.2=q0 from by rw [hu]]
 refine aE<|lF<|lx rfl<|Np<|aE<|lF<|lx rfl<|Np<|aE<|lT<|lx rfl<|No<|lx rfl<|lk (vP bs 0)<|lk (vP bs 3)<|lL 0 rfl<|lk (.bool ((((kd:Nat):Int):Int) != 0))<|Na<|rV rfl (by simp; omega)<|aE<|lx rfl<|Nx<|fB [0,3,1,2] _ (fun w hM hO=>(WG bs A c its v1 v2 (vI kd) v4 v5 v6 v8 v9 v10 X10 br10 q0 se A2 c2 nm om S S2 w hO (r0.bP hM [0,3,1,2]) (r1.bP hM [0,3,1,2]) (r3.bP hM [0,3,1,2]) (hend) (hne) (hset) (h40) (hc2) (hD1) (her) (hS) (hT) (hre)).mono ?_)
 rintro e w' ⟨Am56,cm56,rfl,hP⟩
 refine ⟨_,[_,_,_,_],_,rfl,hP,rfl,?_⟩; clear hP hM hO
 refine lx rfl<|Nk<|Ny<|lx rfl<|lT<|Nt<|aE<|lx rfl<|lk (vP bs 0)<|lk (vP bs 5)<|Nx<|pS 0 rfl<|Nf ?_
 dsimp only [bC,List.set,List.cons_append,List.nil_append]
 exact aE<|lx rfl<|Nd<|sN [(vi 0)] fun w hM=>⟨Am56,cm56,rfl,(hM.pick [0,1,2,4] rfl rfl)⟩
theorem WM (bs:Nat) (A:Option Addr) (c:Nat) (its:List (List UInt8)) (v1 v2:Value) (v4 v5:Value) (v6 v8:Value) (v9 v10:Value) (AD:Option Addr) (cD:Nat) (Dm:List UInt8) (q0:Rd) (se:Nat) (A2:Option Addr) (c2 nm om:Nat) (S S2:List (List UInt8)) (kd:Nat) (w:World) (hO:bO [aB bs 65 [(vL A its c),v1,v2,(vI kd),v4,v5,v6,(vP se 0),v8,v9,v10],aM nm (S),aM om (S2)] w) (r0:Rf [aB bs 65 [(vL A its c),v1,v2,(vI kd),v4,v5,v6,(vP se 0),v8,v9,v10],aM nm (S),aM om (S2)] w (bW)) (r1:Rf [aB bs 65 [(vL A its c),v1,v2,(vI kd),v4,v5,v6,(vP se 0),v8,v9,v10],aM nm (S),aM om (S2)] w (fun w=>aF w A (SS its))) (r2:Rf [aB bs 65 [(vL A its c),v1,v2,(vI kd),v4,v5,v6,(vP se 0),v8,v9,v10],aM nm (S),aM om (S2)] w (fun w=>aF w AD (B8 Dm))) (r3:Rf [aB bs 65 [(vL A its c),v1,v2,(vI kd),v4,v5,v6,(vP se 0),v8,v9,v10],aM nm (S),aM om (S2)] w (fX se A2 c2 its 4 4 nm om)) (hDl:Dm.length≤4294967296) (hu:(Rd.mk Dm 0 0 0).uint=(3,q0)) (hend:q0.rest.2.end_=0) (hne:q0.rest.1≠[]) (hset:bH its) (h40:its.length≤40) (hc2:its.length≤c2) (hD1:q0.rest.1.length≤1048576) (her:(cC its 4 4 q0.rest.1).err=0) (hS:S.length≤549755813888) (hT:S2.length≤549755813888) (hre:(cC its 4 4 q0.rest.1).reply=[]) (hkd:kd≠0) :
  Calls Tryz.prog 55 #[(vP bs 0),(vL AD Dm cD)] w fun e w'=>∃ (Am:Option Addr) (cm:Nat),e = .returned (vi 0)∧aK [aB bs 65 [(vL A its c),v1,v2,(vI kd),v4,v5,v6,(vP se 0),v8,v9,v10],aM nm (S),aM om (S2)] w [aB bs 65 [(vL A its c),v1,(vi 1),(vI 5),(vL Am (aD 5) cm),bT,bT,(vP se 0),v8,v9,v10],aM nm (S++(cC its 4 4 q0.rest.1).need),aM om (S2++(cC its 4 4 q0.rest.1).off),cB Am (aD 5) cm] w':=by
 refine bG Tryz.func55 95 (hO) rfl<|Nc<|lx rfl<|Nb<|lx rfl<|Nx<|cF (fun w hM=>oR AD cD Dm w (r2.aO hM) (hDl)) fun X10 br10=>lx rfl<|Nb<|lx rfl<|Ne<|lx rfl<|Nx<|bZ [3] (fun w hM hO=>pU X10 br10 (Rd.mk Dm 0 0 0) w hO)<|Ng<|aQ ?_
 rw [show (Rd.mk Dm 0 0 0).uint.1=3 from by rw [hu]]
 rw [show (Rd.mk Dm 0 0 0).uint.2=q0 from by rw [hu]]
 refine aE<|lF<|lx rfl<|Np<|aE<|lF<|lx rfl<|Np<|aE<|lT<|lx rfl<|No<|lx rfl<|lk (vP bs 0)<|lk (vP bs 3)<|lL 0 rfl<|lk (.bool ((((kd:Nat):Int):Int) != 0))<|Na<|rV rfl (by simp; omega)<|aE<|lx rfl<|Nx<|fB [0,3,1,2] _ (fun w hM hO=>(WH bs A c its v1 v2 (vI kd) v4 v5 v6 v8 v9 v10 X10 br10 q0 se A2 c2 nm om S S2 w hO (r0.bP hM [0,3,1,2]) (r1.bP hM [0,3,1,2]) (r3.bP hM [0,3,1,2]) (hend) (hne) (hset) (h40) (hc2) (hD1) (her) (hS) (hT) (hre)).mono ?_)
 rintro e w' ⟨Am56,cm56,rfl,hP⟩
 refine ⟨_,[_,_,_,_],_,rfl,hP,rfl,?_⟩; clear hP hM hO
 refine lx rfl<|Nk<|Ny<|lx rfl<|lT<|Nt<|aE<|lx rfl<|lk (vP bs 0)<|lk (vP bs 5)<|Nx<|pS 0 rfl<|Nf ?_
 dsimp only [bC,List.set,List.cons_append,List.nil_append]
 exact aE<|lx rfl<|Nd<|sN [(vi 0)] fun w hM=>⟨Am56,cm56,rfl,(hM.pick [0,1,2,4] rfl rfl)⟩
theorem WN (bs:Nat) (v0 v1:Value) (v2 v4:Value) (v5 v6:Value) (v7 v8:Value) (v9 v10:Value) (AD:Option Addr) (cD:Nat) (Dm:List UInt8) (q0:Rd) (w:World) (hO:bO [aB bs 65 [v0,v1,v2,(vI 3),v4,v5,v6,v7,v8,v9,v10]] w) (r0:Rf [aB bs 65 [v0,v1,v2,(vI 3),v4,v5,v6,v7,v8,v9,v10]] w (fun w=>aF w AD (B8 Dm))) (hDl:Dm.length≤4294967296) (hu:(Rd.mk Dm 0 0 0).uint=(5,q0)) (hend:q0.end_=0) :
  Calls Tryz.prog 55 #[(vP bs 0),(vL AD Dm cD)] w fun e w'=>e = .returned (vi 0)∧aK [aB bs 65 [v0,v1,v2,(vI 3),v4,v5,v6,v7,v8,v9,v10]] w [aB bs 65 [v0,v1,(vi 0),(vI 3),v4,bT,bT,v7,v8,v9,v10]] w':=by
 refine bG Tryz.func55 95 (hO) rfl<|Nc<|lx rfl<|Nb<|lx rfl<|Nx<|cF (fun w hM=>oR AD cD Dm w (r0.aO hM) (hDl)) fun X10 br10=>lx rfl<|Nb<|lx rfl<|Ne<|lx rfl<|Nx<|bZ [1] (fun w hM hO=>pU X10 br10 (Rd.mk Dm 0 0 0) w hO)<|Ng<|aQ ?_
 rw [show (Rd.mk Dm 0 0 0).uint.1=5 from by rw [hu]]
 rw [show (Rd.mk Dm 0 0 0).uint.2=q0 from by rw [hu]]
 refine aE<|lF<|lx rfl<|Np<|aE<|lF<|lx rfl<|Np<|aE<|lF<|lx rfl<|Np<|aE<|lF<|lx rfl<|Np<|aE<|lT<|lx rfl<|No<|lx rfl<|Nx<|bZ [1] (fun w hM hO=>oQ X10 br10 q0 w hO)<|lx rfl ?_
 refine Nb<|lx rfl<|lk (.bool ((q0.end_:Int) == 0))<|lm ?_
 refine St.known 76 (b':=true) rfl (by rw [hend]; rfl)<|lx rfl<|lg (vP bs 0)<|lg (vP bs 3)<|lu (vI 3) (eT 0 rfl rfl kr rfl rfl)<|lg bT<|lT<|No<|lx rfl<|lk (vP bs 0)<|lk (vP bs 6)<|Nx<|pS 0 rfl<|lk (vP bs 0)<|lk (vP bs 2)<|Nx<|pS 0 rfl<|Na ?_
 dsimp only [bC,List.set,List.cons_append,List.nil_append]
 exact aE<|lx rfl<|Nk<|Ny<|lx rfl<|lT<|Nt<|aE<|lx rfl<|lk (vP bs 0)<|lk (vP bs 5)<|Nx<|pS 0 rfl<|Nb<|lx rfl<|Nd<|sN [(vi 0)] fun w hM=>⟨rfl,(hM.pick [0] rfl rfl)⟩
theorem WO (bs:Nat) (A:Option Addr) (c:Nat) (its:List (List UInt8)) (v1 v4:Value) (v6 v8:Value) (v9 v10:Value) (AD:Option Addr) (cD:Nat) (Dm:List UInt8) (q0:Rd) (print:List UInt8) (q1:Rd) (t:BT) (se:Nat) (A2:Option Addr) (c2 nm om:Nat) (w:World) (hO:bO [aB bs 65 [(vL A its c),v1,(vi 2),(vI 1),v4,bF,v6,(vP se 0),v8,v9,v10]] w) (r0:Rf [aB bs 65 [(vL A its c),v1,(vi 2),(vI 1),v4,bF,v6,(vP se 0),v8,v9,v10]] w (bW)) (r1:Rf [aB bs 65 [(vL A its c),v1,(vi 2),(vI 1),v4,bF,v6,(vP se 0),v8,v9,v10]] w (fun w=>aF w A (SS its))) (r2:Rf [aB bs 65 [(vL A its c),v1,(vi 2),(vI 1),v4,bF,v6,(vP se 0),v8,v9,v10]] w (fun w=>aF w AD (B8 Dm))) (r3:Rf [aB bs 65 [(vL A its c),v1,(vi 2),(vI 1),v4,bF,v6,(vP se 0),v8,v9,v10]] w (fX se A2 c2 its 4 4 nm om)) (hDl:Dm.length≤4294967296) (hu:(Rd.mk Dm 0 0 0).uint=(2,q0)) (hp:q0.sum=(print,q1)) (htd:fW q1.rest.1=some t) (hend:q1.rest.2.end_=0) (hs0:t.seed=0) (hset:bH its) (h40:its.length≤40) (hc2:its.length≤c2) (hk:((dE its t.cells.length).sub t).keys=none) :
  Calls Tryz.prog 24 #[(vP bs 0),(vL AD Dm cD)] w fun e w'=>∃ (Am:Option Addr) (cm:Nat),e = .returned (vi 0)∧aK [aB bs 65 [(vL A its c),v1,(vi 2),(vI 1),v4,bF,v6,(vP se 0),v8,v9,v10]] w [aB bs 65 [(vL A its c),v1,(vi 1),(vI 3),(vL Am (aX 3 (bS [dG its [] []])) cm),bT,v6,(vP se 0),v8,v9,v10],cB Am (aX 3 (bS [dG its [] []])) cm] w':=by
 refine bG Tryz.func24 26 (hO) rfl<|Nc<|lx rfl<|Nb<|Nx<|rL gG (fun v:Value=>v) rfl rfl kr (fun b8=>lx rfl<|lk (.func (.func 55) #[(vP bs 0)] #[])<|Nx<|rN (D:=gG) (val:=fun v:Value=>v) (a:=2) (u:=(.func (.func 55) #[(vP bs 0)] #[])) 1 [(2,(.func (.func 55) #[(vP bs 0)] #[]))] rfl rfl kr rfl rfl rfl Tryz.underlying100 rfl (show (2:Nat) < 100 by decide) rfl<|lx rfl<|Nb<|lx rfl<|lk (vP bs 0)<|lk (vP bs 2)<|lL 0 rfl<|lw (.tuple #[(.func (.func 55) #[(vP bs 0)] #[]),bT]) (gC (rM (D:=gG) (val:=fun v:Value=>v) (a:=2) (kv:=[(2,(.func (.func 55) #[(vP bs 0)] #[]))]) 1 rfl rfl rfl Tryz.underlying100 Tryz.zeroValue60 rfl (show (2:Nat) < 100 by decide)) rfl)<|lx rfl<|Ne<|lx rfl<|lF<|Nn<|aE<|lx rfl ?_)
 refine Nx<|fB [0] [aB bs 65 [(vL A its c),v1,(vi 2),(vI 1),v4,bF,v6,(vP se 0),v8,v9,v10]] (fun w hM hO=>(WK bs A c its v1 (vi 2) v4 v6 v8 v9 v10 AD cD Dm q0 print q1 t se A2 c2 nm om w hO (r0.bP hM [0]) (r1.bP hM [0]) (r2.bP hM [0]) (r3.bP hM [0]) (hDl) (hu) (hp) (htd) (hend) (hs0) (hset) (h40) (hc2) (hk)).mono ?_) rfl rfl rfl kr (rO rfl rfl rfl (lO Tryz.func55 kr rfl))
 rintro e w' ⟨Am25,cm25,rfl,hP⟩
 refine ⟨_,[_],_,rfl,hP,rfl,?_⟩; clear hP hM hO
 exact lx rfl<|Nd<|sN [(vi 0)] fun w hM=>⟨Am25,cm25,rfl,(hM.pick [0,2] rfl rfl)⟩
theorem BM (bs:Nat) (A:Option Addr) (c:Nat) (its:List (List UInt8)) (v1 v4:Value) (v5 v6:Value) (v8 v9 v10:Value) (AD:Option Addr) (cD:Nat) (Dm:List UInt8) (q0:Rd) (se:Nat) (A2:Option Addr) (c2 nm om:Nat) (S S2:List (List UInt8)) (kd:Nat) (w:World) (hO:bO [aB bs 65 [(vL A its c),v1,(vi 2),(vI kd),v4,v5,v6,(vP se 0),v8,v9,v10],aM nm (S),aM om (S2)] w) (r0:Rf [aB bs 65 [(vL A its c),v1,(vi 2),(vI kd),v4,v5,v6,(vP se 0),v8,v9,v10],aM nm (S),aM om (S2)] w (bW)) (r1:Rf [aB bs 65 [(vL A its c),v1,(vi 2),(vI kd),v4,v5,v6,(vP se 0),v8,v9,v10],aM nm (S),aM om (S2)] w (fun w=>aF w A (SS its))) (r2:Rf [aB bs 65 [(vL A its c),v1,(vi 2),(vI kd),v4,v5,v6,(vP se 0),v8,v9,v10],aM nm (S),aM om (S2)] w (fun w=>aF w AD (B8 Dm))) (r3:Rf [aB bs 65 [(vL A its c),v1,(vi 2),(vI kd),v4,v5,v6,(vP se 0),v8,v9,v10],aM nm (S),aM om (S2)] w (fX se A2 c2 its 4 4 nm om)) (hDl:Dm.length≤4294967296) (hu:(Rd.mk Dm 0 0 0).uint=(3,q0)) (hend:q0.rest.2.end_=0) (hne:q0.rest.1≠[]) (hset:bH its) (h40:its.length≤40) (hc2:its.length≤c2) (hD1:q0.rest.1.length≤1048576) (her:(cC its 4 4 q0.rest.1).err=0) (hS:S.length≤549755813888) (hT:S2.length≤549755813888) (hre:(cC its 4 4 q0.rest.1).reply≠[]) (hkd:kd≠0) :
  Calls Tryz.prog 24 #[(vP bs 0),(vL AD Dm cD)] w fun e w'=>∃ (Am:Option Addr) (cm:Nat),e = .returned (vi 0)∧aK [aB bs 65 [(vL A its c),v1,(vi 2),(vI kd),v4,v5,v6,(vP se 0),v8,v9,v10],aM nm (S),aM om (S2)] w [aB bs 65 [(vL A its c),v1,(vi 1),(vI 3),(vL Am (aX 3 (cC its 4 4 q0.rest.1).reply) cm),bT,v6,(vP se 0),v8,v9,v10],aM nm (S++(cC its 4 4 q0.rest.1).need),aM om (S2++(cC its 4 4 q0.rest.1).off),cB Am (aX 3 (cC its 4 4 q0.rest.1).reply) cm] w':=by
 refine bG Tryz.func24 26 (hO) rfl<|Nc<|lx rfl<|Nb<|Nx<|rL gG (fun v:Value=>v) rfl rfl kr (fun b8=>lx rfl<|lk (.func (.func 55) #[(vP bs 0)] #[])<|Nx<|rN (D:=gG) (val:=fun v:Value=>v) (a:=2) (u:=(.func (.func 55) #[(vP bs 0)] #[])) 3 [(2,(.func (.func 55) #[(vP bs 0)] #[]))] rfl rfl kr rfl rfl rfl Tryz.underlying100 rfl (show (2:Nat) < 100 by decide) rfl<|lx rfl<|Nb<|lx rfl<|lk (vP bs 0)<|lk (vP bs 2)<|lL 0 rfl<|lw (.tuple #[(.func (.func 55) #[(vP bs 0)] #[]),bT]) (gC (rM (D:=gG) (val:=fun v:Value=>v) (a:=2) (kv:=[(2,(.func (.func 55) #[(vP bs 0)] #[]))]) 3 rfl rfl rfl Tryz.underlying100 Tryz.zeroValue60 rfl (show (2:Nat) < 100 by decide)) rfl)<|lx rfl<|Ne<|lx rfl<|lF<|Nn<|aE<|lx rfl ?_)
 refine Nx<|fB [0,1,2] [aB bs 65 [(vL A its c),v1,(vi 2),(vI kd),v4,v5,v6,(vP se 0),v8,v9,v10],aM nm (S),aM om (S2)] (fun w hM hO=>(WL bs A c its v1 (vi 2) v4 v5 v6 v8 v9 v10 AD cD Dm q0 se A2 c2 nm om S S2 kd w hO (r0.bP hM [0,1,2]) (r1.bP hM [0,1,2]) (r2.bP hM [0,1,2]) (r3.bP hM [0,1,2]) (hDl) (hu) (hend) (hne) (hset) (h40) (hc2) (hD1) (her) (hS) (hT) (hre) (hkd)).mono ?_) rfl rfl rfl kr (rO rfl rfl rfl (lO Tryz.func55 kr rfl))
 rintro e w' ⟨Am25,cm25,rfl,hP⟩
 refine ⟨_,[_,_,_],_,rfl,hP,rfl,?_⟩; clear hP hM hO
 exact lx rfl<|Nd<|sN [(vi 0)] fun w hM=>⟨Am25,cm25,rfl,(hM.pick [0,1,2,4] rfl rfl)⟩
theorem BN (bs:Nat) (A:Option Addr) (c:Nat) (its:List (List UInt8)) (v1 v4:Value) (v5 v6:Value) (v8 v9 v10:Value) (AD:Option Addr) (cD:Nat) (Dm:List UInt8) (q0:Rd) (se:Nat) (A2:Option Addr) (c2 nm om:Nat) (S S2:List (List UInt8)) (kd:Nat) (w:World) (hO:bO [aB bs 65 [(vL A its c),v1,(vi 2),(vI kd),v4,v5,v6,(vP se 0),v8,v9,v10],aM nm (S),aM om (S2)] w) (r0:Rf [aB bs 65 [(vL A its c),v1,(vi 2),(vI kd),v4,v5,v6,(vP se 0),v8,v9,v10],aM nm (S),aM om (S2)] w (bW)) (r1:Rf [aB bs 65 [(vL A its c),v1,(vi 2),(vI kd),v4,v5,v6,(vP se 0),v8,v9,v10],aM nm (S),aM om (S2)] w (fun w=>aF w A (SS its))) (r2:Rf [aB bs 65 [(vL A its c),v1,(vi 2),(vI kd),v4,v5,v6,(vP se 0),v8,v9,v10],aM nm (S),aM om (S2)] w (fun w=>aF w AD (B8 Dm))) (r3:Rf [aB bs 65 [(vL A its c),v1,(vi 2),(vI kd),v4,v5,v6,(vP se 0),v8,v9,v10],aM nm (S),aM om (S2)] w (fX se A2 c2 its 4 4 nm om)) (hDl:Dm.length≤4294967296) (hu:(Rd.mk Dm 0 0 0).uint=(3,q0)) (hend:q0.rest.2.end_=0) (hne:q0.rest.1≠[]) (hset:bH its) (h40:its.length≤40) (hc2:its.length≤c2) (hD1:q0.rest.1.length≤1048576) (her:(cC its 4 4 q0.rest.1).err=0) (hS:S.length≤549755813888) (hT:S2.length≤549755813888) (hre:(cC its 4 4 q0.rest.1).reply=[]) (hkd:kd≠0) :
  Calls Tryz.prog 24 #[(vP bs 0),(vL AD Dm cD)] w fun e w'=>∃ (Am:Option Addr) (cm:Nat),e = .returned (vi 0)∧aK [aB bs 65 [(vL A its c),v1,(vi 2),(vI kd),v4,v5,v6,(vP se 0),v8,v9,v10],aM nm (S),aM om (S2)] w [aB bs 65 [(vL A its c),v1,(vi 1),(vI 5),(vL Am (aD 5) cm),bT,bT,(vP se 0),v8,v9,v10],aM nm (S++(cC its 4 4 q0.rest.1).need),aM om (S2++(cC its 4 4 q0.rest.1).off),cB Am (aD 5) cm] w':=by
 refine bG Tryz.func24 26 (hO) rfl<|Nc<|lx rfl<|Nb<|Nx<|rL gG (fun v:Value=>v) rfl rfl kr (fun b8=>lx rfl<|lk (.func (.func 55) #[(vP bs 0)] #[])<|Nx<|rN (D:=gG) (val:=fun v:Value=>v) (a:=2) (u:=(.func (.func 55) #[(vP bs 0)] #[])) 3 [(2,(.func (.func 55) #[(vP bs 0)] #[]))] rfl rfl kr rfl rfl rfl Tryz.underlying100 rfl (show (2:Nat) < 100 by decide) rfl<|lx rfl<|Nb<|lx rfl<|lk (vP bs 0)<|lk (vP bs 2)<|lL 0 rfl<|lw (.tuple #[(.func (.func 55) #[(vP bs 0)] #[]),bT]) (gC (rM (D:=gG) (val:=fun v:Value=>v) (a:=2) (kv:=[(2,(.func (.func 55) #[(vP bs 0)] #[]))]) 3 rfl rfl rfl Tryz.underlying100 Tryz.zeroValue60 rfl (show (2:Nat) < 100 by decide)) rfl)<|lx rfl<|Ne<|lx rfl<|lF<|Nn<|aE<|lx rfl ?_)
 refine Nx<|fB [0,1,2] [aB bs 65 [(vL A its c),v1,(vi 2),(vI kd),v4,v5,v6,(vP se 0),v8,v9,v10],aM nm (S),aM om (S2)] (fun w hM hO=>(WM bs A c its v1 (vi 2) v4 v5 v6 v8 v9 v10 AD cD Dm q0 se A2 c2 nm om S S2 kd w hO (r0.bP hM [0,1,2]) (r1.bP hM [0,1,2]) (r2.bP hM [0,1,2]) (r3.bP hM [0,1,2]) (hDl) (hu) (hend) (hne) (hset) (h40) (hc2) (hD1) (her) (hS) (hT) (hre) (hkd)).mono ?_) rfl rfl rfl kr (rO rfl rfl rfl (lO Tryz.func55 kr rfl))
 rintro e w' ⟨Am25,cm25,rfl,hP⟩
 refine ⟨_,[_,_,_],_,rfl,hP,rfl,?_⟩; clear hP hM hO
 exact lx rfl<|Nd<|sN [(vi 0)] fun w hM=>⟨Am25,cm25,rfl,(hM.pick [0,1,2,4] rfl rfl)⟩
theorem BO (bs:Nat) (v0 v1:Value) (v4 v5:Value) (v6 v7:Value) (v8 v9 v10:Value) (AD:Option Addr) (cD:Nat) (Dm:List UInt8) (q0:Rd) (w:World) (hO:bO [aB bs 65 [v0,v1,(vi 2),(vI 3),v4,v5,v6,v7,v8,v9,v10]] w) (r0:Rf [aB bs 65 [v0,v1,(vi 2),(vI 3),v4,v5,v6,v7,v8,v9,v10]] w (fun w=>aF w AD (B8 Dm))) (hDl:Dm.length≤4294967296) (hu:(Rd.mk Dm 0 0 0).uint=(5,q0)) (hend:q0.end_=0) :
  Calls Tryz.prog 24 #[(vP bs 0),(vL AD Dm cD)] w fun e w'=>e = .returned (vi 0)∧aK [aB bs 65 [v0,v1,(vi 2),(vI 3),v4,v5,v6,v7,v8,v9,v10]] w [aB bs 65 [v0,v1,(vi 0),(vI 3),v4,bT,bT,v7,v8,v9,v10]] w':=by
 refine bG Tryz.func24 26 (hO) rfl<|Nc<|lx rfl<|Nb<|Nx<|rL gG (fun v:Value=>v) rfl rfl kr (fun b8=>lx rfl<|lk (.func (.func 55) #[(vP bs 0)] #[])<|Nx<|rN (D:=gG) (val:=fun v:Value=>v) (a:=2) (u:=(.func (.func 55) #[(vP bs 0)] #[])) 1 [(2,(.func (.func 55) #[(vP bs 0)] #[]))] rfl rfl kr rfl rfl rfl Tryz.underlying100 rfl (show (2:Nat) < 100 by decide) rfl<|lx rfl<|Nb<|lx rfl<|lk (vP bs 0)<|lk (vP bs 2)<|lL 0 rfl<|lw (.tuple #[(.func (.func 55) #[(vP bs 0)] #[]),bT]) (gC (rM (D:=gG) (val:=fun v:Value=>v) (a:=2) (kv:=[(2,(.func (.func 55) #[(vP bs 0)] #[]))]) 1 rfl rfl rfl Tryz.underlying100 Tryz.zeroValue60 rfl (show (2:Nat) < 100 by decide)) rfl)<|lx rfl<|Ne<|lx rfl<|lF<|Nn<|aE<|lx rfl ?_)
 refine Nx<|fB [0] [aB bs 65 [v0,v1,(vi 2),(vI 3),v4,v5,v6,v7,v8,v9,v10]] (fun w hM hO=>(WN bs v0 v1 (vi 2) v4 v5 v6 v7 v8 v9 v10 AD cD Dm q0 w hO (r0.bP hM [0]) (hDl) (hu) (hend)).mono ?_) rfl rfl rfl kr (rO rfl rfl rfl (lO Tryz.func55 kr rfl))
 rintro e w' ⟨rfl,hP⟩
 refine ⟨_,[_],_,rfl,hP,rfl,?_⟩; clear hP hM hO
 exact lx rfl<|Nd<|sN [(vi 0)] fun w hM=>⟨rfl,(hM.pick [0] rfl rfl)⟩
theorem WQ (bs:Nat) (A:Option Addr) (c:Nat) (its:List (List UInt8)) (v3 v4:Value) (v6 v8:Value) (v9 v10:Value) (AD:Option Addr) (cD:Nat) (Dm:List UInt8) (q0:Rd) (ts:List BT) (k se:Nat) (A2:Option Addr) (c2 nm om:Nat) (w:World) (hO:bO [aB bs 65 [(vL A its c),bF,(vi 2),v3,v4,bF,v6,(vP se 0),v8,v9,v10]] w) (r0:Rf [aB bs 65 [(vL A its c),bF,(vi 2),v3,v4,bF,v6,(vP se 0),v8,v9,v10]] w (bW)) (r1:Rf [aB bs 65 [(vL A its c),bF,(vi 2),v3,v4,bF,v6,(vP se 0),v8,v9,v10]] w (fun w=>aF w A (SS its))) (r2:Rf [aB bs 65 [(vL A its c),bF,(vi 2),v3,v4,bF,v6,(vP se 0),v8,v9,v10]] w (fun w=>aF w AD (B8 Dm))) (r3:Rf [aB bs 65 [(vL A its c),bF,(vi 2),v3,v4,bF,v6,(vP se 0),v8,v9,v10]] w (fX se A2 c2 its 4 4 nm om)) (hDl:Dm.length≤4294967296) (hu:(Rd.mk Dm 0 0 0).uint=(1,q0)) (hts:gN q0.rest.1=some ts) (hend:q0.rest.2.end_=0) (hset:bH its) (h40:its.length≤40) (hc2:its.length≤c2) (hest:gX ts (bQ its)=k) (hk:500 < k) :
  Calls Tryz.prog 24 #[(vP bs 0),(vL AD Dm cD)] w fun e w'=>∃ (Am:Option Addr) (cm:Nat),e = .returned (vi 0)∧aK [aB bs 65 [(vL A its c),bF,(vi 2),v3,v4,bF,v6,(vP se 0),v8,v9,v10]] w [aB bs 65 [(vL A its c),bF,(vi 1),(vI 3),(vL Am (aX 3 (bS [dG its [] []])) cm),bT,v6,(vP se 0),v8,v9,v10],cB Am (aX 3 (bS [dG its [] []])) cm] w':=by
 refine bG Tryz.func24 26 (hO) rfl<|Nc<|lx rfl<|Nb<|Nx<|rL gG (fun v:Value=>v) rfl rfl kr (fun b8=>lx rfl<|lk (.func (.func 55) #[(vP bs 0)] #[])<|Nx<|rN (D:=gG) (val:=fun v:Value=>v) (a:=2) (u:=(.func (.func 55) #[(vP bs 0)] #[])) 1 [(2,(.func (.func 55) #[(vP bs 0)] #[]))] rfl rfl kr rfl rfl rfl Tryz.underlying100 rfl (show (2:Nat) < 100 by decide) rfl<|lx rfl<|Nb<|lx rfl<|lk (vP bs 0)<|lk (vP bs 2)<|lL 0 rfl<|lw (.tuple #[(.func (.func 55) #[(vP bs 0)] #[]),bT]) (gC (rM (D:=gG) (val:=fun v:Value=>v) (a:=2) (kv:=[(2,(.func (.func 55) #[(vP bs 0)] #[]))]) 1 rfl rfl rfl Tryz.underlying100 Tryz.zeroValue60 rfl (show (2:Nat) < 100 by decide)) rfl)<|lx rfl<|Ne<|lx rfl<|lF<|Nn<|aE<|lx rfl ?_)
 refine Nx<|fB [0] [aB bs 65 [(vL A its c),bF,(vi 2),v3,v4,bF,v6,(vP se 0),v8,v9,v10]] (fun w hM hO=>(WJ bs A c its (vi 2) v3 v4 v6 v8 v9 v10 AD cD Dm q0 ts k se A2 c2 nm om w hO (r0.bP hM [0]) (r1.bP hM [0]) (r2.bP hM [0]) (r3.bP hM [0]) (hDl) (hu) (hts) (hend) (hset) (h40) (hc2) (hest) (hk)).mono ?_) rfl rfl rfl kr (rO rfl rfl rfl (lO Tryz.func55 kr rfl))
 rintro e w' ⟨Am25,cm25,rfl,hP⟩
 refine ⟨_,[_],_,rfl,hP,rfl,?_⟩; clear hP hM hO
 exact lx rfl<|Nd<|sN [(vi 0)] fun w hM=>⟨Am25,cm25,rfl,(hM.pick [0,2] rfl rfl)⟩
section
section
variable {P : Program} {w0 : World} {F : List Nat} {E : cH} {cs : List Ch} {o : Oper}
theorem kL {ty u:TypeId} {x y:Operand} {a b:Nat} (ho:o.op = .binOp .sub ty x y u) (hx:aN E x=some (vi ((a:Nat):Int))) (hy:aN E y=some (vi ((b:Nat):Int))) (hb:b≤a) (ha:a≤9223372036854775807):cJ P w0 F cs E o (vi ((a - b:Nat):Int)) :=
 mH _ ho hx hy om om om
end
theorem cI.len {r:Rd} {bs:Bs} (h:cI r bs):r.D.length - r.off=bs.length:=by rw [← h.bytes,List.length_drop]
theorem cI.start (D:Bs):cI (Rd.mk D 0 0 0) D:=⟨rfl,rfl⟩
theorem cI.rest {r:Rd} {t rest:Bs} (h:cI r ((aD t.length++t)++rest)) (hm:cG t.length):r.rest.1=t∧cI r.rest.2 rest:=by
 have hl:=h.len
 simp only [List.length_append] at hl
 exact h.text om hm
theorem yV {k:Nat} {D:Bs} (hk:k≤100) (hD:D.length≤4294967296):∃ q0,(Rd.mk (aX k D) 0 0 0).uint=(k,q0)∧q0.rest.1=D∧q0.rest.2.end_=0:=by
 have h0:=cI.start (aX k D)
 obtain ⟨h1,h2⟩:=cI.uint (n:=k) (rest:=aD D.length++D) h0 (kX om)
 obtain ⟨h3,h4⟩:=cI.rest (t:=D) (rest:=[]) (by rw [List.append_nil]; exact h2) (kX om)
 exact ⟨_,Prod.ext h1 rfl,h3,h4.end_⟩
theorem Md {k:Nat} (hk:k≤100):∃ q0,(Rd.mk (aD k) 0 0 0).uint=(k,q0)∧q0.end_=0:=by
 have h0:=cI.start (aD k)
 obtain ⟨h1,h2⟩:=cI.uint (n:=k) (rest:=[]) (by rw [List.append_nil]; exact h0) (kX om)
 exact ⟨_,Prod.ext h1 rfl,h2.end_⟩
theorem Me {ts:List BT} (hok:mV ts) {r:Rd} {rest:Bs} (h:cI r (cZ ts++rest)):∀ i,i≤ts.length→∃ q,gM r i=(some (ts.take i),q)∧cI q (cZ (ts.drop i)++rest)
 | 0,_=>⟨r,rfl,h⟩
 | i+1,hi=>by
   obtain ⟨q,h1,h2⟩:=Me hok h i om
   have ht:ts[i]?=some ts[i]:=List.getElem?_eq_getElem om
   obtain ⟨t1,t2,t3⟩:=hok i _ ht
   have hs:cZ (ts.drop i)=oT ts[i]++cZ (ts.drop (i+1)):=by rw [List.drop_eq_getElem_cons om]; rfl
   rw [hs,List.append_assoc] at h2
   obtain ⟨h3,h4⟩:=cI.rest (t:=ts[i].enc) h2 (kX (by have:=DG t1 t2; omega))
   refine ⟨_,?_,h4⟩
   have hd:fW q.rest.1=some ts[i]:=by rw [h3]; exact Is t1 (by rw [t2]; decide)
   rw [Ja h1 hd (by simp [iR,t2,t3]),List.take_add_one,ht]
   rfl
theorem Ff {ts:List BT} (hok:mV ts) (hl:ts.length=12):gN (cZ ts)=some ts:=by
 obtain ⟨q,h1,h2⟩:=Me hok (r:=Rd.mk (cZ ts) 0 0 0) (rest:=[]) (by rw [List.append_nil]; exact cI.start _) 12 om
 rw [← hl,List.take_length] at h1
 rw [← hl,List.drop_length] at h2
 rw [hl] at h1
 rw [DN h1,if_pos h2.end_]
theorem Mf {its:List Bs} {n:Nat} (h32:∀ x∈its,x.length=32) (hz:eW (n:Int)=true):∃ q0 q1,(Rd.mk (eY its n) 0 0 0).uint=(2,q0)∧q0.sum=(cQ its,q1)∧fW q1.rest.1=some (dE its n)∧q1.rest.2.end_=0:=by
 have hn:=(kE hz).2.1
 have hen:(dE its n).enc.length≤200000:=xC (vB h32 n) (by rw [kZ]; omega) _
 have h0:=cI.start (eY its n)
 obtain ⟨h1,h2⟩:=cI.uint (n:=2) (rest:=cQ its++oT (dE its n)) h0 (kX om)
 obtain ⟨h3,h4⟩:=cI.sum h2 (tX _)
 obtain ⟨h5,h6⟩:=cI.rest (t:=(dE its n).enc) (rest:=[]) (by rw [List.append_nil]; exact h4) (kX om)
 exact ⟨_,_,Prod.ext h1 rfl,Prod.ext h3 rfl,by rw [h5]; exact Is (vB h32 n) (by rw [kZ]; exact hz),h6.end_⟩
theorem yW {k:Nat} {D:Bs} (hk:k≤100) (hD:D.length≤4294967296):(aX k D).length≤D.length+20:=by
 have h1:=eJ k om
 have h2:=eJ D.length om
 unfold aX
 simp only [List.length_append]
 omega
theorem kM {a b:List Bs} {f l par j:Nat} (h:j % 2=par):aI a b f l par (j+1)=((aI a b f l par j).1++(bX a b f l j).need,(aI a b f l par j).2++(bX a b f l j).off):=by rw [aI,if_pos h]
theorem kN {a b:List Bs} {f l par j:Nat} (h:¬ j % 2=par):aI a b f l par (j+1)=aI a b f l par j:=by rw [aI,if_neg h]
theorem WR {offs needs:List Bs} (h1:∀ x∈offs,x.length=32) (h2:∀ x∈needs,x.length=32) (l1:offs.length≤3072) (l2:needs.length≤3072):∃ q0 q1 q2,(Rd.mk (gU offs needs) 0 0 0).uint=(4,q0)∧q0.items 16384=(offs,q1)∧q1.items 16384=(needs,q2)∧q2.end_=0:=by
 have h0:=cI.start (gU offs needs)
 obtain ⟨a1,a2⟩:=cI.uint (n:=4) (rest:=(aD offs.length++offs.flatten)++(aD needs.length++needs.flatten)) h0 (kX om)
 obtain ⟨b1,b2⟩:=cI.items (most:=16384) a2 h1 om om
 obtain ⟨c1,c2⟩:=cI.items (most:=16384) (rest:=[]) (by rw [List.append_nil]; exact b2) h2 om om
 exact ⟨_,_,_,Prod.ext a1 rfl,Prod.ext b1 rfl,Prod.ext c1 rfl,c2.end_⟩
end
section
section
variable {P : Program} {Q : Exit → Act → World → Prop} {n : Nat} {w0 : World} {F : List Nat} {E : cH} {cs : List Ch} {c : Code} {X : Act → World → Prop}
def yX (P : Program) (c : Code) (Q : Exit → Act → World → Prop) (a : Act) (w : World) : Prop :=
 ∀ b k cs, ∃ e a' w', Q e a' w' ∧ Arrives P (Go.lone (b.at a (.code c :: .inLoop c :: k)) cs w) b k cs e a' w'
theorem Mg (h:St n w0 F E cs (yX P c Q)):St n w0 F E cs ((Code.loop c).wp P Q):=fun a w ha hm b k cs=>by
 obtain ⟨e,a',w',hq,harr⟩:=h a w ha hm b k cs
 exact ⟨e,a',w',hq,.of_steps (.one step_loop) harr⟩
theorem WT {a:Act} {w:World} (h:c.wp P (Exit.then (yX P c Q) Q) a w):yX P c Q a w:=fun b k cs=>by
 obtain ⟨e,a₁,w₁,hq,harr⟩:=h b (.inLoop c::k) cs
 cases e with
 | normal =>
   obtain ⟨e₂,a₂,w₂,hq₂,harr₂⟩:=hq b k cs
   exact ⟨e₂,a₂,w₂,hq₂,.of_steps (Steps.trans harr (.one step_inLoop)) harr₂⟩
 | exit id=>exact ⟨_,a₁,w₁,hq,.pass (x:=.inLoop c) rfl (fun _ _=>.inl si) harr⟩
 | goto l=>exact ⟨_,a₁,w₁,hq,.pass (x:=.inLoop c) rfl (fun _ _=>.inl si) harr⟩
 | ret=>exact ⟨_,a₁,w₁,hq,.pass (x:=.inLoop c) rfl (fun _ _=>.inl si) harr⟩
 | panic ch=>exact ⟨_,a₁,w₁,hq,.pass (x:=.inLoop c) rfl (fun _ _=>.inl si) harr⟩
 | outgrown=>exact ⟨_,a₁,w₁,hq,.pass (x:=.inLoop c) rfl (fun _ _=>.inl si) harr⟩
theorem lG (h:St n w0 F E cs (c.wp P (Exit.then (yX P c Q) Q))):St n w0 F E cs (yX P c Q):=fun a w ha hm=>WT (h a w ha hm)
theorem yY {E':cH} {cs':List Ch} (h:St n w0 F E' cs' X) (hE:nD E E') (hM:∀ w,Mm w0 F cs w→Mm w0 F cs' w):St n w0 F E cs X:=fun a w ha hm=>h a w (ha.sub (wJ hE)) (hM w hm)
theorem Mh {ι:Type} (ok:ι→Prop) (μ:ι→Nat) (J:ι→cH) (C:ι→List Ch) (i0:ι) (h0:ok i0) (hE:nD E (J i0)) (hM:∀ w,Mm w0 F cs w→Mm w0 F (C i0) w)
  (step:∀ i,ok i→(∀ i',ok i'→μ i' < μ i→St n w0 F (J i') (C i') X)→St n w0 F (J i) (C i) X):St n w0 F E cs X:=by
 refine yY (E':=J i0) (cs':=C i0) ?_ hE hM
 have key:∀ m i,μ i≤m→ok i→St n w0 F (J i) (C i) X:=by
  intro m
  induction m with
  | zero=>exact fun i hi hok=>step i hok fun i' _ hlt=>absurd hlt (by omega)
  | succ m ih=>exact fun i hi hok=>step i hok fun i' hok' hlt=>ih i' (by omega) hok'
 exact key _ i0 (Nat.le_refl _) h0
end
theorem Fg (k:Nat) (D:Bs):1≤(aX k D).length:=by
 have h:=CW k
 unfold aX
 simp only [List.length_append]
 omega
theorem WU (A:Option Addr) (c:Nat) (a:List (List UInt8)) (A2:Option Addr) (c2:Nat) (b:List (List UInt8)) (bd k n:Nat) (offs needs:List (List UInt8)) (w:World) (r0:Rf [] w (bW)) (r1:Rf [] w (fun w=>aF w A (SS a))) (r2:Rf [] w (fun w=>aF w A2 (SS b))) (hsa:bH a) (hsb:bH b) (ha4:a.length≤40) (hb4:b.length≤40) (hest:gX (bQ a) (bQ b)=k) (hk:k≤500) (hsz:iM ((k+k / 2:Nat):Int)=(n:Int)) (hz:eW (n:Int)=true) (hd:mW a (dE b n) (cQ b)=some (offs,needs)) (hao:offs.Pairwise (· < ·)) (han:needs.Pairwise (· < ·)) (h32o:∀ x∈offs,x.length=32) (h32n:∀ x∈needs,x.length=32) (hag:kG b offs needs=true) (hol:offs.length≤40) (hnl:needs.length≤40) (hbd:700000≤bd) (hbd2:bd≤1099511627776) :
  Calls Tryz.prog 7 #[(vL A a c),(vL A2 b c2),(vI bd)] w fun e w'=>∃ (B1:Option Addr) (cb1:Nat) (B2:Option Addr) (cb2 nbt:Nat),e = .returned (.tuple #[(vL B1 (cK offs offs) cb1),(vL B2 (cK needs needs) cb2),(vI nbt),bT,(vi 0)])∧aK [] w [cS B1 (cK offs offs) cb1,cS B2 (cK needs needs) cb2] w'∧(1≤nbt):=by
 refine kQ Tryz.func7 83 (Mm.start w []) rfl<|Nc<|lx rfl<|Nf<|aQ ?_
 have hea:fC a=0:=lS om hsa
 have heb:fC b=0:=lS om hsb
 have h32a:=hsa.1
 have h32b:=hsb.1
 have hska:=rB (nT h32a).all
 rw [lA] at hska
 obtain ⟨q1,u1,s1,e1⟩:=yV (k:=1) (D:=cZ (bQ a)) om om
 have hw1:=yW (k:=1) (D:=cZ (bQ a)) om om
 have hp1:=Fg 1 (cZ (bQ a))
 obtain ⟨q2,p2,u2,s2,d2,e2⟩:=Mf h32b hz
 have hml2:(eY b n).length≤200100:=Fe (xC (vB h32b n) (by rw [kZ]; exact (kE hz).2.1) _)
 obtain ⟨q3,q4,q5,u3,i3,i4,e3⟩:=WR h32o h32n om om
 have hdl:=LP h32o h32n om om
 refine aE<|lx rfl<|lk (.bool (decide (((bd:Nat):Int) < 0)))<|Na<|eF rfl si<|Ni<|lx rfl<|Nx<|Cz (fun w hM=>Fb A c a w (r0.aO hM) (r1.aO hM) om (hea) om) fun bs22 A122 c122 se22 A222 c222 nm22 om22 Am22 cm22=>lx rfl<|Ne<|lx rfl<|lF<|Nn<|aE<|lx rfl<|Nx<|fM (fun w hM=>(Fc A2 c2 b w (r0.aO hM) (r2.aO hM) om (heb) om).mono ?_)
 rintro e w' ⟨bs30,A130,c130,se30,A230,c230,nm30,om30,rfl,hP⟩
 refine ⟨_,_,rfl,hP,?_⟩; clear hP hM
 refine lx rfl<|Ne<|lx rfl<|lF<|Nn<|Nc<|lx rfl<|Ng<|LO 4<|tN<|aQ<|eS<|Nc<|lx rfl<|lw (vI bd) (mH ((bd:Nat):Int) rfl rfl rfl om om om)<|Nx<|bZ [0] (fun w hM hO=>qG bs22 (vL A122 a c122) bT bF bF (vP se22 0) bF nS nS 1 Am22 cm22 (aX 1 (cZ (bQ a))) bd w hO om (by decide))<|lx rfl<|Ne<|lx rfl<|lF<|Nn<|aE<|lx rfl ?_
 refine lk (vI ((aX 1 (cZ (bQ a))).length))<|lw (vI (0+(aX 1 (cZ (bQ a))).length)) bJ<|lx rfl<|Nb<|lx rfl<|Nx<|kC [7] (fun w hM hO=>Mb bs30 A130 c130 b (vi 0) nS bF (vP se30 0) bF nS nS Am22 cm22 (aX 1 (cZ (bQ a))) q1 (bQ a) k n w hO (r0.bP hM [7]) (hM.cL [7] (j:=8) rfl (fun _ h=>aF.aR h)) (hM.cL [7] (j:=6) rfl (fun _ h=>aF.aR h)) om (u1) (by rw [s1]; exact Ff (nT h32a) (lA a)) (e1) (hsb) (hb4) (hest) (hk) (hsz) (hz)) fun Am56r0 cm56r0=>lx rfl<|Nf ?_
 dsimp only [bC,List.set,List.cons_append,List.nil_append]
 refine aE<|lx rfl<|lF<|Nu<|Nw<|aE<|lx rfl<|Na<|tN<|aQ<|eS<|Nc<|lx rfl<|lw (vI (bd - (0+(aX 1 (cZ (bQ a))).length))) (kL rfl rfl rfl om om)<|Nx<|bZ [7] (fun w hM hO=>qG bs30 (vL A130 b c130) bF bT bF (vP se30 0) bF nS nS 2 Am56r0 cm56r0 (eY b n) (bd - (0+(aX 1 (cZ (bQ a))).length)) w hO om (by decide))<|lx rfl<|Ne<|lx rfl<|lF<|Nn<|aE<|lx rfl<|lk (vI ((eY b n).length)) ?_
 refine lw (vI (0+(aX 1 (cZ (bQ a))).length+(eY b n).length)) bJ<|lx rfl<|Nb<|lx rfl<|Nx<|fB [0] _ (fun w hM hO=>(WA bs22 A122 c122 a bT nS bF (vP se22 0) bF nS nS Am56r0 cm56r0 (eY b n) q2 (cQ b) p2 (dE b n) offs needs w hO (r0.bP hM [0]) (hM.cL [0] (j:=1) rfl (fun _ h=>aF.aR h)) (hM.cL [0] (j:=13) rfl (fun _ h=>aF.aR h)) om (u2) (s2) (d2) (e2) (xQ b n) (hsa) (ha4) om (hd) (hao) (h32o) (h32n)).mono ?_)
 rintro e w' ⟨Ao56r1,co56r1,An56r1,cn56r1,Am56r1,cm56r1,rfl,hP⟩
 refine ⟨_,[_],_,rfl,hP,rfl,?_⟩; clear hP hM hO
 refine lx rfl<|Nb<|lx rfl<|lF<|Nu<|Nw<|aE<|lx rfl<|Na<|tN<|aQ<|eS<|Nc<|lx rfl<|lw (vI (bd - (0+(aX 1 (cZ (bQ a))).length+(eY b n).length))) (kL rfl rfl rfl om om)<|Nx<|bZ [0] (fun w hM hO=>Wq bs22 (vL A122 a c122) bT bT bT (vP se22 0) bT (vL An56r1 needs cn56r1) (vL Ao56r1 offs co56r1) 4 Am56r1 cm56r1 (gU offs needs) (bd - (0+(aX 1 (cZ (bQ a))).length+(eY b n).length)) w hO om (by decide))<|lx rfl<|Ne<|lx rfl<|lF<|Nn<|aE<|lx rfl ?_
 refine lk (vI ((gU offs needs).length))<|lw (vI (0+(aX 1 (cZ (bQ a))).length+(eY b n).length+(gU offs needs).length)) bJ<|lx rfl<|Nb<|lx rfl<|Nx<|fB [7] _ (fun w hM hO=>(WB bs30 A130 c130 b bF nS bT bF (vP se30 0) bF nS nS Am56r1 cm56r1 (gU offs needs) q3 q4 q5 needs offs w hO (hM.cL [7] (j:=8) rfl (fun _ h=>aF.aR h)) (hM.cL [7] (j:=16) rfl (fun _ h=>aF.aR h)) om (u3) (i3) (i4) (e3) (hao) (han) (hag) (hsb.2) om).mono ?_)
 rintro e w' ⟨An56r2,cn56r2,Ao56r2,co56r2,rfl,hP⟩
 refine ⟨_,[_],_,rfl,hP,rfl,?_⟩; clear hP hM hO
 refine lx rfl<|Nf ?_
 dsimp only [bC,List.set,List.cons_append,List.nil_append]
 refine aE<|lx rfl<|lF<|Nu<|Nw<|aE<|lx rfl<|Na<|tN<|aQ<|eS<|Nc<|lx rfl<|lw (vI (bd - (0+(aX 1 (cZ (bQ a))).length+(eY b n).length+(gU offs needs).length))) (kL rfl rfl rfl om om)<|Nx<|bN (fun w hM=>yU bs30 (vL A130 b c130) bF (vI 2) nS bT bT (vP se30 0) bT (vL An56r2 offs cn56r2) (vL Ao56r2 needs co56r2) (bd - (0+(aX 1 (cZ (bQ a))).length+(eY b n).length+(gU offs needs).length)) w (hM.aL (j:=7) rfl (fun _ h=>h)))<|lx rfl<|Ne<|lx rfl<|lT<|Nt<|rU<|iI<|wK rfl ?_
 refine iI<|iI<|lN<|aJ<|Nc<|lx rfl<|Nx<|cF (fun w hM=>LM bs22 (vL A122 a c122) bT (vi 0) (vI 4) nS bT bT (vP se22 0) (vL An56r1 needs cn56r1) Ao56r1 co56r1 offs w (hM.aL (j:=0) rfl (fun _ h=>h)) (hM.aL (j:=14) rfl (fun _ h=>kV h)) om) fun B61 cb61=>lx rfl<|Nx<|cF (fun w hM=>LL bs30 (vL A130 b c130) bF (vi 0) (vI 2) nS bT bT (vP se30 0) (vL Ao56r2 needs co56r2) An56r2 cn56r2 offs w (hM.aL (j:=7) rfl (fun _ h=>h)) (hM.aL (j:=17) rfl (fun _ h=>aF.aR h)) om) fun B63 cb63=>Nx<|cF (fun w hM=>oV B61 cb61 offs B63 cb63 offs w (hM.aL (j:=19) rfl (fun _ h=>aF.aR h)) (hM.aL (j:=20) rfl (fun _ h=>aF.aR h)) om (hao) om) fun B64 cb64=>lx rfl<|Nx<|cF (fun w hM=>LM bs30 (vL A130 b c130) bF (vi 0) (vI 2) nS bT bT (vP se30 0) (vL An56r2 offs cn56r2) Ao56r2 co56r2 needs w (hM.aL (j:=7) rfl (fun _ h=>h)) (hM.aL (j:=18) rfl (fun _ h=>aF.aR h)) om) fun B66 cb66=>lx rfl<|Nx<|cF (fun w hM=>LL bs22 (vL A122 a c122) bT (vi 0) (vI 4) nS bT bT (vP se22 0) (vL Ao56r1 offs co56r1) An56r1 cn56r1 needs w (hM.aL (j:=0) rfl (fun _ h=>h)) (hM.aL (j:=15) rfl (fun _ h=>kV h)) om) fun B68 cb68=>?_
 dsimp only [bC,List.set,List.cons_append,List.nil_append]
 refine Nx<|cF (fun w hM=>oV B66 cb66 needs B68 cb68 needs w (hM.aL (j:=22) rfl (fun _ h=>aF.aR h)) (hM.aL (j:=23) rfl (fun _ h=>aF.aR h)) om (han) om) fun B69 cb69=>lx rfl ?_
 refine Nf ?_
 refine dN _ 18 kr (fun _ h=>h) ?_
 refine am 0 ?_
 refine am 1 ?_
 refine am 2 ?_
 refine am 3 ?_
 refine aC 4 (vP bs22 0) rfl<|aC 5 (vP bs22 6) rfl<|al 6 0 ?_
 refine am 7 ?_
 refine jI 8 ?_
 refine aG 9 (vP bs30 0) rfl<|aG 10 (vP bs30 6) rfl<|aW 11 bT rfl (eT 7 rfl rfl kr rfl rfl)<|aC 12 bT rfl<|aa 13 ?_
 refine aa 14 ?_
 refine aa 15 ?_
 refine aa 16 ?_
 refine aa 17 ?_
 exact dO kr<|aJ<|gQ<|sN [(vL B64 (cK offs offs) cb64),(vL B69 (cK needs needs) cb69),(vI (0+(aX 1 (cZ (bQ a))).length+(eY b n).length+(gU offs needs).length)),bT,(vi 0)] fun w hM=>⟨B64,cb64,B69,cb69,(0+(aX 1 (cZ (bQ a))).length+(eY b n).length+(gU offs needs).length),rfl,(hM.pick [21,24] rfl rfl),om⟩
theorem WV (A:Option Addr) (c:Nat) (a:List (List UInt8)) (A2:Option Addr) (c2:Nat) (b:List (List UInt8)) (bd k K:Nat) (na oa:List (List UInt8)) (nb ob:List (List UInt8)) (w:World) (r0:Rf [] w (bW)) (r1:Rf [] w (fun w=>aF w A (SS a))) (r2:Rf [] w (fun w=>aF w A2 (SS b))) (hsa:bH a) (hsb:bH b) (ha4:a.length≤40) (hb4:b.length≤40) (hest:gX (bQ a) (bQ b)=k) (hk:500 < k) (hK:qE b a 4 4 K) (hK1:1≤K) (hK7:K≤7) (hms:∀ j,j≤7→(bE b a 4 4 j).length≤57700) (hbd:700000≤bd) (hbd2:bd≤1099511627776) (hl0:bA [] ((aI b a 4 4 0 K).1)=na) (hl1:bA [] ((aI b a 4 4 0 K).2)=oa) (hl2:bA [] ((aI b a 4 4 1 K).1)=nb) (hl3:bA [] ((aI b a 4 4 1 K).2)=ob) (hna:na.Pairwise (· < ·)) (hnb:nb.Pairwise (· < ·)) (hlen:(na.length≤1000∧oa.length≤1000)∧nb.length≤1000∧ob.length≤1000) :
  Calls Tryz.prog 7 #[(vL A a c),(vL A2 b c2),(vI bd)] w fun e w'=>∃ (B1:Option Addr) (cb1:Nat) (B2:Option Addr) (cb2 nbt:Nat),e = .returned (.tuple #[(vL B1 (cK oa nb) cb1),(vL B2 (cK ob na) cb2),(vI nbt),bT,(vi 0)])∧aK [] w [cS B1 (cK oa nb) cb1,cS B2 (cK ob na) cb2] w'∧(1≤nbt):=by
 refine kQ Tryz.func7 83 (Mm.start w []) rfl<|Nc<|lx rfl<|Nf<|aQ ?_
 have hea:fC a=0:=lS om hsa
 have heb:fC b=0:=lS om hsb
 have h32a:=hsa.1
 have h32b:=hsb.1
 have hska:=rB (nT h32a).all
 rw [lA] at hska
 obtain ⟨q1,u1,s1,e1⟩:=yV (k:=1) (D:=cZ (bQ a)) om om
 have hw1:=yW (k:=1) (D:=cZ (bQ a)) om om
 have hp1:=Fg 1 (cZ (bQ a))
 have hn5:=eJ 5 om
 obtain ⟨q6,u6,e6⟩:=Md (k:=5) om
 refine aE<|lx rfl<|lk (.bool (decide (((bd:Nat):Int) < 0)))<|Na<|eF rfl si<|Ni<|lx rfl<|Nx<|Cz (fun w hM=>Fb A c a w (r0.aO hM) (r1.aO hM) om (hea) om) fun bs22 A122 c122 se22 A222 c222 nm22 om22 Am22 cm22=>lx rfl<|Ne<|lx rfl<|lF<|Nn<|aE<|lx rfl<|Nx<|fM (fun w hM=>(Fc A2 c2 b w (r0.aO hM) (r2.aO hM) om (heb) om).mono ?_)
 rintro e w' ⟨bs30,A130,c130,se30,A230,c230,nm30,om30,rfl,hP⟩
 refine ⟨_,_,rfl,hP,?_⟩; clear hP hM
 refine lx rfl<|Ne<|lx rfl<|lF<|Nn<|aQ<|St.fact (fun w hM=>qP (hM.at (i:=3) rfl)) (fun hcapa=>St.fact (fun w hM=>qP (hM.at (i:=10) rfl)) (fun hcapb=>?_))
 dsimp only [bC,List.set,List.cons_append,List.nil_append]
 refine aE<|lx rfl<|Ng<|Mg<|lG<|aQ<|eS<|Nc<|lx rfl<|lw (vI bd) (mH ((bd:Nat):Int) rfl rfl rfl om om om)<|Nx<|bZ [0] (fun w hM hO=>qG bs22 (vL A122 a c122) bT bF bF (vP se22 0) bF nS nS 1 Am22 cm22 (aX 1 (cZ (bQ a))) bd w hO om (by decide))<|lx rfl<|Ne<|lx rfl<|lF<|Nn<|aE<|lx rfl<|lk (vI ((aX 1 (cZ (bQ a))).length))<|lw (vI (0+(aX 1 (cZ (bQ a))).length)) bJ<|lx rfl<|Nb<|lx rfl ?_
 refine Nx<|kC [7] (fun w hM hO=>WQ bs30 A130 c130 b (vi 0) nS bF bF nS nS Am22 cm22 (aX 1 (cZ (bQ a))) q1 (bQ a) k se30 A230 c230 nm30 om30 w hO (r0.bP hM [7]) (hM.cL [7] (j:=8) rfl (fun _ h=>aF.aR h)) (hM.cL [7] (j:=6) rfl (fun _ h=>aF.aR h)) (((hM.cL [7] (j:=9) rfl (fun _ h=>h)).and (hM.cL [7] (j:=10) rfl (fun _ h=>aF.aR h))).imp (fun _ h=>⟨h.1,h.2⟩)) om (u1) (by rw [s1]; exact Ff (nT h32a) (lA a)) (e1) (hsb) (hb4) (hcapb) (hest) (hk)) fun Am56r0 cm56r0=>lx rfl<|Nb<|lx rfl<|lF<|Nu<|Nw<|aE<|lx rfl<|Na ?_
 rw [show bS [dG b [] []]=bE b a 4 4 0 from rfl]
 refine Mh (ι:=Nat × Bool × Option Addr × Nat × Nat × Nat × Bool) (fun (j,p,BX,cX,nt,kY,rY)=>j < K∧(p=true↔j % 2=0)∧1≤nt∧nt≤230000+57800*j∧kY≠0∧(p=false→kY=3)) (fun (j,p,BX,cX,nt,kY,rY)=>K - j) (fun (j,p,BX,cX,nt,kY,rY)=>[(2,(vI bd)),(6,nS),(7,nS),(9,bF),(10,(vi 0)),(11,(vP bs22 0)),(12,(vP bs30 0)),(8,(vI nt)),(13,(cond p (vP bs30 0) (vP bs22 0))),(14,(cond p (vP bs22 0) (vP bs30 0)))]) (fun (j,p,BX,cX,nt,kY,rY)=>[aB bs22 65 [(vL A122 a c122),bT,(vi (cond p 2 1)),(vI kY),(cond p nS (vL BX (aX 3 (bE b a 4 4 j)) cX)),(.bool rY),bF,(vP se22 0),bF,nS,nS],cS A122 a c122,aB se22 105 [(vL A222 a c222),(vI 4),(vI 4),(.map (some nm22)),(.map (some om22))],cS A222 a c222,aM nm22 ((aI b a 4 4 0 j).1),aM om22 ((aI b a 4 4 0 j).2),aB bs30 65 [(vL A130 b c130),bF,(vi (cond p 1 2)),(vI 3),(cond p (vL BX (aX 3 (bE b a 4 4 j)) cX) nS),bT,bF,(vP se30 0),bF,nS,nS],cS A130 b c130,aB se30 105 [(vL A230 b c230),(vI 4),(vI 4),(.map (some nm30)),(.map (some om30))],cS A230 b c230,aM nm30 ((aI b a 4 4 1 j).1),aM om30 ((aI b a 4 4 1 j).2),cB BX (aX 3 (bE b a 4 4 j)) cX]) (0,true,Am56r0,cm56r0,(0+(aX 1 (cZ (bQ a))).length),1,false) ⟨om,si,om,om,by decide,si⟩ ⟨rfl,rfl,rfl,rfl,rfl,rfl,rfl,rfl,rfl,rfl,trivial⟩ (fun w hM=>(hM.pick [0,1,2,3,4,5,7,8,9,10,11,12,13] rfl rfl)) ?_
 rintro ⟨j,p,BX,cX,nt,kY,rY⟩ ⟨hjK,hpj,hnt1,hnt,hkY,hkY3⟩ IH
 have hm7:=hms j om
 have hgo:=hK.go j hjK
 obtain ⟨q7,u7,s7,e7⟩:=yV (k:=3) (D:=bE b a 4 4 j) om om
 have hw7:=yW (k:=3) (D:=bE b a 4 4 j) om om
 cases p with
 | true =>
   have hpar:j % 2=0:=by exact hpj.1 rfl
   dsimp only
   have hR:cC a 4 4 (bE b a 4 4 j)=bX b a 4 4 j:=by unfold bX dY; rw [if_pos hpar]
   have hn7:=kI (fan:=4) (leaf:=4) (par:=0) hsb hsa hb4 ha4 j
   have hS7:((aI b a 4 4 0 j).1).length≤549755813888:=by have h9:=hn7.1; omega
   have hT7:((aI b a 4 4 0 j).2).length≤549755813888:=by have h9:=hn7.2; omega
   refine lG<|aQ<|eS<|Nc<|lx rfl<|lw (vI (bd - nt)) (kL rfl rfl rfl om om)<|Nx<|bZ [6] (fun w hM hO=>qG bs30 (vL A130 b c130) bF bT bF (vP se30 0) bF nS nS 3 BX cX (aX 3 (bE b a 4 4 j)) (bd - nt) w hO om (by decide))<|lx rfl<|Ne<|lx rfl<|lF<|Nn<|aE<|lx rfl<|lk (vI ((aX 3 (bE b a 4 4 j)).length))<|lw (vI (nt+(aX 3 (bE b a 4 4 j)).length)) bJ<|lx rfl<|Nf ?_
   dsimp only [bC,List.set,List.cons_append,List.nil_append]
   rcases Nat.lt_or_ge (j+1) K with hlt | hge
   ·have hrp:=(hK.go (j+1) hlt).1
    change (bX b a 4 4 j).reply≠[] at hrp
    refine aE<|lx rfl<|Nx<|qQ [0,4,5] (fun w hM hO=>BM bs22 A122 c122 a bT nS (.bool rY) bF bF nS nS BX cX (aX 3 (bE b a 4 4 j)) q7 se22 A222 c222 nm22 om22 ((aI b a 4 4 0 j).1) ((aI b a 4 4 0 j).2) kY w hO (r0.bP hM [0,4,5]) (hM.cL [0,4,5] (j:=1) rfl (fun _ h=>aF.aR h)) (hM.cL [0,4,5] (j:=12) rfl (fun _ h=>aF.aR h)) (((hM.cL [0,4,5] (j:=2) rfl (fun _ h=>h)).and (hM.cL [0,4,5] (j:=3) rfl (fun _ h=>aF.aR h))).imp (fun _ h=>⟨h.1,h.2⟩)) om (u7) (e7) (by rw [s7]; exact hgo.1) (hsa) (ha4) (hcapa) (by rw [s7]; omega) (by rw [s7,hR]; exact hgo.2) (hS7) (hT7) (by rw [s7,hR]; exact hrp) om) fun Am56p0 cm56p0=>?_
    rw [show cC a 4 4 q7.rest.1=bX b a 4 4 j from by rw [s7,hR]]
    rw [show (bX b a 4 4 j).reply=bE b a 4 4 (j+1) from rfl]
    rw [show ((aI b a 4 4 0 j).1)++(bX b a 4 4 j).need=(aI b a 4 4 0 (j+1)).1 from by rw [kM (j:=j) hpar]]
    rw [show (aI b a 4 4 1 j).1=(aI b a 4 4 1 (j+1)).1 from by rw [kN (j:=j) om]]
    rw [show ((aI b a 4 4 0 j).2)++(bX b a 4 4 j).off=(aI b a 4 4 0 (j+1)).2 from by rw [kM (j:=j) hpar]]
    rw [show (aI b a 4 4 1 j).2=(aI b a 4 4 1 (j+1)).2 from by rw [kN (j:=j) om]]
    exact lx rfl<|Nb<|lx rfl<|lF<|Nu<|Nw<|aE<|lx rfl<|aS (aJ (yY (IH (j+1,false,Am56p0,cm56p0,(nt+(aX 3 (bE b a 4 4 j)).length),3,true) ⟨hlt,by simp; omega,om,om,by decide,si⟩ (by show K - (j+1) < K - j; omega)) ⟨rfl,rfl,rfl,rfl,rfl,rfl,rfl,rfl,rfl,rfl,trivial⟩ (fun w hM=>(hM.pick [0,1,2,3,4,5,6,7,8,9,10,11,13] rfl rfl))))
   ·have hrp:=hK.stop
    obtain rfl:j+1=K:=om
    change (bX b a 4 4 j).reply=[] at hrp
    refine aE<|lx rfl<|Nx<|qQ [0,4,5] (fun w hM hO=>BN bs22 A122 c122 a bT nS (.bool rY) bF bF nS nS BX cX (aX 3 (bE b a 4 4 j)) q7 se22 A222 c222 nm22 om22 ((aI b a 4 4 0 j).1) ((aI b a 4 4 0 j).2) kY w hO (r0.bP hM [0,4,5]) (hM.cL [0,4,5] (j:=1) rfl (fun _ h=>aF.aR h)) (hM.cL [0,4,5] (j:=12) rfl (fun _ h=>aF.aR h)) (((hM.cL [0,4,5] (j:=2) rfl (fun _ h=>h)).and (hM.cL [0,4,5] (j:=3) rfl (fun _ h=>aF.aR h))).imp (fun _ h=>⟨h.1,h.2⟩)) om (u7) (e7) (by rw [s7]; exact hgo.1) (hsa) (ha4) (hcapa) (by rw [s7]; omega) (by rw [s7,hR]; exact hgo.2) (hS7) (hT7) (by rw [s7,hR]; exact hrp) om) fun Am56p0 cm56p0=>?_
    rw [show cC a 4 4 q7.rest.1=bX b a 4 4 j from by rw [s7,hR]]
    rw [show ((aI b a 4 4 0 j).1)++(bX b a 4 4 j).need=(aI b a 4 4 0 (j+1)).1 from by rw [kM (j:=j) hpar]]
    rw [show (aI b a 4 4 1 j).1=(aI b a 4 4 1 (j+1)).1 from by rw [kN (j:=j) om]]
    rw [show ((aI b a 4 4 0 j).2)++(bX b a 4 4 j).off=(aI b a 4 4 0 (j+1)).2 from by rw [kM (j:=j) hpar]]
    rw [show (aI b a 4 4 1 j).2=(aI b a 4 4 1 (j+1)).2 from by rw [kN (j:=j) om]]
    refine lx rfl<|Nb<|lx rfl<|lF<|Nu<|Nw<|aE<|lx rfl<|Na<|lG<|aQ<|eS<|Nc<|lx rfl<|lw (vI (bd - (nt+(aX 3 (bE b a 4 4 j)).length))) (kL rfl rfl rfl om om)<|Nx<|bZ [0] (fun w hM hO=>BK bs22 (vL A122 a c122) bT bT bT (vP se22 0) bF nS nS 5 Am56p0 cm56p0 (aD 5) (bd - (nt+(aX 3 (bE b a 4 4 j)).length)) w hO om (by decide))<|lx rfl<|Ne<|lx rfl<|lF<|Nn<|aE<|lx rfl ?_
    refine lk (vI ((aD 5).length))<|lw (vI (nt+(aX 3 (bE b a 4 4 j)).length+(aD 5).length)) bJ<|lx rfl<|Nb<|lx rfl<|Nx<|bZ [6] (fun w hM hO=>BO bs30 (vL A130 b c130) bF nS bT bF (vP se30 0) bF nS nS Am56p0 cm56p0 (aD 5) q6 w hO (hM.cL [6] (j:=13) rfl (fun _ h=>aF.aR h)) om (u6) (e6))<|lx rfl<|Nf ?_
    dsimp only [bC,List.set,List.cons_append,List.nil_append]
    refine aE<|lx rfl<|lF<|Nu<|Nw<|aE<|lx rfl<|Na<|lG<|aQ<|eS<|Nc<|lx rfl<|lw (vI (bd - (nt+(aX 3 (bE b a 4 4 j)).length+(aD 5).length))) (kL rfl rfl rfl om om)<|Nx<|bN (fun w hM=>yU bs30 (vL A130 b c130) bF (vI 3) nS bT bT (vP se30 0) bF nS nS (bd - (nt+(aX 3 (bE b a 4 4 j)).length+(aD 5).length)) w (hM.aL (j:=6) rfl (fun _ h=>h)))<|lx rfl<|Ne<|lx rfl<|lT<|Nt<|rU<|iI<|wK rfl ?_
    refine iI<|iI<|lN<|aJ<|aQ ?_
    have h70:=kI (fan:=4) (leaf:=4) (par:=0) hsb hsa hb4 ha4 (j+1)
    have h71:=kI (fan:=4) (leaf:=4) (par:=1) hsb hsa hb4 ha4 (j+1)
    refine aE<|lx rfl<|Nx<|cF (fun w hM=>rK bs22 (vL A122 a c122) bT (vi 0) (vI 5) nS bT bT nS nS se22 A222 c222 a nm22 om22 ((aI b a 4 4 0 (j+1)).2) w (hM.aL (j:=0) rfl (fun _ h=>h)) (hM.aL (j:=2) rfl (fun _ h=>h)) (hM.aL (j:=5) rfl (fun _ h=>h)) (Nat.le_trans h70.2 om)) fun B61 cb61=>?_
    rw [show bA [] ((aI b a 4 4 0 (j+1)).2)=oa from hl1]
    refine lx rfl<|Nx<|cF (fun w hM=>rJ bs30 (vL A130 b c130) bF (vi 0) (vI 3) nS bT bT nS nS se30 A230 c230 b nm30 om30 ((aI b a 4 4 1 (j+1)).1) w (hM.aL (j:=6) rfl (fun _ h=>h)) (hM.aL (j:=8) rfl (fun _ h=>h)) (hM.aL (j:=10) rfl (fun _ h=>h)) (Nat.le_trans h71.1 om)) fun B63 cb63=>?_
    rw [show bA [] ((aI b a 4 4 1 (j+1)).1)=nb from hl2]
    refine Nx<|cF (fun w hM=>oV B61 cb61 oa B63 cb63 nb w (hM.aL (j:=14) rfl (fun _ h=>aF.aR h)) (hM.aL (j:=15) rfl (fun _ h=>aF.aR h)) (Nat.le_trans hlen.1.2 (by decide)) (hnb) (Nat.le_trans hlen.2.1 (by decide))) fun B64 cb64=>lx rfl<|Nx<|cF (fun w hM=>rK bs30 (vL A130 b c130) bF (vi 0) (vI 3) nS bT bT nS nS se30 A230 c230 b nm30 om30 ((aI b a 4 4 1 (j+1)).2) w (hM.aL (j:=6) rfl (fun _ h=>h)) (hM.aL (j:=8) rfl (fun _ h=>h)) (hM.aL (j:=11) rfl (fun _ h=>h)) (Nat.le_trans h71.2 om)) fun B66 cb66=>?_
    rw [show bA [] ((aI b a 4 4 1 (j+1)).2)=ob from hl3]
    refine lx rfl<|Nx<|cF (fun w hM=>rJ bs22 (vL A122 a c122) bT (vi 0) (vI 5) nS bT bT nS nS se22 A222 c222 a nm22 om22 ((aI b a 4 4 0 (j+1)).1) w (hM.aL (j:=0) rfl (fun _ h=>h)) (hM.aL (j:=2) rfl (fun _ h=>h)) (hM.aL (j:=4) rfl (fun _ h=>h)) (Nat.le_trans h70.1 om)) fun B68 cb68=>?_
    dsimp only [bC,List.set,List.cons_append,List.nil_append]
    rw [show bA [] ((aI b a 4 4 0 (j+1)).1)=na from hl0]
    refine Nx<|cF (fun w hM=>oV B66 cb66 ob B68 cb68 na w (hM.aL (j:=17) rfl (fun _ h=>aF.aR h)) (hM.aL (j:=18) rfl (fun _ h=>aF.aR h)) (Nat.le_trans hlen.2.2 (by decide)) (hna) (Nat.le_trans hlen.1.1 (by decide))) fun B69 cb69=>lx rfl ?_
    refine Nf ?_
    refine dN _ 18 kr (fun _ h=>h) ?_
    refine am 0 ?_
    refine am 1 ?_
    refine am 2 ?_
    refine am 3 ?_
    refine aC 4 (vP bs22 0) rfl<|aC 5 (vP bs22 6) rfl<|al 6 0 ?_
    refine am 7 ?_
    refine jI 8 ?_
    refine aG 9 (vP bs30 0) rfl<|aG 10 (vP bs30 6) rfl<|aW 11 bT rfl (eT 6 rfl rfl kr rfl rfl)<|aC 12 bT rfl<|aa 13 ?_
    refine aa 14 ?_
    refine aa 15 ?_
    refine aa 16 ?_
    refine aa 17 ?_
    exact dO kr<|aJ<|gQ<|sN [(vL B64 (cK oa nb) cb64),(vL B69 (cK ob na) cb69),(vI (nt+(aX 3 (bE b a 4 4 j)).length+(aD 5).length)),bT,(vi 0)] fun w hM=>⟨B64,cb64,B69,cb69,(nt+(aX 3 (bE b a 4 4 j)).length+(aD 5).length),rfl,(hM.pick [16,19] rfl rfl),om⟩
 | false =>
   obtain rfl:kY=3:=hkY3 rfl
   have hpar:j % 2=1:=by have h:=hpj.2; simp at h; omega
   dsimp only
   have hR:cC b 4 4 (bE b a 4 4 j)=bX b a 4 4 j:=by unfold bX dY; rw [if_neg om]
   have hn7:=kI (fan:=4) (leaf:=4) (par:=1) hsb hsa hb4 ha4 j
   have hS7:((aI b a 4 4 1 j).1).length≤549755813888:=by have h9:=hn7.1; omega
   have hT7:((aI b a 4 4 1 j).2).length≤549755813888:=by have h9:=hn7.2; omega
   refine lG<|aQ<|eS<|Nc<|lx rfl<|lw (vI (bd - nt)) (kL rfl rfl rfl om om)<|Nx<|bZ [0] (fun w hM hO=>qG bs22 (vL A122 a c122) bT (.bool rY) bF (vP se22 0) bF nS nS 3 BX cX (aX 3 (bE b a 4 4 j)) (bd - nt) w hO om (by decide))<|lx rfl<|Ne<|lx rfl<|lF<|Nn<|aE<|lx rfl<|lk (vI ((aX 3 (bE b a 4 4 j)).length))<|lw (vI (nt+(aX 3 (bE b a 4 4 j)).length)) bJ<|lx rfl<|Nf ?_
   dsimp only [bC,List.set,List.cons_append,List.nil_append]
   rcases Nat.lt_or_ge (j+1) K with hlt | hge
   ·have hrp:=(hK.go (j+1) hlt).1
    change (bX b a 4 4 j).reply≠[] at hrp
    refine aE<|lx rfl<|Nx<|qQ [6,10,11] (fun w hM hO=>BM bs30 A130 c130 b bF nS bT bF bF nS nS BX cX (aX 3 (bE b a 4 4 j)) q7 se30 A230 c230 nm30 om30 ((aI b a 4 4 1 j).1) ((aI b a 4 4 1 j).2) 3 w hO (r0.bP hM [6,10,11]) (hM.cL [6,10,11] (j:=7) rfl (fun _ h=>aF.aR h)) (hM.cL [6,10,11] (j:=12) rfl (fun _ h=>aF.aR h)) (((hM.cL [6,10,11] (j:=8) rfl (fun _ h=>h)).and (hM.cL [6,10,11] (j:=9) rfl (fun _ h=>aF.aR h))).imp (fun _ h=>⟨h.1,h.2⟩)) om (u7) (e7) (by rw [s7]; exact hgo.1) (hsb) (hb4) (hcapb) (by rw [s7]; omega) (by rw [s7,hR]; exact hgo.2) (hS7) (hT7) (by rw [s7,hR]; exact hrp) om) fun Am56p1 cm56p1=>?_
    rw [show cC b 4 4 q7.rest.1=bX b a 4 4 j from by rw [s7,hR]]
    rw [show (bX b a 4 4 j).reply=bE b a 4 4 (j+1) from rfl]
    rw [show ((aI b a 4 4 1 j).1)++(bX b a 4 4 j).need=(aI b a 4 4 1 (j+1)).1 from by rw [kM (j:=j) hpar]]
    rw [show (aI b a 4 4 0 j).1=(aI b a 4 4 0 (j+1)).1 from by rw [kN (j:=j) om]]
    rw [show ((aI b a 4 4 1 j).2)++(bX b a 4 4 j).off=(aI b a 4 4 1 (j+1)).2 from by rw [kM (j:=j) hpar]]
    rw [show (aI b a 4 4 0 j).2=(aI b a 4 4 0 (j+1)).2 from by rw [kN (j:=j) om]]
    exact lx rfl<|Nb<|lx rfl<|lF<|Nu<|Nw<|aE<|lx rfl<|aS (aJ (yY (IH (j+1,true,Am56p1,cm56p1,(nt+(aX 3 (bE b a 4 4 j)).length),3,rY) ⟨hlt,by simp; omega,om,om,by decide,si⟩ (by show K - (j+1) < K - j; omega)) ⟨rfl,rfl,rfl,rfl,rfl,rfl,rfl,rfl,rfl,rfl,trivial⟩ (fun w hM=>(hM.pick [0,1,2,3,4,5,6,7,8,9,10,11,13] rfl rfl))))
   ·have hrp:=hK.stop
    obtain rfl:j+1=K:=om
    change (bX b a 4 4 j).reply=[] at hrp
    refine aE<|lx rfl<|Nx<|qQ [6,10,11] (fun w hM hO=>BN bs30 A130 c130 b bF nS bT bF bF nS nS BX cX (aX 3 (bE b a 4 4 j)) q7 se30 A230 c230 nm30 om30 ((aI b a 4 4 1 j).1) ((aI b a 4 4 1 j).2) 3 w hO (r0.bP hM [6,10,11]) (hM.cL [6,10,11] (j:=7) rfl (fun _ h=>aF.aR h)) (hM.cL [6,10,11] (j:=12) rfl (fun _ h=>aF.aR h)) (((hM.cL [6,10,11] (j:=8) rfl (fun _ h=>h)).and (hM.cL [6,10,11] (j:=9) rfl (fun _ h=>aF.aR h))).imp (fun _ h=>⟨h.1,h.2⟩)) om (u7) (e7) (by rw [s7]; exact hgo.1) (hsb) (hb4) (hcapb) (by rw [s7]; omega) (by rw [s7,hR]; exact hgo.2) (hS7) (hT7) (by rw [s7,hR]; exact hrp) om) fun Am56p1 cm56p1=>?_
    rw [show cC b 4 4 q7.rest.1=bX b a 4 4 j from by rw [s7,hR]]
    rw [show ((aI b a 4 4 1 j).1)++(bX b a 4 4 j).need=(aI b a 4 4 1 (j+1)).1 from by rw [kM (j:=j) hpar]]
    rw [show (aI b a 4 4 0 j).1=(aI b a 4 4 0 (j+1)).1 from by rw [kN (j:=j) om]]
    rw [show ((aI b a 4 4 1 j).2)++(bX b a 4 4 j).off=(aI b a 4 4 1 (j+1)).2 from by rw [kM (j:=j) hpar]]
    rw [show (aI b a 4 4 0 j).2=(aI b a 4 4 0 (j+1)).2 from by rw [kN (j:=j) om]]
    refine lx rfl<|Nb<|lx rfl<|lF<|Nu<|Nw<|aE<|lx rfl<|Na<|lG<|aQ<|eS<|Nc<|lx rfl<|lw (vI (bd - (nt+(aX 3 (bE b a 4 4 j)).length))) (kL rfl rfl rfl om om)<|Nx<|bZ [6] (fun w hM hO=>BK bs30 (vL A130 b c130) bF bT bT (vP se30 0) bF nS nS 5 Am56p1 cm56p1 (aD 5) (bd - (nt+(aX 3 (bE b a 4 4 j)).length)) w hO om (by decide))<|lx rfl<|Ne<|lx rfl<|lF<|Nn<|aE<|lx rfl ?_
    refine lk (vI ((aD 5).length))<|lw (vI (nt+(aX 3 (bE b a 4 4 j)).length+(aD 5).length)) bJ<|lx rfl<|Nb<|lx rfl<|Nx<|bZ [0] (fun w hM hO=>BO bs22 (vL A122 a c122) bT nS (.bool rY) bF (vP se22 0) bF nS nS Am56p1 cm56p1 (aD 5) q6 w hO (hM.cL [0] (j:=13) rfl (fun _ h=>aF.aR h)) om (u6) (e6))<|lx rfl<|Nf ?_
    dsimp only [bC,List.set,List.cons_append,List.nil_append]
    refine aE<|lx rfl<|lF<|Nu<|Nw<|aE<|lx rfl<|Na<|lG<|aQ<|eS<|Nc<|lx rfl<|lw (vI (bd - (nt+(aX 3 (bE b a 4 4 j)).length+(aD 5).length))) (kL rfl rfl rfl om om)<|Nx<|bN (fun w hM=>yU bs22 (vL A122 a c122) bT (vI 3) nS bT bT (vP se22 0) bF nS nS (bd - (nt+(aX 3 (bE b a 4 4 j)).length+(aD 5).length)) w (hM.aL (j:=0) rfl (fun _ h=>h)))<|lx rfl<|Ne<|lx rfl<|lT<|Nt<|rU<|iI<|wK rfl ?_
    refine iI<|iI<|lN<|aJ<|aQ ?_
    have h70:=kI (fan:=4) (leaf:=4) (par:=0) hsb hsa hb4 ha4 (j+1)
    have h71:=kI (fan:=4) (leaf:=4) (par:=1) hsb hsa hb4 ha4 (j+1)
    refine aE<|lx rfl<|Nx<|cF (fun w hM=>rK bs22 (vL A122 a c122) bT (vi 0) (vI 3) nS bT bT nS nS se22 A222 c222 a nm22 om22 ((aI b a 4 4 0 (j+1)).2) w (hM.aL (j:=0) rfl (fun _ h=>h)) (hM.aL (j:=2) rfl (fun _ h=>h)) (hM.aL (j:=5) rfl (fun _ h=>h)) (Nat.le_trans h70.2 om)) fun B61 cb61=>?_
    rw [show bA [] ((aI b a 4 4 0 (j+1)).2)=oa from hl1]
    refine lx rfl<|Nx<|cF (fun w hM=>rJ bs30 (vL A130 b c130) bF (vi 0) (vI 5) nS bT bT nS nS se30 A230 c230 b nm30 om30 ((aI b a 4 4 1 (j+1)).1) w (hM.aL (j:=6) rfl (fun _ h=>h)) (hM.aL (j:=8) rfl (fun _ h=>h)) (hM.aL (j:=10) rfl (fun _ h=>h)) (Nat.le_trans h71.1 om)) fun B63 cb63=>?_
    rw [show bA [] ((aI b a 4 4 1 (j+1)).1)=nb from hl2]
    refine Nx<|cF (fun w hM=>oV B61 cb61 oa B63 cb63 nb w (hM.aL (j:=14) rfl (fun _ h=>aF.aR h)) (hM.aL (j:=15) rfl (fun _ h=>aF.aR h)) (Nat.le_trans hlen.1.2 (by decide)) (hnb) (Nat.le_trans hlen.2.1 (by decide))) fun B64 cb64=>lx rfl<|Nx<|cF (fun w hM=>rK bs30 (vL A130 b c130) bF (vi 0) (vI 5) nS bT bT nS nS se30 A230 c230 b nm30 om30 ((aI b a 4 4 1 (j+1)).2) w (hM.aL (j:=6) rfl (fun _ h=>h)) (hM.aL (j:=8) rfl (fun _ h=>h)) (hM.aL (j:=11) rfl (fun _ h=>h)) (Nat.le_trans h71.2 om)) fun B66 cb66=>?_
    rw [show bA [] ((aI b a 4 4 1 (j+1)).2)=ob from hl3]
    refine lx rfl<|Nx<|cF (fun w hM=>rJ bs22 (vL A122 a c122) bT (vi 0) (vI 3) nS bT bT nS nS se22 A222 c222 a nm22 om22 ((aI b a 4 4 0 (j+1)).1) w (hM.aL (j:=0) rfl (fun _ h=>h)) (hM.aL (j:=2) rfl (fun _ h=>h)) (hM.aL (j:=4) rfl (fun _ h=>h)) (Nat.le_trans h70.1 om)) fun B68 cb68=>?_
    dsimp only [bC,List.set,List.cons_append,List.nil_append]
    rw [show bA [] ((aI b a 4 4 0 (j+1)).1)=na from hl0]
    refine Nx<|cF (fun w hM=>oV B66 cb66 ob B68 cb68 na w (hM.aL (j:=17) rfl (fun _ h=>aF.aR h)) (hM.aL (j:=18) rfl (fun _ h=>aF.aR h)) (Nat.le_trans hlen.2.2 (by decide)) (hna) (Nat.le_trans hlen.1.1 (by decide))) fun B69 cb69=>lx rfl ?_
    refine Nf ?_
    refine dN _ 18 kr (fun _ h=>h) ?_
    refine am 0 ?_
    refine am 1 ?_
    refine am 2 ?_
    refine am 3 ?_
    refine aC 4 (vP bs22 0) rfl<|aC 5 (vP bs22 6) rfl<|al 6 0 ?_
    refine am 7 ?_
    refine jI 8 ?_
    refine aG 9 (vP bs30 0) rfl<|aG 10 (vP bs30 6) rfl<|aW 11 bT rfl (eT 6 rfl rfl kr rfl rfl)<|aC 12 bT rfl<|aa 13 ?_
    refine aa 14 ?_
    refine aa 15 ?_
    refine aa 16 ?_
    refine aa 17 ?_
    exact dO kr<|aJ<|gQ<|sN [(vL B64 (cK oa nb) cb64),(vL B69 (cK ob na) cb69),(vI (nt+(aX 3 (bE b a 4 4 j)).length+(aD 5).length)),bT,(vi 0)] fun w hM=>⟨B64,cb64,B69,cb69,(nt+(aX 3 (bE b a 4 4 j)).length+(aD 5).length),rfl,(hM.pick [16,19] rfl rfl),om⟩
theorem WW (A:Option Addr) (c:Nat) (a:List (List UInt8)) (A2:Option Addr) (c2:Nat) (b:List (List UInt8)) (bd k:Nat) (n K:Nat) (na oa:List (List UInt8)) (nb ob:List (List UInt8)) (w:World) (r0:Rf [] w (bW)) (r1:Rf [] w (fun w=>aF w A (SS a))) (r2:Rf [] w (fun w=>aF w A2 (SS b))) (hsa:bH a) (hsb:bH b) (ha4:a.length≤40) (hb4:b.length≤40) (hest:gX (bQ a) (bQ b)=k) (hk:k≤500) (hsz:iM ((k+k / 2:Nat):Int)=(n:Int)) (hz:eW (n:Int)=true) (hk0:((dE a n).sub (dE b n)).keys=none) (hK:qE a b 4 4 K) (hK1:1≤K) (hK7:K≤7) (hms:∀ j,j≤7→(bE a b 4 4 j).length≤57700) (hbd:700000≤bd) (hbd2:bd≤1099511627776) (hl0:bA [] ((aI a b 4 4 1 K).1)=na) (hl1:bA [] ((aI a b 4 4 1 K).2)=oa) (hl2:bA [] ((aI a b 4 4 0 K).1)=nb) (hl3:bA [] ((aI a b 4 4 0 K).2)=ob) (hna:na.Pairwise (· < ·)) (hnb:nb.Pairwise (· < ·)) (hlen:(na.length≤1000∧oa.length≤1000)∧nb.length≤1000∧ob.length≤1000) :
  Calls Tryz.prog 7 #[(vL A a c),(vL A2 b c2),(vI bd)] w fun e w'=>∃ (B1:Option Addr) (cb1:Nat) (B2:Option Addr) (cb2 nbt:Nat),e = .returned (.tuple #[(vL B1 (cK oa nb) cb1),(vL B2 (cK ob na) cb2),(vI nbt),bT,(vi 0)])∧aK [] w [cS B1 (cK oa nb) cb1,cS B2 (cK ob na) cb2] w'∧(1≤nbt):=by
 refine kQ Tryz.func7 83 (Mm.start w []) rfl<|Nc<|lx rfl<|Nf<|aQ ?_
 have hea:fC a=0:=lS om hsa
 have heb:fC b=0:=lS om hsb
 have h32a:=hsa.1
 have h32b:=hsb.1
 have hska:=rB (nT h32a).all
 rw [lA] at hska
 obtain ⟨q1,u1,s1,e1⟩:=yV (k:=1) (D:=cZ (bQ a)) om om
 have hw1:=yW (k:=1) (D:=cZ (bQ a)) om om
 have hp1:=Fg 1 (cZ (bQ a))
 obtain ⟨q2,p2,u2,s2,d2,e2⟩:=Mf h32b hz
 have hml2:(eY b n).length≤200100:=Fe (xC (vB h32b n) (by rw [kZ]; exact (kE hz).2.1) _)
 have hn5:=eJ 5 om
 obtain ⟨q6,u6,e6⟩:=Md (k:=5) om
 refine aE<|lx rfl<|lk (.bool (decide (((bd:Nat):Int) < 0)))<|Na<|eF rfl si<|Ni<|lx rfl<|Nx<|Cz (fun w hM=>Fb A c a w (r0.aO hM) (r1.aO hM) om (hea) om) fun bs22 A122 c122 se22 A222 c222 nm22 om22 Am22 cm22=>lx rfl<|Ne<|lx rfl<|lF<|Nn<|aE<|lx rfl<|Nx<|fM (fun w hM=>(Fc A2 c2 b w (r0.aO hM) (r2.aO hM) om (heb) om).mono ?_)
 rintro e w' ⟨bs30,A130,c130,se30,A230,c230,nm30,om30,rfl,hP⟩
 refine ⟨_,_,rfl,hP,?_⟩; clear hP hM
 refine lx rfl<|Ne<|lx rfl<|lF<|Nn<|aQ<|St.fact (fun w hM=>qP (hM.at (i:=3) rfl)) (fun hcapa=>St.fact (fun w hM=>qP (hM.at (i:=10) rfl)) (fun hcapb=>?_))
 dsimp only [bC,List.set,List.cons_append,List.nil_append]
 refine aE<|lx rfl<|Ng<|Mg<|lG<|aQ<|eS<|Nc<|lx rfl<|lw (vI bd) (mH ((bd:Nat):Int) rfl rfl rfl om om om)<|Nx<|bZ [0] (fun w hM hO=>qG bs22 (vL A122 a c122) bT bF bF (vP se22 0) bF nS nS 1 Am22 cm22 (aX 1 (cZ (bQ a))) bd w hO om (by decide))<|lx rfl<|Ne<|lx rfl<|lF<|Nn<|aE<|lx rfl<|lk (vI ((aX 1 (cZ (bQ a))).length))<|lw (vI (0+(aX 1 (cZ (bQ a))).length)) bJ<|lx rfl<|Nb<|lx rfl ?_
 refine Nx<|kC [7] (fun w hM hO=>Mb bs30 A130 c130 b (vi 0) nS bF (vP se30 0) bF nS nS Am22 cm22 (aX 1 (cZ (bQ a))) q1 (bQ a) k n w hO (r0.bP hM [7]) (hM.cL [7] (j:=8) rfl (fun _ h=>aF.aR h)) (hM.cL [7] (j:=6) rfl (fun _ h=>aF.aR h)) om (u1) (by rw [s1]; exact Ff (nT h32a) (lA a)) (e1) (hsb) (hb4) (hest) (hk) (hsz) (hz)) fun Am56r0 cm56r0=>lx rfl<|Nb<|lx rfl<|lF<|Nu<|Nw<|aE<|lx rfl<|Na<|lG<|aQ<|eS<|Nc<|lx rfl<|lw (vI (bd - (0+(aX 1 (cZ (bQ a))).length))) (kL rfl rfl rfl om om)<|Nx<|bZ [7] (fun w hM hO=>qG bs30 (vL A130 b c130) bF bT bF (vP se30 0) bF nS nS 2 Am56r0 cm56r0 (eY b n) (bd - (0+(aX 1 (cZ (bQ a))).length)) w hO om (by decide))<|lx rfl<|Ne<|lx rfl<|lF<|Nn ?_
 refine aE<|lx rfl<|lk (vI ((eY b n).length))<|lw (vI (0+(aX 1 (cZ (bQ a))).length+(eY b n).length)) bJ<|lx rfl<|Nb<|lx rfl<|Nx<|kC [0] (fun w hM hO=>WO bs22 A122 c122 a bT nS bF bF nS nS Am56r0 cm56r0 (eY b n) q2 (cQ b) p2 (dE b n) se22 A222 c222 nm22 om22 w hO (r0.bP hM [0]) (hM.cL [0] (j:=1) rfl (fun _ h=>aF.aR h)) (hM.cL [0] (j:=13) rfl (fun _ h=>aF.aR h)) (((hM.cL [0] (j:=2) rfl (fun _ h=>h)).and (hM.cL [0] (j:=3) rfl (fun _ h=>aF.aR h))).imp (fun _ h=>⟨h.1,h.2⟩)) om (u2) (s2) (d2) (e2) (xQ b n) (hsa) (ha4) (hcapa) (by rw [kZ]; exact hk0)) fun Am56r1 cm56r1=>lx rfl<|Nf ?_
 dsimp only [bC,List.set,List.cons_append,List.nil_append]
 refine aE<|lx rfl<|lF<|Nu<|Nw<|aE<|lx rfl<|Na ?_
 rw [show bS [dG a [] []]=bE a b 4 4 0 from rfl]
 refine Mh (ι:=Nat × Bool × Option Addr × Nat × Nat × Nat × Bool) (fun (j,p,BX,cX,nt,kY,rY)=>j < K∧(p=true↔j % 2=0)∧1≤nt∧nt≤230000+57800*j∧kY≠0∧(p=false→kY=3)) (fun (j,p,BX,cX,nt,kY,rY)=>K - j) (fun (j,p,BX,cX,nt,kY,rY)=>[(2,(vI bd)),(6,nS),(7,nS),(9,bF),(10,(vi 0)),(11,(vP bs22 0)),(12,(vP bs30 0)),(8,(vI nt)),(13,(cond p (vP bs22 0) (vP bs30 0))),(14,(cond p (vP bs30 0) (vP bs22 0)))]) (fun (j,p,BX,cX,nt,kY,rY)=>[aB bs22 65 [(vL A122 a c122),bT,(vi (cond p 1 2)),(vI 3),(cond p (vL BX (aX 3 (bE a b 4 4 j)) cX) nS),bT,bF,(vP se22 0),bF,nS,nS],cS A122 a c122,aB se22 105 [(vL A222 a c222),(vI 4),(vI 4),(.map (some nm22)),(.map (some om22))],cS A222 a c222,aM nm22 ((aI a b 4 4 1 j).1),aM om22 ((aI a b 4 4 1 j).2),aB bs30 65 [(vL A130 b c130),bF,(vi (cond p 2 1)),(vI kY),(cond p nS (vL BX (aX 3 (bE a b 4 4 j)) cX)),(.bool rY),bF,(vP se30 0),bF,nS,nS],cS A130 b c130,aB se30 105 [(vL A230 b c230),(vI 4),(vI 4),(.map (some nm30)),(.map (some om30))],cS A230 b c230,aM nm30 ((aI a b 4 4 0 j).1),aM om30 ((aI a b 4 4 0 j).2),cB BX (aX 3 (bE a b 4 4 j)) cX]) (0,true,Am56r1,cm56r1,(0+(aX 1 (cZ (bQ a))).length+(eY b n).length),2,true) ⟨om,si,om,om,by decide,si⟩ ⟨rfl,rfl,rfl,rfl,rfl,rfl,rfl,rfl,rfl,rfl,trivial⟩ (fun w hM=>(hM.pick [0,1,2,3,4,5,7,8,9,10,11,12,14] rfl rfl)) ?_
 rintro ⟨j,p,BX,cX,nt,kY,rY⟩ ⟨hjK,hpj,hnt1,hnt,hkY,hkY3⟩ IH
 have hm7:=hms j om
 have hgo:=hK.go j hjK
 obtain ⟨q7,u7,s7,e7⟩:=yV (k:=3) (D:=bE a b 4 4 j) om om
 have hw7:=yW (k:=3) (D:=bE a b 4 4 j) om om
 cases p with
 | true =>
   have hpar:j % 2=0:=by exact hpj.1 rfl
   dsimp only
   have hR:cC b 4 4 (bE a b 4 4 j)=bX a b 4 4 j:=by unfold bX dY; rw [if_pos hpar]
   have hn7:=kI (fan:=4) (leaf:=4) (par:=0) hsa hsb ha4 hb4 j
   have hS7:((aI a b 4 4 0 j).1).length≤549755813888:=by have h9:=hn7.1; omega
   have hT7:((aI a b 4 4 0 j).2).length≤549755813888:=by have h9:=hn7.2; omega
   refine lG<|aQ<|eS<|Nc<|lx rfl<|lw (vI (bd - nt)) (kL rfl rfl rfl om om)<|Nx<|bZ [0] (fun w hM hO=>qG bs22 (vL A122 a c122) bT bT bF (vP se22 0) bF nS nS 3 BX cX (aX 3 (bE a b 4 4 j)) (bd - nt) w hO om (by decide))<|lx rfl<|Ne<|lx rfl<|lF<|Nn<|aE<|lx rfl<|lk (vI ((aX 3 (bE a b 4 4 j)).length))<|lw (vI (nt+(aX 3 (bE a b 4 4 j)).length)) bJ<|lx rfl<|Nf ?_
   dsimp only [bC,List.set,List.cons_append,List.nil_append]
   rcases Nat.lt_or_ge (j+1) K with hlt | hge
   ·have hrp:=(hK.go (j+1) hlt).1
    change (bX a b 4 4 j).reply≠[] at hrp
    refine aE<|lx rfl<|Nx<|qQ [6,10,11] (fun w hM hO=>BM bs30 A130 c130 b bF nS (.bool rY) bF bF nS nS BX cX (aX 3 (bE a b 4 4 j)) q7 se30 A230 c230 nm30 om30 ((aI a b 4 4 0 j).1) ((aI a b 4 4 0 j).2) kY w hO (r0.bP hM [6,10,11]) (hM.cL [6,10,11] (j:=7) rfl (fun _ h=>aF.aR h)) (hM.cL [6,10,11] (j:=12) rfl (fun _ h=>aF.aR h)) (((hM.cL [6,10,11] (j:=8) rfl (fun _ h=>h)).and (hM.cL [6,10,11] (j:=9) rfl (fun _ h=>aF.aR h))).imp (fun _ h=>⟨h.1,h.2⟩)) om (u7) (e7) (by rw [s7]; exact hgo.1) (hsb) (hb4) (hcapb) (by rw [s7]; omega) (by rw [s7,hR]; exact hgo.2) (hS7) (hT7) (by rw [s7,hR]; exact hrp) om) fun Am56p0 cm56p0=>?_
    rw [show cC b 4 4 q7.rest.1=bX a b 4 4 j from by rw [s7,hR]]
    rw [show (bX a b 4 4 j).reply=bE a b 4 4 (j+1) from rfl]
    rw [show ((aI a b 4 4 0 j).1)++(bX a b 4 4 j).need=(aI a b 4 4 0 (j+1)).1 from by rw [kM (j:=j) hpar]]
    rw [show (aI a b 4 4 1 j).1=(aI a b 4 4 1 (j+1)).1 from by rw [kN (j:=j) om]]
    rw [show ((aI a b 4 4 0 j).2)++(bX a b 4 4 j).off=(aI a b 4 4 0 (j+1)).2 from by rw [kM (j:=j) hpar]]
    rw [show (aI a b 4 4 1 j).2=(aI a b 4 4 1 (j+1)).2 from by rw [kN (j:=j) om]]
    exact lx rfl<|Nb<|lx rfl<|lF<|Nu<|Nw<|aE<|lx rfl<|aS (aJ (yY (IH (j+1,false,Am56p0,cm56p0,(nt+(aX 3 (bE a b 4 4 j)).length),3,true) ⟨hlt,by simp; omega,om,om,by decide,si⟩ (by show K - (j+1) < K - j; omega)) ⟨rfl,rfl,rfl,rfl,rfl,rfl,rfl,rfl,rfl,rfl,trivial⟩ (fun w hM=>(hM.pick [0,1,2,3,4,5,6,7,8,9,10,11,13] rfl rfl))))
   ·have hrp:=hK.stop
    obtain rfl:j+1=K:=om
    change (bX a b 4 4 j).reply=[] at hrp
    refine aE<|lx rfl<|Nx<|qQ [6,10,11] (fun w hM hO=>BN bs30 A130 c130 b bF nS (.bool rY) bF bF nS nS BX cX (aX 3 (bE a b 4 4 j)) q7 se30 A230 c230 nm30 om30 ((aI a b 4 4 0 j).1) ((aI a b 4 4 0 j).2) kY w hO (r0.bP hM [6,10,11]) (hM.cL [6,10,11] (j:=7) rfl (fun _ h=>aF.aR h)) (hM.cL [6,10,11] (j:=12) rfl (fun _ h=>aF.aR h)) (((hM.cL [6,10,11] (j:=8) rfl (fun _ h=>h)).and (hM.cL [6,10,11] (j:=9) rfl (fun _ h=>aF.aR h))).imp (fun _ h=>⟨h.1,h.2⟩)) om (u7) (e7) (by rw [s7]; exact hgo.1) (hsb) (hb4) (hcapb) (by rw [s7]; omega) (by rw [s7,hR]; exact hgo.2) (hS7) (hT7) (by rw [s7,hR]; exact hrp) om) fun Am56p0 cm56p0=>?_
    rw [show cC b 4 4 q7.rest.1=bX a b 4 4 j from by rw [s7,hR]]
    rw [show ((aI a b 4 4 0 j).1)++(bX a b 4 4 j).need=(aI a b 4 4 0 (j+1)).1 from by rw [kM (j:=j) hpar]]
    rw [show (aI a b 4 4 1 j).1=(aI a b 4 4 1 (j+1)).1 from by rw [kN (j:=j) om]]
    rw [show ((aI a b 4 4 0 j).2)++(bX a b 4 4 j).off=(aI a b 4 4 0 (j+1)).2 from by rw [kM (j:=j) hpar]]
    rw [show (aI a b 4 4 1 j).2=(aI a b 4 4 1 (j+1)).2 from by rw [kN (j:=j) om]]
    refine lx rfl<|Nb<|lx rfl<|lF<|Nu<|Nw<|aE<|lx rfl<|Na<|lG<|aQ<|eS<|Nc<|lx rfl<|lw (vI (bd - (nt+(aX 3 (bE a b 4 4 j)).length))) (kL rfl rfl rfl om om)<|Nx<|bZ [6] (fun w hM hO=>BK bs30 (vL A130 b c130) bF bT bT (vP se30 0) bF nS nS 5 Am56p0 cm56p0 (aD 5) (bd - (nt+(aX 3 (bE a b 4 4 j)).length)) w hO om (by decide))<|lx rfl<|Ne<|lx rfl<|lF<|Nn<|aE<|lx rfl ?_
    refine lk (vI ((aD 5).length))<|lw (vI (nt+(aX 3 (bE a b 4 4 j)).length+(aD 5).length)) bJ<|lx rfl<|Nb<|lx rfl<|Nx<|bZ [0] (fun w hM hO=>BO bs22 (vL A122 a c122) bT nS bT bF (vP se22 0) bF nS nS Am56p0 cm56p0 (aD 5) q6 w hO (hM.cL [0] (j:=13) rfl (fun _ h=>aF.aR h)) om (u6) (e6))<|lx rfl<|Nf ?_
    dsimp only [bC,List.set,List.cons_append,List.nil_append]
    refine aE<|lx rfl<|lF<|Nu<|Nw<|aE<|lx rfl<|Na<|lG<|aQ<|eS<|Nc<|lx rfl<|lw (vI (bd - (nt+(aX 3 (bE a b 4 4 j)).length+(aD 5).length))) (kL rfl rfl rfl om om)<|Nx<|bN (fun w hM=>yU bs22 (vL A122 a c122) bT (vI 3) nS bT bT (vP se22 0) bF nS nS (bd - (nt+(aX 3 (bE a b 4 4 j)).length+(aD 5).length)) w (hM.aL (j:=0) rfl (fun _ h=>h)))<|lx rfl<|Ne<|lx rfl<|lT<|Nt<|rU<|iI<|wK rfl ?_
    refine iI<|iI<|lN<|aJ<|aQ ?_
    have h70:=kI (fan:=4) (leaf:=4) (par:=0) hsa hsb ha4 hb4 (j+1)
    have h71:=kI (fan:=4) (leaf:=4) (par:=1) hsa hsb ha4 hb4 (j+1)
    refine aE<|lx rfl<|Nx<|cF (fun w hM=>rK bs22 (vL A122 a c122) bT (vi 0) (vI 3) nS bT bT nS nS se22 A222 c222 a nm22 om22 ((aI a b 4 4 1 (j+1)).2) w (hM.aL (j:=0) rfl (fun _ h=>h)) (hM.aL (j:=2) rfl (fun _ h=>h)) (hM.aL (j:=5) rfl (fun _ h=>h)) (Nat.le_trans h71.2 om)) fun B61 cb61=>?_
    rw [show bA [] ((aI a b 4 4 1 (j+1)).2)=oa from hl1]
    refine lx rfl<|Nx<|cF (fun w hM=>rJ bs30 (vL A130 b c130) bF (vi 0) (vI 5) nS bT bT nS nS se30 A230 c230 b nm30 om30 ((aI a b 4 4 0 (j+1)).1) w (hM.aL (j:=6) rfl (fun _ h=>h)) (hM.aL (j:=8) rfl (fun _ h=>h)) (hM.aL (j:=10) rfl (fun _ h=>h)) (Nat.le_trans h70.1 om)) fun B63 cb63=>?_
    rw [show bA [] ((aI a b 4 4 0 (j+1)).1)=nb from hl2]
    refine Nx<|cF (fun w hM=>oV B61 cb61 oa B63 cb63 nb w (hM.aL (j:=14) rfl (fun _ h=>aF.aR h)) (hM.aL (j:=15) rfl (fun _ h=>aF.aR h)) (Nat.le_trans hlen.1.2 (by decide)) (hnb) (Nat.le_trans hlen.2.1 (by decide))) fun B64 cb64=>lx rfl<|Nx<|cF (fun w hM=>rK bs30 (vL A130 b c130) bF (vi 0) (vI 5) nS bT bT nS nS se30 A230 c230 b nm30 om30 ((aI a b 4 4 0 (j+1)).2) w (hM.aL (j:=6) rfl (fun _ h=>h)) (hM.aL (j:=8) rfl (fun _ h=>h)) (hM.aL (j:=11) rfl (fun _ h=>h)) (Nat.le_trans h70.2 om)) fun B66 cb66=>?_
    rw [show bA [] ((aI a b 4 4 0 (j+1)).2)=ob from hl3]
    refine lx rfl<|Nx<|cF (fun w hM=>rJ bs22 (vL A122 a c122) bT (vi 0) (vI 3) nS bT bT nS nS se22 A222 c222 a nm22 om22 ((aI a b 4 4 1 (j+1)).1) w (hM.aL (j:=0) rfl (fun _ h=>h)) (hM.aL (j:=2) rfl (fun _ h=>h)) (hM.aL (j:=4) rfl (fun _ h=>h)) (Nat.le_trans h71.1 om)) fun B68 cb68=>?_
    dsimp only [bC,List.set,List.cons_append,List.nil_append]
    rw [show bA [] ((aI a b 4 4 1 (j+1)).1)=na from hl0]
    refine Nx<|cF (fun w hM=>oV B66 cb66 ob B68 cb68 na w (hM.aL (j:=17) rfl (fun _ h=>aF.aR h)) (hM.aL (j:=18) rfl (fun _ h=>aF.aR h)) (Nat.le_trans hlen.2.2 (by decide)) (hna) (Nat.le_trans hlen.1.1 (by decide))) fun B69 cb69=>lx rfl ?_
    refine Nf ?_
    refine dN _ 18 kr (fun _ h=>h) ?_
    refine am 0 ?_
    refine am 1 ?_
    refine am 2 ?_
    refine am 3 ?_
    refine aC 4 (vP bs22 0) rfl<|aC 5 (vP bs22 6) rfl<|al 6 0 ?_
    refine am 7 ?_
    refine jI 8 ?_
    refine aG 9 (vP bs30 0) rfl<|aG 10 (vP bs30 6) rfl<|aW 11 bT rfl (eT 6 rfl rfl kr rfl rfl)<|aC 12 bT rfl<|aa 13 ?_
    refine aa 14 ?_
    refine aa 15 ?_
    refine aa 16 ?_
    refine aa 17 ?_
    exact dO kr<|aJ<|gQ<|sN [(vL B64 (cK oa nb) cb64),(vL B69 (cK ob na) cb69),(vI (nt+(aX 3 (bE a b 4 4 j)).length+(aD 5).length)),bT,(vi 0)] fun w hM=>⟨B64,cb64,B69,cb69,(nt+(aX 3 (bE a b 4 4 j)).length+(aD 5).length),rfl,(hM.pick [16,19] rfl rfl),om⟩
 | false =>
   obtain rfl:kY=3:=hkY3 rfl
   have hpar:j % 2=1:=by have h:=hpj.2; simp at h; omega
   dsimp only
   have hR:cC a 4 4 (bE a b 4 4 j)=bX a b 4 4 j:=by unfold bX dY; rw [if_neg om]
   have hn7:=kI (fan:=4) (leaf:=4) (par:=1) hsa hsb ha4 hb4 j
   have hS7:((aI a b 4 4 1 j).1).length≤549755813888:=by have h9:=hn7.1; omega
   have hT7:((aI a b 4 4 1 j).2).length≤549755813888:=by have h9:=hn7.2; omega
   refine lG<|aQ<|eS<|Nc<|lx rfl<|lw (vI (bd - nt)) (kL rfl rfl rfl om om)<|Nx<|bZ [6] (fun w hM hO=>qG bs30 (vL A130 b c130) bF (.bool rY) bF (vP se30 0) bF nS nS 3 BX cX (aX 3 (bE a b 4 4 j)) (bd - nt) w hO om (by decide))<|lx rfl<|Ne<|lx rfl<|lF<|Nn<|aE<|lx rfl<|lk (vI ((aX 3 (bE a b 4 4 j)).length))<|lw (vI (nt+(aX 3 (bE a b 4 4 j)).length)) bJ<|lx rfl<|Nf ?_
   dsimp only [bC,List.set,List.cons_append,List.nil_append]
   rcases Nat.lt_or_ge (j+1) K with hlt | hge
   ·have hrp:=(hK.go (j+1) hlt).1
    change (bX a b 4 4 j).reply≠[] at hrp
    refine aE<|lx rfl<|Nx<|qQ [0,4,5] (fun w hM hO=>BM bs22 A122 c122 a bT nS bT bF bF nS nS BX cX (aX 3 (bE a b 4 4 j)) q7 se22 A222 c222 nm22 om22 ((aI a b 4 4 1 j).1) ((aI a b 4 4 1 j).2) 3 w hO (r0.bP hM [0,4,5]) (hM.cL [0,4,5] (j:=1) rfl (fun _ h=>aF.aR h)) (hM.cL [0,4,5] (j:=12) rfl (fun _ h=>aF.aR h)) (((hM.cL [0,4,5] (j:=2) rfl (fun _ h=>h)).and (hM.cL [0,4,5] (j:=3) rfl (fun _ h=>aF.aR h))).imp (fun _ h=>⟨h.1,h.2⟩)) om (u7) (e7) (by rw [s7]; exact hgo.1) (hsa) (ha4) (hcapa) (by rw [s7]; omega) (by rw [s7,hR]; exact hgo.2) (hS7) (hT7) (by rw [s7,hR]; exact hrp) om) fun Am56p1 cm56p1=>?_
    rw [show cC a 4 4 q7.rest.1=bX a b 4 4 j from by rw [s7,hR]]
    rw [show (bX a b 4 4 j).reply=bE a b 4 4 (j+1) from rfl]
    rw [show ((aI a b 4 4 1 j).1)++(bX a b 4 4 j).need=(aI a b 4 4 1 (j+1)).1 from by rw [kM (j:=j) hpar]]
    rw [show (aI a b 4 4 0 j).1=(aI a b 4 4 0 (j+1)).1 from by rw [kN (j:=j) om]]
    rw [show ((aI a b 4 4 1 j).2)++(bX a b 4 4 j).off=(aI a b 4 4 1 (j+1)).2 from by rw [kM (j:=j) hpar]]
    rw [show (aI a b 4 4 0 j).2=(aI a b 4 4 0 (j+1)).2 from by rw [kN (j:=j) om]]
    exact lx rfl<|Nb<|lx rfl<|lF<|Nu<|Nw<|aE<|lx rfl<|aS (aJ (yY (IH (j+1,true,Am56p1,cm56p1,(nt+(aX 3 (bE a b 4 4 j)).length),3,rY) ⟨hlt,by simp; omega,om,om,by decide,si⟩ (by show K - (j+1) < K - j; omega)) ⟨rfl,rfl,rfl,rfl,rfl,rfl,rfl,rfl,rfl,rfl,trivial⟩ (fun w hM=>(hM.pick [0,1,2,3,4,5,6,7,8,9,10,11,13] rfl rfl))))
   ·have hrp:=hK.stop
    obtain rfl:j+1=K:=om
    change (bX a b 4 4 j).reply=[] at hrp
    refine aE<|lx rfl<|Nx<|qQ [0,4,5] (fun w hM hO=>BN bs22 A122 c122 a bT nS bT bF bF nS nS BX cX (aX 3 (bE a b 4 4 j)) q7 se22 A222 c222 nm22 om22 ((aI a b 4 4 1 j).1) ((aI a b 4 4 1 j).2) 3 w hO (r0.bP hM [0,4,5]) (hM.cL [0,4,5] (j:=1) rfl (fun _ h=>aF.aR h)) (hM.cL [0,4,5] (j:=12) rfl (fun _ h=>aF.aR h)) (((hM.cL [0,4,5] (j:=2) rfl (fun _ h=>h)).and (hM.cL [0,4,5] (j:=3) rfl (fun _ h=>aF.aR h))).imp (fun _ h=>⟨h.1,h.2⟩)) om (u7) (e7) (by rw [s7]; exact hgo.1) (hsa) (ha4) (hcapa) (by rw [s7]; omega) (by rw [s7,hR]; exact hgo.2) (hS7) (hT7) (by rw [s7,hR]; exact hrp) om) fun Am56p1 cm56p1=>?_
    rw [show cC a 4 4 q7.rest.1=bX a b 4 4 j from by rw [s7,hR]]
    rw [show ((aI a b 4 4 1 j).1)++(bX a b 4 4 j).need=(aI a b 4 4 1 (j+1)).1 from by rw [kM (j:=j) hpar]]
    rw [show (aI a b 4 4 0 j).1=(aI a b 4 4 0 (j+1)).1 from by rw [kN (j:=j) om]]
    rw [show ((aI a b 4 4 1 j).2)++(bX a b 4 4 j).off=(aI a b 4 4 1 (j+1)).2 from by rw [kM (j:=j) hpar]]
    rw [show (aI a b 4 4 0 j).2=(aI a b 4 4 0 (j+1)).2 from by rw [kN (j:=j) om]]
    refine lx rfl<|Nb<|lx rfl<|lF<|Nu<|Nw<|aE<|lx rfl<|Na<|lG<|aQ<|eS<|Nc<|lx rfl<|lw (vI (bd - (nt+(aX 3 (bE a b 4 4 j)).length))) (kL rfl rfl rfl om om)<|Nx<|bZ [0] (fun w hM hO=>BK bs22 (vL A122 a c122) bT bT bT (vP se22 0) bF nS nS 5 Am56p1 cm56p1 (aD 5) (bd - (nt+(aX 3 (bE a b 4 4 j)).length)) w hO om (by decide))<|lx rfl<|Ne<|lx rfl<|lF<|Nn<|aE<|lx rfl ?_
    refine lk (vI ((aD 5).length))<|lw (vI (nt+(aX 3 (bE a b 4 4 j)).length+(aD 5).length)) bJ<|lx rfl<|Nb<|lx rfl<|Nx<|bZ [6] (fun w hM hO=>BO bs30 (vL A130 b c130) bF nS (.bool rY) bF (vP se30 0) bF nS nS Am56p1 cm56p1 (aD 5) q6 w hO (hM.cL [6] (j:=13) rfl (fun _ h=>aF.aR h)) om (u6) (e6))<|lx rfl<|Nf ?_
    dsimp only [bC,List.set,List.cons_append,List.nil_append]
    refine aE<|lx rfl<|lF<|Nu<|Nw<|aE<|lx rfl<|Na<|lG<|aQ<|eS<|Nc<|lx rfl<|lw (vI (bd - (nt+(aX 3 (bE a b 4 4 j)).length+(aD 5).length))) (kL rfl rfl rfl om om)<|Nx<|bN (fun w hM=>yU bs30 (vL A130 b c130) bF (vI 3) nS bT bT (vP se30 0) bF nS nS (bd - (nt+(aX 3 (bE a b 4 4 j)).length+(aD 5).length)) w (hM.aL (j:=6) rfl (fun _ h=>h)))<|lx rfl<|Ne<|lx rfl<|lT<|Nt<|rU<|iI<|wK rfl ?_
    refine iI<|iI<|lN<|aJ<|aQ ?_
    have h70:=kI (fan:=4) (leaf:=4) (par:=0) hsa hsb ha4 hb4 (j+1)
    have h71:=kI (fan:=4) (leaf:=4) (par:=1) hsa hsb ha4 hb4 (j+1)
    refine aE<|lx rfl<|Nx<|cF (fun w hM=>rK bs22 (vL A122 a c122) bT (vi 0) (vI 5) nS bT bT nS nS se22 A222 c222 a nm22 om22 ((aI a b 4 4 1 (j+1)).2) w (hM.aL (j:=0) rfl (fun _ h=>h)) (hM.aL (j:=2) rfl (fun _ h=>h)) (hM.aL (j:=5) rfl (fun _ h=>h)) (Nat.le_trans h71.2 om)) fun B61 cb61=>?_
    rw [show bA [] ((aI a b 4 4 1 (j+1)).2)=oa from hl1]
    refine lx rfl<|Nx<|cF (fun w hM=>rJ bs30 (vL A130 b c130) bF (vi 0) (vI 3) nS bT bT nS nS se30 A230 c230 b nm30 om30 ((aI a b 4 4 0 (j+1)).1) w (hM.aL (j:=6) rfl (fun _ h=>h)) (hM.aL (j:=8) rfl (fun _ h=>h)) (hM.aL (j:=10) rfl (fun _ h=>h)) (Nat.le_trans h70.1 om)) fun B63 cb63=>?_
    rw [show bA [] ((aI a b 4 4 0 (j+1)).1)=nb from hl2]
    refine Nx<|cF (fun w hM=>oV B61 cb61 oa B63 cb63 nb w (hM.aL (j:=14) rfl (fun _ h=>aF.aR h)) (hM.aL (j:=15) rfl (fun _ h=>aF.aR h)) (Nat.le_trans hlen.1.2 (by decide)) (hnb) (Nat.le_trans hlen.2.1 (by decide))) fun B64 cb64=>lx rfl<|Nx<|cF (fun w hM=>rK bs30 (vL A130 b c130) bF (vi 0) (vI 3) nS bT bT nS nS se30 A230 c230 b nm30 om30 ((aI a b 4 4 0 (j+1)).2) w (hM.aL (j:=6) rfl (fun _ h=>h)) (hM.aL (j:=8) rfl (fun _ h=>h)) (hM.aL (j:=11) rfl (fun _ h=>h)) (Nat.le_trans h70.2 om)) fun B66 cb66=>?_
    rw [show bA [] ((aI a b 4 4 0 (j+1)).2)=ob from hl3]
    refine lx rfl<|Nx<|cF (fun w hM=>rJ bs22 (vL A122 a c122) bT (vi 0) (vI 5) nS bT bT nS nS se22 A222 c222 a nm22 om22 ((aI a b 4 4 1 (j+1)).1) w (hM.aL (j:=0) rfl (fun _ h=>h)) (hM.aL (j:=2) rfl (fun _ h=>h)) (hM.aL (j:=4) rfl (fun _ h=>h)) (Nat.le_trans h71.1 om)) fun B68 cb68=>?_
    dsimp only [bC,List.set,List.cons_append,List.nil_append]
    rw [show bA [] ((aI a b 4 4 1 (j+1)).1)=na from hl0]
    refine Nx<|cF (fun w hM=>oV B66 cb66 ob B68 cb68 na w (hM.aL (j:=17) rfl (fun _ h=>aF.aR h)) (hM.aL (j:=18) rfl (fun _ h=>aF.aR h)) (Nat.le_trans hlen.2.2 (by decide)) (hna) (Nat.le_trans hlen.1.1 (by decide))) fun B69 cb69=>lx rfl ?_
    refine Nf ?_
    refine dN _ 18 kr (fun _ h=>h) ?_
    refine am 0 ?_
    refine am 1 ?_
    refine am 2 ?_
    refine am 3 ?_
    refine aC 4 (vP bs22 0) rfl<|aC 5 (vP bs22 6) rfl<|al 6 0 ?_
    refine am 7 ?_
    refine jI 8 ?_
    refine aG 9 (vP bs30 0) rfl<|aG 10 (vP bs30 6) rfl<|aW 11 bT rfl (eT 6 rfl rfl kr rfl rfl)<|aC 12 bT rfl<|aa 13 ?_
    refine aa 14 ?_
    refine aa 15 ?_
    refine aa 16 ?_
    refine aa 17 ?_
    exact dO kr<|aJ<|gQ<|sN [(vL B64 (cK oa nb) cb64),(vL B69 (cK ob na) cb69),(vI (nt+(aX 3 (bE a b 4 4 j)).length+(aD 5).length)),bT,(vi 0)] fun w hM=>⟨B64,cb64,B69,cb69,(nt+(aX 3 (bE a b 4 4 j)).length+(aD 5).length),rfl,(hM.pick [16,19] rfl rfl),om⟩
end
theorem WX {k:Nat} (h:k≤500):∃ t:Nat,iM ((k+k / 2:Nat):Int)=((3*t:Nat):Int)∧eW ((3*t:Nat):Int)=true∧t < 505∧(1≤k→5≤t):=by
 refine ⟨(2*(k+k / 2)+14) / 3,?_,?_,om,om⟩
 ·unfold iM
  rw [if_neg om,if_neg om,Int.min_eq_right om]
  omega
 ·simp only [eW,Bool.and_eq_true,decide_eq_true_eq]
  omega
theorem WY {N M:List Nat} (hN:fZ N) (hM:fZ M) {k t:Nat} (hk:gX (bQ (N.map nm)) (bQ (M.map nm))=k) (h505:t < 505) (h5:1≤k→5≤t) (hno:((dE (N.map nm) (3*t)).sub (dE (M.map nm) (3*t))).keys≠none) :
  mW (N.map nm) (dE (M.map nm) (3*t)) (cQ (M.map nm))=some ((dP N M).map nm,(dP M N).map nm):=by
 rcases Nat.eq_zero_or_pos k with h0 | h0
 ·rw [h0] at hk
  obtain ⟨e1,e2⟩:=UZ hN.nodup hM.nodup hN.lt hM.lt hk
  rw [e1,e2]
  obtain rfl:=VC hN hM e1 e2
  exact VF hN (3*t)
 ·exact Vz (h5 h0) h505 hM hN hno
theorem WZ (A:Option Addr) (c:Nat) (a:List (List UInt8)) (A2:Option Addr) (c2:Nat) (b:List (List UInt8)) (N M:List Nat) (w:World) (r0:Rf [] w (bW)) (r1:Rf [] w (fun w=>aF w A (SS a))) (r2:Rf [] w (fun w=>aF w A2 (SS b))) (ha:a=N.map nm) (hb:b=M.map nm) (hN:fZ N) (hM:fZ M) (ha4:a.length≤24) (hb4:b.length≤24) :
  Calls Tryz.prog 7 #[(vL A a c),(vL A2 b c2),(vI 1048576)] w fun e w'=>∃ (B1:Option Addr) (cb1:Nat) (B2:Option Addr) (cb2 nbt:Nat) (VA VB:List (List UInt8)),e = .returned (.tuple #[(vL B1 VA cb1),(vL B2 VB cb2),(vI nbt),bT,(vi 0)])∧aK [] w [cS B1 (VA) cb1,cS B2 (VB) cb2] w'∧(1≤nbt)∧(VA.length≤1000∧VB.length≤1000)∧((VA=aH a b∧VB=aH b a)∨kJ a b):=by
 subst ha hb
 have hsa:=hN.set
 have hsb:=hM.set
 have hS:iT (N.map nm) (M.map nm) 4 4:=⟨hsa,hsb,om,om,by decide,by decide,by decide,by decide⟩
 have hS2:iT (M.map nm) (N.map nm) 4 4:=⟨hsb,hsa,om,om,by decide,by decide,by decide,by decide⟩
 obtain ⟨k,hest⟩:∃ k,gX (bQ (N.map nm)) (bQ (M.map nm))=k:=⟨_,rfl⟩
 rcases Nat.lt_or_ge 500 k with hk | hk
 ·obtain ⟨K,hK,hK1,hK7,hm⟩:=Lp hS2 hb4 ha4
  obtain ⟨g1,g2,g3⟩:=Lq hS2 hK.le hm
  have hl:=EU hS2 hK.le hm
  obtain ⟨e1,e2⟩:=ES hS2 hK.le hm
  refine (WV A c (N.map nm) A2 c2 (M.map nm) 1048576 k K _ _ _ _ w r0 r1 r2 hsa hsb om om hest hk hK hK1 hK7 (fun j hj=>Lo hS2 hb4 ha4 hj) (by decide) (by decide) rfl rfl rfl rfl (mO _) (mO _) ⟨by rw [e1,e2]; omega,om⟩).mono ?_
  rintro e w' ⟨B1,cb1,B2,cb2,nbt,rfl,hB,hn⟩
  rw [g1,g2] at hB
  rw [g1,g2]
  refine ⟨B1,cb1,B2,cb2,nbt,_,_,rfl,hB,hn,⟨by rw [e2]; omega,om⟩,?_⟩
  rcases g3 with ⟨x,y⟩ | h
  ·exact .inl ⟨y,x⟩
  ·exact .inr (VK h)
 ·obtain ⟨t,hsz,hz,h505,h5⟩:=WX hk
  by_cases hno:((dE (N.map nm) (3*t)).sub (dE (M.map nm) (3*t))).keys=none
  ·obtain ⟨K,hK,hK1,hK7,hm⟩:=Lp hS ha4 hb4
   obtain ⟨g1,g2,g3⟩:=Lq hS hK.le hm
   have hl:=EU hS hK.le hm
   obtain ⟨e1,e2⟩:=ES hS hK.le hm
   refine (WW A c (N.map nm) A2 c2 (M.map nm) 1048576 k (3*t) K _ _ _ _ w r0 r1 r2 hsa hsb om om hest hk hsz hz hno hK hK1 hK7 (fun j hj=>Lo hS ha4 hb4 hj) (by decide) (by decide) rfl rfl rfl rfl (mO _) (mO _) ⟨om,by rw [e1,e2]; omega⟩).mono ?_
   rintro e w' ⟨B1,cb1,B2,cb2,nbt,rfl,hB,hn⟩
   rw [g1,g2] at hB
   rw [g1,g2]
   exact ⟨B1,cb1,B2,cb2,nbt,_,_,rfl,hB,hn,⟨om,by rw [e2]; omega⟩,g3⟩
  ·have hd:=WY hN hM hest h505 h5 hno
   have ho:=hN.less M
   have hp:=hM.less N
   have l1:(dP N M).length≤N.length:=List.length_filter_le _ _
   have l2:(dP M N).length≤M.length:=List.length_filter_le _ _
   rw [List.length_map] at ha4 hb4
   refine (WU A c (N.map nm) A2 c2 (M.map nm) 1048576 k (3*t) ((dP N M).map nm) ((dP M N).map nm) w r0 r1 r2 hsa hsb (by rw [List.length_map]; omega) (by rw [List.length_map]; omega) hest hk hsz hz hd ho.set.2 hp.set.2 ho.set.1 hp.set.1 (Ld hN hM) (by rw [List.length_map]; omega) (by rw [List.length_map]; omega) (by decide) (by decide)).mono ?_
   rintro e w' ⟨B1,cb1,B2,cb2,nbt,rfl,hB,hn⟩
   rw [vW,vW] at hB
   rw [vW,vW]
   exact ⟨B1,cb1,B2,cb2,nbt,_,_,rfl,hB,hn,by rw [List.length_map,List.length_map]; omega,.inl ⟨(Lw hN hM).symm,(Lw hM hN).symm⟩⟩
theorem Mi (X:TX) (t:BT) (key:List UInt8) (w:World) (hO:bO [cT X t] w) (r0:Rf [cT X t] w (bW)) (hk:key.length=32) :
  Calls Tryz.prog 17 #[(vP X.bt 0),(vS key)] w fun e w'=>e = .returned (vi 0)∧aK [cT X t] w [cT X (t.change key (-1))] w':=by
 refine (ON X.bt X.bc X.cap X.rest t key w r0.here (hO.at (i:=0) rfl) hk).mono fun e w' h=>?_
 obtain ⟨rfl,hf,ht⟩:=h
 exact ⟨rfl,bO.tab hO hf ht⟩
end Go.Proofs.YtignomkdngnmgaaGreatDoor
