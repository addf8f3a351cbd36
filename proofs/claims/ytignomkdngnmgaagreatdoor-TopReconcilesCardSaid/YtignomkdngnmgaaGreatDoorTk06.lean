/- Part 6 of a proof: what its row uses. -/
import Derived.Test.YtignomkdngnmgaaGreatDoorTk05
set_option maxRecDepth 100000
set_option maxHeartbeats 1000000
namespace Go.Proofs.YtignomkdngnmgaaGreatDoor
open Go.RowKit
theorem Xa (A : Option Addr) (c : Nat) (a : List (List UInt8)) (A2 : Option Addr) (c2 : Nat) (b : List (List UInt8)) (fan : Nat) (leaf : Nat) (K : Nat) (w : World) (r0 : Rf [] w (bW)) (r1 : Rf [] w (fun w => aF w A (SS a))) (r2 : Rf [] w (fun w => aF w A2 (SS b))) (hp : oP (fan : Int) (leaf : Int) = true) (hf : 2 ≤ fan) (hf2 : fan ≤ 16) (hl1 : 1 ≤ leaf) (hl2 : leaf ≤ 64) (hsa : bH a) (hsb : bH b) (ha4 : a.length ≤ 40) (hb4 : b.length ≤ 40) (hK : qE a b fan leaf K) :
  Calls Tryz.prog 8 #[(vL A a c), (vL A2 b c2), (.agg #[(vI fan), (vI leaf)])] w fun e w' => ∃ (B1 : Option Addr) (cb1 : Nat) (B2 : Option Addr) (cb2 : Nat), e = .returned (.tuple #[(vL B1 (bA [] (aI a b fan leaf 1 K).2) cb1), (vL B2 (bA [] (aI a b fan leaf 1 K).1) cb2), (vI K), (vI (rH a b fan leaf K)), (vi 0)]) ∧ aK [] w [cS B1 (bA [] (aI a b fan leaf 1 K).2) cb1, cS B2 (bA [] (aI a b fan leaf 1 K).1) cb2] w':=by
 refine kQ Tryz.func8 67 (Mm.start w []) rfl<|Nc<|Nx<|pB [(vI fan),(vI leaf)] fun b5=>lx rfl<|Nf ?_
 have hea:fC a=0:=lS om hsa
 have heb:fC b=0:=lS om hsb
 have ha1:a.length≤1000:=om
 have hb1:b.length≤1000:=om
 refine aE<|lx rfl<|lW (rA 0 [(vI fan),(vI leaf)])<|Nx<|zW (fun w hM=>BJ A c a fan leaf w (r1.aO hM) om ag ag) fun bs19 A219 c219 nm19 om19=>lx rfl<|Ne<|lx rfl<|lF<|Nn<|aE<|lx rfl<|lW (rA 0 [(vI fan),(vI leaf)])<|Nx<|zW (fun w hM=>BJ A2 c2 b fan leaf w (r2.aO hM) om ag ag) fun bs28 A228 c228 nm28 om28=>lx rfl<|Ne<|lx rfl<|lF<|Nn<|aE<|lx rfl<|lk (.agg #[(vP bs28 0),(vP bs19 0)])<|Nx ?_
 refine pA [(.pointer none),(.pointer none)] fun b13=>Nx<|pT 9 [(vP bs28 0),(vP bs19 0)] rfl<|Nf ?_
 dsimp only [bC,List.set,List.cons_append,List.nil_append]
 refine St.fact (fun w hM=>qP (hM.at (i:=2) rfl)) (fun hcapa=>St.fact (fun w hM=>qP (hM.at (i:=6) rfl)) (fun hcapb=>aE<|lx rfl<|Nx<|cF (fun w hM=>LG bs19 A219 c219 a fan leaf nm19 om19 w (r0.aO hM) (((hM.aL (j:=1) rfl (fun _ h=>h)).and (hM.aL (j:=2) rfl (fun _ h=>aF.aR h))).imp (fun _ h=>⟨h.1,h.2⟩)) ag ag ag ag) fun B38 cb38=>lx rfl<|Nf<|eS<|sL (fun (j,BX,cX)=>j≤K) (fun (j,BX,cX)=>K - j) (fun (j,BX,cX)=>[(6,nS),(7,nS),(11,(vP bs19 0)),(13,(vP b13 0)),(8,(vI j)),(9,(vI (rH a b fan leaf j))),(10,(vi 0)),(14,(vL BX (bE a b fan leaf j) cX))]) (fun (j,BX,cX)=>[aB b5 33 [(vI fan),(vI leaf)],aB bs19 105 [(vL A219 a c219),(vI fan),(vI leaf),(.map (some nm19)),(.map (some om19))],cS A219 a c219,aM nm19 ((aI a b fan leaf 1 j).1),aM om19 ((aI a b fan leaf 1 j).2),aB bs28 105 [(vL A228 b c228),(vI fan),(vI leaf),(.map (some nm28)),(.map (some om28))],cS A228 b c228,aM nm28 ((aI a b fan leaf 0 j).1),aM om28 ((aI a b fan leaf 0 j).2),aB b13 68 [(vP bs28 0),(vP bs19 0)],cB BX (bE a b fan leaf j) cX]) (0,B38,cb38) (Nat.zero_le _) (fun w hM=>by show Mm _ _ [aB b5 33 [(vI fan),(vI leaf)],aB bs19 105 [(vL A219 a c219),(vI fan),(vI leaf),(.map (some nm19)),(.map (some om19))],cS A219 a c219,aM nm19 ((aI a b fan leaf 1 0).1),aM om19 ((aI a b fan leaf 1 0).2),aB bs28 105 [(vL A228 b c228),(vI fan),(vI leaf),(.map (some nm28)),(.map (some om28))],cS A228 b c228,aM nm28 ((aI a b fan leaf 0 0).1),aM om28 ((aI a b fan leaf 0 0).2),aB b13 68 [(vP bs28 0),(vP bs19 0)],cB B38 (bE a b fan leaf 0) cb38] w; exact hM) ?_))
 rintro ⟨j,BX,cX⟩ (hok:j≤K)
 dsimp only
 refine Ny<|lx rfl<|lk (vI ((bE a b fan leaf j).length))<|lk (.bool (decide ((((bE a b fan leaf j).length:Nat):Int) > 0))) ?_
 refine aS (aJ (bR rfl (fun hc41=>?_) (fun hc41=>?_)))
 ·have hd41:=of_decide_eq_true hc41
  have hKl:=hK.le
  have hjK:j < K:=hK.lt hok om
  have hml:=EL (b:=b) ha4 fan leaf j; have hbl:=KP (b:=b) ha4 fan leaf j
  have hn0:=kI (fan:=fan) (leaf:=leaf) (par:=0) hsa hsb ha4 hb4 j; have hn1:=kI (fan:=fan) (leaf:=leaf) (par:=1) hsa hsb ha4 hb4 j
  refine jF<|aJ<|eS<|aQ ?_
  cases hpb:(decide (j % 2=0)) with
  | true =>
    have hpar:j % 2=0:=by have h:=of_decide_eq_true hpb; omega
    have hR:cC b fan leaf (bE a b fan leaf j)=bX a b fan leaf j:=by unfold bX dY; rw [if_pos hpar]
    refine aE<|lx rfl<|lw (vi 0) (Gi 0 rfl rfl rfl (by decide) (by rw [Int.tmod_eq_emod_of_nonneg om]; omega))<|lk (vP b13 0)<|lL 9 rfl<|lx rfl<|Nb<|lx rfl<|lw (vI (j+1)) bJ<|lx rfl<|Nb<|lx rfl<|lk (vI ((bE a b fan leaf j).length))<|lw (vI ((rH a b fan leaf j)+(bE a b fan leaf j).length)) bJ<|lx rfl<|Nb<|lx rfl<|Nx<|eV [7,8] (fun w hM hO=>BI bs28 A228 c228 b fan leaf nm28 om28 BX cX (bE a b fan leaf j) ((aI a b fan leaf 0 j).1) ((aI a b fan leaf 0 j).2) w hO (r0.bP hM [7,8]) (((hM.cL [7,8] (j:=5) rfl (fun _ h=>h)).and (hM.cL [7,8] (j:=6) rfl (fun _ h=>aF.aR h))).imp (fun _ h=>⟨h.1,h.2⟩)) (hM.cL [7,8] (j:=10) rfl (fun _ h=>aF.aR h)) ag ag ag ag ag ag ag ag om om om ((hK.go j hjK).1) (by rw [hR]; exact (hK.go j hjK).2)) fun B55 cb55=>?_
    rw [show cC b fan leaf (bE a b fan leaf j)=bX a b fan leaf j from hR]
    refine lx rfl<|Nb<|lx rfl<|lk (.bool (((bX a b fan leaf j).err:Int) != 0))<|Na<|eF rfl (by rw [(hK.go j hjK).2]; simp)<|Nw ?_
    have hN0:aI a b fan leaf 0 (j+1)=((aI a b fan leaf 0 j).1++(bX a b fan leaf j).need,(aI a b fan leaf 0 j).2++(bX a b fan leaf j).off):=by rw [aI,if_pos hpar]
    have hN1:aI a b fan leaf 1 (j+1)=aI a b fan leaf 1 j:=by rw [aI,if_neg om]
    rw [show ((aI a b fan leaf 0 j).1)++(bX a b fan leaf j).need=(aI a b fan leaf 0 (j+1)).1 from by rw [hN0]]
    rw [show (aI a b fan leaf 1 j).1=(aI a b fan leaf 1 (j+1)).1 from by rw [hN1]]
    rw [show ((aI a b fan leaf 0 j).2)++(bX a b fan leaf j).off=(aI a b fan leaf 0 (j+1)).2 from by rw [hN0]]
    rw [show (aI a b fan leaf 1 j).2=(aI a b fan leaf 1 (j+1)).2 from by rw [hN1]]
    rw [show (bX a b fan leaf j).reply=bE a b fan leaf (j+1) from rfl]
    rw [show (bX a b fan leaf j).err=0 from (hK.go j hjK).2]
    exact sA (j+1,B55,cb55) (by show _≤_; omega) (by show K - (j+1) < K - j; omega) (fun w hM=>(hM.pick [0,1,2,3,4,5,6,7,8,9,11] rfl rfl))
  | false =>
    have hpar:j % 2=1:=by have h:=of_decide_eq_false hpb; omega
    have hR:cC a fan leaf (bE a b fan leaf j)=bX a b fan leaf j:=by unfold bX dY; rw [if_neg om]
    refine aE<|lx rfl<|lw (vi 1) (Gi 1 rfl rfl rfl (by decide) (by rw [Int.tmod_eq_emod_of_nonneg om]; omega))<|lk (vP b13 1)<|lL 9 rfl<|lx rfl<|Nb<|lx rfl<|lw (vI (j+1)) bJ<|lx rfl<|Nb<|lx rfl<|lk (vI ((bE a b fan leaf j).length))<|lw (vI ((rH a b fan leaf j)+(bE a b fan leaf j).length)) bJ<|lx rfl<|Nb<|lx rfl<|Nx<|eV [3,4] (fun w hM hO=>BI bs19 A219 c219 a fan leaf nm19 om19 BX cX (bE a b fan leaf j) ((aI a b fan leaf 1 j).1) ((aI a b fan leaf 1 j).2) w hO (r0.bP hM [3,4]) (((hM.cL [3,4] (j:=1) rfl (fun _ h=>h)).and (hM.cL [3,4] (j:=2) rfl (fun _ h=>aF.aR h))).imp (fun _ h=>⟨h.1,h.2⟩)) (hM.cL [3,4] (j:=10) rfl (fun _ h=>aF.aR h)) ag ag ag ag ag ag ag ag om om om ((hK.go j hjK).1) (by rw [hR]; exact (hK.go j hjK).2)) fun B55 cb55=>?_
    rw [show cC a fan leaf (bE a b fan leaf j)=bX a b fan leaf j from hR]
    refine lx rfl<|Nb<|lx rfl<|lk (.bool (((bX a b fan leaf j).err:Int) != 0))<|Na<|eF rfl (by rw [(hK.go j hjK).2]; simp)<|Nw ?_
    have hN1:aI a b fan leaf 1 (j+1)=((aI a b fan leaf 1 j).1++(bX a b fan leaf j).need,(aI a b fan leaf 1 j).2++(bX a b fan leaf j).off):=by rw [aI,if_pos hpar]
    have hN0:aI a b fan leaf 0 (j+1)=aI a b fan leaf 0 j:=by rw [aI,if_neg om]
    rw [show ((aI a b fan leaf 1 j).1)++(bX a b fan leaf j).need=(aI a b fan leaf 1 (j+1)).1 from by rw [hN1]]
    rw [show (aI a b fan leaf 0 j).1=(aI a b fan leaf 0 (j+1)).1 from by rw [hN0]]
    rw [show ((aI a b fan leaf 1 j).2)++(bX a b fan leaf j).off=(aI a b fan leaf 1 (j+1)).2 from by rw [hN1]]
    rw [show (aI a b fan leaf 0 j).2=(aI a b fan leaf 0 (j+1)).2 from by rw [hN0]]
    rw [show (bX a b fan leaf j).reply=bE a b fan leaf (j+1) from rfl]
    rw [show (bX a b fan leaf j).err=0 from (hK.go j hjK).2]
    exact sA (j+1,B55,cb55) (by show _≤_; omega) (by show K - (j+1) < K - j; omega) (fun w hM=>(hM.pick [0,1,2,3,4,5,6,7,8,9,11] rfl rfl))
 ·have hd41:=of_decide_eq_false hc41
  have hKl:=hK.le
  obtain rfl:j=K:=hK.eq hok om
  have hn1:=kI (fan:=fan) (leaf:=leaf) (par:=1) hsa hsb ha4 hb4 j
  exact Nj<|aE<|lx rfl<|Nx<|cF (fun w hM=>LK bs19 A219 c219 a fan leaf nm19 om19 ((aI a b fan leaf 1 j).2) w (hM.aL (j:=1) rfl (fun _ h=>h)) (hM.aL (j:=4) rfl (fun _ h=>h)) om) fun B62 cb62=>lx rfl<|Nx<|cF (fun w hM=>LJ bs19 A219 c219 a fan leaf nm19 om19 ((aI a b fan leaf 1 j).1) w (hM.aL (j:=1) rfl (fun _ h=>h)) (hM.aL (j:=3) rfl (fun _ h=>h)) om) fun B64 cb64=>lx rfl<|Nd<|iJ [(vL B62 (bA [] ((aI a b fan leaf 1 j).2)) cb62),(vL B64 (bA [] ((aI a b fan leaf 1 j).1)) cb64),(vI j),(vI (rH a b fan leaf j)),(vi 0)] rfl ⟨rfl,rfl,rfl,rfl,rfl,trivial⟩ (fun w hM=>⟨B62,cb62,B64,cb64,rfl,(hM.pick [11,12] rfl rfl)⟩)
theorem Xb {d:Nat} (h:d≤48):∃ n:Nat,iM (d:Int)=(n:Int)∧eW (n:Int)=true∧12≤n∧n≤3072:=by
 refine ⟨(2*d+14) / 3*3,?_,?_,om,om⟩
 ·unfold iM
  rw [if_neg om,if_neg om,Int.min_eq_right om]
  omega
 ·simp only [eW,Bool.and_eq_true,decide_eq_true_eq]
  omega
theorem Xc (d:BT):d.keys=none∨∃ l m,d.keys=some (l,m):=by
 cases d.keys with
 | none=>exact .inl rfl
 | some p=>exact .inr ⟨p.1,p.2,rfl⟩
theorem Xd (A:Option Addr) (c:Nat) (l:List UInt8) (A2:Option Addr) (c2:Nat) (m:List UInt8) (w:World) (r0:Rf [] w (bW)) (r1:Rf [] w (fun w=>aF w A (B8 l))) (r2:Rf [] w (fun w=>aF w A2 (B8 m))) :
  Calls Tryz.prog 3 #[(vL A l c),(vL A2 m c2)] w fun e w'=>e = .returned bT∧aK [] w [] w':=by
 refine bG Tryz.func3 230 (Mm.start w []) rfl<|Nc<|lx rfl<|Ne<|Nx<|bN (fun w hM=>EW  w (r0.aO hM))<|lF<|lx rfl<|lg (vI l.length)<|lg (.bool (decide (((l.length:Nat):Int) > 24)))<|lk (.bool (decide (((l.length:Nat):Int) > 24)))<|lm ?_
 refine St.dec 45 rfl (fun hc45=>?_) (fun hc45=>?_)
 ·have hd45:=of_decide_eq_true hc45
  exact lx rfl<|lT<|No<|Nx<|bN (fun w hM=>EW  w (r0.aO hM))<|lx rfl<|Nh<|sN [bT] fun w hM=>⟨rfl,hM⟩
 ·have hd45:=of_decide_eq_false hc45
  refine lx rfl<|lg (vI m.length)<|lg (.bool (decide (((m.length:Nat):Int) > 24)))<|lk (.bool (decide (((m.length:Nat):Int) > 24))) ?_
  refine aS (aJ (bR rfl (fun hc49=>?_) (fun hc49=>?_)))
  ·have hd49:=of_decide_eq_true hc49
   exact Nc<|Nx<|bN (fun w hM=>EW  w (r0.aO hM))<|lx rfl<|Nh<|sN [bT] fun w hM=>⟨rfl,hM⟩
  ·have hd49:=of_decide_eq_false hc49
   refine Ni<|lx rfl<|Nx<|cF (fun w hM=>Ly A c l w (r1.aO hM) om) fun B52 cb52=>lx rfl<|Nx<|cF (fun w hM=>Ly A2 c2 m w (r2.aO hM) om) fun B54 cb54=>lx rfl<|Nf ?_
   dsimp only [bC,List.set,List.cons_append,List.nil_append]
   have hFN:=yS l
   have hNl:=Lv l
   have hFM:=yS m
   have hMl:=Lv m
   have hl24:l.length≤24:=om
   have hm24:m.length≤24:=om
   obtain ⟨N,hNe⟩:∃ N,fT l 256=N:=⟨_,rfl⟩
   obtain ⟨M,hMe⟩:∃ M,fT m 256=M:=⟨_,rfl⟩
   rw [hNe] at hFN hNl
   rw [hMe] at hFM hMl
   obtain ⟨a,ha⟩:∃ a,N.map nm=a:=⟨_,rfl⟩
   obtain ⟨b,hb⟩:∃ b,M.map nm=b:=⟨_,rfl⟩
   rw [show (fT l 256).map nm=a from by rw [hNe,ha]]
   rw [show (fT m 256).map nm=b from by rw [hMe,hb]]
   have hsa:bH a:=by rw [← ha]; exact hFN.set
   have hsb:bH b:=by rw [← hb]; exact hFM.set
   have hal:a.length≤24:=by rw [← ha,List.length_map]; omega
   have hbl:b.length≤24:=by rw [← hb,List.length_map]; omega
   have h32a:∀ x∈a,x.length≤1000:=fun x hx=>by have:=hsa.1 x hx; omega
   have h32b:∀ x∈b,x.length≤1000:=fun x hx=>by have:=hsb.1 x hx; omega
   have hw1:=jL a b
   have hw2:=jL b a
   have hS:iT a b 3 2:=⟨hsa,hsb,om,om,by decide,by decide,by decide,by decide⟩
   obtain ⟨K,hK,_,_,hmK,_⟩:=Lb hS
   have hsm:=EU hS hK.le hmK
   refine St.fact (fun w hM=>qP (hM.at (i:=0) rfl)) (fun hcapa=>St.fact (fun w hM=>qP (hM.at (i:=1) rfl)) (fun hcapb=>aE<|lx rfl<|Nx<|cF (fun w hM=>LB B52 cb52 a B54 cb54 b w (hM.aL (j:=0) rfl (fun _ h=>aF.aR h)) (hM.aL (j:=1) rfl (fun _ h=>aF.aR h)) om om ag ag) fun B57 cb57=>lx rfl<|Nx<|cF (fun w hM=>LB B54 cb54 b B52 cb52 a w (hM.aL (j:=1) rfl (fun _ h=>aF.aR h)) (hM.aL (j:=0) rfl (fun _ h=>aF.aR h)) om om ag ag) fun B60 cb60=>lx rfl<|Nb<|lx rfl<|Nx<|fM (fun w hM=>(WZ B52 cb52 a B54 cb54 b N M w (r0.aO hM) (hM.aL (j:=0) rfl (fun _ h=>aF.aR h)) (hM.aL (j:=1) rfl (fun _ h=>aF.aR h)) (ha.symm) (hb.symm) (hFN) (hFM) (hal) (hbl)).mono ?_)))
   rintro e w' ⟨B164,cb164,B264,cb264,nbt64,VA64,VB64,rfl,hP,hn64,hvl64,hex64⟩
   refine ⟨_,_,rfl,hP,?_⟩; clear hP hM
   refine lx rfl<|Nb<|lx rfl<|lk (.agg #[(vi 3),(vi 2)])<|Nx<|wT (fun w hM=>Xa B52 cb52 a B54 cb54 b 3 2 K w (r0.aO hM) (hM.aL (j:=0) rfl (fun _ h=>aF.aR h)) (hM.aL (j:=1) rfl (fun _ h=>aF.aR h)) (by decide) (by decide) (by decide) (by decide) (by decide) ag ag om om ag) fun B174 cb174 B274 cb274=>lx rfl<|Nf<|aQ ?_
   dsimp only [bC,List.set,List.cons_append,List.nil_append]
   refine aE<|lx rfl<|lF<|lx rfl<|lg bF<|lF<|lx rfl<|lg bF<|lF<|lx rfl<|lg (.bool (decide (((nbt64:Nat):Int) < 1)))<|lk (.bool (decide (((nbt64:Nat):Int) < 1)))<|Na<|eF rfl (by simp; omega)<|Nl<|Nc<|lx rfl<|Nx<|bN (fun w hM=>tM B164 cb164 VA64 B57 cb57 (aH a b) w (hM.aL (j:=4) rfl (fun _ h=>aF.aR h)) (hM.aL (j:=2) rfl (fun _ h=>aF.aR h)) om om)<|lk (.bool (!(decide (VA64=(aH a b)))))<|lm ?_
   refine St.dec 98 rfl (fun hc98=>?_) (fun hc98=>?_)
   ·have hcol:kJ a b:=hex64.resolve_left (fun h=>by rw [h.1] at hc98; simp at hc98)
    exact lx rfl<|lT<|lx rfl<|lT<|lx rfl<|lT<|No<|lx rfl<|Nx<|bN (fun w hM=>BH B52 cb52 a B54 cb54 b (vL B164 VA64 cb164) (vL B264 VB64 cb264) w (r0.aO hM) (hM.aL (j:=0) rfl (fun _ h=>aF.aR h)) (hM.aL (j:=1) rfl (fun _ h=>aF.aR h)) ag ag om om (hcapa) (hcapb) (hcol))<|lx rfl<|Nh<|sN [bT] fun w hM=>⟨rfl,(hM.pick [] rfl rfl)⟩
   ·refine lx rfl<|fI rfl rfl<|bN (fun w hM=>tM B264 cb264 VB64 B60 cb60 (aH b a) w (hM.aL (j:=5) rfl (fun _ h=>aF.aR h)) (hM.aL (j:=3) rfl (fun _ h=>aF.aR h)) om om)<|lg (.bool (!(decide (VB64=(aH b a)))))<|lk (.bool (!(decide (VB64=(aH b a)))))<|lm ?_
    refine St.dec 104 rfl (fun hc104=>?_) (fun hc104=>?_)
    ·have hcol:kJ a b:=hex64.resolve_left (fun h=>by rw [h.2] at hc104; simp at hc104)
     exact lx rfl<|lT<|lx rfl<|lT<|No<|lx rfl<|Nx<|bN (fun w hM=>BH B52 cb52 a B54 cb54 b (vL B164 VA64 cb164) (vL B264 VB64 cb264) w (r0.aO hM) (hM.aL (j:=0) rfl (fun _ h=>aF.aR h)) (hM.aL (j:=1) rfl (fun _ h=>aF.aR h)) ag ag om om (hcapa) (hcapb) (hcol))<|lx rfl<|Nh<|sN [bT] fun w hM=>⟨rfl,(hM.pick [] rfl rfl)⟩
    ·refine lx rfl<|fI rfl rfl<|bN (fun w hM=>tM B174 cb174 (bA [] (aI a b 3 2 1 K).2) B57 cb57 (aH a b) w (hM.aL (j:=6) rfl (fun _ h=>aF.aR h)) (hM.aL (j:=2) rfl (fun _ h=>aF.aR h)) om om)<|lg (.bool (!(decide ((bA [] (aI a b 3 2 1 K).2)=(aH a b)))))<|lk (.bool (!(decide ((bA [] (aI a b 3 2 1 K).2)=(aH a b)))))<|lm ?_
     refine St.dec 110 rfl (fun hc110=>?_) (fun hc110=>?_)
     ·have hcol:kJ a b:=Classical.byContradiction fun hcc=>by rw [(ER hS hK.le hmK hcc).1] at hc110; simp at hc110
      refine lx rfl<|lT<|Nt<|aQ ?_
      dsimp only [bC,List.set,List.cons_append,List.nil_append]
      exact aE<|lx rfl<|Nx<|bN (fun w hM=>BH B52 cb52 a B54 cb54 b (vL B164 VA64 cb164) (vL B264 VB64 cb264) w (r0.aO hM) (hM.aL (j:=0) rfl (fun _ h=>aF.aR h)) (hM.aL (j:=1) rfl (fun _ h=>aF.aR h)) ag ag om om (hcapa) (hcapb) (hcol))<|lx rfl<|Nh<|sN [bT] fun w hM=>⟨rfl,(hM.pick [] rfl rfl)⟩
     ·refine lx rfl<|fI rfl rfl<|bN (fun w hM=>tM B274 cb274 (bA [] (aI a b 3 2 1 K).1) B60 cb60 (aH b a) w (hM.aL (j:=7) rfl (fun _ h=>aF.aR h)) (hM.aL (j:=3) rfl (fun _ h=>aF.aR h)) om om)<|lg (.bool (!(decide ((bA [] (aI a b 3 2 1 K).1)=(aH b a)))))<|lk (.bool (!(decide ((bA [] (aI a b 3 2 1 K).1)=(aH b a))))) ?_
      refine aS (aJ (bR rfl (fun hc115=>?_) (fun hc115=>?_)))
      ·have hcol:kJ a b:=Classical.byContradiction fun hcc=>by rw [(ER hS hK.le hmK hcc).2] at hc115; simp at hc115
       exact Nc<|lx rfl<|Nx<|bN (fun w hM=>BH B52 cb52 a B54 cb54 b (vL B164 VA64 cb164) (vL B264 VB64 cb264) w (r0.aO hM) (hM.aL (j:=0) rfl (fun _ h=>aF.aR h)) (hM.aL (j:=1) rfl (fun _ h=>aF.aR h)) ag ag om om (hcapa) (hcapb) (hcol))<|lx rfl<|Nh<|sN [bT] fun w hM=>⟨rfl,(hM.pick [] rfl rfl)⟩
      ·refine Nl ?_
       obtain ⟨n,hsz,hzn,h12,h30⟩:=Xb (d:=(aH a b).length+(aH b a).length) om
       have hu5:cG 5:=by unfold cG; decide
       refine aE<|lx rfl<|lk (vI ((aH a b).length))<|lx rfl<|lk (vI ((aH b a).length))<|lw (vI ((aH a b).length+(aH b a).length)) bJ<|Nx<|bN (fun w hM=>Df (((aH a b).length+(aH b a).length:Nat):Int) w ) ?_
       rw [show iM (((aH a b).length+(aH b a).length:Nat):Int)=((n:Nat):Int) from hsz]
       refine lw (vI n) (gC (zS (a:=12) (b:=n) rfl rfl rfl) (by rw [Nat.max_eq_right h12]))<|Nx<|fP (fun w hM=>qV n 5 w (hzn) (hu5)) fun X129=>lx rfl<|Nf ?_
       dsimp only [bC,List.set,List.cons_append,List.nil_append]
       refine aE<|lx rfl<|lk (vI ((aH a b).length))<|lx rfl<|lk (vI ((aH b a).length))<|lw (vI ((aH a b).length+(aH b a).length)) bJ<|Nx<|bN (fun w hM=>Df (((aH a b).length+(aH b a).length:Nat):Int) w ) ?_
       rw [show iM (((aH a b).length+(aH b a).length:Nat):Int)=((n:Nat):Int) from hsz]
       refine lw (vI n) (gC (zS (a:=12) (b:=n) rfl rfl rfl) (by rw [Nat.max_eq_right h12]))<|Nx<|fP (fun w hM=>qV n 5 w (hzn) (hu5)) fun X140=>lx rfl<|Ne<|lx rfl<|lF<|lx rfl<|lg bF<|lF<|Nn<|Nc<|lx rfl<|lk (vI a.length)<|lx rfl<|Ng<|sL (fun i=>i≤a.length) (fun i=>a.length - i) (fun i=>[(4,bF),(6,(vL B54 b cb54)),(7,(vL B57 (aH a b) cb57)),(8,(vL B60 (aH b a) cb60)),(19,(vP X129.bt 0)),(21,(vP X140.bt 0)),(149,(vL B52 a cb52)),(150,(vI a.length)),(151,(vI i))]) (fun i=>[cS B52 (a) cb52,cS B54 (b) cb54,cS B57 (aH a b) cb57,cS B60 (aH b a) cb60,cS B164 (VA64) cb164,cS B264 (VB64) cb264,cS B174 (bA [] (aI a b 3 2 1 K).2) cb174,cS B274 (bA [] (aI a b 3 2 1 K).1) cb274,cT X129 (bI (BT.new n 5) (a.take i)),cT X140 (BT.new n 5)]) 0 (Nat.zero_le _) (fun w hM=>by show Mm _ _ [cS B52 (a) cb52,cS B54 (b) cb54,cS B57 (aH a b) cb57,cS B60 (aH b a) cb60,cS B164 (VA64) cb164,cS B264 (VB64) cb264,cS B174 (bA [] (aI a b 3 2 1 K).2) cb174,cS B274 (bA [] (aI a b 3 2 1 K).1) cb274,cT X129 (bI (BT.new n 5) (a.take 0)),cT X140 (BT.new n 5)] w; exact hM) ?_
       intro i hok
       show St _ _ _ [(4,bF),(6,(vL B54 b cb54)),(7,(vL B57 (aH a b) cb57)),(8,(vL B60 (aH b a) cb60)),(19,(vP X129.bt 0)),(21,(vP X140.bt 0)),(149,(vL B52 a cb52)),(150,(vI a.length)),(151,(vI i))] [cS B52 (a) cb52,cS B54 (b) cb54,cS B57 (aH a b) cb57,cS B60 (aH b a) cb60,cS B164 (VA64) cb164,cS B264 (VB64) cb264,cS B174 (bA [] (aI a b 3 2 1 K).2) cb174,cS B274 (bA [] (aI a b 3 2 1 K).1) cb274,cT X129 (bI (BT.new n 5) (a.take i)),cT X140 (BT.new n 5)] _
       refine Nc<|lk (.bool (decide (((i:Nat):Int) < ((a.length:Nat):Int)))) ?_
       refine aS (aJ (aQ (bR rfl (fun hc152=>?_) (fun hc152=>?_))))
       ·have hd152:=of_decide_eq_true hc152
        refine Nm<|aE ?_
        obtain ⟨x0,hx0⟩:∃ ξ,(a)[i]?=some ξ:=⟨_,List.getElem?_eq_getElem om⟩
        refine St.eE (fun w hM=>mG (i:=0) rfl w hM) (eG hx0) (fun p153 q153 hA153 hc153=>lw (vP p153 (q153+i)) (rR 9 hA153)<|lW (rW hc153)<|lx rfl<|Nv<|lx rfl<|Nx<|bZ [8] (fun w hM hO=>xG X129 (bI (BT.new n 5) (a.take i)) x0 w hO (r0.bP hM [8]) (hsa.1 _ (List.mem_of_getElem? hx0)))<|Nk<|aE<|lw (vI (i+1)) bJ<|lx rfl<|Na ?_)
        rw [show (bI (BT.new n 5) (a.take i)).change x0 1=bI (BT.new n 5) (a.take (i+1)) from by rw [List.take_add_one,hx0,Option.toList_some,uY]]
        exact sA (i+1) (by show _≤_; omega) (by show a.length - (i+1) < a.length - i; omega) (fun w hM=>hM)
       ·have hd152:=of_decide_eq_false hc152
        obtain rfl:i=a.length:=om
        rw [List.take_length]
        refine Nj<|Nc<|lx rfl<|lk (vI b.length)<|lx rfl<|Ng<|sL (fun i=>i≤b.length) (fun i=>b.length - i) (fun i=>[(4,bF),(7,(vL B57 (aH a b) cb57)),(8,(vL B60 (aH b a) cb60)),(19,(vP X129.bt 0)),(21,(vP X140.bt 0)),(159,(vL B54 b cb54)),(160,(vI b.length)),(161,(vI i))]) (fun i=>[cS B52 (a) cb52,cS B54 (b) cb54,cS B57 (aH a b) cb57,cS B60 (aH b a) cb60,cS B164 (VA64) cb164,cS B264 (VB64) cb264,cS B174 (bA [] (aI a b 3 2 1 K).2) cb174,cS B274 (bA [] (aI a b 3 2 1 K).1) cb274,cT X129 (bI (BT.new n 5) a),cT X140 (bI (BT.new n 5) (b.take i))]) 0 (Nat.zero_le _) (fun w hM=>by show Mm _ _ [cS B52 (a) cb52,cS B54 (b) cb54,cS B57 (aH a b) cb57,cS B60 (aH b a) cb60,cS B164 (VA64) cb164,cS B264 (VB64) cb264,cS B174 (bA [] (aI a b 3 2 1 K).2) cb174,cS B274 (bA [] (aI a b 3 2 1 K).1) cb274,cT X129 (bI (BT.new n 5) a),cT X140 (bI (BT.new n 5) (b.take 0))] w; exact hM) ?_
        intro i hok
        show St _ _ _ [(4,bF),(7,(vL B57 (aH a b) cb57)),(8,(vL B60 (aH b a) cb60)),(19,(vP X129.bt 0)),(21,(vP X140.bt 0)),(159,(vL B54 b cb54)),(160,(vI b.length)),(161,(vI i))] [cS B52 (a) cb52,cS B54 (b) cb54,cS B57 (aH a b) cb57,cS B60 (aH b a) cb60,cS B164 (VA64) cb164,cS B264 (VB64) cb264,cS B174 (bA [] (aI a b 3 2 1 K).2) cb174,cS B274 (bA [] (aI a b 3 2 1 K).1) cb274,cT X129 (bI (BT.new n 5) a),cT X140 (bI (BT.new n 5) (b.take i))] _
        refine Nc<|lk (.bool (decide (((i:Nat):Int) < ((b.length:Nat):Int)))) ?_
        refine aS (aJ (aQ (bR rfl (fun hc162=>?_) (fun hc162=>?_))))
        ·have hd162:=of_decide_eq_true hc162
         refine Nm<|aE ?_
         obtain ⟨x0,hx0⟩:∃ ξ,(b)[i]?=some ξ:=⟨_,List.getElem?_eq_getElem om⟩
         refine St.eE (fun w hM=>mG (i:=1) rfl w hM) (eG hx0) (fun p163 q163 hA163 hc163=>lw (vP p163 (q163+i)) (rR 9 hA163)<|lW (rW hc163)<|lx rfl<|Nv<|lx rfl<|Nx<|bZ [9] (fun w hM hO=>xG X140 (bI (BT.new n 5) (b.take i)) x0 w hO (r0.bP hM [9]) (hsb.1 _ (List.mem_of_getElem? hx0)))<|Nk<|aE<|lw (vI (i+1)) bJ<|lx rfl<|Na ?_)
         rw [show (bI (BT.new n 5) (b.take i)).change x0 1=bI (BT.new n 5) (b.take (i+1)) from by rw [List.take_add_one,hx0,Option.toList_some,uY]]
         exact sA (i+1) (by show _≤_; omega) (by show b.length - (i+1) < b.length - i; omega) (fun w hM=>hM)
        ·have hd162:=of_decide_eq_false hc162
         obtain rfl:i=b.length:=om
         rw [List.take_length]
         refine Nj<|aE<|lx rfl<|Nx<|fP (fun w hM=>xH X129 (bI (BT.new n 5) a) X140 (bI (BT.new n 5) b) w (hM.aL (j:=8) rfl (fun _ h=>h)) (hM.aL (j:=9) rfl (fun _ h=>h)) (by simp [nN,uZ,AH])) fun Z172=>?_
         obtain ⟨d,hd⟩:∃ d,(bI (BT.new n 5) a).sub (bI (BT.new n 5) b)=d:=⟨_,rfl⟩
         rw [show (bI (BT.new n 5) a).sub (bI (BT.new n 5) b)=d from hd]
         have hdok:d.Ok:=by rw [← hd]; exact Dd (AI (BT.Ok.new n 5 hu5) hsa.1) (AI (BT.Ok.new n 5 hu5) hsb.1)
         have hdl:d.cells.length=n:=by rw [← hd,nM (by rw [uZ,uZ]),uZ,vA]
         have hds:d.seed=5:=by rw [← hd]; show (bI (BT.new n 5) a).seed=5; rw [AH]; rfl
         clear hd
         refine lx rfl<|Ne<|lx rfl<|lF<|Nn ?_
         dsimp only [bC,List.set,List.cons_append,List.nil_append]
         rcases Xc d with hk | ⟨lk,mk,hk⟩
         ·refine aE<|lx rfl<|Nx<|bN (fun w hM=>Dg Z172 d w (r0.aO hM) (hM.aL (j:=10) rfl (fun _ h=>h)) ag)<|lx rfl<|Ne<|lx rfl<|lT<|lx rfl<|mI ?_
          refine mI ?_
          refine mI ?_
          exact lx rfl<|lT<|No<|lx rfl<|Nh<|sN [bT] fun w hM=>⟨rfl,(hM.pick [] rfl rfl)⟩
         ·have hkl:=AL hk
          have hk32:=(show (∀ x∈lk,x.length=32)∧∀ x∈mk,x.length=32 from ⟨(EO hdok hk).1.2,(EO hdok hk).2.2⟩)
          refine aE<|lx rfl<|Nx<|wT (fun w hM=>Dh Z172 d lk mk w (r0.aO hM) (hM.aL (j:=10) rfl (fun _ h=>h)) ag) fun A1179 c1179 A2179 c2179=>lx rfl<|Ne<|lx rfl<|lF<|lx rfl<|fI rfl rfl<|bN (fun w hM=>tM A1179 c1179 lk B57 cb57 (aH a b) w (hM.aL (j:=11) rfl (fun _ h=>kV h)) (hM.aL (j:=2) rfl (fun _ h=>aF.aR h)) om om)<|wS ?_
          refine St.dec 189 rfl (fun hc189=>?_) (fun hc189=>?_)
          ·have hd189:=of_decide_eq_true hc189
           refine lx rfl<|fI rfl rfl ?_
           refine bN (fun w hM=>tM A2179 c2179 mk B60 cb60 (aH b a) w (hM.aL (j:=12) rfl (fun _ h=>kV h)) (hM.aL (j:=3) rfl (fun _ h=>aF.aR h)) om om) ?_
           refine lg (.bool (decide (mk=(aH b a)))) ?_
           refine lc (.bool (decide (mk=(aH b a)))) ?_
           refine aS (aJ (bR rfl (fun hc194=>?_) (fun hc194=>?_)))
           ·have hd194:=of_decide_eq_true hc194
            refine aQ ?_
            dsimp only [bC,List.set,List.cons_append,List.nil_append]
            exact aE<|lx rfl<|Nh<|sN [bT] fun w hM=>⟨rfl,(hM.pick [] rfl rfl)⟩
           ·have hd194:=of_decide_eq_false hc194
            refine Ni<|lx rfl<|Nx<|bN (fun w hM=>uR Z172 d w (hM.aL (j:=10) rfl (fun _ h=>h))) ?_
            rw [show d.cells.length=n from hdl]
            refine Nx<|fP (fun w hM=>qV n 5 w (hzn) (hu5)) fun X198=>lx rfl<|Ne<|lx rfl<|lF<|Nn<|Nc<|lx rfl<|lc (vI lk.length) ?_
            refine lx rfl<|Ng<|sL (fun i=>i≤lk.length) (fun i=>lk.length - i) (fun i=>[(4,bF),(27,(vP Z172.bt 0)),(30,(vL A2179 mk c2179)),(32,(vP X198.bt 0)),(203,(vL A1179 lk c1179)),(204,(vI lk.length)),(205,(vI i))]) (fun i=>[cS B52 (a) cb52,cS B54 (b) cb54,cS B57 (aH a b) cb57,cS B60 (aH b a) cb60,cS B164 (VA64) cb164,cS B264 (VB64) cb264,cS B174 (bA [] (aI a b 3 2 1 K).2) cb174,cS B274 (bA [] (aI a b 3 2 1 K).1) cb274,cT X129 (bI (BT.new n 5) a),cT X140 (bI (BT.new n 5) b),cT Z172 d,dJ A1179 (SS lk),dJ A2179 (SS mk),cT X198 (bI (BT.new n 5) (lk.take i))]) 0 (Nat.zero_le _) (fun w hM=>by show Mm _ _ [cS B52 (a) cb52,cS B54 (b) cb54,cS B57 (aH a b) cb57,cS B60 (aH b a) cb60,cS B164 (VA64) cb164,cS B264 (VB64) cb264,cS B174 (bA [] (aI a b 3 2 1 K).2) cb174,cS B274 (bA [] (aI a b 3 2 1 K).1) cb274,cT X129 (bI (BT.new n 5) a),cT X140 (bI (BT.new n 5) b),cT Z172 d,dJ A1179 (SS lk),dJ A2179 (SS mk),cT X198 (bI (BT.new n 5) (lk.take 0))] w; exact hM) ?_
            intro i hok
            show St _ _ _ [(4,bF),(27,(vP Z172.bt 0)),(30,(vL A2179 mk c2179)),(32,(vP X198.bt 0)),(203,(vL A1179 lk c1179)),(204,(vI lk.length)),(205,(vI i))] [cS B52 (a) cb52,cS B54 (b) cb54,cS B57 (aH a b) cb57,cS B60 (aH b a) cb60,cS B164 (VA64) cb164,cS B264 (VB64) cb264,cS B174 (bA [] (aI a b 3 2 1 K).2) cb174,cS B274 (bA [] (aI a b 3 2 1 K).1) cb274,cT X129 (bI (BT.new n 5) a),cT X140 (bI (BT.new n 5) b),cT Z172 d,dJ A1179 (SS lk),dJ A2179 (SS mk),cT X198 (bI (BT.new n 5) (lk.take i))] _
            refine Nc ?_
            refine lc (.bool (decide (((i:Nat):Int) < ((lk.length:Nat):Int)))) ?_
            refine aS (aJ (aQ (bR rfl (fun hc206=>?_) (fun hc206=>?_))))
            ·have hd206:=of_decide_eq_true hc206
             refine Nm<|aE ?_
             obtain ⟨x0,hx0⟩:∃ ξ,(lk)[i]?=some ξ:=⟨_,List.getElem?_eq_getElem om⟩
             refine St.eE (fun w hM=>kV (hM.at (i:=11) rfl)) (eG hx0) (fun p207 q207 hA207 hc207=>lw (vP p207 (q207+i)) (rR 9 hA207)<|lW (rW hc207)<|lx rfl<|Nv<|lx rfl<|Nx<|bZ [13] (fun w hM hO=>xG X198 (bI (BT.new n 5) (lk.take i)) x0 w hO (r0.bP hM [13]) (hk32.1 _ (List.mem_of_getElem? hx0)))<|Nk<|aE<|lw (vI (i+1)) bJ<|lx rfl<|Na ?_)
             rw [show (bI (BT.new n 5) (lk.take i)).change x0 1=bI (BT.new n 5) (lk.take (i+1)) from by rw [List.take_add_one,hx0,Option.toList_some,uY]]
             exact sA (i+1) (by show _≤_; omega) (by show lk.length - (i+1) < lk.length - i; omega) (fun w hM=>hM)
            ·have hd206:=of_decide_eq_false hc206
             obtain rfl:i=lk.length:=om
             rw [List.take_length]
             refine Nj<|Nc<|lx rfl<|lc (vI mk.length) ?_
             refine lx rfl<|Ng<|sL (fun i=>i≤mk.length) (fun i=>mk.length - i) (fun i=>[(4,bF),(27,(vP Z172.bt 0)),(32,(vP X198.bt 0)),(213,(vL A2179 mk c2179)),(214,(vI mk.length)),(215,(vI i))]) (fun i=>[cS B52 (a) cb52,cS B54 (b) cb54,cS B57 (aH a b) cb57,cS B60 (aH b a) cb60,cS B164 (VA64) cb164,cS B264 (VB64) cb264,cS B174 (bA [] (aI a b 3 2 1 K).2) cb174,cS B274 (bA [] (aI a b 3 2 1 K).1) cb274,cT X129 (bI (BT.new n 5) a),cT X140 (bI (BT.new n 5) b),cT Z172 d,dJ A1179 (SS lk),dJ A2179 (SS mk),cT X198 (iG (bI (BT.new n 5) lk) (mk.take i))]) 0 (Nat.zero_le _) (fun w hM=>by show Mm _ _ [cS B52 (a) cb52,cS B54 (b) cb54,cS B57 (aH a b) cb57,cS B60 (aH b a) cb60,cS B164 (VA64) cb164,cS B264 (VB64) cb264,cS B174 (bA [] (aI a b 3 2 1 K).2) cb174,cS B274 (bA [] (aI a b 3 2 1 K).1) cb274,cT X129 (bI (BT.new n 5) a),cT X140 (bI (BT.new n 5) b),cT Z172 d,dJ A1179 (SS lk),dJ A2179 (SS mk),cT X198 (iG (bI (BT.new n 5) lk) (mk.take 0))] w; exact hM) ?_
             intro i hok
             show St _ _ _ [(4,bF),(27,(vP Z172.bt 0)),(32,(vP X198.bt 0)),(213,(vL A2179 mk c2179)),(214,(vI mk.length)),(215,(vI i))] [cS B52 (a) cb52,cS B54 (b) cb54,cS B57 (aH a b) cb57,cS B60 (aH b a) cb60,cS B164 (VA64) cb164,cS B264 (VB64) cb264,cS B174 (bA [] (aI a b 3 2 1 K).2) cb174,cS B274 (bA [] (aI a b 3 2 1 K).1) cb274,cT X129 (bI (BT.new n 5) a),cT X140 (bI (BT.new n 5) b),cT Z172 d,dJ A1179 (SS lk),dJ A2179 (SS mk),cT X198 (iG (bI (BT.new n 5) lk) (mk.take i))] _
             refine Nc ?_
             refine lc (.bool (decide (((i:Nat):Int) < ((mk.length:Nat):Int)))) ?_
             refine aS (aJ (aQ (bR rfl (fun hc216=>?_) (fun hc216=>?_))))
             ·have hd216:=of_decide_eq_true hc216
              refine Nm<|aE ?_
              obtain ⟨x0,hx0⟩:∃ ξ,(mk)[i]?=some ξ:=⟨_,List.getElem?_eq_getElem om⟩
              refine St.eE (fun w hM=>kV (hM.at (i:=12) rfl)) (eG hx0) (fun p217 q217 hA217 hc217=>lw (vP p217 (q217+i)) (rR 9 hA217)<|lW (rW hc217)<|lx rfl<|Nv<|lx rfl<|Nx<|bZ [13] (fun w hM hO=>Mi X198 (iG (bI (BT.new n 5) lk) (mk.take i)) x0 w hO (r0.bP hM [13]) (hk32.2 _ (List.mem_of_getElem? hx0)))<|Nk<|aE<|lw (vI (i+1)) bJ<|lx rfl<|Na ?_)
              rw [show (iG (bI (BT.new n 5) lk) (mk.take i)).change x0 (-1)=iG (bI (BT.new n 5) lk) (mk.take (i+1)) from by rw [List.take_add_one,hx0,Option.toList_some,Lr]]
              exact sA (i+1) (by show _≤_; omega) (by show mk.length - (i+1) < mk.length - i; omega) (fun w hM=>hM)
             ·have hd216:=of_decide_eq_false hc216
              obtain rfl:i=mk.length:=om
              rw [List.take_length]
              refine Nj ?_
              have hba:=Lu hdok hk
              rw [hdl,hds] at hba
              rw [show iG (bI (BT.new n 5) lk) mk=d from hba]
              refine dN _ 8 kr (fun _ h=>h) ?_
              refine am 0 ?_
              refine am 3 ?_
              refine aA 1 rfl<|cF (fun w hM=>uS X198 d w (hM.aL (j:=13) rfl (fun _ h=>h))) fun A224 c224=>cN _ (fun _ h=>h.pick [0,1,2,3,4,5,6,7,8,9,10,11,12,13] rfl rfl) (fun _ h=>h)<|aV 2 (vS d.enc) rfl (nK (e:=5) d.enc rfl kr kr kr rfl rfl (fun w hM=>mG (i:=14) rfl w hM))<|aA 4 rfl<|cF (fun w hM=>uS Z172 d w (hM.aL (j:=10) rfl (fun _ h=>h))) fun A227 c227=>cN _ (fun _ h=>h.pick [0,1,2,3,4,5,6,7,8,9,10,11,12,13,14] rfl rfl) (fun _ h=>h)<|aV 5 (vS d.enc) rfl (nK (e:=5) d.enc rfl kr kr kr rfl rfl (fun w hM=>mG (i:=15) rfl w hM))<|aV 6 bT rfl (gC (oG rfl rfl rfl) si)<|aa 7 ?_
              exact dO kr<|aJ<|gQ<|sN [bT] fun w hM=>⟨rfl,(hM.pick [] rfl rfl)⟩
          ·have hd189:=of_decide_eq_false hc189
           refine lx rfl<|lg bF<|lF<|Nn ?_
           dsimp only [bC,List.set,List.cons_append,List.nil_append]
           refine aE<|lx rfl<|Nx<|bN (fun w hM=>uR Z172 d w (hM.aL (j:=10) rfl (fun _ h=>h))) ?_
           rw [show d.cells.length=n from hdl]
           refine Nx<|fP (fun w hM=>qV n 5 w (hzn) (hu5)) fun X198=>lx rfl<|Ne<|lx rfl<|lF<|Nn<|Nc<|lx rfl<|lc (vI lk.length) ?_
           refine lx rfl<|Ng<|sL (fun i=>i≤lk.length) (fun i=>lk.length - i) (fun i=>[(4,bF),(27,(vP Z172.bt 0)),(30,(vL A2179 mk c2179)),(32,(vP X198.bt 0)),(203,(vL A1179 lk c1179)),(204,(vI lk.length)),(205,(vI i))]) (fun i=>[cS B52 (a) cb52,cS B54 (b) cb54,cS B57 (aH a b) cb57,cS B60 (aH b a) cb60,cS B164 (VA64) cb164,cS B264 (VB64) cb264,cS B174 (bA [] (aI a b 3 2 1 K).2) cb174,cS B274 (bA [] (aI a b 3 2 1 K).1) cb274,cT X129 (bI (BT.new n 5) a),cT X140 (bI (BT.new n 5) b),cT Z172 d,dJ A1179 (SS lk),dJ A2179 (SS mk),cT X198 (bI (BT.new n 5) (lk.take i))]) 0 (Nat.zero_le _) (fun w hM=>by show Mm _ _ [cS B52 (a) cb52,cS B54 (b) cb54,cS B57 (aH a b) cb57,cS B60 (aH b a) cb60,cS B164 (VA64) cb164,cS B264 (VB64) cb264,cS B174 (bA [] (aI a b 3 2 1 K).2) cb174,cS B274 (bA [] (aI a b 3 2 1 K).1) cb274,cT X129 (bI (BT.new n 5) a),cT X140 (bI (BT.new n 5) b),cT Z172 d,dJ A1179 (SS lk),dJ A2179 (SS mk),cT X198 (bI (BT.new n 5) (lk.take 0))] w; exact hM) ?_
           intro i hok
           show St _ _ _ [(4,bF),(27,(vP Z172.bt 0)),(30,(vL A2179 mk c2179)),(32,(vP X198.bt 0)),(203,(vL A1179 lk c1179)),(204,(vI lk.length)),(205,(vI i))] [cS B52 (a) cb52,cS B54 (b) cb54,cS B57 (aH a b) cb57,cS B60 (aH b a) cb60,cS B164 (VA64) cb164,cS B264 (VB64) cb264,cS B174 (bA [] (aI a b 3 2 1 K).2) cb174,cS B274 (bA [] (aI a b 3 2 1 K).1) cb274,cT X129 (bI (BT.new n 5) a),cT X140 (bI (BT.new n 5) b),cT Z172 d,dJ A1179 (SS lk),dJ A2179 (SS mk),cT X198 (bI (BT.new n 5) (lk.take i))] _
           refine Nc ?_
           refine lc (.bool (decide (((i:Nat):Int) < ((lk.length:Nat):Int)))) ?_
           refine aS (aJ (aQ (bR rfl (fun hc206=>?_) (fun hc206=>?_))))
           ·have hd206:=of_decide_eq_true hc206
            refine Nm<|aE ?_
            obtain ⟨x0,hx0⟩:∃ ξ,(lk)[i]?=some ξ:=⟨_,List.getElem?_eq_getElem om⟩
            refine St.eE (fun w hM=>kV (hM.at (i:=11) rfl)) (eG hx0) (fun p207 q207 hA207 hc207=>lw (vP p207 (q207+i)) (rR 9 hA207)<|lW (rW hc207)<|lx rfl<|Nv<|lx rfl<|Nx<|bZ [13] (fun w hM hO=>xG X198 (bI (BT.new n 5) (lk.take i)) x0 w hO (r0.bP hM [13]) (hk32.1 _ (List.mem_of_getElem? hx0)))<|Nk<|aE<|lw (vI (i+1)) bJ<|lx rfl<|Na ?_)
            rw [show (bI (BT.new n 5) (lk.take i)).change x0 1=bI (BT.new n 5) (lk.take (i+1)) from by rw [List.take_add_one,hx0,Option.toList_some,uY]]
            exact sA (i+1) (by show _≤_; omega) (by show lk.length - (i+1) < lk.length - i; omega) (fun w hM=>hM)
           ·have hd206:=of_decide_eq_false hc206
            obtain rfl:i=lk.length:=om
            rw [List.take_length]
            refine Nj<|Nc<|lx rfl<|lc (vI mk.length) ?_
            refine lx rfl<|Ng<|sL (fun i=>i≤mk.length) (fun i=>mk.length - i) (fun i=>[(4,bF),(27,(vP Z172.bt 0)),(32,(vP X198.bt 0)),(213,(vL A2179 mk c2179)),(214,(vI mk.length)),(215,(vI i))]) (fun i=>[cS B52 (a) cb52,cS B54 (b) cb54,cS B57 (aH a b) cb57,cS B60 (aH b a) cb60,cS B164 (VA64) cb164,cS B264 (VB64) cb264,cS B174 (bA [] (aI a b 3 2 1 K).2) cb174,cS B274 (bA [] (aI a b 3 2 1 K).1) cb274,cT X129 (bI (BT.new n 5) a),cT X140 (bI (BT.new n 5) b),cT Z172 d,dJ A1179 (SS lk),dJ A2179 (SS mk),cT X198 (iG (bI (BT.new n 5) lk) (mk.take i))]) 0 (Nat.zero_le _) (fun w hM=>by show Mm _ _ [cS B52 (a) cb52,cS B54 (b) cb54,cS B57 (aH a b) cb57,cS B60 (aH b a) cb60,cS B164 (VA64) cb164,cS B264 (VB64) cb264,cS B174 (bA [] (aI a b 3 2 1 K).2) cb174,cS B274 (bA [] (aI a b 3 2 1 K).1) cb274,cT X129 (bI (BT.new n 5) a),cT X140 (bI (BT.new n 5) b),cT Z172 d,dJ A1179 (SS lk),dJ A2179 (SS mk),cT X198 (iG (bI (BT.new n 5) lk) (mk.take 0))] w; exact hM) ?_
            intro i hok
            show St _ _ _ [(4,bF),(27,(vP Z172.bt 0)),(32,(vP X198.bt 0)),(213,(vL A2179 mk c2179)),(214,(vI mk.length)),(215,(vI i))] [cS B52 (a) cb52,cS B54 (b) cb54,cS B57 (aH a b) cb57,cS B60 (aH b a) cb60,cS B164 (VA64) cb164,cS B264 (VB64) cb264,cS B174 (bA [] (aI a b 3 2 1 K).2) cb174,cS B274 (bA [] (aI a b 3 2 1 K).1) cb274,cT X129 (bI (BT.new n 5) a),cT X140 (bI (BT.new n 5) b),cT Z172 d,dJ A1179 (SS lk),dJ A2179 (SS mk),cT X198 (iG (bI (BT.new n 5) lk) (mk.take i))] _
            refine Nc ?_
            refine lc (.bool (decide (((i:Nat):Int) < ((mk.length:Nat):Int)))) ?_
            refine aS (aJ (aQ (bR rfl (fun hc216=>?_) (fun hc216=>?_))))
            ·have hd216:=of_decide_eq_true hc216
             refine Nm<|aE ?_
             obtain ⟨x0,hx0⟩:∃ ξ,(mk)[i]?=some ξ:=⟨_,List.getElem?_eq_getElem om⟩
             refine St.eE (fun w hM=>kV (hM.at (i:=12) rfl)) (eG hx0) (fun p217 q217 hA217 hc217=>lw (vP p217 (q217+i)) (rR 9 hA217)<|lW (rW hc217)<|lx rfl<|Nv<|lx rfl<|Nx<|bZ [13] (fun w hM hO=>Mi X198 (iG (bI (BT.new n 5) lk) (mk.take i)) x0 w hO (r0.bP hM [13]) (hk32.2 _ (List.mem_of_getElem? hx0)))<|Nk<|aE<|lw (vI (i+1)) bJ<|lx rfl<|Na ?_)
             rw [show (iG (bI (BT.new n 5) lk) (mk.take i)).change x0 (-1)=iG (bI (BT.new n 5) lk) (mk.take (i+1)) from by rw [List.take_add_one,hx0,Option.toList_some,Lr]]
             exact sA (i+1) (by show _≤_; omega) (by show mk.length - (i+1) < mk.length - i; omega) (fun w hM=>hM)
            ·have hd216:=of_decide_eq_false hc216
             obtain rfl:i=mk.length:=om
             rw [List.take_length]
             refine Nj ?_
             have hba:=Lu hdok hk
             rw [hdl,hds] at hba
             rw [show iG (bI (BT.new n 5) lk) mk=d from hba]
             refine dN _ 8 kr (fun _ h=>h) ?_
             refine am 0 ?_
             refine am 3 ?_
             refine aA 1 rfl<|cF (fun w hM=>uS X198 d w (hM.aL (j:=13) rfl (fun _ h=>h))) fun A224 c224=>cN _ (fun _ h=>h.pick [0,1,2,3,4,5,6,7,8,9,10,11,12,13] rfl rfl) (fun _ h=>h)<|aV 2 (vS d.enc) rfl (nK (e:=5) d.enc rfl kr kr kr rfl rfl (fun w hM=>mG (i:=14) rfl w hM))<|aA 4 rfl<|cF (fun w hM=>uS Z172 d w (hM.aL (j:=10) rfl (fun _ h=>h))) fun A227 c227=>cN _ (fun _ h=>h.pick [0,1,2,3,4,5,6,7,8,9,10,11,12,13,14] rfl rfl) (fun _ h=>h)<|aV 5 (vS d.enc) rfl (nK (e:=5) d.enc rfl kr kr kr rfl rfl (fun w hM=>mG (i:=15) rfl w hM))<|aV 6 bT rfl (gC (oG rfl rfl rfl) si)<|aa 7 ?_
             exact dO kr<|aJ<|gQ<|sN [bT] fun w hM=>⟨rfl,(hM.pick [] rfl rfl)⟩
section
open Go.ChangeShapes Go.WideShapes Go.ChangeAt Go.RowKit
theorem Xe {H:Type} {enc:TypeId × Value→H} {P:Program} (hl:laidOutB P=true) {W W':World} (hb:Below W.heap.size W W') :
  ∀ (ts:List TypeId) (vs:List Value) (ds:List (DataW H)) (ps:List MemPlace),(∀ t∈ts,P.readableRec t=true∧t < P.types.size)→(∀ p∈ps,p.block < W.heap.size) →
    DataW.TrodAll enc P W 0 (fun _=>true) true ts vs ds ps→DataW.TrodAll enc P W' 0 (fun b=>decide (b < W.heap.size)) true ts vs ds ps:=by
 intro ts
 induction ts with
 | nil =>
   intro vs ds ps _ _ h
   obtain ⟨rfl,rfl,rfl⟩:=trodAll_nil h
   exact trodAll_mk0
 | cons t ts ih =>
   intro vs ds ps hr hp h
   obtain ⟨v,vs',d,ds',p,q,rfl,rfl,rfl,h1,h2⟩:=trodAll_cons h
   refine trodAll_cons_mk (WideElems.Trod_stays hl (hr t si).1 (hr t si).2 h1 (fun x hx=>hb.same (hp x (by simp [hx]))) (fun x hx=>by simpa using hp x (by simp [hx]))) (ih vs' ds' q (fun t ht=>hr t (by simp [ht])) (fun x hx=>hp x (by simp [hx])) h2)
theorem Xf {H:Type} {enc:TypeId × Value→H} {P:Program} {f:Func} {s:ChangeSpec} {W W':World} {args:Array Value} {ds gs:List (DataW H)} {before:List MemPlace}
  (hl:laidOutB P=true) (hr:f.params.toList.all (fun t=>P.readableRec t && decide (t < P.types.size))=true) (hv:s.vars=[])
  (hW:DataW.Whole enc P f.params.toList s.vars false W args.toList ds gs before)
  (hs:(s.fn H ds).results=[.lit (.bool true)]∧(s.fn H ds).args=ds∧(s.fn H ds).vars=[])
  (hres:∀ (b:Nat),DataW.TrodAll enc P W' b (fun _=>false) false f.resultTypes.toList ((Value.bool true).resultList f.resultTypes.size) [.lit (.bool true)] [])
  (hb:Below W.heap.size W W'):s.post enc P f false true false false W args (.bool true) W':=by
 have hlt:∀ p∈before,p.block < W.heap.size:=fun p hp=>hW.lt p hp
 obtain ⟨p,q,hA,hV,rfl,hfz,hnd⟩:=id hW
 rw [hv] at hV
 obtain ⟨rfl,rfl⟩:=trodVars_none hV
 have hA':=Xe hl hb f.params.toList args.toList ds p (fun t ht=>by
  have:=List.all_eq_true.1 hr t ht
  simpa using this) (fun x hx=>hlt x (by simp [hx])) hA
 refine ⟨ds,[],p++[],[],p,[],hW,?_,?_,?_,?_,fun h=>by cases h⟩
 ·rw [List.append_nil,hs.1]; exact hres _
 ·rw [List.append_nil,hs.2.1]; exact hA'
 ·rw [List.append_nil,hs.2.2,hv]; rfl
 ·exact hb.frame _
open Go.ChangeShapes Go.WideShapes Go.ChangeAt Go.RowKit
theorem Xg {n:Int} (h:(Lit.int .u8 n).wf=true):0≤n∧n≤255:=by
 simpa [Lit.wf,IntKind.min,IntKind.max,IntKind.signed,IntKind.bits] using h
theorem Xh {w:World} {a:Addr} {v:Value} (h:w.cell? a=some v):a.spot=none:=by
 unfold World.cell? at h
 split at h
 ·split at h
  ·cases h
  ·rename_i hs
   cases he:a.spot with
   | none=>rfl
   | some x=>rw [he] at hs; exact absurd rfl hs
 ·cases h
theorem Xi (b o j:Nat):(⟨b,o,none⟩:Addr).add j=⟨b,o+j,none⟩:=by
 unfold Addr.add
 split
 ·simp_all
 ·rfl
theorem Xj {w:World} {b o:Nat} {v:Value} (h:w.cell? ⟨b,o,none⟩=some v):b < w.heap.size:=World.block_lt_of_cell? w ⟨b,o,none⟩ h
end
section
open Go.ChangeShapes Go.WideShapes Go.ChangeAt Go.RowKit
theorem Xk : Tryz.prog.globalNamed "kinkeep/sha256.initial" = some 0 := by kernel_rfl
theorem Xm : Tryz.prog.globalNamed "kinkeep/sha256.constants" = some 1 := by kernel_rfl
theorem Xn:(Tryz.prog.globals[0]?).map (·.type)=some 171:=by kernel_rfl
theorem Xo:(Tryz.prog.globals[1]?).map (·.type)=some 207:=by kernel_rfl
def yZ : List (String × DataW Unit) := [("kinkeep/sha256.initial", Rows.laid_kinkeep_sha256_initial), ("kinkeep/sha256.constants", Rows.laid_kinkeep_sha256_constants)]
theorem Xp (os:Os) (args:Array Value):laidMetH Tryz.prog yZ ((World.doorLaid Tryz.prog 400 os).forCall (fun _ _=>0) ⟨#[],args,[]⟩).memory :=
 laidMetH_of_parts3 (fuel:=8) (laidMet_of_run' 8 kr kr) kr kr
theorem Mj {enc:TypeId × Value→Unit} {W:World} {base:Nat} {spare:Nat→Bool} {held:Bool} {fuel:Nat} {t:TypeId} {n:Nat} {cs:List Value} {l:List Nat} {ps:List MemPlace} (ht:Tryz.prog.underlying t=some (.array n 169)) (h:DataW.trod enc Tryz.prog W base spare held fuel t cs=some (.agg (l.map fun k:Nat=>DataW.lit (Lit.int .u32 (k:Int))),ps)) :
  ∀ i x:Nat,l[i]?=some x→cs[i]?=some (.int .u32 (x:Int)):=by
 obtain ⟨xs,m,_,hx,_,hn,hel⟩:=DataW.trod_array ht h
 simp only [Prod.mk.injEq,DataW.agg.injEq] at hx
 have hc:Tryz.prog.cellsOf 169=1:=by kernel_rfl
 intro i x hi
 have hl:l.length=n:=by
  have:=congrArg List.length hx.1
  simp at this
  omega
 have hin:i < n:=by rw [← hl]; exact (List.getElem?_eq_some_iff.1 hi).1
 have h1:=hel i hin
 rw [List.getElem?_eq_getElem om] at h1
 obtain ⟨k,e1,e2,_⟩:=DataW.trod_int Tryz.underlying169 h1
 have h2:=congrArg (fun z=>z[i]?) hx.1
 simp only [List.getElem?_map,hi,Option.map_some] at h2
 rw [List.getElem?_eq_getElem om] at h2
 simp only [Option.map_some,Option.some.injEq] at h2
 rw [e2] at h2
 simp only [DataW.lit.injEq,Lit.int.injEq,true_and] at h2
 rw [hc,Nat.mul_one] at e1
 have h3:(List.take 1 (List.drop i cs))[0]?=some (.int .u32 k):=by rw [e1]; rfl
 rw [List.getElem?_take_of_lt om,List.getElem?_drop,Nat.add_zero] at h3
 rw [h3,h2]
theorem Xq {W:World} (h:laidMetH Tryz.prog yZ W):bW W:=by
 rw [MakeChecks.laidMetH_plain _ _ _ kr] at h
 obtain ⟨ps,⟨g0,t0,cs0,f0,p0,q0,hg0,ht0,hv0,hd0,⟨g1,t1,cs1,f1,p1,q1,hg1,ht1,hv1,hd1,_,_⟩,_⟩,_,_⟩:=h
 obtain rfl:=Option.some.inj (Xk.symm.trans hg0)
 obtain rfl:=Option.some.inj (Xm.symm.trans hg1)
 obtain rfl:=Option.some.inj (Xn.symm.trans ht0)
 obtain rfl:=Option.some.inj (Xo.symm.trans ht1)
 refine ⟨fun i x hx=>?_,fun i x hx=>?_⟩
 ·rw [World.var?_cell hg0 hv0 i]
  have:=Mj (l:=mQ) Tryz.underlying171 hd0 i x hx
  simpa using this
 ·rw [World.var?_cell hg1 hv1 i]
  have:=Mj (l:=kO) Tryz.underlying207 hd1 i x hx
  simpa using this
end
section
open Go.ChangeShapes Go.WideShapes Go.ChangeAt Go.RowKit
section
variable {H : Type} {enc : TypeId × Value → H} {P : Program} {W : World}
theorem Xr {e u:TypeId} {f:Nat} {c:Value} {x:DataW H × List MemPlace} (he:P.underlying e=some (.slice u)) (hu:P.underlying u=some (.int .u8)) (hC:P.cellsOf u=1)
  (h:DataW.trod enc P W 0 (fun _=>true) true f e [c]=some x):∃ (A:Option Addr) (cap:Nat) (bs:List UInt8),c = .slice A bs.length cap∧aF W A (B8 bs)∧bs.length≤cap:=by
 rcases Go.Deep.open_slice he h with ⟨h0,_⟩ | ⟨a,len,cap,m,n,D,Pl,hcs,_,hl,hm,hmm,_,hi⟩
 ·simp only [List.cons.injEq,and_true] at h0
  exact ⟨none,0,[],h0,(fun i u hu=>by simp [B8] at hu),Nat.le_refl _⟩
 ·simp only [List.cons.injEq,and_true] at hcs
  simp only [if_true] at hmm
  have hx:∀ i,i < len→∃ y:UInt8,W.cell? (a.add i)=some (.int .u8 ((y.toNat:Nat):Int)):=by
   intro i hin
   obtain ⟨cs',hc,ht⟩:=hi i om
   rw [hC,Nat.mul_one] at hc
   obtain ⟨_,hcl,hat⟩:=World.cells?_some hc
   match cs',hcl with
   | [y],_ =>
     obtain ⟨z,hz,_,wz⟩:=DataW.trod_int hu ht
     have h0:=hat 0 om
     rw [show (a.add i).add 0=a.add i by unfold Addr.add; simp] at h0
     simp only [List.cons.injEq,and_true] at hz
     obtain ⟨h1,h2⟩:=Xg wz
     refine ⟨UInt8.ofNat z.toNat,?_⟩
     have h4:z.toNat % 256=z.toNat:=Nat.mod_eq_of_lt om
     have h3:(((UInt8.ofNat z.toNat).toNat:Nat):Int)=z:=by rw [UInt8.toNat_ofNat',show (2 ^ 8:Nat)=256 from rfl,h4]; omega
     rw [h0,hz,h3]
     rfl
  rcases Nat.eq_zero_or_pos len with rfl | hn
  ·exact ⟨_,cap,[],hcs,(fun i u hu=>by simp [B8] at hu),Nat.zero_le _⟩
  ·obtain ⟨y0,h0⟩:=hx 0 hn
   rw [show a.add 0=a by unfold Addr.add; simp] at h0
   obtain ⟨b,o,s⟩:=a
   have hs:=Xh h0
   simp only at hs
   subst hs
   obtain ⟨g,hg⟩:=Go.Deep.choose_lt hx
   have hlen:((List.range len).map g).length=len:=by simp
   refine ⟨some ⟨b,o,none⟩,cap,(List.range len).map g,by rw [hlen]; exact hcs,fun i v hv=>?_,by rw [hlen]; exact hl⟩
   have hin:i < len:=by
    have:=(List.getElem?_eq_some_iff.1 hv).1
    simpa [B8] using this
   have h1:=hg i hin
   rw [Xi] at h1
   refine ⟨b,o,rfl,Xj h0,?_⟩
   rw [h1,← hv]
   simp [B8,hin]
end
end
section
open Go.ChangeShapes Go.WideShapes Go.ChangeAt Go.RowKit
section
variable {H : Type} {enc : TypeId × Value → H} {P : Program} {W : World}
theorem Mk {e u:TypeId} {base:Nat} {v:Value} {d:DataW H} {p:List MemPlace} (he:P.underlying e=some (.slice u)) (hu:P.underlying u=some (.int .u8)) (hC:P.cellsOf u=1) (hv:Value.okWide P W .any base e v)
  (h:DataW.Trod enc P W 0 (fun _=>true) true e v d p):∃ (A:Option Addr) (cap:Nat) (bs:List UInt8),v = .slice A bs.length cap∧aF W A (B8 bs)∧bs.length≤cap:=by
 obtain ⟨A,n,cap,rfl⟩:=okWide_slice he hv
 obtain ⟨f,hf⟩:=h
 exact Xr he hu hC (by simpa [Value.cells] using hf)
end
end
end Go.Proofs.YtignomkdngnmgaaGreatDoor
