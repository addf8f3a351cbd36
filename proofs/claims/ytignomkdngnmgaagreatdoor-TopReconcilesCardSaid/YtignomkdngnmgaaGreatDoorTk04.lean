/- Part 4 of a proof: what its row uses. -/
import Derived.Test.YtignomkdngnmgaaGreatDoorTk03
set_option maxRecDepth 100000
set_option maxHeartbeats 1000000
namespace Go.Proofs.YtignomkdngnmgaaGreatDoor
open Go.RowKit
section
section
variable {P : Program} {w0 : World} {F : List Nat} {E : cH} {cs : List Ch} {o : Oper}
theorem Ta {ty u:TypeId} {x y:Operand} {a k:Nat} (ho:o.op = .binOp .shl ty x y u) (hx:aN E x=some (vI a)) (hy:aN E y=some (vI k)) (hk:k≤60) (h:a*2 ^ k < 9223372036854775808):cJ P w0 F cs E o (vI (a*2 ^ k)):=fun w _=>by
 unfold execOp
 have h8:(((k:Nat):Int).toNat)=k:=Int.toNat_natCast k
 have hb:min k IntKind.i64.bits=k:=Nat.min_eq_left (by show k≤64; omega)
 have e:IntKind.i64.wrap ((a:Int)*2 ^ k)=((a*2 ^ k:Nat):Int):=by
  have e1:(a:Int)*2 ^ k=((a*2 ^ k:Nat):Int):=by push_cast; rfl
  rw [e1]
  exact qM om om
 simp only [ho,bL hx,bL hy,Sem.run_bind,pO,Result.andThen_ok,binOp,Op.shift]
 rw [if_neg om,h8,hb]
 simp only [Sem.run_pure,Result.andThen_ok,e]
end
theorem Rd.wF (r:Rd) (most:Nat):(r.text most).1.length≤r.D.length:=by
 unfold Rd.text
 split
 ·split
  ·simp
  ·split
   ·simp
   ·split
    ·simp only [List.length_take,List.length_drop]; omega
    ·simp
 ·simp
theorem Tb {ts us:List BT} (h1:mV ts) (h2:mV us) {k:Nat} {t u:BT} (ht:ts[k]?=some t) (hu:us[k]?=some u):nN t u=true:=by
 obtain ⟨_,a,b⟩:=h1 k t ht
 obtain ⟨_,c,d⟩:=h2 k u hu
 simp [nN,a,b,c,d]
theorem DN {D:Bs} {ts:List BT} {r:Rd} (h:gM (Rd.mk D 0 0 0) 12=(some ts,r)):gN D=if r.end_=0 then some ts else none:=by
 unfold gN
 rw [h]
theorem Jq {D:Bs} {i:Nat} (hi:i≤12) (h:(gM (Rd.mk D 0 0 0) i).1=none):gN D=none:=by
 have h1:=Jc h (12 - i)
 rw [show i+(12 - i)=12 by omega] at h1
 unfold gN
 cases hh:gM (Rd.mk D 0 0 0) 12 with
 | mk a b=>rw [hh] at h1; simp only at h1; subst h1; rfl
theorem vF {v:Value} {a b:Bool} (h:a=b):Ending.returned (pK [v,.bool a]) = .returned (.tuple #[v,.bool b]):=by rw [h]; rfl
theorem sW {α:Type} {l:List α} {k:Nat} (h:k < l.length):∃ x,l[k]?=some x:=⟨_,List.getElem?_eq_getElem h⟩
theorem Tc (Xs:List TX) (ts:List BT) (k:Nat) (X:TX) (t:BT) (key:List UInt8) (w:World) (hO:bO [eP Xs ts] w) (r0:Rf [eP Xs ts] w (bW)) (hX:Xs[k]?=some X) (ht:ts[k]?=some t) (hk:key.length=32) :
  Calls Tryz.prog 13 #[(vP X.bt 0),(vS key)] w fun e w'=>e = .returned (vi 0)∧aK [eP Xs ts] w [eP Xs (ts.set k (t.change key 1))] w':=by
 have h0:(eP Xs ts).holds w:=hO.at (i:=0) rfl
 refine (GX X.bt X.bc X.cap X.rest t key w r0.here (AQ h0 hX ht) hk).mono fun e w' h=>?_
 obtain ⟨rfl,hf,ht'⟩:=h
 exact ⟨rfl,bO.XY hO hX ht hf ht'⟩
theorem DO (A:Option Addr) (c:Nat) (l:List (List UInt8)) (w:World) (r0:Rf [] w (bW)) (r1:Rf [] w (fun w=>aF w A (SS l))) (h32:∀ x∈l,x.length=32) (hl:l.length≤68719476736) :
  Calls Tryz.prog 53 #[(vL A l c)] w fun e w'=>∃ (Xs:List TX),e = .returned (.agg (cA Xs).toArray)∧aK [] w [eP Xs (bQ l)] w'∧(Xs.length=12):=by
 refine eH Tryz.func53 34 (Mm.start w []) rfl<|Nc<|Nx<|pA [(.pointer none),(.pointer none),(.pointer none),(.pointer none),(.pointer none),(.pointer none),(.pointer none),(.pointer none),(.pointer none),(.pointer none),(.pointer none),(.pointer none)] fun b2=>Nb<|Nx<|pA [(.pointer none),(.pointer none),(.pointer none),(.pointer none),(.pointer none),(.pointer none),(.pointer none),(.pointer none),(.pointer none),(.pointer none),(.pointer none),(.pointer none)] fun b3=>Ne<|lx rfl<|Ng<|St.mem (fun w hM=>hM.MD)<|sL (fun (i,Xs)=>i≤12∧Xs.length=i) (fun (i,Xs)=>12 - i) (fun (i,Xs)=>[(0,(vL A l c)),(2,(vP b2 0)),(3,(vP b3 0)),(7,(vI i))]) (fun (i,Xs)=>[aB b2 98 [(.pointer none),(.pointer none),(.pointer none),(.pointer none),(.pointer none),(.pointer none),(.pointer none),(.pointer none),(.pointer none),(.pointer none),(.pointer none),(.pointer none)],aB b3 98 (cA Xs++List.replicate (12 - i) oU),eP Xs (AR i)]) (0,[]) ⟨om,rfl⟩ (fun _ h=>h) ?_
 rintro ⟨i,Xs⟩ ⟨hi,hXl⟩
 dsimp only
 refine Nc<|lk (.bool (decide (((i:Nat):Int) < 12))) ?_
 refine aS (aJ (aQ (bR rfl (fun hc8=>?_) (fun hc8=>?_))))
 ·have hd8:=of_decide_eq_true hc8
  refine Nm<|aE<|lx rfl<|Nv<|lx rfl<|lw (vI (i+1)) bJ<|lw (vU (i+1)) (jH _ (fun _=>kr) rfl rfl (pM om om))<|Nx<|fP (fun w hM=>qV 12 (i+1) w (by decide) (by unfold cG; omega)) fun X15=>lx rfl<|lw (vP b3 (0+i)) (oF (e:=36) (m:=12) rfl kr kr rfl rfl om)<|Nx<|nJ 1 rfl rfl kr rfl rfl rfl kr rfl (by simp [cA]; omega) ?_
  dsimp only [bC,List.set,List.cons_append,List.nil_append]
  rw [show (cA Xs++List.replicate (12 - i) oU).set (0+i) (vP X15.bt 0)=cA (Xs++[X15])++List.replicate (12 - (i+1)) oU from Jp X15 hXl om]
  exact Nk<|aE<|lw (vI (i+1)) bJ<|lx rfl<|aS (aJ (sA (i+1,Xs++[X15]) (⟨om,by simp [hXl]⟩) (by show 12 - (i+1) < 12 - i; omega) (fun w hM=>by have h:=Mm.ME (cs:=[aB b2 98 [(.pointer none),(.pointer none),(.pointer none),(.pointer none),(.pointer none),(.pointer none),(.pointer none),(.pointer none),(.pointer none),(.pointer none),(.pointer none),(.pointer none)],aB b3 98 ((cA (Xs++[X15])++List.replicate (12 - (i+1)) oU))]) hM; rw [← SZ] at h; exact h)))
 ·have hd8:=of_decide_eq_false hc8
  obtain rfl:i=12:=om
  refine St.mem (cs':=[aB b2 98 [(.pointer none),(.pointer none),(.pointer none),(.pointer none),(.pointer none),(.pointer none),(.pointer none),(.pointer none),(.pointer none),(.pointer none),(.pointer none),(.pointer none)],aB b3 98 (cA Xs),eP Xs (bQ (l.take 0))]) (fun w hM=>by rw [List.take_zero]; rw [Nat.sub_self,List.replicate_zero,List.append_nil] at hM; exact hM)<|Nj<|Nc<|lx rfl<|lk (vI l.length)<|lx rfl<|Ng<|sL (fun i=>i≤l.length) (fun i=>l.length - i) (fun i=>[(2,(vP b2 0)),(3,(vP b3 0)),(20,(vL A l c)),(21,(vI l.length)),(22,(vI i))]) (fun i=>[aB b2 98 [(.pointer none),(.pointer none),(.pointer none),(.pointer none),(.pointer none),(.pointer none),(.pointer none),(.pointer none),(.pointer none),(.pointer none),(.pointer none),(.pointer none)],aB b3 98 (cA Xs),eP Xs (bQ (l.take i))]) 0 (Nat.zero_le _) (fun _ h=>h) ?_
  intro i hi
  show St _ _ _ [(2,(vP b2 0)),(3,(vP b3 0)),(20,(vL A l c)),(21,(vI l.length)),(22,(vI i))] [aB b2 98 [(.pointer none),(.pointer none),(.pointer none),(.pointer none),(.pointer none),(.pointer none),(.pointer none),(.pointer none),(.pointer none),(.pointer none),(.pointer none),(.pointer none)],aB b3 98 (cA Xs),eP Xs (bQ (l.take i))] _
  refine Nc<|lk (.bool (decide (((i:Nat):Int) < ((l.length:Nat):Int)))) ?_
  refine aS (aJ (aQ (bR rfl (fun hc23=>?_) (fun hc23=>?_))))
  ·have hd23:=of_decide_eq_true hc23
   have hlt:i < l.length:=om
   refine Nm<|aE ?_
   obtain ⟨x0,hx0⟩:∃ ξ,(l)[i]?=some ξ:=⟨_,List.getElem?_eq_getElem om⟩
   refine St.eE (fun w hM=>r1.now hM) (eG hx0) (fun p24 q24 hA24 hc24=>lw (vP p24 (q24+i)) (rR 9 hA24)<|lW (rW hc24)<|lx rfl<|Nv<|lx rfl<|Nx<|bN (fun w hM=>SQ x0 w (r0.aO hM) (by have:=h32 _ (List.mem_of_getElem? hx0); omega)) ?_)
   have hlv:=DF x0
   obtain ⟨XX,hXX⟩:=sW (l:=Xs) (k:=fH x0) om
   refine lw (vP b3 (0+(fH x0))) (oF (e:=36) (m:=12) rfl kr kr rfl rfl om)<|lw (vP XX.bt 0) (eT 1 rfl rfl kr rfl (DM hXX))<|lx rfl<|Nx<|bZ [2] (fun w hM hO=>Tc Xs (bQ (l.take i)) (fH x0) XX (jO (l.take i) (fH x0)) x0 w hO (r0.bP hM [2]) (hXX) (vC hlv) (h32 _ (List.mem_of_getElem? hx0)))<|Nk ?_
   rw [show (bQ (l.take i)).set (fH x0) ((jO (l.take i) (fH x0)).change x0 1)=bQ (l.take (i+1)) from by rw [List.take_add_one,hx0]; exact (RS _ _).symm]
   exact aE<|lw (vI (i+1)) bJ<|lx rfl<|aS (aJ (sA (i+1) (by show _≤_; omega) (by show l.length - (i+1) < l.length - i; omega) (fun w hM=>hM)))
  ·have hd23:=of_decide_eq_false hc23
   obtain rfl:i=l.length:=om
   rw [List.take_length]
   refine Nj<|aE<|lw (.agg (cA Xs).toArray) (oD (cA Xs) rfl rfl kr (by rw [gT,hXl]; kernel_rfl) (hU (i:=1) rfl (fun j v hj=>by rw [Nat.zero_add]; exact hj)))<|Nx<|oE 0 (cA Xs) (vs:=cA Xs) rfl rfl kr rfl rfl rfl (by rw [gT,hXl]; kernel_rfl) rfl (by rw [gT,hXl]; decide) (xT Xs) (by rw [List.take_zero,List.nil_append,gT,hXl]; simp) ?_
   exact Nd<|iJ [(.agg (cA Xs).toArray)] rfl ⟨⟨_,rfl,fun w hM=>mF kr (by rw [gT,hXl]; kernel_rfl) (hU (i:=0) (off:=0) rfl (by intro j v hj; rw [Nat.zero_add]; exact hj) w hM)⟩,trivial⟩ (fun w hM=>⟨Xs,rfl,(hM.pick [2] rfl rfl),hXl⟩)
theorem Td (Xs:List TX) (ts:List BT) (w:World) (r0:Rf [] w (fun w=>(eP Xs ts).holds w)) (okt:mV ts) (tl:ts.length=12) (Xl:Xs.length=12) :
  Calls Tryz.prog 54 #[(.agg (cA Xs).toArray)] w fun e w'=>∃ (A:Option Addr) (c:Nat),e = .returned (vL A (cZ ts) c)∧aK [] w [cB A (cZ ts) c] w':=by
 refine eH Tryz.func54 24 (Mm.start w []) rfl<|Nc<|Nx<|pB (cA Xs) fun b1=>lx rfl<|Nb<|Nx<|fP (fun w hM=>AN  w ) fun bw8=>lx rfl<|Nf<|aQ<|St.mem (fun w hM=>hM.jD 5 1) ?_
 dsimp only [bC,List.set,List.cons_append,List.nil_append]
 refine aE<|lw (.agg (cA Xs).toArray) (oD (cA Xs) rfl rfl kr (by rw [gT,Xl]; kernel_rfl) (hU (i:=0) rfl (fun j v hj=>by rw [Nat.zero_add]; exact hj)))<|lx rfl<|Ng<|sL (fun (i,AX,cX)=>i≤12) (fun (i,AX,cX)=>12 - i) (fun (i,AX,cX)=>[(2,nS),(3,(vP bw8 0)),(9,(.agg (cA Xs).toArray)),(10,(vI i))]) (fun (i,AX,cX)=>[aB b1 98 (cA Xs),aB bw8 140 [(vL AX (cZ (ts.take i)) cX),(vi 0)],cB AX (cZ (ts.take i)) cX]) (0,none,0) (Nat.zero_le _) (fun _ h=>h) ?_
 rintro ⟨i,AX,cX⟩ (hi:i≤12)
 dsimp only
 refine Nc<|lk (.bool (decide (((i:Nat):Int) < 12))) ?_
 refine aS (aJ (aQ (bR rfl (fun hc11=>?_) (fun hc11=>?_))))
 ·have hd11:=of_decide_eq_true hc11
  have hlt:i < 12:=om
  obtain ⟨XX,hXX⟩:=sW (l:=Xs) (k:=i) om
  obtain ⟨tt,htt⟩:=sW (l:=ts) (k:=i) om
  have rt:=r0.imp (fun _ h=>AQ h hXX htt)
  have hsk:=rB (ts:=ts.take i) (fun t ht=>okt.all t (List.mem_of_mem_take ht))
  have htk:(ts.take i).length≤12:=by rw [List.length_take]; omega
  have hen:=DG (okt i tt htt).1 (okt i tt htt).2.1
  refine Nm<|aE<|lw (vP XX.bt 0) (SX (e:=36) rfl kr kr kr rfl rfl hlt (Jo hXX))<|lx rfl<|Nv<|lx rfl<|Nx<|cF (fun w hM=>uS XX tt w (rt.aO hM)) fun A15 c15=>Nx<|eV [1,2] (fun w hM hO=>Jm bw8 AX cX (cZ (ts.take i)) A15 c15 tt.enc w hO (hM.cL [1,2] (j:=3) rfl (fun _ h=>aF.aR h)) om om) fun A216 c216=>Nk ?_
  rw [show (cZ (ts.take i))++aD tt.enc.length++tt.enc=cZ (ts.take (i+1)) from by rw [List.take_add_one,htt,Option.toList_some,RY,List.append_assoc]; rfl]
  exact aE<|lw (vI (i+1)) bJ<|lx rfl<|aS (aJ (sA (i+1,A216,c216) (by show _≤_; omega) (by show 12 - (i+1) < 12 - i; omega) (fun w hM=>(hM.pick [0,1,2] rfl rfl))))
 ·have hd11:=of_decide_eq_false hc11
  obtain rfl:i=12:=om
  rw [show ts.take 12=ts from by rw [← tl,List.take_length]]
  have hsk:=rB (ts:=ts) okt.all
  exact Nj<|aE<|lx rfl<|Nx<|eV [1,2] (fun w hM hO=>AO bw8 AX cX (cZ ts) w hO om) fun A220 c220=>lx rfl<|Nb<|lx rfl<|Nd<|sN [(vL A220 (cZ ts) c220)] fun w hM=>⟨A220,c220,rfl,(hM.pick [3] rfl rfl)⟩
theorem Jr (A:Option Addr) (c:Nat) (D:List UInt8) (w:World) (r0:Rf [] w (fun w=>aF w A (B8 D))) (hD:D.length≤4294967296) :
  Calls Tryz.prog 111 #[(vL A D c)] w fun e w'=>∃ (cl:List Value) (Xs:List TX) (ts:List BT),e = .returned (.tuple #[(.agg (cl).toArray),(.bool (gN D).isSome)])∧aK [] w [eP Xs ts] w'∧(∀ us,gN D=some us→us=ts∧cl=cA Xs∧Xs.length=12)∧(cl.length=12∧∀ v∈cl,v.oneCell'=true):=by
 refine eH Tryz.func111 47 (Mm.start w []) rfl<|Nc<|Nx<|pA [(.pointer none),(.pointer none),(.pointer none),(.pointer none),(.pointer none),(.pointer none),(.pointer none),(.pointer none),(.pointer none),(.pointer none),(.pointer none),(.pointer none)] fun b2=>lx rfl<|Nb<|Nx<|pA [(.pointer none),(.pointer none),(.pointer none),(.pointer none),(.pointer none),(.pointer none),(.pointer none),(.pointer none),(.pointer none),(.pointer none),(.pointer none),(.pointer none)] fun b4=>Nb<|lx rfl<|Nx<|cF (fun w hM=>oR A c D w (r0.aO hM) (hD)) fun X12 br12=>lx rfl<|Ne<|lx rfl<|Ng<|St.mem (fun w hM=>hM.MD)<|sL (fun (i,Xs,ts,r1)=>i≤12∧Xs.length=i∧gM (Rd.mk D 0 0 0) i=(some ts,r1)) (fun (i,Xs,ts,r1)=>12 - i) (fun (i,Xs,ts,r1)=>[(2,(vP b2 0)),(3,bF),(4,(vP b4 0)),(5,(vP br12 0)),(13,(vI i))]) (fun (i,Xs,ts,r1)=>[aB b2 98 [(.pointer none),(.pointer none),(.pointer none),(.pointer none),(.pointer none),(.pointer none),(.pointer none),(.pointer none),(.pointer none),(.pointer none),(.pointer none),(.pointer none)],aB b4 98 (cA Xs++List.replicate (12 - i) oU),aU X12 br12 (r1),eP Xs ts]) (0,[],[],(Rd.mk D 0 0 0)) ⟨om,rfl,rfl⟩ (fun _ h=>h) ?_
 rintro ⟨i,Xs,ts,r1⟩ ⟨hi,hXl,hrd⟩
 dsimp only
 refine Nc<|lk (.bool (decide (((i:Nat):Int) < 12))) ?_
 refine aS (aJ (aQ (bR rfl (fun hc14=>?_) (fun hc14=>?_))))
 ·have hd14:=of_decide_eq_true hc14
  have hlt:i < 12:=om
  refine St.fact (fun w hM=>(hM.at (i:=2) (c:=aU X12 br12 (r1)) rfl).2.len) (fun hrl=>Nm<|aE<|lx rfl<|Nf ?_)
  cases hdc:fW r1.rest.1 with
  | none =>
    refine aE<|lx rfl<|Nx<|bZ [2] (fun w hM hO=>oS X12 br12 r1 w hO)<|Nx<|kC [2] (fun w hM hO=>rC X12 br12 r1 (r1.D.length - r1.off) w hO om) fun B20 cb20=>?_
    rw [show r1.text (r1.D.length - r1.off)=r1.rest from rfl]
    refine Nx<|bN (fun w hM=>QL B20 cb20 r1.rest.1 w (hM.aL (j:=4) rfl (fun _ h=>aF.aR h)) (by have h9:=r1.wF (r1.D.length - r1.off); unfold Rd.rest; omega) ag)<|lx rfl<|Ne<|lx rfl<|lT<|lx rfl<|lT<|No<|lk (.agg #[(.pointer none),(.pointer none),(.pointer none),(.pointer none),(.pointer none),(.pointer none),(.pointer none),(.pointer none),(.pointer none),(.pointer none),(.pointer none),(.pointer none)])<|Nx<|pT 0 [(.pointer none),(.pointer none),(.pointer none),(.pointer none),(.pointer none),(.pointer none),(.pointer none),(.pointer none),(.pointer none),(.pointer none),(.pointer none),(.pointer none)] rfl<|lx rfl<|Nq<|eA ?_
    have hn:gN D=none:=Jq (i:=i+1) om (Jb hrd (.inl hdc))
    exact iJ [(.agg ([(.pointer none),(.pointer none),(.pointer none),(.pointer none),(.pointer none),(.pointer none),(.pointer none),(.pointer none),(.pointer none),(.pointer none),(.pointer none),(.pointer none)]).toArray),bF] rfl ⟨⟨_,rfl,fun w hM=>mF kr kr (hU (i:=0) (off:=0) rfl (by intro j v hj; rw [Nat.zero_add]; exact hj) w hM)⟩,rfl,trivial⟩ (fun w hM=>⟨[(.pointer none),(.pointer none),(.pointer none),(.pointer none),(.pointer none),(.pointer none),(.pointer none),(.pointer none),(.pointer none),(.pointer none),(.pointer none),(.pointer none)],Xs,ts,vF (by rw [hn]; rfl),(hM.pick [3] rfl rfl),fun us h=>by (rw [hn] at h; cases h),⟨rfl,by simp [Value.oneCell']⟩⟩)
  | some t =>
    refine aE<|lx rfl<|Nx<|bZ [2] (fun w hM hO=>oS X12 br12 r1 w hO)<|Nx<|kC [2] (fun w hM hO=>rC X12 br12 r1 (r1.D.length - r1.off) w hO om) fun B20 cb20=>?_
    rw [show r1.text (r1.D.length - r1.off)=r1.rest from rfl]
    refine Nx<|fP (fun w hM=>Di B20 cb20 r1.rest.1 t w (hM.aL (j:=4) rfl (fun _ h=>aF.aR h)) (by have h9:=r1.wF (r1.D.length - r1.off); unfold Rd.rest; omega) ag) fun X21=>lx rfl<|Ne<|lx rfl<|lF<|lx rfl<|lu (vI (i+1)) (uF _ rfl rfl rfl om om om)<|lu (vU (i+1)) (jH _ (fun _=>kr) rfl rfl (pM om om))<|fI rfl rfl<|bN (fun w hM=>DL X21 t 12 (i+1) w (hM.aL (j:=5) rfl (fun _ h=>h)) (by decide) (by unfold cG; omega))<|lg (.bool (!(iR t 12 (i+1))))<|lk (.bool (!(iR t 12 (i+1)))) ?_
    refine aS (aJ (bR rfl (fun hc33=>?_) (fun hc33=>?_)))
    ·refine aQ ?_
     dsimp only [bC,List.set,List.cons_append,List.nil_append]
     refine aE<|lk (.agg #[(.pointer none),(.pointer none),(.pointer none),(.pointer none),(.pointer none),(.pointer none),(.pointer none),(.pointer none),(.pointer none),(.pointer none),(.pointer none),(.pointer none)])<|Nx<|pT 0 [(.pointer none),(.pointer none),(.pointer none),(.pointer none),(.pointer none),(.pointer none),(.pointer none),(.pointer none),(.pointer none),(.pointer none),(.pointer none),(.pointer none)] rfl<|lx rfl<|Nq<|eA ?_
     have hn:gN D=none:=Jq (i:=i+1) om (Jb hrd (.inr ⟨t,hdc,by simpa using hc33⟩))
     exact iJ [(.agg ([(.pointer none),(.pointer none),(.pointer none),(.pointer none),(.pointer none),(.pointer none),(.pointer none),(.pointer none),(.pointer none),(.pointer none),(.pointer none),(.pointer none)]).toArray),bF] rfl ⟨⟨_,rfl,fun w hM=>mF kr kr (hU (i:=0) (off:=0) rfl (by intro j v hj; rw [Nat.zero_add]; exact hj) w hM)⟩,rfl,trivial⟩ (fun w hM=>⟨[(.pointer none),(.pointer none),(.pointer none),(.pointer none),(.pointer none),(.pointer none),(.pointer none),(.pointer none),(.pointer none),(.pointer none),(.pointer none),(.pointer none)],Xs,ts,vF (by rw [hn]; rfl),(hM.pick [3] rfl rfl),fun us h=>by (rw [hn] at h; cases h),⟨rfl,by simp [Value.oneCell']⟩⟩)
    ·refine jF<|aJ<|aE<|lx rfl<|lw (vP b4 (0+i)) (oF (e:=36) (m:=12) rfl kr kr rfl rfl om)<|Nx<|nJ 1 rfl rfl kr rfl rfl rfl kr rfl (by simp [cA]; omega) ?_
     dsimp only [bC,List.set,List.cons_append,List.nil_append]
     rw [show (cA Xs++List.replicate (12 - i) oU).set (0+i) (vP X21.bt 0)=cA (Xs++[X21])++List.replicate (12 - (i+1)) oU from Jp X21 hXl om]
     exact Nk<|aE<|lw (vI (i+1)) bJ<|lx rfl<|aS (aJ (sA (i+1,Xs++[X21],ts++[t],r1.rest.2) (⟨om,by simp [hXl],Ja hrd hdc (by simpa using hc33)⟩) (by show 12 - (i+1) < 12 - i; omega) (fun w hM=>Mm.ME (cs:=[aB b2 98 [(.pointer none),(.pointer none),(.pointer none),(.pointer none),(.pointer none),(.pointer none),(.pointer none),(.pointer none),(.pointer none),(.pointer none),(.pointer none),(.pointer none)],aB b4 98 ((cA (Xs++[X21])++List.replicate (12 - (i+1)) oU)),aU X12 br12 (r1.rest.2)]) (hM.pick [0,1,2,3,5] rfl rfl))))
 ·have hd14:=of_decide_eq_false hc14
  obtain rfl:i=12:=om
  refine St.mem (cs':=[aB b2 98 [(.pointer none),(.pointer none),(.pointer none),(.pointer none),(.pointer none),(.pointer none),(.pointer none),(.pointer none),(.pointer none),(.pointer none),(.pointer none),(.pointer none)],aB b4 98 (cA Xs),aU X12 br12 (r1),eP Xs ts]) (fun w hM=>by rw [Nat.sub_self,List.replicate_zero,List.append_nil] at hM; exact hM)<|Nj<|aE<|lx rfl<|Nx<|bZ [2] (fun w hM hO=>oQ X12 br12 r1 w hO)<|lx rfl<|Nb<|lw (.agg (cA Xs).toArray) (oD (cA Xs) rfl rfl kr (by rw [gT,hXl]; kernel_rfl) (hU (i:=1) rfl (fun j v hj=>by rw [Nat.zero_add]; exact hj)))<|lx rfl<|lk (.bool ((r1.end_:Int) == 0))<|Nx<|oE 0 (cA Xs) (vs:=cA Xs) rfl rfl kr rfl rfl rfl (by rw [gT,hXl]; kernel_rfl) rfl (by rw [gT,hXl]; decide) (xT Xs) (by rw [List.take_zero,List.nil_append,gT,hXl]; simp) ?_
  exact lx rfl<|Nd<|iJ [(.agg (cA Xs).toArray),(.bool (decide (r1.end_=0)))] rfl ⟨⟨_,rfl,fun w hM=>mF kr (by rw [gT,hXl]; kernel_rfl) (hU (i:=0) (off:=0) rfl (by intro j v hj; rw [Nat.zero_add]; exact hj) w hM)⟩,rfl,trivial⟩ (fun w hM=>⟨cA Xs,Xs,ts,vF (by rw [DN hrd]; by_cases h:r1.end_=0 <;> simp [h]),(hM.pick [3] rfl rfl),fun us h=>by (rw [DN hrd] at h; split at h <;> simp at h; exact ⟨h.symm,rfl,hXl⟩),⟨by rw [gT,hXl],xT Xs⟩⟩)
theorem Js (Xs:List TX) (ts:List BT) (Ys:List TX) (us:List BT) (w:World) (r0:Rf [] w (bW)) (r1:Rf [] w (fun w=>(eP Xs ts).holds w)) (r2:Rf [] w (fun w=>(eP Ys us).holds w)) (okt:mV ts) (tl:ts.length=12) (Xl:Xs.length=12) (oku:mV us) (ul:us.length=12) (Yl:Ys.length=12) :
  Calls Tryz.prog 114 #[(.agg (cA Xs).toArray),(.agg (cA Ys).toArray)] w fun e w'=>e = .returned (vI (gX ts us))∧aK [] w [] w':=by
 refine uE (args:=[(.agg (cA Xs).toArray),(.agg (cA Ys).toArray)]) (zO []) Tryz.func114 rfl 53 rfl [(0,(.agg (cA Xs).toArray)),(1,(.agg (cA Ys).toArray))] ⟨rfl,rfl,trivial⟩ [] (Mm.start w [])<|Nc<|Nx<|Cj (cA Xs) rfl rfl kr rfl rfl (fun b2=>?_)
 refine Nx<|Cj (cA Ys) rfl rfl kr rfl rfl (fun b3=>?_)
 refine lx rfl<|Nb<|lx rfl<|Ne<|lx rfl<|Ng<|FR (ι:=Nat × Int × Nat) (fun (p,z,s)=>p≤12∧z=(p:Int) - 1∧nU ts us p s=gX ts us∧s≤(12 - p)*24) (fun (p,z,s)=>p) (fun (p,z,s)=>[(2,(vP b2 0)),(3,(vP b3 0)),(4,(vi 0)),(5,(vI s)),(6,(vi z))]) (fun (p,z,s)=>[aB b2 98 (cA Xs),aB b3 98 (cA Ys)]) (12,11,0) ⟨om,rfl,rfl,om⟩ ⟨rfl,rfl,rfl,rfl,rfl,trivial⟩ (fun w hM=>by show Mm _ _ [aB b2 98 (cA Xs),aB b3 98 (cA Ys)] w; exact hM) ?_
 rintro ⟨p,z,s⟩ ⟨hp,hz,hes,hsb⟩
 show St _ _ _ [(2,(vP b2 0)),(3,(vP b3 0)),(4,(vi 0)),(5,(vI s)),(6,(vi z))] [aB b2 98 (cA Xs),aB b3 98 (cA Ys)] _
 refine Ny<|lx rfl<|lk (.bool (decide ((z:Int)≥0))) ?_
 refine aS (aJ (bR rfl (fun hc12=>?_) (fun hc12=>?_)))
 ·have hd12:=of_decide_eq_true hc12
  obtain ⟨q,rfl⟩:∃ q,p=q+1:=⟨p - 1,om⟩
  obtain rfl:z=(q:Int):=om
  obtain ⟨XX,hXX⟩:=sW (l:=Xs) (k:=q) om
  obtain ⟨tt,htt⟩:=sW (l:=ts) (k:=q) om
  have rtXX:=r1.imp (fun _ h=>AQ h hXX htt)
  obtain ⟨YY,hYY⟩:=sW (l:=Ys) (k:=q) om
  obtain ⟨uu,huu⟩:=sW (l:=us) (k:=q) om
  have rtYY:=r2.imp (fun _ h=>AQ h hYY huu)
  have hpw:2 ^ (q+1)≤2 ^ 12:=Nat.pow_le_pow_right om om
  have hml:(s+1)*2 ^ (q+1)≤289*2 ^ 12:=Nat.mul_le_mul om hpw
  have hul:uu.cells.length=tt.cells.length:=by rw [(okt q tt htt).2.1,(oku q uu huu).2.1]
  refine Nm<|dN [aB b2 98 (cA Xs),aB b3 98 (cA Ys)] 12 kr (fun _ h=>h)<|am 0 ?_
  refine aV 1 (vP b2 (0+q)) rfl (oF (e:=36) (m:=12) rfl kr kr rfl rfl om)<|aV 2 (vP XX.bt 0) rfl (eT 0 rfl rfl kr rfl (DM hXX))<|am 3 ?_
  refine aV 4 (vP b3 (0+q)) rfl (oF (e:=36) (m:=12) rfl kr kr rfl rfl om)<|aV 5 (vP YY.bt 0) rfl (eT 1 rfl rfl kr rfl (DM hYY))<|aA 6 rfl<|fP (fun w hM=>xH XX tt YY uu w (rtXX.aO hM) (rtYY.aO hM) (Tb okt oku htt huu)) fun Z22=>cN [aB b2 98 (cA Xs),aB b3 98 (cA Ys),cT Z22 (tt.sub uu)] (fun _ h=>h.pick [0,1] rfl rfl) (fun _ h=>h)<|am 7 ?_
  refine aC 8 (vP Z22.bt 0) rfl<|aC 9 (vi 0) rfl<|aa 10 ?_
  refine aa 11 ?_
  refine dO kr<|aJ<|Ny<|lx rfl<|lF<|Nn<|St.to [aB b2 98 (cA Xs),aB b3 98 (cA Ys),cT Z22 (tt.sub uu)] kr ?_
  cases hk:(tt.sub uu).keys with
  | none =>
    refine aE<|lx rfl<|Nx<|bN (fun w hM=>Dg Z22 (tt.sub uu) w (r0.aO hM) (hM.aL (j:=2) rfl (fun _ h=>h)) ag)<|lx rfl<|Ne<|lx rfl<|lT<|No<|lx rfl<|lw (vI (s+1)) (uF _ rfl rfl rfl om om om)<|lx rfl<|lw (vI (q+1)) (uF _ rfl rfl rfl om om om)<|lw (vI ((s+1)*2 ^ (q+1))) (Ta rfl rfl rfl om om)<|lx rfl<|Nq<|eA<|iJ [(vI ((s+1)*2 ^ (q+1)))] rfl ⟨rfl,trivial⟩ (fun w hM=>?_)
    rw [← Sb htt huu hk,hes]
    exact ⟨rfl,(hM.pick [] rfl rfl)⟩
  | some p =>
    obtain ⟨kl,km⟩:=p
    have hkl:=AL hk
    rw [nM hul,(okt q tt htt).2.1] at hkl
    have hes2:nU ts us q (s+kl.length+km.length)=gX ts us:=by rw [← Sc htt huu hk]; exact hes
    refine aE<|lx rfl<|Nx<|wT (fun w hM=>Dh Z22 (tt.sub uu) kl km w (r0.aO hM) (hM.aL (j:=2) rfl (fun _ h=>h)) ag) fun A134 c134 A234 c234=>lx rfl<|Ne<|lx rfl<|lF<|Nu<|jF<|aJ<|aE<|lx rfl<|lk (vI kl.length)<|lx rfl<|lk (vI km.length)<|lw (vI (kl.length+km.length)) (uF _ rfl rfl rfl om om om)<|lw (vI (s+kl.length+km.length)) (uF _ rfl rfl rfl om om om)<|lx rfl<|Nk<|aE<|lx rfl<|lw (.int .i64 (((q:Nat):Int) - 1)) (mH _ rfl rfl rfl rfl om om)<|lx rfl ?_
    exact Na<|uD (q, ((q : Nat) : Int) - 1, s + kl.length + km.length) (⟨om, rfl, hes2, by omega⟩) (by show q < q + 1; omega) ⟨rfl, rfl, rfl, rfl, rfl, trivial⟩ (fun w hM => (hM.pick [0, 1] rfl rfl))
 ·have hd12:=of_decide_eq_false hc12
  obtain rfl:p=0:=om
  have hes0:s=gX ts us:=hes
  refine Nj<|aE<|lx rfl<|Nd<|sN [(vI s)] fun w hM=>?_
  rw [hes0]
  exact ⟨rfl,(hM.pick [] rfl rfl)⟩
end
theorem Te (bs:Nat) (A:Option Addr) (c:Nat) (its:List (List UInt8)) (fan leaf:Nat) (nm om:Nat) (A1:Option Addr) (c1:Nat) (l:List (List UInt8)) (A2:Option Addr) (c2:Nat) (m:List (List UInt8)) (bo:Nat) (R:Value) (N:Option Addr) (nc:Nat) (nl:List (List UInt8)) (O:Option Addr) (oc:Nat) (ol:List (List UInt8)) (w:World) (hO:bO [aB bo 120 [R,(vL N (nl) nc),(vL O (ol) oc)],cS N (nl) nc,cS O (ol) oc] w) (r0:Rf [aB bo 120 [R,(vL N (nl) nc),(vL O (ol) oc)],cS N (nl) nc,cS O (ol) oc] w (fX bs A c its fan leaf nm om)) (r1:Rf [aB bo 120 [R,(vL N (nl) nc),(vL O (ol) oc)],cS N (nl) nc,cS O (ol) oc] w (fun w=>aF w A1 (SS l))) (r2:Rf [aB bo 120 [R,(vL N (nl) nc),(vL O (ol) oc)],cS N (nl) nc,cS O (ol) oc] w (fun w=>aF w A2 (SS m))) (hs:bH its) (hn:its.length≤1000) (hl:l.length≤4294967296) (hm:m.length≤4294967296) (hnl:nl.length≤68719476736) (hol:ol.length≤68719476736) (_hR:R.oneCell'=true) :
  Calls Tryz.prog 63 #[(vP bs 0),(.agg #[(vL A1 l c1),(vL A2 m c2)]),(vP bo 0)] w fun e w'=>∃ (N2:Option Addr) (nc2:Nat) (O2:Option Addr) (oc2:Nat),e = .returned (.tuple #[])∧aK [aB bo 120 [R,(vL N (nl) nc),(vL O (ol) oc)],cS N (nl) nc,cS O (ol) oc] w [aB bo 120 [R,(vL N2 (nl++aH l its) nc2),(vL O2 (ol++cK m its) oc2)],cS N2 (nl++aH l its) nc2,cS O2 (ol++cK m its) oc2] w':=by
 have ra:=r0.imp (fun _ h=>h.1)
 have rb:=r0.imp (fun _ h=>h.2)
 refine kQ Tryz.func63 53 (hO) rfl<|Nc<|Nx<|pB [(vL A1 l c1),(vL A2 m c2)] fun b4=>Ne<|lk (vP b4 0)<|lL 3 rfl<|lk (vI l.length)<|lx rfl<|Ng<|sL (fun (i,N28,nc28)=>i≤l.length) (fun (i,N28,nc28)=>l.length - i) (fun (i,N28,nc28)=>[(0,(vP bs 0)),(2,(vP bo 0)),(4,(vP b4 0)),(11,(vL A1 l c1)),(12,(vI l.length)),(13,(vI i))]) (fun (i,N28,nc28)=>[aB bo 120 [R,(vL N28 (nl++aH (l.take i) its) nc28),(vL O (ol) oc)],cS N28 (nl++aH (l.take i) its) nc28,cS O (ol) oc,aB b4 127 [(vL A1 l c1),(vL A2 m c2)]]) (0,N,nc) (Nat.zero_le _) (fun w hM=>by show Mm _ _ [aB bo 120 [R,(vL N (nl++aH (l.take 0) its) nc),(vL O (ol) oc)],cS N (nl++aH (l.take 0) its) nc,cS O (ol) oc,aB b4 127 [(vL A1 l c1),(vL A2 m c2)]] w; rw [show nl++aH (l.take 0) its=nl from List.append_nil _]; exact hM) ?_
 rintro ⟨i,N28,nc28⟩ (hok:i≤l.length)
 dsimp only
 refine Nc<|lk (.bool (decide (((i:Nat):Int) < ((l.length:Nat):Int)))) ?_
 refine aS (aJ (aQ (bR rfl (fun hc14=>?_) (fun hc14=>?_))))
 ·have hd14:=of_decide_eq_true hc14
  refine Nm<|aE ?_
  obtain ⟨x0,hx0⟩:∃ ξ,(l)[i]?=some ξ:=⟨_,List.getElem?_eq_getElem (by omega)⟩
  refine St.eE (fun w hM=>r1.now hM) (eG hx0) (fun p15 q15 hA15 hc15=>lw (vP p15 (q15+i)) (rR 9 hA15)<|lW (rW hc15)<|lx rfl<|Nb<|lx rfl<|Nx<|bN (fun w hM=>Ds bs A c its fan leaf nm om x0 w (r0.aO hM) ag ag)<|lk (.bool (!(its.contains x0))) ?_)
  refine aS (aJ (bR rfl (fun hc20=>?_) (fun hc20=>?_)))
  ·refine aE<|lx rfl<|lk (vP bo 0)<|lk (vP bo 1)<|lL 0 rfl<|lx rfl<|Nx<|pN 1 9 [(vS x0)] fun b27=>Nx<|fJ kB 1 ([(vS x0)]) rfl rfl kr rfl rfl rfl (rfl) (kA (i:=4) rfl (fun j v h=>by rw [Nat.zero_add]; exact h)) (by simp [Value.oneCell']) (by have h:=jL (l.take i) its; simp only [List.length_append,List.length_take] at *; omega) ((nl++aH (l.take i) its++[x0]).length) fN (SS (nl++aH (l.take i) its++[x0])) (by simp [SS]) (fun A28 c28=>lk (vP bo 0)<|lk (vP bo 1)<|Nx<|pS 0 rfl<|Nk ?_)
   dsimp only [bC,List.set,List.cons_append,List.nil_append]
   refine aE<|lw (vI (i+1)) bJ<|lx rfl<|Na ?_
   rw [show nl++aH (l.take i) its++[x0]=nl++aH (l.take (i+1)) its from by rw [List.append_assoc,xI hx0 (by simpa using hc20)]]
   exact sA (i+1,A28,c28) (by show _≤_; omega) (by show l.length - (i+1) < l.length - i; omega) (fun w hM=>(hM.pick [0,1,2,3] rfl rfl))
  ·refine Nw<|aE<|lw (vI (i+1)) bJ<|lx rfl<|Na ?_
   rw [show nl++aH (l.take i) its=nl++aH (l.take (i+1)) its from by rw [xJ hx0 (by simpa using hc20)]]
   exact sA (i+1,N28,nc28) (by show _≤_; omega) (by show l.length - (i+1) < l.length - i; omega) (fun w hM=>hM)
 ·have hd14:=of_decide_eq_false hc14
  obtain rfl:i=l.length:=by omega
  rw [List.take_length]
  refine Nj<|aE<|lk (vP b4 1)<|lL 3 rfl<|lk (vI m.length)<|lx rfl<|Ng<|sL (fun (i,N49,nc49)=>i≤m.length) (fun (i,N49,nc49)=>m.length - i) (fun (i,N49,nc49)=>[(0,(vP bs 0)),(2,(vP bo 0)),(33,(vL A2 m c2)),(34,(vI m.length)),(35,(vI i))]) (fun (i,N49,nc49)=>[aB bo 120 [R,(vL N28 (nl++aH l its) nc28),(vL N49 (ol++cK (m.take i) its) nc49)],cS N28 (nl++aH l its) nc28,cS N49 (ol++cK (m.take i) its) nc49,aB b4 127 [(vL A1 l c1),(vL A2 m c2)]]) (0,O,oc) (Nat.zero_le _) (fun w hM=>by show Mm _ _ [aB bo 120 [R,(vL N28 (nl++aH l its) nc28),(vL O (ol++cK (m.take 0) its) oc)],cS N28 (nl++aH l its) nc28,cS O (ol++cK (m.take 0) its) oc,aB b4 127 [(vL A1 l c1),(vL A2 m c2)]] w; rw [show ol++cK (m.take 0) its=ol from List.append_nil _]; exact hM) ?_
  rintro ⟨i,N49,nc49⟩ (hok:i≤m.length)
  dsimp only
  refine Nc<|lk (.bool (decide (((i:Nat):Int) < ((m.length:Nat):Int)))) ?_
  refine aS (aJ (aQ (bR rfl (fun hc36=>?_) (fun hc36=>?_))))
  ·have hd36:=of_decide_eq_true hc36
   refine Nm<|aE ?_
   obtain ⟨x0,hx0⟩:∃ ξ,(m)[i]?=some ξ:=⟨_,List.getElem?_eq_getElem (by omega)⟩
   refine St.eE (fun w hM=>r2.now hM) (eG hx0) (fun p37 q37 hA37 hc37=>lw (vP p37 (q37+i)) (rR 9 hA37)<|lW (rW hc37)<|lx rfl<|Nb<|lx rfl<|Nx<|bN (fun w hM=>Ds bs A c its fan leaf nm om x0 w (r0.aO hM) ag ag) ?_)
   refine aS (aJ (bR rfl (fun hc41=>?_) (fun hc41=>?_)))
   ·refine aE<|lx rfl<|lk (vP bo 0)<|lk (vP bo 2)<|lL 0 rfl<|lx rfl<|Nx<|pN 1 9 [(vS x0)] fun b48=>Nx<|fJ kB 2 ([(vS x0)]) rfl rfl kr rfl rfl rfl (rfl) (kA (i:=4) rfl (fun j v h=>by rw [Nat.zero_add]; exact h)) (by simp [Value.oneCell']) (by have h:=IC (m.take i) its; simp only [List.length_append,List.length_take] at *; omega) ((ol++cK (m.take i) its++[x0]).length) fN (SS (ol++cK (m.take i) its++[x0])) (by simp [SS]) (fun A49 c49=>lk (vP bo 0)<|lk (vP bo 2)<|Nx<|pS 0 rfl<|Nk ?_)
    dsimp only [bC,List.set,List.cons_append,List.nil_append]
    refine aE<|lw (vI (i+1)) bJ<|lx rfl<|Na ?_
    rw [show ol++cK (m.take i) its++[x0]=ol++cK (m.take (i+1)) its from by rw [List.append_assoc,IA hx0 hc41]]
    exact sA (i+1,A49,c49) (by show _≤_; omega) (by show m.length - (i+1) < m.length - i; omega) (fun w hM=>(hM.pick [0,1,2,3] rfl rfl))
   ·refine Nw<|aE<|lw (vI (i+1)) bJ<|lx rfl<|Na ?_
    rw [show ol++cK (m.take i) its=ol++cK (m.take (i+1)) its from by rw [IB hx0 hc41]]
    exact sA (i+1,N49,nc49) (by show _≤_; omega) (by show m.length - (i+1) < m.length - i; omega) (fun w hM=>hM)
  ·have hd36:=of_decide_eq_false hc36
   obtain rfl:i=m.length:=by omega
   rw [List.take_length]
   exact Nr<|lN<|jY [] rfl trivial (fun w hM=>⟨N28,nc28,N49,nc49,rfl,(hM.pick [0,1,2] rfl rfl)⟩)
abbrev sX : List Bs := []
theorem Jt {S:List Nat} {w:World} {A:Option Addr}:Ro S w (fun w=>aF w A (B8 cW)):=fun _ _ j v hj=>by simp [B8,cW] at hj
theorem Tf {S:List Nat} {w:World} {A:Option Addr}:Ro S w (fun w=>aF w A (SS sX)):=fun _ _ j v hj=>by simp [sX] at hj
def aX (k : Nat) (D : Bs) : Bs := aD k ++ (aD D.length ++ D)
theorem Tg (l m:List Bs):(cK l m).length≤l.length:=List.length_filter_le _ _
theorem Th (x:List UInt8) (w:World) :
  Calls Tryz.prog 124 #[(vS x)] w fun e w'=>e = .returned bF∧aK [] w [] w':=by
 exact eH Tryz.func124 6 (Mm.start w []) rfl<|Nc<|lx rfl<|Nb<|lx rfl<|lw bF (gC (wO rfl rfl rfl) si)<|lx rfl<|Nd<|sN [bF] fun w hM=>⟨rfl,hM⟩
theorem Ti (x:List UInt8) (w:World) :
  Calls Tryz.prog 87 #[(vS x)] w fun e w'=>e = .returned bF∧aK [] w [] w':=by
 exact eH Tryz.func87 6 (Mm.start w []) rfl<|Nc<|lx rfl<|Nb<|lx rfl<|lw bF (gC (wO rfl rfl rfl) si)<|lx rfl<|Nd<|sN [bF] fun w hM=>⟨rfl,hM⟩
theorem Tj (x y:List UInt8) (w:World) :
  Calls Tryz.prog 86 #[(vS x),(vS y)] w fun e w'=>e = .returned (.bool (decide (x < y)))∧aK [] w [] w':=by
 exact bG Tryz.func86 17 (Mm.start w []) rfl<|Nc<|lx rfl<|Nb<|lx rfl<|Nx<|bN (fun w hM=>Th x w )<|lx rfl<|lF<|lx rfl<|lu (.bool (decide (x < y))) (Cn rfl rfl rfl)<|lk (.bool (decide (x < y)))<|lx rfl<|Nd<|sN [(.bool (decide (x < y)))] fun w hM=>⟨rfl,hM⟩
theorem DP (A:Option Addr) (c:Nat) (l:List (List UInt8)) (x:List UInt8) (w:World) (r0:Rf [] w (fun w=>aF w A (SS l))) (hs:l.Pairwise (· < ·)) (hl:l.length≤68719476736) :
  Calls Tryz.prog 56 #[(vL A l c),(vS x)] w fun e w'=>e = .returned (.tuple #[(vI (aZ l x)),(.bool (l.contains x))])∧aK [] w [] w':=by
 refine bG Tryz.func56 54 (Mm.start w []) rfl<|Nc<|lx rfl<|Nb<|lx rfl<|lk (vI l.length)<|lx rfl<|Nb<|lx rfl<|Nf<|eS<|sL (fun (i,j)=>i≤j∧j≤l.length∧jM (nQ l x) i j=jM (nQ l x) 0 l.length) (fun (i,j)=>j - i) (fun (i,j)=>[(0,(vL A l c)),(1,(vS x)),(4,(vi 0)),(5,bF),(6,(vI l.length)),(7,(vI i)),(8,(vI j))]) (fun (i,j)=>[]) (0,l.length) ⟨Nat.zero_le _,Nat.le_refl _,rfl⟩ (fun _ h=>h) ?_
 rintro ⟨i,j⟩ ⟨h1,h2,h3⟩
 dsimp only
 refine Ny<|lx rfl<|lk (.bool (decide (((i:Nat):Int) < ((j:Nat):Int)))) ?_
 refine aS (aJ (bR rfl (fun hc15=>?_) (fun hc15=>?_)))
 ·have hd15:=of_decide_eq_true hc15
  have hij:i < j:=om
  refine jF<|aJ<|eS<|Nc<|lx rfl<|lw (vI (i+j)) bJ<|lw (vU (i+j)) (jH _ (fun _=>kr) rfl rfl (pM om om))<|lw (vU ((i+j) / 2)) (Gt rfl rfl rfl)<|lw (vI ((i+j) / 2)) (jH _ (fun _=>kr) rfl rfl (qM om om))<|lx rfl<|Nb<|lx rfl ?_
  obtain ⟨x0,hx0⟩:∃ ξ,(l)[(i+j) / 2]?=some ξ:=⟨_,List.getElem?_eq_getElem om⟩
  refine St.eE (fun w hM=>r0.now hM) (eG hx0) (fun p24 q24 hA24 hc24=>lw (vP p24 (q24+((i+j) / 2))) (rR 9 hA24)<|lW (rW hc24)<|lx rfl<|Nx<|bN (fun w hM=>Tj x0 x w ) ?_)
  refine aS (aJ (bR rfl (fun hc27=>?_) (fun hc27=>?_)))
  ·have hd27:=of_decide_eq_true hc27
   refine aE<|lx rfl<|lw (vI (((i+j) / 2)+1)) bJ<|lx rfl<|Nk<|sA (((i+j) / 2)+1,j) (by refine ⟨om,om,?_⟩; rw [← h3]; first | exact (xK hij (by rw [pR hx0,hc27]; rfl)).symm | exact (xL hij (by rw [pR hx0,hc27]; rfl)).symm) (by show j - (((i+j) / 2)+1) < j - i; omega) (fun w hM=>hM)
  ·have hd27:=of_decide_eq_false hc27
   refine aE<|lx rfl<|Nk<|sA (i,((i+j) / 2)) (by refine ⟨om,om,?_⟩; rw [← h3]; first | exact (xK hij (by rw [pR hx0,hc27]; rfl)).symm | exact (xL hij (by rw [pR hx0,hc27]; rfl)).symm) (by show ((i+j) / 2) - i < j - i; omega) (fun w hM=>hM)
 ·have hd15:=of_decide_eq_false hc15
  have hpos:i=aZ l x:=by rw [← As hs,← h3,Ar om]
  subst hpos
  refine Nj<|aE<|lx rfl<|lk (.bool (decide ((((aZ l x):Nat):Int) < ((l.length:Nat):Int))))<|lm ?_
  refine St.dec 35 rfl (fun hc35=>?_) (fun hc35=>?_)
  ·have hd35:=of_decide_eq_true hc35
   refine lx rfl ?_
   obtain ⟨x0,hx0⟩:∃ ξ,(l)[aZ l x]?=some ξ:=⟨_,List.getElem?_eq_getElem om⟩
   refine St.eE (fun w hM=>r0.now hM) (eG hx0) (fun p38 q38 hA38 hc38=>lu (vP p38 (q38+(aZ l x))) (qO (e:=9) rfl kr kr rfl rfl hA38 om)<|lu (vS x0) (hJ rfl rfl kr hc38)<|lx rfl<|lu (.bool (decide (x0=x))) (oG rfl rfl rfl)<|wS ?_)
   refine St.dec 42 rfl (fun hc42=>?_) (fun hc42=>?_)
   ·have hd42:=of_decide_eq_true hc42
    refine lx rfl<|mI ?_
    refine mI ?_
    exact lx rfl<|lg bT<|lT<|lx rfl<|Nd<|sN [(vI (aZ l x)),bT] fun w hM=>⟨vF (by rw [xN hs,hx0]; simpa using hc42),hM⟩
   ·have hd42:=of_decide_eq_false hc42
    exact lx rfl<|St.eE (fun w hM=>r0.now hM) (eG hx0) (fun p45 q45 hA45 hc45=>lu (vP p45 (q45+(aZ l x))) (qO (e:=9) rfl kr kr rfl rfl hA45 om)<|lu (vS x0) (hJ rfl rfl kr hc45)<|fI rfl rfl<|bN (fun w hM=>Ti x0 w )<|lx rfl<|lg bF<|lg bF<|lF<|lx rfl<|Nd<|sN [(vI (aZ l x)),bF] fun w hM=>⟨vF (by rw [xN hs,hx0]; simpa using hc42),hM⟩)
  ·have hd35:=of_decide_eq_false hc35
   refine lx rfl<|mI ?_
   iterate 8 refine mI ?_
   refine lx rfl<|lF<|lx rfl<|Nd<|sN [(vI (aZ l x)),bF] fun w hM=>⟨vF (by rw [xN hs,List.getElem?_eq_none (l:=l) (i:=aZ l x) om]; rfl),hM⟩
theorem Tk (A:Option Addr) (c:Nat) (l:List (List UInt8)) (g:FuncId) (caps:List Value) (p:List UInt8→Bool) (w:World) (r0:Rf [] w (fun w=>aF w A (SS l))) (hl:l.length≤68719476736) (eg:∀ args w,(callFunc g args).run Tryz.prog w = .ok (.enter g args) w) (hc:∀ y∈l,∀ w',Fr [] w w'→Calls Tryz.prog g (#[.string (bD y)]++caps.toArray) w' fun e w''=>e = .returned (.bool (p y))∧Fr [] w' w'') :
  Calls Tryz.prog 161 #[(vL A l c),(.func (.func g) #[] caps.toArray)] w fun e w'=>∃ (z:Int),e = .returned (vi z)∧aK [] w [] w'∧(decide (z≥0)=l.any p):=by
 refine bG Tryz.func161 19 (Mm.start w []) rfl<|Nc<|lx rfl<|Ne<|lx rfl<|lk (vI l.length)<|lx rfl<|Ng<|sL (fun i=>i≤l.length∧(l.take i).any p=false) (fun i=>l.length - i) (fun i=>[(0,(vL A l c)),(1,(.func (.func g) #[] caps.toArray)),(4,(vi 0)),(7,(vI l.length)),(8,(vI i))]) (fun i=>[]) 0 ⟨Nat.zero_le _,rfl⟩ (fun _ h=>h) ?_
 rintro i ⟨o1,o2⟩
 show St _ _ _ [(0,(vL A l c)),(1,(.func (.func g) #[] caps.toArray)),(4,(vi 0)),(7,(vI l.length)),(8,(vI i))] [] _
 refine Nc<|lk (.bool (decide (((i:Nat):Int) < ((l.length:Nat):Int)))) ?_
 refine aS (aJ (aQ (bR rfl (fun hc9=>?_) (fun hc9=>?_))))
 ·have hd9:=of_decide_eq_true hc9
  refine Nm<|aE<|lx rfl<|Nb<|lx rfl ?_
  obtain ⟨x0,hx0⟩:∃ ξ,(l)[i]?=some ξ:=⟨_,List.getElem?_eq_getElem om⟩
  refine St.eE (fun w hM=>r0.now hM) (eG hx0) (fun p14 q14 hA14 hc14=>lw (vP p14 (q14+i)) (rR 9 hA14)<|lW (rW hc14)<|Nx<|Cu (f:=g) (caps:=caps.toArray) rfl rfl rfl eg (fun w hM=>(hc x0 (List.mem_of_getElem? hx0) w hM.fr).mono ?_))
  rintro e w' ⟨rfl,hf⟩
  refine ⟨_,[],rfl,Mm.Fj hf,?_⟩; clear hf hM
  refine aS (aJ (bR rfl (fun hc16=>?_) (fun hc16=>?_)))
  ·exact Nc<|lx rfl<|Nd<|gB<|eA<|eA<|gB<|eA<|sN [(vI i)] fun w hM=>⟨_,rfl,hM,by rw [List.any_eq_true.2 ⟨x0,List.mem_of_getElem? hx0,hc16⟩]; simp⟩
  ·exact Nw<|aE<|lw (vI (i+1)) bJ<|lx rfl<|aS (aJ (sA (i+1) (⟨om,by rw [List.take_add_one,hx0,Option.toList_some,List.any_append,o2]; simpa using hc16⟩) (by show l.length - (i+1) < l.length - i; omega) (fun w hM=>hM)))
 ·have hd9:=of_decide_eq_false hc9
  refine Nj<|aE<|lx rfl<|Nd<|sN [(vi (-1))] fun w hM=>?_
  obtain rfl:i=l.length:=om
  rw [List.take_length] at o2
  exact ⟨_,rfl,hM,by rw [o2]; rfl⟩
theorem Ju (A:Option Addr) (c:Nat) (l:List (List UInt8)) (g:FuncId) (caps:List Value) (p:List UInt8→Bool) (w:World) (r0:Rf [] w (fun w=>aF w A (SS l))) (hl:l.length≤68719476736) (eg:∀ args w,(callFunc g args).run Tryz.prog w = .ok (.enter g args) w) (hc:∀ y∈l,∀ w',Fr [] w w'→Calls Tryz.prog g (#[.string (bD y)]++caps.toArray) w' fun e w''=>e = .returned (.bool (p y))∧Fr [] w' w'') :
  Calls Tryz.prog 153 #[(vL A l c),(.func (.func g) #[] caps.toArray)] w fun e w'=>e = .returned (.bool (l.any p))∧aK [] w [] w':=by
 exact bG Tryz.func153 9 (Mm.start w []) rfl<|Nc<|lx rfl<|Nb<|lx rfl<|Nx<|Cx (fun w hM=>Tk A c l g caps p w (r0.aO hM) om (eg) (fun y hy w' hf=>hc y hy w' (hM.fr.trans hf))) fun z7 heq7=>lk (.bool (decide ((z7:Int)≥0)))<|lx rfl<|Nd<|sN [(.bool (decide ((z7:Int)≥0)))] fun w hM=>⟨by rw [← heq7]; rfl,hM⟩
theorem Jv (x:List UInt8) (b3 bs:Nat) (A:Option Addr) (c:Nat) (its:List (List UInt8)) (v1 v2:Value) (v3 v4:Value) (v5 v6:Value) (v7 v8:Value) (v9 v10:Value) (w:World) (r0:Rf [] w (fun w=>At w b3 55 [(vP bs 0)])) (r1:Rf [] w (fun w=>At w bs 65 [(vL A its c),v1,v2,v3,v4,v5,v6,v7,v8,v9,v10])) (r2:Rf [] w (fun w=>aF w A (SS its))) (hs:its.Pairwise (· < ·)) (hn:its.length≤68719476736) :
  Calls Tryz.prog 152 #[(vS x),(vP b3 0)] w fun e w'=>e = .returned (.bool (its.contains x))∧aK [] w [] w':=by
 exact bG Tryz.func152 16 (Mm.start w []) rfl<|Nc<|lx rfl<|Nb<|lW (rW (fun w hM=>At.cell (r0.now hM) 0))<|lk (vP bs 0)<|lk (vP bs 0)<|lW (rW (fun w hM=>At.cell (r1.now hM) 0))<|lx rfl<|Nx<|bN (fun w hM=>DP A c its x w (r2.aO hM) ag om)<|lx rfl<|Nb<|lx rfl<|Nd<|sN [(.bool (its.contains x))] fun w hM=>⟨rfl,hM⟩
theorem Tl (x:List UInt8) (b7 b3 bs:Nat) (A:Option Addr) (c:Nat) (its:List (List UInt8)) (v1 v2:Value) (v3 v4:Value) (v5 v6:Value) (v7 v8:Value) (v9 v10:Value) (w:World) (r0:Rf [] w (fun w=>At w b7 155 [(.func (.func 152) #[] #[(vP b3 0)])])) (r1:Rf [] w (fun w=>At w b3 55 [(vP bs 0)])) (r2:Rf [] w (fun w=>At w bs 65 [(vL A its c),v1,v2,v3,v4,v5,v6,v7,v8,v9,v10])) (r3:Rf [] w (fun w=>aF w A (SS its))) (hs:its.Pairwise (· < ·)) (hn:its.length≤68719476736) :
  Calls Tryz.prog 154 #[(vS x),(vP b7 0)] w fun e w'=>e = .returned (.bool (!its.contains x))∧aK [] w [] w':=by
 refine bG Tryz.func154 8 (Mm.start w []) rfl<|Nc<|lx rfl<|Nb<|lW (rW (fun w hM=>At.cell (r0.now hM) 0))<|lx rfl<|Nx<|Cu (f:=152) (caps:=#[vP b3 0]) rfl rfl rfl (lO Tryz.func152 kr rfl) (fun w hM=>(Jv x b3 bs A c its v1 v2 v3 v4 v5 v6 v7 v8 v9 v10 w (r1.aO hM) (r2.aO hM) (r3.aO hM) hs hn).mono ?_)
 rintro e w' ⟨rfl,hP⟩
 refine ⟨_,_,rfl,hP,?_⟩; clear hP hM
 exact lk (.bool (!(its.contains x)))<|lx rfl<|Nd<|sN [(.bool (!(its.contains x)))] fun w hM=>⟨rfl,hM⟩
theorem Jw (bs:Nat) (A:Option Addr) (c:Nat) (its:List (List UInt8)) (v1 v2:Value) (v3 v4:Value) (v5 v6:Value) (v7 v8:Value) (v9 v10:Value) (An:Option Addr) (cn:Nat) (needs:List (List UInt8)) (Ao:Option Addr) (co:Nat) (offs:List (List UInt8)) (w:World) (r0:Rf [] w (fun w=>At w bs 65 [(vL A its c),v1,v2,v3,v4,v5,v6,v7,v8,v9,v10])) (r1:Rf [] w (fun w=>aF w A (SS its))) (r2:Rf [] w (fun w=>aF w An (SS needs))) (r3:Rf [] w (fun w=>aF w Ao (SS offs))) (hs:its.Pairwise (· < ·)) (hn:its.length≤68719476736) (hl1:needs.length≤68719476736) (hl2:offs.length≤68719476736) :
  Calls Tryz.prog 123 #[(vP bs 0),(vL An needs cn),(vL Ao offs co)] w fun e w'=>e = .returned (.bool (kG its needs offs))∧aK [] w [] w':=by
 refine kQ Tryz.func123 19 (Mm.start w []) rfl<|Nc<|Nx<|pB [(vP bs 0)] fun b3=>lx rfl<|Nb<|lk (.func (.func 152) #[] #[(vP b3 0)])<|Nx<|pA [.nilFunc] fun b7=>Nx<|pS 1 rfl<|Nb<|lx rfl<|lL 1 rfl<|Nx<|bN (fun w hM=>Ju An cn needs 152 [vP b3 0] (fun y=>its.contains y) w (r2.aO hM) om (lO Tryz.func152 kr rfl) (fun y hy w' hf=>(Jv y b3 bs A c its v1 v2 v3 v4 v5 v6 v7 v8 v9 v10 w' ((hM.aL (j:=0) rfl (fun _ h=>h)).step hf si) ((r0.aO hM).step hf si) ((r1.aO hM).step hf si) hs hn).mono fun e w'' he=>⟨he.1,he.2.fr⟩))<|lk (.bool (!(needs.any (fun y=>its.contains y))))<|lm ?_
 refine St.dec 13 rfl (fun hc13=>?_) (fun hc13=>?_)
 ·exact lx rfl<|lg (.func (.func 154) #[] #[(vP b7 0)])<|fI rfl rfl<|bN (fun w hM=>Ju Ao co offs 154 [vP b7 0] (fun y=>!its.contains y) w (r3.aO hM) om (lO Tryz.func154 kr rfl) (fun y hy w' hf=>(Tl y b7 b3 bs A c its v1 v2 v3 v4 v5 v6 v7 v8 v9 v10 w' ((hM.aL (j:=1) rfl (fun _ h=>h)).step hf si) ((hM.aL (j:=0) rfl (fun _ h=>h)).step hf si) ((r0.aO hM).step hf si) ((r1.aO hM).step hf si) hs hn).mono fun e w'' he=>⟨he.1,he.2.fr⟩))<|lg (.bool (!(offs.any (fun y=>!its.contains y))))<|lk (.bool (!(offs.any (fun y=>!its.contains y))))<|lx rfl<|Nd<|sN [(.bool (!(offs.any (fun y=>!its.contains y))))] fun w hM=>⟨eM (by unfold kG; rw [hc13]; simp),(hM.pick [] rfl rfl)⟩
 ·exact lx rfl<|lF<|lx rfl<|Nd<|sN [bF] fun w hM=>⟨eM (by unfold kG; rw [hc13]; simp),(hM.pick [] rfl rfl)⟩
theorem oV (A:Option Addr) (c:Nat) (l:List (List UInt8)) (A2:Option Addr) (c2:Nat) (m:List (List UInt8)) (w:World) (r0:Rf [] w (fun w=>aF w A (SS l))) (r1:Rf [] w (fun w=>aF w A2 (SS m))) (hl:l.length≤68719476736) (hs2:m.Pairwise (· < ·)) (hl2:m.length≤68719476736) :
  Calls Tryz.prog 25 #[(vL A l c),(vL A2 m c2)] w fun e w'=>∃ (B:Option Addr) (cb:Nat),e = .returned (vL B (cK l m) cb)∧aK [] w [cS B (cK l m) cb] w':=by
 refine bG Tryz.func25 29 (Mm.start w []) rfl<|Nc<|lx rfl<|Nb<|lx rfl<|Ne<|lx rfl<|lk (vI l.length)<|lx rfl<|Ng<|St.mem (fun w hM=>hM.jD 9 1)<|sL (fun (i,B,cb)=>i≤l.length) (fun (i,B,cb)=>l.length - i) (fun (i,B,cb)=>[(1,(vL A2 m c2)),(4,nS),(10,(vL A l c)),(11,(vI l.length)),(5,(vL B (cK (l.take i) m) cb)),(12,(vI i))]) (fun (i,B,cb)=>[cS B (cK (l.take i) m) cb]) (0,none,0) (Nat.zero_le _) (fun _ h=>h) ?_
 rintro ⟨i,B,cb⟩ (hok:i≤l.length)
 dsimp only
 refine Nc<|lk (.bool (decide (((i:Nat):Int) < ((l.length:Nat):Int)))) ?_
 refine aS (aJ (aQ (bR rfl (fun hc13=>?_) (fun hc13=>?_))))
 ·have hd13:=of_decide_eq_true hc13
  refine Nm<|aE ?_
  obtain ⟨x0,hx0⟩:∃ ξ,(l)[i]?=some ξ:=⟨_,List.getElem?_eq_getElem om⟩
  refine St.eE (fun w hM=>r0.now hM) (eG hx0) (fun p14 q14 hA14 hc14=>lw (vP p14 (q14+i)) (rR 9 hA14)<|lW (rW hc14)<|lx rfl<|Nb<|lx rfl<|Nx<|bN (fun w hM=>DP A2 c2 m x0 w (r1.aO hM) ag om)<|lx rfl<|Nb<|lx rfl ?_)
  refine aS (aJ (bR rfl (fun hc22=>?_) (fun hc22=>?_)))
  ·refine aE<|lx rfl<|Nx<|pN 1 9 [(vS x0)] fun b25=>Nx<|fJ kB 0 ([(vS x0)]) rfl rfl kr rfl rfl rfl (rfl) (kA (i:=1) rfl (fun j v h=>by rw [Nat.zero_add]; exact h)) (by simp [Value.oneCell']) (by have h:=Tg (l.take i) m; simp only [List.length_take] at h; omega) ((cK (l.take i) m++[x0]).length) fN (SS (cK (l.take i) m++[x0])) (by simp [SS]) (fun A26 c26=>lx rfl<|Nk<|aE<|lw (vI (i+1)) bJ<|lx rfl<|Na ?_)
   rw [show cK (l.take i) m++[x0]=cK (l.take (i+1)) m from IA hx0 (by simpa using hc22)]
   exact sA (i+1,A26,c26) (by show _≤_; omega) (by show l.length - (i+1) < l.length - i; omega) (fun w hM=>(hM.pick [0] rfl rfl))
  ·refine Nw<|aE<|lw (vI (i+1)) bJ<|lx rfl<|Na ?_
   rw [show cK (l.take i) m=cK (l.take (i+1)) m from IB hx0 (by simpa using hc22)]
   exact sA (i+1,B,cb) (by show _≤_; omega) (by show l.length - (i+1) < l.length - i; omega) (fun w hM=>hM)
 ·have hd13:=of_decide_eq_false hc13
  obtain rfl:i=l.length:=om
  rw [List.take_length]
  exact Nj<|aE<|lx rfl<|Nd<|sN [(vL B (cK l m) cb)] fun w hM=>⟨B,cb,rfl,hM⟩
theorem vG (bs:Nat) (v0 v1:Value) (v2 v3:Value) (v4 v5:Value) (v6 v7:Value) (v8 v9 v10:Value) (k:Nat) (A2:Option Addr) (n2 c2:Nat) (w:World) (hO:bO [aB bs 65 [v0,v1,v2,v3,v4,v5,v6,v7,v8,v9,v10]] w) :
  Calls Tryz.prog 51 #[(vP bs 0),(vI k),(.slice A2 (n2) (c2))] w fun e w'=>e = .returned (.tuple #[])∧aK [aB bs 65 [v0,v1,v2,v3,v4,v5,v6,v7,v8,v9,v10]] w [aB bs 65 [v0,v1,(vi 1),(vI k),(.slice A2 (n2) (c2)),v5,v6,v7,v8,v9,v10]] w':=by
 exact kQ Tryz.func51 17 (hO) rfl<|aE<|lx rfl<|lk (vP bs 0)<|lk (vP bs 2)<|Nx<|pS 0 rfl<|lk (vP bs 0)<|lk (vP bs 3)<|Nx<|pS 0 rfl<|lk (vP bs 0)<|lk (vP bs 4)<|Nx<|pS 0 rfl<|aS<|jY [] rfl trivial (fun w hM=>⟨rfl,hM⟩)
theorem Jx (bs:Nat) (v0 v1:Value) (v2 v3:Value) (v4 v5:Value) (v6 v7:Value) (v8 v9 v10:Value) (A2:Option Addr) (n2 c2:Nat) (A3:Option Addr) (n3 c3:Nat) (w:World) (hO:bO [aB bs 65 [v0,v1,v2,v3,v4,v5,v6,v7,v8,v9,v10]] w) :
  Calls Tryz.prog 121 #[(vP bs 0),(.slice A2 (n2) (c2)),(.slice A3 (n3) (c3))] w fun e w'=>e = .returned (.tuple #[])∧aK [aB bs 65 [v0,v1,v2,v3,v4,v5,v6,v7,v8,v9,v10]] w [aB bs 65 [v0,v1,v2,v3,v4,v5,bT,v7,bT,(.slice A2 (n2) (c2)),(.slice A3 (n3) (c3))]] w':=by
 exact kQ Tryz.func121 20 (hO) rfl<|aE<|lx rfl<|lk (vP bs 0)<|lk (vP bs 6)<|Nx<|pS 0 rfl<|lk (vP bs 0)<|lk (vP bs 8)<|Nx<|pS 0 rfl<|lk (vP bs 0)<|lk (vP bs 9)<|Nx<|pS 0 rfl<|lk (vP bs 0)<|lk (vP bs 10)<|Nx<|pS 0 rfl<|aS<|jY [] rfl trivial (fun w hM=>⟨rfl,hM⟩)
theorem DQ (k:Nat) (A:Option Addr) (c:Nat) (D:List UInt8) (w:World) (r0:Rf [] w (fun w=>aF w A (B8 D))) (hk:k≤100) (hD:D.length≤4294000000) :
  Calls Tryz.prog 52 #[(vI k),(vL A D c)] w fun e w'=>∃ (A2:Option Addr) (c2:Nat),e = .returned (vL A2 (aX k D) c2)∧aK [] w [cB A2 (aX k D) c2] w':=by
 refine bG Tryz.func52 17 (Mm.start w []) rfl<|Nc<|lx rfl<|Nb<|lx rfl<|lw (vU k) (jH _ (fun _=>kr) rfl rfl (pM om om))<|Nx<|cF (fun w hM=>DJ none 0 cW k w Jt om (by decide)) fun A28 c28=>lx rfl<|Nf ?_
 have hnk:=eJ k om
 refine aE<|lx rfl<|lk (vI D.length)<|lw (vU D.length) (jH _ (fun _=>kr) rfl rfl (pM om om))<|Nx<|cF (fun w hM=>DJ A28 c28 (cW++aD k) D.length w (hM.aL (j:=0) rfl (fun _ h=>aF.aR h)) om (by simp only [List.length_append,List.length_nil,cW] at *; omega)) fun A213 c213=>lx rfl<|Nf ?_
 have hnd:=eJ D.length om
 refine aE<|lx rfl<|Nx<|fJ jE 1 (B8 D) rfl rfl kr rfl rfl rfl (by simp [B8]) (fun w hM=>eQ.mC (r0.now hM)) ((jU _)) (by simp only [List.length_append,List.length_nil,cW] at *; omega) (((cW++aD k)++aD D.length++D).length) fN (B8 ((cW++aD k)++aD D.length++D)) (by simp [B8]) (fun A16 c16=>?_)
 rw [show (cW++aD k)++aD D.length++D=aX k D from by simp [aX,cW]]
 exact lx rfl<|Nd<|sN [(vL A16 (aX k D) c16)] fun w hM=>⟨A16,c16,rfl,(hM.pick [1] rfl rfl)⟩
def aT : Nat → (Nat → Nat) → Nat
 | 0, _ => 0
 | n + 1, f => f 0 + 18446744073709551616 * aT n fun i => f (i + 1)
theorem mK:∀ (n:Nat) {f g:Nat→Nat},(∀ i,i < n→f i=g i)→aT n f=aT n g
 | 0,_,_,_=>rfl
 | n+1,f,g,h=>by
   unfold aT
   rw [h 0 om,mK n (fun i hi=>h (i+1) om)]
theorem iB:∀ (n:Nat) (f g:Nat→Nat),aT n f+aT n g=aT n fun i=>f i+g i
 | 0,_,_=>rfl
 | n+1,f,g=>by
   have ih:=iB n (fun i=>f (i+1)) (fun i=>g (i+1))
   show (f 0+18446744073709551616*aT n fun i=>f (i+1))+(g 0+18446744073709551616*aT n fun i=>g (i+1))=(f 0+g 0)+18446744073709551616*aT n fun i=>f (i+1)+g (i+1)
   rw [← ih,Nat.mul_add]
   omega
theorem sY (a b i:Nat) (ha:a < 2 ^ 64):(a+2 ^ 64*b).testBit i=if i < 64 then a.testBit i else b.testBit (i - 64):=by
 rw [Nat.add_comm]
 by_cases h:i < 64
 ·rw [if_pos h,Nat.testBit_two_pow_mul_add _ ha,if_pos h]
 ·rw [if_neg h,Nat.testBit_two_pow_mul_add _ ha,if_neg h]
theorem Tm (a b c d:Nat) (ha:a < 2 ^ 64) (hc:c < 2 ^ 64):(a+2 ^ 64*b) ^^^ (c+2 ^ 64*d)=(a ^^^ c)+2 ^ 64*(b ^^^ d):=by
 apply Nat.eq_of_testBit_eq
 intro i
 rw [Nat.testBit_xor,sY _ _ _ ha,sY _ _ _ hc,sY _ _ _ (Nat.xor_lt_two_pow ha hc)]
 split <;> rw [Nat.testBit_xor]
theorem Jy (a b c d:Nat) (ha:a < 2 ^ 64) (hc:c < 2 ^ 64):(a+2 ^ 64*b) &&& (c+2 ^ 64*d)=(a &&& c)+2 ^ 64*(b &&& d):=by
 apply Nat.eq_of_testBit_eq
 intro i
 rw [Nat.testBit_and,sY _ _ _ ha,sY _ _ _ hc,sY _ _ _ (Nat.and_lt_two_pow _ hc)]
 split <;> rw [Nat.testBit_and]
theorem Jz:∀ (n:Nat) {f g:Nat→Nat},(∀ i,i < n→f i < 2 ^ 64)→(∀ i,i < n→g i < 2 ^ 64)→aT n f ^^^ aT n g=aT n fun i=>f i ^^^ g i
 | 0,_,_,_,_=>by simp [aT]
 | n+1,f,g,hf,hg=>by
   have ih:=Jz n (f:=fun i=>f (i+1)) (g:=fun i=>g (i+1)) (fun i hi=>hf (i+1) om) (fun i hi=>hg (i+1) om)
   show (f 0+18446744073709551616*aT n fun i=>f (i+1)) ^^^ (g 0+18446744073709551616*aT n fun i=>g (i+1))=(f 0 ^^^ g 0)+18446744073709551616*aT n fun i=>f (i+1) ^^^ g (i+1)
   rw [← ih]
   exact Tm _ _ _ _ (hf 0 om) (hg 0 om)
theorem DR:∀ (n:Nat) {f g:Nat→Nat},(∀ i,i < n→f i < 2 ^ 64)→(∀ i,i < n→g i < 2 ^ 64)→aT n f &&& aT n g=aT n fun i=>f i &&& g i
 | 0,_,_,_,_=>by simp [aT]
 | n+1,f,g,hf,hg=>by
   have ih:=DR n (f:=fun i=>f (i+1)) (g:=fun i=>g (i+1)) (fun i hi=>hf (i+1) om) (fun i hi=>hg (i+1) om)
   show (f 0+18446744073709551616*aT n fun i=>f (i+1)) &&& (g 0+18446744073709551616*aT n fun i=>g (i+1))=(f 0 &&& g 0)+18446744073709551616*aT n fun i=>f (i+1) &&& g (i+1)
   rw [← ih]
   exact Jy _ _ _ _ (hf 0 om) (hg 0 om)
theorem kH (k:Nat):∀ (n:Nat) (f:Nat→Nat),k*aT n f=aT n fun i=>k*f i
 | 0,_=>rfl
 | n+1,f=>by
   have ih:=kH k n (fun i=>f (i+1))
   unfold aT
   rw [← ih,Nat.mul_add,Nat.mul_left_comm]
section
theorem DS (m:Nat):∀ (n:Nat) (f:Nat→Nat),aT (n+m) f=aT n f+2 ^ (64*n)*aT m (fun i=>f (n+i))
 | 0,f=>by simp [aT]
 | n+1,f=>by
   have ih:=DS m n (fun i=>f (i+1))
   have e0:aT m (fun i=>f (n+1+i))=aT m (fun i=>f (n+i+1)):=mK m fun i _=>by congr 1; omega
   have e:(18446744073709551616:Nat)=2 ^ 64:=by decide
   rw [show n+1+m=(n+m)+1 by omega,e0]
   show f 0+18446744073709551616*aT (n+m) (fun i=>f (i+1))=(f 0+18446744073709551616*aT n (fun i=>f (i+1)))+_
   rw [ih,show 64*(n+1)=64+64*n by omega,Nat.pow_add,e,Nat.mul_add,Nat.mul_assoc,Nat.add_assoc]
theorem Tn (n:Nat) {f g:Nat→Nat} (h:∀ i,i < n→g i≤f i):aT n f - aT n g=aT n fun i=>f i - g i:=by
 have h1:=iB n (fun i=>f i - g i) g
 have h2:aT n (fun i=>f i - g i+g i)=aT n f:=mK n fun i hi=>by have:=h i hi; omega
 rw [h2] at h1
 omega
structure aP (n : Nat) (X : Nat) (f : Nat → Nat) : Prop where
 eq : X = aT n f
 lt : ∀ i, i < n → f i < 4294967296
theorem JA (a:Nat):a &&& 4294967295=a % 4294967296:=Nat.and_two_pow_sub_one_eq_mod a 32
theorem To (n:Nat) {f:Nat→Nat} (h:∀ i,i < n→f i < 2 ^ 64):aT n f &&& aT n (fun _=>4294967295)=aT n fun i=>f i % 4294967296:=by
 rw [DR n h (fun _ _=>by decide)]
 exact mK n fun i _=>JA _
theorem DT (r:Nat) (hr:r≤32):∀ (n:Nat) {f:Nat→Nat},(∀ i,i < n→f i < 2 ^ 64)→(aT n f / 2 ^ r) &&& aT n (fun _=>4294967295)=aT n fun i=>f i / 2 ^ r % 4294967296
 | 0,_,_=>by simp [aT]
 | n+1,f,h=>by
   have ih:=DT r hr n (f:=fun i=>f (i+1)) (fun i hi=>h (i+1) om)
   have h0:=h 0 om
   show (f 0+18446744073709551616*aT n fun i=>f (i+1)) / 2 ^ r &&& (4294967295+18446744073709551616*aT n fun _=>4294967295)=f 0 / 2 ^ r % 4294967296+18446744073709551616*aT n fun i=>f (i+1) / 2 ^ r % 4294967296
   rw [← ih]
   generalize (aT n fun i=>f (i+1))=b
   have e:(18446744073709551616:Nat)=2 ^ 64:=by decide
   have h1:(18446744073709551616:Nat)*b=2 ^ r*(2 ^ (64 - r)*b):=by rw [e,← Nat.mul_assoc,← Nat.pow_add]; congr 2; omega
   have h2:(2:Nat) ^ (64 - r)*b=2 ^ (64 - r)*(b % 2 ^ r)+2 ^ 64*(b / 2 ^ r):=by
    conv=>lhs; rw [← Nat.mod_add_div b (2 ^ r)]
    rw [Nat.mul_add,← Nat.mul_assoc,← Nat.pow_add]
    congr 3
    omega
   have h3:(f 0+18446744073709551616*b) / 2 ^ r=(f 0 / 2 ^ r+2 ^ (64 - r)*(b % 2 ^ r))+2 ^ 64*(b / 2 ^ r):=by
    rw [h1,Nat.add_mul_div_left _ _ (Nat.two_pow_pos r),h2,Nat.add_assoc]
   have h4:f 0 / 2 ^ r+2 ^ (64 - r)*(b % 2 ^ r) < 2 ^ 64:=by
    have a1:f 0 / 2 ^ r < 2 ^ (64 - r):=by
     rw [Nat.div_lt_iff_lt_mul (Nat.two_pow_pos r),← Nat.pow_add,show 64 - r+r=64 by omega]; exact h0
    have a2:b % 2 ^ r+1≤2 ^ r:=Nat.mod_lt _ (Nat.two_pow_pos r)
    have a3:2 ^ (64 - r)*(b % 2 ^ r)+2 ^ (64 - r)≤2 ^ (64 - r)*2 ^ r:=by rw [← Nat.mul_succ]; exact Nat.mul_le_mul_left _ a2
    rw [← Nat.pow_add,show 64 - r+r=64 by omega] at a3
    omega
   have h5:(f 0 / 2 ^ r+2 ^ (64 - r)*(b % 2 ^ r)) % 4294967296=f 0 / 2 ^ r % 4294967296:=by
    have:(2:Nat) ^ (64 - r)*(b % 2 ^ r)=4294967296*(2 ^ (32 - r)*(b % 2 ^ r)):=by
     rw [← Nat.mul_assoc]
     congr 1
     rw [show (4294967296:Nat)=2 ^ 32 by decide,← Nat.pow_add]
     congr 1
     omega
    rw [this,Nat.add_mul_mod_self_left]
   rw [h3,e,Jy _ _ _ _ h4 (by decide),JA,h5]
theorem Tp {x r:Nat} (hx:x < 4294967296) (h0:0 < r) (hr:r < 32):x*4294967297 / 2 ^ r % 4294967296=rotr r x:=by
 have e1:x*4294967297=2 ^ r*(2 ^ (32 - r)*x)+x:=by
  rw [← Nat.mul_assoc,← Nat.pow_add,show r+(32 - r)=32 by omega]
  omega
 have h1:x / 2 ^ r < 2 ^ (32 - r):=by
  rw [Nat.div_lt_iff_lt_mul (Nat.two_pow_pos r),← Nat.pow_add,show 32 - r+r=32 by omega]; exact hx
 have e2:(2:Nat) ^ 32=2 ^ (32 - r)*2 ^ r:=by rw [← Nat.pow_add]; congr 1; omega
 have e3:2 ^ (32 - r)*x % 4294967296=2 ^ (32 - r)*(x % 2 ^ r):=by
  rw [show (4294967296:Nat)=2 ^ 32 by decide,e2,Nat.mul_mod_mul_left]
 have h2:2 ^ (32 - r)*(x % 2 ^ r)+2 ^ (32 - r)≤4294967296:=by
  have a2:x % 2 ^ r+1≤2 ^ r:=Nat.mod_lt _ (Nat.two_pow_pos r)
  have a3:2 ^ (32 - r)*(x % 2 ^ r+1)≤2 ^ (32 - r)*2 ^ r:=Nat.mul_le_mul_left _ a2
  rw [← e2,Nat.mul_succ] at a3
  exact a3
 unfold rotr
 rw [e1,Nat.add_comm,Nat.add_mul_div_left _ _ (Nat.two_pow_pos r),Nat.add_mod,e3,Nat.mul_comm x,e3,Nat.mod_eq_of_lt (show x / 2 ^ r < 4294967296 by omega),Nat.mod_eq_of_lt om,Nat.or_comm,← Nat.two_pow_add_eq_or_of_lt h1,Nat.add_comm]
section
variable {n X Y Z : Nat} {f g k : Nat → Nat}
def xU (o : Nat) : Nat := 4294967295 * o
theorem DU (n:Nat):xU (aT n fun _=>1)=aT n fun _=>4294967295:=by unfold xU; rw [kH]
def sZ (M r X : Nat) : Nat := (X / 2 ^ r) &&& M
theorem aP.zF (h:aP n X f):∀ i,i < n→f i < 2 ^ 64:=fun i hi=>Nat.lt_trans (h.lt i hi) (by decide)
theorem aP.shr (h:aP n X f) (r:Nat) (hr:r < 32):aP n (sZ (aT n fun _=>4294967295) r X) (fun i=>f i / 2 ^ r) :=
 ⟨by
  unfold sZ
  rw [h.eq,DT r om n h.zF]
  exact mK n fun i hi=>Nat.mod_eq_of_lt (Nat.lt_of_le_of_lt (Nat.div_le_self _ _) (h.lt i hi)),fun i hi=>Nat.lt_of_le_of_lt (Nat.div_le_self _ _) (h.lt i hi)⟩
theorem aP.pE (h:aP n X f) (r:Nat) (h0:0 < r) (hr:r < 32):aP n (sZ (aT n fun _=>4294967295) r (X*4294967297)) (fun i=>rotr r (f i)):=by
 refine ⟨?_,fun i hi=>bU.rotr (h.lt i hi) r⟩
 have e:X*4294967297=aT n fun i=>f i*4294967297:=by
  rw [h.eq,Nat.mul_comm,kH]
  exact mK n fun i _=>Nat.mul_comm _ _
 unfold sZ
 rw [e,DT r om n (fun i hi=>by have:=h.lt i hi; omega)]
 exact mK n fun i hi=>Tp (h.lt i hi) h0 hr
theorem aP.xor (h:aP n X f) (h':aP n Y g):aP n (X ^^^ Y) (fun i=>f i ^^^ g i) :=
 ⟨by rw [h.eq,h'.eq,Jz n h.zF h'.zF],fun i hi=>Nat.xor_lt_two_pow (n:=32) (h.lt i hi) (h'.lt i hi)⟩
theorem aP.and (h:aP n X f) (h':aP n Y g):aP n (X &&& Y) (fun i=>f i &&& g i) :=
 ⟨by rw [h.eq,h'.eq,DR n h.zF h'.zF],fun i hi=>Nat.lt_of_le_of_lt Nat.and_le_right (h'.lt i hi)⟩
theorem aP.not (h:aP n X f):aP n ((aT n fun _=>4294967295) - X) (fun i=>4294967295 - f i) :=
 ⟨by rw [h.eq]; exact Tn n (fun i hi=>by have:=h.lt i hi; omega),fun i _=>by omega⟩
theorem aP.const (n c:Nat) (hc:c < 4294967296):aP n (c*aT n fun _=>1) (fun _=>c):=⟨by rw [kH]; simp,fun _ _=>hc⟩
theorem aP.congr (h:aP n X f) (e:∀ i,i < n→f i=g i):aP n X g:=⟨by rw [h.eq,mK n e],fun i hi=>by rw [← e i hi]; exact h.lt i hi⟩
def three (M A B C : Nat) : Nat := (A ^^^ B ^^^ C) &&& M
theorem AS (M A B C:Nat):three M A B C=(A &&& M) ^^^ (B &&& M) ^^^ (C &&& M):=by unfold three; rw [Nat.and_xor_distrib_right,Nat.and_xor_distrib_right]
def xV (M y : Nat) : Nat := three M (y * 4294967297 / 2 ^ 7) (y * 4294967297 / 2 ^ 18) (y / 2 ^ 3)
def xW (M y : Nat) : Nat := three M (y * 4294967297 / 2 ^ 17) (y * 4294967297 / 2 ^ 19) (y / 2 ^ 10)
def vH (M y : Nat) : Nat := three M (y * 4294967297 / 2 ^ 6) (y * 4294967297 / 2 ^ 11) (y * 4294967297 / 2 ^ 25)
def xX (M y : Nat) : Nat := three M (y * 4294967297 / 2 ^ 2) (y * 4294967297 / 2 ^ 13) (y * 4294967297 / 2 ^ 22)
def xY (M e f g : Nat) : Nat := (e &&& f) ^^^ ((M - e) &&& g)
def AT (a b c : Nat) : Nat := (a &&& b) ^^^ (a &&& c) ^^^ (b &&& c)
theorem aP.sig0 (h:aP n X f):aP n (xV (aT n fun _=>4294967295) X) (fun i=>sig0 (f i)):=by
 unfold xV
 rw [AS]
 exact ((h.pE 7 (by decide) (by decide)).xor (h.pE 18 (by decide) (by decide))).xor (h.shr 3 (by decide))
theorem aP.sig1 (h:aP n X f):aP n (xW (aT n fun _=>4294967295) X) (fun i=>sig1 (f i)):=by
 unfold xW
 rw [AS]
 exact ((h.pE 17 (by decide) (by decide)).xor (h.pE 19 (by decide) (by decide))).xor (h.shr 10 (by decide))
theorem aP.bsig1 (h:aP n X f):aP n (vH (aT n fun _=>4294967295) X) (fun i=>bsig1 (f i)):=by
 unfold vH
 rw [AS]
 exact ((h.pE 6 (by decide) (by decide)).xor (h.pE 11 (by decide) (by decide))).xor (h.pE 25 (by decide) (by decide))
theorem aP.bsig0 (h:aP n X f):aP n (xX (aT n fun _=>4294967295) X) (fun i=>bsig0 (f i)):=by
 unfold xX
 rw [AS]
 exact ((h.pE 2 (by decide) (by decide)).xor (h.pE 13 (by decide) (by decide))).xor (h.pE 22 (by decide) (by decide))
theorem aP.ch (h:aP n X f) (h1:aP n Y g) (h2:aP n Z k):aP n (xY (aT n fun _=>4294967295) X Y Z) (fun i=>FD (f i) (g i) (k i)):=(h.and h1).xor (h.not.and h2)
theorem aP.maj (h:aP n X f) (h1:aP n Y g) (h2:aP n Z k):aP n (AT X Y Z) (fun i=>FE (f i) (g i) (k i)):=((h.and h1).xor (h.and h2)).xor (h1.and h2)
def iS (M X : Nat) : Nat := X &&& M
theorem AU (n:Nat) {f:Nat→Nat} (hX:X=aT n f) (h:∀ i,i < n→f i < 2 ^ 64):aP n (X &&& aT n fun _=>4294967295) (fun i=>f i % 4294967296) :=
 ⟨by rw [hX,To n h],fun i _=>Nat.mod_lt _ (by decide)⟩
theorem oW (a b:Nat):cU a b=(a+b) % 4294967296:=Eq.refl _
theorem aP.Fz (h:aP n X f) (h':aP n Y g):aP n (iS (aT n fun _=>4294967295) (X+Y)) (fun i=>cU (f i) (g i)):=by
 have t:=AU n (X:=X+Y) (f:=fun i=>f i+g i) (by rw [h.eq,h'.eq,iB]) (fun i hi=>by have:=h.lt i hi; have:=h'.lt i hi; omega)
 exact t.congr fun i _=>(oW _ _).symm
theorem aP.XZ (h:aP n X f) (h1:aP n Y g) (h2:aP n Z k):aP n (iS (aT n fun _=>4294967295) (X+(Y+Z))) (fun i=>cU (f i) (cU (g i) (k i))):=by
 have t:=AU n (X:=X+(Y+Z)) (f:=fun i=>f i+(g i+k i)) (by rw [h.eq,h1.eq,h2.eq,iB,iB]) (fun i hi=>by have:=h.lt i hi; have:=h1.lt i hi; have:=h2.lt i hi; omega)
 exact t.congr fun i _=>by rw [oW,oW]; omega
theorem aP.Ya {A:Nat} {p:Nat→Nat} (h:aP n X f) (h1:aP n Y g) (h2:aP n Z k) (h3:aP n A p):aP n (iS (aT n fun _=>4294967295) (X+Y+Z+A)) (fun i=>cU (cU (cU (f i) (g i)) (k i)) (p i)):=by
 have t:=AU n (X:=X+Y+Z+A) (f:=fun i=>f i+g i+k i+p i) (by rw [h.eq,h1.eq,h2.eq,h3.eq,iB,iB,iB]) (fun i hi=>by have:=h.lt i hi; have:=h1.lt i hi; have:=h2.lt i hi; have:=h3.lt i hi; omega)
 exact t.congr fun i _=>by rw [oW,oW,oW]; omega
theorem aP.Yb {A B:Nat} {p q:Nat→Nat} (h:aP n X f) (h1:aP n Y g) (h2:aP n Z k) (h3:aP n A p) (h4:aP n B q):aP n (iS (aT n fun _=>4294967295) (X+Y+Z+A+B)) (fun i=>cU (cU (cU (cU (f i) (g i)) (k i)) (p i)) (q i)):=by
 have t:=AU n (X:=X+Y+Z+A+B) (f:=fun i=>f i+g i+k i+p i+q i) (by rw [h.eq,h1.eq,h2.eq,h3.eq,h4.eq,iB,iB,iB,iB]) (fun i hi=>by have:=h.lt i hi; have:=h1.lt i hi; have:=h2.lt i hi; have:=h3.lt i hi; have:=h4.lt i hi; omega)
 exact t.congr fun i _=>by rw [oW,oW,oW,oW]; omega
end
/-! ### The rounds, with the schedule in a window of 16 words -/
/-- The number is worked out first. -/
def dK {α : Type} (n : Nat) (k : Nat → α) : α := Nat.rec (k 0) (fun m _ => k (m + 1)) n
theorem fD {α:Type} (n:Nat) (k:Nat→α):dK n k=k n:=by cases n <;> rfl
abbrev xZ := Nat → Nat → Nat → Nat → Nat → Nat → Nat → Nat → Nat → Nat → Nat → Nat → Nat → Nat → Nat → Nat → Nat → Nat → Nat → Nat → Nat → Nat → Nat → Nat → Nat
def AW (M o k : Nat) (go : xZ) : xZ := fun w0 w1 w2 w3 w4 w5 w6 w7 w8 w9 w10 w11 w12 w13 w14 w15 a b c d e f g h =>
 dK (iS M (h + vH M e + xY M e f g + k * o + w0)) fun t1 =>
 dK (iS M (t1 + (xX M a + AT a b c))) fun a' =>
 dK (iS M (d + t1)) fun e' =>
 dK (iS M (xW M w14 + w9 + xV M w1 + w0)) fun w16 =>
 go w1 w2 w3 w4 w5 w6 w7 w8 w9 w10 w11 w12 w13 w14 w15 w16 a' a b c e' e f g
def DV (M o : Nat) : xZ := fun _ _ _ _ _ _ _ _ _ _ _ _ _ _ _ _ a b _ _ _ _ _ _ => 4294967296 * iS M (0x6a09e667 * o + a) + iS M (0xbb67ae85 * o + b)
def tA (M o : Nat) (ks : List Nat) : xZ := ks.foldr (AW M o) (DV M o)
theorem Tq (M o k:Nat) (go:xZ) (w0 w1 w2 w3 w4 w5 w6 w7 w8 w9 w10 w11 w12 w13 w14 w15 a b c d e f g h:Nat) :
  AW M o k go w0 w1 w2 w3 w4 w5 w6 w7 w8 w9 w10 w11 w12 w13 w14 w15 a b c d e f g h =
   go w1 w2 w3 w4 w5 w6 w7 w8 w9 w10 w11 w12 w13 w14 w15 (iS M (xW M w14+w9+xV M w1+w0)) (iS M (iS M (h+vH M e+xY M e f g+k*o+w0)+(xX M a+AT a b c))) a b c (iS M (d+iS M (h+vH M e+xY M e f g+k*o+w0))) e f g:=by
 unfold AW
 generalize iS M (h+vH M e+xY M e f g+k*o+w0)=T
 rw [fD]
 generalize iS M (T+(xX M a+AT a b c))=A
 rw [fD]
 generalize iS M (d+T)=D
 rw [fD]
 generalize iS M (xW M w14+w9+xV M w1+w0)=W
 rw [fD]
theorem Tr (M o:Nat):tA M o []=DV M o:=by unfold tA; exact List.foldr_nil
theorem Ts (M o k:Nat) (ks:List Nat):tA M o (k::ks)=AW M o k (tA M o ks):=by unfold tA; exact List.foldr_cons ..
def dL (b : List UInt8) (t : Nat) : Nat := if t < 16 then word b t else tV (eR b t) t
theorem yA (b:List UInt8) {n t:Nat} (h:t < n):(eR b n).getD t 0=dL b t:=by
 rw [List.getD_eq_getElem?_getD,FF b n t h]
 rfl
theorem Tt (b:List UInt8) (t:Nat):dL b (t+16)=cU (cU (cU (sig1 (dL b (t+14))) (dL b (t+9))) (sig0 (dL b (t+1)))) (dL b t):=by
 have h:¬ t+16 < 16:=om
 unfold dL
 rw [if_neg h]
 unfold tV
 rw [show t+16 - 2=t+14 by omega,show t+16 - 7=t+9 by omega,show t+16 - 15=t+1 by omega,show t+16 - 16=t by omega,
  yA b (show t+14 < t+16 by omega),yA b (show t+9 < t+16 by omega),yA b (show t+1 < t+16 by omega),yA b (show t < t+16 by omega)]
 rfl
/-! ### Numbers in order -/
def tB : Nat → Nat
 | 0 => 1
 | k + 1 => tB k * (1 + 2 ^ (64 * 2 ^ k))
def tC : Nat → Nat
 | 0 => 0
 | k + 1 => tC k + 2 ^ (64 * 2 ^ k) * (tC k + 2 ^ k * tB k)
theorem yB:∀ k,tB k=aT (2 ^ k) fun _=>1
 | 0=>rfl
 | k+1=>by
   rw [tB,yB k,Nat.pow_succ,Nat.mul_two,DS,Nat.mul_add,Nat.mul_one,Nat.mul_comm]
theorem AY:∀ k,tC k=aT (2 ^ k) fun i=>i
 | 0=>rfl
 | k+1=>by
   rw [tC,AY k,yB k,kH,iB,Nat.pow_succ,Nat.mul_two,DS]
   congr 3
   funext i
   omega
end
section
/-! ### Sums -/
def fK (l : List Nat) : Nat := l.foldr (fun a b => a ^^^ b) 0
theorem gO (a:Nat) (l:List Nat):fK (a::l)=a ^^^ fK l:=rfl
def vJ (φ : Nat → Bool) : Prop := ∀ a b, φ (a ^^^ b) = (φ a ^^ φ b)
theorem vJ.zero {φ:Nat→Bool} (h:vJ φ):φ 0=false:=by
 have:=h 0 0
 rw [Nat.xor_self] at this
 rw [this]
 cases φ 0 <;> rfl
theorem vJ.all {φ:Nat→Bool} (h:vJ φ):∀ {l:List Nat},(∀ x∈l,φ x=false)→φ (fK l)=false
 | [],_=>h.zero
 | a::l,hl=>by rw [gO,h,hl a si,h.all fun x hx=>hl x (by simp [hx])]; rfl
theorem JB (f:Nat→Nat) (s r:Nat→Bool):∀ l:List Nat,fK ((l.filter fun x=>s x ^^ r x).map f)=fK ((l.filter s).map f) ^^^ fK ((l.filter r).map f)
 | []=>(Nat.xor_self 0).symm
 | a::l=>by
   have ih:=JB f s r l
   rw [List.filter_cons,List.filter_cons,List.filter_cons]
   cases hs:s a <;> cases hr:r a
   ·simpa using ih
   ·simp only [Bool.false_xor,if_true,List.map_cons,gO,ih,Bool.false_eq_true,if_false]
    rw [← Nat.xor_assoc,← Nat.xor_assoc,Nat.xor_comm (f a)]
   ·simp only [Bool.xor_false,if_true,List.map_cons,gO,ih,Bool.false_eq_true,if_false]
    rw [Nat.xor_assoc]
   ·simp only [Bool.xor_self,if_true,List.map_cons,gO,ih,Bool.false_eq_true,if_false]
    rw [Nat.xor_assoc,← Nat.xor_assoc (fK _),Nat.xor_comm (fK _) (f a),Nat.xor_assoc (f a),← Nat.xor_assoc (f a) (f a),Nat.xor_self,Nat.zero_xor]
/-! ### Planes -/
def rE (P v : Nat) : Bool := Nat.beq (Nat.land (Nat.shiftRight P v) 1) 1
theorem DW (P v:Nat):rE P v=P.testBit v:=by
 unfold rE
 rw [Nat.testBit_eq_decide_div_mod_eq]
 have e:Nat.land (Nat.shiftRight P v) 1=P / 2 ^ v % 2:=by
  show (P >>> v) &&& 1=_
  rw [Nat.shiftRight_eq_div_pow,Nat.and_one_is_mod]
 rw [e,Bool.eq_iff_iff,decide_eq_true_eq]
 exact ⟨Nat.eq_of_beq_eq_true,fun h=>by rw [h]; rfl⟩
noncomputable def clr {α : Type} (P v : Nat) (Qs : List Nat) : (List Nat → α) → α := List.rec (motive := fun _ => (List Nat → α) → α) (fun k => k []) (fun Q _ ih k => dK (bif rE Q v then Nat.xor Q P else Q) fun Q' => ih fun r => k (Q' :: r)) Qs
def Tu (P v : Nat) (Qs : List Nat) : List Nat := Qs.map fun Q => bif Q.testBit v then Q ^^^ P else Q
theorem JC {α:Type} (P v:Nat):∀ (Qs:List Nat) (k:List Nat→α),clr P v Qs k=k (Tu P v Qs)
 | [],k=>rfl
 | Q::Qs,k=>by
   show dK (bif rE Q v then Nat.xor Q P else Q) (fun Q'=>clr P v Qs fun r=>k (Q'::r))=_
   rw [fD,JC P v Qs,DW]
   rfl
noncomputable def DX (pre : List Nat) : List Nat → List Nat := List.rec (motive := fun _ => List Nat → List Nat) (fun r => r) (fun x _ ih r => ih (x :: r)) pre
noncomputable def DY {α : Type} (v : Nat) (no : α) (yes : List Nat → α) (pre Ps : List Nat) : α := List.rec (motive := fun _ => List Nat → α) (fun _ => no) (fun P Ps ih pre => bif rE P v then clr P v Ps fun r => yes (DX pre r) else ih (P :: pre)) Ps pre
noncomputable def elim {α : Type} (no : α) (yes : List Nat → α) (V : List Nat) : List Nat → α := List.rec (motive := fun _ => List Nat → α) yes (fun v _ ih Ps => DY v no ih [] Ps) V
section
variable {dH : Nat → Nat} {N : Nat} {Z : Nat → Prop}
def Pl (dH : Nat → Nat) (N : Nat) (Z : Nat → Prop) (P : Nat) : Prop := ∃ φ, vJ φ ∧ (∀ X, X < N → P.testBit X = φ (dH X)) ∧ ∀ z, Z z → φ z = false
def mX (dH : Nat → Nat) (N : Nat) (Z : Nat → Prop) (Ps : List Nat) : Prop := ∀ P ∈ Ps, Pl dH N Z P
theorem Pl.clr {P Q v:Nat} (hP:Pl dH N Z P) (hQ:Pl dH N Z Q) (hv:v < N) (hb:P.testBit v=true):Pl dH N (fun z=>Z z∨z=dH v) (bif Q.testBit v then Q ^^^ P else Q):=by
 obtain ⟨φ,f1,f2,f3⟩:=hP
 obtain ⟨ψ,g1,g2,g3⟩:=hQ
 cases h:Q.testBit v with
 | true =>
   refine ⟨fun x=>ψ x ^^ φ x,fun a b=>?_,fun X hX=>?_,fun z hz=>?_⟩
   ·simp only [f1 a b,g1 a b]
    cases φ a <;> cases φ b <;> cases ψ a <;> cases ψ b <;> rfl
   ·show (Q ^^^ P).testBit X=_
    rw [Nat.testBit_xor,f2 X hX,g2 X hX]
   ·rcases hz with hz | rfl
    ·simp only [f3 z hz,g3 z hz]; rfl
    ·simp only [← f2 v hv,← g2 v hv,h,hb]; rfl
 | false =>
   refine ⟨ψ,g1,g2,fun z hz=>?_⟩
   rcases hz with hz | rfl
   ·exact g3 z hz
   ·rw [← g2 v hv]; exact h
theorem Pl.BP {Q v:Nat} (hQ:Pl dH N Z Q) (hv:v < N) (h:Q.testBit v=false):Pl dH N (fun z=>Z z∨z=dH v) Q:=by
 obtain ⟨ψ,g1,g2,g3⟩:=hQ
 refine ⟨ψ,g1,g2,fun z hz=>?_⟩
 rcases hz with hz | rfl
 ·exact g3 z hz
 ·rw [← g2 v hv]; exact h
theorem Tv {r pre:List Nat} {x:Nat} (h:x∈DX pre r):x∈r∨x∈pre:=by
 induction pre generalizing r with
 | nil=>exact .inl h
 | cons a pre ih =>
   rcases ih h with h | h
   ·rcases List.mem_cons.1 h with rfl | h
    ·exact .inr si
    ·exact .inl h
   ·exact .inr (by simp [h])
theorem JD {v:Nat} (hv:v < N) {yes:List Nat→Bool}:∀ {Ps pre:List Nat},mX dH N Z Ps→mX dH N (fun z=>Z z∨z=dH v) pre→DY v false yes pre Ps=true →
  ∃ P Ps',Pl dH N Z P∧P.testBit v=true∧mX dH N (fun z=>Z z∨z=dH v) Ps'∧yes Ps'=true
 | [],pre,_,_,h=>by cases h
 | P::Ps,pre,hP,hpre,h=>by
   change (bif rE P v then clr P v Ps fun r=>yes (DX pre r) else DY v false yes (P::pre) Ps)=true at h
   rw [DW] at h
   cases hb:P.testBit v with
   | true =>
     rw [hb] at h
     simp only [cond_true] at h
     rw [JC] at h
     refine ⟨P,_,hP P si,hb,fun Q hQ=>?_,h⟩
     rcases Tv hQ with hQ | hQ
     ·obtain ⟨R,hR,rfl⟩:=List.mem_map.1 hQ
      exact (hP P si).clr (hP R (by simp [hR])) hv hb
     ·exact hpre Q hQ
   | false =>
     rw [hb] at h
     simp only [cond_false] at h
     refine JD hv (fun Q hQ=>hP Q (by simp [hQ])) (fun Q hQ=>?_) h
     rcases List.mem_cons.1 hQ with rfl | hQ
     ·exact (hP Q si).BP hv hb
     ·exact hpre Q hQ
theorem AZ {yes:List Nat→Bool}:∀ {V Ps:List Nat} {Z:Nat→Prop},(∀ v∈V,v < N)→mX dH N Z Ps→elim false yes V Ps=true →
  (∃ Ps',mX dH N (fun z=>Z z∨∃ v∈V,z=dH v) Ps'∧yes Ps'=true)∧∀ s:Nat→Bool,V.filter s≠[]→∃ φ,vJ φ∧(∀ z,Z z→φ z=false)∧φ (fK ((V.filter s).map dH))=true
 | [],Ps,Z,_,hP,h=>by
   refine ⟨⟨Ps,fun P hPm=>?_,h⟩,fun s hs=>absurd rfl hs⟩
   obtain ⟨φ,a,b,c⟩:=hP P hPm
   exact ⟨φ,a,b,fun z hz=>hz.elim (c z) fun ⟨v,hv,_⟩=>by cases hv⟩
 | v::V,Ps,Z,hV,hP,h=>by
   obtain ⟨P,Ps1,p1,p2,p3,p4⟩:=JD (hV v si) hP (fun Q hQ=>by cases hQ) h
   obtain ⟨⟨Ps',q1,q2⟩,q3⟩:=AZ (fun x hx=>hV x (by simp [hx])) p3 p4
   refine ⟨⟨Ps',fun Q hQ=>?_,q2⟩,fun s hs=>?_⟩
   ·obtain ⟨φ,a,b,c⟩:=q1 Q hQ
    refine ⟨φ,a,b,fun z hz=>c z ?_⟩
    rcases hz with hz | ⟨x,hx,rfl⟩
    ·exact .inl (.inl hz)
    ·rcases List.mem_cons.1 hx with rfl | hx
     ·exact .inl (.inr rfl)
     ·exact .inr ⟨x,hx,rfl⟩
   ·obtain ⟨φ,a,b,c⟩:=p1
    have hφ:φ (dH v)=true:=by rw [← b v (hV v si)]; exact p2
    by_cases hr:V.filter s=[]
    ·rw [List.filter_cons] at hs ⊢
     split
     ·refine ⟨φ,a,c,?_⟩
      rw [hr]
      simp only [List.map_cons,List.map_nil,gO]
      rw [a,hφ,show fK []=0 from rfl,a.zero]
      rfl
     ·rename_i h0
      rw [if_neg h0] at hs
      exact absurd hr hs
    ·obtain ⟨ψ,d,e,f⟩:=q3 s hr
     refine ⟨ψ,d,fun z hz=>e z (.inl hz),?_⟩
     rw [List.filter_cons]
     split
     ·rw [List.map_cons,gO,d,f,e _ (.inr rfl)]; rfl
     ·exact f
noncomputable def DZ (top acc : Nat) (Ps : List Nat) : Bool := List.rec (motive := fun _ => Nat → Bool) (fun acc => Nat.beq acc top) (fun P _ ih acc => bif Nat.beq acc top then true else dK (Nat.lor acc P) ih) Ps acc
theorem JE {top X:Nat} (hX:top.testBit X=true):∀ {Ps:List Nat} {acc:Nat},DZ top acc Ps=true→acc.testBit X=true∨∃ P∈Ps,P.testBit X=true
 | [],acc,h=>by
   have:=Nat.eq_of_beq_eq_true h
   exact .inl (by rw [this]; exact hX)
 | P::Ps,acc,h=>by
   change (bif Nat.beq acc top then true else dK (Nat.lor acc P) fun a=>DZ top a Ps)=true at h
   cases hb:Nat.beq acc top with
   | true=>exact .inl (by rw [Nat.eq_of_beq_eq_true hb]; exact hX)
   | false =>
     rw [hb] at h
     simp only [cond_false] at h
     rw [fD] at h
     rcases JE hX h with h | ⟨Q,hQ,h⟩
     ·have h':(acc ||| P).testBit X=true:=h
      rw [Nat.testBit_or,Bool.or_eq_true] at h'
      exact h'.imp id fun h=>⟨P,si,h⟩
     ·exact .inr ⟨Q,by simp [hQ],h⟩
noncomputable def Ea (V : List Nat) : Nat → Nat := List.rec (motive := fun _ => Nat → Nat) (fun a => a) (fun v _ ih a => dK (Nat.lor a (Nat.shiftLeft 1 v)) ih) V
theorem Tw {X:Nat} (V:List Nat) (acc:Nat) (h:(Ea V acc).testBit X=true):acc.testBit X=true∨X∈V:=by
 induction V generalizing acc with
 | nil=>exact .inl h
 | cons v V ih =>
   change (dK (Nat.lor acc (Nat.shiftLeft 1 v)) (Ea V)).testBit X=true at h
   rw [fD] at h
   rcases ih _ h with h | h
   ·have h':(acc ||| 1 <<< v).testBit X=true:=h
    rw [Nat.testBit_or,Bool.or_eq_true] at h'
    rcases h' with h' | h'
    ·exact .inl h'
    ·rw [Nat.one_shiftLeft,Nat.testBit_two_pow] at h'
     exact .inr (by simp [of_decide_eq_true h'])
   ·exact .inr (by simp [h])
noncomputable def tD (top : Nat) (Ps V : List Nat) : Bool := elim false (fun Ps' => dK (Ea V 0) fun a => DZ top a Ps') V Ps
theorem Tx {top:Nat} {Ps V:List Nat} (htop:∀ X,X < N→top.testBit X=true) (hP:mX dH N (fun _=>False) Ps) (hV:∀ v∈V,v < N) (hn:V.Nodup) (h:tD top Ps V=true) (s:Nat→Bool) {X:Nat} (hX:X < N) (e:fK ((V.filter s).map dH)=dH X):V.filter s=[X]:=by
 obtain ⟨⟨Ps',h1,h2⟩,h3⟩:=AZ hV hP h
 rw [fD] at h2
 have hXV:X∈V:=by
  rcases JE (htop X hX) h2 with h4 | ⟨P,hPm,h4⟩
  ·rcases Tw V 0 h4 with h5 | h5
   ·rw [Nat.zero_testBit] at h5; cases h5
   ·exact h5
  ·obtain ⟨φ,a,b,c⟩:=h1 P hPm
   rw [b X hX,← e] at h4
   rw [a.all fun x hx=>?_] at h4
   ·cases h4
   ·obtain ⟨y,hy,rfl⟩:=List.mem_map.1 hx
    exact c _ (.inr ⟨y,(List.mem_filter.1 hy).1,rfl⟩)
 have hone:V.filter (fun y=>y == X)=[X]:=by
  rw [List.filter_beq,hn.count,if_pos hXV]
  rfl
 have h0:V.filter (fun y=>s y ^^ (y == X))=[]:=by
  apply Classical.byContradiction
  intro hne
  obtain ⟨φ,a,_,c⟩:=h3 _ hne
  rw [JB,hone,e] at c
  simp only [List.map_cons,List.map_nil,gO] at c
  rw [show fK []=0 from rfl,Nat.xor_zero,Nat.xor_self,a.zero] at c
  cases c
 rw [← hone]
 refine List.filter_congr fun y hy=>?_
 rw [List.filter_eq_nil_iff] at h0
 have:=h0 y hy
 cases h1:s y <;> cases h2:(y == X) <;> simp [h1,h2] at this ⊢
theorem Ty {top:Nat} {Ps V:List Nat} (hP:mX dH N (fun _=>False) Ps) (hV:∀ v∈V,v < N) (h:tD top Ps V=true) (s:Nat→Bool) (e:fK ((V.filter s).map dH)=0):V.filter s=[]:=by
 obtain ⟨_,h3⟩:=AZ hV hP h
 apply Classical.byContradiction
 intro hne
 obtain ⟨φ,a,_,c⟩:=h3 s hne
 rw [e,a.zero] at c
 cases c
noncomputable def free (Ps V : List Nat) : Bool := elim false (fun _ => true) V Ps
theorem Tz {Ps V:List Nat} (hP:mX dH N (fun _=>False) Ps) (hV:∀ v∈V,v < N) (h:free Ps V=true) (s:Nat→Bool) (e:fK ((V.filter s).map dH)=0):V.filter s=[]:=by
 obtain ⟨_,h3⟩:=AZ hV hP h
 apply Classical.byContradiction
 intro hne
 obtain ⟨φ,a,_,c⟩:=h3 s hne
 rw [e,a.zero] at c
 cases c
end
end
theorem pX {W q r:Nat} (h:r < W):(W*q+r) / W=q∧(W*q+r) % W=r:=⟨by rw [Nat.mul_add_div om,Nat.div_eq_of_lt h,Nat.add_zero],by rw [Nat.mul_add_mod,Nat.mod_eq_of_lt h]⟩
def Sv (Y b n : Nat) (B : Nat → Bool) : Prop := ∀ k, Y.testBit k = (decide (k % (64 * b) < b) && decide (k / (64 * b) < n) && B (k / (64 * b) * b + k % (64 * b)))
theorem Sv.sq {Y M b n:Nat} {B:Nat→Bool} (hb:0 < b) (hY:Sv Y b (2*n) B) (hM:Sv M (2*b) n (fun _=>true)):Sv ((Y ||| Y >>> (63*b)) &&& M) (2*b) n B:=by
 intro k
 obtain ⟨q,r,hr,hk⟩:∃ q r,r < 64*(2*b)∧k=64*(2*b)*q+r:=⟨k / (64*(2*b)),k % (64*(2*b)),Nat.mod_lt _ om,(Nat.div_add_mod ..).symm⟩
 rw [Nat.testBit_and,Nat.testBit_or,Nat.testBit_shiftRight,hY k,hY (63*b+k),hM k]
 have e0:64*(2*b)*q=64*b*(2*q):=by ac_rfl
 have e2:k / (64*(2*b))=q∧k % (64*(2*b))=r:=by rw [hk]; exact pX hr
 rw [e2.1,e2.2]
 have hi:q*(2*b)=2*q*b:=by ac_rfl
 by_cases h2:r < 2*b
 ·rw [e0] at hk
  by_cases h1:r < b
  ·have d1:k / (64*b)=2*q∧k % (64*b)=r:=by rw [hk]; exact pX om
   have d2:(63*b+k) % (64*b)=63*b+r:=by
    rw [show 63*b+k=64*b*(2*q)+(63*b+r) by omega]
    exact (pX om).2
   rw [d1.1,d1.2,d2,hi]
   have x1:¬ 63*b+r < b:=om
   by_cases hn:q < n
   ·have x2:2*q < 2*n:=om
    simp [h1,h2,hn,x1,x2]
   ·simp [hn]
  ·have d1:k % (64*b)=r:=by rw [hk]; exact (pX om).2
   have d2:(63*b+k) / (64*b)=2*q+1∧(63*b+k) % (64*b)=r - b:=by
    rw [show 63*b+k=64*b*(2*q+1)+(r - b) by rw [Nat.mul_add,Nat.mul_one]; omega]
    exact pX om
   rw [d1,d2.1,d2.2,hi]
   have x1:r - b < b:=om
   have x3:(2*q+1)*b+(r - b)=2*q*b+r:=by rw [Nat.add_mul]; omega
   rw [x3]
   by_cases hn:q < n
   ·have x2:2*q+1 < 2*n:=om
    simp [h1,h2,hn,x1,x2]
   ·simp [hn]
 ·simp [h2]
def rF (b : Nat) : Nat → Nat
 | 0 => 2 ^ b - 1
 | j + 1 => dK (rF b j) fun X => Nat.lor X (Nat.shiftLeft X (64 * b * 2 ^ j))
theorem JF {b:Nat} (hb:0 < b):∀ j,Sv (rF b j) b (2 ^ j) fun _=>true
 | 0=>fun k=>by
   show (2 ^ b - 1).testBit k=_
   rw [Nat.testBit_two_pow_sub_one]
   by_cases h:k < b
   ·have:=pX (W:=64*b) (q:=0) (r:=k) om
    rw [Nat.mul_zero,Nat.zero_add] at this
    rw [this.1,this.2]
    simp [h]
   ·by_cases h2:k < 64*b
    ·rw [Nat.mod_eq_of_lt h2]; simp [h]
    ·have:¬ k / (64*b) < 1:=by
      have:=(Nat.le_div_iff_mul_le (show 0 < 64*b by omega) (x:=1) (y:=k)).2 om
      omega
     simp [h,this]
 | j+1=>fun k=>by
   have ih:=JF hb j
   unfold rF
   rw [fD]
   show (rF b j ||| rF b j <<< (64*b*2 ^ j)).testBit k=_
   rw [Nat.testBit_or,Nat.testBit_shiftLeft,ih k,ih (k - 64*b*2 ^ j),Nat.pow_succ]
   have hW:0 < 64*b:=om
   by_cases h:k < 64*b*2 ^ j
   ·have h1:k / (64*b) < 2 ^ j:=Nat.div_lt_of_lt_mul h
    have h2:¬ k≥64*b*2 ^ j:=om
    have h3:k / (64*b) < 2 ^ j*2:=om
    simp [h1,h2,h3]
   ·obtain ⟨m,rfl⟩:∃ m,k=64*b*2 ^ j+m:=⟨k - 64*b*2 ^ j,om⟩
    rw [Nat.mul_add_div hW,Nat.mul_add_mod,Nat.add_sub_cancel_left]
    have h2:64*b*2 ^ j+m≥64*b*2 ^ j:=om
    generalize m / (64*b)=e
    have h1:¬ 2 ^ j+e < 2 ^ j:=om
    by_cases h3:e < 2 ^ j
    ·have h4:2 ^ j+e < 2 ^ j*2:=om
     simp [h1,h2,h3,h4]
    ·have h4:¬ 2 ^ j+e < 2 ^ j*2:=om
     simp [h1,h3,h4]
def Ba : List Nat → Nat → Prop
 | [], _ => True
 | M :: ms, b => Sv M (2 * b) (2 ^ ms.length) (fun _ => true) ∧ Ba ms (2 * b)
def Bb {α : Type} : Nat → Nat → (List Nat → α) → α
 | 0, _, k => k []
 | j + 1, b, k => dK (rF (2 * b) j) fun M => dK (2 * b) fun b' => Bb j b' fun ms => k (M :: ms)
theorem JG {α:Type}:∀ (j:Nat) {b:Nat} (_:0 < b) (k:List Nat→α),∃ ms,Bb j b k=k ms∧ms.length=j∧Ba ms b
 | 0,_,_,k=>⟨[],rfl,rfl,trivial⟩
 | j+1,b,hb,k=>by
   obtain ⟨ms,h1,h2,h3⟩:=JG j (b:=2*b) om fun ms=>k (rF (2*b) j::ms)
   refine ⟨rF (2*b) j::ms,?_,by simp [h2],?_,h3⟩
   ·unfold Bb; rw [fD,fD]; exact h1
   ·rw [h2]; exact JF om j
def Bc {α : Type} : List Nat → Nat → Nat → (Nat → α) → α
 | [], _, Y, k => k Y
 | M :: ms, b, Y, k => dK (Nat.land (Nat.lor Y (Nat.shiftRight Y (63 * b))) M) fun Y' => dK (2 * b) fun b' => Bc ms b' Y' k
theorem JH {α:Type} {B:Nat→Bool}:∀ (ms:List Nat) {b Y:Nat} (_:0 < b) (_:Ba ms b) (_:Sv Y b (2 ^ ms.length) B) (k:Nat→α),∃ P,Bc ms b Y k=k P∧Sv P (2 ^ ms.length*b) 1 B
 | [],b,Y,_,_,hY,k=>⟨Y,rfl,by rw [List.length_nil,Nat.pow_zero,Nat.one_mul]; exact hY⟩
 | M::ms,b,Y,hb,hm,hY,k=>by
   rw [List.length_cons,Nat.pow_succ,Nat.mul_comm] at hY
   obtain ⟨P,h1,h2⟩:=JH ms (b:=2*b) om hm.2 (hY.sq hb hm.1) k
   refine ⟨P,?_,?_⟩
   ·unfold Bc; rw [fD,fD]; exact h1
   ·rw [List.length_cons,Nat.pow_succ,Nat.mul_assoc]; exact h2
theorem Sv.get {P N X:Nat} {B:Nat→Bool} (h:Sv P N 1 B) (hX:X < N):P.testBit X=B X:=by
 rw [h X]
 have:=pX (W:=64*N) (q:=0) (r:=X) om
 rw [Nat.mul_zero,Nat.zero_add] at this
 rw [this.1,this.2]
 simp [hX]
theorem Eb:∀ (n:Nat) {f:Nat→Nat},(∀ i,i < n→f i < 2 ^ 64)→∀ k,(aT n f).testBit k=(decide (k / 64 < n) && (f (k / 64)).testBit (k % 64))
 | 0,_,_,k=>by simp [aT]
 | n+1,f,h,k=>by
   have ih:=Eb n (f:=fun i=>f (i+1)) (fun i hi=>h (i+1) om)
   unfold aT
   rw [show (18446744073709551616:Nat)=2 ^ 64 by decide,sY _ _ _ (h 0 om),ih]
   split
   ·rename_i hk
    rw [Nat.div_eq_of_lt hk,Nat.mod_eq_of_lt hk]
    simp
   ·rename_i hk
    rw [show k / 64=(k - 64) / 64+1 by omega,show k % 64=(k - 64) % 64 by omega]
    congr 1
    rw [decide_eq_decide]
    omega
theorem TA {n j:Nat} {f:Nat→Nat} (h:∀ i,i < n→f i < 2 ^ 64) (hj:j < 64):Sv ((aT n f >>> j) &&& aT n fun _=>1) 1 n fun i=>(f i).testBit j:=fun k=>by
 rw [Nat.testBit_and,Nat.testBit_shiftRight,Eb n h,Eb n (fun _ _=>by decide)]
 by_cases hk:k % 64=0
 ·rw [show (j+k) / 64=k / 64 by omega,show (j+k) % 64=j by omega,Nat.mul_one,Nat.mul_one,hk,Nat.add_zero]
  dsimp only
  generalize decide (k / 64 < n)=p
  generalize (f (k / 64)).testBit j=q
  cases p <;> cases q <;> rfl
 ·have h1:(1:Nat).testBit (k % 64)=false:=by
   rw [show (1:Nat)=2 ^ 0 from rfl,Nat.testBit_two_pow]
   exact decide_eq_false (fun e=>hk e.symm)
  have h2:¬ k % (64*1) < 1:=om
  rw [h1]
  simp [h2]
def pY {α : Type} (X o : Nat) (ms : List Nat) : List Nat → (List Nat → α) → α
 | [], k => k []
 | j :: js, k => dK (Nat.land (Nat.shiftRight X j) o) fun Y => Bc ms 1 Y fun P => pY X o ms js fun r => k (P :: r)
theorem Ec {α:Type} {ms:List Nat} (hm:Ba ms 1) {f:Nat→Nat} (hf:∀ i,i < 2 ^ ms.length→f i < 2 ^ 64):∀ (js:List Nat) (_:∀ j∈js,j < 64) (k:List Nat→α),
  ∃ L,pY (aT (2 ^ ms.length) f) (aT (2 ^ ms.length) fun _=>1) ms js k=k L∧∀ P∈L,∃ j∈js,∀ i,i < 2 ^ ms.length→P.testBit i=(f i).testBit j
 | [],_,k=>⟨[],rfl,fun P hP=>by cases hP⟩
 | j::js,hj,k=>by
   obtain ⟨P,h1,h2⟩:=JH ms (by decide) hm (TA hf (hj j si)) fun P=>pY (aT (2 ^ ms.length) f) (aT (2 ^ ms.length) fun _=>1) ms js fun r=>k (P::r)
   obtain ⟨L,h3,h4⟩:=Ec hm hf js (fun x hx=>hj x (by simp [hx])) fun r=>k (P::r)
   refine ⟨P::L,?_,fun Q hQ=>?_⟩
   ·unfold pY; rw [fD]; exact h1.trans h3
   ·rcases List.mem_cons.1 hQ with rfl | hQ
    ·rw [Nat.mul_one] at h2
     exact ⟨j,si,fun i hi=>h2.get hi⟩
    ·obtain ⟨x,hx,h⟩:=h4 Q hQ
     exact ⟨x,by simp [hx],h⟩
theorem TB (n:Nat) (B:Nat→List UInt8) (s0:S8):∀ (ks:List Nat) (t:Nat) (w0 w1 w2 w3 w4 w5 w6 w7 w8 w9 w10 w11 w12 w13 w14 w15 a b c d e f g h:Nat),
  ks=kO.drop t→ks.length+t=64 →
  aP n w0 (fun i=>dL (B i) t)→aP n w1 (fun i=>dL (B i) (t+1))→aP n w2 (fun i=>dL (B i) (t+2))→aP n w3 (fun i=>dL (B i) (t+3))→aP n w4 (fun i=>dL (B i) (t+4))→aP n w5 (fun i=>dL (B i) (t+5))→aP n w6 (fun i=>dL (B i) (t+6))→aP n w7 (fun i=>dL (B i) (t+7)) →
  aP n w8 (fun i=>dL (B i) (t+8))→aP n w9 (fun i=>dL (B i) (t+9))→aP n w10 (fun i=>dL (B i) (t+10))→aP n w11 (fun i=>dL (B i) (t+11))→aP n w12 (fun i=>dL (B i) (t+12))→aP n w13 (fun i=>dL (B i) (t+13))→aP n w14 (fun i=>dL (B i) (t+14))→aP n w15 (fun i=>dL (B i) (t+15)) →
  aP n a (fun i=>(rounds (eR (B i) 64) s0 t).a)→aP n b (fun i=>(rounds (eR (B i) 64) s0 t).b)→aP n c (fun i=>(rounds (eR (B i) 64) s0 t).c)→aP n d (fun i=>(rounds (eR (B i) 64) s0 t).d) →
  aP n e (fun i=>(rounds (eR (B i) 64) s0 t).e)→aP n f (fun i=>(rounds (eR (B i) 64) s0 t).f)→aP n g (fun i=>(rounds (eR (B i) 64) s0 t).g)→aP n h (fun i=>(rounds (eR (B i) 64) s0 t).h) →
  tA (aT n fun _=>4294967295) (aT n fun _=>1) ks w0 w1 w2 w3 w4 w5 w6 w7 w8 w9 w10 w11 w12 w13 w14 w15 a b c d e f g h
   = aT n fun i=>4294967296*cU 0x6a09e667 (rounds (eR (B i) 64) s0 64).a+cU 0xbb67ae85 (rounds (eR (B i) 64) s0 64).b:=by
 intro ks
 induction ks with
 | nil =>
   intro t w0 w1 w2 w3 w4 w5 w6 w7 w8 w9 w10 w11 w12 w13 w14 w15 a b c d e f g h _ ht _ _ _ _ _ _ _ _ _ _ _ _ _ _ _ _ ha hb _ _ _ _ _ _
   obtain rfl:t=64:=by simpa using ht
   have h1:=(aP.const n 0x6a09e667 (by decide)).Fz ha
   have h2:=(aP.const n 0xbb67ae85 (by decide)).Fz hb
   rw [Tr]
   unfold DV
   rw [h1.eq,h2.eq,kH,iB]
 | cons k ks ih =>
   intro t w0 w1 w2 w3 w4 w5 w6 w7 w8 w9 w10 w11 w12 w13 w14 w15 a b c d e f g h hk ht h0 h1 h2 h3 h4 h5 h6 h7 h8 h9 h10 h11 h12 h13 h14 h15 ha hb hc hd he hf hg hh
   rw [List.length_cons] at ht
   have hlt:t < kO.length:=by have:kO.length=64:=rfl; omega
   rw [List.drop_eq_getElem_cons hlt] at hk
   injection hk with hk1 hk2
   have hkk:kO.getD t 0=k:=by rw [List.getD_eq_getElem?_getD,List.getElem?_eq_getElem hlt,hk1]; rfl
   have hk32:k < 4294967296:=by rw [hk1]; exact MQ _ (List.getElem_mem hlt)
   have hW:∀ i,(eR (B i) 64).getD t 0=dL (B i) t:=fun i=>yA _ om
   rw [Ts]
   rw [Tq]
   have t1:=hh.Yb he.bsig1 (he.ch hf hg) (aP.const n k hk32) h0
   have t1':aP n _ (fun i=>(rounds (eR (B i) 64) s0 t).t1 (kO.getD t 0) ((eR (B i) 64).getD t 0)):=t1.congr fun i _=>by rw [hkk,hW]; rfl
   have t2:=t1'.XZ ha.bsig0 (ha.maj hb hc)
   refine ih (t+1) _ _ _ _ _ _ _ _ _ _ _ _ _ _ _ _ _ _ _ _ _ _ _ _ hk2 om h1 h2 h3 h4 h5 h6 h7 h8 h9 h10 h11 h12 h13 h14 h15 ?_ ?_ ha hb hc ?_ he hf hg
   ·exact (h14.sig1.Ya h9 h1.sig0 h0).congr fun i _=>by rw [show t+1+15=t+16 by omega,Tt]
   ·exact t2
   ·exact hd.Fz t1'
section
def kk (X : Nat) : List UInt8 := UInt8.ofNat X :: UInt8.ofNat (X / 256) :: List.replicate 30 0
def Bd (b : List UInt8) : Nat := 4294967296 * cU 0x6a09e667 (rounds (eR b 64) (S8.of mQ) 64).a + cU 0xbb67ae85 (rounds (eR b 64) (S8.of mQ) 64).b
theorem Ed (w k:Nat):(cY w k).toNat=w / 2 ^ (8*k) % 256:=by
 unfold cY
 rw [UInt8.toNat_ofNat']
 exact Nat.mod_mod _ _
theorem TC {A B:Nat} (hA:A < 4294967296) (hB:B < 4294967296) (rest:List UInt8):iL (cY A 3::cY A 2::cY A 1::cY A 0::cY B 3::cY B 2::cY B 1::cY B 0::rest) 8=4294967296*A+B:=by
 show (((((((0*256+(cY A 3).toNat)*256+(cY A 2).toNat)*256+(cY A 1).toNat)*256+(cY A 0).toNat)*256+(cY B 3).toNat)*256+(cY B 2).toNat)*256+(cY B 1).toNat)*256+(cY B 0).toNat=_
 simp only [Ed,Nat.reduceMul,Nat.reducePow]
 omega
theorem JI {m:List UInt8} (h:(m++lK m.length).length=64):iL (dM m) 8=Bd (m++lK m.length):=by
 have e:dM m=lJ (jV mQ (m++lK m.length)):=by
  unfold dM
  rw [h]
  show lJ (jW 0 (jV mQ ((m++lK m.length).take 64)) ((m++lK m.length).drop 64))=_
  rw [List.take_of_length_le om]
  rfl
 rw [e]
 exact TC (Nat.mod_lt _ (by decide)) (Nat.mod_lt _ (by decide)) (lJ ((jV mQ (m++lK m.length)).drop 2))
/-! ### The words of their blocks -/
def JJ (s aD X : Nat) : List UInt8 := qR s ++ [UInt8.ofNat aD] ++ kk X
def mL (s aD X : Nat) : List UInt8 := JJ s aD X ++ lK 41
def mM (X : Nat) : List UInt8 := kk X ++ lK 32
theorem TD:lK 41=128::(List.replicate 14 0++[0,0,0,0,0,0,1,72]):=by decide +kernel
theorem TE:lK 32=128::(List.replicate 23 0++[0,0,0,0,0,0,1,0]):=by decide +kernel
theorem vK (s aD X:Nat):mL s aD X=[cY s 7,cY s 6,cY s 5,cY s 4,cY s 3,cY s 2,cY s 1,cY s 0,UInt8.ofNat aD,UInt8.ofNat X,UInt8.ofNat (X / 256),0,0,0,0,0,0,0,0,0,0,0,0,0,0,0,0,0,0,0,0,0,0,0,0,0,0,0,0,0,0,128,0,0,0,0,0,0,0,0,0,0,0,0,0,0,0,0,0,0,0,0,1,72]:=by unfold mL; rw [TD]; rfl
theorem Be (X:Nat):mM X=[UInt8.ofNat X,UInt8.ofNat (X / 256),0,0,0,0,0,0,0,0,0,0,0,0,0,0,0,0,0,0,0,0,0,0,0,0,0,0,0,0,0,0,128,0,0,0,0,0,0,0,0,0,0,0,0,0,0,0,0,0,0,0,0,0,0,0,0,0,0,0,0,0,1,0]:=by unfold mM; rw [TE]; rfl
theorem TF (s aD X:Nat):eB s aD (kk X)=Bd (mL s aD X):=JI (m:=JJ s aD X) (show (mL s aD X).length=64 by rw [vK]; rfl)
theorem TG (X:Nat):iL (dM (kk X)) 8=Bd (mM X):=JI (m:=kk X) (show (mM X).length=64 by rw [Be]; rfl)
theorem Ee {a b:Nat} (k:Nat) (hb:b < 2 ^ k):(a*2 ^ k) ||| b=a*2 ^ k+b:=by
 have:=Nat.two_pow_add_eq_or_of_lt hb a
 rw [Nat.mul_comm,this]
theorem TH {a b c d:Nat} (hb:b < 256) (hc:c < 256) (hd:d < 256):(a*2 ^ 24) ||| (b*2 ^ 16) ||| (c*2 ^ 8) ||| d=16777216*a+65536*b+256*c+d:=by
 have f24:∀ x y,y < 16777216→(x*16777216) ||| y=x*16777216+y:=fun x y h=>by simpa using Ee (a:=x) 24 (b:=y) (by simpa using h)
 have f16:∀ x y,y < 65536→(x*65536) ||| y=x*65536+y:=fun x y h=>by simpa using Ee (a:=x) 16 (b:=y) (by simpa using h)
 have f8:∀ x y,y < 256→(x*256) ||| y=x*256+y:=fun x y h=>by simpa using Ee (a:=x) 8 (b:=y) (by simpa using h)
 simp only [Nat.reducePow]
 rw [f24 _ _ om,show a*16777216+b*65536=(a*256+b)*65536 by omega,f16 _ _ om,show (a*256+b)*65536+c*256=((a*256+b)*256+c)*256 by omega,f8 _ _ hd]
 omega
theorem lX {b:List UInt8} {t:Nat} (x0 x1 x2 x3:UInt8) (ht:t < 16) (h0:b[4*t]?=some x0) (h1:b[4*t+1]?=some x1) (h2:b[4*t+2]?=some x2) (h3:b[4*t+3]?=some x3):dL b t=16777216*x0.toNat+65536*x1.toNat+256*x2.toNat+x3.toNat:=by
 unfold dL
 rw [if_pos ht]
 unfold word
 simp only [List.getD_eq_getElem?_getD,h0,h1,h2,h3,Option.getD_some]
 exact TH (UInt8.toNat_lt _) (UInt8.toNat_lt _) (UInt8.toNat_lt _)
theorem wA0 {s:Nat} (hs:s < 256) (aD X:Nat):dL (mL s aD X) 0=0:=by
 rw [vK,lX _ _ _ _ (by decide) rfl rfl rfl rfl]
 simp only [Ed,Nat.reduceMul,Nat.reducePow]
 omega
theorem wA1 {s:Nat} (hs:s < 256) (aD X:Nat):dL (mL s aD X) 1=s:=by
 rw [vK,lX _ _ _ _ (by decide) rfl rfl rfl rfl]
 simp only [Ed,Nat.reduceMul,Nat.reducePow]
 omega
theorem wA2 {aD X:Nat} (s:Nat) (hn:aD < 256) (hX:X < 65536):dL (mL s aD X) 2=aD*16777216+65536*(X % 256)+256*(X / 256):=by
 rw [vK,lX _ _ _ _ (by decide) rfl rfl rfl rfl]
 have:(0:UInt8).toNat=0:=rfl
 rw [UInt8.toNat_ofNat',UInt8.toNat_ofNat',UInt8.toNat_ofNat',this]
 simp only [Nat.reducePow]
 omega
theorem wC0 {X:Nat} (hX:X < 65536):dL (mM X) 0=16777216*(X % 256)+65536*(X / 256):=by
 rw [Be,lX _ _ _ _ (by decide) rfl rfl rfl rfl]
 have:(0:UInt8).toNat=0:=rfl
 rw [UInt8.toNat_ofNat',UInt8.toNat_ofNat',this]
 simp only [Nat.reducePow]
 omega
theorem wA (s aD X:Nat):dL (mL s aD X) 8=0∧dL (mL s aD X) 10=8388608∧dL (mL s aD X) 15=328:=by
 rw [vK]
 exact ⟨(lX 0 0 0 0 (by decide) rfl rfl rfl rfl).trans rfl,(lX 0 128 0 0 (by decide) rfl rfl rfl rfl).trans rfl,(lX 0 0 1 72 (by decide) rfl rfl rfl rfl).trans rfl⟩
theorem wC (X:Nat):dL (mM X) 1=0∧dL (mM X) 2=0∧dL (mM X) 8=2147483648∧dL (mM X) 10=0∧dL (mM X) 15=256:=by
 rw [Be]
 exact ⟨(lX 0 0 0 0 (by decide) rfl rfl rfl rfl).trans rfl,(lX 0 0 0 0 (by decide) rfl rfl rfl rfl).trans rfl,(lX 128 0 0 0 (by decide) rfl rfl rfl rfl).trans rfl,(lX 0 0 0 0 (by decide) rfl rfl rfl rfl).trans rfl,(lX 0 0 1 0 (by decide) rfl rfl rfl rfl).trans rfl⟩
theorem wZ (s aD X t:Nat) (ht:t=3∨t=4∨t=5∨t=6∨t=7∨t=9∨t=11∨t=12∨t=13∨t=14):dL (mL s aD X) t=0∧dL (mM X) t=0:=by
 rw [vK,Be]
 rcases ht with rfl | rfl | rfl | rfl | rfl | rfl | rfl | rfl | rfl | rfl <;>
  exact ⟨(lX 0 0 0 0 (by decide) rfl rfl rfl rfl).trans rfl,(lX 0 0 0 0 (by decide) rfl rfl rfl rfl).trans rfl⟩
section
variable {n F : Nat} {f : Nat → Nat}
theorem aP.low (h:aP n F f):aP n (F &&& 255*aT n fun _=>1) (fun i=>f i % 256):=(h.and (aP.const n 255 (by decide))).congr fun i _=>Nat.and_two_pow_sub_one_eq_mod (f i) 8
def Bf (M o F aD : Nat) : Nat := aD * 16777216 * o + 65536 * (F &&& 255 * o) + 256 * sZ M 8 F
def Bg (M o F : Nat) : Nat := 16777216 * (F &&& 255 * o) + 65536 * sZ M 8 F
theorem TI (h:aP n F f) (hf:∀ i,i < n→f i < 65536) (s:Nat) {aD:Nat} (hn:aD < 256):aP n (Bf (aT n fun _=>4294967295) (aT n fun _=>1) F aD) (fun i=>dL (mL s aD (f i)) 2):=by
 have h1:=h.low
 have h2:=h.shr 8 (by decide)
 have key:aP n (Bf (aT n fun _=>4294967295) (aT n fun _=>1) F aD) (fun i=>aD*16777216+65536*(f i % 256)+256*(f i / 256)):=by
  refine ⟨?_,fun i hi=>by have:=hf i hi; omega⟩
  unfold Bf
  rw [h1.eq,h2.eq,kH,kH,kH,iB,iB]
  exact mK _ fun i _=>by simp
 exact key.congr fun i hi=>(wA2 s hn (hf i hi)).symm
theorem TJ (h:aP n F f) (hf:∀ i,i < n→f i < 65536):aP n (Bg (aT n fun _=>4294967295) (aT n fun _=>1) F) (fun i=>dL (mM (f i)) 0):=by
 have h1:=h.low
 have h2:=h.shr 8 (by decide)
 have key:aP n (Bg (aT n fun _=>4294967295) (aT n fun _=>1) F) (fun i=>16777216*(f i % 256)+65536*(f i / 256)):=by
  refine ⟨?_,fun i hi=>by have:=hf i hi; omega⟩
  unfold Bg
  rw [h1.eq,h2.eq,kH,kH,iB]
 exact key.congr fun i hi=>(wC0 (hf i hi)).symm
def Ef (M o : Nat) (w0 w1 w2 w8 w10 w15 : Nat) : Nat := tA M o kO w0 w1 w2 (0 * o) (0 * o) (0 * o) (0 * o) (0 * o) w8 (0 * o) w10 (0 * o) (0 * o) (0 * o) (0 * o) w15
 (0x6a09e667 * o) (0xbb67ae85 * o) (0x3c6ef372 * o) (0xa54ff53a * o) (0x510e527f * o) (0x9b05688c * o) (0x1f83d9ab * o) (0x5be0cd19 * o)
theorem JK (B:Nat→List UInt8) {w0 w1 w2 w8 w10 w15:Nat} (h0:aP n w0 fun i=>dL (B i) 0) (h1:aP n w1 fun i=>dL (B i) 1) (h2:aP n w2 fun i=>dL (B i) 2) (h8:aP n w8 fun i=>dL (B i) 8) (h10:aP n w10 fun i=>dL (B i) 10) (h15:aP n w15 fun i=>dL (B i) 15)
  (hz:∀ i t,t=3∨t=4∨t=5∨t=6∨t=7∨t=9∨t=11∨t=12∨t=13∨t=14→dL (B i) t=0):Ef (aT n fun _=>4294967295) (aT n fun _=>1) w0 w1 w2 w8 w10 w15=aT n fun i=>Bd (B i):=by
 have z:∀ t,t=3∨t=4∨t=5∨t=6∨t=7∨t=9∨t=11∨t=12∨t=13∨t=14→aP n (0*aT n fun _=>1) (fun i=>dL (B i) t):=fun t ht=>(aP.const _ 0 (by decide)).congr fun i _=>(hz i t ht).symm
 exact TB n B (S8.of mQ) kO 0 _ _ _ _ _ _ _ _ _ _ _ _ _ _ _ _ _ _ _ _ _ _ _ _ rfl rfl h0 h1 h2 (z 3 si) (z 4 si) (z 5 si) (z 6 si) (z 7 si) h8 (z 9 si) h10 (z 11 si) (z 12 si) (z 13 si) (z 14 si) h15
  (aP.const _ _ (by decide)) (aP.const _ _ (by decide)) (aP.const _ _ (by decide)) (aP.const _ _ (by decide)) (aP.const _ _ (by decide)) (aP.const _ _ (by decide)) (aP.const _ _ (by decide)) (aP.const _ _ (by decide))
def yC (M o F s aD : Nat) : Nat := dK (Bf M o F aD) fun w2 => Ef M o (0 * o) (s * o) w2 (0 * o) (8388608 * o) (328 * o)
theorem Eg (h:aP n F f) (hf:∀ i,i < n→f i < 65536) {s aD:Nat} (hs:s < 256) (hn:aD < 256):yC (aT n fun _=>4294967295) (aT n fun _=>1) F s aD=aT n fun i=>eB s aD (kk (f i)):=by
 unfold yC
 rw [fD,JK (fun i=>mL s aD (f i)) ((aP.const _ 0 (by decide)).congr fun i _=>(wA0 hs _ _).symm) ((aP.const _ s om).congr fun i _=>(wA1 hs _ _).symm) (TI h hf s hn) ((aP.const _ 0 (by decide)).congr fun i _=>(wA s aD (f i)).1.symm) ((aP.const _ 8388608 (by decide)).congr fun i _=>(wA s aD (f i)).2.1.symm) ((aP.const _ 328 (by decide)).congr fun i _=>(wA s aD (f i)).2.2.symm) fun i t ht=>(wZ s aD (f i) t ht).1]
 exact mK _ fun i _=>(TF s aD (f i)).symm
def Eh (M o F : Nat) : Nat := dK (Bg M o F) fun w0 => Ef M o w0 (0 * o) (0 * o) (2147483648 * o) (0 * o) (256 * o)
theorem TK (h:aP n F f) (hf:∀ i,i < n→f i < 65536):Eh (aT n fun _=>4294967295) (aT n fun _=>1) F=aT n fun i=>iL (dM (kk (f i))) 8:=by
 unfold Eh
 rw [fD,JK (fun i=>mM (f i)) (TJ h hf) ((aP.const _ 0 (by decide)).congr fun i _=>(wC (f i)).1.symm) ((aP.const _ 0 (by decide)).congr fun i _=>(wC (f i)).2.1.symm) ((aP.const _ 2147483648 (by decide)).congr fun i _=>(wC (f i)).2.2.1.symm) ((aP.const _ 0 (by decide)).congr fun i _=>(wC (f i)).2.2.2.1.symm) ((aP.const _ 256 (by decide)).congr fun i _=>(wC (f i)).2.2.2.2.symm) fun i t ht=>(wZ 0 0 (f i) t ht).2]
 exact mK _ fun i _=>(TG (f i)).symm
end
end
/-! ### Lists in groups -/
noncomputable def Ei {α : Type} (t : Nat) (L : List (Nat × Nat)) : (List (Nat × Nat) → α) → α := List.rec (motive := fun _ => (List (Nat × Nat) → α) → α) (fun k => k []) (fun p _ ih k => dK (p.1 % t) fun r => ih fun l => k ((r, p.2) :: l)) L
theorem JL {α:Type} (t:Nat):∀ (L:List (Nat × Nat)) (k:List (Nat × Nat)→α),Ei t L k=k (L.map fun p=>(p.1 % t,p.2))
 | [],k=>rfl
 | p::L,k=>by
   show dK (p.1 % t) (fun r=>Ei t L fun l=>k ((r,p.2)::l))=_
   rw [fD,JL t L]
   rfl
noncomputable def yD {α : Type} (b : Nat) (l : List (Nat × Nat)) : (List (Nat × Nat) → List (Nat × Nat) → α) → α := List.rec (motive := fun _ => (List (Nat × Nat) → List (Nat × Nat) → α) → α) (fun k => k [] []) (fun p _ ih k => bif rE p.1 b then ih fun A B => k (p :: A) B else ih fun A B => k A (p :: B)) l
theorem Ej {α:Type} (b:Nat):∀ (l:List (Nat × Nat)) (k:List (Nat × Nat)→List (Nat × Nat)→α),yD b l k=k (l.filter fun p=>p.1.testBit b) (l.filter fun p=>!p.1.testBit b)
 | [],k=>rfl
 | p::l,k=>by
   show (bif rE p.1 b then yD b l fun A B=>k (p::A) B else yD b l fun A B=>k A (p::B))=_
   rw [Ej b l,Ej b l,DW]
   cases h:p.1.testBit b <;> simp [h]
def nW {α : Type} : List α → Bool
 | _ :: _ :: _ :: _ => false
 | _ => true
noncomputable def oX (chk : List Nat → Bool) (b : Nat) : List (Nat × Nat) → Bool := Nat.rec (motive := fun _ => List (Nat × Nat) → Bool) (fun l => chk (l.map Prod.snd)) (fun b ih l => bif nW l then true else yD b l fun A B => bif ih A then ih B else false) b
theorem TL {α β:Type} (f:α→β) {l:List α} (h:nW l=true):nW (l.map f)=true:=by
 match l,h with
 | [],_=>rfl
 | [_],_=>rfl
 | [_,_],_=>rfl
theorem Bh {chk:List Nat→Bool} (hs:∀ V,nW V=true→chk V=true):∀ {b:Nat} {l:List (Nat × Nat)},oX chk b l=true→∀ r,∃ g:Nat × Nat→Bool,(∀ p,p.1=r→g p=true)∧chk ((l.filter g).map Prod.snd)=true
 | 0,l,h,r=>⟨fun _=>true,fun _ _=>rfl,by rw [List.filter_eq_self.2 fun _ _=>rfl]; exact h⟩
 | b+1,l,h,r=>by
   change (bif nW l then true else yD b l fun A B=>bif oX chk b A then oX chk b B else false)=true at h
   rw [Ej] at h
   cases hc:nW l with
   | true=>exact ⟨fun _=>true,fun _ _=>rfl,by rw [List.filter_eq_self.2 fun _ _=>rfl]; exact hs _ (TL _ hc)⟩
   | false =>
     rw [hc] at h
     simp only [cond_false] at h
     cases ha:oX chk b (l.filter fun p=>p.1.testBit b) with
     | false=>rw [ha] at h; cases h
     | true =>
       rw [ha] at h
       simp only [cond_true] at h
       cases hr:r.testBit b with
       | true =>
         obtain ⟨g,h1,h2⟩:=Bh hs ha r
         rw [List.filter_filter] at h2
         exact ⟨fun p=>g p && p.1.testBit b,fun p hp=>by simp [h1 p hp,hp,hr],h2⟩
       | false =>
         obtain ⟨g,h1,h2⟩:=Bh hs h r
         rw [List.filter_filter] at h2
         exact ⟨fun p=>g p && !p.1.testBit b,fun p hp=>by simp [h1 p hp,hp,hr],h2⟩
noncomputable def vM (top : Nat) (Ps V : List Nat) : Bool := bif nW V then true else bif tD top (Ps.take (22 + V.length)) V then true else tD top (Ps.take (46 + V.length)) V
noncomputable def tE (top : Nat) (Ps : List Nat) (L : List (Nat × Nat)) : List Nat → Bool
 | [] => true
 | t :: ts => bif Ei t L fun l => oX (vM top Ps) 9 l then tE top Ps L ts else false
theorem JM {top:Nat} {Ps I:List Nat} {f g:Nat→Nat}:∀ {ts:List Nat},tE top Ps (I.map fun n=>(f n,g n)) ts=true→∀ t∈ts,∀ r,∃ s:Nat→Bool,(∀ n,f n % t=r→s n=true)∧vM top Ps ((I.filter s).map g)=true
 | [],_,t,ht,_=>by cases ht
 | t0::ts,h,t,ht,r=>by
   unfold tE at h
   rw [JL,List.map_map] at h
   change (bif oX (vM top Ps) 9 (I.map fun n=>(f n % t0,g n)) then tE top Ps (I.map fun n=>(f n,g n)) ts else false)=true at h
   cases hg:oX (vM top Ps) 9 (I.map fun n=>(f n % t0,g n)) with
   | false=>rw [hg] at h; cases h
   | true =>
     rw [hg] at h
     simp only [cond_true] at h
     rcases List.mem_cons.1 ht with rfl | ht
     ·obtain ⟨G,h1,h2⟩:=Bh (fun V hV=>by unfold vM; rw [hV]; rfl) hg r
      rw [List.filter_map,List.map_map] at h2
      exact ⟨fun n=>G (f n % t,g n),fun n hn=>h1 _ hn,h2⟩
     ·exact JM h t ht r
/-! ### The family -/
/-- The two bytes of a number of 14 bits: the two lowest bits of the second byte follow from the first. -/
def dC (Y : Nat) : Nat := Y % 256 + 256 * (4 * (Y / 256) + 3 * Y % 4)
theorem pZ {Y:Nat} (h:Y < 16384):dC Y < 65536:=by unfold dC; omega
def bY (n : Nat) : Nat := n + 256 * (7 * n % 256 / 4)
theorem Ek {n:Nat} (h:n < 256):bY n % 256=n∧bY n / 256=7*n % 256 / 4∧7*n % 256 / 4 < 64:=by
 have h1:7*n % 256 < 256:=Nat.mod_lt _ (by decide)
 unfold bY
 generalize 7*n % 256=m at *
 omega
theorem lB {n:Nat} (h:n < 256):bY n < 16384:=by have:=Ek h; omega
theorem vN {n:Nat} (h:n < 256):bY n % 256=n:=(Ek h).1
theorem JN {n:Nat} (h:n < 256):dC (bY n)=n+256*(7*n % 256):=by
 obtain ⟨h1,h2,_⟩:=Ek h
 have h3:3*bY n % 4=3*n % 4:=om
 have h4:7*n % 256 % 4=3*n % 4:=om
 unfold dC
 rw [h1,h2,h3]
 generalize 7*n % 256=m at *
 omega
theorem aP.three (n:Nat) (hn:n≤65536):aP n (3*aT n fun i=>i) (fun i=>3*i):=⟨kH _ _ _,fun i hi=>by omega⟩
def Em (M o io : Nat) : Nat := (io &&& 255 * o) + 256 * (4 * sZ M 8 io + (3 * io &&& 3 * o))
theorem TM (n:Nat) (hn:n≤16384):aP n (Em (aT n fun _=>4294967295) (aT n fun _=>1) (aT n fun i=>i)) dC:=by
 have io:aP n (aT n fun i=>i) (fun i=>i):=⟨rfl,fun i hi=>by omega⟩
 have h1:=io.low
 have h2:=io.shr 8 (by decide)
 have h3:=(aP.three n om).and (aP.const n 3 (by decide))
 refine ⟨?_,fun i hi=>Nat.lt_trans (pZ om) (by decide)⟩
 unfold Em
 rw [h1.eq,h2.eq,h3.eq,kH,iB,kH,iB]
 refine mK _ fun i _=>?_
 unfold dC
 rw [show 3*i &&& 3=3*i % 4 from Nat.and_two_pow_sub_one_eq_mod (3*i) 2]
def Bi (io o : Nat) : Nat := io + 256 * (7 * io &&& 255 * o)
theorem JO (n:Nat) (hn:n≤256):aP n (Bi (aT n fun i=>i) (aT n fun _=>1)) (fun n=>dC (bY n)):=by
 have h7:aP n (7*aT n fun i=>i) (fun i=>7*i):=⟨kH _ _ _,fun i hi=>by omega⟩
 have h8:=h7.low
 refine ⟨?_,fun i hi=>Nat.lt_trans (pZ (lB om)) (by decide)⟩
 unfold Bi
 rw [h8.eq,kH,iB]
 exact mK _ fun i hi=>(JN om).symm
def dH (s Y : Nat) : Nat := Y + 2 ^ 14 * eB s 3 (kk (dC Y))
theorem TN {s Y:Nat} (hY:Y < 16384) (j:Nat) (hj:j < 14):(dH s Y).testBit j=Y.testBit j:=by
 unfold dH
 rw [Nat.add_comm,Nat.testBit_two_pow_mul_add _ (show Y < 2 ^ 14 from hY),if_pos hj]
theorem TO {s Y:Nat} (hY:Y < 16384) (j:Nat):(dH s Y).testBit (14+j)=(eB s 3 (kk (dC Y))).testBit j:=by
 unfold dH
 rw [Nat.add_comm,Nat.testBit_two_pow_mul_add _ (show Y < 2 ^ 14 from hY),if_neg om,Nat.add_sub_cancel_left]
def qA : List Nat := [5, 6, 7, 8, 9, 11, 13, 17, 19, 23, 29, 31, 37, 41, 43, 47, 53, 59, 61, 67, 71, 73, 79, 83, 89, 97, 101, 103, 107, 109, 113, 127, 131, 137, 139, 149, 151, 157, 163, 167, 173, 179, 181, 191, 193, 197, 199, 211, 223, 227, 229, 233, 239, 241, 251, 257, 263, 269, 271, 277, 281, 283, 293, 307, 311, 313, 317, 331, 337, 347, 349, 353, 359, 367, 373, 379, 383, 389, 397, 401, 409, 419, 421, 431, 433, 439, 443, 449, 457, 461, 463, 467, 479, 487, 491, 499, 503]
theorem TP:∀ t,5≤t→t < 505→∃ d∈qA,t % d=0:=by
 have h:((List.range 505).all fun t=>Nat.blt t 5 || qA.any fun d=>Nat.beq (t % d) 0)=true:=by decide +kernel
 intro t h1 h2
 have:=List.all_eq_true.1 h t (List.mem_range.2 h2)
 rw [Bool.or_eq_true] at this
 rcases this with h3 | h3
 ·have:=Nat.le_of_ble_eq_true h3; omega
 ·obtain ⟨d,hd,h4⟩:=List.any_eq_true.1 h3
  exact ⟨d,hd,Nat.eq_of_beq_eq_true h4⟩
def tF (n : Nat) : Nat := 2 ^ n - 1
theorem TQ {n X:Nat} (h:X < n):(tF n).testBit X=true:=by
 unfold tF
 rw [Nat.testBit_two_pow_sub_one]
 exact decide_eq_true h
def Bj {α : Type} (s : Nat) (k : Nat → List Nat → α) : α :=
 dK (tB 14) fun o => dK (xU o) fun M => dK (tC 14) fun io => dK (Em M o io) fun F => dK (yC M o F s 3) fun C => Bb 14 1 fun ms =>
  pY C o ms (List.range 64) fun P1 => pY io o ms (List.range 14) fun P2 => dK (tF 16384) fun top => k top (P1 ++ P2)
def Bk {α : Type} : Nat → Nat → Nat → (List (Nat × Nat) → α) → α
 | 0, _, _, k => k []
 | n + 1, i, X, k => dK (X % 18446744073709551616) fun v => dK (X / 18446744073709551616) fun X' => dK (bY i) fun x => dK (i + 1) fun j => Bk n j X' fun r => k ((v, x) :: r)
theorem JP {α:Type}:∀ (n i:Nat) {f:Nat→Nat} (_:∀ i,i < n→f i < 2 ^ 64) (k:List (Nat × Nat)→α),Bk n i (aT n f) k=k ((List.range n).map fun m=>(f m,bY (i+m)))
 | 0,_,_,_,_=>rfl
 | n+1,i,f,h,k=>by
   have h0:f 0 < 18446744073709551616:=h 0 om
   unfold Bk
   rw [fD,fD,fD,fD]
   unfold aT
   rw [Nat.add_mul_mod_self_left,Nat.mod_eq_of_lt h0,Nat.add_mul_div_left _ _ (by decide),Nat.div_eq_of_lt h0,Nat.zero_add,JP n (i+1) (fun i hi=>h (i+1) om),List.range_succ_eq_map,List.map_cons,List.map_map]
   congr 2
   refine List.map_congr_left fun m _=>?_
   show (f (m+1),bY (i+1+m))=(f (m+1),bY (i+(m+1)))
   rw [show i+1+m=i+(m+1) by omega]
def Bl {α : Type} (s i : Nat) (k : List (Nat × Nat) → α) : α :=
 dK (tB 8) fun o => dK (xU o) fun M => dK (tC 8) fun io => dK (Bi io o) fun F => dK (yC M o F s i) fun C => Bk (2 ^ 8) 0 C k
noncomputable def jQ (i j : Nat) : Bool := Bj 0 fun top Ps => Bl 0 i fun L => tE top Ps L ((qA.drop (20 * j)).take 20)
set_option maxRecDepth 100000
theorem TR : jQ 0 0 = true := by decide +kernel
theorem TS : jQ 0 1 = true := by decide +kernel
theorem TT : jQ 0 2 = true := by decide +kernel
theorem TU : jQ 0 3 = true := by decide +kernel
theorem TV : jQ 0 4 = true := by decide +kernel
theorem TW : jQ 1 0 = true := by decide +kernel
theorem TY : jQ 1 1 = true := by decide +kernel
theorem TZ : jQ 1 2 = true := by decide +kernel
theorem Ua : jQ 1 3 = true := by decide +kernel
theorem Ub : jQ 1 4 = true := by decide +kernel
theorem Uc : jQ 2 0 = true := by decide +kernel
theorem Ud : jQ 2 1 = true := by decide +kernel
theorem Ue : jQ 2 2 = true := by decide +kernel
theorem Uf : jQ 2 3 = true := by decide +kernel
theorem Ug : jQ 2 4 = true := by decide +kernel
theorem JQ {α : Type} {s : Nat} (hs : s < 256) (k : Nat → List Nat → α) : ∃ top Ps, Bj s k = k top Ps ∧ (∀ X, X < 16384 → top.testBit X = true) ∧ mX (dH s) 16384 (fun _ => False) Ps := by
 unfold Bj
 simp only [fD]
 rw [yB, DU, AY, (TM (2 ^ 14) (by decide)).eq]
 have hx : aP (2 ^ 14) (aT (2 ^ 14) dC) dC := ⟨rfl, fun i hi => Nat.lt_trans (pZ hi) (by decide)⟩
 rw [Eg hx (fun i hi => pZ hi) hs (by decide)]
 obtain ⟨ms, h1, h2, h3⟩ := JG 14 (b := 1) (by decide) fun ms => pY (aT (2 ^ 14) fun i => eB s 3 (kk (dC i))) (aT (2 ^ 14) fun _ => 1) ms (List.range 64) fun P1 => pY (aT (2 ^ 14) fun i => i) (aT (2 ^ 14) fun _ => 1) ms (List.range 14) fun P2 => k (tF 16384) (P1 ++ P2)
 rw [h1]
 have e : 2 ^ 14 = 2 ^ ms.length := by rw [h2]
 rw [e]
 obtain ⟨P1, a1, a2⟩ := Ec h3 (f := fun i => eB s 3 (kk (dC i))) (fun i _ => uL _ _ _) (List.range 64) (fun j hj => List.mem_range.1 hj) fun P1 => pY (aT (2 ^ ms.length) fun i => i) (aT (2 ^ ms.length) fun _ => 1) ms (List.range 14) fun P2 => k (tF 16384) (P1 ++ P2)
 obtain ⟨P2, b1, b2⟩ := Ec h3 (f := fun i => i) (fun i hi => Nat.lt_of_lt_of_le hi (by rw [h2]; decide)) (List.range 14) (fun j hj => Nat.lt_trans (List.mem_range.1 hj) (by decide)) fun P2 => k (tF 16384) (P1 ++ P2)
 refine ⟨tF 16384, P1 ++ P2, a1.trans b1, fun X hX => TQ hX, fun P hP => ?_⟩
 ·rw [← e] at a2 b2
  rcases List.mem_append.1 hP with hP | hP
  ·obtain ⟨j, _, h⟩ := a2 P hP
   refine ⟨fun x => x.testBit (14 + j), fun a b => Nat.testBit_xor .., fun X hX => ?_, fun z hz => hz.elim⟩
   show P.testBit X = (dH s X).testBit (14 + j)
   rw [TO hX]
   exact h X hX
  ·obtain ⟨j, hj, h⟩ := b2 P hP
   refine ⟨fun x => x.testBit j, fun a b => Nat.testBit_xor .., fun X hX => ?_, fun z hz => hz.elim⟩
   show P.testBit X = (dH s X).testBit j
   rw [TN hX j (List.mem_range.1 hj)]
   exact h X hX
theorem Uh {α : Type} {s i : Nat} (hs : s < 256) (hi : i < 256) (k : List (Nat × Nat) → α) : Bl s i k = k ((List.range 256).map fun n => (eB s i (kk (dC (bY n))), bY n)) := by
 unfold Bl
 simp only [fD]
 have hx := JO (2 ^ 8) (by decide)
 rw [yB, DU, AY, hx.eq]
 have hx' : aP (2 ^ 8) (aT (2 ^ 8) fun n => dC (bY n)) (fun n => dC (bY n)) := ⟨rfl, hx.lt⟩
 rw [Eg hx' (fun n hn => pZ (lB hn)) hs hi]
 rw [JP (2 ^ 8) 0 (fun i _ => uL _ _ _)]
 simp only [Nat.zero_add]
theorem Ui {d : Nat} (h : d ∈ qA) : ∃ j, j < 5 ∧ d ∈ (qA.drop (20 * j)).take 20 := by
 have h1 : (qA.all fun d => (List.range 5).any fun j => ((qA.drop (20 * j)).take 20).any fun x => Nat.beq x d) = true := by decide +kernel
 obtain ⟨j, hj, h2⟩ := List.any_eq_true.1 (List.all_eq_true.1 h1 d h)
 obtain ⟨x, hx, h3⟩ := List.any_eq_true.1 h2
 rw [Nat.eq_of_beq_eq_true h3] at hx
 exact ⟨j, List.mem_range.1 hj, hx⟩
theorem Uj {i j : Nat} (hi : i < 3) (hj : j < 5) : ∃ top Ps, (∀ X, X < 16384 → top.testBit X = true) ∧ mX (dH 0) 16384 (fun _ => False) Ps ∧ tE top Ps ((List.range 256).map fun n => (eB 0 i (kk (dC (bY n))), bY n)) ((qA.drop (20 * j)).take 20) = true := by
 have h : jQ i j = true := match i, hi, j, hj with
  | 0, _, 0, _ => TR
  | 0, _, 1, _ => TS
  | 0, _, 2, _ => TT
  | 0, _, 3, _ => TU
  | 0, _, 4, _ => TV
  | 1, _, 0, _ => TW
  | 1, _, 1, _ => TY
  | 1, _, 2, _ => TZ
  | 1, _, 3, _ => Ua
  | 1, _, 4, _ => Ub
  | 2, _, 0, _ => Uc
  | 2, _, 1, _ => Ud
  | 2, _, 2, _ => Ue
  | 2, _, 3, _ => Uf
  | 2, _, 4, _ => Ug
 unfold jQ at h
 obtain ⟨top, Ps, h1, h2, h3⟩ := JQ (s := 0) (by decide) fun top Ps => Bl 0 i fun L => tE top Ps L ((qA.drop (20 * j)).take 20)
 rw [h1, Uh (by decide) (by omega)] at h
 exact ⟨top, Ps, h2, h3, h⟩
theorem JR {α : Type} {l : List α} (h : nW l = true) : l.length ≤ 2 := by
 match l, h with
 | [], _ => exact Nat.zero_le _
 | [_], _ => exact Nat.le_succ 1
 | [_, _], _ => exact Nat.le_refl 2
def pick (p : Nat → Bool) : List Nat := (List.range 256).filter p
theorem oY {p : Nat → Bool} {n : Nat} (h : n ∈ pick p) : n < 256 ∧ p n = true := ⟨List.mem_range.1 (List.mem_filter.1 h).1, (List.mem_filter.1 h).2⟩
theorem En (p : Nat → Bool) : ((pick p).map bY).Nodup := by
 unfold pick
 refine List.pairwise_map.2 (List.Pairwise.imp_of_mem (fun {a b} ha hb hab e => hab ?_) (List.Pairwise.filter p List.nodup_range))
 have := congrArg (· % 256) e
 simp only [vN (oY ha).1, vN (oY hb).1] at this
 exact this
theorem JS {p s : Nat → Bool} (h : ∀ n, n < 256 → p n = true → s n = true) : ((pick s).map bY).filter (fun x => p (x % 256)) = (pick p).map bY := by
 unfold pick
 rw [List.filter_map, List.filter_filter]
 congr 1
 refine List.filter_congr fun n hn => ?_
 have hn' := List.mem_range.1 hn
 simp only [Function.comp, vN hn']
 cases hp : p n with
 | false => rfl
 | true => rw [h n hn' hp]; rfl
theorem JT (k a b c d : Nat) (ha : a < 2 ^ k) (hc : c < 2 ^ k) : (a + 2 ^ k * b) ^^^ (c + 2 ^ k * d) = (a ^^^ c) + 2 ^ k * (b ^^^ d) := by
 apply Nat.eq_of_testBit_eq
 intro j
 rw [Nat.testBit_xor, Nat.add_comm a, Nat.add_comm c, Nat.add_comm (a ^^^ c), Nat.testBit_two_pow_mul_add _ ha, Nat.testBit_two_pow_mul_add _ hc, Nat.testBit_two_pow_mul_add _ (Nat.xor_lt_two_pow ha hc)]
 split <;> rw [Nat.testBit_xor]
theorem JU (s : Nat) : ∀ l : List Nat, (∀ n ∈ l, n < 16384) → ∃ c, fK (l.map (dH s)) = fK l + 2 ^ 14 * c ∧ c = fK (l.map fun n => eB s 3 (kk (dC n))) ∧ fK l < 2 ^ 14
 | [], _ => ⟨0, by rw [Nat.mul_zero]; rfl, rfl, Nat.two_pow_pos 14⟩
 | n :: l, h => by
   obtain ⟨c, h1, h2, h3⟩ := JU s l fun x hx => h x (by simp [hx])
   have hn : n < 2 ^ 14 := h n (by simp)
   refine ⟨eB s 3 (kk (dC n)) ^^^ c, ?_, by rw [List.map_cons, gO, ← h2], Nat.xor_lt_two_pow hn h3⟩
   rw [List.map_cons, gO, h1, gO]
   exact JT 14 _ _ _ _ hn h3
theorem Bm : fK [] = 0 := rfl
theorem JV {a b : Nat} (h : a ^^^ b = 0) : a = b := by
 have h1 : a ^^^ b ^^^ b = 0 ^^^ b := by rw [h]
 rwa [Nat.xor_assoc, Nat.xor_self, Nat.xor_zero, Nat.zero_xor] at h1
theorem JW {s a : Nat} (ha : a < 16384) : dH s a % 2 ^ 14 = a := by
 unfold dH
 rw [Nat.add_mul_mod_self_left]
 exact Nat.mod_eq_of_lt ha
theorem Eo {s a b : Nat} (ha : a < 16384) (hb : b < 16384) (h : dH s a = dH s b) : a = b := by
 rw [← JW (s := s) ha, h, JW hb]
theorem JX {i t : Nat} (hi : i < 3) (h5 : 5 ≤ t) (h505 : t < 505) (r : Nat) {p : Nat → Bool} (hp : ∀ n, n < 256 → p n = true → eB 0 i (kk (dC (bY n))) % t = r) :
  ((pick p).length % 2 = 1 → ∀ Y, Y < 16384 → fK (((pick p).map bY).map (dH 0)) = dH 0 Y → (pick p).map bY = [Y]) ∧ ((pick p).length % 2 = 0 → fK (((pick p).map bY).map (dH 0)) = 0 → pick p = []) := by
 obtain ⟨d, hd, hdt⟩ := TP t h5 h505
 obtain ⟨j, hj, hd⟩ := Ui hd
 obtain ⟨top, Ps, h1, h2, h3⟩ := Uj hi hj
 obtain ⟨s, h4, h5⟩ := JM h3 d hd (r % d)
 have hps : ∀ n, n < 256 → p n = true → s n = true := fun n hn hpn => h4 n (by rw [← hp n hn hpn, Nat.mod_mod_of_dvd _ (Nat.dvd_of_mod_eq_zero hdt)])
 have hF := JS hps
 have hV : ∀ v ∈ (pick s).map bY, v < 16384 := fun v hv => by
  obtain ⟨n, hn, rfl⟩ := List.mem_map.1 hv
  exact lB (oY hn).1
 unfold vM at h5
 cases hsh : nW ((pick s).map bY) with
 | true =>
   have hl : (pick p).length ≤ 2 := by
    have h6 := JR hsh
    have h7 := List.length_filter_le (fun x => p (x % 256)) ((pick s).map bY)
    rw [hF, List.length_map] at h7
    omega
   constructor
   ·intro ho
    obtain ⟨n, hpp⟩ : ∃ n, pick p = [n] := List.length_eq_one_iff.1 (by omega)
    intro Y hY e
    rw [hpp] at e ⊢
    rw [List.map_cons, List.map_cons, List.map_nil, List.map_nil, gO, Bm, Nat.xor_zero] at e
    have hn := oY (p := p) (n := n) (by rw [hpp]; simp)
    show [bY n] = [Y]
    rw [Eo (lB hn.1) hY e]
   ·intro ho
    cases hpp : pick p with
    | nil => exact fun _ => rfl
    | cons n l =>
      rw [hpp, List.length_cons] at hl ho
      obtain ⟨m, rfl⟩ : ∃ m, l = [m] := List.length_eq_one_iff.1 (by omega)
      intro e
      exfalso
      have hn := oY (p := p) (n := n) (by rw [hpp]; simp)
      have hm := oY (p := p) (n := m) (by rw [hpp]; simp)
      rw [List.map_cons, List.map_cons, List.map_cons, List.map_nil, List.map_cons, List.map_nil, gO, gO, Bm, Nat.xor_zero] at e
      have e2 : dH 0 (bY n) = dH 0 (bY m) := JV e
      have hnd := En p
      rw [hpp] at hnd
      simp only [List.map_cons, List.map_nil, List.nodup_cons, List.mem_singleton] at hnd
      exact hnd.1 (Eo (lB hn.1) (lB hm.1) e2)
 | false =>
   obtain ⟨k, h5'⟩ : ∃ k, tD top (Ps.take k) ((pick s).map bY) = true := by
    unfold pick at hsh ⊢
    rw [hsh] at h5
    simp only [cond_false] at h5
    cases hl : tD top (Ps.take (22 + (((List.range 256).filter s).map bY).length)) (((List.range 256).filter s).map bY) with
    | true => exact ⟨_, hl⟩
    | false => rw [hl] at h5; exact ⟨_, h5⟩
   have hP : mX (dH 0) 16384 (fun _ => False) (Ps.take k) := fun P hP => h2 P (List.mem_of_mem_take hP)
   constructor
   ·intro _ Y hY e
    have := Tx h1 hP hV (En s) h5' (fun x => p (x % 256)) hY (by rw [hF]; exact e)
    rwa [hF] at this
   ·intro _ e
    have := Ty hP hV h5' (fun x => p (x % 256)) (by rw [hF]; exact e)
    rw [hF] at this
    exact List.map_eq_nil_iff.1 this
/-! ### The difference of two tables, change by change -/
theorem JY {α β γ : Type} (f : α → β → γ) (g : α → α) (g' : γ → γ) (h : ∀ a b, f (g a) b = g' (f a b)) : ∀ (l : List α) (m : List β) (i : Nat), List.zipWith f (l.modify i g) m = (List.zipWith f l m).modify i g'
 | [], m, i => by cases i <;> simp
 | a :: l, [], i => by cases i <;> simp
 | a :: l, b :: m, 0 => by simp [h]
 | a :: l, b :: m, i + 1 => by simp [JY f g g' h l m i]
theorem JZ {α β γ:Type} (f:α→β→γ) (g:β→β) (g':γ→γ) (h:∀ a b,f a (g b)=g' (f a b)):∀ (l:List α) (m:List β) (i:Nat),List.zipWith f l (m.modify i g)=(List.zipWith f l m).modify i g'
 | [],m,i=>by cases i <;> simp
 | a::l,[],i=>by cases i <;> simp
 | a::l,b::m,0=>by simp [h]
 | a::l,b::m,i+1=>by simp [JZ f g g' h l m i]
theorem Ep (t u:BT) (k:List UInt8) (a:Int) (i:Nat) (hl:u.cells.length=t.cells.length):(t.eC k a i).sub u=(t.sub u).eC k a i:=by
 have hs:(t.sub u).seed=t.seed:=rfl
 unfold BT.eC
 rw [nM hl,hs]
 unfold BT.sub
 simp only
 rw [JY BC.sub _ (fun c=>c.add k a (eB t.seed 3 k)) (fun c d=>by unfold BC.sub; exact BC.add_comm c k d.keys a (-d.count) _ _)]
theorem Ka:∀ a b c:List UInt8,dR a (dR b c)=dR (dR a b) c
 | [],_,_=>by simp [dR]
 | a::us,[],_=>by simp [dR]
 | a::us,b::vs,[]=>by simp [dR]
 | a::us,b::vs,c::ws=>by
   have:=Ka us vs ws
   unfold dR at this ⊢
   simp only [List.zipWith_cons_cons,List.cons.injEq]
   exact ⟨(UInt8.xor_assoc a b c).symm,this⟩
theorem Uk (x y b:Int):IntKind.i64.wrap (x + -(IntKind.i64.wrap (y+b)))=IntKind.i64.wrap (IntKind.i64.wrap (x + -y) + -b):=by
 rw [Al]
 obtain ⟨k,hk⟩:=Ig (y+b)
 rw [hk,show x + -(y+b+k*18446744073709551616)=(x + -y + -b)+(-k)*18446744073709551616 by omega,Ih]
theorem BC.Yc (c d:BC) (k:List UInt8) (a:Int) (x:Nat):c.sub (d.add k a x)=(c.sub d).add k (-a) x:=by
 unfold BC.sub BC.add
 simp only [BC.mk.injEq]
 exact ⟨Uk _ _ _,Ka _ _ _,(Nat.xor_assoc _ _ _).symm⟩
theorem Er (t u:BT) (k:List UInt8) (a:Int) (i:Nat) (hl:u.cells.length=t.cells.length) (hs:u.seed=t.seed):t.sub (u.eC k a i)=(t.sub u).eC k (-a) i:=by
 have hs2:(t.sub u).seed=t.seed:=rfl
 unfold BT.eC
 rw [nM hl,hs2,hl,hs]
 unfold BT.sub
 simp only
 rw [JZ BC.sub _ (fun c=>c.add k (-a) (eB t.seed 3 k)) (fun c d=>BC.Yc c d k a _)]
theorem Ul (t u:BT) (k:List UInt8) (a:Int) (hl:u.cells.length=t.cells.length):(t.change k a).sub u=(t.sub u).change k a:=by
 unfold BT.change
 rw [Ep _ _ _ _ _ (by simp [BT.vZ,hl]),Ep _ _ _ _ _ (by simp [BT.vZ,hl]),Ep _ _ _ _ _ hl]
theorem Um (t u:BT) (k:List UInt8) (a:Int) (hl:u.cells.length=t.cells.length) (hs:u.seed=t.seed):t.sub (u.change k a)=(t.sub u).change k (-a):=by
 unfold BT.change
 rw [Er t ((u.eC k a 0).eC k a 1) _ _ _ (by simp [BT.vZ,hl]) hs,Er t (u.eC k a 0) _ _ _ (by simp [BT.vZ,hl]) hs,Er t u _ _ _ hl hs]
theorem Kb:∀ a:List UInt8,dR a a=List.replicate a.length 0
 | []=>rfl
 | a::us=>by
   have:=Kb us
   unfold dR at this ⊢
   simp only [List.zipWith_cons_cons,List.length_cons,List.replicate_succ,List.cons.injEq]
   exact ⟨UInt8.xor_self,this⟩
theorem BC.sub_self {c:BC} (h:c.Ok):c.sub c=BC.zero:=by
 unfold BC.sub BC.add BC.zero
 simp only [BC.mk.injEq]
 refine ⟨?_,by rw [Kb,h.keys],Nat.xor_self _⟩
 rw [show c.count + -c.count=0 by omega]
 decide
theorem sub_self {t:BT} (h:t.Ok):t.sub t=BT.new t.cells.length t.seed:=by
 unfold BT.sub BT.new
 have key:∀ l:List BC,(∀ c∈l,c.Ok)→List.zipWith BC.sub l l=List.replicate l.length BC.zero:=by
  intro l
  induction l with
  | nil=>intro _; rfl
  | cons c l ih =>
    intro hl
    rw [List.zipWith_cons_cons,BC.sub_self (hl c si),ih fun x hx=>hl x (by simp [hx])]
    rfl
 rw [key _ h.cells]
/-! ### Where a key's cells are -/
def nX (n seed : Nat) (k : List UInt8) (q : Nat) : Bool := Nat.beq (dB n seed k 0) q || Nat.beq (dB n seed k 1) q || Nat.beq (dB n seed k 2) q
theorem qB {a b:Nat}:Nat.beq a b=true↔a=b:=⟨Nat.eq_of_beq_eq_true,fun h=>by rw [h]; exact Nat.beq_refl b⟩
theorem Es {n seed:Nat} {k:List UInt8} {q:Nat}:nX n seed k q=true↔∃ j,j < 3∧dB n seed k j=q:=by
 unfold nX
 rw [Bool.or_eq_true,Bool.or_eq_true,qB,qB,qB]
 constructor
 ·rintro ((h | h) | h)
  ·exact ⟨0,om,h⟩
  ·exact ⟨1,om,h⟩
  ·exact ⟨2,om,h⟩
 ·rintro ⟨j,hj,h⟩
  match j,hj with
  | 0,_=>exact .inl (.inl h)
  | 1,_=>exact .inl (.inr h)
  | 2,_=>exact .inr h
theorem Et {α:Type} (l:List α) (i q:Nat) (f:α→α):(l.modify i f)[q]?=(l[q]?).map fun c=>if i=q then f c else c:=by
 rw [List.getElem?_modify]
 cases l[q]? with
 | none=>rfl
 | some c=>by_cases h:i=q <;> simp [h]
theorem Un {t:BT} (hn:3≤t.cells.length) (k:List UInt8) (a:Int) (q:Nat):(t.change k a).cells[q]?=(t.cells[q]?).map fun c=>if nX t.cells.length t.seed k q then c.add k a (eB t.seed 3 k) else c:=by
 have d1:=GI t.cells.length t.seed k k 0 1 hn om
 have d2:=GI t.cells.length t.seed k k 1 2 hn om
 unfold BT.change BT.eC
 simp only [List.length_modify]
 rw [Et,Et,Et]
 cases t.cells[q]? with
 | none=>rfl
 | some c =>
   simp only [Option.map_some,Option.some.injEq]
   unfold nX
   by_cases h0:dB t.cells.length t.seed k 0=q
   ·have e1:¬ dB t.cells.length t.seed k 1=q:=om
    have e2:¬ dB t.cells.length t.seed k 2=q:=om
    rw [if_pos h0,if_neg e1,if_neg e2,if_pos (by rw [qB.2 h0]; rfl)]
   ·rw [if_neg h0]
    have b0:Nat.beq (dB t.cells.length t.seed k 0) q=false:=by
     cases h:Nat.beq (dB t.cells.length t.seed k 0) q with
     | false=>rfl
     | true=>exact (h0 (qB.1 h)).elim
    by_cases h1:dB t.cells.length t.seed k 1=q
    ·have e2:¬ dB t.cells.length t.seed k 2=q:=om
     rw [if_pos h1,if_neg e2,if_pos (by rw [b0,qB.2 h1]; rfl)]
    ·rw [if_neg h1]
     have b1:Nat.beq (dB t.cells.length t.seed k 1) q=false:=by
      cases h:Nat.beq (dB t.cells.length t.seed k 1) q with
      | false=>rfl
      | true=>exact (h1 (qB.1 h)).elim
     by_cases h2:dB t.cells.length t.seed k 2=q
     ·rw [if_pos h2,if_pos (by rw [b0,b1,qB.2 h2]; rfl)]
     ·have b2:Nat.beq (dB t.cells.length t.seed k 2) q=false:=by
       cases h:Nat.beq (dB t.cells.length t.seed k 2) q with
       | false=>rfl
       | true=>exact (h2 (qB.1 h)).elim
      rw [if_neg h2,if_neg (by rw [b0,b1,b2]; decide)]
/-! ### Keys -/
theorem Kc (k a b : Nat) : (a ^^^ b) % 2 ^ k = a % 2 ^ k ^^^ b % 2 ^ k := Nat.xor_mod_two_pow
theorem Uo (k a b:Nat):(a ^^^ b) / 2 ^ k=a / 2 ^ k ^^^ b / 2 ^ k:=by
 rw [← Nat.shiftRight_eq_div_pow,← Nat.shiftRight_eq_div_pow,← Nat.shiftRight_eq_div_pow,Nat.shiftRight_xor_distrib]
theorem Up:∀ u,u < 4→∀ v,v < 4→(3*u % 4) ^^^ (3*v % 4)=3*(u ^^^ v) % 4:=by decide
theorem vO (Y:Nat):dC Y % 256=Y % 256:=by unfold dC; omega
theorem yE (Y:Nat):dC Y / 256=3*(Y % 4) % 4+2 ^ 2*(Y / 256):=by
 have h:3*Y % 4=3*(Y % 4) % 4:=om
 unfold dC
 rw [h]
 have h2:Y % 256 < 256:=Nat.mod_lt _ (by decide)
 generalize 3*(Y % 4) % 4=u
 generalize Y / 256=d
 show _=u+4*d
 generalize Y % 256=v at *
 omega
theorem Uq (a b:Nat):dC (a ^^^ b) % 256=(dC a % 256) ^^^ (dC b % 256)∧dC (a ^^^ b) / 256=(dC a / 256) ^^^ (dC b / 256):=by
 constructor
 ·rw [vO,vO,vO]; exact Kc 8 a b
 ·rw [yE,yE,yE,JT 2 _ _ _ _ (Nat.mod_lt _ (by decide)) (Nat.mod_lt _ (by decide)),Up _ (Nat.mod_lt _ (by decide)) _ (Nat.mod_lt _ (by decide))]
  have h1:=Kc 2 a b
  have h2:=Uo 8 a b
  simp only [Nat.reducePow] at h1 h2 ⊢
  rw [h1,h2]
theorem Ke (a b:Nat):UInt8.ofNat a ^^^ UInt8.ofNat b=UInt8.ofNat (a % 256 ^^^ b % 256):=by
 apply UInt8.toNat_inj.1
 have h:a % 256 ^^^ b % 256 < 2 ^ 8:=Nat.xor_lt_two_pow (Nat.mod_lt _ (by decide)) (Nat.mod_lt _ (by decide))
 rw [UInt8.toNat_xor,UInt8.toNat_ofNat',UInt8.toNat_ofNat',UInt8.toNat_ofNat',Nat.mod_eq_of_lt h]
theorem Eu (a:Nat):UInt8.ofNat (a % 256)=UInt8.ofNat a:=by
 apply UInt8.toNat_inj.1
 rw [UInt8.toNat_ofNat',UInt8.toNat_ofNat']
 exact Nat.mod_mod _ _
theorem Ur {a b:Nat} (ha:a < 16384) (hb:b < 16384):dR (kk (dC a)) (kk (dC b))=kk (dC (a ^^^ b)):=by
 obtain ⟨h1,h2⟩:=Uq a b
 have h3:dC a / 256 < 256:=Nat.div_lt_of_lt_mul (pZ ha)
 have h4:dC b / 256 < 256:=Nat.div_lt_of_lt_mul (pZ hb)
 have e0:List.zipWith (fun x y:UInt8=>x ^^^ y) (List.replicate 30 0) (List.replicate 30 0)=List.replicate 30 0:=by decide
 unfold dR kk
 rw [List.zipWith_cons_cons,List.zipWith_cons_cons,e0,Ke,Ke,← h1,Eu,Nat.mod_eq_of_lt h3,Nat.mod_eq_of_lt h4,← h2]
theorem Ew:kk (dC 0)=List.replicate 32 0:=by decide
theorem Ex {a b:Nat} (h:UInt8.ofNat a=UInt8.ofNat b):a % 256=b % 256:=by
 have:=congrArg UInt8.toNat h
 rwa [UInt8.toNat_ofNat',UInt8.toNat_ofNat'] at this
theorem Ey {a b:Nat} (ha:a < 16384) (hb:b < 16384) (h:kk (dC a)=kk (dC b)):a=b:=by
 unfold kk at h
 injection h with h1 h2
 injection h2 with h2 h3
 have e1:=Ex h1
 have e2:=Ex h2
 rw [vO,vO] at e1
 rw [yE,yE] at e2
 have h5:a / 256 < 64:=Nat.div_lt_of_lt_mul ha
 have h6:b / 256 < 64:=Nat.div_lt_of_lt_mul hb
 have h7:3*(a % 4) % 4 < 4:=Nat.mod_lt _ (by decide)
 have h8:3*(b % 4) % 4 < 4:=Nat.mod_lt _ (by decide)
 generalize 3*(a % 4) % 4=u at *
 generalize 3*(b % 4) % 4=v at *
 omega
def nm (n : Nat) : List UInt8 := kk (dC (bY n))
theorem Ez (n:Nat):(nm n).length=32:=rfl
theorem Us {a b:Nat} (ha:a < 256) (hb:b < 256) (h:nm a=nm b):a=b:=by
 have h1:=Ey (lB ha) (lB hb) h
 have h2:=vN ha
 have h3:=vN hb
 omega
/-! ### Cells -/
abbrev SI := Nat × Int
structure jA (L : List SI) : Prop where
 lt : ∀ p ∈ L, p.1 < 256
 sg : ∀ p ∈ L, p.2 = 1 ∨ p.2 = -1
 nd : (L.map Prod.fst).Nodup
def chg (t : BT) (p : SI) : BT := t.change (nm p.1) p.2
def qC (s : Nat) (c : BC) (p : SI) : BC := c.add (nm p.1) p.2 (eB s 3 (nm p.1))
def dS (m s : Nat) (L : List SI) : BT := L.foldl chg (BT.new m s)
def eX (m s q : Nat) (p : SI) : Bool := nX m s (nm p.1) q
theorem Kf (t:BT) (p:SI):(chg t p).cells.length=t.cells.length:=BT.change_len t (nm p.1) p.2
theorem Ut (t:BT) (k:List UInt8) (a:Int):(t.change k a).seed=t.seed:=rfl
theorem Kg (t:BT) (p:SI):(chg t p).seed=t.seed:=Ut t (nm p.1) p.2
theorem EA (L:List SI):∀ t:BT,(L.foldl chg t).cells.length=t.cells.length∧(L.foldl chg t).seed=t.seed:=by
 induction L with
 | nil=>exact fun t=>⟨rfl,rfl⟩
 | cons p L ih =>
   intro t
   rw [List.foldl_cons]
   exact ⟨(ih _).1.trans (Kf t p),(ih _).2.trans (Kg t p)⟩
theorem Uu {t:BT} {m s:Nat} (hm:3≤m) (h1:t.cells.length=m) (h2:t.seed=s) {p:SI} {q:Nat}:(chg t p).cells[q]?=(t.cells[q]?).map fun c=>if eX m s q p=true then qC s c p else c:=by
 have h:=Un (t:=t) om (nm p.1) p.2 q
 rw [h1,h2] at h
 exact h
theorem Kh {m s:Nat} (hm:3≤m) (q:Nat):∀ (L:List SI) (t:BT),t.cells.length=m→t.seed=s→(L.foldl chg t).cells[q]?=(t.cells[q]?).map fun c=>(L.filter (eX m s q)).foldl (qC s) c
 | [],t,_,_=>by
   show t.cells[q]?=(t.cells[q]?).map fun c=>c
   rw [Option.map_id']
 | p::L,t,h1,h2=>by
   rw [List.foldl_cons,Kh hm q L (chg t p) ((Kf t p).trans h1) ((Kg t p).trans h2)]
   rw [Uu hm h1 h2]
   cases t.cells[q]? with
   | none=>rw [Option.map_none,Option.map_none,Option.map_none]
   | some c =>
     rw [Option.map_some,Option.map_some,Option.map_some,List.filter_cons]
     cases hp:eX m s q p with
     | true=>rw [if_pos rfl,if_pos rfl,List.foldl_cons]
     | false=>rw [if_neg Bool.false_ne_true,if_neg Bool.false_ne_true]
theorem Uv {m s:Nat} (hm:3≤m) {q:Nat} (hq:q < m) (L:List SI):(dS m s L).cells[q]?=some ((L.filter (eX m s q)).foldl (qC s) BC.zero):=by
 unfold dS
 rw [Kh hm q L _ (by simp [BT.new]) rfl]
 simp [BT.new,hq]
theorem Ki (s:Nat):∀ (F:List SI) (c:BC) (A:Nat),A < 16384→(∀ p∈F,p.1 < 256)→c.keys=kk (dC A) →
  (F.foldl (qC s) c).keys=kk (dC (A ^^^ fK (F.map fun p=>bY p.1)))∧(F.foldl (qC s) c).checks=c.checks ^^^ fK (F.map fun p=>eB s 3 (nm p.1))
 | [],c,A,_,_,h=>by
   show c.keys=_∧c.checks=_
   rw [List.map_nil,List.map_nil,Bm,Nat.xor_zero,Nat.xor_zero]
   exact ⟨h,rfl⟩
 | p::F,c,A,hA,hF,h=>by
   have hp:=lB (hF p si)
   obtain ⟨h1,h2⟩:=Ki s F (qC s c p) (A ^^^ bY p.1) (Nat.xor_lt_two_pow (n:=14) hA hp) (fun x hx=>hF x (by simp [hx])) (by show dR c.keys (nm p.1)=_; rw [h]; exact Ur hA hp)
   rw [List.foldl_cons,List.map_cons,List.map_cons,gO,gO,← Nat.xor_assoc,← Nat.xor_assoc]
   exact ⟨h1,h2⟩
def vQ (F : List SI) : Int := F.foldr (fun p a => p.2 + a) 0
theorem Kj (s:Nat):∀ (F:List SI) (c:BC),(∀ p∈F,p.2=1∨p.2 = -1)→-1000000≤c.count - F.length→c.count+F.length≤1000000→(F.foldl (qC s) c).count=c.count+vQ F
 | [],c,_,_,_=>(Int.add_zero _).symm
 | p::F,c,h,h1,h2=>by
   have hp:=h p si
   rw [List.length_cons] at h1 h2
   have e:(qC s c p).count=c.count+p.2:=by
    show IntKind.i64.wrap (c.count+p.2)=_
    rw [IntKind.wrap_i64]
    rcases hp with hp | hp <;> rw [hp] <;> omega
   rw [List.foldl_cons,Kj s F (qC s c p) (fun x hx=>h x (by simp [hx])) (by rw [e]; rcases hp with hp | hp <;> rw [hp] <;> omega) (by rw [e]; rcases hp with hp | hp <;> rw [hp] <;> omega),e]
   show _=c.count+(p.2+vQ F)
   omega
theorem Bn:∀ (F:List SI),(∀ p∈F,p.2=1∨p.2 = -1)→(vQ F+F.length) % 2=0
 | [],_=>rfl
 | p::F,h=>by
   have ih:=Bn F fun x hx=>h x (by simp [hx])
   have hp:=h p si
   have e:vQ (p::F)=p.2+vQ F:=rfl
   rw [e,List.length_cons]
   rcases hp with hp | hp <;> rw [hp] <;> omega
theorem Kk:∀ {l:List Nat} {n:Nat},l.Nodup→(∀ x∈l,x < n)→l.length≤n:=fun {l n} h1 h2=>by
 have:=List.Nodup.length_le_of_subset h1 (l₂:=List.range n) fun x hx=>List.mem_range.2 (h2 x hx)
 rwa [List.length_range] at this
theorem Uw {l r:List Nat} (h:l.Perm r):fK l=fK r:=by
 induction h with
 | nil=>rfl
 | cons x _ ih=>rw [gO,gO,ih]
 | swap x y l=>rw [gO,gO,gO,gO,← Nat.xor_assoc,← Nat.xor_assoc,Nat.xor_comm x]
 | trans _ _ h1 h2=>exact h1.trans h2
section
def iC (F : List SI) : List Nat := F.map Prod.fst
theorem Bo {F:List SI} (h1:∀ p∈F,p.1 < 256) (h2:(iC F).Nodup):(pick fun n=>(iC F).contains n).Perm (iC F):=by
 refine (List.perm_ext_iff_of_nodup (List.Pairwise.filter _ List.nodup_range) h2).2 fun n=>?_
 rw [List.mem_filter,List.mem_range,List.contains_iff_mem]
 refine ⟨fun h=>h.2,fun h=>⟨?_,h⟩⟩
 obtain ⟨p,hp,rfl⟩:=List.mem_map.1 h
 exact h1 p hp
theorem jA.filter {L:List SI} (h:jA L) (f:SI→Bool):jA (L.filter f) :=
 ⟨fun p hp=>h.lt p (List.mem_filter.1 hp).1,fun p hp=>h.sg p (List.mem_filter.1 hp).1,List.Pairwise.sublist (List.Sublist.map _ List.filter_sublist) h.nd⟩
theorem jA.len {L:List SI} (h:jA L):L.length≤256:=by
 have:=Kk h.nd fun x hx=>by
  obtain ⟨p,hp,rfl⟩:=List.mem_map.1 hx
  exact h.lt p hp
 rwa [List.length_map] at this
theorem Kl (s:Nat):∀ F:List SI,((iC F).map bY).map (fun n=>eB s 3 (kk (dC n)))=F.map fun p=>eB s 3 (nm p.1)
 | []=>rfl
 | p::F=>by
   have ih:=Kl s F
   unfold iC at ih ⊢
   rw [List.map_cons,List.map_cons,List.map_cons,List.map_cons,ih]
   unfold nm
   exact List.cons_inj_right _ |>.2 (by unfold nm at ih; exact List.map_congr_left fun _ _=>Eq.refl _)
theorem EB {m s q:Nat} (hm:3≤m) (hq:q < m) {L:List SI} (hL:jA L) {c:BC} (hc:(dS m s L).cells[q]?=some c) :
  ∃ X,X < 16384∧c.keys=kk (dC X)∧fK (((pick fun n=>(iC (L.filter (eX m s q))).contains n).map bY).map (dH s))=X+2 ^ 14*c.checks∧X=fK (((iC (L.filter (eX m s q)))).map bY)∧c.count=vQ (L.filter (eX m s q)):=by
 have hF:=hL.filter (eX m s q)
 have hl:=hF.len
 have h3:=Kj s (L.filter (eX m s q)) BC.zero hF.sg (by show -1000000≤(0:Int) - _; omega) (by show (0:Int)+_≤_; omega)
 obtain ⟨h1,h2⟩:=Ki s (L.filter (eX m s q)) BC.zero 0 (by decide) hF.lt Ew.symm
 rw [Uv hm hq] at hc
 injection hc with hc
 rw [hc] at h1 h2 h3
 have hz:BC.zero.checks=0:=rfl
 have hz2:BC.zero.count=0:=rfl
 rw [hz,Nat.zero_xor] at h2
 rw [Nat.zero_xor] at h1
 rw [hz2,Int.zero_add] at h3
 have e1:(L.filter (eX m s q)).map (fun p=>bY p.1)=(iC (L.filter (eX m s q))).map bY:=by unfold iC; rw [List.map_map]; rfl
 have hlt:∀ n∈(iC (L.filter (eX m s q))).map bY,n < 16384:=fun n hn=>by
  obtain ⟨x,hx,rfl⟩:=List.mem_map.1 hn
  obtain ⟨p,hp,rfl⟩:=List.mem_map.1 hx
  exact lB (hF.lt p hp)
 obtain ⟨d,v1,v2,v3⟩:=JU s _ hlt
 rw [e1] at h1
 refine ⟨_,v3,h1,?_,rfl,h3⟩
 rw [Uw (((Bo hF.lt hF.nd).map bY).map (dH s)),v1,v2,h2,Kl]
theorem Km {m s q n:Nat} (hm:3≤m) (h:nX m s (nm n) q=true):∃ j,j < 3∧q / (m / 3)=j∧eB s j (nm n) % (m / 3)=q % (m / 3):=by
 obtain ⟨j,hj,rfl⟩:=Es.1 h
 have ht:0 < m / 3:=om
 have hr:=Nat.mod_lt (eB s j (nm n)) ht
 refine ⟨j,hj,?_,?_⟩
 ·unfold dB
  rw [Nat.mul_comm]
  exact (pX hr).1
 ·unfold dB
  rw [Nat.mul_comm]
  exact (pX hr).2.symm
section
variable {t : Nat} {L : List SI}
theorem Bp (ht:0 < t) {q n:Nat} (h:nX (3*t) 0 (nm n) q=true):q / t < 3∧eB 0 (q / t) (kk (dC (bY n))) % t=q % t:=by
 obtain ⟨j,h1,h2,h3⟩:=Km (m:=3*t) om h
 rw [Nat.mul_div_cancel_left _ (by decide)] at h2 h3
 rw [h2]
 exact ⟨h1,h3⟩
theorem EC {q n:Nat} (h:(iC (L.filter (eX (3*t) 0 q))).contains n=true):nX (3*t) 0 (nm n) q=true:=by
 rw [List.contains_iff_mem] at h
 obtain ⟨p,hp,rfl⟩:=List.mem_map.1 h
 exact (List.mem_filter.1 hp).2
theorem rG (m s:Nat) (L:List SI):(dS m s L).cells.length=m:=by unfold dS; rw [(EA L _).1]; simp [BT.new]
theorem Ux (h5:5≤t) (h505:t < 505) (hL:jA L) {q:Nat} {c:BC} (hc:(dS (3*t) 0 L).cells[q]?=some c) (hp:c.pure 0=true):∃ p,p∈L∧c.keys=nm p.1∧c.count=p.2:=by
 have hq:q < 3*t:=by have:=(List.getElem?_eq_some_iff.1 hc).1; rwa [rG] at this
 have hF:=hL.filter (eX (3*t) 0 q)
 obtain ⟨X,x1,x2,x3,x4,x5⟩:=EB om hq hL hc
 have hpm:=Bo hF.lt hF.nd
 unfold BC.pure at hp
 rw [Bool.and_eq_true,Bool.or_eq_true,decide_eq_true_eq,decide_eq_true_eq,decide_eq_true_eq] at hp
 obtain ⟨hp1,hp2⟩:=hp
 have hlen:=hpm.length_eq
 have hll:(iC (L.filter (eX (3*t) 0 q))).length=(L.filter (eX (3*t) 0 q)).length:=List.length_map ..
 have hne:pick (fun n=>(iC (L.filter (eX (3*t) 0 q))).contains n)≠[]:=fun e=>by
  have e2:(L.filter (eX (3*t) 0 q)).length=0:=by rw [← hll,← hlen,e]; rfl
  rw [List.eq_nil_of_length_eq_zero e2] at x5
  rw [x5] at hp1
  rcases hp1 with h | h <;> cases h
 obtain ⟨n,hn⟩:=List.exists_mem_of_ne_nil _ hne
 obtain ⟨hi,_⟩:=Bp (t:=t) om (EC (oY hn).2)
 have hlo:=(JX hi h5 h505 (q % t) fun n _ h=>(Bp (t:=t) om (EC h)).2).1 (by
  have h1:=Bn _ hF.sg
  rw [← x5] at h1
  rw [hlen,hll]
  clear x3 x4 hp2 x2 x5
  omega) X x1 (by rw [x3,hp2,x2]; rfl)
 have hone:(L.filter (eX (3*t) 0 q)).length=1:=by
  have:=congrArg List.length hlo
  rw [List.length_map] at this
  rw [← hll,← hlen,this]
  rfl
 obtain ⟨p,hpF⟩:=List.length_eq_one_iff.1 hone
 refine ⟨p,(List.mem_filter.1 (show p∈L.filter (eX (3*t) 0 q) by rw [hpF]; simp)).1,?_,?_⟩
 ·rw [x2,x4,hpF]
  show kk (dC (bY p.1 ^^^ 0))=_
  rw [Nat.xor_zero]
  rfl
 ·rw [x5,hpF]
  exact Int.add_zero _
theorem Kn (h5:5≤t) (h505:t < 505) (hL:jA L) (he:(dS (3*t) 0 L).empty=true):L=[]:=by
 apply Classical.byContradiction
 intro hne
 obtain ⟨p,hp⟩:=List.exists_mem_of_ne_nil _ hne
 have hm:3≤3*t:=om
 have hq:=wW (3*t) 0 (nm p.1) 0 hm (by decide)
 have hin:nX (3*t) 0 (nm p.1) (dB (3*t) 0 (nm p.1) 0)=true:=Es.2 ⟨0,by decide,rfl⟩
 generalize dB (3*t) 0 (nm p.1) 0=q at hq hin
 have hc:=List.getElem?_eq_getElem (l:=(dS (3*t) 0 L).cells) (i:=q) (by rw [rG]; exact hq)
 have hz:=List.all_eq_true.1 he _ (List.getElem_mem (l:=(dS (3*t) 0 L).cells) (n:=q) (by rw [rG]; exact hq))
 have hF:=hL.filter (eX (3*t) 0 q)
 obtain ⟨X,x1,x2,x3,x4,x5⟩:=EB hm hq hL hc
 have hpm:=Bo hF.lt hF.nd
 unfold BC.isZero at hz
 rw [Bool.and_eq_true,Bool.and_eq_true,decide_eq_true_eq,decide_eq_true_eq,decide_eq_true_eq] at hz
 obtain ⟨⟨z1,z2⟩,z3⟩:=hz
 rw [z2,← Ew] at x2
 have hX:X=0:=(Ey (by decide) x1 x2).symm
 rw [z3,hX,Nat.mul_zero] at x3
 have hlen:=hpm.length_eq
 have hll:(iC (L.filter (eX (3*t) 0 q))).length=(L.filter (eX (3*t) 0 q)).length:=List.length_map ..
 obtain ⟨hi,_⟩:=Bp (t:=t) om hin
 have hlo:=(JX hi h5 h505 (q % t) fun n _ h=>(Bp (t:=t) om (EC h)).2).2 (by
  have h1:=Bn _ hF.sg
  rw [← x5,z1] at h1
  rw [hlen,hll]
  clear x3 x4 x2 x5
  omega) x3
 rw [hlo] at hpm
 have h0:iC (L.filter (eX (3*t) 0 q))=[]:=hpm.symm.eq_nil
 have h1:p.1∈iC (L.filter (eX (3*t) 0 q)):=List.mem_map.2 ⟨p,List.mem_filter.2 ⟨hp,hin⟩,rfl⟩
 rw [h0] at h1
 cases h1
end
end
theorem ED {m s:Nat} {L M:List SI} (h:L.Perm M):dS m s L=dS m s M :=
 h.foldl_eq' (fun x _ y _ z=>BT.Fs z (nm x.1) (nm y.1) x.2 y.2) _
theorem Ko:∀ {L:List SI} {t:BT},t.Ok→(L.foldl chg t).Ok
 | [],_,h=>h
 | p::L,t,h=>Ko (L:=L) (t:=chg t p) (BT.Ok.change h (Ez p.1) p.2)
theorem Uy (m:Nat) {s:Nat} (hs:cG s) (L:List SI):(dS m s L).Ok:=Ko (BT.Ok.new m s hs)
theorem Kp {m s:Nat} (hs:cG s) {L M:List SI} {p:SI} (h:L.Perm (p::M)):(dS m s L).change (nm p.1) (-p.2)=dS m s M:=by
 have h2:L.Perm (M++[p]):=h.trans (List.perm_append_singleton p M).symm
 rw [ED h2]
 have e:dS m s (M++[p])=(dS m s M).change (nm p.1) p.2:=by
  unfold dS
  rw [List.foldl_append]
  rfl
 rw [e]
 exact BT.Fu (Uy m hs M) (nm p.1) (Ez _) p.2
theorem jA.perm {L M:List SI} (h:jA L) (e:L.Perm M):jA M:=⟨fun p hp=>h.lt p (e.mem_iff.2 hp),fun p hp=>h.sg p (e.mem_iff.2 hp),((e.map Prod.fst).nodup_iff).1 h.nd⟩
theorem jA.tail {p:SI} {M:List SI} (h:jA (p::M)):jA M:=⟨fun x hx=>h.lt x (by simp [hx]),fun x hx=>h.sg x (by simp [hx]),(List.nodup_cons.1 h.nd).2⟩
def lY (L : List SI) : List (List UInt8) := (L.filter fun p => decide (p.2 = 1)).map fun p => nm p.1
def lZ (L : List SI) : List (List UInt8) := (L.filter fun p => !decide (p.2 = 1)).map fun p => nm p.1
theorem Uz {L M:List SI} (h:L.Perm M):(lY L).Perm (lY M):=(h.filter _).map _
theorem UA {L M:List SI} (h:L.Perm M):(lZ L).Perm (lZ M):=(h.filter _).map _
theorem Kq {t:Nat} (h5:5≤t) (h505:t < 505):∀ (n:Nat) {L:List SI} {tk ad rm:List (List UInt8)} {s':fG},jA L→eL n ⟨dS (3*t) 0 L,tk,ad,rm⟩=some s'→s'.t.empty=true→s'.added.Perm (ad++lY L)∧s'.removed.Perm (rm++lZ L)
 | 0,L,tk,ad,rm,s',hL,h,he=>by
   cases h
   rw [Kn h5 h505 hL he]
   exact ⟨by rw [show lY []=[] from rfl,List.append_nil],by rw [show lZ []=[] from rfl,List.append_nil]⟩
 | n+1,L,tk,ad,rm,s',hL,h,he=>by
   unfold eL at h
   cases hf:(dS (3*t) 0 L).first with
   | none =>
     simp only [hf] at h
     cases h
     rw [Kn h5 h505 hL he]
     exact ⟨by rw [show lY []=[] from rfl,List.append_nil],by rw [show lZ []=[] from rfl,List.append_nil]⟩
   | some i =>
     simp only [hf] at h
     have hsd:(dS (3*t) 0 L).seed=0:=(EA L _).2
     obtain ⟨c,hc,hpu⟩:∃ c,(dS (3*t) 0 L).cells[i]?=some c∧c.pure 0=true:=by
      unfold BT.first at hf
      rw [hsd] at hf
      obtain ⟨hi,hp,_⟩:=List.findIdx?_eq_some_iff_getElem.1 hf
      exact ⟨_,List.getElem?_eq_getElem hi,hp⟩
     have hca:(dS (3*t) 0 L).cellAt i=c:=by unfold BT.cellAt; rw [List.getD_eq_getElem?_getD,hc]; rfl
     rw [hca] at h
     split at h
     ·cases h
     ·obtain ⟨p,hp,hk,hcn⟩:=Ux h5 h505 hL hc hpu
      have hpe:L.Perm (p::L.erase p):=List.perm_cons_erase hp
      have hL':=(hL.perm hpe).tail
      unfold fG.take at h
      dsimp only at h
      rw [hk,hcn,Kp (by unfold cG; decide) hpe] at h
      obtain ⟨h1,h2⟩:=Kq h5 h505 n hL' h he
      have q1:=Uz hpe
      have q2:=UA hpe
      by_cases hs:p.2=1
      ·rw [if_pos hs] at h1 h2
       have e1:lY (p::L.erase p)=nm p.1::lY (L.erase p):=by unfold lY; rw [List.filter_cons_of_pos (by simpa using hs),List.map_cons]
       have e2:lZ (p::L.erase p)=lZ (L.erase p):=by unfold lZ; rw [List.filter_cons_of_neg (by simpa using hs)]
       rw [e1] at q1
       rw [e2] at q2
       rw [List.append_assoc] at h1
       exact ⟨h1.trans (q1.symm.append_left ad),h2.trans (q2.symm.append_left rm)⟩
      ·rw [if_neg hs] at h1 h2
       have e1:lY (p::L.erase p)=lY (L.erase p):=by unfold lY; rw [List.filter_cons_of_neg (by simpa using hs)]
       have e2:lZ (p::L.erase p)=nm p.1::lZ (L.erase p):=by unfold lZ; rw [List.filter_cons_of_pos (by simpa using hs),List.map_cons]
       rw [e1] at q1
       rw [e2] at q2
       rw [List.append_assoc] at h2
       exact ⟨h1.trans (q1.symm.append_left ad),h2.trans (q2.symm.append_left rm)⟩
theorem UB {t:Nat} (h5:5≤t) (h505:t < 505) {L:List SI} (hL:jA L) {p:List Bs × List Bs} (h:(dS (3*t) 0 L).raw=some p):p.1.Perm (lY L)∧p.2.Perm (lZ L):=by
 unfold BT.raw at h
 cases hp:eL (dS (3*t) 0 L).cells.length ⟨dS (3*t) 0 L,[],[],[]⟩ with
 | none=>rw [hp] at h; cases h
 | some s =>
   rw [hp] at h
   dsimp only at h
   split at h
   ·rename_i he
    cases h
    exact Kq h5 h505 _ hL hp he
   ·cases h
/-! ### The difference of two tables -/
def jB (A : List Nat) : List SI := A.map fun n => (n, 1)
def jR (A : List Nat) : List SI := A.map fun n => (n, -1)
theorem UC {L M:List SI} (h:L.Perm M) (t:BT):L.foldl chg t=M.foldl chg t:=h.foldl_eq' (fun x _ y _ z=>BT.Fs z (nm x.1) (nm y.1) x.2 y.2) t
theorem UD (p:SI) (L:List SI) (t:BT):(p::L).foldl chg t=(L.foldl chg t).change (nm p.1) p.2:=by
 rw [UC (List.perm_append_singleton p L).symm t,List.foldl_append]
 rfl
theorem yF (m s:Nat) (p:SI) (L:List SI):dS m s (p::L)=(dS m s L).change (nm p.1) p.2:=UD p L _
theorem Kr (m s:Nat) (A:List Nat):bI (BT.new m s) (A.map nm)=dS m s (jB A):=by
 unfold bI dS jB
 rw [List.foldl_map,List.foldl_map]
 rfl
theorem Ks (m s:Nat) (L:List SI):(dS m s L).seed=s:=(EA L _).2
theorem Kt {m s:Nat} (hs:cG s):∀ L:List SI,(dS m s L).sub (BT.new m s)=dS m s L
 | []=>by
   have h:=sub_self (BT.Ok.new m s hs)
   rw [vA] at h
   exact h
 | p::L=>by rw [yF,Ul _ _ _ _ (by rw [rG,vA]),Kt hs L]
theorem Ku {m s:Nat} (hs:cG s) (L:List SI):∀ B:List Nat,(dS m s L).sub (dS m s (jB B))=dS m s (jR B++L)
 | []=>Kt hs L
 | n::B=>by
   show (dS m s L).sub (dS m s ((n,1)::jB B))=dS m s ((n,-1)::(jR B++L))
   rw [yF,yF,Um _ _ _ _ (by rw [rG,rG]) (by rw [Ks,Ks]),Ku hs L B]
def dP (A B : List Nat) : List Nat := A.filter fun n => !B.contains n
theorem EE {m s:Nat} (hs:cG s):∀ (A B:List Nat),A.Nodup→B.Nodup→dS m s (jR B++jB A)=dS m s (jR (dP B A)++jB (dP A B))
 | [],B,_,_=>by
   have:dP B []=B:=List.filter_eq_self.2 fun _ _=>rfl
   rw [this]
   rfl
 | x::A,B,hA,hB=>by
   obtain ⟨hx,hA'⟩:=List.nodup_cons.1 hA
   have p1:(jR B++jB (x::A)).Perm ((x,1)::(jR B++jB A)):=List.perm_middle
   rw [ED p1,yF]
   by_cases h:x∈B
   ·have p2:(jR B).Perm ((x,-1)::jR (B.erase x)):=(List.perm_cons_erase h).map _
    have e:B.erase x=B.filter (fun y=>y != x):=hB.erase_eq_filter x
    have hu:=Kp (m:=m) hs (L:=jR B++jB A) (M:=jR (B.erase x)++jB A) (p:=(x,-1)) (p2.append_right (jB A))
    rw [show (-((x,(-1:Int)):SI).2)=1 from rfl] at hu
    show (dS m s (jR B++jB A)).change (nm x) 1=_
    rw [hu,EE hs A (B.erase x) hA' (hB.erase x)]
    have e1:dP (B.erase x) A=dP B (x::A):=by
     unfold dP
     rw [e,List.filter_filter]
     refine List.filter_congr fun y _=>?_
     rw [List.contains_cons]
     show (!A.contains y && !(y == x)) = !((y == x) || A.contains y)
     cases (y == x) <;> cases A.contains y <;> rfl
    have e2:dP A (B.erase x)=dP (x::A) B:=by
     unfold dP
     rw [List.filter_cons_of_neg (by simpa using h)]
     refine List.filter_congr fun y hy=>?_
     have hyx:y≠x:=fun e=>hx (e▸hy)
     rw [Bool.eq_iff_iff]
     simp [List.mem_erase_of_ne hyx]
    rw [e1,e2]
   ·rw [EE hs A B hA' hB,← yF]
    have e1:dP B (x::A)=dP B A:=by
     refine List.filter_congr fun y hy=>?_
     have hyx:(y == x)=false:=by simpa using fun e:y=x=>h (e▸hy)
     rw [List.contains_cons,hyx,Bool.false_or]
    have e2:dP (x::A) B=x::dP A B:=by
     unfold dP
     exact List.filter_cons_of_pos (by simpa using h)
    rw [e1,e2]
    exact ED List.perm_middle.symm
theorem Kv {m s:Nat} (hs:cG s) {A B:List Nat} (hA:A.Nodup) (hB:B.Nodup):(bI (BT.new m s) (A.map nm)).sub (bI (BT.new m s) (B.map nm))=dS m s (jR (dP B A)++jB (dP A B)):=by
 rw [Kr,Kr,Ku hs,EE hs A B hA hB]
theorem Kw {A B:List Nat} (hA:A.Nodup) (hB:B.Nodup) (h1:∀ n∈A,n < 256) (h2:∀ n∈B,n < 256):jA (jR (dP B A)++jB (dP A B)):=by
 refine ⟨fun p hp=>?_,fun p hp=>?_,?_⟩
 ·rcases List.mem_append.1 hp with hp | hp
  ·obtain ⟨n,hn,rfl⟩:=List.mem_map.1 hp
   exact h2 n (List.mem_filter.1 hn).1
  ·obtain ⟨n,hn,rfl⟩:=List.mem_map.1 hp
   exact h1 n (List.mem_filter.1 hn).1
 ·rcases List.mem_append.1 hp with hp | hp
  ·obtain ⟨n,hn,rfl⟩:=List.mem_map.1 hp
   exact .inr rfl
  ·obtain ⟨n,hn,rfl⟩:=List.mem_map.1 hp
   exact .inl rfl
 ·unfold jR jB
  rw [List.map_append,List.map_map,List.map_map]
  have e:∀ l:List Nat,∀ z:Int,l.map (Prod.fst∘fun n=>(n,z))=l:=fun l z=>List.map_id' l
  rw [e,e]
  refine List.nodup_append.2 ⟨hB.filter _,hA.filter _,fun a ha b hb hab=>?_⟩
  subst hab
  have:=(List.mem_filter.1 ha).2
  simp [(List.mem_filter.1 hb).1] at this
theorem Kx (A B:List Nat):lY (jR B++jB A)=A.map nm∧lZ (jR B++jB A)=B.map nm:=by
 unfold lY lZ jR jB
 rw [List.filter_append,List.filter_append,List.filter_map,List.filter_map,List.filter_map,List.filter_map]
 have f1:∀ l:List Nat,l.filter ((fun p:SI=>decide (p.2=1))∘fun n=>(n,-1))=[]:=fun l=>List.filter_eq_nil_iff.2 fun _ _=>by simp
 have f2:∀ l:List Nat,l.filter ((fun p:SI=>decide (p.2=1))∘fun n=>(n,1))=l:=fun l=>List.filter_eq_self.2 fun _ _=>by simp
 have f3:∀ l:List Nat,l.filter ((fun p:SI=>!decide (p.2=1))∘fun n=>(n,-1))=l:=fun l=>List.filter_eq_self.2 fun _ _=>by simp
 have f4:∀ l:List Nat,l.filter ((fun p:SI=>!decide (p.2=1))∘fun n=>(n,1))=[]:=fun l=>List.filter_eq_nil_iff.2 fun _ _=>by simp
 rw [f1,f2,f3,f4,List.map_nil,List.map_nil,List.nil_append,List.append_nil,List.map_map,List.map_map]
 exact ⟨List.map_congr_left fun _ _=>rfl,List.map_congr_left fun _ _=>rfl⟩
theorem UE {t:Nat} (h5:5≤t) (h505:t < 505) {A B:List Nat} (hA:A.Nodup) (hB:B.Nodup) (h1:∀ n∈A,n < 256) (h2:∀ n∈B,n < 256) {l r:List Bs} (h:((dE (A.map nm) (3*t)).sub (dE (B.map nm) (3*t))).keys=some (l,r)):l=gR ((dP A B).map nm)∧r=gR ((dP B A).map nm):=by
 unfold dE at h
 rw [Kv (by unfold cG; decide) hA hB] at h
 obtain ⟨p,hp,rfl,rfl⟩:=AK h
 obtain ⟨q1,q2⟩:=UB h5 h505 (Kw hA hB h1 h2) hp
 rw [(Kx _ _).1] at q1
 rw [(Kx _ _).2] at q2
 exact ⟨AG ((nR _).trans (q1.trans (nR _).symm)) (qZ _) (qZ _),AG ((nR _).trans (q2.trans (nR _).symm)) (qZ _) (qZ _)⟩
/-! ### Keys by level -/
theorem UF (x : List UInt8) : fH x = lz (iL (dM x) 8 / 281474976710656) := by
 unfold fH
 congr 1
 unfold pW
 show _ = ((((((((0 * 256 + ((dM x).getD 0 0).toNat) * 256 + ((dM x).getD 1 0).toNat) * 256 + ((dM x).getD 2 0).toNat) * 256 + ((dM x).getD 3 0).toNat) * 256 + ((dM x).getD 4 0).toNat) * 256 + ((dM x).getD 5 0).toNat) * 256 + ((dM x).getD 6 0).toNat) * 256 + ((dM x).getD 7 0).toNat) / 281474976710656
 generalize dM x = l
 have h : ∀ k, (l.getD k 0).toNat < 256 := fun k => UInt8.toNat_lt _
 have h0 := h 0
 have h1 := h 1
 have h2 := h 2
 have h3 := h 3
 have h4 := h 4
 have h5 := h 5
 have h6 := h 6
 have h7 := h 7
 generalize (l.getD 0 0).toNat = a0 at *
 generalize (l.getD 1 0).toNat = a1 at *
 generalize (l.getD 2 0).toNat = a2 at *
 generalize (l.getD 3 0).toNat = a3 at *
 generalize (l.getD 4 0).toNat = a4 at *
 generalize (l.getD 5 0).toNat = a5 at *
 generalize (l.getD 6 0).toNat = a6 at *
 generalize (l.getD 7 0).toNat = a7 at *
 clear h
 omega
def Bq {α : Type} : Nat → Nat → Nat → Nat → (List (Nat × Nat) → α) → α
 | 0, _, _, _, k => k []
 | n + 1, i, X, C, k => dK (X % 18446744073709551616) fun v => dK (X / 18446744073709551616) fun X' => dK (C % 18446744073709551616) fun w => dK (C / 18446744073709551616) fun C' => dK (lz (w / 281474976710656) * 4 + v % 4) fun r => dK (bY i) fun x => dK (i + 1) fun j => Bq n j X' C' fun l => k ((r, x) :: l)
theorem Ky {α : Type} : ∀ (n i : Nat) {f g : Nat → Nat} (_ : ∀ i, i < n → f i < 2 ^ 64) (_ : ∀ i, i < n → g i < 2 ^ 64) (k : List (Nat × Nat) → α), Bq n i (aT n f) (aT n g) k = k ((List.range n).map fun m => (lz (g m / 281474976710656) * 4 + f m % 4, bY (i + m)))
 | 0, _, _, _, _, _, _ => rfl
 | n + 1, i, f, g, h, h', k => by
   have h0 : f 0 < 18446744073709551616 := h 0 (by omega)
   have h0' : g 0 < 18446744073709551616 := h' 0 (by omega)
   unfold Bq
   rw [fD, fD, fD, fD, fD, fD, fD]
   unfold aT
   have e1 : ∀ a b, a < 18446744073709551616 → (a + 18446744073709551616 * b) % 18446744073709551616 = a := fun a b ha => by rw [Nat.add_mul_mod_self_left, Nat.mod_eq_of_lt ha]
   have e2 : ∀ a b, a < 18446744073709551616 → (a + 18446744073709551616 * b) / 18446744073709551616 = b := fun a b ha => by rw [Nat.add_mul_div_left _ _ (by decide), Nat.div_eq_of_lt ha, Nat.zero_add]
   rw [e1 _ _ h0, e2 _ _ h0, e1 _ _ h0', e2 _ _ h0', Ky n (i + 1) (fun i hi => h (i + 1) (by omega)) (fun i hi => h' (i + 1) (by omega)), List.range_succ_eq_map, List.map_cons, List.map_map]
   congr 2
   refine List.map_congr_left fun m _ => ?_
   show (_, bY (i + 1 + m)) = (_, bY (i + (m + 1)))
   rw [show i + 1 + m = i + (m + 1) by omega]
def Br {α : Type} (s : Nat) (k : List (Nat × Nat) → α) : α :=
 dK (tB 8) fun o => dK (xU o) fun M => dK (tC 8) fun io => dK (Bi io o) fun F => dK (yC M o F s 0) fun X => dK (Eh M o F) fun C => Bq (2 ^ 8) 0 X C k
noncomputable def vR (Ps V : List Nat) : Bool := bif nW V then true else free Ps V
noncomputable def mA (s : Nat) : Bool := Bj s fun _ Ps => Br s fun L => oX (vR Ps) 6 L
set_option maxRecDepth 100000
theorem UG : mA 1 = true := by decide +kernel
theorem UI : mA 2 = true := by decide +kernel
theorem UJ : mA 3 = true := by decide +kernel
theorem UK : mA 4 = true := by decide +kernel
theorem UL : mA 5 = true := by decide +kernel
theorem UM : mA 6 = true := by decide +kernel
theorem UN : mA 7 = true := by decide +kernel
theorem UO : mA 8 = true := by decide +kernel
theorem UP : mA 9 = true := by decide +kernel
theorem UQ : mA 10 = true := by decide +kernel
theorem UR : mA 11 = true := by decide +kernel
theorem US : mA 12 = true := by decide +kernel
theorem UT {α : Type} {s : Nat} (hs : s < 256) (k : List (Nat × Nat) → α) : Br s k = k ((List.range 256).map fun n => (lz (iL (dM (kk (dC (bY n)))) 8 / 281474976710656) * 4 + eB s 0 (kk (dC (bY n))) % 4, bY n)) := by
 unfold Br
 simp only [fD]
 have hx := JO (2 ^ 8) (by decide)
 rw [yB, DU, AY, hx.eq]
 have hx' : aP (2 ^ 8) (aT (2 ^ 8) fun n => dC (bY n)) (fun n => dC (bY n)) := ⟨rfl, hx.lt⟩
 rw [Eg hx' (fun n hn => pZ (lB hn)) hs (by decide), TK hx' (fun n hn => pZ (lB hn))]
 rw [Ky (2 ^ 8) 0 (fun i _ => uL _ _ _) (fun i _ => Ab _ 8)]
 simp only [Nat.zero_add]
theorem UU {s : Nat} (h1 : 1 ≤ s) (h2 : s ≤ 12) : ∃ Ps, mX (dH s) 16384 (fun _ => False) Ps ∧ oX (vR Ps) 6 ((List.range 256).map fun n => (lz (iL (dM (kk (dC (bY n)))) 8 / 281474976710656) * 4 + eB s 0 (kk (dC (bY n))) % 4, bY n)) = true := by
 have h : mA s = true := match s, h1, h2 with
  | 1, _, _ => UG
  | 2, _, _ => UI
  | 3, _, _ => UJ
  | 4, _, _ => UK
  | 5, _, _ => UL
  | 6, _, _ => UM
  | 7, _, _ => UN
  | 8, _, _ => UO
  | 9, _, _ => UP
  | 10, _, _ => UQ
  | 11, _, _ => UR
  | 12, _, _ => US
 unfold mA at h
 obtain ⟨top, Ps, e1, _, e3⟩ := JQ (s := s) (by omega) fun _ Ps => Br s fun L => oX (vR Ps) 6 L
 rw [e1, UT (by omega)] at h
 exact ⟨Ps, e3, h⟩
theorem UW {s : Nat} (h1 : 1 ≤ s) (h2 : s ≤ 12) (r : Nat) {p : Nat → Bool} (hp : ∀ n, n < 256 → p n = true → lz (iL (dM (kk (dC (bY n)))) 8 / 281474976710656) * 4 + eB s 0 (kk (dC (bY n))) % 4 = r) (he : (pick p).length % 2 = 0) :
  fK (((pick p).map bY).map (dH s)) = 0 → pick p = [] := by
 obtain ⟨Ps, h3, h4⟩ := UU h1 h2
 obtain ⟨g, g1, g2⟩ := Bh (fun V hV => by unfold vR; rw [hV]; rfl) h4 r
 rw [List.filter_map, List.map_map] at g2
 have hps : ∀ n, n < 256 → p n = true → (g ∘ fun n => (lz (iL (dM (kk (dC (bY n)))) 8 / 281474976710656) * 4 + eB s 0 (kk (dC (bY n))) % 4, bY n)) n = true := fun n hn hpn => g1 _ (hp n hn hpn)
 generalize (g ∘ fun n => (lz (iL (dM (kk (dC (bY n)))) 8 / 281474976710656) * 4 + eB s 0 (kk (dC (bY n))) % 4, bY n)) = fA at g2 hps
 have g3 : vR Ps ((pick fA).map bY) = true := g2
 have hF := JS hps
 unfold vR at g3
 cases hsh : nW ((pick fA).map bY) with
 | true =>
   have hl : (pick p).length ≤ 2 := by
    have h6 := JR hsh
    have h7 := List.length_filter_le (fun x => p (x % 256)) ((pick fA).map bY)
    rw [hF, List.length_map] at h7
    omega
   cases hpp : pick p with
   | nil => exact fun _ => rfl
   | cons n l =>
     rw [hpp, List.length_cons] at hl he
     obtain ⟨m, rfl⟩ : ∃ m, l = [m] := List.length_eq_one_iff.1 (by omega)
     intro e
     exfalso
     have hn := oY (p := p) (n := n) (by rw [hpp]; simp)
     have hm := oY (p := p) (n := m) (by rw [hpp]; simp)
     rw [List.map_cons, List.map_cons, List.map_cons, List.map_nil, List.map_cons, List.map_nil, gO, gO, Bm, Nat.xor_zero] at e
     have e2 : dH s (bY n) = dH s (bY m) := JV e
     have hnd := En p
     rw [hpp] at hnd
     simp only [List.map_cons, List.map_nil, List.nodup_cons, List.mem_singleton] at hnd
     exact hnd.1 (Eo (lB hn.1) (lB hm.1) e2)
 | false =>
   rw [hsh] at g3
   intro e
   have := Tz h3 (fun v hv => by
    obtain ⟨n, hn, rfl⟩ := List.mem_map.1 hv
    exact lB (oY hn).1) g3 (fun x => p (x % 256)) (by rw [hF]; exact e)
   rw [hF] at this
   exact List.map_eq_nil_iff.1 this
theorem UX {k:Nat} (hk:k < 12) {L:List SI} (hL:jA L) (hv:∀ p∈L,fH (nm p.1)=k) (he:(dS 12 (k+1) L).empty=true):L=[]:=by
 apply Classical.byContradiction
 intro hne
 obtain ⟨p,hp⟩:=List.exists_mem_of_ne_nil _ hne
 have hm:3≤12:=by decide
 have hq:=wW 12 (k+1) (nm p.1) 0 hm (by decide)
 have hin:nX 12 (k+1) (nm p.1) (dB 12 (k+1) (nm p.1) 0)=true:=Es.2 ⟨0,by decide,rfl⟩
 have hq4:dB 12 (k+1) (nm p.1) 0 < 4:=by
  unfold dB
  rw [Nat.zero_mul,Nat.zero_add]
  exact Nat.mod_lt _ (by decide)
 generalize dB 12 (k+1) (nm p.1) 0=q at hq hin hq4
 have hc:=List.getElem?_eq_getElem (l:=(dS 12 (k+1) L).cells) (i:=q) (by rw [rG]; exact hq)
 have hz:=List.all_eq_true.1 he _ (List.getElem_mem (l:=(dS 12 (k+1) L).cells) (n:=q) (by rw [rG]; exact hq))
 have hF:=hL.filter (eX 12 (k+1) q)
 obtain ⟨X,x1,x2,x3,x4,x5⟩:=EB hm hq hL hc
 have hpm:=Bo hF.lt hF.nd
 unfold BC.isZero at hz
 rw [Bool.and_eq_true,Bool.and_eq_true,decide_eq_true_eq,decide_eq_true_eq,decide_eq_true_eq] at hz
 obtain ⟨⟨z1,z2⟩,z3⟩:=hz
 rw [z2,← Ew] at x2
 have hX:X=0:=(Ey (by decide) x1 x2).symm
 rw [z3,hX,Nat.mul_zero] at x3
 have hlen:=hpm.length_eq
 have hll:(iC (L.filter (eX 12 (k+1) q))).length=(L.filter (eX 12 (k+1) q)).length:=List.length_map ..
 have hlo:=UW (s:=k+1) om om (k*4+q % 4) (p:=fun n=>(iC (L.filter (eX 12 (k+1) q))).contains n) (fun n _ h=>by
  rw [List.contains_iff_mem] at h
  obtain ⟨x,hx,rfl⟩:=List.mem_map.1 h
  have hxi:nX 12 (k+1) (nm x.1) q=true:=(List.mem_filter.1 hx).2
  have hxl:=hv x (List.mem_filter.1 hx).1
  rw [UF] at hxl
  obtain ⟨j,_,y2,y3⟩:=Km hm hxi
  have hj:j=0:=by rw [← y2]; exact Nat.div_eq_of_lt hq4
  rw [hj] at y3
  change lz (iL (dM (nm x.1)) 8 / 281474976710656)*4+eB (k+1) 0 (nm x.1) % 4=_
  rw [hxl]
  exact congrArg (k*4 + ·) y3) (by
  have h1:=Bn _ hF.sg
  rw [← x5,z1] at h1
  rw [hlen,hll]
  clear x3 x4 x2 x5
  omega) x3
 rw [hlo] at hpm
 have h0:iC (L.filter (eX 12 (k+1) q))=[]:=hpm.symm.eq_nil
 have h1:p.1∈iC (L.filter (eX 12 (k+1) q)):=List.mem_map.2 ⟨p,List.mem_filter.2 ⟨hp,hin⟩,rfl⟩
 rw [h0] at h1
 cases h1
theorem Kz:∀ (n:Nat) {s s':fG},eL n s=some s'→s'.added.length+s'.removed.length=s.added.length+s.removed.length∧s'=s∨s.added.length+s.removed.length < s'.added.length+s'.removed.length
 | 0,s,s',h=>by cases h; exact .inl ⟨rfl,rfl⟩
 | n+1,s,s',h=>by
   unfold eL at h
   cases hf:s.t.first with
   | none=>simp only [hf] at h; cases h; exact .inl ⟨rfl,rfl⟩
   | some i =>
     simp only [hf] at h
     split at h
     ·cases h
     ·have ih:=Kz n h
      have e:(s.take (s.t.cellAt i)).added.length+(s.take (s.t.cellAt i)).removed.length=s.added.length+s.removed.length+1:=by
       unfold fG.take
       dsimp only
       split <;> simp only [List.length_append,List.length_cons,List.length_nil] <;> omega
      rcases ih with ⟨a,_⟩ | a
      ·right; omega
      ·right; omega
theorem UY {t:BT} (h:t.raw=some ([],[])):t.empty=true:=by
 unfold BT.raw at h
 cases hp:eL t.cells.length ⟨t,[],[],[]⟩ with
 | none=>rw [hp] at h; cases h
 | some s =>
   rw [hp] at h
   dsimp only at h
   split at h
   ·rename_i he
    injection h with h
    rcases Kz _ hp with ⟨_,e⟩ | e
    ·rw [e] at he; exact he
    ·rw [show s.added=[] from congrArg Prod.fst h,show s.removed=[] from congrArg Prod.snd h] at e
     exact absurd e (Nat.lt_irrefl 0)
   ·cases h
theorem KA {a b:List BT}:∀ {i s:Nat},nU a b i s=0→s=0∧∀ j,j < i→((a.getD j (BT.new 0 0)).sub (b.getD j (BT.new 0 0))).raw=some ([],[])
 | 0,s,h=>⟨h,fun j hj=>absurd hj om⟩
 | i+1,s,h=>by
   rw [nU] at h
   cases hr:((a.getD i (BT.new 0 0)).sub (b.getD i (BT.new 0 0))).raw with
   | none =>
     rw [hr] at h
     dsimp only at h
     have:=Nat.two_pow_pos (i+1)
     rcases Nat.mul_eq_zero.1 h with h | h <;> omega
   | some p =>
     rw [hr] at h
     dsimp only at h
     obtain ⟨h1,h2⟩:=KA h
     have e1:p.1=[]:=List.eq_nil_of_length_eq_zero om
     have e2:p.2=[]:=List.eq_nil_of_length_eq_zero om
     refine ⟨om,fun j hj=>?_⟩
     by_cases h3:j < i
     ·exact h2 j h3
     ·obtain rfl:j=i:=om
      rw [hr]
      exact congrArg some (Prod.ext e1 e2)
theorem UZ {A B:List Nat} (hA:A.Nodup) (hB:B.Nodup) (h1:∀ n∈A,n < 256) (h2:∀ n∈B,n < 256) (h:gX (bQ (A.map nm)) (bQ (B.map nm))=0):dP A B=[]∧dP B A=[]:=by
 have key:∀ k,k < 12→dP (A.filter fun n=>fH (nm n) == k) (B.filter fun n=>fH (nm n) == k)=[]∧dP (B.filter fun n=>fH (nm n) == k) (A.filter fun n=>fH (nm n) == k)=[]:=by
  intro k hk
  have hr:=(KA h).2 k hk
  rw [List.getD_eq_getElem?_getD,List.getD_eq_getElem?_getD,vC hk,vC hk] at hr
  have he:=UY hr
  change ((jO (A.map nm) k).sub (jO (B.map nm) k)).empty=true at he
  unfold jO at he
  rw [List.filter_map,List.filter_map] at he
  change ((bI (BT.new 12 (k+1)) ((A.filter fun n=>fH (nm n) == k).map nm)).sub (bI (BT.new 12 (k+1)) ((B.filter fun n=>fH (nm n) == k).map nm))).empty=true at he
  rw [Kv (by unfold cG; omega) (hA.filter _) (hB.filter _)] at he
  have hOk:=Kw (hA.filter fun n=>fH (nm n) == k) (hB.filter fun n=>fH (nm n) == k) (fun n hn=>h1 n (List.mem_filter.1 hn).1) (fun n hn=>h2 n (List.mem_filter.1 hn).1)
  have hnil:=UX hk hOk (fun p hp=>by
   rcases List.mem_append.1 hp with hp | hp
   ·obtain ⟨n,hn,rfl⟩:=List.mem_map.1 hp
    exact eq_of_beq (List.mem_filter.1 (List.mem_filter.1 hn).1).2
   ·obtain ⟨n,hn,rfl⟩:=List.mem_map.1 hp
    exact eq_of_beq (List.mem_filter.1 (List.mem_filter.1 hn).1).2) he
  obtain ⟨a1,a2⟩:=List.append_eq_nil_iff.1 hnil
  exact ⟨List.map_eq_nil_iff.1 a2,List.map_eq_nil_iff.1 a1⟩
 have half:∀ {A B:List Nat},(∀ k,k < 12→dP (A.filter fun n=>fH (nm n) == k) (B.filter fun n=>fH (nm n) == k)=[])→dP A B=[]:=by
  intro A B hk
  refine List.filter_eq_nil_iff.2 fun n hn hc=>?_
  have:=List.filter_eq_nil_iff.1 (hk (fH (nm n)) (DF _)) n (List.mem_filter.2 ⟨hn,si⟩)
  apply this
  simp only [Bool.not_eq_true',List.contains_iff_mem,Bool.eq_false_iff,ne_eq] at hc ⊢
  exact fun h=>hc (List.mem_filter.1 h).1
 exact ⟨half fun k hk=>(key k hk).1,half fun k hk=>(key k hk).2⟩
section
theorem KB {a b c:Bs} (h:a < b) (k:¬ c < b):a < c:=by
 by_cases e:b=c
 ·rw [← e]; exact h
 ·exact nO h (qW k (fun h=>e h.symm))
theorem Va {a b c:Bs} (h:¬ b < a) (k:b < c):a < c:=by
 by_cases e:a=b
 ·rw [e]; exact k
 ·exact nO (qW h (fun h=>e h.symm)) k
theorem yG {a b c:Bs} (h:¬ b < a) (k:¬ c < b):¬ c < a:=fun hh=>h (Va k hh)
theorem tG {a b:Bs} (h:a < b):¬ b < a:=fun k=>iY (nO h k)
theorem yH (a:Bs):¬ a < []:=List.not_lt_nil a
theorem Vb {a:Bs} (h:a≠[]):[] < a:=qW (yH a) h
/-! ### Ranges -/
theorem iD {lo hi x : Bs} : inR lo hi x = true ↔ ¬ x < lo ∧ (hi = [] ∨ x < hi) := by
 unfold inR
 rw [Bool.and_eq_true, Bool.or_eq_true, Bool.or_eq_true, decide_eq_true_eq, decide_eq_true_eq, decide_eq_true_eq, decide_eq_true_eq]
 constructor
 ·rintro ⟨h, k⟩
  refine ⟨?_, k⟩
  rcases h with h | h
  ·exact tG h
  ·rw [h]; exact iY
 ·rintro ⟨h, k⟩
  refine ⟨?_, k⟩
  by_cases e : lo = x
  ·exact .inr e
  ·exact .inl (qW h (fun h => e h.symm))
theorem KC {lo hi x:Bs}:inR lo hi x=false↔x < lo∨(hi≠[]∧¬ x < hi):=by
 rw [← Bool.not_eq_true,iD]
 constructor
 ·intro h
  by_cases h1:x < lo
  ·exact .inl h1
  ·refine .inr ⟨fun e=>h ⟨h1,.inl e⟩,fun e=>h ⟨h1,.inr e⟩⟩
 ·rintro (h | ⟨h1,h2⟩) ⟨k1,k2⟩
  ·exact k1 h
  ·exact k2.elim h1 h2
theorem fR {l:List Bs} {lo hi x:Bs}:x∈inL l lo hi↔x∈l∧inR lo hi x=true:=List.mem_filter
theorem mN {l m:List Bs} {x:Bs}:x∈aH l m↔x∈l∧x∉m:=by
 unfold aH
 rw [List.mem_filter]
 simp
theorem yI {l m:List Bs} {x:Bs}:x∈cK l m↔x∈l∧x∈m:=by
 unfold cK
 rw [List.mem_filter]
 simp
def lC (lo hi a b : Bs) : Prop := ¬ a < lo ∧ (hi = [] ∨ (b ≠ [] ∧ ¬ hi < b))
theorem lC.refl (lo hi:Bs):lC lo hi lo hi:=by
 refine ⟨iY,?_⟩
 by_cases h:hi=[]
 ·exact .inl h
 ·exact .inr ⟨h,iY⟩
theorem lC.inR {lo hi a b x:Bs} (h:lC lo hi a b) (k:inR a b x=true):inR lo hi x=true:=by
 rw [iD] at k ⊢
 refine ⟨yG h.1 k.1,?_⟩
 rcases h.2 with h2 | ⟨h2,h3⟩
 ·exact .inl h2
 ·rcases k.2 with k2 | k2
  ·exact absurd k2 h2
  ·exact .inr (KB k2 h3)
theorem lC.inL {lo hi a b:Bs} (h:lC lo hi a b) (l:List Bs):inL (Go.Proofs.YtignomkdngnmgaaGreatDoor.inL l lo hi) a b=Go.Proofs.YtignomkdngnmgaaGreatDoor.inL l a b:=by
 unfold Go.Proofs.YtignomkdngnmgaaGreatDoor.inL
 rw [List.filter_filter]
 apply List.filter_congr
 intro x _
 cases hx:Go.Proofs.YtignomkdngnmgaaGreatDoor.inR a b x with
 | false=>simp
 | true=>simp [h.inR hx]
abbrev cnt (l : List Bs) (lo hi : Bs) : Nat := (inL l lo hi).length
theorem Vc {lo hi a b:Bs} (h:lC lo hi a b) (l:List Bs):cnt l a b≤cnt l lo hi:=by
 show (inL l a b).length≤(inL l lo hi).length
 rw [← h.inL l]
 exact mJ _ _ _
theorem EF (l:List Bs):inL l [] []=l:=by
 unfold inL
 rw [List.filter_eq_self]
 intro x _
 rw [iD]
 exact ⟨yH x,.inl rfl⟩
theorem EG {lo c hi:Bs} (h1:¬ c < lo) (h2:c≠[]) (h3:hi=[]∨¬ hi < c):∀ l:List Bs,cnt l lo c+cnt l c hi=cnt l lo hi
 | []=>rfl
 | x::l=>by
   have ih:=EG h1 h2 h3 l
   unfold cnt inL at ih ⊢
   rw [List.filter_cons,List.filter_cons,List.filter_cons]
   by_cases hx:x < c
   ·have e1:inR c hi x=false:=KC.2 (.inl hx)
    have e2:inR lo hi x=inR lo c x:=by
     rw [Bool.eq_iff_iff,iD,iD]
     constructor
     ·rintro ⟨a,_⟩; exact ⟨a,.inr hx⟩
     ·rintro ⟨a,_⟩; exact ⟨a,h3.elim .inl fun h=>.inr (KB hx h)⟩
    rw [e1,e2]
    cases inR lo c x <;> simp <;> omega
   ·have e1:inR lo c x=false:=KC.2 (.inr ⟨h2,hx⟩)
    have e2:inR lo hi x=inR c hi x:=by
     rw [Bool.eq_iff_iff,iD,iD]
     constructor
     ·rintro ⟨_,a⟩; exact ⟨hx,a⟩
     ·rintro ⟨_,a⟩; exact ⟨yG h1 hx,a⟩
    rw [e1,e2]
    cases inR c hi x <;> simp <;> omega
/-! ### Ascending lists -/
abbrev fS (l : List Bs) : Prop := l.Pairwise (· < ·)
theorem yJ {l:List Bs} (h:fS l) (lo hi:Bs):fS (Go.Proofs.YtignomkdngnmgaaGreatDoor.inL l lo hi):=h.sublist List.filter_sublist
theorem KD {l:List Bs} (h:fS l) {i j:Nat} {x y:Bs} (hx:l[i]?=some x) (hy:l[j]?=some y) (hij:i < j):x < y:=by
 obtain ⟨h1,rfl⟩:=List.getElem?_eq_some_iff.1 hx
 obtain ⟨h2,rfl⟩:=List.getElem?_eq_some_iff.1 hy
 exact List.pairwise_iff_getElem.1 h i j h1 h2 hij
theorem Bt {l:List Bs} (h:fS l) {i:Nat} {x:Bs} (hx:l[i]?=some x):aZ l x=i:=by
 have hi:=(List.getElem?_eq_some_iff.1 hx).1
 rcases Nat.lt_trichotomy (aZ l x) i with h1 | h1 | h1
 ·have hp:aZ l x < l.length:=om
  have h2:=KD h (List.getElem?_eq_getElem hp) hx h1
  have:=(sQ (Nat.le_refl _) (List.getElem?_eq_getElem hp)).1 h2
  omega
 ·exact h1
 ·have:=(sQ (Nat.le_of_lt h1) hx).2 h1
  exact (iY this).elim
theorem Vd {l:List Bs} {x:Bs} (h:∀ y∈l,¬ y < x):aZ l x=0:=by
 cases l with
 | nil=>rfl
 | cons y l =>
   unfold aZ
   rw [List.takeWhile_cons,if_neg (by simpa using h y List.mem_cons_self)]
   rfl
theorem yK:∀ {l m:List Bs},fS l→fS m→(∀ x,x∈l↔x∈m)→l=m
 | [],[],_,_,_=>rfl
 | [],y::m,_,_,h=>by have:=(h y).2 List.mem_cons_self; cases this
 | x::l,[],_,_,h=>by have:=(h x).1 List.mem_cons_self; cases this
 | x::l,y::m,hl,hm,h=>by
   obtain ⟨h1,h2⟩:=List.pairwise_cons.1 hl
   obtain ⟨k1,k2⟩:=List.pairwise_cons.1 hm
   have e:x=y:=by
    rcases List.mem_cons.1 ((h x).1 List.mem_cons_self) with e | e
    ·exact e
    ·rcases List.mem_cons.1 ((h y).2 List.mem_cons_self) with e2 | e2
     ·exact e2.symm
     ·exact (iY (nO (h1 y e2) (k1 x e))).elim
   subst e
   congr 1
   refine yK h2 k2 fun z=>?_
   constructor
   ·intro hz
    rcases List.mem_cons.1 ((h z).1 (List.mem_cons_of_mem _ hz)) with e | e
    ·rw [e] at hz; exact (iY (h1 x hz)).elim
    ·exact e
   ·intro hz
    rcases List.mem_cons.1 ((h z).2 (List.mem_cons_of_mem _ hz)) with e | e
    ·rw [e] at hz; exact (iY (k1 x hz)).elim
    ·exact e
/-! ### The division of a range -/
/-- p comes before q. -/
def yL (p q : AP) : Prop := p.hi ≠ [] ∧ ¬ q.lo < p.hi
theorem KE {N fan k:Nat} (hk:k < fan) (hN:0 < N):k*N / fan < N:=by
 rw [Nat.div_lt_iff_lt_mul om,Nat.mul_comm N]
 exact Nat.mul_lt_mul_of_pos_right hk hN
theorem KF (N fan k:Nat) (hf:0 < fan):(k+1)*N / fan≤k*N / fan+(N+fan - 1) / fan:=by
 have h1:=Nat.div_add_mod (k*N) fan
 have h2:=Nat.div_add_mod (N+fan - 1) fan
 have h3:=Nat.mod_lt (k*N) hf
 have h4:=Nat.mod_lt (N+fan - 1) hf
 rw [← Nat.lt_succ_iff,Nat.div_lt_iff_lt_mul hf]
 generalize k*N / fan=a at *
 generalize (N+fan - 1) / fan=b at *
 rw [Nat.add_mul,Nat.one_mul,Nat.succ_mul,Nat.add_mul,Nat.mul_comm a fan,Nat.mul_comm b fan]
 omega
theorem EH (N fan k:Nat):k*N / fan≤(k+1)*N / fan:=Nat.div_le_div_right (Nat.mul_le_mul_right _ om)
section
variable {its : List Bs} {lo hi : Bs} {fan : Nat}
theorem Ve (hs:fS its) {own:List Bs} (ho:own=inL its lo hi) {p q:Nat} {x y:Bs} (hx:own[p]?=some x) (hy:own[q]?=some y) (hne:y≠[]):inL its x y=(own.take q).drop p:=by
 have hA:fS own:=by rw [ho]; exact yJ hs lo hi
 have hx':x∈own:=List.mem_of_getElem? hx
 have hy':y∈own:=List.mem_of_getElem? hy
 have hxr:inR lo hi x=true:=by rw [ho] at hx'; exact (fR.1 hx').2
 have hyr:inR lo hi y=true:=by rw [ho] at hy'; exact (fR.1 hy').2
 have hsub:lC lo hi x y:=⟨(iD.1 hxr).1,by
  rcases (iD.1 hyr).2 with h | h
  ·exact .inl h
  ·exact .inr ⟨hne,tG h⟩⟩
 rw [← hsub.inL its,← ho,← sR hA x y,if_neg hne,Bt hA hx,Bt hA hy]
 rcases Nat.le_total p q with h | h
 ·rw [Nat.max_eq_right h]
 ·rw [Nat.max_eq_left h,List.drop_eq_nil_of_le (by rw [List.length_take]; omega),List.drop_eq_nil_of_le (by rw [List.length_take]; omega)]
theorem Vf (hs:fS its) {own:List Bs} (ho:own=inL its lo hi) {q:Nat} {y:Bs} (hy:own[q]?=some y) (hne:y≠[]):inL its lo y=own.take q:=by
 have hA:fS own:=by rw [ho]; exact yJ hs lo hi
 have hy':y∈own:=List.mem_of_getElem? hy
 have hyr:inR lo hi y=true:=by rw [ho] at hy'; exact (fR.1 hy').2
 have hsub:lC lo hi lo y:=⟨iY,by
  rcases (iD.1 hyr).2 with h | h
  ·exact .inl h
  ·exact .inr ⟨hne,tG h⟩⟩
 have h0:aZ own lo=0:=Vd fun z hz=>by rw [ho] at hz; exact (iD.1 (fR.1 hz).2).1
 rw [← hsub.inL its,← ho,← sR hA lo y,if_neg hne,h0,Bt hA hy,Nat.max_eq_right (Nat.zero_le _),List.drop_zero]
theorem Vg (hs:fS its) {own:List Bs} (ho:own=inL its lo hi) {p:Nat} {x:Bs} (hx:own[p]?=some x):inL its x hi=own.drop p:=by
 have hA:fS own:=by rw [ho]; exact yJ hs lo hi
 have hx':x∈own:=List.mem_of_getElem? hx
 have hxr:inR lo hi x=true:=by rw [ho] at hx'; exact (fR.1 hx').2
 have hsub:lC lo hi x hi:=⟨(iD.1 hxr).1,(lC.refl lo hi).2⟩
 rw [← hsub.inL its,← ho]
 have hle:=nP own x
 have hpl:=(List.getElem?_eq_some_iff.1 hx).1
 have hH:hi=[]∨aZ own hi=own.length:=by
  by_cases h:hi=[]
  ·exact .inl h
  ·refine .inr ?_
   rcases Nat.lt_or_ge (aZ own hi) own.length with h1 | h1
   ·have hz:=List.mem_of_getElem? (List.getElem?_eq_getElem h1)
    have hz2:own[aZ own hi]∈inL its lo hi:=by rw [← ho]; exact hz
    have:=(iD.1 (fR.1 hz2).2).2.resolve_left h
    have:=(sQ (Nat.le_refl _) (List.getElem?_eq_getElem h1)).1 this
    omega
   ·have:=nP own hi; omega
 rw [← sR hA x hi,Bt hA hx]
 have e:(if hi=[] then own.length else aZ own hi)=own.length:=by
  rcases hH with h | h
  ·rw [if_pos h]
  ·rw [h]; simp
 rw [e,Nat.max_eq_right om,List.take_length]
structure Div (its : List Bs) (lo hi : Bs) (own : List Bs) (fan k : Nat) (C : Bs) (D : List AP) : Prop where
 cur : (k = 0 ∧ C = lo) ∨ (0 < k ∧ own[k * own.length / fan]? = some C)
 ge : ¬ C < lo
 part : ∀ p ∈ D, p = dG its p.lo p.hi ∧ p.lo < p.hi ∧ ¬ p.lo < lo ∧ ¬ C < p.hi ∧ (p.lo = lo ∨ p.lo ∈ own) ∧ p.hi ∈ own ∧ cnt its p.lo p.hi ≤ (own.length + fan - 1) / fan
 bef : D.Pairwise yL
 cover : ∀ x, ¬ x < lo → x < C → ∃ p ∈ D, inR p.lo p.hi x = true
 sum : ∀ l : List Bs, (D.map fun p => cnt l p.lo p.hi).sum = if C = lo then 0 else cnt l lo C
 len : D.length ≤ (if k = 0 then 0 else k * own.length / fan + 1) ∧ D.length ≤ k
theorem KG (hs:bH its) {own:List Bs} (ho:own=inL its lo hi) (hN:0 < own.length) (hf:2≤fan):∀ k,k < fan→Div its lo hi own fan k (iZ its own fan lo k).1 (iZ its own fan lo k).2
 | 0,_=>⟨.inl ⟨rfl,rfl⟩,iY,(fun p hp=>by cases hp),List.Pairwise.nil,fun x h1 h2=>(h1 h2).elim,(fun l=>by rw [iZ,if_pos rfl]; rfl),by simp [iZ]⟩
 | k+1,hk=>by
   have ih:=KG hs ho hN hf k om
   have hA:fS own:=by rw [ho]; exact yJ hs.2 lo hi
   have hi1:=KE hk hN
   obtain ⟨B,hB⟩:∃ B,own[(k+1)*own.length / fan]?=some B:=⟨_,List.getElem?_eq_getElem hi1⟩
   have hBe:own.getD ((k+1)*own.length / fan) []=B:=by rw [List.getD_eq_getElem?_getD,hB]; rfl
   have hBm:B∈own:=List.mem_of_getElem? hB
   have hB2:B∈inL its lo hi:=by rw [← ho]; exact hBm
   have hBl:B.length=32:=hs.1 B (fR.1 hB2).1
   have hBn:B≠[]:=by intro e; rw [e] at hBl; cases hBl
   have hBr:=iD.1 (fR.1 hB2).2
   rw [iZ,hBe]
   generalize iZ its own fan lo k=z at ih ⊢
   obtain ⟨C,D⟩:=z
   dsimp only at ih ⊢
   by_cases hBC:B=C
   ·rw [if_pos hBC]
    dsimp only
    subst hBC
    refine ⟨.inr ⟨om,hB⟩,ih.ge,ih.part,ih.bef,ih.cover,ih.sum,?_,by have:=ih.len.2; omega⟩
    have h1:=ih.len.1
    have h2:=EH own.length fan k
    rw [if_neg om]
    generalize (k+1)*own.length / fan=u at *
    generalize k*own.length / fan=v at *
    split at h1 <;> omega
   ·rw [if_neg hBC]
    dsimp only
    -- C comes before B
    have hCB:C < B:=by
     rcases ih.cur with ⟨_,rfl⟩ | ⟨h0,hC⟩
     ·exact qW hBr.1 hBC
     ·refine KD hA hC hB ?_
      have h2:=EH own.length fan k
      rcases Nat.lt_or_ge (k*own.length / fan) ((k+1)*own.length / fan) with h | h
      ·exact h
      ·exfalso
       have e:k*own.length / fan=(k+1)*own.length / fan:=om
       rw [e,hB] at hC
       injection hC with hC
       exact hBC hC
    have hlt:0 < k→k*own.length / fan < (k+1)*own.length / fan:=fun h0=>by
     rcases ih.cur with ⟨h,_⟩ | ⟨_,hC⟩
     ·omega
     ·rcases Nat.lt_or_ge (k*own.length / fan) ((k+1)*own.length / fan) with h | h
      ·exact h
      ·exfalso
       have e:k*own.length / fan=(k+1)*own.length / fan:=by have:=EH own.length fan k; omega
       rw [e,hB] at hC
       injection hC with hC
       exact hBC hC
    have hlo:¬ B < lo:=hBr.1
    refine ⟨.inr ⟨om,hB⟩,hlo,?_,?_,?_,?_,?_,?_⟩
    ·intro p hp
     rcases List.mem_append.1 hp with hp | hp
     ·obtain ⟨a,b,c,d,e,f,g⟩:=ih.part p hp
      exact ⟨a,b,c,yG d (tG hCB),e,f,g⟩
     ·rw [List.mem_singleton.1 hp]
      refine ⟨rfl,hCB,ih.ge,iY,?_,hBm,?_⟩
      ·rcases ih.cur with ⟨_,rfl⟩ | ⟨_,hC⟩
       ·exact .inl rfl
       ·exact .inr (List.mem_of_getElem? hC)
      ·show (inL its C B).length≤_
       have hst:=KF own.length fan k om
       rcases ih.cur with ⟨h0,rfl⟩ | ⟨_,hC⟩
       ·subst h0
        rw [Vf hs.2 ho hB hBn,List.length_take]
        simp only [Nat.zero_mul,Nat.zero_div,Nat.zero_add] at hst ⊢
        omega
       ·rw [Ve hs.2 ho hC hB hBn,List.length_drop,List.length_take]
        omega
    ·rw [List.pairwise_append]
     refine ⟨ih.bef,List.pairwise_singleton _ _,fun p hp q hq=>?_⟩
     rw [List.mem_singleton.1 hq]
     obtain ⟨_,hb,_,hd,_,hf',_⟩:=ih.part p hp
     exact ⟨fun e=>yH p.lo (by rw [← e]; exact hb),hd⟩
    ·intro x h1 h2
     by_cases hx:x < C
     ·obtain ⟨p,hp,hr⟩:=ih.cover x h1 hx
      exact ⟨p,List.mem_append_left _ hp,hr⟩
     ·exact ⟨dG its C B,List.mem_append_right _ si,iD.2 ⟨hx,.inr h2⟩⟩
    ·intro l
     rw [List.map_append,List.sum_append,ih.sum l]
     simp only [List.map_cons,List.map_nil,List.sum_cons,List.sum_nil,Nat.add_zero]
     have e:¬ B=lo:=fun e=>ih.ge (by rw [← e]; exact hCB)
     rw [if_neg e]
     by_cases hC:C=lo
     ·rw [if_pos hC,hC,Nat.zero_add]; rfl
     ·rw [if_neg hC]
      have hCn:C≠[]:=fun e2=>by
       have:=ih.ge
       rw [e2] at this
       have e3:lo=[]:=by
        by_cases h:lo=[]
        ·exact h
        ·exact (this (Vb h)).elim
       exact hC (e2.trans e3.symm)
      exact EG ih.ge hCn (.inr (tG hCB)) l
    ·rw [List.length_append,List.length_singleton,if_neg om]
     have h1:=ih.len.1
     by_cases h0:k=0
     ·rw [if_pos h0] at h1
      generalize (k+1)*own.length / fan=u at *
      omega
     ·rw [if_neg h0] at h1
      have:=hlt om
      generalize (k+1)*own.length / fan=u at *
      generalize k*own.length / fan=v at *
      omega
    ·rw [List.length_append,List.length_singleton]
     have:=ih.len.2
     omega
def vT (its : List Bs) (fan : Nat) (lo hi : Bs) : List AP := (iZ its (inL its lo hi) fan lo (fan - 1)).2 ++ [dG its (iZ its (inL its lo hi) fan lo (fan - 1)).1 hi]
structure Vh (its : List Bs) (lo hi : Bs) (fan : Nat) (D : List AP) : Prop where
 part : ∀ p ∈ D, p = dG its p.lo p.hi ∧ lU p.lo p.hi = true ∧ lC lo hi p.lo p.hi ∧ (p.lo = lo ∨ p.lo ∈ its) ∧ (p.hi = hi ∨ p.hi ∈ its) ∧ cnt its p.lo p.hi ≤ (cnt its lo hi + fan - 1) / fan
 bef : D.Pairwise yL
 cover : ∀ x, inR lo hi x = true → ∃ p ∈ D, inR p.lo p.hi x = true
 sum : ∀ l : List Bs, (D.map fun p => cnt l p.lo p.hi).sum = cnt l lo hi
 len : D.length ≤ cnt its lo hi + 1 ∧ D.length ≤ fan
theorem yM (hs:bH its) (hN:0 < cnt its lo hi) (hf:2≤fan):Vh its lo hi fan (vT its fan lo hi):=by
 have h:=KG (fan:=fan) hs (own:=inL its lo hi) rfl hN hf (fan - 1) om
 unfold vT
 have hi1:(fan - 1)*(inL its lo hi).length / fan < (inL its lo hi).length:=KE om hN
 generalize iZ its (inL its lo hi) fan lo (fan - 1)=z at h ⊢
 obtain ⟨C,D⟩:=z
 dsimp only at h ⊢
 have hC:(inL its lo hi)[(fan - 1)*(inL its lo hi).length / fan]?=some C:=by
  rcases h.cur with ⟨h0,_⟩ | ⟨_,h1⟩
  ·omega
  ·exact h1
 have hCm:C∈inL its lo hi:=List.mem_of_getElem? hC
 have hCr:=iD.1 (fR.1 hCm).2
 have hCl:C.length=32:=hs.1 C (fR.1 hCm).1
 have hCn:C≠[]:=by intro e; rw [e] at hCl; cases hCl
 have hCh:hi=[]∨C < hi:=hCr.2
 refine ⟨?_,?_,?_,?_,?_⟩
 ·intro p hp
  rcases List.mem_append.1 hp with hp | hp
  ·obtain ⟨a,b,c,d,e,f,g⟩:=h.part p hp
   have f2:=fR.1 f
   have hpl:p.hi.length=32:=hs.1 _ f2.1
   have hpn:p.hi≠[]:=by intro e; rw [e] at hpl; cases hpl
   refine ⟨a,?_,⟨c,?_⟩,e.imp id fun h=>(fR.1 h).1,.inr f2.1,g⟩
   ·unfold lU; simp [b]
   ·rcases (iD.1 f2.2).2 with h | h
    ·exact .inl h
    ·exact .inr ⟨hpn,tG h⟩
  ·rw [List.mem_singleton.1 hp]
   refine ⟨rfl,?_,⟨h.ge,(lC.refl lo hi).2⟩,.inr (fR.1 hCm).1,.inl rfl,?_⟩
   ·unfold lU
    rcases hCh with h | h
    ·simp [dG,h]
    ·simp [dG,h]
   ·show (inL its C hi).length≤_
    rw [Vg hs.2 rfl hC,List.length_drop]
    have h1:=KF (inL its lo hi).length fan (fan - 1) om
    rw [show fan - 1+1=fan by omega,Nat.mul_div_cancel_left _ om] at h1
    show _≤((inL its lo hi).length+fan - 1) / fan
    omega
 ·rw [List.pairwise_append]
  refine ⟨h.bef,List.pairwise_singleton _ _,fun p hp q hq=>?_⟩
  rw [List.mem_singleton.1 hq]
  obtain ⟨_,hb,_,hd,_,_,_⟩:=h.part p hp
  exact ⟨fun e=>yH p.lo (by rw [← e]; exact hb),hd⟩
 ·intro x hx
  rw [iD] at hx
  by_cases h1:x < C
  ·obtain ⟨p,hp,hr⟩:=h.cover x hx.1 h1
   exact ⟨p,List.mem_append_left _ hp,hr⟩
  ·exact ⟨dG its C hi,List.mem_append_right _ si,iD.2 ⟨h1,hx.2⟩⟩
 ·intro l
  rw [List.map_append,List.sum_append,h.sum l]
  simp only [List.map_cons,List.map_nil,List.sum_cons,List.sum_nil,Nat.add_zero]
  by_cases e:C=lo
  ·rw [if_pos e,Nat.zero_add,← e]; rfl
  ·rw [if_neg e]
   exact EG h.ge hCn (hCh.imp id tG) l
 ·rw [List.length_append,List.length_singleton]
  obtain ⟨h1,h2⟩:=h.len
  rw [if_neg om] at h1
  show _≤(inL its lo hi).length+1∧_
  omega
end
/-! ### A list with further items -/
theorem Vi {l : List Bs} {x y : Bs} : y ∈ uT l x ↔ y ∈ l ∨ y = x := by
 unfold uT
 by_cases h : l.contains x = true
 ·rw [if_pos h]
  constructor
  ·exact .inl
  ·rintro (h1 | rfl)
   ·exact h1
   ·simpa using h
 ·rw [if_neg h]
  have e : y ∈ l ↔ y ∈ l.take (aZ l x) ∨ y ∈ l.drop (aZ l x) := by
   rw [← List.mem_append, List.take_append_drop]
  rw [List.mem_append, List.mem_append, List.mem_singleton, e]
  constructor
  ·rintro ((h1 | h1) | h1)
   ·exact .inl (.inl h1)
   ·exact .inr h1
   ·exact .inl (.inr h1)
  ·rintro ((h1 | h1) | h1)
   ·exact .inl (.inl h1)
   ·exact .inr h1
   ·exact .inl (.inr h1)
theorem Vj {l:List Bs} (h:fS l) (x:Bs):fS (uT l x):=by
 unfold uT
 by_cases hc:l.contains x=true
 ·rw [if_pos hc]; exact h
 ·rw [if_neg hc]
  have hx:x∉l:=by simpa using hc
  have hd:∀ y∈l.drop (aZ l x),x < y:=fun y hy=>qW (Au h hy) (fun e=>hx (by rw [← e]; exact List.mem_of_mem_drop hy))
  rw [fS,List.pairwise_append,List.pairwise_append]
  refine ⟨⟨h.sublist (List.take_sublist _ _),List.pairwise_singleton _ _,?_⟩,h.sublist (List.drop_sublist _ _),?_⟩
  ·intro a ha b hb
   rw [List.mem_singleton.1 hb]
   exact xM ha
  ·intro a ha b hb
   rcases List.mem_append.1 ha with ha | ha
   ·exact nO (xM ha) (hd b hb)
   ·rw [List.mem_singleton.1 ha]; exact hd b hb
theorem KH:∀ (m:List Bs) {l:List Bs},fS l→fS (bA l m)
 | [],_,h=>h
 | x::m,_,h=>KH m (Vj h x)
theorem KI:∀ (m:List Bs) {l:List Bs} {x:Bs},x∈bA l m↔x∈l∨x∈m
 | [],l,x=>by simp [bA]
 | y::m,l,x=>by
   show x∈bA (uT l y) m↔_
   rw [KI m,Vi,List.mem_cons,or_assoc]
theorem mO (m:List Bs):fS (bA [] m):=KH m List.Pairwise.nil
theorem qD {m:List Bs} {x:Bs}:x∈bA [] m↔x∈m:=by rw [KI]; simp
end
def lD (its : List Bs) (fan leaf : Nat) (p : AP) : List AP := match p.c with
 | .sum n f => iQ its fan leaf p.lo p.hi n f
 | .list xs => gW its p.lo p.hi xs
 | .ans _ _ => []
def iE (its : List Bs) (p : AP) : List Bs := match p.c with
 | .sum _ _ => []
 | .list xs => aH xs its
 | .ans xs _ => aH xs its
def iF (its : List Bs) (p : AP) : List Bs := match p.c with
 | .sum _ _ => []
 | .list xs => aH (inL its p.lo p.hi) xs
 | .ans _ ms => cK ms its
structure KJ where
 (reply : Bs) (err : Int) (need off : List Bs)
def dV (its : List Bs) (fan leaf : Nat) (ps : List AP) : List AP := ps.flatMap (lD its fan leaf)
def cC (its : List Bs) (fan leaf : Nat) (D : Bs) : KJ :=
 if D = [] then ⟨[], 0, [], []⟩
 else match jN D with
  | none => ⟨[], 3, [], []⟩
  | some ps => if 1048576 < (bS (dV its fan leaf ps)).length then ⟨[], 2, [], []⟩ else ⟨bS (dV its fan leaf ps), 0, ps.flatMap (iE its), ps.flatMap (iF its)⟩
theorem tH {α β:Type} {g:α→List β} {l:List α} {i:Nat} {x:α} (h:l[i]?=some x):(l.take i).flatMap g++g x=(l.take (i+1)).flatMap g:=by
 rw [← uU h,List.flatMap_append]
 simp
theorem EI {α β:Type} {g:α→List β} {l:List α} {i:Nat} {x:α} (h:l[i]?=some x) (h0:g x=[]):(l.take i).flatMap g=(l.take (i+1)).flatMap g:=by
 rw [← tH h,h0,List.append_nil]
/-! ### Sizes -/
theorem gE {n : Nat} (h : n < 128) : (aD n).length = 1 := by rw [mZ n h]; rfl
theorem tI {its:List Bs} (hs:bH its) (lo hi:Bs):gS (inL its lo hi):=fun x hx=>hs.1 x (fR.1 hx).1
theorem tJ {l m:List Bs} (h:gS l):gS (aH l m):=fun x hx=>h x (mN.1 hx).1
theorem Vk {l m:List Bs} (h:gS l):gS (cK l m):=fun x hx=>h x (yI.1 hx).1
theorem yN (l:List Bs):(cQ l).length=32:=tX _
theorem Bu {its:List Bs} (h40:its.length≤40) {p:AP} (hp:p=dG its p.lo p.hi) (h1:p.lo.length≤32) (h2:p.hi.length≤32):p.fit∧p.enc.length≤100:=by
 have hl:=mJ its p.lo p.hi
 have hf:=yN (inL its p.lo p.hi)
 obtain ⟨lo,hi,c⟩:=p
 obtain rfl:c = .sum (inL its lo hi).length (cQ (inL its lo hi)):=congrArg AP.c hp
 dsimp only at h1 h2 hl hf ⊢
 refine ⟨⟨h1,h2,om,hf⟩,?_⟩
 simp only [AP.enc,AC.enc,List.length_append,hf]
 have e1:=gE (n:=lo.length) om
 have e2:=gE (n:=hi.length) om
 have e3:=gE (n:=1) om
 have e4:=gE (n:=(inL its lo hi).length) om
 omega
theorem KK {its:List Bs} (hs:bH its) {a x:Bs} (ha:a.length≤32) (h:x=a∨x∈its):x.length≤32:=by
 rcases h with rfl | h
 ·exact ha
 ·have:=hs.1 x h; omega
theorem Vl {ps:List AP} {n k:Nat} (h:∀ p∈ps,p.enc.length≤k) (hl:ps.length≤n):(ps.flatMap AP.enc).length≤n*k:=by
 have key:∀ ps:List AP,(∀ p∈ps,p.enc.length≤k)→(ps.flatMap AP.enc).length≤ps.length*k:=by
  intro ps
  induction ps with
  | nil=>intro _; simp
  | cons p ps ih =>
    intro h
    rw [List.flatMap_cons,List.length_append,List.length_cons,Nat.add_mul,Nat.one_mul]
    have h1:=h p si
    have h2:=ih fun q hq=>h q (by simp [hq])
    omega
 exact Nat.le_trans (key ps h) (Nat.mul_le_mul_right _ hl)
structure tK (l : List AP) : Prop where
 fit : ∀ q ∈ l, q.fit
 len : (l.flatMap AP.enc).length ≤ 3500
 cnt : l.length ≤ 17
theorem Vm {its:List Bs} (hs:bH its) (h40:its.length≤40) {fan leaf:Nat} (hf:2≤fan) (hf2:fan≤16) (hl:1≤leaf) {lo hi:Bs} (h1:lo.length≤32) (h2:hi.length≤32) (n:Nat) (f:Bs):tK (iQ its fan leaf lo hi n f):=by
 unfold iQ
 split
 ·exact ⟨si,si,si⟩
 ·split
  ·have hl:=mJ its lo hi
   have h32:=tI hs lo hi
   refine ⟨fun q hq=>?_,?_,si⟩
   ·rw [List.mem_singleton.1 hq]
    exact ⟨h1,h2,om,h32⟩
   ·have hfl:=qY h32
    simp only [List.flatMap_cons,List.flatMap_nil,List.append_nil,AP.enc,AC.enc,List.length_append,hfl]
    have e1:=gE (n:=lo.length) om
    have e2:=gE (n:=hi.length) om
    have e3:=gE (n:=2) om
    have e4:=gE (n:=(inL its lo hi).length) om
    omega
  ·have hD:=yM (lo:=lo) (hi:=hi) hs (show 0 < (inL its lo hi).length by omega) hf
   change tK (vT its fan lo hi)
   have hp:∀ q∈vT its fan lo hi,q.fit∧q.enc.length≤100:=fun q hq=>by
    obtain ⟨a,_,_,b,c,_⟩:=hD.part q hq
    exact Bu h40 a (KK hs h1 b) (KK hs h2 c)
   exact ⟨fun q hq=>(hp q hq).1,Nat.le_trans (Vl (n:=16) (k:=100) (fun q hq=>(hp q hq).2) (Nat.le_trans hD.len.2 hf2)) om,Nat.le_trans hD.len.2 om⟩
theorem Vn {its:List Bs} (hs:bH its) (h40:its.length≤40) {lo hi:Bs} (h1:lo.length≤32) (h2:hi.length≤32) {xs:List Bs} (hx:xs.length≤64) (hx2:gS xs):tK (gW its lo hi xs):=by
 unfold gW
 split
 ·have a1:=jL (inL its lo hi) xs
  have a2:=jL xs its
  have a3:=mJ its lo hi
  have b1:=tJ (m:=xs) (tI hs lo hi)
  have b2:=tJ (m:=its) hx2
  refine ⟨fun q hq=>?_,?_,si⟩
  ·rw [List.mem_singleton.1 hq]
   exact ⟨h1,h2,⟨om,b1⟩,om,b2⟩
  ·have f1:=qY b1
   have f2:=qY b2
   simp only [List.flatMap_cons,List.flatMap_nil,List.append_nil,AP.enc,AC.enc,List.length_append,f1,f2]
   have e1:=gE (n:=lo.length) om
   have e2:=gE (n:=hi.length) om
   have e3:=gE (n:=3) om
   have e4:=gE (n:=(aH (inL its lo hi) xs).length) om
   have e5:=gE (n:=(aH xs its).length) om
   omega
 ·exact ⟨si,si,si⟩
theorem Bv {its:List Bs} (hs:bH its) (h40:its.length≤40) {fan leaf:Nat} (hf:2≤fan) (hf2:fan≤16) (hl:1≤leaf) {p:AP} (hp:p.ok):tK (lD its fan leaf p):=by
 obtain ⟨⟨h1,h2,_⟩,h3⟩:=hp
 have l1:=qX h1
 have l2:=qX h2
 obtain ⟨lo,hi,c⟩:=p
 cases c with
 | sum n f=>exact Vm hs h40 hf hf2 hl l1 l2 n f
 | list xs=>exact Vn hs h40 l1 l2 h3.1 h3.2.1
 | ans xs ms=>exact ⟨by simp [lD],by simp [lD],by simp [lD]⟩
theorem Vo {its:List Bs} (hs:bH its) (h40:its.length≤40) {fan leaf:Nat} (hf:2≤fan) (hf2:fan≤16) (hl:1≤leaf) {ps:List AP} (hp:∀ p∈ps,p.ok):∀ q∈dV its fan leaf ps,q.fit:=by
 intro q hq
 obtain ⟨p,h1,h2⟩:=List.mem_flatMap.1 hq
 exact (Bv hs h40 hf hf2 hl (hp p h1)).fit q h2
theorem KL {its:List Bs} (hs:bH its) (h40:its.length≤40) {fan leaf:Nat} (hf:2≤fan) (hf2:fan≤16) (hl:1≤leaf):∀ {ps:List AP},(∀ p∈ps,p.ok)→((dV its fan leaf ps).flatMap AP.enc).length≤ps.length*3500∧(dV its fan leaf ps).length≤ps.length*17
 | [],_=>⟨Nat.zero_le _,Nat.zero_le _⟩
 | p::ps,hp=>by
   obtain ⟨i1,i2⟩:=KL hs h40 hf hf2 hl (ps:=ps) fun q hq=>hp q (by simp [hq])
   have h:=Bv hs h40 hf hf2 hl (hp p si)
   have e:dV its fan leaf (p::ps)=lD its fan leaf p++dV its fan leaf ps:=List.flatMap_cons
   have h1:=h.len
   have h2:=h.cnt
   rw [e,List.flatMap_append,List.length_append,List.length_append,List.length_cons]
   omega
theorem KM (ps:List AP) (h:ps.length < 18446744073709551616):(bS ps).length≤(ps.flatMap AP.enc).length+10:=by
 unfold bS
 split
 ·simp
 ·have h:=eJ _ h
  rw [List.length_append]; omega
theorem Bw {its:List Bs} {p:AP} (hp:p.ok):(iE its p).length≤16384∧gS (iE its p):=by
 obtain ⟨_,h3⟩:=hp
 obtain ⟨lo,hi,c⟩:=p
 cases c with
 | sum n f=>exact ⟨Nat.zero_le _,by intro x hx; cases hx⟩
 | list xs=>exact ⟨Nat.le_trans (jL _ _) (Nat.le_trans h3.1 (by omega)),tJ h3.2.1⟩
 | ans xs ms=>exact ⟨Nat.le_trans (jL _ _) h3.1.1,tJ h3.1.2.1⟩
theorem Bx {its:List Bs} (hs:bH its) (h40:its.length≤40) {p:AP} (hp:p.ok):(iF its p).length≤16384∧gS (iF its p):=by
 obtain ⟨_,h3⟩:=hp
 obtain ⟨lo,hi,c⟩:=p
 cases c with
 | sum n f=>exact ⟨Nat.zero_le _,by intro x hx; cases hx⟩
 | list xs=>exact ⟨Nat.le_trans (jL _ _) (Nat.le_trans (mJ _ _ _) (by omega)),tJ (tI hs _ _)⟩
 | ans xs ms=>exact ⟨Nat.le_trans (IC _ _) h3.2.1,Vk h3.2.2.1⟩
theorem KN {α:Type} {g:α→List Bs} {l:List α} (h:∀ p∈l,gS (g p)):gS (l.flatMap g):=fun x hx=>by
 obtain ⟨p,h1,h2⟩:=List.mem_flatMap.1 hx
 exact h p h1 x h2
theorem EJ {its:List Bs} (h40:its.length≤40):(dG its [] []).fit∧(bS [dG its [] []]).length≤1048576∧bS [dG its [] []]≠[]:=by
 obtain ⟨h1,h2⟩:=Bu h40 (p:=dG its [] []) rfl (by simp [dG]) (by simp [dG])
 have hp:=xO 1
 have ho:=gE (n:=1) om
 have e:bS [dG its [] []]=aD 1++(dG its [] []).enc:=by
  unfold bS
  rw [if_neg si]
  simp
 refine ⟨h1,?_,?_⟩
 ·rw [e,List.length_append]; omega
 ·intro h
  have:=congrArg List.length (e.symm.trans h)
  rw [List.length_append,List.length_nil] at this
  omega
/-! ### A run: message j goes to b if j is even, to a if it is odd -/
def dY (a b : List Bs) (j : Nat) : List Bs := if j % 2 = 0 then b else a
def bE (a b : List Bs) (fan leaf : Nat) : Nat → Bs
 | 0 => bS [dG a [] []]
 | j + 1 => (cC (dY a b j) fan leaf (bE a b fan leaf j)).reply
def bX (a b : List Bs) (fan leaf j : Nat) : KJ := cC (dY a b j) fan leaf (bE a b fan leaf j)
def aI (a b : List Bs) (fan leaf par : Nat) : Nat → List Bs × List Bs
 | 0 => ([], [])
 | j + 1 => if j % 2 = par then ((aI a b fan leaf par j).1 ++ (bX a b fan leaf j).need, (aI a b fan leaf par j).2 ++ (bX a b fan leaf j).off) else aI a b fan leaf par j
def rH (a b : List Bs) (fan leaf : Nat) : Nat → Nat
 | 0 => 0
 | j + 1 => rH a b fan leaf j + (bE a b fan leaf j).length
structure qE (a b : List Bs) (fan leaf K : Nat) : Prop where
 go : ∀ j, j < K → bE a b fan leaf j ≠ [] ∧ (bX a b fan leaf j).err = 0
 stop : bE a b fan leaf K = []
 le : K ≤ 30
theorem EK (its:List Bs) (fan leaf:Nat) (D:Bs):(cC its fan leaf D).reply.length≤1048576:=by
 unfold cC
 split
 ·simp
 ·split
  ·simp
  ·split
   ·simp
   ·dsimp only; omega
theorem EL {a b:List Bs} (h:a.length≤40) (fan leaf:Nat):∀ j,(bE a b fan leaf j).length≤1048576
 | 0=>(EJ h).2.1
 | _+1=>EK _ _ _ _
theorem KO {its:List Bs} {fan leaf:Nat} {D:Bs} (hD:D.length≤1048576) (hs:bH its) (h40:its.length≤40):(cC its fan leaf D).need.length≤17179869184∧(cC its fan leaf D).off.length≤17179869184:=by
 unfold cC
 split
 ·simp
 ·split
  ·simp
  ·rename_i ps hd
   split
   ·simp
   ·obtain ⟨_,hm,hl⟩:=IW hd
    have key:∀ (g:AP→List Bs) (l:List AP),(∀ p∈l,(g p).length≤16384)→(l.flatMap g).length≤l.length*16384:=by
     intro g l
     induction l with
     | nil=>intro _; simp
     | cons p l ih =>
       intro h
       rw [List.flatMap_cons,List.length_append,List.length_cons]
       have h1:=h p si
       have h2:=ih fun q hq=>h q (by simp [hq])
       omega
    have k1:=key (iE its) ps fun p hp=>(Bw (hm.2.1 p hp)).1
    have k2:=key (iF its) ps fun p hp=>(Bx hs h40 (hm.2.1 p hp)).1
    dsimp only
    omega
theorem kI {a b:List Bs} {fan leaf par:Nat} (ha:bH a) (hb:bH b) (ha4:a.length≤40) (hb4:b.length≤40):∀ j,(aI a b fan leaf par j).1.length≤j*17179869184∧(aI a b fan leaf par j).2.length≤j*17179869184
 | 0=>⟨Nat.zero_le _,Nat.zero_le _⟩
 | j+1=>by
   obtain ⟨i1,i2⟩:=kI (par:=par) ha hb ha4 hb4 j (fan:=fan) (leaf:=leaf)
   have hM:=EL (b:=b) ha4 fan leaf j
   have hn:(bX a b fan leaf j).need.length≤17179869184∧(bX a b fan leaf j).off.length≤17179869184:=by
    unfold bX dY
    split
    ·exact KO hM hb hb4
    ·exact KO hM ha ha4
   rw [aI]
   split
   ·dsimp only
    rw [List.length_append,List.length_append]
    omega
   ·omega
theorem KP {a b:List Bs} (h:a.length≤40) (fan leaf:Nat):∀ j,rH a b fan leaf j≤j*1048576
 | 0=>Nat.zero_le _
 | j+1=>by
   have h1:=KP h fan leaf j (b:=b)
   have h2:=EL (b:=b) h fan leaf j
   rw [rH]; omega
theorem qE.lt {a b:List Bs} {fan leaf K j:Nat} (h:qE a b fan leaf K) (hj:j≤K) (hm:0 < (bE a b fan leaf j).length):j < K:=by
 rcases Nat.lt_or_ge j K with h1 | h1
 ·exact h1
 ·obtain rfl:j=K:=om
  rw [h.stop] at hm
  simp at hm
theorem qE.eq {a b:List Bs} {fan leaf K j:Nat} (h:qE a b fan leaf K) (hj:j≤K) (hm:¬ 0 < (bE a b fan leaf j).length):j=K:=by
 rcases Nat.lt_or_ge j K with h1 | h1
 ·exact absurd (List.length_pos_iff.2 (h.go j h1).1) hm
 ·omega
section
def By (s r : List Bs) (p : AP) : Prop := match p.c with
 | .sum n f => n = cnt s p.lo p.hi ∧ f = cQ (inL s p.lo p.hi)
 | .list xs => xs = inL s p.lo p.hi
 | .ans xs ms => (∀ x, x ∈ xs ↔ (x ∈ s ∧ x ∉ r) ∧ inR p.lo p.hi x = true) ∧ (∀ x, x ∈ ms ↔ (x ∈ r ∧ x ∉ s) ∧ inR p.lo p.hi x = true)
structure rI (s r : List Bs) (m : List AP) : Prop where
 ok : ∀ p ∈ m, p.ok
 bef : m.Pairwise yL
 con : ∀ p ∈ m, By s r p
theorem Vp {m:List AP} (h:m.Pairwise yL):uX m:=by
 intro k p hp
 unfold follows
 cases hl:(m.take k).getLast? with
 | none=>rfl
 | some q =>
   dsimp only
   rw [List.getLast?_eq_getElem?] at hl
   obtain ⟨h1,h2⟩:=List.getElem?_eq_some_iff.1 hl
   rw [List.getElem_take] at h2
   obtain ⟨h3,h4⟩:=List.getElem?_eq_some_iff.1 hp
   have hlt:(m.take k).length - 1 < k:=by rw [List.length_take] at h1 ⊢; omega
   have hb:=List.pairwise_iff_getElem.1 h ((m.take k).length - 1) k (by rw [List.length_take] at h1 ⊢; omega) h3 hlt
   rw [h2,h4] at hb
   simp [hb.1,hb.2]
theorem rI.msg {s r:List Bs} {m:List AP} (h:rI s r m) (hne:m≠[]):DC m:=⟨hne,h.ok,Vp h.bef⟩
theorem KQ {l:List Bs} {lo hi:Bs} (p:Bs→Bool) (h:eD l lo hi=true):eD (l.filter p) lo hi=true:=by
 unfold eD at h ⊢
 rw [Bool.and_eq_true,decide_eq_true_eq] at h ⊢
 refine ⟨?_,h.2.sublist List.filter_sublist⟩
 rw [List.all_eq_true] at h ⊢
 exact fun x hx=>h.1 x (List.mem_filter.1 hx).1
theorem EM {l:List Bs} (h:fS l) (lo hi:Bs):eD (inL l lo hi) lo hi=true:=by
 unfold eD
 rw [Bool.and_eq_true,decide_eq_true_eq]
 refine ⟨?_,yJ h lo hi⟩
 rw [List.all_eq_true]
 exact fun x hx=>(fR.1 hx).2
theorem KR {its:List Bs} (hs:bH its) {a x:Bs} (ha:gL a=true) (h:x=a∨x∈its):gL x=true:=by
 rcases h with rfl | h
 ·exact ha
 ·unfold gL; simp [hs.1 x h]
abbrev Wt (l : List Bs) (m : List AP) : Nat := (m.map fun p => cnt l p.lo p.hi).sum
section
variable {s r : List Bs} {fan leaf : Nat}
structure mB (s r : List Bs) (leaf : Nat) (p : AP) (l : List AP) : Prop where
 ok : ∀ q ∈ l, q.ok
 bef : l.Pairwise yL
 con : ∀ q ∈ l, By r s q
 sub : ∀ q ∈ l, lC p.lo p.hi q.lo q.hi
 wt : ∀ t : List Bs, Wt t l ≤ cnt t p.lo p.hi
 len : l.length ≤ 1 + 2 * cnt r p.lo p.hi
 enc : ∀ q ∈ l, q.enc.length ≤ 100 + 32 * (cnt r q.lo q.hi + cnt s q.lo q.hi)
theorem mB.nil (p:AP):mB s r leaf p []:=⟨fun q hq=>(by cases hq),List.Pairwise.nil,fun q hq=>(by cases hq),fun q hq=>(by cases hq),fun t=>Nat.zero_le _,Nat.zero_le _,fun q hq=>(by cases hq)⟩
theorem mB.one {p q:AP} (hlo:q.lo=p.lo) (hhi:q.hi=p.hi) (h1:q.ok) (h2:By r s q) (h3:q.enc.length≤100+32*(cnt r q.lo q.hi+cnt s q.lo q.hi)):mB s r leaf p [q]:=by
 refine ⟨?_,List.pairwise_singleton _ _,?_,?_,?_,si,?_⟩
 ·intro x hx; rw [List.mem_singleton.1 hx]; exact h1
 ·intro x hx; rw [List.mem_singleton.1 hx]; exact h2
 ·intro x hx; rw [List.mem_singleton.1 hx,hlo,hhi]; exact lC.refl _ _
 ·intro t; simp [Wt,hlo,hhi]
 ·intro x hx; rw [List.mem_singleton.1 hx]; exact h3
theorem KT {p:AP} (h:p.ok):p.enc.length≤66+p.c.enc.length:=by
 have l1:=qX h.1.1
 have l2:=qX h.1.2.1
 have e1:=gE (n:=p.lo.length) om
 have e2:=gE (n:=p.hi.length) om
 simp only [AP.enc,List.length_append]
 omega
theorem Vq (hs:bH s) (hr:bH r) (hs4:s.length≤40) (hr4:r.length≤40) (hf:2≤fan) (hl:1≤leaf) (hl2:leaf≤64) {p:AP} (hp:p.ok) (hc:By s r p):mB s r leaf p (lD r fan leaf p):=by
 obtain ⟨⟨b1,b2,b3⟩,hcok⟩:=hp
 obtain ⟨lo,hi,c⟩:=p
 dsimp only at b1 b2 b3
 cases c with
 | sum n f =>
   show mB s r leaf _ (iQ r fan leaf lo hi n f)
   unfold iQ
   split
   ·exact mB.nil _
   ·split
    ·have hle:=mJ r lo hi
     have ho:AP.ok ⟨lo,hi,.list (inL r lo hi)⟩:=⟨⟨b1,b2,b3⟩,om,tI hr lo hi,EM hr.2 lo hi⟩
     refine mB.one rfl rfl ho rfl ?_
     have h1:=KT ho
     have h2:=qY (tI hr lo hi)
     have h3:=gE (n:=2) om
     have h4:=gE (n:=(inL r lo hi).length) om
     simp only [AC.enc,List.length_append,h2,h3,h4] at h1
     show _≤100+32*((inL r lo hi).length+_)
     omega
    ·rename_i hgt
     have hD:=yM (lo:=lo) (hi:=hi) hr (show 0 < (inL r lo hi).length by omega) hf
     change mB s r leaf _ (vT r fan lo hi)
     have hq:∀ q∈vT r fan lo hi,q.ok∧q.enc.length≤100:=fun q hq=>by
      obtain ⟨a,b,_,d,e,_⟩:=hD.part q hq
      have q1:=KR hr b1 d
      have q2:=KR hr b2 e
      have h5:=Bu hr4 a (qX q1) (qX q2)
      refine ⟨⟨⟨q1,q2,b⟩,?_⟩,h5.2⟩
      rw [a]
      exact ⟨Nat.le_trans (mJ _ _ _) om,yN _⟩
     refine ⟨fun q h=>(hq q h).1,hD.bef,fun q h=>?_,fun q h=>(hD.part q h).2.2.1,fun t=>Nat.le_of_eq (hD.sum t),?_,fun q h=>Nat.le_trans (hq q h).2 om⟩
     ·have a:=(hD.part q h).1
      rw [a]
      exact ⟨rfl,rfl⟩
     ·have h6:=hD.len.1
      have h7:1 < cnt r lo hi:=by show 1 < (inL r lo hi).length; omega
      show _≤1+2*cnt r lo hi
      omega
 | list xs =>
   obtain rfl:xs=inL s lo hi:=hc
   show mB s r leaf _ (gW r lo hi (inL s lo hi))
   unfold gW
   split
   ·have o1:eD (aH (inL r lo hi) (inL s lo hi)) lo hi=true:=KQ _ (EM hr.2 lo hi)
    have o2:eD (aH (inL s lo hi) r) lo hi=true:=KQ _ (EM hs.2 lo hi)
    have a1:=jL (inL r lo hi) (inL s lo hi)
    have a2:=jL (inL s lo hi) r
    have a3:=mJ r lo hi
    have a4:=mJ s lo hi
    have c1:=tJ (m:=inL s lo hi) (tI hr lo hi)
    have c2:=tJ (m:=r) (tI hs lo hi)
    have ho:AP.ok ⟨lo,hi,.ans (aH (inL r lo hi) (inL s lo hi)) (aH (inL s lo hi) r)⟩:=⟨⟨b1,b2,b3⟩,⟨om,c1,o1⟩,om,c2,o2⟩
    refine mB.one rfl rfl ho ⟨fun x=>?_,fun x=>?_⟩ ?_
    ·rw [mN,fR,fR]
     constructor
     ·rintro ⟨⟨h1,h2⟩,h3⟩; exact ⟨⟨h1,fun h=>h3 ⟨h,h2⟩⟩,h2⟩
     ·rintro ⟨⟨h1,h2⟩,h3⟩; exact ⟨⟨h1,h3⟩,fun h=>h2 h.1⟩
    ·rw [mN,fR]
     constructor
     ·rintro ⟨⟨h1,h2⟩,h3⟩; exact ⟨⟨h1,h3⟩,h2⟩
     ·rintro ⟨⟨h1,h2⟩,h3⟩; exact ⟨⟨h1,h3⟩,h2⟩
    ·have h1:=KT ho
     have f1:=qY c1
     have f2:=qY c2
     have h3:=gE (n:=3) om
     have h4:=gE (n:=(aH (inL r lo hi) (inL s lo hi)).length) om
     have h5:=gE (n:=(aH (inL s lo hi) r).length) om
     simp only [AC.enc,List.length_append,f1,f2,h3,h4,h5] at h1
     show _≤100+32*((inL r lo hi).length+(inL s lo hi).length)
     omega
   ·exact mB.nil _
 | ans xs ms=>exact mB.nil _
theorem KU {f:AP→List AP} {t:List Bs}:∀ {m:List AP},(∀ p∈m,Wt t (f p)≤cnt t p.lo p.hi)→Wt t (m.flatMap f)≤Wt t m
 | [],_=>Nat.le_refl _
 | p::m,h=>by
   have ih:=KU (f:=f) (t:=t) (m:=m) fun q hq=>h q (by simp [hq])
   have h1:=h p si
   simp only [Wt,List.flatMap_cons,List.map_append,List.sum_append,List.map_cons,List.sum_cons] at ih h1 ⊢
   omega
theorem KV {f:AP→List AP}:∀ {m:List AP},(∀ p∈m,(f p).length≤1+2*cnt r p.lo p.hi)→(m.flatMap f).length≤m.length+2*Wt r m
 | [],_=>Nat.le_refl _
 | p::m,h=>by
   have ih:=KV (f:=f) (m:=m) fun q hq=>h q (by simp [hq])
   have h1:=h p si
   simp only [Wt,List.flatMap_cons,List.length_append,List.map_cons,List.sum_cons,List.length_cons] at ih h1 ⊢
   omega
theorem rI.reply (hs:bH s) (hr:bH r) (hs4:s.length≤40) (hr4:r.length≤40) (hf:2≤fan) (hl:1≤leaf) (hl2:leaf≤64) {m:List AP} (h:rI s r m) :
  rI r s (dV r fan leaf m)∧(∀ t,Wt t (dV r fan leaf m)≤Wt t m)∧(dV r fan leaf m).length≤m.length+2*Wt r m∧∀ q∈dV r fan leaf m,q.enc.length≤100+32*(cnt r q.lo q.hi+cnt s q.lo q.hi):=by
 have hR:∀ p∈m,mB s r leaf p (lD r fan leaf p):=fun p hp=>Vq hs hr hs4 hr4 hf hl hl2 (h.ok p hp) (h.con p hp)
 refine ⟨⟨?_,?_,?_⟩,fun t=>KU fun p hp=>(hR p hp).wt t,KV fun p hp=>(hR p hp).len,?_⟩
 ·intro q hq
  obtain ⟨p,h1,h2⟩:=List.mem_flatMap.1 hq
  exact (hR p h1).ok q h2
 ·unfold dV
  rw [List.pairwise_flatMap]
  refine ⟨fun p hp=>(hR p hp).bef,h.bef.imp_of_mem fun {p p'} hp hp' hb q hq q' hq'=>?_⟩
  have s1:=(hR p hp).sub q hq
  have s2:=(hR p' hp').sub q' hq'
  have s3:=s1.2.resolve_left hb.1
  exact ⟨s3.1,yG (yG s3.2 hb.2) s2.1⟩
 ·intro q hq
  obtain ⟨p,h1,h2⟩:=List.mem_flatMap.1 hq
  exact (hR p h1).con q h2
 ·intro q hq
  obtain ⟨p,h1,h2⟩:=List.mem_flatMap.1 hq
  exact (hR p h1).enc q h2
end
/-! ### A run of messages -/
def gY (a b : List Bs) (j : Nat) : List Bs := if j % 2 = 0 then a else b
def dQ (a b : List Bs) (fan leaf : Nat) : Nat → List AP
 | 0 => [dG a [] []]
 | j + 1 => dV (dY a b j) fan leaf (dQ a b fan leaf j)
theorem Bz (a b:List Bs) (j:Nat):gY a b (j+1)=dY a b j:=by
 unfold gY dY
 by_cases h:j % 2=0
 ·rw [if_neg om,if_pos h]
 ·rw [if_pos om,if_neg h]
theorem BA (a b:List Bs) (j:Nat):dY a b (j+1)=gY a b j:=by
 unfold gY dY
 by_cases h:j % 2=0
 ·rw [if_neg om,if_pos h]
 ·rw [if_pos om,if_neg h]
structure iT (a b : List Bs) (fan leaf : Nat) : Prop where
 (ha : bH a) (hb : bH b) (ha4 : a.length ≤ 40) (hb4 : b.length ≤ 40) (hf : 2 ≤ fan) (hf2 : fan ≤ 16) (hl : 1 ≤ leaf) (hl2 : leaf ≤ 64)
structure Vr (a b : List Bs) (fan leaf j : Nat) (m : List AP) : Prop where
 hon : rI (gY a b j) (dY a b j) m
 len : m.length ≤ 1 + 80 * j
 wt : ∀ t : List Bs, Wt t m ≤ t.length
 enc : ∀ q ∈ m, q.enc.length ≤ 100 + 32 * (cnt a q.lo q.hi + cnt b q.lo q.hi)
section
variable {a b : List Bs} {fan leaf : Nat}
theorem iT.side (h:iT a b fan leaf) (j:Nat):(bH (dY a b j)∧(dY a b j).length≤40)∧bH (gY a b j)∧(gY a b j).length≤40:=by
 unfold dY gY
 split
 ·exact ⟨⟨h.hb,h.hb4⟩,h.ha,h.ha4⟩
 ·exact ⟨⟨h.ha,h.ha4⟩,h.hb,h.hb4⟩
theorem vV (h:iT a b fan leaf):∀ j,Vr a b fan leaf j (dQ a b fan leaf j)
 | 0=>by
   have e:dQ a b fan leaf 0=[dG a [] []]:=rfl
   rw [e]
   have h0:=Bu h.ha4 (p:=dG a [] []) rfl (by simp [dG]) (by simp [dG])
   refine ⟨⟨?_,List.pairwise_singleton _ _,?_⟩,si,?_,?_⟩
   ·intro p hp
    rw [List.mem_singleton.1 hp]
    have:=mJ a [] []
    have h4:=h.ha4
    exact ⟨⟨by simp [dG,gL],by simp [dG,gL],by simp [dG,lU]⟩,om,yN _⟩
   ·intro p hp
    rw [List.mem_singleton.1 hp]
    exact ⟨rfl,rfl⟩
   ·intro t
    simp only [Wt,List.map_cons,List.map_nil,List.sum_cons,List.sum_nil]
    show (inL t [] []).length+0≤_
    rw [EF]
    omega
   ·intro q hq
    rw [List.mem_singleton.1 hq]
    exact Nat.le_trans h0.2 om
 | j+1=>by
   have ih:=vV h j
   obtain ⟨⟨r1,r2⟩,s1,s2⟩:=h.side j
   obtain ⟨h1,h2,h3,h4⟩:=ih.hon.reply s1 r1 s2 r2 h.hf h.hl h.hl2
   have e:dQ a b fan leaf (j+1)=dV (dY a b j) fan leaf (dQ a b fan leaf j):=rfl
   rw [e]
   refine ⟨by rw [Bz,BA]; exact h1,?_,fun t=>Nat.le_trans (h2 t) (ih.wt t),fun q hq=>?_⟩
   ·have:=ih.wt (dY a b j)
    have:=ih.len
    omega
   ·have h5:=h4 q hq
    have e2:cnt (dY a b j) q.lo q.hi+cnt (gY a b j) q.lo q.hi=cnt a q.lo q.hi+cnt b q.lo q.hi:=by
     unfold dY gY
     split
     ·exact Nat.add_comm _ _
     ·rfl
    rw [e2] at h5
    exact h5
theorem EN:∀ {m:List AP},(∀ q∈m,q.enc.length≤100+32*(cnt a q.lo q.hi+cnt b q.lo q.hi))→(m.flatMap AP.enc).length≤m.length*100+32*(Wt a m+Wt b m)
 | [],_=>Nat.zero_le _
 | p::m,h=>by
   have ih:=EN (m:=m) fun q hq=>h q (by simp [hq])
   have h1:=h p si
   simp only [Wt,List.flatMap_cons,List.length_append,List.map_cons,List.sum_cons,List.length_cons] at ih h1 ⊢
   omega
theorem BD (h:iT a b fan leaf) {j:Nat} (hj:j≤100):(bS (dQ a b fan leaf j)).length≤1048576:=by
 have hi:=vV h j
 have h1:=hi.len
 have h2:=EN hi.enc
 have h3:=hi.wt a
 have h4:=hi.wt b
 have h5:=KM (dQ a b fan leaf j) om
 have:=h.ha4
 have:=h.hb4
 omega
theorem BE (h:iT a b fan leaf):∀ j,j≤30→bE a b fan leaf j=bS (dQ a b fan leaf j)∧bX a b fan leaf j=⟨bS (dQ a b fan leaf (j+1)),0,(dQ a b fan leaf j).flatMap (iE (dY a b j)),(dQ a b fan leaf j).flatMap (iF (dY a b j))⟩:=by
 intro j hj
 have key:bE a b fan leaf j=bS (dQ a b fan leaf j)→bX a b fan leaf j=⟨bS (dQ a b fan leaf (j+1)),0,(dQ a b fan leaf j).flatMap (iE (dY a b j)),(dQ a b fan leaf j).flatMap (iF (dY a b j))⟩:=by
  intro he
  unfold bX
  rw [he]
  have hs1:=BD h (j:=j) om
  have hs2:=BD h (j:=j+1) om
  have e:dQ a b fan leaf (j+1)=dV (dY a b j) fan leaf (dQ a b fan leaf j):=rfl
  have hi:=vV h j
  rw [e] at hs2 ⊢
  generalize dQ a b fan leaf j=m at *
  by_cases hm:m=[]
  ·subst hm
   rfl
  ·have hne:bS m≠[]:=by
    unfold bS
    have hml:m.length≠0:=fun e=>hm (List.eq_nil_of_length_eq_zero e)
    rw [if_neg hml]
    intro e
    have e2:=congrArg List.length e
    have:=xO m.length
    rw [List.length_append,List.length_nil] at e2
    omega
   unfold cC
   rw [if_neg hne,IY (hi.hon.msg hm) om]
   dsimp only
   rw [if_neg om]
 induction j with
 | zero=>exact ⟨rfl,key rfl⟩
 | succ j ih =>
   have ih':=ih om (fun he=>?_)
   ·have e:bE a b fan leaf (j+1)=bS (dQ a b fan leaf (j+1)):=by
     show (bX a b fan leaf j).reply=_
     rw [ih'.2]
    exact ⟨e,key e⟩
   ·unfold bX
    rw [he]
    have hs1:=BD h (j:=j) om
    have hs2:=BD h (j:=j+1) om
    have e:dQ a b fan leaf (j+1)=dV (dY a b j) fan leaf (dQ a b fan leaf j):=rfl
    have hi:=vV h j
    rw [e] at hs2 ⊢
    generalize dQ a b fan leaf j=m at *
    by_cases hm:m=[]
    ·subst hm
     rfl
    ·have hne:bS m≠[]:=by
      unfold bS
      have hml:m.length≠0:=fun e=>hm (List.eq_nil_of_length_eq_zero e)
      rw [if_neg hml]
      intro e
      have e2:=congrArg List.length e
      have:=xO m.length
      rw [List.length_append,List.length_nil] at e2
      omega
     unfold cC
     rw [if_neg hne,IY (hi.hon.msg hm) om]
     dsimp only
     rw [if_neg om]
theorem Vs {m:List AP}:bS m=[]↔m=[]:=by
 constructor
 ·intro h
  by_cases hm:m=[]
  ·exact hm
  ·exfalso
   have hml:m.length≠0:=fun e=>hm (List.eq_nil_of_length_eq_zero e)
   rw [bS,if_neg hml] at h
   have e2:=congrArg List.length h
   have:=xO m.length
   rw [List.length_append,List.length_nil] at e2
   omega
 ·rintro rfl; rfl
/-! ### The end of a run -/
theorem yO {fan leaf : Nat} (hf : 2 ≤ fan) (hl : 1 ≤ leaf) : ∀ (n m : Nat), n ≤ m → iP fan leaf n ≤ iP fan leaf m := by
 intro n
 induction n using Nat.strongRecOn with
 | _ n ih =>
   intro m hnm
   by_cases h : leaf < n
   ·rw [sP hf hl h, sP hf hl (show leaf < m by omega)]
    have := ih _ (Iy hf (by omega)) ((m + fan - 1) / fan) (Nat.div_le_div_right (by omega))
    omega
   ·rw [Aq (by omega)]; exact Nat.zero_le _
theorem KW {fan leaf:Nat} (hf:2≤fan) (hl:1≤leaf):∀ (t n:Nat),n≤2 ^ t→iP fan leaf n≤t
 | 0,n,h=>by rw [Aq (by simp at h; omega)]; exact Nat.le_refl _
 | t+1,n,h=>by
   by_cases h1:leaf < n
   ·rw [sP hf hl h1]
    have h2:(n+fan - 1) / fan≤2 ^ t:=by
     rw [← Nat.lt_succ_iff,Nat.div_lt_iff_lt_mul om]
     have h3:2 ^ t*2≤2 ^ t*fan:=Nat.mul_le_mul_left _ hf
     rw [Nat.pow_succ] at h
     rw [Nat.succ_mul]
     omega
    have:=KW hf hl t _ h2
    omega
   ·rw [Aq om]; omega
def tL (r s : List Bs) (fan leaf : Nat) (m : List AP) (e1 e2 : Nat) : Prop := ∀ p ∈ m, ∀ n f, p.c = .sum n f → iP fan leaf (cnt r p.lo p.hi) ≤ e1 ∧ iP fan leaf (cnt s p.lo p.hi) ≤ e2
def KX (m : List AP) : Prop := ∀ p ∈ m, ∀ n f, p.c ≠ .sum n f
def KY (m : List AP) : Prop := ∀ p ∈ m, (∀ n f, p.c ≠ .sum n f) ∧ ∀ xs, p.c ≠ .list xs
theorem Vt {r s:List Bs} (hl:1≤leaf) (hf:2≤fan) {m:List AP} {e2:Nat} (h:tL r s fan leaf m 0 e2):KX (dV r fan leaf m):=by
 intro q hq n f hc
 obtain ⟨p,h1,h2⟩:=List.mem_flatMap.1 hq
 obtain ⟨lo,hi,c⟩:=p
 cases c with
 | sum n' f' =>
   have hd:=(h _ h1 n' f' rfl).1
   have h2':q∈iQ r fan leaf lo hi n' f':=h2
   unfold iQ at h2'
   split at h2'
   ·cases h2'
   ·split at h2'
    ·rw [List.mem_singleton.1 h2'] at hc; cases hc
    ·rename_i hgt
     rw [sP hf hl (show leaf < cnt r lo hi by show leaf < (inL r lo hi).length; omega)] at hd
     omega
 | list xs =>
   have h2':q∈gW r lo hi xs:=h2
   unfold gW at h2'
   split at h2'
   ·rw [List.mem_singleton.1 h2'] at hc; cases hc
   ·cases h2'
 | ans xs ms=>cases h2
theorem Vu {r:List Bs} {m:List AP} (h:KX m):KY (dV r fan leaf m):=by
 intro q hq
 obtain ⟨p,h1,h2⟩:=List.mem_flatMap.1 hq
 obtain ⟨lo,hi,c⟩:=p
 cases c with
 | sum n' f'=>exact absurd rfl (h _ h1 n' f')
 | list xs =>
   have h2':q∈gW r lo hi xs:=h2
   unfold gW at h2'
   split at h2'
   ·rw [List.mem_singleton.1 h2']; exact ⟨fun n f e=>(by cases e),fun ys e=>(by cases e)⟩
   ·cases h2'
 | ans xs ms=>cases h2
theorem Vv {r:List Bs} {m:List AP} (h:KY m):dV r fan leaf m=[]:=by
 unfold dV
 rw [List.flatMap_eq_nil_iff]
 intro p hp
 obtain ⟨h1,h2⟩:=h p hp
 obtain ⟨lo,hi,c⟩:=p
 cases c with
 | sum n f=>exact absurd rfl (h1 n f)
 | list xs=>exact absurd rfl (h2 xs)
 | ans xs ms=>rfl
theorem KZ {r s:List Bs} (hr:bH r) (hl:1≤leaf) (hf:2≤fan) {m:List AP} {e1 e2:Nat} (h:tL r s fan leaf m (e1+1) e2):tL s r fan leaf (dV r fan leaf m) e2 e1:=by
 intro q hq n f hc
 obtain ⟨p,h1,h2⟩:=List.mem_flatMap.1 hq
 obtain ⟨lo,hi,c⟩:=p
 cases c with
 | sum n' f' =>
   obtain ⟨d1,d2⟩:=h _ h1 n' f' rfl
   dsimp only at d1 d2
   have h2':q∈iQ r fan leaf lo hi n' f':=h2
   unfold iQ at h2'
   split at h2'
   ·cases h2'
   ·split at h2'
    ·rw [List.mem_singleton.1 h2'] at hc; cases hc
    ·rename_i hgt
     have hgt':leaf < cnt r lo hi:=by show leaf < (inL r lo hi).length; omega
     have hD:=yM (lo:=lo) (hi:=hi) hr (show 0 < (inL r lo hi).length by omega) hf
     obtain ⟨_,_,hsub,_,_,hcn⟩:=hD.part q h2'
     rw [sP hf hl hgt'] at d1
     exact ⟨Nat.le_trans (yO hf hl _ _ (Vc hsub s)) d2,Nat.le_trans (yO hf hl _ _ hcn) om⟩
 | list xs =>
   have h2':q∈gW r lo hi xs:=h2
   unfold gW at h2'
   split at h2'
   ·rw [List.mem_singleton.1 h2'] at hc; cases hc
   ·cases h2'
 | ans xs ms=>cases h2
theorem La (h:iT a b fan leaf):∀ (e j:Nat),tL (dY a b j) (gY a b j) fan leaf (dQ a b fan leaf j) e e→dQ a b fan leaf (j+2*e+3)=[]
 | 0,j,hL=>by
   have h1:=Vt h.hl h.hf hL
   have h2:=Vu (fan:=fan) (leaf:=leaf) (r:=dY a b (j+1)) h1
   exact Vv h2
 | e+1,j,hL=>by
   have s1:=(h.side j).1.1
   have s2:=(h.side (j+1)).1.1
   have h1:=KZ s1 h.hl h.hf hL
   have h1':tL (dY a b (j+1)) (gY a b (j+1)) fan leaf (dQ a b fan leaf (j+1)) (e+1) e:=by rw [BA,Bz]; exact h1
   have h2:=KZ s2 h.hl h.hf h1'
   have h2':tL (dY a b (j+2)) (gY a b (j+2)) fan leaf (dQ a b fan leaf (j+2)) e e:=by
    rw [show j+2=j+1+1 from rfl,BA a b (j+1),Bz a b (j+1)]; exact h2
   have:=La h e (j+2) h2'
   rw [show j+2*(e+1)+3=j+2+2*e+3 by omega]
   exact this
theorem Vw {f:Nat→List AP}:∀ n,f n=[]→∃ K,K≤n∧f K=[]∧∀ j,j < K→f j≠[]
 | 0,h=>⟨0,Nat.le_refl _,h,fun j hj=>by omega⟩
 | n+1,h=>by
   by_cases h0:∃ m,m≤n∧f m=[]
   ·obtain ⟨m,hm,h1⟩:=h0
    have key:∀ t,∀ m,m≤t→f m=[]→∃ K,K≤m∧f K=[]∧∀ j,j < K→f j≠[]:=by
     intro t
     induction t with
     | zero=>intro m hm h; exact ⟨m,Nat.le_refl _,h,fun j hj=>by omega⟩
     | succ t ih =>
       intro m hm h
       by_cases hx:∃ j,j < m∧f j=[]
       ·obtain ⟨j,hj,hfj⟩:=hx
        obtain ⟨K,k1,k2,k3⟩:=ih j om hfj
        exact ⟨K,om,k2,k3⟩
       ·exact ⟨m,Nat.le_refl _,h,fun j hj e=>hx ⟨j,hj,e⟩⟩
    obtain ⟨K,k1,k2,k3⟩:=key n m hm h1
    exact ⟨K,om,k2,k3⟩
   ·exact ⟨n+1,Nat.le_refl _,h,fun j hj e=>h0 ⟨j,om,e⟩⟩
theorem Lb (h:iT a b fan leaf):∃ K,qE a b fan leaf K∧1≤K∧K≤2*iP fan leaf (max a.length b.length)+3∧dQ a b fan leaf K=[]∧∀ j,j < K→dQ a b fan leaf j≠[]:=by
 have hd:iP fan leaf (max a.length b.length)≤6:=KW h.hf h.hl 6 _ (by have:=h.ha4; have:=h.hb4; omega)
 have hL:tL (dY a b 0) (gY a b 0) fan leaf (dQ a b fan leaf 0) (iP fan leaf (max a.length b.length)) (iP fan leaf (max a.length b.length)):=by
  intro p hp n f _
  have e:dQ a b fan leaf 0=[dG a [] []]:=rfl
  rw [e] at hp
  rw [List.mem_singleton.1 hp]
  show iP fan leaf (inL b [] []).length≤_∧iP fan leaf (inL a [] []).length≤_
  rw [EF,EF]
  exact ⟨yO h.hf h.hl _ _ om,yO h.hf h.hl _ _ om⟩
 have h1:=La h _ 0 hL
 rw [Nat.zero_add] at h1
 obtain ⟨K,k1,k2,k3⟩:=Vw _ h1
 have hK1:1≤K:=by
  rcases Nat.eq_zero_or_pos K with e | e
  ·subst e; cases k2
  ·exact e
 refine ⟨K,⟨fun j hj=>?_,?_,om⟩,hK1,k1,k2,k3⟩
 ·obtain ⟨e1,e2⟩:=BE h j om
  exact ⟨by rw [e1]; exact fun e=>k3 j hj (Vs.1 e),by rw [e2]⟩
 ·rw [(BE h K om).1,k2]; rfl
end
end
section
theorem Lc {n:Nat} (h:n < 256):nm n=UInt8.ofNat n::(nm n).tail:=by
 have e:UInt8.ofNat (dC (bY n))=UInt8.ofNat n:=by rw [← Eu,vO,vN h]
 unfold nm kk
 rw [e]
 rfl
theorem Vx {a b:Nat} (h:a < b) (hb:b < 256):nm a < nm b:=by
 rw [Lc (show a < 256 by omega),Lc hb]
 refine List.cons_lt_cons_iff.2 (.inl ?_)
 rw [UInt8.lt_iff_toNat_lt,UInt8.toNat_ofNat',UInt8.toNat_ofNat',Nat.mod_eq_of_lt (show a < 2 ^ 8 from Nat.lt_trans h hb),Nat.mod_eq_of_lt (show b < 2 ^ 8 from hb)]
 exact h
structure fZ (A : List Nat) : Prop where
 lt : ∀ n ∈ A, n < 256
 asc : A.Pairwise (· < ·)
theorem fZ.nodup {A:List Nat} (h:fZ A):A.Nodup:=h.asc.imp fun h=>Nat.ne_of_lt h
theorem fZ.less {A:List Nat} (h:fZ A) (B:List Nat):fZ (dP A B):=⟨fun n hn=>h.lt n (List.mem_filter.1 hn).1,h.asc.filter _⟩
theorem fZ.len {A:List Nat} (h:fZ A):A.length≤256:=Kk h.nodup h.lt
theorem fZ.set {A:List Nat} (h:fZ A):bH (A.map nm):=by
 refine ⟨fun x hx=>?_,?_⟩
 ·obtain ⟨n,_,rfl⟩:=List.mem_map.1 hx
  exact Ez n
 ·refine List.pairwise_map.2 (List.Pairwise.imp_of_mem (fun {a b} _ hb hab=>Vx hab (h.lt b hb)) h.asc)
theorem yP {l:List Bs} (h:l.Pairwise (· < ·)):gR l=l:=AG (nR l) (qZ l) (h.imp fun h=>RO h)
theorem BF {A:List Nat} (hA:∀ n∈A,n < 256) {n:Nat} (hn:n < 256):nm n∈A.map nm↔n∈A :=
 ⟨fun h=>by obtain ⟨m,hm,e⟩:=List.mem_map.1 h; rwa [← Us (hA m hm) hn e],fun h=>List.mem_map_of_mem h⟩
section
variable {t : Nat} {A B : List Nat}
theorem Vy (hA:fZ A) (hB:fZ B):lV (B.map nm) ((dP B A).map nm) ((dP A B).map nm)=A.map nm:=by
 have hp:((B.map nm).filter (fun x=>!((dP B A).map nm).contains x)++(dP A B).map nm).Perm (A.map nm):=by
  rw [List.filter_map,← List.map_append]
  refine List.Perm.map nm ((List.perm_ext_iff_of_nodup ?_ hA.nodup).2 fun n=>?_)
  ·refine List.nodup_append.2 ⟨hB.nodup.filter _,hA.nodup.filter _,fun a ha b hb hab=>?_⟩
   subst hab
   have h1:=(List.mem_filter.1 hb).2
   simp [(List.mem_filter.1 ha).1] at h1
  ·rw [List.mem_append]
   constructor
   ·rintro (h | h)
    ·obtain ⟨h1,h2⟩:=List.mem_filter.1 h
     apply Classical.byContradiction
     intro h3
     have h4:n∈dP B A:=List.mem_filter.2 ⟨h1,by simpa using h3⟩
     have h5:=List.mem_map_of_mem (f:=nm) h4
     simp only [Function.comp,Bool.not_eq_true',Bool.eq_false_iff,ne_eq,List.contains_iff_mem] at h2
     exact h2 h5
    ·exact (List.mem_filter.1 h).1
   ·intro h
    by_cases h1:n∈B
    ·left
     refine List.mem_filter.2 ⟨h1,?_⟩
     simp only [Function.comp,Bool.not_eq_true',Bool.eq_false_iff,ne_eq,List.contains_iff_mem]
     intro h2
     have h3:=(BF (hB.less A).lt (hA.lt n h)).1 h2
     have h4:=(List.mem_filter.1 h3).2
     simp [h] at h4
    ·right
     exact List.mem_filter.2 ⟨h,by simpa using h1⟩
 exact (AG ((nR _).trans (hp.trans (nR _).symm)) (qZ _) (qZ _)).trans (yP hA.set.2)
theorem Ld (hA:fZ A) (hB:fZ B):kG (B.map nm) ((dP A B).map nm) ((dP B A).map nm)=true:=by
 unfold kG
 rw [Bool.and_eq_true,Bool.not_eq_true',Bool.not_eq_true',List.any_eq_false,List.any_eq_false]
 refine ⟨fun x hx=>?_,fun x hx=>?_⟩
 ·obtain ⟨n,hn,rfl⟩:=List.mem_map.1 hx
  obtain ⟨h1,h2⟩:=List.mem_filter.1 hn
  rw [List.contains_iff_mem,BF hB.lt (hA.lt n h1)]
  simpa using h2
 ·obtain ⟨n,hn,rfl⟩:=List.mem_map.1 hx
  have h1:=(List.mem_filter.1 hn).1
  have h2:((B.map nm).contains (nm n))=true:=List.contains_iff_mem.2 ((BF hB.lt (hB.lt n h1)).2 h1)
  rw [h2]
  decide
theorem Vz (h5:5≤t) (h505:t < 505) (hA:fZ A) (hB:fZ B) (hk:((dE (B.map nm) (3*t)).sub (dE (A.map nm) (3*t))).keys≠none) :
  mW (B.map nm) (dE (A.map nm) (3*t)) (cQ (A.map nm))=some ((dP B A).map nm,(dP A B).map nm):=by
 unfold mW
 rw [kZ]
 cases h:((dE (B.map nm) (3*t)).sub (dE (A.map nm) (3*t))).keys with
 | none=>exact absurd h hk
 | some p =>
   obtain ⟨l,r⟩:=p
   obtain ⟨e1,e2⟩:=UE h5 h505 hB.nodup hA.nodup hB.lt hA.lt h
   rw [yP (hB.less A).set.2] at e1
   rw [yP (hA.less B).set.2] at e2
   subst e1 e2
   dsimp only
   rw [Vy hA hB,Ld hA hB,lS (by rw [List.length_map]; have:=hA.len; omega) hA.set]
   simp
end
/-! ### Equal sets -/
theorem VC {A B : List Nat} (hA : fZ A) (hB : fZ B) (h1 : dP A B = []) (h2 : dP B A = []) : A = B := by
 have hp : A.Perm B := (List.perm_ext_iff_of_nodup hA.nodup hB.nodup).2 fun n => by
  constructor
  ·intro h
   have := List.filter_eq_nil_iff.1 h1 n h
   simpa using this
  ·intro h
   have := List.filter_eq_nil_iff.1 h2 n h
   simpa using this
 exact List.Perm.eq_of_pairwise (fun a b _ _ h1 h2 => absurd (Nat.lt_trans h1 h2) (Nat.lt_irrefl _)) hA.asc hB.asc hp
theorem VD (n s:Nat):(BT.new n s).first=none:=by
 unfold BT.first BT.new
 rw [List.findIdx?_eq_none_iff]
 intro c hc
 rw [(List.mem_replicate.1 hc).2]
 simp [BC.pure,BC.zero]
theorem VE (n s:Nat):(BT.new n s).raw=some ([],[]):=by
 have hp:∀ m,eL m ⟨BT.new n s,[],[],[]⟩=some ⟨BT.new n s,[],[],[]⟩:=by
  intro m
  cases m with
  | zero=>rfl
  | succ m=>unfold eL; simp only [VD]
 have he:(BT.new n s).empty=true:=by
  unfold BT.empty BT.new
  rw [List.all_eq_true]
  intro c hc
  rw [(List.mem_replicate.1 hc).2]
  decide
 unfold BT.raw
 rw [hp]
 dsimp only
 rw [if_pos he]
theorem VF {A:List Nat} (hA:fZ A) (n:Nat):mW (A.map nm) (dE (A.map nm) n) (cQ (A.map nm))=some ([],[]):=by
 have h0:=sub_self (vB hA.set.1 n)
 rw [kZ,xQ] at h0
 have hk:((dE (A.map nm) n).sub (dE (A.map nm) n)).keys=some ([],[]):=by
  rw [h0]
  unfold BT.keys
  rw [VE]
  show some (gR [],gR [])=_
  rw [yP (show ([]:List Bs).Pairwise (· < ·) from List.Pairwise.nil)]
 have ho:lV (A.map nm) [] []=A.map nm:=by
  unfold lV
  rw [List.append_nil,List.filter_eq_self.2 fun x _=>by simp,yP hA.set.2]
 have ha:kG (A.map nm) [] []=true:=rfl
 unfold mW
 rw [kZ,hk]
 dsimp only
 rw [ho,ha,lS (by rw [List.length_map]; have:=hA.len; omega) hA.set]
 simp
end
structure PK (s : fG) : Prop where
 ok : s.t.Ok
 len : ∀ x ∈ s.taken, x.length = 32
 nda : s.added.Nodup
 ndr : s.removed.Nodup
 ia : ∀ x ∈ s.added, x ∈ s.taken
 ir : ∀ x ∈ s.removed, x ∈ s.taken
theorem Le {l:List Bs} {x:Bs} (h:l.Nodup) (hx:x∉l):(l++[x]).Nodup:=by
 rw [List.nodup_append]
 refine ⟨h,List.nodup_cons.2 ⟨si,List.nodup_nil⟩,fun a ha b hb e=>?_⟩
 rw [List.mem_singleton] at hb
 subst e hb
 exact hx ha
theorem PK.take {s:fG} (h:PK s) {c:BC} (hc:c.keys.length=32) (hn:s.taken.contains c.keys=false):PK (s.take c):=by
 have hn':c.keys∉s.taken:=by simpa using hn
 refine ⟨h.ok.change hc _,fun x hx=>?_,?_,?_,fun x hx=>?_,fun x hx=>?_⟩
 ·rcases List.mem_cons.1 hx with rfl | hx
  ·exact hc
  ·exact h.len x hx
 ·unfold fG.take; dsimp only; split
  ·exact Le h.nda fun hx=>hn' (h.ia _ hx)
  ·exact h.nda
 ·unfold fG.take; dsimp only; split
  ·exact h.ndr
  ·exact Le h.ndr fun hx=>hn' (h.ir _ hx)
 ·unfold fG.take at hx ⊢; dsimp only at hx ⊢
  split at hx
  ·rcases List.mem_append.1 hx with hx | hx
   ·exact List.mem_cons_of_mem _ (h.ia x hx)
   ·rw [List.mem_singleton.1 hx]; exact List.mem_cons_self
  ·exact List.mem_cons_of_mem _ (h.ia x hx)
 ·unfold fG.take at hx ⊢; dsimp only at hx ⊢
  split at hx
  ·exact List.mem_cons_of_mem _ (h.ir x hx)
  ·rcases List.mem_append.1 hx with hx | hx
   ·exact List.mem_cons_of_mem _ (h.ir x hx)
   ·rw [List.mem_singleton.1 hx]; exact List.mem_cons_self
theorem Lf:∀ (n:Nat) {s s':fG},PK s→eL n s=some s'→PK s'
 | 0,s,s',h,e=>by cases e; exact h
 | n+1,s,s',h,e=>by
   unfold eL at e
   cases hf:s.t.first with
   | none=>rw [hf] at e; cases e; exact h
   | some i =>
     rw [hf] at e
     simp only at e
     split at e
     ·cases e
     ·rename_i hc
      exact Lf n (h.take (Ik h.ok i).keys (by simpa using hc)) e
theorem Lg {l:List Bs} (h:l.Nodup):(gR l).Pairwise (· < ·):=by
 have h1:=qZ l
 have h2:(gR l).Nodup:=(nR l).nodup_iff.2 h
 refine (List.Pairwise.and h1 h2).imp fun {a b} hab=>?_
 rcases Decidable.em (a < b) with hl | hl
 ·exact hl
 ·exact absurd (IZ hab.1 (RN.1 hl)) hab.2
theorem EO {t:BT} {l m:List Bs} (ht:t.Ok) (h:t.keys=some (l,m)):(l.Pairwise (· < ·)∧∀ x∈l,x.length=32)∧m.Pairwise (· < ·)∧∀ x∈m,x.length=32:=by
 obtain ⟨p,hp,rfl,rfl⟩:=AK h
 unfold BT.raw at hp
 cases hq:eL t.cells.length ⟨t,[],[],[]⟩ with
 | none=>rw [hq] at hp; cases hp
 | some s =>
   rw [hq] at hp
   have hk:=Lf _ (s:=⟨t,[],[],[]⟩) ⟨ht,si,List.nodup_nil,List.nodup_nil,si,si⟩ hq
   simp only at hp
   split at hp
   ·injection hp with hp
    subst hp
    exact ⟨⟨Lg hk.nda,fun x hx=>hk.len x (hk.ia x ((nR _).mem_iff.1 hx))⟩,Lg hk.ndr,fun x hx=>hk.len x (hk.ir x ((nR _).mem_iff.1 hx))⟩
   ·cases hp
section
/-! ### Collisions -/
def dX (l : List Bs) (i j : Nat) : List Bs := (l.take j).drop i
def VG (a b : List Bs) (i j k : Nat) : Prop := i ≤ j ∧ j ≤ a.length ∧ k ≤ b.length ∧ k + j - i ≤ b.length ∧ dX a i j ≠ dX b k (k + j - i) ∧ cQ (dX a i j) = cQ (dX b k (k + j - i))
def kJ (a b : List Bs) : Prop := ∃ i j k, VG a b i j k
theorem Lh {l:List Bs} (h:fS l) (lo hi:Bs):∃ i j,i≤j∧j≤l.length∧inL l lo hi=dX l i j∧(inL l lo hi).length=j - i:=by
 have h1:=nP l lo
 have h2:=nP l hi
 have hj:max (aZ l lo) (if hi=[] then l.length else aZ l hi)≤l.length:=by split <;> omega
 refine ⟨aZ l lo,max (aZ l lo) (if hi=[] then l.length else aZ l hi),om,hj,(sR h lo hi).symm,?_⟩
 rw [← sR h lo hi,List.length_drop,List.length_take,Nat.min_eq_left hj]
theorem Li {a b:List Bs} (ha:fS a) (hb:fS b) (h:¬ kJ a b) {lo hi:Bs} (hl:cnt a lo hi=cnt b lo hi) (hf:cQ (inL a lo hi)=cQ (inL b lo hi)):inL a lo hi=inL b lo hi:=by
 obtain ⟨i,j,h1,h2,h3,h4⟩:=Lh ha lo hi
 obtain ⟨k,n,k1,k2,k3,k4⟩:=Lh hb lo hi
 have hl':(inL a lo hi).length=(inL b lo hi).length:=hl
 have hn:n=k+j - i:=om
 rw [h3,k3,hn] at hf ⊢
 apply Classical.byContradiction
 intro hne
 exact h ⟨i,j,k,h1,h2,om,om,hne,hf⟩
/-! ### What both sides know -/
structure yQ (s r : List Bs) (m : List AP) (R S : List Bs × List Bs) : Prop where
 r1 : ∀ x ∈ R.1, x ∈ s ∧ x ∉ r
 r2 : ∀ x ∈ R.2, x ∈ r ∧ x ∉ s
 s1 : ∀ x ∈ S.1, x ∈ r ∧ x ∉ s
 s2 : ∀ x ∈ S.2, x ∈ s ∧ x ∉ r
 l1 : ∀ x, x ∈ S.1 ↔ x ∈ R.2 ∨ ∃ p ∈ m, ∃ xs ms, p.c = .ans xs ms ∧ x ∈ ms
 l2 : ∀ x, x ∈ S.2 ↔ x ∈ R.1 ∨ ∃ p ∈ m, ∃ xs ms, p.c = .ans xs ms ∧ x ∈ xs
def NoC (s r : List Bs) : Prop := ∀ lo hi, cnt r lo hi = cnt s lo hi → cQ (inL r lo hi) = cQ (inL s lo hi) → inL r lo hi = inL s lo hi
def yR (s r : List Bs) (m : List AP) (S : List Bs × List Bs) : Prop := ∀ x, (x ∈ s ∧ x ∉ r ∨ x ∈ r ∧ x ∉ s) → (∃ p ∈ m, (∀ xs ms, p.c ≠ .ans xs ms) ∧ inR p.lo p.hi x = true) ∨ x ∈ S.1 ∨ x ∈ S.2
section
variable {s r : List Bs} {fan leaf : Nat} {m : List AP} {R S : List Bs × List Bs}
theorem VH {lo hi:Bs} {n:Nat} {f:Bs} {q:AP} (hq:q∈iQ r fan leaf lo hi n f) (hr:bH r) (hf:2≤fan) (hl:1≤leaf):∀ xs ms,q.c≠.ans xs ms:=by
 intro xs ms e
 unfold iQ at hq
 split at hq
 ·cases hq
 ·split at hq
  ·rw [List.mem_singleton.1 hq] at e; cases e
  ·have hD:=yM (lo:=lo) (hi:=hi) hr (show 0 < (inL r lo hi).length by omega) hf
   rw [(hD.part q hq).1] at e
   cases e
theorem Lj {lo hi:Bs} {xs:List Bs} {x:Bs} (h:x∈aH (inL r lo hi) xs∨x∈aH xs r):gW r lo hi xs=[⟨lo,hi,.ans (aH (inL r lo hi) xs) (aH xs r)⟩]:=by
 unfold gW
 rw [if_pos]
 rcases h with h | h
 ·have:=List.length_pos_of_mem h; omega
 ·have:=List.length_pos_of_mem h; omega
theorem Lk (hr:bH r) (hf:2≤fan) (hl:1≤leaf) {q:AP} {xs ms:List Bs} (hq:q∈dV r fan leaf m) (hc:q.c = .ans xs ms):∃ p∈m,∃ ys,p.c = .list ys∧xs=aH (inL r p.lo p.hi) ys∧ms=aH ys r:=by
 obtain ⟨p,h1,h2⟩:=List.mem_flatMap.1 hq
 obtain ⟨lo,hi,c⟩:=p
 cases c with
 | sum n f=>exact absurd hc (VH (show q∈iQ r fan leaf lo hi n f from h2) hr hf hl xs ms)
 | list ys =>
   have h2':q∈gW r lo hi ys:=h2
   unfold gW at h2'
   split at h2'
   ·rw [List.mem_singleton.1 h2'] at hc
    injection hc with e1 e2
    exact ⟨_,h1,ys,rfl,e1.symm,e2.symm⟩
   ·cases h2'
 | ans ys zs=>cases h2
theorem yQ.step (hr:bH r) (hf:2≤fan) (hl:1≤leaf) (hH:rI s r m) (h:yQ s r m R S) :
  yQ r s (dV r fan leaf m) S (R.1++m.flatMap (iE r),R.2++m.flatMap (iF r)):=by
 have hneed:∀ p∈m,∀ x∈iE r p,x∈s∧x∉r:=by
  intro p hp x hx
  have hc:=hH.con p hp
  obtain ⟨lo,hi,c⟩:=p
  cases c with
  | sum n f=>cases hx
  | list xs =>
    obtain rfl:xs=inL s lo hi:=hc
    obtain ⟨h1,h2⟩:=mN.1 (show x∈aH (inL s lo hi) r from hx)
    exact ⟨(fR.1 h1).1,h2⟩
  | ans xs ms =>
    obtain ⟨h1,h2⟩:=mN.1 (show x∈aH xs r from hx)
    exact ((hc.1 x).1 h1).1
 have hoff:∀ p∈m,∀ x∈iF r p,x∈r∧x∉s:=by
  intro p hp x hx
  have hc:=hH.con p hp
  obtain ⟨lo,hi,c⟩:=p
  cases c with
  | sum n f=>cases hx
  | list xs =>
    obtain rfl:xs=inL s lo hi:=hc
    obtain ⟨h1,h2⟩:=mN.1 (show x∈aH (inL r lo hi) (inL s lo hi) from hx)
    obtain ⟨h3,h4⟩:=fR.1 h1
    exact ⟨h3,fun h5=>h2 (fR.2 ⟨h5,h4⟩)⟩
  | ans xs ms =>
    obtain ⟨h1,h2⟩:=yI.1 (show x∈cK ms r from hx)
    exact ((hc.2 x).1 h1).1
 refine ⟨h.s1,h.s2,?_,?_,?_,?_⟩
 ·intro x hx
  rcases List.mem_append.1 hx with hx | hx
  ·exact h.r1 x hx
  ·obtain ⟨p,hp,hx⟩:=List.mem_flatMap.1 hx
   exact hneed p hp x hx
 ·intro x hx
  rcases List.mem_append.1 hx with hx | hx
  ·exact h.r2 x hx
  ·obtain ⟨p,hp,hx⟩:=List.mem_flatMap.1 hx
   exact hoff p hp x hx
 ·intro x
  rw [List.mem_append,h.l2 x]
  constructor
  ·rintro (hx | hx)
   ·exact .inl (.inl hx)
   ·obtain ⟨p,hp,hx⟩:=List.mem_flatMap.1 hx
    obtain ⟨lo,hi,c⟩:=p
    cases c with
    | sum n f=>cases hx
    | list xs =>
      have hx':x∈aH xs r:=hx
      refine .inr ⟨⟨lo,hi,.ans (aH (inL r lo hi) xs) (aH xs r)⟩,List.mem_flatMap.2 ⟨_,hp,?_⟩,_,_,rfl,hx'⟩
      show _∈gW r lo hi xs
      rw [Lj (.inr hx')]
      exact List.mem_singleton.2 rfl
    | ans xs ms =>
      have hx':x∈aH xs r:=hx
      exact .inl (.inr ⟨_,hp,xs,ms,rfl,(mN.1 hx').1⟩)
  ·rintro ((hx | ⟨p,hp,xs,ms,hc,hx⟩) | ⟨q,hq,xs,ms,hc,hx⟩)
   ·exact .inl hx
   ·refine .inr (List.mem_flatMap.2 ⟨p,hp,?_⟩)
    have hP:=hH.con p hp
    obtain ⟨lo,hi,c⟩:=p
    obtain rfl:c = .ans xs ms:=hc
    exact mN.2 ⟨hx,((hP.1 x).1 hx).1.2⟩
   ·obtain ⟨p,hp,ys,hpc,rfl,rfl⟩:=Lk hr hf hl hq hc
    refine .inr (List.mem_flatMap.2 ⟨p,hp,?_⟩)
    obtain ⟨lo,hi,c⟩:=p
    obtain rfl:c = .list ys:=hpc
    exact hx
 ·intro x
  rw [List.mem_append,h.l1 x]
  constructor
  ·rintro (hx | hx)
   ·exact .inl (.inl hx)
   ·obtain ⟨p,hp,hx⟩:=List.mem_flatMap.1 hx
    obtain ⟨lo,hi,c⟩:=p
    cases c with
    | sum n f=>cases hx
    | list xs =>
      have hx':x∈aH (inL r lo hi) xs:=hx
      refine .inr ⟨⟨lo,hi,.ans (aH (inL r lo hi) xs) (aH xs r)⟩,List.mem_flatMap.2 ⟨_,hp,?_⟩,_,_,rfl,hx'⟩
      show _∈gW r lo hi xs
      rw [Lj (.inl hx')]
      exact List.mem_singleton.2 rfl
    | ans xs ms =>
      have hx':x∈cK ms r:=hx
      exact .inl (.inr ⟨_,hp,xs,ms,rfl,(yI.1 hx').1⟩)
  ·rintro ((hx | ⟨p,hp,xs,ms,hc,hx⟩) | ⟨q,hq,xs,ms,hc,hx⟩)
   ·exact .inl hx
   ·refine .inr (List.mem_flatMap.2 ⟨p,hp,?_⟩)
    have hP:=hH.con p hp
    obtain ⟨lo,hi,c⟩:=p
    obtain rfl:c = .ans xs ms:=hc
    exact yI.2 ⟨hx,((hP.2 x).1 hx).1.1⟩
   ·obtain ⟨p,hp,ys,hpc,rfl,rfl⟩:=Lk hr hf hl hq hc
    refine .inr (List.mem_flatMap.2 ⟨p,hp,?_⟩)
    obtain ⟨lo,hi,c⟩:=p
    obtain rfl:c = .list ys:=hpc
    exact hx
theorem yR.step (hr:bH r) (hf:2≤fan) (hl:1≤leaf) (hH:rI s r m) (hN:NoC s r) (hK:yQ s r m R S) (h:yR s r m S) :
  yR r s (dV r fan leaf m) (R.1++m.flatMap (iE r),R.2++m.flatMap (iF r)):=by
 intro x hx
 rcases h x hx.symm with ⟨p,hp,hna,hin⟩ | hx1 | hx2
 ·have hc:=hH.con p hp
  obtain ⟨lo,hi,c⟩:=p
  cases c with
  | sum n f =>
    obtain ⟨e1,e2⟩:n=cnt s lo hi∧f=cQ (inL s lo hi):=hc
    have hin:inR lo hi x=true:=hin
    subst e1 e2
    have hsub:∀ q∈iQ r fan leaf lo hi (cnt s lo hi) (cQ (inL s lo hi)),q∈dV r fan leaf m:=fun q hq=>List.mem_flatMap.2 ⟨_,hp,hq⟩
    unfold iQ at hsub
    split at hsub
    ·rename_i he
     have e:=hN lo hi he.1 he.2
     exfalso
     have h1:x∈inL r lo hi↔x∈inL s lo hi:=by rw [e]
     rw [fR,fR] at h1
     rcases hx with ⟨a,b⟩ | ⟨a,b⟩
     ·exact b (h1.1 ⟨a,hin⟩).1
     ·exact b (h1.2 ⟨a,hin⟩).1
    ·split at hsub
     ·exact .inl ⟨_,hsub _ (List.mem_singleton.2 rfl),(fun xs ms e=>by cases e),hin⟩
     ·have hD:=yM (lo:=lo) (hi:=hi) hr (show 0 < (inL r lo hi).length by omega) hf
      obtain ⟨q,hq,hqi⟩:=hD.cover x hin
      refine .inl ⟨q,hsub q hq,fun xs ms e=>?_,hqi⟩
      rw [(hD.part q hq).1] at e
      cases e
  | list xs =>
    obtain rfl:xs=inL s lo hi:=hc
    rcases hx with ⟨a,b⟩ | ⟨a,b⟩
    ·exact .inr (.inr (List.mem_append_right _ (List.mem_flatMap.2 ⟨_,hp,mN.2 ⟨fR.2 ⟨a,hin⟩,fun h=>b (fR.1 h).1⟩⟩)))
    ·exact .inr (.inl (List.mem_append_right _ (List.mem_flatMap.2 ⟨_,hp,mN.2 ⟨fR.2 ⟨a,hin⟩,b⟩⟩)))
  | ans xs ms=>exact absurd rfl (hna xs ms)
 ·refine .inr (.inr ?_)
  rcases (hK.l1 x).1 hx1 with h1 | ⟨p,hp,xs,ms,hc,h1⟩
  ·exact List.mem_append_left _ h1
  ·refine List.mem_append_right _<|List.mem_flatMap.2 ⟨p,hp,?_⟩
   have hP:=hH.con p hp
   obtain ⟨lo,hi,c⟩:=p
   obtain rfl:c = .ans xs ms:=hc
   exact yI.2 ⟨h1,((hP.2 x).1 h1).1.1⟩
 ·refine .inr (.inl ?_)
  rcases (hK.l2 x).1 hx2 with h1 | ⟨p,hp,xs,ms,hc,h1⟩
  ·exact List.mem_append_left _ h1
  ·refine List.mem_append_right _<|List.mem_flatMap.2 ⟨p,hp,?_⟩
   have hP:=hH.con p hp
   obtain ⟨lo,hi,c⟩:=p
   obtain rfl:c = .ans xs ms:=hc
   exact mN.2 ⟨h1,((hP.1 x).1 h1).1.2⟩
end
section
variable {a b : List Bs} {fan leaf : Nat}
theorem VI (h:iT a b fan leaf) {j:Nat} (hj:j≤30):aI a b fan leaf ((j+1+1) % 2) (j+1)=((aI a b fan leaf (j % 2) j).1++(dQ a b fan leaf j).flatMap (iE (dY a b j)),(aI a b fan leaf (j % 2) j).2++(dQ a b fan leaf j).flatMap (iF (dY a b j)))∧aI a b fan leaf ((j+1) % 2) (j+1)=aI a b fan leaf ((j+1) % 2) j:=by
 have e:(j+1+1) % 2=j % 2:=om
 refine ⟨?_,?_⟩
 ·rw [e,aI,if_pos rfl,(BE h j hj).2]
 ·rw [aI,if_neg om]
theorem Ll (h:iT a b fan leaf):∀ j,j≤30→yQ (gY a b j) (dY a b j) (dQ a b fan leaf j) (aI a b fan leaf (j % 2) j) (aI a b fan leaf ((j+1) % 2) j)∧(¬ kJ a b→yR (gY a b j) (dY a b j) (dQ a b fan leaf j) (aI a b fan leaf ((j+1) % 2) j))
 | 0,_=>by
   refine ⟨⟨by simp [aI],by simp [aI],by simp [aI],by simp [aI],fun x=>?_,fun x=>?_⟩,fun _ x hx=>?_⟩
   ·simp [aI,dQ,dG]
   ·simp [aI,dQ,dG]
   ·exact .inl ⟨dG a [] [],by simp [dQ],(fun xs ms e=>by cases e),iD.2 ⟨yH x,.inl rfl⟩⟩
 | j+1,hj=>by
   obtain ⟨k1,k2⟩:=Ll h j om
   have hH:=(vV h j).hon
   have hr:=(h.side j).1.1
   obtain ⟨e1,e2⟩:=VI h (j:=j) om
   have em:dQ a b fan leaf (j+1)=dV (dY a b j) fan leaf (dQ a b fan leaf j):=rfl
   rw [Bz,BA,e1,e2,em]
   refine ⟨k1.step hr h.hf h.hl hH,fun hc=>yR.step hr h.hf h.hl hH ?_ k1 (k2 hc)⟩
   intro lo hi hcn hfp
   by_cases hpar:j % 2=0
   ·have e1:dY a b j=b:=if_pos hpar
    have e2:gY a b j=a:=if_pos hpar
    rw [e1,e2] at hcn hfp ⊢
    exact (Li h.ha.2 h.hb.2 hc hcn.symm hfp.symm).symm
   ·have e1:dY a b j=a:=if_neg hpar
    have e2:gY a b j=b:=if_neg hpar
    rw [e1,e2] at hcn hfp ⊢
    exact Li h.ha.2 h.hb.2 hc hcn hfp
theorem EP (h:iT a b fan leaf) {K:Nat} (hK:K≤30) (hm:dQ a b fan leaf K=[]) :
  (∀ x,x∈(aI a b fan leaf 1 K).1↔x∈(aI a b fan leaf 0 K).2)∧(∀ x,x∈(aI a b fan leaf 1 K).2↔x∈(aI a b fan leaf 0 K).1) ∧
  (∀ x∈(aI a b fan leaf 1 K).1,x∈b∧x∉a)∧(∀ x∈(aI a b fan leaf 1 K).2,x∈a∧x∉b) ∧
  (¬ kJ a b→(∀ x,x∈b→x∉a→x∈(aI a b fan leaf 1 K).1)∧∀ x,x∈a→x∉b→x∈(aI a b fan leaf 1 K).2):=by
 obtain ⟨k1,k2⟩:=Ll h K hK
 rw [hm] at k1 k2
 have l1:∀ x,x∈(aI a b fan leaf ((K+1) % 2) K).1↔x∈(aI a b fan leaf (K % 2) K).2:=fun x=>by rw [k1.l1 x]; simp
 have l2:∀ x,x∈(aI a b fan leaf ((K+1) % 2) K).2↔x∈(aI a b fan leaf (K % 2) K).1:=fun x=>by rw [k1.l2 x]; simp
 have hp:¬ kJ a b→∀ x,(x∈gY a b K∧x∉dY a b K∨x∈dY a b K∧x∉gY a b K)→x∈(aI a b fan leaf ((K+1) % 2) K).1∨x∈(aI a b fan leaf ((K+1) % 2) K).2:=fun hc x hx=>by
  rcases k2 hc x hx with ⟨p,hp,_⟩ | h
  ·cases hp
  ·exact h
 have r1:=k1.r1
 have r2:=k1.r2
 have s1:=k1.s1
 have s2:=k1.s2
 unfold gY dY at *
 by_cases hpar:K % 2=0
 ·have e:(K+1) % 2=1:=om
  rw [e,hpar] at l1 l2
  rw [e] at s1 s2 hp
  simp only [if_pos hpar] at s1 s2 hp
  refine ⟨l1,l2,s1,s2,fun hc=>⟨fun x h1 h2=>?_,fun x h1 h2=>?_⟩⟩
  ·rcases hp hc x (.inr ⟨h1,h2⟩) with h3 | h3
   ·exact h3
   ·exact absurd (s2 x h3).1 h2
  ·rcases hp hc x (.inl ⟨h1,h2⟩) with h3 | h3
   ·exact absurd (s1 x h3).1 h2
   ·exact h3
 ·have e:(K+1) % 2=0:=om
  have e1:K % 2=1:=om
  rw [e,e1] at l1 l2
  rw [e1] at r1 r2
  rw [e] at hp
  simp only [if_neg hpar] at r1 r2 hp
  refine ⟨fun x=>(l2 x).symm,fun x=>(l1 x).symm,r1,r2,fun hc=>⟨fun x h1 h2=>?_,fun x h1 h2=>?_⟩⟩
  ·rcases hp hc x (.inl ⟨h1,h2⟩) with h3 | h3
   ·exact absurd (r2 x ((l1 x).1 h3)).1 h2
   ·exact (l2 x).1 h3
  ·rcases hp hc x (.inr ⟨h1,h2⟩) with h3 | h3
   ·exact (l1 x).1 h3
   ·exact absurd (r1 x ((l2 x).1 h3)).1 h2
theorem Lm {l:List Bs} (h:fS l) (m:List Bs):fS (aH l m):=h.sublist List.filter_sublist
theorem ER (h:iT a b fan leaf) {K:Nat} (hK:K≤30) (hm:dQ a b fan leaf K=[]) (hc:¬ kJ a b):bA [] (aI a b fan leaf 1 K).2=aH a b∧bA [] (aI a b fan leaf 1 K).1=aH b a:=by
 obtain ⟨_,_,s1,s2,hp⟩:=EP h hK hm
 obtain ⟨p1,p2⟩:=hp hc
 refine ⟨yK (mO _) (Lm h.ha.2 _) fun x=>?_,yK (mO _) (Lm h.hb.2 _) fun x=>?_⟩
 ·rw [qD,mN]
  exact ⟨s2 x,fun hx=>p2 x hx.1 hx.2⟩
 ·rw [qD,mN]
  exact ⟨s1 x,fun hx=>p1 x hx.1 hx.2⟩
theorem ES (h:iT a b fan leaf) {K:Nat} (hK:K≤30) (hm:dQ a b fan leaf K=[]):bA [] (aI a b fan leaf 0 K).1=bA [] (aI a b fan leaf 1 K).2∧bA [] (aI a b fan leaf 0 K).2=bA [] (aI a b fan leaf 1 K).1:=by
 obtain ⟨l1,l2,_⟩:=EP h hK hm
 refine ⟨yK (mO _) (mO _) fun x=>?_,yK (mO _) (mO _) fun x=>?_⟩
 ·rw [qD,qD]; exact (l2 x).symm
 ·rw [qD,qD]; exact (l1 x).symm
theorem ET {α:Type} [DecidableEq α]:∀ {l m:List α},l.Nodup→(∀ x∈l,x∈m)→l.length≤m.length
 | [],_,_,_=>Nat.zero_le _
 | x::l,m,h,hs=>by
   obtain ⟨h1,h2⟩:=List.nodup_cons.1 h
   have hx:=hs x List.mem_cons_self
   have ih:=ET (m:=m.erase x) h2 fun y hy=>(List.mem_erase_of_ne (fun e=>h1 (by rw [← e]; exact hy))).2 (hs y (List.mem_cons_of_mem _ hy))
   rw [List.length_erase_of_mem hx] at ih
   have:=List.length_pos_of_mem hx
   rw [List.length_cons]
   omega
theorem Ln {l m:List Bs} (h:fS l) (hs:∀ x∈l,x∈m):l.length≤m.length:=ET (h.imp fun {x y} h e=>by subst e; exact iY h) hs
theorem EU (h:iT a b fan leaf) {K:Nat} (hK:K≤30) (hm:dQ a b fan leaf K=[]):(bA [] (aI a b fan leaf 1 K).2).length≤40∧(bA [] (aI a b fan leaf 1 K).1).length≤40:=by
 obtain ⟨_,_,s1,s2,_⟩:=EP h hK hm
 exact ⟨Nat.le_trans (Ln (mO _) fun x hx=>(s2 x (qD.1 hx)).1) h.ha4,Nat.le_trans (Ln (mO _) fun x hx=>(s1 x (qD.1 hx)).1) h.hb4⟩
end
end
section
section
variable {a b : List Bs}
theorem VJ {n:Nat} (h:n≤24):iP 4 4 n≤2:=by
 have h1:=yO (fan:=4) (leaf:=4) (by decide) (by decide) n 24 h
 have h2:iP 4 4 24=2:=by
  rw [sP om om om,sP om om om,Aq om]
 omega
theorem Lo (h:iT a b 4 4) (ha:a.length≤24) (hb:b.length≤24) {j:Nat} (hj:j≤7):(bE a b 4 4 j).length≤57700:=by
 rw [(BE h j om).1]
 have hi:=vV h j
 have h1:=hi.len
 have h2:=EN hi.enc
 have h3:=hi.wt a
 have h4:=hi.wt b
 have h5:=KM (dQ a b 4 4 j) om
 omega
theorem Lp (h:iT a b 4 4) (ha:a.length≤24) (hb:b.length≤24):∃ K,qE a b 4 4 K∧1≤K∧K≤7∧dQ a b 4 4 K=[]:=by
 obtain ⟨K,h1,h2,h3,h4,_⟩:=Lb h
 have:=VJ (n:=max a.length b.length) om
 exact ⟨K,h1,h2,om,h4⟩
theorem VK (h:kJ b a):kJ a b:=by
 obtain ⟨i,j,k,h1,h2,h3,h4,h5,h6⟩:=h
 have e:i+(k+j - i) - k=j:=om
 exact ⟨k,k+j - i,i,om,h4,om,by rw [e]; exact h2,by rw [e]; exact fun e=>h5 e.symm,by rw [e]; exact h6.symm⟩
theorem vW (l:List Bs):cK l l=l:=List.filter_eq_self.2 fun x hx=>by simpa using hx
theorem Lq (h:iT a b 4 4) {K:Nat} (hK:K≤30) (hm:dQ a b 4 4 K=[]) :
  cK (bA [] (aI a b 4 4 1 K).2) (bA [] (aI a b 4 4 0 K).1)=bA [] (aI a b 4 4 1 K).2∧cK (bA [] (aI a b 4 4 0 K).2) (bA [] (aI a b 4 4 1 K).1)=bA [] (aI a b 4 4 0 K).2 ∧
  ((bA [] (aI a b 4 4 1 K).2=aH a b∧bA [] (aI a b 4 4 0 K).2=aH b a)∨kJ a b):=by
 obtain ⟨e1,e2⟩:=ES h hK hm
 refine ⟨by rw [e1,vW],by rw [e2,vW],?_⟩
 by_cases hc:kJ a b
 ·exact .inr hc
 ·obtain ⟨x,y⟩:=ER h hK hm hc
  exact .inl ⟨x,by rw [e2,y]⟩
end
end
def iG (t : BT) (l : List Bs) : BT := l.foldl (fun t x => t.change x (-1)) t
theorem Lr (t:BT) (l:List Bs) (x:Bs):iG t (l++[x])=(iG t l).change x (-1):=by simp [iG]
theorem Ls:∀ (l:List Bs) (t:BT),(∀ x∈l,x.length=32)→jK t (mU l)=bI t l
 | [],_,_=>rfl
 | x::l,t,h=>by
   have e:gK t (x,false)=t.change x 1:=by unfold gK; simp [h x si]
   show jK (gK t (x,false)) (mU l)=bI (t.change x 1) l
   rw [e]
   exact Ls l _ fun y hy=>h y (by simp [hy])
theorem Lt:∀ (l:List Bs) (t:BT),(∀ x∈l,x.length=32)→jK t (nL l)=iG t l
 | [],_,_=>rfl
 | x::l,t,h=>by
   have e:gK t (x,true)=t.change x (-1):=by unfold gK; simp [h x si]
   show jK (gK t (x,true)) (nL l)=iG (t.change x (-1)) l
   rw [e]
   exact Lt l _ fun y hy=>h y (by simp [hy])
theorem Lu {t:BT} (h:t.Ok) {a b:List Bs} (hk:t.keys=some (a,b)):iG (bI (BT.new t.cells.length t.seed) a) b=t:=by
 obtain ⟨⟨_,h1⟩,_,h2⟩:=EO h hk
 rw [← Lt b _ h2,← Ls a _ h1]
 exact Qp h hk
theorem VL {n:Nat} (h:n < 256):nm n=UInt8.ofNat n::UInt8.ofNat (n*7 % 256)::List.replicate 30 0:=by
 have e:=JN h
 have e1:(n+256*(7*n % 256)) % 256=n:=om
 have e2:(n+256*(7*n % 256)) / 256=n*7 % 256:=om
 unfold nm kk
 rw [e,e2,← Eu (n+256*(7*n % 256)),e1]
def fT (l : List UInt8) (k : Nat) : List Nat := (List.range k).filter fun n => l.contains (UInt8.ofNat n)
theorem yS (l:List UInt8):fZ (fT l 256):=⟨fun _n hn=>List.mem_range.1 (List.mem_filter.1 hn).1,List.pairwise_lt_range.filter _⟩
theorem Lv (l:List UInt8):(fT l 256).length≤l.length:=by
 have h1:((fT l 256).map UInt8.ofNat).Nodup:=by
  refine List.pairwise_map.2<|List.Pairwise.imp_of_mem (fun {a b} ha hb hab e=>?_) (yS l).asc
  have h1:=Ex e
  have h2:=(yS l).lt a ha
  have h3:=(yS l).lt b hb
  omega
 have h2:=ET h1 (m:=l) fun x hx=>by
  obtain ⟨n,hn,rfl⟩:=List.mem_map.1 hx
  simpa using (List.mem_filter.1 hn).2
 rwa [List.length_map] at h2
theorem VM {l:List UInt8} {k:Nat} (h:l.contains (UInt8.ofNat k)=true):fT l (k+1)=fT l k++[k]:=by
 unfold fT
 rw [List.range_succ,List.filter_append,List.filter_cons,if_pos h,List.filter_nil]
theorem VN {l:List UInt8} {k:Nat} (h:l.contains (UInt8.ofNat k)=false):fT l (k+1)=fT l k:=by
 unfold fT
 rw [List.range_succ,List.filter_append,List.filter_cons,if_neg (by rw [h]; decide),List.filter_nil,List.append_nil]
def kK (l : List UInt8) : List Bool := (List.range 256).map fun n => l.contains (UInt8.ofNat n)
theorem yT (l:List UInt8):(kK l).length=256:=by rw [kK,List.length_map,List.length_range]
theorem EV {l:List UInt8} {k:Nat} (h:k < 256):(kK l)[k]?=some (l.contains (UInt8.ofNat k)):=by
 rw [kK,List.getElem?_map,List.getElem?_range h]
 rfl
theorem VO {l:List UInt8} {i:Nat} {x:UInt8} (h:l[i]?=some x):(kK (l.take i)).set x.toNat true=kK (l.take (i+1)):=by
 refine List.ext_getElem? fun k=>?_
 by_cases hk:k < 256
 ·rw [EV hk,List.take_add_one,h,Option.toList_some]
  by_cases hx:x.toNat=k
  ·subst hx
   rw [List.getElem?_set_self (by rw [yT]; exact hk),UInt8.ofNat_toNat]
   simp
  ·rw [List.getElem?_set_ne hx,EV hk]
   congr 1
   have hne:UInt8.ofNat k≠x:=fun e=>hx (by rw [← e,UInt8.toNat_ofNat',Nat.mod_eq_of_lt (show k < 2 ^ 8 from hk)])
   simp [hne]
 ·rw [List.getElem?_eq_none (by rw [List.length_set,yT]; omega),List.getElem?_eq_none (by rw [yT]; omega)]
theorem Lw {A B:List Nat} (hA:fZ A) (hB:fZ B):aH (A.map nm) (B.map nm)=(dP A B).map nm:=by
 unfold aH dP
 rw [List.filter_map]
 congr 1
 refine List.filter_congr fun n hn=>?_
 have:=BF hB.lt (hA.lt n hn)
 simp only [Function.comp]
 cases h:B.contains n with
 | true=>rw [List.contains_iff_mem.2 (this.2 (List.contains_iff_mem.1 h))]
 | false =>
   rw [Bool.not_eq_eq_eq_not,Bool.not_not,Bool.eq_false_iff,ne_eq,List.contains_iff_mem,this,← List.contains_iff_mem,h]
   decide
section
abbrev jC (l : List Bool) : List Value := l.map Value.bool
theorem BG (l:List UInt8):(jC (kK l)).length=256:=by rw [jC,List.length_map,yT]
theorem VP (l:List Bool):∀ v∈jC l,v.oneCell'=true:=fun v hv=>by
 obtain ⟨x,_,rfl⟩:=List.mem_map.1 hv
 rfl
theorem Lx (x:Nat):IntKind.u8.wrap (x:Int)=((x % 256:Nat):Int):=by
 simp [IntKind.wrap,IntKind.signed,IntKind.bits]
theorem VQ {x:Nat} (h:x < 256):IntKind.u8.wrap (x:Int)=(x:Int):=by rw [Lx,Nat.mod_eq_of_lt h]
theorem VR {x:Nat} (h:x < 256):(B8 (List.replicate 32 0)).set 0 (.int .u8 ((x:Nat):Int))=B8 (UInt8.ofNat x::List.replicate 31 0):=by
 have e:(UInt8.ofNat x).toNat=x:=by rw [UInt8.toNat_ofNat',Nat.mod_eq_of_lt (show x < 2 ^ 8 from h)]
 simp [B8,List.replicate_succ,e]
theorem VS {x y:Nat} (h:y < 256):(B8 (UInt8.ofNat x::List.replicate 31 0)).set 1 (.int .u8 ((y:Nat):Int))=B8 (UInt8.ofNat x::UInt8.ofNat y::List.replicate 30 0):=by
 have e:(UInt8.ofNat y).toNat=y:=by rw [UInt8.toNat_ofNat',Nat.mod_eq_of_lt (show y < 2 ^ 8 from h)]
 simp [B8,List.replicate_succ,e]
section
variable {P : Program} {Q : Exit → Act → World → Prop} {n : Nat} {w0 : World} {F : List Nat} {E : cH} {cs : List Ch} {K : Act → World → Prop} {o : Oper} {d : Nat}
theorem VT {t e:TypeId} {z:Value} {bt:Nat} (El:mD P t e z 1 bt) {x y:Operand} (m:Nat) (hn:m≤4294967296) (l:List Value) (ho:o.op = .makeSlice t x y) (hd:o.dst=some d) (hk:bK n E o=true) (hx:aN E x=some (vI m)) (hy:aN E y=some (vI m)) (hz:z.cells = #[z]) (hl:List.replicate m z=l)
  (h:∀ b,St n w0 F ((d,.slice (some ⟨b,0,none⟩) m m)::E) (cs++[aB b e l]) K):cM P Q n w0 F E cs o K :=
 nE hd hk fun w hM=>by
  obtain ⟨i,hi,hiz,hsz,hby⟩:=info_parts El.hi
  have hm:bt*m≤1024*4294967296:=Nat.mul_le_mul El.hb hn
  have hr:=run_make (P:=P) w t e i z El.ht hi hiz .i64 .i64 ((m:Nat):Int) ((m:Nat):Int) om om (by rw [hby,← Int.natCast_mul]; omega) om
  rw [hsz,Int.toNat_natCast,Nat.mul_one,hz] at hr
  have hl2:madeCells #[z] m=l.toArray:=by apply Array.ext'; rw [toList_madeCells_one,hl]
  rw [hl2] at hr
  refine ⟨_,_,_,?_,hM.push (c:=aB w.heap.size e l) ((Fr.refl _ _).alloc _) (At.new w e _) (by simp [aB]) (by simp [aB]),h w.heap.size⟩
  unfold execOp
  simp only [ho,bL hx,bL hy,Sem.run_bind,hr]
  rfl
theorem VU {ty t:TypeId} {x:Operand} {b j:Nat} {v:Bool} {l:List Bool} (i:Nat) (ho:o.op = .load ty x) (hx:aN E x=some (vP b (0+j))) (hs:nI P ty=true) (hi:cs[i]?=some (aB b t (jC l))) (hj:l[j]?=some v):cJ P w0 F cs E o (.bool v):=by
 refine eT i ho hx hs hi ?_
 rw [Nat.zero_add,List.getElem?_map,hj]
 rfl
theorem VV {ty t:TypeId} {x y:Operand} {b j:Nat} {v:Bool} {l:List Bool} (i:Nat) (l':List Bool) (ho:o.op = .store ty x y) (hd:o.dst=none) (hk:bK n E o=true) (hx:aN E x=some (vP b (0+j))) (hy:aN E y=some (.bool v)) (hsz:fO P ty=some 1) (hi:cs[i]?=some (aB b t (jC l))) (hj:j < l.length) (hl:l.set j v=l')
  (h:St n w0 F E (cs.set i (aB b t (jC l'))) K):cM P Q n w0 F E cs o K:=by
 refine nJ i ho hd hk hx hy rfl hsz hi (by rw [List.length_map]; omega) ?_
 have e:(jC l).set (0+j) (.bool v)=jC l':=by rw [Nat.zero_add,← hl,jC,jC,List.map_set]
 rw [e]
 exact h
end
theorem VW (x y:Nat) (w:World) (hx:x < 256) (hy:y < 256) :
  Calls Tryz.prog 21 #[(.int .u8 ((x:Nat):Int)),(.int .u8 ((y:Nat):Int))] w fun e w'=>e = .returned (vS (UInt8.ofNat x::UInt8.ofNat y::List.replicate 30 0))∧aK [] w [] w':=by
 refine bG Tryz.func21 15 (Mm.start w []) rfl<|Nc<|lx rfl<|Nb<|Nx<|VT jE 32 om (B8 (List.replicate 32 0)) rfl rfl kr rfl rfl rfl rfl (fun b6=>lx rfl<|Nb<|lx rfl<|lw (vP b6 0) (Ck (e:=5) rfl kr kr rfl rfl (show 0 < 32 by decide))<|Nx<|nJ 0 rfl rfl kr rfl rfl rfl kr rfl (by simp [B8]) ?_)
 refine St.to [aB b6 5 (B8 (UInt8.ofNat x::List.replicate 31 0))] (by rw [VR hx]; rfl)<|lw (vP b6 1) (Ck (e:=5) rfl kr kr rfl rfl (show 1 < 32 by decide))<|Nx<|nJ 0 rfl rfl kr rfl rfl rfl kr rfl (by simp [B8]) ?_
 exact St.to [aB b6 5 (B8 (UInt8.ofNat x::UInt8.ofNat y::List.replicate 30 0))] (by rw [VS hy]; rfl)<|Nb<|lx rfl<|lw (vS (UInt8.ofNat x::UInt8.ofNat y::List.replicate 30 0)) (nK (e:=5) (UInt8.ofNat x::UInt8.ofNat y::List.replicate 30 0) rfl kr kr kr rfl rfl (fun w hM=>Gn (hM.at (i:=0) rfl) rfl))<|lx rfl<|Nd<|sN [(vS (UInt8.ofNat x::UInt8.ofNat y::List.replicate 30 0))] fun w hM=>⟨rfl,(hM.pick [] rfl rfl)⟩
theorem Ly (A:Option Addr) (c:Nat) (l:List UInt8) (w:World) (r0:Rf [] w (fun w=>aF w A (B8 l))) (hl:l.length≤9223372036854775807) :
  Calls Tryz.prog 5 #[(vL A l c)] w fun e w'=>∃ (B:Option Addr) (cb:Nat),e = .returned (vL B ((fT l 256).map nm) cb)∧aK [] w [cS B (((fT l 256).map nm)) cb] w':=by
 refine eH Tryz.func5 36 (Mm.start w []) rfl<|Nc<|lx rfl<|Nb<|lk (.agg (jC (kK [])).toArray)<|Nx<|pA (jC (kK [])) fun b3=>Nx<|oE 0 (jC (kK [])) (vs:=jC (kK [])) rfl rfl kr rfl rfl rfl (by rw [BG]; kernel_rfl) rfl (by rw [BG]; decide) (VP _) (by rw [List.take_zero,List.nil_append,BG,List.drop_of_length_le (by rw [BG]; omega),List.append_nil]) ?_
 refine Ne<|lx rfl<|lk (vI l.length)<|lx rfl<|Ng<|sL (fun i=>i≤l.length) (fun i=>l.length - i) (fun i=>[(2,nS),(3,(vP b3 0)),(9,(vL A l c)),(10,(vI l.length)),(11,(vI i))]) (fun i=>[aB b3 52 (jC (kK (l.take i)))]) 0 (Nat.zero_le _) (fun _ h=>h) ?_
 intro i hok
 show St _ _ _ [(2,nS),(3,(vP b3 0)),(9,(vL A l c)),(10,(vI l.length)),(11,(vI i))] [aB b3 52 (jC (kK (l.take i)))] _
 refine Nc<|lk (.bool (decide (((i:Nat):Int) < ((l.length:Nat):Int)))) ?_
 refine aS (aJ (aQ (bR rfl (fun hc12=>?_) (fun hc12=>?_))))
 ·have hd12:=of_decide_eq_true hc12
  refine Nm<|aE ?_
  obtain ⟨x0,hx0⟩:∃ ξ,(l)[i]?=some ξ:=⟨_,List.getElem?_eq_getElem om⟩
  refine St.eE (fun w hM=>r0.now hM) (NR hx0) (fun p13 q13 hA13 hc13=>lw (vP p13 (q13+i)) (rR 5 hA13)<|lW (rW hc13)<|lx rfl<|Nv<|lx rfl<|lw (vP b3 (0+x0.toNat)) (oF (e:=4) rfl kr kr rfl rfl (show x0.toNat < 256 from x0.toNat_lt))<|Nx<|VV 0 (kK (l.take (i+1))) rfl rfl kr rfl rfl kr rfl (by rw [yT]; exact x0.toNat_lt) (VO hx0) ?_)
  exact Nk<|aE<|lw (vI (i+1)) bJ<|lx rfl<|aS (aJ (sA (i+1) (by show _≤_; omega) (by show l.length - (i+1) < l.length - i; omega) (fun w hM=>hM)))
 ·have hd12:=of_decide_eq_false hc12
  obtain rfl:i=l.length:=om
  rw [List.take_length]
  refine Nj<|aE<|Nx<|pN 0 9 [] fun b18=>St.mem (fun w hM=>hM.BQ 1 rfl 1)<|lx rfl<|Ne<|lx rfl<|Ng<|sL (fun (n,B,cb)=>n≤256) (fun (n,B,cb)=>256 - n) (fun (n,B,cb)=>[(2,nS),(3,(vP b3 0)),(6,(vL B ((fT l n).map nm) cb)),(7,(vI n))]) (fun (n,B,cb)=>[aB b3 52 (jC (kK l)),cS B ((fT l n).map nm) cb]) (0,(some ⟨b18,0,none⟩),0) om (fun w hM=>by show Mm _ _ [aB b3 52 (jC (kK l)),cS (some ⟨b18,0,none⟩) ((fT l 0).map nm) 0] w; exact hM) ?_
  rintro ⟨n,B,cb⟩ (hok:n≤256)
  dsimp only
  refine Ny<|lx rfl<|lk (.bool (decide (((n:Nat):Int) < 256))) ?_
  refine aS (aJ (bR rfl (fun hc20=>?_) (fun hc20=>?_)))
  ·have hd20:=of_decide_eq_true hc20
   have hn:n < 256:=om
   have hsl:(fT l n).length≤256:=Nat.le_trans (List.length_filter_le _ _) (by rw [List.length_range]; omega)
   refine Nm<|aE<|lx rfl<|lw (vP b3 (0+n)) (oF (e:=4) rfl kr kr rfl rfl hn)<|lw (.bool (l.contains (UInt8.ofNat n))) (VU 0 rfl rfl kr rfl (EV hn)) ?_
   refine aS (aJ (bR rfl (fun hc25=>?_) (fun hc25=>?_)))
   ·refine aE<|lx rfl<|lw (.int .u8 ((n:Nat):Int)) (jH _ (fun _=>kr) rfl rfl (VQ hn))<|lx rfl<|lw (vI (n*7)) (Gh _ rfl rfl rfl om om om)<|lw (.int .u8 (((n*7 % 256):Nat):Int)) (jH _ (fun _=>kr) rfl rfl (Lx _))<|Nx<|bN (fun w hM=>VW n (n*7 % 256) w om om) ?_
    rw [show UInt8.ofNat n::UInt8.ofNat (n*7 % 256)::List.replicate 30 0=nm n from (VL hn).symm]
    refine Nx<|pN 1 9 [(vS (nm n))] fun b33=>Nx<|fJ kB 1 ([(vS (nm n))]) rfl rfl kr rfl rfl rfl (rfl) (kA (i:=2) rfl (fun j v h=>by rw [Nat.zero_add]; exact h)) (by simp [Value.oneCell']) (by rw [List.length_map]; omega) (((fT l n).map nm++[(nm n)]).length) fN (SS ((fT l n).map nm++[(nm n)])) (by simp [SS]) (fun A34 c34=>lx rfl<|Nk<|aE<|lx rfl<|lw (vI (n+1)) bJ<|lx rfl<|Na ?_)
    rw [show (fT l n).map nm++[(nm n)]=(fT l (n+1)).map nm from by rw [VM hc25,List.map_append]; rfl]
    exact sA (n+1,A34,c34) (by show _≤_; omega) (by show 256 - (n+1) < 256 - n; omega) (fun w hM=>(hM.pick [0,1] rfl rfl))
   ·refine Nw<|aE<|lx rfl<|lw (vI (n+1)) bJ<|lx rfl<|Na ?_
    rw [show (fT l n).map nm=(fT l (n+1)).map nm from by rw [VN hc25]]
    exact sA (n+1,B,cb) (by show _≤_; omega) (by show 256 - (n+1) < 256 - n; omega) (fun w hM=>hM)
  ·have hd20:=of_decide_eq_false hc20
   obtain rfl:n=256:=om
   exact Nj<|aE<|lx rfl<|Nd<|sN [(vL B ((fT l 256).map nm) cb)] fun w hM=>⟨B,cb,rfl,(hM.pick [1] rfl rfl)⟩
end
def oZ (a b : List Bs) (i j k n : Nat) : Prop := i ≤ j ∧ j ≤ a.length ∧ k ≤ n ∧ n ≤ b.length ∧ dX a i j ≠ dX b k n ∧ cQ (dX a i j) = cQ (dX b k n)
theorem VX {a b:List Bs} (h:kJ a b):∃ i j k,i≤a.length∧oZ a b i j k (k+j - i):=by
 obtain ⟨i,j,k,h1,h2,h3,h4,h5,h6⟩:=h
 exact ⟨i,j,k,om,h1,h2,om,h4,h5,h6⟩
theorem VY {a b:List Bs} {i j k n:Nat} (h:oZ a b i j k n) (hc:(!decide (dX a i j=dX b k n) && decide (cQ (dX a i j)=cQ (dX b k n)))=false):False:=by
 rw [decide_eq_false h.2.2.2.2.1,decide_eq_true h.2.2.2.2.2] at hc
 cases hc
theorem Lz {l:List Bs} (h:bH l) (i j:Nat):bH (dX l i j):=⟨fun x hx=>h.1 x (List.mem_of_mem_take (List.mem_of_mem_drop hx)),h.2.sublist ((List.drop_sublist ..).trans (List.take_sublist ..))⟩
theorem LA (l:List Bs) (i j:Nat):(dX l i j).length≤l.length:=by unfold dX; rw [List.length_drop,List.length_take]; omega
theorem LB (A:Option Addr) (c:Nat) (l:List (List UInt8)) (A2:Option Addr) (c2:Nat) (m:List (List UInt8)) (w:World) (r0:Rf [] w (fun w=>aF w A (SS l))) (r1:Rf [] w (fun w=>aF w A2 (SS m))) (hl:l.length≤1000000) (hl2:m.length≤1000000) (h32:∀ x∈l,x.length≤1000) (h322:∀ x∈m,x.length≤1000) :
  Calls Tryz.prog 6 #[(vL A l c),(vL A2 m c2)] w fun e w'=>∃ (B:Option Addr) (cb:Nat),e = .returned (vL B (aH l m) cb)∧aK [] w [cS B (aH l m) cb] w':=by
 refine bG Tryz.func6 38 (Mm.start w []) rfl<|Nc<|lx rfl<|Nb<|Nx<|mS rfl rfl kr (fun m11=>lx rfl<|Ne<|lx rfl<|lk (vI m.length)<|lx rfl<|Ng<|sL (fun i=>i≤m.length) (fun i=>m.length - i) (fun i=>[(0,(vL A l c)),(4,nS),(5,(.map (some m11))),(12,(vL A2 m c2)),(13,(vI m.length)),(14,(vI i))]) (fun i=>[aM m11 (m.take i)]) 0 (Nat.zero_le _) (fun _ h=>h) ?_)
 intro i hok
 show St _ _ _ [(0,(vL A l c)),(4,nS),(5,(.map (some m11))),(12,(vL A2 m c2)),(13,(vI m.length)),(14,(vI i))] [aM m11 (m.take i)] _
 refine Nc<|lk (.bool (decide (((i:Nat):Int) < ((m.length:Nat):Int)))) ?_
 refine aS (aJ (aQ (bR rfl (fun hc15=>?_) (fun hc15=>?_))))
 ·have hd15:=of_decide_eq_true hc15
  refine Nm<|aE ?_
  obtain ⟨x0,hx0⟩:∃ ξ,(m)[i]?=some ξ:=⟨_,List.getElem?_eq_getElem om⟩
  refine St.eE (fun w hM=>r1.now hM) (eG hx0) (fun p16 q16 hA16 hc16=>lw (vP p16 (q16+i)) (rR 9 hA16)<|lW (rW hc16)<|lx rfl<|Nv<|lx rfl<|Nx<|Af 0 rfl rfl kr rfl rfl rfl rfl (by have:=h322 x0 (List.mem_of_getElem? hx0); omega) (by rw [List.length_take]; omega)<|Nk<|aE<|lw (vI (i+1)) bJ<|lx rfl<|Na ?_)
  rw [show m.take i++[x0]=m.take (i+1) from (by rw [List.take_add_one,hx0]; rfl)]
  exact sA (i+1) (by show _≤_; omega) (by show m.length - (i+1) < m.length - i; omega) (fun w hM=>hM)
 ·have hd15:=of_decide_eq_false hc15
  obtain rfl:i=m.length:=om
  rw [List.take_length]
  refine Nj<|aE<|Nx<|pN 0 9 [] fun b21=>St.mem (fun w hM=>hM.BQ 1 rfl 1)<|lx rfl<|Ne<|lx rfl<|lk (vI l.length)<|lx rfl<|Ng<|sL (fun (i,B,cb)=>i≤l.length) (fun (i,B,cb)=>l.length - i) (fun (i,B,cb)=>[(4,nS),(5,(.map (some m11))),(22,(vL A l c)),(23,(vI l.length)),(8,(vL B (aH (l.take i) m) cb)),(24,(vI i))]) (fun (i,B,cb)=>[aM m11 (m),cS B (aH (l.take i) m) cb]) (0,(some ⟨b21,0,none⟩),0) (Nat.zero_le _) (fun w hM=>by show Mm _ _ [aM m11 (m),cS (some ⟨b21,0,none⟩) (aH (l.take 0) m) 0] w; exact hM) ?_
  rintro ⟨i,B,cb⟩ (hok:i≤l.length)
  dsimp only
  refine Nc<|lk (.bool (decide (((i:Nat):Int) < ((l.length:Nat):Int)))) ?_
  refine aS (aJ (aQ (bR rfl (fun hc25=>?_) (fun hc25=>?_))))
  ·have hd25:=of_decide_eq_true hc25
   refine Nm<|aE ?_
   obtain ⟨x0,hx0⟩:∃ ξ,(l)[i]?=some ξ:=⟨_,List.getElem?_eq_getElem om⟩
   refine St.eE (fun w hM=>r0.now hM) (eG hx0) (fun p26 q26 hA26 hc26=>lw (vP p26 (q26+i)) (rR 9 hA26)<|lW (rW hc26)<|lx rfl<|Nb<|lx rfl<|lw (.bool (m.contains x0)) (Hc 0 rfl rfl rfl rfl (by have:=h32 x0 (List.mem_of_getElem? hx0); omega))<|lk (.bool (!(m.contains x0))) ?_)
   refine aS (aJ (bR rfl (fun hc31=>?_) (fun hc31=>?_)))
   ·refine aE<|lx rfl<|Nx<|pN 1 9 [(vS x0)] fun b34=>Nx<|fJ kB 1 ([(vS x0)]) rfl rfl kr rfl rfl rfl (rfl) (kA (i:=2) rfl (fun j v h=>by rw [Nat.zero_add]; exact h)) (by simp [Value.oneCell']) (by have h:=jL (l.take i) m; simp only [List.length_take] at h; omega) ((aH (l.take i) m++[x0]).length) fN (SS (aH (l.take i) m++[x0])) (by simp [SS]) (fun A35 c35=>lx rfl<|Nk<|aE<|lw (vI (i+1)) bJ<|lx rfl<|Na ?_)
    rw [show aH (l.take i) m++[x0]=aH (l.take (i+1)) m from xI hx0 (by simpa using hc31)]
    exact sA (i+1,A35,c35) (by show _≤_; omega) (by show l.length - (i+1) < l.length - i; omega) (fun w hM=>(hM.pick [0,1] rfl rfl))
   ·refine Nw<|aE<|lw (vI (i+1)) bJ<|lx rfl<|Na ?_
    rw [show aH (l.take i) m=aH (l.take (i+1)) m from xJ hx0 (by simpa using hc31)]
    exact sA (i+1,B,cb) (by show _≤_; omega) (by show l.length - (i+1) < l.length - i; omega) (fun w hM=>hM)
  ·have hd25:=of_decide_eq_false hc25
   obtain rfl:i=l.length:=om
   rw [List.take_length]
   exact Nj<|aE<|lx rfl<|Nd<|sN [(vL B (aH l m) cb)] fun w hM=>⟨B,cb,rfl,(hM.pick [1] rfl rfl)⟩
theorem tM (A:Option Addr) (c:Nat) (l:List (List UInt8)) (A2:Option Addr) (c2:Nat) (m:List (List UInt8)) (w:World) (r0:Rf [] w (fun w=>aF w A (SS l))) (r1:Rf [] w (fun w=>aF w A2 (SS m))) (hl:l.length≤68719476736) (hl2:m.length≤68719476736) :
  Calls Tryz.prog 9 #[(vL A l c),(vL A2 m c2)] w fun e w'=>e = .returned (.bool (decide (l=m)))∧aK [] w [] w':=by
 refine bG Tryz.func9 26 (Mm.start w []) rfl<|Nc<|lx rfl<|Ne<|lx rfl<|lk (vI l.length)<|lx rfl<|lk (vI m.length)<|lk (.bool ((((l.length:Nat):Int):Int) != ((m.length:Nat):Int))) ?_
 refine aS (aJ (bR rfl (fun hc10=>?_) (fun hc10=>?_)))
 ·exact Nc<|lx rfl<|Nh<|sN [bF] fun w hM=>⟨eM (by have hne:l≠m:=(fun h=>by subst h; simp at hc10); exact (decide_eq_false hne).symm),hM⟩
 ·have hlen:l.length=m.length:=by simp at hc10; omega
  refine Nl<|Nc<|lx rfl<|lk (vI l.length)<|lx rfl<|Ng<|sL (fun i=>i≤l.length∧l.take i=m.take i) (fun i=>l.length - i) (fun i=>[(0,(vL A l c)),(1,(vL A2 m c2)),(4,bF),(12,(vI l.length)),(13,(vI i))]) (fun i=>[]) 0 ⟨Nat.zero_le _,rfl⟩ (fun _ h=>h) ?_
  intro i hok
  show St _ _ _ [(0,(vL A l c)),(1,(vL A2 m c2)),(4,bF),(12,(vI l.length)),(13,(vI i))] [] _
  refine Nc<|lk (.bool (decide (((i:Nat):Int) < ((l.length:Nat):Int)))) ?_
  refine aS (aJ (aQ (bR rfl (fun hc14=>?_) (fun hc14=>?_))))
  ·have hd14:=of_decide_eq_true hc14
   refine Nm<|aE<|lx rfl<|Nf<|dN [] 9 kr (fun _ h=>h)<|am 0 ?_
   refine am 1 ?_
   obtain ⟨x0,hx0⟩:∃ ξ,(l)[i]?=some ξ:=⟨_,List.getElem?_eq_getElem om⟩
   refine Any.eE (fun w hM=>r0.now hM) (eG hx0) (fun p18 q18 hA18 hc18=>aV 2 (vP p18 (q18+i)) rfl (rR 9 hA18)<|aV 3 _ rfl (rW hc18)<|am 4 ?_)
   refine am 5 ?_
   obtain ⟨x1,hx1⟩:∃ ξ,(m)[i]?=some ξ:=⟨_,List.getElem?_eq_getElem om⟩
   refine Any.eE (fun w hM=>r1.now hM) (eG hx1) (fun p22 q22 hA22 hc22=>aV 6 (vP p22 (q22+i)) rfl (rR 9 hA22)<|aV 7 _ rfl (rW hc22)<|aV 8 (.bool (!decide (x0=x1))) rfl (wO rfl rfl rfl)<|dO kr ?_)
   refine aJ (bR rfl (fun hc24=>?_) (fun hc24=>?_))
   ·exact Nc<|lx rfl<|Nd<|gB<|eA<|eA<|gB<|eA<|sN [bF] fun w hM=>⟨eM (by have hne:l≠m:=(fun h=>by subst h; rw [hx0] at hx1; cases hx1; simp at hc24); exact (decide_eq_false hne).symm),hM⟩
   ·exact Nw<|aE<|lw (vI (i+1)) bJ<|lx rfl<|aS (aJ (sA (i+1) (⟨om,QO hx0 hx1 hok.2 (by simpa using hc24)⟩) (by show l.length - (i+1) < l.length - i; omega) (fun w hM=>hM)))
  ·have hd14:=of_decide_eq_false hc14
   exact Nj<|aE<|lx rfl<|Nd<|sN [bT] fun w hM=>⟨eM (by have h:=hok.2; rw [List.take_of_length_le om,List.take_of_length_le om] at h; exact (decide_eq_true h).symm),hM⟩
theorem VZ (A:Option Addr) (c:Nat) (l:List (List UInt8)) (A2:Option Addr) (c2:Nat) (m:List (List UInt8)) (w:World) (r0:Rf [] w (bW)) (r1:Rf [] w (fun w=>aF w A (SS l))) (r2:Rf [] w (fun w=>aF w A2 (SS m))) (hsl:bH l) (hsm:bH m) (hl:l.length≤1000) (hl2:m.length≤1000) :
  Calls Tryz.prog 33 #[(vL A l c),(vL A2 m c2)] w fun e w'=>e = .returned (.bool (!decide (l=m) && decide (cQ l=cQ m)))∧aK [] w [] w':=by
 refine bG Tryz.func33 36 (Mm.start w []) rfl<|Nc<|lx rfl<|Nf ?_
 have hel:fC l=0:=lS om hsl
 have hem:fC m=0:=lS om hsm
 refine aE<|lx rfl<|Nx<|bN (fun w hM=>sS A c l w (r0.aO hM) (r1.aO hM) om (hel) om)<|lx rfl<|Nb<|lx rfl<|Nx<|bN (fun w hM=>sS A2 c2 m w (r0.aO hM) (r2.aO hM) om (hem) om)<|lx rfl<|Nb<|lx rfl<|Nx<|bN (fun w hM=>tM A c l A2 c2 m w (r1.aO hM) (r2.aO hM) om om)<|lk (.bool (!(decide (l=m))))<|lm ?_
 refine St.dec 23 rfl (fun hc23=>?_) (fun hc23=>?_)
 ·exact lx rfl<|lg bT<|lT<|lx rfl<|lg bT<|lT<|lx rfl<|lu (.bool (decide ((cQ l)=(cQ m)))) (oG rfl rfl rfl)<|lk (.bool (decide ((cQ l)=(cQ m))))<|lx rfl<|Nd<|sN [(.bool (decide ((cQ l)=(cQ m))))] fun w hM=>⟨eM (by rw [hc23]; rfl),hM⟩
 ·exact lx rfl<|lF<|lx rfl<|lF<|lx rfl<|lF<|lx rfl<|Nd<|sN [bF] fun w hM=>⟨eM (by rw [hc23]; rfl),hM⟩
theorem BH (A:Option Addr) (c:Nat) (a:List (List UInt8)) (A2:Option Addr) (c2:Nat) (b:List (List UInt8)) (v2 v3:Value) (w:World) (r0:Rf [] w (bW)) (r1:Rf [] w (fun w=>aF w A (SS a))) (r2:Rf [] w (fun w=>aF w A2 (SS b))) (hsa:bH a) (hsb:bH b) (ha4:a.length≤40) (hb4:b.length≤40) (hca:a.length≤c) (hcb:b.length≤c2) (hcol:kJ a b) :
  Calls Tryz.prog 10 #[(vL A a c),(vL A2 b c2),v2,v3] w fun e w'=>e = .returned bT∧aK [] w [] w':=by
 refine Cw Tryz.func10 98 (Mm.start w []) rfl<|Nc<|lx rfl<|Ne<|lx rfl<|Ng<|sL (fun i=>i≤a.length+1∧∀ q,q < i→∀ j k n,¬ oZ a b q j k n) (fun i=>a.length+1 - i) (fun i=>[(0,(vL A a c)),(1,(vL A2 b c2)),(2,v2),(3,v3),(8,bF),(9,(vI i))]) (fun i=>[]) 0 ⟨om,fun q hq=>absurd hq (Nat.not_lt_zero q)⟩ (fun _ h=>h) ?_
 rintro i ⟨hi,hin⟩
 show St _ _ _ [(0,(vL A a c)),(1,(vL A2 b c2)),(2,v2),(3,v3),(8,bF),(9,(vI i))] [] _
 refine Ny<|lx rfl<|lk (vI a.length)<|lk (.bool (decide (((i:Nat):Int)≤((a.length:Nat):Int)))) ?_
 refine aS (aJ (bR rfl (fun hc24=>?_) (fun hc24=>?_)))
 ·have hd24:=of_decide_eq_true hc24
  refine Nm<|aE<|lx rfl<|Ng<|sL (fun j=>i≤j∧j≤a.length+1∧∀ q,q < j→∀ k n,¬ oZ a b i q k n) (fun j=>a.length+1 - j) (fun j=>[(0,(vL A a c)),(1,(vL A2 b c2)),(2,v2),(3,v3),(8,bF),(9,(vI i)),(10,(vI j))]) (fun j=>[]) i ⟨om,om,fun q hq k n h=>by have:=h.1; omega⟩ (fun _ h=>h) ?_
  rintro j ⟨hij,hj,hjn⟩
  show St _ _ _ [(0,(vL A a c)),(1,(vL A2 b c2)),(2,v2),(3,v3),(8,bF),(9,(vI i)),(10,(vI j))] [] _
  refine Ny<|lx rfl<|lk (vI a.length)<|lk (.bool (decide (((j:Nat):Int)≤((a.length:Nat):Int)))) ?_
  refine aS (aJ (bR rfl (fun hc31=>?_) (fun hc31=>?_)))
  ·have hd31:=of_decide_eq_true hc31
   refine Nm<|aE<|lx rfl<|Ng<|sL (fun k=>k≤b.length+1∧∀ q,q < k→∀ n,¬ oZ a b i j q n) (fun k=>b.length+1 - k) (fun k=>[(0,(vL A a c)),(1,(vL A2 b c2)),(2,v2),(3,v3),(8,bF),(9,(vI i)),(10,(vI j)),(11,(vI k))]) (fun k=>[]) 0 ⟨om,fun q hq=>absurd hq (Nat.not_lt_zero q)⟩ (fun _ h=>h) ?_
   rintro k ⟨hk,hkn⟩
   show St _ _ _ [(0,(vL A a c)),(1,(vL A2 b c2)),(2,v2),(3,v3),(8,bF),(9,(vI i)),(10,(vI j)),(11,(vI k))] [] _
   refine Ny<|lx rfl<|lk (vI b.length)<|lk (.bool (decide (((k:Nat):Int)≤((b.length:Nat):Int)))) ?_
   refine aS (aJ (bR rfl (fun hc37=>?_) (fun hc37=>?_)))
   ·have hd37:=of_decide_eq_true hc37
    refine Nm<|aE<|lx rfl<|Ng<|sL (fun n=>k≤n∧n≤b.length+1∧∀ q,q < n→¬ oZ a b i j k q) (fun n=>b.length+1 - n) (fun n=>[(0,(vL A a c)),(1,(vL A2 b c2)),(2,v2),(3,v3),(8,bF),(9,(vI i)),(10,(vI j)),(11,(vI k)),(12,(vI n))]) (fun n=>[]) k ⟨om,om,fun q hq h=>by have:=h.2.2.1; omega⟩ (fun _ h=>h) ?_
    rintro n ⟨hkq,hn,hnn⟩
    show St _ _ _ [(0,(vL A a c)),(1,(vL A2 b c2)),(2,v2),(3,v3),(8,bF),(9,(vI i)),(10,(vI j)),(11,(vI k)),(12,(vI n))] [] _
    refine Ny<|lx rfl<|lk (vI b.length)<|lk (.bool (decide (((n:Nat):Int)≤((b.length:Nat):Int)))) ?_
    refine aS (aJ (bR rfl (fun hc44=>?_) (fun hc44=>?_)))
    ·have hd44:=of_decide_eq_true hc44
     refine Nm<|dN [] 9 kr (fun _ h=>h)<|am 0 ?_
     refine am 1 ?_
     refine am 2 ?_
     have rs50:=Ro.imp (Ψ:=fun w=>aF w (if c=i then A else A.map (·.add (i*1))) (SS (dX a i j))) r1 (fun w h=>zT i j h hca)
     refine aV 3 (vL (if c=i then A else A.map (·.add (i*1))) (dX a i j) (c - i)) rfl (gC (wP (e:=9) (sz:=1) rfl kr kr rfl rfl rfl om om) (by show Value.slice _ _ _=Value.slice _ _ _; rw [show (dX a i j).length=j - i by unfold dX; rw [List.length_drop,List.length_take,Nat.min_eq_left om]]))<|am 4 ?_
     refine am 5 ?_
     refine am 6 ?_
     have rs54:=Ro.imp (Ψ:=fun w=>aF w (if c2=k then A2 else A2.map (·.add (k*1))) (SS (dX b k n))) r2 (fun w h=>zT k n h hcb)
     refine aV 7 (vL (if c2=k then A2 else A2.map (·.add (k*1))) (dX b k n) (c2 - k)) rfl (gC (wP (e:=9) (sz:=1) rfl kr kr rfl rfl rfl om om) (by show Value.slice _ _ _=Value.slice _ _ _; rw [show (dX b k n).length=n - k by unfold dX; rw [List.length_drop,List.length_take,Nat.min_eq_left om]]))<|aA 8 rfl<|bN (fun w hM=>VZ (if c=i then A else A.map (·.add (i*1))) (c - i) (dX a i j) (if c2=k then A2 else A2.map (·.add (k*1))) (c2 - k) (dX b k n) w (r0.aO hM) (rs50.aO hM) (rs54.aO hM) (Lz hsa i j) (Lz hsb k n) (Nat.le_trans (LA a i j) om) (Nat.le_trans (LA b k n) om))<|cN _ (fun _ h=>h) (fun _ h=>h)<|dO kr ?_
     refine aJ (bR rfl (fun hc55=>?_) (fun hc55=>?_))
     ·exact Nc<|lx rfl<|Nd<|gB<|eA<|eA<|gB<|gB<|eA<|eA<|gB<|gB<|eA<|eA<|gB<|gB<|eA<|eA<|gB<|eA<|sN [bT] fun w hM=>⟨rfl,hM⟩
     ·have hnl:¬ oZ a b i j k n:=fun h=>VY h hc55
      refine Nw<|aE<|lx rfl<|lw (vI (n+1)) bJ<|lx rfl<|Na ?_
      exact uD (n+1) (⟨by omega,by omega,fun q hq=>by
           rcases Nat.lt_or_ge q n with h | h
           ·exact hnn q h
           ·obtain rfl:q=n:=om
            exact hnl⟩) (by show b.length+1 - (n+1) < b.length+1 - n; omega) ⟨rfl,rfl,rfl,rfl,rfl,rfl,rfl,rfl,rfl,trivial⟩ (fun w hM=>hM)
    ·have hd44:=of_decide_eq_false hc44
     have hnk:∀ q,¬ oZ a b i j k q:=fun q h=>hnn q (by have:=h.2.2.2.1; omega) h
     refine Nr<|lN<|nF<|aJ<|aE<|lx rfl<|lw (vI (k+1)) bJ<|lx rfl<|Na ?_
     exact uD (k+1) (⟨by omega,fun q hq=>by
           rcases Nat.lt_or_ge q k with h | h
           ·exact hkn q h
           ·obtain rfl:q=k:=om
            exact hnk⟩) (by show b.length+1 - (k+1) < b.length+1 - k; omega) ⟨rfl,rfl,rfl,rfl,rfl,rfl,rfl,rfl,trivial⟩ (fun w hM=>hM)
   ·have hd37:=of_decide_eq_false hc37
    have hnj:∀ q r,¬ oZ a b i j q r:=fun q r h=>hkn q (by have:=h.2.2.1; have:=h.2.2.2.1; omega) r h
    refine Nr<|lN<|nF<|aJ<|aE<|lx rfl<|lw (vI (j+1)) bJ<|lx rfl<|Na ?_
    exact uD (j+1) (⟨by omega,by omega,fun q hq=>by
                  rcases Nat.lt_or_ge q j with h | h
                  ·exact hjn q h
                  ·obtain rfl:q=j:=om
                   exact hnj⟩) (by show a.length+1 - (j+1) < a.length+1 - j; omega) ⟨rfl,rfl,rfl,rfl,rfl,rfl,rfl,trivial⟩ (fun w hM=>hM)
  ·have hd31:=of_decide_eq_false hc31
   have hni:∀ q r t,¬ oZ a b i q r t:=fun q r t h=>hjn q (by have:=h.2.1; omega) r t h
   refine Nr<|lN<|nF<|aJ<|aE<|lx rfl<|lw (vI (i+1)) bJ<|lx rfl<|Na ?_
   exact uD (i+1) (⟨by omega,fun q hq=>by
           rcases Nat.lt_or_ge q i with h | h
           ·exact hin q h
           ·obtain rfl:q=i:=om
            exact hni⟩) (by show a.length+1 - (i+1) < a.length+1 - i; omega) ⟨rfl,rfl,rfl,rfl,rfl,rfl,trivial⟩ (fun w hM=>hM)
 ·have hd24:=of_decide_eq_false hc24
  obtain ⟨q,r,u,h⟩:=VX hcol
  exact absurd h.2 (hin q (by have:=h.2.1; have:=h.2.2.1; omega) r u _)
theorem EW (w:World) (r0:Rf [] w (bW)) :
  Calls Tryz.prog 4 #[] w fun e w'=>e = .returned bT∧aK [] w [] w':=by
 refine sE0 Tryz.func4 34 (Mm.start w []) ?_
 refine Nc<|lx rfl<|Nb<|Nx<|bN (fun w hM=>Jn 0 9 w (by decide))<|lx rfl<|Nb<|Nx<|bN (fun w hM=>sS none 0 sX w (r0.aO hM) Tf (by decide) (by decide) (by decide))<|lx rfl<|Nb<|lx rfl<|lT<|lx rfl<|lg bT<|lT<|lx rfl<|lg (.bool (((iM ((0+0 / 2:Nat):Int)):Int) == 12))<|lk (.bool (((iM ((0+0 / 2:Nat):Int)):Int) == 12))<|lx rfl<|St.known 25 (b':=true) rfl (by decide)<|lx rfl<|lg bT<|lT ?_
 exact lx rfl<|lu (vI (((cQ sX)).length)) (wQ rfl rfl kr)<|lg (.bool ((((((cQ sX)).length:Nat):Int):Int) == 32))<|lk (.bool ((((((cQ sX)).length:Nat):Int):Int) == 32))<|lx rfl<|Nd<|sN [(.bool ((((((cQ sX)).length:Nat):Int):Int) == 32))] fun w hM=>⟨eM (by rw [yN]; rfl),hM⟩
end Go.Proofs.YtignomkdngnmgaaGreatDoor
