/- Part 6 of a proof: what its row uses. -/
import Derived.Test.YtkjnecaieiaijaaGreatDoorSd05
set_option maxRecDepth 100000
set_option maxHeartbeats 1000000
namespace Go.Proofs.YtkjnecaieiaijaaGreatDoor
open Go.RowKit
variable {A:Δ}{B:Δ}{D:Bs}{Dm:Bs}{E:eH}{F:List Nat}{P:Program}{X:RX}{Xs:List RX}{a:Nat}{b:Bool}{b1:Bool}{b2:Bool}{b3:Bool}{bs:Bs}{c:BC}{cc:BC}{cl:List BC}{cs:List Ch}{d:Nat}{e:Υ}{f:Bs}{fan:Nat}{gt:Nat}{hi:Bs}{i:Nat}{its:List Bs}{j:Nat}{k:Nat}{kd:IntKind}{ks:IntKind}{l:Bs}{l':Bs}{l1:Bs}{l2:Bs}{l3:Bs}{leaf:Nat}{m:Nat}{most:Nat}{ms:List Ch}{ms':List Ch}{ms0:List Ch}{n:Nat}{n1:Nat}{needs:List Bs}{news:List Ch}{o:Oper}{offs:List Bs}{p:AP}{par:Nat}{ps:List AP}{q:Rd}{r:Rd}{rc:Bool}{s:gE}{sd:Nat}{sd1:Nat}{seed:Nat}{sz:Nat}{t:BT}{ts:List BT}{ty:Υ}{u:Υ}{us:List BT}{w:Λ}{w':Λ}{w0:Λ}{x:Bs}{xs:List Bs}{y:Operand}{z:Nat}{β:Type}
section
section
variable {prev:List QC}{l lo hi l1 l2 l3 l4 l5 f:Bs}{b1 b2 b3 b4 b5:Bool}{k n:Nat}{xs ms:List Bs}
theorem DC(a:fL l false=(lo,l1,b1))(b:fL l1 b1=(hi,l2,b2))(c:aK l2 b2 3=(k,l3,b3)):fU prev l false=kA lo hi k l3 (b3 || iD prev lo hi):=by
 grind [fU]
theorem XM(a:fL l false=(lo,l1,b1))(b:fL l1 b1=(hi,l2,b2))(c:aK l2 b2 3=(k,l3,b3))(g:k=1)(d:aK l3 (b3 || iD prev lo hi) 16384=(n,l4,b4))(e:(bQ l4 b4 32,dM l4 b4 32,dJ l4 b4 32)=(f,l5,b5)):fU prev l false=(⟨lo,hi,k,n,f,[],[]⟩,l5,b5):=by
 rw [DC a b c]
 subst g
 rw [kA,P1 I,d]
 grind
theorem XN(a:fL l false=(lo,l1,b1))(b:fL l1 b1=(hi,l2,b2))(c:aK l2 b2 3=(k,l3,b3))(e:k=2)(d:gR l3 (b3 || iD prev lo hi) 64 lo hi=(xs,l4,b4)):fU prev l false=(⟨lo,hi,k,0,[],xs,[]⟩,l4,b4):=by
 rw [DC a b c]
 subst e
 rw [kA,P4 U,P1 I,d]
theorem XO(a:fL l false=(lo,l1,b1))(b:fL l1 b1=(hi,l2,b2))(c:aK l2 b2 3=(k,l3,b3))(g:k=3)(d:gR l3 (b3 || iD prev lo hi) 16384 lo hi=(xs,l4,b4))(e:gR l4 b4 16384 lo hi=(ms,l5,b5)):fU prev l false=(⟨lo,hi,k,0,[],xs,ms⟩,l5,b5):=by
 rw [DC a b c]
 subst g
 rw [kA,P4 U,P4 U,P1 I,d]
 grind
theorem XP(a:fL l false=(lo,l1,b1))(b:fL l1 b1=(hi,l2,b2))(c:aK l2 b2 3=(k,l3,b3))(d:¬ k=1)(e:¬ k=2)(g:¬ k=3):fU prev l false=(⟨lo,hi,k,0,[],[],[]⟩,l3,true):=by
 rw [DC a b c,kA,P4 d,P4 e,P4 g]
theorem XQ(a:hi≠[])(b:¬ lo < hi):iD prev lo hi=true:=by
 grind [iD]
theorem Oc(h:hi=[]\/lo < hi)(a:prev.length=0):iD prev lo hi=false:=by
 obtain rfl:prev=[]:=zg
 grind [iD]
theorem zM{q:QC}(h:hi=[]\/lo < hi)(a:prev[prev.length - 1]?=some q):iD prev lo hi=(decide (q.hi=[]) || decide (lo < q.hi)):=by
 grind [iD]
end
theorem XR(n):(((n:Nat):Int) == 0)=decide (n=0):=by
 grind
theorem XS(h:(cI l b k).2.2=false):(cI l b k).1.length=k:=(Hk l b k h).2.1
abbrev RL:=List (Option Addr × List Bs)
def iJ(L:RL)(qs:List QV):Prop:=∀ q∈qs,∀ r∈q.rows,r∈L \/ r.2=[]
theorem iJ.nil{L:RL}:iJ L []:=λq a=>by cases a
theorem iJ.append{L M:RL}{a b:List QV}(h:iJ L a)(k:iJ M b):iJ (L++M) (a++b):=by
 intro q c r d
 rcases P7.1 c with c | c
 .exact (h q c r d).imp zg id
 .exact (k q c r d).imp zg id
theorem iJ.same{L:RL}{a b:List QV}(h:iJ L a)(k:iJ [] b):iJ L (a++b):=by have:=h.append k; grind
theorem iJ.ok{L:RL}{qs:List QV}(h:iJ L qs)(a:(dQ L).holds w):GZ qs w:=λq e r f=>(h q e r f).elim (λd=>(a r d).1) (λb=>by rw [b]; exact λj v c=>by simp at c)
theorem Od{lo:Bs}{c:Nat}:iJ [] [⟨lo,hi,k,n,f,A,c,[],B,d,[]⟩]:=by
 intro q b r a
 rw [G2.1 b] at a
 simp only [QV.rows] at a
 grind
theorem Oe{lo:Bs}{c:Nat}:iJ [(A,xs)] [⟨lo,hi,k,n,f,A,c,xs,B,d,[]⟩]:=by
 intro q b r a
 rw [G2.1 b] at a
 simp only [QV.rows] at a
 grind
theorem Of{lo:Bs}{c:Nat}{ms:List Bs}:iJ ([(A,xs)]++[(B,ms)]) [⟨lo,hi,k,n,f,A,c,xs,B,d,ms⟩]:=by
 intro q b r a
 rw [G2.1 b] at a
 simp only [QV.rows] at a
 grind
theorem XT{L:RL}{qs:List QV}(h:∀ q∈qs,Hb q):iJ L qs:=λq a r b=>by
 rw [(h q a).2] at b
 grind
structure hJ (its:List Bs) (fan leaf:Nat) (qs:List QV) (i:Nat) (rp:List QV) (nl ol:List Bs) (L:RL):Prop where
 le:i <= qs.length
 rep:rp.map QV.abs=(qs.take i).flatMap λq=>kI its fan leaf q.abs
 need:nl=(qs.take i).flatMap λq=>iB its q.abs
 off:ol=(qs.take i).flatMap λq=>jD its q.abs
 src:iJ L rp
 kok:∀ q∈rp,q.tL
 len1:rp.length <= i*17
 len2:nl.length <= i*16384
 len3:ol.length <= i*16384
section
variable {its:List Bs}{fan leaf:Nat}{qs rp ps2:List QV}{i:Nat}{q:QV}{nl ol n2 o2:List Bs}{L M:RL}
theorem hJ.zero:hJ its fan leaf qs 0 [] [] [] []:=⟨U,I,I,I,iJ.nil,zg,by grind,by grind,by grind⟩
theorem hJ.next(h:hJ its fan leaf qs i rp nl ol L)(b:qs[i]?=some q)(c:ps2.map QV.abs=kI its fan leaf q.abs)(l:iJ M ps2)(e:∀ p∈ps2,p.tL)(d:n2=iB its q.abs)(g:o2=jD its q.abs)(k:vT (kI its fan leaf q.abs))(f:(iB its q.abs).length<=16384)(j:(jD its q.abs).length<=16384):
  hJ its fan leaf qs (i+1) (rp++ps2) (nl++n2) (ol++o2) (L++M):=by
 have r:ps2.length<=17:=by rw [<- K0,c]; exact k.cnt
 have m:=h.len1
 have n:=h.len2
 have o:=h.len3
 refine ⟨(C4.1 b).1,?_,?_,?_,h.src.append l,?_,?_,?_,?_⟩
 .rw [U1,h.rep,c]; exact tB b
 .rw [h.need,d]; exact tB b
 .rw [h.off,g]; exact tB b
 .intro p a
  rcases P7.1 a with a | a
  .exact h.kok p a
  .exact e p a
 .rw [C3]; omega
 .rw [C3,d]; omega
 grind
theorem uJ(h:q.k=1):q.abs=⟨q.lo,q.hi,.sum q.n q.f⟩:=by simp [QV.abs,h]
theorem xH(h:q.k=2):q.abs=⟨q.lo,q.hi,.list q.xs⟩:=by simp [QV.abs,h]
theorem DD(h:q.k=3):q.abs=⟨q.lo,q.hi,.ans q.xs q.ms⟩:=by simp [QV.abs,h]
theorem XU(j:its.length<=40)(d:p.ok):(jD its p).length<=16384:=by
 obtain ⟨lo,a,c⟩:=p
 cases c with
 | sum n f=>simp [jD]
 | list b =>
   have g:=iN (inL its lo a) b
   have h:=lZ its lo a
   show (aL (inL its lo a) b).length<=_
   omega
 | ans b e=>exact P8 (FI e its) d.2.2.1
theorem XV(b:p.ok):(iB its p).length<=16384:=by
 obtain ⟨lo,d,c⟩:=p
 cases c with
 | sum n f=>simp [iB]
 | list a=>exact P8 (iN a its) (P8 b.2.1 (by omega))
 | ans a e=>exact P8 (iN a its) b.2.1.1
structure vW (its:List Bs) (fan leaf:Nat):Prop where
 hs:dD its
 h40:its.length <= 40
 hf:2 <= fan
 hf2:fan <= 16
 hl1:1 <= leaf
theorem hJ.go(h:hJ its fan leaf qs i rp nl ol L)(a:vW its fan leaf)(j:qs[i]?=some q)(b:q.abs.ok)(c:ps2.map QV.abs=kI its fan leaf q.abs)(g:iJ M ps2)(d:∀ p∈ps2,p.tL)(e:n2=iB its q.abs)(f:o2=jD its q.abs):
  hJ its fan leaf qs (i+1) (rp++ps2) (nl++n2) (ol++o2) (L++M):=h.next j c g d e f (Bf a.hs a.h40 a.hf a.hf2 a.hl1 b) (XV b) (XU a.h40 b)
theorem hJ.adA(h:hJ its fan leaf qs i rp nl ol L)(b:vW its fan leaf)(f:qs[i]?=some q)(e:q.abs.ok)(a:q.k=1)(c:(inL its q.lo q.hi).length=q.n/\eI (inL its q.lo q.hi)=q.f):hJ its fan leaf qs (i+1) rp nl ol L:=by
 have:=h.go b f e (n2:=[]) (o2:=[]) (M:=[]) (by rw [uJ a]; show _=mN its fan leaf q.lo q.hi q.n q.f; rw [mN,P1 c]; rfl) iJ.nil (λp d=>by cases d) (by rw [uJ a]; rfl) (by rw [uJ a]; rfl)
 grind
theorem hJ.Qk(h:hJ its fan leaf qs i rp nl ol L)(c:vW its fan leaf)(g:qs[i]?=some q)(f:q.abs.ok)(a:q.k=1)(d:¬ ((inL its q.lo q.hi).length=q.n/\eI (inL its q.lo q.hi)=q.f))(b:(inL its q.lo q.hi).length<=leaf){cb:Nat}:
  hJ its fan leaf qs (i+1) (rp++[⟨q.lo,q.hi,2,0,[],B,cb,inL its q.lo q.hi,none,0,[]⟩]) nl ol (L++[(B,inL its q.lo q.hi)]):=by
 have:=h.go c g f (ps2:=[⟨q.lo,q.hi,2,0,[],B,cb,inL its q.lo q.hi,none,0,[]⟩]) (n2:=[]) (o2:=[]) (by rw [uJ a]; show _=mN its fan leaf q.lo q.hi q.n q.f; rw [mN,P4 d,P1 b]; rfl) Oe (λp e=>by rw [G2.1 e]; exact .inr (.inl I)) (by rw [uJ a]; rfl) (by rw [uJ a]; rfl)
 grind
def mC(its:List Bs)(fan:Nat)(lo hi:Bs):List QV:=(eV its (inL its lo hi) fan lo (fan - 1)).2++[pQ its (eV its (inL its lo hi) fan lo (fan - 1)).1 hi]
theorem Og(its fan lo hi)(h:1<=fan):(mC its fan lo hi).length<=fan:=by
 grind [DA,mC]
theorem XW(its fan lo hi):(mC its fan lo hi).map QV.abs=(kF its (inL its lo hi) fan lo (fan - 1)).2++[dF its (kF its (inL its lo hi) fan lo (fan - 1)).1 hi]:=by
 obtain ⟨a,b⟩:=NN its (inL its lo hi) fan lo (fan - 1)
 unfold mC
 rw [U1,b,<- a]; rfl
theorem Oh(its fan lo hi):∀ q∈mC its fan lo hi,Hb q:=by
 intro q a
 rcases P7.1 a with a | a
 .exact Hc _ _ _ _ _ q a
 .rw [G2.1 a]; exact ⟨I,I⟩
theorem hJ.Ql(h:hJ its fan leaf qs i rp nl ol L)(hS:vW its fan leaf)(hx:qs[i]?=some q)(hq:q.abs.ok)(h1:q.k=1)(he:¬ ((inL its q.lo q.hi).length=q.n/\eI (inL its q.lo q.hi)=q.f))(hle:¬ (inL its q.lo q.hi).length<=leaf):
  hJ its fan leaf qs (i+1) (rp++mC its fan q.lo q.hi) nl ol L:=by
 have:=h.go hS hx hq (n2:=[]) (o2:=[]) (M:=[]) (by rw [uJ h1,XW]; show _=mN its fan leaf q.lo q.hi q.n q.f; rw [mN,P4 he,P4 hle]) (XT (Oh its fan q.lo q.hi)) (λp hp=>.inl (Oh its fan q.lo q.hi p hp).1) (by rw [uJ h1]; rfl) (by rw [uJ h1]; rfl)
 grind
theorem Oi{xs:List Bs}{lo hi:Bs}(h:fN xs lo hi=true){x:Bs}(a:x∈xs):inR lo hi x=true:=by
 unfold fN at h
 grind
theorem Hl{xs:List Bs}{lo hi:Bs}(h:fN xs lo hi=true):aL xs (inL its lo hi)=aL xs its:=by
 unfold aL
 refine ADc λx hx=>?_
 have hr:=Oi h hx
 congr 1
 rw [u9,p6,p6,kZ]
 grind
theorem XY{ms:List Bs}{lo hi:Bs}(h:fN ms lo hi=true):aL ms (aL ms (inL its lo hi))=fA ms its:=by
 unfold fA
 refine ADc λx a=>?_
 have b:=Oi h a
 rw [u9,p6,AC5,<- Bool.not_eq_true,p6,vQ,kZ]
 grind
theorem Hm(a:q.abs.ok)(b:q.k=2):q.xs.length<=64/\iV q.xs/\fN q.xs q.lo q.hi=true:=by
 rw [xH b] at a
 exact a.2
theorem DE(a:q.abs.ok)(b:q.k=3):(q.xs.length<=16384/\iV q.xs/\fN q.xs q.lo q.hi=true)/\q.ms.length<=16384/\iV q.ms/\fN q.ms q.lo q.hi=true:=by
 rw [DD b] at a
 exact a.2
theorem hJ.adB(h:hJ its fan leaf qs i rp nl ol L)(c:vW its fan leaf)(f:qs[i]?=some q)(b:q.abs.ok)(a:q.k=2)(g:¬ 0 < (aL q.xs (inL its q.lo q.hi)).length+(aL (inL its q.lo q.hi) q.xs).length):
  hJ its fan leaf qs (i+1) rp (nl++aL q.xs (inL its q.lo q.hi)) (ol++aL (inL its q.lo q.hi) q.xs) L:=by
 have e:=Hl (its:=its) (Hm b a).2.2
 have:=h.go c f b (n2:=aL q.xs _) (o2:=aL (inL its q.lo q.hi) q.xs) (M:=[]) (by rw [xH a]; show _=oB its q.lo q.hi q.xs; rw [oB,P4 (by rw [<- e]; omega)]; rfl) iJ.nil (λp d=>by cases d) (by rw [xH a,e]; rfl) (by rw [xH a]; rfl)
 grind
theorem hJ.adC(h:hJ its fan leaf qs i rp nl ol L)(f:vW its fan leaf)(j:qs[i]?=some q)(b:q.abs.ok)(a:q.k=2)(k:0 < (aL q.xs (inL its q.lo q.hi)).length+(aL (inL its q.lo q.hi) q.xs).length){c d:Nat}:
  hJ its fan leaf qs (i+1) (rp++[⟨q.lo,q.hi,3,0,[],A,c,aL (inL its q.lo q.hi) q.xs,B,d,aL q.xs (inL its q.lo q.hi)⟩]) (nl++aL q.xs (inL its q.lo q.hi)) (ol++aL (inL its q.lo q.hi) q.xs) (L++([(A,aL (inL its q.lo q.hi) q.xs)]++[(B,aL q.xs (inL its q.lo q.hi))])):=by
 have e:=Hl (its:=its) (Hm b a).2.2
 exact h.go f j b (by rw [xH a]; show _=oB its q.lo q.hi q.xs; rw [oB,P1 (by rw [<- e]; omega),<- e]; rfl) Of (λp g=>by rw [G2.1 g]; exact .inr (.inr I)) (by rw [xH a,e]; rfl) (by rw [xH a]; rfl)
theorem hJ.ans(h:hJ its fan leaf qs i rp nl ol L)(d:vW its fan leaf)(f:qs[i]?=some q)(b:q.abs.ok)(a:q.k=3):
  hJ its fan leaf qs (i+1) rp (nl++aL q.xs (inL its q.lo q.hi)) (ol++aL q.ms (aL q.ms (inL its q.lo q.hi))) L:=by
 have e:=Hl (its:=its) (DE b a).1.2.2
 have c:=XY (its:=its) (DE b a).2.2.2
 have:=h.go d f b (n2:=aL q.xs _) (o2:=aL q.ms _) (M:=[]) (by rw [DD a]; rfl) iJ.nil zg (by rw [DD a,e]; rfl) (by rw [DD a,c]; rfl)
 grind
theorem Hn(g:AP->List β):(qs.take qs.length).flatMap (λq=>g q.abs)=(qs.map QV.abs).flatMap g:=by rw [R0,List.flatMap_map]
theorem hJ.BM(h:hJ its fan leaf qs qs.length rp nl ol L):rp.map QV.abs=fS its fan leaf (qs.map QV.abs):=h.rep.trans (Hn _)
theorem hJ.IC(h:hJ its fan leaf qs qs.length rp nl ol L):nl=(qs.map QV.abs).flatMap (iB its):=h.need.trans (Hn _)
theorem hJ.ID(h:hJ its fan leaf qs qs.length rp nl ol L):ol=(qs.map QV.abs).flatMap (jD its):=h.off.trans (Hn _)
end
theorem Ho(h:∀ p∈ps,p.ok)(w:uE ps):(ps.length - 1)*36<=(ps.flatMap AP.enc).length:=by
 have A:∀ l:List AP,(∀ p∈l,36<=p.enc.length)->l.length*36<=(l.flatMap AP.enc).length:=by
  intro l
  induction l with
  | nil=>grind
  | cons p l F =>
    grind
 cases ps with
 | nil=>simp
 | cons B rest =>
   have E:∀ p∈rest,36<=p.enc.length:=by
    intro p m
    obtain ⟨k,j⟩:=AA3 m
    have z:=(C4.1 j).1
    have a:=w (k+1) p (su j)
    have d:p.lo≠[]:=by
     intro e
     unfold follows at a
     cases o:((B::rest).take (k+1)).getLast? with
     | none=>simp at o
     | some q =>
       rw [o] at a
       dsimp only at a
       rw [e] at a
       cases b:q.hi with
       | nil=>rw [b] at a; simp at a
       | cons y r =>
         rw [b] at a
         have:([]) < y::r:=List.nil_lt_cons y r
         simp [this] at a
    have g:=h p (by simp [m])
    have c:=g.1.1
    unfold iU at c
    rw [ACf,U3,U3] at c
    have u:p.lo.length=32:=c.resolve_left d
    have x:2<=p.c.enc.length:=by
     have s:=lV 1
     have t:=lV 2
     have D:=lV 3
     cases p.c with
     | sum n f=>have:=lV n; simp only [AC.enc,C3]; omega
     | list i=>have:=lV i.length; simp only [AC.enc,C3]; omega
     | ans i H=>have:=lV i.length; simp only [AC.enc,C3]; omega
    have s:=lV p.lo.length
    have t:=lV p.hi.length
    unfold AP.enc
    simp only [C3]
    omega
   grind
theorem XZ(d:iO D=some ps)(h:D.length<=1048576):ps.length<=29200:=by
 obtain ⟨c,a,_⟩:=vK d
 have b:ps.length≠0:=λe=>a.1 (L1 e)
 have f:=Ho a.2.1 a.2.2
 have g:(ps.flatMap AP.enc).length<=D.length:=by rw [c,bK,P4 b,C3]; omega
 omega
theorem zN(l m n):aH (aH [] (l++m)) n=aH [] (l++(m++n)):=by grind [Mt]
theorem Oj(l m):(aH [] (l++m)).length<=(aH [] l).length+m.length:=by rw [Mt]; exact wT m _
theorem iJ.row{L:RL}{qs:List QV}(h:iJ L qs)(a:(dQ L).holds w){q:QV}(b:qs[i]?=some q):aI w q.A (SS q.xs)/\aI w q.B (SS q.ms) :=
 ⟨h.ok a q (F0 b) (q.A,q.xs) (by simp [QV.rows]),h.ok a q (F0 b) (q.B,q.ms) (by simp [QV.rows])⟩
theorem Ya{qs:List QV}(e:qs.map QV.core=(mQ D).1)(h:mR D=true)(c:D.length<=1048576):iO D=some (qs.map QV.abs)/\∀ q∈qs,q.tL:=by
 obtain ⟨a,b⟩:=Ob h c
 rw [<- e] at a b
 refine ⟨?_,λq d=>b _ (ACb d)⟩
 rw [a,AEj]; rfl
theorem Yb(its fan leaf):bC its fan leaf []=⟨[],0,[],[]⟩:=P1 I
theorem Yc(h:D≠[])(a:iO D=none):bC its fan leaf D=⟨[],3,[],[]⟩:=by
 rw [bC,P4 h,a]
theorem Yd(h:D≠[])(a:iO D=some ps)(b:(bC its fan leaf D).err≠2):(bK (fS its fan leaf ps)).length<=1048576/\bC its fan leaf D=⟨bK (fS its fan leaf ps),0,ps.flatMap (iB its),ps.flatMap (jD its)⟩:=by
 have e:bC its fan leaf D=if 1048576 < (bK (fS its fan leaf ps)).length then ⟨[],2,[],[]⟩ else ⟨bK (fS its fan leaf ps),0,ps.flatMap (iB its),ps.flatMap (jD its)⟩:=by rw [bC,P4 h,a]
 grind
end
section
theorem cC.sub(c:cC ms w)(a)(d:jG ms a=ms0:=by rfl)(b:qW ms.length a=true:=by rfl):cC ms0 w:=c.PJ a d (yE b).1 (yE b).2
theorem cC.res(c:cC ms w)(a)(d:aN ms0 w (ms'++news) w')(f:jG ms a=ms0:=by rfl)(b:qW ms.length a=true:=by rfl)(e:ms'.length=a.length:=by rfl):aN ms w (aU ms a ms'++news) w':=c.con a f (yE b).1 (yE b).2 e d
theorem cC.same(a:cC ms w)(b:aN [] w [] w'):aN ms w ms w':=Mm.eW a b.fr
def kK(sd:Bool)(l S:List Bs):List Bs:=if sd then l else aH [] S
structure mS (its:List Bs) (n st k:Nat) (sd:Bool) (needs offs S S2:List Bs):Prop where
 le:st <= 2
 set:sd=true -> st≠2 /\ (st=1 -> k=4)
 opn:sd=false -> needs=[] /\ offs=[]
 nd:∀ x∈needs,x∉its /\ x.length=32
 of:∀ x∈offs,x∈its
 an:needs.Pairwise (· < ·)
 ao:offs.Pairwise (· < ·)
 ln:needs.length <= 16384
 s1:∀ x∈S,x∉its /\ x.length=32
 s2:∀ x∈S2,x∈its
 l1:S.length <= n*700
 l2:S2.length <= n*17179869184
section
variable {its needs offs S S2:List Bs}{n st st2 k k2:Nat}{sd:Bool}
theorem mS.go(h:mS its n st k sd needs offs S S2)(b:st2<=2)(a:sd=true->st2≠2/\(st2=1->k2=4)):mS its (n+1) st2 k2 sd needs offs S S2:=⟨b,a,h.opn,h.nd,h.of,h.an,h.ao,h.ln,h.s1,h.s2,P8 h.l1 (Y4 _ (AC1 n)),P8 h.l2 (Y4 _ (AC1 n))⟩
theorem mS.settle(h:mS its n st k false needs offs S S2){a of:List Bs}(b:∀ x∈a,x∉its/\x.length=32)(c:∀ x∈of,x∈its)(d:a.Pairwise (· < ·))(e:of.Pairwise (· < ·))(f:a.length<=16384)(g:st2=0\/st2=1/\k2=4):mS its (n+1) st2 k2 true a of S S2:=⟨U,λ_=>⟨U,λh=>by omega⟩,(λh=>by cases h),b,c,d,e,f,h.s1,h.s2,P8 h.l1 (Y4 _ (AC1 n)),P8 h.l2 (Y4 _ (AC1 n))⟩
theorem mS.step(h:mS its n st k false [] [] S S2){D:Bs}(i:D.length<=20000)(f:dD its)(a:its.length<=40)(c:st2<=2):mS its (n+1) st2 k2 false [] [] (S++(bC its 4 4 D).need) (S2++(bC its 4 4 D).off):=by
 have b:=Xh its 4 4 D
 have e:=(GK (fan:=4) (leaf:=4) (D:=D) U f a).2
 have j:=b.cnt
 have l:=h.l1
 have g:=h.l2
 exact ⟨c,(λh=>by cases h),h.opn,h.nd,h.of,h.an,h.ao,h.ln,λx d=>(P7.1 d).elim (h.s1 x) (b.need x),λx d=>(P7.1 d).elim (h.s2 x) (b.off x),by rw [C3,Nat.add_mul]; omega,by rw [C3,Nat.add_mul]; exact Nat.add_le_add g (by rw [Nat.one_mul]; exact e)⟩
theorem mS.Qm(h:mS its n st k sd needs offs S S2)(b:dD its)(a:its.length<=40):eM (kK sd offs S2)=0/\(kK sd offs S2).length<=40:=by
 cases sd with
 | true =>
   have c:offs.length<=40:=P8 (GW h.ao h.of) a
   exact ⟨qJ (show offs.length<=_ by omega) ⟨λx d=>b.1 x (h.of x d),h.ao⟩,c⟩
 | false=>exact Xi h.s2 b a
theorem mS.Qn(h:mS its n st k sd needs offs S S2)(c:n<=20):(kK sd needs S).length<=16384:=by
 cases sd with
 | true=>exact h.ln
 | false =>
   have a:=wT S []
   have b:=h.l1
   simp only [W7,K7] at a
   exact P8 a U
end
theorem Ol:∀ {n:Nat},(r.cK n).2.err=0->r.err=0/\∀ x∈(r.cK n).1,x.length=32
 | 0,h=>⟨h,λx a=>by cases a⟩
 | n+1,h=>by
   obtain ⟨t1,t2⟩:=Ay _ h
   obtain ⟨b,c⟩:=Ol t1.err
   refine ⟨b,λx a=>?_⟩
   rcases P7.1 a with a | a
   .grind
   grind
theorem Om(h:(r.items m).2.err=0):r.err=0/\∀ x∈(r.items m).1,x.length=32:=by
 obtain ⟨a,b⟩:=Ol h
 refine ⟨?_,b⟩
 unfold Rd.cnt Rd.count at a
 grind
theorem end_err(h:r.end_=0):r.err=0:=by
 unfold Rd.end_ at h
 omega
theorem Hp(h:iX its needs offs=true):(∀ x∈needs,x∉its)/\∀ x∈offs,x∈its:=by
 unfold iX at h
 grind
theorem Ye(h:k<=500):∃ n:Nat,kW ((k+k / 2:Nat):Int)=(n:Int)/\fI (n:Int)=true:=by
 refine ⟨(2*(k+k / 2)+14) / 3*3,?_,?_⟩
 .unfold kW
  omega
 .simp only [fI,V6,U3]
  omega
theorem DF{q0:Rd}(d:(Rd.mk Dm 0 0 0).uint=(k,q0)):q0.rest.1.length<=Dm.length:=by
 have a:=Rd.Iz (Rd.mk Dm 0 0 0)
 rw [d] at a
 have c:=q0.qS (q0.D.length - q0.off)
 have b:q0.D.length=Dm.length:=zg
 exact P8 c (AEh b)
theorem On{q0:Rd}(d:(Rd.mk Dm 0 0 0).uint=(k,q0)):q0.sum.2.rest.1.length<=Dm.length:=by
 have a:=Rd.Iz (Rd.mk Dm 0 0 0)
 rw [d] at a
 have c:=q0.sum.2.qS (q0.sum.2.D.length - q0.sum.2.off)
 have b:q0.sum.2.D.length=Dm.length:=U0 _ ((Rd.acJ q0).trans a)
 exact P8 c (AEh b)
end
section
structure Sd where
 st:Nat
 k:Nat
 m:Bs
 rc:Bool
 dn:Bool
 sd:Bool
 needs:List Bs
 offs:List Bs
 S:List Bs
 T:List Bs
section
variable (its:List Bs)(bg:Bool)(x:Sd)(D:Bs)
abbrev Yf(q:Rd):Prop:=q.sum.2.rest.2.end_≠0 \/ ∀ t,eZ q.sum.2.rest.1=some t -> t.seed≠0
abbrev Yg(q:Rd):Prop:=q.rest.2.end_≠0 \/ q.rest.1=[] \/ (bC its 4 4 q.rest.1).err≠0
abbrev Yh(q:Rd):Prop:=¬ (q.items 16384).1.Pairwise (· < ·) \/ ¬ ((q.items 16384).2.items 16384).1.Pairwise (· < ·) \/ ((q.items 16384).2.items 16384).2.end_≠0 \/ iX its (q.items 16384).1 ((q.items 16384).2.items 16384).1=false
inductive lA : Sd -> Int -> Prop
 | busy (h : x.st ≠ 2) : lA x 6
 | bad {u : Nat} {q : Rd} (h : x.st = 2) (hu : (Rd.mk D 0 0 0).uint = (u, q)) (h1 : u = 1 -> bg = true \/ x.rc = true \/ eS q.rest.1 = none \/ q.rest.2.end_ ≠ 0)
   (h2 : u = 2 -> x.k ≠ 1 \/ x.rc = true \/ Yf q) (h3 : u = 3 -> x.k = 0 \/ Yg its q) (h4 : u = 4 -> x.k ≠ 2 \/ Yh its q) (h5 : u = 5 -> q.end_ ≠ 0 \/ x.k ≠ 3) : lA x 3
 | rng {q : Rd} {ts : List BT} (h : x.st = 2) (hu : (Rd.mk D 0 0 0).uint = (1, q)) (hb : bg = false) (hr : x.rc = false) (hts : eS q.rest.1 = some ts) (he : q.rest.2.end_ = 0) (hk : 500 < iA ts (bO its)) :
   lA { x with st := 1, k := 3, m := bB 3 (bK [dF its [] []]), rc := true } 0
 | tab {q : Rd} {ts : List BT} {n : Nat} (h : x.st = 2) (hu : (Rd.mk D 0 0 0).uint = (1, q)) (hb : bg = false) (hr : x.rc = false) (hts : eS q.rest.1 = some ts) (he : q.rest.2.end_ = 0) (hk : iA ts (bO its) <= 500)
   (hsz : kW ((iA ts (bO its) + iA ts (bO its) / 2 : Nat) : Int) = (n : Int)) (hz : fI (n : Int) = true) : lA { x with st := 1, k := 2, m := fO its n, rc := true } 0
 | dif0 {q : Rd} {t : BT} (h : x.st = 2) (hu : (Rd.mk D 0 0 0).uint = (2, q)) (hk : x.k = 1) (hr : x.rc = false) (htd : eZ q.sum.2.rest.1 = some t) (he : q.sum.2.rest.2.end_ = 0) (hs : t.seed = 0) (hd : nM its t q.sum.1 = none) :
   lA { x with st := 1, k := 3, m := bB 3 (bK [dF its [] []]), rc := true } 0
 | dif1 {q : Rd} {t : BT} {offs needs : List Bs} (h : x.st = 2) (hu : (Rd.mk D 0 0 0).uint = (2, q)) (hk : x.k = 1) (hr : x.rc = false) (htd : eZ q.sum.2.rest.1 = some t) (he : q.sum.2.rest.2.end_ = 0) (hs : t.seed = 0) (hd : nM its t q.sum.1 = some (offs, needs)) :
   lA { x with st := 1, k := 4, m := kQ offs needs, rc := true, dn := true, sd := true, needs := needs, offs := offs } 0
 | step {q : Rd} (h : x.st = 2) (hu : (Rd.mk D 0 0 0).uint = (3, q)) (hk : x.k ≠ 0) (he : q.rest.2.end_ = 0) (hne : q.rest.1 ≠ []) (her : (bC its 4 4 q.rest.1).err = 0) (hre : (bC its 4 4 q.rest.1).reply ≠ []) :
   lA { x with st := 1, k := 3, m := bB 3 (bC its 4 4 q.rest.1).reply, rc := true, S := x.S ++ (bC its 4 4 q.rest.1).need, T := x.T ++ (bC its 4 4 q.rest.1).off } 0
 | stop {q : Rd} (h : x.st = 2) (hu : (Rd.mk D 0 0 0).uint = (3, q)) (hk : x.k ≠ 0) (he : q.rest.2.end_ = 0) (hne : q.rest.1 ≠ []) (her : (bC its 4 4 q.rest.1).err = 0) (hre : (bC its 4 4 q.rest.1).reply = []) :
   lA { x with st := 1, k := 5, m := aE 5, rc := true, dn := true, S := x.S ++ (bC its 4 4 q.rest.1).need, T := x.T ++ (bC its 4 4 q.rest.1).off } 0
 | diff {q : Rd} (h : x.st = 2) (hu : (Rd.mk D 0 0 0).uint = (4, q)) (hk : x.k = 2) (han : (q.items 16384).1.Pairwise (· < ·)) (hao : ((q.items 16384).2.items 16384).1.Pairwise (· < ·)) (he : ((q.items 16384).2.items 16384).2.end_ = 0)
   (hag : iX its (q.items 16384).1 ((q.items 16384).2.items 16384).1 = true) : lA { x with st := 0, rc := true, dn := true, sd := true, needs := (q.items 16384).1, offs := ((q.items 16384).2.items 16384).1 } 0
 | fin {q : Rd} (h : x.st = 2) (hu : (Rd.mk D 0 0 0).uint = (5, q)) (he : q.end_ = 0) (hk : x.k = 3) : lA { x with st := 0, rc := true, dn := true } 0
end
section
variable {its:List Bs}{bg:Bool}{x:Sd}{D:Bs}
inductive mD (x : Sd) (b : Int) : Sd -> Bs -> Int -> Prop
 | arg (h : b < 0) : mD x b x [] 1
 | fin (hb : 0 <= b) (h : x.st = 0) : mD x b x [] 4
 | wait (hb : 0 <= b) (h : x.st = 2) : mD x b x [] 6
 | short (hb : 0 <= b) (h : x.st = 1) (hl : b < x.m.length) : mD x b x [] 10
 | last (h : x.st = 1) (hl : (x.m.length : Int) <= b) (hk : x.k = 4 \/ x.k = 5) : mD x b { x with st := 0, m := [] } x.m 0
 | more (h : x.st = 1) (hl : (x.m.length : Int) <= b) (h4 : x.k ≠ 4) (h5 : x.k ≠ 5) : mD x b { x with st := 2, m := [] } x.m 0
theorem Yi(x:Sd)(b)(i:x.st<=2):∃ j m z,mD x b j m z:=by
 rcases AG5 b 0 with a | a
 .exact ⟨_,_,_,.arg a⟩
 rcases W4 x.st 1 with f | f
 .exact ⟨_,_,_,.fin a U⟩
 rcases W4 1 x.st with g | g
 .exact ⟨_,_,_,.wait a U⟩
 have h:x.st=1:=U
 rcases AG5 b x.m.length with c | c
 .exact ⟨_,_,_,.short a h c⟩
 rcases j8 (x.k=4\/x.k=5) with d | d
 .exact ⟨_,_,_,.last h c d⟩
 .exact ⟨_,_,_,.more h c (λe=>d (.inl e)) (λe=>d (.inr e))⟩
end
end
theorem Yj(l:dD its)(i:its.length<=40)(k:p.ok):((kI its 4 4 p).flatMap AP.enc).length<=1400+p.enc.length:=by
 obtain ⟨⟨t,u,_⟩,h⟩:=k
 have o:=rG t
 have r:=rG u
 obtain ⟨lo,d,c⟩:=p
 dsimp only at o r h
 have L:=lZ its lo d
 have g:=vR l lo d
 cases c with
 | ans e N=>simp [kI]
 | sum n f =>
   show ((mN its 4 4 lo d n f).flatMap AP.enc).length<=_
   unfold mN
   split
   .simp
   .split
    .have j:=nL g
     simp only [V5,AB8,O4,AP.enc,AC.enc,C3,j]
     have w:=iH (n:=lo.length) U
     have x:=iH (n:=d.length) U
     have y:=iH (n:=2) U
     have z:=iH (n:=(inL its lo d).length) U
     omega
    .have s:=divS (its:=its) (lo:=lo) (hi:=d) (fan:=4) (show 0 < (inL its lo d).length by omega) (show 2<=4 by omega)
     have k:∀ q∈xE its 4 lo d,q.enc.length<=100:=λq F=>by
      obtain ⟨a,b,c⟩:=s.1 q F
      exact (Be i a (Dq l o b) (Dq l r c)).2
     exact P8 (Mu k s.2) U
 | list e =>
   show ((oB its lo d e).flatMap AP.enc).length<=_
   unfold oB
   split
   .have a1:=iN (inL its lo d) e
    have H:=iN e its
    have A:=nL (uG (m:=e) g)
    have B:=nL (uG (m:=its) h.2.1)
    have D:=nL h.2.1
    have E:=h.1
    simp only [V5,AB8,O4,AP.enc,AC.enc,C3,A,B,D]
    have w:=iH (n:=lo.length) U
    have x:=iH (n:=d.length) U
    have y:=iH (n:=3) U
    have z:=iH (n:=(aL (inL its lo d) e).length) U
    have K:=iH (n:=(aL e its).length) U
    omega
   .simp
theorem Hq(b:dD its)(a:its.length<=40):∀ {ps:List AP},(∀ p∈ps,p.ok)->((fS its 4 4 ps).flatMap AP.enc).length<=ps.length*1400+(ps.flatMap AP.enc).length
 | [],_=>G6 _
 | p::ps,c=>by
   have d:=Hq b a (ps:=ps) zg
   have h:=Yj b a (c p si)
   grind [fS]
theorem Oo(g:dD its)(a:its.length<=40)(o:D.length<=20000):(bC its 4 4 D).err≠2:=by
 unfold bC
 split
 .decide
 .split
  .decide
  .rename_i d i
   split
   .rename_i f
    exfalso
    obtain ⟨h,b,_⟩:=vK i
    have c:d.length≠0:=λe=>b.1 (L1 e)
    have j:=Ho b.2.1 b.2.2
    have k:(d.flatMap AP.enc).length<=D.length:=by rw [h,bK,P4 c,C3]; omega
    have l:=Hq g a b.2.1
    have m:=(Dr g a (fan:=4) (leaf:=4) (by decide) (by decide) (by decide) b.2.1).2
    have n:=GJ (fS its 4 4 d) U
    omega
   grind
theorem Yk(f:dD its)(a:its.length<=40)(n:D.length<=20000):(bC its 4 4 D).reply.length<=900000:=by
 unfold bC
 split
 .simp
 .split
  .simp
  .rename_i d h
   split
   .simp
   .dsimp only
    obtain ⟨g,b,_⟩:=vK h
    have c:d.length≠0:=λe=>b.1 (L1 e)
    have i:=Ho b.2.1 b.2.2
    have j:(d.flatMap AP.enc).length<=D.length:=by rw [g,bK,P4 c,C3]; omega
    have k:=Hq f a b.2.1
    have l:=(Dr f a (fan:=4) (leaf:=4) (by decide) (by decide) (by decide) b.2.1).2
    have m:=GJ (fS its 4 4 d) U
    omega
theorem Oq(h:gt=0↔rc=false)(a:¬ gt=0):rc=true:=by
 grind
def kR(sd:Bool)(A:Option Addr)(l:List Bs)(c:Nat)(B:Option Addr)(m:List Bs)(d:Nat):Value:=cond sd (.slice A l.length c) (.slice B m.length d)
def Bp(st:Nat)(A:Option Addr)(m:Bs)(c:Nat):Value:=match st with
 | 1=>.slice A m.length c
 | _=>.slice none 0 0
def Hr(st:Nat):Bool:=match st with
 | 0=>true
 | _=>false
def qN(A:Option Addr)(c:Nat)(its:List Bs)(bg:Bool)(x:Sd)(NA:Option Addr)(nc:Nat)(OA:Option Addr)(oc:Nat)(AN:Option Addr)(cN:Nat)(AO:Option Addr)(cO:Nat)(AM:Option Addr)(cM sn gt:Nat):Value :=
 .agg #[.slice A its.length c,.bool bg,.slice A its.length c,Y 4,Y 4,.slice NA (aH [] x.S).length nc,.slice OA (aH [] x.T).length oc,kR x.sd AN x.needs cN NA (aH [] x.S) nc,kR x.sd AO x.offs cO OA (aH [] x.T) oc,Bp x.st AM x.m cM,Y sn,Y gt,.bool x.dn,.bool (Hr x.st)]
set_option maxHeartbeats 400000 in
theorem Ym(bs A1 t)(its:List Γ)(bg o k)(Am:Δ)(m:Γ)(l:Nat)(rc dn:Bool)(D:Nat)(sd:Bool)(An:Δ)(needs:List Γ)(x:Nat)(Ao:Δ)(offs:List Γ)(y:Nat)(b:Int)(i:Sd)(B:Γ)(z:Int)(S T:List Γ)(w:Λ)(d:cC [aD bs 68 [(V A1 its t),(.bool bg),(Y o),(Y k),(V Am m l),(.bool rc),(.bool dn),(Z D 0),(.bool sd),(V An needs x),(V Ao offs y)],bI Am (B8 m)] w)(K:mD (Sd.mk o k m rc dn sd needs offs S T) b i B z):
  Θ 9 #[(Z bs 0),(C b)] w λe p=>∃ (Am2:Δ) (u:Nat) (a:Δ) (E:Nat),e = .returned (.tuple #[(V a B E),(C z)])/\aN [aD bs 68 [(V A1 its t),(.bool bg),(Y o),(Y k),(V Am m l),(.bool rc),(.bool dn),(Z D 0),(.bool sd),(V An needs x),(V Ao offs y)],bI Am (B8 m)] w [aD bs 68 [(V A1 its t),(.bool bg),(Y i.st),(Y i.k),(V Am2 i.m u),(.bool i.rc),(.bool i.dn),(Z D 0),(.bool i.sd),(V An i.needs x),(V Ao i.offs y)],bI Am2 (B8 i.m),bI a (B8 B)] p:=by
 cases K with
 | arg g =>
   refine (Xw _ b w g).mono ?_
   rintro e p ⟨rfl,f⟩
   exact ⟨Am,l,none,0,I,((d.same f).fF none)⟩
 | fin g h =>
   obtain ⟨b,rfl⟩:=u7 g
   have c:o=0:=h
   subst c
   refine (MG _ _ _ _ _ _ _ _ _ _ _ b w (d.aR (j:=0) I η)).mono ?_
   rintro e p ⟨rfl,f⟩
   exact ⟨Am,l,none,0,I,((d.same f).fF none)⟩
 | wait g h =>
   obtain ⟨b,rfl⟩:=u7 g
   have c:o=2:=h
   subst c
   refine (Xx _ _ _ _ _ _ _ _ _ _ _ b w (d.aR (j:=0) I η)).mono ?_
   rintro e p ⟨rfl,f⟩
   exact ⟨Am,l,none,0,I,((d.same f).fF none)⟩
 | short g h s =>
   obtain ⟨b,rfl⟩:=u7 g
   have c:o=1:=h
   subst c
   have r:b < m.length:=by have N:(b:Int) < (m.length:Int):=s; omega
   refine (GP _ _ _ _ _ _ _ _ _ _ _ _ _ b w (d.aR (j:=0) I η) r).mono ?_
   rintro e p ⟨rfl,f⟩
   exact ⟨Am,l,none,0,I,((d.same f).fF none)⟩
 | last h s L =>
   have r:(m.length:Int)<=b:=s
   have g:0<=b:=U
   obtain ⟨b,rfl⟩:=u7 g
   have c:o=1:=h
   subst c
   have A:k=4\/k=5:=L
   have n:m.length<=b:=U
   rcases A with q | q
   .refine (WC _ _ _ _ _ _ _ _ _ _ _ _ _ b w (d.sub [0]) n q).mono ?_
    rintro e p ⟨rfl,f⟩
    exact ⟨none,0,Am,l,I,(((d.res [0] (ms':=[_]) (news:=[]) f).fF none).pick [0,2,1] I I)⟩
   .refine (MF _ _ _ _ _ _ _ _ _ _ _ _ _ b w (d.sub [0]) n q).mono ?_
    rintro e p ⟨rfl,f⟩
    exact ⟨none,0,Am,l,I,(((d.res [0] (ms':=[_]) (news:=[]) f).fF none).pick [0,2,1] I I)⟩
 | more h s F H =>
   have r:(m.length:Int)<=b:=s
   have g:0<=b:=U
   obtain ⟨b,rfl⟩:=u7 g
   have c:o=1:=h
   subst c
   have n:m.length<=b:=U
   refine (zG _ _ _ _ _ _ _ _ _ _ _ _ _ b w (d.sub [0]) n ⟨F,H⟩).mono ?_
   rintro e p ⟨rfl,f⟩
   exact ⟨none,0,Am,l,I,(((d.res [0] (ms':=[_]) (news:=[]) f).fF none).pick [0,2,1] I I)⟩
set_option maxHeartbeats 2000000 in
abbrev S3:=[0,1,2,4,5,3]
theorem Yn(bs A1 c1 its bg k Am cm An cn Ao co rc dn se A2 c2 nm U S T AD cD Dm x2 z w)(hO:cC [aD bs 68 [(V A1 its c1),(.bool bg),(C 2),(Y k),(V Am bG cm),(.bool rc),(.bool dn),(Z se 0),bF,(V An dY cn),(V Ao dY co)],aP nm (S),aP U (T)] w)(r0:Rf [aD bs 68 [(V A1 its c1),(.bool bg),(C 2),(Y k),(V Am bG cm),(.bool rc),(.bool dn),(Z se 0),bF,(V An dY cn),(V Ao dY co)],aP nm (S),aP U (T)] w (eG))(r1:Rf [aD bs 68 [(V A1 its c1),(.bool bg),(C 2),(Y k),(V Am bG cm),(.bool rc),(.bool dn),(Z se 0),bF,(V An dY cn),(V Ao dY co)],aP nm (S),aP U (T)] w (λw=>aI w A1 (SS its)))(r2:Rf [aD bs 68 [(V A1 its c1),(.bool bg),(C 2),(Y k),(V Am bG cm),(.bool rc),(.bool dn),(Z se 0),bF,(V An dY cn),(V Ao dY co)],aP nm (S),aP U (T)] w (λw=>aI w AD (B8 Dm)))(r3:Rf [aD bs 68 [(V A1 its c1),(.bool bg),(C 2),(Y k),(V Am bG cm),(.bool rc),(.bool dn),(Z se 0),bF,(V An dY cn),(V Ao dY co)],aP nm (S),aP U (T)] w (jM se A2 c2 its 4 4 nm U))(hR:lA its bg (Sd.mk 2 k [] rc dn false [] [] S T) Dm x2 z)(hDm:Dm.length<=4294967296)(hD1:∀ u q,(Rd.mk Dm 0 0 0).uint=(u,q)->u=3->q.rest.1.length<=1048576)(hsm:∀ q t,(Rd.mk Dm 0 0 0).uint=(2,q)->eZ q.sum.2.rest.1=some t->t.cells.length<=600)(h3:z=3->Dm.length<=20000)(hset:dD its)(h40:its.length<=40)(hc2:its.length<=c2)(hSb:S.length<=549755813888)(hTb:T.length<=549755813888):
  Θ 48 #[(Z bs 0),(V AD Dm cD)] w λe w'=>∃ (Am2:Δ) (cm2:Nat) (An2:Δ) (cn2:Nat) (Ao2:Δ) (co2:Nat),e = .returned (C z)/\aN [aD bs 68 [(V A1 its c1),(.bool bg),(C 2),(Y k),(V Am bG cm),(.bool rc),(.bool dn),(Z se 0),bF,(V An dY cn),(V Ao dY co)],aP nm (S),aP U (T)] w [aD bs 68 [(V A1 its c1),(.bool bg),(Y x2.st),(Y x2.k),(V Am2 x2.m cm2),(.bool x2.rc),(.bool x2.dn),(Z se 0),(.bool x2.sd),(V An2 x2.needs cn2),(V Ao2 x2.offs co2)],aP nm (x2.S),aP U (x2.T),bI An2 (SS x2.needs),bI Ao2 (SS x2.offs),bI Am2 (B8 x2.m)] w':=by
 cases hR with
 | busy h=>exact absurd I h
 | bad h hu h1 h2 h3' h4 h5 =>
   rename_i u q
   have h20:=h3 I
   have hrl:=DF hu
   refine (Xu bs A1 c1 its _ _ _ _ _ _ AD cD Dm q se A2 c2 nm U S T u bg rc k w (hO.sub [0,1,2]) (r0.bJ hO [0,1,2]) (r1.bJ hO [0,1,2]) (r2.bJ hO [0,1,2]) (r3.bJ hO [0,1,2]) (by omega) hu hset.2 (by omega) hset h40 hc2 hSb hTb h1 h2 h3' h4 h5 (Oo hset h40 (by omega))).mono ?_
   rintro e w' ⟨rfl,hP⟩
   have hR9:=hO.res [0,1,2] (ms':=[_,_,_]) (news:=[]) hP
   exact ⟨Am,cm,An,cn,Ao,co,I,((hR9.fF An).fF Ao).fF Am⟩
 | rng h hu hb hr hts he hk =>
   rename_i q ts
   have hb9:bg=false:=hb
   subst hb9
   have hr9:rc=false:=hr
   subst hr9
   refine (Xt bs A1 c1 its _ _ _ _ _ _ _ AD cD Dm q ts (iA ts (bO its)) se A2 c2 nm U w (hO.sub [0]) (r0.bJ hO [0]) (r1.bJ hO [0]) (r2.bJ hO [0]) (r3.bJ hO [0]) (by omega) hu hts he hset h40 hc2 I hk).mono ?_
   rintro e w' ⟨Am',cm',rfl,hP⟩
   have hR9:=hO.res [0] (ms':=[_]) (news:=[_]) hP
   exact ⟨Am',cm',An,cn,Ao,co,I,((((Mm.lM hR9 3 I).fF An).fF Ao).pick S3 I I)⟩
 | tab h hu hb hr hts he hk hsz hz =>
   rename_i q ts n
   have hb9:bg=false:=hb
   subst hb9
   have hr9:rc=false:=hr
   subst hr9
   refine (WN bs A1 c1 its _ _ _ _ _ _ _ _ AD cD Dm q ts (iA ts (bO its)) n w (hO.sub [0]) (r0.bJ hO [0]) (r1.bJ hO [0]) (r2.bJ hO [0]) (by omega) hu hts he hset h40 I hk hsz hz).mono ?_
   rintro e w' ⟨Am',cm',rfl,hP⟩
   have hR9:=hO.res [0] (ms':=[_]) (news:=[_]) hP
   exact ⟨Am',cm',An,cn,Ao,co,I,((((Mm.lM hR9 3 I).fF An).fF Ao).pick S3 I I)⟩
 | dif0 h hu hk hr htd he hs hd =>
   rename_i q t
   have hk9:k=1:=hk
   subst hk9
   have hr9:rc=false:=hr
   subst hr9
   obtain ⟨hto,hcl⟩:=tC htd
   have hs6:=hsm q t hu htd
   refine (Xc bs A1 c1 its _ _ _ _ _ _ _ AD cD Dm q _ _ t se A2 c2 nm U w (hO.sub [0]) (r0.bJ hO [0]) (r1.bJ hO [0]) (r2.bJ hO [0]) (r3.bJ hO [0]) (by omega) hu I htd he hs hset h40 hc2 hs6 hd).mono ?_
   rintro e w' ⟨Am',cm',rfl,hP⟩
   have hR9:=hO.res [0] (ms':=[_]) (news:=[_]) hP
   exact ⟨Am',cm',An,cn,Ao,co,I,((((Mm.lM hR9 3 I).fF An).fF Ao).pick S3 I I)⟩
 | dif1 h hu hk hr htd he hs hd =>
   rename_i q t offs' needs'
   have hk9:k=1:=hk
   subst hk9
   have hr9:rc=false:=hr
   subst hr9
   obtain ⟨hto,hcl⟩:=tC htd
   have hs6:=hsm q t hu htd
   obtain ⟨hkk,hag,-,-⟩:=Bl hd
   obtain ⟨⟨ho1,ho2⟩,hn1,hn2⟩:=Bm (vD (rI hset.1 t.cells.length) hto) hkk
   refine (WO bs A1 c1 its _ _ _ _ _ _ _ _ AD cD Dm q _ _ t offs' needs' w (hO.sub [0]) (r0.bJ hO [0]) (r1.bJ hO [0]) (r2.bJ hO [0]) (by omega) hu I htd he hs hset h40 hs6 hd ho1 ho2 hn2).mono ?_
   rintro e w' ⟨Ao',co',An',cn',Am',cm',rfl,hP⟩
   have hR9:=hO.res [0] (ms':=[_]) (news:=[_,_,_]) hP
   exact ⟨Am',cm',An',cn',Ao',co',I,((Mm.lM hR9 5 I).pick [0,1,2,4,3,5] I I)⟩
 | step h hu hk he hne her hre =>
   rename_i q
   refine (Xd bs A1 c1 its _ _ _ _ _ _ _ _ AD cD Dm q se A2 c2 nm U S T k w (hO.sub [0,1,2]) (r0.bJ hO [0,1,2]) (r1.bJ hO [0,1,2]) (r2.bJ hO [0,1,2]) (r3.bJ hO [0,1,2]) (by omega) hu he hne hset h40 hc2 (hD1 _ _ hu I) her hSb hTb hre hk).mono ?_
   rintro e w' ⟨Am',cm',rfl,hP⟩
   have hR9:=hO.res [0,1,2] (ms':=[_,_,_]) (news:=[_]) hP
   exact ⟨Am',cm',An,cn,Ao,co,I,((((Mm.lM hR9 3 I).fF An).fF Ao).pick S3 I I)⟩
 | stop h hu hk he hne her hre =>
   rename_i q
   refine (Xe bs A1 c1 its _ _ _ _ _ _ _ _ AD cD Dm q se A2 c2 nm U S T k w (hO.sub [0,1,2]) (r0.bJ hO [0,1,2]) (r1.bJ hO [0,1,2]) (r2.bJ hO [0,1,2]) (r3.bJ hO [0,1,2]) (by omega) hu he hne hset h40 hc2 (hD1 _ _ hu I) her hSb hTb hre hk).mono ?_
   rintro e w' ⟨Am',cm',rfl,hP⟩
   have hR9:=hO.res [0,1,2] (ms':=[_,_,_]) (news:=[_]) hP
   exact ⟨Am',cm',An,cn,Ao,co,I,((((Mm.lM hR9 3 I).fF An).fF Ao).pick S3 I I)⟩
 | diff h hu hk han hao he hag =>
   rename_i q
   have hk9:k=2:=hk
   subst hk9
   refine (WQ bs A1 c1 its _ _ _ _ _ _ _ _ _ AD cD Dm q _ _ _ _ w (hO.sub [0]) (r1.bJ hO [0]) (r2.bJ hO [0]) (by omega) hu I I he han hao hag hset.2 (by omega)).mono ?_
   rintro e w' ⟨An',cn',Ao',co',rfl,hP⟩
   have hR9:=hO.res [0] (ms':=[_]) (news:=[_,_]) hP
   exact ⟨Am,cm,An',cn',Ao',co',I,(((Mm.lM hR9 3 I).lM 4 I).fF Am)⟩
 | fin h hu he hk =>
   rename_i q
   have hk9:k=3:=hk
   subst hk9
   refine (Xf bs _ _ _ _ _ _ _ _ _ _ AD cD Dm q w (hO.sub [0]) (r2.bJ hO [0]) (by omega) hu he).mono ?_
   rintro e w' ⟨rfl,hP⟩
   have hR9:=hO.res [0] (ms':=[_]) (news:=[]) hP
   exact ⟨Am,cm,An,cn,Ao,co,I,((hR9.fF An).fF Ao).fF Am⟩
theorem xI(bs A1 d its bg k Am f An g Ao h rc dn c A2 m b U S T AD L Dm a z w)(l:cC [aD bs 68 [(V A1 its d),(.bool bg),(C 2),(Y k),(V Am bG f),(.bool rc),(.bool dn),(Z c 0),bF,(V An dY g),(V Ao dY h)],aP b (S),aP U (T)] w)(W:Rf [aD bs 68 [(V A1 its d),(.bool bg),(C 2),(Y k),(V Am bG f),(.bool rc),(.bool dn),(Z c 0),bF,(V An dY g),(V Ao dY h)],aP b (S),aP U (T)] w (eG))(X:Rf [aD bs 68 [(V A1 its d),(.bool bg),(C 2),(Y k),(V Am bG f),(.bool rc),(.bool dn),(Z c 0),bF,(V An dY g),(V Ao dY h)],aP b (S),aP U (T)] w (λw=>aI w A1 (SS its)))(r2:Rf [aD bs 68 [(V A1 its d),(.bool bg),(C 2),(Y k),(V Am bG f),(.bool rc),(.bool dn),(Z c 0),bF,(V An dY g),(V Ao dY h)],aP b (S),aP U (T)] w (λw=>aI w AD (B8 Dm)))(r3:Rf [aD bs 68 [(V A1 its d),(.bool bg),(C 2),(Y k),(V Am bG f),(.bool rc),(.bool dn),(Z c 0),bF,(V An dY g),(V Ao dY h)],aP b (S),aP U (T)] w (jM c A2 m its 4 4 b U))(Q:lA its bg (Sd.mk 2 k [] rc dn false [] [] S T) Dm a z)(B:Dm.length<=4294967296)(A:∀ u q,(Rd.mk Dm 0 0 0).uint=(u,q)->u=3->q.rest.1.length<=1048576)(K:∀ q t,(Rd.mk Dm 0 0 0).uint=(2,q)->eZ q.sum.2.rest.1=some t->t.cells.length<=600)(P:z=3->Dm.length<=20000)(j:dD its)(y:its.length<=40)(H:its.length<=m)(E:S.length<=549755813888)(F:T.length<=549755813888):
  Θ 12 #[(Z bs 0),(V AD Dm L)] w λe O=>∃ (Am2:Δ) (n:Nat) (An2:Δ) (p:Nat) (Ao2:Δ) (s:Nat),e = .returned (C z)/\aN [aD bs 68 [(V A1 its d),(.bool bg),(C 2),(Y k),(V Am bG f),(.bool rc),(.bool dn),(Z c 0),bF,(V An dY g),(V Ao dY h)],aP b (S),aP U (T)] w [aD bs 68 [(V A1 its d),(.bool bg),(Y a.st),(Y a.k),(V Am2 a.m n),(.bool a.rc),(.bool a.dn),(Z c 0),(.bool a.sd),(V An2 a.needs p),(V Ao2 a.offs s)],aP b (a.S),aP U (a.T),bI An2 (SS a.needs),bI Ao2 (SS a.offs),bI Am2 (B8 a.m)] O:=by
 refine bS Tryz.func12 26 (l) rfl<|Nc<|G rfl<|Nb<|R<|MN zH _ rfl rfl J (λb8=>G I<|M (.func (.func 48) (M8 bs) #[])<|R<|MP (D:=zH) (val:=λv:Value=>v) 3 [(2,(.func _ _ #[]))] I I J I I I ACj I (show 2 < 100 by decide) I<|G I<|Nb<|G I<|M (Z bs 0)<|M (Z bs 2)<|lL 0 I<|lw (.tuple #[(.func _ _ #[]),bT]) (gY (MO 3 I I I ACj Tryz.zeroValue47 I (show 2 < 100 by decide)) I)<|G I<|Ne<|G I<|lF<|Nn<|aF<|G I ?_)
 refine R<|fT [0,1,2] _ (λw i l=>(Yn bs A1 d its bg k Am f An g Ao h rc dn c A2 m b U S T AD L Dm a z w l (W.bJ i [0,1,2]) (X.bJ i [0,1,2]) (r2.bJ i [0,1,2]) (r3.bJ i [0,1,2]) (Q) (B) (A) (K) (P) (j) (y) (H) (E) (F)).mono ?_) I I I J (WM I I I (wM AA4 J I))
 rintro e O ⟨Am225,o,An225,r,Ao225,x,rfl,N⟩
 refine ⟨_,[_,_,_],_,I,N,I,?_⟩; clear N i l
 exact G I<|Nd<|sN [_] λw i=>⟨_,_,_,_,_,_,I,(i.pick [0,1,2,4,5,6] I I)⟩
def pU(t:BT):Int:=match t.first with | some i=>(i:Int) | none=>-1
theorem DG(h:t.first=some i):pU t=(i:Int):=by unfold pU; rw [h]
theorem Yo(h:t.first=none):pU t = -1:=by unfold pU; rw [h]
theorem Hs(h:∀ j x,j < i->t.cells[j]?=some x->x.pure seed=false)(a:t.cells[i]?=some cc)(b:cc.pure seed=false):∀ j x,j < i+1->t.cells[j]?=some x->x.pure seed=false:=by
 grind
theorem Ot(h:c.checks≠jL seed 3 c.keys):c.pure seed=false:=by simp [BC.pure,h]
theorem Yp(a:c.count≠1)(b:c.count≠-1):c.pure seed=false:=by simp [BC.pure,a,b]
theorem Ou(a:c.count=1\/c.count = -1)(b:c.checks=jL seed 3 c.keys):c.pure seed=true:=by
 simp only [BC.pure,V6,ACf,U3]
 exact ⟨a,b⟩
theorem Yq(h:∀ j x,j < t.cells.length->t.cells[j]?=some x->x.pure t.seed=false):t.first=none:=by
 unfold BT.first
 rw [List.findIdx?_eq_none_iff]
 intro x b
 obtain ⟨j,a,rfl⟩:=AB5.1 b
 simpa using h j _ a (E1 a)
theorem Ov(h:∀ j x,j < i->t.cells[j]?=some x->x.pure t.seed=false)(a:t.cells[i]?=some cc)(b:cc.pure t.seed=true):t.first=some i:=by
 unfold BT.first
 rw [AAf]
 grind
abbrev T1(a:BC):Value:=.bool ((a.count:Int) == 1)
theorem Ow(g cap rest t n seed w)(ht:jU w g cap rest t)(hn:n=t.cells.length)(hs:seed=t.seed):
  Θ 115 #[(.agg #[(.int .u64 ((seed:Nat):Int)),(ql g n cap)])] w λe w'=>e = .returned (C (pU t))/\Fr [] w w':=by
 have HN:=D3 hn
 have HS:=D3 hs
 have HT:=D3 ht
 have n4:n<=3072:=by rw [HN.out]; exact (jQ ht.size).2.1
 clear hn hs ht
 refine eO Tryz.func115 37 (Mm.start w []) rfl<|Nc<|R<|pB _ λb1=>G I<|Ne<|G rfl<|Ng<|sL (λi=>i<=n/\∀ j x,j < i->t.cells[j]?=some x->x.pure seed=false) (λi=>n - i) (λi=>[(1,(Z b1 0)),(3,(Y i))]) (λi=>[aD b1 95 [(vU seed),(.slice (some ⟨g,0,none⟩) (n) (cap))]]) 0 ⟨U,λj x hj=>by omega⟩ η ?_
 intro i hok
 show St _ _ _ [(1,(Z b1 0)),(3,(Y i))] [aD b1 95 [(vU seed),(ql g n cap)]] _
 refine Ny<|G I<|M (Z b1 1)<|lL 0 I<|M (Y n)<|M (qb i n) ?_
 refine ζ I (λhd9=>?_) λhd9=>?_
 .have hle:=hok.1
  obtain ⟨cc,hc⟩:=gk t.cells i (by rw [<- HN.out]; omega)
  have hlt:i < n:=U
  have hcok:=HT.out.ok.cells cc (F0 hc)
  have hclen:=BC.cells_len hcok
  refine Nm<|aF<|M (Z b1 1)<|lL 0 rfl<|G rfl<|lw (C0 g i) (mI (e:=132) (sz:=34) rfl J J rfl rfl U)<|lw (I1 cc) (gI cc.cells rfl rfl J (by rw [hclen]; kernel_rfl) (λw hM j v hj=>by rw [K7]; exact hM.gA (wS HT.out hc j v hj) si))<|R<|pA A0 λb4=>R<|dE 1 cc.cells (vs:=cc.cells) I I J I I I (by rw [hclen]; kernel_rfl) I (by rw [hclen]; decide) (BC.pD cc) (sG (by rw [hclen]; rfl)) ?_
  refine Nf<|dN _ 19 J η<|aC 0 (Z b4 0) I ?_
  refine aV 1 _ I (bW 1 I I J I (lS cc)) ?_
  refine aC 2 (T1 cc) I ?_
  refine am 3 ?_
  refine Any.dec 20 I (λhc20=>?_) (λhc20=>?_)
  .refine kT (i:=4) (b:=true) I I I I J J θ<|kT (i:=5) (b:=true) I I I I J J θ<|kT (i:=6) (b:=true) I I I I J J θ<|aC 7 bT I<|am 8 ?_
   refine gM (i:=9) (Z b4 33) I I I I J J θ (gZ λ_=>by kernel_rfl)<|gM (i:=10) (vU _) rfl rfl rfl rfl J J θ (bW 1 rfl rfl J rfl (qH hcok.keys))<|gM (i:=11) (Z b1 0) rfl rfl rfl rfl J J θ (gZ λ_=>by kernel_rfl)<|gM (i:=12) _ rfl rfl rfl rfl J J θ (bW 0 rfl rfl J rfl rfl)<|gM (i:=13) (Z b4 1) rfl rfl rfl rfl J J θ (gZ λ_=>by kernel_rfl)<|gM (i:=14) (.slice _ (32) (32)) rfl rfl rfl rfl J J θ (gZ λ_=>by kernel_rfl)<|gM (i:=15) (vS cc.keys) rfl rfl rfl rfl J J θ (kM (e:=5) cc.keys rfl J J J rfl hcok.keys.symm (BZ (i:=1) rfl (λj v hj=>Az hj)))<|Ew (i:=16) J rfl rfl rfl<|eR 121 _ rfl J (λ_=>J) (λw hM=>(Cz seed 3 cc.keys w U (by rw [hcok.keys]; omega)).mono ?_)
   rintro e w' ⟨rfl,hf⟩
   have hM':=hM.eW hf
   refine ⟨(vU _),_,I,hM',?_⟩
   clear hM hM' hf
   refine aQ _ η η<|gM (i:=17) (.bool (((cc.checks:Int)) == ((jL seed 3 cc.keys:Nat)))) rfl rfl rfl rfl J J θ (gZ λ_=>by kernel_rfl)<|aC 18 (.bool ((cc.checks:Int) == ((jL seed 3 cc.keys:Nat):Int))) I<|cG J ?_
   refine aJ (aY I (λhc35=>?_) (λhc35=>?_))
   .have hp:cc.pure seed=true:=Ou (by have h:=eq_of_beq hc20; omega) (by have h:=eq_of_beq hc35; omega)
    exact Nc<|G rfl<|Nd<|eL<|cJ<|cJ<|eL<|cJ<|sN [(Y i)] λw hM=>⟨by rw [DG (Ov (by rw [<- HS.out]; exact hok.2) hc (by rw [<- HS.out]; exact hp))]; rfl,hM.fr⟩
   .exact Nw<|aF<|G rfl<|lw (Y (i+1)) bN<|G rfl<|aO (aJ (sA _ ⟨by show _<=_; omega,Hs hok.2 hc (Ot (by have h:=AB0 hc35; omega))⟩ oz (λ_ h=>h.sub (.cons_cons _ (.cons _ .slnil)))))
  .refine gM (i:=4) (Z b4 0) I I I I J J θ (gZ λ_=>by kernel_rfl)<|gM (i:=5) _ I I I I J J θ (bW 1 I I J I (lS cc)) ?_
   refine gM (i:=6) (.bool (cc.count == (-1))) I I I I J J θ (gZ λ_=>by kernel_rfl) ?_
   refine aC 7 (.bool ((cc.count:Int) == (-1))) I ?_
   refine am 8 ?_
   refine Any.dec 25 I (λhc25=>?_) (λhc25=>?_)
   .refine gM (i:=9) (Z b4 33) I I I I J J θ (gZ λ_=>by kernel_rfl)<|gM (i:=10) (vU _) rfl rfl rfl rfl J J θ (bW 1 rfl rfl J rfl (qH hcok.keys))<|gM (i:=11) (Z b1 0) rfl rfl rfl rfl J J θ (gZ λ_=>by kernel_rfl)<|gM (i:=12) _ rfl rfl rfl rfl J J θ (bW 0 rfl rfl J rfl rfl)<|gM (i:=13) (Z b4 1) rfl rfl rfl rfl J J θ (gZ λ_=>by kernel_rfl)<|gM (i:=14) (.slice _ (32) (32)) rfl rfl rfl rfl J J θ (gZ λ_=>by kernel_rfl)<|gM (i:=15) (vS cc.keys) rfl rfl rfl rfl J J θ (kM (e:=5) cc.keys rfl J J J rfl hcok.keys.symm (BZ (i:=1) rfl (λj v hj=>Az hj)))<|Ew (i:=16) J rfl rfl rfl<|eR 121 _ rfl J (λ_=>J) (λw hM=>(Cz seed 3 cc.keys w U (by rw [hcok.keys]; omega)).mono ?_)
    rintro e w' ⟨rfl,hf⟩
    have hM':=hM.eW hf
    refine ⟨(vU _),_,I,hM',?_⟩
    clear hM hM' hf
    refine aQ _ η η<|gM (i:=17) (.bool (((cc.checks:Int)) == ((jL seed 3 cc.keys:Nat)))) rfl rfl rfl rfl J J θ (gZ λ_=>by kernel_rfl)<|aC 18 (.bool ((cc.checks:Int) == ((jL seed 3 cc.keys:Nat):Int))) I<|cG J ?_
    refine aJ (aY I (λhc35=>?_) (λhc35=>?_))
    .have hp:cc.pure seed=true:=Ou (by have h:=eq_of_beq hc25; omega) (by have h:=eq_of_beq hc35; omega)
     exact Nc<|G rfl<|Nd<|eL<|cJ<|cJ<|eL<|cJ<|sN [(Y i)] λw hM=>⟨by rw [DG (Ov (by rw [<- HS.out]; exact hok.2) hc (by rw [<- HS.out]; exact hp))]; rfl,hM.fr⟩
    .exact Nw<|aF<|G rfl<|lw (Y (i+1)) bN<|G rfl<|aO (aJ (sA _ ⟨by show _<=_; omega,Hs hok.2 hc (Ot (by have h:=AB0 hc35; omega))⟩ oz (λ_ h=>h.sub (.cons_cons _ (.cons _ .slnil)))))
   .exact kT (i:=9) (b:=false) I I I I J J θ<|kT (i:=10) (b:=false) rfl rfl rfl rfl J J θ<|kT (i:=11) (b:=false) rfl rfl rfl rfl J J θ<|kT (i:=12) (b:=false) rfl rfl rfl rfl J J θ<|kT (i:=13) (b:=false) rfl rfl rfl rfl J J θ<|kT (i:=14) (b:=false) rfl rfl rfl rfl J J θ<|kT (i:=15) (b:=false) rfl rfl rfl rfl J J θ<|kT (i:=16) (b:=false) rfl rfl rfl rfl J J θ<|kT (i:=17) (b:=false) rfl rfl rfl rfl J J θ<|aC 18 bF rfl<|cG J<|aJ<|oO rfl<|Nw<|aF<|G rfl<|lw (Y (i+1)) bN<|G rfl<|aO (aJ (sA _ ⟨by show _<=_; omega,Hs hok.2 hc (Yp (by have h:=AB0 hc20; omega) (by have h:=AB0 hc25; omega))⟩ oz (λ_ h=>h.sub (.cons_cons _ (.cons _ .slnil)))))
 .have hle:=hok.1
  have hin:i=n:=U
  have hnone:t.first=none:=Yq (by rw [<- HS.out,<- HN.out,<- hin]; exact hok.2)
  exact Nj<|aF<|G rfl<|Nd<|sN [(C (-1))] λw hM=>⟨by rw [Yo hnone]; rfl,hM.fr⟩
theorem Ox(A c)(l:List fJ)(p:fJ)(w)(E:aI w A (l.map aZ))(H:l.length<=1000000)(d:rH l p=true):
  Θ 116 #[.slice A l.length c,.string (bL p)] w λe F=>e = .returned (.tuple #[.slice A l.length c,.bool true])/\Fr [] w F:=by
 have HR:=D3 E
 have D:=Ga l p
 clear E
 refine bS Tryz.func116 46 (Mm.start w []) rfl<|Nc<|G rfl<|Nb<|G rfl<|Nf<|fY<|sL (λk=>k<=gQ l p) (λk=>gQ l p - k) (λk=>[(0,(.slice A (l.length) (c))),(1,(vS p)),(6,(Y k))]) (λk=>[]) 0 (G6 _) η ?_
 intro k (z:k<=gQ l p)
 show St _ _ _ [(0,(.slice A (l.length) (c))),(1,(vS p)),(6,(Y k))] [] _
 refine Ny<|G I<|M (Y l.length)<|M (qb k l.length)<|lm ?_
 refine St.dec 11 I (λg=>?_) (λg=>?_)
 .have t:=D4 g
  have q:k < l.length:=U
  obtain ⟨x,s⟩:=gk l k q
  obtain ⟨b,o,u,y,n⟩:=HR.out k (aZ x) (by grind)
  subst u
  refine dP I I<|fH (.slice _ _ (c)) rfl J (jC rfl rfl)<|dP rfl rfl<|fH (Y k) rfl J (jC rfl rfl)<|dP rfl rfl<|fH _ rfl J (tR (e:=9) rfl J J rfl rfl U)<|dP rfl rfl<|fH (vS x) rfl J (gN rfl rfl J (λw m=>m.gA n si))<|dP I I<|fH (vS p) I J (jC I I)<|dP I I<|fH (.bool (decide (x < p))) I J (wL I I I)<|M (.bool (decide (x < p))) ?_
  refine ζ I (λi=>?_) λi=>?_
  .have B:=(CX z s).1 i
   exact gL<|aJ<|fY<|aF<|G I<|lw (Y (k+1)) bN<|G I<|Ns<|aJ (sA (k+1) oz oz η)
  .have f:k=gQ l p:=by have:=mt (CX z s).2 i; omega
   refine Nj<|Nc<|G I<|M (Y l.length)<|M (qb k l.length)<|lm ?_
   refine St.dec 25 I (λa=>?_) (λa=>?_)
   .have j:=D4 a
    have r:x=p:=by have h:=d; rw [rH,U3,<- f,s] at h; exact Z0 h
    subst r
    exact dP I I<|fH _ rfl J (jC rfl rfl)<|dP rfl rfl<|fH _ rfl J (jC rfl rfl)<|dP rfl rfl<|fH _ rfl J (tR (e:=9) rfl J J rfl rfl U)<|dP rfl rfl<|fH _ rfl J (gN rfl rfl J (λw m=>m.gA n si))<|dP rfl rfl<|fH _ rfl J (jC rfl rfl)<|dP rfl rfl<|fH bT rfl J (gY (lQ rfl rfl rfl) si)<|lT<|No<|G rfl<|Nh<|sN [_,bT] λw m=>⟨I,m.fr⟩
   .have j:=C7 a
    exfalso
    have h:=d
    rw [rH,U3,<- f,Y7 (su a)] at h
    cases h
 .have t:=C7 g
  have f:=Lz z (su g)
  refine iK (b:=false) I I J I<|iK (b:=false) I I J I<|iK (b:=false) I I J I<|iK (b:=false) I I J I<|iK (b:=false) I I J I<|iK (b:=false) I I J I<|lF<|Nu<|Nj<|Nc<|G I<|M (Y l.length)<|M (qb k l.length)<|lm ?_
  refine St.dec 25 I (λa=>?_) (λa=>?_)
  .have j:=D4 a
   have q:k < l.length:=U
   obtain ⟨x,s⟩:=gk l k q
   obtain ⟨b,o,u,y,n⟩:=HR.out k (aZ x) (by rw [U8,s]; rfl)
   subst u
   have r:x=p:=by have h:=d; rw [rH,U3,<- f,s] at h; exact Z0 h
   subst r
   exact dP I I<|fH _ rfl J (jC rfl rfl)<|dP rfl rfl<|fH _ rfl J (jC rfl rfl)<|dP rfl rfl<|fH _ rfl J (tR (e:=9) rfl J J rfl rfl U)<|dP rfl rfl<|fH _ rfl J (gN rfl rfl J (λw m=>m.gA n si))<|dP rfl rfl<|fH _ rfl J (jC rfl rfl)<|dP rfl rfl<|fH bT rfl J (gY (lQ rfl rfl rfl) si)<|lT<|No<|G rfl<|Nh<|sN [_,bT] λw m=>⟨I,m.fr⟩
  .have j:=C7 a
   exfalso
   have h:=d
   rw [rH,U3,<- f,Y7 (su a)] at h
   cases h
theorem qO(l:List fJ)(k):∀ u∈(l.map aZ).take k,u.oneCell'=true:=by
 intro u a
 obtain ⟨x,_,rfl⟩:=Y9.1 (l9 a)
 rfl
theorem qP(l:List fJ)(k):∀ u∈(l.map aZ).drop k,u.oneCell'=true:=by
 intro u a
 obtain ⟨x,_,rfl⟩:=Y9.1 (AA1 a)
 rfl
theorem zO(A c)(l:List fJ)(p:fJ)(w)(Q:aI w A (l.map aZ))(T:l.length<=1000000)(s:l.length<=c)(z:rH l p=false):
  Θ 116 #[.slice A l.length c,.string (bL p)] w λe S=>∃ A' c',e = .returned (.tuple #[.slice A' (l.length+1) c',.bool false])/\Mm w [] [bD 9 1 A' (l.length+1) c' ((gU l p).map aZ)] S:=by
 have HR:=D3 Q
 have P:=Ga l p
 clear Q
 refine bS Tryz.func116 46 (Mm.start w []) rfl<|Nc<|G rfl<|Nb<|G rfl<|Nf<|fY<|sL (λk=>k<=gQ l p) (λk=>gQ l p - k) (λk=>[(0,(.slice A (l.length) (c))),(1,(vS p)),(6,(Y k))]) (λk=>[]) 0 (G6 _) η ?_
 intro k (N:k<=gQ l p)
 show St _ _ _ [(0,(.slice A (l.length) (c))),(1,(vS p)),(6,(Y k))] [] _
 refine Ny<|G I<|M (Y l.length)<|M (.bool (decide ((k:Int) < (l.length:Int))))<|lm ?_
 refine St.dec 11 I (λt=>?_) (λt=>?_)
 .have F:=D4 t
  have D:k < l.length:=U
  obtain ⟨x,E⟩:∃ x,l[k]?=some x:=⟨_,E1 D⟩
  obtain ⟨b,o,K,L,y⟩:=HR.out k (aZ x) (by rw [U8,E]; rfl)
  subst K
  refine dP I I<|fH (.slice _ _ (c)) rfl J (jC rfl rfl)<|dP rfl rfl<|fH (Y k) rfl J (jC rfl rfl)<|dP rfl rfl<|fH _ rfl J (tR (e:=9) rfl J J rfl rfl U)<|dP rfl rfl<|fH (vS x) rfl J (gN rfl rfl J (λw n=>n.gA y si))<|dP I I<|fH (vS p) I J (jC I I)<|dP I I<|fH (.bool (decide (x < p))) I J (wL I I I)<|M (.bool (decide (x < p))) ?_
  refine ζ I (λu=>?_) λu=>?_
  .have O:=(CX N E).1 u
   exact gL<|aJ<|fY<|aF<|G I<|lw (Y (k+1)) bN<|G I<|Ns<|aJ (sA (k+1) oz oz η)
  .have q:k=gQ l p:=by have:=mt (CX N E).2 u; omega
   refine Nj<|Nc<|G I<|M (Y l.length)<|M (.bool (decide ((k:Int) < (l.length:Int))))<|lm ?_
   refine St.dec 25 I (λr=>?_) (λr=>?_)
   .have B:=D4 r
    have H:x≠p:=by rintro rfl; grind [rH]
    refine dP I I<|fH (.slice _ _ (c)) rfl J (jC rfl rfl)<|dP rfl rfl<|fH (Y k) rfl J (jC rfl rfl)<|dP rfl rfl<|fH _ rfl J (tR (e:=9) rfl J J rfl rfl U)<|dP rfl rfl<|fH (vS x) rfl J (gN rfl rfl J (λw n=>n.gA y si))<|dP I I<|fH (vS p) I J (jC I I)<|dP I I<|fH (.bool (decide (x=p))) I J (lQ I I I)<|M (.bool (decide (x=p)))<|Na<|fD I (by grind) ?_
    refine gL (aJ (qU (ι:=Nat × Δ × Nat × Nat × Δ × Nat × Δ × Nat) (λ_=>True) (λ(m,A38,f,d,A41,g,A45,a)=>[(0,(.slice (some ⟨b,o,none⟩) (l.length) (c))),(1,(vS p)),(6,(Y k)),(7,(Y k)),(8,(.slice (some ⟨b,o,none⟩) (l.length) (c))),(9,(Y l.length)),(10,(.bool (decide ((k:Int) < ((l.length:Nat)))))),(11,bT),(12,(.slice (some ⟨b,o,none⟩) (l.length) (c))),(13,(Y k)),(14,(.pointer (some ⟨b,o+k,none⟩))),(15,(vS x)),(16,(vS p)),(17,(.bool (decide (x < p)))),(18,(.bool (decide (x < p)))),(21,(Y k)),(22,(.slice (some ⟨b,o,none⟩) (l.length) (c))),(23,(Y l.length)),(24,(.bool (decide ((k:Int) < ((l.length:Nat)))))),(25,bT),(26,(.slice (some ⟨b,o,none⟩) (l.length) (c))),(27,(Y k)),(28,(.pointer (some ⟨b,o+k,none⟩))),(29,(vS x)),(30,(vS p)),(31,(.bool (decide (x=p)))),(32,(.bool (decide (x=p)))),(35,(.slice (some ⟨b,o,none⟩) (l.length) (c))),(36,(Y k)),(37,(.slice (some ⟨b,o,none⟩) (k) (c))),(39,(vS p)),(42,(.slice (some ⟨b,o,none⟩) (l.length) (c))),(43,(Y k)),(44,(.slice (if c=k then (some ⟨b,o,none⟩) else ((some ⟨b,o,none⟩):Δ).map (·.add (k*1))) (l.length - k) (c - k))),(34,(.slice (some ⟨m,0,none⟩) (0) (0))),(38,(.slice A38 (k) (f))),(40,(.slice (some ⟨d,0,none⟩) (1) (1))),(41,(.slice A41 (k+1) (g))),(45,(.slice A45 (l.length+1) (a))),(4,(.slice A45 (l.length+1) (a))),(5,bF)]) (λ(m,A38,f,d,A41,g,A45,a)=>[bD 9 1 A45 (l.length+1) (a) ((gU l p).map aZ),aD d 9 [(vS p)]]) ?_ ?_))
    .refine dN [] 14 J η ?_
     refine am 1 ?_
     refine am 2 ?_
     refine aV 3 _ I (sH (e:=9) I J J I I U)<|am 5 ?_
     refine am 8 ?_
     refine am 9 ?_
     refine aV 10 _ I (sI (e:=9) (sz:=1) I J J I I U) ?_
     refine kU (i:=0) (j:=6) J I I I I ?_ ?_
     .refine pN 0 9 [] λm=>aQ _ η (λ_ h=>h.sub (.cons _ .slnil)) ?_
      refine kU (i:=4) (j:=6) J I I I I ?_ ?_
      .refine nW gD 0 _ I I J I I I (by rw [I8,K0]; omega) (λw n=>qE (HR.out.eW n.fr) k) (qO l k) U k I ((l.take k).map aZ) (by rw [o5]) (λA38 f=>aQ _ η (λ_ h=>h.sub (.cons _ .slnil))<|dW (i:=6) J rfl rfl<|pN 1 9 [(vS p)] λd=>aQ _ (λ_ h=>h.sub (.cons _ .slnil)) (λ_ h=>h.sub (.cons _ (.cons_cons _ .slnil)))<|dW (i:=7) J rfl rfl<|cL gD 0 [aZ p] rfl rfl J rfl rfl rfl rfl (fE (i:=1) (off:=0) rfl yy) (by simp [aZ,Value.oneCell']) U (k+1) rfl ((l.take k++[p]).map aZ) si (λA41 g=>aQ _ η (λ_ h=>h.sub (.cons _ (.cons_cons _ .slnil)))<|dW (i:=11) J rfl rfl<|cL gD 0 _ rfl rfl J rfl rfl rfl (by rw [Q7,K0,X1]) (λw n=>qD (HR.out.eW n.fr) (by rw [K0]; exact s)) (qP l k) U (l.length+1) U ((gU l p).map aZ) (by unfold gU; rw [<- q]; simp) (λA45 a=>aQ _ (λ_ h=>h.sub (.cons _ (.cons_cons _ .slnil))) η<|aa 12 ?_)))
       refine aa 13 ?_
       exact cG J<|aJ (sM (m,A38,f,d,A41,g,A45,a) trivial η)
      .refine pN 1 9 [(vS p)] λd=>aQ _ (λ_ h=>h.sub (.cons _ .slnil)) (λ_ h=>h.sub (.cons _ (.cons_cons _ .slnil)))<|dW (i:=4) J rfl rfl<|nW gD 0 _ rfl rfl J rfl rfl rfl (by rw [I8,K0]; omega) (λw n=>qE (HR.out.eW n.fr) k) (qO l k) U k I ((l.take k).map aZ) (by rw [o5]) (λA38 f=>aQ _ η (λ_ h=>h.sub (.cons _ (.cons_cons _ .slnil)))<|dW (i:=7) J rfl rfl<|cL gD 0 [aZ p] rfl rfl J rfl rfl rfl rfl (fE (i:=1) (off:=0) rfl yy) (by simp [aZ,Value.oneCell']) U (k+1) rfl ((l.take k++[p]).map aZ) si (λA41 g=>aQ _ η (λ_ h=>h.sub (.cons _ (.cons_cons _ .slnil)))<|dW (i:=11) J rfl rfl<|cL gD 0 _ rfl rfl J rfl rfl rfl (by rw [Q7,K0,X1]) (λw n=>qD (HR.out.eW n.fr) (by rw [K0]; exact s)) (qP l k) U (l.length+1) U ((gU l p).map aZ) (by unfold gU; rw [<- q]; simp) (λA45 a=>aQ _ (λ_ h=>h.sub (.cons _ (.cons_cons _ .slnil))) η<|aa 12 ?_)))
       refine aa 13 ?_
       exact cG J<|aJ (sM (m,A38,f,d,A41,g,A45,a) trivial η)
     .refine pN 1 9 [(vS p)] λd=>aQ _ (λ_ h=>h.sub (.cons _ .slnil)) η<|dW (i:=0) J rfl rfl<|pN 0 9 [] λm=>aQ _ η (λ_ h=>h.sub (.cons_cons _ (.cons _ .slnil)))<|dW (i:=4) J rfl rfl<|nW gD 1 _ rfl rfl J rfl rfl rfl (by rw [I8,K0]; omega) (λw n=>qE (HR.out.eW n.fr) k) (qO l k) U k I ((l.take k).map aZ) (by rw [o5]) (λA38 f=>aQ _ η (λ_ h=>h.sub (.cons_cons _ (.cons _ .slnil)))<|dW (i:=7) J rfl rfl<|cL gD 1 [aZ p] rfl rfl J rfl rfl rfl rfl (fE (i:=0) (off:=0) rfl yy) (by simp [aZ,Value.oneCell']) U (k+1) rfl ((l.take k++[p]).map aZ) si (λA41 g=>aQ _ η (λ_ h=>h.sub (.cons_cons _ (.cons _ .slnil)))<|dW (i:=11) J rfl rfl<|cL gD 1 _ rfl rfl J rfl rfl rfl (by rw [Q7,K0,X1]) (λw n=>qD (HR.out.eW n.fr) (by rw [K0]; exact s)) (qP l k) U (l.length+1) U ((gU l p).map aZ) (by unfold gU; rw [<- q]; simp) (λA45 a=>aQ _ (λ_ h=>h.sub (.cons_cons _ (.cons _ .slnil))) η<|aa 12 ?_)))
      refine aa 13 ?_
      exact cG J<|aJ (sM (m,A38,f,d,A41,g,A45,a) trivial (λ_ h=>h.perm (.swap _ _ _)))
    .rintro ⟨m,A38,f,d,A41,g,A45,a⟩ -
     dsimp only
     exact gW<|sN [_,bF] λw n=>⟨A45,a,I,(λw (h:Mm _ _ _ w)=>Mm.sub h (.cons_cons _ (.cons _ .slnil))) w n⟩
   grind
 .have F:=C7 t
  have q:=Lz N (su t)
  refine iK (b:=false) I I J I<|iK (b:=false) I I J I<|iK (b:=false) I I J I<|iK (b:=false) I I J I<|iK (b:=false) I I J I<|iK (b:=false) I I J I<|lF<|Nu<|Nj<|Nc<|G I<|M (Y l.length)<|M (.bool (decide ((k:Int) < (l.length:Int))))<|lm ?_
  refine St.dec 25 I (λr=>?_) (λr=>?_)
  .have B:=D4 r
   have D:k < l.length:=U
   obtain ⟨x,E⟩:=gk l k D
   obtain ⟨b,o,K,L,y⟩:=HR.out k (aZ x) (by rw [U8,E]; rfl)
   subst K
   have H:x≠p:=by rintro rfl; have h:=z; rw [rH,u0,<- q] at h; exact h E
   refine dP I I<|fH (.slice _ _ (c)) rfl J (jC rfl rfl)<|dP rfl rfl<|fH (Y k) rfl J (jC rfl rfl)<|dP rfl rfl<|fH _ rfl J (tR (e:=9) rfl J J rfl rfl U)<|dP rfl rfl<|fH (vS x) rfl J (gN rfl rfl J (λw n=>n.gA y si))<|dP I I<|fH (vS p) I J (jC I I)<|dP I I<|fH (.bool (decide (x=p))) I J (lQ I I I)<|M (.bool (decide (x=p)))<|Na<|fD I (by simp [H]) ?_
   refine gL (aJ (qU (ι:=Nat × Δ × Nat × Nat × Δ × Nat × Δ × Nat) (λ_=>True) (λ(m,A38,f,d,A41,g,A45,a)=>[(0,(.slice (some ⟨b,o,none⟩) (l.length) (c))),(1,(vS p)),(6,(Y k)),(7,(Y k)),(8,(.slice (some ⟨b,o,none⟩) (l.length) (c))),(9,(Y l.length)),(10,(.bool (decide ((k:Int) < ((l.length:Nat)))))),(11,bF),(12,undef),(13,undef),(14,undef),(15,undef),(16,undef),(17,undef),(18,bF),(21,(Y k)),(22,(.slice (some ⟨b,o,none⟩) (l.length) (c))),(23,(Y l.length)),(24,(.bool (decide ((k:Int) < ((l.length:Nat)))))),(25,bT),(26,(.slice (some ⟨b,o,none⟩) (l.length) (c))),(27,(Y k)),(28,(.pointer (some ⟨b,o+k,none⟩))),(29,(vS x)),(30,(vS p)),(31,(.bool (decide (x=p)))),(32,(.bool (decide (x=p)))),(35,(.slice (some ⟨b,o,none⟩) (l.length) (c))),(36,(Y k)),(37,(.slice (some ⟨b,o,none⟩) (k) (c))),(39,(vS p)),(42,(.slice (some ⟨b,o,none⟩) (l.length) (c))),(43,(Y k)),(44,(.slice (if c=k then (some ⟨b,o,none⟩) else ((some ⟨b,o,none⟩):Δ).map (·.add (k*1))) (l.length - k) (c - k))),(34,(.slice (some ⟨m,0,none⟩) (0) (0))),(38,(.slice A38 (k) (f))),(40,(.slice (some ⟨d,0,none⟩) (1) (1))),(41,(.slice A41 (k+1) (g))),(45,(.slice A45 (l.length+1) (a))),(4,(.slice A45 (l.length+1) (a))),(5,bF)]) (λ(m,A38,f,d,A41,g,A45,a)=>[bD 9 1 A45 (l.length+1) (a) ((gU l p).map aZ),aD d 9 [(vS p)]]) ?_ ?_))
   .refine dN [] 14 J η ?_
    refine am 1 ?_
    refine am 2 ?_
    refine aV 3 _ I (sH (e:=9) I J J I I U)<|am 5 ?_
    refine am 8 ?_
    refine am 9 ?_
    refine aV 10 _ I (sI (e:=9) (sz:=1) I J J I I U) ?_
    refine kU (i:=0) (j:=6) J I I I I ?_ ?_
    .refine pN 0 9 [] λm=>aQ _ η (λ_ h=>h.sub (.cons _ .slnil)) ?_
     refine kU (i:=4) (j:=6) J I I I I ?_ ?_
     .refine nW gD 0 _ I I J I I I (by rw [I8,K0]; omega) (λw n=>qE (HR.out.eW n.fr) k) (qO l k) U k I ((l.take k).map aZ) (by rw [o5]) (λA38 f=>aQ _ η (λ_ h=>h.sub (.cons _ .slnil))<|dW (i:=6) J rfl rfl<|pN 1 9 [(vS p)] λd=>aQ _ (λ_ h=>h.sub (.cons _ .slnil)) (λ_ h=>h.sub (.cons _ (.cons_cons _ .slnil)))<|dW (i:=7) J rfl rfl<|cL gD 0 [aZ p] rfl rfl J rfl rfl rfl rfl (fE (i:=1) rfl yy) (by simp [aZ,Value.oneCell']) U (k+1) rfl ((l.take k++[p]).map aZ) si (λA41 g=>aQ _ η (λ_ h=>h.sub (.cons _ (.cons_cons _ .slnil)))<|dW (i:=11) J rfl rfl<|cL gD 0 _ rfl rfl J rfl rfl rfl (by rw [Q7,K0,X1]) (λw n=>qD (HR.out.eW n.fr) (by rw [K0]; exact s)) (qP l k) U (l.length+1) U ((gU l p).map aZ) (by unfold gU; rw [<- q]; simp) (λA45 a=>aQ _ (λ_ h=>h.sub (.cons _ (.cons_cons _ .slnil))) η<|aa 12 ?_)))
      refine aa 13 ?_
      exact cG J<|aJ (sM (m,A38,f,d,A41,g,A45,a) trivial η)
     .refine pN 1 9 [(vS p)] λd=>aQ _ (λ_ h=>h.sub (.cons _ .slnil)) (λ_ h=>h.sub (.cons _ (.cons_cons _ .slnil)))<|dW (i:=4) J rfl rfl<|nW gD 0 _ rfl rfl J rfl rfl rfl (by rw [I8,K0]; omega) (λw n=>qE (HR.out.eW n.fr) k) (qO l k) U k I ((l.take k).map aZ) (by rw [o5]) (λA38 f=>aQ _ η (λ_ h=>h.sub (.cons _ (.cons_cons _ .slnil)))<|dW (i:=7) J rfl rfl<|cL gD 0 [aZ p] rfl rfl J rfl rfl rfl rfl (fE (i:=1) rfl yy) (by simp [aZ,Value.oneCell']) U (k+1) rfl ((l.take k++[p]).map aZ) si (λA41 g=>aQ _ η (λ_ h=>h.sub (.cons _ (.cons_cons _ .slnil)))<|dW (i:=11) J rfl rfl<|cL gD 0 _ rfl rfl J rfl rfl rfl (by rw [Q7,K0,X1]) (λw n=>qD (HR.out.eW n.fr) (by rw [K0]; exact s)) (qP l k) U (l.length+1) U ((gU l p).map aZ) (by unfold gU; rw [<- q]; simp) (λA45 a=>aQ _ (λ_ h=>h.sub (.cons _ (.cons_cons _ .slnil))) η<|aa 12 ?_)))
      refine aa 13 ?_
      exact cG J<|aJ (sM (m,A38,f,d,A41,g,A45,a) trivial η)
    .refine pN 1 9 [(vS p)] λd=>aQ _ (λ_ h=>h.sub (.cons _ .slnil)) η<|dW (i:=0) J rfl rfl<|pN 0 9 [] λm=>aQ _ η (λ_ h=>h.sub (.cons_cons _ (.cons _ .slnil)))<|dW (i:=4) J rfl rfl<|nW gD 1 _ rfl rfl J rfl rfl rfl (by rw [I8,K0]; omega) (λw n=>qE (HR.out.eW n.fr) k) (qO l k) U k I ((l.take k).map aZ) (by rw [o5]) (λA38 f=>aQ _ η (λ_ h=>h.sub (.cons_cons _ (.cons _ .slnil)))<|dW (i:=7) J rfl rfl<|cL gD 1 [aZ p] rfl rfl J rfl rfl rfl rfl (fE (i:=0) (off:=0) rfl yy) (by simp [aZ,Value.oneCell']) U (k+1) rfl ((l.take k++[p]).map aZ) si (λA41 g=>aQ _ η (λ_ h=>h.sub (.cons_cons _ (.cons _ .slnil)))<|dW (i:=11) J rfl rfl<|cL gD 1 _ rfl rfl J rfl rfl rfl (by rw [Q7,K0,X1]) (λw n=>qD (HR.out.eW n.fr) (by rw [K0]; exact s)) (qP l k) U (l.length+1) U ((gU l p).map aZ) (by unfold gU; rw [<- q]; simp) (λA45 a=>aQ _ (λ_ h=>h.sub (.cons_cons _ (.cons _ .slnil))) η<|aa 12 ?_)))
     refine aa 13 ?_
     exact cG J<|aJ (sM (m,A38,f,d,A41,g,A45,a) trivial (λ_ h=>h.perm (.swap _ _ _)))
   .rintro ⟨m,A38,f,d,A41,g,A45,a⟩ -
    dsimp only
    exact gW<|sN [_,bF] λw n=>⟨A45,a,I,(λw h=>Mm.sub h (.cons_cons _ (.cons _ .slnil))) w n⟩
  .have B:=C7 r
   refine iK (b:=false) I I J I<|iK (b:=false) I I J I<|iK (b:=false) I I J I<|iK (b:=false) I I J I<|iK (b:=false) I I J I<|iK (b:=false) I I J I<|lF<|Nu ?_
   refine gL (aJ (qU (ι:=Nat × Δ × Nat × Nat × Δ × Nat × Δ × Nat) (λ_=>True) (λ(m,A38,f,d,A41,g,A45,a)=>[(0,(.slice A (l.length) (c))),(1,(vS p)),(6,(Y k)),(7,(Y k)),(8,(.slice A (l.length) (c))),(9,(Y l.length)),(10,(.bool (decide ((k:Int) < ((l.length:Nat)))))),(11,bF),(12,undef),(13,undef),(14,undef),(15,undef),(16,undef),(17,undef),(18,bF),(21,(Y k)),(22,(.slice A (l.length) (c))),(23,(Y l.length)),(24,(.bool (decide ((k:Int) < ((l.length:Nat)))))),(25,bF),(26,undef),(27,undef),(28,undef),(29,undef),(30,undef),(31,undef),(32,bF),(35,(.slice A (l.length) (c))),(36,(Y k)),(37,(.slice A (k) (c))),(39,(vS p)),(42,(.slice A (l.length) (c))),(43,(Y k)),(44,(.slice (if c=k then A else A.map (·.add (k*1))) (l.length - k) (c - k))),(34,(.slice (some ⟨m,0,none⟩) (0) (0))),(38,(.slice A38 (k) (f))),(40,(.slice (some ⟨d,0,none⟩) (1) (1))),(41,(.slice A41 (k+1) (g))),(45,(.slice A45 (l.length+1) (a))),(4,(.slice A45 (l.length+1) (a))),(5,bF)]) (λ(m,A38,f,d,A41,g,A45,a)=>[bD 9 1 A45 (l.length+1) (a) ((gU l p).map aZ),aD d 9 [(vS p)]]) ?_ ?_))
   .refine dN [] 14 J η ?_
    refine am 1 ?_
    refine am 2 ?_
    refine aV 3 _ I (sH (e:=9) I J J I I U)<|am 5 ?_
    refine am 8 ?_
    refine am 9 ?_
    refine aV 10 _ I (sI (e:=9) (sz:=1) I J J I I U) ?_
    refine kU (i:=0) (j:=6) J I I I I ?_ ?_
    .refine pN 0 9 [] λm=>aQ _ η (λ_ h=>h.sub (.cons _ .slnil)) ?_
     refine kU (i:=4) (j:=6) J I I I I ?_ ?_
     .refine nW gD 0 _ I I J I I I (by rw [I8,K0]; omega) (λw n=>qE (HR.out.eW n.fr) k) (qO l k) U k I ((l.take k).map aZ) (by rw [o5]) (λA38 f=>aQ _ η (λ_ h=>h.sub (.cons _ .slnil))<|dW (i:=6) J rfl rfl<|pN 1 9 [(vS p)] λd=>aQ _ (λ_ h=>h.sub (.cons _ .slnil)) (λ_ h=>h.sub (.cons _ (.cons_cons _ .slnil)))<|dW (i:=7) J rfl rfl<|cL gD 0 [aZ p] rfl rfl J rfl rfl rfl rfl (fE (i:=1) rfl yy) (by simp [aZ,Value.oneCell']) U (k+1) rfl ((l.take k++[p]).map aZ) si (λA41 g=>aQ _ η (λ_ h=>h.sub (.cons _ (.cons_cons _ .slnil)))<|dW (i:=11) J rfl rfl<|cL gD 0 _ rfl rfl J rfl rfl rfl (by rw [Q7,K0,X1]) (λw n=>qD (HR.out.eW n.fr) (by rw [K0]; exact s)) (qP l k) U (l.length+1) U ((gU l p).map aZ) (by unfold gU; rw [<- q]; simp) (λA45 a=>aQ _ (λ_ h=>h.sub (.cons _ (.cons_cons _ .slnil))) η<|aa 12 ?_)))
      refine aa 13 ?_
      exact cG J<|aJ (sM (m,A38,f,d,A41,g,A45,a) trivial η)
     .refine pN 1 9 [(vS p)] λd=>aQ _ (λ_ h=>h.sub (.cons _ .slnil)) (λ_ h=>h.sub (.cons _ (.cons_cons _ .slnil)))<|dW (i:=4) J rfl rfl<|nW gD 0 _ rfl rfl J rfl rfl rfl (by rw [I8,K0]; omega) (λw n=>qE (HR.out.eW n.fr) k) (qO l k) U k I ((l.take k).map aZ) (by rw [o5]) (λA38 f=>aQ _ η (λ_ h=>h.sub (.cons _ (.cons_cons _ .slnil)))<|dW (i:=7) J rfl rfl<|cL gD 0 [aZ p] rfl rfl J rfl rfl rfl rfl (fE (i:=1) rfl yy) (by simp [aZ,Value.oneCell']) U (k+1) rfl ((l.take k++[p]).map aZ) si (λA41 g=>aQ _ η (λ_ h=>h.sub (.cons _ (.cons_cons _ .slnil)))<|dW (i:=11) J rfl rfl<|cL gD 0 _ rfl rfl J rfl rfl rfl (by rw [Q7,K0,X1]) (λw n=>qD (HR.out.eW n.fr) (by rw [K0]; exact s)) (qP l k) U (l.length+1) U ((gU l p).map aZ) (by unfold gU; rw [<- q]; simp) (λA45 a=>aQ _ (λ_ h=>h.sub (.cons _ (.cons_cons _ .slnil))) η<|aa 12 ?_)))
      refine aa 13 ?_
      exact cG J<|aJ (sM (m,A38,f,d,A41,g,A45,a) trivial η)
    .refine pN 1 9 [(vS p)] λd=>aQ _ (λ_ h=>h.sub (.cons _ .slnil)) η<|dW (i:=0) J rfl rfl<|pN 0 9 [] λm=>aQ _ η (λ_ h=>h.sub (.cons_cons _ (.cons _ .slnil)))<|dW (i:=4) J rfl rfl<|nW gD 1 _ rfl rfl J rfl rfl rfl (by rw [I8,K0]; omega) (λw n=>qE (HR.out.eW n.fr) k) (qO l k) U k I ((l.take k).map aZ) (by rw [o5]) (λA38 f=>aQ _ η (λ_ h=>h.sub (.cons_cons _ (.cons _ .slnil)))<|dW (i:=7) J rfl rfl<|cL gD 1 [aZ p] rfl rfl J rfl rfl rfl rfl (fE (i:=0) (off:=0) rfl yy) (by simp [aZ,Value.oneCell']) U (k+1) rfl ((l.take k++[p]).map aZ) si (λA41 g=>aQ _ η (λ_ h=>h.sub (.cons_cons _ (.cons _ .slnil)))<|dW (i:=11) J rfl rfl<|cL gD 1 _ rfl rfl J rfl rfl rfl (by rw [Q7,K0,X1]) (λw n=>qD (HR.out.eW n.fr) (by rw [K0]; exact s)) (qP l k) U (l.length+1) U ((gU l p).map aZ) (by unfold gU; rw [<- q]; simp) (λA45 a=>aQ _ (λ_ h=>h.sub (.cons_cons _ (.cons _ .slnil))) η<|aa 12 ?_)))
     refine aa 13 ?_
     exact cG J<|aJ (sM (m,A38,f,d,A41,g,A45,a) trivial (λ_ h=>h.perm (.swap _ _ _)))
   .rintro ⟨m,A38,f,d,A41,g,A45,a⟩ -
    dsimp only
    exact gW<|sN [_,bF] λw n=>⟨A45,a,I,(λw h=>Mm.sub h (.cons_cons _ (.cons _ .slnil))) w n⟩
theorem Yr(c:BC)(a:c.keys.length=32)(w):(binOp .neq 132 (.agg c.cells.toArray) (.agg BC.zero.cells.toArray)).run Tryz.prog w = .ok (.bool (!c.isZero)) w :=
 JX 132 3 130 92 5 "Count" "Keys" "Checks" (by decide) (by decide) (by decide) (by kernel_rfl) (by kernel_rfl) (by kernel_rfl) ABe Tryz.underlying130 AFd a7 (λw => by kernel_rfl) (λw => by kernel_rfl) c BC.zero a I w
theorem Yt{x:Operand}{a b v:Ω}(d:o.op = .binOp .neq ty x y u)(f:bA E x=some a)(g:bA E y=some b)(e:∀ w,(binOp .neq ty a b).run P w = .ok v w)(c:∀ w,(eqGuard .neq ty x y a b).run P w = .ok () w:=by intro w; kernel_rfl):eD P w0 F cs E o v:=λw _=>by
 unfold execOp
 grind [cU,Sem.run_bind,Sem.run_pure,Result.andThen_ok]
theorem DH(g cap rest t w)(u:jU w g cap rest t):
  Θ 117 #[.agg #[.int .u64 (t.seed:Int),.slice (some ⟨g,0,none⟩) t.cells.length cap]] w λe A=>e = .returned (.bool t.empty)/\Fr [] w A:=by
 obtain ⟨n,HN⟩:∃ n,Hid (n=t.cells.length):=⟨_,I⟩
 obtain ⟨a,HS⟩:∃ a,Hid (a=t.seed):=⟨_,I⟩
 have B:n<=3072:=by rw [HN.out]; exact (jQ u.size).2.1
 rw [<- HN.out,<- HS.out]
 have HT:=D3 u
 clear u
 refine eO Tryz.func117 18 (Mm.start w []) rfl<|Nc<|R<|pB _ λh=>G I<|Ne<|G rfl<|Ng<|sL (λi=>i<=n/\(t.cells.take i).all BC.isZero=true) (λi=>n - i) (λi=>[(1,(Z h 0)),(3,(Y i))]) (λi=>[aD h 95 [(vU a),(.slice (some ⟨g,0,none⟩) (n) (cap))]]) 0 ⟨U,si⟩ η ?_
 intro i b
 show St _ _ _ [(1,(Z h 0)),(3,(Y i))] [aD h 95 [(vU a),(ql g n cap)]] _
 refine Ny<|G I<|M (Z h 1)<|lL 0 I<|M (Y n)<|M (qb i n) ?_
 refine ζ I (λp=>?_) λp=>?_
 .have s:=b.1
  obtain ⟨k,o⟩:=gk t.cells i (by rw [<- HN.out]; omega)
  have z:i < n:=U
  have d:=HT.out.ok.cells k (F0 o)
  have f:=BC.cells_len d
  refine Nm<|aF<|M (Z h 1)<|lL 0 rfl<|G rfl<|lw (C0 g i) (mI (e:=132) (sz:=34) rfl J J rfl rfl U)<|lw (I1 k) (gI k.cells rfl rfl J (by rw [f]; kernel_rfl) (λw l j v y=>by rw [K7]; exact l.gA (wS HT.out o j v y) si))<|M M7<|lw (.bool (!k.isZero)) (Yt I I I (Yr k d.keys)) ?_
  refine qi I (λc=>?_) λc=>?_
  .have q:t.empty=false:=by grind [BT.empty]
   exact Nc<|G rfl<|Nd<|eL<|cJ<|cJ<|eL<|cJ<|sN [bF] λw l=>⟨by rw [q]; rfl,l.fr⟩
  .exact Nw<|aF<|G I<|lw (Y (i+1)) bN<|G I<|aO (aJ (sA _ ⟨by omega,JZ o b.2 (su c)⟩ oz η))
 .have s:=b.1
  have r:i=n:=U
  have m:t.empty=true:=by
   have x:=b.2
   rw [r,HN.out,R0] at x
   exact x
  exact Nj<|aF<|G rfl<|Nd<|sN [bT] λw l=>⟨by rw [m]; rfl,l.fr⟩
structure Bq where
 k:Nat
 s:gE
 g:Nat
 cap:Nat
 rest:List Value
 A5:Option Addr
 c5:Nat
 A6:Option Addr
 c6:Nat
 A7:Option Addr
 c7:Nat
structure nC (n seed:Nat) (t:BT) (k:Nat) (s:gE):Prop where
 kn:k <= n
 pe:iM n ⟨t,[],[],[]⟩=iM (n - k) s
 ok:s.t.Ok
 len:s.t.cells.length=n
 seed:s.t.seed=seed
 la:s.added.length <= k
 lr:s.removed.length <= k
 lt:s.taken.length <= k
 sa:∀ y∈s.added,y∈s.taken
 sr:∀ y∈s.removed,y∈s.taken
theorem nC.start(a:n=t.cells.length)(b:seed=t.seed)(c:t.Ok):nC n seed t 0 ⟨t,[],[],[]⟩ :=
 ⟨G6 _,I,c,a.symm,b.symm,J7 _,J7 _,J7 _,(λ_ h=>by cases h),(λ_ h=>by cases h)⟩
theorem nC.fin(h:nC n seed t k s)(a:k=n\/s.t.first=none):iM n ⟨t,[],[],[]⟩=some s:=by
 rw [h.pe]
 rcases a with rfl | a
 .rw [W6]; rfl
 .exact JR _ s a
theorem nC.Qo(h:nC n seed t k s)(b:s.t.first=some i)(a:s.t.cellAt i=cc)(d:s.taken.contains cc.keys=true)(c:k < n):iM n ⟨t,[],[],[]⟩=none:=by
 rw [h.pe,show n - k=(n - k - 1)+1 by omega]
 grind [JS]
theorem nC.step(h:nC n seed t k s)(d:s.t.first=some i)(c:s.t.cellAt i=cc)(g:s.taken.contains cc.keys=false)(f:k < n)(e:cc.Ok):nC n seed t (k+1) (s.take cc):=by
 have b:=EY (n - k - 1) s i d (by grind)
 rw [c] at b
 refine ⟨U,?_,BT.Ok.change h.ok e.keys _,by rw [<- h.len]; exact change_len _ _ _,by rw [<- h.seed]; exact change_seed _ _ _,?_,?_,?_,?_,?_⟩
 .rw [h.pe,show n - k=(n - k - 1)+1 by omega,b]
  rfl
 .have:=h.la; grind [gE.take]
 .have:=h.lr; grind [gE.take]
 .have:=h.lt; grind [gE.take]
 .intro y a
  simp only [gE.take] at a ⊢
  split at a
  .rcases P7.1 a with a | a
   .exact X2 _ (h.sa y a)
   grind
  .exact X2 _ (h.sa y a)
 .intro y a
  simp only [gE.take] at a ⊢
  split at a
  .exact X2 _ (h.sr y a)
  .rcases P7.1 a with a | a
   .exact X2 _ (h.sr y a)
   grind
theorem nC.Qp(h:nC n seed t k s){y:fJ}(b:s.taken.contains y=false):s.added.contains y=false:=by
 cases a:s.added.contains y with
 | false=>rfl
 | true =>
   have:=h.sa y (by simpa using a)
   grind
theorem nC.Qq(h:nC n seed t k s){y:fJ}(b:s.taken.contains y=false):s.removed.contains y=false:=by
 cases a:s.removed.contains y with
 | false=>rfl
 | true =>
   have:=h.sr y (by simpa using a)
   grind
theorem kS(l):(dG l).length=l.length:=by simp [dG]
theorem Oy(l)(y:fJ):(l++[y]).Perm (y::l):=zg
theorem DI(s:gE)(a:BC):gU (dG s.taken) a.keys=dG (s.take a).taken/\s.taken.length+1=(s.take a).taken.length:=⟨Gf (List.Perm.refl _),by simp [gE.take]⟩
theorem DJ(s:gE)(a:BC)(h:a.count=1):gU (dG s.added) a.keys=dG (s.take a).added/\s.added.length+1=(s.take a).added.length:=by
 have e:(s.take a).added=s.added++[a.keys]:=by simp [gE.take,h]
 rw [e]
 exact ⟨Gf zg,si⟩
theorem DK(s:gE)(a:BC)(h:a.count≠1):gU (dG s.removed) a.keys=dG (s.take a).removed/\s.removed.length+1=(s.take a).removed.length:=by
 have e:(s.take a).removed=s.removed++[a.keys]:=by simp [gE.take,h]
 rw [e]
 exact ⟨Gf zg,si⟩
theorem Oz(h:pU t < 0):t.first=none:=by
 grind [pU]
theorem OB(h:¬ pU t < 0):∃ i,t.first=some i:=by
 unfold pU at h
 grind
theorem Mm.ownCap(h:Mm w0 F cs w){c:Nat}{xs:Ξ}(hi:cs[i]?=some (bD e sz A m c xs)):m<=c:=by
 have f:w.ownsRow 0 e sz _ m xs:=h.at hi
 rcases f.2 with ⟨a,j⟩ | ⟨g,cap,b,a,_,_,d,_⟩
 .omega
 .simp only [R6] at a
  omega
theorem DL{n:Int}(h:n=1\/n = -1)(a:∀ w,(execOp (evE E) o).run P w = .ok (.value (C (IntKind.i64.wrap (0 - n)))) w):eD P w0 F cs E o (C (-n)):=λw _=>by
 rw [a w]
 rcases h with rfl | rfl <;> rfl
def Yu(n:Nat)(t:BT)(w:World)(e:Ending)(w':World):Prop :=
 Fr [] w w' /\ match iM n ⟨t,[],[],[]⟩ with
  | none=>e = .returned (.tuple #[.slice none 0 0,.slice none 0 0,.bool false])
  | some s=>∃ A1 c1 A2 c2,e = .returned (.tuple #[.slice A1 s.added.length c1,.slice A2 s.removed.length c2,.bool s.t.empty]) /\ aI w' A1 ((dG s.added).map aZ) /\ aI w' A2 ((dG s.removed).map aZ) /\ Mm w [] [bD 9 1 A1 s.added.length c1 ((dG s.added).map aZ),bD 9 1 A2 s.removed.length c2 ((dG s.removed).map aZ)] w'
abbrev G1:=Value.int .i64
abbrev S9(a:Int)(b c d:Nat):Value:=.agg #[.int .u64 a,ql b c d]
theorem Ht(n seed g0 cap0 rest0 t w)(ht:jU w g0 cap0 rest0 t)(hn:n=t.cells.length)(hs:seed=t.seed):
  Θ 70 #[(.agg #[(.int .u64 ((seed:Nat):Int)),(.slice (some ⟨g0,0,none⟩) (n) (cap0))])] w (Yu n t w):=by
 have HN:=D3 hn
 have HS:=D3 hs
 have HT:=D3 ht
 have n4:n<=3072:=by rw [HN.out]; exact (jQ ht.size).2.1
 obtain ⟨s0,HS0⟩:∃ s0:gE,Hid (s0=⟨t,[],[],[]⟩):=⟨_,I⟩
 clear hn hs ht
 refine eO Tryz.func70 67 (B3 w) rfl<|Nc<|R<|pB _ λb1=>G I<|Nb<|R<|pN 0 9 [] λb13=>R<|pN 0 9 [] λb14=>R<|pN 0 9 [] λb15=>G I<|Nf<|aT<|St.mem (λw hM=>hM.BH 1 I 1 0 0 I (J7 _) (by unfold maxLen; omega))<|St.mem (λw hM=>hM.BH 2 I 1 0 0 I (Nat.le_refl _) (by unfold maxLen; omega))<|St.mem (cs':=[aD b1 95 [(vU seed),_],bD 9 1 _ (0) (0) ([]),bD 9 1 _ (0) (0) ([]),bD 9 1 _ (0) (0) ([])]) (λw hM=>hM.BH 3 I 1 0 0 I (Nat.le_refl _) (by unfold maxLen; omega))<|aF<|G I<|Ng ?_
 have hst:nC n seed t 0 s0:=by rw [HS0.out]; exact nC.start HN.out HS.out HT.out.ok
 have ha0:s0.added.length=0:=by rw [HS0.out]; rfl
 have hr0:s0.removed.length=0:=by rw [HS0.out]; rfl
 have ht0:s0.taken.length=0:=by rw [HS0.out]; rfl
 have he0:(dG s0.added).map aZ=[]:=by rw [HS0.out]; simp [dG]
 have he1:(dG s0.removed).map aZ=[]:=by grind
 have he2:(dG s0.taken).map aZ=[]:=by grind
 refine St.conv 5 (v':=ql b13 s0.added.length 0) I (by grind)<|St.conv 6 (v':=ql b14 s0.removed.length 0) rfl (by grind)<|St.conv 7 (v':=ql b15 s0.taken.length 0) rfl (by grind)<|sL (λp=>nC n seed t p.2.k p.2.s/\(p.1=true->jU w p.2.g p.2.cap p.2.rest p.2.s.t)) (λp=>n - p.2.k) (λ| (_,x)=>[(1,(Z b1 0)),(5,(.slice x.A5 (x.s.added.length) (x.c5))),(6,(.slice x.A6 (x.s.removed.length) (x.c6))),(7,(.slice x.A7 (x.s.taken.length) (x.c7))),(8,(Y x.k))]) (λ| (true,x)=>[aD b1 95 [(vU seed),(ql x.g n x.cap)],bD 9 1 x.A5 (x.s.added.length) (x.c5) ((dG x.s.added).map aZ),bD 9 1 x.A6 (x.s.removed.length) (x.c6) ((dG x.s.removed).map aZ),bD 9 1 x.A7 (x.s.taken.length) (x.c7) ((dG x.s.taken).map aZ)] | (false,x)=>[aD b1 95 [(vU seed),(ql x.g n x.cap)],bD 9 1 x.A5 (x.s.added.length) (x.c5) ((dG x.s.added).map aZ),bD 9 1 x.A6 (x.s.removed.length) (x.c6) ((dG x.s.removed).map aZ),bD 9 1 x.A7 (x.s.taken.length) (x.c7) ((dG x.s.taken).map aZ),pL x.g x.cap x.rest x.s.t]) (true,(⟨0,s0,g0,_,_,some ⟨b13,0,none⟩,0,some ⟨b14,0,none⟩,0,some ⟨b15,0,none⟩,0⟩:Bq)) ⟨hst,λ_=>by show jU w g0 cap0 _ s0.t; rw [HS0.out]; exact HT.out⟩ (λw hM=>by grind) ?_
 rintro ⟨old,x⟩ ⟨hok,hold⟩
 obtain ⟨k,s,g,cap,rest,A5,c5,A6,c6,A7,c7⟩:=x
 replace hok:nC n seed t k s:=hok
 have hb5:=hok.la
 have hb6:=hok.lr
 have hb7:=hok.lt
 have hkn:=hok.kn
 cases old with
 | false =>
   dsimp only
   clear hold
   refine Ny<|G I<|M (Z b1 1)<|lL 0 I<|M (Y n)<|M (qb k n) ?_
   refine qi I (λhc20=>?_) λhc20=>?_
   .have hd20:=D4 hc20
    have hklt:k < n:=U
    refine Nm<|aF<|lW (zr 0 rfl)<|R<|eR 115 _ rfl J (λ_=>J) (λw hM=>(Ow g cap rest s.t n seed w (hM.at (i:=4) I) hok.len.symm hok.seed.symm).mono ?_)
    rintro e w' ⟨rfl,hf⟩
    have hM':=hM.eW hf
    refine ⟨_,_,I,hM',?_⟩
    clear hM hM' hf
    refine G I<|Ne<|G I<|M (.bool (decide ((pU s.t) < 0))) ?_
    refine qi I (λhc26=>?_) λhc26=>?_
    .have hd26:=D4 hc26
     have hno:s.t.first=none:=Oz hd26
     have hfin:=hok.fin (.inr hno)
     refine pJ<|jB<|uS rfl<|jB<|jB<|kL<|aJ<|Nc<|G rfl<|lW (zr 0 rfl)<|R<|eR 117 _ rfl J (λ_=>J) (λw hM=>(by have h:=DH g cap rest s.t w (hM.at (i:=4) I); rw [hok.len,hok.seed] at h; omega:Calls _ _ _ w _).mono ?_)
     rintro e w' ⟨rfl,hf⟩
     have hM':=hM.eW hf
     refine ⟨_,_,I,hM',?_⟩
     clear hM hM' hf
     exact G I<|Nd<|sN [(.slice A5 (s.added.length) (c5)),(.slice A6 (s.removed.length) (c6)),(.bool s.t.empty)] λw hM=>⟨hM.fr,by rw [hfin]; exact ⟨A5,c5,A6,c6,I,fM (i:=1) I w hM,fM (i:=2) I w hM,hM.sub (.cons _ (.cons_cons _ (.cons_cons _ (.cons _ (.cons _ .slnil)))))⟩⟩
    .have hd26:=C7 hc26
     obtain ⟨i,hfi⟩:∃ i,s.t.first=some i:=OB hd26
     have hfe:pU s.t=((i:Nat)):=DG hfi
     obtain ⟨cc,hc,hcp,hcc⟩:=EZ hfi
     have hlti:i < n:=by have h:=(C4.1 hc).1; rw [hok.len] at h; exact h
     have hcok:cc.Ok:=hok.ok.cells cc (F0 hc)
     have hclen:=BC.cells_len hcok
     have hcnt:=Fa hcp
     refine St.conv 9 I (U0 G1 hfe)<|Ni<|M (Z b1 1)<|lL 0 rfl<|G rfl<|lw _ (mI (e:=132) (sz:=34) rfl J J rfl rfl U)<|lw _ (gI cc.cells rfl rfl J (by rw [hclen]; kernel_rfl) (λw hM j v hj=>by rw [K7]; exact wS (hM.at (i:=4) I) hc j v hj))<|R<|pA A0 λb10=>R<|dE 5 cc.cells I I J I I I (by rw [hclen]; kernel_rfl) I (by rw [hclen]; decide) (BC.pD cc) (sG (by rw [hclen]; rfl)) ?_
     refine Nb<|M (Z b10 1)<|M (.slice (some ⟨b10,1,none⟩) (32) (32))<|lw (vS _) (kM (e:=5) _ rfl J J J rfl hcok.keys.symm (BZ (i:=5) rfl (λj v hj=>Az hj)))<|G I<|Nf ?_
     cases hnt:s.taken.contains cc.keys with
     | true =>
       have htw:=hok.Qo hfi hcc hnt hklt
       refine aF<|G rfl<|R<|eR 116 _ rfl J (λ_=>J) (λw hM=>(by have h:=Ox A7 c7 _ _ w (fM (i:=3) I w hM) (by rw [kS]; omega) (by rw [vM]; exact hnt); rw [kS] at h; exact h:Calls _ _ _ w λe w'=>e = .returned (.tuple #[.slice A7 s.taken.length c7,.bool true])/\Fr [] w w').mono ?_)
       rintro e w' ⟨rfl,hf⟩
       have hM':=hM.eW hf
       refine ⟨_,_,I,hM',?_⟩
       clear hM hM' hf
       exact G I<|Ne<|G rfl<|No<|G rfl<|Nq<|cJ<|sN [nS,nS,bF] λw hM=>⟨hM.fr,by rw [htw]; rfl⟩
     | false =>
       refine aF<|G rfl<|R<|eR 116 _ rfl J (λ_=>J) (λw hM=>(by have h:=zO A7 c7 _ _ w (fM (i:=3) I w hM) (by rw [kS]; omega) (by rw [kS]; exact hM.ownCap (i:=3) I) (by rw [vM]; exact hnt); rw [kS,(DI s cc).1,(DI s cc).2] at h; exact h:Calls _ _ _ w _).mono ?_)
       rintro e w' ⟨A38,c38,rfl,hP⟩
       have hM':=hM.lift hP
       refine ⟨_,_,I,hM',?_⟩
       clear hM hM' hP
       refine G I<|Ne<|G I<|Nn<|Nc<|M (Z b10 0)<|lw _ (bW 5 I I J I (lS cc))<|M (T1 cc) ?_
       refine qi I (λhc44=>?_) λhc44=>?_
       .have hct:cc.count=1:=eq_of_beq hc44
        have hsame:(s.take cc).removed=s.removed:=by simp [gE.take,hct]
        refine St.conv 6 (v':=.slice A6 (s.take cc).removed.length c6) I (by rw [hsame])<|St.mem (cs':=[_,_,bD 9 1 A6 ((s.take cc).removed.length) (c6) ((dG (s.take cc).removed).map aZ),_,_,aD b10 132 _,_]) (λw hM=>by rw [hsame]; exact hM)<|aF<|G rfl<|R<|eR 116 _ rfl J (λ_=>J) (λw hM=>(by have h:=zO A5 c5 _ _ w (fM (i:=1) I w hM) (by rw [kS]; omega) (by rw [kS]; exact hM.ownCap (i:=1) I) (by rw [vM]; exact hok.Qp hnt); rw [kS,(DJ s cc hct).1,(DJ s cc hct).2] at h; exact h:Calls _ _ _ w _).mono ?_)
        rintro e w' ⟨A48,c48,rfl,hP⟩
        have hM':=hM.lift hP
        refine ⟨_,_,I,hM',?_⟩
        clear hM hM' hP
        refine G I<|Nv<|lW (zr 0 rfl)<|G rfl<|M (Z b10 0)<|lw _ (bW 5 rfl rfl J rfl (lS cc))<|lw _ (DL hcnt (λ_=>J))<|R<|eR 77 _ rfl J (λ_=>J) (λw hM=>(by have h:=AA g cap rest s.t _ (-cc.count) w (hM.at (i:=4) I) hcok.keys; rw [hok.len,hok.seed] at h; exact h:Calls _ _ _ w λe w'=>∃ g c rest,e = .returned (S9 seed g n c)/\w.heap.size<=g/\Fr [] w w'/\jU w' g c rest (s.take cc).t).mono ?_)
        rintro e w' ⟨g3,cap3,rest3,rfl,hg,hf,ht⟩
        have hM':=hM.xN hf ht hg
        refine ⟨_,_,I,hM',?_⟩
        clear hM hM' hg hf ht
        exact R<|zu 0 rfl<|Nk<|aF<|G rfl<|lw (Y (k+1)) bN<|G rfl<|aO (aJ (sA (false,(⟨k+1,s.take cc,g3,cap3,rest3,A48,c48,A6,c6,A38,c38⟩:Bq)) ⟨hok.step hfi hcc hnt hklt hcok,λh=>by cases h⟩ oz (λw hM=>by show Mm _ _ [aD b1 95 [(vU seed),(ql g3 n cap3)],bD 9 1 A48 ((s.take cc).added.length) (c48) ((dG (s.take cc).added).map aZ),bD 9 1 A6 ((s.take cc).removed.length) (c6) ((dG (s.take cc).removed).map aZ),bD 9 1 A38 ((s.take cc).taken.length) (c38) ((dG (s.take cc).taken).map aZ),pL g3 cap3 rest3 (s.take cc).t] w; exact (λ(w:Λ) (h:Mm _ _ _ w)=>Mm.perm h (.trans (.cons _ (.cons _ (.swap _ _ _))) (.cons _ (.swap _ _ _)))) w ((λ(w:Λ) (h:Mm _ _ _ w)=>Mm.sub h (.cons_cons _ (.cons _ (.cons_cons _ (.cons _ (.cons _ (.cons _ (.cons_cons _ (.cons_cons _ (.cons_cons _ .slnil)))))))))) w hM))))
       .have hct:cc.count≠1:=AB0 hc44
        have hsame:(s.take cc).added=s.added:=by simp [gE.take,hct]
        refine St.conv 5 (v':=.slice A5 (s.take cc).added.length c5) I (by rw [hsame])<|St.mem (cs':=[_,bD 9 1 A5 ((s.take cc).added.length) (c5) ((dG (s.take cc).added).map aZ),_,_,_,aD b10 132 _,_]) (λw hM=>by rw [hsame]; exact hM)<|aF<|G rfl<|R<|eR 116 _ rfl J (λ_=>J) (λw hM=>(by have h:=zO A6 c6 _ _ w (fM (i:=2) I w hM) (by rw [kS]; omega) (by rw [kS]; exact hM.ownCap (i:=2) I) (by rw [vM]; exact hok.Qq hnt); rw [kS,(DK s cc hct).1,(DK s cc hct).2] at h; exact h:Calls _ _ _ w _).mono ?_)
        rintro e w' ⟨A54,c54,rfl,hP⟩
        have hM':=hM.lift hP
        refine ⟨_,_,I,hM',?_⟩
        clear hM hM' hP
        refine G I<|Nv<|lW (zr 0 rfl)<|G rfl<|M (Z b10 0)<|lw _ (bW 5 rfl rfl J rfl (lS cc))<|lw _ (DL hcnt (λ_=>J))<|R<|eR 77 _ rfl J (λ_=>J) (λw hM=>(by have h:=AA g cap rest s.t _ (-cc.count) w (hM.at (i:=4) I) hcok.keys; rw [hok.len,hok.seed] at h; exact h:Calls _ _ _ w λe w'=>∃ g c rest,e = .returned (S9 seed g n c)/\w.heap.size<=g/\Fr [] w w'/\jU w' g c rest (s.take cc).t).mono ?_)
        rintro e w' ⟨g3,cap3,rest3,rfl,hg,hf,ht⟩
        have hM':=hM.xN hf ht hg
        refine ⟨_,_,I,hM',?_⟩
        clear hM hM' hg hf ht
        exact R<|zu 0 rfl<|Nk<|aF<|G rfl<|lw (Y (k+1)) bN<|G rfl<|aO (aJ (sA (false,(⟨k+1,s.take cc,g3,cap3,rest3,A5,c5,A54,c54,A38,c38⟩:Bq)) ⟨hok.step hfi hcc hnt hklt hcok,λh=>by cases h⟩ oz (λw hM=>by show Mm _ _ [aD b1 95 [(vU seed),(ql g3 n cap3)],bD 9 1 A5 ((s.take cc).added.length) (c5) ((dG (s.take cc).added).map aZ),bD 9 1 A54 ((s.take cc).removed.length) (c54) ((dG (s.take cc).removed).map aZ),bD 9 1 A38 ((s.take cc).taken.length) (c38) ((dG (s.take cc).taken).map aZ),pL g3 cap3 rest3 (s.take cc).t] w; exact (λ(w:Λ) (h:Mm _ _ _ w)=>Mm.perm h (.cons _ (.cons _ (.swap _ _ _)))) w ((λ(w:Λ) (h:Mm _ _ _ w)=>Mm.sub h (.cons_cons _ (.cons_cons _ (.cons _ (.cons _ (.cons _ (.cons _ (.cons_cons _ (.cons_cons _ (.cons_cons _ .slnil)))))))))) w hM))))
   .have hd20:=C7 hc20
    have hke:k=n:=U
    have hfin:=hok.fin (.inl hke)
    refine Nj<|aF<|G rfl<|lW (zr 0 rfl)<|R<|eR 117 _ rfl J (λ_=>J) (λw hM=>(by have h:=DH g cap rest s.t w (hM.at (i:=4) I); rw [hok.len,hok.seed] at h; exact h:Calls _ _ _ w _).mono ?_)
    rintro e w' ⟨rfl,hf⟩
    have hM':=hM.eW hf
    refine ⟨_,_,I,hM',?_⟩
    clear hM hM' hf
    exact G I<|Nd<|sN [(.slice A5 (s.added.length) (c5)),(.slice A6 (s.removed.length) (c6)),(.bool s.t.empty)] λw hM=>⟨hM.fr,by rw [hfin]; exact ⟨A5,c5,A6,c6,I,fM (i:=1) I w hM,fM (i:=2) I w hM,hM.sub (.cons _ (.cons_cons _ (.cons_cons _ (.cons _ (.cons _ .slnil)))))⟩⟩
 | true =>
   dsimp only
   have HO:Hid (jU w g cap rest s.t):=hold I
   clear hold
   refine Ny<|G I<|M (Z b1 1)<|lL 0 I<|M (Y n)<|M (qb k n) ?_
   refine qi I (λhc20=>?_) λhc20=>?_
   .have hd20:=D4 hc20
    have hklt:k < n:=U
    refine Nm<|aF<|lW (zr 0 rfl)<|R<|eR 115 _ rfl J (λ_=>J) (λw hM=>(Ow g cap rest s.t n seed w (HO.out.fr hM.fr si) hok.len.symm hok.seed.symm).mono ?_)
    rintro e w' ⟨rfl,hf⟩
    have hM':=hM.eW hf
    refine ⟨_,_,I,hM',?_⟩
    clear hM hM' hf
    refine G I<|Ne<|G I<|M (.bool (decide ((pU s.t) < 0))) ?_
    refine qi I (λhc26=>?_) λhc26=>?_
    .have hd26:=D4 hc26
     have hno:s.t.first=none:=Oz hd26
     have hfin:=hok.fin (.inr hno)
     refine pJ<|jB<|uS rfl<|jB<|jB<|kL<|aJ<|Nc<|G rfl<|lW (zr 0 rfl)<|R<|eR 117 _ rfl J (λ_=>J) (λw hM=>(by have h:=DH g cap rest s.t w (HO.out.fr hM.fr si); rw [hok.len,hok.seed] at h; exact h:Calls _ _ _ w _).mono ?_)
     rintro e w' ⟨rfl,hf⟩
     have hM':=hM.eW hf
     refine ⟨_,_,I,hM',?_⟩
     clear hM hM' hf
     exact G I<|Nd<|sN [(.slice A5 (s.added.length) (c5)),(.slice A6 (s.removed.length) (c6)),(.bool s.t.empty)] λw hM=>⟨hM.fr,by rw [hfin]; exact ⟨A5,c5,A6,c6,I,fM (i:=1) I w hM,fM (i:=2) I w hM,hM.sub (.cons _ (.cons_cons _ (.cons_cons _ (.cons _ .slnil))))⟩⟩
    .have hd26:=C7 hc26
     obtain ⟨i,hfi⟩:∃ i,s.t.first=some i:=OB hd26
     have hfe:pU s.t=((i:Nat)):=DG hfi
     obtain ⟨cc,hc,hcp,hcc⟩:=EZ hfi
     have hlti:i < n:=by have h:=(C4.1 hc).1; rw [hok.len] at h; exact h
     have hcok:cc.Ok:=hok.ok.cells cc (F0 hc)
     have hclen:=BC.cells_len hcok
     have hcnt:=Fa hcp
     refine St.conv 9 (v':=.int .i64 (i:Int)) I (U0 G1 hfe)<|Ni<|M (Z b1 1)<|lL 0 rfl<|G rfl<|lw (C0 g i) (mI (e:=132) (sz:=34) rfl J J rfl rfl U)<|lw (I1 cc) (gI cc.cells rfl rfl J (by rw [hclen]; kernel_rfl) (λw hM j v hj=>by rw [K7]; exact hM.gA (wS HO.out hc j v hj) si))<|R<|pA A0 λb10=>R<|dE 4 cc.cells (vs:=cc.cells) I I J I I I (by rw [hclen]; kernel_rfl) I (by rw [hclen]; decide) (BC.pD cc) (sG (by rw [hclen]; rfl)) ?_
     refine Nb<|M (Z b10 1)<|M (.slice (some ⟨b10,1,none⟩) (32) (32))<|lw (vS _) (kM (e:=5) _ rfl J J J rfl hcok.keys.symm (BZ (i:=4) rfl (λj v hj=>Az hj)))<|G I<|Nf ?_
     cases hnt:s.taken.contains cc.keys with
     | true =>
       have htw:=hok.Qo hfi hcc hnt hklt
       refine aF<|G rfl<|R<|eR 116 _ rfl J (λ_=>J) (λw hM=>(by have h:=Ox A7 c7 _ _ w (fM (i:=3) I w hM) (by rw [kS]; omega) (by rw [vM]; exact hnt); rw [kS] at h; exact h:Calls _ _ _ w λe w'=>e = .returned (.tuple #[.slice A7 s.taken.length c7,.bool true])/\Fr [] w w').mono ?_)
       rintro e w' ⟨rfl,hf⟩
       have hM':=hM.eW hf
       refine ⟨_,_,I,hM',?_⟩
       clear hM hM' hf
       exact G I<|Ne<|G rfl<|No<|G rfl<|Nq<|cJ<|sN [nS,nS,bF] λw hM=>⟨hM.fr,by rw [htw]; rfl⟩
     | false =>
       refine aF<|G rfl<|R<|eR 116 _ rfl J (λ_=>J) (λw hM=>(by have h:=zO A7 c7 _ _ w (fM (i:=3) I w hM) (by rw [kS]; omega) (by rw [kS]; exact hM.ownCap (i:=3) I) (by rw [vM]; exact hnt); rw [kS,(DI s cc).1,(DI s cc).2] at h; exact h:Calls _ _ _ w _).mono ?_)
       rintro e w' ⟨A38,c38,rfl,hP⟩
       have hM':=hM.lift hP
       refine ⟨_,_,I,hM',?_⟩
       clear hM hM' hP
       refine G I<|Ne<|G I<|Nn<|Nc<|M (Z b10 0)<|lw _ (bW 4 I I J I (lS cc))<|M (T1 cc) ?_
       refine qi I (λhc44=>?_) λhc44=>?_
       .have hct:cc.count=1:=eq_of_beq hc44
        have hsame:(s.take cc).removed=s.removed:=by simp [gE.take,hct]
        refine St.conv 6 (v':=.slice A6 (s.take cc).removed.length c6) I (by rw [hsame])<|St.mem (cs':=[_,_,bD 9 1 A6 ((s.take cc).removed.length) (c6) ((dG (s.take cc).removed).map aZ),_,aD b10 132 _,_]) (λw hM=>by rw [hsame]; exact hM)<|aF<|G rfl<|R<|eR 116 _ rfl J (λ_=>J) (λw hM=>(by have h:=zO A5 c5 _ _ w (fM (i:=1) I w hM) (by rw [kS]; omega) (by rw [kS]; exact hM.ownCap (i:=1) I) (by rw [vM]; exact hok.Qp hnt); rw [kS,(DJ s cc hct).1,(DJ s cc hct).2] at h; exact h:Calls _ _ _ w _).mono ?_)
        rintro e w' ⟨A48,c48,rfl,hP⟩
        have hM':=hM.lift hP
        refine ⟨_,_,I,hM',?_⟩
        clear hM hM' hP
        refine G I<|Nv<|lW (zr 0 rfl)<|G rfl<|M (Z b10 0)<|lw _ (bW 4 rfl rfl J rfl (lS cc))<|lw _ (DL hcnt (λ_=>J))<|R<|eR 77 _ rfl J (λ_=>J) (λw hM=>(by have h:=AA g cap rest s.t _ (-cc.count) w (HO.out.fr hM.fr si) hcok.keys; rw [hok.len,hok.seed] at h; exact h:Calls _ _ _ w λe w'=>∃ g c rest,e = .returned (S9 seed g n c)/\w.heap.size<=g/\Fr [] w w'/\jU w' g c rest (s.take cc).t).mono ?_)
        rintro e w' ⟨g3,cap3,rest3,rfl,hg,hf,ht⟩
        have hM':=hM.xN hf ht hg
        refine ⟨_,_,I,hM',?_⟩
        clear hM hM' hg hf ht
        exact R<|zu 0 rfl<|Nk<|aF<|G rfl<|lw (Y (k+1)) bN<|G rfl<|aO (aJ (sA (false,(⟨k+1,s.take cc,g3,cap3,rest3,A48,c48,A6,c6,A38,c38⟩:Bq)) ⟨hok.step hfi hcc hnt hklt hcok,λh=>by cases h⟩ oz (λw hM=>by show Mm _ _ [aD b1 95 [(vU seed),(ql g3 n cap3)],bD 9 1 A48 ((s.take cc).added.length) (c48) ((dG (s.take cc).added).map aZ),bD 9 1 A6 ((s.take cc).removed.length) (c6) ((dG (s.take cc).removed).map aZ),bD 9 1 A38 ((s.take cc).taken.length) (c38) ((dG (s.take cc).taken).map aZ),pL g3 cap3 rest3 (s.take cc).t] w; exact (λ(w:Λ) (h:Mm _ _ _ w)=>Mm.perm h (.trans (.cons _ (.cons _ (.swap _ _ _))) (.cons _ (.swap _ _ _)))) w ((λ(w:Λ) (h:Mm _ _ _ w)=>Mm.sub h (.cons_cons _ (.cons _ (.cons_cons _ (.cons _ (.cons _ (.cons_cons _ (.cons_cons _ (.cons_cons _ .slnil))))))))) w hM))))
       .have hct:cc.count≠1:=AB0 hc44
        have hsame:(s.take cc).added=s.added:=by simp [gE.take,hct]
        refine St.conv 5 (v':=.slice A5 (s.take cc).added.length c5) I (by rw [hsame])<|St.mem (cs':=[_,bD 9 1 A5 ((s.take cc).added.length) (c5) ((dG (s.take cc).added).map aZ),_,_,aD b10 132 _,_]) (λw hM=>by rw [hsame]; exact hM)<|aF<|G rfl<|R<|eR 116 _ rfl J (λ_=>J) (λw hM=>(by have h:=zO A6 c6 _ _ w (fM (i:=2) I w hM) (by rw [kS]; omega) (by rw [kS]; exact hM.ownCap (i:=2) I) (by rw [vM]; exact hok.Qq hnt); rw [kS,(DK s cc hct).1,(DK s cc hct).2] at h; exact h:Calls _ _ _ w _).mono ?_)
        rintro e w' ⟨A54,c54,rfl,hP⟩
        have hM':=hM.lift hP
        refine ⟨_,_,I,hM',?_⟩
        clear hM hM' hP
        refine G I<|Nv<|lW (zr 0 rfl)<|G rfl<|M (Z b10 0)<|lw _ (bW 4 rfl rfl J rfl (lS cc))<|lw _ (DL hcnt (λ_=>J))<|R<|eR 77 _ rfl J (λ_=>J) (λw hM=>(by have h:=AA g cap rest s.t _ (-cc.count) w (HO.out.fr hM.fr si) hcok.keys; rw [hok.len,hok.seed] at h; exact h:Calls _ _ _ w λe w'=>∃ g c rest,e = .returned (S9 seed g n c)/\w.heap.size<=g/\Fr [] w w'/\jU w' g c rest (s.take cc).t).mono ?_)
        rintro e w' ⟨g3,cap3,rest3,rfl,hg,hf,ht⟩
        have hM':=hM.xN hf ht hg
        refine ⟨_,_,I,hM',?_⟩
        clear hM hM' hg hf ht
        exact R<|zu 0 rfl<|Nk<|aF<|G rfl<|lw (Y (k+1)) bN<|G rfl<|aO (aJ (sA (false,(⟨k+1,s.take cc,g3,cap3,rest3,A5,c5,A54,c54,A38,c38⟩:Bq)) ⟨hok.step hfi hcc hnt hklt hcok,λh=>by cases h⟩ oz (λw hM=>by show Mm _ _ [aD b1 95 [(vU seed),(ql g3 n cap3)],bD 9 1 A5 ((s.take cc).added.length) (c5) ((dG (s.take cc).added).map aZ),bD 9 1 A54 ((s.take cc).removed.length) (c54) ((dG (s.take cc).removed).map aZ),bD 9 1 A38 ((s.take cc).taken.length) (c38) ((dG (s.take cc).taken).map aZ),pL g3 cap3 rest3 (s.take cc).t] w; exact (λ(w:Λ) (h:Mm _ _ _ w)=>Mm.perm h (.cons _ (.cons _ (.swap _ _ _)))) w ((λ(w:Λ) (h:Mm _ _ _ w)=>Mm.sub h (.cons_cons _ (.cons_cons _ (.cons _ (.cons _ (.cons _ (.cons_cons _ (.cons_cons _ (.cons_cons _ .slnil))))))))) w hM))))
   .have hd20:=C7 hc20
    have hke:k=n:=U
    have hfin:=hok.fin (.inl hke)
    refine Nj<|aF<|G rfl<|lW (zr 0 rfl)<|R<|eR 117 _ rfl J (λ_=>J) (λw hM=>(by have h:=DH g cap rest s.t w (HO.out.fr hM.fr si); rw [hok.len,hok.seed] at h; exact h:Calls _ _ _ w _).mono ?_)
    rintro e w' ⟨rfl,hf⟩
    have hM':=hM.eW hf
    refine ⟨_,_,I,hM',?_⟩
    clear hM hM' hf
    exact G I<|Nd<|sN [(.slice A5 (s.added.length) (c5)),(.slice A6 (s.removed.length) (c6)),(.bool s.t.empty)] λw hM=>⟨hM.fr,by rw [hfin]; exact ⟨A5,c5,A6,c6,I,fM (i:=1) I w hM,fM (i:=2) I w hM,hM.sub (.cons _ (.cons_cons _ (.cons_cons _ (.cons _ .slnil))))⟩⟩
section
section
variable {P:Program}{w0:World}{F:List Nat}{E:eH}{cs:List Ch}{o:Oper}
theorem Yv{x:Operand}{a k:Nat}(d:o.op = .binOp .shr ty x y u)(f:bA E x=some (.int kd (a:Int)))(g:bA E y=some (.int ks (k:Int)))(c:k<=kd.bits):eD P w0 F cs E o (.int kd ((a / 2 ^ k:Nat):Int)):=λw _=>by
 unfold execOp
 have e:(a:Int).fdiv (2 ^ k)=((a / 2 ^ k:Nat)):=by
  grind
 have b:((k:Int).toNat)=k:=k6 k
 simp only [d,cU f,cU g,P5,pY,J3,binOp,Op.shift]
 rw [P4 U,b,Y0 c]
 simp only [T9,J3,e]
theorem Yw{x:Operand}{a:Nat}(c:o.op = .binOp .and ty x y u)(d:bA E x=some (.int .u8 (a:Int)))(e:bA E y=some (.int .u8 1))(b:a < 256):eD P w0 F cs E o (.int .u8 ((a % 2:Nat):Int)):=uU .and si _ c d e (by
 have h:=u8_and_nat a 1 b U
 grind)
end
theorem Yx(x)(hi:i < 11):((fP x).getD (i / 8) 0).toNat / 2 ^ (7 - i % 8) % 2=sZ x / 2 ^ (15 - i) % 2:=by
 have b:=V1 ((fP x).getD 1 0)
 unfold sZ
 rcases W4 i 8 with h | h
 .rw [Nat.div_eq_of_lt h,l8 h]
  have e:2 ^ (15 - i)=256*2 ^ (7 - i):=by rw [show 15 - i=8+(7 - i) by omega,Nat.pow_add]
  rw [e,<- Nat.div_div_eq_div_mul,show (((fP x).getD 0 0).toNat*256+((fP x).getD 1 0).toNat) / 256=((fP x).getD 0 0).toNat by omega]
 .have a:i=8\/i=9\/i=10:=U
  rcases a with rfl | rfl | rfl <;> (simp only [Nat.reduceDiv,Nat.reduceMod,Nat.reduceSub,Nat.reducePow]; omega)
theorem OC(hi:i < 11)(h:i<=iW x):((fP x).getD (i / 8) 0).toNat / 2 ^ (7 - i % 8) % 2=0↔i+1<=iW x:=by
 rw [Yx x hi]
 exact UN (Gg x) hi h
theorem Yy(hi:i < 11)(h:i<=iW x)(a:¬ ((fP x).getD (i / 8) 0).toNat / 2 ^ (7 - i % 8) % 2=0):iW x=i:=by
 have:=mt (OC hi h).2 a
 omega
theorem Yz{l:List Bs}(h:l[i]?=some x):(fK t (l.take i)).change x 1=fK t (l.take (i+1)):=by
 grind [List.take_add_one,Gi]
set_option maxHeartbeats 400000 in
theorem Hu(n sd:Nat)(w)(h:fI (n:Int)=true)(f:dA sd):
  Θ 76 #[(Y n),(.int .u64 (sd:Int))] w λe a=>∃ (X:RX),e = .returned (.agg #[(.int .u64 (sd:Int)),(ql X.g n X.c)])/\aN [] w [iF X (BT.new n sd)] a:=by
 refine (KF n sd w h f).mono ?_
 rintro e a ⟨g,rfl,c,b,d⟩
 exact ⟨⟨g,n,[]⟩,I,(B3 w).xN b d c⟩
set_option maxHeartbeats 400000 in
theorem YA(X t n sd)(key:Γ)(z w)(l:Rf [] w (λw=>(iF X t).holds w))(i:t.cells.length=n)(j:t.seed=sd)(h:key.length=32):
  Θ 77 #[(.agg #[(.int .u64 ((sd:Nat):Int)),(ql X.g n X.c)]),(vS key),(C z)] w λe b=>∃ (a:RX),e = .returned (.agg #[(.int .u64 ((sd:Nat):Int)),(ql a.g n a.c)])/\aN [] w [iF a (t.change key z)] b:=by
 subst i j
 refine (AA X.g X.c X.rest t key z w l.here h).mono ?_
 rintro e b ⟨g,c,rest,rfl,f,d,k⟩
 exact ⟨⟨g,c,rest⟩,I,(B3 w).xN d k f⟩
set_option maxHeartbeats 400000 in
theorem OD(X t n sd w)(g:Rf [] w (λw=>(iF X t).holds w))(d:t.cells.length=n)(f:t.seed=sd):
  Θ 40 #[(.agg #[(.int .u64 ((sd:Nat):Int)),(ql X.g n X.c)])] w λe a=>∃ (B:Δ) (cb:Nat),e = .returned (V B (t.enc) cb)/\aN [] w [cB B (t.enc) cb] a:=by
 subst d f
 refine (Tj X.g X.c X.rest t w g.here).mono ?_
 rintro e a h
 obtain ⟨A,c,rfl,b⟩:=(B3 w).newRow h
 exact ⟨A,c,I,b⟩
set_option maxHeartbeats 400000 in
theorem Br(X t n sd a u d w)(o:Rf [] w (λw=>(iF X t).holds w))(p:Rf [] w (λw=>(iF a u).holds w))(k:t.cells.length=n)(l:t.seed=sd)(f:u.cells.length=n):
  Θ 71 #[(.agg #[(.int .u64 ((sd:Nat):Int)),(ql X.g n X.c)]),(.agg #[(.int .u64 ((d:Nat):Int)),(ql a.g n a.c)])] w λe h=>∃ (b:RX),e = .returned (.agg #[(.int .u64 ((sd:Nat):Int)),(ql b.g n b.c)])/\aN [] w [iF b (t.sub u)] h:=by
 refine (TB n sd d X.g X.c a.g a.c X.rest a.rest t u w o.here p.here k.symm f l.symm).mono ?_
 rintro e h ⟨g,c,rest,rfl,j,i,m⟩
 exact ⟨⟨g,c,rest⟩,I,(B3 w).xN i m j⟩
set_option maxHeartbeats 400000 in
theorem OE(X t n sd w)(k:Rf [] w (λw=>(iF X t).holds w))(c:t.cells.length=n)(j:t.seed=sd)(i:t.keys=none):
  Θ 70 #[(.agg #[(.int .u64 ((sd:Nat):Int)),(ql X.g n X.c)])] w λe f=>∃ (l m:Ω),e = .returned (.tuple #[l,m,bF])/\aN [] w [] f:=by
 refine (Ht n sd X.g X.c X.rest t w k.here c.symm j.symm).mono ?_
 rintro e f ⟨b,h⟩
 have a:=LL i
 unfold BT.raw at a
 rw [c] at a
 cases d:iM n ⟨t,[],[],[]⟩ with
 | none =>
   rw [d] at h
   exact ⟨_,_,h,Mm.rT b⟩
 | some s =>
   rw [d] at h a
   obtain ⟨A1,o,A2,p,rfl,-⟩:=h
   cases g:s.t.empty with
   | true=>simp [g] at a
   | false=>exact ⟨_,_,I,Mm.rT b⟩
set_option maxHeartbeats 400000 in
theorem YB(X t n sd l m w)(q:Rf [] w (λw=>(iF X t).holds w))(f:t.cells.length=n)(o:t.seed=sd)(k:t.keys=some (l,m)):
  Θ 70 #[(.agg #[(.int .u64 ((sd:Nat):Int)),(ql X.g n X.c)])] w λe i=>∃ (A1:Δ) (b:Nat) (A2:Δ) (c:Nat),e = .returned (.tuple #[(V A1 l b),(V A2 m c),bT])/\aN [] w [] i:=by
 refine (Ht n sd X.g X.c X.rest t w q.here f.symm o.symm).mono ?_
 rintro e i ⟨j,h⟩
 obtain ⟨p,a,rfl,rfl⟩:=AU k
 unfold BT.raw at a
 rw [f] at a
 cases g:iM n ⟨t,[],[],[]⟩ with
 | none=>rw [g] at a; cases a
 | some s =>
   rw [g] at h a
   obtain ⟨A1,b,A2,c,rfl,-⟩:=h
   cases d:s.t.empty with
   | false=>simp [d] at a
   | true =>
     simp only [d,AA9,V4] at a
     subst a
     exact ⟨A1,b,A2,c,by show Ending.returned (.tuple #[.slice A1 s.added.length b,.slice A2 s.removed.length c,.bool true])=Ending.returned (.tuple #[.slice A1 (dG s.added).length b,.slice A2 (dG s.removed).length c,.bool true]); rw [oG,oG],Mm.rT j⟩
set_option maxHeartbeats 400000 in
theorem YC(n w):
  Θ 69 #[(C n)] w λe a=>e = .returned (C (kW n))/\aN [] w [] a:=by
 refine (Ta n w).mono ?_
 rintro e a ⟨rfl,rfl⟩
 exact ⟨I,Mm.rT (Fr.refl _ _)⟩
set_option maxHeartbeats 400000 in
theorem OF(n w):
  Θ 78 #[(C n)] w λe a=>e = .returned (.bool (fI n))/\aN [] w [] a:=by
 refine (SZ n w).mono ?_
 rintro e a ⟨rfl,rfl⟩
 exact ⟨I,Mm.rT (Fr.refl _ _)⟩
set_option maxHeartbeats 400000 in
theorem OG(n w)(b:dA n):
  Θ 79 #[(.int .u64 ((n:Nat):Int))] w λe a=>e = .returned (C (hU n))/\aN [] w [] a:=by
 refine (Ti n w b).mono ?_
 rintro e a ⟨rfl,rfl⟩
 exact ⟨I,Mm.rT (Fr.refl _ _)⟩
set_option maxHeartbeats 400000 in
theorem Bt(n w)(d:dA n):
  Θ 67 #[(.int .u64 ((n:Nat):Int))] w λe a=>∃ (B:Δ) (cb:Nat),e = .returned (V B (aE n) cb)/\aN [] w [cB B (aE n) cb] a:=by
 refine (yS n w d).mono ?_
 rintro e a h
 obtain ⟨A,c,rfl,b⟩:=(B3 w).newRow h
 exact ⟨A,c,I,b⟩
theorem YE(x:Γ)(w)(t:x.length<=1000):
  Θ 72 #[(vS x)] w λe r=>e = .returned (Y (iW x))/\aN [] w [] r:=by
 refine eO Tryz.func72 25 (B3 w) I<|Nc<|G rfl<|Nb<|G rfl<|R<|LU (e:=5) rfl rfl J J J J rfl (λl o g=>R<|bV (λw d=>TU _ o x w (d.aR (j:=0) I (λ_ h=>EJ h)) U)<|G I<|Nb<|G I<|Nf<|fY ?_)
 have p:=Gh x
 refine sL (λi=>i<=iW x) (λi=>iW x - i) (λi=>[(2,(C 0)),(3,(vS (fP x))),(4,(Y i))]) (λi=>[pK l 5 (B8 x)]) 0 (G6 _) η ?_
 intro i m
 show St _ _ _ [(2,(C 0)),(3,(vS (fP x))),(4,(Y i))] [pK l 5 (B8 x)] _
 refine Ny<|G I<|M (.bool (decide ((i:Int) < 11)))<|lm ?_
 refine St.dec 10 I (λa=>?_) (λa=>?_)
 .have f:=D4 a
  have c:i < 11:=by omega
  have q:=V1 ((fP x).getD (i / 8) 0)
  refine G I<|lu (Y (i / 8)) (vJ I I I U U)<|lu _ (BY I J I I (Gp x U))<|G I<|lu (Y (i % 8)) (ED _ I I I (by decide) (AC6 ..).symm)<|lu (Y (7 - i % 8)) (jT _ I I I U U U)<|lu _ (Yv I I I (by show _<=8; omega))<|lu _ (Yw I I I (ACh (AD6 _ _) q))<|lg (.bool ((((((fP x).getD (i / 8) 0).toNat / 2 ^ (7 - i % 8) % 2:Nat):Int):Int) == 0))<|M (.bool ((((((fP x).getD (i / 8) 0).toNat / 2 ^ (7 - i % 8) % 2:Nat):Int):Int) == 0)) ?_
  refine qi I (λb=>?_) λb=>?_
  .have k:i+1<=iW x:=(OC c m).1 (oU b)
   exact gL<|aJ<|fY<|aF<|G I<|lw (Y (i+1)) bN<|G I<|Nk<|sA _ (k) oz η
  .exact Nj<|aF<|G rfl<|Nd<|sN [_] λw d=>⟨by rw [Yy c m (oE (n:=0) b)]; rfl,(d.pick [] I I)⟩
 .have f:=C7 a
  exact G I<|lF<|Nu<|Nj<|aF<|G rfl<|Nd<|sN [(Y i)] λw d=>⟨by rw [show i=iW x by have s:¬ i < 11:=(λh=>by have:=C7 a; omega); omega]; rfl,(d.pick [] I I)⟩
abbrev C1:=[G9,nS]
theorem Bu(A c l)(n sd:Nat)(w)(r:Rf [] w (λw=>aI w A (SS l)))(z:fI (n:Int)=true)(y:dA sd)(h:∀ x∈l,x.length=32)(u:l.length<=68719476736):
  Θ 41 #[(V A l c),(Y n),(.int .u64 (sd:Int))] w λe s=>∃ (X:RX),e = .returned (.agg #[(.int .u64 (sd:Int)),(ql X.g n X.c)])/\aN [] w [iF X (fK (BT.new n sd) l)] s:=by
 refine kN Tryz.func41 24 (B3 w) rfl<|Nc<|R<|pA C1 λm=>Nb<|G rfl<|R<|gT (λw a=>Hu n sd w ag ag) λX12=>R<|pA C1 λo=>R<|pT 2 [(vU sd),(.slice _ (n) (X12.c))] I<|Nf<|aT ?_
 refine xd ?_
 refine aF<|G rfl<|M (Y l.length)<|G rfl<|Ng<|sL (λ(i,X)=>i<=l.length) (λ(i,X)=>l.length - i) (λ(i,X)=>[(6,(Z m 0)),(7,(Z o 0)),(13,(V A l c)),(14,(Y l.length)),(15,(Y i))]) (λ(i,X)=>[aD m 95 [(.int .u64 0),nS],iF X (fK (BT.new n sd) (l.take i)),aD o 95 [(vU sd),(ql X.g n X.c)]]) (0,X12) (G6 _) (λw a=>by show Mm _ _ _ w; exact a) ?_
 rintro ⟨i,X⟩ (t:i<=l.length)
 dsimp only
 refine Nc<|M (G0 i l) ?_
 refine χ I (λg=>?_) λg=>?_
 .refine Nm<|aF ?_
  obtain ⟨p,b⟩:=gk l i U
  refine St.fC (λw a=>r.now a) (fR b) (λk q d f=>lw (Z k _) (rR 9 d)<|lW (rW f)<|G rfl<|Nv<|lW (zr 2 rfl)<|G rfl<|R<|gT (λw a=>YA X _ n sd p 1 w (a.aR (j:=1) I η) (by rw [Gj,zB]) (by rw [Gk]; rfl) (h _ (F0 b))) λY21=>R<|zu 2 I<|Nk<|aF<|lw (Y (i+1)) bN<|G I<|Na ?_)
  rw [show (fK _ _).change p 1=fK _ _ from Yz b]
  exact sA (i+1,Y21) oz oz (κ [0,3,2] I I)
 .obtain rfl:i=l.length:=U
  rw [R0]
  exact Nj<|aF<|lW (zr 2 rfl)<|R<|zu 0 rfl<|Nd<|dL [_] rfl ⟨rz 0 rfl,trivial⟩ (λw a=>⟨X,I,(a.pick [1] I I)⟩)
theorem DM(A c xs A1 d t w)(h:cC [cB A (xs) c] w)(k:Rf [cB A (xs) c] w (λw=>aI w A1 (B8 t)))(n:xs.length<=1000000)(m:t.length<=1000000):
  Θ 30 #[(V A xs c),(V A1 t d)] w λe l=>∃ (B:Δ) (cb:Nat),e = .returned (V B (xs++aE t.length++t) cb)/\aN [cB A (xs) c] w [cB B (xs++aE t.length++t) cb] l:=by
 refine bS Tryz.func30 13 (h) rfl<|Nc<|G rfl<|Nb<|G rfl<|M (B4 t)<|lw (vU _) (iQ _ (λ_=>J) I I (kV U U))<|R<|dC (λw a=>Bt t.length w (by unfold dA; omega)) λB9 g=>?_
 have j:=eY t.length U
 exact R<|cL gS 0 _ rfl rfl J rfl rfl rfl (by simp [B8]) (λw a=>eN.gJ (fM (i:=1) I w a)) ((iP _)) U _ dV (B8 (xs++(aE t.length))) (by simp [B8]) (λA10 f=>G I<|R<|cL gS 0 _ rfl rfl J rfl rfl rfl (by simp [B8]) (λw a=>eN.gJ (k.now a)) ((iP _)) (by grind) _ dV _ (by simp [B8]) (λA12 b=>G I<|Nd<|sN [_] λw a=>⟨A12,b,I,(a.pick [0] I I)⟩))
theorem YF(k w)(c:k<=500):
  Θ 35 #[(Y k)] w λe b=>e = .returned (.tuple #[(C 1),(.int .i64 (kW ((k+k / 2:Nat):Int)))])/\aN [] w [] b:=by
 exact eO Tryz.func35 11 (B3 w) rfl<|Nc<|G rfl<|Ne<|G rfl<|M (K9 k)<|Na<|fD rfl (by simp; omega)<|Ni<|G rfl<|lw (Y (k / 2)) (vJ rfl rfl rfl U U)<|lw (Y (k+(k / 2))) bN<|R<|bV (λw a=>YC _ w )<|G rfl<|Nd<|sN [_,_] λw a=>⟨I,a⟩
theorem YG(k w)(c:500 < k):
  Θ 35 #[(Y k)] w λe b=>e = .returned (.tuple #[(C 2),(C 0)])/\aN [] w [] b:=by
 exact eO Tryz.func35 11 (B3 w) rfl<|Nc<|G rfl<|Ne<|G rfl<|M (K9 k)<|Na<|lG rfl (by simp; omega)<|Nc<|G rfl<|Nh<|sN [_,_] λw a=>⟨I,a⟩
end
section
theorem DN{c:Nat}{xs:Ξ}(b:(bD e sz A m c xs).holds w):aI w A xs:=by
 intro j u f
 have h:w.ownsRow 0 e sz _ m xs:=b
 rcases h.2 with ⟨_,k⟩ | ⟨g,cap,a,i,_,l,_,_,_,n⟩
 .have:=h.1
  rw [k,AA0] at this
  rw [L1 this] at f
  simp at f
 .simp only [R6] at i
  obtain ⟨rfl,_,_⟩:=i
  refine ⟨g,0,I,(U9.1 l).1,?_⟩
  have d:=(C4.1 f).1
  rw [h.1] at d
  have:a.toList[j]?=some u:=by grind
  rw [K7]
  grind [World.cell?]
def mE(Xs:List RX)(ts:List BT):Ch:=yT (List.zipWith (λX t=>iF X t) Xs ts) (Xs.length=ts.length)
theorem Hv(h:(mE Xs ts).holds w)(a:Xs[k]?=some X)(b:ts[k]?=some t):(iF X t).holds w:=h.1 _ (F0 (i:=k) (by rw [List.getElem?_zipWith,a,b]))
section
variable {w0 w:World}{S:List Nat}{cs:List Ch}{Xs:List RX}{ts:List BT}{X:RX}{t:BT}
theorem Mm.IE(h:Mm w0 S cs w):Mm w0 S (cs++[mE [] []]) w:=Mm.pack (A:=cs) (l:=[]) (B:=[]) (su h) I
theorem Mm.IF(h:Mm w0 S (cs++[mE Xs ts,iF X t]) w):Mm w0 S (cs++[mE (Xs++[X]) (ts++[t])]) w:=by
 obtain ⟨b,a⟩:=Mm.unpack h
 refine Mm.pack ?_ (by simp [a])
 rw [List.zipWith_append a,O4,<- D1]
 exact b
end
structure jA where
 X:RX
 n:Nat
 sd:Nat
def rQ(p:jA):List Value:=[.int .u64 ((p.sd:Nat):Int),.slice (some ⟨p.X.g,0,none⟩) p.n p.X.c]
abbrev TQ(l:List jA):List Value:=l.flatMap rQ
theorem Hw{l:List jA}{p:jA}(h:l[i]?=some p)(j v)(a:(rQ p)[j]?=some v):(TQ l)[i*2+j]?=some v:=by
 induction l generalizing i with
 | nil=>simp at h
 | cons q l c =>
   have b:(rQ q).length=2:=I
   grind
theorem Hx(p:jA):∀ u∈rQ p,u.oneCell'=true:=by simp [rQ,Value.oneCell']
theorem Hy:lN Tryz.prog 82 95 (.agg #[.int .u64 0,nS]) 2 32:=⟨si,J,I,U,U⟩
section
variable {P:Program}{ops:Array Oper}{Q:Exit -> Act -> World -> Prop}{n:Nat}{w0:World}{F:List Nat}{E:eH}{cs:List Ch}{X:Act -> World -> Prop}
theorem OH{ps:List jA}{i:Nat}{p:jA}(h:aI w A (TQ ps))(d:ps[i]?=some p){b q:Nat}(a:A=some ⟨b,q,none⟩):∀ j v,(rQ p)[j]?=some v->w.cell? ⟨b,q+i*2+j,none⟩=some v:=λj v c=>by
 rw [Z4]
 exact yF h (Hw d j v c) a
theorem St.Aa{ps:List jA}{i:Nat}{p:jA}(h:∀ w,Mm w0 F cs w->aI w A (TQ ps))(f:ps[i]?=some p)(k:∀ b q,A=some ⟨b,q,none⟩->(∀ w,Mm w0 F cs w->∀ j v,(rQ p)[j]?=some v->w.cell? ⟨b,q+i*2+j,none⟩=some v)->St n w0 F E cs X):St n w0 F E cs X:=λa w g e=>by
 obtain ⟨b,q,d⟩:=qX (h w e) (Hw f 0 _ I)
 exact k b q d (λl c=>OH (h l c) f d) a w g e
theorem Any.Aa{d:List Ch}{z fuel:Nat}{c:Array Bool}{ps:List jA}{i:Nat}{p:jA}(h:∀ w,Mm w0 F d w->aI w A (TQ ps))(l:ps[i]?=some p)(k:∀ b q,A=some ⟨b,q,none⟩->(∀ w,Mm w0 F d w->∀ j v,(rQ p)[j]?=some v->w.cell? ⟨b,q+i*2+j,none⟩=some v)->Any P ops Q n w0 F E cs d z fuel c):Any P ops Q n w0 F E cs d z fuel c:=λa w o m g r=>by
 obtain ⟨b,q,f⟩:=qX (h w g) (Hw l 0 _ I)
 exact k b q f (λs e=>OH (h s e) l f) a w o m g r
end
def dR(Xs:List RX):List jA:=Xs.zipIdx.map λp=>⟨p.1,12,p.2+1⟩
theorem tE(Xs):(dR Xs).length=Xs.length:=by simp [dR]
theorem Bv(h:Xs[k]?=some X):(dR Xs)[k]?=some ⟨X,12,k+1⟩:=by simp [dR,zg,h]
theorem Hz(Xs X):dR (Xs++[X])=dR Xs++[⟨X,12,Xs.length+1⟩]:=by simp [dR,List.zipIdx_append]
end
def vX(l:List Bs)(i:Nat):List BT:=(List.range i).map (kG l)
theorem YH(l i):vX l (i+1)=vX l i++[kG l i]:=by simp [vX,AAi]
def mF(l:List Bs)(i j:Nat):List Bs:=(l.take j).filter λx=>iW x == i
theorem OI(l i j):(mF l i j).length<=l.length:=P8 (k8 _ _) (by rw [I8]; omega)
theorem YI{l:List Bs}(h:l[j]?=some x)(e:iW x=i):mF l i j++[x]=mF l i (j+1):=by
 grind [mF,List.take_add_one]
theorem YJ{l:List Bs}(h:l[j]?=some x)(e:¬ iW x=i):mF l i j=mF l i (j+1):=by
 grind [mF,List.take_add_one]
theorem YK{l:List Bs}(h:i < 12):cH ((bO l).take i)++aE (kG l i).enc.length++(kG l i).enc=cH ((bO l).take (i+1)):=by
 rw [V9,wZ h,Option.toList_some,CZ,pP,D1]
theorem YL{s q:Nat}(h:s<=(12 - (q+1))*24)(c:q < 12):(s+1)*2 ^ (q+1) < 9223372036854775808:=by
 have a:2 ^ (q+1)<=2 ^ 12:=Y2 U U
 have b:(s+1)*2 ^ (q+1)<=300*2 ^ 12:=Z9 U a
 omega
abbrev K8(a b):=[jA.mk a 12 (b+1)]
theorem Ia(A c l w)(L:Rf [] w (λw=>aI w A (SS l)))(p:∀ x∈l,x.length=32)(S:l.length<=68719476736):
  Θ 37 #[(V A l c)] w λe N=>∃ (B:Δ) (cb:Nat) (Xs:List RX),e = .returned (V B (dR Xs) cb)/\aN [] w [bD 95 2 B ((dR Xs).length) (cb) (TQ (dR Xs)),mE Xs (bO l)] N/\(Xs.length=12):=by
 refine eO Tryz.func37 36 (B3 w) rfl<|Nc<|G rfl<|Nb<|G rfl<|Ne<|G rfl<|Ng<|St.mem (λw a=>a.gB 95 2)<|St.mem (λw a=>a.IE)<|sL (λ(i,B,cb,Xs)=>i<=12/\Xs.length=i) (λ(i,B,cb,Xs)=>12 - i) (λ(i,B,cb,Xs)=>[(0,(V A l c)),(2,nS),(3,(V B (dR Xs) cb)),(4,(Y i))]) (λ(i,B,cb,Xs)=>[bD 95 2 B ((dR Xs).length) (cb) (TQ (dR Xs)),mE Xs (vX l i)]) (0,none,0,[]) ⟨U,I⟩ (λw a=>by show Mm _ _ _ w; exact a) ?_
 rintro ⟨i,B,cb,Xs⟩ ⟨P,m⟩
 dsimp only
 refine Ny<|G I<|M (G8 i) ?_
 refine aO (aJ (aY I (λf=>?_) (λf=>?_)))
 .have u:=D4 f
  have H:i < 12:=by have:=D4 f; omega
  refine Nm<|aF<|G rfl<|Ne<|G rfl<|M (Y l.length)<|G rfl<|Ng<|St.mem (λw a=>a.gB 9 1)<|sL (λ(j,BX,k)=>j<=l.length) (λ(j,BX,k)=>l.length - j) (λ(j,BX,k)=>[(0,(V A l c)),(2,nS),(3,(V B (dR Xs) cb)),(4,(Y i)),(12,(V A l c)),(13,(Y l.length)),(5,(V BX (mF l i j) k)),(14,(Y j))]) (λ(j,BX,k)=>[bD 95 2 B ((dR Xs).length) (cb) (TQ (dR Xs)),mE Xs (vX l i),cS BX (mF l i j) k]) (0,none,0) (G6 _) (λw a=>by show Mm _ _ _ w; exact a) ?_
  rintro ⟨j,BX,k⟩ (Q:j<=l.length)
  dsimp only
  refine Nc<|M (C5 j l) ?_
  refine aO (aJ (aT (aY I (λb=>?_) (λb=>?_))))
  .have s:=D4 b
   refine Nm<|aF ?_
   obtain ⟨n,g⟩:∃ O,(l)[j]?=some O:=⟨_,E1 U⟩
   refine St.fC (λw a=>L.now a) (fR g) (λy z q r=>lw (Z y (z+j)) (rR 9 q)<|lW (rW r)<|G rfl<|Nb<|G rfl<|R<|bV (λw a=>YE n w (by have D:=p _ (F0 g); omega))<|G I<|M (.bool (((((iW n):Nat):Int):Int) == (i:Int))) ?_)
   refine aO (aJ (aY I (λd=>?_) (λd=>?_)))
   .refine aF<|G rfl<|R<|pN 1 9 [(vS n)] λE=>R<|cL gD 2 _ rfl rfl J rfl rfl rfl (rfl) (fE (i:=3) rfl (λj v h=>by rw [K7]; exact h)) (by simp [Value.oneCell']) (by have D:=OI l i j; omega) ((mF l i j++[n]).length) dV (SS (mF l i j++[n])) (by simp [SS]) (λA25 t=>G I<|Nk<|aF<|lw (Y (j+1)) bN<|G I<|Na ?_)
    rw [show mF l i j++[n]=mF l i _ from YI g (oU d)]
    exact sA (j+1,A25,t) (by show _<=_; omega) (by show l.length - (j+1) < l.length - j; omega) (κ [0,1,2] I I)
   .refine Nw<|aF<|lw (Y (j+1)) bN<|G I<|Na ?_
    rw [show mF l i j=mF l i _ from YJ g (oE d)]
    exact sA (j+1,BX,k) (by show _<=_; omega) (by show l.length - (j+1) < l.length - j; omega) η
  .have s:=C7 b
   obtain rfl:j=l.length:=U
   refine Nr<|kL<|aJ<|aF<|G rfl<|lw (Y (i+1)) bN<|lw (vU (i+1)) (iQ _ (λ_=>J) I I (kV U U))<|R<|gT (λw a=>Bu BX k (mF l i l.length) 12 (i+1) w (a.aR (j:=2) I (λ_ h=>aI.bM h)) (by decide) (by unfold dA; omega) (λx K=>p x (List.mem_of_mem_take (List.mem_filter.1 K).1)) (by have D:=OI l i l.length; omega)) λX32=>R<|pN 1 95 [(vU (i+1)),(.slice (some ⟨X32.g,0,none⟩) (12) (X32.c))] λF=>R<|cL Hy 0 ([(vU (i+1)),(.slice (some ⟨X32.g,0,none⟩) (12) (X32.c))]) rfl rfl J rfl rfl rfl (rfl) (fE (i:=4) rfl (λj v h=>by rw [Nat.zero_add]; exact h)) (Hx (jA.mk X32 12 (i+1))) (by rw [tE]; omega) ((dR Xs++(K8 X32 i)).length) dV (TQ (dR Xs++(K8 X32 i))) (by rw [show TQ (dR Xs++(K8 X32 i))=TQ (dR Xs)++TQ (K8 X32 i) from R3 ..]; rfl) (λA34 o=>?_)
   dsimp only [aU,List.set,List.cons_append,List.nil_append]
   rw [show dR Xs++[_]=dR _ from by rw [Hz,m]]
   rw [show fK _ _=kG l i from by unfold mF; rw [List.take_length]; rfl]
   exact G I<|Nk<|aF<|G rfl<|lw (Y (i+1)) bN<|G rfl<|aO (aJ (sA (i+1,A34,o,Xs++[X32]) (⟨U,by simp [m]⟩) (by show 12 - (i+1) < 12 - i; omega) (λw a=>by have h:=Mm.IF (cs:=[bD 95 2 A34 ((dR (Xs++[X32])).length) (o) (TQ (dR (Xs++[X32])))]) (a.pick [0,1,3] I I); rw [<- YH] at h; exact h)))
 .have u:=C7 f
  obtain rfl:i=12:=by have:=C7 f; omega
  rw [show vX l 12=bO l from I]
  exact Nj<|aF<|G rfl<|Nd<|sN [_] λw a=>⟨B,cb,Xs,I,a,m⟩
theorem YM(A c l w)(H:Rf [] w (λw=>aI w A (SS l)))(n:∀ x∈l,x.length=32)(O:l.length<=68719476736):
  Θ 31 #[(V A l c)] w λe K=>∃ (B:Δ) (cb:Nat),e = .returned (V B (cH (bO l)) cb)/\aN [] w [cB B (cH (bO l)) cb] K:=by
 refine eO Tryz.func31 19 (B3 w) rfl<|Nc<|G rfl<|Nb<|G rfl<|Ne<|G rfl<|R<|Cj (λw a=>Ia A c l w (H.aX a) ag U) λB7 m Xs7 E=>M (Y ((dR Xs7).length))<|G rfl<|Ng<|St.mem (λw a=>a.gB 5 1)<|sL (λ(i,AX,d)=>i<=12) (λ(i,AX,d)=>12 - i) (λ(i,AX,d)=>[(2,nS),(7,(V B7 (dR Xs7) m)),(8,(Y ((dR Xs7).length))),(3,(V AX (cH ((bO l).take i)) d)),(9,(Y i))]) (λ(i,AX,d)=>[bD 95 2 B7 ((dR Xs7).length) (m) (TQ (dR Xs7)),mE Xs7 (bO l),cB AX (cH ((bO l).take i)) d]) (0,none,0) (G6 _) (λw a=>by show Mm _ _ _ w; exact a) ?_
 rintro ⟨i,AX,d⟩ (N:i<=12)
 dsimp only
 refine Nc<|M (.bool (decide ((i:Int) < (((dR Xs7).length:Nat):Int)))) ?_
 refine χ I (λb=>?_) λb=>?_
 .have f:i < 12:=by have:=b; rw [tE] at this; omega
  obtain ⟨X,y⟩:=gk Xs7 i U
  have q:=nA n i _ (wZ f)
  have r:=rJ (ts:=(bO l).take i) (λt F=>(nA n).all t (l9 F))
  rw [I8] at r
  have D:=CY q.1 q.2.1
  refine Nm<|aF<|St.Aa (λw a=>oT (i:=0) I w a) (Bv y) (λs u o p=>lw (Z s (u+i*2)) (rO (e:=95) I J J I I o (by rw [tE]; omega))<|lw _ (gI [(vU (i+1)),(ql X.g 12 X.c)] rfl rfl J J (p))<|R<|pA C1 λL=>R<|zu 3 rfl<|Nv<|G rfl<|lW (zr 3 rfl)<|R<|dC (λw a=>OD X (kG l i) 12 (i+1) w (a.aR (j:=1) I (λ_ h=>Hv h y (wZ f))) (LC l i) (LD l i)) λB15 g=>R<|iI [2] (λw a z=>DM AX d _ B15 g ((kG l i).enc) w z (a.fX [2] (j:=4) I (λ_ h=>aI.bM h)) U U) λB16 k=>G I<|Nk ?_)
  refine xd ?_
  refine aF<|lw (Y (i+1)) bN<|G I<|Na ?_
  rw [show (cH _)++aE _++((kG l i).enc)=cH _ from YK f]
  exact sA (i+1,B16,k) oz oz (κ [0,1,2] I I)
 .obtain rfl:i=12:=by have:=b; rw [tE] at this; omega
  rw [show cH ((bO l).take 12)=cH (bO l) from I]
  exact Nj<|aF<|G rfl<|Nd<|sN [_] λw a=>⟨AX,d,I,(a.pick [2] I I)⟩
abbrev N7(a:Nat):Value:=.int .u64 (((a+1):Nat):Int)
theorem OJ(A1 K Xs ts A2 L Ys i w)(r0:Rf [] w (λw=>aI w A1 (TQ (dR Xs))))(r1:Rf [] w (λw=>aI w A2 (TQ (dR Ys))))(r2:Rf [] w (λw=>(mE Xs ts).holds w))(r3:Rf [] w (λw=>(mE Ys i).holds w))(ae:oF ts)(tl:ts.length=12)(Xl:Xs.length=12)(af:oF i)(ul:i.length=12)(Yl:Ys.length=12):
  Θ 36 #[(V A1 (dR Xs) K),(V A2 (dR Ys) L)] w λe w'=>e = .returned (Y (iA ts i))/\aN [] w [] w':=by
 refine wG (yD []) Tryz.func36 I 43 I [(0,(V A1 _ K)),(1,(V A2 _ L))] ⟨I,I,trivial⟩ [] (B3 w)<|Nc<|G rfl<|Nb<|G rfl<|Ne<|G rfl<|Ng<|yB (ι:=Nat × Int × Nat) (λ(p,z,s)=>p<=12/\z=p - 1/\rK ts i p s=iA ts i/\s<=(12 - p)*24) (λ(p,z,s)=>p) (λ(p,z,s)=>[(0,(V A1 _ K)),(1,(V A2 _ L)),(4,(C 0)),(5,(Y s)),(6,(C z))]) (λ(p,z,s)=>[]) (12,11,0) ⟨U,I,I,U⟩ ⟨I,I,I,I,I,trivial⟩ η ?_
 rintro ⟨p,z,s⟩ ⟨hp,hz,m,ad⟩
 show St _ _ _ [(0,(V A1 (dR Xs) K)),(1,(V A2 (dR Ys) L)),(4,(C 0)),(5,(Y s)),(6,(C z))] [] _
 refine Ny<|G I<|M (.bool (decide ((z:Int)>=0))) ?_
 refine ζ I (λk=>?_) λk=>?_
 .obtain ⟨q,rfl⟩:∃ q,p=q+1:=⟨p - 1,by omega⟩
  obtain rfl:z=q:=U
  obtain ⟨X,Q⟩:=gk Xs q U
  obtain ⟨a,S⟩:=gk Ys q U
  obtain ⟨t,N⟩:=gk ts q U
  obtain ⟨u,O⟩:=gk i q U
  obtain ⟨o1,l,P⟩:=ae q t N
  obtain ⟨v1,E,v3⟩:=af q u O
  have rt:=Ro.imp r2 (λw h=>Hv h Q N)
  have ru:=Ro.imp r3 (λw h=>Hv h S O)
  refine Nm ?_
  rcases T:(t.sub u).keys with _ | ⟨n,y⟩
  .refine dN [] 17 J η<|am 0 ?_
   refine am 1 ?_
   refine Any.Aa (λw b=>r0.now b) (Bv Q) (λo ah c f=>aV 2 (Z o _) I (rO (e:=95) I J J I I c (by rw [tE]; omega))<|aV 3 _ I (gI [(.int .u64 (((q+1):Nat))),(ql X.g 12 X.c)] I I J J (f))<|am 4 ?_)
   refine am 5 ?_
   refine Any.Aa (λw b=>r1.now b) (Bv S) (λr x d g=>aV 6 (Z r (x+q*2)) I (rO (e:=95) I J J I I d (by rw [tE]; omega))<|aV 7 (.agg #[(N7 q),(ql a.g 12 a.c)]) rfl (gI [(N7 q),(ql a.g 12 a.c)] rfl rfl J J (g))<|aA 8 rfl<|gT (λw b=>Br X t 12 (q+1) a u (q+1) w (rt.aX b) (ru.aX b) (l) (P) (E)) λZ23=>aQ [iF Z23 (t.sub u)] (κ [] I I) η<|aA 9 rfl<|dC (λw b=>OE Z23 (t.sub u) 12 (q+1) w (b.aR (j:=0) I η) (by rw [mM (by rw [E,l]),l]) (P) ag) λF H=>aQ [iF Z23 (t.sub u)] η η<|am 10 ?_)
   refine aC 11 F I<|aC 12 H I<|aC 13 bF I<|aa 14 ?_
   refine aa 15 ?_
   refine aa 16 ?_
   refine cG J<|aJ<|aT<|aT<|St.to [iF Z23 (t.sub u)] J<|aF<|G I<|lT<|Nt<|aT ?_
   have ab:(s+1)*2 ^ (q+1) < 9223372036854775808:=YL ad U
   exact aF<|G rfl<|lw _ (pZ _ rfl rfl rfl U U U)<|G rfl<|lw _ (pZ _ rfl rfl rfl U U U)<|lw _ (Md rfl rfl rfl U ab)<|G rfl<|Nq<|cJ<|dL [_] rfl ⟨rfl,trivial⟩ (λw b=>⟨by rw [<- m,LM N O T]; rfl,(b.pick [] I I)⟩)
  .have D:rK ts i q (s+n.length+y.length)=iA ts i:=by rw [<- LN N O T]; exact m
   have W:=vN T
   rw [mM (by rw [E,l]),l] at W
   refine dN [] 17 J η<|am 0 ?_
   refine am 1 ?_
   refine Any.Aa (λw b=>r0.now b) (Bv Q) (λo ah c f=>aV 2 (Z o _) I (rO (e:=95) I J J I I c (by rw [tE]; omega))<|aV 3 _ I (gI [(.int .u64 (((q+1):Nat))),(ql X.g 12 X.c)] I I J J (f))<|am 4 ?_)
   refine am 5 ?_
   refine Any.Aa (λw b=>r1.now b) (Bv S) (λr x d g=>aV 6 (Z r (x+q*2)) I (rO (e:=95) I J J I I d (by rw [tE]; omega))<|aV 7 (.agg #[(N7 q),(ql a.g 12 a.c)]) rfl (gI [(N7 q),(ql a.g 12 a.c)] rfl rfl J J (g))<|aA 8 rfl<|gT (λw b=>Br X t 12 (q+1) a u (q+1) w (rt.aX b) (ru.aX b) (l) (P) (E)) λZ23=>aQ [iF Z23 (t.sub u)] (κ [] I I) η<|aA 9 rfl<|qZ (λw b=>YB Z23 (t.sub u) 12 (q+1) n y w (b.aR (j:=0) I η) (by rw [mM (by rw [E,l]),l]) (P) ag) λA124 A A224 B=>aQ [iF Z23 (t.sub u)] η η<|am 10 ?_)
   refine aC 11 (V A124 n A) I<|aC 12 (V A224 y B) I<|aC 13 bT I<|aa 14 ?_
   refine aa 15 ?_
   refine aa 16 ?_
   refine cG J<|aJ<|aT<|aT<|St.to [iF Z23 (t.sub u)] J<|aF<|G I<|lF<|Nu<|gL<|aJ<|aF<|G I<|M (Y n.length)<|lw (Y (s+n.length)) (pZ _ I I I U U U)<|G I<|M (Y y.length)<|lw (Y (s+n.length+y.length)) (pZ _ I I I U U U)<|G I<|Nk<|aF<|G I<|lw (.int .i64 (((q:Nat)) - 1)) (jT _ I I I U U U)<|G I ?_
   exact Na<|yC (q,((q:Nat)) - 1,s+n.length+y.length) (⟨U,rfl,D,by omega⟩) oz ⟨rfl,rfl,rfl,rfl,rfl,trivial⟩ (λw b=>(b.pick [] I I))
 .obtain rfl:p=0:=by have:=k; omega
  exact Nj<|aF<|G rfl<|Nd<|sN [_] λw b=>⟨by rw [<- m]; rfl,b⟩
def dI(l:Bs)(bad:Bool):Nat × Bs × Bool:=if bad then (0,l,true) else match eP l 0 with
 | some (n,m)=>(n,l.drop m,false)
 | none=>(0,l,true)
theorem xJ{v:Nat}(r)(h:dA v):dI (aE v++r) false=(v,r,false):=by
 have e:=yP (aE v++r) 0 v r I h
 unfold dI
 grind
theorem YN{v:Nat}(h:aE v=l.take k)(a:dA v):dI l false=(v,l.drop k,false):=by
 grind [List.take_append_drop,xJ]
theorem Ib(h:eP l 0=none):dI l false=(0,l,true):=by
 unfold dI
 grind
theorem OK(c:∀ j b,j < k->l[j]?=some b->128<=b.toNat)(a:k=l.length\/k=10/\k<=l.length):dI l false=(0,l,true):=by
 refine Ib ?_
 rcases a with a | ⟨rfl,a⟩
 .exact IT l 0 k (by simpa using c) U
 .exact IU l 0 (by simpa using c) U
theorem YO{x:UInt8}(g:∀ j b,j < k->l[j]?=some b->128<=b.toNat)(i:l[k]?=some x)(a:x.toNat < 128)(h:aE (eC l (k+1) % 18446744073709551616)≠l.take (k+1)):dI l false=(0,l,true):=by
 refine Ib ?_
 have e:=uQ l 0 k x (su g) (su i) a
 by_cases f:k<=9/\¬ (0 < k/\x.toNat=0)/\¬ (k=9/\1 < x.toNat)
 .rw [P1 f,AAb] at e
  have n:=(rD _ _ _ _ e).2.2
  obtain ⟨c,d⟩:=Eg k l g ⟨x,i,a,f.2.1⟩
  rw [l8 n] at h
  have m:l.take (k+1)=aE (eC l (k+1)):=by
   generalize aE _=z at c d
   rw [c,<- d,AB4]
  exact absurd m.symm h
 grind
theorem DO{v:Nat}(h:dI l false=(v,l',false)):l=aE v++l'/\dA v:=by
 unfold dI at h
 rw [P4 si] at h
 cases a:eP l 0 with
 | none=>grind
 | some p =>
   obtain ⟨n,m⟩:=p
   rw [a] at h
   simp only [e7,AD3] at h
   obtain ⟨rfl,rfl⟩:=h
   have b:=vB l 0 n m a
   rw [AAb] at b
   exact ⟨b,(rD _ _ _ _ a).2.2⟩
theorem Ic(l):dI l true=(0,l,true):=rfl
theorem xK(l bad):dA (dI l bad).1:=by
 unfold dI
 split
 .show (0:Nat) < 18446744073709551616; decide
 .cases a:eP l 0 with
  | none=>show (0:Nat) < 18446744073709551616; decide
  | some p=>exact (rD _ _ _ _ a).2.2
theorem OL(h:dJ l false n=false):l=bQ l false n++dM l false n/\(bQ l false n).length=n:=by
 have a:n<=l.length:=by simp [dJ] at h; omega
 unfold bQ dM
 rw [h,P4 si,P4 si,S6]
 grind
theorem OM(k r):bQ (k++r) false k.length=k/\dM (k++r) false k.length=r/\dJ (k++r) false k.length=false:=by
 have h:dJ (k++r) false k.length=false:=by simp [dJ]
 unfold bQ dM
 grind
def aS(l:Bs)(bad:Bool)(most:Nat):Nat × Bs × Bool:=if most < (dI l bad).1 then (0,(dI l bad).2.1,true) else dI l bad
theorem Ie{v:Nat}(r)(h:dA v)(a:v<=most):aS (aE v++r) false most=(v,r,false):=by
 unfold aS
 rw [xJ r h,P4 (by show ¬ most < v; omega)]
theorem ON{v:Nat}(h:aS l false most=(v,l',false)):l=aE v++l'/\dA v/\v<=most:=by
 grind [aS,DO]
def mT(k:Bs):Bs:=k++List.replicate (32 - k.length) 0
def jE(l:Bs):BC × Bs × Bool :=
 (⟨hU (dI l false).1,mT (bQ (dI l false).2.1 (dI l false).2.2 32),(dI (dM (dI l false).2.1 (dI l false).2.2 32) (dJ (dI l false).2.1 (dI l false).2.2 32)).1⟩,
  (dI (dM (dI l false).2.1 (dI l false).2.2 32) (dJ (dI l false).2.1 (dI l false).2.2 32)).2)
theorem If(h:(dI l b).2.2=false):b=false:=by
 cases b with
 | false=>rfl
 | true=>cases h
theorem OO(h:dJ l b n=false):b=false:=by
 cases b with
 | false=>rfl
 | true=>cases h
theorem YP(h:(jE l).2.2=false):l=(jE l).1.enc++(jE l).2.1/\(jE l).1.Ok:=by
 have a:=If h
 have c:=OO a
 obtain ⟨a1,e⟩:=DO (l:=l) (v:=(dI l false).1) (l':=(dI l false).2.1) (AD5 I (AD5 I c))
 unfold jE at h ⊢
 rw [c] at h a ⊢
 obtain ⟨f,b⟩:=OL a
 rw [a] at h ⊢
 obtain ⟨g,i⟩:=DO (v:=(dI _ _).1) (l':=(dI _ _).2.1) (AD5 I (AD5 I h))
 have d:mT (bQ (dI l false).2.1 false 32)=bQ (dI l false).2.1 false 32:=by unfold mT; rw [b]; simp
 refine ⟨?_,Fq _ e,by show (mT _).length=32; rw [d]; exact b,i⟩
 show l=aE (gH (hU (dI l false).1))++mT _++aE _++_
 rw [Kw,d,D1,D1,<- g,<- f]
 exact a1
theorem YQ(h:c.Ok)(r):(jE (c.enc++r)).2=(r,false):=by
 have e:c.enc++r=aE (gH c.count)++(c.keys++(aE c.checks++r)):=by simp [BC.enc]
 rw [e]
 unfold jE
 rw [xJ _ (xU _ h.count.1 h.count.2)]
 have t:=OM c.keys (aE c.checks++r)
 rw [h.keys] at t
 dsimp only
 rw [t.2.1,t.2.2,xJ _ h.checks]
theorem Bw(l):(jE l).1.Ok:=by
 refine ⟨Fq _ (xK l _),?_,xK _ _⟩
 show (mT _).length=32
 grind [mT,bQ]
structure pV (b:Bs) (n seed i:Nat) (cl:List BC) (l:Bs) (bad:Bool):Prop where
 le:i <= n
 len:cl.length=n
 ok:∀ c∈cl,c.Ok
 snd:bad=false -> b=aE n++aE seed++(cl.take i).flatMap BC.enc++l
 cpl:∀ t,eZ b=some t -> bad=false /\ t.cells.length=n /\ t.seed=seed /\ l=(t.cells.drop i).flatMap BC.enc
theorem pV.step{b:Bs}(h:pV b n seed i cl l false)(hi:i < n):pV b n seed (i+1) (cl.set i (jE l).1) (jE l).2.1 (jE l).2.2:=by
 refine ⟨hi,by rw [a6]; exact h.len,λc d=>?_,λo=>?_,λt j=>?_⟩
 .rcases AAg d with d | rfl
  .exact h.ok c d
  .exact Bw l
 .obtain ⟨p,-⟩:=YP o
  have q:=h.snd I
  have r:(cl.set i (jE l).1).take (i+1)=cl.take i++[(jE l).1]:=by
   rw [V9,X7 (by rw [h.len]; omega),List.take_set_of_le (J7 _)]
   rfl
  grind
 .obtain ⟨-,k,m,g⟩:=h.cpl t j
  have f:=(tC j).1
  have a:i < t.cells.length:=U
  rw [V2 a,V5] at g
  have e:=YQ (f.cells _ (y9 a)) ((t.cells.drop (i+1)).flatMap BC.enc)
  rw [<- g] at e
  exact ⟨by rw [e],k,m,by rw [e]⟩
theorem pV.start{b:Bs}(a:aS b false 3072=(n,l1,false))(g:dI l1 false=(seed,l2,false)):pV b n seed 0 (List.replicate n BC.zero) l2 false:=by
 obtain ⟨a1,m,o⟩:=ON a
 obtain ⟨i,p⟩:=DO g
 refine ⟨G6 _,si,λc j=>by rw [(List.mem_replicate.1 j).2]; exact BC.Ok.zero,λ_=>?_,λt h=>?_⟩
 .rw [a1,i]; simp
 .obtain ⟨k,l⟩:=tZ h
  have d:=(tC h).1
  have f:=jQ l
  have e:b=aE t.cells.length++(aE t.seed++t.cells.flatMap BC.enc):=by
   rw [<- k]; unfold BT.enc fW; grind
  rw [e,Ie _ (by unfold dA; omega) f.2.1] at a
  simp only [e7,AD3] at a
  obtain ⟨rfl,rfl⟩:=a
  rw [xJ _ d.seed] at g
  grind
theorem pV.yes{b:Bs}(h:pV b n seed n cl [] false)(d:fI (n:Int)=true)(c:dA seed):eZ b=some ⟨cl,seed⟩:=by
 have e:=h.snd I
 have a:b=(BT.mk cl seed).enc:=by
  unfold BT.enc fW
  rw [O4,U2 (by rw [h.len]; exact J7 _)] at e
  show b=aE _++aE seed++(cl.take _).flatMap _
  rw [U2 (J7 _),h.len]
  omega
 rw [a]
 exact CB ⟨h.ok,c⟩ (by rw [h.len]; omega)
theorem YR{b:Bs}(h:(aS b false 3072).2.2=true\/(dI (aS b false 3072).2.1 false).2.2=true\/fI ((aS b false 3072).1:Int)=false):eZ b=none:=by
 cases d:eZ b with
 | none=>rfl
 | some t =>
   obtain ⟨f,g⟩:=tZ d
   have a:=(tC d).1
   have c:=jQ g
   have e:b=aE t.cells.length++(aE t.seed++t.cells.flatMap BC.enc):=by
    rw [<- f]; unfold BT.enc fW; grind
   rw [e,Ie _ (by unfold dA; omega) c.2.1] at h
   dsimp only at h
   rw [xJ _ a.seed] at h
   grind
section
section
variable {P:Program}{w0:World}{F:List Nat}{E:eH}{cs:List Ch}{o:Oper}
theorem zP{x:Operand}{a b:Nat}(c:o.op = .binOp .sub ty x y u)(d:bA E x=some (C (a:Int)))(e:bA E y=some (C (b:Int)))(g:b<=a)(f:a<=9223372036854775807):eD P w0 F cs E o (C ((a - b:Nat):Int)) :=
 jT _ c d e U U U
end
theorem dK.len(h:dK r bs):r.D.length - r.off=bs.length:=by rw [<- h.bytes,Q7]
theorem dK.start(D):dK (Rd.mk D 0 0 0) D:=⟨I,I⟩
theorem dK.rest{t rest:Bs}(h:dK r ((aE t.length++t)++rest))(b:dA t.length):r.rest.1=t/\dK r.rest.2 rest:=by
 have a:=h.len
 simp only [C3] at a
 exact h.text U b
theorem DP(g:k<=100)(f:D.length<=4294967296):∃ q0,(Rd.mk (bB k D) 0 0 0).uint=(k,q0)/\q0.rest.1=D/\q0.rest.2.end_=0:=by
 have a:=dK.start (bB k D)
 obtain ⟨b,c⟩:=dK.uint a (mP U)
 obtain ⟨d,e⟩:=dK.rest (t:=D) (rest:=[]) (by rw [O4]; exact c) (mP U)
 exact ⟨_,AD5 b I,d,e.end_⟩
theorem YS(d:k<=100):∃ q0,(Rd.mk (aE k) 0 0 0).uint=(k,q0)/\q0.end_=0:=by
 have a:=dK.start (aE k)
 obtain ⟨b,c⟩:=dK.uint (n:=k) (rest:=[]) (by rw [O4]; exact a) (mP (by omega))
 exact ⟨_,AD5 b I,c.end_⟩
theorem OP(a:oF ts){rest:Bs}(h:dK r (cH ts++rest)):∀ i,i<=ts.length->∃ q,jI r i=(some (ts.take i),q)/\dK q (cH (ts.drop i)++rest)
 | 0,_=>⟨r,I,h⟩
 | i+1,l=>by
  obtain ⟨q,d,b⟩:=OP a h i (by omega)
  have c:ts[i]?=some ts[i]:=E1 (by omega)
  obtain ⟨t1,t2,k⟩:=a i _ c
  have j:cH (ts.drop i)=pP ts[i]++cH (ts.drop (i+1)):=by rw [V2 (by omega)]; rfl
  rw [j,D1] at b
  obtain ⟨e,f⟩:=dK.rest (t:=ts[i].enc) b (mP (by have:=CY t1 t2; omega))
  refine ⟨_,?_,f⟩
  have g:eZ q.rest.1=some ts[i]:=by rw [e]; exact CB t1 (by rw [t2]; decide)
  rw [LG d g (by simp [kH,t2,k]),V9,c]
  rfl
theorem Ig(c:oF ts)(b:ts.length=12):eS (cH ts)=some ts:=by
 obtain ⟨q,a,d⟩:=OP c (r:=Rd.mk (cH ts) 0 0 0) (rest:=[]) (by rw [O4]; exact dK.start _) 12 (by omega)
 rw [<- b,R0] at a
 rw [<- b,List.drop_length] at d
 rw [b] at a
 rw [Gt a,P1 d.end_]
theorem YT(a:∀ x∈its,x.length=32)(b:fI (n:Int)=true):∃ q0 q1,(Rd.mk (fO its n) 0 0 0).uint=(2,q0)/\q0.sum=(eI its,q1)/\eZ q1.rest.1=some (fZ its n)/\q1.rest.2.end_=0:=by
 have k:=(jQ b).2.1
 have j:(fZ its n).enc.length<=200000:=wP (rI a n) (by rw [jW]; omega) _
 have c:=dK.start (fO its n)
 obtain ⟨d,e⟩:=dK.uint (n:=2) (rest:=eI its++pP (fZ its n)) c (mP (by omega))
 obtain ⟨f,g⟩:=dK.sum e (uO _)
 obtain ⟨h,i⟩:=dK.rest (t:=(fZ its n).enc) (rest:=[]) (by rw [O4]; exact g) (mP (by omega))
 exact ⟨_,_,AD5 d I,AD5 f I,by rw [h]; exact CB (rI a n) (by rw [jW]; exact b),i.end_⟩
theorem vY(d:k<=100)(c:D.length<=4294967296):(bB k D).length<=D.length+20:=by
 have a:=eY k U
 have b:=eY D.length U
 grind [bB]
theorem zQ{a b:List Bs}{f l:Nat}(h:j % 2=par):cE a b f l par (j+1)=((cE a b f l par j).1++(iZ a b f l j).need,(cE a b f l par j).2++(iZ a b f l j).off):=by rw [cE,P1 h]
theorem zR{a b:List Bs}{f l:Nat}(h:¬ j % 2=par):cE a b f l par (j+1)=cE a b f l par j:=by rw [cE,P4 h]
end
theorem OQ:∀ {i:Nat} {ts:List BT} {c:Rd},jI r i=(some ts,c)->c.err=0->kY r c (cH ts)
 | 0,ts,c,h,f=>by
  rw [jI] at h
  simp only [e7,V4] at h
  obtain ⟨rfl,rfl⟩:=h
  exact ⟨f,I,I⟩
 | i+1,ts,c,h,f=>by
  rw [jI] at h
  cases g:jI r i with
  | mk a b =>
   rw [g] at h
   cases a with
   | none=>simp at h
   | some j =>
    simp only at h
    cases d:eZ b.rest.1 with
    | none=>rw [d] at h; simp at h
    | some t =>
     rw [d] at h
     simp only at h
     split at h
     .simp only [e7,V4] at h
      obtain ⟨rfl,rfl⟩:=h
      have t1:=(FV b _ f).1
      have t2:=(OQ g t1.err).trans t1
      have e:=(tZ d).1
      rw [CZ,pP,e]
      exact t2
     .simp at h
theorem YU(h:eS D=some ts):D=cH ts:=by
 unfold eS at h
 cases e:jI (Rd.mk D 0 0 0) 12 with
 | mk a b =>
   rw [e] at h
   cases a with
   | none=>simp at h
   | some f =>
     simp only at h
     split at h
     .rename_i c
      injection h with h
      subst h
      have t:=OQ e (by
       unfold Rd.end_ at c
       by_cases d:b.err=0
       .exact d
       .rw [P1 d] at c; exact absurd c d)
      exact t.end_ c
     .cases h
def eE(l:Bs):Bs × Bs × Bool:=(bQ (aS l false 1048576).2.1 (aS l false 1048576).2.2 (aS l false 1048576).1,dM (aS l false 1048576).2.1 (aS l false 1048576).2.2 (aS l false 1048576).1,dJ (aS l false 1048576).2.1 (aS l false 1048576).2.2 (aS l false 1048576).1)
theorem YV(h:(eE l).2.2=false):l=aE (eE l).1.length++(eE l).1++(eE l).2.1:=by
 have a:=OO h
 obtain U:=ON (l:=l) (v:=(aS l false 1048576).1) (l':=(aS l false 1048576).2.1) (most:=1048576) zg
 grind [eE,OL]
theorem YW(r)(h:x.length<=1048576):eE (aE x.length++x++r)=(x,r,false):=by
 grind [eE,Ie,dA,OM]
structure mG (D:Bs) (i:Nat) (ts:List BT) (l:Bs):Prop where
 len:ts.length=i
 ok:oF ts
 snd:D=cH ts++l
 cpl:∀ us,eS D=some us -> ts=us.take i /\ l=cH (us.drop i)
theorem mG.start(D):mG D 0 [] D:=⟨I,λi t h=>by simp at h,I,λa h=>⟨I,YU h⟩⟩
theorem mG.next(h:mG D i ts l)(hi:i < 12)(n:D.length<=20000)(c:eS D=some us):∃ t,us[i]?=some t/\eE l=(t.enc,cH (us.drop (i+1)),false)/\eZ t.enc=some t/\t.cells.length=12/\t.seed=i+1:=by
 obtain ⟨m,b⟩:=h.cpl us c
 obtain ⟨p,k⟩:=oV c
 have a:i < us.length:=U
 obtain ⟨g,d,j⟩:=k i us[i] (E1 a)
 rw [V2 a] at b
 have e:l=aE _++us[i].enc++cH _:=b
 have o:l.length<=D.length:=by rw [h.snd,C3]; omega
 have f:us[i].enc.length<=1048576:=by
  grind
 refine ⟨_,E1 a,by rw [e]; exact YW _ f,CB g (by rw [d]; decide),d,j⟩
theorem mG.no(h:mG D i ts l)(hi:i < 12)(f:D.length<=20000)(a:(eE l).2.2=true\/∀ t,eZ (eE l).1=some t->t.cells.length≠12\/t.seed≠i+1):eS D=none:=by
 cases g:eS D with
 | none=>rfl
 | some j =>
   obtain ⟨t,-,b,c,d,e⟩:=h.next hi f g
   rw [b] at a
   rcases a with a | a
   .cases a
   .rcases a t c with a | a
    .exact absurd d a
    .exact absurd e a
theorem mG.step(h:mG D i ts l)(hi:i < 12)(m:D.length<=20000)(n:(eE l).2.2=false)(b:eZ (eE l).1=some t)(o:t.cells.length=12)(p:t.seed=i+1):mG D (i+1) (ts++[t]) (eE l).2.1:=by
 obtain ⟨e,r⟩:=tZ b
 refine ⟨by rw [C3,h.len]; rfl,λj u a=>?_,?_,λq a=>?_⟩
 .rcases W4 j ts.length with c | c
  .rw [R1 c] at a
   exact h.ok j u a
  .rw [T8 c] at a
   have d:j - ts.length=0:=by
    have:=(C4.1 a).1
    simp at this
    omega
   rw [d] at a
   simp at a
   subst a
   exact ⟨(tC b).1,o,by rw [p,<- h.len]; omega⟩
 .rw [CZ,pP,e,D1,<- YV n]
  exact h.snd
 .obtain ⟨s,f,g,k,-,-⟩:=h.next hi m a
  rw [g] at b ⊢
  rw [k] at b
  injection b with b
  subst b
  refine ⟨?_,I⟩
  rw [V9,f,<- (h.cpl q a).1]
  rfl
theorem mG.yes(h:mG D 12 ts []):eS D=some ts:=by
 have e:=h.snd
 rw [O4] at e
 rw [e]
 exact Ig h.ok h.len
section
section
variable {P:Program}{w0:World}{F:List Nat}{E:eH}{cs:List Ch}{o:Oper}
theorem YX{x:Operand}{a b:Nat}(c:o.op = .binOp .mul ty x y u)(d:bA E x=some (.int .u64 (a:Int)))(e:bA E y=some (.int .u64 (b:Int))):eD P w0 F cs E o (.int .u64 ((a*b % 18446744073709551616:Nat):Int)):=λw _=>by
 unfold execOp
 simp only [c,cU d,cU e,P5,pY,J3,binOp,Op.intArith,X0]
 simp
theorem YZ{x:Operand}{a b:Nat}(c:o.op = .binOp .add ty x y u)(d:bA E x=some (.int .u64 (a:Int)))(e:bA E y=some (.int .u64 (b:Int))):eD P w0 F cs E o (.int .u64 (((a+b) % 18446744073709551616:Nat):Int)):=λw _=>by
 unfold execOp
 simp only [c,cU d,cU e,P5,pY,J3,binOp,Op.intArith,X0]
 simp
end
theorem Za{x:UInt8}(a:l[i]?=some x)(hi:i < k):(eC (l.drop (i+1)) (k - (i+1)) % 18446744073709551616*128 % 18446744073709551616+x.toNat % 128) % 18446744073709551616=eC (l.drop i) (k - i) % 18446744073709551616:=by
 rw [<- NR a hi]
 omega
theorem xL(br A D A1 d l bad n w)(s:cC [aD br 80 [(V A1 l d),(.bool bad)]] w)(u:Rf [aD br 80 [(V A1 l d),(.bool bad)]] w (λw=>aI w A (B8 D)))(i:cZ A D A1 l d)(_:D.length<=1048576)(F:n<=1048576):
  Θ 42 #[(Z br 0),(Y n)] w λe y=>∃ (A2:Δ) (q:Nat) (B:Δ) (cb:Nat),e = .returned (V B (bQ l bad n) cb)/\aN [aD br 80 [(V A1 l d),(.bool bad)]] w [aD br 80 [(V A2 (dM l bad n) q),(.bool (dJ l bad n))],cB B (bQ l bad n) cb] y/\(cZ A D A2 ((dM l bad n)) q):=by
 have m:=i
 obtain ⟨o,p,t⟩:=m
 have x:=u.imp (λw h=>o w h)
 refine bS Tryz.func42 44 (s) I<|Nc<|G I<|Nf<|aT ?_
 cases E:bad with
 | true =>
   have c:dJ l true n=true:=I
   refine aF<|G rfl<|M (Z br 0)<|M (Z br 1)<|lL 0 rfl<|G rfl<|lT<|G rfl<|lT<|No<|G rfl<|M (Z br 0)<|M (Z br 1)<|R<|pS 0 rfl<|Nf<|St.mem (λw b=>b.gB 5 1)<|aF<|G rfl<|Nh<|sN [nS] λw b=>?_
   rw [show bQ l true n=[] from by unfold bQ; grind,show dM l true n=l from by unfold dM; grind,c]
   exact ⟨_,_,_,0,I,(b).pick [0,1] I I,i⟩
 | false =>
   refine aF<|G I<|M (Z br 0)<|M (Z br 1)<|lL 0 I<|G I<|lg (C8 n)<|M (C8 n)<|G I<|St.known 14 (b':=false) I si<|G I<|lg (Z br 0)<|lg (Z br 0)<|lu _ (bW 0 I I J I I)<|lg (B4 l)<|lg (.bool (decide (((n:Nat):Int) > ((l.length:Nat):Int))))<|M (.bool (decide (((n:Nat):Int) > ((l.length:Nat):Int)))) ?_
   refine ζ I (λa=>?_) λa=>?_
   .have c:dJ l false n=true:=by have:=a; simp [dJ]; omega
    refine Nc<|G rfl<|M (Z br 0)<|M (Z br 1)<|R<|pS 0 rfl<|Nf<|St.mem (λw b=>b.gB 5 1)<|aF<|G rfl<|Nh<|sN [nS] λw b=>?_
    rw [show bQ l _ n=[] from by unfold bQ; rw [c]; rfl,show dM l _ n=l from by unfold dM; rw [c]; rfl,c]
    exact ⟨_,_,_,0,I,(b).pick [0,1] I I,i⟩
   .have c:dJ l false n=false:=by have:=a; simp [dJ]; omega
    have k:n<=l.length:=by have:=a; omega
    refine Ni<|R<|pN 0 5 [] λr=>G I<|M (Z br 0)<|M (Z br 0)<|lL 0 I<|G I ?_
    have g:=x.imp (λ_ f=>qY n (f))
    refine lw (V A1 _ d) (gY (sH (e:=5) I J J I I (by have:=p; omega)) (by show Value.slice _ _ _=Value.slice _ _ _; rw [I8,Y0 U]))<|R<|oP (λw b=>b.tJ 1 I 1)<|cL gS 1 _ rfl rfl J rfl rfl rfl (by simp) (λw b=>eN.gJ (g.now b)) ((iP _)) (by rw [I8]; omega) ((l.take n).length) dV (B8 (l.take n)) (by simp [B8]) (λA33 j=>G I<|Nf ?_)
    refine xd ?_
    refine aF<|G I<|M (Z br 0)<|M (Z br 0)<|lL 0 I<|G I ?_
    refine lw (V (if d=n then A1 else A1.map (·.add (n*1))) (l.drop n) (d - n)) (gY (sI (e:=5) (sz:=1) I J J I I U) (by show Value.slice _ _ _=Value.slice _ _ _; simp only [Q7]))<|M (Z br 0)<|M (Z br 0)<|R<|pS 0 rfl<|Nb<|G rfl<|Nd<|sN [(V A33 _ j)] λw b=>?_
    rw [show bQ l _ n=l.take n from by unfold bQ; rw [c]; rfl,show dM l _ n=l.drop n from by unfold dM; rw [c]; rfl,c]
    exact ⟨_,_,_,_,I,b,i.drop k⟩
theorem xM(br A D A1 k l bad w)(hO:cC [aD br 80 [(V A1 l k),(.bool bad)]] w)(r0:Rf [aD br 80 [(V A1 l k),(.bool bad)]] w (λw=>aI w A (B8 D)))(t:cZ A D A1 l k)(_:D.length<=1048576):
  Θ 68 #[(Z br 0)] w λe w'=>∃ (A2:Δ) (c2:Nat),e = .returned (.int .u64 (((dI l bad).1:Nat):Int))/\aN [aD br 80 [(V A1 l k),(.bool bad)]] w [aD br 80 [(V A2 ((dI l bad).2.1) c2),(.bool (dI l bad).2.2)]] w'/\(cZ A D A2 ((dI l bad).2.1) c2):=by
 have S:=t
 obtain ⟨T,W,ai⟩:=S
 have rr:=r0.imp (λw h=>T w h)
 refine eO Tryz.func68 77 (hO) I<|aT ?_
 cases x:bad with
 | true =>
   refine aF<|G rfl<|Ne<|G rfl<|Ng<|sL (λi=>i=0) (λi=>0) (λi=>[(0,(Z br 0)),(2,(.int .u64 0)),(3,(Y (i+1)))]) (λi=>[aD br 80 [(V A1 l k),bT]]) 0 I zg ?_
   intro i ae
   show St _ _ _ [(0,(Z br 0)),(2,(.int .u64 0)),(3,(Y (i+1)))] [aD br 80 [(V A1 l k),bT]] _
   refine Ny<|G I<|M (.bool (decide ((((i+1):Nat):Int)<=10)))<|lm ?_
   refine St.dec 8 I (λf=>?_) (λf=>?_)
   .have H:=D4 f
    refine G I<|lg (Z br 0)<|lg (Z br 0)<|lu _ (bW 0 I I J I I)<|lg (Y l.length)<|lg (.bool (decide ((((i+1):Nat):Int)<=((l.length:Nat):Int))))<|M (.bool (decide ((((i+1):Nat):Int)<=((l.length:Nat):Int))))<|lm ?_
    refine St.dec 17 I (λa=>?_) (λa=>?_)
    .have n:=D4 a
     refine G I<|lg (Z br 0)<|lg (Z br 1)<|lu bT (bW 0 rfl rfl J rfl rfl)<|lg bF<|lF<|Nu<|Nj<|aF<|G rfl<|M (Z br 0)<|M (Z br 1)<|R<|pS 0 rfl<|Nb<|G rfl<|Nd<|sN [(.int .u64 0)] λw c=>?_
     rw [Ic]
     exact ⟨_,_,I,c,t⟩
    .have n:=C7 a
     refine G I<|lF<|Nu<|Nj<|aF<|G rfl<|M (Z br 0)<|M (Z br 1)<|R<|pS 0 rfl<|Nb<|G rfl<|Nd<|sN [(.int .u64 0)] λw c=>?_
     rw [Ic]
     exact ⟨_,_,I,c,t⟩
   grind
 | false =>
   refine aF<|G rfl<|Ne<|G rfl<|Ng<|sL (λi=>i<=10/\i<=l.length/\∀ j b,j < i->l[j]?=some b->128<=b.toNat) (λi=>10 - i) (λi=>[(0,(Z br 0)),(2,(.int .u64 0)),(3,(Y (i+1)))]) (λi=>[aD br 80 [(V A1 l k),bF]]) 0 ⟨G6 _,G6 _,λj b h=>absurd h U⟩ (λw c=>by show Mm _ _ _ w; exact c) ?_
   rintro i ⟨ad,P,g⟩
   show St _ _ _ [(0,(Z br 0)),(2,(.int .u64 0)),(3,(Y (i+1)))] [aD br 80 [(V A1 l k),bF]] _
   refine Ny<|G I<|M (.bool (decide ((((i+1):Nat):Int)<=10)))<|lm ?_
   refine St.dec 8 I (λf=>?_) (λf=>?_)
   .have H:=D4 f
    have af:i+1<=10:=by have:=D4 f; omega
    refine G I<|lg (Z br 0)<|lg (Z br 0)<|lu _ (bW 0 I I J I I)<|lg (Y l.length)<|lg (.bool (decide ((((i+1):Nat):Int)<=((l.length:Nat):Int))))<|M (.bool (decide ((((i+1):Nat):Int)<=((l.length:Nat):Int))))<|lm ?_
    refine St.dec 17 I (λa=>?_) (λa=>?_)
    .have n:=D4 a
     have ah:i+1<=l.length:=by have:=D4 a; omega
     refine G I<|lg (Z br 0)<|lg (Z br 1)<|lu bF (bW 0 I I J I I)<|lg bT<|lT<|Nt<|Nm<|Nc<|G I<|M (Z br 0)<|M (Z br 0)<|lL 0 I<|G I<|lw (Y i) Cf ?_
     obtain ⟨x0,u⟩:=gk l i U
     refine St.fC (λw c=>rr.now c) (tT u) (λX ak y E=>lw (Z X _) (rR 5 y)<|lW (rW E)<|M (.bool (decide ((x0.toNat:Int)>=128))) ?_)
     refine ζ I (λo=>?_) λo=>?_
     .have O:128<=x0.toNat:=by have:=o; omega
      have s:∀ j b,j < i+1->l[j]?=some b->128<=b.toNat:=λj b hj x=>by
       by_cases h:j < i
       .exact g j b h x
       .obtain rfl:j=i:=U
        rw [u] at x; injection x with x; subst x; exact O
      exact pJ<|jB<|kL<|aJ<|aF<|G I<|lw (Y ((i+1)+1)) bN<|G I<|aO (aJ (sA _ (⟨U,U,s⟩) oz η))
     .have Q:x0.toNat < 128:=by have:=o; omega
      refine Ni<|G rfl<|Ne<|G rfl<|lw _ Cf<|G rfl<|Ng<|yB (ι:=Nat × Int) (λ(p,z)=>p<=i+1/\z=p - 1) (λ(p,z)=>p) (λ(p,z)=>[(0,(Z br 0)),(2,(.int .u64 0)),(3,(Y _)),(4,(vU (eC (l.drop p) (i+1 - p) % 18446744073709551616))),(5,(C z))]) (λ(p,z)=>[_]) (i+1,((i+1:Nat)) - 1) ⟨J7 _,I⟩ ⟨I,I,I,U0 (λz:Nat=>some (Value.int .u64 z)) (show 0=eC _ _ % 18446744073709551616 by rw [W6]; unfold eC; rfl),congrArg (λz:Int=>some (Value.int .i64 z)) (show (i:Int)=((i+1:Nat)) - 1 by omega),trivial⟩ (λw c=>by show Mm _ _ _ w; exact c) ?_
      rintro ⟨p,z⟩ ⟨hp,hz⟩
      show St _ _ _ [(0,(Z br 0)),(2,(.int .u64 0)),(3,(Y (i+1))),(4,(vU (eC (l.drop p) (i+1 - p) % 18446744073709551616))),(5,(C z))] [aD br 80 [(V A1 l k),bF]] _
      refine Ny<|G I<|M (.bool (decide ((z:Int)>=0))) ?_
      refine ζ I (λr=>?_) λr=>?_
      .obtain ⟨q,rfl⟩:∃ q,p=q+1:=⟨p - 1,by have:=r; omega⟩
       obtain rfl:z=q:=U
       refine Nl<|fY<|aF<|G I<|lw (.int .u64 ((((eC (l.drop (q+1)) (i+1 - (q+1)) % 18446744073709551616)*128 % 18446744073709551616):Nat))) (YX I I I)<|G I<|M (Z br 0)<|M (Z br 0)<|lL 0 I<|G I ?_
       obtain ⟨x1,L⟩:=gk l q U
       exact St.fC (λw c=>rr.now c) (tT L) (λaj an B F=>lw _ (rR 5 B)<|lW (rW F)<|lw (.int .u8 (((x1.toNat % 128):Nat))) (ED _ rfl rfl rfl (by decide) (AC6 ..).symm)<|lw _ (iQ _ (λ_=>J) I I (kV U U))<|lw _ (YZ rfl rfl rfl)<|G rfl<|Nk<|aF<|G rfl<|lw _ Cf<|G rfl<|Na<|yC (q,((q:Nat)) - 1) (⟨U,rfl⟩) oz ⟨rfl,rfl,rfl,U0 (λz:Nat=>some (Value.int .u64 z)) (Za L U),I,trivial⟩ (λw c=>c))
      .obtain rfl:p=0:=by have:=r; omega
       rw [show (eC (l.drop 0) (i+1 - 0) % 18446744073709551616)=(eC l (i+1) % 18446744073709551616) from I]
       refine Nj<|aT ?_
       refine dN _ 11 J η ?_
       refine am 0 ?_
       refine am 3 ?_
       refine aC 4 (Z br 0) I<|aC 5 (Z br 0) I<|al 6 0 ?_
       refine am 7 ?_
       have N:=rr.imp (λ_ K=>qY (i+1) (K))
       refine aV 8 (V A1 _ k) I (gY (sH (e:=5) I J J I I (by have:=W; omega)) (by show Value.slice _ _ _=Value.slice _ _ _; rw [I8,Y0 U]))<|aV 9 (vS _) rfl (kM (e:=5) _ rfl J J J rfl rfl (λw c=>N.now c))<|aA 1 rfl<|dC (λw c=>Bt (eC l (i+1) % 18446744073709551616) w (by unfold dA; omega)) λB54 ab=>aQ _ (κ [0] I I) η<|aV 2 (vS _) rfl (kM (e:=5) _ rfl J J J rfl rfl (λw c=>fM (i:=1) I w c))<|aV 10 _ I (qC I I I)<|cG J ?_
       refine aJ (aY I (λm=>?_) (λm=>?_))
       .have d:dI l _=(0,l,true):=YO g u Q (su m)
        refine pJ<|jB<|uS rfl<|jB<|jB<|kL<|aJ<|Nc<|G rfl<|M (Z br 0)<|M (Z br 1)<|R<|pS 0 rfl<|Nb<|G rfl<|Nd<|sN [(.int .u64 0)] λw c=>?_
        rw [d]
        exact ⟨_,_,I,(c.pick [0] I I),t⟩
       .have d:dI l _=(_,l.drop _,false):=YN (su m) (by unfold dA; omega)
        refine Ni<|G I<|M (Z br 0)<|M (Z br 0)<|lL 0 I<|G I ?_
        refine lw (V (if k=(i+1) then A1 else A1.map (·.add ((i+1)*1))) (l.drop (i+1)) (k - (i+1))) (gY (sI (e:=5) (sz:=1) I J J I I U) (by show Value.slice _ _ _=Value.slice _ _ _; simp only [Q7]))<|M (Z br 0)<|M (Z br 0)<|R<|pS 0 I<|Nf ?_
        refine xd ?_
        refine aF<|G rfl<|Nd<|eL<|cJ<|cJ<|eL<|cJ<|sN [(vU _)] λw c=>?_
        rw [d]
        exact ⟨_,_,I,(c.pick [0] I I),t.drop U⟩
    .have n:=C7 a
     have d:dI l _=(0,l,true):=OK g (.inl (by have:=C7 a; omega))
     refine G I<|lF<|Nu<|Nj<|aF<|G rfl<|M (Z br 0)<|M (Z br 1)<|R<|pS 0 rfl<|Nb<|G rfl<|Nd<|sN [(.int .u64 0)] λw c=>?_
     rw [d]
     exact ⟨_,_,I,c,t⟩
   .have H:=C7 f
    obtain rfl:i=10:=by have:=C7 f; omega
    have d:dI l _=(0,l,true):=OK g (.inr ⟨I,P⟩)
    refine G I<|lF<|G rfl<|lF<|Nu<|Nj<|aF<|G rfl<|M (Z br 0)<|M (Z br 1)<|R<|pS 0 rfl<|Nb<|G rfl<|Nd<|sN [(.int .u64 0)] λw c=>?_
    rw [d]
    exact ⟨_,_,I,c,t⟩
theorem tF(br A D A1 b l bad most w)(g:cC [aD br 80 [(V A1 l b),(.bool bad)]] w)(j:Rf [aD br 80 [(V A1 l b),(.bool bad)]] w (λw=>aI w A (B8 D)))(o:cZ A D A1 l b)(m:D.length<=1048576)(n:most<=1048576):
  Θ 32 #[(Z br 0),(Y most)] w λe k=>∃ (A2:Δ) (h:Nat),e = .returned (Y ((aS l bad most).1))/\aN [aD br 80 [(V A1 l b),(.bool bad)]] w [aD br 80 [(V A2 ((aS l bad most).2.1) h),(.bool (aS l bad most).2.2)]] k/\(cZ A D A2 ((aS l bad most).2.1) h):=by
 refine bS Tryz.func32 17 (g) rfl<|Nc<|G rfl<|Nb<|G rfl<|R<|iS [0] (λw c g=>xM br A D A1 b l bad w g (j.bJ c [0]) ag ag) λA27 i f=>?_
 refine G I<|Ne<|G rfl<|lw (vU most) (iQ _ (λ_=>J) I I (kV U U))<|M (.bool (decide ((((dI l bad).1:Nat):Int) > ((most:Nat):Int)))) ?_
 refine ζ I (λd=>?_) λd=>?_
 .have a:aS l bad most=(0,(dI l bad).2.1,true):=P1 (by omega)
  refine Nc<|G rfl<|M (Z br 0)<|M (Z br 1)<|R<|pS 0 rfl<|Nb<|G rfl<|Nh<|sN [(C 0)] λw c=>?_
  rw [a]
  exact ⟨_,_,I,c,f⟩
 .have a:aS l bad most=dI l bad:=P4 U
  refine Ni<|G rfl<|lw _ (iQ _ (λ_=>J) I I (qV U U))<|G rfl<|Nd<|sN [(Y _)] λw c=>?_
  rw [a]
  exact ⟨_,_,I,c,f⟩
end
section
theorem Bx(l bad most):(aS l bad most).1<=most:=by
 unfold aS
 grind
theorem OR(a:aS D false 3072=(n1,l1,b1))(b:dI l1 b1=(sd1,l2,b2))(h:b2=true\/fI (n1:Int)=false):eZ D=none:=by
 refine YR ?_
 grind
theorem OS(b:dI l false=(a,l1,b1))(c:dI (dM l1 b1 32) (dJ l1 b1 32)=(z,l3,b3)):jE l=(⟨hU a,mT (bQ l1 b1 32),z⟩,l3,b3):=by
 grind [jE]
theorem Ih(l b n):(bQ l b n).length<=n:=by
 unfold bQ
 grind
theorem DQ(h:c.keys.length=32):c.cells.length=34:=by simp [BC.cells,eX,h]
theorem OT{k:Bs}(h:k.length<=32):(mT k).length=32:=by
 grind [mT]
theorem OU{k:Bs}{x:UInt8}(a:k[j]?=some x)(h:k.length<=32):(k.take j++List.replicate (32 - j) 0).set j x=k.take (j+1)++List.replicate (32 - (j+1)) 0:=by
 have b:=(C4.1 a).1
 rw [V3 _ _ (by rw [I8]; omega),I8,Y0 U,W6,show 32 - j=(32 - (j+1))+1 by omega,AA8,Z7,V9,a]
 simp
theorem Zb{u:BT}(g:eZ D=some u)(d:pV D n sd i cl l b)(a:i=n)(f:b=false)(j:fI (n:Int)=true)(h:dA sd):l=[]/\u=⟨cl,sd⟩:=by
 subst a f
 obtain ⟨-,k,-,c⟩:=d.cpl u g
 rw [AC9 U] at c
 have e:l=[]:=c
 subst e
 have m:=d.yes j h
 grind
theorem Zc(c:pV D n sd i cl l b)(a:i=n)(d:b=false)(g:fI (n:Int)=true)(f:dA sd)(e:eZ D=none):((l.length:Int) == 0)=false:=by
 subst a d
 cases l with
 | nil=>rw [c.yes g f] at e; grind
 | cons x l=>grind
section
variable {w0 w:World}{F:List Nat}{cs:List Ch}
theorem Mm.Qr(h:Mm w0 F cs w)(i){n sd:Nat}(hi:cs[i]?=some (iF X (BT.new n sd))):Mm w0 F (cs.set i (aD X.g 132 (bU (List.replicate n BC.zero)++X.rest))) w:=by
 have a:jU w X.g X.c _ _:=h.at hi
 have d:=h.swap i hi (c':=aD X.g 132 (bU (List.replicate n _)++X.rest)) (Fr.refl _ _) a.cells (λb c=>.inl c) (by simp [aD])
 omega
theorem Mm.adD(h:Mm w0 F [aD X.g 132 (bU t.cells++X.rest)] w)(a:t.Ok)(e:fI (t.cells.length:Int)=true)(d:t.cells.length<=X.c):Mm w0 F [iF X t] w :=
 h.swap 0 I (c':=iF X t) (Fr.refl _ _) ⟨h.at (i:=0) I,a,e,d⟩ (λb c=>.inl c) (by simp [pL])
end
theorem tG(br A D A1 a l bad w)(c:cC [aD br 80 [(V A1 l a),(.bool bad)]] w)(j:Rf [aD br 80 [(V A1 l a),(.bool bad)]] w (λw=>aI w A (B8 D)))(o:cZ A D A1 l a)(n:D.length<=1048576):
  Θ 34 #[(Z br 0)] w λe m=>∃ (A2:Δ) (i:Nat) (B:Δ) (cb:Nat),e = .returned (V B (bQ (aS l bad 1048576).2.1 (aS l bad 1048576).2.2 (aS l bad 1048576).1) cb)/\aN [aD br 80 [(V A1 l a),(.bool bad)]] w [aD br 80 [(V A2 (dM (aS l bad 1048576).2.1 (aS l bad 1048576).2.2 (aS l bad 1048576).1) i),(.bool (dJ (aS l bad 1048576).2.1 (aS l bad 1048576).2.2 (aS l bad 1048576).1))],cB B (bQ (aS l bad 1048576).2.1 (aS l bad 1048576).2.2 (aS l bad 1048576).1) cb] m/\(cZ A D A2 ((dM (aS l bad 1048576).2.1 (aS l bad 1048576).2.2 (aS l bad 1048576).1)) i):=by
 exact eO Tryz.func34 7 (c) rfl<|Nc<|G rfl<|Nb<|G rfl<|R<|iS [0] (λw b c=>tF br A D A1 a l bad 1048576 w c (j.bJ b [0]) ag ag U) λA25 d k=>R<|jO [0] (λw b c=>xL br A D A25 d _ _ _ w c (j.bJ b [0]) ag ag (Bx l bad _)) λA26 f B6 g h=>G I<|Nd<|sN [_] λw b=>⟨A26,f,B6,g,I,b,h⟩
abbrev J4(a:Option Addr)(b:List UInt8)(c:Nat):Value:=.agg #[(V a b c),bF]
abbrev N8(a:Nat):Value:=.bool (!(fI ((a:Nat):Int)))
abbrev K3(a):=#[(C (hU a)),C2,C2,C2,C2,C2,C2,C2,C2,C2,C2,C2,C2,C2,C2,C2,C2,C2,C2,C2,C2,C2,C2,C2,C2,C2,C2,C2,C2,C2,C2,C2,C2,G9]
theorem DR(A c D w)(r0:Rf [] w (λw=>aI w A (B8 D)))(hD:D.length<=1048576)(hc:D.length<=c)(hd:eZ D=none):
  Θ 43 #[(V A D c)] w λe w'=>∃ (sd:Nat) (Ag:Δ) (n cg:Nat),e = .returned (.tuple #[(.agg #[(.int .u64 (sd:Int)),(.slice Ag (n) (cg))]),bF])/\aN [] w [] w':=by
 refine eO Tryz.func43 83 (B3 w) rfl<|Nc<|R<|pA C1 λb2=>G I<|Nb<|G rfl<|M (J4 A D c)<|R<|pB _ λa=>G I<|Nf ?_
 have ax:cZ A D A D c:=⟨λw h=>h,hc,J7 _⟩
 refine aF<|G rfl<|R<|iS [1] (λw b K=>tF a A D A c D _ 3072 w K (r0.bJ b [1]) (ax) ag U) λA216 O ad=>?_
 obtain ⟨k,l1,f1,h1⟩:∃ x y z,aS D false 3072=(x,y,z):=⟨_,_,_,I⟩
 rw [show (aS D _ 3072).1=k from by grind]
 rw [show (aS D _ 3072).2.1=l1 from by grind]
 rw [show (aS D _ 3072).2.2=f1 from by grind]
 rw [h1] at ad
 change cZ A D A216 l1 O at ad
 have a5:k<=3072:=by grind [Bx]
 refine G I<|Nb<|G rfl<|R<|iS [1] (λw b K=>xM a A D A216 O l1 f1 w K (r0.bJ b [1]) ag ag) λA218 P E=>?_
 obtain ⟨l,l2,f2,h2⟩:∃ x y z,dI l1 f1=(x,y,z):=⟨_,_,_,I⟩
 rw [show (dI l1 f1).1=l from by grind]
 rw [show (dI l1 f1).2.1=l2 from by grind]
 rw [show (dI l1 f1).2.2=f2 from by grind]
 rw [h2] at E
 change cZ A D A218 l2 P at E
 have ap:dA l:=by grind [xK]
 refine G I<|Nf<|aT ?_
 refine xd ?_
 refine aF<|G I<|M (Z a 0)<|M (Z a 1)<|lL 1 I<|lm ?_
 refine St.dec 23 I (λS=>?_) (λS=>?_)
 .exact G I<|lT<|No<|M (.agg #[G9,nS])<|R<|zu 0 rfl<|G rfl<|Nh<|dL [_,bF] rfl ⟨rz 0 rfl,rfl,trivial⟩ (λw b=>⟨0,_,0,0,I,(b.pick [] I I)⟩)
 .obtain rfl:f2=false:=S
  obtain rfl:f1=false:=If (by rw [h2])
  refine G I<|dP rfl rfl<|bV (λw b=>OF ((k:Nat)) w )<|lg (N8 k)<|M (N8 k) ?_
  refine qi I (λT=>?_) λT=>?_
  .exact Nc<|M (.agg #[G9,nS])<|R<|zu 0 rfl<|G rfl<|Nh<|dL [_,bF] rfl ⟨rz 0 rfl,rfl,trivial⟩ (λw b=>⟨0,_,0,0,I,(b.pick [] I I)⟩)
  .have hz:fI k=true:=by simpa using T
   have a8:=jQ hz
   refine Ni<|G rfl<|R<|gT (λw b=>Hu k l w (hz) (ap)) λX31=>R<|pA C1 λN=>R<|zu 3 I ?_
   refine xd ?_
   refine Nf<|aT ?_
   have L:=pV.start h1 h2
   refine St.fact (λw b=>(b.at (i:=2) I).cap) (λaj=>?_)
   rw [zB] at aj
   refine St.mem (λw b=>Mm.Qr b 2 I)<|aF<|G rfl<|Ng<|sL (λ(i,r,A4,g,c4,u)=>pV D k l i r g u/\cZ A D A4 g c4) (λ(i,r,A4,g,c4,u)=>k - i) (λ(i,r,A4,g,c4,u)=>[(2,(Z b2 0)),(3,bF),(4,(Z a 0)),(5,(Y k)),(7,(Z N 0)),(8,(Y i))]) (λ(i,r,A4,g,c4,u)=>[aD b2 95 [(.int .u64 0),nS],aD a 80 [(V A4 g c4),(.bool u)],aD X31.g 132 (bU r++X31.rest),aD N 95 [(vU l),(ql X31.g k X31.c)]]) (0,List.replicate k _,A218,l2,P,false) ⟨L,E⟩ η ?_
   rintro ⟨i,r,A4,g,c4,u⟩ ⟨L,ay⟩
   dsimp only
   refine Ny<|G I<|M (qb i k)<|lm ?_
   refine St.dec 35 I (λp=>?_) (λp=>?_)
   .have ak:=D4 p
    have af:i < k:=by have:=D4 p; omega
    refine G I<|lg (Z a 0)<|lg (Z a 1)<|lu _ (bW 1 I I J I I)<|lg (O7 u)<|M (O7 u) ?_
    refine qi I (λB=>?_) λB=>?_
    .obtain rfl:u=false:=by simpa using B
     refine Nm<|aF<|G rfl<|R<|iS [1] (λw b K=>xM a A D A4 c4 g _ w K (r0.bJ b [1]) (ay) ag) λA245 Q ae=>?_
     obtain ⟨a4,d,f,h5⟩:∃ x y z,dI g false=(x,y,z):=⟨_,_,_,I⟩
     rw [show (dI g _).1=a4 from by rw [h5]]
     rw [show (dI g _).2.1=d from by rw [h5]]
     rw [show (dI g _).2.2=f from by rw [h5]]
     rw [h5] at ae
     change cZ A D A245 d Q at ae
     have az:dA a4:=by have h9:=xK g false; rw [h5] at h9; exact h9
     refine R<|bV (λw b=>OG a4 w (az))<|M (.agg (K3 a4))<|R<|pA A0 λH=>R<|zu 4 I<|Nf<|aT ?_
     refine xd ?_
     refine aF<|G rfl<|R<|jO [1] (λw b K=>xL a A D A245 Q d f 32 w K (r0.bJ b [1]) ag ag (by decide)) λA249 s B49 o a3=>?_
     have ao:(bQ d f 32).length<=32:=Ih _ _ _
     refine M (Y ((bQ d f 32).length))<|G rfl<|Ng<|sL (λj=>j<=(bQ d f 32).length) (λj=>(bQ d f 32).length - j) (λj=>[(2,(Z b2 0)),(3,bF),(4,(Z a 0)),(5,(Y k)),(7,(Z N 0)),(8,(Y i)),(9,(Z H 0)),(49,(V B49 (bQ d f 32) o)),(50,(Y ((bQ d f 32).length))),(51,(Y j))]) (λj=>[aD b2 95 [(.int .u64 0),nS],aD a 80 [(V A249 (dM d f 32) s),(.bool (dJ d f 32))],aD X31.g 132 (bU r++X31.rest),aD N 95 [(vU l),(ql X31.g k X31.c)],aD H 132 ((BC.mk (hU a4) ((bQ d f 32).take j++List.replicate (32 - j) 0) 0).cells),cB B49 (bQ d f 32) o]) 0 (G6 _) (λw b=>by show Mm _ _ _ w; exact b) ?_
     intro j hj
     show St _ _ _ [(2,(Z b2 0)),(3,bF),(4,(Z a 0)),(5,(Y k)),(7,(Z N 0)),(8,(Y i)),(9,(Z H 0)),(49,(V B49 (bQ d f 32) o)),(50,(Y ((bQ d f 32).length))),(51,(Y j))] [aD b2 95 [(.int .u64 0),nS],aD a 80 [(V A249 (dM d f 32) s),(.bool (dJ d f 32))],aD X31.g 132 (bU r++X31.rest),aD N 95 [(vU l),(ql X31.g k X31.c)],aD H 132 ((BC.mk (hU a4) ((bQ d f 32).take j++List.replicate (32 - j) 0) 0).cells),cB B49 (bQ d f 32) o] _
     refine Nc<|M (.bool (decide ((j:Int) < (((bQ d f 32).length:Nat):Int)))) ?_
     refine χ I (λX=>?_) λX=>?_
     .refine Nm<|aF<|G I ?_
      obtain ⟨x0,aq⟩:=gk (bQ d f 32) j U
      refine St.fC (λw b=>fM (i:=5) I w b) (tT aq) (λa0 a2 ah ai=>lw (Z a0 (a2+j)) (rR 5 ah)<|lW (rW ai)<|G I<|Nv<|G I<|M (Z H 1)<|lw (Z H (1+j)) (nU (e:=5) (m:=32) I J J I I U)<|R<|qs 4 I (by rw [DQ (by rw [C3,I8,k7]; omega)]; omega) ?_)
      rw [Fz (by rw [C3,I8,k7]; omega),OU aq ao]
      exact Nk<|aF<|lw (Y (j+1)) bN<|G I<|aO (aJ (sA _ oz oz η))
     .obtain rfl:j=(bQ d f 32).length:=by have:=X; omega
      rw [R0]
      refine St.to [_,_,_,_,aD H 132 ((BC.mk _ (mT _) 0).cells),_] (by rfl)<|Nj<|aF<|G rfl<|R<|iS [1] (λw b K=>xM a A D A249 s _ _ w K (r0.bJ b [1]) ag ag) λA262 t F=>?_
      obtain ⟨z7,l7,f7,h7⟩:∃ x y z,dI (dM d f 32) (dJ d f 32)=(x,y,z):=⟨_,_,_,I⟩
      rw [show (dI _ _).1=z7 from by rw [h7]]
      rw [show (dI _ _).2.1=l7 from by rw [h7]]
      rw [show (dI _ _).2.2=f7 from by rw [h7]]
      rw [h7] at F
      change cZ A D A262 l7 t at F
      have an:jE g=(_,l7,f7):=OS h5 h7
      refine M (Z H 33)<|R ?_
      have ab:(mT _).length=32:=OT ao
      refine qs 4 I (by rw [DQ ab]; omega) ?_
      rw [<- yN ab]
      refine St.to [aD b2 95 C1,aD a 80 [(V A262 l7 t),(.bool f7)],aD X31.g 132 (bU r++X31.rest),aD N 95 [(vU l),(ql X31.g k X31.c)],aD H 132 ((jE g).1.cells),cB B49 (bQ d f 32) o] (by rw [an]; rfl)<|Nv<|M (Z N 1)<|lL 3 I<|G I<|lw (.agg (jE g).1.cells.toArray) (gI (jE g).1.cells I I J (by rw [BC.cells_len (Bw g)]; kernel_rfl) (cW (i:=4) I yy))<|lw (Z X31.g (0+i*34)) (mI (e:=132) (sz:=34) I J J I I af)<|R ?_
      have q:=BC.cells_len (Bw g)
      have ar:=gk r i (by rw [L.len]; exact af)
      obtain ⟨co,au⟩:=ar
      refine dE 2 (bU (r.set i (jE g).1)++X31.rest) (vs:=(jE g).1.cells) I I J I I I (by rw [q]; kernel_rfl) I (by rw [q,C3,nI L.ok,L.len]; omega) (BC.pD _) (by rw [q,K7]; exact (CA L.ok X31.rest i co au _).symm) ?_
      refine Nk ?_
      refine xd ?_
      exact aF<|G I<|lw (Y (i+1)) bN<|G I<|aO (aJ (sA (i+1,r.set i _,A262,l7,t,f7) (⟨by have h9:=L.step af; rw [an] at h9 ⊢; exact h9,F⟩) oz (κ [0,1,2,3] I I)))
    .obtain rfl:u=true:=by simpa using B
     refine Nj<|dN _ 16 J (κ [1,2,3] I I)<|aV 0 _ I (zr 2 I)<|am 1 ?_
     refine aC 2 (Z a 0) I<|aC 3 (Z a 1) I<|al 4 0 ?_
     refine aC 5 bF I ?_
     refine am 6 ?_
     refine bR 7 ?_
     refine bR 8 ?_
     refine bR 9 ?_
     refine bR 10 ?_
     refine bR 11 ?_
     refine bR 12 ?_
     refine aC 13 bF I<|aA 14 I<|zu 0 I<|aQ _ η (κ [1,2,3] I I)<|aa 15 ?_
     exact cG J<|aJ<|gW<|dL [_,bF] rfl ⟨rz 0 rfl,rfl,trivial⟩ (λw b=>⟨l,_,k,_,I,(b.pick [] I I)⟩)
   .have ak:=C7 p
    have aw:i=k:=by have:=L.le; have:=C7 p; omega
    refine G I<|lF<|Nu<|Nj<|dN _ 16 J (κ [1,2,3] I I)<|aV 0 _ I (zr 2 I)<|am 1 ?_
    refine aC 2 (Z a 0) I<|aC 3 (Z a 1) I<|al 4 0 ?_
    refine aC 5 (O7 u) I ?_
    refine am 6 ?_
    refine Any.dec 75 I (λW=>?_) (λW=>?_)
    .refine fQ 7 ?_
     refine aG 8 (Z a 0) I<|aG 9 (Z a 0) I<|aW 10 _ I (bW 0 I I J I I)<|aG 11 (Y g.length) I<|aG 12 (.bool ((g.length:Int) == 0)) I<|aC 13 (.bool ((g.length:Int) == 0)) I<|aA 14 I<|zu 0 I<|aQ _ η (κ [1,2,3] I I)<|aa 15 ?_
     refine cG J<|aJ<|gW<|dL [_,(.bool _)] rfl ⟨rz 0 rfl,rfl,trivial⟩ (λw b=>?_)
     rw [Zc L aw (su W) hz ap hd]
     exact ⟨l,_,k,_,I,(b.pick [] I I)⟩
    .refine bR 7 ?_
     refine bR 8 ?_
     refine bR 9 ?_
     refine bR 10 ?_
     refine bR 11 ?_
     refine bR 12 ?_
     refine aC 13 bF I<|aA 14 I<|zu 0 I<|aQ _ η (κ [1,2,3] I I)<|aa 15 ?_
     exact cG J<|aJ<|gW<|dL [_,bF] rfl ⟨rz 0 rfl,rfl,trivial⟩ (λw b=>⟨l,_,k,_,I,(b.pick [] I I)⟩)
theorem Ii(A c D u w)(r0:Rf [] w (λw=>aI w A (B8 D)))(hD:D.length<=1048576)(hc:D.length<=c)(hd:eZ D=some u):
  Θ 43 #[(V A D c)] w λe w'=>∃ (X:RX) (n sd:Nat),e = .returned (.tuple #[(.agg #[(.int .u64 (sd:Int)),(ql X.g n X.c)]),bT])/\aN [] w [iF X u] w'/\(u.cells.length=n)/\(u.seed=sd):=by
 refine eO Tryz.func43 83 (B3 w) rfl<|Nc<|R<|pA C1 λb2=>G I<|Nb<|G rfl<|M (J4 A D c)<|R<|pB _ λa=>G I<|Nf ?_
 have az:cZ A D A D c:=⟨λw h=>h,hc,J7 _⟩
 refine aF<|G rfl<|R<|iS [1] (λw g P=>tF a A D A c D _ 3072 w P (r0.bJ g [1]) (az) ag U) λA216 S ah=>?_
 obtain ⟨k,l1,f1,h1⟩:∃ x y z,aS D false 3072=(x,y,z):=⟨_,_,_,I⟩
 rw [show (aS D _ 3072).1=k from by grind]
 rw [show (aS D _ 3072).2.1=l1 from by grind]
 rw [show (aS D _ 3072).2.2=f1 from by grind]
 rw [h1] at ah
 change cZ A D A216 l1 S at ah
 have a9:k<=3072:=by grind [Bx]
 refine G I<|Nb<|G rfl<|R<|iS [1] (λw g P=>xM a A D A216 S l1 f1 w P (r0.bJ g [1]) ag ag) λA218 T L=>?_
 obtain ⟨l,l2,f2,h2⟩:∃ x y z,dI l1 f1=(x,y,z):=⟨_,_,_,I⟩
 rw [show (dI l1 f1).1=l from by grind]
 rw [show (dI l1 f1).2.1=l2 from by grind]
 rw [show (dI l1 f1).2.2=f2 from by grind]
 rw [h2] at L
 change cZ A D A218 l2 T at L
 have ak:dA l:=by grind [xK]
 refine G I<|Nf<|aT ?_
 refine xd ?_
 refine aF<|G I<|M (Z a 0)<|M (Z a 1)<|lL 1 I<|lm ?_
 refine St.dec 23 I (λab=>?_) (λab=>?_)
 .grind [OR]
 .obtain rfl:f2=false:=ab
  obtain rfl:f1=false:=If (by rw [h2])
  refine G I<|dP rfl rfl<|bV (λw g=>OF ((k:Nat)) w )<|lg (N8 k)<|M (N8 k) ?_
  refine qi I (λF=>?_) λF=>?_
  .exact absurd (OR h1 h2 (.inr (su F))) (by rw [hd]; simp)
  .have hz:fI k=true:=by simpa using F
   have ba:=jQ hz
   refine Ni<|G rfl<|R<|gT (λw g=>Hu k l w (hz) (ak)) λX31=>R<|pA C1 λQ=>R<|zu 3 I<|Nf<|aT ?_
   refine xd ?_
   have q:=pV.start h1 h2
   refine St.fact (λw g=>(g.at (i:=2) I).cap) (λad=>?_)
   rw [zB] at ad
   refine St.mem (λw g=>Mm.Qr g 2 I)<|aF<|G rfl<|Ng<|sL (λ(i,s,A4,b,c4,t)=>pV D k l i s b t/\cZ A D A4 b c4) (λ(i,s,A4,b,c4,t)=>k - i) (λ(i,s,A4,b,c4,t)=>[(2,(Z b2 0)),(3,bF),(4,(Z a 0)),(5,(Y k)),(7,(Z Q 0)),(8,(Y i))]) (λ(i,s,A4,b,c4,t)=>[aD b2 95 [(.int .u64 0),nS],aD a 80 [(V A4 b c4),(.bool t)],aD X31.g 132 (bU s++X31.rest),aD Q 95 [(vU l),(ql X31.g k X31.c)]]) (0,List.replicate k _,A218,l2,T,false) ⟨q,L⟩ η ?_
   rintro ⟨i,s,A4,b,c4,t⟩ ⟨q,a0⟩
   dsimp only
   refine Ny<|G I<|M (qb i k)<|lm ?_
   refine St.dec 35 I (λp=>?_) (λp=>?_)
   .have ap:=D4 p
    have aj:i < k:=by have:=D4 p; omega
    refine G I<|lg (Z a 0)<|lg (Z a 1)<|lu _ (bW 1 I I J I I)<|lg (O7 t)<|M (O7 t) ?_
    refine qi I (λH=>?_) λH=>?_
    .obtain rfl:t=false:=by simpa using H
     refine Nm<|aF<|G rfl<|R<|iS [1] (λw g P=>xM a A D A4 c4 b _ w P (r0.bJ g [1]) (a0) ag) λA245 W ai=>?_
     obtain ⟨a4,d,f,h5⟩:∃ x y z,dI b false=(x,y,z):=⟨_,_,_,I⟩
     rw [show (dI b _).1=a4 from by rw [h5]]
     rw [show (dI b _).2.1=d from by rw [h5]]
     rw [show (dI b _).2.2=f from by rw [h5]]
     rw [h5] at ai
     change cZ A D A245 d W at ai
     have a2:dA a4:=by have h9:=xK b false; rw [h5] at h9; exact h9
     refine R<|bV (λw g=>OG a4 w (a2))<|M (.agg (K3 a4))<|R<|pA A0 λO=>R<|zu 4 I<|Nf<|aT ?_
     refine xd ?_
     refine aF<|G rfl<|R<|jO [1] (λw g P=>xL a A D A245 W d f 32 w P (r0.bJ g [1]) ag ag (by decide)) λA249 B B49 o a8=>?_
     have ar:(bQ d f 32).length<=32:=Ih _ _ _
     refine M (Y ((bQ d f 32).length))<|G rfl<|Ng<|sL (λj=>j<=(bQ d f 32).length) (λj=>(bQ d f 32).length - j) (λj=>[(2,(Z b2 0)),(3,bF),(4,(Z a 0)),(5,(Y k)),(7,(Z Q 0)),(8,(Y i)),(9,(Z O 0)),(49,(V B49 (bQ d f 32) o)),(50,(Y ((bQ d f 32).length))),(51,(Y j))]) (λj=>[aD b2 95 [(.int .u64 0),nS],aD a 80 [(V A249 (dM d f 32) B),(.bool (dJ d f 32))],aD X31.g 132 (bU s++X31.rest),aD Q 95 [(vU l),(ql X31.g k X31.c)],aD O 132 ((BC.mk (hU a4) ((bQ d f 32).take j++List.replicate (32 - j) 0) 0).cells),cB B49 (bQ d f 32) o]) 0 (G6 _) (λw g=>by show Mm _ _ _ w; exact g) ?_
     intro j hj
     show St _ _ _ [(2,(Z b2 0)),(3,bF),(4,(Z a 0)),(5,(Y k)),(7,(Z Q 0)),(8,(Y i)),(9,(Z O 0)),(49,(V B49 (bQ d f 32) o)),(50,(Y ((bQ d f 32).length))),(51,(Y j))] [aD b2 95 [(.int .u64 0),nS],aD a 80 [(V A249 (dM d f 32) B),(.bool (dJ d f 32))],aD X31.g 132 (bU s++X31.rest),aD Q 95 [(vU l),(ql X31.g k X31.c)],aD O 132 ((BC.mk (hU a4) ((bQ d f 32).take j++List.replicate (32 - j) 0) 0).cells),cB B49 (bQ d f 32) o] _
     refine Nc<|M (.bool (decide ((j:Int) < (((bQ d f 32).length:Nat):Int)))) ?_
     refine χ I (λae=>?_) λae=>?_
     .refine Nm<|aF<|G I ?_
      obtain ⟨x0,au⟩:=gk (bQ d f 32) j U
      refine St.fC (λw g=>fM (i:=5) I w g) (tT au) (λa3 a5 an ao=>lw (Z a3 (a5+j)) (rR 5 an)<|lW (rW ao)<|G I<|Nv<|G I<|M (Z O 1)<|lw (Z O (1+j)) (nU (e:=5) (m:=32) I J J I I U)<|R<|qs 4 I (by rw [DQ (by rw [C3,I8,k7]; omega)]; omega) ?_)
      rw [Fz (by rw [C3,I8,k7]; omega),OU au ar]
      exact Nk<|aF<|lw (Y (j+1)) bN<|G I<|aO (aJ (sA _ oz oz η))
     .obtain rfl:j=(bQ d f 32).length:=by have:=ae; omega
      rw [R0]
      refine St.to [_,_,_,_,aD O 132 ((BC.mk _ (mT _) 0).cells),_] (by rfl)<|Nj<|aF<|G rfl<|R<|iS [1] (λw g P=>xM a A D A249 B _ _ w P (r0.bJ g [1]) ag ag) λA262 E N=>?_
      obtain ⟨z7,l7,f7,h7⟩:∃ x y z,dI (dM d f 32) (dJ d f 32)=(x,y,z):=⟨_,_,_,I⟩
      rw [show (dI _ _).1=z7 from by rw [h7]]
      rw [show (dI _ _).2.1=l7 from by rw [h7]]
      rw [show (dI _ _).2.2=f7 from by rw [h7]]
      rw [h7] at N
      change cZ A D A262 l7 E at N
      have aq:jE b=(_,l7,f7):=OS h5 h7
      refine M (Z O 33)<|R ?_
      have af:(mT _).length=32:=OT ar
      refine qs 4 I (by rw [DQ af]; omega) ?_
      rw [<- yN af]
      refine St.to [aD b2 95 C1,aD a 80 [(V A262 l7 E),(.bool f7)],aD X31.g 132 (bU s++X31.rest),aD Q 95 [(vU l),(ql X31.g k X31.c)],aD O 132 ((jE b).1.cells),cB B49 (bQ d f 32) o] (by rw [aq]; rfl)<|Nv<|M (Z Q 1)<|lL 3 I<|G I<|lw (.agg (jE b).1.cells.toArray) (gI (jE b).1.cells I I J (by rw [BC.cells_len (Bw b)]; kernel_rfl) (cW (i:=4) I yy))<|lw (Z X31.g (0+i*34)) (mI (e:=132) (sz:=34) I J J I I aj)<|R ?_
      have r:=BC.cells_len (Bw b)
      have aw:=gk s i (by rw [q.len]; exact aj)
      obtain ⟨co,ax⟩:=aw
      refine dE 2 (bU (s.set i (jE b).1)++X31.rest) (vs:=(jE b).1.cells) I I J I I I (by rw [r]; kernel_rfl) I (by rw [r,C3,nI q.ok,q.len]; omega) (BC.pD _) (by rw [r,K7]; exact (CA q.ok X31.rest i co ax _).symm) ?_
      refine Nk ?_
      refine xd ?_
      exact aF<|G I<|lw (Y (i+1)) bN<|G I<|aO (aJ (sA (i+1,s.set i _,A262,l7,E,f7) (⟨by have h9:=q.step aj; rw [aq] at h9 ⊢; exact h9,N⟩) oz (κ [0,1,2,3] I I)))
    .obtain rfl:t=true:=by simpa using H
     refine Nj<|dN _ 16 J (κ [1,2,3] I I)<|aV 0 _ I (zr 2 I)<|am 1 ?_
     refine aC 2 (Z a 0) I<|aC 3 (Z a 1) I<|al 4 0 ?_
     refine aC 5 bF I ?_
     refine am 6 ?_
     refine bR 7 ?_
     refine bR 8 ?_
     refine bR 9 ?_
     refine bR 10 ?_
     refine bR 11 ?_
     refine bR 12 ?_
     refine aC 13 bF I<|aA 14 I<|zu 0 I<|aQ _ η (κ [1,2,3] I I)<|aa 15 ?_
     exact cG J<|aJ<|gW<|dL [_,bF] rfl ⟨rz 0 rfl,rfl,trivial⟩ (λw g=>absurd (q.cpl u hd).1 si)
   .have ap:=C7 p
    have ay:i=k:=by have:=q.le; have:=C7 p; omega
    refine G I<|lF<|Nu<|Nj<|dN _ 16 J (κ [1,2,3] I I)<|aV 0 _ I (zr 2 I)<|am 1 ?_
    refine aC 2 (Z a 0) I<|aC 3 (Z a 1) I<|al 4 0 ?_
    refine aC 5 (O7 t) I ?_
    refine am 6 ?_
    refine Any.dec 75 I (λK=>?_) (λK=>?_)
    .refine fQ 7 ?_
     refine aG 8 (Z a 0) I<|aG 9 (Z a 0) I<|aW 10 (V A4 b c4) I (bW 0 I I J I I)<|aG 11 (Y b.length) I<|aG 12 (.bool ((b.length:Int) == 0)) I<|aC 13 (.bool ((b.length:Int) == 0)) I<|aA 14 I<|zu 0 I<|aQ _ η (κ [1,2,3] I I)<|aa 15 ?_
     refine cG J<|aJ<|gW<|dL [(.agg #[(vU l),(ql X31.g k X31.c)]),(.bool ((b.length:Int) == 0))] rfl ⟨rz 0 rfl,rfl,trivial⟩ (λw g=>?_)
     obtain ⟨rfl,rfl⟩:=Zb hd q ay (su K) hz ak
     exact ⟨X31,k,l,I,Mm.adD (g.pick [2] I I) ⟨q.ok,ak⟩ (by show fI s.length=true; rw [q.len]; exact hz) (by show s.length<=_; rw [q.len]; exact ad),q.len,I⟩
    .refine bR 7 ?_
     refine bR 8 ?_
     refine bR 9 ?_
     refine bR 10 ?_
     refine bR 11 ?_
     refine bR 12 ?_
     refine aC 13 bF I<|aA 14 I<|zu 0 I<|aQ _ η (κ [1,2,3] I I)<|aa 15 ?_
     refine cG J<|aJ<|gW<|dL [_,bF] rfl ⟨rz 0 rfl,rfl,trivial⟩ (λw g=>?_)
     have hb:t=true:=by simpa using K
     rw [hb] at q
     exact absurd (q.cpl u hd).1 si
end
theorem uK(l):(eE l).1.length<=1048576:=P8 (Ih _ _ _) (Bx l false 1048576)
theorem Zd(h:mG D 12 ts l)(c:eS D=some us):l=[]/\us=ts:=by
 obtain ⟨a,b⟩:=h.cpl us c
 have d:=(oV c).1
 rw [AC9 U] at b
 rw [U2 U] at a
 exact ⟨b,a.symm⟩
theorem Ze(h:mG D 12 ts l)(a:eS D=none):((l.length:Int) == 0)=false:=by
 cases l with
 | nil=>rw [h.yes] at a; grind
 | cons x l=>grind
abbrev M1(a:Nat):Value:=.bool ((((a:Nat):Int):Int) != 12)
abbrev J6(a b:Nat):Value:=.bool ((((a:Nat):Int):Int) != (((b+1):Nat):Int))
theorem Zf(A c D w)(r0:Rf [] w (λw=>aI w A (B8 D)))(hD:D.length<=20000)(hc:D.length<=c)(hd:eS D=none):
  Θ 33 #[(V A D c)] w λe w'=>∃ (x1:Ω),e = .returned (.tuple #[x1,bF])/\aN [] w [] w':=by
 refine eO Tryz.func33 55 (B3 w) rfl<|Nc<|G rfl<|Nb<|G rfl<|M (J4 A D c)<|R<|pB _ λb11=>G I<|Nb<|G I<|Ne<|G I<|Ng ?_
 have hs0:cZ A D A D c:=⟨λw h=>h,hc,J7 _⟩
 refine St.mem (λw hM=>hM.gB 95 2)<|St.mem (λw hM=>hM.IE)<|sL (λ(i,B,cb,Xs,ts,A4,l4,c4)=>i<=12/\Xs.length=i/\mG D i ts l4/\cZ A D A4 l4 c4) (λ(i,B,cb,Xs,ts,A4,l4,c4)=>12 - i) (λ(i,B,cb,Xs,ts,A4,l4,c4)=>[(2,nS),(3,bF),(4,(Z b11 0)),(5,(V B (dR Xs) cb)),(6,(Y i))]) (λ(i,B,cb,Xs,ts,A4,l4,c4)=>[aD b11 80 [(V A4 l4 c4),bF],bD 95 2 B ((dR Xs).length) (cb) (TQ (dR Xs)),mE Xs ts]) (0,none,0,[],[],A,D,c) ⟨U,I,mG.start D,hs0⟩ (λw hM=>by show Mm _ _ _ w; exact hM) ?_
 rintro ⟨i,B,cb,Xs,ts,A4,l4,c4⟩ ⟨hi,hXl,hI,hs4⟩
 dsimp only
 refine Ny<|G I<|M (G8 i) ?_
 refine ζ I (λhd13=>?_) λhd13=>?_
 .have hlt:i < 12:=by omega
  refine Nm ?_
  rcases htx:eZ (eE l4).1 with _ | t
  .refine aF<|G rfl<|R<|jO [0] (λw hM hO=>tG b11 A D A4 c4 l4 _ w hO (r0.bJ hM [0]) (hs4) U) λA218 c218 B18 cb18 hs18=>?_
   obtain ⟨x,l5,f5,h5⟩:∃ x y z,eE l4=(x,y,z):=⟨_,_,_,I⟩
   have hbl:x.length<=1048576:=by have h9:=uK l4; rw [h5] at h9; exact h9
   rw [show (bQ _ _ _)=x from by show (eE l4).1=_; rw [h5]]
   rw [show (dM _ _ _)=l5 from by show (eE l4).2.1=_; rw [h5]]
   rw [show (dJ _ _ _)=f5 from by show (eE l4).2.2=_; rw [h5]]
   rw [h5] at htx
   change eZ x=_ at htx
   replace hs18:cZ A D A218 l5 c218:=by have h9:cZ A D A218 (eE l4).2.1 c218:=hs18; rw [h5] at h9; exact h9
   refine St.fact (λw hM=>nH (hM.at (i:=3) I)) (λhcx=>R<|qZ (λw hM=>DR B18 cb18 x w (hM.aR (j:=3) I (λ_ h=>aI.bM h)) U U ag) λsd19 Ag19 n19 cg19=>G I<|R<|pA C1 λb7=>R<|zu 4 I<|G I<|Nf<|aT ?_)
   refine xd ?_
   refine aF<|G I<|M (Z b11 0)<|M (Z b11 1)<|lL 0 I<|lm ?_
   refine St.dec 26 I (λhc26=>?_) (λhc26=>?_)
   .have hno:eS D=none:=hI.no hlt hD (by rw [h5]; exact .inr λt ht=>by rw [htx] at ht; cases ht)
    exact G I<|lT<|G rfl<|lT<|G rfl<|lT<|No<|G rfl<|Nq<|cJ<|sN [nS,bF] λw hM=>⟨_,I,(hM.pick [] I I)⟩
   .obtain rfl:f5=false:=hc26
    exact G I<|lg bT<|lT<|G rfl<|lT<|G rfl<|lT<|No<|G rfl<|Nq<|cJ<|sN [nS,bF] λw hM=>⟨_,I,(hM.pick [] I I)⟩
  .refine aF<|G rfl<|R<|jO [0] (λw hM hO=>tG b11 A D A4 c4 l4 _ w hO (r0.bJ hM [0]) (hs4) U) λA218 c218 B18 cb18 hs18=>?_
   obtain ⟨x,l5,f5,h5⟩:∃ x y z,eE l4=(x,y,z):=⟨_,_,_,I⟩
   have hbl:x.length<=1048576:=by have h9:=uK l4; rw [h5] at h9; exact h9
   rw [show (bQ _ _ _)=x from by show (eE l4).1=_; rw [h5]]
   rw [show (dM _ _ _)=l5 from by show (eE l4).2.1=_; rw [h5]]
   rw [show (dJ _ _ _)=f5 from by show (eE l4).2.2=_; rw [h5]]
   rw [h5] at htx
   change eZ x=_ at htx
   replace hs18:cZ A D A218 l5 c218:=by have h9:cZ A D A218 (eE l4).2.1 c218:=hs18; rw [h5] at h9; exact h9
   refine St.fact (λw hM=>nH (hM.at (i:=3) I)) (λhcx=>R<|uX (λw hM=>Ii B18 cb18 x t w (hM.aR (j:=3) I (λ_ h=>aI.bM h)) U U ag) λX19 n19 sd19 hn19 hs19=>G I<|R<|pA C1 λb7=>R<|zu 5 I<|G I<|Nf<|aT ?_)
   refine xd ?_
   refine aF<|G I<|M (Z b11 0)<|M (Z b11 1)<|lL 0 I<|lm ?_
   refine St.dec 26 I (λhc26=>?_) (λhc26=>?_)
   .have hno:eS D=none:=hI.no hlt hD (by rw [h5]; exact .inl hc26)
    exact G I<|lT<|G rfl<|lT<|G rfl<|lT<|No<|G rfl<|Nq<|cJ<|sN [nS,bF] λw hM=>⟨_,I,(hM.pick [] I I)⟩
   .obtain rfl:f5=false:=hc26
    refine G I<|lg bF<|lF<|G I<|lg (Z b7 1)<|lu _ (bW 5 I I J I I)<|lg (Y n19)<|lg (M1 n19)<|M (M1 n19)<|lm ?_
    refine St.dec 36 I (λhc36=>?_) (λhc36=>?_)
    .have hno:eS D=none:=hI.no hlt hD (by rw [h5]; exact .inr λt' ht=>.inl (by rw [htx] at ht; cases ht; rw [hn19]; have h9:=hc36; simp at h9; omega))
     exact G I<|lT<|No<|G rfl<|Nq<|cJ<|sN [nS,bF] λw hM=>⟨_,I,(hM.pick [] I I)⟩
    .have e12:n19=12:=by have h9:=hc36; simp at h9; omega
     subst e12
     refine lg (Z b7 0)<|lu (vU sd19) (bW 5 rfl rfl J rfl rfl)<|G rfl<|lu (Y (i+1)) (pZ _ rfl rfl rfl U U U)<|lu (vU _) (iQ _ (λ_=>J) I I (kV U U))<|lg (J6 sd19 i)<|M (J6 sd19 i) ?_
     refine qi I (λhc43=>?_) λhc43=>?_
     .have hno:eS D=none:=hI.no hlt hD (by rw [h5]; exact .inr λt' ht=>.inr (by rw [htx] at ht; cases ht; rw [hs19]; have h9:=hc43; simp at h9; omega))
      exact Nc<|G rfl<|Nq<|cJ<|sN [nS,bF] λw hM=>⟨_,I,(hM.pick [] I I)⟩
     .have e13:sd19=i+1:=by have h9:=hc43; simp at h9; omega
      subst e13
      have hI2:mG D (i+1) (ts++[t]) l5:=by have h9:=hI.step hlt hD (by rw [h5]) (by rw [h5]; exact htx) hn19 hs19; rw [h5] at h9; exact h9
      refine gL<|aJ<|aF<|G rfl<|lW (zr 5 rfl)<|R<|pN 1 95 [(vU (i+1)),(ql X19.g 12 X19.c)] λb46=>R<|cL Hy 1 _ rfl rfl J rfl rfl rfl (rfl) (fE (i:=6) rfl yy) (Hx (jA.mk X19 12 (i+1))) (by rw [tE]; omega) ((dR Xs++(K8 X19 i)).length) dV (TQ _) (by rw [show TQ (dR Xs++(K8 X19 i))=TQ (dR Xs)++TQ (K8 X19 i) from R3 ..]; rfl) (λA47 c47=>?_)
      rw [show dR Xs++[_]=dR _ from by rw [Hz,hXl]]
      exact G I<|Nk<|aF<|G rfl<|lw (Y (i+1)) bN<|G rfl<|aO (aJ (sA (i+1,A47,c47,Xs++[X19],ts++[t],A218,l5,c218) (⟨U,by simp [hXl],hI2,hs18⟩) oz (λw hM=>Mm.IF (cs:=[_,_]) (hM.pick [0,1,2,4] I I))))
 .obtain rfl:i=12:=by have:=hd13; omega
  refine Nj ?_
  refine dN _ 9 J η ?_
  refine am 0 ?_
  refine am 1 ?_
  refine aC 2 (Z b11 0) I<|aC 3 (Z b11 0) I<|al 4 0 ?_
  refine aC 5 (B4 l4) I<|aC 6 (.bool ((l4.length:Int) == 0)) I<|aa 7 ?_
  refine aa 8 ?_
  refine cG J<|aJ<|gW<|sN [(V B _ cb),(.bool _)] λw hM=>?_
  rw [Ze hI hd]
  exact ⟨_,I,(hM.pick [] I I)⟩
theorem Zg(A c D us w)(r0:Rf [] w (λw=>aI w A (B8 D)))(hD:D.length<=20000)(hc:D.length<=c)(hd:eS D=some us):
  Θ 33 #[(V A D c)] w λe w'=>∃ (B:Δ) (cb:Nat) (Xs:List RX),e = .returned (.tuple #[(V B (dR Xs) cb),bT])/\aN [] w [bD 95 2 B ((dR Xs).length) (cb) (TQ (dR Xs)),mE Xs us] w'/\(Xs.length=12):=by
 refine eO Tryz.func33 55 (B3 w) rfl<|Nc<|G rfl<|Nb<|G rfl<|M (J4 A D c)<|R<|pB _ λb11=>G I<|Nb<|G I<|Ne<|G I<|Ng ?_
 have hs0:cZ A D A D c:=⟨λw h=>h,hc,J7 _⟩
 refine St.mem (λw hM=>hM.gB 95 2)<|St.mem (λw hM=>hM.IE)<|sL (λ(i,B,cb,Xs,ts,A4,l4,c4)=>i<=12/\Xs.length=i/\mG D i ts l4/\cZ A D A4 l4 c4) (λ(i,B,cb,Xs,ts,A4,l4,c4)=>12 - i) (λ(i,B,cb,Xs,ts,A4,l4,c4)=>[(2,nS),(3,bF),(4,(Z b11 0)),(5,(V B (dR Xs) cb)),(6,(Y i))]) (λ(i,B,cb,Xs,ts,A4,l4,c4)=>[aD b11 80 [(V A4 l4 c4),bF],bD 95 2 B ((dR Xs).length) (cb) (TQ (dR Xs)),mE Xs ts]) (0,none,0,[],[],A,D,c) ⟨U,I,mG.start D,hs0⟩ (λw hM=>by show Mm _ _ _ w; exact hM) ?_
 rintro ⟨i,B,cb,Xs,ts,A4,l4,c4⟩ ⟨hi,hXl,hI,hs4⟩
 dsimp only
 refine Ny<|G I<|M (G8 i) ?_
 refine ζ I (λhd13=>?_) λhd13=>?_
 .have hlt:i < 12:=by omega
  refine Nm ?_
  rcases htx:eZ (eE l4).1 with _ | t
  .refine aF<|G rfl<|R<|jO [0] (λw hM hO=>tG b11 A D A4 c4 l4 _ w hO (r0.bJ hM [0]) (hs4) U) λA218 c218 B18 cb18 hs18=>?_
   obtain ⟨x,l5,f5,h5⟩:∃ x y z,eE l4=(x,y,z):=⟨_,_,_,I⟩
   have hbl:x.length<=1048576:=by have h9:=uK l4; rw [h5] at h9; exact h9
   rw [show (bQ _ _ _)=x from by show (eE l4).1=_; rw [h5]]
   rw [show (dM _ _ _)=l5 from by show (eE l4).2.1=_; rw [h5]]
   rw [show (dJ _ _ _)=f5 from by show (eE l4).2.2=_; rw [h5]]
   rw [h5] at htx
   change eZ x=_ at htx
   replace hs18:cZ A D A218 l5 c218:=by have h9:cZ A D A218 (eE l4).2.1 c218:=hs18; rw [h5] at h9; exact h9
   refine St.fact (λw hM=>nH (hM.at (i:=3) I)) (λhcx=>R<|qZ (λw hM=>DR B18 cb18 x w (hM.aR (j:=3) I (λ_ h=>aI.bM h)) U U ag) λsd19 Ag19 n19 cg19=>G I<|R<|pA C1 λb7=>R<|zu 4 I<|G I<|Nf<|aT ?_)
   refine xd ?_
   refine aF<|G I<|M (Z b11 0)<|M (Z b11 1)<|lL 0 I<|lm ?_
   refine St.dec 26 I (λhc26=>?_) (λhc26=>?_)
   .have hno:eS D=none:=hI.no hlt hD (by rw [h5]; exact .inr λt ht=>by rw [htx] at ht; cases ht)
    rw [hd] at hno; cases hno
   .obtain rfl:f5=false:=hc26
    refine G I<|lg bT<|lT<|G I<|lT<|G I<|lT<|Nt<|aT ?_
    have hno:eS D=none:=hI.no hlt hD (by rw [h5]; exact .inr λt ht=>by rw [htx] at ht; cases ht)
    rw [hd] at hno; cases hno
  .refine aF<|G rfl<|R<|jO [0] (λw hM hO=>tG b11 A D A4 c4 l4 _ w hO (r0.bJ hM [0]) (hs4) U) λA218 c218 B18 cb18 hs18=>?_
   obtain ⟨x,l5,f5,h5⟩:∃ x y z,eE l4=(x,y,z):=⟨_,_,_,I⟩
   have hbl:x.length<=1048576:=by have h9:=uK l4; rw [h5] at h9; exact h9
   rw [show (bQ _ _ _)=x from by show (eE l4).1=_; rw [h5]]
   rw [show (dM _ _ _)=l5 from by show (eE l4).2.1=_; rw [h5]]
   rw [show (dJ _ _ _)=f5 from by show (eE l4).2.2=_; rw [h5]]
   rw [h5] at htx
   change eZ x=_ at htx
   replace hs18:cZ A D A218 l5 c218:=by have h9:cZ A D A218 (eE l4).2.1 c218:=hs18; rw [h5] at h9; exact h9
   refine St.fact (λw hM=>nH (hM.at (i:=3) I)) (λhcx=>R<|uX (λw hM=>Ii B18 cb18 x t w (hM.aR (j:=3) I (λ_ h=>aI.bM h)) U U ag) λX19 n19 sd19 hn19 hs19=>G I<|R<|pA C1 λb7=>R<|zu 5 I<|G I<|Nf<|aT ?_)
   refine xd ?_
   refine aF<|G I<|M (Z b11 0)<|M (Z b11 1)<|lL 0 I<|lm ?_
   refine St.dec 26 I (λhc26=>?_) (λhc26=>?_)
   .have hno:eS D=none:=hI.no hlt hD (by rw [h5]; exact .inl hc26)
    rw [hd] at hno; cases hno
   .obtain rfl:f5=false:=hc26
    refine G I<|lg bF<|lF<|G I<|lg (Z b7 1)<|lu _ (bW 5 I I J I I)<|lg (Y n19)<|lg (M1 n19)<|M (M1 n19)<|lm ?_
    refine St.dec 36 I (λhc36=>?_) (λhc36=>?_)
    .have hno:eS D=none:=hI.no hlt hD (by rw [h5]; exact .inr λt' ht=>.inl (by rw [htx] at ht; cases ht; rw [hn19]; have h9:=hc36; simp at h9; omega))
     rw [hd] at hno; cases hno
    .have e12:n19=12:=by have h9:=hc36; simp at h9; omega
     subst e12
     refine lg (Z b7 0)<|lu (vU sd19) (bW 5 rfl rfl J rfl rfl)<|G rfl<|lu (Y (i+1)) (pZ _ rfl rfl rfl U U U)<|lu (vU _) (iQ _ (λ_=>J) I I (kV U U))<|lg (J6 sd19 i)<|M (J6 sd19 i) ?_
     refine qi I (λhc43=>?_) λhc43=>?_
     .have hno:eS D=none:=hI.no hlt hD (by rw [h5]; exact .inr λt' ht=>.inr (by rw [htx] at ht; cases ht; rw [hs19]; have h9:=hc43; simp at h9; omega))
      rw [hd] at hno; cases hno
     .have e13:sd19=i+1:=by have h9:=hc43; simp at h9; omega
      subst e13
      have hI2:mG D (i+1) (ts++[t]) l5:=by have h9:=hI.step hlt hD (by rw [h5]) (by rw [h5]; exact htx) hn19 hs19; rw [h5] at h9; exact h9
      refine gL<|aJ<|aF<|G rfl<|lW (zr 5 rfl)<|R<|pN 1 95 [(vU (i+1)),(ql X19.g 12 X19.c)] λb46=>R<|cL Hy 1 ([(vU (i+1)),(ql X19.g 12 X19.c)]) rfl rfl J rfl rfl rfl (rfl) (fE (i:=6) rfl yy) (Hx (jA.mk X19 12 (i+1))) (by rw [tE]; omega) ((dR Xs++(K8 X19 i)).length) dV (TQ (dR Xs++(K8 X19 i))) (by rw [show TQ (dR Xs++(K8 X19 i))=TQ (dR Xs)++TQ (K8 X19 i) from R3 ..]; rfl) (λA47 c47=>?_)
      rw [show dR Xs++[_]=dR _ from by rw [Hz,hXl]]
      exact G I<|Nk<|aF<|G rfl<|lw (Y (i+1)) bN<|G rfl<|aO (aJ (sA (i+1,A47,c47,Xs++[X19],ts++[t],A218,l5,c218) (⟨U,by simp [hXl],hI2,hs18⟩) oz (λw hM=>Mm.IF (cs:=[_,_]) (hM.pick [0,1,2,4] I I))))
 .obtain rfl:i=12:=by have:=hd13; omega
  refine Nj ?_
  refine dN _ 9 J η ?_
  refine am 0 ?_
  refine am 1 ?_
  refine aC 2 (Z b11 0) I<|aC 3 (Z b11 0) I<|al 4 0 ?_
  refine aC 5 (Y l4.length) I<|aC 6 (.bool ((l4.length:Int) == 0)) I<|aa 7 ?_
  refine aa 8 ?_
  refine cG J<|aJ<|gW<|sN [(V B _ cb),(.bool _)] λw hM=>?_
  obtain ⟨rfl,rfl⟩:=Zd hI hd
  exact ⟨B,cb,Xs,I,(hM.pick [1,2] I I),hXl⟩
section
section
variable {r:Rd}{l:Bs}
theorem dK.BN(h:dK r l):l.length=r.D.length - r.off:=by rw [<- h.bytes,Q7]
theorem Ij(h:dK r l):(eP r.D r.off=none/\dI l false=(0,l,true))\/∃ n m,eP r.D r.off=some (n,m)/\dI l false=(n,r.D.drop m,false)/\dA n/\m<=r.D.length/\r.off<=m:=by
 cases d:eP r.D r.off with
 | none =>
   refine .inl ⟨I,?_⟩
   cases c:eP l 0 with
   | none=>exact Ib c
   | some p =>
     obtain ⟨n,m⟩:=p
     have a:=vB _ _ _ _ c
     rw [AAb] at a
     have b:=yP r.D _ n _ (h.bytes.trans a) (rD _ _ _ _ c).2.2
     rw [d] at b
     cases b
 | some p =>
   obtain ⟨n,m⟩:=p
   have a:=vB _ _ _ _ d
   obtain ⟨b,f,e⟩:=rD _ _ _ _ d
   refine .inr ⟨n,m,I,?_,e,f,U⟩
   rw [<- h.bytes,a]
   exact xJ _ e
theorem Zh(h:dK r l):(∃ l',dI l false=(r.uint.1,l',false)/\dK r.uint.2 l'/\l'.length<=l.length)\/(dI l false=(0,l,true)/\r.uint.1=0/\r.uint.2.err≠0):=by
 rcases Ij h with ⟨a,b⟩ | ⟨n,m,a,b,c,d,e⟩
 .refine .inr ⟨b,?_⟩
  unfold Rd.uint
  rw [P1 h.err,a]
  exact ⟨I,by show 3≠0; decide⟩
 .refine .inl ⟨r.D.drop m,?_,?_,by rw [Q7,h.BN]; omega⟩
  .unfold Rd.uint; rw [if_pos h.err,a]; omega
  .unfold Rd.uint; rw [if_pos h.err,a]; exact ⟨h.err,I⟩
theorem Zi{l:Bs}(h:dI l false=(0,l,true)):(eE l).1=[]/\(eE l).2.2=true:=by
 have e:aS l false 1048576=(0,l,true):=by unfold aS; grind
 unfold eE
 rw [e]
 exact ⟨I,I⟩
theorem Zj(h:dK r l)(t:l.length<=1048576):(∃ l',eE l=(r.rest.1,l',false)/\dK r.rest.2 l'/\r.rest.1.length<=l.length)\/(r.rest.1=[]/\r.rest.2.err≠0/\(eE l).1=[]/\(eE l).2.2=true):=by
 rcases Ij h with ⟨f,c⟩ | ⟨n,m,f,c,k,o,p⟩
 .refine .inr ?_
  obtain ⟨a,b⟩:=Zi c
  unfold Rd.rest Rd.text
  rw [P1 h.err,f]
  exact ⟨I,by show 3≠0; decide,a,b⟩
 .have s:=h.BN
  have j:(r.D.drop m).length=r.D.length - m:=Q7
  unfold Rd.rest Rd.text
  rw [P1 h.err,f]
  dsimp only
  by_cases u:n<=(r.D.drop m).length
  .rw [P4 U,P1 U]
   have e:aS l false 1048576=(n,r.D.drop m,false):=by unfold aS; rw [c,if_neg oz]
   have d:dJ (r.D.drop m) false n=false:=by unfold dJ; rw [Bool.false_or,decide_eq_false_iff_not]; omega
   refine .inl ⟨(r.D.drop m).drop n,?_,⟨h.err,by show r.D.drop (m+n)=_; rw [Y3]⟩,by rw [I8]; omega⟩
   unfold eE
   rw [e]
   dsimp only
   unfold bQ dM
   rw [d]
   rfl
  .refine .inr ?_
   have g:(eE l).1=[]/\(eE l).2.2=true:=by
    by_cases q:1048576 < n
    .have e:aS l false 1048576=(0,r.D.drop m,true):=by unfold aS; rw [c,if_pos oz]
     unfold eE
     rw [e]
     exact ⟨I,I⟩
    .have e:aS l false 1048576=(n,r.D.drop m,false):=by unfold aS; rw [c,if_neg oz]
     have d:dJ (r.D.drop m) false n=true:=by unfold dJ; rw [Bool.false_or,decide_eq_true_eq]; omega
     unfold eE
     rw [e]
     dsimp only
     unfold bQ
     rw [d]
     exact ⟨I,I⟩
   by_cases i:r.D.length - r.off < n
   .rw [P1 i]
    exact ⟨I,by show 2≠0; decide,g⟩
   .rw [P4 i,P4 U]
    exact ⟨I,by show 3≠0; decide,g⟩
theorem Zk(h:r.err≠0):r.rest.1=[]/\r.rest.2.err≠0:=by
 unfold Rd.rest Rd.text
 grind
theorem Ik(h:dK r l):(32<=l.length/\r.sum.1=l.take 32/\dK r.sum.2 (l.drop 32))\/(l.length < 32/\r.sum.1=[]/\r.sum.2.err≠0):=by
 have b:=h.BN
 unfold Rd.sum
 rw [P1 h.err]
 by_cases a:32<=l.length
 .rw [P1 U]
  exact .inl ⟨a,by rw [h.bytes],h.err,by show r.D.drop (r.off+32)=_; rw [<- Y3,h.bytes]⟩
 .rw [P4 U]
  exact .inr ⟨U,I,by show 3≠0; decide⟩
theorem Zl(h:r.err≠0):r.sum.1=[]/\r.sum.2.err≠0:=by
 unfold Rd.sum
 grind
def bZ(l:Bs)(b:Bool):Nat -> List Bs × Bs × Bool
 | 0=>([],l,b)
 | i+1=>if (bZ l b i).2.2 then bZ l b i else ((bZ l b i).1++[bQ (bZ l b i).2.1 (bZ l b i).2.2 32],dM (bZ l b i).2.1 (bZ l b i).2.2 32,dJ (bZ l b i).2.1 (bZ l b i).2.2 32)
theorem OV{l:Bs}(h:(bZ l b i).2.2=true):∀ k,bZ l b (i+k)=bZ l b i
 | 0=>rfl
 | k+1=>by
   have a:=OV h k
   show bZ l b (i+k+1)=_
   rw [bZ,a,P1 h]
theorem OW{l:Bs}(h:(bZ l b i).2.2=false):bZ l b (i+1)=((bZ l b i).1++[bQ (bZ l b i).2.1 (bZ l b i).2.2 32],dM (bZ l b i).2.1 (bZ l b i).2.2 32,dJ (bZ l b i).2.1 (bZ l b i).2.2 32):=by
 rw [bZ,P4 (by rw [h]; decide)]
theorem By(l:Bs)(b:Bool):∀ i,(bZ l b i).1.length<=i
 | 0=>J7 _
 | i+1=>by
   have a:=By l b i
   grind [bZ]
def eB(l:Bs)(b:Bool):List Bs × Bs × Bool :=
 ((bZ (aS l b 16384).2.1 (aS l b 16384).2.2 (aS l b 16384).1).1,(bZ (aS l b 16384).2.1 (aS l b 16384).2.2 (aS l b 16384).1).2.1,
   (bZ (aS l b 16384).2.1 (aS l b 16384).2.2 (aS l b 16384).1).2.2 || decide (eM (bZ (aS l b 16384).2.1 (aS l b 16384).2.2 (aS l b 16384).1).1≠0))
theorem DS(h:dK r l):∀ n,32*n<=l.length->(bZ l false n)=((r.cK n).1,l.drop (32*n),false)/\dK (r.cK n).2 (l.drop (32*n))/\(∀ x∈(r.cK n).1,x.length=32)/\(r.cK n).1.length=n
 | 0,_=>⟨I,h,(λx a=>by cases a),I⟩
 | n+1,o=>by
   obtain ⟨e,f,g,i⟩:=DS h n U
   have m:(l.drop _).length=l.length - 32*n:=Q7
   rcases Ik f with ⟨j,c,k⟩ | ⟨j,_⟩
   .have d:dJ (l.drop (32*n)) false 32=false:=by unfold dJ; rw [Bool.false_or,decide_eq_false_iff_not]; omega
    have b:(l.drop (32*n)).drop 32=l.drop (32*(n+1)):=by rw [Y3]; rfl
    refine ⟨?_,?_,?_,?_⟩
    .rw [bZ,e,P4 si]
     dsimp only
     unfold bQ dM
     rw [d,P4 si,P4 si,b]
     show _=((r.cK n).1++[(r.cK n).2.sum.1],_,_)
     rw [c]
    .show dK (r.cK n).2.sum.2 _
     rw [<- b]; exact k
    .intro x a
     rcases P7.1 a with a | a
     .exact g x a
     .rw [G2.1 a,c,I8]; omega
    .show ((r.cK n).1++[_]).length=_
     rw [C3,i]; rfl
   omega
theorem Il{l:Bs}:∀ n,l.length < 32*n->(bZ l false n).2.2=true
 | 0,h=>by omega
 | n+1,h=>by
   by_cases a:l.length < 32*n
   .rw [bZ,P1 (Il n a)]; exact Il n a
   .have b:dK (Rd.mk l 0 0 0) l:=⟨I,I⟩
    obtain ⟨c,_⟩:=DS b n U
    rw [bZ,c,P4 si]
    show dJ (l.drop (32*n)) false 32=true
    unfold dJ
    grind
theorem OY(h:dK r l):∀ n,l.length < 32*n->(r.cK n).2.err≠0
 | 0,b=>by omega
 | n+1,b=>by
   show (r.cK n).2.sum.2.err≠0
   by_cases a:l.length < 32*n
   .exact (Zl (OY h n a)).2
   .obtain U:=DS h n U
    grind [Ik,List.length_drop]
theorem Zm(h:r.err≠0)(m):(r.items m).1=[]/\(r.items m).2.err≠0:=by
 have e:r.cnt (r.bP m)=(0,r):=by unfold Rd.cnt Rd.count; grind
 unfold Rd.items
 rw [e]
 exact ⟨I,h⟩
theorem Zn(h:dK r l)(_:l.length<=1048576):
  (∃ l',(bZ (aS l false 16384).2.1 (aS l false 16384).2.2 (aS l false 16384).1)=((r.items 16384).1,l',false)/\dK (r.items 16384).2 l'/\(∀ x∈(r.items 16384).1,x.length=32)/\(r.items 16384).1.length<=16384/\l'.length<=l.length) \/
  ((r.items 16384).2.err≠0/\(bZ (aS l false 16384).2.1 (aS l false 16384).2.2 (aS l false 16384).1).2.2=true):=by
 have o:=h.BN
 rcases Ij h with ⟨a,c⟩ | ⟨n,m,a,c,g,i,j⟩
 .refine .inr ⟨?_,?_⟩
  .have e:r.cnt (r.bP 16384)=(0,r.fail 3):=by unfold Rd.cnt Rd.count; rw [if_pos h.err,a]
   unfold Rd.items
   rw [e]
   show (3:Int)≠0
   decide
  .have e:aS l false 16384=(0,l,true):=by unfold aS; grind
   rw [e]
   rfl
 .have f:(r.D.drop m).length=r.D.length - m:=zg
  by_cases q:n<=16384/\32*n<=(r.D.drop m).length
  .have e:aS l false 16384=(n,r.D.drop m,false):=by unfold aS; grind
   have b:r.cnt (r.bP 16384)=(n,r.done m):=by
    unfold Rd.cnt Rd.count Rd.bP
    rw [P1 h.err,a]
    grind
   have k:dK (r.done m) (r.D.drop m):=⟨h.err,I⟩
   grind [DS,Rd.items]
  .refine .inr ⟨?_,?_⟩
   .by_cases d:min 16384 ((r.D.length - r.off) / 32) < n
    .have b:r.cnt (r.bP 16384)=(0,r.fail 2):=by
      unfold Rd.cnt Rd.count Rd.bP
      rw [P1 h.err,a]
      grind
     unfold Rd.items
     rw [b]
     show (2:Int)≠0
     decide
    .have b:r.cnt (r.bP 16384)=(n,r.done m):=by
      unfold Rd.cnt Rd.count Rd.bP
      rw [P1 h.err,a]
      grind
     unfold Rd.items
     rw [b]
     exact OY (show dK (r.done m) (r.D.drop m) from ⟨h.err,I⟩) n U
   .by_cases d:16384 < n
    .have e:aS l false 16384=(0,r.D.drop m,true):=by unfold aS; grind
     rw [e]
     rfl
    .have e:aS l false 16384=(n,r.D.drop m,false):=by unfold aS; grind
     grind [Il]
theorem tH(h:dK r l):r.end_=0↔l=[]:=by
 have a:=h.BN
 unfold Rd.end_
 rw [P4 (by rw [h.err]; simp)]
 constructor
 .intro e
  split at e
  .omega
  .exact L1 U
 grind
theorem DT(h:r.err≠0):r.end_≠0:=by unfold Rd.end_; omega
end
theorem zS{u:Nat}(f:(Rd.mk D 0 0 0).uint=(u,q)):(∃ c,aS D false 5=(u,c,false)/\u<=5/\dK q c/\c.length<=D.length)\/∃ c,aS D false 5=(0,c,true)/\(u=0\/5 < u):=by
 rcases Zh (dK.start D) with ⟨g,b,a,d⟩ | ⟨b,a,d⟩
 .rw [f] at b a
  dsimp only at b a
  by_cases e:5 < u
  .exact .inr ⟨g,by unfold aS; grind,.inr e⟩
  .exact .inl ⟨g,by unfold aS; rw [b,if_neg e],U,a,d⟩
 .rw [f] at a
  exact .inr ⟨D,by unfold aS; rw [b]; rfl,.inl a⟩
theorem Bz{v:Bs}{f:Bool}(h:dK q l)(g:l.length<=1048576)(e:eE l=(v,l2,f)):(f=false/\v=q.rest.1/\dK q.rest.2 l2/\v.length<=l.length)\/(f=true/\v=[]/\q.rest.2.end_≠0):=by
 rcases Zj h g with ⟨i,a,c,b⟩ | ⟨a,c,b,d⟩
 .rw [e] at a
  simp only [e7] at a
  obtain ⟨rfl,rfl,rfl⟩:=a
  exact .inl ⟨I,I,c,b⟩
 .rw [e] at b d
  exact .inr ⟨d,b,DT c⟩
theorem OZ(h:dK q l)(i:l.length<=1048576):(∃ l',eB l false=((q.items 16384).1,l',false)/\dK (q.items 16384).2 l'/\(q.items 16384).1.Pairwise (· < ·)/\l'.length<=l.length)\/((eB l false).2.2=true/\(¬ (q.items 16384).1.Pairwise (· < ·)\/(q.items 16384).2.err≠0)):=by
 rcases Zn h i with ⟨l',a,c,d,f,g⟩ | ⟨a,c⟩
 .by_cases b:(q.items 16384).1.Pairwise (· < ·)
  .refine .inl ⟨l',?_,c,b,g⟩
   unfold eB
   rw [a]
   dsimp only
   rw [qJ f ⟨d,b⟩]
   rfl
  .refine .inr ⟨?_,.inl b⟩
   unfold eB
   rw [a]
   dsimp only
   rw [AD1,U3]
   exact λe=>b (uB e).2.2
 .refine .inr ⟨?_,.inr a⟩
  unfold eB
  grind
theorem Zo(l):(eB l true).2.2=true:=rfl
theorem Pa(h:32<=l.length):bQ l false 32=l.take 32/\dM l false 32=l.drop 32/\dJ l false 32=false:=by
 have e:dJ l false 32=false:=by unfold dJ; grind
 unfold bQ dM
 grind
theorem Zp(h:l.length < 32):bQ l false 32=[]/\dM l false 32=l/\dJ l false 32=true:=by
 have e:dJ l false 32=true:=by unfold dJ; grind
 unfold bQ dM
 grind
end
end Go.Proofs.YtkjnecaieiaijaaGreatDoor
