/- Part 5 of a proof: what its row uses. -/
import Derived.Test.YtkjnecaieiaijaaGreatDoorSd04
set_option maxRecDepth 100000
set_option maxHeartbeats 1000000
namespace Go.Proofs.YtkjnecaieiaijaaGreatDoor
open Go.RowKit
variable {A:Δ}{B:Δ}{B2:Δ}{D:Bs}{Dm:Bs}{E:eH}{F:Ω}{N:Nat}{O:List Bs}{P:Program}{S:List Bs}{b:Bool}{c:Nat}{e:MapEntry}{es:Array MapEntry}{fan:Nat}{hi:Bs}{i:Nat}{its:List Bs}{j:Nat}{k:Nat}{l:List Bs}{leaf:Nat}{m:List Bs}{most:Nat}{n:Nat}{needs:List Bs}{o:Oper}{offs:List Bs}{own:List Bs}{r:Bs}{s:gE}{ss:List Bs}{st:Nat}{t:BT}{ty:Υ}{w:Λ}{w':Λ}{x:Bs}{xs:List Bs}{y:Operand}{z:Ω}{α:Type}{β:Type}{f:α->Value}{g:α->List β}
section
theorem xD{a b:Bs}(h:a < b):¬ b < a:=zg
theorem Dl(a:Bs):¬ a < []:=si
theorem mB{lo:Bs}:inR lo hi x=true↔¬ x < lo/\(hi=[]\/x < hi):=by
 unfold inR
 grind
theorem kZ{lo:Bs}:x∈inL l lo hi↔x∈l/\inR lo hi x=true:=AEa
theorem vQ:x∈aL l m↔x∈l/\x∉m:=by
 grind [aL]
theorem Mn:x∈fA l m↔x∈l/\x∈m:=by
 grind [fA]
abbrev cnt(l:List Bs)(lo hi:Bs):Nat:=(inL l lo hi).length
theorem Gy(l):inL l [] []=l:=by
 unfold inL
 rw [List.filter_eq_self]
 intro x _
 rw [mB]
 simp
abbrev jY(l:List Bs):Prop:=l.Pairwise (· < ·)
theorem Mp:∀ {l m:List Bs},jY l->jY m->(∀ x,x∈l↔x∈m)->l=m
 | [],[],_,_,_=>rfl
 | [],y::m,_,_,h=>by grind [List.mem_cons_self]
 | x::l,[],_,_,h=>by grind [List.mem_cons_self]
 | x::l,y::m,hl,hm,h=>by
   obtain ⟨h1,h2⟩:=ABi.1 hl
   obtain ⟨k1,k2⟩:=ABi.1 hm
   have e:x=y:=by
    rcases T0.1 ((h x).1 j9) with e | e
    .exact e
    .rcases T0.1 ((h y).2 j9) with e2 | e2
     .exact e2.symm
     .exact (lK (rE (h1 y e2) (k1 x e))).elim
   subst e
   congr 1
   refine Mp h2 k2 λz=>?_
   constructor
   .intro hz
    rcases T0.1 ((h z).1 (X2 _ hz)) with e | e
    .rw [e] at hz; exact (lK (h1 x hz)).elim
    .exact e
   .intro hz
    rcases T0.1 ((h z).2 (X2 _ hz)) with e | e
    .rw [e] at hz; exact (lK (k1 x hz)).elim
    .exact e
theorem Mq(b:k < fan)(a:0 < N):k*N / fan < N:=by
 rw [ADi U,AEe N]
 exact Nat.mul_lt_mul_of_pos_right b a
section
variable {its:List Bs}{lo hi:Bs}{fan:Nat}
def xE(its:List Bs)(fan:Nat)(lo hi:Bs):List AP:=(kF its (inL its lo hi) fan lo (fan - 1)).2++[dF its (kF its (inL its lo hi) fan lo (fan - 1)).1 hi]
theorem divR{its a:List Bs}{lo:Bs}{fan:Nat}(f:0 < a.length):∀ k,k < fan->(∀ p∈(kF its a fan lo k).2,p=dF its p.lo p.hi/\(p.lo=lo\/p.lo∈a)/\p.hi∈a)/\((kF its a fan lo k).1=lo\/(kF its a fan lo k).1∈a)/\(kF its a fan lo k).2.length<=k
 | 0,_=>by simp [kF]
 | k+1,g=>by
  obtain ⟨c,d,h⟩:=divR (its:=its) (lo:=lo) (fan:=fan) f k (by omega)
  have e:a.getD ((k+1)*a.length / fan) []∈a:=by
   have hi:(k+1)*a.length / fan < a.length:=Mq g f
   rw [U5,E1 hi]
   exact y9 hi
  rw [kF]
  split
  .exact ⟨c,d,by omega⟩
  .refine ⟨λp b=>?_,.inr e,by simp; omega⟩
   rcases P7.1 b with b | b
   .exact c p b
   .rw [G2.1 b]
    exact ⟨I,d,e⟩
theorem divS{its:List Bs}{lo hi:Bs}{fan:Nat}(e:0 < (inL its lo hi).length)(h:2<=fan):(∀ p∈xE its fan lo hi,p=dF its p.lo p.hi/\(p.lo=lo\/p.lo∈its)/\(p.hi=hi\/p.hi∈its))/\(xE its fan lo hi).length<=fan:=by
 obtain ⟨b,d,g⟩:=divR (its:=its) (lo:=lo) (fan:=fan) e (fan - 1) (by omega)
 have c:∀ x∈inL its lo hi,x∈its:=λx f=>(kZ.1 f).1
 unfold xE
 refine ⟨λp a=>?_,by simp; omega⟩
 rcases P7.1 a with a | a
 .exact ⟨(b p a).1,(b p a).2.1.imp id (c _),.inr (c _ (b p a).2.2)⟩
 .rw [G2.1 a]
  exact ⟨I,d.imp id (c _),.inl I⟩
end
theorem Wl{y:Bs}:y∈pM l x↔y∈l\/y=x:=by
 unfold pM
 by_cases h:l.contains x=true
 .grind
 .rw [P4 h]
  grind [List.take_append_drop]
theorem Wm(h:jY l)(x):jY (pM l x):=by
 unfold pM
 by_cases f:l.contains x=true
 .grind
 .rw [P4 f]
  have j:x∉l:=by simpa using f
  have g:∀ y∈l.drop _,x < y:=λy i=>vE (CK h i) (λe=>j (by rw [<- e]; exact AA1 i))
  rw [jY,o4,o4]
  refine ⟨⟨h.sublist (List.take_sublist _ _),ABf _ _,?_⟩,h.sublist (List.drop_sublist _ _),?_⟩
  .intro a c b d
   rw [G2.1 d]
   exact AJ c
  .intro a c b d
   rcases P7.1 c with c | c
   .exact rE (AJ c) (g b d)
   .rw [G2.1 c]; exact g b d
theorem Mt(l m n):aH l (m++n)=aH (aH l m) n:=by grind [aH]
theorem GC:∀ (m:List Bs) {l:List Bs},jY l->jY (aH l m)
 | [],_,h=>h
 | x::m,_,h=>GC m (Wm h x)
theorem GD:∀ (m:List Bs) {l:List Bs} {x:Bs},x∈aH l m↔x∈l\/x∈m
 | [],l,x=>by simp [aH]
 | y::m,l,x=>by
   show x∈aH (pM l y) m↔_
   rw [GD m,Wl,T0,or_assoc]
theorem GF(m):jY (aH [] m):=GC m si
theorem GG:x∈aH [] m↔x∈m:=by rw [GD]; simp
end
def kI(its:List Bs)(fan leaf:Nat)(p:AP):List AP:=match p.c with
 | .sum n f=>mN its fan leaf p.lo p.hi n f
 | .list xs=>oB its p.lo p.hi xs
 | .ans _ _=>[]
def iB(its:List Bs)(p:AP):List Bs:=match p.c with
 | .sum _ _=>[]
 | .list xs=>aL xs its
 | .ans xs _=>aL xs its
def jD(its:List Bs)(p:AP):List Bs:=match p.c with
 | .sum _ _=>[]
 | .list xs=>aL (inL its p.lo p.hi) xs
 | .ans _ ms=>fA ms its
structure GH where
 (reply:Bs) (err:Int) (need off:List Bs)
def fS(its:List Bs)(fan leaf:Nat)(ps:List AP):List AP:=ps.flatMap (kI its fan leaf)
def bC(its:List Bs)(fan leaf:Nat)(D:Bs):GH :=
 if D=[] then ⟨[],0,[],[]⟩
 else match iO D with
  | none=>⟨[],3,[],[]⟩
  | some ps=>if 1048576 < (bK (fS its fan leaf ps)).length then ⟨[],2,[],[]⟩ else ⟨bK (fS its fan leaf ps),0,ps.flatMap (iB its),ps.flatMap (jD its)⟩
theorem tB{l:List α}{x:α}(h:l[i]?=some x):(l.take i).flatMap g++g x=(l.take (i+1)).flatMap g:=by
 rw [<- yX h,R3]
 simp
theorem GI{l:List α}{x:α}(h:l[i]?=some x)(a:g x=[]):(l.take i).flatMap g=(l.take (i+1)).flatMap g:=by
 grind [tB]
theorem iH(h:n < 128):(aE n).length=1:=by rw [oM n h]; rfl
theorem vR(a:dD its)(lo hi):iV (inL its lo hi):=λx b=>a.1 x (kZ.1 b).1
theorem uG(h:iV l):iV (aL l m):=λx a=>h x (vQ.1 a).1
theorem Wn(h:iV l):iV (fA l m):=λx a=>h x (Mn.1 a).1
theorem Dp(l):(eI l).length=32:=uO _
theorem Be(f:its.length<=40){p:AP}(h:p=dF its p.lo p.hi)(d:p.lo.length<=32)(e:p.hi.length<=32):p.fit/\p.enc.length<=100:=by
 have g:=lZ its p.lo p.hi
 have b:=Dp (inL its p.lo p.hi)
 obtain ⟨lo,a,c⟩:=p
 obtain rfl:c = .sum (inL its lo a).length (eI (inL its lo a)):=U0 AP.c h
 dsimp only at d e g b ⊢
 refine ⟨⟨d,e,U,b⟩,?_⟩
 simp only [AP.enc,AC.enc,C3,b]
 have i:=iH (n:=lo.length) U
 have j:=iH (n:=a.length) U
 have k:=iH (n:=1) U
 have l:=iH (n:=(inL its lo a).length) U
 omega
theorem Dq(b:dD its){a:Bs}(c:a.length<=32)(h:x=a\/x∈its):x.length<=32:=by
 rcases h with rfl | h
 .omega
 .have:=b.1 x h; omega
theorem Mu{ps:List AP}(h:∀ p∈ps,p.enc.length<=k)(b:ps.length<=n):(ps.flatMap AP.enc).length<=n*k:=by
 have a:∀ ps:List AP,(∀ p∈ps,p.enc.length<=k)->(ps.flatMap AP.enc).length<=ps.length*k:=by
  intro ps
  induction ps with
  | nil=>grind
  | cons p ps c =>
    intro h
    rw [V5,C3,V0,Nat.add_mul,Nat.one_mul]
    grind
 exact P8 (a ps h) (Y4 _ b)
structure vT (l:List AP):Prop where
 fit:∀ q∈l,q.fit
 len:(l.flatMap AP.enc).length <= 3500
 cnt:l.length <= 17
theorem Wo(k:dD its)(g:its.length<=40)(p:2<=fan)(i:fan<=16)(r:1<=leaf){lo:Bs}(l:lo.length<=32)(m:hi.length<=32)(n f):vT (mN its fan leaf lo hi n f):=by
 unfold mN
 split
 .exact ⟨si,si,si⟩
 .split
  .have r:=lZ its lo hi
   have e:=vR k lo hi
   refine ⟨λq d=>?_,?_,si⟩
   .rw [G2.1 d]
    exact ⟨l,m,U,e⟩
   .have j:=nL e
    simp only [V5,AB8,O4,AP.enc,AC.enc,C3,j]
    have s:=iH (n:=lo.length) U
    have t:=iH (n:=hi.length) U
    have u:=iH (n:=2) U
    have w:=iH (n:=(inL its lo hi).length) U
    omega
  .have h:=divS (its:=its) (lo:=lo) (hi:=hi) (fan:=fan) (show 0 < (inL its lo hi).length by omega) p
   change vT (xE its fan lo hi)
   have o:∀ q∈xE its fan lo hi,q.fit/\q.enc.length<=100:=λq d=>by
    obtain ⟨a,b,c⟩:=h.1 q d
    exact Be g a (Dq k l b) (Dq k m c)
   exact ⟨λq d=>(o q d).1,P8 (Mu (λq d=>(o q d).2) (P8 h.2 i)) U,P8 h.2 U⟩
theorem Wp(j:dD its)(h:its.length<=40){lo:Bs}(f:lo.length<=32)(g:hi.length<=32)(u:xs.length<=64)(a:iV xs):vT (oB its lo hi xs):=by
 unfold oB
 split
 .have a1:=iN (inL its lo hi) xs
  have k:=iN xs its
  have l:=lZ its lo hi
  have b:=uG (m:=xs) (vR j lo hi)
  have c:=uG (m:=its) a
  refine ⟨λq i=>?_,?_,si⟩
  .rw [G2.1 i]
   exact ⟨f,g,⟨U,b⟩,U,c⟩
  .have d:=nL b
   have e:=nL c
   simp only [V5,AB8,O4,AP.enc,AC.enc,C3,d,e]
   have o:=iH (n:=lo.length) U
   have p:=iH (n:=hi.length) U
   have r:=iH (n:=3) U
   have s:=iH (n:=(aL (inL its lo hi) xs).length) U
   have t:=iH (n:=(aL xs its).length) U
   omega
 .exact ⟨si,si,si⟩
theorem Bf(e:dD its)(a:its.length<=40)(k:2<=fan)(b:fan<=16)(l:1<=leaf){p:AP}(m:p.ok):vT (kI its fan leaf p):=by
 obtain ⟨⟨i,j,_⟩,d⟩:=m
 have g:=rG i
 have h:=rG j
 obtain ⟨lo,q,c⟩:=p
 cases c with
 | sum n f=>exact Wo e a k b l g h n f
 | list o=>exact Wp e a g h d.1 d.2.1
 | ans o r=>exact ⟨by simp [kI],by simp [kI],by simp [kI]⟩
theorem Mv(i:dD its)(a:its.length<=40)(e:2<=fan)(b:fan<=16)(f:1<=leaf){ps:List AP}(g:∀ p∈ps,p.ok):∀ q∈fS its fan leaf ps,q.fit:=by
 intro q h
 obtain ⟨p,c,d⟩:=T5.1 h
 exact (Bf i a e b f (g p c)).fit q d
theorem Dr(f:dD its)(a:its.length<=40)(c:2<=fan)(b:fan<=16)(d:1<=leaf):∀ {ps:List AP},(∀ p∈ps,p.ok)->((fS its fan leaf ps).flatMap AP.enc).length<=ps.length*3500/\(fS its fan leaf ps).length<=ps.length*17
 | [],_=>⟨G6 _,G6 _⟩
 | p::ps,g=>by
   obtain U:=Dr f a c b d (ps:=ps) zg
   have h:=Bf f a c b d (g p si)
   have e:fS its fan leaf _=kI its fan leaf p++fS its fan leaf ps:=V5
   have i:=h.len
   have j:=h.cnt
   grind
theorem GJ(ps:List AP)(h:ps.length < 18446744073709551616):(bK ps).length<=(ps.flatMap AP.enc).length+10:=by
 grind [bK,eY]
theorem Bg{p:AP}(b:p.ok):(iB its p).length<=16384/\iV (iB its p):=by
 obtain ⟨_,a⟩:=b
 obtain ⟨lo,g,c⟩:=p
 cases c with
 | sum n f=>exact ⟨G6 _,by intro x d; cases d⟩
 | list e=>exact ⟨P8 (iN _ _) (P8 a.1 (by omega)),uG a.2.1⟩
 | ans e h=>exact ⟨P8 (iN _ _) a.1.1,uG a.1.2.1⟩
theorem Ds(e:dD its)(b:its.length<=40){p:AP}(d:p.ok):(jD its p).length<=16384/\iV (jD its p):=by
 obtain ⟨_,a⟩:=d
 obtain ⟨lo,i,c⟩:=p
 cases c with
 | sum n f=>exact ⟨G6 _,by intro x g; cases g⟩
 | list h=>exact ⟨P8 (iN _ _) (P8 (lZ _ _ _) (by omega)),uG (vR e _ _)⟩
 | ans h j=>exact ⟨P8 (FI _ _) a.2.1,Wn a.2.2.1⟩
theorem Mw{g:α->List Bs}{l:List α}(h:∀ p∈l,iV (g p)):iV (l.flatMap g):=λx c=>by
 obtain ⟨p,a,b⟩:=T5.1 c
 exact h p a x b
abbrev O6(a):=[dF a [] []]
theorem Bh(a:its.length<=40):(dF its [] []).fit/\(bK [dF its [] []]).length<=1048576/\bK [dF its [] []]≠[]:=by
 obtain ⟨b,c⟩:=Be a (p:=dF its [] []) I (by simp [dF]) (by simp [dF])
 have f:=AR 1
 have d:=iH (n:=1) (by omega)
 have e:bK (O6 its)=aE 1++(dF its [] []).enc:=by
  unfold bK
  rw [P4 (by simp)]
  simp
 refine ⟨b,?_,?_⟩
 .rw [e,C3]; omega
 .intro h
  have:=U0 List.length (e.symm.trans h)
  rw [C3,W7] at this
  omega
def kP(a b:List Bs)(j:Nat):List Bs:=if j % 2=0 then b else a
def dO(a b:List Bs)(fan leaf:Nat):Nat -> Bs
 | 0=>bK [dF a [] []]
 | j+1=>(bC (kP a b j) fan leaf (dO a b fan leaf j)).reply
def iZ(a b:List Bs)(fan leaf j:Nat):GH:=bC (kP a b j) fan leaf (dO a b fan leaf j)
def cE(a b:List Bs)(fan leaf par:Nat):Nat -> List Bs × List Bs
 | 0=>([],[])
 | j+1=>if j % 2=par then ((cE a b fan leaf par j).1++(iZ a b fan leaf j).need,(cE a b fan leaf par j).2++(iZ a b fan leaf j).off) else cE a b fan leaf par j
structure Mx (a b:List Bs) (fan leaf K:Nat):Prop where
 go:∀ j,j < K -> dO a b fan leaf j≠[] /\ (iZ a b fan leaf j).err=0
 stop:dO a b fan leaf K=[]
 le:K <= 30
theorem Bi(its fan leaf D):(bC its fan leaf D).reply.length<=1048576:=by
 grind [bC]
theorem Wq{a b:List Bs}(h:a.length<=40)(fan leaf:Nat):∀ j,(dO a b fan leaf j).length<=1048576
 | 0=>(Bh h).2.1
 | _+1=>Bi _ _ _ _
theorem GK(o:D.length<=1048576)(j:dD its)(b:its.length<=40):(bC its fan leaf D).need.length<=17179869184/\(bC its fan leaf D).off.length<=17179869184:=by
 unfold bC
 split
 .simp
 .split
  .simp
  .rename_i e f
   split
   .simp
   .obtain ⟨_,d,r⟩:=vK f
    have a:∀ (g:AP->List Bs) (l:List AP),(∀ p∈l,(g p).length<=16384)->(l.flatMap g).length<=l.length*16384:=by
     intro g l
     induction l with
     | nil=>intro _; simp
     | cons p l k =>
      intro h
      rw [V5,C3,V0]
      have m:=h p (by simp)
      have n:=k λq i=>h q (by simp [i])
      omega
    have s:=a (iB its) e λp c=>(Bg (d.2.1 p c)).1
    have t:=a (jD its) e λp c=>(Ds j b (d.2.1 p c)).1
    dsimp only
    omega
theorem qM{a b:List Bs}{fan leaf par:Nat}(f:dD a)(g:dD b)(c:a.length<=40)(d:b.length<=40):∀ j,(cE a b fan leaf par j).1.length<=j*17179869184/\(cE a b fan leaf par j).2.length<=j*17179869184
 | 0=>⟨G6 _,G6 _⟩
 | j+1=>by
  obtain ⟨i,k⟩:=qM (par:=par) f g c d j (fan:=fan) (leaf:=leaf)
  have e:=Wq (b:=b) c fan leaf j
  have h:(iZ a b fan leaf j).need.length<=17179869184/\(iZ a b fan leaf j).off.length<=17179869184:=by
   unfold iZ kP
   split
   .exact GK e g d
   .exact GK e f c
  rw [cE]
  split
  .dsimp only
   rw [C3,C3]
   omega
  .omega
section
abbrev oY:List Bs:=[]
structure kJ (its:List Bs) (fan leaf:Nat) (A:Option Addr) (pvs:List PV) (i:Nat) (rp:List PV) (nl ol:List Bs) (L:List (Option Addr × List Bs)):Prop where
 le:i <= pvs.length
 rep:rp.map PV.abs=(pvs.take i).flatMap λp=>kI its fan leaf p.abs
 need:nl=(pvs.take i).flatMap λp=>iB its p.abs
 off:ol=(pvs.take i).flatMap λp=>jD its p.abs
 src:jV L A its rp
 len1:rp.length <= i*17
 len2:nl.length <= i*16384
 len3:ol.length <= i*16384
section
variable {its:List Bs}{fan leaf:Nat}{A:Option Addr}{pvs rp ps2:List PV}{i:Nat}{nl ol:List Bs}{L M:List (Option Addr × List Bs)}{lo hi:Bs}
theorem kJ.zero:kJ its fan leaf A pvs 0 [] [] [] []:=⟨U,I,I,I,jV.nil,by grind,by grind,by grind⟩
theorem GL{l:List α}{i:Nat}{x:α}(h:l[i]?=some x):i+1<=l.length:=zg
theorem jV.acX(h:jV L A its rp)(k:jV [] A its ps2):jV L A its (rp++ps2):=by have:=h.append k; grind
theorem My{c:CV}(h:ps2.map PV.abs=kI its fan leaf (PV.abs ⟨lo,hi,c⟩))(a:vT (kI its fan leaf (PV.abs ⟨lo,hi,c⟩))):ps2.length<=17:=by rw [<- K0 (f:=PV.abs),h]; exact a.cnt
theorem kJ.sum(h:kJ its fan leaf A pvs i rp nl ol L){n:Nat}{f:Bs}(a:pvs[i]?=some ⟨lo,hi,.sum n f⟩)(b:ps2.map PV.abs=mN its fan leaf lo hi n f)(g:jV [] A its ps2)(e:vT (kI its fan leaf (PV.abs ⟨lo,hi,.sum n f⟩))):kJ its fan leaf A pvs (i+1) (rp++ps2) nl ol L:=by
 have k:=My b e
 have j:=h.len1
 have c:=h.len2
 have d:=h.len3
 refine ⟨GL a,?_,h.need.trans (GI a I),h.off.trans (GI a I),h.src.acX g,?_,P8 c (Y4 _ (AC1 i)),P8 d (Y4 _ (AC1 i))⟩
 .rw [U1,h.rep,b]; exact tB a
 grind
theorem kJ.list(h:kJ its fan leaf A pvs i rp nl ol L){c:Nat}{xs:List Bs}(a:pvs[i]?=some ⟨lo,hi,.list B c xs⟩)(b:ps2.map PV.abs=oB its lo hi xs)(g:jV M A its ps2)(f:vT (kI its fan leaf (PV.abs ⟨lo,hi,.list B c xs⟩)))(d:(iB its (PV.abs ⟨lo,hi,.list B c xs⟩)).length<=16384/\iV (iB its (PV.abs ⟨lo,hi,.list B c xs⟩)))(e:(jD its (PV.abs ⟨lo,hi,.list B c xs⟩)).length<=16384/\iV (jD its (PV.abs ⟨lo,hi,.list B c xs⟩))):
  kJ its fan leaf A pvs (i+1) (rp++ps2) (nl++aL xs its) (ol++aL (inL its lo hi) xs) (L++M):=by
 have o:=My b f
 have j:=h.len1
 have k:=h.len2
 have l:=h.len3
 have m:(aL xs its).length<=16384:=d.1
 have n:(aL (inL its lo hi) xs).length<=16384:=e.1
 refine ⟨GL a,?_,?_,?_,h.src.append g,?_,?_,?_⟩
 .rw [U1,h.rep,b]; exact tB a
 .rw [h.need]; exact tB a
 .rw [h.off]; exact tB a
 all_goals rw [C3]; omega
theorem kJ.ans(h:kJ its fan leaf A pvs i rp nl ol L){c a:Nat}{xs ms:List Bs}(b:pvs[i]?=some ⟨lo,hi,.ans B c xs B2 a ms⟩)(d:(iB its (PV.abs ⟨lo,hi,.ans B c xs B2 a ms⟩)).length<=16384/\iV (iB its (PV.abs ⟨lo,hi,.ans B c xs B2 a ms⟩)))(e:(jD its (PV.abs ⟨lo,hi,.ans B c xs B2 a ms⟩)).length<=16384/\iV (jD its (PV.abs ⟨lo,hi,.ans B c xs B2 a ms⟩))):
  kJ its fan leaf A pvs (i+1) rp (nl++aL xs its) (ol++fA ms its) L:=by
 have f:=h.len1
 have g:=h.len2
 have j:=h.len3
 have k:(aL xs its).length<=16384:=d.1
 have l:(fA ms its).length<=16384:=e.1
 refine ⟨GL b,h.rep.trans (GI b I),?_,?_,h.src,U,?_,?_⟩
 .rw [h.need]; exact tB b
 .rw [h.off]; exact tB b
 all_goals rw [C3]; omega
theorem GM(g:AP->List β){ps:List AP}(h:pvs.map PV.abs=ps):(pvs.take pvs.length).flatMap (λp=>g p.abs)=ps.flatMap g:=by grind [List.flatMap_map]
theorem kJ.BM(h:kJ its fan leaf A pvs pvs.length rp nl ol L){ps:List AP}(a:pvs.map PV.abs=ps):rp.map PV.abs=fS its fan leaf ps:=h.rep.trans (GM _ a)
theorem kJ.IC(h:kJ its fan leaf A pvs pvs.length rp nl ol L){ps:List AP}(a:pvs.map PV.abs=ps):nl=ps.flatMap (iB its):=h.need.trans (GM _ a)
theorem kJ.ID(h:kJ its fan leaf A pvs pvs.length rp nl ol L){ps:List AP}(a:pvs.map PV.abs=ps):ol=ps.flatMap (jD its):=h.off.trans (GM _ a)
end
abbrev GN:List PV:=[]
theorem Mz(A1 b ps w)(i:Rf [] w (λw=>aI w A1 (PS ps)))(j:Rf [] w (CP ps))(a:∀ p∈ps.map PV.abs,p.fit)(d:(bK (ps.map PV.abs)).length<=1048576):
  Θ 170 #[(V A1 ps b)] w λe f=>∃ (B:Δ) (cb:Nat),e = .returned (.tuple #[(V B (bK (ps.map PV.abs)) cb),(C 0)])/\aN [] w [cB B (bK (ps.map PV.abs)) cb] f:= by
 by_cases c:ps.length=0
 .refine (Wc A1 b ps w c).mono ?_
  rintro e f ⟨rfl,h⟩
  have g:bK (ps.map PV.abs)=[]:=by rw [bK,P1 (by rw [K0]; exact c)]
  rw [g]
  exact ⟨none,0,I,h.gB 5 1⟩
 .exact Wd A1 b ps w i j a c d
theorem Wr(bs A c its fan leaf a U A1 f D S S2)(w:Λ)(r:cC [aP a (S),aP U (S2)] w)(B:Rf [aP a (S),aP U (S2)] w (eG))(m:Rf [aP a (S),aP U (S2)] w (jM bs A c its fan leaf a U))(o:Rf [aP a (S),aP U (S2)] w (λw=>aI w A1 (B8 D)))(z:dD its)(y:its.length<=1000)(b:its.length<=c)(i:its.length<=40)(x:2<=fan)(j:fan<=16)(k:1<=leaf)(l:leaf<=64)(q:D.length<=1048576)(s:S.length<=549755813888)(t:S2.length<=549755813888)(d:¬ D.length=0)(u:iO D=none):
  Θ 138 #[(Z bs 0),(V A1 D f)] w λe p=>e = .returned (.tuple #[nS,(C 3)])/\aN [aP a (S),aP U (S2)] w [aP a (S),aP U (S2)] p:= by
 have E:=m.imp (λ_ h=>h.1)
 have F:=m.imp (λ_ h=>h.2)
 have _u0:=B
 have _u1:=m
 have _u2:=o
 have _u3:=z
 have _u4:=y
 have _u5:=b
 have _u6:=i
 have _u7:=x
 have _u8:=j
 have _u9:=k
 have _u10:=l
 have _u11:=q
 have _u12:=s
 have _u13:=t
 have _u14:=d
 have _u15:=u
 clear _u0 _u1 _u2 _u3 _u4 _u5 _u6 _u7 _u8 _u9 _u10 _u11 _u12 _u13 _u14 _u15
 refine wG (args:=[(Z bs 0),(V A1 D f)]) (yD [aP a (S),aP U (S2)]) Tryz.func138 I 110 I [(0,(Z bs 0)),(1,(V A1 D f))] ⟨I,I,trivial⟩ [aP a (S),aP U (S2)] (r) ?_
 refine aT (aF ?_)
 refine la ?_
 refine la ?_
 refine aO (aJ (aT (aT (aF ?_))))
 refine lm ?_
 refine lc (B4 D) ?_
 refine lc (.bool ((((D.length:Nat):Int):Int) == 0)) ?_
 refine aO (aJ ?_)
 refine fD I (by simpa using d) ?_
 refine gL (aJ (aT (aF ?_)))
 refine lm ?_
 refine li I ?_
 refine iR (λw g=>(VU A1 f D w (o.aX g) (by assumption) (by assumption)).mono ?_)
 rintro e p ⟨rfl,n⟩
 refine ⟨_,_,I,n,?_⟩; clear n g
 refine lm ?_
 refine lc (.slice none 0 0) ?_
 refine lc (.int .i64 3) ?_
 refine la ?_
 refine la ?_
 refine aO (aJ (aT (aT (aF ?_))))
 refine lm ?_
 refine lc L7 ?_
 refine aO (aJ (nR I (aT (aF ?_))))
 refine lm ?_
 refine la ?_
 refine la ?_
 refine aO (aJ (gW (cJ ?_)))
 refine dL [(.slice none 0 0),(.int .i64 3)] I ⟨I,I,trivial⟩ (λw g=>?_)
 exact ⟨I,g⟩
theorem Ws(bs A c its fan leaf N U A1 c1 D S S2 ps w)(hO:cC [aP N (S),aP U (S2)] w)(r0:Rf [aP N (S),aP U (S2)] w (eG))(r1:Rf [aP N (S),aP U (S2)] w (jM bs A c its fan leaf N U))(r2:Rf [aP N (S),aP U (S2)] w (λw=>aI w A1 (B8 D)))(hs:dD its)(hn:its.length<=1000)(bu:its.length<=c)(T:its.length<=40)(hf:2<=fan)(aw:fan<=16)(ax:1<=leaf)(b0:leaf<=64)(hD:D.length<=1048576)(hS:S.length<=549755813888)(hT:S2.length<=549755813888)(bm:¬ D.length=0)(hd:iO D=some ps)(bo:(bK (fS its fan leaf ps)).length<=1048576):
  Θ 138 #[(Z bs 0),(V A1 D c1)] w λe w'=>∃ (B:Δ) (cb:Nat),e = .returned (.tuple #[(V B (bK (fS its fan leaf ps)) cb),(C 0)])/\aN [aP N (S),aP U (S2)] w [aP N (S++ps.flatMap (iB its)),aP U (S2++ps.flatMap (jD its)),cB B (bK (fS its fan leaf ps)) cb] w':=by
 have ra:=r1.imp (λ_ h=>h.1)
 have rb:=r1.imp (λ_ h=>h.2)
 refine bS Tryz.func138 110 (hO) I<|Nc<|G rfl<|Ne<|G rfl<|lk (Y D.length)<|lk (.bool ((((D.length:Nat):Int):Int) == 0))<|Na<|fD rfl (su bm)<|Ni<|G rfl<|R<|iR (λw f=>(VV A1 c1 D ps w (r2.aX f) ag ag).mono ?_)
 rintro e w' ⟨R24,q,a,L24,rfl,X,Q,P⟩
 refine ⟨_,_,I,X,?_⟩; clear X f
 obtain ⟨_,bf,b1⟩:=vK hd
 have af:∀ p∈ps,p.ok:=bf.2.1
 have bv:a.length=ps.length:=by grind
 refine G I<|Ne<|G rfl<|lF<|Nn<|aF<|R<|pA [nS,nS,nS] λO=>Ne<|G rfl<|lk (Y ((a).length))<|G rfl<|Ng<|St.mem (λw f=>f.gB 240 3)<|St.mem (λw f=>f.gB 9 1)<|St.mem (λw f=>f.gB 9 1)<|St.mem (λw f=>Mm.tK f)<|sL (λ(i,RX,m,o,NX,g,b,OX,k,d,LX)=>kJ its fan leaf A a i o b d LX) (λ(i,RX,m,o,NX,g,b,OX,k,d,LX)=>a.length - i) (λ(i,RX,m,o,NX,g,b,OX,k,d,LX)=>[(0,(Z bs 0)),(4,nS),(5,(C 0)),(7,(C 0)),(8,(Z O 0)),(30,(V R24 (a) q)),(31,(Y ((a).length))),(32,(Y i))]) (λ(i,RX,m,o,NX,g,b,OX,k,d,LX)=>[aP N (S),aP U (S2),cP R24 (a) q,dQ (L24),aD O 234 [(V RX (o) m),(V NX (b) g),(V OX (d) k)],cP RX (o) m,cS NX (b) g,cS OX (d) k,dQ (LX)]) (0,none,0,GN,none,0,oY,none,0,oY,[]) kJ.zero (λw f=>by show Mm _ _ [aP N (S),aP U (S2),cP R24 (a) q,dQ (L24),aD O 234 [(V none (GN) 0),(V none (oY) 0),(V none (oY) 0)],cP none (GN) 0,cS none (oY) 0,cS none (oY) 0,dQ ([])] w; exact f) ?_
 rintro ⟨i,RX,m,o,NX,g,b,OX,k,d,LX⟩ (l:kJ its fan leaf A a i o b d LX)
 dsimp only
 refine Nc<|lk (.bool (decide ((i:Int) < (((a).length:Nat):Int)))) ?_
 refine χ I (λba=>?_) λba=>?_
 .have bl:=l.le; have bc:=l.len1; have bd:=l.len2; have be:=l.len3
  refine Nm<|aF ?_
  obtain ⟨W,r⟩:=gk a i (by omega)
  refine St.xO (λw f=>oT (i:=2) I w f) r (λbp br a4 a8=>lv (v:=(Z bp (br+i*3))) (wV (e:=240) I (by simp) (by kernel_rfl) I I a4 (by omega)) ?_)
  refine lw (.agg #[(vS W.lo),(vS W.hi),W.c.val]) (gI [(vS W.lo),(vS W.hi),W.c.val] I I J J (a8))<|R<|pA [qe,qe,.nilIface] λan=>R<|zv 9 I (PV.one W) ?_
  refine Nb<|lk (Z an 2)<|lL 9 I<|Ng<|aT ?_
  refine xd ?_
  have F:W.abs.ok:=af _ (by grind)
  obtain ⟨K,H,xc⟩:=W
  cases xc with
  | sum xn xf =>
    refine xd ?_
    refine aF<|lk (.tuple #[(.agg #[(Y xn),(vS xf)]),bT])<|G rfl<|No<|R<|pA [(C 0),qe] λbw=>R<|zu 10 rfl<|Nv<|G rfl<|lk (Z an 0)<|lW (rA 9 [(vS K),(vS H)])<|lW (zr 10 rfl)<|R<|fT [4,5] _ (λw f hO=>(VW bs A c its fan leaf N U K H xn xf O RX m o (V NX (b) g) (V OX (d) k) w hO (r0.bJ f [4,5]) (r1.bJ f [4,5]) (by assumption) (by assumption) (by assumption) (by omega) (by omega) (by omega) (by omega) (by omega)).mono ?_)
    rintro e w' ⟨R245,a3,ad,rfl,X,ar,ah⟩
    refine ⟨_,[_,_],_,I,X,I,?_⟩; clear X f hO
    refine Ns<|jF<|aJ<|aF<|lw (Y (i+1)) bN<|G I<|Na ?_
    have u:kJ its fan leaf A a (i+1) (o++ad) b d LX:=l.sum r ar ah (Bf hs T hf aw ax F)
    exact sA (i+1,R245,a3,o++ad,NX,g,b,OX,k,d,LX) (u) oz (κ [0,1,2,3,4,5,6,7,8] I I)
  | list XA ae t =>
    refine xd ?_
    have az:(XA,t)∈L24:=P _ (F0 r) (XA,t) (by simp [CV.rows])
    refine aF<|lk (.tuple #[(.agg #[(C 0),qe]),bF])<|G rfl<|Np<|aF<|lk (.tuple #[(.agg #[(V XA t ae)]),bT])<|G rfl<|No<|R<|pA [nS] λbx=>R<|zu 10 rfl<|Nv<|G rfl<|lk (Z an 0)<|lW (rA 9 [(vS K),(vS H)])<|lW (zr 10 rfl)<|R<|fT [4,5,6,7] _ (λw f hO=>(VX bs A c its fan leaf N U K H XA ae t O RX m o NX g b OX k d w hO (r1.bJ f [4,5,6,7]) (f.fX [4,5,6,7] (j:=3) I (λw h=>(h (XA,t) az).1)) (by assumption) (by assumption) (by assumption) (by omega) (P8 F.2.1 (by omega)) (λx hx=>P8 (AEh (F.2.2.1 x hx)) (by omega)) (by omega) (by omega)).mono ?_)
    rintro e w' ⟨R253,E,s,N253,y,O253,z,L253,rfl,X,au,ai⟩
    refine ⟨_,[_,_,_,_],_,I,X,I,?_⟩; clear X f hO
    refine Ns<|jF<|aJ<|aF<|lw (Y (i+1)) bN<|G I<|Na ?_
    have u:kJ its fan leaf A a (i+1) (o++s) (b++aL t its) (d++aL (inL its K H) t) (LX++L253):=l.list r au ai (Bf hs T hf aw ax F) (Bg F) (Ds hs T F)
    exact sA (i+1,R253,E,o++s,N253,y,b++aL t its,O253,z,d++aL (inL its K H) t,LX++L253) (u) oz (λw f=>by show Mm _ _ [aP N (S),aP U (S2),cP R24 (a) q,dQ (L24),aD O 234 [(V R253 (o++s) E),(V N253 (b++aL t its) y),(V O253 (d++aL (inL its K H) t) z)],cP R253 (o++s) E,cS N253 (b++aL t its) y,cS O253 (d++aL (inL its K H) t) z,dQ (LX++L253)] w; exact Mm.join (cs:=[aP N (S),aP U (S2),cP R24 (a) q,dQ (L24),aD O 234 [(V R253 (o++s) E),(V N253 (b++aL t its) y),(V O253 (d++aL (inL its K H) t) z)],cP R253 (o++s) E,cS N253 (b++aL t its) y,cS O253 (d++aL (inL its K H) t) z]) (L:=LX) (M:=L253) ((f.pick [0,1,2,3,4,5,6,7,8,11] I I)))
  | ans XA ae t XB bk xm =>
    refine xd ?_
    have az:(XA,t)∈L24:=P _ (F0 r) (XA,t) (by simp [CV.rows])
    have bn:(XB,xm)∈L24:=P _ (F0 r) (XB,xm) (by simp [CV.rows])
    refine aF<|lk (.tuple #[(.agg #[(C 0),qe]),bF])<|G rfl<|Np<|aF<|lk (.tuple #[(.agg #[nS]),bF])<|G rfl<|Np<|aF<|lk (.tuple #[(.agg #[(V XA t ae),(V XB xm bk)]),bT])<|G rfl<|No<|R<|pA [nS,nS] λbz=>R<|zu 10 rfl<|Nv<|G rfl<|lW (zr 10 rfl)<|R<|fT [4,6,7] _ (λw f hO=>(VN bs A c its fan leaf N U XA ae t XB bk xm O (V RX (o) m) NX g b OX k d w hO (r1.bJ f [4,6,7]) (f.fX [4,6,7] (j:=3) I (λw h=>(h (XA,t) az).1)) (f.fX [4,6,7] (j:=3) I (λw h=>(h (XB,xm) bn).1)) (by assumption) (by assumption) (P8 F.2.1.1 (by omega)) (P8 F.2.2.1 (by omega)) (by omega) (by omega) (I)).mono ?_)
    rintro e w' ⟨N259,a0,O259,a2,rfl,X⟩
    refine ⟨_,[_,_,_],_,I,X,I,?_⟩; clear X f hO
    refine Ns<|jF<|aJ<|aF<|lw (Y (i+1)) bN<|G I<|Na ?_
    have u:kJ its fan leaf A a (i+1) o (b++aL t its) (d++fA xm its) LX:=l.ans r (Bg F) (Ds hs T F)
    exact sA (i+1,RX,m,o,N259,a0,b++aL t its,O259,a2,d++fA xm its,LX) (u) oz (κ [0,1,2,3,4,5,6,7,8] I I)
 .have bl:=l.le; have bc:=l.len1; have bd:=l.len2; have be:=l.len3
  obtain rfl:i=a.length:=by omega
  have ab:o.map PV.abs=fS its fan leaf ps:=l.BM Q
  have aj:b=ps.flatMap (iB its):=l.IC Q
  have ak:d=ps.flatMap (jD its):=l.ID Q
  have ay:∀ p∈o.map PV.abs,p.fit:=by rw [ab]; exact Mv hs T hf aw ax af
  have bg:∀ x∈b,x.length=32:=by rw [aj]; exact Mw λp hp=>(Bg (af p hp)).2
  have bh:∀ x∈d,x.length=32:=by rw [ak]; exact Mw λp hp=>(Ds hs T (af p hp)).2
  refine Nj<|aF<|lk (Z O 0)<|lL 4 rfl<|R<|dC (λw f=>Mz RX m o w (f.aR (j:=5) I (λ_ h=>Ll h)) ((Ro.and (f.aR (j:=8) I (λw h=>h)) (rb.aX f)).imp (λw h=>l.src.ok h.1 h.2)) (ay) (by rw [ab]; exact bo)) λB64 n=>?_
  rw [show o.map PV.abs=fS its fan leaf ps from ab]
  refine G I<|Nf<|aT ?_
  refine xd ?_
  refine aF<|G rfl<|lF<|Nn<|Nc<|G rfl<|lk (Z bs 0)<|lk (Z bs 3)<|lW (rW (λw f=>At.cell (ra.now f) 3))<|lF<|Nn<|Nc<|lk (Z O 1)<|lL 4 rfl<|lk (Y ((b).length))<|G rfl<|Ng<|sL (λj=>j<=b.length) (λj=>b.length - j) (λj=>[(0,(Z bs 0)),(4,nS),(5,(C 0)),(8,(Z O 0)),(14,(V B64 (bK (fS its fan leaf ps)) n)),(84,(V NX (b) g)),(85,(Y ((b).length))),(86,(Y j))]) (λj=>[aP N (S++b.take j),aP U (S2),cP R24 (a) q,dQ (L24),aD O 234 [(V RX (o) m),(V NX (b) g),(V OX (d) k)],cP RX (o) m,cS NX (b) g,cS OX (d) k,dQ (LX),cB B64 (bK (fS its fan leaf ps)) n]) 0 (G6 _) (λw f=>by show Mm _ _ [aP N (S++b.take 0),aP U (S2),cP R24 (a) q,dQ (L24),aD O 234 [(V RX (o) m),(V NX (b) g),(V OX (d) k)],cP RX (o) m,cS NX (b) g,cS OX (d) k,dQ (LX),cB B64 (bK (fS its fan leaf ps)) n] w; rw [X5,O4]; exact f) ?_
  intro j hj
  show St _ _ _ [(0,(Z bs 0)),(4,nS),(5,(C 0)),(8,(Z O 0)),(14,(V B64 (bK (fS its fan leaf ps)) n)),(84,(V NX (b) g)),(85,(Y ((b).length))),(86,(Y j))] [aP N (S++b.take j),aP U (S2),cP R24 (a) q,dQ (L24),aD O 234 [(V RX (o) m),(V NX (b) g),(V OX (d) k)],cP RX (o) m,cS NX (b) g,cS OX (d) k,dQ (LX),cB B64 (bK (fS its fan leaf ps)) n] _
  refine Nc<|lk (.bool (decide ((j:Int) < (((b).length:Nat):Int)))) ?_
  refine χ I (λbb=>?_) λbb=>?_
  .refine Nm<|aF ?_
   obtain ⟨W,r⟩:=gk b j (by omega)
   refine St.fC (λw f=>fM (i:=6) I w f) (fR r) (λbq bt a5 a9=>lw (Z bq (bt+j)) (rR 9 a5)<|lW (rW a9)<|G rfl<|Nv<|G rfl<|lk (Z bs 0)<|lk (Z bs 3)<|lW (rW (λw f=>At.cell (ra.now f) 3))<|G I<|R<|Fl 0 I I J I I I I (by have h:=bg _ (F0 r); omega) (by rw [C3,I8]; omega)<|Nk<|aF<|lw (Y (j+1)) bN<|G I<|Na ?_)
   rw [show S++b.take j++[W]=S++b.take (j+1) from by rw [D1,yX r]]
   exact sA (j+1) oz oz η
  .obtain rfl:j=b.length:=by omega
   rw [R0]
   refine Nj<|Nc<|lk (Z O 2)<|lL 4 rfl<|lk (Y ((d).length))<|G rfl<|Ng<|sL (λj=>j<=d.length) (λj=>d.length - j) (λj=>[(0,(Z bs 0)),(4,nS),(5,(C 0)),(14,(V B64 (bK (fS its fan leaf ps)) n)),(97,(V OX (d) k)),(98,(Y ((d).length))),(99,(Y j))]) (λj=>[aP N (S++b),aP U (S2++d.take j),cP R24 (a) q,dQ (L24),aD O 234 [(V RX (o) m),(V NX (b) g),(V OX (d) k)],cP RX (o) m,cS NX (b) g,cS OX (d) k,dQ (LX),cB B64 (bK (fS its fan leaf ps)) n]) 0 (G6 _) (λw f=>by show Mm _ _ [aP N (S++b),aP U (S2++d.take 0),cP R24 (a) q,dQ (L24),aD O 234 [(V RX (o) m),(V NX (b) g),(V OX (d) k)],cP RX (o) m,cS NX (b) g,cS OX (d) k,dQ (LX),cB B64 (bK (fS its fan leaf ps)) n] w; rw [X5,O4]; exact f) ?_
   intro j hj
   show St _ _ _ [(0,(Z bs 0)),(4,nS),(5,(C 0)),(14,(V B64 (bK (fS its fan leaf ps)) n)),(97,(V OX (d) k)),(98,(Y ((d).length))),(99,(Y j))] [aP N (S++b),aP U (S2++d.take j),cP R24 (a) q,dQ (L24),aD O 234 [(V RX (o) m),(V NX (b) g),(V OX (d) k)],cP RX (o) m,cS NX (b) g,cS OX (d) k,dQ (LX),cB B64 (bK (fS its fan leaf ps)) n] _
   refine Nc<|lk (.bool (decide ((j:Int) < (((d).length:Nat):Int)))) ?_
   refine χ I (λaq=>?_) λaq=>?_
   .refine Nm<|aF ?_
    obtain ⟨W,r⟩:=gk d j (by omega)
    refine St.fC (λw f=>fM (i:=7) I w f) (fR r) (λbi bj ao ap=>lw (Z bi (bj+j)) (rR 9 ao)<|lW (rW ap)<|G rfl<|Nv<|G rfl<|lk (Z bs 0)<|lk (Z bs 4)<|lW (rW (λw f=>At.cell (ra.now f) 4))<|G I<|R<|Fl 1 I I J I I I I (by have h:=bh _ (F0 r); omega) (by rw [C3,I8]; omega)<|Nk<|aF<|lw (Y (j+1)) bN<|G I<|Na ?_)
    rw [show S2++d.take j++[W]=S2++d.take (j+1) from by rw [D1,yX r]]
    exact sA (j+1) oz oz η
   .obtain rfl:j=d.length:=by omega
    rw [R0]
    refine Nj<|aF<|G rfl<|Nd<|sN [(V B64 (bK (fS its fan leaf ps)) n),(C 0)] λw f=>⟨B64,n,I,?_⟩
    rw [<- aj,<- ak]
    exact (f.pick [0,1,9] I I)
theorem MA(bs A c its fan leaf b U A1 h D S S2 w)(q:cC [aP b (S),aP U (S2)] w)(z:Rf [aP b (S),aP U (S2)] w (eG))(E:Rf [aP b (S),aP U (S2)] w (jM bs A c its fan leaf b U))(F:Rf [aP b (S),aP U (S2)] w (λw=>aI w A1 (B8 D)))(x:dD its)(u:its.length<=1000)(g:its.length<=c)(i:its.length<=40)(t:2<=fan)(k:fan<=16)(l:1<=leaf)(m:leaf<=64)(p:D.length<=1048576)(r:S.length<=549755813888)(s:S2.length<=549755813888)(d:D≠[])(a:(bC its fan leaf D).err=0):
  Θ 138 #[(Z bs 0),(V A1 D h)] w λe n=>∃ (B:Δ) (cb:Nat),e = .returned (.tuple #[(V B ((bC its fan leaf D).reply) cb),(.int .i64 (bC its fan leaf D).err)])/\aN [aP b (S),aP U (S2)] w [aP b (S++(bC its fan leaf D).need),aP U (S2++(bC its fan leaf D).off),cB B ((bC its fan leaf D).reply) cb] n:=by
 have o:¬ D.length=0:=zg
 unfold bC at a ⊢
 rw [P4 d] at a ⊢
 cases j:iO D with
 | none=>grind
 | some y =>
   rw [j] at a
   dsimp only at a ⊢
   split at a
   .grind
   .rename_i f
    rw [P4 f]
    grind [Ws]
end
theorem Wu{its lo hi:_}:CP [oC its lo hi] w:=λp b r a=>by rw [G2.1 b] at a; cases a
theorem Wv{l:List α}(h:aI w none (l.map f)):l=[]:=by
 cases l with
 | nil=>rfl
 | cons x l=>obtain U:=h 0 _ I; grind
theorem uH(A c l w)(d:Rf [] w (λw=>aI w A (SS l)))(g:l.length<=4294967296):
  Θ 24 #[(V A l c)] w λe h=>∃ (B:Δ) (cb:Nat),e = .returned (V B l cb)/\aN [] w [cS B l cb] h:=by
 refine eO Tryz.func24 8 (B3 w) rfl<|Nc<|G rfl<|Ne<|G rfl<|lw (.bool A.isNone) (by cases A <;> exact gZ λ_=>by kernel_rfl) ?_
 refine qi I (λb=>?_) λb=>?_
 .obtain rfl:A=none:=by cases A with | none=>rfl | some _=>grind
  obtain rfl:l=[]:=Wv d.here
  exact St.mem (λw a=>a.gB 9 1)<|Nc<|G rfl<|Nh<|sN [nS] λw a=>⟨_,0,I,a⟩
 .exact Ni<|R<|pN 0 9 [] λi=>G I<|R<|oP (λw a=>a.tJ 0 I 1)<|cL gD 0 _ rfl rfl J rfl rfl rfl si (λw a=>eN.gJ (d.now a)) (mJ) U _ dV _ (by simp [SS]) (λA7 f=>G I<|Nd<|sN [_] λw a=>⟨A7,f,I,a⟩)
abbrev E7(a)(b:List (List UInt8))(c)(d e:Nat)(f g):=#[(V a b c),(Y d),(Y e),(.map (some f)),(.map (some g))]
theorem MB(A c l)(fan:Nat)(leaf:Nat)(w)(h:Rf [] w (λw=>aI w A (SS l)))(q:l.length<=4294967296)(r:uA (fan:Int) (leaf:Int)=true)(p:eM l=0):
  Θ 23 #[(V A l c),(.agg #[(Y fan),(Y leaf)])] w λe s=>∃ (bs:Nat) (A2:Δ) (n:Nat) (o:Nat) (U:Nat),e = .returned (.tuple #[(Z bs 0),(C 0)])/\aN [] w [aD bs 113 [(V A2 l n),(Y fan),(Y leaf),(.map (some o)),(.map (some U))],cS A2 l n,aP o ([]),aP U ([])] s:=by
 refine bS Tryz.func23 22 (B3 w) rfl<|Nc<|R<|pB _ λm=>G I<|Ne<|lW (rA 0 _)<|R<|bV (λw g=>TP ((fan:Nat)) ((leaf:Nat)) w )<|M (.bool (!(uA (fan:Int) (leaf:Int))))<|Na<|fD rfl (by simp [r])<|Nl<|Nc<|G rfl<|R<|bV (λw g=>FJ A c l w (h.aX g) U)<|G I<|Nb<|G I<|M (M6 l)<|Na<|fD I (by simp [p]) ?_
 refine gL (aJ (qU (ι:=Δ × Nat × Nat × Nat × Nat) (λ_=>True) (λ(B16,a,b,d,f)=>[(0,(V A l c)),(1,(.agg #[(Y fan),(Y leaf)])),(3,(Z m 0)),(4,(Z f 0)),(5,(C 0)),(7,(.agg #[(Y fan),(Y leaf)])),(8,(.bool (uA ((fan:Nat)) ((leaf:Nat))))),(9,(.bool (!(uA ((fan:Nat)) ((leaf:Nat)))))),(10,(V A l c)),(11,(C (eM l))),(6,(C (eM l))),(12,(C (eM l))),(13,(.bool (((eM l)) != 0))),(15,(V A l c)),(17,(.agg #[(Y fan),(Y leaf)])),(16,(V B16 l a)),(18,(.map (some b))),(19,(.map (some d))),(20,(.agg #[(V B16 l a),(Y fan),(Y leaf),(.map (some b)),(.map (some d))])),(21,(Z f 0))]) (λ(B16,a,b,d,f)=>[aD m 64 [(Y fan),(Y leaf)],cS B16 l a,aP b ([]),aP d ([]),aD f 113 [(V B16 l a),(Y fan),(Y leaf),(.map (some b)),(.map (some d))]]) ?_ ?_))
 .refine dN _ 9 J η<|am 0 ?_
  refine aV 2 _ I (zr 0 I) ?_
  refine Rc (i:=1) (j:=3) (k:=4) J I I I I I I ?_ ?_ ?_
  .refine dC (λw g=>uH A c l w (h.aX g) U) λB16 a=>?_
   refine xd ?_
   refine aQ _ (κ [0] I I) η ?_
   refine kU (i:=3) (j:=4) J I I I I ?_ ?_
   .refine rC I I J (λb=>aQ _ (κ [0,1] I I) η<|aA 4 rfl<|rC rfl rfl J (λd=>aQ _ (κ [0,1,2] I I) η<|aC 5 (.agg #[(V B16 l a),(Y fan),(Y leaf),(.map (some b)),(.map (some d))]) rfl<|aA 6 rfl<|pB _ λf=>aQ _ (κ [0,1,2,3] I I) η<|aa 7 ?_))
    refine aa 8 ?_
    exact cG J<|aJ (sM (B16,a,b,d,f) trivial η)
   .refine rC I I J (λd=>aQ _ (κ [0,1] I I) η<|aA 3 rfl<|rC rfl rfl J (λb=>aQ _ (κ [0,1,2] I I) η<|aC 5 (.agg (E7 B16 l a fan leaf b d)) rfl<|aA 6 rfl<|pB _ λf=>?_))
    refine xd ?_
    refine aQ _ (κ [0,1,2,3] I I) η ?_
    refine aa 7 ?_
    refine aa 8 ?_
    exact cG J<|aJ (sM (B16,a,b,d,f) trivial (κ [0,1,3,2,4] I I))
  .refine rC I I J (λb=>aQ _ (κ [0] I I) η ?_)
   refine kU (i:=1) (j:=4) J I I I I ?_ ?_
   .refine dC (λw g=>uH A c l w (h.aX g) U) λB16 a=>aQ _ (κ [0,1] I I) η<|aA 4 rfl<|rC rfl rfl J (λd=>aQ _ (κ [0,1,2] I I) η<|aC 5 (.agg (E7 B16 l a fan leaf b d)) rfl<|aA 6 rfl<|pB _ λf=>aQ _ (κ [0,1,2,3] I I) η<|aa 7 ?_)
    refine aa 8 ?_
    exact cG J<|aJ (sM (B16,a,b,d,f) trivial (κ [0,2,1,3,4] I I))
   .refine rC I I J (λd=>aQ _ (κ [0,1] I I) η<|aA 1 rfl<|dC (λw g=>uH A c l w (h.aX g) U) λB16 a=>?_)
    refine xd ?_
    refine aQ _ (κ [0,1,2] I I) η<|aC 5 (.agg (E7 B16 l a fan leaf b d)) rfl<|aA 6 rfl<|pB _ λf=>aQ _ (κ [0,1,2,3] I I) η<|aa 7 ?_
    refine aa 8 ?_
    exact cG J<|aJ (sM (B16,a,b,d,f) trivial (κ [0,3,1,2,4] I I))
  .refine rC I I J (λd=>aQ _ (κ [0] I I) η ?_)
   refine kU (i:=1) (j:=3) J I I I I ?_ ?_
   .refine dC (λw g=>uH A c l w (h.aX g) U) λB16 a=>aQ _ (κ [0,1] I I) η<|aA 3 rfl<|rC rfl rfl J (λb=>aQ _ (κ [0,1,2] I I) η<|aC 5 (.agg (E7 B16 l a fan leaf b d)) rfl<|aA 6 rfl<|pB _ λf=>aQ _ (κ [0,1,2,3] I I) η<|aa 7 ?_)
    refine aa 8 ?_
    exact cG J<|aJ (sM (B16,a,b,d,f) trivial (κ [0,2,3,1,4] I I))
   .refine rC I I J (λb=>?_)
    refine xd ?_
    refine aQ _ (κ [0,1] I I) η<|aA 1 rfl<|dC (λw g=>uH A c l w (h.aX g) U) λB16 a=>aQ _ (κ [0,1,2] I I) η<|aC 5 (.agg (E7 B16 l a fan leaf b d)) rfl<|aA 6 rfl<|pB _ λf=>aQ _ (κ [0,1,2,3] I I) η<|aa 7 ?_
    refine aa 8 ?_
    exact cG J<|aJ (sM (B16,a,b,d,f) trivial (κ [0,3,2,1,4] I I))
 .rintro ⟨B16,a,b,d,f⟩ -
  dsimp only
  exact gW<|dL [_,_] rfl ⟨rfl,rfl,trivial⟩ (λw g=>⟨f,B16,_,b,d,I,(g.pick [4,1,2,3] I I)⟩)
abbrev E2:Value:=.string ⟨#[]⟩
abbrev I7(a:List (List UInt8)):Value:=.iface 242 (.agg #[(Y ((inL a [] []).length)),(vS (eI (inL a [] [])))])
theorem Ww(bs A c its fan leaf i U w)(k:Rf [] w (eG))(f:Rf [] w (jM bs A c its fan leaf i U))(q:dD its)(o:its.length<=1000)(g:its.length<=c)(d:its.length<=40):
  Θ 162 #[(Z bs 0)] w λe n=>∃ (B:Δ) (cb:Nat),e = .returned (V B (bK [dF its [] []]) cb)/\aN [] w [cB B (bK [dF its [] []]) cb] n:=by
 have r:=f.imp (λ_ h=>h.1)
 have s:=f.imp (λ_ h=>h.2)
 exact eO Tryz.func162 17 (B3 w) rfl<|Nc<|G rfl<|Nb<|M (.agg #[E2,E2])<|G rfl<|M (.agg #[E2,E2])<|R<|bV (λw a=>CN bs A c its fan leaf i U [] [] w (k.aX a) (f.aX a) ag ag ag)<|M (I7 its)<|M (.agg #[E2,E2,(I7 its)])<|R<|pN 1 240 [E2,E2,(I7 its)] λl=>R<|dC (λw a=>Mz _ 1 _ w (a.aR (j:=0) I (λ_ h=>tU h I)) ((k.aX a).imp (λw _=>Wu)) (λp m=>by rw [G2.1 m]; exact (Bh d).1) ((Bh d).2.1)) λB13 b=>G I<|Nb<|G rfl<|Nd<|sN [_] λw a=>⟨B13,b,I,(a.pick [1] I I)⟩
section
open Go.RowKit Go.Sort Go.Shelf
open Go.Maps (setOf)
theorem Wx{D:DataW Unit}(n:D=setOf (DataW.lit (.bool true)) (S.map Lit.string))(t:∀ p,∀ g,D = .map g->p∈g->∃ x,p.1=Lit.string x)(o:ss.Perm (strKeys D)):ss.mergeSort (λx y=>decide (x<=y))=aH [] S:=by
 have e:∀ x∈S.map Lit.string,WideAt.IsKeyLit x:=by intro y u; obtain ⟨q,_,rfl⟩:=Y9.1 u; exact True.intro
 have d:=GF S
 have j:(aH [] S).Nodup:=d.imp zg
 obtain ⟨g,i,l⟩:=Maps.tidy_setOf (DataW.lit (H:=Unit) (.bool true)) _ e
 have A:(aH [] S).Perm (strKeys D):=by
  rw [n,i]
  refine perm_strKeys l (λp o=>t p g (n.trans i) o) j λx=>?_
  rw [<- i,Maps.has_setOf _ _ _ e,GG,List.any_map,List.any_eq_true]
  constructor
  .intro h
   exact ⟨x,h,WideAt.sameKey_self (a:=Lit.string x) True.intro⟩
  .rintro ⟨q,r,s⟩
   have:=WideAt.sameKey_eq (show (Lit.string q).sameKey (Lit.string x)=true from s)
   injection this with this
   rw [<- this]
   exact r
 have k:ss.Perm (aH [] S):=zg
 have z:=mergeSort_of_perm k
 have f:(aH [] S).mergeSort (λx y=>decide (x<=y))=aH [] S:=by
  have w:∀ a b c:Bs,decide (a<=b)=true->decide (b<=c)=true->decide (a<=c)=true:=zg
  have m:∀ a b:Bs,(decide (a<=b) || decide (b<=a))=true:=zg
  exact List.Perm.eq_of_pairwise zg (List.pairwise_mergeSort w m _) (d.imp zg) (List.mergeSort_perm _ _)
 grind
theorem MC{e:Υ}{v:Ω}{xs:Ξ}(d:Fr [] w w')(o:w'.ownsRow w.heap.size e 1 v n xs):∃ A c,v = .slice A n c/\aN [] w [bD e 1 A n c xs] w':=by
 obtain ⟨f,h⟩:=o
 rcases h with ⟨rfl,rfl⟩ | ⟨g,cap,a,rfl,b,i,j,k,l,m⟩
 .exact ⟨_,0,I,(B3 w).push d (⟨f,.inl ⟨I,I⟩⟩) (by simp [bD,eT]) (by simp [bD,eT])⟩
 .exact ⟨_,cap,I,(B3 w).push d (⟨f,.inr ⟨g,cap,a,I,G6 _,i,j,k,l,m⟩⟩) (by simp [bD,eT]; exact b) (by simp [bD,eT])⟩
theorem MD(a w):
  Θ 96 #[(.map (some a))] w λe c=>∃ (b:Nat),e = .returned (.func (.func 143) #[] #[(Z b 0)])/\aN [] w [aD b 111 [(.map (some a))]] c:=by
 have h:=(AG3).1 (AnyZ.keys_in Tryz.PU _ 5 trivial I (some a) w)
 change Θ 96 _ _ _ at h
 refine h.mono ?_
 rintro e c ⟨rfl,rfl⟩
 exact ⟨_,I,(B3 w).push ((Fr.refl _ _).alloc _) (At.new w _ _) (by simp [aD]) (by simp [aD])⟩
theorem Wy(m):AnyZ.SortsIn Tryz.prog Tryz.PW Fence.wide m :=
 ⟨λb d cap f W e a c=>AG3.2 (Tryz.slices_Sort_string b d cap f W e a c),
  λp cap W=>AG3.2 (Tryz.slices_Sort_string_none p cap W)⟩
theorem ME(d i S w)(D:Rf [] w (λw=>At w d 111 [(.map (some i))]))(r1:Rf [] w (λw=>hF w i S))(r:S.length<=1099511627776):
  Θ 95 #[(.func (.func 143) #[] #[(Z d 0)])] w λe E=>∃ (B:Δ) (cb:Nat),e = .returned (V B (aH [] S) cb)/\aN [] w [cS B (aH [] S) cb] E:=by
 have P:w.cell? ⟨d,0,none⟩=some (.map (some i)):=by have h:=D.here; rw [h.cell]; rfl
 have k:d < w.heap.size:=by have h:=D.here; exact h.lt
 have a:hF w i S:=r1.here
 have t:Maps.size (setOf (DataW.lit (H:=Unit) (.bool true)) (S.map Lit.string))<=S.length:=by
  have f:∀ x∈S.map Lit.string,WideAt.IsKeyLit x:=by intro y X; obtain ⟨q,_,rfl⟩:=Y9.1 X; exact True.intro
  rw [Maps.size_setOf _ _ f]
  have ab:∀ (j L:List Lit),(j.foldl Maps.addKey L).length<=L.length+j.length:=by
   intro j
   induction j with
   | nil=>grind
   | cons x j ih =>
     grind [Maps.addKey]
  grind
 have g:SeqGives _ 2 _ 143 _ _ _ _ w :=
  AnyZ.keys_gives { Tryz.PU with } Fence.wide _ trivial rfl U d i _ _ w k P a
 have cS:=AnyZ.sorted_in Tryz.acF _ 5 trivial trivial trivial trivial I U (Wy _) (enters_of Tryz.func142 J I) 143 #[Z d 0] trivial (enters_of Tryz.func143 J I) _ _ (by unfold maxLen; omega) U _ g
 have o:=(AG3).1 cS
 change Θ 95 _ _ _ at o
 refine o.mono ?_
 rintro e E ⟨v,ss,rfl,r,b,z,N⟩
 have m:=World.ownsMap.keysOf a
 have s:=Wx I (λp es e Q=>by
  obtain ⟨F,l,n⟩:=m
  rw [l] at e
  injection e with e
  obtain ⟨u,T⟩:=n p (e▸Q)
  obtain ⟨x,_,W,_⟩:=Maps.keyOf_str V7 T
  exact ⟨x,W⟩) r
 have O:ss.length=(aH [] S).length:=by rw [<- s,List.length_mergeSort]
 rw [s,O] at b
 obtain ⟨A,c,rfl,K⟩:=MC (Fr.abZ N []) b
 exact ⟨A,c,I,K⟩
theorem Wz(bs A c)(its:List Γ)(fan leaf b U S w)(k:Rf [] w (λw=>At w bs 113 [(V A its c),(Y fan),(Y leaf),(.map (some b)),(.map (some U))]))(l:Rf [] w (λw=>hF w b S))(m:S.length<=1099511627776):
  Θ 50 #[(Z bs 0)] w λe i=>∃ (B:Δ) (cb:Nat),e = .returned (V B (aH [] S) cb)/\aN [] w [cS B (aH [] S) cb] i:=by
 refine eO Tryz.func50 9 (B3 w) I<|Nc<|G I<|Nb<|G I<|M (Z bs 0) ?_
 refine M (Z bs 3)<|lW (rW (λw a=>At.cell (k.now a) 3))<|R ?_
 refine gT (λw a=>MD b w ) λd=>?_
 refine R ?_
 refine iR (λw a=>(ME d b S w (a.aR (j:=0) I η) (l.aX a) (by omega)).mono ?_)
 rintro e i ⟨B8,f,rfl,g⟩
 refine ⟨_,_,I,g,?_⟩; clear g a
 exact G I<|Nd<|sN [_] λw a=>⟨B8,f,I,(λw h=>Mm.sub h (.cons _ (.cons_cons _ .slnil))) w a⟩
theorem WA(bs A c)(its:List Γ)(fan leaf i U S w)(k:Rf [] w (λw=>At w bs 113 [(V A its c),(Y fan),(Y leaf),(.map (some i)),(.map (some U))]))(l:Rf [] w (λw=>hF w U S))(m:S.length<=1099511627776):
  Θ 51 #[(Z bs 0)] w λe g=>∃ (B:Δ) (cb:Nat),e = .returned (V B (aH [] S) cb)/\aN [] w [cS B (aH [] S) cb] g:=by
 refine eO Tryz.func51 9 (B3 w) I<|Nc<|G I<|Nb<|G I<|M (Z bs 0) ?_
 refine M (Z bs 4)<|lW (rW (λw a=>At.cell (k.now a) 4))<|R ?_
 refine gT (λw a=>MD U w ) λb=>?_
 refine R ?_
 refine iR (λw a=>(ME b U S w (a.aR (j:=0) I η) (l.aX a) (by omega)).mono ?_)
 rintro e g ⟨B8,d,rfl,f⟩
 refine ⟨_,_,I,f,?_⟩; clear f a
 exact G I<|Nd<|sN [_] λw a=>⟨B8,d,I,(λw h=>Mm.sub h (.cons _ (.cons_cons _ .slnil))) w a⟩
end
theorem Rd.Qj(r:Rd):∀ (k i:Nat),(r.cK i).1 <+: (r.cK (i+k)).1
 | 0,i=>zg
 | k+1,i=>(Rd.Qj r k i).trans ⟨_,I⟩
theorem WB{r:Rd}{y:Bs}(h:(r.items most).1.Pairwise (· < ·))(g:i < (r.cnt (r.bP most)).1)(hi:0 < i)(j:((r.cnt (r.bP most)).2.cK (i+1)).1[i - 1]?=some x)(k:((r.cnt (r.bP most)).2.cK (i+1)).1[i]?=some y):x < y:=by
 obtain ⟨t,a⟩:=Rd.Qj (r.cnt (r.bP most)).2 ((r.cnt (r.bP most)).1 - (i+1)) (i+1)
 rw [show i+1+((r.cnt _).1 - (i+1))=(r.cnt (r.bP most)).1 by omega] at a
 have e:(((r.cnt (r.bP most)).2.cK (i+1)).1++t).Pairwise (· < ·):=by rw [a]; exact h
 have f:=(o4.1 e).1
 obtain ⟨a1,b⟩:=C4.1 j
 obtain ⟨c,d⟩:=C4.1 k
 have:=Z6.1 f _ i a1 c U
 rw [b,d] at this
 exact this
abbrev O1:Value:=.agg #[(C 4),(C 4)]
theorem Dt(A c l w)(z:Rf [] w (eG))(o:Rf [] w (λw=>aI w A (SS l)))(K:l.length<=9223372036854775807)(F:eM l=0)(D:l.length<=1000):
  Θ 6 #[(V A l c),bT] w λe H=>∃ (bs:Nat) (A1:Δ) (q B:Nat) (A2:Δ) (r u U:Nat) (Am:Δ) (t:Nat),e = .returned (.tuple #[(Z bs 0),(C 0)])/\aN [] w [aD bs 68 [(V A1 l q),bT,(C 1),(Y 1),(V Am (bB 1 (cH (bO l))) t),bF,bF,(Z B 0),bF,nS,nS],cS A1 l q,aD B 113 [(V A2 l r),(Y 4),(Y 4),(.map (some u)),(.map (some U))],cS A2 l r,aP u ([]),aP U ([]),cB Am (bB 1 (cH (bO l))) t] H:=by
 refine bS Tryz.func6 42 (B3 w) rfl<|Nc<|G rfl<|Ne<|G rfl<|R<|bV (λw a=>zA A c l w (z.aX a) (o.aX a) U ag U)<|G rfl<|Nb<|G rfl<|lF<|Nn<|aF<|G rfl<|M O1<|R<|EN (λw a=>MB A c l 4 4 w (o.aX a) U (by decide) ag) λd A222 s x y=>G I<|Ne<|G I<|lF<|Nn ?_
 have m:=(uB F).2
 have i:=m.1
 have n:=rJ (nA i).all
 rw [mA] at n
 refine aF<|G rfl<|R<|dC (λw a=>uH A c l w (o.aX a) U) λB29 g=>G I<|M (.agg #[(V B29 l g),bT,(C 2),(C 0),nS,bF,bF,(Z d 0),bF,nS,nS])<|R<|pB _ λb=>G I<|Nf<|aT ?_
 refine xd ?_
 refine aF<|G rfl<|Nt<|aF<|G rfl<|R<|Ci (λw a=>Dg A c l w (z.aX a) (o.aX a) ag U) λXs37 k=>R<|dC (λw a=>Mf Xs37 _ w (a.aR (j:=6) I η) (nA i) (mA l) (k)) λA38 p=>R<|dC (λw a=>Gw 1 A38 p _ w (a.aR (j:=7) I (λ_ h=>aI.bM h)) U U) λA239 f=>R<|eF [5] (λw a E=>zF b _ bT _ _ nS bF bF _ bF nS nS 1 A239 ((bB 1 (cH (bO l))).length) f w E)<|Nf ?_
 refine xd ?_
 exact aF<|G rfl<|Nd<|sN [_,_] λw a=>⟨b,B29,_,_,_,_,_,_,_,_,I,(a.pick [5,4,0,1,2,3,8] I I)⟩
theorem GO(A c l w)(u:Rf [] w (eG))(j:Rf [] w (λw=>aI w A (SS l)))(y:l.length<=9223372036854775807)(t:eM l=0)(s:l.length<=1000):
  Θ 6 #[(V A l c),bF] w λe x=>∃ (bs:Nat) (A1:Δ) (k r:Nat) (A2:Δ) (m o U:Nat),e = .returned (.tuple #[(Z bs 0),(C 0)])/\aN [] w [aD bs 68 [(V A1 l k),bF,(C 2),(C 0),nS,bF,bF,(Z r 0),bF,nS,nS],cS A1 l k,aD r 113 [(V A2 l m),(Y 4),(Y 4),(.map (some o)),(.map (some U))],cS A2 l m,aP o ([]),aP U ([])] x:=by
 refine bS Tryz.func6 42 (B3 w) rfl<|Nc<|G rfl<|Ne<|G rfl<|R<|bV (λw a=>zA A c l w (u.aX a) (j.aX a) U ag U)<|G rfl<|Nb<|G rfl<|lF<|Nn<|aF<|G rfl<|M O1<|R<|EN (λw a=>MB A c l 4 4 w (j.aX a) U (by decide) ag) λb A222 n p q=>G I<|Ne<|G I<|lF<|Nn ?_
 have f:=(uB t).2
 have i:=f.1
 have g:=rJ (nA i).all
 rw [mA] at g
 refine aF<|G rfl<|R<|dC (λw a=>uH A c l w (j.aX a) U) λB29 d=>G I<|M (.agg #[(V B29 l d),bF,(C 2),(C 0),nS,bF,bF,(Z b 0),bF,nS,nS])<|R<|pB _ λh=>G I<|Nf<|aT ?_
 refine xd ?_
 exact aF<|G rfl<|Nn<|aF<|G rfl<|Nd<|sN [_,_] λw a=>⟨h,B29,_,_,_,_,_,_,I,(a.pick [5,4,0,1,2,3] I I)⟩
abbrev M5(a:Nat):Value:=.bool ((((a:Nat):Int):Int) == 4)
abbrev K1(a:Nat):Value:=.bool ((((a:Nat):Int):Int) == 5)
theorem zG(bs d f g h i j l a k Am c)(m:Γ)(b w)(o:cC [aD bs 68 [d,f,(C 1),(Y k),(V Am m c),g,h,i,j,l,a]] w)(q:m.length<=b)(r:k≠4/\k≠5):
  Θ 9 #[(Z bs 0),(Y b)] w λe p=>e = .returned (.tuple #[(V Am m c),(C 0)])/\aN [aD bs 68 [d,f,(C 1),(Y k),(V Am m c),g,h,i,j,l,a]] w [aD bs 68 [d,f,(C 2),(Y k),nS,g,h,i,j,l,a]] p:=by
 refine bS AD0 56 (o) I<|Nc<|G I<|Nf<|fY<|Nc<|G I<|M (C8 b)<|G I<|Na<|fD I si<|Nc<|G I<|M (Z bs 0)<|M (Z bs 2)<|lL 0 I<|lF<|G I<|Np<|aF<|G I<|M (Z bs 0)<|M (Z bs 2)<|lL 0 I ?_
 refine lF<|G I<|Np<|aF<|G I<|M (Z bs 0)<|M (Z bs 4)<|lL 0 I<|M (B4 m)<|G I<|M (.bool (decide ((m.length:Int) > ((b:Nat):Int))))<|G I<|Na<|fD I (by grind)<|Nw<|Nc<|G I<|M (Z bs 0)<|M (Z bs 4)<|lL 0 I<|G I<|Nb<|G I<|M (Z bs 0) ?_
 refine M (Z bs 4)<|R<|pS 0 I<|Nb<|G I<|M (Z bs 0)<|M (Z bs 2)<|R<|pS 0 I<|Ne<|G I<|M (Z bs 0)<|M (Z bs 3)<|lL 0 I<|M (M5 k)<|lm ?_
 exact St.known 45 (b':=false) I (by grind)<|G rfl<|lg (Z bs 0)<|lg (Z bs 3)<|lu _ (bW 0 rfl rfl J rfl rfl)<|lg (K1 k)<|M (K1 k)<|Na<|fD rfl (by grind)<|Ni<|G rfl<|Nd<|sN [_,_] λw n=>⟨I,n⟩
theorem WC(bs d f g h i j l a k Am c)(m:Γ)(b w)(o:cC [aD bs 68 [d,f,(C 1),(Y k),(V Am m c),g,h,i,j,l,a]] w)(q:m.length<=b)(r:k=4):
  Θ 9 #[(Z bs 0),(Y b)] w λe p=>e = .returned (.tuple #[(V Am m c),(C 0)])/\aN [aD bs 68 [d,f,(C 1),(Y k),(V Am m c),g,h,i,j,l,a]] w [aD bs 68 [d,f,(C 0),(Y k),nS,g,h,i,j,l,a]] p:=by
 refine bS AD0 56 (o) I<|Nc<|G I<|Nf<|fY<|Nc<|G I<|M (C8 b)<|G I<|Na<|fD I si<|Nc<|G I<|M (Z bs 0)<|M (Z bs 2)<|lL 0 I<|lF<|G I<|Np<|aF<|G I<|M (Z bs 0)<|M (Z bs 2)<|lL 0 I ?_
 refine lF<|G I<|Np<|aF<|G I<|M (Z bs 0)<|M (Z bs 4)<|lL 0 I<|M (B4 m)<|G I<|M (.bool (decide ((m.length:Int) > ((b:Nat):Int))))<|G I<|Na<|fD I (by grind)<|Nw<|Nc<|G I<|M (Z bs 0)<|M (Z bs 4)<|lL 0 I<|G I<|Nb<|G I<|M (Z bs 0) ?_
 refine M (Z bs 4)<|R<|pS 0 I<|Nb<|G I<|M (Z bs 0)<|M (Z bs 2)<|R<|pS 0 I<|Ne<|G I<|M (Z bs 0)<|M (Z bs 3)<|lL 0 I<|M (M5 k)<|lm ?_
 exact St.known 45 (b':=true) I (by grind)<|G rfl<|lT<|Nt<|aF<|G rfl<|M (Z bs 0)<|M (Z bs 2)<|R<|pS 0 rfl<|Nb<|G rfl<|Nd<|sN [_,_] λw n=>⟨I,n⟩
theorem MF(bs d f g h i j l a k Am c)(m:Γ)(b w)(o:cC [aD bs 68 [d,f,(C 1),(Y k),(V Am m c),g,h,i,j,l,a]] w)(q:m.length<=b)(r:k=5):
  Θ 9 #[(Z bs 0),(Y b)] w λe p=>e = .returned (.tuple #[(V Am m c),(C 0)])/\aN [aD bs 68 [d,f,(C 1),(Y k),(V Am m c),g,h,i,j,l,a]] w [aD bs 68 [d,f,(C 0),(Y k),nS,g,h,i,j,l,a]] p:=by
 refine bS AD0 56 (o) I<|Nc<|G I<|Nf<|fY<|Nc<|G I<|M (C8 b)<|G I<|Na<|fD I si<|Nc<|G I<|M (Z bs 0)<|M (Z bs 2)<|lL 0 I<|lF<|G I<|Np<|aF<|G I<|M (Z bs 0)<|M (Z bs 2)<|lL 0 I ?_
 refine lF<|G I<|Np<|aF<|G I<|M (Z bs 0)<|M (Z bs 4)<|lL 0 I<|M (B4 m)<|G I<|M (.bool (decide ((m.length:Int) > ((b:Nat):Int))))<|G I<|Na<|fD I (by grind)<|Nw<|Nc<|G I<|M (Z bs 0)<|M (Z bs 4)<|lL 0 I<|G I<|Nb<|G I<|M (Z bs 0) ?_
 refine M (Z bs 4)<|R<|pS 0 I<|Nb<|G I<|M (Z bs 0)<|M (Z bs 2)<|R<|pS 0 I<|Ne<|G I<|M (Z bs 0)<|M (Z bs 3)<|lL 0 I<|M (M5 k)<|lm ?_
 exact St.known 45 (b':=false) I (by grind)<|G rfl<|lg (Z bs 0)<|lg (Z bs 3)<|lu _ (bW 0 rfl rfl J rfl rfl)<|lg (K1 k)<|M (K1 k)<|Na<|lG rfl (by grind)<|aF<|G rfl<|M (Z bs 0)<|M (Z bs 2)<|R<|pS 0 rfl<|Nb<|G rfl<|Nd<|sN [_,_] λw n=>⟨I,n⟩
theorem GP(bs g h i j l n o d k Am f)(m:Γ)(b w)(c:Rf [] w (λw=>At w bs 68 [g,h,(C 1),(Y k),(V Am m f),i,j,l,n,o,d]))(q:b < m.length):
  Θ 9 #[(Z bs 0),(Y b)] w λe p=>e = .returned (.tuple #[nS,(C 10)])/\aN [] w [] p:=by
 refine bS AD0 56 (B3 w) rfl<|Nc<|G rfl<|Nf<|fY<|Nc<|G rfl<|M (C8 b)<|G rfl<|Na<|fD rfl si<|Nc<|G rfl<|M (Z bs 0)<|M (Z bs 2)<|lW (rW (λw a=>At.cell (c.now a) 2))<|lF<|G rfl<|Np<|aF<|G rfl<|M (Z bs 0)<|M (Z bs 2)<|lW (rW (λw a=>At.cell (c.now a) 2)) ?_
 exact lF<|G rfl<|Np<|aF<|G rfl<|M (Z bs 0)<|M (Z bs 4)<|lW (rW (λw a=>At.cell (c.now a) 4))<|M (B4 m)<|G rfl<|M (.bool (decide ((m.length:Int) > ((b:Nat):Int))))<|G rfl<|Na<|lG rfl (by grind)<|Nc<|G rfl<|Nd<|eL<|cJ<|sN [nS,(C 10)] λw a=>⟨I,a⟩
theorem MG(bs f g h i j k l m n c b w)(d:Rf [] w (λw=>At w bs 68 [f,g,(C 0),h,i,j,k,l,m,n,c])):
  Θ 9 #[(Z bs 0),(Y b)] w λe o=>e = .returned (.tuple #[nS,(C 4)])/\aN [] w [] o:=by
 refine bS AD0 56 (B3 w) rfl<|Nc<|G rfl<|Nf<|fY<|Nc<|G rfl<|M (C8 b)<|G rfl<|Na<|fD rfl si<|Nc<|G rfl<|M (Z bs 0)<|M (Z bs 2)<|lW (rW (λw a=>At.cell (d.now a) 2))<|lT<|G rfl<|No<|G rfl<|Nd<|eL<|cJ<|sN [nS,(C 4)] λw a=>?_
 exact ⟨I,a⟩
theorem WD(bs k l m n o p q r g An c needs w)(f:Rf [] w (λw=>At w bs 68 [k,l,m,n,o,p,q,r,bT,(V An needs c),g]))(i:Rf [] w (λw=>aI w An (SS needs)))(d:needs.length<=4294967296):
  Θ 15 #[(Z bs 0)] w λe j=>∃ (B:Δ) (cb:Nat),e = .returned (V B needs cb)/\aN [] w [cS B needs cb] j:= by
 have _u0:=f
 have _u1:=i
 have _u2:=d
 clear _u0 _u1 _u2
 refine wG (args:=[(Z bs 0)]) (yD []) Tryz.func15 I 24 I [(0,(Z bs 0))] ⟨I,trivial⟩ [] (B3 w) ?_
 refine aT (aF ?_)
 refine la ?_
 refine aO (aJ (aT (aT (aF ?_))))
 refine lm ?_
 refine lc (Z bs 0) ?_
 refine lc (Z bs 8) ?_
 refine lv (v:=L7) (gN I I (by kernel_rfl) (λw b=>At.cell (f.now b) 8)) ?_
 refine lm ?_
 refine lnT ?_
 refine lnT ?_
 refine lnT ?_
 refine lnT ?_
 refine lnT ?_
 refine lc L7 ?_
 refine aO (aJ (nR I (aT (aF ?_))))
 refine lm ?_
 refine lc (Z bs 0) ?_
 refine lc (Z bs 9) ?_
 refine lv (v:=(V An needs c)) (gN I I (by kernel_rfl) (λw b=>At.cell (f.now b) 9)) ?_
 refine li I ?_
 refine iR (λw b=>(uH An c needs w (i.aX b) (by omega)).mono ?_)
 rintro e j ⟨B18,a,rfl,h⟩
 refine ⟨_,_,I,h,?_⟩; clear h b
 refine la ?_
 refine aO (aJ (gW (cJ ?_)))
 refine dL [(V B18 needs a)] I ⟨I,trivial⟩ (λw b=>?_)
 exact ⟨B18,a,I,b⟩
abbrev F7(a b c):=V a (aH [] b) c
theorem Bj(bs m n o p q r s t h d A c)(its:List Γ)(f U:Nat)(S:List Γ)(w:Λ)(g:Rf [] w (λw=>At w bs 68 [m,n,o,p,q,r,s,(Z d 0),bF,t,h]))(k:Rf [] w (λw=>At w d 113 [(V A its c),(Y 4),(Y 4),(.map (some f)),(.map (some U))]))(l:Rf [] w (λw=>hF w f S))(u:S.length<=1099511627776):
  Θ 15 #[(Z bs 0)] w λe j=>∃ (B:Δ) (cb:Nat),e = .returned (V B (aH [] S) cb)/\aN [] w [cS B (aH [] S) cb] j:=by
 refine eO Tryz.func15 24 (B3 w) rfl<|Nc<|G rfl<|Ne<|G rfl<|M (Z bs 0)<|M (Z bs 8)<|lW (rW (λw a=>At.cell (g.now a) 8))<|G I<|lg (Z bs 0)<|lg (Z bs 7) ?_
 refine lu (Z d 0) (gN I I J (λw a=>At.cell (g.now a) 7))<|lg bF<|lF<|Nn<|aF ?_
 refine G I<|M (Z bs 0)<|M (Z bs 7) ?_
 refine lW (rW (λw a=>At.cell (g.now a) 7)) ?_
 refine R ?_
 refine iR (λw a=>(Wz d A c its 4 4 f U S w (k.aX a) (l.aX a) (by omega)).mono ?_)
 rintro e j ⟨B23,b,rfl,i⟩
 refine ⟨_,_,I,i,?_⟩; clear i a
 exact G I<|Nd<|sN [(F7 B23 S b)] λw a=>⟨B23,b,I,a⟩
theorem WE(bs j k l m n o p q r Ao c offs w)(f:Rf [] w (λw=>At w bs 68 [j,k,l,m,n,o,p,q,bT,r,(V Ao offs c)]))(h:Rf [] w (λw=>aI w Ao (SS offs)))(d:offs.length<=4294967296):
  Θ 16 #[(Z bs 0)] w λe i=>∃ (B:Δ) (cb:Nat),e = .returned (V B offs cb)/\aN [] w [cS B offs cb] i:= by
 have _u0:=f
 have _u1:=h
 have _u2:=d
 clear _u0 _u1 _u2
 refine wG (args:=[(Z bs 0)]) (yD []) Tryz.func16 I 24 I [(0,(Z bs 0))] ⟨I,trivial⟩ [] (B3 w) ?_
 refine aT (aF ?_)
 refine la ?_
 refine aO (aJ (aT (aT (aF ?_))))
 refine lm ?_
 refine lc (Z bs 0) ?_
 refine lc (Z bs 8) ?_
 refine lv (v:=L7) (gN I I (by kernel_rfl) (λw b=>At.cell (f.now b) 8)) ?_
 refine lm ?_
 refine lnT ?_
 refine lnT ?_
 refine lnT ?_
 refine lnT ?_
 refine lnT ?_
 refine lc L7 ?_
 refine aO (aJ (nR I (aT (aF ?_))))
 refine lm ?_
 refine lc (Z bs 0) ?_
 refine lc (Z bs 10) ?_
 refine lv (v:=(V Ao offs c)) (gN I I (by kernel_rfl) (λw b=>At.cell (f.now b) 10)) ?_
 refine li I ?_
 refine iR (λw b=>(uH Ao c offs w (h.aX b) (by omega)).mono ?_)
 rintro e i ⟨B18,a,rfl,g⟩
 refine ⟨_,_,I,g,?_⟩; clear g b
 refine la ?_
 refine aO (aJ (gW (cJ ?_)))
 refine dL [(V B18 offs a)] I ⟨I,trivial⟩ (λw b=>?_)
 exact ⟨B18,a,I,b⟩
theorem Bk(bs m n o p q r s t g d A c)(its:List Γ)(i U:Nat)(S:List Γ)(w:Λ)(f:Rf [] w (λw=>At w bs 68 [m,n,o,p,q,r,s,(Z d 0),bF,t,g]))(k:Rf [] w (λw=>At w d 113 [(V A its c),(Y 4),(Y 4),(.map (some i)),(.map (some U))]))(l:Rf [] w (λw=>hF w U S))(u:S.length<=1099511627776):
  Θ 16 #[(Z bs 0)] w λe j=>∃ (B:Δ) (cb:Nat),e = .returned (V B (aH [] S) cb)/\aN [] w [cS B (aH [] S) cb] j:=by
 refine eO Tryz.func16 24 (B3 w) rfl<|Nc<|G rfl<|Ne<|G rfl<|M (Z bs 0)<|M (Z bs 8)<|lW (rW (λw a=>At.cell (f.now a) 8))<|G I<|lg (Z bs 0)<|lg (Z bs 7) ?_
 refine lu (Z d 0) (gN I I J (λw a=>At.cell (f.now a) 7))<|lg bF<|lF<|Nn<|aF ?_
 refine G I<|M (Z bs 0)<|M (Z bs 7) ?_
 refine lW (rW (λw a=>At.cell (f.now a) 7)) ?_
 refine R ?_
 refine iR (λw a=>(WA d A c its 4 4 i U S w (k.aX a) (l.aX a) (by omega)).mono ?_)
 rintro e j ⟨B23,b,rfl,h⟩
 refine ⟨_,_,I,h,?_⟩; clear h a
 exact G I<|Nd<|sN [(F7 B23 S b)] λw a=>⟨B23,b,I,a⟩
abbrev P9(a:Nat)(b:Rd):Value:=.bool (decide (((a:Nat):Int) < (((b.cnt (b.bP 16384)).1:Nat):Int)))
abbrev N3(a:Rd)(b:Nat):=[(vS ((((a.cnt (a.bP 16384)).2.cK b).2).sum.1))]
abbrev J0(a:Rd)(b:Nat):=[(((a.cnt (a.bP 16384)).2.cK b).2).sum.1]
theorem Du(X br r w)(f:cC [bH X br (r)] w)(l:(r.items 16384).1.Pairwise (· < ·)):
  Θ 139 #[(Z br 0)] w λe P=>∃ (B:Δ) (cb:Nat),e = .returned (.tuple #[(.slice B ((r.items 16384).1.length) (cb)),bT])/\aN [bH X br (r)] w [bH X br ((r.items 16384).2),bD 9 1 B ((r.items 16384).1.length) (cb) (SS (r.items 16384).1)] P:=by
 refine eO Tryz.func139 40 (f) rfl<|Nc<|G rfl<|Nf<|St.fact (λw b=>(b.at (i:=0) (c:=bH X br r) I).2.len) (λN=>aF<|G rfl<|R<|eF [0] (λw b f=>oD X br r w f)<|lw (Q8 r) (vJ I I I U U)<|lw (Y (r.bP 16384)) (Ce I I I) ?_)
 have K:r.bP 16384<=16384:=AD9 _ _
 refine R<|eF [0] (λw b f=>CQ X br r (r.bP 16384) w f U) ?_
 have H:=r.xP (r.bP 16384)
 refine G I<|Nb<|G rfl<|R<|CR gD ((r.cnt (r.bP 16384)).1) U rfl rfl J rfl rfl (λg=>G I<|Ne<|G rfl<|Ng<|sL (λ(i,AX,d)=>i<=(r.cnt (r.bP 16384)).1) (λ(i,AX,d)=>(r.cnt (r.bP 16384)).1 - i) (λ(i,AX,d)=>[(0,(Z br 0)),(2,nS),(3,bF),(15,(Y ((r.cnt (r.bP 16384)).1))),(5,(V AX (((r.cnt (r.bP 16384)).2.cK i).1) d)),(16,(Y i))]) (λ(i,AX,d)=>[bH X br (((r.cnt (r.bP 16384)).2.cK i).2),cS AX (((r.cnt (r.bP 16384)).2.cK i).1) d]) (0,(qa g),((r.cnt (r.bP 16384)).1)) (G6 _) (λw b=>by show Mm _ _ [bH X br (((r.cnt (r.bP 16384)).2.cK 0).2),cS (qa g) (((r.cnt (r.bP 16384)).2.cK 0).1) (((r.cnt (r.bP 16384)).1))] w; exact b) ?_) U
 rintro ⟨i,AX,d⟩ (L:i<=(r.cnt (r.bP 16384)).1)
 dsimp only
 refine Nc<|M (P9 i r) ?_
 refine χ I (λo=>?_) λo=>?_
 .have t:i < (r.cnt (r.bP 16384)).1:=U
  refine Nm<|aF<|G rfl<|Nb<|G rfl<|R<|eF [0] (λw b f=>wX X br (((r.cnt (r.bP 16384)).2.cK i).2) w f)<|R<|pN 1 9 (N3 r i) λF=>R<|cL gD 1 ((N3 r i)) rfl rfl J rfl rfl rfl (rfl) (fE (i:=2) rfl yy) (by simp [Value.oneCell']) (by rw [Rd.uM]; omega) ((((r.cnt (r.bP 16384)).2.cK i).1++(J0 r i)).length) dV (SS (((r.cnt (r.bP 16384)).2.cK i).1++(J0 r i))) (by simp [SS]) (λA23 h=>G I<|Nf ?_)
  rw [show ((r.cnt (r.bP 16384)).2.cK i).1++(J0 r i)=((r.cnt (r.bP 16384)).2.cK (i+1)).1 from I]
  rw [show (((r.cnt (r.bP 16384)).2.cK i).2).sum.2=((r.cnt (r.bP 16384)).2.cK (i+1)).2 from I]
  have O:(((r.cnt (r.bP 16384)).2.cK (i+1)).1).length=i+1:=Rd.uM _ _
  refine dN _ 14 J η ?_
  refine am 0 ?_
  refine aC 1 (D0 i) I ?_
  refine am 2 ?_
  refine Any.dec 26 I (λa=>?_) (λa=>?_)
  .have p:=D4 a
   refine fQ 3 ?_
   refine fQ 4 ?_
   refine aW 5 (Q6 i) I (jT _ I I I U U U) ?_
   obtain ⟨A,q⟩:∃ E,(((r.cnt (r.bP 16384)).2.cK (i+1)).1)[i - 1]?=some E:=⟨_,E1 U⟩
   refine Any.fC (λw b=>fM (i:=1) I w b) (fR q) (λu y j m=>aW 6 (Z u (y+(i - 1))) I (qF (e:=9) I J J I I j U)<|aW 7 (vS A) I (gN I I J m)<|fQ 8 ?_)
   refine fQ 9 ?_
   obtain ⟨D,s⟩:∃ E,(((r.cnt (r.bP 16384)).2.cK (i+1)).1)[i]?=some E:=⟨_,E1 U⟩
   exact Any.fC (λw b=>fM (i:=1) I w b) (fR s) (λx z k n=>aW 10 (Z x (z+i)) I (qF (e:=9) I J J I I k U)<|aW 11 (vS D) I (gN I I J n)<|aW 12 (.bool (!decide (A < D))) I (tS I I I)<|aC 13 (.bool (!decide (A < D))) I<|cG J<|aJ<|fD I (by simpa using WB l t (by have:=a; simp at this; omega) q s)<|Nw<|aF<|lw (Y (i+1)) bN<|G I<|aO (aJ (sA (i+1,A23,h) oz (by show (r.cnt (r.bP 16384)).1 - (i+1) < (r.cnt (r.bP 16384)).1 - i; omega) (κ [0,1] I I))))
  .have p:=C7 a
   refine bR 3 ?_
   refine bR 4 ?_
   refine bR 5 ?_
   refine bR 6 ?_
   refine bR 7 ?_
   refine bR 8 ?_
   refine bR 9 ?_
   refine bR 10 ?_
   refine bR 11 ?_
   refine bR 12 ?_
   exact aC 13 bF I<|cG J<|aJ<|oO I<|Nw<|aF<|lw (Y (i+1)) bN<|G I<|aO (aJ (sA (i+1,A23,h) oz (by show (r.cnt (r.bP 16384)).1 - (i+1) < (r.cnt (r.bP 16384)).1 - i; omega) (κ [0,1] I I)))
 .obtain rfl:i=(r.cnt (r.bP 16384)).1:=U
  rw [show (r.cnt (r.bP 16384)).2.cK (r.cnt (r.bP 16384)).1=r.items 16384 from I]
  exact Nj<|aF<|G rfl<|Nd<|sN [(V AX ((r.items 16384).1) d),bT] λw b=>⟨AX,d,I,b⟩
section
section
variable {P:Program}{Q:Exit -> Act -> World -> Prop}{n:Nat}{w0:World}{F:List Nat}{E:eH}{cs:List Ch}{c:Code}
theorem GQ(k)(h:St n w0 F E cs (Code.rounds P c Q k)):St n w0 F E cs ((Code.loop c).wp P Q):=λa w d b=>wp_loop_rounds k (h a w d b)
theorem rL{k:Nat}(h:St n w0 F E cs (c.wp P (Exit.then (Code.rounds P c Q k) Q))):St n w0 F E cs (Code.rounds P c Q (k+1)):=h
end
def fO(its:List Bs)(n:Nat):Bs:=aE 2++(eI its++pP (fZ its n))
def kQ(offs needs:List Bs):Bs:=aE 4++((aE offs.length++offs.flatten)++(aE needs.length++needs.flatten))
theorem GR(h:(fZ its n).enc.length<=200000):(fO its n).length<=200100:=by
 have a:=eY 2 U
 have b:=eY (fZ its n).enc.length U
 grind [eI,uO,fO,pP]
theorem vV(h:∀ x∈l,x.length=32):l.flatten.length=l.length*32:=by
 induction l with
 | nil=>rfl
 | cons x l a =>
   grind
theorem WG(f:∀ x∈offs,x.length=32)(g:∀ x∈needs,x.length=32)(h:offs.length<=3072)(i:needs.length<=3072):(kQ offs needs).length<=200000:=by
 have a:=vV f
 have b:=vV g
 have c:=eY 4 U
 have d:=eY offs.length U
 have e:=eY needs.length U
 grind [kQ]
theorem GS(h:l[i]?=some x):(l.take (i+1)).flatten=(l.take i).flatten++x:=by
 grind [List.take_add_one]
theorem GU(i):(l.take i).flatten.length<=l.flatten.length:=by
 grind [List.take_append_drop]
theorem MH(h:t.seed=0):kH t t.cells.length 0=true:=by simp [kH,h]
theorem Bl{print:Bs}(h:nM its t print=some (offs,needs)):((fZ its t.cells.length).sub t).keys=some (offs,needs)/\iX its needs offs=true/\eM (gG its offs needs)=0/\eI (gG its offs needs)=print:=by
 unfold nM at h
 grind
abbrev F4(a:Rd):Value:=.bool ((a.rest.2.end_:Int) != 0)
abbrev J5(a:Rd):Value:=.bool (!(eS a.rest.1).isSome)
theorem WH(bs A c its q O P Q s t u x y g X br r ts)(k n:Nat)(w:Λ)(d:cC [aD bs 68 [(V A its c),q,O,P,Q,s,t,u,x,y,g],bH X br (r)] w)(S:Rf [aD bs 68 [(V A its c),q,O,P,Q,s,t,u,x,y,g],bH X br (r)] w (eG))(r1:Rf [aD bs 68 [(V A its c),q,O,P,Q,s,t,u,x,y,g],bH X br (r)] w (λw=>aI w A (SS its)))(l:eS r.rest.1=some ts)(K:r.rest.2.end_=0)(p:dD its)(ai:its.length<=40)(o:iA ts (bO its)=k)(hk:k<=500)(ae:kW ((k+k / 2:Nat):Int)=(n:Int))(hz:fI (n:Int)=true):
  Θ 90 #[(Z bs 0),(Z br 0)] w λe w'=>∃ (Am:Δ) (cm:Nat),e = .returned (C 0)/\aN [aD bs 68 [(V A its c),q,O,P,Q,s,t,u,x,y,g],bH X br (r)] w [aD bs 68 [(V A its c),q,(C 1),(Y 2),(V Am (fO its n) cm),s,t,u,x,y,g],bH X br (r.rest.2),cB Am (fO its n) cm] w':=by
 refine bS Tryz.func90 103 (d) I<|Nc<|G I<|Nf ?_
 have F:=p.1
 refine St.fact (λw a=>(a.at (i:=1) (c:=bH X br r) I).2.len) (λan=>?_)
 have ao:=r.qS (r.D.length - r.off)
 refine aF<|G rfl<|R<|eF [1] (λw a d=>oD X br r w d)<|R<|iI [1] (λw a d=>qL X br r (r.D.length - r.off) w d U) λB20 E=>?_
 rw [show r.text (r.D.length - r.off)=r.rest from I]
 refine R<|uX (λw a=>Ba B20 E r.rest.1 w (a.aR (j:=2) I (λ_ h=>aI.bM h)) (by unfold Rd.rest; omega)) λaf Xs21 ah N W=>?_
 obtain ⟨rfl,rfl,b⟩:=N _ l
 have H:(eS r.rest.1).isSome=true:=by rw [l]; rfl
 refine G I<|R<|pA E6 λb5=>R<|dE 4 (eA Xs21) (vs:=(eA Xs21)) I I J I I I (by rw [iY,b]; kernel_rfl) I (by rw [iY,b]; decide) (xB _) (by rw [X5,U6,iY,b]; simp) ?_
 refine G I<|Nf<|aT ?_
 refine xd ?_
 refine aF<|G rfl<|R<|eF [1] (λw a d=>mO X br r.rest.2 w d)<|G I<|Nb<|G I<|M (F4 r)<|lm ?_
 refine St.known 31 (b':=false) I (by rw [K]; simp)<|G I<|lg (J5 r)<|M (J5 r)<|Na<|fD I (by rw [H]; rfl)<|Nl<|dN _ 20 J η<|aV 0 (S7 Xs21) I (gI (eA Xs21) I I J (by rw [iY,b]; kernel_rfl) (cW (i:=4) I yy))<|am 1 ?_
 refine aC 2 (Z bs 0) I<|aC 3 (Z bs 0) I<|al 4 0 ?_
 refine am 7 ?_
 refine aC 8 (Z bs 0) I<|aC 9 (Z bs 0) I<|al 10 0 ?_
 refine aC 11 (Y its.length) I<|aA 5 rfl<|Ci (λw a=>Dg A c its w (S.aX a) (r1.aX a) ag U) λXs41 L=>aQ _ (κ [0,1,2,3,4] I I) η<|aA 6 rfl<|bV (λw a=>Gu Xs21 ts Xs41 (bO its) w (S.aX a) (a.aR (j:=3) I η) (a.aR (j:=5) I η) ((oV l).2) ((oV l).1) (b) (nA F) (mA its) (L)) ?_
 refine xd ?_
 refine aQ _ η η<|aA 12 rfl<|bV (λw a=>Ma (iA ts (bO its)) its.length w (by rw [o]; exact hk))<|aQ _ η η<|am 13 ?_
 refine aC 14 (C 1) I<|aC 15 (.int .i64 (kW (((iA ts (bO its))+(iA ts (bO its)) / 2:Nat):Int))) I<|aC 16 (C 0) I<|aa 17 ?_
 refine aa 18 ?_
 refine aa 19 ?_
 refine cG J<|aJ<|aT<|aT ?_
 rw [show iA ts (bO its)=k from o]
 rw [ae]
 refine aF<|G I<|lF<|Nn<|Nc<|G I<|lF<|Nn ?_
 have aj:n<=3072:=(jQ hz).2.1
 refine aF<|G rfl<|M (Z bs 0)<|M (Z bs 0)<|lL 0 rfl<|G rfl<|R<|gT (λw a=>Gr A c its n w (S.aX a) (r1.aX a) ag ag U) λX65=>G I<|Ne<|G rfl<|lF<|Nn<|aF<|G rfl<|M (Z bs 0)<|M (Z bs 0)<|lL 0 rfl<|R<|bV (λw a=>zA A c its w (S.aX a) (r1.aX a) U (qJ U p) U)<|G I<|Ne<|G I<|lF ?_
 refine Nn<|aF<|R<|gT (λw a=>Db  w ) λf=>G I<|Nf ?_
 refine xd ?_
 refine St.mem (λw a=>a.gB 5 1) ?_
 refine xd ?_
 have ab:(fZ its n).enc.length<=200000:=wP (rI F n) (by rw [jW]; omega) _
 have ad:(eI its).length=32:=uO _
 have ak:=eY 2 U
 refine aF<|G rfl<|R<|iT [7,8] (λw a d=>zD f none 0 bG 2 w d U (by decide)) λA284 z=>Nb<|G rfl<|R<|iT [7,8] (λw a d=>AZ f A284 z (bG++aE 2) (eI its) w d (ad) (by simp only [C3,W7,bG] at *; omega)) λA287 B=>Nb<|G rfl<|R<|dC (λw a=>KR X65 (fZ its n) w (a.aR (j:=6) I η)) λA90 T=>R<|iT [7,8] (λw a d=>LW f A287 B ((bG++aE 2)++(eI its)) A90 T ((fZ its n).enc) w d (a.fX [7,8] (j:=9) I (λ_ h=>aI.bM h)) U (by simp only [C3,W7,bG] at *; omega)) λA291 D=>?_
 rw [show ((bG++aE 2)++(eI its))++aE ((fZ its n).enc).length++((fZ its n).enc)=fO its n from by simp [fO,pP,bG]]
 refine Nf ?_
 refine xd ?_
 exact aF<|G rfl<|R<|iT [7,8] (λw a d=>Dc f A291 D (fO its n) w d (by have h9:=GR (its:=its) (n:=n) ab; omega)) λA294 m=>G I<|Ne<|G rfl<|lF<|Nn<|aF<|G rfl<|R<|eF [0] (λw a d=>zF bs (V A its c) q O P Q s t u x y g 2 A294 ((fO its n).length) m w d)<|Nb<|G rfl<|Nd<|sN [(C 0)] λw a=>⟨A294,m,I,(a.pick [0,1,10] I I)⟩
abbrev P3(a b c:List (List UInt8))(d:List UInt8):Value:=.bool (decide ((eI (gG a b c))=d))
theorem WI(bs A c its P Q S T W v6 v7 v8 v9 r X t print offs needs w)(H:Rf [] w (eG))(K:Rf [] w (λw=>At w bs 68 [(V A its c),P,Q,S,T,W,v6,v7,v8,v9,r]))(L:Rf [] w (λw=>aI w A (SS its)))(O:Rf [] w (λw=>(cT X t).holds w))(hz:fI (t.cells.length:Int)=true)(D:t.seed=0)(g:dD its)(ae:its.length<=40)(aj:t.cells.length<=600)(hd:nM its t print=some (offs,needs))(af:offs.Pairwise (· < ·)):
  Θ 135 #[(Z bs 0),(Z X.bt 0),(vS print)] w λe w'=>∃ (Ao:Δ) (co:Nat) (An:Δ) (cn:Nat),e = .returned (.tuple #[(V Ao offs co),(V An needs cn),bT])/\aN [] w [bI Ao (SS offs),bI An (SS needs)] w':=by
 refine kN Tryz.func135 94 (B3 w) I<|Nc<|G I<|Nf ?_
 have ad:=g.1
 have hs:=g.2
 obtain ⟨hk,u,ai,x⟩:=Bl hd
 have y:=vN hk
 rw [mM (by rw [jW]),jW] at y
 refine dN [] 12 J η ?_
 refine am 0 ?_
 refine aC 1 (Z bs 0) I<|aC 2 (Z bs 0) rfl<|aV 3 _ rfl (rW (λw a=>At.cell (K.now a) 0))<|am 4 ?_
 refine aA 5 I<|bV (λw a=>AB X t w (O.aX a))<|aQ _ η η<|aA 6 rfl<|gT (λw a=>Gr A c its t.cells.length w (H.aX a) (L.aX a) ag ag U) λX25=>aQ _ (κ [] I I) η<|am 7 ?_
 refine aC 8 (Z X25.bt 0) I<|aC 9 (C 0) I<|aa 10 ?_
 refine aa 11 ?_
 refine cG J<|aJ<|aT<|aT ?_
 refine xd ?_
 refine aF<|G rfl<|lF<|Nn<|aF<|G rfl<|R<|gT (λw a=>CE X25 (fZ its t.cells.length) X t w (a.aR (j:=0) I η) (O.aX a) (by simp [sV,jW,zC,D])) λZ33=>G I<|Ne<|G rfl<|lF<|Nn<|aF<|G rfl<|R<|qZ (λw a=>FB Z33 ((fZ its t.cells.length).sub t) offs needs w (H.aX a) (a.aR (j:=1) I η) ag) λA140 b A240 d=>G I<|Ne<|G rfl<|lF<|G rfl<|dP rfl rfl<|bV (λw a=>Di bs A c its P Q S T W v6 v7 v8 v9 r A240 d needs A140 b offs w (K.aX a) (L.aX a) (a.aR (j:=3) I (λ_ h=>kO h)) (a.aR (j:=2) I (λ_ h=>kO h)) ag U U U) ?_
 refine lg (.bool (!(iX its needs offs)))<|M (.bool (!(iX its needs offs)))<|Na<|fD rfl (by rw [u]; rfl)<|Ni<|G rfl<|Ne<|G rfl<|M (Z bs 0)<|M (Z bs 0)<|lW (rW (λw a=>At.cell (K.now a) 0))<|M (Y its.length)<|G rfl<|Ng<|St.mem (λw a=>a.gB 9 1)<|sL (λ(i,B,k)=>i<=its.length) (λ(i,B,k)=>its.length - i) (λ(i,B,k)=>[(2,(vS print)),(6,(V A140 offs b)),(7,(V A240 needs d)),(8,bF),(10,(C 0)),(56,(V A its c)),(57,(Y its.length)),(12,(V B (aL (its.take i) offs) k)),(58,(Y i))]) (λ(i,B,k)=>[cT X25 (fZ its t.cells.length),cT Z33 ((fZ its t.cells.length).sub t),bI A140 (SS offs),bI A240 (SS needs),cS B (aL (its.take i) offs) k]) (0,none,0) (G6 _) η ?_
 rintro ⟨i,B,k⟩ (ah:i<=its.length)
 dsimp only
 refine Nc<|M (qb i its.length) ?_
 refine χ I (λq=>?_) λq=>?_
 .refine Nm<|aF ?_
  obtain ⟨m,l⟩:=gk its i U
  refine St.fC (λw a=>L.now a) (fR l) (λE F o p=>lw (Z E (F+i)) (rR 9 o)<|lW (rW p)<|G rfl<|Nb<|G rfl<|R<|bV (λw a=>Dh A140 b offs m w (a.aR (j:=2) I (λ_ h=>kO h)) ag U)<|G I<|Nb<|G I<|M (.bool (!(offs.contains m))) ?_)
  refine qi I (λf=>?_) λf=>?_
  .refine aF<|G rfl<|R<|pN 1 9 [(vS m)] λab=>R<|cL gD 4 ([(vS m)]) rfl rfl J rfl rfl rfl (rfl) (fE (i:=5) rfl yy) (by simp [Value.oneCell']) (by have h:=iN (its.take i) offs; simp only [I8] at h; omega) ((aL (its.take i) offs++[m]).length) dV (SS (aL (its.take i) offs++[m])) (by simp [SS]) (λA73 s=>G I<|Nk<|aF<|lw (Y (i+1)) bN<|G I<|Na ?_)
   rw [show aL (its.take i) offs++[m]=aL (its.take (i+1)) offs from yU l (su f)]
   exact sA (i+1,A73,s) oz oz (κ [0,1,2,3,4] I I)
  .refine Nw<|aF<|lw (Y (i+1)) bN<|G I<|Na ?_
   rw [show aL (its.take i) offs=aL (its.take (i+1)) offs from yV l (su f)]
   exact sA (i+1,B,k) oz oz η
 .obtain rfl:i=its.length:=U
  rw [R0]
  have ak:=iN its offs
  refine Nj<|aF<|G rfl<|R<|cL gD 4 (SS needs) rfl rfl J rfl rfl rfl si (λw a=>eN.gJ (kO (a.at (i:=3) I))) (mJ) U ((aL its offs++needs).length) dV (SS (aL its offs++needs)) (by simp [SS]) (λA77 n=>G I<|Nf ?_)
  refine xd ?_
  have z:(aL its offs++needs).length<=1000:=by rw [C3]; omega
  refine aF<|G rfl<|R<|eF [4] (λw a hO=>LZ A77 n (aL its offs++needs) w hO (by rw [C3]; omega))<|Nf ?_
  rw [show (aL its offs++needs).length=(gG its offs needs).length from (oG _).symm]
  have N:(gG its offs needs).length<=1000:=by unfold gG; rw [oG]; exact z
  exact aF<|G rfl<|R<|bV (λw a=>zA A77 n (gG its offs needs) w (H.aX a) (a.aR (j:=4) I (λ_ h=>kO h)) U ag U)<|G rfl<|Nb<|G rfl<|lT<|G rfl<|lu (P3 its offs needs print) (lQ rfl rfl rfl)<|M (.bool (decide ((eI (gG its offs needs))=print)))<|G rfl<|Nd<|sN [(V A140 offs b),(V A240 needs d),(.bool (decide ((eI (gG its offs needs))=print)))] λw a=>⟨A140,b,A240,d,by rw [x]; simp; rfl,(a.pick [2,3] I I)⟩
abbrev I0(a:BT):Value:=.bool (!(kH a a.cells.length 0))
theorem WJ(bs A c its u L N O y P z Q S o X br r print q1 t offs needs w)(g:cC [aD bs 68 [(V A its c),u,L,N,O,y,P,z,Q,S,o],bH X br (r)] w)(r0:Rf [aD bs 68 [(V A its c),u,L,N,O,y,P,z,Q,S,o],bH X br (r)] w (eG))(r1:Rf [aD bs 68 [(V A its c),u,L,N,O,y,P,z,Q,S,o],bH X br (r)] w (λw=>aI w A (SS its)))(hp:r.sum=(print,q1))(ak:eZ q1.rest.1=some t)(ad:q1.rest.2.end_=0)(aj:t.seed=0)(ao:dD its)(ap:its.length<=40)(a8:t.cells.length<=600)(hd:nM its t print=some (offs,needs))(ar:offs.Pairwise (· < ·))(E:∀ x∈offs,x.length=32)(D:∀ x∈needs,x.length=32):
  Θ 91 #[(Z bs 0),(Z br 0)] w λe w'=>∃ (Ao:Δ) (co:Nat) (An:Δ) (cn:Nat) (Am:Δ) (cm:Nat),e = .returned (C 0)/\aN [aD bs 68 [(V A its c),u,L,N,O,y,P,z,Q,S,o],bH X br (r)] w [aD bs 68 [(V A its c),u,(C 1),(Y 4),(V Am (kQ offs needs) cm),y,bT,z,bT,(V An needs cn),(V Ao offs co)],bH X br (q1.rest.2),bI Ao (SS offs),bI An (SS needs),cB Am (kQ offs needs) cm] w':=by
 refine bS Tryz.func91 100 (g) I<|Nc<|G I<|Nf ?_
 refine aF<|G rfl<|R<|eF [1] (λw f g=>wX X br r w g)<|G I<|Nf ?_
 rw [show r.sum.1=print from by rw [hp]]
 rw [show r.sum.2=q1 from by rw [hp]]
 refine St.fact (λw f=>(f.at (i:=1) I).2.len) (λa3=>?_)
 have a4:=q1.qS (q1.D.length - q1.off)
 refine aF<|G rfl<|R<|eF [1] (λw f g=>oD X br q1 w g)<|R<|iI [1] (λw f g=>qL X br q1 (q1.D.length - q1.off) w g U) λB25 q=>?_
 rw [show q1.text _=q1.rest from I]
 refine R<|gT (λw f=>CF B25 q _ t w (f.aR (j:=2) I (λ_ h=>aI.bM h)) (by unfold Rd.rest; omega) ag) λX26=>?_
 have hz:=(tZ ak).2
 refine G I<|Nf<|aT ?_
 refine xd ?_
 refine aF<|G rfl<|R<|eF [1] (λw f g=>mO X br q1.rest.2 w g)<|G I<|Nb<|G I<|M (F4 q1)<|lm ?_
 refine St.known 36 (b':=false) I (by rw [ad]; simp)<|G rfl<|lg bF<|lF<|G rfl<|dP rfl rfl<|bV (λw f=>AB X26 t w (f.aR (j:=3) I η))<|dP rfl rfl<|bV (λw f=>Dd X26 t _ 0 w (f.aR (j:=3) I η) (hz) (by unfold dA; decide))<|lg (I0 t)<|M (I0 t)<|Na<|fD rfl (by rw [MH aj]; rfl)<|Ni<|G rfl<|R<|qZ (λw f=>WI bs A c its u L N O y P z Q S o X26 t print offs needs w (r0.aX f) (f.aR (j:=0) I η) (r1.aX f) (f.aR (j:=3) I η) ag ag ag ag ag ag ag) λAo51 d An51 b=>G I<|Nf<|aT ?_
 refine xd ?_
 refine aF<|G rfl<|lF<|Nn<|aF<|R<|gT (λw f=>Db  w ) λa=>G I<|Nf<|St.mem (λw f=>f.gB 5 1) ?_
 refine xd ?_
 obtain ⟨hk,aq,a5,ay⟩:=Bl hd
 have af:=vN hk
 rw [mM (by rw [jW]),jW] at af
 have az:=eY 4 U
 have a2:=eY offs.length U
 have a0:=eY needs.length U
 have ax:=vV E
 have aw:=vV D
 refine aF<|G rfl<|R<|iT [6,7] (λw f g=>zD a none 0 bG 4 w g U (by decide)) λA261 W=>Ne<|G rfl<|R<|pN 2 22 [(V Ao51 offs d),(V An51 needs b)] λn=>M (Y 2)<|G I<|Ng<|GQ 3<|rL<|Nc<|lT<|Nf<|nR I<|Nm<|aF<|M (Z n 0)<|lL 8 I<|G I<|Nb<|G I ?_
 refine M (Y offs.length)<|R<|iT [6,7] (λw f g=>AW a A261 W (bG++aE 4) offs.length w g U (by simp only [C3,W7,bG] at *; omega)) λA273 k=>Nb<|G rfl<|M (Y offs.length)<|G rfl<|Ng<|sL (λ(i,AX,p)=>i<=offs.length) (λ(i,AX,p)=>offs.length - i) (λ(i,AX,p)=>[(0,(Z bs 0)),(4,(C 0)),(7,(C 0)),(10,(V Ao51 offs d)),(11,(V An51 needs b)),(13,(Z a 0)),(15,(V Ao51 offs d)),(64,(ql n 2 2)),(65,(Y 2)),(66,(C 0)),(67,bT),(68,(Z n 0)),(69,(V Ao51 offs d)),(70,(Z a 0)),(71,(V Ao51 offs d)),(72,(Y offs.length)),(74,(V Ao51 offs d)),(75,(Y offs.length)),(76,(Y i))]) (λ(i,AX,p)=>[aD bs 68 [(V A its c),u,L,N,O,y,P,z,Q,S,o],bH X br (q1.rest.2),cB B25 (q1.rest.1) q,cT X26 t,bI Ao51 (SS offs),bI An51 (SS needs),aD a 175 [(V AX (((bG++aE 4)++aE offs.length)++(offs.take i).flatten) p),(C 0)],cB AX (((bG++aE 4)++aE offs.length)++(offs.take i).flatten) p,aD n 22 [(V Ao51 offs d),(V An51 needs b)]]) (0,A273,k) (G6 _) (λw f=>by show Mm _ _ [aD bs 68 [(V A its c),u,L,N,O,y,P,z,Q,S,o],bH X br (q1.rest.2),cB B25 (q1.rest.1) q,cT X26 t,bI Ao51 (SS offs),bI An51 (SS needs),aD a 175 [(V A273 (((bG++aE 4)++aE offs.length)++(offs.take 0).flatten) k),(C 0)],cB A273 (((bG++aE 4)++aE offs.length)++(offs.take 0).flatten) k,aD n 22 [(V Ao51 offs d),(V An51 needs b)]] w; rw [show ((bG++aE 4)++aE offs.length)++(offs.take 0).flatten=(bG++aE 4)++aE offs.length from by simp]; exact f) ?_
 rintro ⟨i,AX,p⟩ (ai:i<=offs.length)
 dsimp only
 refine Nc<|M (G0 i offs) ?_
 refine qj I (λm=>?_) λm=>?_
 .have K:=D4 m
  have ah:i < offs.length:=U
  have ae:=GU (l:=offs) i
  refine Nm<|aF ?_
  obtain ⟨x0,s⟩:=gk offs i U
  refine St.fC (λw f=>kO (f.at (i:=4) I)) (fR s) (λT an F H=>lw (Z T _) (rR 9 F)<|lW (rW H)<|G rfl<|Nv<|G rfl<|R<|iT [6,7] (λw f g=>AZ a AX p (((bG++aE 4)++aE offs.length)++(offs.take i).flatten) x0 w g (E _ (F0 s)) (by simp only [C3,W7,bG] at *; omega)) λA282 B=>Nk<|aF<|lw (Y (i+1)) bN<|G I<|Na ?_)
  rw [show (((bG++aE 4)++aE _)++(offs.take i).flatten)++x0=((bG++aE 4)++aE _)++(offs.take _).flatten from by rw [D1,<- GS s]]
  exact sA (i+1,A282,B) oz oz η
 .have K:=C7 m
  obtain rfl:i=offs.length:=U
  rw [R0]
  refine Nr<|kL<|jF<|aJ<|aF<|M (C 1)<|G rfl<|Na<|rL<|Nc<|lT<|Nf<|nR rfl<|Nm<|aF<|M (Z n 1)<|lL 8 rfl<|G rfl<|Nb<|G rfl<|M (Y needs.length)<|R<|iT [6,7] (λw f g=>AW a AX p (((bG++aE 4)++aE offs.length)++offs.flatten) needs.length w g U (by simp only [C3,W7,bG] at *; omega)) λA273 k=>Nb ?_
  refine G I<|M (Y needs.length)<|G rfl<|Ng<|sL (λ(i,AX,p)=>i<=needs.length) (λ(i,AX,p)=>needs.length - i) (λ(i,AX,p)=>[(0,(Z bs 0)),(4,(C 0)),(7,(C 0)),(10,(V Ao51 offs d)),(11,(V An51 needs b)),(13,(Z a 0)),(15,(V An51 needs b)),(64,(ql n 2 2)),(65,(Y 2)),(66,(C 1)),(67,bT),(68,(Z n 1)),(69,(V An51 needs b)),(70,(Z a 0)),(71,(V An51 needs b)),(72,(Y needs.length)),(74,(V An51 needs b)),(75,(Y needs.length)),(84,(C 1)),(76,(Y i))]) (λ(i,AX,p)=>[aD bs 68 [(V A its c),u,L,N,O,y,P,z,Q,S,o],bH X br (q1.rest.2),cB B25 (q1.rest.1) q,cT X26 t,bI Ao51 (SS offs),bI An51 (SS needs),aD a 175 [(V AX (((((bG++aE 4)++aE offs.length)++offs.flatten)++aE needs.length)++(needs.take i).flatten) p),(C 0)],cB AX (((((bG++aE 4)++aE offs.length)++offs.flatten)++aE needs.length)++(needs.take i).flatten) p,aD n 22 [(V Ao51 offs d),(V An51 needs b)]]) (0,A273,k) (G6 _) (λw f=>by show Mm _ _ [aD bs 68 [(V A its c),u,L,N,O,y,P,z,Q,S,o],bH X br (q1.rest.2),cB B25 (q1.rest.1) q,cT X26 t,bI Ao51 (SS offs),bI An51 (SS needs),aD a 175 [(V A273 (((((bG++aE 4)++aE offs.length)++offs.flatten)++aE needs.length)++(needs.take 0).flatten) k),(C 0)],cB A273 (((((bG++aE 4)++aE offs.length)++offs.flatten)++aE needs.length)++(needs.take 0).flatten) k,aD n 22 [(V Ao51 offs d),(V An51 needs b)]] w; rw [show ((((bG++aE 4)++aE offs.length)++offs.flatten)++aE needs.length)++(needs.take 0).flatten=(((bG++aE 4)++aE offs.length)++offs.flatten)++aE needs.length from by simp]; exact f) ?_
  rintro ⟨i,AX,p⟩ (ai:i<=needs.length)
  dsimp only
  refine Nc<|M (G0 i needs) ?_
  refine qj I (λm=>?_) λm=>?_
  .have K:=D4 m
   have ah:i < needs.length:=U
   have ae:=GU (l:=needs) i
   refine Nm<|aF ?_
   obtain ⟨x0,s⟩:=gk _ i U
   refine St.fC (λw f=>kO (f.at (i:=5) I)) (fR s) (λT an F H=>lw (Z T _) (rR 9 F)<|lW (rW H)<|G rfl<|Nv<|G rfl<|R<|iT [6,7] (λw f g=>AZ a AX p (((((bG++aE 4)++aE offs.length)++offs.flatten)++aE needs.length)++(needs.take i).flatten) x0 w g (D _ (F0 s)) (by simp only [C3,W7,bG] at *; omega)) λA282 B=>Nk<|aF<|lw (Y (i+1)) bN<|G I<|Na ?_)
   rw [show (((((bG++aE 4)++aE _)++offs.flatten)++aE _)++(needs.take i).flatten)++x0=((((bG++aE 4)++aE _)++offs.flatten)++aE _)++(needs.take _).flatten from by rw [D1,<- GS s]]
   exact sA (i+1,A282,B) oz oz η
  .have K:=C7 m
   obtain rfl:i=needs.length:=U
   rw [R0]
   refine Nr<|kL<|jF<|aJ<|aF<|M (C 2)<|G I<|Na<|rL<|Nc<|lF<|Nf<|oO I<|Nj ?_
   rw [show ((((bG++aE 4)++aE _)++offs.flatten)++aE _)++needs.flatten=kQ offs needs from by simp [kQ,bG]]
   have au:=WG E D U U
   refine aF<|G rfl<|R<|iT [6,7] (λw f g=>Dc a AX p (kQ offs needs) w g U) λA287 ab=>G I<|Ne<|G rfl<|lF<|Nn<|aF<|G rfl<|R<|eF [0] (λw f g=>Mj bs _ u L N O y P z Q S o An51 _ b Ao51 _ d w g)<|Nb<|G rfl<|R<|eF [0] (λw f g=>zF bs _ u L N O y bT z bT (V An51 needs b) (V Ao51 offs d) 4 A287 ((kQ offs needs).length) ab w g)<|Nf ?_
   refine xd ?_
   exact aF<|G rfl<|Nd<|sN [_] λw f=>⟨_,_,_,_,_,_,I,(f.pick [0,1,4,5,9] I I)⟩
abbrev R8(a b c:List (List UInt8)):Value:=.bool (!(iX a b c))
theorem WK(bs A c its i p k l m q n s t a X br r q1 q2 offs needs w)(d:cC [aD bs 68 [(V A its c),i,p,k,l,m,q,n,s,t,a],bH X br (r)] w)(K:Rf [aD bs 68 [(V A its c),i,p,k,l,m,q,n,s,t,a],bH X br (r)] w (λw=>aI w A (SS its)))(o:r.items 16384=(needs,q1))(E:q1.items 16384=(offs,q2))(z:q2.end_=0)(u:needs.Pairwise (· < ·))(D:offs.Pairwise (· < ·))(B:iX its needs offs=true)(O:its.Pairwise (· < ·))(N:its.length<=68719476736):
  Θ 93 #[(Z bs 0),(Z br 0)] w λe L=>∃ (An:Δ) (x:Nat) (Ao:Δ) (y:Nat),e = .returned (C 0)/\aN [aD bs 68 [(V A its c),i,p,k,l,m,q,n,s,t,a],bH X br (r)] w [aD bs 68 [(V A its c),i,(C 0),k,l,m,bT,n,bT,(V An needs x),(V Ao offs y)],bH X br (q2),cS An needs x,cS Ao offs y] L:=by
 refine bS Tryz.func93 47 (d) rfl<|Nc<|G rfl<|Nb<|G rfl<|R<|iI [1] (λw b d=>Du X br r w d (by rw [o]; exact u)) λB12 f=>?_
 rw [show (r.items _).1=needs from by rw [o]]
 rw [show (r.items _).2=q1 from by grind]
 refine G I<|Ne<|G rfl<|lF<|Nn<|aF<|G rfl<|R<|iI [1] (λw b d=>Du X br q1 w d (by grind)) λB19 g=>?_
 rw [show (q1.items _).1=offs from by grind]
 rw [show (q1.items _).2=q2 from by grind]
 have F:needs.length<=16384:=by have h:=r.oJ 16384; grind
 have H:offs.length<=16384:=by have h:=q1.oJ 16384; grind
 refine G I<|Ne<|G rfl<|R<|eF [1] (λw b d=>mO X br q2 w d)<|G I<|Nb<|G I<|M (.bool ((q2.end_:Int) != 0))<|lm ?_
 refine St.known 29 (b':=false) I (by grind)<|G rfl<|lg bF<|lF<|G rfl<|dP rfl rfl<|bV (λw b=>Di bs A c its i p k l m q n s t a B12 f _ B19 g offs w (b.aR (j:=0) I η) (K.aX b) (b.aR (j:=2) I (λ_ h=>aI.bM h)) (b.aR (j:=3) I (λ_ h=>aI.bM h)) ag U U U)<|lg (R8 its needs offs)<|M (R8 its needs offs)<|Na<|fD I (by grind)<|Nl ?_
 refine xd ?_
 exact aF<|G rfl<|R<|eF [0] (λw b d=>Mj bs _ i p k l m q n s t a B12 _ f B19 _ g w d)<|Nb<|G rfl<|M (Z bs 0)<|M (Z bs 2)<|R<|pS 0 rfl<|Nb<|G rfl<|Nd<|sN [_] λw b=>⟨B12,_,B19,_,I,b⟩
end
section
open Go.Maps (Keyed)
open Go.ChangeMaps (setBlock)
open Go.MapKept (Stamped)
section
variable {α β:Type}[DecidableEq α]
def oZ(kv:List (α × β))(a:α):Option β:=(kv.find? λp=>decide (p.1=a)).map (·.2)
def xF(kv:List (α × β))(a:α)(v:β):List (α × β):=if (oZ kv a).isSome then kv.map (λp=>if p.1=a then (a,v) else p) else kv++[(a,v)]
def oH(kv:List (α × β)):List α:=kv.map (·.1)
theorem MI{b:List (α × β)}{a:α}(h:a∉oH b):oZ b a=none:=by
 unfold oZ
 rw [List.find?_eq_none.2]
 .rfl
 .intro p c e
  exact h (Y9.2 ⟨p,c,by simpa using e⟩)
theorem MJ{b:List (α × β)}{a:α}{v:β}(d:(oH b).Nodup)(c:b[j]?=some (a,v)):oZ b a=some v:=by
 induction b generalizing j with
 | nil=>grind
 | cons p b f =>
   unfold oZ
   rw [List.find?_cons]
   by_cases e:p.1=a
   .rw [show (decide _)=true by simpa using e]
    cases j with
    | zero=>grind
    | succ j =>
      exfalso
      simp only [ABd] at c
      have:a∈oH b:=Y9.2 ⟨_,F0 c,I⟩
      grind [oH]
   .rw [show (decide _)=false by grind]
    cases j with
    | zero=>grind
    | succ j =>
      unfold oH at d
      rw [X4,ACg] at d
      exact f d.2 (su c)
theorem MK{b:List (α × β)}{a:α}{v:β}(h:a∉oH b):xF b a v=b++[(a,v)]:=by unfold xF; rw [MI h]; rfl
theorem ML{b:List (α × β)}{a:α}{u v:β}(e:(oH b).Nodup)(d:b[j]?=some (a,u)):xF b a v=b.set j (a,v):=by
 unfold xF
 rw [MJ e d]
 show b.map _=_
 apply s6
 intro i
 rw [U8,AC4]
 by_cases c:j=i
 .grind
 .rw [P4 c]
  cases h:b[i]? with
  | none=>rfl
  | some p =>
    simp only [k9]
    by_cases k:p.1=a
    .exfalso
     have f:(oH b)[i]?=some a:=by grind [oH]
     have g:(oH b)[j]?=some a:=by grind [oH]
     grind [List.getElem_inj]
    grind
end
structure Kd (P:Program) (k:TypeId) (α:Type) where
 keyed:Keyed P k
 enc:α -> Value
 lit:α -> Lit
 ok:α -> Prop
 key:∀ a,ok a -> keyOf P k (enc a)=some (lit a)
 inj:∀ a b,ok a -> ok b -> enc a=enc b -> a=b
section
variable {P:Program}{k:TypeId}{α β:Type}(D:Kd P k α)(val:β -> Value)
def jZ(w:World)(b:Nat)(kv:List (α × β)):Prop :=
 ∃ es clock,w.heap[b]?=some (.map es clock) /\ Stamped es clock /\ es.toList.map (λe=>(e.key,e.val))=kv.map (λp=>(D.enc p.1,val p.2)) /\ ∀ p∈kv,D.ok p.1
variable {D:Kd P k α}{val:β -> Value}{w:World}{b:Nat}{kv:List (α × β)}
theorem jZ.lt(h:jZ D val w b kv):b < w.heap.size:=by
 obtain ⟨d,a,c,_⟩:=h
 exact (U9.1 c).1
theorem jZ.new(w:Λ):jZ D val (w.alloc (.map #[] 0)) w.heap.size ([]:List (α × β)):=⟨#[],0,by show (w.heap.push _)[w.heap.size]?=_; simp,MapKept.stamped_empty 0,si,si⟩
theorem jZ.entry(c:es.toList.map (λe=>(e.key,e.val))=kv.map (λp=>(D.enc p.1,val p.2)))(j:Nat)(h:es.toList[j]?=some e):∃ p,kv[j]?=some p/\D.enc p.1=e.key/\val p.2=e.val:=by
 have a:(es.toList.map (λe=>(e.key,e.val)))[j]?=some (e.key,e.val):=by grind
 grind
theorem jZ.keysOf(d:es.toList.map (λe=>(e.key,e.val))=kv.map (λp=>(D.enc p.1,val p.2)))(a:∀ p∈kv,D.ok p.1):∀ x∈es.toList,∃ l,keyOf P k x.key=some l:=by
 intro x h
 obtain ⟨j,f,e⟩:=AB5.1 h
 obtain ⟨p,g,c,_⟩:=jZ.entry d j (e▸E1 f)
 exact ⟨_,c▸D.key p.1 (a p (F0 g))⟩
theorem jZ.nodup(h:jZ D val w b kv):(oH kv).Nodup:=by
 obtain ⟨d,c,_,i,f,g⟩:=h
 have a:(d.toList.map _).Nodup:=i.2.2
 have e:d.toList.map (·.key)=(oH kv).map D.enc:=by
  have:=U0 (List.map Prod.fst) f
  rw [AEj,AEj] at this
  unfold oH
  rw [AEj]
  exact this
 rw [e] at a
 unfold List.Nodup at a ⊢
 rw [List.pairwise_map] at a
 exact a.imp zg
theorem jZ.find{a:α}(o:D.ok a)(h:es.toList.map (λe=>(e.key,e.val))=kv.map (λp=>(D.enc p.1,val p.2)))(f:∀ p∈kv,D.ok p.1)(W):
  ((Instr.findKey k (D.enc a) es.toList).run P W = .ok none W/\a∉oH kv/\∀ e∈es.toList,e.key≠D.enc a) \/
  ∃ j e p,(Instr.findKey k (D.enc a) es.toList).run P W = .ok (some (j,val p.2)) W/\es.toList[j]?=some e/\e.key=D.enc a/\kv[j]?=some p/\p.1=a:=by
 rcases D.keyed.find W (D.key a o) es.toList (jZ.keysOf h f) with ⟨l,c⟩ | ⟨j,e,l,c,n⟩
 .refine .inl ⟨l,λt=>?_,c⟩
  obtain ⟨p,i,rfl⟩:=Y9.1 t
  obtain ⟨j,s,q⟩:=AB5.1 i
  have u:es.toList.length=kv.length:=by have:=U0 List.length h; simpa using this
  have d:j < es.toList.length:=U
  obtain ⟨x,g,m,_⟩:=jZ.entry h j (E1 d)
  rw [E1 s,q] at g
  cases g
  exact c _ (y9 d) m.symm
 .obtain ⟨p,i,m,r⟩:=jZ.entry h j c
  exact .inr ⟨j,e,p,by rw [l,r],c,n,i,D.inj _ _ (f p (F0 i)) o (m.trans n)⟩
variable {t e:TypeId}[DecidableEq α]
theorem jZ.lookup(h:jZ D val w b kv)(ht:P.underlying t=some (.map k e))(hz:∀ w,(zeroValue e).run P w = .ok z w){a:α}(ha:D.ok a)(ok):
  (Instr.lookup t (.map (some b)) (D.enc a) ok).run P w = .ok (if ok then .tuple #[((oZ kv a).map val).getD z,.bool (oZ kv a).isSome] else ((oZ kv a).map val).getD z) w:=by
 have hn:=h.nodup
 obtain ⟨es,clock,hb,hs,he,hok⟩:=h
 unfold Instr.lookup
 simp only [P5,X3 ht,J3,ADe hb,T9,D.keyed.check w _ (D.key a ha)]
 rcases jZ.find ha he hok w with ⟨h1,h2,_⟩ | ⟨j,x,p,h1,h2,h3,h4,h5⟩
 .grind [Result.andThen_ok,MI,Sem.run_bind,Sem.run_pure]
 .obtain ⟨a',v⟩:=p
  cases h5
  simp only [h1,MJ hn h4]
  simp
theorem MM(w b o):Fr [b] w (setBlock w b o):=⟨I,I,I,by simp [setBlock],λk _ a=>by grind [setBlock]⟩
theorem jZ.put(h:jZ D val w b kv)(ht:P.underlying t=some (.map k e)){a:α}(ha:D.ok a)(v:β):
  ∃ w',(Instr.mapUpdate t (.map (some b)) (D.enc a) (val v)).run P w = .ok () w'/\Fr [b] w w'/\jZ D val w' b (xF kv a v):=by
 have hn:=h.nodup
 obtain ⟨es,clock,hb,hs,he,hok⟩:=h
 have hlt:=(U9.1 hb).1
 have hset:∀ o,(setBlock w b o).heap[b]?=some o:=λo=>by simp [setBlock,hlt]
 rcases jZ.find ha he hok w with ⟨h1,h2,h3⟩ | ⟨j,x,p,h1,h2,h3,h4,h5⟩
 .refine ⟨setBlock w b (.map (es.push ⟨_,val v,_⟩) _),?_,MM _ _ _,_,_,hset _,MapKept.stamped_push hs h3,?_,?_⟩
  .simp [Instr.mapUpdate,X3 ht,ADe hb,D.keyed.check w false (D.key a ha),h1,MapKept.run_setObj_map _ hb,Result.andThen,setBlock]
  .grind [MK]
  grind [MK]
 .obtain ⟨a',u⟩:=p
  cases h5
  have hj:es[j]?=some x:=by grind
  have hkeyf:∀ e',es[j]?=some e'->({ e' with key:=D.enc a',val:=val v }).key=e'.key:=zg
  refine ⟨setBlock w b (.map (es.modify j (λe'=>{ e' with key:=D.enc a',val:=val v })) _),?_,MM _ _ _,_,_,hset _,MapKept.stamped_modify hs _ _ (λ_ _=>rfl) (λe' _ he'=>hkeyf e' he'),?_,?_⟩
  .simp [Instr.mapUpdate,X3 ht,ADe hb,D.keyed.check w false (D.key a' ha),h1,hj,h3,D.keyed.stays w (D.key a' ha),MapKept.run_setObj_map _ hb,Result.andThen,setBlock]
  .rw [ML hn h4,Array.toList_modify,ChangeMaps.modify_eq_set _ _ _ _ h2,AGe,he,AGe]
  .rw [ML hn h4]
   grind
end
def uI{P:Program}{k:TypeId}{α β:Type}(D:Kd P k α)(val:β -> Value)(b:Nat)(kv:List (α × β)):Ch where
 fp:=[b]
 holds w:=jZ D val w b kv
 ok w w' hb h:=by
  obtain ⟨es,clock,h1,h2⟩:=h
  exact ⟨es,clock,(hb b (by simp)).trans h1,h2⟩
 lt w h c hc:=by
  rw [List.mem_singleton] at hc
  subst hc
  exact h.lt
section
variable {P:Program}{k:TypeId}{α β:Type}{D:Kd P k α}{val:β -> Value}{b:Nat}{kv:List (α × β)}
variable {Q:Exit -> Act -> World -> Prop}{n:Nat}{w0:World}{F:List Nat}{E:eH}{cs:List Ch}{X K:Act -> World -> Prop}{o:Oper}{d:Nat}{t e:TypeId}
theorem MN(D:Kd P k α)(val:β->Value)(g:o.op = .makeMap t none)(c:o.dst=some d)(f:dH n E o=true)(h:∀ b,St n w0 F ((d,.map (some b))::E) (cs++[uI D val b ([]:List (α × β))]) K):eK P Q n w0 F E cs o K :=
 pH c f λw a=>by
  refine ⟨_,_,_,?_,a.push ((Fr.refl _ _).alloc _) (jZ.new w) (by simp [uI]) (by simp [uI]),h _⟩
  unfold execOp
  simp only [g]
  rfl
variable [DecidableEq α]
theorem MO{x:Operand}{a:α}(i:Nat)(g:o.op = .lookup t x y true)(l:bA E x=some (.map (some b)))(m:bA E y=some (D.enc a))(j:P.underlying t=some (.map k e))(p:∀ w,(zeroValue e).run P w = .ok z w)(hi:cs[i]?=some (uI D val b kv))(f:D.ok a):eD P w0 F cs E o (.tuple #[((oZ kv a).map val).getD z,.bool (oZ kv a).isSome]):=λw c=>by
 have h:jZ D val w b kv:=c.at hi
 unfold execOp
 simp only [g,cU l,cU m,P5,h.lookup j p f true]
 rfl
end
def WL(P:Program)(k:TypeId)(q:IntKind)(hk:P.underlying k=some (.int q))(m:Nat)(hm:∀ a:Nat,a < m -> (Lit.int q (a:Int)).wf=true):Kd P k Nat where
 keyed:=Maps.int_keyed hk
 enc a:=.int q (a:Int)
 lit a:=.int q (a:Int)
 ok a:=a < m
 key a ha:=Maps.keyOf_int_mk hk (hm a ha)
 inj a b _ _ h:=by injection h with _ h; omega
end
section
noncomputable def zH:Kd Tryz.prog 66 Nat:=WL Tryz.prog 66 .i64 Tryz.underlying66 100 (λa h=>by simp [Lit.wf,IntKind.min,IntKind.max,IntKind.bits,IntKind.signed]; omega)
section
variable {P:Program}{Q:Exit -> Act -> World -> Prop}{k:TypeId}{α β:Type}{D:Kd P k α}{val:β -> Value}{b:Nat}{kv:List (α × β)}{n:Nat}{w0:World}{F:List Nat}{E:eH}{cs:List Ch}{K:Act -> World -> Prop}{o:Oper}{t e:TypeId}[DecidableEq α]
theorem MP{x v:Operand}{a:α}{u:β}(i f)(z:o.op = .insert t x y v)(p:o.dst=none)(r:dH n E o=true)(L:bA E x=some (.map (some b)))(N:bA E y=some (D.enc a))(H:bA E v=some (val u))(B:P.underlying t=some (.map k e))(hi:cs[i]?=some (uI D val b kv))(l:D.ok a)(g:xF kv a u=f)(h:St n w0 F E (cs.set i (uI D val b f)) K):eK P Q n w0 F E cs o K :=
 Em p r λw j=>by
  subst g
  have A:jZ D val w b kv:=j.at hi
  obtain ⟨O,d,q,s⟩:=A.put B l u
  refine ⟨O,_,?_,j.swap i hi (c':=uI D val b _) q s (λc m=>.inl m) (by simp [uI]),h⟩
  unfold execOp
  simp only [z,cU L,cU N,cU H,P5,d]
  rfl
end
theorem WM{f:FuncId}{x:Operand}{r u:Ω}{t:Array TypeId}(b:o.op = .call { callee:=.value x,args:=#[y],argTypes:=t })(c:bA E x=some (.func (.func f) #[r] #[]))(d:bA E y=some u)(a:∀ args w,(callFunc f args).run P w = .ok (.enter f args) w):∀ w,(execOp (evE E) o).run P w = .ok (.enter f #[r,u]) w:=λw=>by
 unfold execOp
 simp only [b,resolve,cU c,Deferred.ofValue,invoke,Z1,X4,Y8,cU d]
 simpa using a #[r,u] w
theorem WN(bs A c its j l m f g h i a AD y Dm q0 ts)(k n:Nat)(w:Λ)(o:cC [aD bs 68 [(V A its c),bF,j,l,m,bF,f,g,h,i,a]] w)(F:Rf [aD bs 68 [(V A its c),bF,j,l,m,bF,f,g,h,i,a]] w (eG))(H:Rf [aD bs 68 [(V A its c),bF,j,l,m,bF,f,g,h,i,a]] w (λw=>aI w A (SS its)))(K:Rf [aD bs 68 [(V A its c),bF,j,l,m,bF,f,g,h,i,a]] w (λw=>aI w AD (B8 Dm)))(t:Dm.length<=4294967296)(N:(Rd.mk Dm 0 0 0).uint=(1,q0))(x:eS q0.rest.1=some ts)(p:q0.rest.2.end_=0)(r:dD its)(s:its.length<=40)(q:iA ts (bO its)=k)(D:k<=500)(u:kW ((k+k / 2:Nat):Int)=(n:Int))(E:fI (n:Int)=true):
  Θ 48 #[(Z bs 0),(V AD Dm y)] w λe L=>∃ (Am:Δ) (z:Nat),e = .returned (C 0)/\aN [aD bs 68 [(V A its c),bF,j,l,m,bF,f,g,h,i,a]] w [aD bs 68 [(V A its c),bF,(C 1),(Y 2),(V Am (fO its n) z),bT,f,g,h,i,a],cB Am (fO its n) z] L:=by
 refine bS AA4 95 (o) rfl<|Nc<|G rfl<|Nb<|G rfl<|R<|dC (λw d=>qK AD y Dm w (K.aX d) (t)) λX10 b=>G I<|Nb<|G rfl<|Ne<|G rfl<|R<|eF [1] (λw d o=>sY X10 b _ w o)<|Ng<|aT ?_
 rw [show (Rd.mk Dm 0 0 0).uint.1=1 from by grind]
 rw [show (Rd.mk Dm 0 0 0).uint.2=q0 from by grind]
 refine aF<|lT<|G rfl<|No<|G rfl<|M (Z bs 0)<|M (Z bs 1)<|lL 0 rfl<|lT<|G rfl<|lg (Z bs 0)<|lg (Z bs 5)<|lu bF (bW 0 rfl rfl J rfl rfl)<|lg bT<|lT<|Nt<|aF<|G rfl<|R<|iT [0,1] (λw d o=>WH bs A c its bF j l m bF f g h i a X10 b q0 ts k n w o (F.bJ d [0,1]) (H.bJ d [0,1]) (x) (p) (r) (s) (q) (D) (u) (E)) λAm29 B=>G I<|Nk<|Ny<|G I ?_
 refine lT<|Nt<|aF<|G I<|M (Z bs 0)<|M (Z bs 5)<|R<|pS 0 I<|Nf ?_
 refine xd ?_
 exact aF<|G rfl<|Nd<|sN [_] λw d=>⟨_,_,I,(d.pick [0,2] I I)⟩
theorem WO(bs A c its f i j k g l m a AD D Dm q0 print q1 t offs needs w)(h:cC [aD bs 68 [(V A its c),f,i,(Y 1),j,bF,k,g,l,m,a]] w)(W:Rf [aD bs 68 [(V A its c),f,i,(Y 1),j,bF,k,g,l,m,a]] w (eG))(X:Rf [aD bs 68 [(V A its c),f,i,(Y 1),j,bF,k,g,l,m,a]] w (λw=>aI w A (SS its)))(r2:Rf [aD bs 68 [(V A its c),f,i,(Y 1),j,bF,k,g,l,m,a]] w (λw=>aI w AD (B8 Dm)))(s:Dm.length<=4294967296)(N:(Rd.mk Dm 0 0 0).uint=(2,q0))(T:q0.sum=(print,q1))(B:eZ q1.rest.1=some t)(p:q1.rest.2.end_=0)(y:t.seed=0)(q:dD its)(r:its.length<=40)(z:t.cells.length<=600)(S:nM its t print=some (offs,needs))(u:offs.Pairwise (· < ·))(o:∀ x∈offs,x.length=32)(n:∀ x∈needs,x.length=32):
  Θ 48 #[(Z bs 0),(V AD Dm D)] w λe O=>∃ (Ao:Δ) (Q:Nat) (An:Δ) (P:Nat) (Am:Δ) (E:Nat),e = .returned (C 0)/\aN [aD bs 68 [(V A its c),f,i,(Y 1),j,bF,k,g,l,m,a]] w [aD bs 68 [(V A its c),f,(C 1),(Y 4),(V Am (kQ offs needs) E),bT,bT,g,bT,(V An needs P),(V Ao offs Q)],bI Ao (SS offs),bI An (SS needs),cB Am (kQ offs needs) E] O:=by
 refine bS AA4 95 (h) rfl<|Nc<|G rfl<|Nb<|G rfl<|R<|dC (λw d=>qK AD D Dm w (r2.aX d) (s)) λX10 b=>G I<|Nb<|G rfl<|Ne<|G rfl<|R<|eF [1] (λw d h=>sY X10 b _ w h)<|Ng<|aT ?_
 rw [show (Rd.mk Dm 0 0 0).uint.1=2 from by rw [N]]
 rw [show (Rd.mk Dm 0 0 0).uint.2=q0 from by rw [N]]
 refine aF<|lF<|G rfl<|Np<|aF<|lT<|G rfl<|No<|G rfl<|M (Z bs 0)<|M (Z bs 3)<|lL 0 rfl<|lT<|G rfl<|lg (Z bs 0)<|lg (Z bs 5)<|lu bF (bW 0 rfl rfl J rfl rfl)<|lg bT<|lT<|Nt<|aF<|G rfl<|R<|fT [0,1] _ (λw d h=>(WJ bs A c its f i _ j bF k g l m a X10 b q0 _ q1 t offs _ w h (W.bJ d [0,1]) (X.bJ d [0,1]) (T) (B) (p) (y) (q) (r) (z) (S) (u) (o) (n)).mono ?_)
 rintro e O ⟨Ao46,K,An46,H,Am46,F,rfl,L⟩
 refine ⟨_,[_,_],_,I,L,I,?_⟩; clear L d h
 refine G I<|Nk<|Ny<|G I<|lT<|Nt<|aF<|G I<|M (Z bs 0)<|M (Z bs 5)<|R<|pS 0 I<|Nf ?_
 refine xd ?_
 exact aF<|G rfl<|Nd<|sN [_] λw d=>⟨_,_,_,_,_,_,I,(d.pick [0,2,3,4] I I)⟩
theorem WQ(bs A c its g k h l m i n o a AD x Dm q0 q1 q2 offs needs w)(f:cC [aD bs 68 [(V A its c),g,k,(Y 2),h,l,m,i,n,o,a]] w)(N:Rf [aD bs 68 [(V A its c),g,k,(Y 2),h,l,m,i,n,o,a]] w (λw=>aI w A (SS its)))(O:Rf [aD bs 68 [(V A its c),g,k,(Y 2),h,l,m,i,n,o,a]] w (λw=>aI w AD (B8 Dm)))(p:Dm.length<=4294967296)(F:(Rd.mk Dm 0 0 0).uint=(4,q0))(t:q0.items 16384=(needs,q1))(u:q1.items 16384=(offs,q2))(j:q2.end_=0)(r:needs.Pairwise (· < ·))(s:offs.Pairwise (· < ·))(q:iX its needs offs=true)(L:its.Pairwise (· < ·))(K:its.length<=68719476736):
  Θ 48 #[(Z bs 0),(V AD Dm x)] w λe H=>∃ (An:Δ) (y:Nat) (Ao:Δ) (B:Nat),e = .returned (C 0)/\aN [aD bs 68 [(V A its c),g,k,(Y 2),h,l,m,i,n,o,a]] w [aD bs 68 [(V A its c),g,(C 0),(Y 2),h,bT,bT,i,bT,(V An needs y),(V Ao offs B)],cS An needs y,cS Ao offs B] H:=by
 refine bS AA4 95 (f) rfl<|Nc<|G rfl<|Nb<|G rfl<|R<|dC (λw d=>qK AD x Dm w (O.aX d) (p)) λX10 b=>G I<|Nb<|G rfl<|Ne<|G rfl<|R<|eF [1] (λw d f=>sY X10 b _ w f)<|Ng<|aT ?_
 rw [show (Rd.mk Dm 0 0 0).uint.1=4 from by rw [F]]
 rw [show (Rd.mk Dm 0 0 0).uint.2=q0 from by rw [F]]
 refine aF<|lF<|G I<|Np<|aF<|lF<|G I<|Np<|aF<|lF<|G I<|Np<|aF<|lT<|G I<|No<|G I<|M (Z bs 0)<|M (Z bs 3)<|lL 0 I<|lT<|Nt<|aF<|G I ?_
 refine R<|fT [0,1] _ (λw d f=>(WK bs A c its g k _ h l m i n o a X10 b q0 q1 q2 offs _ w f (N.bJ d [0,1]) (t) (u) (j) (r) (s) (q) (L) (K)).mono ?_)
 rintro e H ⟨An66,z,Ao66,D,rfl,E⟩
 refine ⟨_,[_,_],_,I,E,I,?_⟩; clear E d f
 refine G I<|Nk<|Ny<|G I<|lT<|Nt<|aF<|G I<|M (Z bs 0)<|M (Z bs 5)<|R<|pS 0 I<|Nf ?_
 refine xd ?_
 exact aF<|G rfl<|Nd<|sN [_] λw d=>⟨_,_,_,_,I,(d.pick [0,2,3] I I)⟩
end
structure PK (s:gE):Prop where
 ok:s.t.Ok
 len:∀ x∈s.taken,x.length=32
 nda:s.added.Nodup
 ndr:s.removed.Nodup
 ia:∀ x∈s.added,x∈s.taken
 ir:∀ x∈s.removed,x∈s.taken
theorem MQ(h:l.Nodup)(a:x∉l):(l++[x]).Nodup:=by
 grind
theorem PK.take(h:PK s){c:BC}(d:c.keys.length=32)(e:s.taken.contains c.keys=false):PK (s.take c):=by
 have b:c.keys∉s.taken:=by grind
 refine ⟨h.ok.change d _,λx a=>?_,?_,?_,λx a=>?_,λx a=>?_⟩
 .rcases T0.1 a with rfl | a
  .exact d
  .exact h.len x a
 .unfold gE.take; dsimp only; split
  .exact MQ h.nda λa=>b (h.ia _ a)
  .exact h.nda
 .unfold gE.take; dsimp only; split
  .exact h.ndr
  .exact MQ h.ndr λa=>b (h.ir _ a)
 .unfold gE.take at a ⊢; dsimp only at a ⊢
  split at a
  .rcases P7.1 a with a | a
   .exact X2 _ (h.ia x a)
   .rw [G2.1 a]; exact j9
  .exact X2 _ (h.ia x a)
 .unfold gE.take at a ⊢; dsimp only at a ⊢
  split at a
  .exact X2 _ (h.ir x a)
  .rcases P7.1 a with a | a
   .exact X2 _ (h.ir x a)
   .rw [G2.1 a]; exact j9
theorem MR:∀ (n:Nat) {s a:gE},PK s->iM n s=some a->PK a
 | 0,s,a,h,e=>by cases e; omega
 | n+1,s,a,h,e=>by
   unfold iM at e
   cases c:s.t.first with
   | none=>grind
   | some i =>
     rw [c] at e
     simp only at e
     split at e
     .grind
     .rename_i b
      exact MR n (h.take (Tm h.ok i).keys (su b)) e
theorem MS(h:l.Nodup):(dG l).Pairwise (· < ·):=by
 have e:=AT l
 have f:(dG l).Nodup:=(uF l).nodup_iff.2 h
 refine (List.Pairwise.and e f).imp λ{a b} c=>?_
 rcases j8 (a < b) with d | d
 .exact d
 .exact absurd (CW c.1 (Ly.1 d)) c.2
theorem Bm(e:t.Ok)(h:t.keys=some (l,m)):(l.Pairwise (· < ·)/\∀ x∈l,x.length=32)/\m.Pairwise (· < ·)/\∀ x∈m,x.length=32:=by
 obtain ⟨p,a,rfl,rfl⟩:=AU h
 unfold BT.raw at a
 cases d:iM t.cells.length ⟨t,[],[],[]⟩ with
 | none=>grind
 | some s =>
   rw [d] at a
   have b:=MR _ ⟨e,si,zg,zg,si,si⟩ d
   simp only at a
   split at a
   .injection a with a
    subst a
    exact ⟨⟨MS b.nda,λx c=>b.len x (b.ia x ((uF _).mem_iff.1 c))⟩,MS b.ndr,λx c=>b.len x (b.ir x ((uF _).mem_iff.1 c))⟩
   grind
theorem cells_len{l:List BC}(h:∀ c∈l,c.Ok):l.length*34<=(l.flatMap BC.enc).length:=by
 induction l with
 | nil=>simp
 | cons c l b =>
   have d:=b λx a=>h x (by simp [a])
   have e:=(h c si).keys
   grind [lV,BC.enc]
theorem tC(h:eZ D=some t):t.Ok/\t.cells.length*34<=D.length:=by
 have a:t.Ok:=by
  grind [eZ,Fv]
 refine ⟨a,?_⟩
 obtain ⟨b,-⟩:=tZ h
 have c:=cells_len a.cells
 rw [<- b]
 unfold BT.enc fW
 grind
section
section
variable {s r:List Bs}{fan leaf:Nat}
end
def iC(a b:List Bs)(fan leaf:Nat):Nat -> List AP
 | 0=>[dF a [] []]
 | j+1=>fS (kP a b j) fan leaf (iC a b fan leaf j)
structure zJ (a b:List Bs) (fan leaf:Nat):Prop where
 (ha:dD a) (hb:dD b) (ha4:a.length <= 40) (hb4:b.length <= 40) (hf:2 <= fan) (hf2:fan <= 16) (hl:1 <= leaf) (hl2:leaf <= 64)
section
variable {a b:List Bs}{fan leaf:Nat}
theorem MZ{m:List AP}:bK m=[]↔m=[]:=by
 constructor
 .intro h
  by_cases d:m=[]
  .exact d
  .exfalso
   have c:m.length≠0:=λe=>d (L1 e)
   rw [bK,P4 c] at h
   have f:=U0 List.length h
   have:=AR m.length
   rw [C3,W7] at f
   omega
 .rintro rfl; rfl
end
abbrev eU(n:Nat):Bs:=La (UInt8.ofNat n)
theorem Dy:dD [eU 65]:=by decide +kernel
end
section
section
variable {a b:List Bs}{fan leaf:Nat}
theorem WX{l:List Bs}(h:jY l)(m):jY (aL l m):=h.sublist List.filter_sublist
theorem Nz[DecidableEq α]:∀ {l m:List α},l.Nodup->(∀ x∈l,x∈m)->l.length<=m.length
 | [],_,_,_=>G6 _
 | x::l,m,h,c=>by
  obtain ⟨g,i⟩:=ACg.1 h
  have d:=c x j9
  have j:=Nz (m:=m.erase x) i λy f=>(List.mem_erase_of_ne (λe=>g (by rw [<- e]; exact f))).2 (c y (X2 _ f))
  rw [List.length_erase_of_mem d] at j
  have:=List.length_pos_of_mem d
  rw [V0]
  omega
theorem GW{l m:List Bs}(h:jY l)(c:∀ x∈l,x∈m):l.length<=m.length:=Nz (h.imp zg) c
end
end
section
section
variable {a b:List Bs}{fan leaf:Nat}
theorem Dz(h:a.length<=40):(bK [dF a [] []]).length=37:=by
 have e:bK (O6 a)=aE 1++(dF a [] []).enc:=by
  unfold bK
  rw [P4 si]
  simp
 have d:=iH (n:=1) U
 have f:=iH (n:=0) U
 have c:=iH (n:=(inL a [] []).length) (by have:=lZ a [] []; omega)
 grind [dF,AP.enc,AC.enc,Dp]
end
end
theorem NB{print:Bs}(h:nM its t print=none):((fZ its t.cells.length).sub t).keys=none\/∃ offs needs,((fZ its t.cells.length).sub t).keys=some (offs,needs)/\(iX its needs offs=true->eM (gG its offs needs)=0->eI (gG its offs needs)≠print):=by
 unfold nM at h
 grind
theorem NC(bs d f q r s g i k l a its c A2 t B U w)(x:cC [aD bs 68 [d,f,q,r,s,g,i,(Z c 0),k,l,a]] w)(E:Rf [aD bs 68 [d,f,q,r,s,g,i,(Z c 0),k,l,a]] w (eG))(F:Rf [aD bs 68 [d,f,q,r,s,g,i,(Z c 0),k,l,a]] w (jM c A2 t its 4 4 B U))(p:dD its)(n:its.length<=40)(y:its.length<=t):
  Θ 131 #[(Z bs 0)] w λe z=>∃ (Am:Δ) (A:Nat),e = .returned (.tuple #[])/\aN [aD bs 68 [d,f,q,r,s,g,i,(Z c 0),k,l,a]] w [aD bs 68 [d,f,(C 1),(Y 3),(V Am (bB 3 (bK [dF its [] []])) A),g,i,(Z c 0),k,l,a],cB Am (bB 3 (bK [dF its [] []])) A] z:=by
 refine eO Tryz.func131 10 (x) I ?_
 have D:=Dz n
 refine aF<|G I<|M (Z bs 0) ?_
 refine M (Z bs 7)<|lL 0 I ?_
 refine R ?_
 refine iR (λw b=>(Ww c A2 t its 4 4 B U w (E.aX b) (F.aX b) (p) (by omega) (y) (n)).mono ?_)
 rintro e z ⟨B7,u,rfl,o⟩
 refine ⟨_,_,I,o,?_⟩; clear o b
 refine R ?_
 refine iR (λw b=>(Gw 3 B7 u _ w (b.aR (j:=1) I (λ_ h=>aI.bM h)) (by omega) (by omega)).mono ?_)
 rintro e z ⟨A28,m,rfl,o⟩
 refine ⟨_,_,I,o,?_⟩; clear o b
 exact R<|eF [0] (λw b x=>zF bs d f q r s g i _ k l a 3 A28 _ m w x)<|aO<|nF [] rfl trivial (λw b=>⟨A28,m,I,(b.pick [0,2] I I)⟩)
theorem WY(bs A c its v1 v2 v3 v4 v5 v6 v7 v8 v9 E X t print w)(F:Rf [] w (eG))(W:Rf [] w (λw=>At w bs 68 [(V A its c),v1,v2,v3,v4,v5,v6,v7,v8,v9,E]))(r2:Rf [] w (λw=>aI w A (SS its)))(r3:Rf [] w (λw=>(cT X t).holds w))(hz:fI (t.cells.length:Int)=true)(Q:t.seed=0)(n:dD its)(ad:its.length<=40)(S:t.Ok)(ah:t.cells.length<=600)(hd:nM its t print=none):
  Θ 135 #[(Z bs 0),(Z X.bt 0),(vS print)] w λe w'=>∃ (x1 x2:Ω),e = .returned (.tuple #[x1,x2,bF])/\aN [] w [] w':=by
 refine kN Tryz.func135 94 (B3 w) I<|Nc<|G I<|Nf ?_
 have K:=n.1
 have hs:=n.2
 refine dN [] 12 J η ?_
 refine am 0 ?_
 refine aC 1 (Z bs 0) I<|aC 2 (Z bs 0) rfl<|aV 3 _ rfl (rW (λw d=>At.cell (W.now d) 0))<|am 4 ?_
 refine aA 5 I<|bV (λw d=>AB X t w (r3.aX d))<|aQ _ η η<|aA 6 rfl<|gT (λw d=>Gr A c its _ w (F.aX d) (r2.aX d) ag ag U) λX25=>aQ _ (κ [] I I) η<|am 7 ?_
 refine aC 8 (Z X25.bt 0) I<|aC 9 (C 0) I<|aa 10 ?_
 refine aa 11 ?_
 refine cG J<|aJ<|aT<|aT ?_
 refine xd ?_
 refine aF<|G rfl<|lF<|Nn<|aF<|G rfl<|R<|gT (λw d=>CE X25 _ X t w (d.aR (j:=0) I η) (r3.aX d) (by simp [sV,jW,zC,Q])) λZ33=>G I<|Ne<|G I<|lF<|Nn ?_
 refine xd ?_
 rcases NB hd with N | ⟨a,b,N,P⟩
 .exact aF<|G rfl<|R<|bV (λw d=>KT Z33 _ w (F.aX d) (d.aR (j:=1) I η) ag)<|G rfl<|Ne<|G rfl<|lT<|G rfl<|lT<|No<|G rfl<|Nh<|sN [nS,nS,bF] λw d=>⟨nS,nS,I,(d.pick [] I I)⟩
 .have O:=vN N
  rw [mM (by rw [jW]),jW] at O
  refine aF<|G rfl<|R<|qZ (λw d=>FB Z33 _ a _ w (F.aX d) (d.aR (j:=1) I η) ag) λA140 f A240 l=>G I<|Ne<|G rfl<|lF<|G rfl<|dP rfl rfl<|bV (λw d=>Di bs A c its v1 v2 v3 v4 v5 v6 v7 v8 v9 E A240 l _ A140 f a w (W.aX d) (r2.aX d) (d.aR (j:=3) I (λ_ h=>kO h)) (d.aR (j:=2) I (λ_ h=>kO h)) ag U U U)<|lg (R8 its b a)<|M (R8 its b a) ?_
  refine qi I (λm=>?_) λm=>?_
  .exact Nc<|G rfl<|Nh<|sN [nS,nS,bF] λw d=>⟨nS,nS,I,(d.pick [] I I)⟩
  .have L:iX its b a=true:=by simpa using m
   refine Ni<|G rfl<|Ne<|G rfl<|M (Z bs 0)<|M (Z bs 0)<|lW (rW (λw d=>At.cell (W.now d) 0))<|M (Y its.length)<|G I<|Ng ?_
   have D:=P L
   have ae:=(Bm (vD (rI K _) S) N).1.1
   refine St.mem (λw d=>d.gB 9 1)<|sL (λ(i,B,p)=>i<=its.length) (λ(i,B,p)=>its.length - i) (λ(i,B,p)=>[(2,(vS print)),(6,(V A140 a f)),(7,(V A240 b l)),(8,bF),(10,(C 0)),(56,(V A its c)),(57,(Y its.length)),(12,(V B (aL (its.take i) a) p)),(58,(Y i))]) (λ(i,B,p)=>[cT X25 (fZ its t.cells.length),cT Z33 ((fZ its t.cells.length).sub t),bI A140 (SS a),bI A240 (SS b),cS B (aL (its.take i) a) p]) (0,none,0) (G6 _) η ?_
   rintro ⟨i,B,p⟩ (af:i<=its.length)
   dsimp only
   refine Nc<|M (qb i its.length) ?_
   refine χ I (λx=>?_) λx=>?_
   .refine Nm<|aF ?_
    obtain ⟨r,q⟩:=gk its i U
    refine St.fC (λw d=>r2.now d) (fR q) (λT aj s u=>lw (Z T _) (rR 9 s)<|lW (rW u)<|G rfl<|Nb<|G rfl<|R<|bV (λw d=>Dh A140 f a r w (d.aR (j:=2) I (λ_ h=>kO h)) ag U)<|G I<|Nb<|G I<|M (.bool (!(a.contains r))) ?_)
    refine qi I (λg=>?_) λg=>?_
    .refine aF<|G rfl<|R<|pN 1 9 [(vS r)] λab=>R<|cL gD 4 _ rfl rfl J rfl rfl rfl (rfl) (fE (i:=5) rfl yy) (by simp [Value.oneCell']) (by have h:=iN (its.take i) a; simp only [I8] at h; omega) ((aL (its.take i) a++[r]).length) dV (SS (aL (its.take i) a++[r])) (by simp [SS]) (λA73 H=>G I<|Nk<|aF<|lw (Y (i+1)) bN<|G I<|Na ?_)
     rw [show aL _ a++[r]=aL _ a from yU q (su g)]
     exact sA (i+1,A73,H) oz oz (κ [0,1,2,3,4] I I)
    .refine Nw<|aF<|lw (Y (i+1)) bN<|G I<|Na ?_
     rw [show aL _ a=aL _ a from yV q (su g)]
     exact sA (i+1,B,p) oz oz η
   .obtain rfl:i=its.length:=U
    rw [R0]
    have ai:=iN its a
    refine Nj<|aF<|G rfl<|R<|cL gD 4 _ rfl rfl J rfl rfl rfl si (λw d=>eN.gJ (kO (d.at (i:=3) I))) (mJ) U ((aL its a++b).length) dV (SS (aL its a++b)) (by simp [SS]) (λA77 o=>G I<|Nf ?_)
    refine xd ?_
    have y:(aL its a++b).length<=1000:=by rw [C3]; omega
    refine aF<|G rfl<|R<|eF [4] (λw d hO=>LZ A77 o (aL its a++b) w hO (by rw [C3]; omega))<|Nf ?_
    refine xd ?_
    rcases j8 (eM (gG its a b)=0) with k | k
    .rw [show (aL its a++b).length=(gG its a _).length from (oG _).symm]
     have z:(gG its a b).length<=1000:=by unfold gG; rw [oG]; exact y
     exact aF<|G rfl<|R<|bV (λw d=>zA A77 o (gG its a _) w (F.aX d) (d.aR (j:=4) I (λ_ h=>kO h)) U (k) U)<|G rfl<|Nb<|G rfl<|lT<|G rfl<|lu _ (lQ rfl rfl rfl)<|M (P3 its a b print)<|G rfl<|Nd<|sN [_,_,(.bool (decide _))] λw d=>⟨_,_,by rw [show decide _=false from by simpa using D k]; rfl,(d.pick [] I I)⟩
    .rw [show (aL its a++b).length=(gG its a _).length from (oG _).symm]
     have z:(gG its a b).length<=1000:=by unfold gG; rw [oG]; exact y
     refine aF<|G rfl<|R<|bV (λw d=>Lj A77 o (gG its a _) w (d.aR (j:=4) I (λ_ h=>kO h)) U (k))<|G I<|Nb<|G I<|M (.bool (((eM (gG its a b)):Int) == 0))<|lm ?_
     exact St.known 89 (b':=false) I (su k)<|G rfl<|lF<|G rfl<|Nd<|sN [_,_,bF] λw d=>⟨_,_,I,(d.pick [] I I)⟩
theorem WZ(bs A c its g o p q k l m n b X br r print q1 t f A2 y K U w)(d:cC [aD bs 68 [(V A its c),g,o,p,q,k,l,(Z f 0),m,n,b],bH X br (r)] w)(L:Rf [aD bs 68 [(V A its c),g,o,p,q,k,l,(Z f 0),m,n,b],bH X br (r)] w (eG))(r1:Rf [aD bs 68 [(V A its c),g,o,p,q,k,l,(Z f 0),m,n,b],bH X br (r)] w (λw=>aI w A (SS its)))(r2:Rf [aD bs 68 [(V A its c),g,o,p,q,k,l,(Z f 0),m,n,b],bH X br (r)] w (jM f A2 y its 4 4 K U))(F:r.sum=(print,q1))(x:eZ q1.rest.1=some t)(u:q1.rest.2.end_=0)(z:t.seed=0)(H:dD its)(Q:its.length<=40)(S:its.length<=y)(ab:t.cells.length<=600)(hd:nM its t print=none):
  Θ 91 #[(Z bs 0),(Z br 0)] w λe N=>∃ (Am:Δ) (B:Nat),e = .returned (C 0)/\aN [aD bs 68 [(V A its c),g,o,p,q,k,l,(Z f 0),m,n,b],bH X br (r)] w [aD bs 68 [(V A its c),g,(C 1),(Y 3),(V Am (bB 3 (bK [dF its [] []])) B),k,l,(Z f 0),m,n,b],bH X br (q1.rest.2),cB Am (bB 3 (bK [dF its [] []])) B] N:=by
 refine bS Tryz.func91 100 (d) rfl<|Nc<|G rfl<|Nb<|G rfl<|R<|eF [1] (λw a d=>wX X br r w d)<|G I<|Nf ?_
 rw [show r.sum.1=print from by rw [F]]
 rw [show r.sum.2=q1 from by rw [F]]
 refine St.fact (λw a=>(a.at (i:=1) I).2.len) (λT=>?_)
 have W:=q1.qS (q1.D.length - q1.off)
 refine aF<|G I<|R ?_
 refine eF [1] (λw a d=>oD X br q1 w d) ?_
 refine R ?_
 refine fT [1] _ (λw a d=>(qL X br q1 (q1.D.length - q1.off) w d (by omega)).mono ?_)
 rintro e N ⟨B25,s,rfl,E⟩
 refine ⟨_,[_],_,I,E,I,?_⟩; clear E a d
 rw [show q1.text _=q1.rest from I]
 refine R<|gT (λw a=>CF B25 s _ t w (a.aR (j:=2) I (λ_ h=>aI.bM h)) (by unfold Rd.rest; omega) ag) λX26=>?_
 have hz:=(tZ x).2
 have ad:=(tC x).1
 refine G I<|Nf<|aT ?_
 refine xd ?_
 refine aF<|G rfl<|R<|eF [1] (λw a d=>mO X br q1.rest.2 w d)<|G I<|Nb<|G I<|M (F4 q1)<|lm ?_
 refine St.known 36 (b':=false) I (by rw [u]; simp)<|G rfl<|lg bF<|lF<|G rfl<|dP rfl rfl<|bV (λw a=>AB X26 t w (a.aR (j:=3) I η))<|dP rfl rfl<|bV (λw a=>Dd X26 t _ 0 w (a.aR (j:=3) I η) (hz) (by unfold dA; decide))<|lg (I0 t)<|M (I0 t)<|Na<|fD rfl (by rw [MH z]; rfl)<|Ni<|G rfl<|R<|dC (λw a=>WY bs A c its g o p q k l (Z f 0) m n b X26 t print w (L.aX a) (a.aR (j:=0) I η) (r1.aX a) (a.aR (j:=3) I η) ag ag ag ag ag ag ag) λO P=>G I<|Nf<|aT ?_
 refine xd ?_
 exact aF<|G rfl<|lT<|No<|G rfl<|R<|iI [0] (λw a d=>NC bs _ g o p q k l m n b its f A2 y K U w d (L.bJ a [0]) (r2.bJ a [0]) ag ag ag) λAm58 D=>Nb<|G rfl<|Nh<|sN [_] λw a=>⟨_,_,I,(a.pick [0,1,4] I I)⟩
abbrev E9(a:Rd):Value:=.bool (((((a.rest.1).length:Nat):Int):Int) == 0)
abbrev Q0(a:List (List UInt8))(b:Rd):Value:=.bool (decide (((((bC a 4 4 b.rest.1).reply).length:Nat):Int) > 0))
theorem Xa(bs A c its m s t u n o p q b X br r k A2 H g U S S2 w)(d:cC [aD bs 68 [(V A its c),m,s,t,u,n,o,(Z k 0),p,q,b],bH X br (r),aP g (S),aP U (S2)] w)(r0:Rf [aD bs 68 [(V A its c),m,s,t,u,n,o,(Z k 0),p,q,b],bH X br (r),aP g (S),aP U (S2)] w (eG))(_:Rf [aD bs 68 [(V A its c),m,s,t,u,n,o,(Z k 0),p,q,b],bH X br (r),aP g (S),aP U (S2)] w (λw=>aI w A (SS its)))(r2:Rf [aD bs 68 [(V A its c),m,s,t,u,n,o,(Z k 0),p,q,b],bH X br (r),aP g (S),aP U (S2)] w (jM k A2 H its 4 4 g U))(B:r.rest.2.end_=0)(l:r.rest.1≠[])(E:dD its)(K:its.length<=40)(N:its.length<=H)(L:r.rest.1.length<=1048576)(D:(bC its 4 4 r.rest.1).err=0)(T:S.length<=549755813888)(W:S2.length<=549755813888)(O:(bC its 4 4 r.rest.1).reply≠[]):
  Θ 92 #[(Z bs 0),(Z br 0)] w λe F=>∃ (Am:Δ) (P:Nat),e = .returned (C 0)/\aN [aD bs 68 [(V A its c),m,s,t,u,n,o,(Z k 0),p,q,b],bH X br (r),aP g (S),aP U (S2)] w [aD bs 68 [(V A its c),m,(C 1),(Y 3),(V Am (bB 3 (bC its 4 4 r.rest.1).reply) P),n,o,(Z k 0),p,q,b],bH X br (r.rest.2),aP g (S++(bC its 4 4 r.rest.1).need),aP U (S2++(bC its 4 4 r.rest.1).off),cB Am (bB 3 (bC its 4 4 r.rest.1).reply) P] F:=by
 refine bS Tryz.func92 51 (d) rfl<|Nc<|G rfl<|Nf<|St.fact (λw a=>(a.at (i:=1) I).2.len) (λab=>?_)
 have ad:=Bi its 4 4 r.rest.1
 refine aF<|G I<|R ?_
 refine eF [1] (λw a d=>oD X br r w d) ?_
 refine R ?_
 refine fT [1] _ (λw a d=>(qL X br r (r.D.length - r.off) w d (by omega)).mono ?_)
 rintro e F ⟨B13,y,rfl,f⟩
 refine ⟨_,[_],_,I,f,I,?_⟩; clear f a d
 rw [show r.text _=r.rest from I]
 refine G I<|Ne<|G rfl<|R<|eF [1] (λw a d=>mO X br r.rest.2 w d)<|G I<|Nb<|G I<|M (F4 r)<|lm ?_
 refine St.known 21 (b':=false) I (by rw [B]; simp)<|G I<|lg (Y ((r.rest.1).length))<|lg (E9 r)<|M (E9 r)<|Na<|fD I (by have Q:=ACc.2 l; simp; exact l) ?_
 refine Ni<|G I<|M (Z bs 0)<|M (Z bs 7) ?_
 refine lL 0 I<|G I ?_
 refine R ?_
 refine fT [2,3] _ (λw a d=>(MA k A2 H its 4 4 g U B13 y r.rest.1 S S2 w d (r0.bJ a [2,3]) (r2.bJ a [2,3]) (a.fX [2,3] (j:=4) I (λ_ h=>aI.bM h)) (E) (by omega) (N) (K) (by decide) (by decide) (by decide) (by decide) (L) (T) (W) (l) (D)).mono ?_)
 rintro e F ⟨B32,z,rfl,f⟩
 refine ⟨_,[_,_],_,I,f,I,?_⟩; clear f a d
 refine G I<|Nf<|aT ?_
 refine xd ?_
 refine aF<|G I<|M (.bool (((bC its 4 4 r.rest.1).err:Int) != 0))<|Na<|fD I (by rw [D]; simp)<|Nl<|Nc<|G I ?_
 refine M (Y (((bC its 4 4 r.rest.1).reply).length))<|M (Q0 its r)<|Na<|lG I (by have Q:=ACc.2 O; simp; omega) ?_
 refine Nc<|G I ?_
 refine R ?_
 refine iR (λw a=>(Gw 3 B32 z _ w (a.aR (j:=5) I (λ_ h=>aI.bM h)) (by omega) (by omega)).mono ?_)
 rintro e F ⟨A243,x,rfl,f⟩
 refine ⟨_,_,I,f,?_⟩; clear f a
 exact R<|eF [0] (λw a d=>zF bs _ m s t u n o _ p q b 3 A243 _ x w d)<|Nb<|G rfl<|Nh<|sN [_] λw a=>⟨_,_,I,(a.pick [0,1,2,3,6] I I)⟩
theorem Xb(bs A c its m q s t n D o p b X br r k A2 F g U S S2 w)(d:cC [aD bs 68 [(V A its c),m,q,s,t,n,D,(Z k 0),o,p,b],bH X br (r),aP g (S),aP U (S2)] w)(r0:Rf [aD bs 68 [(V A its c),m,q,s,t,n,D,(Z k 0),o,p,b],bH X br (r),aP g (S),aP U (S2)] w (eG))(_:Rf [aD bs 68 [(V A its c),m,q,s,t,n,D,(Z k 0),o,p,b],bH X br (r),aP g (S),aP U (S2)] w (λw=>aI w A (SS its)))(r2:Rf [aD bs 68 [(V A its c),m,q,s,t,n,D,(Z k 0),o,p,b],bH X br (r),aP g (S),aP U (S2)] w (jM k A2 F its 4 4 g U))(y:r.rest.2.end_=0)(l:r.rest.1≠[])(B:dD its)(H:its.length<=40)(L:its.length<=F)(K:r.rest.1.length<=1048576)(z:(bC its 4 4 r.rest.1).err=0)(Q:S.length<=549755813888)(T:S2.length<=549755813888)(N:(bC its 4 4 r.rest.1).reply=[]):
  Θ 92 #[(Z bs 0),(Z br 0)] w λe E=>∃ (Am:Δ) (P:Nat),e = .returned (C 0)/\aN [aD bs 68 [(V A its c),m,q,s,t,n,D,(Z k 0),o,p,b],bH X br (r),aP g (S),aP U (S2)] w [aD bs 68 [(V A its c),m,(C 1),(Y 5),(V Am (aE 5) P),n,bT,(Z k 0),o,p,b],bH X br (r.rest.2),aP g (S++(bC its 4 4 r.rest.1).need),aP U (S2++(bC its 4 4 r.rest.1).off),cB Am (aE 5) P] E:=by
 refine bS Tryz.func92 51 (d) rfl<|Nc<|G rfl<|Nf<|St.fact (λw a=>(a.at (i:=1) I).2.len) (λW=>?_)
 refine aF<|G I<|R ?_
 refine eF [1] (λw a d=>oD X br r w d) ?_
 refine R ?_
 refine fT [1] _ (λw a d=>(qL X br r (r.D.length - r.off) w d (by omega)).mono ?_)
 rintro e E ⟨B13,x,rfl,f⟩
 refine ⟨_,[_],_,I,f,I,?_⟩; clear f a d
 rw [show r.text _=r.rest from I]
 refine G I<|Ne<|G rfl<|R<|eF [1] (λw a d=>mO X br r.rest.2 w d)<|G I<|Nb<|G I<|M (F4 r)<|lm ?_
 refine St.known 21 (b':=false) I (by rw [y]; simp)<|G I<|lg (Y ((r.rest.1).length))<|lg (E9 r)<|M (E9 r)<|Na<|fD I (by have h9:=ACc.2 l; simp; exact l) ?_
 refine Ni<|G I<|M (Z bs 0)<|M (Z bs 7) ?_
 refine lL 0 I<|G I ?_
 refine R ?_
 refine fT [2,3] _ (λw a d=>(MA k A2 F its 4 4 g U B13 x r.rest.1 S S2 w d (r0.bJ a [2,3]) (r2.bJ a [2,3]) (a.fX [2,3] (j:=4) I (λ_ h=>aI.bM h)) (B) (by omega) (L) (H) (by decide) (by decide) (by decide) (by decide) (K) (Q) (T) (l) (z)).mono ?_)
 rintro e E ⟨B32,O,rfl,f⟩
 refine ⟨_,[_,_],_,I,f,I,?_⟩; clear f a d
 refine G I<|Nf<|aT ?_
 refine xd ?_
 refine aF<|G I<|M (.bool (((bC its 4 4 r.rest.1).err:Int) != 0))<|Na<|fD I (by rw [z]; simp)<|Nl<|Nc<|G I<|M (Y (((bC its 4 4 r.rest.1).reply).length))<|M (Q0 its r)<|Na ?_
 refine fD I (by rw [N]; rfl)<|Ni<|G I<|M (Z bs 0)<|M (Z bs 6) ?_
 refine R<|pS 0 I<|Nb ?_
 refine G I ?_
 refine R ?_
 refine iR (λw a=>(Gq none 0 bG 5 w Gv (by omega) (by decide)).mono ?_)
 rintro e E ⟨A249,u,rfl,f⟩
 refine ⟨_,_,I,f,?_⟩; clear f a
 rw [show bG++aE 5=aE 5 from I]
 exact R<|eF [0] (λw a d=>zF bs _ m q s t n bT _ o p b 5 A249 _ u w d)<|Nb<|G rfl<|Nd<|sN [_] λw a=>⟨_,_,I,(a.pick [0,1,2,3,6] I I)⟩
theorem Xc(bs A c its g k l h i j a AD z Dm q0 print q1 t b A2 p F U w)(m:cC [aD bs 68 [(V A its c),g,k,(Y 1),l,bF,h,(Z b 0),i,j,a]] w)(L:Rf [aD bs 68 [(V A its c),g,k,(Y 1),l,bF,h,(Z b 0),i,j,a]] w (eG))(N:Rf [aD bs 68 [(V A its c),g,k,(Y 1),l,bF,h,(Z b 0),i,j,a]] w (λw=>aI w A (SS its)))(O:Rf [aD bs 68 [(V A its c),g,k,(Y 1),l,bF,h,(Z b 0),i,j,a]] w (λw=>aI w AD (B8 Dm)))(P:Rf [aD bs 68 [(V A its c),g,k,(Y 1),l,bF,h,(Z b 0),i,j,a]] w (jM b A2 p its 4 4 F U))(r:Dm.length<=4294967296)(E:(Rd.mk Dm 0 0 0).uint=(2,q0))(K:q0.sum=(print,q1))(y:eZ q1.rest.1=some t)(n:q1.rest.2.end_=0)(u:t.seed=0)(o:dD its)(q:its.length<=40)(s:its.length<=p)(x:t.cells.length<=600)(H:nM its t print=none):
  Θ 48 #[(Z bs 0),(V AD Dm z)] w λe Q=>∃ (Am:Δ) (B:Nat),e = .returned (C 0)/\aN [aD bs 68 [(V A its c),g,k,(Y 1),l,bF,h,(Z b 0),i,j,a]] w [aD bs 68 [(V A its c),g,(C 1),(Y 3),(V Am (bB 3 (bK [dF its [] []])) B),bT,h,(Z b 0),i,j,a],cB Am (bB 3 (bK [dF its [] []])) B] Q:=by
 refine bS AA4 95 (m) rfl<|Nc<|G rfl<|Nb<|G rfl<|R<|dC (λw f=>qK AD z Dm w (O.aX f) (r)) λX10 d=>G I<|Nb<|G rfl<|Ne<|G rfl<|R<|eF [1] (λw f m=>sY X10 d _ w m)<|Ng<|aT ?_
 rw [show (Rd.mk Dm 0 0 0).uint.1=2 from by rw [E]]
 rw [show (Rd.mk Dm 0 0 0).uint.2=q0 from by rw [E]]
 refine aF<|lF<|G rfl<|Np<|aF<|lT<|G rfl<|No<|G rfl<|M (Z bs 0)<|M (Z bs 3)<|lL 0 rfl<|lT<|G rfl<|lg (Z bs 0)<|lg (Z bs 5)<|lu bF (bW 0 rfl rfl J rfl rfl)<|lg bT<|lT<|Nt<|aF<|G rfl<|R<|iT [0,1] (λw f m=>WZ bs A c its g k _ l bF h i j a X10 d q0 _ q1 t b A2 p F U w m (L.bJ f [0,1]) (N.bJ f [0,1]) (P.bJ f [0,1]) (K) (y) (n) (u) (o) (q) (s) (x) (H)) λAm46 D=>?_
 refine G I<|Nk<|Ny<|G I<|lT<|Nt<|aF<|G I<|M (Z bs 0)<|M (Z bs 5)<|R<|pS 0 I<|Nf ?_
 refine xd ?_
 exact aF<|G rfl<|Nd<|sN [_] λw f=>⟨_,_,I,(f.pick [0,2] I I)⟩
abbrev F9(a:Nat):Value:=.bool ((((a:Nat):Int):Int) != 0)
theorem Xd(bs A c its i m n o j k l a AD E Dm q0 f A2 s d U S S2 h w)(p:cC [aD bs 68 [(V A its c),i,m,(Y h),n,o,j,(Z f 0),k,l,a],aP d (S),aP U (S2)] w)(T:Rf [aD bs 68 [(V A its c),i,m,(Y h),n,o,j,(Z f 0),k,l,a],aP d (S),aP U (S2)] w (eG))(W:Rf [aD bs 68 [(V A its c),i,m,(Y h),n,o,j,(Z f 0),k,l,a],aP d (S),aP U (S2)] w (λw=>aI w A (SS its)))(X:Rf [aD bs 68 [(V A its c),i,m,(Y h),n,o,j,(Z f 0),k,l,a],aP d (S),aP U (S2)] w (λw=>aI w AD (B8 Dm)))(r3:Rf [aD bs 68 [(V A its c),i,m,(Y h),n,o,j,(Z f 0),k,l,a],aP d (S),aP U (S2)] w (jM f A2 s its 4 4 d U))(x:Dm.length<=4294967296)(L:(Rd.mk Dm 0 0 0).uint=(3,q0))(q:q0.rest.2.end_=0)(B:q0.rest.1≠[])(r:dD its)(t:its.length<=40)(y:its.length<=s)(u:q0.rest.1.length<=1048576)(z:(bC its 4 4 q0.rest.1).err=0)(O:S.length<=549755813888)(P:S2.length<=549755813888)(D:(bC its 4 4 q0.rest.1).reply≠[])(Q:h≠0):
  Θ 48 #[(Z bs 0),(V AD Dm E)] w λe N=>∃ (Am:Δ) (F:Nat),e = .returned (C 0)/\aN [aD bs 68 [(V A its c),i,m,(Y h),n,o,j,(Z f 0),k,l,a],aP d (S),aP U (S2)] w [aD bs 68 [(V A its c),i,(C 1),(Y 3),(V Am (bB 3 (bC its 4 4 q0.rest.1).reply) F),bT,j,(Z f 0),k,l,a],aP d (S++(bC its 4 4 q0.rest.1).need),aP U (S2++(bC its 4 4 q0.rest.1).off),cB Am (bB 3 (bC its 4 4 q0.rest.1).reply) F] N:=by
 refine bS AA4 95 (p) rfl<|Nc<|G rfl<|Nb<|G rfl<|R<|dC (λw b=>qK AD E Dm w (X.aX b) (x)) λX10 g=>G I<|Nb<|G rfl<|Ne<|G rfl<|R<|eF [3] (λw b p=>sY X10 g _ w p)<|Ng<|aT ?_
 rw [show (Rd.mk Dm 0 0 0).uint.1=3 from by rw [L]]
 rw [show (Rd.mk Dm 0 0 0).uint.2=q0 from by rw [L]]
 refine aF<|lF<|G rfl<|Np<|aF<|lF<|G rfl<|Np<|aF<|lT<|G rfl<|No<|G rfl<|M (Z bs 0)<|M (Z bs 3)<|lL 0 rfl<|M (F9 h)<|Na<|lG rfl (by simp; omega)<|aF<|G rfl<|R<|fT [0,3,1,2] _ (λw b p=>(Xa bs A c its i m _ n o j k l a X10 g q0 f A2 s d U S S2 w p (T.bJ b [0,3,1,2]) (W.bJ b [0,3,1,2]) (r3.bJ b [0,3,1,2]) (q) (B) (r) (t) (y) (u) (z) (O) (P) (D)).mono ?_)
 rintro e N ⟨Am56,H,rfl,K⟩
 refine ⟨_,[_,_,_,_],_,I,K,I,?_⟩; clear K b p
 refine G I<|Nk<|Ny<|G I<|lT<|Nt<|aF<|G I<|M (Z bs 0)<|M (Z bs 5)<|R<|pS 0 I<|Nf ?_
 refine xd ?_
 exact aF<|G rfl<|Nd<|sN [_] λw b=>⟨_,_,I,(b.pick [0,1,2,4] I I)⟩
theorem Xe(bs A c its i l m n o j k a AD E Dm q0 f A2 s d U S S2 h w)(p:cC [aD bs 68 [(V A its c),i,l,(Y h),m,n,o,(Z f 0),j,k,a],aP d (S),aP U (S2)] w)(T:Rf [aD bs 68 [(V A its c),i,l,(Y h),m,n,o,(Z f 0),j,k,a],aP d (S),aP U (S2)] w (eG))(W:Rf [aD bs 68 [(V A its c),i,l,(Y h),m,n,o,(Z f 0),j,k,a],aP d (S),aP U (S2)] w (λw=>aI w A (SS its)))(X:Rf [aD bs 68 [(V A its c),i,l,(Y h),m,n,o,(Z f 0),j,k,a],aP d (S),aP U (S2)] w (λw=>aI w AD (B8 Dm)))(r3:Rf [aD bs 68 [(V A its c),i,l,(Y h),m,n,o,(Z f 0),j,k,a],aP d (S),aP U (S2)] w (jM f A2 s its 4 4 d U))(x:Dm.length<=4294967296)(L:(Rd.mk Dm 0 0 0).uint=(3,q0))(q:q0.rest.2.end_=0)(B:q0.rest.1≠[])(r:dD its)(t:its.length<=40)(y:its.length<=s)(u:q0.rest.1.length<=1048576)(z:(bC its 4 4 q0.rest.1).err=0)(O:S.length<=549755813888)(P:S2.length<=549755813888)(D:(bC its 4 4 q0.rest.1).reply=[])(Q:h≠0):
  Θ 48 #[(Z bs 0),(V AD Dm E)] w λe N=>∃ (Am:Δ) (F:Nat),e = .returned (C 0)/\aN [aD bs 68 [(V A its c),i,l,(Y h),m,n,o,(Z f 0),j,k,a],aP d (S),aP U (S2)] w [aD bs 68 [(V A its c),i,(C 1),(Y 5),(V Am (aE 5) F),bT,bT,(Z f 0),j,k,a],aP d (S++(bC its 4 4 q0.rest.1).need),aP U (S2++(bC its 4 4 q0.rest.1).off),cB Am (aE 5) F] N:=by
 refine bS AA4 95 (p) rfl<|Nc<|G rfl<|Nb<|G rfl<|R<|dC (λw b=>qK AD E Dm w (X.aX b) (x)) λX10 g=>G I<|Nb<|G rfl<|Ne<|G rfl<|R<|eF [3] (λw b p=>sY X10 g _ w p)<|Ng<|aT ?_
 rw [show (Rd.mk Dm 0 0 0).uint.1=3 from by rw [L]]
 rw [show (Rd.mk Dm 0 0 0).uint.2=q0 from by rw [L]]
 refine aF<|lF<|G rfl<|Np<|aF<|lF<|G rfl<|Np<|aF<|lT<|G rfl<|No<|G rfl<|M (Z bs 0)<|M (Z bs 3)<|lL 0 rfl<|M (F9 h)<|Na<|lG rfl (by simp; omega)<|aF<|G rfl<|R<|fT [0,3,1,2] _ (λw b p=>(Xb bs A c its i l _ m n o j k a X10 g q0 f A2 s d U S S2 w p (T.bJ b [0,3,1,2]) (W.bJ b [0,3,1,2]) (r3.bJ b [0,3,1,2]) (q) (B) (r) (t) (y) (u) (z) (O) (P) (D)).mono ?_)
 rintro e N ⟨Am56,H,rfl,K⟩
 refine ⟨_,[_,_,_,_],_,I,K,I,?_⟩; clear K b p
 refine G I<|Nk<|Ny<|G I<|lT<|Nt<|aF<|G I<|M (Z bs 0)<|M (Z bs 5)<|R<|pS 0 I<|Nf ?_
 refine xd ?_
 exact aF<|G rfl<|Nd<|sN [_] λw b=>⟨_,_,I,(b.pick [0,1,2,4] I I)⟩
theorem Xf(bs g h n i o p j k l a AD q Dm q0 w)(d:cC [aD bs 68 [g,h,n,(Y 3),i,o,p,j,k,l,a]] w)(s:Rf [aD bs 68 [g,h,n,(Y 3),i,o,p,j,k,l,a]] w (λw=>aI w AD (B8 Dm)))(m:Dm.length<=4294967296)(r:(Rd.mk Dm 0 0 0).uint=(5,q0))(f:q0.end_=0):
  Θ 48 #[(Z bs 0),(V AD Dm q)] w λe t=>e = .returned (C 0)/\aN [aD bs 68 [g,h,n,(Y 3),i,o,p,j,k,l,a]] w [aD bs 68 [g,h,(C 0),(Y 3),i,bT,bT,j,k,l,a]] t:=by
 refine bS AA4 95 (d) rfl<|Nc<|G rfl<|Nb<|G rfl<|R<|dC (λw c=>qK AD q Dm w (s.aX c) (m)) λX10 b=>G I<|Nb<|G rfl<|Ne<|G rfl<|R<|eF [1] (λw c d=>sY X10 b _ w d)<|Ng<|aT ?_
 rw [show (Rd.mk Dm 0 0 0).uint.1=5 from by rw [r]]
 rw [show (Rd.mk Dm 0 0 0).uint.2=q0 from by rw [r]]
 refine aF<|lF<|G rfl<|Np<|aF<|lF<|G rfl<|Np<|aF<|lF<|G rfl<|Np<|aF<|lF<|G rfl<|Np<|aF<|lT<|G rfl<|No<|G rfl<|R<|eF [1] (λw c d=>mO X10 b q0 w d)<|G I ?_
 refine Nb<|G I<|M (T3 q0)<|lm ?_
 refine St.known 76 (b':=true) I (by rw [f]; rfl)<|G I<|lg (Z bs 0)<|lg (Z bs 3)<|lu _ (bW 0 I I J I I)<|lg bT<|lT<|No<|G I<|M (Z bs 0)<|M (Z bs 6)<|R<|pS 0 I<|M (Z bs 0)<|M (Z bs 2)<|R<|pS 0 I<|Na ?_
 refine xd ?_
 exact aF<|G rfl<|Nk<|Ny<|G rfl<|lT<|Nt<|aF<|G rfl<|M (Z bs 0)<|M (Z bs 5)<|R<|pS 0 rfl<|Nb<|G rfl<|Nd<|sN [_] λw c=>⟨I,(c.pick [0] I I)⟩
structure ND (its:List Bs) (D:Bs) (r:GH):Prop where
 need:∀ x∈r.need,x∉its /\ x.length=32
 off:∀ x∈r.off,x∈its
 cnt:r.need.length*32 <= D.length
 err:r.err≠0 -> r.reply=[] /\ r.need=[] /\ r.off=[]
theorem Xg{p:AP}(g:p.ok):(iB its p).length*32<=p.enc.length:=by
 obtain ⟨_,d⟩:=g
 obtain ⟨lo,h,c⟩:=p
 cases c with
 | sum n f=>simp [iB]
 | list b =>
   have e:=iN b its
   have a:=nL d.2.1
   simp only [iB,AP.enc,AC.enc,C3,a]
   omega
 | ans b i =>
   have e:=iN b its
   have a:=nL d.1.2.1
   simp only [iB,AP.enc,AC.enc,C3,a]
   omega
theorem Xh(its fan leaf D):ND its D (bC its fan leaf D):=by
 have t:∀ e:Int,ND its D ⟨[],e,[],[]⟩:=λe=>⟨zg,zg,si,zg⟩
 unfold bC
 split
 .grind
 .split
  .grind
  .rename_i j r
   split
   .grind
   .obtain ⟨q,d,_⟩:=vK r
    refine ⟨?_,?_,?_,λh=>absurd I h⟩
    .intro x a
     obtain ⟨p,k,a⟩:=T5.1 a
     refine ⟨?_,(Bg (d.2.1 p k)).2 x a⟩
     obtain ⟨lo,s,c⟩:=p
     cases c with
     | sum n f=>cases a
     | list b=>exact (vQ.1 (show x∈aL b its from a)).2
     | ans b m=>exact (vQ.1 (show x∈aL b its from a)).2
    .intro x a
     obtain ⟨p,k,a⟩:=T5.1 a
     obtain ⟨lo,s,c⟩:=p
     cases c with
     | sum n f=>cases a
     | list b=>exact (kZ.1 (vQ.1 (show x∈aL _ b from a)).1).1
     | ans b m=>exact (Mn.1 (show x∈fA m its from a)).2
    .have i:∀ l:List AP,(∀ p∈l,p.ok)->(l.flatMap (iB its)).length*32<=(l.flatMap AP.enc).length:=by
      intro l
      induction l with
      | nil=>grind
      | cons p l w =>
        intro h
        have o:=Xg (its:=its) (h p si)
        grind
     have o:=i j d.2.1
     have g:j.length≠0:=λe=>d.1 zg
     have u:(j.flatMap AP.enc).length<=D.length:=by
      rw [q,bK,P4 g,C3]; omega
     grind
theorem Xi(h:∀ x∈O,x∈l)(d:dD l)(c:l.length<=40):eM (aH [] O)=0/\(aH [] O).length<=40:=by
 have b:(aH [] O).length<=40:=P8 (GW (GF _) λx a=>h x (GG.1 a)) c
 exact ⟨qJ U ⟨λx a=>d.1 x (h x (GG.1 a)),GF O⟩,b⟩
theorem Xj(h:t.seed≠0):kH t t.cells.length 0=false:=by simp [kH,h]
theorem NF(c:D≠[])(a:(bC its fan leaf D).err≠0)(b:(bC its fan leaf D).err≠2):iO D=none:=by
 cases d:iO D with
 | none=>rfl
 | some e =>
   exfalso
   unfold bC at a b
   grind
theorem Xk(bs X br r w)(d:cC [bH X br (r)] w)(k:eS r.rest.1=none\/r.rest.2.end_≠0):
  Θ 90 #[(Z bs 0),(Z br 0)] w λe q=>e = .returned (C 3)/\aN [bH X br (r)] w [bH X br (r.rest.2)] q:=by
 refine bS Tryz.func90 103 (d) rfl<|Nc<|G rfl<|Nf<|St.fact (λw b=>(b.at (i:=0) I).2.len) (λo=>?_)
 have p:=r.qS (r.D.length - r.off)
 refine aF<|G rfl<|R<|eF [0] (λw b d=>oD X br r w d)<|R<|iI [0] (λw b d=>qL X br r (r.D.length - r.off) w d U) λB20 f=>?_
 rw [show r.text _=r.rest from I]
 refine R<|uX (λw b=>Ba B20 f r.rest.1 w (b.aR (j:=1) I (λ_ h=>aI.bM h)) (by unfold Rd.rest; omega)) λg Xs21 n m a=>G I<|R<|pA E6 λs=>R<|dE 3 g I I J I I I (by rw [a.1]; kernel_rfl) I (by rw [a.1]; decide) a.2 (by rw [List.take_zero,List.nil_append,a.1]; simp) ?_
 refine G I<|Nf<|aT ?_
 refine xd ?_
 refine aF<|G rfl<|R<|eF [0] (λw b d=>mO X br r.rest.2 w d)<|G I<|Nb<|G I<|M (F4 r)<|lm ?_
 refine St.dec 31 I (λc=>?_) (λc=>?_)
 .exact G I<|lT<|No<|G rfl<|Nh<|sN [_] λw b=>⟨I,(b.pick [0] I I)⟩
 .have l:eS _=none:=k.resolve_right (su c)
  exact G I<|lg (J5 r)<|M (J5 r)<|Na<|lG rfl (by rw [l]; rfl)<|Nc<|G rfl<|Nh<|sN [_] λw b=>⟨I,(b.pick [0] I I)⟩
theorem Xm(bs A c its m s t u n o p q d X br r ts k l A2 K W U w)(f:cC [aD bs 68 [(V A its c),m,s,t,u,n,o,(Z l 0),p,q,d],bH X br (r)] w)(O:Rf [aD bs 68 [(V A its c),m,s,t,u,n,o,(Z l 0),p,q,d],bH X br (r)] w (eG))(r1:Rf [aD bs 68 [(V A its c),m,s,t,u,n,o,(Z l 0),p,q,d],bH X br (r)] w (λw=>aI w A (SS its)))(r2:Rf [aD bs 68 [(V A its c),m,s,t,u,n,o,(Z l 0),p,q,d],bH X br (r)] w (jM l A2 K its 4 4 W U))(g:eS r.rest.1=some ts)(B:r.rest.2.end_=0)(H:dD its)(ad:its.length<=40)(ae:its.length<=K)(D:iA ts (bO its)=k)(hk:500 < k):
  Θ 90 #[(Z bs 0),(Z br 0)] w λe P=>∃ (Am:Δ) (S:Nat),e = .returned (C 0)/\aN [aD bs 68 [(V A its c),m,s,t,u,n,o,(Z l 0),p,q,d],bH X br (r)] w [aD bs 68 [(V A its c),m,(C 1),(Y 3),(V Am (bB 3 (bK [dF its [] []])) S),n,o,(Z l 0),p,q,d],bH X br (r.rest.2),cB Am (bB 3 (bK [dF its [] []])) S] P:=by
 refine bS Tryz.func90 103 (f) I<|Nc<|G I<|Nf ?_
 have L:=H.1
 refine St.fact (λw b=>(b.at (i:=1) I).2.len) (λaf=>?_)
 have ah:=r.qS (r.D.length - r.off)
 refine aF<|G I<|R ?_
 refine eF [1] (λw b f=>oD X br r w f) ?_
 refine R ?_
 refine fT [1] _ (λw b f=>(qL X br r (r.D.length - r.off) w f (by omega)).mono ?_)
 rintro e P ⟨B20,x,rfl,z⟩
 refine ⟨_,[_],_,I,z,I,?_⟩; clear z b f
 rw [show r.text _=r.rest from I]
 refine R<|uX (λw b=>Ba B20 x r.rest.1 w (b.aR (j:=2) I (λ_ h=>aI.bM h)) (by unfold Rd.rest; omega)) λQ Xs21 ab F N=>?_
 obtain ⟨rfl,rfl,a⟩:=F _ g
 have y:(eS r.rest.1).isSome=true:=by rw [g]; rfl
 refine G I<|R<|pA E6 λb5=>R<|dE 4 (eA Xs21) I I J I I I (by rw [iY,a]; kernel_rfl) I (by rw [iY,a]; decide) (xB _) (by rw [X5,U6,iY,a]; simp) ?_
 refine G I<|Nf<|aT ?_
 refine xd ?_
 refine aF<|G rfl<|R<|eF [1] (λw b f=>mO X br r.rest.2 w f)<|G I<|Nb<|G I<|M (F4 r)<|lm ?_
 refine St.known 31 (b':=false) I (by rw [B]; simp)<|G I<|lg (J5 r)<|M (J5 r)<|Na<|fD I (by rw [y]; rfl)<|Nl<|dN _ 20 J η<|aV 0 _ I (gI _ I I J (by rw [iY,a]; kernel_rfl) (cW (i:=4) I yy))<|am 1 ?_
 refine aC 2 (Z bs 0) I<|aC 3 (Z bs 0) I<|al 4 0 ?_
 refine am 7 ?_
 refine aC 8 (Z bs 0) I<|aC 9 (Z bs 0) I<|al 10 0 ?_
 refine aC 11 (Y its.length) I ?_
 refine aA 5 I ?_
 refine iR (λw b=>(Dg A c its w (O.aX b) (r1.aX b) (by assumption) (by omega)).mono ?_)
 rintro e P ⟨Xs41,rfl,z,E⟩
 refine ⟨_,_,I,z,?_⟩; clear z b
 refine aQ _ (κ [0,1,2,3,4] I I) η<|aA 6 rfl<|bV (λw b=>Gu Xs21 ts Xs41 _ w (O.aX b) (b.aR (j:=3) I η) (b.aR (j:=5) I η) ((oV g).2) ((oV g).1) (a) (nA L) (mA its) (E)) ?_
 refine xd ?_
 refine aQ _ η η<|aA 12 rfl<|bV (λw b=>VF (iA ts _) its.length w (by rw [D]; exact hk))<|aQ _ η η<|am 13 ?_
 refine aC 14 (C 2) I<|aC 15 (C 0) I<|aC 16 (C 0) I<|aa 17 ?_
 refine aa 18 ?_
 refine aa 19 ?_
 exact cG J<|aJ<|Ny<|G rfl<|lF<|Nn<|Nc<|G rfl<|lT<|No<|G rfl<|R<|iI [0] (λw b f=>NC bs _ m s t u n o p q d its l A2 K W U w f (O.bJ b [0]) (r2.bJ b [0]) ag ag ag) λAm58 T=>Nb<|G rfl<|Nh<|sN [_] λw b=>⟨_,_,I,(b.pick [0,1,6] I I)⟩
theorem Xn(bs X br r w)(d:cC [bH X br (r)] w)(b:(r.sum.2.rest.2.end_≠0\/∀ t,eZ r.sum.2.rest.1=some t->t.seed≠0)):
  Θ 91 #[(Z bs 0),(Z br 0)] w λe n=>e = .returned (C 3)/\aN [bH X br (r)] w [bH X br (r.sum.2.rest.2)] n:=by
 refine bS Tryz.func91 100 (d) rfl<|Nc<|G rfl<|Nb<|G rfl<|R<|eF [0] (λw a d=>wX X br r w d)<|G I<|Nf<|St.to [bH X br (r.sum.2)] J ?_
 rcases l:eZ r.sum.2.rest.1 with _ | t
 .refine St.fact (λw a=>(a.at (i:=0) I).2.len) (λg=>?_)
  have k:=r.sum.2.qS (r.sum.2.D.length - r.sum.2.off)
  refine aF<|G rfl<|R<|eF [0] (λw a d=>oD X br _ w d)<|R<|iI [0] (λw a d=>qL X br _ (r.sum.2.D.length - r.sum.2.off) w d U) λB25 f=>?_
  rw [show r.sum.2.text _=r.sum.2.rest from I]
  refine R<|bV (λw a=>KU B25 f _ w (a.aR (j:=1) I (λ_ h=>aI.bM h)) (by unfold Rd.rest; omega) ag)<|G rfl<|Ne<|G rfl<|R<|eF [0] (λw a d=>mO X br r.sum.2.rest.2 w d)<|G I<|Nf ?_
  refine xd ?_
  refine aF<|G I<|M (.bool ((r.sum.2.rest.2.end_:Int) != 0))<|lm ?_
  refine St.dec 36 I (λc=>?_) (λc=>?_)
  .exact G I<|lT<|G rfl<|lT<|No<|G rfl<|Nh<|sN [_] λw a=>⟨I,(a.pick [0] I I)⟩
  .replace b:=b.resolve_left (su c)
   exact G I<|lg bT<|lT<|G rfl<|lT<|No<|G rfl<|Nh<|sN [_] λw a=>⟨I,(a.pick [0] I I)⟩
 .have m:=(tZ l).2
  refine St.fact (λw a=>(a.at (i:=0) I).2.len) (λg=>?_)
  have k:=r.sum.2.qS (r.sum.2.D.length - r.sum.2.off)
  refine aF<|G rfl<|R<|eF [0] (λw a d=>oD X br _ w d)<|R<|iI [0] (λw a d=>qL X br _ (r.sum.2.D.length - r.sum.2.off) w d U) λB25 f=>?_
  rw [show r.sum.2.text _=r.sum.2.rest from I]
  refine R<|gT (λw a=>CF B25 f _ t w (a.aR (j:=1) I (λ_ h=>aI.bM h)) (by unfold Rd.rest; omega) ag) λX26=>G I<|Ne<|G rfl<|R<|eF [0] (λw a d=>mO X br r.sum.2.rest.2 w d)<|G I<|Nf ?_
  refine xd ?_
  refine aF<|G I<|M (.bool ((r.sum.2.rest.2.end_:Int) != 0))<|lm ?_
  refine St.dec 36 I (λc=>?_) (λc=>?_)
  .exact G I<|lT<|G rfl<|lT<|No<|G rfl<|Nh<|sN [_] λw a=>⟨I,(a.pick [0] I I)⟩
  .replace b:=b.resolve_left (su c)
   exact G I<|lg bF<|lF<|G rfl<|dP rfl rfl<|bV (λw a=>AB X26 t w (a.aR (j:=2) I η))<|dP rfl rfl<|bV (λw a=>Dd X26 t _ 0 w (a.aR (j:=2) I η) (m) (by unfold dA; decide))<|lg (I0 t)<|M (I0 t)<|Na<|lG rfl (by rw [Xj (b _ l)]; rfl)<|Nc<|G rfl<|Nh<|sN [_] λw a=>⟨I,(a.pick [0] I I)⟩
theorem Xo(bs A c its L N O P Q T W v9 y X br r x A2 p g U S S2 w)(d:cC [bH X br (r),aP g (S),aP U (S2)] w)(F:Rf [bH X br (r),aP g (S),aP U (S2)] w (eG))(H:Rf [bH X br (r),aP g (S),aP U (S2)] w (λw=>At w bs 68 [(V A its c),L,N,O,P,Q,T,(Z x 0),W,v9,y]))(_:Rf [bH X br (r),aP g (S),aP U (S2)] w (λw=>aI w A (SS its)))(K:Rf [bH X br (r),aP g (S),aP U (S2)] w (jM x A2 p its 4 4 g U))(b:(r.rest.2.end_≠0\/r.rest.1=[]\/(bC its 4 4 r.rest.1).err≠0))(o:dD its)(s:its.length<=40)(u:its.length<=p)(t:r.rest.1.length<=1048576)(B:S.length<=549755813888)(D:S2.length<=549755813888)(q:(bC its 4 4 r.rest.1).err≠2):
  Θ 92 #[(Z bs 0),(Z br 0)] w λe z=>e = .returned (C 3)/\aN [bH X br (r),aP g (S),aP U (S2)] w [bH X br (r.rest.2),aP g (S),aP U (S2)] z:=by
 refine bS Tryz.func92 51 (d) rfl<|Nc<|G rfl<|Nf<|St.fact (λw a=>(a.at (i:=0) I).2.len) (λE=>?_)
 refine aF<|G I<|R ?_
 refine eF [0] (λw a d=>oD X br r w d) ?_
 refine R ?_
 refine fT [0] _ (λw a d=>(qL X br r (r.D.length - r.off) w d (by omega)).mono ?_)
 rintro e z ⟨B13,l,rfl,m⟩
 refine ⟨_,[_],_,I,m,I,?_⟩; clear m a d
 rw [show r.text _=r.rest from I]
 refine G I<|Ne<|G rfl<|R<|eF [0] (λw a d=>mO X br r.rest.2 w d)<|G I<|Nb<|G I<|M (F4 r)<|lm ?_
 refine St.dec 21 I (λk=>?_) (λk=>?_)
 .exact G I<|lT<|No<|G rfl<|Nh<|sN [_] λw a=>⟨I,(a.pick [0,1,2] I I)⟩
 .replace b:=b.resolve_left (su k)
  refine G I<|lg (Y ((r.rest.1).length))<|lg (E9 r)<|M (E9 r) ?_
  refine qi I (λf=>?_) λf=>?_
  .exact Nc<|G rfl<|Nh<|sN [_] λw a=>⟨I,(a.pick [0,1,2] I I)⟩
  .have n:¬ r.rest.1.length=0:=by simpa using f
   replace b:=b.resolve_left (su f)
   refine Ni<|G I<|M (Z bs 0)<|M (Z bs 7) ?_
   refine lW (rW (λw a=>At.cell (H.now a) 7))<|G I ?_
   refine R ?_
   refine fT [1,2] _ (λw a d=>(Wr x A2 p its 4 4 g U B13 l _ S S2 w d (F.bJ a [1,2]) (K.bJ a [1,2]) (a.fX [1,2] (j:=3) I (λ_ h=>aI.bM h)) (o) (by omega) (u) (s) (by decide) (by decide) (by decide) (by decide) (t) (B) (D) (n) (NF (λe=>n (by rw [e]; rfl)) b q)).mono ?_)
   rintro e z ⟨rfl,m⟩
   refine ⟨_,[_,_],_,I,m,I,?_⟩; clear m a d
   refine G I<|Nf<|aT ?_
   refine xd ?_
   exact aF<|G rfl<|lT<|No<|G rfl<|Nh<|sN [_] λw a=>⟨I,(a.pick [0,1,2] I I)⟩
theorem Xp{q0:Rd}(b:(Rd.mk Dm 0 0 0).uint=(k,q0))(h:Dm.length<=1000000):q0.rest.1.length<=1048576:=by
 have a:=Rd.Iz (Rd.mk Dm 0 0 0)
 rw [b] at a
 have d:=q0.qS (q0.D.length - q0.off)
 have c:q0.D.length=Dm.length:=zg
 unfold Rd.rest
 omega
theorem Xq(h:st≠2):Value.tuple #[((oZ [(2,F)] st).map (λv:Value=>v)).getD .nilFunc,.bool (oZ [(2,F)] st).isSome] = .tuple #[.nilFunc,.bool false]:=by
 have e:oZ [(2,F)] st=none:=by simp [oZ,AIa h]
 grind
theorem NG{r:Rd}(h:(r.cK i).1.Pairwise (· < ·))(w:0 < i->∃ x y,(r.cK (i+1)).1[i - 1]?=some x/\(r.cK (i+1)).1[i]?=some y/\x < y):(r.cK (i+1)).1.Pairwise (· < ·):=by
 have e:(r.cK (i+1)).1=(r.cK i).1++[(r.cK i).2.sum.1]:=I
 have u:(r.cK i).1.length=i:=Rd.uM _ _
 rw [e,o4]
 refine ⟨h,ABf ..,λa q b m=>?_⟩
 rw [G2] at m
 subst m
 obtain ⟨j,f⟩:=o8.1 q
 have t:=(C4.1 f).1
 obtain ⟨x,y,c,d,l⟩:=w U
 rw [e,R1 U] at c
 rw [e,T8 U,u,W6] at d
 simp only [AC0,V4] at d
 subst d
 rcases W4 j (i - 1) with k | s
 .obtain ⟨a1,n⟩:=C4.1 f
  obtain ⟨o,p⟩:=C4.1 c
  have:=Z6.1 h j _ a1 o k
  rw [n,p] at this
  exact List.lt_trans this l
 .have g:j=i - 1:=U
  subst g
  rw [f] at c
  injection c with c
  subst c
  exact l
theorem NH(X br r w)(d:cC [bH X br (r)] w)(n:¬ (r.items 16384).1.Pairwise (· < ·)):
  Θ 139 #[(Z br 0)] w λe S=>∃ (q:Rd),e = .returned (.tuple #[nS,bF])/\aN [bH X br (r)] w [bH X br (q)] S:=by
 refine eO Tryz.func139 40 (d) rfl<|Nc<|G rfl<|Nf<|St.fact (λw b=>(b.at (i:=0) I).2.len) (λN=>aF<|G rfl<|R<|eF [0] (λw b d=>oD X br r w d)<|lw (Q8 r) (vJ I I I U U)<|lw (Y (r.bP 16384)) (Ce I I I) ?_)
 have K:r.bP _<=16384:=AD9 _ _
 refine R<|eF [0] (λw b d=>CQ X br r (r.bP 16384) w d U) ?_
 have H:=r.xP (r.bP 16384)
 refine G I<|Nb<|G rfl<|R<|CR gD _ U rfl rfl J rfl rfl (λy=>G I<|Ne<|G rfl<|Ng<|sL (λ(i,AX,j)=>i<=(r.cnt (r.bP 16384)).1/\(((r.cnt (r.bP 16384)).2.cK i).1).Pairwise (· < ·)) (λ(i,AX,j)=>(r.cnt (r.bP 16384)).1 - i) (λ(i,AX,j)=>[(0,(Z br 0)),(2,nS),(3,bF),(15,(Y ((r.cnt (r.bP 16384)).1))),(5,(V AX (((r.cnt (r.bP 16384)).2.cK i).1) j)),(16,(Y i))]) (λ(i,AX,j)=>[bH X br (((r.cnt (r.bP 16384)).2.cK i).2),cS AX (((r.cnt (r.bP 16384)).2.cK i).1) j]) (0,(qa y),((r.cnt _).1)) ⟨G6 _,List.Pairwise.nil⟩ (λw b=>by show Mm _ _ _ w; exact b) ?_) U
 rintro ⟨i,AX,j⟩ ⟨L,g⟩
 dsimp only
 refine Nc<|M (P9 i r) ?_
 refine χ I (λs=>?_) λs=>?_
 .refine Nm<|aF<|G rfl<|Nb<|G rfl<|R<|eF [0] (λw b d=>wX X br _ w d)<|R<|pN 1 9 (N3 r i) λF=>R<|cL gD 1 _ rfl rfl J rfl rfl rfl (rfl) (fE (i:=2) rfl yy) (by simp [Value.oneCell']) (by rw [Rd.uM]; omega) ((((r.cnt (r.bP 16384)).2.cK i).1++(J0 r i)).length) dV (SS (((r.cnt (r.bP 16384)).2.cK i).1++(J0 r i))) (by simp [SS]) (λA23 k=>G I<|Nf ?_)
  rw [show ((r.cnt _).2.cK i).1++[_]=((r.cnt _).2.cK (i+1)).1 from I]
  rw [show (((r.cnt _).2.cK i).2).sum.2=((r.cnt _).2.cK (i+1)).2 from I]
  have O:(((r.cnt (r.bP 16384)).2.cK _).1).length=i+1:=Rd.uM _ _
  refine dN _ 14 J η ?_
  refine am 0 ?_
  refine aC 1 (D0 i) I ?_
  refine am 2 ?_
  refine Any.dec 26 I (λa=>?_) (λa=>?_)
  .have t:=D4 a
   refine fQ 3 ?_
   refine fQ 4 ?_
   refine aW 5 (Q6 i) I (jT _ I I I U U U) ?_
   obtain ⟨B,u⟩:∃ D,(((r.cnt (r.bP 16384)).2.cK (i+1)).1)[i - 1]?=some D:=⟨_,E1 U⟩
   refine Any.fC (λw b=>fM (i:=1) I w b) (fR u) (λz P l o=>aW 6 (Z z _) I (qF (e:=9) I J J I I l U)<|aW 7 (vS B) I (gN I I J o)<|fQ 8 ?_)
   refine fQ 9 ?_
   obtain ⟨E,x⟩:∃ D,(((r.cnt (r.bP 16384)).2.cK (i+1)).1)[i]?=some D:=⟨_,E1 U⟩
   refine Any.fC (λw b=>fM (i:=1) I w b) (fR x) (λA Q m p=>aW 10 (Z A _) I (qF (e:=9) I J J I I m U)<|aW 11 _ I (gN I I J p)<|aW 12 (.bool (!decide (B < E))) I (tS I I I)<|aC 13 (.bool (!decide (B < E))) I<|cG J ?_)
   refine aJ (aY I (λc=>?_) (λc=>?_))
   .exact Nc<|G rfl<|Nd<|eL<|cJ<|cJ<|eL<|cJ<|sN [nS,bF] λw b=>⟨_,I,(b.pick [0] I I)⟩
   .have f:=NG g (λ_=>⟨_,_,u,x,by simpa using c⟩)
    exact Nw<|aF<|lw (Y (i+1)) bN<|G I<|aO (aJ (sA (i+1,A23,k) (⟨U,f⟩) (by show (r.cnt _).1 - (i+1) < (r.cnt _).1 - i; omega) (κ [0,1] I I)))
  .have t:=C7 a
   have f:=NG g (λh=>absurd h (by have:=a; simp at this; omega))
   refine bR 3 ?_
   refine bR 4 ?_
   refine bR 5 ?_
   refine bR 6 ?_
   refine bR 7 ?_
   refine bR 8 ?_
   refine bR 9 ?_
   refine bR 10 ?_
   refine bR 11 ?_
   refine bR 12 ?_
   exact aC 13 bF I<|cG J<|aJ<|oO I<|Nw<|aF<|lw (Y (i+1)) bN<|G I<|aO (aJ (sA (i+1,A23,k) (⟨U,f⟩) (by show (r.cnt _).1 - (i+1) < (r.cnt _).1 - i; omega) (κ [0,1] I I)))
 .obtain rfl:i=(r.cnt (r.bP 16384)).1:=U
  exact absurd g n
abbrev P0(a:List (List UInt8))(b:Rd):Value:=.bool (!(iX a ((b.items 16384).1) ((((b.items 16384).2).items 16384).1)))
theorem Xr(bs A c its t u x y z B D E F o X br r w)(f:cC [bH X br (r)] w)(L:Rf [bH X br (r)] w (λw=>At w bs 68 [(V A its c),t,u,x,y,z,B,D,E,F,o]))(N:Rf [bH X br (r)] w (λw=>aI w A (SS its)))(a:(¬ (r.items 16384).1.Pairwise (· < ·)\/¬ ((r.items 16384).2.items 16384).1.Pairwise (· < ·)\/((r.items 16384).2.items 16384).2.end_≠0\/iX its (r.items 16384).1 ((r.items 16384).2.items 16384).1=false))(P:its.Pairwise (· < ·))(O:its.length<=68719476736):
  Θ 93 #[(Z bs 0),(Z br 0)] w λe s=>∃ (q:Rd),e = .returned (C 3)/\aN [bH X br (r)] w [bH X br (q)] s:=by
 refine bS Tryz.func93 47 (f) I<|Nc<|G I<|Nf ?_
 rcases j8 ((r.items 16384).1.Pairwise (· < ·)) with g | g
 .replace a:=a.resolve_left (λh=>h g)
  refine aF<|G rfl<|R<|iI [0] (λw b f=>Du X br r w f (g)) λB12 l=>?_
  have H:=r.oJ 16384
  have K:=(r.items 16384).2.oJ 16384
  refine G I<|Ne<|G I<|lF<|Nn ?_
  refine xd ?_
  rcases j8 (((r.items 16384).2.items 16384).1.Pairwise (· < ·)) with i | i
  .replace a:=a.resolve_left (λh=>h i)
   refine aF<|G rfl<|R<|iI [0] (λw b f=>Du X br _ w f (i)) λB19 m=>G I<|Ne<|G rfl<|R<|eF [0] (λw b f=>mO X br _ w f)<|G I<|Nb<|G I<|M (.bool ((((((r.items 16384).2).items 16384).2).end_:Int) != 0))<|lm ?_
   refine St.dec 29 I (λd=>?_) (λd=>?_)
   .exact G I<|lT<|G rfl<|lT<|No<|G rfl<|Nh<|sN [_] λw b=>⟨_,I,(b.pick [0] I I)⟩
   .try replace a:=a.resolve_left (su d)
    exact G I<|lg bF<|lF<|G rfl<|dP rfl rfl<|bV (λw b=>Di bs A c its t u x y z B D E F o B12 l _ B19 m _ w (L.aX b) (N.aX b) (b.aR (j:=1) I (λ_ h=>aI.bM h)) (b.aR (j:=2) I (λ_ h=>aI.bM h)) ag U U U)<|lg (P0 its r)<|M (P0 its r)<|Na<|lG rfl (by rw [a]; rfl)<|Nc<|G rfl<|Nh<|sN [_] λw b=>⟨_,I,(b.pick [0] I I)⟩
  .refine aF<|G rfl<|R<|fT [0] _ (λw b f=>(NH X br _ w f (i)).mono ?_)
   rintro e s ⟨k,rfl,n⟩
   refine ⟨_,[_],_,I,n,I,?_⟩; clear n b f
   refine G I<|Nf<|aT ?_
   refine xd ?_
   refine aF<|G rfl<|R<|eF [0] (λw b f=>mO X br k w f)<|G I<|Nb<|G I<|M (.bool ((k.end_:Int) != 0))<|lm ?_
   refine St.dec 29 I (λd=>?_) (λd=>?_)
   .exact G I<|lT<|G rfl<|lT<|No<|G rfl<|Nh<|sN [_] λw b=>⟨k,I,(b.pick [0] I I)⟩
   .try replace a:=a.resolve_left (su d)
    exact G I<|lg bT<|lT<|G rfl<|lT<|No<|G rfl<|Nh<|sN [_] λw b=>⟨k,I,(b.pick [0] I I)⟩
 .refine aF<|G rfl<|R<|fT [0] _ (λw b f=>(NH X br r w f (g)).mono ?_)
  rintro e s ⟨p,rfl,n⟩
  refine ⟨_,[_],_,I,n,I,?_⟩; clear n b f
  exact G I<|Ne<|G rfl<|lT<|No<|G rfl<|Nh<|sN [_] λw b=>⟨p,I,b⟩
theorem Xt(bs A c its j l m g h i a AD y Dm q0 ts k b A2 r E U w)(n:cC [aD bs 68 [(V A its c),bF,j,l,m,bF,g,(Z b 0),h,i,a]] w)(H:Rf [aD bs 68 [(V A its c),bF,j,l,m,bF,g,(Z b 0),h,i,a]] w (eG))(K:Rf [aD bs 68 [(V A its c),bF,j,l,m,bF,g,(Z b 0),h,i,a]] w (λw=>aI w A (SS its)))(L:Rf [aD bs 68 [(V A its c),bF,j,l,m,bF,g,(Z b 0),h,i,a]] w (λw=>aI w AD (B8 Dm)))(N:Rf [aD bs 68 [(V A its c),bF,j,l,m,bF,g,(Z b 0),h,i,a]] w (jM b A2 r its 4 4 E U))(t:Dm.length<=4294967296)(D:(Rd.mk Dm 0 0 0).uint=(1,q0))(x:eS q0.rest.1=some ts)(o:q0.rest.2.end_=0)(q:dD its)(s:its.length<=40)(u:its.length<=r)(p:iA ts (bO its)=k)(F:500 < k):
  Θ 48 #[(Z bs 0),(V AD Dm y)] w λe O=>∃ (Am:Δ) (z:Nat),e = .returned (C 0)/\aN [aD bs 68 [(V A its c),bF,j,l,m,bF,g,(Z b 0),h,i,a]] w [aD bs 68 [(V A its c),bF,(C 1),(Y 3),(V Am (bB 3 (bK [dF its [] []])) z),bT,g,(Z b 0),h,i,a],cB Am (bB 3 (bK [dF its [] []])) z] O:=by
 refine bS AA4 95 (n) rfl<|Nc<|G rfl<|Nb<|G rfl<|R<|dC (λw f=>qK AD y Dm w (L.aX f) (t)) λX10 d=>G I<|Nb<|G rfl<|Ne<|G rfl<|R<|eF [1] (λw f n=>sY X10 d _ w n)<|Ng<|aT ?_
 rw [show (Rd.mk Dm 0 0 0).uint.1=1 from by rw [D]]
 rw [show (Rd.mk Dm 0 0 0).uint.2=q0 from by rw [D]]
 refine aF<|lT<|G rfl<|No<|G rfl<|M (Z bs 0)<|M (Z bs 1)<|lL 0 rfl<|lT<|G rfl<|lg (Z bs 0)<|lg (Z bs 5)<|lu bF (bW 0 rfl rfl J rfl rfl)<|lg bT<|lT<|Nt<|aF<|G rfl<|R<|iT [0,1] (λw f n=>Xm bs A c its bF j l m bF g h i a X10 d q0 ts k b A2 r E U w n (H.bJ f [0,1]) (K.bJ f [0,1]) (N.bJ f [0,1]) (x) (o) (q) (s) (u) (p) (F)) λAm29 B=>G I<|Nk<|Ny<|G I ?_
 refine lT<|Nt<|aF<|G I<|M (Z bs 0)<|M (Z bs 5)<|R<|pS 0 I<|Nf ?_
 refine xd ?_
 exact aF<|G rfl<|Nd<|sN [_] λw f=>⟨_,_,I,(f.pick [0,2] I I)⟩
abbrev O7(a:Bool):Value:=.bool (!a)
theorem Xu(bs A c its s u x y z d AD cD Dm q0 r A2 c2 q U S S2 k bg rc f w)(g:cC [aD bs 68 [(V A its c),(.bool bg),s,(Y f),u,(.bool rc),x,(Z r 0),y,z,d],aP q (S),aP U (S2)] w)(r0:Rf [aD bs 68 [(V A its c),(.bool bg),s,(Y f),u,(.bool rc),x,(Z r 0),y,z,d],aP q (S),aP U (S2)] w (eG))(r1:Rf [aD bs 68 [(V A its c),(.bool bg),s,(Y f),u,(.bool rc),x,(Z r 0),y,z,d],aP q (S),aP U (S2)] w (λw=>aI w A (SS its)))(r2:Rf [aD bs 68 [(V A its c),(.bool bg),s,(Y f),u,(.bool rc),x,(Z r 0),y,z,d],aP q (S),aP U (S2)] w (λw=>aI w AD (B8 Dm)))(r3:Rf [aD bs 68 [(V A its c),(.bool bg),s,(Y f),u,(.bool rc),x,(Z r 0),y,z,d],aP q (S),aP U (S2)] w (jM r A2 c2 its 4 4 q U))(ae:Dm.length<=1000000)(hu:(Rd.mk Dm 0 0 0).uint=(k,q0))(hs:its.Pairwise (· < ·))(hn:its.length<=68719476736)(T:dD its)(ad:its.length<=40)(af:its.length<=c2)(hS:S.length<=549755813888)(hT:S2.length<=549755813888)(N:k=1->bg=true\/rc=true\/eS q0.rest.1=none\/q0.rest.2.end_≠0)(O:k=2->f≠1\/rc=true\/(q0.sum.2.rest.2.end_≠0\/∀ t,eZ q0.sum.2.rest.1=some t->t.seed≠0))(P:k=3->f=0\/(q0.rest.2.end_≠0\/q0.rest.1=[]\/(bC its 4 4 q0.rest.1).err≠0))(Q:k=4->f≠2\/(¬ (q0.items 16384).1.Pairwise (· < ·)\/¬ ((q0.items 16384).2.items 16384).1.Pairwise (· < ·)\/((q0.items 16384).2.items 16384).2.end_≠0\/iX its (q0.items 16384).1 ((q0.items 16384).2.items 16384).1=false))(W:k=5->q0.end_≠0\/f≠3)(ab:(bC its 4 4 q0.rest.1).err≠2):
  Θ 48 #[(Z bs 0),(V AD Dm cD)] w λe X=>e = .returned (C 3)/\aN [aD bs 68 [(V A its c),(.bool bg),s,(Y f),u,(.bool rc),x,(Z r 0),y,z,d],aP q (S),aP U (S2)] w [aD bs 68 [(V A its c),(.bool bg),s,(Y f),u,(.bool rc),x,(Z r 0),y,z,d],aP q (S),aP U (S2)] X:=by
 refine bS AA4 95 (g) I<|Nc<|G I ?_
 refine Nb<|G I ?_
 refine R ?_
 refine iR (λw a=>(qK AD cD Dm w (r2.aX a) (by omega)).mono ?_)
 rintro e X ⟨X10,b,rfl,B⟩
 refine ⟨_,_,I,B,?_⟩; clear B a
 refine G I<|Nb<|G rfl<|Ne<|G rfl<|R<|eF [3] (λw a g=>sY X10 b _ w g)<|Ng<|aT ?_
 rw [show (Rd.mk Dm 0 0 0).uint.1=k from by rw [hu]]
 rw [show (Rd.mk Dm 0 0 0).uint.2=q0 from by rw [hu]]
 refine aF<|M (I4 k)<|G I ?_
 refine qi I (λD=>?_) λD=>?_
 .obtain rfl:k=1:=by have:=D; simp at this; omega
  replace N:=N I
  refine Nc<|G I<|M (Z bs 0)<|M (Z bs 1)<|lL 0 I<|M (O7 bg)<|lm ?_
  refine St.dec 20 I (λi=>?_) (λi=>?_)
  .replace N:=N.resolve_left (by first | (simpa using i) | (have h:=i; simp at h; omega))
   refine G I<|lg (Z bs 0)<|lg (Z bs 5)<|lu _ (bW 0 I I J I I)<|lg (O7 rc)<|M (O7 rc) ?_
   refine qi I (λl=>?_) λl=>?_
   .replace N:=N.resolve_left (by first | (simpa using l) | (have h:=l; simp at h; omega))
    exact aF<|G rfl<|R<|eF [3] (λw a g=>Xk bs X10 b q0 w g (N))<|G rfl<|Nk<|Ny<|G rfl<|lF<|Nn<|aF<|G rfl<|Nd<|sN [_] λw a=>⟨I,(a.pick [0,1,2] I I)⟩
   .exact Nw<|Ny<|G rfl<|lF<|Nn<|aF<|G rfl<|Nd<|sN [_] λw a=>⟨I,(a.pick [0,1,2] I I)⟩
  .exact G I<|lF<|Nu<|Nw<|Ny<|G rfl<|lF<|Nn<|aF<|G rfl<|Nd<|sN [_] λw a=>⟨I,(a.pick [0,1,2] I I)⟩
 .refine Nc<|M (I5 k)<|G I ?_
  refine qi I (λE=>?_) λE=>?_
  .obtain rfl:k=2:=by have:=E; simp at this; omega
   replace O:=O I
   refine Nc<|G I<|M (Z bs 0)<|M (Z bs 3)<|lL 0 I<|M (I4 f)<|lm ?_
   refine St.dec 37 I (λm=>?_) (λm=>?_)
   .replace O:=O.resolve_left (by first | (simpa using m) | (have h:=m; simp at h; omega))
    refine G I<|lg (Z bs 0)<|lg (Z bs 5)<|lu _ (bW 0 I I J I I)<|lg (O7 rc)<|M (O7 rc) ?_
    refine qi I (λn=>?_) λn=>?_
    .replace O:=O.resolve_left (by first | (simpa using n) | (have h:=n; simp at h; omega))
     refine aF<|G rfl<|R<|eF [3] (λw a g=>Xn bs X10 b q0 w g (O))<|G I<|Nk<|aT<|aT ?_
     refine xd ?_
     exact aF<|G rfl<|lF<|Nn<|aF<|G rfl<|Nd<|sN [_] λw a=>⟨I,(a.pick [0,1,2] I I)⟩
    .exact Nw<|Ny<|G rfl<|lF<|Nn<|aF<|G rfl<|Nd<|sN [_] λw a=>⟨I,(a.pick [0,1,2] I I)⟩
   .exact G I<|lF<|Nu<|Nw<|Ny<|G rfl<|lF<|Nn<|aF<|G rfl<|Nd<|sN [_] λw a=>⟨I,(a.pick [0,1,2] I I)⟩
  .refine Nc<|M (F8 k)<|G I ?_
   refine qi I (λF=>?_) λF=>?_
   .obtain rfl:k=3:=by have:=F; simp at this; omega
    replace P:=P I
    refine Nc<|G I<|M (Z bs 0)<|M (Z bs 3)<|lL 0 I<|M (F9 f) ?_
    refine qi I (λo=>?_) λo=>?_
    .replace P:=P.resolve_left (by first | (simpa using o) | (have h:=o; simp at h; omega))
     refine aF<|G rfl<|R<|fT [3,1,2] _ (λw a g=>(Xo bs A c its _ s _ u _ x y z d X10 b q0 r A2 c2 q U S S2 w g (r0.bJ a [3,1,2]) (a.fX [3,1,2] (j:=0) I η) (r1.bJ a [3,1,2]) (r3.bJ a [3,1,2]) (P) (T) (ad) (af) (Xp hu ae) (hS) (hT) (ab)).mono ?_)
     rintro e X ⟨rfl,B⟩
     refine ⟨_,[_,_,_],_,I,B,I,?_⟩; clear B a g
     exact G I<|Nk<|Ny<|G rfl<|lF<|Nn<|aF<|G rfl<|Nd<|sN [_] λw a=>⟨I,(a.pick [0,1,2] I I)⟩
    .exact Nw<|Ny<|G rfl<|lF<|Nn<|aF<|G rfl<|Nd<|sN [_] λw a=>⟨I,(a.pick [0,1,2] I I)⟩
   .refine Nc<|M (M5 k)<|G I ?_
    refine qi I (λH=>?_) λH=>?_
    .obtain rfl:k=4:=by have:=H; simp at this; omega
     replace Q:=Q I
     refine Nc<|G I<|M (Z bs 0)<|M (Z bs 3)<|lL 0 I<|M (I5 f) ?_
     refine qi I (λp=>?_) λp=>?_
     .replace Q:=Q.resolve_left (by first | (simpa using p) | (have h:=p; simp at h; omega))
      refine aF<|G rfl<|R<|fT [3] _ (λw a g=>(Xr bs A c its _ s _ u _ x _ y z d X10 b q0 w g (a.fX [3] (j:=0) I η) (r1.bJ a [3]) (Q) (hs) (hn)).mono ?_)
      rintro e X ⟨ah,rfl,B⟩
      refine ⟨_,[_],_,I,B,I,?_⟩; clear B a g
      exact G I<|Nk<|Ny<|G rfl<|lF<|Nn<|aF<|G rfl<|Nd<|sN [_] λw a=>⟨I,(a.pick [0,1,2] I I)⟩
     .exact Nw<|Ny<|G rfl<|lF<|Nn<|aF<|G rfl<|Nd<|sN [_] λw a=>⟨I,(a.pick [0,1,2] I I)⟩
    .refine Nc<|M (K1 k)<|G I ?_
     refine qi I (λK=>?_) λK=>?_
     .obtain rfl:k=5:=by have:=K; simp at this; omega
      replace W:=W I
      refine Nc<|G rfl<|R<|eF [3] (λw a g=>mO X10 b q0 w g)<|G I<|Nb<|G I<|M (T3 q0)<|lm ?_
      refine St.dec 76 I (λL=>?_) (λL=>?_)
      .replace W:=W.resolve_left (su L)
       exact G I<|lg (Z bs 0)<|lg (Z bs 3)<|lu _ (bW 0 rfl rfl J rfl rfl)<|lg (F8 f)<|M (F8 f)<|Na<|fD rfl (by simp; omega)<|Nw<|Ny<|G rfl<|lF<|Nn<|aF<|G rfl<|Nd<|sN [_] λw a=>⟨I,(a.pick [0,1,2] I I)⟩
      .exact G I<|lF<|Nu<|Nw<|Ny<|G rfl<|lF<|Nn<|aF<|G rfl<|Nd<|sN [_] λw a=>⟨I,(a.pick [0,1,2] I I)⟩
     .exact Nw<|Ny<|G rfl<|lF<|Nn<|aF<|G rfl<|Nd<|sN [_] λw a=>⟨I,(a.pick [0,1,2] I I)⟩
theorem Xv(bs i j k l m o p q r f A n c a w)(h:Rf [] w (λw=>At w bs 68 [i,j,(Y a),k,l,m,o,p,q,r,f]))(d:a≠2)(g:a < 100):
  Θ 12 #[(Z bs 0),(.slice A (n) (c))] w λe s=>e = .returned (C 6)/\aN [] w [] s:=by
 refine Js Tryz.func12 26 (B3 w) ?_
 refine Nc<|G rfl<|Nb<|R<|MN zH _ rfl rfl J (λt=>G I<|M (.func (.func 48) (M8 bs) #[])<|R<|MP (D:=zH) (val:=λv:Value=>v) 0 [(2,(.func _ _ #[]))] rfl rfl J rfl rfl rfl ACj rfl (show 2 < 100 by decide) rfl<|G rfl<|Nb<|G rfl<|M (Z bs 0)<|M (Z bs 2)<|lW (rW (λw b=>At.cell (h.now b) 2))<|lv (gY (MO 0 I I I ACj Tryz.zeroValue47 I (show a < 100 by omega)) (Xq d)) ?_)
 exact G I<|Ne<|G rfl<|lT<|No<|G rfl<|Nh<|sN [_] λw b=>⟨I,(b.pick [] I I)⟩
theorem Xw(bs b w)(c:b < 0):
  Θ 9 #[(Z bs 0),(C b)] w λe d=>e = .returned (.tuple #[nS,(C 1)])/\aN [] w [] d:=by
 exact bS AD0 56 (Mm.start w []) rfl<|Nc<|G rfl<|Nf<|fY<|Nc<|G rfl<|M (.bool (decide ((b:Int) < 0)))<|G rfl<|Na<|lG rfl (by simpa using c)<|Nc<|G rfl<|Nd<|eL<|cJ<|sN [nS,_] λw a=>⟨I,a⟩
theorem Xx(bs f g h i j k l m n c b w)(d:Rf [] w (λw=>At w bs 68 [f,g,(C 2),h,i,j,k,l,m,n,c])):
  Θ 9 #[(Z bs 0),(Y b)] w λe o=>e = .returned (.tuple #[nS,(C 6)])/\aN [] w [] o:=by
 refine bS AD0 56 (B3 w) rfl<|Nc<|G rfl<|Nf<|fY<|Nc<|G rfl<|M (C8 b)<|G rfl<|Na<|fD rfl si<|Nc<|G rfl<|M (Z bs 0)<|M (Z bs 2)<|lW (rW (λw a=>At.cell (d.now a) 2))<|lF<|G rfl<|Np<|aF<|G rfl<|M (Z bs 0)<|M (Z bs 2)<|lW (rW (λw a=>At.cell (d.now a) 2)) ?_
 exact lT<|G rfl<|No<|G rfl<|Nd<|eL<|cJ<|sN [nS,_] λw a=>⟨I,a⟩
section
structure QV where
 (lo hi:Bs) (k n:Nat) (f:Bs) (A:Option Addr) (c:Nat) (xs:List Bs) (B:Option Addr) (d:Nat) (ms:List Bs)
def QV.cells(q:QV):List Value:=[.string (bL q.lo),.string (bL q.hi),.int .i64 ((q.k:Nat):Int),.int .i64 ((q.n:Nat):Int),.string (bL q.f),.slice q.A q.xs.length q.c,.slice q.B q.ms.length q.d]
def QV.abs(q:QV):AP:=⟨q.lo,q.hi,if q.k=1 then .sum q.n q.f else if q.k=2 then .list q.xs else .ans q.xs q.ms⟩
def QV.tL(q:QV):Prop:=q.k=1 \/ q.k=2 \/ q.k=3
def QV.rows(q:QV):List (Option Addr × List Bs):=[(q.A,q.xs),(q.B,q.ms)]
def QS(qs:List QV):List Value:=qs.flatMap QV.cells
abbrev cQ(A:Option Addr)(l:List QV)(c:Nat):Ch:=bD 143 7 A l.length c (QS l)
theorem rM(a b):QS (a++b)=QS a++QS b:=R3
theorem GX:∀ qs:List QV,(QS qs).length=qs.length*7
 | []=>rfl
 | q::qs=>by
   show (q.cells++QS qs).length=_
   rw [C3,GX qs,V0]
   show 7+_=_
   omega
theorem QV.one(q:QV):∀ u∈q.cells,u.oneCell'=true:=by
 intro u a
 simp only [QV.cells,T0,U7,k4] at a
 rcases a with rfl | rfl | rfl | rfl | rfl | rfl | rfl <;> rfl
theorem NI{qs:List QV}:∀ u∈QS qs,u.oneCell'=true:=by
 intro u b
 obtain ⟨q,_,a⟩:=T5.1 b
 exact QV.one q u a
theorem GY{qs:List QV}{q:QV}(h:qs[i]?=some q)(k v)(a:q.cells[k]?=some v):(QS qs)[i*7+k]?=some v:=by
 induction qs generalizing i with
 | nil=>grind
 | cons p qs b =>
   show (p.cells++QS qs)[i*7+k]?=some v
   cases i with
   | zero =>
     grind
   | succ i =>
     rw [T8 (by show 7<=_; omega),show (i+1)*7+k - p.cells.length=i*7+k by show _ - 7=_; omega]
     grind
def GZ(qs:List QV)(w:World):Prop:=∀ q∈qs,∀ r∈q.rows,aI w r.1 (SS r.2)
theorem rN:lN Tryz.prog 139 143 (.agg #[.string ⟨#[]⟩,.string ⟨#[]⟩,C 0,C 0,.string ⟨#[]⟩,nS,nS]) 7 112:=⟨si,J,I,U,U⟩
section
variable {P:Program}{Q:Exit -> Act -> World -> Prop}{n:Nat}{w0:World}{F:List Nat}{E:eH}{cs:List Ch}{X K:Act -> World -> Prop}{ops:Array Oper}{o oi:Oper}{rest:List Oper}{d:Nat}
theorem NJ{qs:List QV}{i:Nat}{p:QV}(h:aI w A (QS qs))(e:qs[i]?=some p){b q:Nat}(a:A=some ⟨b,q,none⟩):∀ j v,p.cells[j]?=some v->w.cell? ⟨b,q+i*7+j,none⟩=some v:=λj v c=>by
 rw [Z4]
 exact yF h (GY e j v c) a
theorem St.xQ{qs:List QV}{i:Nat}{p:QV}(h:∀ w,Mm w0 F cs w->aI w A (QS qs))(g:qs[i]?=some p)(k:∀ b q,A=some ⟨b,q,none⟩->(∀ w,Mm w0 F cs w->∀ j v,p.cells[j]?=some v->w.cell? ⟨b,q+i*7+j,none⟩=some v)->St n w0 F E cs X):St n w0 F E cs X:=λa w l f=>by
 obtain ⟨b,q,e⟩:=qX (h w f) (GY g 0 _ I)
 exact k b q e (λm c=>NJ (h m c) g e) a w l f
theorem Any.xQ{e:List Ch}{z fuel:Nat}{c:Array Bool}{qs:List QV}{i:Nat}{p:QV}(h:∀ w,Mm w0 F e w->aI w A (QS qs))(m:qs[i]?=some p)(k:∀ b q,A=some ⟨b,q,none⟩->(∀ w,Mm w0 F e w->∀ j v,p.cells[j]?=some v->w.cell? ⟨b,q+i*7+j,none⟩=some v)->Any P ops Q n w0 F E cs e z fuel c):Any P ops Q n w0 F E cs e z fuel c:=λa w s r l t=>by
 obtain ⟨b,q,g⟩:=qX (h w l) (GY m 0 _ I)
 exact k b q g (λu f=>NJ (h u f) m g) a w s r l t
theorem rO{e:Υ}{z:Nat}{x i:Operand}{b off len cap j:Nat}{k:IntKind}(g:o.op = .indexAddr ty x i)(h:P.underlying ty=some (.slice e))(c:iL P e=some z)(l:bA E x=some (.slice A len cap))(hi:bA E i=some (.int k (j:Int)))(f:A=some ⟨b,off,none⟩)(a:j < len):eD P w0 F cs E o (.pointer (some ⟨b,off+j*z,none⟩)):=by
 grind [mI]
end
theorem NK{q:QV}(h:q.k=1):q.abs.enc=((aE q.lo.length++q.lo)++(aE q.hi.length++q.hi))++((aE q.k++aE q.n)++q.f):=by simp [AP.enc,QV.abs,AC.enc,h]
theorem NL{q:QV}(h:q.k=2):q.abs.enc=((aE q.lo.length++q.lo)++(aE q.hi.length++q.hi))++(aE q.k++(aE q.xs.length++q.xs.flatten)):=by simp [AP.enc,QV.abs,AC.enc,h]
theorem Ha{q:QV}(h:q.k=3):q.abs.enc=((aE q.lo.length++q.lo)++(aE q.hi.length++q.hi))++((aE q.k++(aE q.xs.length++q.xs.flatten))++(aE q.ms.length++q.ms.flatten)):=by simp [AP.enc,QV.abs,AC.enc,h]
theorem Xy{q:QV}(h:q.abs.fit):q.lo.length<=32/\q.hi.length<=32:=⟨h.1,h.2.1⟩
theorem Xz{q:QV}(b:q.k=1)(h:q.abs.fit):q.n<=16384/\q.f.length=32:=by
 have a:=h.2.2
 simp only [QV.abs,b,AA9] at a
 exact a
theorem XC{q:QV}(b:q.k=2)(h:q.abs.fit):q.xs.length<=16384/\∀ x∈q.xs,x.length=32:=by
 have a:=h.2.2
 simp only [QV.abs,b] at a
 exact a
theorem NM{q:QV}(b:q.k=3)(h:q.abs.fit):(q.xs.length<=16384/\∀ x∈q.xs,x.length=32)/\q.ms.length<=16384/\∀ x∈q.ms,x.length=32:=by
 have a:=h.2.2
 simp only [QV.abs,b] at a
 exact a
def pQ(its:List Bs)(lo hi:Bs):QV:=⟨lo,hi,1,cnt its lo hi,eI (inL its lo hi),none,0,[],none,0,[]⟩
def eV(its own:List Bs)(fan:Nat)(lo:Bs):Nat -> Bs × List QV
 | 0=>(lo,[])
 | k+1=>if own.getD ((k+1)*own.length / fan) []=(eV its own fan lo k).1 then eV its own fan lo k else (own.getD ((k+1)*own.length / fan) [],(eV its own fan lo k).2++[pQ its (eV its own fan lo k).1 (own.getD ((k+1)*own.length / fan) [])])
theorem NN(its a:List Bs)(fan:Nat)(lo:Bs):∀ k,(eV its a fan lo k).1=(kF its a fan lo k).1/\(eV its a fan lo k).2.map QV.abs=(kF its a fan lo k).2
 | 0=>⟨I,I⟩
 | k+1=>by
   obtain ⟨b,c⟩:=NN its a fan lo k
   unfold eV kF
   rw [b]
   split
   .grind
   .refine ⟨I,?_⟩
    rw [U1,c]
    rfl
theorem XD{lo:Bs}(a:own[(k+1)*own.length / fan]?=some x)(h:(!decide (x=(eV its own fan lo k).1))=false):eV its own fan lo (k+1)=eV its own fan lo k:=by
 have e:own.getD ((k+1)*own.length / fan) []=x:=by grind
 rw [eV,e,P1 (by simpa using h)]
theorem NO{lo:Bs}(a:own[(k+1)*own.length / fan]?=some x)(h:(!decide (x=(eV its own fan lo k).1))=true):eV its own fan lo (k+1)=(x,(eV its own fan lo k).2++[pQ its (eV its own fan lo k).1 x]):=by
 have e:own.getD ((k+1)*own.length / fan) []=x:=by grind
 rw [eV,e,P4 (by simpa using h)]
theorem DA(its a:List Bs)(fan:Nat)(lo:Bs):∀ k,(eV its a fan lo k).2.length<=k
 | 0=>J7 _
 | k+1=>by
   have:=DA its a fan lo k
   grind [eV]
def Hb(q:QV):Prop:=q.k=1 /\ q.rows=[(none,[]),(none,[])]
theorem Hc(its a:List Bs)(fan:Nat)(lo:Bs):∀ k,∀ p∈(eV its a fan lo k).2,Hb p
 | 0=>by simp [eV]
 | k+1=>by
   unfold eV
   split
   .exact Hc its a fan lo k
   .intro p b
    rcases P7.1 b with b | b
    .exact Hc its a fan lo k p b
    .rw [G2.1 b]; exact ⟨I,I⟩
end
def cZ(A:Option Addr)(D:Bs)(B:Option Addr)(l:Bs)(c:Nat):Prop:=(∀ w,aI w A (B8 D) -> aI w B (B8 l)) /\ l.length <= c /\ l.length <= D.length
theorem cZ.drop{l:Bs}(h:cZ A D B l c)(q:k<=l.length):cZ A D (if c=k then B else B.map (·.add (k*1))) (l.drop k) (c - k):=by
 obtain ⟨e,m,n⟩:=h
 refine ⟨λw j i u r=>?_,by rw [Q7]; omega,by rw [Q7]; omega⟩
 have a:(B8 l)[k+i]?=some u:=by
  grind [B8]
 have d:=(C4.1 a).1
 rw [eX] at d
 obtain ⟨b,o,f,g,p⟩:=e w j _ u a
 rw [P4 U,f]
 refine ⟨b,o+k,?_,g,by grind⟩
 show some ((⟨b,o,none⟩:Addr).add (k*1))=_
 rw [X1,kB]
def dJ(l:Bs)(bad:Bool)(n:Nat):Bool:=bad || decide (l.length < n)
def bQ(l:Bs)(bad:Bool)(n:Nat):Bs:=if dJ l bad n then [] else l.take n
def dM(l:Bs)(bad:Bool)(n:Nat):Bs:=if dJ l bad n then l else l.drop n
def aK(l:Bs)(bad:Bool)(most:Nat):Nat × Bs × Bool :=
 if bad then (0,l,true) else match eP l 0 with
  | some (n,m)=>if n <= most then (n,l.drop m,false) else (0,l,true)
  | none=>(0,l,true)
theorem zK{l:Bs}(a:n<=most)(b:n<=1048576):aK (aE n++l) false most=(n,l,false):=by
 have h:=yP (aE n++l) 0 n l I (mP U)
 unfold aK
 grind
theorem XE{l:Bs}(h:l.take k=aE n)(a:n<=most)(b:n<=1048576):aK l false most=(n,l.drop k,false):=by
 grind [List.take_append_drop,zK]
theorem NP{l:Bs}{x:UInt8}(c:∀ j b,j < k->l[j]?=some b->128<=b.toNat)(f:l[k]?=some x)(a:x.toNat < 128)(h:most < eC l (k+1)\/aE (eC l (k+1))≠l.take (k+1)):aK l false most=(0,l,true):=by
 have e:=uQ l 0 k x (su c) (su f) a
 unfold aK
 rw [P4 si,e]
 by_cases d:k<=9/\¬ (0 < k/\x.toNat=0)/\¬ (k=9/\1 < x.toNat)
 .rw [P1 d]
  dsimp only
  rw [AAb]
  by_cases g:eC l (k+1)<=most
  .obtain U:=Eg k l c zg
   grind
  grind
 grind
theorem NQ{l:Bs}(f:∀ j b,j < k->l[j]?=some b->128<=b.toNat)(q:k=l.length\/k=3)(s:most<=1048576):aK l false most=(0,l,true):=by
 unfold aK
 rw [P4 si]
 cases g:eP l 0 with
 | none=>rfl
 | some p =>
   obtain ⟨n,m⟩:=p
   dsimp only
   by_cases t:n<=most
   .exfalso
    have e:=vB l 0 n m g
    rw [AAb] at e
    have o:=IK 2 n U
    have r:(aE n).length<=l.length:=by rw [e,C3]; omega
    have d:0 < (aE n).length:=lV n
    have c:(aE n)[(aE n).length - 1]?=some ((aE n)[(aE n).length - 1]'U):=E1 _
    have h:=((Ei n _ _ c).2 U).1
    have a:l[(aE n).length - 1]?=some ((aE n)[(aE n).length - 1]'U):=by
     rw [e,R1 U]
     exact c
    have i:=f _ _ U a
    omega
   grind
theorem NR{l:Bs}{x:UInt8}(c:l[i]?=some x)(hi:i < k):eC (l.drop (i+1)) (k - (i+1))*128+x.toNat % 128=eC (l.drop i) (k - i):=by
 obtain ⟨a,b⟩:=C4.1 c
 rw [V2 a,b,show k - i=(k - (i+1))+1 by omega,eC]
 omega
theorem NS(l)(h:k<=3):eC l k<=2097151:=by
 have a:=wC k l
 have:128 ^ k<=128 ^ 3:=Y2 U h
 omega
theorem Bn(l bad most):(aK l bad most).1<=most:=by
 unfold aK
 grind
def pR(l:Bs)(bad:Bool):Bool:=(aK l bad 32).2.2 || (decide ((aK l bad 32).1≠0) && decide ((aK l bad 32).1≠32))
def fL(l:Bs)(bad:Bool):Bs × Bs × Bool:=(bQ (aK l bad 32).2.1 (pR l bad) (aK l bad 32).1,dM (aK l bad 32).2.1 (pR l bad) (aK l bad 32).1,dJ (aK l bad 32).2.1 (pR l bad) (aK l bad 32).1)
def bE(l:Bs)(b:Bool):Nat -> List Bs × Bs × Bool
 | 0=>([],l,b)
 | k+1=>if (bE l b k).2.2 then bE l b k else ((bE l b k).1++[bQ (bE l b k).2.1 false 32],dM (bE l b k).2.1 false 32,dJ (bE l b k).2.1 false 32)
theorem Hd{l:Bs}(h:(bE l b k).2.2=false):bE l b (k+1)=((bE l b k).1++[bQ (bE l b k).2.1 false 32],dM (bE l b k).2.1 false 32,dJ (bE l b k).2.1 false 32):=by rw [bE,P4 (by simp [h])]
theorem XF{l:Bs}(h:(bE l b k).2.2=false):bE l b (k+1)=((bE l b k).1++[bQ (bE l b k).2.1 (bE l b k).2.2 32],dM (bE l b k).2.1 (bE l b k).2.2 32,dJ (bE l b k).2.1 (bE l b k).2.2 32):=by rw [h]; exact Hd h
theorem He{l:Bs}(h:(bE l b k).2.2=true):∀ j,bE l b (k+j)=bE l b k
 | 0=>rfl
 | j+1=>by
   show bE l b ((k+j)+1)=_
   rw [bE,P1 (by rw [He h j]; omega),He h j]
theorem DB(l:Bs)(b:Bool):∀ k,(bE l b k).1.length<=k
 | 0=>J7 _
 | k+1=>by
   have:=DB l b k
   grind [bE]
def rP(l:Bs)(bad:Bool)(most:Nat):List Bs × Bs × Bool:=bE (aK l bad most).2.1 (aK l bad most).2.2 (aK l bad most).1
theorem XG{l:Bs}{bad:Bool}(h:(bE (aK l bad most).2.1 (aK l bad most).2.2 i).2.2=true)(hi:i<=(aK l bad most).1):rP l bad most=bE (aK l bad most).2.1 (aK l bad most).2.2 i:=by
 have e:=He h ((aK l bad most).1 - i)
 rw [show i+((aK l bad most).1 - i)=(aK l bad most).1 by omega] at e
 exact e
def gR(l:Bs)(bad:Bool)(most:Nat)(lo hi:Bs):List Bs × Bs × Bool:=((rP l bad most).1,(rP l bad most).2.1,(rP l bad most).2.2 || (decide (eM (rP l bad most).1≠0) || decide ((inL (rP l bad most).1 lo hi).length≠(rP l bad most).1.length)))
theorem Bo{l:Bs}{bad:Bool}(h:(aK l bad most).2.2=false):bad=false/\l=aE (aK l bad most).1++(aK l bad most).2.1:=by
 unfold aK at h ⊢
 cases bad with
 | true=>grind
 | false =>
   refine ⟨I,?_⟩
   simp only [Bool.false_eq_true,if_false] at h ⊢
   cases a:eP l 0 with
   | none=>grind
   | some p =>
     obtain ⟨n,m⟩:=p
     rw [a] at h
     dsimp only at h ⊢
     by_cases b:n<=most
     .rw [P1 b]
      have e:=vB l 0 n m a
      grind
     grind
theorem Hf{l:Bs}{bad:Bool}(h:dJ l bad n=false):bad=false/\(bQ l bad n).length=n/\l=bQ l bad n++dM l bad n:=by
 have a:bad=false/\n<=l.length:=by
  unfold dJ at h
  grind
 refine ⟨a.1,?_,?_⟩
 .unfold bQ; rw [h,if_neg si,List.length_take]; omega
 .unfold bQ dM; rw [h,if_neg si,if_neg si,List.take_append_drop]
theorem Hg{l:Bs}(h:l.length=n):dJ (l++r) false n=false/\bQ (l++r) false n=l/\dM (l++r) false n=r:=by
 have a:dJ (l++r) false n=false:=by unfold dJ; grind
 refine ⟨a,?_,?_⟩
 .unfold bQ; grind
 .unfold dM; grind
theorem NT{l:Bs}{bad:Bool}(h:(fL l bad).2.2=false):bad=false/\iU (fL l bad).1=true/\l=(aE (fL l bad).1.length++(fL l bad).1)++(fL l bad).2.1:=by
 obtain ⟨e,f,g⟩:=Hf (show dJ (aK l bad 32).2.1 (pR l bad) (aK l bad 32).1=false from h)
 have a:=e
 unfold pR at a
 rw [AA5] at a
 obtain ⟨i,j⟩:=Bo a.1
 have b:(fL l bad).1.length=(aK l bad 32).1:=f
 refine ⟨i,?_,?_⟩
 .have c:=a.2
  unfold iU
  rw [ACf,U3,U3,b]
  by_cases d:(aK l bad 32).1=0
  .left; exact L1 (b.trans d)
  .right
   simp [d] at c
   exact c
 .rw [b,D1]
  exact j.trans (U0 _ g)
theorem NU{v:Bs}(h:iU v=true):fL ((aE v.length++v)++r) false=(v,r,false):=by
 have d:=rG h
 have e:aK ((aE v.length++v)++r) false 32=(v.length,v++r,false):=by rw [D1]; exact zK d (by omega)
 have f:pR ((aE v.length++v)++r) false=false:=by
  unfold pR
  rw [e]
  unfold iU at h
  rw [ACf,U3,U3] at h
  rcases h with rfl | h
  .simp
  .simp [h]
 obtain ⟨a,b,c⟩:=Hg (l:=v) (r:=r) I
 unfold fL
 rw [f,e,a,b,c]
theorem NV(l:Bs)(b:Bool):∀ k,(bE l b k).2.2=false->b=false/\(bE l b k).1.length=k/\iV (bE l b k).1/\l=(bE l b k).1.flatten++(bE l b k).2.1
 | 0,h=>⟨h,I,(λx a=>by cases a),I⟩
 | k+1,h=>by
  by_cases d:(bE l b k).2.2=true
  .rw [bE,P1 d] at h
   rw [h] at d; cases d
  .have c:(bE l b k).2.2=false:=by simpa using d
   obtain ⟨e,f,g,i⟩:=NV l b k c
   rw [Hd c] at h ⊢
   obtain ⟨_,j,m⟩:=Hf (show dJ (bE l b k).2.1 false 32=false from h)
   refine ⟨e,by simp [f],?_,?_⟩
   .intro x a
    rcases P7.1 a with a | a
    .exact g x a
    .rw [G2.1 a]; exact j
   .show l=((bE l b k).1++[bQ (bE l b k).2.1 false 32]).flatten++dM (bE l b k).2.1 false 32
    rw [ACa,D1]
    show l=(bE l b k).1.flatten++((bQ (bE l b k).2.1 false 32++[])++dM (bE l b k).2.1 false 32)
    rw [O4,<- m]
    exact i
theorem NW{xs:List Bs}{r:Bs}(h:iV xs):∀ k,k<=xs.length->bE (xs.flatten++r) false k=(xs.take k,(xs.drop k).flatten++r,false)
 | 0,_=>rfl
 | k+1,c=>by
   have e:=NW (r:=r) h k U
   rw [Hd (by rw [e]),e]
   have a:xs.drop k=xs[k]::xs.drop (k+1):=si
   have b:(xs.drop k).flatten++r=xs[k]++((xs.drop (k+1)).flatten++r):=by grind
   obtain U:=Hg (l:=xs[k]) (r:=(xs.drop (k+1)).flatten++r) (n:=32) (h _ zg)
   grind
theorem NY{lo:Bs}(h:iV l)(c:l.length<=16384):(decide (eM l≠0) || decide ((inL l lo hi).length≠l.length))=false↔fN l lo hi=true:=by
 rw [AA5,u0,u0,Decidable.not_not,Decidable.not_not]
 unfold fN
 rw [V6,U3,AF6]
 constructor
 .rintro ⟨b,a⟩
  refine ⟨?_,(uB b).2.2⟩
  unfold inL at a
  exact ADf.1 a
 .rintro ⟨b,a⟩
  exact ⟨qJ c ⟨h,a⟩,ADf.2 b⟩
theorem Hh{l:Bs}{bad:Bool}{lo:Bs}(k:most<=16384)(h:(gR l bad most lo hi).2.2=false):
  bad=false/\(gR l bad most lo hi).1.length<=most/\iV (gR l bad most lo hi).1/\fN (gR l bad most lo hi).1 lo hi=true/\l=(aE (gR l bad most lo hi).1.length++(gR l bad most lo hi).1.flatten)++(gR l bad most lo hi).2.1:=by
 have a:=h
 unfold gR at a
 rw [AA5] at a
 have j:=Bn l bad most
 obtain ⟨c,d,b,e⟩:=NV _ _ _ a.1
 obtain ⟨f,g⟩:=Bo c
 have i:(gR l bad most lo hi).1.length=(aK l bad most).1:=d
 refine ⟨f,by omega,b,(NY b (by omega)).1 a.2,?_⟩
 rw [i,D1]
 exact g.trans (U0 _ e)
theorem Hi{lo:Bs}(d:most<=16384)(b:xs.length<=most)(h:iV xs)(c:fN xs lo hi=true):gR ((aE xs.length++xs.flatten)++r) false most lo hi=(xs,r,false):=by
 have e:aK ((aE xs.length++xs.flatten)++r) false most=(xs.length,xs.flatten++r,false):=by rw [D1]; exact zK b (by omega)
 have a:rP ((aE xs.length++xs.flatten)++r) false most=(xs,r,false):=by
  unfold rP
  rw [e]
  dsimp only
  rw [NW h _ (J7 _)]
  simp
 unfold gR
 rw [a]
 dsimp only
 rw [(NY h (by omega)).2 c]
 rfl
structure QC where
 (lo hi:Bs) (k n:Nat) (f:Bs) (xs ms:List Bs)
def QC.abs(q:QC):AP:=⟨q.lo,q.hi,if q.k=1 then .sum q.n q.f else if q.k=2 then .list q.xs else .ans q.xs q.ms⟩
def QV.core(q:QV):QC:=⟨q.lo,q.hi,q.k,q.n,q.f,q.xs,q.ms⟩
def iD(prev:List QC)(lo hi:Bs):Bool:=(decide (hi≠[]) && decide (¬ lo < hi)) || (match prev.getLast? with | none=>false | some q=>decide (q.hi=[]) || decide (lo < q.hi))
def kA(lo hi:Bs)(k:Nat)(l:Bs)(b:Bool):QC × Bs × Bool :=
 if k=1 then (⟨lo,hi,1,(aK l b 16384).1,bQ (aK l b 16384).2.1 (aK l b 16384).2.2 32,[],[]⟩,dM (aK l b 16384).2.1 (aK l b 16384).2.2 32,dJ (aK l b 16384).2.1 (aK l b 16384).2.2 32)
 else if k=2 then (⟨lo,hi,2,0,[],(gR l b 64 lo hi).1,[]⟩,(gR l b 64 lo hi).2)
 else if k=3 then (⟨lo,hi,3,0,[],(gR l b 16384 lo hi).1,(gR (gR l b 16384 lo hi).2.1 (gR l b 16384 lo hi).2.2 16384 lo hi).1⟩,(gR (gR l b 16384 lo hi).2.1 (gR l b 16384 lo hi).2.2 16384 lo hi).2)
 else (⟨lo,hi,k,0,[],[],[]⟩,l,true)
def fU(prev:List QC)(l:Bs)(b:Bool):QC × Bs × Bool :=
 kA (fL l b).1 (fL (fL l b).2.1 (fL l b).2.2).1 (aK (fL (fL l b).2.1 (fL l b).2.2).2.1 (fL (fL l b).2.1 (fL l b).2.2).2.2 3).1 (aK (fL (fL l b).2.1 (fL l b).2.2).2.1 (fL (fL l b).2.1 (fL l b).2.2).2.2 3).2.1
  ((aK (fL (fL l b).2.1 (fL l b).2.2).2.1 (fL (fL l b).2.1 (fL l b).2.2).2.2 3).2.2 || iD prev (fL l b).1 (fL (fL l b).2.1 (fL l b).2.2).1)
def cI(l:Bs)(b:Bool):Nat -> List QC × Bs × Bool
 | 0=>([],l,b)
 | i+1=>if (cI l b i).2.2 then cI l b i else ((cI l b i).1++[(fU (cI l b i).1 (cI l b i).2.1 false).1],(fU (cI l b i).1 (cI l b i).2.1 false).2)
def QC.tL(q:QC):Prop:=q.k=1 \/ q.k=2 \/ q.k=3
theorem NZ{a:List QC}{p:AP}:iD a p.lo p.hi=false↔nK p.lo p.hi=true/\follows (a.map QC.abs) p=true:=by
 unfold iD nK follows
 rw [AA5,List.getLast?_map]
 constructor
 .rintro ⟨c,b⟩
  refine ⟨?_,?_⟩
  .by_cases h:p.hi=[]
   .simp [h]
   .simp [h] at c ⊢; exact c
  .cases d:a.getLast? with
   | none=>rfl
   | some q=>rw [d] at b; dsimp only [Option.map_some] at b ⊢; rw [show (QC.abs q).hi=q.hi from I,b]; rfl
 .rintro ⟨c,b⟩
  refine ⟨?_,?_⟩
  .by_cases h:p.hi=[]
   .simp [h]
   .simp [h] at c ⊢; exact c
  .cases d:a.getLast? with
   | none=>rfl
   | some q=>rw [d] at b; dsimp only [Option.map_some] at b ⊢; rw [show (QC.abs q).hi=q.hi from I] at b; simpa using b
theorem XH{lo l:Bs}(h:(kA lo hi k l b).2.2=false):
  b=false/\(kA lo hi k l b).1.lo=lo/\(kA lo hi k l b).1.hi=hi/\(kA lo hi k l b).1.tL/\(kA lo hi k l b).1.abs.c.ok lo hi/\aE k++l=(kA lo hi k l b).1.abs.c.enc++(kA lo hi k l b).2.1:=by
 by_cases g:k=1
 .subst g
  rw [show kA lo hi 1 l b=_ from P1 I] at h ⊢
  obtain ⟨a1,a,c⟩:=Hf h
  obtain ⟨d,e⟩:=Bo a1
  have f:=Bn l b 16384
  refine ⟨d,I,I,.inl I,⟨f,a⟩,?_⟩
  show aE 1++l=((aE 1++aE _)++_)++_
  rw [D1,D1,<- c,<- e]
 .by_cases i:k=2
  .subst i
   rw [show kA lo hi 2 l b=_ from (P4 (by omega)).trans (P1 I)] at h ⊢
   obtain ⟨a1,a,c,d,e⟩:=Hh (by omega) h
   refine ⟨a1,I,I,.inr (.inl I),⟨a,c,d⟩,?_⟩
   show aE 2++l=(aE 2++(aE _++_))++_
   rw [D1,<- e]
  .by_cases j:k=3
   .subst j
    rw [show kA lo hi 3 l b=_ from (P4 (by omega)).trans ((P4 (by omega)).trans (P1 I))] at h ⊢
    obtain ⟨m,n,o,p,q⟩:=Hh (by omega) h
    obtain ⟨a1,a,c,d,e⟩:=Hh (by omega) m
    refine ⟨a1,I,I,.inr (.inr I),⟨⟨a,c,d⟩,n,o,p⟩,?_⟩
    show aE 3++l=((aE 3++(aE _++_))++(aE _++_))++_
    rw [D1,<- q,D1,<- e]
   .rw [show kA lo hi k l b=_ from (P4 g).trans ((P4 i).trans (P4 j))] at h
    cases h
theorem XI{a:List QC}{l:Bs}(h:(fU a l b).2.2=false):
  b=false/\(fU a l b).1.tL/\(fU a l b).1.abs.ok/\follows (a.map QC.abs) (fU a l b).1.abs=true/\l=(fU a l b).1.abs.enc++(fU a l b).2.1:=by
 obtain ⟨e,c,d,q,r,s⟩:=XH h
 rw [AA5] at e
 obtain ⟨a1,g⟩:=Bo e.1
 obtain ⟨i,j,k⟩:=NT a1
 obtain ⟨m,n,o⟩:=NT i
 have f:=(NZ (p:=(fU a l b).1.abs)).1 (by
  show iD a (fU a l b).1.lo (fU a l b).1.hi=false
  rw [show (fU a l b).1.lo=_ from c,show (fU a l b).1.hi=_ from d]
  exact e.2)
 refine ⟨m,q,⟨⟨?_,?_,f.1⟩,?_⟩,f.2,?_⟩
 .show iU (fU a l b).1.lo=true
  rw [show (fU a l b).1.lo=_ from c]; exact n
 .show iU (fU a l b).1.hi=true
  rw [show (fU a l b).1.hi=_ from d]; exact j
 .show (fU a l b).1.abs.c.ok (fU a l b).1.lo (fU a l b).1.hi
  rw [show (fU a l b).1.lo=_ from c,show (fU a l b).1.hi=_ from d]; exact r
 .show l=((aE (fU a l b).1.lo.length++(fU a l b).1.lo)++(aE (fU a l b).1.hi.length++(fU a l b).1.hi))++(fU a l b).1.abs.c.enc++(fU a l b).2.1
  rw [show (fU a l b).1.lo=_ from c,show (fU a l b).1.hi=_ from d,D1,show (fU a l b).1.abs.c.enc++(fU a l b).2.1=_ from s.symm,<- g,D1,<- k,<- o]
def AP.core(p:AP):QC:=match p.c with
 | .sum n f=>⟨p.lo,p.hi,1,n,f,[],[]⟩
 | .list xs=>⟨p.lo,p.hi,2,0,[],xs,[]⟩
 | .ans xs ms=>⟨p.lo,p.hi,3,0,[],xs,ms⟩
theorem AP.acY(p:AP):p.core.abs=p:=by
 obtain ⟨lo,a,c⟩:=p
 cases c <;> rfl
def AC.kind:AC -> Nat
 | .sum ..=>1
 | .list ..=>2
 | .ans ..=>3
theorem XJ{p:AP}{l:Bs}(h:p.c.ok p.lo p.hi)(m:aE p.c.kind++l=p.c.enc++r):kA p.lo p.hi p.c.kind l false=(p.core,r,false):=by
 obtain ⟨lo,k,c⟩:=p
 cases c with
 | sum n f =>
  obtain ⟨g,i⟩:=h
  have e:l=aE n++(f++r):=AC2 (m.trans (show ((aE 1++aE n)++f)++r=_ from by rw [D1,D1]; rfl))
  have b:aK l false 16384=(n,f++r,false):=by rw [e]; exact zK g (by omega)
  obtain ⟨t1,t2,u⟩:=Hg (l:=f) (r:=r) i
  show kA lo k 1 l false=_
  rw [kA,P1 I,b]
  dsimp only
  rw [t1,t2,u]
  rfl
 | list a =>
  obtain ⟨g,i,j⟩:=h
  have e:l=(aE a.length++a.flatten)++r:=AC2 (m.trans (show (aE 2++(aE a.length++a.flatten))++r=_ from by rw [D1]; rfl))
  have b:=Hi (r:=r) (most:=64) (by omega) g i j
  show kA lo k 2 l false=_
  rw [kA,P4 (by omega),P1 I,e]
  dsimp only at b
  rw [b]
  rfl
 | ans a d =>
  obtain ⟨⟨g,i,j⟩,q,s,t⟩:=h
  have e:l=(aE a.length++a.flatten)++((aE d.length++d.flatten)++r):=AC2 (m.trans (show ((aE 3++(aE a.length++a.flatten))++(aE d.length++d.flatten))++r=_ from by rw [D1,D1]; rfl))
  have b:=Hi (r:=(aE d.length++d.flatten)++r) (most:=16384) (by omega) g i j
  have o:=Hi (r:=r) (most:=16384) (by omega) q s t
  show kA lo k 3 l false=_
  rw [kA,P4 (by omega),P4 (by omega),P1 I,e]
  dsimp only at b o
  rw [b]
  dsimp only
  rw [o]
  rfl
theorem AC.acZ(c:AC):∃ t,c.enc=aE c.kind++t:=by
 cases c with
 | sum n f=>exact ⟨aE n++f,D1 ..⟩
 | list a=>exact ⟨_,I⟩
 | ans a b=>exact ⟨(aE a.length++a.flatten)++(aE b.length++b.flatten),D1 ..⟩
theorem XK{a:List QC}{p:AP}(h:p.ok)(l:follows (a.map QC.abs) p=true):fU a (p.enc++r) false=(p.core,r,false):=by
 obtain ⟨⟨g,i,j⟩,k⟩:=h
 obtain ⟨t,b⟩:=p.c.acZ
 have m:p.c.kind<=3:=by cases p.c <;> simp [AC.kind]
 have c:p.enc++r=(aE p.lo.length++p.lo)++((aE p.hi.length++p.hi)++(aE p.c.kind++(t++r))):=by
  show (((aE p.lo.length++p.lo)++(aE p.hi.length++p.hi))++p.c.enc)++r=_
  rw [b]; simp only [D1]
 have d:=NU (r:=(aE p.hi.length++p.hi)++(aE p.c.kind++(t++r))) g
 have e:=NU (r:=aE p.c.kind++(t++r)) i
 have f:aK (aE p.c.kind++(t++r)) false 3=(p.c.kind,t++r,false):=zK m (by omega)
 unfold fU
 rw [c,d]
 dsimp only
 rw [e]
 dsimp only
 rw [f]
 dsimp only
 rw [NZ.2 ⟨j,l⟩]
 exact XJ k (by rw [b,D1])
theorem zL{l:Bs}(h:(cI l b i).2.2=false):cI l b (i+1)=((cI l b i).1++[(fU (cI l b i).1 (cI l b i).2.1 false).1],(fU (cI l b i).1 (cI l b i).2.1 false).2):=by rw [cI,P4 (by simp [h])]
theorem Hj{l:Bs}(h:(cI l b k).2.2=true):∀ j,cI l b (k+j)=cI l b k
 | 0=>rfl
 | j+1=>by
   show cI l b ((k+j)+1)=_
   rw [cI,P1 (by rw [Hj h j]; omega),Hj h j]
theorem Hk(l:Bs)(b:Bool):∀ k,(cI l b k).2.2=false->b=false/\(cI l b k).1.length=k/\(∀ q∈(cI l b k).1,q.tL/\q.abs.ok)/\uE ((cI l b k).1.map QC.abs)/\l=((cI l b k).1.map QC.abs).flatMap AP.enc++(cI l b k).2.1
 | 0,h=>⟨h,I,(λq a=>by cases a),(λk p s=>by simp [cI] at s),I⟩
 | k+1,h=>by
  by_cases d:(cI l b k).2.2=true
  .rw [cI,P1 d] at h
   rw [h] at d; cases d
  .have c:(cI l b k).2.2=false:=by simpa using d
   obtain ⟨j,m,n,o,r⟩:=Hk l b k c
   rw [zL c] at h ⊢
   obtain ⟨_,e,f,g,i⟩:=XI (show (fU (cI l b k).1 (cI l b k).2.1 false).2.2=false from h)
   refine ⟨j,by simp [m],?_,?_,?_⟩
   .intro q a
    rcases P7.1 a with a | a
    .exact n q a
    .rw [G2.1 a]; exact ⟨e,f⟩
   .dsimp only
    rw [U1]
    exact Lt o g
   .dsimp only
    rw [U1,R3,D1]
    show l=_++(((fU (cI l b k).1 (cI l b k).2.1 false).1.abs.enc++[])++_)
    rw [O4,<- i]
    exact r
theorem Oa{ps:List AP}{r:Bs}(h:∀ p∈ps,p.ok)(a:uE ps):∀ k,k<=ps.length->cI (ps.flatMap AP.enc++r) false k=((ps.take k).map AP.core,(ps.drop k).flatMap AP.enc++r,false)
 | 0,_=>rfl
 | k+1,g=>by
   have e:=Oa (r:=r) h a k U
   have c:ps.drop k=ps[k]::ps.drop _:=V2 U
   have d:(ps.drop k).flatMap AP.enc++r=ps[k].enc++((ps.drop (k+1)).flatMap AP.enc++r):=by rw [c,V5,D1]
   have f:((ps.take k).map AP.core).map QC.abs=ps.take k:=by
    rw [AEj]
    exact (List.map_congr_left λp _=>AP.acY p).trans (List.map_id _)
   have b:=XK (r:=(ps.drop (k+1)).flatMap AP.enc++r) (h _ (y9 (by omega:k < ps.length))) (by rw [f]; exact a k _ (E1 U))
   rw [zL (by rw [e]),e]
   dsimp only
   rw [d,b,O5 U,U1]
   rfl
def mQ(D:Bs):List QC × Bs × Bool:=cI (aK D false 1048576).2.1 (aK D false 1048576).2.2 (aK D false 1048576).1
def mR(D:Bs):Bool:=(!(mQ D).2.2 && decide (0 < (aK D false 1048576).1)) && decide ((mQ D).2.1.length=0)
theorem Ob(h:mR D=true)(r:D.length<=1048576):iO D=some ((mQ D).1.map QC.abs)/\∀ q∈(mQ D).1,q.tL:=by
 unfold mR at h
 rw [V6,V6,U3,U3] at h
 obtain ⟨⟨j,o⟩,k⟩:=h
 obtain ⟨a1,d,b,f,g⟩:=Hk _ _ _ (show (cI _ _ _).2.2=false by simpa [mQ] using j)
 obtain ⟨_,i⟩:=Bo a1
 have n:(mQ D).2.1=[]:=L1 k
 have c:(mQ D).1.length=(aK D _ _).1:=d
 have s:D=bK ((mQ D).1.map QC.abs):=by
  unfold bK
  rw [K0,c,P4 U]
  have e:=i.trans (U0 _ g)
  rw [show (cI _ _ _).2.1=[] from n,O4] at e
  exact e
 have l:CU ((mQ D).1.map QC.abs):=by
  refine ⟨λe=>?_,λp m=>?_,f⟩
  .have:=U0 List.length e
   rw [K0,c] at this
   simp at this; omega
  .obtain ⟨q,a,rfl⟩:=Y9.1 m
   exact (b q a).2
 refine ⟨?_,λq a=>(b q a).1⟩
 grind [FY]
theorem XL(h:mR D=false)(m:D.length<=1048576):iO D=none:=by
 cases j:iO D with
 | none=>rfl
 | some a =>
   exfalso
   obtain ⟨c,⟨d,f,g⟩,l⟩:=vK j
   have b:a.length≠0:=λe=>d (L1 e)
   have i:D=aE a.length++a.flatMap AP.enc:=by rw [c,bK,P4 b]
   have e:aK D false 1048576=(a.length,a.flatMap AP.enc,false):=by rw [i]; exact zK U U
   have k:=Oa (r:=[]) f g a.length U
   grind [mR,mQ]
end Go.Proofs.YtkjnecaieiaijaaGreatDoor
