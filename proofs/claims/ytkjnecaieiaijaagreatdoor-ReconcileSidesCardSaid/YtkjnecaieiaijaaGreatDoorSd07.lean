/- Part 7 of a proof: what its row uses. -/
import Derived.Test.YtkjnecaieiaijaaGreatDoorSd06
set_option maxRecDepth 100000
set_option maxHeartbeats 1000000
namespace Go.Proofs.YtkjnecaieiaijaaGreatDoor
open Go.RowKit
variable {A2:Δ}{D:Bs}{bs:Γ}{dst:Υ}{i:Nat}{its:List Bs}{l:List Bs}{n:Nat}{needs:List Bs}{news:Ξ}{offs:List Bs}{s:Operand}{src:Υ}{w:Λ}{x:Operand}{xs:Ξ}{y:Bs}
theorem Zq:GZ [QV.mk [] [] 1 n (eI its) none 0 [] none 0 []] w:=by
 intro q c r a
 rw [G2.1 c] at a
 simp only [QV.rows,T0,U7,k4] at a
 rcases a with rfl | rfl <;> exact λj v b=>by simp at b
theorem Pb(n w)(h:n < 18446744073709551616):
  Θ 67 #[(.int .u64 ((n:Nat):Int))] w λe d=>∃ (RB:Δ) (a:Nat),e = .returned (V RB (aE n) a)/\aN [] w [cB RB (aE n) a] d:=by
 refine (yS n w h).mono ?_
 rintro e d ⟨A,c,rfl,g,i⟩
 obtain ⟨A2,j,b,f⟩:=MC g i
 simp only [R6] at b
 obtain ⟨rfl,_,rfl⟩:=b
 exact ⟨A,c,I,f⟩
theorem zT(A c xs n w)(g:cC [cB A (xs) c] w)(k:n<=4294967296)(l:xs.length<=68719000000):
  Θ 127 #[(V A xs c),(Y n)] w λe j=>∃ (A2:Δ) (b:Nat),e = .returned (V A2 (xs++aE n) b)/\aN [cB A (xs) c] w [cB A2 (xs++aE n) b] j:=by
 refine bS Tryz.func127 10 (g) rfl<|Nc<|G rfl<|Nb<|G rfl<|lw (vU n) (iQ _ (λ_=>J) I I (kV U U))<|R<|dC (λw a=>Pb n w U) λRB8 d=>?_
 have h:=eY n U
 exact R<|cL gS 0 _ rfl rfl J rfl rfl rfl (by simp [B8]) (λw a=>eN.gJ (fM (i:=1) I w a)) ((iP _)) U _ dV _ (by simp [B8]) (λA9 f=>G I<|Nd<|sN [_] λw a=>⟨A9,f,I,(a.pick [0] I I)⟩)
theorem Pc(A c)(xs t:Γ)(w)(b:cC [cB A (xs) c] w)(j:t.length<=1000)(k:xs.length<=68719000000):
  Θ 128 #[(V A xs c),(vS t)] w λe i=>∃ (A2:Δ) (d:Nat),e = .returned (V A2 (xs++(aE t.length++t)) d)/\aN [cB A (xs) c] w [cB A2 (xs++(aE t.length++t)) d] i:=by
 refine bS Tryz.func128 11 (b) rfl<|Nc<|G rfl<|Nb<|G rfl<|lw (Y _) (yI rfl rfl J)<|R<|iI [0] (λw f b=>zT A c xs ((t).length) w b U U) λA28 g=>?_
 have h:=eY t.length U
 refine G I<|R<|wJ 0 rfl rfl J J J J rfl rfl rfl (by grind) _ dV (B8 ((xs++aE ((t).length))++t)) (by simp [B8]) (λA10 a=>G I<|Nd<|sN [(V A10 _ a)] λw f=>?_)
 rw [show xs++(aE _++t)=xs++aE _++t from (D1 ..).symm]
 exact ⟨A10,a,I,f⟩
abbrev P6:=[qe,qe,(C 0),(C 0),qe,nS,nS]
theorem Pd(A1 c1 qs w)(r0:Rf [] w (λw=>aI w A1 (QS qs)))(r1:Rf [] w (GZ qs))(hk:∀ q∈qs,q.tL)(af:∀ p∈qs.map QV.abs,p.fit)(bl:(bK (qs.map QV.abs)).length<=4293800000):
  Θ 86 #[(V A1 qs c1)] w λe w'=>∃ (B:Δ) (cb:Nat),e = .returned (V B (bK (qs.map QV.abs)) cb)/\aN [] w [cB B (bK (qs.map QV.abs)) cb] w':=by
 refine eO Tryz.func86 79 (B3 w) I<|Nc<|G I<|Ne<|G I<|M (Y qs.length)<|M (.bool ((((qs.length:Nat):Int):Int) == 0)) ?_
 refine ζ I (λW=>?_) λW=>?_
 .refine Nc<|G rfl<|Nh<|sN [nS] λw b=>?_
  have e0:bK (qs.map QV.abs)=[]:=by rw [bK,P1 (by grind)]
  rw [e0]
  exact ⟨_,0,I,(b).gB 5 1⟩
 .have ar:¬ qs.length=0:=by grind
  have ae:bK (qs.map QV.abs)=aE qs.length++(qs.map QV.abs).flatMap AP.enc:=by rw [bK,P4 (su ar),K0]
  have a5:(aE qs.length).length+((qs.map QV.abs).flatMap AP.enc).length<=4293800000:=by grind
  have bi:qs.length<=((qs.map QV.abs).flatMap AP.enc).length:=by grind [List.length_map,CM]
  have bg:bG.length=0:=I
  refine St.mem (λw b=>b.gB 5 1)<|St.to [_] J<|Ni<|G rfl<|M (Y qs.length)<|R<|iI [0] (λw b k=>zT none 0 bG qs.length w k U U) λA215 D=>G I<|Ne<|G I<|M (Y qs.length)<|G I<|Ng ?_
  rw [show bG++aE _=bG++aE _++((qs.map QV.abs).take 0).flatMap AP.enc from (O4 _).symm]
  refine sL (λ(i,AX,r)=>i<=qs.length) (λ(i,AX,r)=>qs.length - i) (λ(i,AX,r)=>[(2,nS),(16,(V A1 qs c1)),(17,(Y qs.length)),(3,(V AX (bG++aE qs.length++((qs.map QV.abs).take i).flatMap AP.enc) r)),(18,(Y i))]) (λ(i,AX,r)=>[cB AX (bG++aE qs.length++((qs.map QV.abs).take i).flatMap AP.enc) r]) (0,A215,D) (G6 _) (λw b=>by show Mm _ _ _ w; exact b) ?_
  rintro ⟨i,AX,r⟩ (bh:i<=qs.length)
  dsimp only
  refine Nc<|M (qb i qs.length) ?_
  refine χ I (λX=>?_) λX=>?_
  .refine Nm<|aF ?_
   obtain ⟨a,z⟩:=gk qs i U
   refine St.xQ (λw b=>r0.now b) z (λaz bm N Q=>lw (Z az _) (rO (e:=143) I J J I I N U)<|lw _ (gI [(vS a.lo),(vS a.hi),(Y a.k),(Y a.n),(vS a.f),(V a.A a.xs _),(V a.B a.ms _)] rfl rfl J J (Q))<|R<|pA P6 λd=>R<|zv 1 I (QV.one a) ?_)
   refine Nf ?_
   have u:=F0 z
   have t:(qs.map QV.abs)[i]?=some a.abs:=by rw [U8,z]; rfl
   have bc:=Lf t
   have o:=af _ (ACb u)
   obtain ⟨a8,a9⟩:=Xy o
   have s:=hk a u
   have bd:=eY a.lo.length U; have be:=eY a.hi.length U; have bb:a.k<=3:=by rcases s with h | h | h <;> omega
   have bf:=eY a.k U
   have au:Ro _ _ (λw=>aI w a.A (SS a.xs)):=Ro.imp r1 (λw h=>h a u (_,a.xs) (by simp [QV.rows]))
   have aw:Ro _ _ (λw=>aI w a.B (SS a.ms)):=Ro.imp r1 (λw h=>h a u (_,a.ms) (by simp [QV.rows]))
   refine dN _ 9 J (κ [1] I I) ?_
   refine am 0 ?_
   refine aC 1 (Z d 0) I<|al 2 0 ?_
   refine aC 4 (Z d 1) I<|al 5 0 ?_
   refine aC 7 (Z d 2) I<|al 8 0 ?_
   refine aA 3 I<|iI [0] (λw b k=>Pc AX r (bG++aE qs.length++((qs.map QV.abs).take i).flatMap AP.enc) a.lo w k U (by simp only [C3]; omega)) λA225 E=>?_
   refine xd ?_
   refine aQ _ η (κ [1] I I)<|aA 6 rfl<|iI [0] (λw b k=>Pc A225 E ((bG++aE qs.length++((qs.map QV.abs).take i).flatMap AP.enc)++(aE a.lo.length++a.lo)) a.hi w k U (by simp only [C3]; omega)) λA228 F=>aQ _ η (κ [1] I I)<|aA 9 rfl<|iI [0] (λw b k=>zT A228 F _ a.k w k U (by simp only [C3]; omega)) λA231 l=>Ex [cB A231 ((((bG++aE qs.length++((qs.map QV.abs).take i).flatMap AP.enc)++(aE a.lo.length++a.lo))++(aE a.hi.length++a.hi))++aE a.k) l,aD d 143 _] 11 I η<|aa 10 ?_
   refine cG J<|aJ<|Ny<|M (Z d 2)<|lL 1 I<|M (.bool ((a.k:Int) == 1)) ?_
   refine qi I (λm=>?_) λm=>?_
   .have c:a.k=1:=oU m
    obtain ⟨bj,bk⟩:=Xz c o
    have aq:=eY a.n U
    have ai:=U0 List.length (NK c); simp only [C3] at ai
    refine aT<|dN _ 6 J (κ [1] I I)<|am 0 ?_
    refine aC 1 (Z d 3) I<|al 2 0 ?_
    refine aC 4 (Z d 4) I<|al 5 0 ?_
    refine aA 3 I<|iI [0] (λw b k=>zT A231 l ((((bG++aE qs.length++((qs.map QV.abs).take i).flatMap AP.enc)++(aE a.lo.length++a.lo))++(aE a.hi.length++a.hi))++aE a.k) a.n w k U (by simp only [C3]; omega)) λA238 a3=>aQ _ η (κ [1] I I)<|aA 6 rfl<|wJ 0 rfl rfl J J J J rfl rfl rfl (by simp only [C3]; omega) (((((((bG++aE qs.length++((qs.map QV.abs).take i).flatMap AP.enc)++(aE _++a.lo))++(aE _++a.hi))++aE a.k)++aE a.n)++a.f).length) dV (B8 ((((((bG++aE qs.length++((qs.map QV.abs).take i).flatMap AP.enc)++(aE a.lo.length++a.lo))++(aE a.hi.length++a.hi))++aE a.k)++aE a.n)++a.f)) (by simp [B8]) (λA41 L=>St.to _ J<|Ex [cB A41 ((((((bG++aE qs.length++((qs.map QV.abs).take i).flatMap AP.enc)++(aE a.lo.length++a.lo))++(aE a.hi.length++a.hi))++aE a.k)++aE a.n)++a.f) L,aD d 143 [(vS a.lo),(vS a.hi),(Y a.k),(Y a.n),(vS a.f),(V a.A a.xs (a.c)),(V a.B a.ms (a.d))]] 8 I η<|aa 7 ?_)
    refine cG J<|aJ<|pJ<|jB<|kL<|aJ<|aF<|lw (Y (i+1)) bN<|G I<|Na ?_
    rw [show (((((bG++aE _++((qs.map _).take i).flatMap _)++(aE _++a.lo))++(aE _++a.hi))++aE a.k)++aE a.n)++a.f=bG++aE qs.length++((qs.map _).take _).flatMap _ from by rw [<- AQ t,NK c]; simp only [D1]]
    exact sA (i+1,A41,L) oz oz (κ [0] I I)
   .have y:¬ a.k=1:=oE m
    refine Nl ?_
    have ay:a.xs.length<=16384/\∀ x∈a.xs,x.length=32:=by
     rcases s with h | h | h
     .exact absurd h y
     .exact XC h o
     .exact (NM h o).1
    have aq:=eY a.xs.length U
    have ba:=nL ay.2
    have ai:(aE a.lo.length).length+a.lo.length+((aE a.hi.length).length+a.hi.length)+((aE a.k).length+((aE a.xs.length).length+a.xs.flatten.length))<=a.abs.enc.length:=by
     rcases s with h | h | h
     .exact absurd h y
     .have e:=U0 List.length (NL h); simp only [C3] at e; omega
     .have e:=U0 List.length (Ha h); simp only [C3] at e; omega
    refine aF<|G rfl<|M (Z d 5)<|lL 1 rfl<|M (Y a.xs.length)<|R<|iI [0] (λw b k=>zT A231 l ((((bG++aE qs.length++((qs.map QV.abs).take i).flatMap AP.enc)++(aE a.lo.length++a.lo))++(aE a.hi.length++a.hi))++aE a.k) a.xs.length w k U (by simp only [C3]; omega)) λA246 H=>G I<|Ne<|M (Z d 5)<|lL 1 I<|M (Y a.xs.length)<|G I<|Ng ?_
    rw [show ((((bG++aE _++((qs.map _).take i).flatMap _)++(aE _++a.lo))++(aE _++a.hi))++aE a.k)++aE _=((((bG++aE _++((qs.map _).take i).flatMap _)++(aE _++a.lo))++(aE _++a.hi))++aE a.k)++aE _++(a.xs.take 0).flatten from (O4 _).symm]
    refine sL (λ(j,AY,f)=>j<=a.xs.length) (λ(j,AY,f)=>a.xs.length - j) (λ(j,AY,f)=>[(2,nS),(5,(Z d 0)),(16,(V A1 qs c1)),(17,(Y qs.length)),(18,(Y i)),(48,(V a.A a.xs (a.c))),(49,(Y a.xs.length)),(3,(V AY (((((bG++aE qs.length++((qs.map QV.abs).take i).flatMap AP.enc)++(aE a.lo.length++a.lo))++(aE a.hi.length++a.hi))++aE a.k)++aE a.xs.length++(a.xs.take j).flatten) f)),(50,(Y j))]) (λ(j,AY,f)=>[cB AY (((((bG++aE qs.length++((qs.map QV.abs).take i).flatMap AP.enc)++(aE a.lo.length++a.lo))++(aE a.hi.length++a.hi))++aE a.k)++aE a.xs.length++(a.xs.take j).flatten) f,aD d 143 [(vS a.lo),(vS a.hi),(Y a.k),(Y a.n),(vS a.f),(V a.A a.xs (a.c)),(V a.B a.ms (a.d))]]) (0,A246,H) (G6 _) (λw b=>by show Mm _ _ _ w; exact b) ?_
    rintro ⟨j,AY,f⟩ (ah:j<=a.xs.length)
    dsimp only
    refine Nc<|M (qb j a.xs.length) ?_
    refine χ I (λab=>?_) λab=>?_
    .refine Nm<|aF ?_
     obtain ⟨A,g⟩:=gk a.xs j U
     refine St.fC (λw b=>au.now b) (fR g) (λa0 bn O S=>lw (Z a0 _) (rR 9 O)<|lW (rW S)<|G rfl<|Nv<|G rfl<|R<|wJ 0 rfl rfl J J J J rfl rfl rfl (by have ao:=FF g; simp only [C3]; omega) (((((((bG++aE _++((qs.map _).take i).flatMap _)++(aE _++a.lo))++(aE _++a.hi))++aE a.k)++aE _++(a.xs.take j).flatten)++A).length) dV (B8 ((((((bG++aE qs.length++((qs.map QV.abs).take i).flatMap AP.enc)++(aE a.lo.length++a.lo))++(aE a.hi.length++a.hi))++aE a.k)++aE a.xs.length++(a.xs.take j).flatten)++A)) (by simp [B8]) (λA56 ak=>G I<|Nk<|aF<|lw (Y (j+1)) bN<|G I<|Na ?_))
     rw [show (((((bG++aE _++((qs.map _).take i).flatMap _)++(aE _++a.lo))++(aE _++a.hi))++aE a.k)++aE _++(a.xs.take j).flatten)++A=((((bG++aE _++((qs.map _).take i).flatMap _)++(aE _++a.lo))++(aE _++a.hi))++aE a.k)++aE _++(a.xs.take _).flatten from by rw [D1,AG g]]
     exact sA (j+1,A56,ak) oz oz η
    .obtain rfl:j=a.xs.length:=U
     rw [R0]
     refine Nj<|aF<|M (Z d 2)<|lL 1 I<|M (.bool ((a.k:Int) == 3)) ?_
     refine qi I (λn=>?_) λn=>?_
     .have c:a.k=3:=oU n
      have ap:=(NM c o).2
      have a4:=nL ap.2
      have aj:=U0 List.length (Ha c); simp only [C3] at aj
      refine Nc<|G rfl<|M (Z d 6)<|lL 1 rfl<|M (Y a.ms.length)<|R<|iI [0] (λw b k=>zT AY f (((((bG++aE qs.length++((qs.map QV.abs).take i).flatMap AP.enc)++(aE a.lo.length++a.lo))++(aE a.hi.length++a.hi))++aE a.k)++aE a.xs.length++a.xs.flatten) a.ms.length w k U (by simp only [C3]; omega)) λA265 K=>G I<|Nb<|M (Z d 6)<|lL 1 I<|M (Y a.ms.length)<|G I<|Ng ?_
      rw [show (((((bG++aE _++((qs.map _).take i).flatMap _)++(aE _++a.lo))++(aE _++a.hi))++aE a.k)++aE _++a.xs.flatten)++aE _=(((((bG++aE _++((qs.map _).take i).flatMap _)++(aE _++a.lo))++(aE _++a.hi))++aE a.k)++aE _++a.xs.flatten)++aE _++(a.ms.take 0).flatten from (O4 _).symm]
      refine sL (λ(j,AY,f)=>j<=a.ms.length) (λ(j,AY,f)=>a.ms.length - j) (λ(j,AY,f)=>[(2,nS),(16,(V A1 qs c1)),(17,(Y qs.length)),(18,(Y i)),(67,(V a.B a.ms (a.d))),(68,(Y a.ms.length)),(3,(V AY ((((((bG++aE qs.length++((qs.map QV.abs).take i).flatMap AP.enc)++(aE a.lo.length++a.lo))++(aE a.hi.length++a.hi))++aE a.k)++aE a.xs.length++a.xs.flatten)++aE a.ms.length++(a.ms.take j).flatten) f)),(69,(Y j))]) (λ(j,AY,f)=>[cB AY ((((((bG++aE qs.length++((qs.map QV.abs).take i).flatMap AP.enc)++(aE a.lo.length++a.lo))++(aE a.hi.length++a.hi))++aE a.k)++aE a.xs.length++a.xs.flatten)++aE a.ms.length++(a.ms.take j).flatten) f,aD d 143 [(vS a.lo),(vS a.hi),(Y a.k),(Y a.n),(vS a.f),(V a.A a.xs (a.c)),(V a.B a.ms (a.d))]]) (0,A265,K) (G6 _) (λw b=>by show Mm _ _ _ w; exact b) ?_
      rintro ⟨j,AY,f⟩ (ah:j<=a.ms.length)
      dsimp only
      refine Nc<|M (qb j a.ms.length) ?_
      refine χ I (λad=>?_) λad=>?_
      .refine Nm<|aF ?_
       obtain ⟨A,g⟩:=gk a.ms j U
       refine St.fC (λw b=>aw.now b) (fR g) (λa2 bo P T=>lw (Z a2 _) (rR 9 P)<|lW (rW T)<|G rfl<|Nv<|G rfl<|R<|wJ 0 rfl rfl J J J J rfl rfl rfl (by have ao:=FF g; simp only [C3]; omega) ((((((((bG++aE _++((qs.map _).take i).flatMap _)++(aE _++a.lo))++(aE _++a.hi))++aE a.k)++aE _++a.xs.flatten)++aE _++(a.ms.take j).flatten)++A).length) dV (B8 (((((((bG++aE qs.length++((qs.map QV.abs).take i).flatMap AP.enc)++(aE a.lo.length++a.lo))++(aE a.hi.length++a.hi))++aE a.k)++aE a.xs.length++a.xs.flatten)++aE a.ms.length++(a.ms.take j).flatten)++A)) (by simp [B8]) (λA75 an=>G I<|Nk<|aF<|lw (Y (j+1)) bN<|G I<|Na ?_))
       rw [show ((((((bG++aE _++((qs.map _).take i).flatMap _)++(aE _++a.lo))++(aE _++a.hi))++aE a.k)++aE _++a.xs.flatten)++aE _++(a.ms.take j).flatten)++A=(((((bG++aE _++((qs.map _).take i).flatMap _)++(aE _++a.lo))++(aE _++a.hi))++aE a.k)++aE _++a.xs.flatten)++aE _++(a.ms.take _).flatten from by rw [D1,AG g]]
       exact sA (j+1,A75,an) oz oz η
      .obtain rfl:j=a.ms.length:=U
       rw [R0]
       refine Nr<|kL<|jF<|aJ<|aF<|lw (Y (i+1)) bN<|G I<|Na ?_
       rw [show (((((bG++aE _++((qs.map _).take i).flatMap _)++(aE _++a.lo))++(aE _++a.hi))++aE a.k)++aE _++a.xs.flatten)++aE _++a.ms.flatten=bG++aE qs.length++((qs.map _).take _).flatMap _ from by rw [<- AQ t,Ha c]; simp only [D1]]
       exact sA (i+1,AY,f) oz oz (κ [0] I I)
     .have c:a.k=2:=by have h3:=oE n; rcases s with h | h | h; exact absurd h y; exact h; exact absurd h h3
      refine Nw<|aF<|lw (Y (i+1)) bN<|G I<|Na ?_
      rw [show ((((bG++aE _++((qs.map _).take i).flatMap _)++(aE _++a.lo))++(aE _++a.hi))++aE a.k)++aE _++a.xs.flatten=bG++aE qs.length++((qs.map _).take _).flatMap _ from by rw [<- AQ t,NL c]; simp only [D1]]
      exact sA (i+1,AY,f) oz oz (κ [0] I I)
  .obtain rfl:i=qs.length:=U
   rw [show (qs.map _).take _=qs.map _ from by rw [<- K0,R0]]
   refine Nj<|aF<|G rfl<|Nd<|sN [(V AX _ r)] λw b=>?_
   have ax:bK (qs.map QV.abs)=bG++aE qs.length++(qs.map QV.abs).flatMap AP.enc:=by rw [ae]; rfl
   rw [ax]
   exact ⟨AX,r,I,b⟩
theorem Pe(A c its fan leaf NA l)(m:List Γ)(OA n)(o:List Γ)(lo hi:Γ)(w:Λ)(p:Rf [] w (λw=>aI w A (SS its)))(k:dD its)(f:its.length<=40):
  Θ 126 #[(.agg #[(V A its c),(Y fan),(Y leaf),(V NA m l),(V OA o n)]),(vS lo),(vS hi)] w λe q=>e = .returned (.agg #[(vS lo),(vS hi),(Y 1),(Y (cnt its lo hi)),(vS (eI (inL its lo hi))),nS,nS])/\aN [] w [] q:=by
 refine kN Tryz.func126 20 (B3 w) rfl<|Nc<|R<|pB _ λd=>R<|pA [E2,E2,(C 0),(C 0),E2,nS,nS] λr=>Nb<|M (Z d 0)<|lL 0 rfl<|G rfl<|R<|dC (λw b=>AS A c its lo hi w (p.aX b) U) λB12 a=>?_
 have i:=lZ its lo hi; have g:=FH k lo hi
 exact G I<|Nb<|G rfl<|M (J2 its lo hi)<|G rfl<|R<|bV (λw b=>yZ B12 a _ w (b.aR (j:=2) I (λ_ h=>aI.bM h)) U U)<|M (.agg #[(vS lo),(vS hi),(C 1),(J2 its lo hi),(vS (eI (inL its lo hi))),nS,nS])<|R<|zu 1 rfl<|Nd<|dL [_] rfl ⟨rz 1 rfl,trivial⟩ (λw b=>⟨I,(b.pick [] I I)⟩)
theorem Zr(A c its fan leaf NA r)(s:List Γ)(OA:Δ)(t:Nat)(u:List Γ)(w:Λ)(k:Rf [] w (λw=>aI w A (SS its)))(o:dD its)(d:its.length<=40):
  Θ 73 #[(.agg #[(V A its c),(Y fan),(Y leaf),(V NA s r),(V OA u t)])] w λe x=>∃ (B:Δ) (cb:Nat),e = .returned (V B (bK [dF its [] []]) cb)/\aN [] w [cB B (bK [dF its [] []]) cb] x:=by
 refine eO Tryz.func73 12 (B3 w) rfl<|Nc<|R<|pB _ λi=>G I<|Nf ?_
 have f:bK ([(QV.mk [] [] 1 its.length (eI its) none 0 [] none 0 [])].map QV.abs)=bK [dF its [] []]:=by unfold dF; rw [Gy]; rfl
 have g:((QV.mk [] [] 1 its.length (eI its) none 0 [] none 0 [])).abs.fit:=by have h:=(Bh d).1; unfold dF at h; rw [Gy] at h; exact h
 refine dN _ 10 J η<|aC 0 (Z i 0) I<|al 1 0 ?_
 refine aC 2 (Y its.length) I<|aC 3 (Z i 0) I<|al 4 0 ?_
 refine aA 5 I<|bV (λw a=>yZ A c its w (k.aX a) U (by have:=AF ⟨U,o⟩; omega))<|aQ _ η η<|aC 6 (.agg #[E2,(.string ⟨#[]⟩),(C 1),(Y its.length),(vS (eI its)),nS,nS]) rfl<|aA 7 rfl<|pN 1 143 [(.string ⟨#[]⟩),(.string ⟨#[]⟩),(C 1),(Y its.length),(vS (eI its)),nS,nS] λl=>?_
 refine xd ?_
 refine aQ _ (κ [0] I I) η<|aA 8 rfl<|dC (λw a=>Pd _ 1 _ w (a.aR (j:=1) I (λ_ h=>tU h I)) ((k.aX a).imp (λw _=>Zq)) (λq n=>by rw [G2.1 n]; exact .inl I) (λp m=>by rw [G2.1 m]; exact g) (by rw [f]; have:=(Bh d).2.1; omega)) λB11 b=>aQ _ (κ [0,1] I I) η<|aa 9 ?_
 refine cG J<|aJ<|gW<|sN [(V B11 _ b)] λw a=>?_
 rw [<- f]; exact ⟨B11,_,I,(a.pick [2] I I)⟩
theorem BA(br A D A1 d l bad n w)(o:cC [aD br 194 [(V A1 l d),(.bool bad)]] w)(q:Rf [aD br 194 [(V A1 l d),(.bool bad)]] w (λw=>aI w A (B8 D)))(f:cZ A D A1 l d)(_:D.length<=1048576)(_:n<=1048576):
  Θ 124 #[(Z br 0),(Y n)] w λe s=>∃ (A2:Δ) (m:Nat),e = .returned (vS (bQ l bad n))/\aN [aD br 194 [(V A1 l d),(.bool bad)]] w [aD br 194 [(V A2 (dM l bad n) m),(.bool (dJ l bad n))]] s/\(cZ A D A2 ((dM l bad n)) m):=by
 have i:=f
 obtain ⟨j,k,p⟩:=i
 have r:=q.imp (λw h=>j w h)
 refine bS Tryz.func124 39 (o) I<|Nc<|G I<|Nf<|aT ?_
 cases u:bad with
 | true =>
   have b:dJ l true n=true:=I
   refine aF<|G rfl<|M (Z br 0)<|M (Z br 1)<|lL 0 rfl<|G rfl<|lT<|No<|G rfl<|M (Z br 0)<|M (Z br 1)<|R<|pS 0 rfl<|Nb<|G rfl<|Nh<|sN [qe] λw c=>?_
   rw [show bQ l true n=[] from by unfold bQ; grind,show dM l true n=l from by unfold dM; grind,b]
   exact ⟨_,_,I,c,f⟩
 | false =>
   refine aF<|G I<|M (Z br 0)<|M (Z br 1)<|lL 0 I<|G I<|lg (Z br 0)<|lg (Z br 0)<|lu _ (bW 0 I I J I I)<|lg (B4 l)<|lg (.bool (decide (((n:Nat):Int) > ((l.length:Nat):Int))))<|M (.bool (decide (((n:Nat):Int) > ((l.length:Nat):Int)))) ?_
   refine ζ I (λa=>?_) λa=>?_
   .have b:dJ l false n=true:=by have:=a; simp [dJ]; omega
    refine Nc<|G rfl<|M (Z br 0)<|M (Z br 1)<|R<|pS 0 rfl<|Nb<|G rfl<|Nh<|sN [qe] λw c=>?_
    rw [show bQ l _ n=[] from by unfold bQ; rw [b]; rfl,show dM l _ n=l from by unfold dM; rw [b]; rfl,b]
    exact ⟨_,_,I,c,f⟩
   .have b:dJ l false n=false:=by have:=a; simp [dJ]; omega
    have g:n<=l.length:=by have:=a; omega
    refine Ni<|G rfl<|M (Z br 0)<|M (Z br 0)<|lL 0 rfl<|G rfl<|lw _ (gY (sH (e:=5) rfl J J rfl rfl (by have:=k; omega)) (by show Value.slice _ _ _=Value.slice _ _ _; rw [I8,Y0 U]))<|lw _ (kM (e:=5) _ rfl J J J rfl rfl (λw c=>qY n (r.now c)))<|G rfl<|Nb<|G rfl<|M (Z br 0)<|M (Z br 0)<|lL 0 rfl<|G rfl<|lw (V _ _ _) (gY (sI (e:=5) (sz:=1) rfl J J rfl rfl U) (by show Value.slice _ _ _=Value.slice _ _ _; rw [Q7]))<|M (Z br 0)<|M (Z br 0)<|R<|pS 0 rfl<|Nb<|G rfl<|Nd<|sN [(vS _)] λw c=>?_
    rw [show bQ l _ n=l.take n from by unfold bQ; rw [b]; rfl,show dM l _ n=l.drop n from by unfold dM; rw [b]; rfl,b]
    exact ⟨_,_,I,c,f.drop g⟩
theorem Im(br A D A1 t l bad most w)(hO:cC [aD br 194 [(V A1 l t),(.bool bad)]] w)(r0:Rf [aD br 194 [(V A1 l t),(.bool bad)]] w (λw=>aI w A (B8 D)))(x:cZ A D A1 l t)(_:D.length<=1048576)(hm:most<=1048576):
  Θ 122 #[(Z br 0),(Y most)] w λe w'=>∃ (A2:Δ) (c2:Nat),e = .returned (Y ((aK l bad most).1))/\aN [aD br 194 [(V A1 l t),(.bool bad)]] w [aD br 194 [(V A2 ((aK l bad most).2.1) c2),(.bool (aK l bad most).2.2)]] w'/\(cZ A D A2 ((aK l bad most).2.1) c2):=by
 have T:=x
 obtain ⟨W,X,an⟩:=T
 have rr:=r0.imp (λw h=>W w h)
 refine bS Tryz.func122 85 (hO) I<|aT ?_
 cases P:bad with
 | true =>
   refine aF<|G rfl<|Ne<|G rfl<|Ng<|sL (λi=>i=0) (λi=>0) (λi=>[(0,(Z br 0)),(1,(Y most)),(4,(C 0)),(5,(Y (i+1)))]) (λi=>[aD br 194 [(V A1 l t),bT]]) 0 I zg ?_
   intro i af
   show St _ _ _ [(0,(Z br 0)),(1,(Y most)),(4,(C 0)),(5,(Y (i+1)))] [aD br 194 [(V A1 l t),bT]] _
   refine Ny<|G I<|M (.bool (decide ((((i+1):Nat):Int)<=3)))<|lm ?_
   refine St.dec 10 I (λf=>?_) (λf=>?_)
   .have u:=D4 f
    refine G I<|lg (Z br 0)<|lg (Z br 0)<|lu _ (bW 0 I I J I I)<|lg (Y l.length)<|lg (.bool (decide ((((i+1):Nat):Int)<=((l.length:Nat):Int))))<|M (.bool (decide ((((i+1):Nat):Int)<=((l.length:Nat):Int))))<|lm ?_
    refine St.dec 19 I (λa=>?_) (λa=>?_)
    .have r:=D4 a
     refine G I<|lg (Z br 0)<|lg (Z br 1)<|lu bT (bW 0 rfl rfl J rfl rfl)<|lg bF<|lF<|Nu<|Nj<|aF<|G rfl<|M (Z br 0)<|M (Z br 1)<|R<|pS 0 rfl<|Nb<|G rfl<|Nd<|sN [(C 0)] λw d=>?_
     rw [show aK l true most=(0,l,true) from I]
     exact ⟨_,_,I,d,x⟩
    .have r:=C7 a
     refine G I<|lF<|Nu<|Nj<|aF<|G rfl<|M (Z br 0)<|M (Z br 1)<|R<|pS 0 rfl<|Nb<|G rfl<|Nd<|sN [(C 0)] λw d=>?_
     rw [show aK l true most=(0,l,true) from I]
     exact ⟨_,_,I,d,x⟩
   grind
 | false =>
   refine aF<|G rfl<|Ne<|G rfl<|Ng<|sL (λi=>i<=3/\i<=l.length/\∀ j b,j < i->l[j]?=some b->128<=b.toNat) (λi=>3 - i) (λi=>[(0,(Z br 0)),(1,(Y most)),(4,(C 0)),(5,(Y (i+1)))]) (λi=>[aD br 194 [(V A1 l t),bF]]) 0 ⟨G6 _,G6 _,λj b h=>absurd h U⟩ (λw d=>by show Mm _ _ _ w; exact d) ?_
   rintro i ⟨aj,ak,m⟩
   show St _ _ _ [(0,(Z br 0)),(1,(Y most)),(4,(C 0)),(5,(Y (i+1)))] [aD br 194 [(V A1 l t),bF]] _
   refine Ny<|G I<|M (.bool (decide ((((i+1):Nat):Int)<=3)))<|lm ?_
   refine St.dec 10 I (λf=>?_) (λf=>?_)
   .have u:=D4 f
    have ai:i+1<=3:=by have:=D4 f; omega
    refine G I<|lg (Z br 0)<|lg (Z br 0)<|lu _ (bW 0 I I J I I)<|lg (Y l.length)<|lg (.bool (decide ((((i+1):Nat):Int)<=((l.length:Nat):Int))))<|M (.bool (decide ((((i+1):Nat):Int)<=((l.length:Nat):Int))))<|lm ?_
    refine St.dec 19 I (λa=>?_) (λa=>?_)
    .have r:=D4 a
     have ah:i+1<=l.length:=by have:=D4 a; omega
     refine G I<|lg (Z br 0)<|lg (Z br 1)<|lu bF (bW 0 rfl rfl J rfl rfl)<|lg bT<|lT<|Nt<|Nm<|aF<|G rfl<|Ne<|G rfl<|lw _ (jT _ rfl rfl rfl rfl U U)<|G rfl<|Ng<|yB (ι:=Nat × Int) (λ(p,z)=>p<=i+1/\z=p - 1) (λ(p,z)=>p) (λ(p,z)=>[(0,(Z br 0)),(1,(Y most)),(4,(C 0)),(5,(Y _)),(6,(Y (eC (l.drop p) (i+1 - p)))),(7,(C z))]) (λ(p,z)=>[_]) (i+1,((i+1:Nat)) - 1) ⟨J7 _,I⟩ ⟨I,I,I,I,U0 (λz:Nat=>some (Value.int .i64 z)) (show 0=eC _ _ by rw [W6]; unfold eC; rfl),I,trivial⟩ (λw d=>by show Mm _ _ _ w; exact d) ?_
     rintro ⟨p,z⟩ ⟨hp,hz⟩
     show St _ _ _ [(0,(Z br 0)),(1,(Y most)),(4,(C 0)),(5,(Y (i+1))),(6,(Y (eC (l.drop p) (i+1 - p)))),(7,(C z))] [aD br 194 [(V A1 l t),bF]] _
     refine Ny<|G I<|M (.bool (decide ((z:Int)>=0))) ?_
     refine ζ I (λK=>?_) λK=>?_
     .obtain ⟨q,rfl⟩:∃ q,p=q+1:=⟨p - 1,U⟩
      obtain rfl:z=q:=U
      have Q:=NS (l.drop (q+1)) (k:=i+1 - (q+1)) U
      refine Nl<|fY<|aF<|G I<|lw (Y ((eC (l.drop (q+1)) (i+1 - (q+1)))*128)) (EC _ I I I U U U)<|G I<|M (Z br 0)<|M (Z br 0)<|lL 0 I<|G I ?_
      obtain ⟨O,n⟩:=gk l q U
      exact St.fC (λw d=>rr.now d) (tT n) (λao ap B F=>lw _ (rR 5 B)<|lW (rW F)<|lw (.int .u8 (((O.toNat % 128):Nat))) (ED _ rfl rfl rfl (by decide) (AC6 ..).symm)<|lw _ (iQ _ (λ_=>J) I I (qV U U))<|lw _ bN<|G rfl<|Nk<|aF<|G rfl<|lw _ (jT _ rfl rfl rfl rfl U U)<|G rfl<|Na<|yC (q,((q:Nat)) - 1) (⟨U,rfl⟩) oz ⟨rfl,rfl,rfl,rfl,U0 (λz:Nat=>some (Value.int .i64 _)) (NR n U),I,trivial⟩ (λw d=>d))
     .obtain rfl:p=0:=U
      have Q:=NS l U
      rw [show eC (l.drop 0) (i+1 - 0)=eC l (i+1) from I]
      refine Nj<|aF<|G I<|M (Z br 0)<|M (Z br 0)<|lL 0 I<|G I<|lw (Y i) Cf ?_
      obtain ⟨O,n⟩:=gk l i U
      refine St.fC (λw d=>rr.now d) (tT n) (λad aq E H=>lw (Z ad _) (rR 5 E)<|lW (rW H)<|M (.bool (decide ((O.toNat:Int) < 128))) ?_)
      refine ζ I (λs=>?_) λs=>?_
      .have N:O.toNat < 128:=by have:=s; omega
       refine aT<|aT<|dN _ 17 J η<|am 0 ?_
       refine am 1 ?_
       refine aC 2 (.bool (decide ((((eC l (i+1)):Nat):Int) > ((most:Nat):Int)))) I ?_
       refine am 3 ?_
       refine Any.dec 58 I (λg=>?_) (λg=>?_)
       .have L:=D4 g
        have c:aK l _ most=(0,l,true):=NP m n N (.inl (by have:=D4 g; omega))
        refine eQ 4 ?_
        refine eQ 5 ?_
        refine eQ 8 ?_
        refine eQ 9 ?_
        refine eQ 10 ?_
        refine eQ 11 ?_
        refine eQ 12 ?_
        refine eQ 13 ?_
        refine eQ 14 ?_
        refine eQ 6 ?_
        refine eQ 7 ?_
        refine eQ 15 ?_
        refine aC 16 bT I<|cG J<|aJ<|nR rfl<|pJ<|jB<|uS rfl<|jB<|jB<|kL<|aJ<|Nc<|G rfl<|M (Z br 0)<|M (Z br 1)<|R<|pS 0 rfl<|Nb<|G rfl<|Nd<|sN [(C 0)] λw d=>?_
        rw [c]
        exact ⟨_,_,I,d,x⟩
       .have L:=C7 g
        have ab:eC l (i+1)<=most:=by have:=C7 g; omega
        refine fQ 4 ?_
        refine aW 5 (vU _) I (iQ _ (λ_=>J) I I (kV U U))<|fQ 8 ?_
        refine aG 9 (Z br 0) I<|aG 10 (Z br 0) I<|aW 11 _ I (bW 0 I I J I I)<|fQ 12 ?_
        refine aW 13 (V A1 _ t) I (gY (sH (e:=5) I J J I I (by have:=X; omega)) (by show Value.slice _ _ _=Value.slice _ _ _; rw [I8,Y0 U]))<|aW 14 (vS _) rfl (kM (e:=5) _ rfl J J J rfl rfl (λw d=>qY (i+1) (rr.now d)))<|aB 6 rfl<|dC (λw d=>Pb (eC l (i+1)) w U) λRB61 ae=>aQ _ (κ [0] I I) η<|aW 7 (vS _) rfl (kM (e:=5) _ rfl J J J rfl rfl (λw d=>fM (i:=1) I w d))<|aW 15 _ I (qC I I I)<|aC 16 (.bool (!decide ((aE (eC l (i+1)))=(l.take (i+1))))) I<|cG J ?_
        refine aJ (aY I (λo=>?_) (λo=>?_))
        .have c:aK l _ most=(0,l,true):=NP m n N (.inr (su o))
         refine pJ<|jB<|uS I<|jB<|jB<|kL<|aJ<|Nc<|G I<|M (Z br 0)<|M (Z br 1)<|R<|pS 0 I<|Nf ?_
         refine xd ?_
         refine aF<|G rfl<|Nd<|sN [(C 0)] λw d=>?_
         rw [c]
         exact ⟨_,_,I,(d.pick [0] I I),x⟩
        .have c:aK l _ most=(_,l.drop _,false):=XE (by have:=o; simp at this; exact this.symm) ab U
         refine Ni<|G rfl<|M (Z br 0)<|M (Z br 0)<|lL 0 rfl<|G rfl<|lw (V _ _ _) (gY (sI (e:=5) (sz:=1) rfl J J rfl rfl U) (by show Value.slice _ _ _=Value.slice _ _ _; rw [Q7]))<|M (Z br 0)<|M (Z br 0)<|R<|pS 0 rfl<|Nb<|G rfl<|Nd<|eL<|cJ<|cJ<|eL<|cJ<|sN [(Y _)] λw d=>?_
         rw [c]
         exact ⟨_,_,I,(d.pick [0] I I),x.drop U⟩
      .have S:128<=O.toNat:=by have:=s; omega
       have y:∀ j b,j < i+1->l[j]?=some b->128<=b.toNat:=λj b hj P=>by
        by_cases h:j < i
        .exact m j b h P
        .obtain rfl:j=i:=U
         rw [n] at P; cases P; exact S
       exact Nw<|aF<|G I<|lw (Y ((i+1)+1)) bN<|G I<|aO (aJ (sA _ (⟨U,U,y⟩) oz η))
    .have r:=C7 a
     have c:aK l _ most=(0,l,true):=NQ m (.inl (by have:=C7 a; omega)) hm
     refine G I<|lF<|Nu<|Nj<|aF<|G rfl<|M (Z br 0)<|M (Z br 1)<|R<|pS 0 rfl<|Nb<|G rfl<|Nd<|sN [(C 0)] λw d=>?_
     rw [c]
     exact ⟨_,_,I,d,x⟩
   .have u:=C7 f
    obtain rfl:i=3:=by have:=C7 f; omega
    have c:aK l _ most=(0,l,true):=NQ m (.inr I) hm
    refine G I<|lF<|G rfl<|lF<|Nu<|Nj<|aF<|G rfl<|M (Z br 0)<|M (Z br 1)<|R<|pS 0 rfl<|Nb<|G rfl<|Nd<|sN [(C 0)] λw d=>?_
    rw [c]
    exact ⟨_,_,I,d,x⟩
theorem Zs(br A D A1 j l bad w)(c:cC [aD br 194 [(V A1 l j),(.bool bad)]] w)(m:Rf [aD br 194 [(V A1 l j),(.bool bad)]] w (λw=>aI w A (B8 D)))(t:cZ A D A1 l j)(s:D.length<=1048576):
  Θ 123 #[(Z br 0)] w λe r=>∃ (A2:Δ) (n:Nat),e = .returned (vS ((fL l bad).1))/\aN [aD br 194 [(V A1 l j),(.bool bad)]] w [aD br 194 [(V A2 ((fL l bad).2.1) n),(.bool (fL l bad).2.2)]] r/\(cZ A D A2 ((fL l bad).2.1) n):=by
 refine eO Tryz.func123 18 (c) rfl<|Nc<|G rfl<|Nb<|G rfl<|R<|iS [0] (λw b c=>Im br A D A1 j l bad 32 w c (m.bJ b [0]) ag ag U) λA25 g q=>?_
 have p:=Bn l bad 32
 refine G I<|Ne<|G I<|M (.bool (((((aK l bad 32).1:Nat):Int):Int) != 0))<|lm ?_
 refine St.dec 8 I (λi=>?_) (λi=>?_)
 .refine G I<|lg (.bool (((((aK l bad 32).1:Nat):Int):Int) != 32))<|M (.bool (((((aK l bad 32).1:Nat):Int):Int) != 32)) ?_
  refine qi I (λf=>?_) λf=>?_
  .have k:pR l bad=true:=by grind [pR]
   refine aF<|G rfl<|M (Z br 0)<|M (Z br 1)<|R<|pS 0 rfl<|Nb<|G rfl<|R<|iS [0] (λw b c=>BA br A D A25 g _ true ((aK l bad 32).1) w c (m.bJ b [0]) ag ag U) λA217 d a=>G I<|Nd<|sN [(vS _)] λw b=>?_
   unfold fL; rw [k]
   exact ⟨_,_,I,b,a⟩
  .have k:pR l bad=(aK l bad 32).2.2:=by unfold pR; have h:=i; have o:=f; simp at h o; simp; omega
   refine Ni<|G rfl<|R<|iS [0] (λw b c=>BA br A D A25 g _ _ ((aK l bad 32).1) w c (m.bJ b [0]) ag ag U) λA217 d a=>G I<|Nd<|sN [(vS _)] λw b=>?_
   unfold fL; rw [k]
   exact ⟨_,_,I,b,a⟩
 .have k:pR l bad=(aK l bad 32).2.2:=by have h:=i; simp at h; unfold pR; simp; omega
  refine G I<|lF<|Nn ?_
  refine xd ?_
  refine aF<|G rfl<|R<|iS [0] (λw b c=>BA br A D A25 g _ _ ((aK l bad 32).1) w c (m.bJ b [0]) ag ag U) λA217 d a=>G I<|Nd<|sN [(vS _)] λw b=>?_
  unfold fL; rw [k]
  exact ⟨_,_,I,b,a⟩
abbrev M9(a b c d):=[(bQ ((bE (aK a b c).2.1 (aK a b c).2.2 d).2.1) ((bE (aK a b c).2.1 (aK a b c).2.2 d).2.2) 32)]
theorem Zt(br A D A1 u l bad lo hi T W X v5 v6 most w)(E:cC [aD br 194 [(V A1 l u),(.bool bad)]] w)(S:Rf [aD br 194 [(V A1 l u),(.bool bad)]] w (λw=>aI w A (B8 D)))(hs:cZ A D A1 l u)(hD:D.length<=1048576)(hm:most<=16384):
  Θ 125 #[(Z br 0),(.agg #[(vS lo),(vS hi),T,W,X,v5,v6]),(Y most)] w λe w'=>∃ (A2:Δ) (Q:Nat) (B:Δ) (cb:Nat),e = .returned (.slice B ((gR l bad most lo hi).1.length) (cb))/\aN [aD br 194 [(V A1 l u),(.bool bad)]] w [aD br 194 [(V A2 ((gR l bad most lo hi).2.1) Q),(.bool (gR l bad most lo hi).2.2)],bD 9 1 B ((gR l bad most lo hi).1.length) (cb) (SS (gR l bad most lo hi).1)] w'/\(cZ A D A2 ((gR l bad most lo hi).2.1) Q):=by
 refine kN Tryz.func125 56 (E) rfl<|Nc<|R<|pB _ λt=>G I<|Nb<|G rfl<|R<|iS [0] (λw a E=>Im br A D A1 u l bad most w E (S.bJ a [0]) ag ag U) λA212 x H=>?_
 have ad:=Bn l bad most
 refine G I<|Nb<|G rfl<|Ne<|G rfl<|Ng<|St.mem (λw a=>a.gB 9 1) ?_
 refine xd ?_
 refine sL (λ(i,AX,q,BX,d)=>i<=(aK l bad most).1/\cZ A D AX (bE (aK l bad most).2.1 (aK l bad most).2.2 i).2.1 q) (λ(i,AX,q,BX,d)=>(aK l bad most).1 - i) (λ(i,AX,q,BX,d)=>[(0,(Z br 0)),(4,(Z t 0)),(6,nS),(7,(Y ((aK l bad most).1))),(8,(.slice BX ((bE (aK l bad most).2.1 (aK l bad most).2.2 i).1.length) (d))),(9,(Y i))]) (λ(i,AX,q,BX,d)=>[aD br 194 [(V AX ((bE (aK l bad most).2.1 (aK l bad most).2.2 i).2.1) q),(.bool (bE (aK l bad most).2.1 (aK l bad most).2.2 i).2.2)],aD t 143 [(vS lo),(vS hi),T,W,X,v5,v6],bD 9 1 BX ((bE (aK l bad most).2.1 (aK l bad most).2.2 i).1.length) (d) (SS (bE (aK l bad most).2.1 (aK l bad most).2.2 i).1)]) (0,A212,x,none,0) ⟨G6 _,H⟩ (λw a=>by show Mm _ _ _ w; exact a) ?_
 rintro ⟨i,AX,q,BX,d⟩ ⟨ae,g⟩
 dsimp only
 refine Ny<|G I<|M (.bool (decide ((i:Int) < (((aK l bad most).1:Nat):Int))))<|lm ?_
 refine St.dec 16 I (λm=>?_) (λm=>?_)
 .have F:=D4 m
  have s:i < (aK l bad most).1:=by omega
  refine G I<|lg (Z br 0)<|lg (Z br 1)<|lu _ (bW 0 I I J I I)<|lg (.bool (!(bE (aK l bad most).2.1 (aK l bad most).2.2 i).2.2))<|M (.bool (!(bE (aK l bad most).2.1 (aK l bad most).2.2 i).2.2)) ?_
  refine qi I (λn=>?_) λn=>?_
  .have N:(bE (aK l bad most).2.1 (aK l bad most).2.2 i).2.2=false:=by simpa using n
   have p:=XF N
   refine Nl<|fY<|aF<|G rfl<|R<|iS [0] (λw a E=>BA br A D AX q _ _ 32 w E (S.bJ a [0]) ag ag U) λA227 y K=>R<|pN 1 9 [(vS (bQ ((bE (aK l bad most).2.1 (aK l bad most).2.2 i).2.1) ((bE (aK l bad most).2.1 (aK l bad most).2.2 i).2.2) 32))] λab=>R<|cL gD 2 _ rfl rfl J rfl rfl rfl (rfl) (fE (i:=3) rfl yy) (by simp [Value.oneCell']) (by have:=DB (aK l bad most).2.1 (aK l bad most).2.2 i; first | omega | (simp only [C3,V0,W7]; omega)) (((bE (aK l bad most).2.1 (aK l bad most).2.2 i).1++(M9 l bad most i)).length) dV (SS ((bE (aK l bad most).2.1 (aK l bad most).2.2 i).1++(M9 l bad most i))) (by simp [SS]) (λA29 L=>G I<|Nk<|aF<|G I<|lw (Y (i+1)) bN<|G I<|Na ?_)
   rw [show (bE _ _ i).1++[_]=(bE _ _ _).1 from by rw [p]]
   rw [show dM _ _ 32=(bE _ _ _).2.1 from by rw [p]]
   rw [show dJ _ _ 32=(bE _ _ _).2.2 from by rw [p]]
   exact sA (i+1,A227,y,A29,L) (⟨U,by rw [p]; exact K⟩) oz (κ [0,1,2] I I)
  .have O:(bE (aK l bad most).2.1 (aK l bad most).2.2 i).2.2=true:=by simpa using n
   have o:=XG O (Nat.le_of_lt s)
   refine Nj<|aT ?_
   have P:=DB (aK l bad most).2.1 (aK l bad most).2.2 i
   refine aF<|G I<|M (Z br 0)<|M (Z br 1)<|lL 0 I<|M (.bool (!(bE (aK l bad most).2.1 (aK l bad most).2.2 i).2.2))<|lm ?_
   refine St.dec 35 I (λf=>?_) (λf=>?_)
   .refine G I<|dP rfl rfl<|bV (λw a=>yY BX d _ w (a.aR (j:=2) I (λ_ h=>aI.bM h)) U)<|lg (.bool (((eM ((bE (aK l bad most).2.1 (aK l bad most).2.2 i).1)):Int) != 0))<|uW ?_
    refine St.dec 39 I (λb=>?_) (λb=>?_)
    .refine G I<|lg bT<|lT<|Nt ?_
     refine xd ?_
     refine aF<|G rfl<|M (Z br 0)<|M (Z br 1)<|R<|pS 0 rfl<|Nb<|G rfl<|Nd<|sN [(.slice BX _ (d))] λw a=>?_
     have k:((bE (aK l bad most).2.1 (aK l bad most).2.2 i).2.2 || (decide (eM (bE (aK l bad most).2.1 (aK l bad most).2.2 i).1≠0) || decide ((inL (bE (aK l bad most).2.1 (aK l bad most).2.2 i).1 lo hi).length≠(bE (aK l bad most).2.1 (aK l bad most).2.2 i).1.length)))=true:=by have h:=b; simp at h; simp [h]
     unfold gR; rw [o,k]
     exact ⟨_,_,_,_,I,(a.pick [0,2] I I),g⟩
    .refine G I<|lg (Z t 0)<|lu _ (bW 1 rfl rfl J rfl rfl)<|lg (Z t 1)<|lu _ (bW 1 rfl rfl J rfl rfl)<|dP rfl rfl<|dC (λw a=>AS BX d _ lo hi w (a.aR (j:=2) I (λ_ h=>aI.bM h)) U) λB45 z=>lg (Y ((inL ((bE (aK l bad most).2.1 (aK l bad most).2.2 i).1) lo hi).length))<|G I<|lg (Y ((bE (aK l bad most).2.1 (aK l bad most).2.2 i).1.length))<|lg (.bool (((((inL ((bE (aK l bad most).2.1 (aK l bad most).2.2 i).1) lo hi).length:Nat):Int):Int) != (((bE (aK l bad most).2.1 (aK l bad most).2.2 i).1.length:Nat):Int)))<|lg (.bool (((((inL ((bE (aK l bad most).2.1 (aK l bad most).2.2 i).1) lo hi).length:Nat):Int):Int) != (((bE (aK l bad most).2.1 (aK l bad most).2.2 i).1.length:Nat):Int)))<|M (.bool (((((inL ((bE (aK l bad most).2.1 (aK l bad most).2.2 i).1) lo hi).length:Nat):Int):Int) != (((bE (aK l bad most).2.1 (aK l bad most).2.2 i).1.length:Nat):Int))) ?_
     refine qi I (λc=>?_) λc=>?_
     .refine aF<|G rfl<|M (Z br 0)<|M (Z br 1)<|R<|pS 0 rfl<|Nb<|G rfl<|Nd<|sN [(.slice BX _ (d))] λw a=>?_
      have k:((bE (aK l bad most).2.1 (aK l bad most).2.2 i).2.2 || (decide (eM (bE (aK l bad most).2.1 (aK l bad most).2.2 i).1≠0) || decide ((inL (bE (aK l bad most).2.1 (aK l bad most).2.2 i).1 lo hi).length≠(bE (aK l bad most).2.1 (aK l bad most).2.2 i).1.length)))=true:=by have r:¬ (inL (bE (aK l bad most).2.1 (aK l bad most).2.2 i).1 lo hi).length=(bE (aK l bad most).2.1 (aK l bad most).2.2 i).1.length:=(by have h:=c; simp at h; omega); simp [r]
      unfold gR; rw [o,k]
      exact ⟨_,_,_,_,I,(a.pick [0,2] I I),g⟩
     .refine Ni<|G rfl<|Nd<|sN [(.slice BX _ (d))] λw a=>?_
      have k:((bE (aK l bad most).2.1 (aK l bad most).2.2 i).2.2 || (decide (eM (bE (aK l bad most).2.1 (aK l bad most).2.2 i).1≠0) || decide ((inL (bE (aK l bad most).2.1 (aK l bad most).2.2 i).1 lo hi).length≠(bE (aK l bad most).2.1 (aK l bad most).2.2 i).1.length)))=(bE (aK l bad most).2.1 (aK l bad most).2.2 i).2.2:=by have h:=b; have r:(inL (bE (aK l bad most).2.1 (aK l bad most).2.2 i).1 lo hi).length=(bE (aK l bad most).2.1 (aK l bad most).2.2 i).1.length:=(by have h:=c; simp at h; omega); simp at h; simp [h,r]
      unfold gR; rw [o,k]
      exact ⟨_,_,_,_,I,(a.pick [0,2] I I),g⟩
   .refine G I<|lR ?_
    iterate 9 refine lR ?_
    refine G I<|lF<|Nn<|aF<|G rfl<|Nd<|sN [(.slice BX _ (d))] λw a=>?_
    have k:((bE (aK l bad most).2.1 (aK l bad most).2.2 i).2.2 || (decide (eM (bE (aK l bad most).2.1 (aK l bad most).2.2 i).1≠0) || decide ((inL (bE (aK l bad most).2.1 (aK l bad most).2.2 i).1 lo hi).length≠(bE (aK l bad most).2.1 (aK l bad most).2.2 i).1.length)))=(bE (aK l bad most).2.1 (aK l bad most).2.2 i).2.2:=by have h:(bE _ _ i).2.2=true:=(su f); rw [h]; rfl
    unfold gR; rw [o,k]
    exact ⟨_,_,_,_,I,(a.pick [0,2] I I),g⟩
 .have F:=C7 m
  have s:i=(aK l bad most).1:=by have:=C7 m; omega
  have o:rP l bad most=bE (aK l bad most).2.1 (aK l bad most).2.2 i:=by unfold rP; rw [s]
  refine G I<|lF<|Nu<|Nj<|aT ?_
  have P:=DB (aK l bad most).2.1 (aK l bad most).2.2 i
  refine aF<|G I<|M (Z br 0)<|M (Z br 1)<|lL 0 I<|M (.bool (!(bE (aK l bad most).2.1 (aK l bad most).2.2 i).2.2))<|lm ?_
  refine St.dec 35 I (λf=>?_) (λf=>?_)
  .refine G I<|dP rfl rfl<|bV (λw a=>yY BX d _ w (a.aR (j:=2) I (λ_ h=>aI.bM h)) U)<|lg (.bool (((eM ((bE (aK l bad most).2.1 (aK l bad most).2.2 i).1)):Int) != 0))<|uW ?_
   refine St.dec 39 I (λb=>?_) (λb=>?_)
   .refine G I<|lg bT<|lT<|Nt ?_
    refine xd ?_
    refine aF<|G rfl<|M (Z br 0)<|M (Z br 1)<|R<|pS 0 rfl<|Nb<|G rfl<|Nd<|sN [(.slice BX _ (d))] λw a=>?_
    have k:((bE (aK l bad most).2.1 (aK l bad most).2.2 i).2.2 || (decide (eM (bE (aK l bad most).2.1 (aK l bad most).2.2 i).1≠0) || decide ((inL (bE (aK l bad most).2.1 (aK l bad most).2.2 i).1 lo hi).length≠(bE (aK l bad most).2.1 (aK l bad most).2.2 i).1.length)))=true:=by have h:=b; simp at h; simp [h]
    unfold gR; rw [o,k]
    exact ⟨_,_,_,_,I,(a.pick [0,2] I I),g⟩
   .refine G I<|lg (Z t 0)<|lu _ (bW 1 rfl rfl J rfl rfl)<|lg (Z t 1)<|lu _ (bW 1 rfl rfl J rfl rfl)<|dP rfl rfl<|dC (λw a=>AS BX d _ lo hi w (a.aR (j:=2) I (λ_ h=>aI.bM h)) U) λB45 z=>lg (Y ((inL ((bE (aK l bad most).2.1 (aK l bad most).2.2 i).1) lo hi).length))<|G I<|lg (Y ((bE (aK l bad most).2.1 (aK l bad most).2.2 i).1.length))<|lg (.bool (((((inL ((bE (aK l bad most).2.1 (aK l bad most).2.2 i).1) lo hi).length:Nat):Int):Int) != (((bE (aK l bad most).2.1 (aK l bad most).2.2 i).1.length:Nat):Int)))<|lg (.bool (((((inL ((bE (aK l bad most).2.1 (aK l bad most).2.2 i).1) lo hi).length:Nat):Int):Int) != (((bE (aK l bad most).2.1 (aK l bad most).2.2 i).1.length:Nat):Int)))<|M (.bool (((((inL ((bE (aK l bad most).2.1 (aK l bad most).2.2 i).1) lo hi).length:Nat):Int):Int) != (((bE (aK l bad most).2.1 (aK l bad most).2.2 i).1.length:Nat):Int))) ?_
    refine qi I (λc=>?_) λc=>?_
    .refine aF<|G rfl<|M (Z br 0)<|M (Z br 1)<|R<|pS 0 rfl<|Nb<|G rfl<|Nd<|sN [(.slice BX _ (d))] λw a=>?_
     have k:((bE (aK l bad most).2.1 (aK l bad most).2.2 i).2.2 || (decide (eM (bE (aK l bad most).2.1 (aK l bad most).2.2 i).1≠0) || decide ((inL (bE (aK l bad most).2.1 (aK l bad most).2.2 i).1 lo hi).length≠(bE (aK l bad most).2.1 (aK l bad most).2.2 i).1.length)))=true:=by have r:¬ (inL (bE (aK l bad most).2.1 (aK l bad most).2.2 i).1 lo hi).length=(bE (aK l bad most).2.1 (aK l bad most).2.2 i).1.length:=(by have h:=c; simp at h; omega); simp [r]
     unfold gR; rw [o,k]
     exact ⟨_,_,_,_,I,(a.pick [0,2] I I),g⟩
    .refine Ni<|G rfl<|Nd<|sN [(.slice BX _ (d))] λw a=>?_
     have k:((bE (aK l bad most).2.1 (aK l bad most).2.2 i).2.2 || (decide (eM (bE (aK l bad most).2.1 (aK l bad most).2.2 i).1≠0) || decide ((inL (bE (aK l bad most).2.1 (aK l bad most).2.2 i).1 lo hi).length≠(bE (aK l bad most).2.1 (aK l bad most).2.2 i).1.length)))=(bE (aK l bad most).2.1 (aK l bad most).2.2 i).2.2:=by have h:=b; have r:(inL (bE (aK l bad most).2.1 (aK l bad most).2.2 i).1 lo hi).length=(bE (aK l bad most).2.1 (aK l bad most).2.2 i).1.length:=(by have h:=c; simp at h; omega); simp at h; simp [h,r]
     unfold gR; rw [o,k]
     exact ⟨_,_,_,_,I,(a.pick [0,2] I I),g⟩
  .refine G I<|lR ?_
   iterate 9 refine lR ?_
   refine G I<|lF<|Nn<|aF<|G rfl<|Nd<|sN [(.slice BX _ (d))] λw a=>?_
   have k:((bE (aK l bad most).2.1 (aK l bad most).2.2 i).2.2 || (decide (eM (bE (aK l bad most).2.1 (aK l bad most).2.2 i).1≠0) || decide ((inL (bE (aK l bad most).2.1 (aK l bad most).2.2 i).1 lo hi).length≠(bE (aK l bad most).2.1 (aK l bad most).2.2 i).1.length)))=(bE (aK l bad most).2.1 (aK l bad most).2.2 i).2.2:=by have h:(bE _ _ i).2.2=true:=(su f); rw [h]; rfl
   unfold gR; rw [o,k]
   exact ⟨_,_,_,_,I,(a.pick [0,2] I I),g⟩
theorem Io(br A D A1 a l bad most w)(f:cC [aD br 194 [(V A1 l a),(.bool bad)]] w)(i:Rf [aD br 194 [(V A1 l a),(.bool bad)]] w (λw=>aI w A (B8 D)))(h:cZ A D A1 l a)(d:D.length<=1048576)(g:most<=1048576):
  Θ 122 #[(Z br 0),(Y most)] w λe j=>∃ (t:Nat) (b:Γ) (b2:Bool) (A2:Δ) (c:Nat),e = .returned (Y t)/\aN [aD br 194 [(V A1 l a),(.bool bad)]] w [aD br 194 [(V A2 b c),(.bool b2)]] j/\(aK l bad most=(t,b,b2))/\(cZ A D A2 b c) :=
 (Im br A D A1 a l bad most w f i h d g).mono zg
theorem Zu(br A D A1 a l bad n w)(f:cC [aD br 194 [(V A1 l a),(.bool bad)]] w)(i:Rf [aD br 194 [(V A1 l a),(.bool bad)]] w (λw=>aI w A (B8 D)))(h:cZ A D A1 l a)(d:D.length<=1048576)(g:n<=1048576):
  Θ 124 #[(Z br 0),(Y n)] w λe j=>∃ (t b:Γ) (b2:Bool) (A2:Δ) (c:Nat),e = .returned (vS t)/\aN [aD br 194 [(V A1 l a),(.bool bad)]] w [aD br 194 [(V A2 b c),(.bool b2)]] j/\((bQ l bad n,dM l bad n,dJ l bad n)=(t,b,b2))/\(cZ A D A2 b c) :=
 (BA br A D A1 a l bad n w f i h d g).mono zg
theorem Pf(br A D A1 a l bad w)(f:cC [aD br 194 [(V A1 l a),(.bool bad)]] w)(h:Rf [aD br 194 [(V A1 l a),(.bool bad)]] w (λw=>aI w A (B8 D)))(g:cZ A D A1 l a)(d:D.length<=1048576):
  Θ 123 #[(Z br 0)] w λe i=>∃ (t b:Γ) (b2:Bool) (A2:Δ) (c:Nat),e = .returned (vS t)/\aN [aD br 194 [(V A1 l a),(.bool bad)]] w [aD br 194 [(V A2 b c),(.bool b2)]] i/\(fL l bad=(t,b,b2))/\(cZ A D A2 b c) :=
 (Zs br A D A1 a l bad w f h g d).mono zg
theorem Ip(br A D A1 a l bad lo hi d f g h i most w)(k:cC [aD br 194 [(V A1 l a),(.bool bad)]] w)(o:Rf [aD br 194 [(V A1 l a),(.bool bad)]] w (λw=>aI w A (B8 D)))(n:cZ A D A1 l a)(j:D.length<=1048576)(m:most<=16384):
  Θ 125 #[(Z br 0),(.agg #[(vS lo),(vS hi),d,f,g,h,i]),(Y most)] w λe p=>∃ (t:List Γ) (b:Γ) (b2:Bool) (A2:Δ) (c:Nat) (B:Δ) (cb:Nat),e = .returned (V B t cb)/\aN [aD br 194 [(V A1 l a),(.bool bad)]] w [aD br 194 [(V A2 b c),(.bool b2)],cS B t cb] p/\(gR l bad most lo hi=(t,b,b2))/\(cZ A D A2 b c) :=
 (Zt br A D A1 a l bad lo hi d f g h i most w k o n j m).mono zg
abbrev Q5(a b c d e):=[QV.mk a b c d e none 0 [] none 0 []]
abbrev M4(a b c d e):=[(V a ((cI b c (d+1)).2.1) e),(.bool ((cI b c (d+1)).2.2))]
abbrev R9(a b c):=[(vS a),(vS b),(Y c),(C 0),qe,nS,nS]
abbrev N4(a b c):=[QV.mk a b c 0 [] none 0 [] none 0 []]
theorem Pg(A c D w)(r0:Rf [] w (λw=>aI w A (B8 D)))(hD:D.length<=1048576)(hc:D.length<=c):
  Θ 83 #[(V A D c)] w λe w'=>∃ (RX:Δ) (x:Nat) (qs:List QV) (LX:List (Δ × List Γ)),e = .returned (.tuple #[(V RX qs x),(.bool (mR D))])/\aN [] w [cQ RX (qs) x,dQ (LX)] w'/\(qs.map QV.core=(mQ D).1)/\(iJ LX qs):=by
 refine eO Tryz.func83 125 (B3 w) I<|Nc<|G rfl<|Ne<|G rfl<|lk (B4 D)<|lk (M3 D)<|Na<|fD rfl (by have:=hD; simp; omega)<|Ni<|G rfl<|lk (J4 A D c)<|R<|pB _ λj=>G I<|Nb<|G I<|Nf ?_
 have cv:cZ A D A D c:=⟨λw h=>h,hc,J7 _⟩
 refine aF<|G rfl<|R<|fT [0] _ (λw k P=>(Io j A D A c D _ 1048576 w P (r0.bJ k [0]) ag ag U).mono ?_)
 rintro e w' ⟨s,f,d,A216,b4,rfl,Q,bt,ce⟩
 refine ⟨_,[_],_,I,Q,I,?_⟩; clear Q k P
 have cd:=Bn D false 1048576; rw [bt] at cd
 change s<=1048576 at cd
 have cb:mQ D=cI f d s:=by unfold mQ; grind
 have bo:mR D=((!(mQ D).2.2 && decide (0 < s)) && decide ((mQ D).2.1.length=0)):=by unfold mR; grind
 refine G I<|Ne<|G rfl<|Ng<|St.mem (λw k=>k.gB 143 7)<|St.mem (λw k=>Mm.tK k)<|sL (λ(i,AX,cX,RX,x,qs,LX)=>i<=s/\cZ A D AX (cI f d i).2.1 cX/\qs.map QV.core=(cI f d i).1/\iJ LX qs) (λ(i,AX,cX,RX,x,qs,LX)=>s - i) (λ(i,AX,cX,RX,x,qs,LX)=>[(2,nS),(3,bF),(4,(Z j 0)),(6,(Y s)),(5,(V RX (qs) x)),(7,(Y i))]) (λ(i,AX,cX,RX,x,qs,LX)=>[aD j 194 [(V AX ((cI f d i).2.1) cX),(.bool ((cI f d i).2.2))],cQ RX (qs) x,dQ (LX)]) (0,A216,b4,none,0,[],[]) ⟨G6 _,ce,I,iJ.nil⟩ (λw k=>by show Mm _ _ _ w; exact k) ?_
 rintro ⟨i,AX,cX,RX,x,qs,LX⟩ ⟨cu,cw,F,ae⟩
 dsimp only
 refine Ny<|G I<|lk (qb i s)<|lm ?_
 refine St.dec 20 I (λao=>?_) (λao=>?_)
 .have ca:=D4 ao
  have cc:i < s:=by have:=D4 ao; omega
  refine G I<|lg (Z j 0)<|lg (Z j 1)<|lu _ (bW 0 I I J I I)<|lg (.bool (!((cI f d i).2.2)))<|lk (.bool (!((cI f d i).2.2))) ?_
  refine qi I (λba=>?_) λba=>?_
  .have aj:(cI f d i).2.2=false:=by simpa using ba
   have a2:qs.length=i:=by have h:=XS aj; rw [<- F,K0] at h; exact h
   refine Nm<|aF<|G rfl<|R<|fT [0] _ (λw k P=>(Pf j A D AX cX _ _ w P (r0.bJ k [0]) ag ag).mono ?_)
   rintro e w' ⟨a,ci,b0,A230,b5,rfl,Q,B,cp⟩
   refine ⟨_,[_],_,I,Q,I,?_⟩; clear Q k P
   refine G I<|R<|fT [0] _ (λw k P=>(Pf j A D A230 b5 ci b0 w P (r0.bJ k [0]) ag ag).mono ?_)
   rintro e w' ⟨b,cj,b1,A232,b6,rfl,Q,ak,cq⟩
   refine ⟨_,[_],_,I,Q,I,?_⟩; clear Q k P
   refine lk (.agg #[(vS a),(vS b),(C 0),(C 0),qe,nS,nS])<|R<|pA P6 λb8=>R<|zu 3 I<|Nf ?_
   refine xd ?_
   refine aF<|G rfl<|R<|fT [0] _ (λw k P=>(Io j A D A232 b6 cj b1 3 w P (r0.bJ k [0]) ag ag U).mono ?_)
   rintro e w' ⟨g,S,m,A235,W,rfl,Q,an,cf⟩
   refine ⟨_,[_],_,I,Q,I,?_⟩; clear Q k P
   refine lk (Z b8 2)<|R<|pS 3 I<|Na ?_
   refine xd ?_
   refine qU (ι:=Unit) (λ_=>True) (λ_=>[(2,nS),(3,bF),(4,(Z j 0)),(5,(V RX (qs) x)),(6,(Y s)),(7,(Y i)),(8,(Z b8 0))]) (λ_=>[aD j 194 [(V A235 S W),(.bool ((m) || iD (qs.map QV.core) a b))],cQ RX (qs) x,dQ (LX),aD b8 143 [(vS a),(vS b),(Y g),(C 0),qe,nS,nS]]) ?_ ?_
   .refine aT<|dN _ 34 J η<|aC 0 (Z b8 1) I<|al 1 3 ?_
    refine aV 2 (.bool (!decide (b=[]))) I (qC I I I) ?_
    refine am 3 ?_
    refine Any.dec 40 I (λah=>?_) (λah=>?_)
    .refine aG 4 (Z b8 0) I<|aW 5 _ I (bW 3 I I J I I)<|aG 6 (Z b8 1) I ?_
     refine aW 7 _ I (bW 3 I I J I I)<|aW 8 _ I (tS I I I) ?_
     refine aC 9 (.bool (!decide (a < b))) I ?_
     refine am 10 ?_
     refine Any.dec 47 I (λai=>?_) (λai=>?_)
     .refine eQ 11 ?_
      refine eQ 12 ?_
      refine eQ 13 ?_
      refine dB 14 ?_
      refine dB 15 ?_
      refine dB 16 ?_
      refine dB 17 ?_
      refine dB 18 ?_
      refine dB 19 ?_
      refine dB 20 ?_
      refine dB 21 ?_
      refine dB 22 ?_
      refine dB 23 ?_
      refine dB 24 ?_
      refine dB 25 ?_
      refine dB 26 ?_
      refine dB 27 ?_
      refine dB 28 ?_
      refine dB 29 ?_
      refine dB 30 ?_
      refine dB 31 ?_
      refine eQ 32 ?_
      refine aC 33 bT I<|cG J<|aJ<|nR I<|aF<|G I<|lk (Z j 0)<|lk (Z j 1)<|R<|pS 0 I<|Na ?_
      have N:((m) || iD (qs.map QV.core) a b)=true:=by rw [XQ (su ah) (su ai),Bool.or_true]
      rw [N]
      exact sM () trivial η
     .refine fQ 11 ?_
      refine aG 12 (D0 i) I ?_
      refine fQ 13 ?_
      refine Any.dec 50 I (λK=>?_) (λK=>?_)
      .have bg:=D4 K
       refine fQ 14 ?_
       refine fQ 15 ?_
       refine aW 16 (Q6 i) I (jT _ I I I U U U) ?_
       obtain ⟨y,ad⟩:=gk qs (i - 1) U
       refine Any.xQ (λw k=>oT (i:=1) I w k) ad (λbk bm a8 bb=>aW 17 (Z bk (bm+(i - 1)*7)) I (rO (e:=143) I J J I I a8 U)<|aG 18 (Z bk (bm+(i - 1)*7+1)) I ?_)
       refine aW 19 (vS _) I (gN I I J (λw k=>bb w k 1 _ I)) ?_
       refine aW 20 (.bool (decide (y.hi=[]))) I (lQ I I I) ?_
       refine fQ 21 ?_
       refine Any.dec 58 I (λr=>?_) (λr=>?_)
       .have bh:=D4 r
        refine eQ 22 ?_
        refine eQ 23 ?_
        refine eQ 24 ?_
        refine eQ 25 ?_
        refine eQ 26 ?_
        refine eQ 27 ?_
        refine eQ 28 ?_
        refine eQ 29 ?_
        refine eQ 30 ?_
        refine aG 31 bT I<|aG 32 bT I<|aC 33 bT I<|cG J<|aJ<|nR I<|aF<|G I<|lk (Z j 0)<|lk (Z j 1)<|R<|pS 0 I<|Na ?_
        have H:b=[]\/a < b:=.inr (su ai)
        have ab:iD _ a b=(decide (y.hi=[]) || decide (a < y.hi)):=zM (q:=y.core) H (by rw [K0,a2,U8,ad]; rfl)
        have N:((m) || iD (qs.map QV.core) a b)=true:=by rw [ab,show decide _=true from r]; simp
        rw [N]
        exact sM () trivial η
       .have bh:=C7 r
        refine fQ 22 ?_
        refine fQ 23 ?_
        refine aW 24 (Y _) I (jT _ I I I U U U)<|Any.xQ (λw k=>oT (i:=1) I w k) ad (λbl bn a9 bc=>aW 25 (Z bl (bn+(i - 1)*7)) I (rO (e:=143) I J J I I a9 U)<|aG 26 (Z bl (bn+(i - 1)*7+1)) rfl<|aW 27 (vS y.hi) rfl (gN rfl rfl J (λw k=>bc w k 1 _ I))<|aG 28 (Z b8 0) I<|aW 29 _ I (bW 3 I I J I I)<|aW 30 (.bool (!(decide (y.hi < a) || decide (y.hi=a)))) I (Cb I I I)<|aG 31 (.bool (!(decide (y.hi < a) || decide (y.hi=a)))) I<|aG 32 (.bool (!(decide (y.hi < a) || decide (y.hi=a)))) I<|aC 33 (.bool (!(decide (y.hi < a) || decide (y.hi=a)))) I<|cG J ?_)
        refine aJ (aY I (λX=>?_) (λX=>?_))
        .refine aF<|G I<|lk (Z j 0)<|lk (Z j 1)<|R<|pS 0 I<|Na ?_
         have H:b=[]\/a < b:=.inr (su ai)
         have ab:iD _ a b=(decide (y.hi=[]) || decide (a < y.hi)):=zM (q:=y.core) H (by rw [K0,a2,U8,ad]; rfl)
         have N:((m) || iD (qs.map QV.core) a b)=true:=by rw [ab,show decide _=false from r,<- wY,X]; simp
         rw [N]
         exact sM () trivial η
        .refine gL<|aJ ?_
         have H:b=[]\/a < b:=.inr (su ai)
         have ab:iD _ a b=(decide (y.hi=[]) || decide (a < y.hi)):=zM (q:=y.core) H (by rw [K0,a2,U8,ad]; rfl)
         have N:((m) || iD (qs.map QV.core) a b)=(m):=by rw [ab,show decide _=false from r,<- wY,X]; simp
         rw [N]
         exact sM () trivial η
      .have bg:=C7 K
       refine bR 14 ?_
       refine bR 15 ?_
       refine bR 16 ?_
       refine bR 17 ?_
       refine bR 18 ?_
       refine bR 19 ?_
       refine bR 20 ?_
       refine bR 21 ?_
       refine dB 22 ?_
       refine dB 23 ?_
       refine dB 24 ?_
       refine dB 25 ?_
       refine dB 26 ?_
       refine dB 27 ?_
       refine dB 28 ?_
       refine dB 29 ?_
       refine dB 30 ?_
       refine bR 31 ?_
       refine aG 32 bF I<|aC 33 bF I<|cG J<|aJ<|oO I<|gL<|aJ ?_
       have H:b=[]\/a < b:=.inr (su ai)
       have N:((m) || iD (qs.map QV.core) a b)=(m):=by rw [Oc H (by rw [K0]; have:=C7 K; omega),Bool.or_false]
       rw [N]
       exact sM () trivial η
    .refine bR 4 ?_
     refine bR 5 ?_
     refine bR 6 ?_
     refine bR 7 ?_
     refine bR 8 ?_
     refine aC 9 bF I ?_
     refine am 10 ?_
     refine fQ 11 ?_
     refine aG 12 (D0 i) I ?_
     refine fQ 13 ?_
     refine Any.dec 50 I (λK=>?_) (λK=>?_)
     .have bg:=D4 K
      refine fQ 14 ?_
      refine fQ 15 ?_
      refine aW 16 (Q6 i) I (jT _ I I I U U U) ?_
      obtain ⟨y,ad⟩:=gk qs (i - 1) U
      refine Any.xQ (λw k=>oT (i:=1) I w k) ad (λbk bm a8 bb=>aW 17 (Z bk (bm+(i - 1)*7)) I (rO (e:=143) I J J I I a8 U)<|aG 18 (Z bk (bm+(i - 1)*7+1)) I ?_)
      refine aW 19 (vS _) I (gN I I J (λw k=>bb w k 1 _ I)) ?_
      refine aW 20 (.bool (decide (y.hi=[]))) I (lQ I I I) ?_
      refine fQ 21 ?_
      refine Any.dec 58 I (λr=>?_) (λr=>?_)
      .have bh:=D4 r
       refine eQ 22 ?_
       refine eQ 23 ?_
       refine eQ 24 ?_
       refine eQ 25 ?_
       refine eQ 26 ?_
       refine eQ 27 ?_
       refine eQ 28 ?_
       refine eQ 29 ?_
       refine eQ 30 ?_
       refine aG 31 bT I<|aG 32 bT I<|aC 33 bT I<|cG J<|aJ<|nR I<|aF<|G I<|lk (Z j 0)<|lk (Z j 1)<|R<|pS 0 I<|Na ?_
       have H:b=[]\/a < b:=.inl (su ah)
       have ab:iD _ a b=(decide (y.hi=[]) || decide (a < y.hi)):=zM (q:=y.core) H (by rw [K0,a2,U8,ad]; rfl)
       have N:((m) || iD (qs.map QV.core) a b)=true:=by rw [ab,show decide _=true from r]; simp
       rw [N]
       exact sM () trivial η
      .have bh:=C7 r
       refine fQ 22 ?_
       refine fQ 23 ?_
       refine aW 24 (Y _) I (jT _ I I I U U U)<|Any.xQ (λw k=>oT (i:=1) I w k) ad (λbl bn a9 bc=>aW 25 (Z bl (bn+(i - 1)*7)) I (rO (e:=143) I J J I I a9 U)<|aG 26 (Z bl (bn+(i - 1)*7+1)) rfl<|aW 27 (vS y.hi) rfl (gN rfl rfl J (λw k=>bc w k 1 _ I))<|aG 28 (Z b8 0) I<|aW 29 _ I (bW 3 I I J I I)<|aW 30 (.bool (!(decide (y.hi < a) || decide (y.hi=a)))) I (Cb I I I)<|aG 31 (.bool (!(decide (y.hi < a) || decide (y.hi=a)))) I<|aG 32 (.bool (!(decide (y.hi < a) || decide (y.hi=a)))) I<|aC 33 (.bool (!(decide (y.hi < a) || decide (y.hi=a)))) I<|cG J ?_)
       refine aJ (aY I (λX=>?_) (λX=>?_))
       .refine xd ?_
        refine aF<|G I<|lk (Z j 0)<|lk (Z j 1)<|R<|pS 0 I<|Na ?_
        have H:b=[]\/a < b:=.inl (su ah)
        have ab:iD _ a b=(decide (y.hi=[]) || decide (a < y.hi)):=zM (q:=y.core) H (by rw [K0,a2,U8,ad]; rfl)
        have N:((m) || iD (qs.map QV.core) a b)=true:=by rw [ab,show decide _=false from r,<- wY,X]; simp
        rw [N]
        exact sM () trivial η
       .refine gL<|aJ ?_
        have H:b=[]\/a < b:=.inl (su ah)
        have ab:iD _ a b=(decide (y.hi=[]) || decide (a < y.hi)):=zM (q:=y.core) H (by rw [K0,a2,U8,ad]; rfl)
        have N:((m) || iD (qs.map QV.core) a b)=(m):=by rw [ab,show decide _=false from r,<- wY,X]; simp
        rw [N]
        exact sM () trivial η
     .have bg:=C7 K
      refine bR 14 ?_
      refine bR 15 ?_
      refine bR 16 ?_
      refine bR 17 ?_
      refine bR 18 ?_
      refine bR 19 ?_
      refine bR 20 ?_
      refine bR 21 ?_
      refine dB 22 ?_
      refine dB 23 ?_
      refine dB 24 ?_
      refine dB 25 ?_
      refine dB 26 ?_
      refine dB 27 ?_
      refine dB 28 ?_
      refine dB 29 ?_
      refine dB 30 ?_
      refine bR 31 ?_
      refine aG 32 bF I<|aC 33 bF I<|cG J<|aJ<|oO I<|gL<|aJ ?_
      have H:b=[]\/a < b:=.inl (su ah)
      have N:((m) || iD (qs.map QV.core) a b)=(m):=by rw [Oc H (by rw [K0]; have:=C7 K; omega),Bool.or_false]
      rw [N]
      exact sM () trivial η
   .rintro _ -
    show St _ _ _ [(2,nS),(3,bF),(4,(Z j 0)),(5,(V RX (qs) x)),(6,(Y s)),(7,(Y i)),(8,(Z b8 0))] [aD j 194 [(V A235 S W),(.bool ((m) || iD (qs.map QV.core) a b))],cQ RX (qs) x,dQ (LX),aD b8 143 [(vS a),(vS b),(Y g),(C 0),qe,nS,nS]] _
    refine Ny<|lk (Z b8 2)<|lL 3 I<|Ng<|Nc<|lk (I4 g)<|G I ?_
    refine qi I (λbd=>?_) λbd=>?_
    .have hk:g=1:=oU bd
     refine Nc<|G rfl<|R<|fT [0] _ (λw k P=>(Io j A D A235 W S _ 16384 w P (r0.bJ k [0]) ag ag U).mono ?_)
     rintro e w' ⟨ap,ck,b2,A282,b7,rfl,Q,bu,cr⟩
     refine ⟨_,[_],_,I,Q,I,?_⟩; clear Q k P
     refine lk (Z b8 3)<|R<|pS 3 rfl<|Nv<|G rfl<|R<|fT [0] _ (λw k P=>(Zu j A D A282 b7 ck b2 32 w P (r0.bJ k [0]) ag ag U).mono ?_)
     rintro e w' ⟨aq,bi,a4,A285,bq,rfl,Q,bv,cg⟩
     refine ⟨_,[_],_,I,Q,I,?_⟩; clear Q k P
     refine lk (Z b8 4)<|R<|pS 3 I<|Nk ?_
     refine xd ?_
     refine aF<|G rfl<|lW (zr 3 rfl)<|R<|pN 1 143 [(vS a),(vS b),(Y g),(Y ap),(vS aq),nS,nS] λa3=>R<|cL rN 1 _ rfl rfl J rfl rfl rfl (rfl) (fE (i:=4) rfl yy) (QV.one (QV.mk a b g ap aq none 0 [] none 0 [])) U ((qs++((Q5 a b g ap aq))).length) dV _ ((rM _ ((Q5 a b g ap aq))).symm) (λA106 E=>G I<|Nk<|aF<|G I<|lw (Y (i+1)) bN<|G I<|Na ?_)
     rw [aj] at B
     have aw:fU _ _ _=((QV.mk a b g ap aq none 0 [] none 0 []).core,bi,a4):=XM B ak an hk bu bv
     have u:cI f d (i+1)=((cI f d i).1++[(QV.mk a b g ap aq none 0 [] none 0 []).core],bi,a4):=by rw [zL aj,<- F,aw]
     have az:cZ A D A285 (cI f d (i+1)).2.1 bq:=by rw [u]; exact cg
     have ax:(qs++(Q5 a b g ap aq)).map QV.core=(cI f d (i+1)).1:=by rw [u,U1,F]; rfl
     have ay:iJ (LX) (qs++(Q5 a b g ap aq)):=ae.same Od
     rw [show bi=(cI f d _).2.1 from by rw [u]]
     rw [show a4=(cI f d _).2.2 from by rw [u]]
     exact sA (i+1,A285,bq,A106,E,qs++[_],LX) (⟨U,az,ax,ay⟩) oz (κ [0,1,2] I I)
    .have cm:¬ g=1:=oE bd
     refine Nc<|lk (I5 g)<|G I ?_
     refine qi I (λbe=>?_) λbe=>?_
     .have hk:g=2:=oU be
      refine aF<|G rfl<|lW (zr 3 rfl)<|R<|fT [0] _ (λw k P=>(Ip j A D A235 W S _ a b (Y g) (C 0) qe nS nS 64 w P (r0.bJ k [0]) ag ag U).mono ?_)
      rintro e w' ⟨af,bj,a5,A291,br,B91,O,rfl,Q,bw,ch⟩
      refine ⟨_,[_],_,I,Q,I,?_⟩; clear Q k P
      refine lk (Z b8 5)<|R<|pS 3 I<|Nk ?_
      refine xd ?_
      refine aF<|G rfl<|lW (zr 3 rfl)<|R<|pN 1 143 [(vS a),(vS b),(Y g),(C 0),qe,(V B91 af O),nS] λa3=>R<|cL rN 1 _ rfl rfl J rfl rfl rfl (rfl) (fE (i:=5) rfl yy) (QV.one (QV.mk a b g 0 [] B91 O af none 0 [])) U ((qs++([QV.mk a b g 0 [] B91 O af none 0 []])).length) dV _ ((rM _ ([QV.mk a b g 0 [] B91 O af none 0 []])).symm) (λA106 E=>G I<|Nk<|aF<|G I<|lw (Y (i+1)) bN<|G I<|Na ?_)
      rw [aj] at B
      have aw:fU _ _ _=((QV.mk a b g 0 [] B91 O af none 0 []).core,bj,a5):=XN B ak an hk bw
      have u:cI f d (i+1)=((cI f d i).1++[(QV.mk a b g 0 [] B91 O af none 0 []).core],bj,a5):=by rw [zL aj,<- F,aw]
      have az:cZ A D A291 (cI f d (i+1)).2.1 br:=by rw [u]; exact ch
      have ax:(qs++[QV.mk a b g 0 [] B91 O af none 0 []]).map QV.core=(cI f d (i+1)).1:=by rw [u,U1,F]; rfl
      have ay:iJ (LX++[(B91,af)]) (qs++[QV.mk a b g 0 [] B91 O af none 0 []]):=ae.append Oe
      rw [show bj=(cI f d _).2.1 from by rw [u]]
      rw [show a5=(cI f d _).2.2 from by rw [u]]
      exact sA (i+1,A291,br,A106,E,qs++[_],LX++[_]) (⟨U,az,ax,ay⟩) oz (λw k=>by show Mm _ _ _ w; exact Mm.join (cs:=[_,_]) (M:=[(B91,af)]) ((((k).pE 4 I).pick [0,1,2,4] I I)))
     .have cn:¬ g=2:=oE be
      refine Nc<|lk (F8 g)<|G I ?_
      refine qi I (λbf=>?_) λbf=>?_
      .have hk:g=3:=oU bf
       refine Nc<|G rfl<|lW (zr 3 rfl)<|R<|fT [0] _ (λw k P=>(Ip j A D A235 W S _ a b (Y g) (C 0) qe nS nS 16384 w P (r0.bJ k [0]) ag ag U).mono ?_)
       rintro e w' ⟨z,cl,b3,A297,b9,B97,p,rfl,Q,bx,ct⟩
       refine ⟨_,[_],_,I,Q,I,?_⟩; clear Q k P
       refine lk (Z b8 5)<|R<|pS 3 I<|Na ?_
       refine xd ?_
       refine aF<|G rfl<|lW (zr 3 rfl)<|R<|fT [0] _ (λw k P=>(Ip j A D A297 b9 cl b3 a b (Y g) (C 0) qe (V B97 z p) nS 16384 w P (r0.bJ k [0]) ag ag U).mono ?_)
       rintro e w' ⟨l,a0,ar,A2101,T,B101,o,rfl,Q,bp,bz⟩
       refine ⟨_,[_],_,I,Q,I,?_⟩; clear Q k P
       refine lk (Z b8 6)<|R<|pS 3 rfl<|Nk<|aF<|G rfl<|lW (zr 3 rfl)<|R<|pN 1 143 [(vS a),(vS b),(Y g),(C 0),qe,(V B97 z p),(V B101 l o)] λa3=>R<|cL rN 1 _ rfl rfl J rfl rfl rfl (rfl) (fE (i:=6) rfl yy) (QV.one (QV.mk a b g 0 [] B97 p z B101 _ l)) U ((qs++([QV.mk a b g 0 [] B97 p z B101 o l])).length) dV _ ((rM _ ([QV.mk a b g 0 [] B97 p z B101 _ l])).symm) (λA106 E=>G I<|Nk ?_)
       refine xd ?_
       refine aF<|G I<|lw (Y (i+1)) bN<|G I<|Na ?_
       rw [aj] at B
       have aw:fU _ _ _=((QV.mk a b g 0 [] B97 p z B101 o l).core,a0,ar):=XO B ak an hk bx bp
       have u:cI f d (i+1)=((cI f d i).1++[(QV.mk a b g 0 [] B97 p z B101 o l).core],a0,ar):=by rw [zL aj,<- F,aw]
       have az:cZ A D A2101 (cI f d (i+1)).2.1 T:=by rw [u]; exact bz
       have ax:(qs++[QV.mk a b g 0 [] B97 p z B101 o l]).map QV.core=(cI f d (i+1)).1:=by rw [u,U1,F]; rfl
       have ay:iJ (LX++([(B97,z)]++[(B101,l)])) (qs++[QV.mk a b g 0 [] B97 p z B101 o l]):=ae.append Of
       rw [show a0=(cI f d _).2.1 from by rw [u]]
       rw [show ar=(cI f d _).2.2 from by rw [u]]
       exact sA (i+1,A2101,T,A106,E,qs++[QV.mk a b g 0 [] B97 p z B101 o l],LX++([(B97,z)]++[(B101,l)])) (⟨U,az,ax,ay⟩) oz (λw k=>by show Mm _ _ [aD j 194 (M4 A2101 f d i T),cQ A106 (qs++([QV.mk a b g 0 [] B97 p z B101 o l])) E,dQ (LX++([(B97,z)]++[(B101,l)]))] w; exact Mm.join (cs:=[aD j 194 (M4 A2101 f d i T),cQ A106 (qs++([QV.mk a b g 0 [] B97 p z B101 o l])) E]) (L:=LX) (M:=[(B97,z)]++[(B101,l)]) (Mm.join (cs:=[aD j 194 (M4 A2101 f d i T),cQ A106 (qs++([QV.mk a b g 0 [] B97 p z B101 o l])) E,dQ (LX)]) (L:=[(B97,z)]) (M:=[(B101,l)]) (((((k).pE 4 I).pE 5 I).pick [0,1,2,4,5] I I))))
      .have co:¬ g=3:=oE bf
       refine aF<|G rfl<|lk (Z j 0)<|lk (Z j 1)<|R<|pS 0 rfl<|Nk<|aF<|G rfl<|lW (zr 3 rfl)<|R<|pN 1 143 (R9 a b g) λa3=>R<|cL rN 1 _ rfl rfl J rfl rfl rfl (rfl) (fE (i:=4) rfl yy) (QV.one (QV.mk a b g 0 [] none 0 [] none 0 [])) U ((qs++((N4 a b g))).length) dV _ ((rM _ ((N4 a b g))).symm) (λA106 E=>G I<|Nk<|aF<|G I<|lw (Y (i+1)) bN<|G I<|Na ?_)
       rw [aj] at B
       have aw:fU (qs.map QV.core) _ _=((QV.mk a b g 0 [] none 0 [] none 0 []).core,S,true):=XP B ak an cm cn co
       have u:cI f d (i+1)=((cI f d i).1++[(QV.mk a b g 0 [] none 0 [] none 0 []).core],S,true):=by rw [zL aj,<- F,aw]
       have az:cZ A D A235 (cI f d (i+1)).2.1 W:=by rw [u]; exact cf
       have ax:(qs++(N4 a b g)).map QV.core=(cI f d (i+1)).1:=by rw [u,U1,F]; rfl
       have ay:iJ (LX) (qs++(N4 a b g)):=ae.same Od
       rw [show S=(cI f d _).2.1 from by rw [u]]
       rw [show true=(cI f d _).2.2 from by rw [u]]
       exact sA (i+1,A235,W,A106,E,qs++[_],LX) (⟨U,az,ax,ay⟩) oz (κ [0,1,2] I I)
  .have bs:(cI f d i).2.2=true:=by simpa using ba
   have hf:mQ D=cI f d i:=by have h:=Hj bs (s - i); rw [show i+(s - i)=s by omega] at h; rw [cb]; exact h
   refine Nj ?_
   refine dN _ 20 J η ?_
   refine am 0 ?_
   refine am 1 ?_
   refine aC 2 (Z j 0) I<|aC 3 (Z j 1) I<|al 4 0 ?_
   refine aC 5 (.bool (!((cI f d i).2.2))) I ?_
   refine am 6 ?_
   refine Any.dec 113 I (λn=>?_) (λn=>?_)
   .refine fQ 7 ?_
    refine aG 8 (D0 s) I<|aC 9 (D0 s) I<|am 10 ?_
    refine Any.dec 117 I (λt=>?_) (λt=>?_)
    .have au:=D4 t
     refine fQ 11 ?_
     refine aG 12 (Z j 0) I<|aG 13 (Z j 0) I<|aW 14 _ I (bW 0 I I J I I)<|aG 15 (Y (((cI f d i).2.1).length)) I<|aG 16 (.bool ((((((cI f d i).2.1).length:Nat):Int):Int) == 0)) I<|aC 17 (.bool ((((((cI f d i).2.1).length:Nat):Int):Int) == 0)) I<|aa 18 ?_
     refine aa 19 ?_
     refine cG J<|aJ<|gW<|sN [(V RX (qs) x),(.bool _)] λw k=>?_
     have N:mR D=((((((cI f d i).2.1).length:Nat):Int)) == 0):=by rw [bs] at n; cases n
     rw [N]
     exact ⟨_,_,qs,LX,I,(k.pick [1,2] I I),by rw [hf]; exact F,ae⟩
    .have au:=C7 t
     refine bR 11 ?_
     refine bR 12 ?_
     refine bR 13 ?_
     refine bR 14 ?_
     refine bR 15 ?_
     refine bR 16 ?_
     refine aC 17 bF I<|aa 18 ?_
     refine aa 19 ?_
     refine cG J<|aJ<|gW<|sN [(V RX (qs) x),bF] λw k=>?_
     have N:mR D=false:=by rw [bs] at n; cases n
     rw [N]
     exact ⟨_,_,qs,LX,I,(k.pick [1,2] I I),by rw [hf]; exact F,ae⟩
   .refine bR 7 ?_
    refine bR 8 ?_
    refine aC 9 bF I ?_
    refine am 10 ?_
    refine bR 11 ?_
    refine bR 12 ?_
    refine bR 13 ?_
    refine bR 14 ?_
    refine bR 15 ?_
    refine bR 16 ?_
    refine aC 17 bF I ?_
    refine aa 18 ?_
    refine aa 19 ?_
    refine cG J<|aJ<|gW<|sN [(V RX (qs) x),bF] λw k=>?_
    have N:mR D=false:=by rw [bo,hf,n]; rfl
    rw [N]
    exact ⟨_,_,qs,LX,I,(k.pick [1,2] I I),by rw [hf]; exact F,ae⟩
 .have ca:=C7 ao
  have cc:i=s:=by have:=C7 ao; omega
  have hf:mQ D=cI f d i:=by rw [cb,cc]
  refine G I<|lF<|Nu<|Nj<|dN _ 20 J η<|am 0 ?_
  refine am 1 ?_
  refine aC 2 (Z j 0) I<|aC 3 (Z j 1) I<|al 4 0 ?_
  refine aC 5 (.bool (!((cI f d i).2.2))) I ?_
  refine am 6 ?_
  refine Any.dec 113 I (λn=>?_) (λn=>?_)
  .refine fQ 7 ?_
   refine aG 8 (D0 s) I<|aC 9 (D0 s) I<|am 10 ?_
   refine Any.dec 117 I (λt=>?_) (λt=>?_)
   .have au:=D4 t
    refine fQ 11 ?_
    refine aG 12 (Z j 0) I<|aG 13 (Z j 0) I<|aW 14 _ I (bW 0 I I J I I)<|aG 15 (Y (((cI f d i).2.1).length)) I<|aG 16 (.bool ((((((cI f d i).2.1).length:Nat):Int):Int) == 0)) I<|aC 17 (.bool ((((((cI f d i).2.1).length:Nat):Int):Int) == 0)) I<|aa 18 ?_
    refine aa 19 ?_
    refine cG J<|aJ<|gW<|sN [(V RX (qs) x),(.bool _)] λw k=>?_
    have N:mR D=((((((cI f d i).2.1).length:Nat):Int)) == 0):=by rw [bo,hf,n,ADd (show 0 < s by have:=D4 t; omega),XR]; simp only [Bool.true_and]
    rw [N]
    exact ⟨_,_,qs,LX,I,(k.pick [1,2] I I),by rw [hf]; exact F,ae⟩
   .have au:=C7 t
    refine bR 11 ?_
    refine bR 12 ?_
    refine bR 13 ?_
    refine bR 14 ?_
    refine bR 15 ?_
    refine bR 16 ?_
    refine aC 17 bF I<|aa 18 ?_
    refine aa 19 ?_
    refine cG J<|aJ<|gW<|sN [(V RX (qs) x),bF] λw k=>?_
    have N:mR D=false:=by rw [bo,hf,n,AHe (show ¬ 0 < s by have:=C7 t; omega)]; rfl
    rw [N]
    exact ⟨_,_,qs,LX,I,(k.pick [1,2] I I),by rw [hf]; exact F,ae⟩
  .refine bR 7 ?_
   refine bR 8 ?_
   refine aC 9 bF I ?_
   refine am 10 ?_
   refine bR 11 ?_
   refine bR 12 ?_
   refine bR 13 ?_
   refine bR 14 ?_
   refine bR 15 ?_
   refine bR 16 ?_
   refine aC 17 bF I ?_
   refine aa 18 ?_
   refine aa 19 ?_
   refine cG J<|aJ<|gW<|sN [(V RX (qs) x),bF] λw k=>?_
   have N:mR D=false:=by rw [bo,hf,n]; rfl
   rw [N]
   exact ⟨_,_,qs,LX,I,(k.pick [1,2] I I),by rw [hf]; exact F,ae⟩
abbrev J1(a b c d e f):=[(vS ((eV a (inL a b c) d b e).1)),(vS f),(Y 1),(Y (cnt a ((eV a (inL a b c) d b e).1) f)),(vS (eI (inL a ((eV a (inL a b c) d b e).1) f))),nS,nS]
abbrev Q1(a b c d):=[pQ a (eV a (inL a b c) d b (d - 1)).1 c]
theorem Ph(A c its fan leaf NA q)(r:List Γ)(OA:Δ)(s:Nat)(t:List Γ)(lo hi:Γ)(D E:Nat)(f:Γ)(PA:Δ)(F:Nat)(xs:List Γ)(PB:Δ)(H:Nat)(ms:List Γ)(w:Λ)(z:Rf [] w (λw=>aI w A (SS its)))(hs:dD its)(N:its.length<=40)(hf:2<=fan)(O:fan<=16)(W:0 < (inL its lo hi).length):
  Θ 85 #[(.agg #[(V A its c),(Y fan),(Y leaf),(V NA r q),(V OA t s)]),(.agg #[(vS lo),(vS hi),(Y D),(Y E),(vS f),(V PA xs F),(V PB ms H)])] w λe w'=>∃ (B:Δ) (cb:Nat),e = .returned (V B (mC its fan lo hi) cb)/\aN [] w [cQ B (mC its fan lo hi) cb] w':=by
 refine bS Tryz.func85 56 (B3 w) rfl<|Nc<|R<|pB _ λm=>R<|pB _ λn=>G I<|Nb<|M (Z m 0)<|lL 0 rfl<|M (Z n 0)<|lL 1 rfl<|M (Z n 1)<|lL 1 rfl<|R<|dC (λw d=>AS A c its lo hi w (z.aX d) U) λB16 h=>G I<|Nb<|G I<|Nb<|M (Z n 0)<|lL 1 I<|G I<|Nf ?_
 refine aT ?_
 have P:=lZ its lo hi
 refine aF<|G rfl<|Ng<|St.mem (λw d=>d.gB 143 7)<|sL (λ(k,RX,a)=>k+1<=fan) (λ(k,RX,a)=>fan - k) (λ(k,RX,a)=>[(2,(Z m 0)),(3,(Z n 0)),(4,nS),(5,(V B16 (inL its lo hi) h)),(6,(V RX ((eV its (inL its lo hi) fan lo k).2) a)),(7,(vS ((eV its (inL its lo hi) fan lo k).1))),(8,(Y (k+1)))]) (λ(k,RX,a)=>[aD m 34 [(V A its c),(Y fan),(Y leaf),(V NA r q),(V OA t s)],aD n 143 [(vS lo),(vS hi),(Y D),(Y E),(vS f),(V PA xs F),(V PB ms H)],cS B16 (inL its lo hi) h,cQ RX ((eV its (inL its lo hi) fan lo k).2) a]) (0,none,0) oz (λw d=>by show Mm _ _ _ w; exact d) ?_
 rintro ⟨k,RX,a⟩ (X:k+1<=fan)
 dsimp only
 refine Ny<|G I<|M (Z m 1)<|M (Z m 1)<|lL 0 I<|M (T6 k fan) ?_
 refine ζ I (λj=>?_) λj=>?_
 .have Q:k+1 < fan:=by omega
  refine Nm ?_
  have S:(k+1)*(inL its lo hi).length<=16*1000:=Z9 U U
  have T:(k+1)*(inL its lo hi).length / fan < (inL its lo hi).length:=by
   rw [ADi U,AEe]
   exact AE9 Q W
  refine aF<|G I<|M (J2 its lo hi)<|lw (Y ((k+1)*(inL its lo hi).length)) (EC _ I I I U U U)<|M (Z m 1)<|M (Z m 1)<|lL 0 I<|lw (Y _) (vJ I I I U U) ?_
  obtain ⟨l,g⟩:=gk _ _ U
  refine St.fC (λw d=>fM (i:=2) I w d) (fR g) (λy ab o p=>lw (Z y _) (rR 9 o)<|lW (rW p)<|G I<|Nb<|G I<|lw (.bool (!decide (l=(eV its _ fan lo k).1))) (qC I I I) ?_)
  refine qi I (λb=>?_) λb=>?_
  .refine Nc<|G rfl<|lW (zr 0 rfl)<|G rfl<|R<|bV (λw d=>Pe A c its fan leaf NA q r OA s t ((eV its (inL its lo hi) fan lo k).1) l w (z.aX d) ag ag)<|R<|pN 1 143 (J1 its lo hi fan k l) λK=>R<|cL rN 3 ((J1 its lo hi fan k l)) rfl rfl J rfl rfl rfl (rfl) (fE (i:=4) rfl yy) (QV.one (pQ its _ _)) (by have:=DA its (inL its lo hi) fan lo k; omega) (((eV its (inL its lo hi) fan lo k).2++[pQ its (eV its (inL its lo hi) fan lo k).1 l]).length) dV (QS ((eV its (inL its lo hi) fan lo k).2++[pQ its (eV its (inL its lo hi) fan lo k).1 l])) ((rM _ ([pQ its (eV its (inL its lo hi) fan lo k).1 l])).symm) (λA46 u=>G I<|Nv<|G I<|Nk<|aF<|G I<|lw (Y ((k+1)+1)) bN<|G I<|Na ?_)
   rw [show (eV its _ fan lo k).2++[_]=(eV its _ fan lo _).2 from by rw [NO g b]]
   rw [show l=(eV its _ fan lo _).1 from by rw [NO g b]]
   exact sA (k+1,A46,u) oz oz (κ [0,1,2,3] I I)
  .refine Nw<|aF<|G I<|lw (Y ((k+1)+1)) bN<|G I<|Na ?_
   rw [show eV its _ fan lo k=eV its _ fan lo _ from (XD g b).symm]
   exact sA (k+1,RX,a) oz oz η
 .obtain rfl:k=fan - 1:=by have:=j; omega
  refine Nj<|aF<|G rfl<|lW (zr 0 rfl)<|G rfl<|M (Z n 1)<|lL 1 rfl<|R<|bV (λw d=>Pe A c its fan leaf NA q r OA s t ((eV its (inL its lo hi) fan lo (fan - 1)).1) hi w (z.aX d) ag ag)<|R<|pN 1 143 [(vS ((eV its (inL its lo hi) fan lo (fan - 1)).1)),(vS hi),(Y 1),(Y (cnt its ((eV its (inL its lo hi) fan lo (fan - 1)).1) hi)),(vS (eI (inL its ((eV its (inL its lo hi) fan lo (fan - 1)).1) hi))),nS,nS] λL=>R<|cL rN 3 _ rfl rfl J rfl rfl rfl (rfl) (fE (i:=4) rfl yy) (QV.one (pQ its _ _)) (by have:=DA its (inL its lo hi) fan lo (fan - 1); omega) (((eV its (inL its lo hi) fan lo (fan - 1)).2++(Q1 its lo hi fan)).length) dV (QS ((eV its (inL its lo hi) fan lo (fan - 1)).2++(Q1 its lo hi fan))) ((rM _ ((Q1 its lo hi fan))).symm) (λA55 x=>?_)
  refine xd ?_
  exact G I<|Nd<|sN [_] λw d=>⟨A55,x,I,(d.pick [3] I I)⟩
abbrev K5:=[0,1,2,3,4,5,6,7,8,9,10,11]
abbrev Q3:=[0,1,2,3,4,5,7,8,9,10,11,12]
abbrev L5:=[0,1,2,3,4,5,7,8,9,10,11,12,13]
abbrev S4(a b c d):=V a (aH [] (b++c)) d
abbrev L8:=[0,1,2,3,4,5,6,7,8,9,10,11,12]
abbrev G3:=[0,1,2,3,4,5,7,8,9,10,11,12,13,14]
abbrev G7:=[nS,(C 0),(C 0),nS,nS]
abbrev I2:=[0,1,2,3,4,5,6,7,8,9,10,11,12,13,14]
theorem Zv(A c its fan leaf NA nc N OA oc O A1 c1 D w)(hO:cC [cS NA (aH [] N) nc,cS OA (aH [] O) oc] w)(r0:Rf [cS NA (aH [] N) nc,cS OA (aH [] O) oc] w (λw=>aI w A (SS its)))(r1:Rf [cS NA (aH [] N) nc,cS OA (aH [] O) oc] w (λw=>aI w A1 (B8 D)))(hs:dD its)(a5:its.length<=40)(hf:2<=fan)(bc:fan<=16)(bh:1<=leaf)(b3:leaf<=64)(hD:D.length<=1048576)(hc:D.length<=c1)(bx:(aH [] N).length<=2000000000)(bz:(aH [] O).length<=2000000000)(h2:(bC its fan leaf D).err≠2):
  Θ 45 #[(.agg #[(V A its c),(Y fan),(Y leaf),(V NA (aH [] N) nc),(V OA (aH [] O) oc)]),(V A1 D c1)] w λe w'=>∃ (NA2:Δ) (bk:Nat) (OA2:Δ) (bl:Nat) (B:Δ) (cb:Nat),e = .returned (.tuple #[(.agg #[(V A its c),(Y fan),(Y leaf),(V NA2 (aH [] (N++(bC its fan leaf D).need)) bk),(V OA2 (aH [] (O++(bC its fan leaf D).off)) bl)]),(V B ((bC its fan leaf D).reply) cb),(.int .i64 (bC its fan leaf D).err)])/\aN [cS NA (aH [] N) nc,cS OA (aH [] O) oc] w [cS NA2 (aH [] (N++(bC its fan leaf D).need)) bk,cS OA2 (aH [] (O++(bC its fan leaf D).off)) bl,cB B ((bC its fan leaf D).reply) cb] w':=by
 refine bS Tryz.func45 145 (hO) rfl<|Nc<|R<|pB _ λb2=>R<|pA [nS,(C 0),(C 0),nS,nS] λb4=>G I<|Ne<|G I<|M (Y D.length)<|M (.bool ((((D.length:Nat):Int):Int) == 0)) ?_
 refine qi I (λad=>?_) λad=>?_
 .have bj:D=[]:=by have h:=ad; simp at h; omega
  refine Nc<|lW (zr 2 rfl)<|R<|zu 3 rfl<|G rfl<|Nh<|dL [_,nS,(C 0)] rfl ⟨rz 3 rfl,rfl,rfl,trivial⟩ (λw b=>?_)
  rw [bj,Yb]; dsimp only; simp only [List.append_nil]
  exact ⟨NA,nc,OA,oc,_,0,I,((b.pick [0,1] I I)).gB 5 1⟩
 .have bi:D≠[]:=by have h:=ad; simp at h; exact h
  refine Ni<|G rfl<|R<|iR (λw b=>(Pg A1 c1 D w (r1.aX b) ag ag).mono ?_)
  rintro e w' ⟨RX23,K,l,LX23,rfl,hP,a2,H⟩
  refine ⟨_,_,I,hP,?_⟩; clear hP b
  refine G I<|Nf<|aT ?_
  refine xd ?_
  refine aF<|G I<|M (.bool (!(mR D))) ?_
  refine qi I (λae=>?_) λae=>?_
  .have a9:=Yc (its:=its) (fan:=fan) (leaf:=leaf) bi (XL (su ae) hD)
   refine Nc<|lW (zr 2 rfl)<|R<|zu 3 rfl<|G rfl<|Nh<|dL [_,nS,(C 3)] rfl ⟨rz 3 rfl,rfl,rfl,trivial⟩ (λw b=>?_)
   rw [a9]; dsimp only; simp only [List.append_nil]
   exact ⟨NA,nc,OA,oc,_,0,I,((b.pick [0,1] I I)).gB 5 1⟩
  .obtain ⟨hd,bp⟩:=Ya a2 (su ae) hD
   obtain ⟨cc,bu⟩:=Yd bi hd h2
   have ap:=(vK hd).2.1.2.1
   have bs:=XZ hd hD; rw [K0] at bs
   have hS:vW its fan leaf:=⟨hs,a5,hf,bc,bh⟩
   refine Ni<|lW (zr 2 rfl)<|R<|pA [nS,(C 0),(C 0),nS,nS] λL=>R<|zu 6 rfl<|Nb<|G rfl<|Ne<|G rfl<|M (Y l.length)<|G rfl<|Ng<|St.mem (λw b=>b.gB 143 7)<|St.mem (λw b=>Mm.tK b)<|sL (λ(i,RY,z,E,NX,Q,y,OX,P,u,LY)=>hJ its fan leaf l i E y u LY) (λ(i,RY,z,E,NX,Q,y,OX,P,u,LY)=>l.length - i) (λ(i,RY,z,E,NX,Q,y,OX,P,u,LY)=>[(2,(Z b2 0)),(4,(Z b4 0)),(5,nS),(6,(C 0)),(9,(Z L 0)),(30,(V RX23 l K)),(31,(Y l.length)),(10,(V RY (E) z)),(32,(Y i))]) (λ(i,RY,z,E,NX,Q,y,OX,P,u,LY)=>[cS NX (aH [] (N++y)) Q,cS OX (aH [] (O++u)) P,aD b2 34 [(V A its c),(Y fan),(Y leaf),(V NA (aH [] N) nc),(V OA (aH [] O) oc)],aD b4 34 [nS,(C 0),(C 0),nS,nS],cQ RX23 (l) K,dQ (LX23),aD L 34 [(V A its c),(Y fan),(Y leaf),(V NX (aH [] (N++y)) Q),(V OX (aH [] (O++u)) P)],cQ RY (E) z,dQ (LY)]) (0,none,0,[],NA,nc,oY,OA,oc,oY,[]) hJ.zero (λw b=>by show Mm _ _ [_,_,_,_,_,_,_,_,_] w; rw [show N++oY=N from O4 N,show O++oY=O from O4 O]; exact b) ?_
   rintro ⟨i,RY,z,E,NX,Q,y,OX,P,u,LY⟩ (g:hJ its fan leaf l i E y u LY)
   dsimp only
   refine Nc<|M (qb i l.length) ?_
   refine χ I (λaj=>?_) λaj=>?_
   .have bd:=g.len1; have be:=g.len2; have bf:=g.len3; have bg:=g.le
    have b5:i < l.length:=by have:=aj; omega
    have cd:=Oj N y; have ce:=Oj O u
    refine Nm<|aF ?_
    obtain ⟨a,x⟩:=gk l i U
    refine St.xQ (λw b=>oT (i:=4) I w b) x (λbm bv a8 ba=>lw (Z bm _) (rO (e:=143) I J J I I a8 U)<|lw _ (gI [(vS a.lo),(vS a.hi),(Y a.k),(Y a.n),(vS a.f),(V a.A a.xs _),(V a.B a.ms _)] rfl rfl J J (ba))<|R<|pA P6 λm=>R<|zv 9 I (QV.one a) ?_)
    refine Nf ?_
    have F:a.abs.ok:=ap _ (ACb (F0 x))
    have b1:=lZ its a.lo a.hi; have b0:=FH hs a.lo a.hi
    refine aF<|M (Z b2 0)<|lL 2 rfl<|M (Z m 0)<|lL 9 rfl<|M (Z m 1)<|lL 9 rfl<|R<|dC (λw b=>AS A c its a.lo a.hi w (r0.aX b) U) λB42 f=>G I<|Nb<|M (Z m 2)<|lL 9 I<|Ng<|Nc<|M (.bool ((a.k:Int) == 1))<|G I ?_
    refine qi I (λaf=>?_) λaf=>?_
    .have ab:a.k=1:=oU af
     refine aT<|aT<|dN _ 12 J η<|aC 0 (Z m 3) I<|al 1 9 ?_
     refine am 2 ?_
     refine aC 3 (Y ((inL its a.lo a.hi).length)) I<|aC 4 (.bool ((a.n:Int) == (((inL its a.lo a.hi).length:Nat):Int))) I<|am 5 ?_
     refine Any.dec 52 I (λah=>?_) (λah=>?_)
     .have an:(inL its a.lo a.hi).length=a.n:=by have h:=ah; simp at h; omega
      refine aG 6 (Z m 4) I<|aW 7 _ I (bW 9 I I J I I)<|fQ 8 ?_
      refine aB 9 I<|bV (λw b=>yZ B42 f _ w (b.aR (j:=10) I (λ_ h=>aI.bM h)) U U)<|aQ _ η η<|aW 10 (.bool (decide (a.f=(eI _)))) I (lQ I I I)<|aC 11 (.bool (decide (a.f=(eI (inL its a.lo a.hi))))) I<|cG J ?_
      refine aJ (aY I (λS=>?_) (λS=>?_))
      .have bb:=D4 S
       have he:(inL its _ _).length=a.n/\eI _=a.f:=⟨an,(D4 S).symm⟩
       refine pJ<|jB<|uS I<|kL<|aJ ?_
       refine xd ?_
       refine aF<|lw (Y (i+1)) bN<|G I<|Na ?_
       have k:=g.adA hS x F ab he
       exact sA (i+1,RY,z,E,NX,Q,y,OX,P,u,LY) (k) oz (κ M0 I I)
      .have bb:=C7 S
       have he:¬ ((inL its a.lo a.hi).length=a.n/\eI _=a.f):=λh=>C7 S h.2.symm
       refine Ni<|G I<|M (Y ((inL its a.lo a.hi).length))<|M (Z b2 1)<|M (Z b2 2)<|lL 2 I<|M (.bool (decide ((((inL its a.lo a.hi).length:Nat):Int)<=((leaf:Nat):Int)))) ?_
       refine qi I (λt=>?_) λt=>?_
       .have ak:=D4 t
        have X:(inL its a.lo a.hi).length<=leaf:=by have:=D4 t; omega
        refine aF<|G rfl<|M (Z m 0)<|lL 9 rfl<|M (Z m 1)<|lL 9 rfl<|G rfl<|M (.agg #[(vS a.lo),(vS a.hi),(C 2),(C 0),qe,(V B42 (inL its a.lo a.hi) f),nS])<|R<|pN 1 143 [(vS a.lo),(vS a.hi),(C 2),(C 0),qe,(V B42 (inL its a.lo a.hi) f),nS] λbn=>R<|cL rN 7 _ rfl rfl J rfl rfl rfl (rfl) (fE (i:=11) rfl yy) (QV.one (QV.mk a.lo a.hi 2 0 [] B42 f _ none 0 [])) U ((E++([QV.mk a.lo a.hi 2 0 [] B42 f (inL its a.lo a.hi) none 0 []])).length) dV _ ((rM _ ([QV.mk a.lo a.hi 2 0 [] B42 f (inL its a.lo a.hi) none 0 []])).symm) (λA73 aq=>G I<|Ns<|jF<|aJ<|aF<|lw (Y (i+1)) bN<|G I<|Na ?_)
        have k:=g.Qk hS x F ab he X (B:=B42) (cb:=f)
        exact sA (i+1,A73,aq,E++[_],NX,Q,y,OX,P,u,LY++[(B42,inL its a.lo a.hi)]) (k) oz (λw b=>((b).pE 10 I).DY [0,1,2,3,4,5,6,7] 8 10 I I I I)
       .have ak:=C7 t
        have X:¬ (inL its a.lo a.hi).length<=leaf:=by have:=C7 t; omega
        refine aF<|G rfl<|lW (zr 2 rfl)<|lW (zr 9 rfl)<|R<|dC (λw b=>Ph A c its fan leaf NA nc (aH [] N) OA oc (aH [] O) a.lo a.hi a.k a.n a.f a.A a.c a.xs a.B a.d a.ms w (r0.aX b) ag ag ag ag U) λB77 a4=>R<|cL rN 7 _ rfl rfl J rfl rfl rfl (GX _) (λw b=>eN.gJ (oT (i:=11) I w b)) (NI) (by have:=Og its fan a.lo a.hi U; omega) _ dV _ ((rM _ _).symm) (λA78 ar=>G I<|Ns<|jF<|aJ ?_)
        refine xd ?_
        refine aF<|lw (Y (i+1)) bN<|G I<|Na ?_
        have k:=g.Ql hS x F ab he X
        exact sA (i+1,A78,ar,E++mC its fan _ _,NX,Q,y,OX,P,u,LY) (k) oz (κ M0 I I)
     .have an:¬ (inL its a.lo a.hi).length=a.n:=by have h:=ah; simp at h; omega
      have he:¬ ((inL its _ _).length=a.n/\eI (inL its a.lo a.hi)=a.f):=λh=>an h.1
      refine bR 6 ?_
      refine bR 7 ?_
      refine bR 8 ?_
      refine bR 9 ?_
      refine bR 10 ?_
      refine aC 11 bF I<|cG J<|aJ<|oO I<|Ni<|G I<|M (Y ((inL its a.lo a.hi).length))<|M (Z b2 1)<|M (Z b2 2)<|lL 2 I<|M (.bool (decide ((((inL its a.lo a.hi).length:Nat):Int)<=((leaf:Nat):Int)))) ?_
      refine qi I (λt=>?_) λt=>?_
      .have ak:=D4 t
       have X:(inL its a.lo a.hi).length<=leaf:=by have:=D4 t; omega
       refine aF<|G rfl<|M (Z m 0)<|lL 9 rfl<|M (Z m 1)<|lL 9 rfl<|G rfl<|M (.agg #[(vS a.lo),(vS a.hi),(C 2),(C 0),qe,(V B42 (inL its a.lo a.hi) f),nS])<|R<|pN 1 143 [(vS a.lo),(vS a.hi),(C 2),(C 0),qe,(V B42 (inL its a.lo a.hi) f),nS] λbn=>R<|cL rN 7 _ rfl rfl J rfl rfl rfl (rfl) (fE (i:=11) rfl yy) (QV.one (QV.mk a.lo _ 2 0 [] B42 f _ none 0 [])) U ((E++([QV.mk a.lo a.hi 2 0 [] B42 f (inL its a.lo a.hi) none 0 []])).length) dV _ ((rM _ ([QV.mk a.lo a.hi 2 0 [] B42 f (inL its a.lo a.hi) none 0 []])).symm) (λA73 aq=>G I<|Ns<|jF<|aJ<|aF<|lw (Y (i+1)) bN<|G I<|Na ?_)
       have k:=g.Qk hS x F ab he X (B:=B42) (cb:=f)
       exact sA (i+1,A73,aq,E++[_],NX,Q,y,OX,P,u,LY++[_]) (k) oz (λw b=>((b).pE 10 I).DY [0,1,2,3,4,5,6,7] 8 10 I I I I)
      .have ak:=C7 t
       have X:¬ (inL its a.lo a.hi).length<=leaf:=by have:=C7 t; omega
       refine aF<|G rfl<|lW (zr 2 rfl)<|lW (zr 9 rfl)<|R<|dC (λw b=>Ph A c its fan leaf NA nc (aH [] N) OA oc (aH [] O) a.lo a.hi a.k a.n a.f a.A a.c a.xs a.B a.d a.ms w (r0.aX b) ag ag ag ag U) λB77 a4=>R<|cL rN 7 (QS (mC its fan a.lo a.hi)) rfl rfl J rfl rfl rfl (GX _) (λw b=>eN.gJ (oT (i:=11) I w b)) (NI) (by have:=Og its fan a.lo a.hi U; omega) ((E++(mC its fan a.lo a.hi)).length) dV (QS (E++(mC its fan a.lo a.hi))) ((rM _ ((mC its fan a.lo a.hi))).symm) (λA78 ar=>G I<|Ns<|jF<|aJ ?_)
       refine xd ?_
       refine aF<|lw (Y (i+1)) bN<|G I<|Na ?_
       have k:=g.Ql hS x F ab he X
       exact sA (i+1,A78,ar,E++mC its fan _ _,NX,Q,y,OX,P,u,LY) (k) oz (κ M0 I I)
    .have ab:¬ a.k=1:=oE af
     refine Nc<|M (.bool ((a.k:Int) == 2))<|G I ?_
     refine qi I (λai=>?_) λai=>?_
     .have ao:a.k=2:=oU ai
      have b7:=(Hm F ao).1
      have bq:=iN a.xs (inL its a.lo a.hi); have br:=iN (inL its a.lo a.hi) a.xs
      refine aT<|dN _ 10 J η<|aC 0 (Z m 5) I<|al 1 9 ?_
      refine am 2 ?_
      refine am 4 ?_
      refine aC 5 (Z m 5) I<|al 6 9 ?_
      refine aA 3 I<|dC (λw b=>wU a.A a.c a.xs B42 f (inL its a.lo a.hi) w (b.aR (j:=5) I (λw h=>(H.row h x).1)) (b.aR (j:=10) I (λ_ h=>aI.bM h)) U U) λB84 o=>aQ _ (κ [0,1,2,3,4,5,6,7,8,9,10] I I) η<|aA 7 rfl<|dC (λw b=>wU B42 f (inL its a.lo a.hi) a.A a.c a.xs w (b.aR (j:=10) I (λ_ h=>aI.bM h)) (b.aR (j:=5) I (λw h=>(H.row h x).1)) U U) λB88 q=>aQ _ (κ K5 I I) η<|aa 8 ?_
      refine aa 9 ?_
      refine cG J ?_
      refine aJ (qU (ι:=Δ × Nat × Δ × Nat) (λ_=>True) (λ(B92,r,B96,s)=>[(2,(Z b2 0)),(4,(Z b4 0)),(5,nS),(6,(C 0)),(9,(Z L 0)),(30,(V RX23 l K)),(31,(Y l.length)),(10,(V RY (E) z)),(32,(Y i)),(33,(qb i l.length)),(34,(Z bm (bv+i*7))),(35,(.agg #[(vS a.lo),(vS a.hi),(Y a.k),(Y a.n),(vS a.f),(V a.A a.xs (a.c)),(V a.B a.ms (a.d))])),(12,(Z m 0)),(36,(Z b2 0)),(37,(V A its c)),(38,(Z m 0)),(39,(vS a.lo)),(40,(Z m 1)),(41,(vS a.hi)),(42,(V B42 (inL its a.lo a.hi) f)),(13,(V B42 (inL its a.lo a.hi) f)),(43,(Z m 2)),(44,(Y a.k)),(46,(.bool (((a.k:Int)) == 1))),(45,(.bool (((a.k:Int)) == 1))),(80,(.bool (((a.k:Int)) == 2))),(79,(.bool (((a.k:Int)) == 2))),(81,(Z m 5)),(82,(V a.A a.xs (a.c))),(83,(V B42 (inL its a.lo a.hi) f)),(85,(V B42 (inL its a.lo a.hi) f)),(86,(Z m 5)),(87,(V a.A a.xs (a.c))),(84,(V B84 (aL a.xs (inL its a.lo a.hi)) o)),(88,(V B88 (aL (inL its a.lo a.hi) a.xs) q)),(14,(V B84 (aL a.xs (inL its a.lo a.hi)) o)),(15,(V B88 (aL (inL its a.lo a.hi) a.xs) q)),(89,(Z L 3)),(91,(V B84 (aL a.xs (inL its a.lo a.hi)) o)),(93,(Z L 4)),(95,(V B88 (aL (inL its a.lo a.hi) a.xs) q)),(90,(V NX (aH [] (N++y)) Q)),(92,(V B92 (aH (aH [] (N++y)) (aL a.xs (inL its a.lo a.hi))) r)),(94,(V OX (aH [] (O++u)) P)),(97,(Z L 3)),(96,(V B96 (aH (aH [] (O++u)) (aL (inL its a.lo a.hi) a.xs)) s)),(98,(Z L 4))]) (λ(B92,r,B96,s)=>[cS NX (aH [] (N++y)) Q,cS OX (aH [] (O++u)) P,aD b2 34 [(V A its c),(Y fan),(Y leaf),(V NA (aH [] N) nc),(V OA (aH [] O) oc)],aD b4 34 [nS,(C 0),(C 0),nS,nS],cQ RX23 (l) K,dQ (LX23),aD L 34 [(V A its c),(Y fan),(Y leaf),(V B92 (aH (aH [] (N++y)) (aL a.xs (inL its a.lo a.hi))) r),(V B96 (aH (aH [] (O++u)) (aL (inL its a.lo a.hi) a.xs)) s)],cQ RY (E) z,dQ (LY),aD m 143 [(vS a.lo),(vS a.hi),(Y a.k),(Y a.n),(vS a.f),(V a.A a.xs (a.c)),(V a.B a.ms (a.d))],cS B42 (inL its a.lo a.hi) f,cS B84 (aL a.xs (inL its a.lo a.hi)) o,cS B88 (aL (inL its a.lo a.hi) a.xs) q,cS B92 (aH (aH [] (N++y)) (aL a.xs (inL its a.lo a.hi))) r,cS B96 (aH (aH [] (O++u)) (aL (inL its a.lo a.hi) a.xs)) s]) ?_ ?_)
      .refine xd ?_
       refine dN _ 11 J (κ Q3 I I)<|aC 0 (Z L 3) I<|am 2 ?_
       refine aC 4 (Z L 4) I ?_
       refine am 6 ?_
       refine kU (i:=1) (j:=5) J I I I I ?_ ?_
       .refine fH _ I J (bW 6 I I J I I) ?_
        refine xd ?_
        refine aQ _ η (λ_ h=>h.pick _ I I) ?_
        refine kU (i:=3) (j:=5) J I I I I ?_ ?_
        .exact dC (λw b=>sX NX Q (aH [] (N++y)) B84 o (aL a.xs (inL its a.lo a.hi)) w (b.aR (j:=0) I (λ_ h=>aI.bM h)) (b.aR (j:=11) I (λ_ h=>aI.bM h)) U U) λB92 r=>aQ _ (κ K5 I I) (κ L5 I I)<|aA 5 rfl<|fH (S4 OX O u P) rfl J (bW 6 rfl rfl J rfl rfl)<|aQ _ η (κ L5 rfl rfl)<|aC 8 (Z L 3) rfl<|aA 7 rfl<|dC (λw b=>sX OX P (aH [] (O++u)) B88 q (aL (inL its a.lo a.hi) a.xs) w (b.aR (j:=1) I (λ_ h=>aI.bM h)) (b.aR (j:=12) I (λ_ h=>aI.bM h)) U U) λB96 s=>aQ _ (κ L8 I I) (κ G3 I I)<|aA 9 I<|pS 6 I<|aQ _ η (κ G3 I I)<|aC 10 (Z L 4) I<|aA 11 I<|pS 6 I<|lH J I<|aJ (sM (B92,r,B96,s) trivial η)
        .exact fH (S4 OX O u P) I J (bW 6 I I J I I)<|St.to _ J<|aQ _ η (κ Q3 rfl rfl)<|aA 3 rfl<|dC (λw b=>sX NX Q (aH [] (N++y)) B84 o (aL a.xs (inL its a.lo a.hi)) w (b.aR (j:=0) I (λ_ h=>aI.bM h)) (b.aR (j:=11) I (λ_ h=>aI.bM h)) U U) λB92 r=>aQ _ (κ K5 I I) (κ L5 I I)<|aC 8 (Z L 3) rfl<|aA 7 rfl<|dC (λw b=>sX OX P (aH [] (O++u)) B88 q (aL (inL its a.lo a.hi) a.xs) w (b.aR (j:=1) I (λ_ h=>aI.bM h)) (b.aR (j:=12) I (λ_ h=>aI.bM h)) U U) λB96 s=>aQ _ (κ L8 I I) (κ G3 I I)<|aA 9 I<|pS 6 I<|aQ _ η (κ G3 I I)<|aC 10 (Z L 4) I<|aA 11 I<|pS 6 I<|lH J I<|aJ (sM (B92,r,B96,s) trivial η)
       .refine fH _ I J (bW 6 I I J I I)<|aQ _ η (λ_ h=>h.pick _ I I)<|aA 1 I<|fH _ I J (bW 6 I I J I I) ?_
        refine xd ?_
        exact aQ _ η (κ Q3 I I)<|aA 3 rfl<|dC (λw b=>sX NX Q (aH [] (N++y)) B84 o (aL a.xs (inL its a.lo a.hi)) w (b.aR (j:=0) I (λ_ h=>aI.bM h)) (b.aR (j:=11) I (λ_ h=>aI.bM h)) U U) λB92 r=>aQ _ (κ K5 I I) (κ L5 I I)<|aC 8 (Z L 3) rfl<|aA 7 rfl<|dC (λw b=>sX OX P (aH [] (O++u)) B88 q (aL (inL its a.lo a.hi) a.xs) w (b.aR (j:=1) I (λ_ h=>aI.bM h)) (b.aR (j:=12) I (λ_ h=>aI.bM h)) U U) λB96 s=>aQ _ (κ L8 I I) (κ G3 I I)<|aA 9 I<|pS 6 I<|aQ _ η (κ G3 I I)<|aC 10 (Z L 4) I<|aA 11 I<|pS 6 I<|lH J I<|aJ (sM (B92,r,B96,s) trivial η)
      .rintro ⟨B92,r,B96,s⟩ -
       dsimp only
       refine aT<|St.to [cS NX (aH [] (N++y)) Q,cS OX (aH [] (O++u)) P,aD b2 34 [(V A its c),(Y fan),(Y leaf),(F7 NA N nc),(F7 OA O oc)],aD b4 34 G7,cQ RX23 (l) K,dQ (LX23),aD L 34 [(V A its c),(Y fan),(Y leaf),(V B92 (aH (aH [] (N++y)) (aL a.xs (inL its a.lo a.hi))) r),(V B96 (aH (aH [] (O++u)) (aL (inL its a.lo a.hi) a.xs)) s)],cQ RY (E) z,dQ (LY),aD m 143 [(vS a.lo),(vS a.hi),(Y a.k),(Y a.n),(vS a.f),(V a.A a.xs (a.c)),(V a.B a.ms (a.d))],cS B42 (inL its a.lo a.hi) f,cS B84 (aL a.xs (inL its a.lo a.hi)) o,cS B88 (aL (inL its a.lo a.hi) a.xs) q,cS B92 (aH (aH [] (N++y)) (aL a.xs (inL its a.lo a.hi))) r,cS B96 (aH (aH [] (O++u)) (aL (inL its a.lo a.hi) a.xs)) s] J<|aF<|G I<|M (Y ((aL a.xs (inL its a.lo a.hi)).length))<|G I<|M (Y ((aL (inL its a.lo a.hi) a.xs).length))<|lw (Y ((aL a.xs (inL its a.lo a.hi)).length+(aL (inL its a.lo a.hi) a.xs).length)) bN<|M (.bool (decide (((((aL a.xs (inL its a.lo a.hi)).length+(aL (inL its a.lo a.hi) a.xs).length):Nat):Int) > 0))) ?_
       refine ζ I (λW=>?_) λW=>?_
       .have he:0 < (aL a.xs (inL its a.lo a.hi)).length+(aL (inL its a.lo a.hi) a.xs).length:=by have:=W; omega
        refine aF<|G rfl<|M (Z m 0)<|lL 9 rfl<|M (Z m 1)<|lL 9 rfl<|G rfl<|M (.agg #[(vS a.lo),(vS a.hi),(C 3),(C 0),qe,(V B88 (aL (inL its a.lo a.hi) a.xs) q),(V B84 (aL a.xs (inL its a.lo a.hi)) o)])<|R<|pN 1 143 [(vS a.lo),(vS a.hi),(C 3),(C 0),qe,(V B88 (aL (inL its a.lo a.hi) a.xs) q),(V B84 (aL a.xs (inL its a.lo a.hi)) o)] λbw=>R<|cL rN 7 _ rfl rfl J rfl rfl rfl (rfl) (fE (i:=15) rfl yy) (QV.one (QV.mk a.lo a.hi 3 0 [] B88 q _ B84 o _)) U ((E++([QV.mk a.lo a.hi 3 0 [] B88 q (aL (inL its a.lo a.hi) a.xs) B84 o (aL a.xs (inL its a.lo a.hi))])).length) dV _ ((rM _ ([QV.mk a.lo a.hi 3 0 [] B88 q (aL _ a.xs) B84 o (aL a.xs _)])).symm) (λA114 a3=>G I<|Ns<|jF<|aJ<|aF<|lw (Y (i+1)) bN<|G I<|Na ?_)
        rw [show aH _ _=aH [] (N++(y++aL _ _)) from zN _ _ _]
        rw [show aH _ _=aH [] (O++(u++aL _ _)) from zN _ _ _]
        have k:=g.adC hS x F ao he (A:=B88) (c:=q) (B:=B84) (d:=o)
        exact sA (i+1,A114,a3,E++[QV.mk a.lo a.hi 3 0 [] B88 q (aL (inL its a.lo a.hi) a.xs) B84 o (aL a.xs (inL its a.lo a.hi))],B92,r,y++aL a.xs (inL its a.lo a.hi),B96,s,u++aL (inL its a.lo a.hi) a.xs,LY++([(B88,aL (inL its a.lo a.hi) a.xs)]++[(B84,aL a.xs (inL its a.lo a.hi))])) (k) oz (λw b=>((((b).pE 12 I).pE 11 I).DY [13,14,2,3,4,5,6,7,8] 12 11 I I I I).DY [0,1,2,3,4,5,6,7] 8 9 I I I I)
       .have he:¬ 0 < (aL a.xs (inL its a.lo a.hi)).length+(aL (inL its a.lo a.hi) a.xs).length:=by have:=W; omega
        refine gL<|jF<|jF<|aJ<|aF<|lw (Y (i+1)) bN<|G I<|Na ?_
        rw [show aH _ _=aH [] (N++(y++aL _ _)) from zN _ _ _]
        rw [show aH _ _=aH [] (O++(u++aL _ _)) from zN _ _ _]
        have k:=g.adB hS x F ao he
        exact sA (i+1,RY,z,E,B92,r,y++aL _ _,B96,s,u++aL _ _,LY) (k) oz (κ [13,14,2,3,4,5,6,7,8] I I)
     .have ao:¬ a.k=2:=oE ai
      refine Nc<|M (.bool ((a.k:Int) == 3))<|G I ?_
      refine qi I (λT=>?_) λT=>?_
      .have a0:a.k=3:=oU T
       have b8:=(DE F a0).1.1; have ca:=(DE F a0).2.1
       have bq:=iN a.xs (inL its a.lo a.hi); have br:=iN a.ms (aL a.ms (inL its a.lo a.hi)); have b6:=iN a.ms (inL its a.lo a.hi)
       refine aT<|dN _ 8 J η<|aC 0 (Z L 3) I<|al 1 6 ?_
       refine aC 2 (Z m 5) I<|al 3 9 ?_
       refine am 4 ?_
       refine aA 5 I<|dC (λw b=>wU a.A a.c _ B42 f _ w (b.aR (j:=5) I (λw h=>(H.row h x).1)) (b.aR (j:=10) I (λ_ h=>aI.bM h)) U U) λB122 au=>?_
       refine xd ?_
       refine aQ _ (κ [0,1,2,3,4,5,6,7,8,9,10] I I) η<|aA 6 rfl<|dC (λw b=>sX NX Q _ B122 au _ w (b.aR (j:=0) I (λ_ h=>aI.bM h)) (b.aR (j:=11) I (λ_ h=>aI.bM h)) U U) λB123 aw=>aQ _ (κ K5 I I) η<|aC 7 (Z L 3) I<|aA 8 I<|pS 6 I<|lH J I<|aJ<|dN _ 11 J η<|aC 0 (Z L 4) I<|al 1 6 ?_
       refine aC 2 (Z m 6) I<|al 3 9 ?_
       refine aC 4 (Z m 6) I<|al 5 9 ?_
       refine am 6 ?_
       refine aA 7 I<|dC (λw b=>wU a.B a.d _ B42 f _ w (b.aR (j:=5) I (λw h=>(H.row h x).2)) (b.aR (j:=10) I (λ_ h=>aI.bM h)) U U) λB132 ax=>?_
       refine xd ?_
       refine aQ _ (κ L8 I I) η<|aA 8 rfl<|dC (λw b=>wU a.B a.d a.ms B132 ax _ w (b.aR (j:=5) I (λw h=>(H.row h x).2)) (b.aR (j:=13) I (λ_ h=>aI.bM h)) U U) λB133 ay=>aQ _ (κ [0,1,2,3,4,5,6,7,8,9,10,11,12,13] I I) η<|aA 9 rfl<|dC (λw b=>sX OX P (aH [] (O++u)) B133 ay _ w (b.aR (j:=1) I (λ_ h=>aI.bM h)) (b.aR (j:=14) I (λ_ h=>aI.bM h)) U U) λB134 az=>aQ _ (κ I2 I I) η<|aC 10 (Z L 4) I<|aA 11 I<|pS 6 I<|lH J I<|jF<|jF<|aJ<|aF<|lw (Y (i+1)) bN<|G I<|Na ?_
       rw [show aH _ _=aH [] (N++(y++aL _ _)) from zN _ _ _]
       rw [show aH _ _=aH [] (O++(u++aL _ _)) from zN _ _ _]
       have k:=g.ans hS x F a0
       exact sA (i+1,RY,z,E,B123,aw,y++aL _ _,B134,az,u++aL _ _,LY) (k) oz (κ [12,15,2,3,4,5,6,7,8] I I)
      .exact absurd (bp a (F0 x)) (by have h3:=oE (n:=3) T; rintro (h | h | h) <;> contradiction)
   .have bd:=g.len1; have be:=g.len2; have bf:=g.len3; have bg:=g.le
    obtain rfl:i=l.length:=by have:=aj; omega
    have bt:∀ p∈E.map QV.abs,p.fit:=by rw [g.BM]; exact Mv hs a5 hf bc bh ap
    refine Nj<|aF<|G rfl<|R<|dC (λw b=>Pd RY z E w (b.aR (j:=7) I (λ_ h=>Ll h)) ((b.aR (j:=8) I (λw h=>h)).imp (λw h=>g.src.ok h)) (g.kok) (bt) (by rw [g.BM]; omega)) λB138 bo=>?_
    rw [show E.map _=fS its fan leaf _ from g.BM]
    refine G I<|Nf<|aT ?_
    refine xd ?_
    refine aF<|G rfl<|M (Y ((bK (fS its fan leaf (l.map QV.abs))).length))<|M (.bool (decide ((((bK (fS its fan leaf (l.map QV.abs))).length:Nat):Int) > 1048576)))<|Na<|fD rfl (by simp; omega)<|Ni<|lW (zr 6 rfl)<|G rfl<|R<|zu 3 rfl<|G rfl<|Nd<|dL [_,(V B138 _ _),(C 0)] rfl ⟨rz 3 rfl,rfl,rfl,trivial⟩ (λw b=>?_)
    rw [bu,<- g.IC,<- g.ID]
    exact ⟨NX,Q,OX,P,_,_,I,(b.pick [0,1,9] I I)⟩
theorem Zw{x:Bs}(h:l[i]?=some y)(e:x=y):true=l.contains x:=by
 grind
theorem Zx{x:Bs}(a:(l.take i).contains x=false)(h:l[i]?=some y)(e:¬ x=y):(l.take (i+1)).contains x=false:=by
 grind [List.take_add_one]
theorem zU(k A1 b t w)(g:Rf [] w (λw=>aI w A1 (B8 t)))(i:k<=100)(j:t.length<=2000000):
  Θ 29 #[(Y k),(V A1 t b)] w λe h=>∃ (B:Δ) (cb:Nat),e = .returned (V B (aE k++t) cb)/\aN [] w [cB B (aE k++t) cb] h:=by
 refine bS Tryz.func29 10 (B3 w) I<|Nc<|G I<|Nf ?_
 have f:=eY k U
 exact aF<|G rfl<|lw _ (iQ _ (λ_=>J) I I (kV U U))<|R<|dC (λw a=>Bt k w (mP U)) λB7 d=>G I<|R<|cL gS 0 _ rfl rfl J rfl rfl rfl (by simp [B8]) (λw a=>eN.gJ (g.now a)) ((iP _)) U _ dV _ (by simp [B8]) (λA9 c=>G I<|Nd<|sN [_] λw a=>⟨A9,c,I,a⟩)
theorem Zy(A c l x w)(q:Rf [] w (λw=>aI w A (SS l)))(u:l.length<=68719476736):
  Θ 87 #[(V A l c),(vS x)] w λe r=>e = .returned (.bool (l.contains x))/\aN [] w [] r:=by
 refine bS Tryz.func87 17 (B3 w) rfl<|Nc<|G rfl<|Ne<|G rfl<|M (Y l.length)<|G rfl<|Ng<|sL (λi=>i<=l.length/\(l.take i).contains x=false) (λi=>l.length - i) (λi=>[(1,(vS x)),(4,bF),(7,(V A l c)),(8,(Y l.length)),(9,(Y i))]) (λi=>[]) 0 ⟨G6 _,I⟩ η ?_
 rintro i ⟨t,d⟩
 show St _ _ _ [(1,(vS x)),(4,bF),(7,(V A l c)),(8,(Y l.length)),(9,(Y i))] [] _
 refine Nc<|M (C5 i l) ?_
 refine aO (aJ (aT (aY I (λb=>?_) (λb=>?_))))
 .have k:=D4 b
  refine Nm<|aF ?_
  obtain ⟨y,f⟩:∃ s,(l)[i]?=some s:=⟨_,E1 U⟩
  refine St.fC (λw h=>q.now h) (fR f) (λo p g j=>lw (Z o _) (rR 9 g)<|lW (rW j)<|G I<|Nb<|G I<|lw _ (lQ I I I) ?_)
  refine aO (aJ (aY I (λa=>?_) (λa=>?_)))
  .have m:=D4 a
   exact Nc<|G rfl<|Nd<|eL<|cJ<|cJ<|eL<|cJ<|sN [bT] λw h=>⟨gK (Zw f (by simpa using a)),h⟩
  .have m:=C7 a
   have n:=Zx d f (by simpa using a)
   exact Nw<|aF<|lw (Y (i+1)) bN<|G I<|aO (aJ (sA _ (⟨U,n⟩) (by show l.length - (i+1) < l.length - i; omega) η))
 .have k:=C7 b
  obtain rfl:i=l.length:=U
  exact Nj<|aF<|G rfl<|Nd<|sN [bF] λw h=>⟨gK (by rw [R0] at d; rw [d]),h⟩
theorem zV(A c l A2 k m a w)(s:Rf [] w (λw=>aI w A (SS l)))(t:Rf [] w (λw=>aI w A2 (SS m)))(z:l.length<=68719476736)(q:m.length<=68719476736):
  Θ 47 #[(V A l c),(V A2 m k),(.bool a)] w λe u=>e = .returned (.bool (m.all λx=>l.contains x == a))/\aN [] w [] u:=by
 refine kN Tryz.func47 21 (B3 w) rfl<|Nc<|G rfl<|Ne<|G rfl<|M (Y m.length)<|G rfl<|Ng<|sL (λi=>i<=m.length/\((m.take i).all λx=>l.contains x == a)=true) (λi=>m.length - i) (λi=>[(0,(V A l c)),(2,(.bool a)),(6,bF),(9,(V A2 m k)),(10,(Y m.length)),(11,(Y i))]) (λi=>[]) 0 ⟨G6 _,I⟩ η ?_
 rintro i ⟨y,f⟩
 show St _ _ _ [(0,(V A l c)),(2,(.bool a)),(6,bF),(9,(V A2 m k)),(10,(Y m.length)),(11,(Y i))] [] _
 refine Nc<|M (G0 i m) ?_
 refine χ I (λj=>?_) λj=>?_
 .refine Nm<|aF ?_
  obtain ⟨p,n⟩:=gk m i U
  refine St.fC (λw b=>t.now b) (fR n) (λo r d g=>lw (Z o _) (rR 9 d)<|lW (rW g)<|G rfl<|Nb<|G rfl<|R<|bV (λw b=>Zy A c l p w (s.aX b) U)<|G I<|M (.bool !((l.contains p) == a)) ?_)
  refine qi I (λh=>?_) λh=>?_
  .exact Nc<|G rfl<|Nd<|eL<|cJ<|cJ<|eL<|cJ<|sN [bF] λw b=>⟨gK (by grind),b⟩
  .exact Nw<|aF<|lw (Y (i+1)) bN<|G I<|aO (aJ (sA (i+1) (⟨U,by grind [List.take_add_one]⟩) oz η))
 .obtain rfl:i=m.length:=U
  rw [R0] at f
  exact Nj<|aF<|G rfl<|Nd<|sN [bT] λw b=>⟨gK f.symm,b⟩
theorem Pj(A c xs A1 p l w)(q:cC [cB A (xs) c] w)(y:Rf [cB A (xs) c] w (λw=>aI w A1 (SS l)))(H:xs.length<=200000)(F:l.length<=3072)(g:∀ x∈l,x.length=32):
  Θ 82 #[(V A xs c),(V A1 l p)] w λe z=>∃ (B:Δ) (cb:Nat),e = .returned (V B (xs++(aE l.length++l.flatten)) cb)/\aN [cB A (xs) c] w [cB B (xs++(aE l.length++l.flatten)) cb] z:=by
 refine bS Tryz.func82 24 (q) I<|Nc<|G I<|Nf ?_
 have s:=eY l.length U
 have r:=vV g
 refine aF<|G rfl<|M (Y l.length)<|lw (vU l.length) (iQ _ (λ_=>J) I I (kV U U))<|R<|dC (λw b=>Bt l.length w (mP U)) λB11 a=>R<|cL gS 0 (B8 (aE l.length)) rfl rfl J rfl rfl rfl (by simp [B8]) (λw b=>eN.gJ (fM (i:=1) I w b)) ((iP _)) U ((xs++(aE l.length)).length) dV (B8 (xs++(aE l.length))) (by simp [B8]) (λA12 f=>G I<|Ne<|G rfl<|M (Y l.length)<|G rfl<|Ng<|yB (ι:=Nat × Δ × Nat) (λ(i,B,cb)=>i<=l.length) (λ(i,B,cb)=>l.length - i) (λ(i,B,cb)=>[(4,nS),(13,(V A1 l p)),(14,(Y l.length)),(0,(V B ((xs++aE l.length)++(l.take i).flatten) cb)),(15,(Y i))]) (λ(i,B,cb)=>[cB B ((xs++aE l.length)++(l.take i).flatten) cb,cB B11 (aE l.length) a]) (0,A12,f) (G6 _) ⟨I,I,I,by rw [show ((xs++aE l.length)++(l.take 0).flatten)=xs++aE l.length from by simp]; rfl,I,trivial⟩ (λw b=>by show Mm _ _ [cB A12 ((xs++aE l.length)++(l.take 0).flatten) f,cB B11 (aE l.length) a] w; rw [show (xs++aE l.length)++(l.take 0).flatten=xs++aE l.length from by simp]; exact b) ?_)
 rintro ⟨i,B,cb⟩ (t:i<=l.length)
 dsimp only
 refine Nc<|M (G0 i l) ?_
 refine χ I (λk=>?_) λk=>?_
 .refine Nm<|aF ?_
  obtain ⟨m,d⟩:=gk l i U
  refine St.fC (λw b=>y.now b) (fR d) (λo u h j=>lw (Z o _) (rR 9 h)<|lW (rW j)<|G rfl<|Nv<|G rfl<|R<|wJ 0 rfl rfl J J J J rfl rfl rfl (by have E:=GU (l:=l) i; have D:=g m (F0 d); simp only [C3]; omega) ((((xs++aE l.length)++(l.take i).flatten)++m).length) dV (B8 (((xs++aE l.length)++(l.take i).flatten)++m)) (by simp [B8]) (λA21 n=>G I<|Nk<|aF<|lw (Y (i+1)) bN<|G I<|Na ?_))
  rw [show ((xs++aE _)++(l.take i).flatten)++m=(xs++aE _)++(l.take _).flatten from by rw [D1,<- GS d]]
  exact sA (i+1,A21,n) oz oz η
 .obtain rfl:i=l.length:=U
  rw [R0,D1]
  exact Nj<|aF<|G rfl<|Nd<|sN [_] λw b=>⟨B,cb,I,(b.pick [0] I I)⟩
theorem BD(A c its bg NA b N OA d O)(f g:Ω)(r n dn)(s:Ω)(fin w)(E:Rf [] w (λw=>aI w A (SS its)))(K:dD its)(q:its.length<=40)(o:f.oneCell'=true)(p:g.oneCell'=true)(_:s.oneCell'=true):
  Θ 38 #[(.agg #[(V A its c),(.bool bg),(V A its c),(Y 4),(Y 4),(V NA (aH [] N) b),(V OA (aH [] O) d),f,g,s,(Y r),(Y n),(.bool dn),(.bool fin)])] w λe F=>∃ (AM:Δ) (u:Nat),e = .returned (.agg #[(V A its c),(.bool bg),(V A its c),(Y 4),(Y 4),(V NA (aH [] N) b),(V OA (aH [] O) d),f,g,(V AM (bB 3 (bK [dF its [] []])) u),(Y r),(Y n),(.bool dn),(.bool fin)])/\aN [] w [cB AM (bB 3 (bK [dF its [] []])) u] F:=by
 refine eO Tryz.func38 10 (B3 w) I<|aT ?_
 have z:=Dz q
 have B:bG.length=0:=I
 have D:=eY (bK [dF its [] []]).length U
 refine aF<|R<|pB [(V A its c),(.bool bg),(V A its c),(Y 4),(Y 4),(F7 NA N b),(F7 OA O d),f,g,s,(Y r),(Y n),(.bool dn),(.bool fin)] λt=>R<|pA qt λH=>Nb<|M (Z t 2)<|lw _ (gI [(V A its c),(Y 4),(Y 4),(F7 NA N b),(V OA (aH [] O) d)] rfl rfl J J (cW (i:=0) rfl (by grind)))<|R<|dC (λw a=>Zr A c its 4 4 NA b (aH [] N) OA d (aH [] O) w (E.aX a) ag ag) λB5 k=>St.mem (λw a=>a.gB 5 1)<|R<|iI [3] (λw a y=>DM none 0 bG B5 k (bK [dF its [] []]) w y (a.fX [3] (j:=2) I (λ_ h=>aI.bM h)) U U) λB6 l=>R<|dC (λw a=>zU 3 B6 l (bG++aE (bK [dF its [] []]).length++(bK [dF its [] []])) w (a.aR (j:=3) I (λ_ h=>aI.bM h)) U (by grind)) λB7 m=>?_
 rw [show aE 3++(bG++aE _++(bK _))=bB 3 (bK (O6 its)) from by simp [bB,bG]]
 refine M (Z t 9)<|R<|pS 0 I ?_
 refine xd ?_
 refine Nb<|lW (zr 0 I)<|R<|zv 1 I (by simp only [T0,U7,k4,X8,z6]; exact ⟨I,I,I,I,I,I,I,o,p,I,I,I,I,I⟩) ?_
 exact Nd<|dL [_] rfl ⟨rz 1 rfl,trivial⟩ (λw a=>⟨B7,m,I,(a.pick [4] I I)⟩)
theorem zW(br A D A1 E l bad w)(L:cC [aD br 80 [(V A1 l E),(.bool bad)]] w)(r0:Rf [aD br 80 [(V A1 l E),(.bool bad)]] w (λw=>aI w A (B8 D)))(hs:cZ A D A1 l E)(hD:D.length<=1048576):
  Θ 46 #[(Z br 0)] w λe w'=>∃ (A2:Δ) (X:Nat) (B:Δ) (cb:Nat),e = .returned (.slice B ((eB l bad).1.length) (cb))/\aN [aD br 80 [(V A1 l E),(.bool bad)]] w [aD br 80 [(V A2 ((eB l bad).2.1) X),(.bool (eB l bad).2.2)],bD 9 1 B ((eB l bad).1.length) (cb) (SS (eB l bad).1)] w'/\(cZ A D A2 ((eB l bad).2.1) X):=by
 refine eO Tryz.func46 40 (L) rfl<|Nc<|G rfl<|Nb<|G rfl<|R<|iS [0] (λw f L=>tF br A D A1 E l bad 16384 w L (r0.bJ f [0]) ag ag U) λA27 H Q=>?_
 obtain ⟨n,a,b,s⟩:∃ x y z,aS l bad 16384=(x,y,z):=⟨_,_,_,I⟩
 have hn:n<=16384:=by have K:=Bx l bad 16384; rw [s] at K; exact K
 rw [show (aS l bad _).1=n from by rw [s]]
 rw [show (aS l bad _).2.1=a from by grind]
 rw [show (aS l bad _).2.2=b from by rw [s]]
 replace Q:cZ A D A27 a H:=by grind
 refine G I<|Nb<|G rfl<|Ne<|G rfl<|Ng<|St.mem (λw f=>f.gB 9 1)<|sL (λ(i,A4,m,B,cb)=>i<=n/\cZ A D A4 (bZ a b i).2.1 m) (λ(i,A4,m,B,cb)=>n - i) (λ(i,A4,m,B,cb)=>[(0,(Z br 0)),(2,nS),(3,(Y n)),(4,(.slice B ((bZ a b i).1.length) (cb))),(5,(Y i))]) (λ(i,A4,m,B,cb)=>[aD br 80 [(V A4 ((bZ a b i).2.1) m),(.bool (bZ a b i).2.2)],bD 9 1 B ((bZ a b i).1.length) (cb) (SS (bZ a b i).1)]) (0,A27,H,none,0) ⟨G6 _,Q⟩ (λw f=>by show Mm _ _ _ w; exact f) ?_
 rintro ⟨i,A4,m,B,cb⟩ ⟨hi,p⟩
 dsimp only
 refine Ny<|G I<|M (F3 i n)<|lm ?_
 refine St.dec 11 I (λq=>?_) (λq=>?_)
 .have N:=D4 q
  refine G I<|lg (Z br 0)<|lg (Z br 1)<|lu _ (bW 0 I I J I I)<|lg (.bool (!(bZ a b i).2.2))<|M (.bool (!(bZ a b i).2.2)) ?_
  refine qi I (λr=>?_) λr=>?_
  .have t:(bZ a b i).2.2=false:=by simpa using r
   have O:=By a b i
   refine Nl<|fY<|aF<|G rfl<|R<|jO [0] (λw f L=>xL br A D A4 m _ _ 32 w L (r0.bJ f [0]) (p) ag U) λA222 F B22 ab P=>lw (vS _) (kM (e:=5) _ I J J J I I (λw f=>fM (i:=2) I w f))<|R<|pN 1 9 [(vS (bQ ((bZ a b i).2.1) ((bZ a b i).2.2) 32))] λad=>R<|cL gD 1 _ rfl rfl J rfl rfl rfl (rfl) (fE (i:=3) rfl yy) (by simp [Value.oneCell']) (by have K:=By a b i; omega) (((bZ a b i).1++[(bQ ((bZ a b i).2.1) ((bZ a b i).2.2) 32)]).length) dV (SS ((bZ a b i).1++[(bQ ((bZ a b i).2.1) ((bZ a b i).2.2) 32)])) (by simp [SS]) (λA25 S=>G I<|Nk<|aF<|G I<|lw (Y (i+1)) bN<|G I<|Na ?_)
   have T:=OW t
   rw [show (bZ a b i).1++[_]=(bZ a b _).1 from by rw [T]]
   rw [show dM _ _ 32=(bZ a b _).2.1 from by rw [T]]
   rw [show dJ _ _ 32=(bZ a b _).2.2 from by rw [T]]
   exact sA (i+1,A222,F,A25,S) (⟨U,by rw [OW t]; exact P⟩) oz (κ [0,1] I I)
  .have W:(bZ a b i).2.2=true:=by simpa using r
   have u:bZ a b n=bZ a b i:=by have K:=OV W (n - i); rwa [show i+(n - i)=n from by omega] at K
   have O:=By a b i
   refine Nj<|Nc<|G I<|M (Z br 0)<|M (Z br 1)<|lL 0 I<|M (.bool (!(bZ a b i).2.2))<|lm ?_
   refine St.dec 31 I (λg=>?_) (λg=>?_)
   .have c:(bZ a b i).2.2=false:=by simpa using g
    refine G I<|dP rfl rfl<|bV (λw f=>yY B cb _ w (f.aR (j:=1) I (λ_ h=>aI.bM h)) U)<|lg (.bool (((eM ((bZ a b i).1)):Int) != 0))<|M (.bool (((eM ((bZ a b i).1)):Int) != 0)) ?_
    refine qi I (λk=>?_) λk=>?_
    .have o:decide (eM (bZ a b i).1≠0)=true:=by simpa using k
     refine xd ?_
     refine aF<|G I<|M (Z br 0)<|M (Z br 1)<|R<|pS 0 I<|Nf ?_
     have d:eB l bad=((bZ a b i).1,(bZ a b i).2.1,true):=by unfold eB; rw [s]; dsimp only; rw [u]; first | (rw [c]; rfl) | (rw [c,o]; rfl)
     refine St.to [aD br 80 [(V A4 ((eB l bad).2.1) m),(.bool (eB l bad).2.2)],bD 9 1 B ((eB l bad).1.length) (cb) (SS (eB l bad).1)] (by rw [d]; first | done | rfl | (rw [c]; done) | (rw [c]; rfl)) ?_
     rw [show (bZ a b i).1=(eB l bad).1 from by rw [d]]
     exact aF<|G rfl<|Nd<|sN [_] λw f=>⟨A4,m,B,cb,I,f,by rw [d]; exact p⟩
    .have o:decide (eM (bZ a b i).1≠0)=false:=by simpa using k
     refine Nl ?_
     have d:eB l bad=((bZ a b i).1,(bZ a b i).2.1,false):=by unfold eB; rw [s]; dsimp only; rw [u]; first | (rw [c]; rfl) | (rw [c,o]; rfl)
     refine St.to [aD br 80 [(V A4 ((eB l bad).2.1) m),(.bool (eB l bad).2.2)],bD 9 1 B ((eB l bad).1.length) (cb) (SS (eB l bad).1)] (by rw [d]; rw [c]; first | done | rfl | (rw [c]; done) | (rw [c]; rfl)) ?_
     rw [show (bZ a b i).1=(eB l bad).1 from by rw [d]]
     exact aF<|G rfl<|Nd<|sN [_] λw f=>⟨A4,m,B,cb,I,f,by rw [d]; exact p⟩
   .have c:(bZ a b i).2.2=true:=by simpa using g
    refine G I<|lF<|Nn ?_
    have d:eB l bad=((bZ a b i).1,(bZ a b i).2.1,true):=by unfold eB; rw [s]; dsimp only; rw [u]; first | (rw [c]; rfl) | (rw [c,o]; rfl)
    refine St.to [aD br 80 [(V A4 ((eB l bad).2.1) m),(.bool (eB l bad).2.2)],bD 9 1 B ((eB l bad).1.length) (cb) (SS (eB l bad).1)] (by rw [d]; first | done | rfl | (rw [c]; done) | (rw [c]; rfl)) ?_
    rw [show (bZ a b i).1=(eB l bad).1 from by rw [d]]
    exact aF<|G rfl<|Nd<|sN [_] λw f=>⟨A4,m,B,cb,I,f,by rw [d]; exact p⟩
 .have N:=C7 q
  have u:bZ a b n=bZ a b i:=by rw [show i=n from by have:=q; simp at this; omega]
  have O:=By a b i
  refine G I<|lF<|Nu<|Nj<|Nc<|G I<|M (Z br 0)<|M (Z br 1)<|lL 0 I<|M (.bool (!(bZ a b i).2.2))<|lm ?_
  refine St.dec 31 I (λg=>?_) (λg=>?_)
  .have c:(bZ a b i).2.2=false:=by simpa using g
   refine G I<|dP rfl rfl<|bV (λw f=>yY B cb _ w (f.aR (j:=1) I (λ_ h=>aI.bM h)) U)<|lg (.bool (((eM ((bZ a b i).1)):Int) != 0))<|M (.bool (((eM ((bZ a b i).1)):Int) != 0)) ?_
   refine qi I (λk=>?_) λk=>?_
   .have o:decide (eM (bZ a b i).1≠0)=true:=by simpa using k
    refine aF<|G I<|M (Z br 0)<|M (Z br 1)<|R<|pS 0 I<|Nf ?_
    have d:eB l bad=((bZ a b i).1,(bZ a b i).2.1,true):=by unfold eB; rw [s]; dsimp only; rw [u]; first | (rw [c]; rfl) | (rw [c,o]; rfl)
    refine St.to [aD br 80 [(V A4 ((eB l bad).2.1) m),(.bool (eB l bad).2.2)],bD 9 1 B ((eB l bad).1.length) (cb) (SS (eB l bad).1)] (by rw [d]; first | done | rfl | (rw [c]; done) | (rw [c]; rfl)) ?_
    rw [show (bZ a b i).1=(eB l bad).1 from by rw [d]]
    exact aF<|G rfl<|Nd<|sN [_] λw f=>⟨A4,m,B,cb,I,f,by rw [d]; exact p⟩
   .have o:decide (eM (bZ a b i).1≠0)=false:=by simpa using k
    refine Nl ?_
    have d:eB l bad=((bZ a b i).1,(bZ a b i).2.1,false):=by unfold eB; rw [s]; dsimp only; rw [u]; first | (rw [c]; rfl) | (rw [c,o]; rfl)
    refine St.to [aD br 80 [(V A4 ((eB l bad).2.1) m),(.bool (eB l bad).2.2)],bD 9 1 B ((eB l bad).1.length) (cb) (SS (eB l bad).1)] (by rw [d]; rw [c]; first | done | rfl | (rw [c]; done) | (rw [c]; rfl)) ?_
    rw [show (bZ a b i).1=(eB l bad).1 from by rw [d]]
    exact aF<|G rfl<|Nd<|sN [_] λw f=>⟨A4,m,B,cb,I,f,by rw [d]; exact p⟩
  .have c:(bZ a b i).2.2=true:=by simpa using g
   refine G I<|lF<|Nn ?_
   have d:eB l bad=((bZ a b i).1,(bZ a b i).2.1,true):=by unfold eB; rw [s]; dsimp only; rw [u]; first | (rw [c]; rfl) | (rw [c,o]; rfl)
   refine St.to [aD br 80 [(V A4 ((eB l bad).2.1) m),(.bool (eB l bad).2.2)],bD 9 1 B ((eB l bad).1.length) (cb) (SS (eB l bad).1)] (by rw [d]; first | done | rfl | (rw [c]; done) | (rw [c]; rfl)) ?_
   rw [show (bZ a b i).1=(eB l bad).1 from by rw [d]]
   exact aF<|G rfl<|Nd<|sN [_] λw f=>⟨A4,m,B,cb,I,f,by rw [d]; exact p⟩
theorem ge4(k):(Value.bool (decide (((k:Nat):Int)>=4))) = .bool (decide (4<=k)):=by congr 1; grind
abbrev D5:=[nS,bF,nS,(C 0),(C 0),nS,nS,nS,nS,nS,(C 0),(C 0),bF,bF]
theorem Zz(A c)(its:List Γ)(bg:Bool)(NA:Δ)(k:Nat)(N:List Γ)(OA:Δ)(l:Nat)(O:List Γ)(d f:Ω)(m g:Nat)(dn:Bool)(a:Ω)(fin:Bool)(b:Int)(w:Λ)(i:d.oneCell'=true)(j:f.oneCell'=true)(h:a.oneCell'=true)(r:b < 0):
  Θ 10 #[(.agg #[(V A its c),(.bool bg),(V A its c),(Y 4),(Y 4),(V NA (aH [] N) k),(V OA (aH [] O) l),d,f,a,(Y m),(Y g),(.bool dn),(.bool fin)]),(C b)] w λe o=>e = .returned (.tuple #[(.agg #[(V A its c),(.bool bg),(V A its c),(Y 4),(Y 4),(V NA (aH [] N) k),(V OA (aH [] O) l),d,f,a,(Y m),(Y g),(.bool dn),(.bool fin)]),nS,(C 1)])/\aN [] w [] o:=by
 refine bS AFg 38 (B3 w) rfl<|Nc<|R<|pB _ λp=>R<|pA D5 λq=>G I<|Ne<|G I<|M (.bool (decide ((b:Int) < 0)))<|Na<|lG I (by simp; omega)<|Nc<|lW (rA 0 [_,_,(V A its c),(Y 4),_,(V NA _ k),_,d,f,a,_,(Y g),(.bool dn),(.bool fin)])<|R<|dE 1 [(V A its c),(.bool bg),_,_,(Y 4),_,(V OA _ l),d,f,a,(Y m),_,_,_] I I J I I I J I si (by simp only [T0,U7,k4,X8,z6]; exact ⟨I,I,I,I,I,I,I,i,j,h,I,I,I,I⟩) I ?_
 exact G I<|Nh<|dL [_,nS,_] rfl ⟨rz 1 rfl,rfl,rfl,trivial⟩ (λw n=>⟨I,(n.pick [] I I)⟩)
theorem ZA(A c)(its:List Γ)(bg:Bool)(NA:Δ)(k:Nat)(N:List Γ)(OA:Δ)(l:Nat)(O:List Γ)(d f:Ω)(m g:Nat)(dn:Bool)(a:Ω)(b:Int)(w:Λ)(i:d.oneCell'=true)(j:f.oneCell'=true)(h:a.oneCell'=true)(r:0<=b):
  Θ 10 #[(.agg #[(V A its c),(.bool bg),(V A its c),(Y 4),(Y 4),(V NA (aH [] N) k),(V OA (aH [] O) l),d,f,a,(Y m),(Y g),(.bool dn),bT]),(C b)] w λe p=>e = .returned (.tuple #[(.agg #[(V A its c),(.bool bg),(V A its c),(Y 4),(Y 4),(V NA (aH [] N) k),(V OA (aH [] O) l),d,f,a,(Y m),(Y g),(.bool dn),bT]),nS,(C 4)])/\aN [] w [] p:=by
 refine bS AFg 38 (Mm.start w []) rfl<|Nc<|R<|pB [(V A its c),(.bool bg),(V A its c),(Y 4),(Y 4),(V NA _ k),(V OA _ l),d,f,a,(Y m),(Y g),(.bool dn),bT] λn=>R<|pA [nS,bF,nS,(C 0),(C 0),nS,nS,nS,nS,nS,(C 0),(C 0),bF,bF] λq=>G I<|Ne<|G I<|M (.bool (decide ((b:Int) < 0)))<|Na<|fD I (by simp; omega)<|Nl<|Nc<|M (Z n 13)<|lL 0 I<|No<|lW (rA 0 _)<|R<|dE 1 [_,_,_,_,_,_,_,d,f,a,_,_,_,bT] I I J I I I J I si (by simp only [T0,U7,k4,X8,z6]; exact ⟨I,I,I,I,I,I,I,i,j,h,I,I,I,I⟩) I ?_
 exact G I<|Nh<|dL [_,nS,_] rfl ⟨rz 1 rfl,rfl,rfl,trivial⟩ (λw o=>⟨I,(o.pick [] I I)⟩)
theorem ZB(A c)(its:List Γ)(bg:Bool)(NA:Δ)(j:Nat)(N:List Γ)(OA:Δ)(k:Nat)(O:List Γ)(a d:Ω)(l i:Nat)(dn:Bool)(b:Int)(w:Λ)(f:a.oneCell'=true)(g:d.oneCell'=true)(p:0<=b):
  Θ 10 #[(.agg #[(V A its c),(.bool bg),(V A its c),(Y 4),(Y 4),(V NA (aH [] N) j),(V OA (aH [] O) k),a,d,nS,(Y l),(Y i),(.bool dn),bF]),(C b)] w λe n=>e = .returned (.tuple #[(.agg #[(V A its c),(.bool bg),(V A its c),(Y 4),(Y 4),(V NA (aH [] N) j),(V OA (aH [] O) k),a,d,nS,(Y l),(Y i),(.bool dn),bF]),nS,(C 6)])/\aN [] w [] n:=by
 refine bS AFg 38 (Mm.start w []) rfl<|Nc<|R<|pB [_,_,_,_,_,_,_,a,d,nS,_,_,_,bF] λh=>R<|pA [nS,bF,nS,(C 0),(C 0),nS,nS,nS,nS,nS,(C 0),(C 0),bF,bF] λo=>G I<|Ne<|G I<|M (.bool (decide ((b:Int) < 0)))<|Na<|fD I (by simp; omega)<|Nl<|Nc<|M (Z h 13)<|lL 0 I<|Nn<|Nc<|M (Z h 9)<|lL 0 I<|lT<|No<|lW (rA 0 _)<|R ?_
 refine zv 1 I (by simp only [T0,U7,k4,X8,z6]; exact ⟨I,I,I,I,I,I,I,f,g,I,I,I,I,I⟩) ?_
 exact G I<|Nh<|dL [_,nS,_] rfl ⟨rz 1 rfl,rfl,rfl,trivial⟩ (λw m=>⟨I,(m.pick [] I I)⟩)
theorem ZC(A c)(its:List Γ)(bg)(NA:Δ)(l:Nat)(N:List Γ)(OA:Δ)(n:Nat)(O:List Γ)(a d:Ω)(o k:Nat)(dn:Bool)(i:Addr)(m:Γ)(j:Nat)(b:Int)(w:Λ)(g:a.oneCell'=true)(h:d.oneCell'=true)(s:0<=b)(t:b < (m.length:Int)):
  Θ 10 #[(.agg #[(V A its c),(.bool bg),(V A its c),(Y 4),(Y 4),(V NA (aH [] N) l),(V OA (aH [] O) n),a,d,(V (some i) m j),(Y o),(Y k),(.bool dn),bF]),(C b)] w λe q=>e = .returned (.tuple #[(.agg #[(V A its c),(.bool bg),(V A its c),(Y 4),(Y 4),(V NA (aH [] N) l),(V OA (aH [] O) n),a,d,(V (some i) m j),(Y o),(Y k),(.bool dn),bF]),nS,(C 10)])/\aN [] w [] q:=by
 refine bS AFg 38 (Mm.start w []) rfl<|Nc<|R<|pB [_,_,_,_,_,_,_,a,d,_,_,_,_,bF] λf=>R<|pA [nS,bF,nS,(C 0),(C 0),nS,nS,nS,nS,nS,(C 0),(C 0),bF,bF] λr=>G I<|Ne<|G I<|M (.bool (decide ((b:Int) < 0)))<|Na<|fD I (by simp; omega)<|Nl<|Nc<|M (Z f 13)<|lL 0 I<|Nn<|Nc<|M (Z f 9)<|lL 0 I<|lF<|Nn<|Nc<|M (Z f 9) ?_
 refine lL 0 I<|M (Y m.length)<|G I<|M (.bool (decide ((m.length:Int) > b)))<|Na<|lG I (by grind)<|Nc<|lW (zr 0 I)<|R<|zv 1 I (by simp only [T0,U7,k4,X8,z6]; exact ⟨I,I,I,I,I,I,I,g,h,I,I,I,I,I⟩) ?_
 exact G I<|Nh<|dL [_,nS,_] rfl ⟨rz 1 rfl,rfl,rfl,trivial⟩ (λw p=>⟨I,(p.pick [] I I)⟩)
theorem Pk(A c)(its:List Γ)(bg)(NA:Δ)(t:Nat)(N:List Γ)(OA:Δ)(u:Nat)(O:List Γ)(d f:Ω)(D r:Nat)(dn:Bool)(i:Addr)(m:Γ)(q:Nat)(y:UInt8)(k:Nat)(b:Int)(w:Λ)(B:Rf [] w (λw=>aI w (some i) (B8 m)))(j:d.oneCell'=true)(l:f.oneCell'=true)(H:(m.length:Int)<=b)(s:m[0]?=some y)(x:y.toNat=k):
  Θ 10 #[(.agg #[(V A its c),(.bool bg),(V A its c),(Y 4),(Y 4),(V NA (aH [] N) t),(V OA (aH [] O) u),d,f,(V (some i) m q),(Y D),(Y r),(.bool dn),bF]),(C b)] w λe E=>e = .returned (.tuple #[(.agg #[(V A its c),(.bool bg),(V A its c),(Y 4),(Y 4),(V NA (aH [] N) t),(V OA (aH [] O) u),d,f,nS,(Y k),(Y r),(.bool dn),(.bool (decide (4<=k)))]),(V (some i) m q),(C 0)])/\aN [] w [] E:=by
 refine bS AFg 38 (Mm.start w []) rfl<|Nc<|R<|pB [_,_,_,_,_,_,_,d,f,_,_,_,_,bF] λa=>R<|pA [nS,bF,nS,(C 0),(C 0),nS,nS,nS,nS,nS,(C 0),(C 0),bF,bF] λF=>G I<|Ne<|G I<|M (.bool (decide ((b:Int) < 0)))<|Na<|fD I (by simp; omega)<|Nl<|Nc<|M (Z a 13)<|lL 0 I<|Nn<|Nc<|M (Z a 9)<|lL 0 I<|lF<|Nn<|Nc<|M (Z a 9) ?_
 refine lL 0 I<|M (Y m.length)<|G I<|M (.bool (decide ((m.length:Int) > b)))<|Na<|fD I (by simp; omega)<|Ni<|M (Z a 9)<|lL 0 I<|G I<|Nb<|M (Z a 9)<|R<|pS 0 I<|Nf ?_
 obtain ⟨z,-⟩:=C4.1 s
 refine aF<|G rfl<|St.fC (λw n=>B.now n) (tT s) (λo p g h=>lw (Z o (p+0)) (rR 5 g)<|lW (rW h)<|lw (Y k) (iQ _ (λ_=>J) I I (by rw [x]; exact qV U (by have:=y.toNat_lt; omega)))<|M (Z a 10)<|R<|pS 0 I<|Nf ?_)
 refine xd ?_
 refine aF<|M (Z a 10)<|lL 0 rfl<|lv (gY (gZ λ_=>by kernel_rfl) (ge4 k)) ?_
 refine M (Z a 13)<|R<|pS 0 I<|Nb<|lW (rA 0 [_,_,_,_,_,_,_,d,f,nS,_,_,_,_])<|G I<|R<|dE 1 [_,_,_,_,_,_,_,d,f,nS,_,_,_,(.bool _)] I I J I I I J I si (by simp only [T0,U7,k4,X8,z6]; exact ⟨I,I,I,I,I,I,I,j,l,I,I,I,I,I⟩) I ?_
 exact G I<|Nd<|dL [_,_,_] rfl ⟨rz 1 rfl,rfl,rfl,trivial⟩ (λw n=>⟨I,(n.pick [] I I)⟩)
theorem zX(its needs offs):iX its needs offs=((offs.all λx=>its.contains x == true) && needs.all λx=>its.contains x == false):=by
 grind [iX]
theorem Pm(i:dD its)(l:its.length<=40)(d:iX its needs offs=true)(f:needs.Pairwise (· < ·))(n:∀ x∈needs,x.length=32)(p:needs.length<=3072):
  aH (aL its offs) needs=gG its offs needs/\eM (gG its offs needs)=0/\(gG its offs needs).length<=4000:=by
 have m:=(Hp d).1
 have c:(gG its offs needs).length<=4000:=by
  grind [gG,oG]
 have g:((its.filter λx=>!offs.contains x)++needs).Nodup:=by
  refine X9.2 ⟨(i.2.imp λ{x y} h e=>by subst e; exact lK h).filter _,f.imp λ{x y} h e=>by subst e; exact lK h,λx j y o e=>?_⟩
  subst e
  exact m x o (AEa.1 j).1
 have a:jY (gG its offs needs):=by
  have k:(gG its offs _).Nodup:=((uF _).nodup_iff).2 g
  exact List.Pairwise.imp₂ zg (AT _) k
 have b:∀ x,x∈gG its offs _↔x∈aL its offs\/x∈needs:=λx=>by
  unfold gG
  rw [(uF _).mem_iff,P7]
  rfl
 refine ⟨Mp (GC _ (WX i.2 offs)) a λx=>by rw [GD,b],?_,c⟩
 refine qJ (by omega) ⟨λx j=>?_,a⟩
 rcases (b x).1 j with h | h
 .exact i.1 x (vQ.1 h).1
 grind
theorem Pn(X t n sd l m w)(q:Rf [] w (λw=>(iF X t).holds w))(g:t.cells.length=n)(o:t.seed=sd)(k:t.keys=some (l,m)):
  Θ 70 #[(.agg #[(.int .u64 ((sd:Nat):Int)),(ql X.g n X.c)])] w λe j=>∃ (A1:Δ) (b:Nat) (A2:Δ) (c:Nat),e = .returned (.tuple #[(V A1 l b),(V A2 m c),bT])/\aN [] w [cS A1 l b,cS A2 m c] j:= by
 refine (Ht n sd X.g X.c X.rest t w q.here g.symm o.symm).mono ?_
 rintro e j ⟨r,h⟩
 obtain ⟨p,a,rfl,rfl⟩:=AU k
 unfold BT.raw at a
 rw [g] at a
 cases i:iM n ⟨t,[],[],[]⟩ with
 | none=>rw [i] at a; cases a
 | some s =>
  rw [i] at h a
  obtain ⟨A1,b,A2,c,rfl,-,-,d⟩:=h
  cases f:s.t.empty with
  | false=>simp [f] at a
  | true =>
   simp only [f,AA9,V4] at a
   subst a
   rw [<- oG s.added,<- oG s.removed] at d ⊢
   exact ⟨A1,b,A2,c,I,d⟩
theorem ZD(A c its w)(s:Rf [] w (λw=>aI w A (SS its)))(r:dD its)(n:its.length<=40):
  Θ 8 #[(V A its c),bT] w λe t=>∃ (AM:Δ) (l:Nat),e = .returned (.agg #[(V A its c),bT,(V A its c),(Y 4),(Y 4),nS,nS,nS,nS,(V AM (bB 1 (cH (bO its))) l),(C 0),(C 0),bF,bF])/\aN [] w [cB AM (bB 1 (cH (bO its))) l] t:=by
 refine bS Tryz.func8 19 (B3 w) I<|aT ?_
 have g:=r.1
 have i:=rJ (nA g).all
 rw [mA] at i
 have p:bG.length=0:=I
 have q:=eY (cH (bO its)).length U
 refine aF<|R<|pA qt λm=>Nb<|G rfl<|M O1<|M (.agg #[(V A its c),(C 4),(C 4),nS,nS])<|M (.agg #[(V A its c),bT,(V A its c),(C 4),(C 4),nS,nS,nS,nS,nS,(C 0),(C 0),bF,bF])<|R<|pA qt λk=>R<|zu 1 rfl<|Ne<|G rfl<|Nt<|aF<|G rfl<|R<|dC (λw b=>YM A c its w (s.aX b) (g) U) λB14 d=>St.mem (λw b=>b.gB 5 1)<|R<|iI [3] (λw b o=>DM none 0 bG B14 d (cH (bO its)) w o (b.fX [3] (j:=2) I (λ_ h=>aI.bM h)) U U) λB15 f=>R<|dC (λw b=>zU 1 B15 f (bG++aE (cH (bO its)).length++(cH (bO its))) w (b.aR (j:=3) I (λ_ h=>aI.bM h)) U (by simp only [C3]; omega)) λB16 a=>?_
 refine St.to [aD m 37 qt,aD k 37 [(V A its c),bT,(V A its c),(C 4),(C 4),nS,nS,nS,nS,nS,(C 0),(C 0),bF,bF],cB B14 (cH (bO its)) d,cB B15 (bG++aE (cH (bO its)).length++(cH (bO its))) f,cB B16 (aE 1++(bG++aE (cH (bO its)).length++(cH (bO its)))) a] J ?_
 rw [show aE 1++(bG++aE (cH (bO its)).length++(cH (bO its)))=bB 1 (cH (bO its)) from by simp [bB,bG]]
 exact M (Z k 9)<|R<|pS 1 rfl<|Nb<|lW (zr 1 rfl)<|R<|zu 0 rfl<|Nd<|dL [(.agg #[(V A its c),bT,(V A its c),(C 4),(C 4),nS,nS,nS,nS,(V B16 (bB 1 (cH (bO its))) a),(C 0),(C 0),bF,bF])] rfl ⟨rz 0 rfl,trivial⟩ (λw b=>⟨B16,a,I,(b.pick [4] I I)⟩)
abbrev N9(a:Option Addr)(b:List (List UInt8))(c:Nat):Value:=.agg #[(V a b c),bF,(V a b c),(C 4),(C 4),nS,nS,nS,nS,nS,(C 0),(C 0),bF,bF]
theorem ZE(A c its w)(_:Rf [] w (λw=>aI w A (SS its)))(g:dD its)(_:its.length<=40):
  Θ 8 #[(V A its c),bF] w λe h=>e = .returned (.agg #[(V A its c),bF,(V A its c),(Y 4),(Y 4),nS,nS,nS,nS,nS,(C 0),(C 0),bF,bF])/\aN [] w [] h:=by
 refine bS Tryz.func8 19 (B3 w) I<|aT ?_
 have b:=g.1
 have a:=rJ (nA b).all
 rw [mA] at a
 exact aF<|R<|pA qt λi=>Nb<|G rfl<|M O1<|M (.agg #[(V A its c),(C 4),(C 4),nS,nS])<|M (N9 A its c)<|R<|pA qt λj=>R<|zu 1 rfl<|Ne<|G rfl<|Nn<|aF<|lW (zr 1 rfl)<|R<|zu 0 rfl<|Nd<|dL [(N9 A its c)] rfl ⟨rz 0 rfl,trivial⟩ (λw f=>⟨I,(f.pick [] I I)⟩)
abbrev D8(a b c d e f g h i j k l m n o p q r):=#[(V a b c),(.bool d),(V a b c),(Y 4),(Y 4),(F7 e f g),(F7 h i j),k,l,(V m (bB 3 (bK (O6 b))) n),(Y o),(Y p),(.bool q),(.bool r)]
theorem ZF(A c its bg NA o N OA p O)(g i:Ω)(q m dn)(H:Ω)(fin X t n sd fp w)(y:Rf [] w (λw=>aI w A (SS its)))(r1:Rf [] w (λw=>(iF X t).holds w))(hs:dD its)(ae:its.length<=40)(r:g.oneCell'=true)(s:i.oneCell'=true)(ar:H.oneCell'=true)(F:t.cells.length=n)(_:t.seed=sd)(ao:t.Ok)(hz:fI (n:Int)=true)(a2:n<=600)(_:sd=0)(hd:nM its t fp=none):
  Θ 44 #[(.agg #[(V A its c),(.bool bg),(V A its c),(Y 4),(Y 4),(V NA (aH [] N) o),(V OA (aH [] O) p),g,i,H,(Y q),(Y m),(.bool dn),(.bool fin)]),(vS fp),(.agg #[(.int .u64 ((sd:Nat):Int)),(ql X.g n X.c)])] w λe w'=>∃ (AM:Δ) (cM:Nat),e = .returned (.agg #[(V A its c),(.bool bg),(V A its c),(Y 4),(Y 4),(V NA (aH [] N) o),(V OA (aH [] O) p),g,i,(V AM (bB 3 (bK [dF its [] []])) cM),(Y q),(Y m),(.bool dn),(.bool fin)])/\aN [] w [cB AM (bB 3 (bK [dF its [] []])) cM] w':=by
 refine kN Tryz.func44 66 (B3 w) I<|aT ?_
 have E:=hs.1
 have af:(fK (BT.new n 0) its).cells.length=n:=jW its n
 have ah:(fK (BT.new n 0) its).seed=0:=zC its n
 have au:((fK (BT.new n 0) its).sub t).cells.length=n:=(mM U).trans af
 have aw:((fK (BT.new n 0) its).sub t).seed=0:=ah
 refine aF<|R<|pB [(V A its c),(.bool bg),(V A its c),(Y 4),(Y 4),(F7 NA N o),(F7 OA O p),g,i,H,(Y q),(Y m),(.bool dn),(.bool fin)] λK=>R<|pB [(vU sd),(ql X.g n X.c)] λb5=>R<|pA qt λb6=>Nf ?_
 refine xd ?_
 rcases NB hd with u | ⟨b,a,u,ak⟩
 .rw [F] at u
  change ((fK (BT.new n 0) its).sub t).keys=none at u
  refine dN _ 16 J η<|aC 0 (Z K 0) I<|al 1 0 ?_
  refine aC 2 (Z b5 1) I<|al 3 1 ?_
  refine aC 4 (Y n) I<|aV 6 _ rfl (zr 1 rfl)<|aA 5 rfl<|gT (λw d=>Bu A c its n 0 w (y.aX d) ag (by unfold dA; decide) (E) U) λX17=>aQ _ (κ [0,1,2] I I) η<|aA 7 rfl<|gT (λw d=>Br X17 (fK (BT.new n 0) its) n 0 X t sd w (d.aR (j:=3) I η) (r1.aX d) ag ag ag) λZ19=>aQ _ (κ [0,1,2,3] I I) η<|aA 8 rfl<|dC (λw d=>OE Z19 ((fK (BT.new n 0) its).sub t) n 0 w (d.aR (j:=4) I η) ag ag (u)) λab ad=>?_
  refine xd ?_
  refine aQ _ η η ?_
  refine am 9 ?_
  refine aC 10 ab I<|aC 11 ad I<|aC 12 bF I<|aa 13 ?_
  refine aa 14 ?_
  refine aa 15 ?_
  refine cG J<|aJ<|Ny<|G rfl<|lT<|G rfl<|lT<|G rfl<|lT<|No<|lW (zr 0 rfl)<|R<|dC (λw d=>BD A c its bg NA o N OA p O g i q m dn H fin w (y.aX d) ag ag ag ag ag) λAM41 f=>R<|zv 2 I (by simp only [T0,U7,k4,X8,z6]; exact ⟨I,I,I,I,I,I,I,r,s,I,I,I,I,I⟩) ?_
  exact Nh<|dL [(.agg (D8 A its c bg NA N o OA O p g i AM41 f q m dn fin))] rfl ⟨rz 2 rfl,trivial⟩ (λw d=>⟨AM41,f,I,(d.pick [5] I I)⟩)
 .rw [F] at u
  change ((fK (BT.new n 0) its).sub t).keys=some (b,a) at u
  obtain ⟨⟨ax,ay⟩,ai,aj⟩:=Bm (vD (rI E n) ao) u
  have S:=vN u
  rw [mM (by rw [F]; exact (jW its n).symm)] at S
  have W:=jW its n
  change (fK (BT.new n 0) its).cells.length=n at W
  rw [W] at S
  refine dN _ 16 J η<|aC 0 (Z K 0) I<|al 1 0 ?_
  refine aC 2 (Z b5 1) I<|al 3 1 ?_
  refine aC 4 (Y n) I<|aV 6 _ rfl (zr 1 rfl)<|aA 5 rfl<|gT (λw d=>Bu A c its n 0 w (y.aX d) ag (by unfold dA; decide) (E) U) λX17=>?_
  refine xd ?_
  refine aQ _ (κ [0,1,2] I I) η<|aA 7 rfl<|gT (λw d=>Br X17 (fK (BT.new n 0) its) n 0 X t sd w (d.aR (j:=3) I η) (r1.aX d) ag ag ag) λZ19=>aQ _ (κ [0,1,2,3] I I) η<|aA 8 rfl<|qZ (λw d=>Pn Z19 ((fK (BT.new n 0) its).sub t) n 0 b a w (d.aR (j:=4) I η) ag ag (u)) λA120 k A220 l=>aQ _ (κ [0,1,2,3,4] I I) η<|am 9 ?_
  refine aC 10 (V A120 b k) I<|aC 11 (V A220 a l) I<|aC 12 bT I<|aa 13 ?_
  refine aa 14 ?_
  refine aa 15 ?_
  refine cG J<|aJ<|Ny<|G rfl<|lF<|G rfl<|lg (Z K 0)<|lu (V A its c) (bW 0 rfl rfl J rfl rfl)<|G rfl<|dP rfl rfl<|bV (λw d=>zV A c its A120 k b true w (y.aX d) (d.aR (j:=5) I (λ_ h=>aI.bM h)) U U)<|lg (.bool (!(b.all λx=>its.contains x == true)))<|M (.bool (!(b.all λx=>its.contains x == true)))<|lm ?_
  refine St.dec 33 I (λB=>?_) (λB=>?_)
  .refine G I<|lT<|No<|lW (zr 0 rfl)<|R<|dC (λw d=>BD A c its bg NA o N OA p O g i q m dn H fin w (y.aX d) ag ag ag ag ag) λAM41 f=>R<|zv 2 I (by simp only [T0,U7,k4,X8,z6]; exact ⟨I,I,I,I,I,I,I,r,s,I,I,I,I,I⟩) ?_
   exact Nh<|dL [(.agg (D8 A its c bg NA N o OA O p g i AM41 f q m dn fin))] rfl ⟨rz 2 rfl,trivial⟩ (λw d=>⟨AM41,f,I,(d.pick [7] I I)⟩)
  .have ap:(b.all λx=>its.contains x == true)=true:=by simpa using B
   refine lg (Z K 0)<|lu (V A its c) (bW 0 rfl rfl J rfl rfl)<|G rfl<|dP rfl rfl<|bV (λw d=>zV A c its A220 l a false w (y.aX d) (d.aR (j:=6) I (λ_ h=>aI.bM h)) U U) ?_
   refine xd ?_
   refine lg (.bool (!(a.all λx=>its.contains x == false)))<|M (.bool (!(a.all λx=>its.contains x == false))) ?_
   refine qi I (λD=>?_) λD=>?_
   .refine Nc<|lW (zr 0 rfl)<|R<|dC (λw d=>BD A c its bg NA o N OA p O g i q m dn H fin w (y.aX d) ag ag ag ag ag) λAM41 f=>R<|zv 2 I (by simp only [T0,U7,k4,X8,z6]; exact ⟨I,I,I,I,I,I,I,r,s,I,I,I,I,I⟩) ?_
    exact Nh<|dL [(.agg (D8 A its c bg NA N o OA O p g i AM41 f q m dn fin))] rfl ⟨rz 2 rfl,trivial⟩ (λw d=>⟨AM41,f,I,(d.pick [7] I I)⟩)
   .have aq:(a.all λx=>its.contains x == false)=true:=by simpa using D
    refine Nl ?_
    have Q:iX its a b=true:=by rw [zX,ap,aq]; rfl
    obtain ⟨an,T,az⟩:=Pm hs ae Q ai aj U (offs:=b)
    refine aF<|M (Z K 0)<|lL 0 rfl<|G rfl<|R<|dC (λw d=>wU A c its A120 k b w (y.aX d) (d.aR (j:=5) I (λ_ h=>aI.bM h)) U U) λB45 L=>G I<|R<|dC (λw d=>sX B45 L (aL its b) A220 l a w (d.aR (j:=7) I (λ_ h=>aI.bM h)) (d.aR (j:=6) I (λ_ h=>aI.bM h)) (by have h9:=iN its b; omega) U) λB47 P=>?_
    rw [show aH (aL its b) a=gG its b a from an]
    refine G I<|Nf<|aT ?_
    refine xd ?_
    refine aF<|G rfl<|R<|bV (λw d=>yZ B47 P (gG its b a) w (d.aR (j:=8) I (λ_ h=>aI.bM h)) U (by have h9:=AF (uB T); omega))<|G rfl<|lw (.bool (!decide ((eI (gG its b a))=fp))) (qC rfl rfl rfl)<|Na<|lG rfl (by simpa using ak Q T)<|Nc<|lW (zr 0 rfl)<|R<|dC (λw d=>BD A c its bg NA o N OA p O g i q m dn H fin w (y.aX d) ag ag ag ag ag) λAM53 z=>R<|zv 2 I (by simp only [T0,U7,k4,X8,z6]; exact ⟨I,I,I,I,I,I,I,r,s,I,I,I,I,I⟩) ?_
    exact Nh<|dL [(.agg (D8 A its c bg NA N o OA O p g i AM53 z q m dn fin))] rfl ⟨rz 2 rfl,trivial⟩ (λw d=>⟨AM53,z,I,(d.pick [9] I I)⟩)
theorem ZG(A c its bg NA nc N OA oc O)(vn vo:Ω)(sn gt dn)(vm:Ω)(fin X t n sd B offs needs w)(z:Rf [] w (λw=>aI w A (SS its)))(r1:Rf [] w (λw=>(iF X t).holds w))(hs:dD its)(D:its.length<=40)(_:vn.oneCell'=true)(_:vo.oneCell'=true)(_:vm.oneCell'=true)(y:t.cells.length=n)(_:t.seed=sd)(T:t.Ok)(hz:fI (n:Int)=true)(aq:n<=600)(_:sd=0)(hd:nM its t B=some (offs,needs)):
  Θ 44 #[(.agg #[(V A its c),(.bool bg),(V A its c),(Y 4),(Y 4),(V NA (aH [] N) nc),(V OA (aH [] O) oc),vn,vo,vm,(Y sn),(Y gt),(.bool dn),(.bool fin)]),(vS B),(.agg #[(.int .u64 ((sd:Nat):Int)),(ql X.g n X.c)])] w λe w'=>∃ (AN:Δ) (cN:Nat) (AO:Δ) (cO:Nat) (AM:Δ) (W:Nat),e = .returned (.agg #[(V A its c),(.bool bg),(V A its c),(Y 4),(Y 4),(V NA (aH [] N) nc),(V OA (aH [] O) oc),(V AN needs cN),(V AO offs cO),(V AM (kQ offs needs) W),(Y sn),(Y gt),bT,(.bool fin)])/\aN [] w [cS AN needs cN,cS AO offs cO,cB AM (kQ offs needs) W] w':=by
 refine kN Tryz.func44 66 (B3 w) I<|aT ?_
 have q:=hs.1
 have aj:bG.length=0:=I
 have H:(fK _ its).cells.length=n:=jW its n
 have K:(fK _ its).seed=0:=zC its n
 have ah:((fK _ its).sub t).cells.length=n:=(mM U).trans H
 have ai:((fK _ its).sub t).seed=0:=K
 refine aF<|R<|pB _ λg=>R<|pB [(vU sd),_] λb5=>R<|pA qt λb6=>Nf ?_
 refine xd ?_
 obtain ⟨r,b,ap,L⟩:=Bl hd
 rw [y] at r
 change ((fK (BT.new n 0) its).sub t).keys=some (offs,needs) at r
 obtain ⟨⟨ak,k⟩,P,i⟩:=Bm (vD (rI q n) T) r
 have s:=vN r
 rw [mM (by rw [y]; exact (jW its n).symm)] at s
 have u:=jW its n
 change (fK (BT.new n 0) its).cells.length=n at u
 rw [u] at s
 rw [zX,V6] at b
 refine dN _ 16 J η<|aC 0 (Z g 0) I<|al 1 0 ?_
 refine aC 2 (Z b5 1) I<|al 3 1 ?_
 refine aC 4 (Y n) I<|aV 6 _ rfl (zr 1 rfl)<|aA 5 rfl<|gT (λw a=>Bu A c its n 0 w (z.aX a) ag (by unfold dA; decide) (q) U) λX17=>aQ _ (κ [0,1,2] I I) η<|aA 7 rfl<|gT (λw a=>Br X17 _ n 0 X t sd w (a.aR (j:=3) I η) (r1.aX a) ag ag ag) λZ19=>aQ _ (κ [0,1,2,3] I I) η<|aA 8 rfl<|qZ (λw a=>Pn Z19 _ n 0 offs needs w (a.aR (j:=4) I η) ag ag (r)) λA120 d A220 f=>?_
 refine xd ?_
 refine aQ _ (κ [0,1,2,3,4] I I) η<|am 9 ?_
 refine aC 10 (V A120 offs d) I<|aC 11 (V A220 needs f) I<|aC 12 bT I<|aa 13 ?_
 refine aa 14 ?_
 refine aa 15 ?_
 refine cG J<|aJ<|Ny<|G rfl<|lF<|G rfl<|lg (Z g 0)<|lu _ (bW 0 rfl rfl J rfl rfl)<|G rfl<|dP rfl rfl<|bV (λw a=>zV A c its A120 d offs true w (z.aX a) (a.aR (j:=5) I (λ_ h=>aI.bM h)) U U)<|lg (.bool (!(offs.all λx=>its.contains x == true)))<|M (.bool (!(offs.all λx=>its.contains x == true)))<|lm ?_
 refine St.known 33 (b':=false) I (by first | rfl | (rw [b.1]; rfl) | (rw [b.2]; rfl))<|lg (Z g 0)<|lu _ (bW 0 rfl rfl J rfl rfl)<|G rfl<|dP rfl rfl<|bV (λw a=>zV A c its A220 f _ false w (z.aX a) (a.aR (j:=6) I (λ_ h=>aI.bM h)) U U)<|lg (.bool (!(needs.all λx=>its.contains x == false)))<|M (.bool (!(needs.all λx=>its.contains x == false)))<|Na<|fD I (by first | rfl | (rw [b.1]; rfl) | (rw [b.2]; rfl))<|Nl ?_
 rw [<- V6,<- zX] at b
 obtain ⟨S,Q,an⟩:=Pm hs D b P i U
 refine aF<|M (Z g 0)<|lL 0 rfl<|G rfl<|R<|dC (λw a=>wU A c its A120 d offs w (z.aX a) (a.aR (j:=5) I (λ_ h=>aI.bM h)) U U) λB45 l=>G I<|R<|dC (λw a=>sX B45 l _ A220 f _ w (a.aR (j:=7) I (λ_ h=>aI.bM h)) (a.aR (j:=6) I (λ_ h=>aI.bM h)) (by have E:=iN its offs; omega) U) λB47 m=>?_
 rw [show aH _ _=gG its offs _ from S]
 refine G I<|Nf<|aT ?_
 refine xd ?_
 refine aF<|G rfl<|R<|bV (λw a=>yZ B47 m (gG its offs needs) w (a.aR (j:=8) I (λ_ h=>aI.bM h)) U (by have E:=AF (uB Q); omega))<|G I<|lw (.bool (!decide ((eI (gG its offs needs))=B))) (qC I I I)<|Na<|fD I (by rw [L]; simp)<|Ni<|G I<|M (Z g 8)<|R<|pS 0 I<|M (Z g 7)<|R<|pS 0 I<|M (Z g 12)<|R<|pS 0 I<|Nf ?_
 refine xd ?_
 refine St.mem (λw a=>a.gB 5 1)<|aF<|G rfl<|R<|iI [9] (λw a F=>Pj none 0 bG A120 d offs w F (a.fX [9] (j:=5) I (λ_ h=>aI.bM h)) U U (k)) λB60 o=>G I<|R<|iI [9] (λw a F=>Pj B60 o _ A220 f needs w F (a.fX [9] (j:=6) I (λ_ h=>aI.bM h)) (by have h8:=eY offs.length U; have E:=vV k; simp only [C3,W7,bG]; omega) U (i)) λB62 p=>R<|dC (λw a=>zU 4 B62 p ((bG++(aE _++offs.flatten))++(aE _++needs.flatten)) w (a.aR (j:=9) I (λ_ h=>aI.bM h)) U (by have h6:=eY offs.length U; have h7:=vV k; have h8:=eY needs.length U; have E:=vV i; simp only [C3,W7,bG]; omega)) λB63 ab=>?_
 rw [show aE 4++((bG++(aE _++offs.flatten))++(aE _++needs.flatten))=kQ offs needs from by simp [kQ,bG]]
 refine M (Z g 9)<|R<|pS 0 I<|Nf ?_
 refine xd ?_
 exact aF<|lW (zr 0 rfl)<|R<|zu 2 rfl<|Nd<|dL [_] rfl ⟨rz 2 rfl,trivial⟩ (λw a=>⟨_,_,_,_,B63,_,I,(a.pick [6,5,10] I I)⟩)
section
section
variable {P:Program}{Q:Exit -> Act -> World -> Prop}{nt:Nat}{w0:World}{F:List Nat}{E:eH}{cs:List Ch}{K:Act -> World -> Prop}{o:Oper}{d:Nat}{t e:TypeId}{z:Value}{bt:Nat}
def mU(b:Nat)(e:TypeId)(c:Nat)(xs:List Value):Ch where
 fp:=[b]
 holds w:=∃ (l:Array Value) (fz:Nat × Nat),w.heap[b]?=some (.cells l e fz) /\ l.size=c /\ (∀ j,j < c -> ¬ (fz.1 <= j /\ j < fz.2)) /\ xs.length <= c /\ l.toList.take xs.length=xs
 ok w w' hb h:=by
  obtain ⟨l,fz,h1,h2⟩:=h
  exact ⟨l,fz,(hb b (by simp)).trans h1,h2⟩
 lt w h k hk:=by
  rw [List.mem_singleton] at hk
  subst hk
  obtain ⟨_,_,h1,_⟩:=h
  exact (Array.getElem?_eq_some_iff.1 h1).1
theorem Iq{l:Array Value}(h:l.toList.take xs.length=xs)(j:Nat)(v)(a:xs[j]?=some v):l[j]?=some v:=by
 grind
theorem ZH(n:o.op = .convert src dst x)(k:o.dst=some d)(q:P.underlying src=some .string)(r:P.underlying dst=some (.slice e))(l:P.underlying e=some (.int .u8))(m:dH nt E o=true)(s:bA E x=some (vS bs))(h:∀ b c,St nt w0 F ((d,ql b bs.length c)::E) (cs++[mU b e c (B8 bs)]) K):eK P Q nt w0 F E cs o K :=
 pH k m λw i=>by
  have g:=AB9 w src dst e (bL bs) q r l
  rw [yH] at g
  have f:=AH2 w bs.length 0 e
  have a:(bytesRow (bL bs) (grownCap w bs.length 0 e)).size=grownCap w bs.length 0 e:=by
   grind [bytesRow,yH,bL]
  have p:(mU w.heap.size e (grownCap w bs.length 0 e) (B8 bs)).holds (w.drew.alloc (.cells (bytesRow (bL bs) (grownCap w bs.length 0 e)) e ((bytesRow (bL bs) (grownCap w bs.length 0 e)).size,(bytesRow (bL bs) (grownCap w bs.length 0 e)).size+1))):=by
   refine ⟨_,_,ABa _ _,a,λj u h=>?_,by rw [eX]; exact f,?_⟩
   .rw [a] at h
    simp only at h
    omega
   grind [bytesRow,bL,B8]
  refine ⟨_,_,_,?_,i.push (((Fr.refl _ _).drew).alloc _) p (by simp [mU]) (by simp [mU]),h _ _⟩
  unfold execOp
  simp only [n,cU s,P5,g]
  rfl
theorem Po(b:Nat)(e:Υ)(a:Nat × Nat):∀ (vs:Ξ) (off:Nat) (l:Array Value) (W:Λ),W.heap[b]?=some (.cells l e a)->off+vs.length<=l.size ->
  ∃ l',(W.setCells b off vs).heap[b]?=some (.cells l' e a)/\l'.size=l.size/\(∀ j v,vs[j]?=some v->l'[off+j]?=some v)/\(∀ j,j < off->l'[j]?=l[j]?)/\Fr [b] W (W.setCells b off vs)
 | [],off,l,W,c,_=>⟨l,c,I,zg,zg,Fr.refl _ _⟩
 | v::vs,off,l,W,c,m=>by
   rw [V0] at m
   have f:(W.setCell ⟨b,off,none⟩ v).heap[b]?=some (.cells (l.setIfInBounds off v) e a):=by
    show (W.heap.modify b _)[b]?=_
    rw [ADh,P1 I,c]
    rfl
   obtain ⟨l',g,h,n,p,i⟩:=Po b e a vs (off+1) _ _ f (by rw [Array.size_setIfInBounds]; omega)
   refine ⟨l',g,by rw [h,Array.size_setIfInBounds],λj u k=>?_,λj k=>?_,((Fr.refl [b] W).setCell si _).trans i⟩
   .grind
   grind
theorem Pp(El:lN P t e z 1 1){b c H n m:Nat}(i)(ho:o.op = .call { callee:=.builtin .append,args:=#[s,x],argTypes:=#[t,t] })(hd:o.dst=some d)(hk:dH nt E o=true)(hs:bA E s=some (.slice (some ⟨b,0,none⟩) n c))(hx:bA E x=some (.slice A2 m H))(hi:cs[i]?=some (mU b e c xs))(hn:xs.length=n)(hl:news.length=m)(y:∀ w,Mm w0 F cs w->eN w A2 news)(h1:∀ u∈news,u.oneCell'=true)(aq:n+m<=137438953472)(an:0 < m)(m')(hm:n+m=m')(ai)(ao:xs++news=ai)(h:∀ b' c',St nt w0 F ((d,(.slice (some ⟨b',0,none⟩) m' c'))::E) (cs.set i (mU b' e c' ai)) K):eK P Q nt w0 F E cs o K :=
 pH hd hk λw N=>by
  subst hm ao hn hl
  obtain ⟨l,L,O,hc,W,aw,ah⟩:=show ∃ (l:Array _) (L:Nat × Nat),w.heap[b]?=some _/\l.size=c/\(∀ j,j < c->¬ (L.1<=j/\j < L.2))/\xs.length<=c/\l.toList.take _=xs from N.at hi
  obtain ⟨B,ab,ap,f,S⟩:=AA6 El.hi
  have au:=(U9.1 O).1
  obtain ⟨a,rfl⟩:∃ a,A2=some a:=by
   obtain ⟨ad,h,_⟩:=y w N 0 _ (E1 an)
   exact ⟨ad,h⟩
  have p:∀ j u,news[j]?=some u->w.cell? _=some u:=λj u q=>by
   obtain ⟨ad,h,hc⟩:=y w N j u q
   injection h with h
   subst h
   exact hc
  have T:∀ r w',(Builtin.append_ #[t,t] o.type #[.slice (some ⟨b,0,none⟩) xs.length c,.slice (some a) news.length H]).run P w = .ok r w'->(execOp (evE E) o).run P w = .ok (.value r) w':=λr w' D=>by
   unfold execOp
   simp only [ho,resolve,invoke,builtin,P5,T9,J3,Z1,X4,Y8,cU hs,cU hx,D]
  have hS:Src P B.size t (.slice (some a) news.length H) news.length news w:=by
   refine ⟨.inl ⟨e,El.ht⟩,λ_=>I,?_,?_,by rw [f,X1],h1⟩
   .rw [f]; exact AEc w 1 _ a _ H news (by rw [X1]) p
   .rw [f]; exact AEc _ 1 _ a _ H news (by rw [X1]) p
  rcases W4 c (xs.length+news.length) with X | A
  .have af:(Builtin.firstCells B.size xs.length (.slice (some ⟨b,0,none⟩) xs.length c)).run P w.drew = .ok xs.toArray w.drew:=by
    rw [f]
    refine AEc _ 1 _ _ _ c xs (by rw [X1]) λj u q=>?_
    rw [kB,K7]
    show w.cell? _=_
    simp [World.cell?,O,Iq ah j u q]
   have D:=run_append_grow_src w t t o.type e B z El.ht ab ap _ _ c xs af _ _ news hS X U (by
    rw [S]
    exact growslice_fits X U)
   have ar:=AH2 w (xs.length+news.length) c e
   refine ⟨_,_,_,T _ _ D,?_,h _ _⟩
   refine N.swap i hi (((Fr.refl _ _).drew).alloc _) ⟨_,_,ABa w.drew _,?_,λj _ h=>by omega,by rw [C3]; omega,?_⟩ (λk hk=>.inr (by simp [mU] at hk; omega)) (by simp [mU])
   .rw [Array.size_append,size_zeroCells,El.hz,X1,List.size_toArray,C3]
    omega
   .rw [Array.toList_append,Z5 si,U2 si]
  .have aj:∀ j,j < news.length->(w.cell? ⟨b,0+xs.length*B.size+j,none⟩).isSome=true:=λj q=>by
    rw [f]
    simp [World.cell?,O]
    omega
   have ak:∀ j,j < news.length->w.frozen? ⟨b,0+xs.length*B.size+j,none⟩=false:=λj q=>by
    have:=W (0+xs.length*B.size+j) (by rw [f]; omega)
    simp [World.frozen?,O]
    omega
   have D:=run_append_room_src w t t o.type e B El.ht ab b 0 _ c _ _ news hS A aj ak
   rw [f,X1,K7] at D
   obtain ⟨l',h2,_,h4,h5,h6⟩:=Po b e L news xs.length l w O U
   refine ⟨_,_,_,T _ _ D,N.swap i hi (c':=mU b e c (xs++news)) h6 ⟨l',L,h2,U,W,by rw [C3]; omega,s6 λj=>?_⟩ (λk hk=>.inl hk) (by simp [mU]),h _ _⟩
   rcases W4 j (xs++news).length with q | q
   .rw [List.getElem?_take,P1 q,AB1]
    rcases W4 j xs.length with g | g
    .rw [R1 g,h5 j g,E1 g]
     refine Iq ah j _ (E1 g)
    .have ae:j - xs.length < news.length:=by rw [C3] at q; omega
     rw [T8 g,E1 ae]
     have:=h4 _ _ (E1 ae)
     rwa [show xs.length+(j - xs.length)=j by omega] at this
   .rw [Y7 q,Y7 (by rw [I8]; omega)]
theorem ZI{b c:Nat}{e:Υ}(h:(mU b e c xs).holds w):aI w (some ⟨b,0,none⟩) xs:=λj v g=>by
 obtain ⟨l,i,a,_,_,_,f⟩:=h
 exact ⟨b,0,I,(U9.1 a).1,by rw [K7]; simp [World.cell?,a,Iq f j v g]⟩
end
end
theorem ZJ(h:iO D=none)(a:D.length<=1048576):mR D=false:=by
 grind [Ob]
theorem ZK(b c xs A1 j t w)(m:cC [mU b 5 c (B8 xs)] w)(q:Rf [mU b 5 c (B8 xs)] w (λw=>aI w A1 (B8 t)))(u:xs.length<=1000000)(s:t.length<=1000000)(p:0 < t.length):
  Θ 30 #[(V (qa b) xs c),(V A1 t j)] w λe r=>∃ (b2 g:Nat),e = .returned (V (qa b2) (xs++aE t.length++t) g)/\aN [mU b 5 c (B8 xs)] w [mU b2 5 g (B8 (xs++aE t.length++t))] r:=by
 refine bS Tryz.func30 13 (m) I<|Nc<|G I<|Nf ?_
 have o:=eY t.length U
 have n:=lV t.length
 exact aF<|G rfl<|M (B4 t)<|lw _ (iQ _ (λ_=>J) I I (kV U U))<|R<|dC (λw a=>Bt _ w (mP U)) λB9 l=>R<|Pp gS 0 rfl rfl J rfl rfl rfl (eX _) (eX _) (λw a=>eN.gJ (fM (i:=1) I w a)) (iP _) (by omega) U _ (by grind) _ (nO _ _).symm (λh k=>G I<|R<|Pp gS 0 rfl rfl J rfl rfl rfl (eX _) (eX _) (λw a=>eN.gJ (q.now a)) (iP _) (by grind) U ((xs++aE t.length++t).length) (by grind) _ (nO _ _).symm (λd f=>G I<|Nd<|sN [_] λw a=>⟨d,f,I,(a.pick [0] I I)⟩))
theorem ZL(A c its fan leaf NA k N OA l O A1 d D w)(_:Rf [] w (λw=>aI w A (SS its)))(s:Rf [] w (λw=>aI w A1 (B8 D)))(_:dD its)(_:its.length<=40)(_:2<=fan)(_:fan<=16)(_:1<=leaf)(_:leaf<=64)(y:D.length<=1048576)(z:D.length<=d)(a:D≠[])(f:iO D=none):
  Θ 45 #[(.agg #[(V A its c),(Y fan),(Y leaf),(V NA (aH [] N) k),(V OA (aH [] O) l)]),(V A1 D d)] w λe n=>e = .returned (.tuple #[(.agg #[(V A its c),(Y fan),(Y leaf),(V NA (aH [] N) k),(V OA (aH [] O) l)]),nS,(C 3)])/\aN [] w [] n:=by
 refine bS Tryz.func45 145 (B3 w) rfl<|Nc<|R<|pB _ λt=>R<|pA [nS,(C 0),(C 0),nS,nS] λu=>G I<|Ne<|G rfl<|M (Y D.length)<|M (.bool ((((D.length:Nat):Int):Int) == 0))<|Na<|fD rfl (by have x:=ACc.2 a; simp; exact a)<|Ni<|G rfl<|R<|iR (λw b=>(Pg A1 d D w (s.aX b) ag ag).mono ?_)
 rintro e n ⟨RX23,i,m,LX23,rfl,j,g,h⟩
 refine ⟨_,_,I,j,?_⟩; clear j b
 exact G I<|Ne<|G rfl<|M (.bool (!(mR D)))<|Na<|lG rfl (by rw [ZJ f U]; rfl)<|Nc<|lW (zr 0 rfl)<|R<|zu 1 rfl<|G rfl<|Nh<|dL [_,nS,_] rfl ⟨rz 1 rfl,rfl,rfl,trivial⟩ (λw b=>⟨I,(b.pick [] I I)⟩)
end Go.Proofs.YtkjnecaieiaijaaGreatDoor
