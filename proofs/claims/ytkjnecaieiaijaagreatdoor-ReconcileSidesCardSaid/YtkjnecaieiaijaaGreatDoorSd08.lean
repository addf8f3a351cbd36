/- Part 8 of a proof: what its row uses. -/
import Derived.Test.YtkjnecaieiaijaaGreatDoorSd07
set_option maxRecDepth 100000
set_option maxHeartbeats 1000000
namespace Go.Proofs.YtkjnecaieiaijaaGreatDoor
open Go.RowKit
variable {A:Δ}{AD:Δ}{AM:Δ}{AN:Δ}{AO:Δ}{B:Δ}{D:Bs}{F:List Nat}{H:Type}{NA:Δ}{OA:Δ}{P:Program}{S:List Γ}{T:List Γ}{W:Λ}{W':Λ}{a:Addr}{b:Nat}{base:Nat}{before:List MemPlace}{bg:Bool}{c:Nat}{cD:Nat}{cM:Nat}{cN:Nat}{cO:Nat}{cs:Ξ}{dn:Bool}{e:Υ}{f:Nat}{fs:Array Field}{fuel:Nat}{gt:Nat}{held:Bool}{i:Nat}{its:List Bs}{j:Nat}{k:Nat}{l:List Nat}{m:Ω}{m2:List AP}{n:Nat}{nc:Nat}{needs:List Bs}{o:Nat}{oc:Nat}{offs:List Bs}{p:List MemPlace}{ps:List MemPlace}{q:Rd}{rc:Bool}{s:ChangeSpec}{sn:Nat}{spare:Nat->Bool}{t:Υ}{tb:Υ}{ti:Υ}{tn:Υ}{u:Nat}{w:Λ}{w':Λ}{w0:Λ}{x2:Sd}{y:Sd}{y2:Sd}{z:Int}{z2:Int}{d:DataW H}{ds:List (DataW H)}{gs:List (DataW H)}
section
theorem ZM(b:(Rd.mk D 0 0 0).uint=(u,q))(c:u=0\/5 < u):∃ a f,aS D false 5=(0,a,f):=by
 rcases zS b with ⟨a,h,d,-⟩ | ⟨a,h,-⟩
 .obtain rfl:u=0:=U
  exact ⟨a,_,h⟩
 .exact ⟨a,_,h⟩
theorem ZN(h:(!(needs.all λx=>its.contains x == false))=true):iX its needs offs=false:=by
 rw [zX,show (needs.all _)=false by simpa only [AC5] using h,Bool.and_false]
theorem ZO(h:(!(offs.all λx=>its.contains x == true))=true):iX its needs offs=false:=by
 rw [zX,show (offs.all _)=false by simpa only [AC5] using h,Bool.false_and]
def sW(A:Option Addr)(c:Nat)(its:List Bs)(bg:Bool)(NA:Option Addr)(nc:Nat)(S:List Bs)(OA:Option Addr)(oc:Nat)(T:List Bs)(m:Value)(k gt:Nat)(dn:Bool):List Value :=
 [.slice A its.length c,.bool bg,.slice A its.length c,Y 4,Y 4,.slice NA (aH [] S).length nc,.slice OA (aH [] T).length oc,.slice NA (aH [] S).length nc,.slice OA (aH [] T).length oc,m,Y k,Y gt,.bool dn,.bool false]
theorem gV{S:List Bs}{T:List Bs}(h:m.oneCell'=true):∀ v∈sW A c its bg NA nc S OA oc T m k gt dn,v.oneCell'=true:=by
 simp only [sW,T0,U7,k4,X8,z6]
 exact ⟨I,I,I,I,I,I,I,I,I,h,I,I,I,I⟩
def Pq(A:Option Addr)(c:Nat)(its:List (List UInt8))(bg:Bool)(NA:Option Addr)(nc:Nat)(S:List (List UInt8))(OA:Option Addr)(oc:Nat)(T:List (List UInt8))(k:Nat)(rc:Bool)(dn:Bool)(_:Nat)(_:Option Addr)(_:Nat)(D:List UInt8)(w:World)(e:Ending)(w':World):Prop:=∃ (x2:Sd) (z:Int) (NA2:Option Addr) (nc2:Nat) (OA2:Option Addr) (oc2:Nat) (AN2:Option Addr) (cN2:Nat) (AO2:Option Addr) (cO2:Nat) (AM2:Option Addr) (cM2:Nat) (gt2:Nat),e = .returned (.tuple #[(qN A c its bg x2 NA2 nc2 OA2 oc2 AN2 cN2 AO2 cO2 AM2 cM2 k gt2),(.int .i64 z)]) /\ aN [cS NA (aH [] S) nc,cS OA (aH [] T) oc] w [cS NA2 (aH [] x2.S) nc2,cS OA2 (aH [] x2.T) oc2,bI AN2 (SS x2.needs),bI AO2 (SS x2.offs),bI AM2 (B8 x2.m)] w' /\ (lA its bg (Sd.mk 2 k [] rc dn false [] [] S T) D x2 z) /\ (gt2=0↔x2.rc=false)
def pW(A:Option Addr)(c:Nat)(its:List (List UInt8))(bg:Bool)(NA:Option Addr)(nc:Nat)(S:List (List UInt8))(OA:Option Addr)(oc:Nat)(T:List (List UInt8))(k:Nat)(rc:Bool)(dn:Bool)(gt:Nat)(AD:Option Addr)(cD:Nat)(D:List UInt8)(w:World):Prop:=cC [cS NA (aH [] S) nc,cS OA (aH [] T) oc] w -> Rf [cS NA (aH [] S) nc,cS OA (aH [] T) oc] w (λw=>aI w A (SS its)) -> Rf [cS NA (aH [] S) nc,cS OA (aH [] T) oc] w (λw=>aI w AD (B8 D)) -> (dD its) -> (its.length <= 40) -> (D.length <= 20000) -> (D.length <= cD) -> (gt=0↔rc=false) -> ((aH [] S).length <= 20000) -> ((aH [] T).length <= 1000) -> Calls Tryz.prog 11 #[(.agg #[(V A its c),(.bool bg),(V A its c),(Y 4),(Y 4),(V NA (aH [] S) nc),(V OA (aH [] T) oc),(V NA (aH [] S) nc),(V OA (aH [] T) oc),(.slice none 0 0),(Y k),(Y gt),(.bool dn),(.bool false)]),(V AD D cD)] w (Pq A c its bg NA nc S OA oc T k rc dn gt AD cD D w)
theorem jJ{its:List Γ}{D:Γ}(b:Mm w (yD [cS NA (aH [] S) nc,cS OA (aH [] T) oc]) [cS NA (aH [] S) nc,cS OA (aH [] T) oc] w')(d:lA its bg (Sd.mk 2 k [] rc dn false [] [] S T) D (Sd.mk 2 k [] rc dn false [] [] S T) 3)(a:gt=0↔rc=false):Pq A c its bg NA nc S OA oc T k rc dn gt AD cD D w (.returned (.tuple #[.agg (sW A c its bg NA nc S OA oc T nS k gt dn).toArray,C 3])) w' :=
 ⟨(Sd.mk 2 k [] rc dn false [] [] S T),3,NA,nc,OA,oc,none,0,none,0,none,0,gt,I,((b.fF none).fF none).fF none,d,a⟩
section
variable {A:Option Addr}{c:Nat}{its:List (List UInt8)}{bg:Bool}{NA:Option Addr}{nc:Nat}{S:List (List UInt8)}{OA:Option Addr}{oc:Nat}{T:List (List UInt8)}{k:Nat}{rc:Bool}{dn:Bool}{gt:Nat}{AD:Option Addr}{cD:Nat}{D:List UInt8}{w:World}
abbrev E5(a:List UInt8):Value:=.bool (decide (((a.length:Nat):Int) > 0))
theorem ZP(hu:(Rd.mk D 0 0 0).uint=(1,q)):pW A c its bg NA nc S OA oc T k rc dn gt AD cD D w:=by
 unfold pW
 intro hO r0 r1 hs ba hD az p bb bc
 refine bS AB6 282 (hO) I<|aT ?_
 have a3:cZ AD D AD D cD:=⟨λw h=>h,az,J7 _⟩
 refine aF<|R<|pB (sW A c its bg NA nc S OA oc T nS k gt dn) λW=>R<|pA qt λb4=>G I<|Ne<|M (Z W 9)<|lL 2 rfl<|lF<|G rfl<|lg (Z W 13)<|lu bF (bW 2 rfl rfl J rfl rfl)<|lF<|Nn<|aF<|G rfl<|M (J4 AD D cD)<|R<|pB _ λg=>G I<|Nb<|G I<|R ?_
 refine iS [4] (λw a hO=>tF g AD D AD cD D false 5 w hO (r1.bJ a [4]) (a3) U U) λA235 u E=>G I<|Nf ?_
 refine xd ?_
 obtain ⟨o,ab,-,hq,be⟩:=(zS hu).resolve_right λ⟨_,_,h⟩=>by omega
 rw [show (aS D _ 5).1=1 from by rw [ab]]
 rw [show (aS D _ 5).2.1=o from by rw [ab]]
 rw [show (aS D _ 5).2.2=false from by rw [ab]]
 replace E:cZ AD D A235 o u:=by have b:cZ AD D A235 _ u:=E; rw [ab] at b; exact b
 refine aF<|lW (rA 2 _)<|R<|pA qt λb8=>R<|zv 5 I (gV I) ?_
 refine Nb<|G I<|M (Z b8 11)<|R<|qs 5 I (T2 I) ?_
 refine Nf<|fY<|Nc<|G I<|lT<|G I<|lg (Z W 1)<|lu _ (bW 2 I I J I I)<|lg (O7 bg)<|M (O7 bg)<|lm ?_
 refine St.dec 47 I (λO=>?_) (λO=>?_)
 .have ao:bg=false:=by simpa using O
  refine lg (Z W 11)<|lu _ (bW 2 I I J I I)<|lg (I6 gt)<|M (I6 gt)<|G I ?_
  refine qi I (λN=>?_) λN=>?_
  .have ar:rc=false:=p.1 (by have b:=N; simp at b; omega)
   refine aT ?_
   refine xd ?_
   rcases f:eS (eE o).1 with _ | Q
   .refine aF<|G rfl<|R<|jO [4] (λw a hO=>tG g AD D A235 u o _ w hO (r1.bJ a [4]) (E) U) λA254 l B54 B r=>?_
    obtain ⟨v,X,f2,s⟩:∃ x y z,eE o=(x,y,z):=⟨_,_,_,I⟩
    rw [show (bQ _ _ _)=v from by show (eE o).1=_; rw [s]]
    rw [show (dM _ _ _)=X from by show (eE o).2.1=_; rw [s]]
    rw [show (dJ _ _ (aS o false 1048576).1)=f2 from by show (eE o).2.2=_; rw [s]]
    replace r:cZ AD D A254 X l:=by have b:cZ AD D A254 (eE o).2.1 l:=r; rw [s] at b; exact b
    have a4:v.length<=1048576:=by have b:=uK o; rw [s] at b; exact b
    have t:=Bz hq U s
    refine St.fact (λw a=>nH (a.at (i:=6) I)) (λad=>?_)
    rw [s] at f
    change eS v=_ at f
    have P:v.length<=20000:=by rcases t with ⟨_,_,_,b⟩ | ⟨_,b,_⟩ <;> first | omega | (rw [b]; simp)
    refine R<|gT (λw a=>Zf B54 B v w (a.aR (j:=6) I (λ_ h=>aI.bM h)) (P) (ad) (f)) λa9=>G I<|Ne<|G I<|M (Z g 0)<|M (Z g 1)<|lL 4 I<|lm ?_
    refine St.dec 62 I (λd=>?_) (λd=>?_)
    .refine G I<|lT<|G I<|lT<|No<|lW (rA 2 _)<|R<|zv 3 I (gV I) ?_
     exact G I<|Nh<|eL<|cJ<|dL [_,(C 3)] rfl ⟨rz 3 rfl,rfl,trivial⟩ (λw a=>jJ (a.pick [0,1] I I) (.bad I hu (λ_=>.inr (.inr (.inr (t.resolve_left (λh=>by have H:=h.1; rw [H] at d; simp at d)).2.2))) nofun nofun nofun nofun) p)
    .have ae:f2=false:=by simpa using d
     obtain ⟨-,hv,af,aw⟩:=t.resolve_right (λh=>by have H:=h.1; rw [ae] at H; cases H)
     refine G I<|lg bT<|lT<|G I<|lT<|No<|lW (rA 2 _)<|R<|zv 3 I (gV I) ?_
     exact G I<|Nh<|eL<|cJ<|dL [_,_] rfl ⟨rz 3 rfl,rfl,trivial⟩ (λw a=>jJ (a.pick [0,1] I I) (.bad I hu (λ_=>.inr (.inr (.inl (by rw [<- hv]; exact f)))) nofun nofun nofun nofun) p)
   .refine St.to [cS NA (aH [] S) nc,cS OA (aH [] T) oc,aD W 37 (sW A c its bg NA nc S OA oc T nS k gt dn),aD b4 37 qt,aD g 80 [_,bF],aD b8 37 (sW A c its bg NA nc S OA oc T nS k 1 dn)] J<|aF<|G rfl<|R<|jO [4] (λw a hO=>tG g AD D A235 u o _ w hO (r1.bJ a [4]) (E) U) λA254 l B54 B r=>?_
    obtain ⟨v,X,f2,s⟩:∃ x y z,eE o=(x,y,z):=⟨_,_,_,I⟩
    rw [show (bQ _ _ _)=v from by show (eE o).1=_; rw [s]]
    rw [show (dM _ _ _)=X from by show (eE o).2.1=_; rw [s]]
    rw [show (dJ _ _ (aS o false 1048576).1)=f2 from by show (eE o).2.2=_; rw [s]]
    replace r:cZ AD D A254 X l:=by have b:cZ AD D A254 (eE o).2.1 l:=r; rw [s] at b; exact b
    have a4:v.length<=1048576:=by have b:=uK o; rw [s] at b; exact b
    have t:=Bz hq U s
    refine St.fact (λw a=>nH (a.at (i:=6) I)) (λad=>?_)
    rw [s] at f
    change eS v=_ at f
    have P:v.length<=20000:=by rcases t with ⟨_,_,_,b⟩ | ⟨_,b,_⟩ <;> first | omega | (rw [b]; simp)
    refine R<|Cj (λw a=>Zg B54 B v Q w (a.aR (j:=6) I (λ_ h=>aI.bM h)) (P) (ad) (f)) λB55 K Xs55 a8=>G I<|Ne<|G I<|M (Z g 0)<|M (Z g 1)<|lL 4 I<|lm ?_
    refine St.dec 62 I (λd=>?_) (λd=>?_)
    .refine G I<|lT<|G I<|lT<|No<|lW (rA 2 _)<|R<|zv 3 I (gV I) ?_
     exact G I<|Nh<|eL<|cJ<|dL [_,(C 3)] rfl ⟨rz 3 rfl,rfl,trivial⟩ (λw a=>jJ (a.pick [0,1] I I) (.bad I hu (λ_=>.inr (.inr (.inr (t.resolve_left (λh=>by have H:=h.1; rw [H] at d; simp at d)).2.2))) nofun nofun nofun nofun) p)
    .have ae:f2=false:=by simpa using d
     obtain ⟨-,hv,af,aw⟩:=t.resolve_right (λh=>by have H:=h.1; rw [ae] at H; cases H)
     refine G I<|lg bF<|lF<|G I<|lg (Z g 0)<|lg (Z g 0)<|lu _ (bW 4 I I J I I)<|lg (B4 X)<|lg (E5 X)<|M (E5 X) ?_
     refine qi I (λm=>?_) λm=>?_
     .have ap:=D4 m
      refine Nc<|lW (rA 2 _)<|R<|zv 3 I (gV I) ?_
      exact G I<|Nh<|eL<|cJ<|dL [_,_] rfl ⟨rz 3 rfl,rfl,trivial⟩ (λw a=>jJ (a.pick [0,1] I I) (.bad I hu (λ_=>.inr (.inr (.inr (λe=>by have b:=(tH af).1 e; rw [b] at m; simp at m)))) nofun nofun nofun nofun) p)
     .have ap:=C7 m
      have a2:X=[]:=L1 (by have b:=m; simp at b; simp [b])
      have he:q.rest.2.end_=0:=(tH af).2 a2
      refine Nl ?_
      refine xd ?_
      rcases W4 500 (iA Q (bO its)) with F | F
      .have ah:eS q.rest.1=some Q:=by rw [<- hv]; exact f
       refine aF<|G rfl<|M (Z W 0)<|lL 2 rfl<|R<|Cj (λw a=>Ia A c its w (r0.aX a) (hs.1) U) λB79 L Xs79 aq=>R<|bV (λw a=>OJ B55 K Xs55 Q B79 L Xs79 (bO its) w (a.aR (j:=7) I (λ_ h=>DN h)) (a.aR (j:=9) I (λ_ h=>DN h)) (a.aR (j:=8) I η) (a.aR (j:=10) I η) ((oV f).2) ((oV f).1) ag (nA hs.1) (mA its) ag)<|R<|bV (λw a=>YG (iA Q (bO its)) w (F))<|G rfl<|Ne<|G rfl<|lT<|No<|lW (rA 5 (sW A c its bg NA nc S OA oc T nS k 1 dn))<|R<|dC (λw a=>BD A c its bg NA nc S OA oc T (F7 NA S nc) (F7 OA T oc) k 1 dn nS false w (r0.aX a) ag ag (I) (I) (I)) λAM87 ak=>R<|zv 3 I (gV I) ?_
       exact G I<|Nh<|eL<|cJ<|dL [_,_] rfl ⟨rz 3 rfl,rfl,trivial⟩ (λw a=>⟨_,0,NA,nc,OA,oc,none,0,none,0,AM87,ak,1,I,((((a).fF none).fF none).lM 11 I).pick [0,1,12,13,11] I I,.rng I hu ao ar ah he F,si⟩)
      .have ah:eS q.rest.1=some Q:=by rw [<- hv]; exact f
       obtain ⟨n,au,hz⟩:=Ye F
       have bf:=(jQ hz).2.1
       refine St.to [cS NA (aH [] S) nc,cS OA (aH [] T) oc,aD W 37 (sW A c its bg NA nc S OA oc T nS k gt dn),aD b4 37 qt,aD g 80 [(V A254 X l),(.bool f2)],aD b8 37 (sW A c its bg NA nc S OA oc T nS k 1 dn),cB B54 v B,bD 95 2 B55 ((dR Xs55).length) (K) (TQ (dR Xs55)),mE Xs55 Q] J<|aF<|G rfl<|M (Z W 0)<|lL 2 rfl<|R<|Cj (λw a=>Ia A c its w (r0.aX a) (hs.1) U) λB79 L Xs79 aq=>R<|bV (λw a=>OJ B55 K Xs55 Q B79 L Xs79 (bO its) w (a.aR (j:=7) I (λ_ h=>DN h)) (a.aR (j:=9) I (λ_ h=>DN h)) (a.aR (j:=8) I η) (a.aR (j:=10) I η) ((oV f).2) ((oV f).1) ag (nA hs.1) (mA its) ag)<|R<|bV (λw a=>YF (iA Q (bO its)) w (F)) ?_
       rw [show kW ((iA Q (bO its)+iA Q (bO its) / 2:Nat))=((n:Nat)) from au]
       refine G I<|Ne<|G rfl<|lF<|Nn<|aF<|M (Z W 0)<|lL 2 rfl<|R<|bV (λw a=>yZ A c its w (r0.aX a) U (by have b:=AF ⟨U,hs⟩; omega))<|R<|ZH (e:=5) rfl rfl J J J J rfl (λax ay=>G I<|Nf ?_)
       refine xd ?_
       have a0:(fZ its n).enc.length<=200000:=wP (rI hs.1 n) (by rw [jW]; omega) _
       change (fK (BT.new n 0) its).enc.length<=200000 at a0
       have bd:(eI its).length=32:=uO _
       refine aF<|G rfl<|M (Z W 0)<|lL 2 rfl<|G rfl<|R<|gT (λw a=>Bu A c its n 0 w (r0.aX a) (hz) (by unfold dA; decide) (hs.1) U) λX96=>R<|dC (λw a=>OD X96 (fK (BT.new n 0) its) n 0 w (a.aR (j:=12) I η) (jW its n) (zC its n)) λB97 an=>R<|iI [11] (λw a hO=>ZK ax ay (eI its) B97 an ((fK (BT.new n 0) its).enc) w hO (a.fX [11] (j:=13) I (λ_ h=>aI.bM h)) U U (by have H:=lV n; have b:=lV 0; have h7:(fK (BT.new n 0) its).enc=fW (fK (BT.new n 0) its) (fK (BT.new n 0) its).cells.length:=I; rw [h7]; unfold fW; simp only [List.length_append]; have h6:=lV (fK (BT.new n 0) its).cells.length; omega)) λai aj=>R<|dC (λw a=>zU 2 (qa ai) aj (eI its++aE (fK (BT.new n 0) its).enc.length++(fK (BT.new n 0) its).enc) w (a.aR (j:=11) I (λ_ h=>ZI h)) U (by have b:=eY (fK (BT.new n 0) its).enc.length U; simp only [List.length_append]; omega)) λB99 a5=>?_
       rw [show aE 2++(eI its++aE (fK (BT.new n 0) its).enc.length++(fK (BT.new n 0) its).enc)=fO its n from by show _=aE 2++(eI its++(aE (fK (BT.new n 0) its).enc.length++(fK (BT.new n 0) its).enc)); rw [D1]]
       refine M (Z b8 9)<|R<|qs 5 I (T2 I) ?_
       refine Nf ?_
       refine xd ?_
       refine aF<|lW (rA 5 _)<|R<|zv 3 I (gV I) ?_
       exact G I<|Nd<|eL<|cJ<|dL [_,_] rfl ⟨rz 3 rfl,rfl,trivial⟩ (λw a=>⟨_,0,NA,nc,OA,oc,_,0,_,0,B99,_,1,I,((((a).fF none).fF none).lM 14 I).pick [0,1,15,16,14] I I,.tab I hu ao ar ah he F au hz,si⟩)
  .refine Nc<|G I<|lF<|G I<|lF<|G I<|lF<|G I<|Np<|aF<|G I<|lF<|G I<|lF<|G I<|Np<|aF<|G I<|lF<|G I<|lF<|G I<|Np<|aF ?_
   refine G I<|lF<|G I<|lF<|G I<|lF<|G I<|lF<|G I<|Nu<|Nw<|Nc<|lW (rA 2 _)<|R<|zv 3 I (gV I) ?_
   exact G I<|Nd<|dL [_,_] rfl ⟨rz 3 rfl,rfl,trivial⟩ (λw a=>jJ (a.pick [0,1] I I) (.bad I hu (λ_=>.inr (.inl (Oq p (by have H:=N; simp at H; omega)))) nofun nofun nofun nofun) p)
 .refine G I<|lF<|G I<|Np<|aF<|G I<|lF<|G I<|lF<|G I<|lF<|G I<|Np<|aF<|G I<|lF<|G I<|lF<|G I<|Np<|aF<|G I<|lF<|G I ?_
  refine lF<|G I<|Np<|aF<|G I<|lF<|G I<|lF<|G I<|lF<|G I<|lF<|G I<|Nu<|Nw<|Nc<|lW (rA 2 _)<|R<|zv 3 I (gV I) ?_
  exact G I<|Nd<|dL [_,_] rfl ⟨rz 3 rfl,rfl,trivial⟩ (λw a=>jJ (a.pick [0,1] I I) (.bad I hu (λ_=>.inl (su O)) nofun nofun nofun nofun) p)
theorem ZQ(hu:(Rd.mk D 0 0 0).uint=(2,q)):pW A c its bg NA nc S OA oc T k rc dn gt AD cD D w:=by
 unfold pW
 intro Q r0 r1 hs ax hD bc F bi bj
 refine bS AB6 282 (Q) I<|aT ?_
 have be:cZ AD D AD D cD:=⟨λw h=>h,bc,J7 _⟩
 refine aF<|R<|pB (sW A c its bg NA nc S OA oc T nS k gt dn) λb2=>R<|pA qt λb4=>G I<|Ne<|M (Z b2 9)<|lL 2 rfl<|lF<|G rfl<|lg (Z b2 13)<|lu bF (bW 2 rfl rfl J rfl rfl)<|lF<|Nn<|aF<|G rfl<|M (J4 AD D cD)<|R<|pB _ λg=>G I<|Nb<|G I<|R ?_
 refine iS [4] (λw a Q=>tF g AD D AD cD D _ 5 w Q (r1.bJ a [4]) (be) U U) λA235 L N=>G I<|Nf ?_
 refine xd ?_
 obtain ⟨m,ah,-,hq,bl⟩:=(zS hu).resolve_right λ⟨_,_,h⟩=>by omega
 rw [show (aS D _ 5).1=2 from by rw [ah]]
 rw [show (aS D _ 5).2.1=m from by rw [ah]]
 rw [show (aS D _ 5).2.2=false from by rw [ah]]
 replace N:cZ AD D A235 m L:=by have d:cZ AD D A235 _ L:=N; rw [ah] at d; exact d
 refine aF<|lW (rA 2 _)<|R<|pA qt λb8=>R<|zv 5 I (gV I) ?_
 refine Nb<|G I<|M (Z b8 11)<|R<|qs 5 I (T2 I) ?_
 refine Nf<|fY<|Nc<|G I<|lF<|G I<|lF<|G I<|lF<|G I<|Np<|aF<|G I<|lT<|G I<|lg (Z b2 10)<|lu _ (bW 2 I I J I I)<|lg (I4 k)<|M (I4 k)<|lm ?_
 refine St.dec 110 I (λX=>?_) (λX=>?_)
 .have ay:k=1:=by have d:=X; simp at d; omega
  refine lg (Z b2 11)<|lu _ (bW 2 I I J I I)<|lg (I6 gt)<|M (I6 gt)<|G I ?_
  refine qi I (λW=>?_) λW=>?_
  .have az:rc=false:=F.1 (by have d:=W; simp at d; omega)
   refine aT ?_
   refine xd ?_
   rcases Ik hq with ⟨ad,ai,a2⟩ | ⟨ad,ai⟩
   .rcases p:eZ (eE (m.drop 32)).1 with _ | t
    .refine aF<|G rfl<|R<|jO [4] (λw a Q=>xL g AD D A235 L m _ 32 w Q (r1.bJ a [4]) (N) U U) λA2116 r B116 af b=>?_
     have l:=Pa ad
     rw [show (bQ m _ 32)=q.sum.1 from by rw [l.1]; exact ai.symm]
     rw [show (dM m _ 32)=(m.drop 32) from by rw [l.2.1]]
     rw [show (dJ m _ 32)=false from by rw [l.2.2]]
     replace b:cZ AD D A2116 (m.drop 32) r:=by have d:cZ AD D _ _ _:=b; rw [l.2.1] at d; exact d
     have aw:(m.drop 32).length<=20000:=by rw [Q7]; omega
     refine lw (vS _) (kM (e:=5) _ I J J J I I (λw a=>fM (i:=6) I w a))<|G rfl<|Nb<|G rfl<|R<|jO [4] (λw a Q=>tG g AD D _ _ _ _ w Q (r1.bJ a [4]) (b) U) λA2120 s B120 u o=>?_
     obtain ⟨v,l2,f2,P⟩:∃ x y z,eE (m.drop 32)=(x,y,z):=⟨_,_,_,I⟩
     rw [show (bQ _ _ _)=v from by show (eE _).1=_; rw [P]]
     rw [show (dM _ _ _)=l2 from by show (eE _).2.1=_; rw [P]]
     rw [show (dJ _ _ _)=f2 from by show (eE _).2.2=_; rw [P]]
     replace o:cZ AD D A2120 l2 s:=by have d:cZ AD D _ (eE _).2.1 s:=o; rw [P] at d; exact d
     have bf:v.length<=1048576:=by have d:=uK (m.drop 32); rw [P] at d; exact d
     have K:=Bz a2 U P
     refine St.fact (λw a=>nH (a.at (i:=7) I)) (λao=>?_)
     rw [P] at p
     change eZ v=_ at p
     have a5:v.length<=20000:=by rcases K with ⟨_,_,_,d⟩ | ⟨_,d,_⟩ <;> first | omega | (rw [d]; simp)
     refine R<|qZ (λw a=>DR B120 u v w (a.aR (j:=7) I (λ_ h=>aI.bM h)) U (ao) (p)) λE Ag121 O an=>G I<|R<|pA C1 λaj=>R<|zv 8 I (by simp [Value.oneCell']) ?_
     refine G I<|Nf<|aT ?_
     refine xd ?_
     refine aF<|G I<|M (Z g 0)<|M (Z g 1)<|lL 4 I<|lm ?_
     refine St.dec 128 I (λf=>?_) (λf=>?_)
     .refine G I<|lT<|G I<|lT<|G I<|lT<|No<|lW (rA 2 _)<|R<|zv 3 I (gV I) ?_
      exact G I<|Nh<|eL<|cJ<|dL [_,(C 3)] rfl ⟨rz 3 rfl,rfl,trivial⟩ (λw a=>jJ (a.pick [0,1] I I) (.bad I hu nofun (λ_=>.inr (.inr (.inl (K.resolve_left (λh=>by have h8:=h.1; rw [h8] at f; simp at f)).2.2))) nofun nofun nofun) F)
     .have aq:f2=false:=by simpa using f
      obtain ⟨-,hv,ar,a8⟩:=K.resolve_right (λh=>by have h8:=h.1; rw [aq] at h8; cases h8)
      refine G I<|lg bT<|lT<|G I<|lT<|G I<|lT<|No<|lW (rA 2 _)<|R<|zv 3 I (gV I) ?_
      exact G I<|Nh<|eL<|cJ<|dL [_,_] rfl ⟨rz 3 rfl,rfl,trivial⟩ (λw a=>jJ (a.pick [0,1] I I) (.bad I hu nofun (λ_=>.inr (.inr (.inr λt' ht=>by rw [<- hv,p] at ht; cases ht))) nofun nofun nofun) F)
    .refine aF<|G rfl<|R<|jO [4] (λw a Q=>xL g AD D A235 L m _ 32 w Q (r1.bJ a [4]) (N) U U) λA2116 r B116 af b=>?_
     have l:=Pa ad
     rw [show (bQ m _ 32)=q.sum.1 from by rw [l.1]; exact ai.symm]
     rw [show (dM m _ 32)=(m.drop 32) from by rw [l.2.1]]
     rw [show (dJ m _ 32)=false from by rw [l.2.2]]
     replace b:cZ AD D A2116 (m.drop 32) r:=by have d:cZ AD D _ _ _:=b; rw [l.2.1] at d; exact d
     have aw:(m.drop 32).length<=20000:=by rw [Q7]; omega
     refine lw (vS _) (kM (e:=5) _ I J J J I I (λw a=>fM (i:=6) I w a))<|G rfl<|Nb<|G rfl<|R<|jO [4] (λw a Q=>tG g AD D _ _ _ _ w Q (r1.bJ a [4]) (b) U) λA2120 s B120 u o=>?_
     obtain ⟨v,l2,f2,P⟩:∃ x y z,eE (m.drop 32)=(x,y,z):=⟨_,_,_,I⟩
     rw [show (bQ _ _ _)=v from by show (eE _).1=_; rw [P]]
     rw [show (dM _ _ _)=l2 from by show (eE _).2.1=_; rw [P]]
     rw [show (dJ _ _ _)=f2 from by show (eE _).2.2=_; rw [P]]
     replace o:cZ AD D A2120 l2 s:=by have d:cZ AD D _ (eE _).2.1 _:=o; rw [P] at d; exact d
     have bf:v.length<=1048576:=by have d:=uK (m.drop 32); rw [P] at d; exact d
     have K:=Bz a2 U P
     refine St.fact (λw a=>nH (a.at (i:=7) I)) (λao=>?_)
     rw [P] at p
     change eZ v=_ at p
     have a5:v.length<=20000:=by rcases K with ⟨_,_,_,d⟩ | ⟨_,d,_⟩ <;> first | omega | (rw [d]; simp)
     refine R<|uX (λw a=>Ii B120 u v t w (a.aR (j:=7) I (λ_ h=>aI.bM h)) U (ao) (p)) λX121 O E H B=>G I<|R<|pA C1 λaj=>?_
     refine xd ?_
     refine R<|zv 9 I (by simp [Value.oneCell']) ?_
     refine G I<|Ne<|G I<|M (Z g 0)<|M (Z g 1)<|lL 4 I<|lm ?_
     refine St.dec 128 I (λf=>?_) (λf=>?_)
     .refine G I<|lT<|G I<|lT<|G I<|lT<|No<|lW (rA 2 _)<|R<|zv 3 I (gV I) ?_
      exact G I<|Nh<|eL<|cJ<|dL [_,(C 3)] rfl ⟨rz 3 rfl,rfl,trivial⟩ (λw a=>jJ (a.pick [0,1] I I) (.bad I hu nofun (λ_=>.inr (.inr (.inl (K.resolve_left (λh=>by have h8:=h.1; rw [h8] at f; simp at f)).2.2))) nofun nofun nofun) F)
     .have aq:f2=false:=by simpa using f
      obtain ⟨-,hv,ar,a8⟩:=K.resolve_right (λh=>by have h8:=h.1; rw [aq] at h8; cases h8)
      refine G I<|lg bF<|lF<|G I<|lg (Z aj 0)<|lu (vU _) (bW 9 I I J I I)<|lg (F9 E)<|M (F9 E)<|lm ?_
      refine St.dec 137 I (λab=>?_) (λab=>?_)
      .refine G I<|lT<|No<|lW (rA 2 _)<|R<|zv 3 I (gV I) ?_
       exact G I<|Nh<|eL<|cJ<|dL [_,_] rfl ⟨rz 3 rfl,rfl,trivial⟩ (λw a=>jJ (a.pick [0,1] I I) (.bad I hu nofun (λ_=>.inr (.inr (.inr λt' ht=>by rw [<- hv,p] at ht; cases ht; rw [B]; have d:=ab; simp at d; omega))) nofun nofun nofun) F)
      .have ae:E=0:=by have d:=ab; simp at d; omega
       refine G I<|lg (Z g 0)<|lg (Z g 0)<|lu _ (bW 4 I I J I I)<|lg (B4 l2)<|lg (E5 l2)<|M (E5 l2) ?_
       refine qi I (λn=>?_) λn=>?_
       .have ap:=D4 n
        refine Nc<|lW (rA 2 _)<|R<|zv 3 I (gV I) ?_
        exact G I<|Nh<|eL<|cJ<|dL [_,_] rfl ⟨rz 3 rfl,rfl,trivial⟩ (λw a=>jJ (a.pick [0,1] I I) (.bad I hu nofun (λ_=>.inr (.inr (.inl (λe=>by have d:=(tH ar).1 e; rw [d] at n; simp at n)))) nofun nofun nofun) F)
       .have ap:=C7 n
        have bd:l2=[]:=L1 (by have d:=n; simp at d; simp [d])
        have he:q.sum.2.rest.2.end_=0:=(tH ar).2 bd
        refine Nl ?_
        refine xd ?_
        have a4:eZ q.sum.2.rest.1=some t:=by rw [<- hv]; exact p
        obtain ⟨a3,bk⟩:=tC p
        have au:=(tZ p).2
        rw [H] at au
        have a0:O<=600:=by rw [<- H]; omega
        rcases hd:nM its t q.sum.1 with _ | ⟨a9,bh⟩
        .refine aF<|lW (rA 5 (sW A c its bg NA nc S OA oc T nS k 2 dn))<|G rfl<|lW (zr 9 rfl)<|R<|dC (λw a=>ZF A c its bg NA nc S OA oc T (V NA _ nc) (V OA _ oc) k 2 dn nS false X121 t O _ _ w (r0.aX a) (a.aR (j:=8) I η) (hs) (ax) (I) (I) (I) (H) (B) (a3) (au) (a0) (ae) (hd)) λAM149 ak=>R<|zv 3 I (gV I) ?_
         exact G I<|Nd<|eL<|cJ<|dL [_,_] rfl ⟨rz 3 rfl,rfl,trivial⟩ (λw a=>⟨_,0,NA,nc,OA,oc,_,0,_,0,_,_,2,I,((((a).fF none).fF none).lM 10 I).pick [0,1,11,12,10] I I,.dif0 I hu ay az a4 he (B.trans ae) hd,si⟩)
        .refine aF<|lW (rA 5 (sW A c its bg NA nc S OA oc T nS k 2 dn))<|G rfl<|lW (zr 9 rfl)<|R<|iR (λw a=>(ZG A c its bg NA nc S OA oc T (F7 NA S nc) (F7 OA T oc) k 2 dn nS false X121 t O _ _ a9 _ w (r0.aX a) (a.aR (j:=8) I η) (hs) (ax) (I) (I) (I) (H) (B) (a3) (au) (a0) (ae) (hd)).mono ?_)
         rintro e w' ⟨AN149,ba,AO149,bb,AM149,ak,rfl,hP⟩
         refine ⟨_,_,I,hP,?_⟩; clear hP a
         refine R<|zv 3 I (by simp [Value.oneCell']) ?_
         exact G I<|Nd<|eL<|cJ<|dL [_,_] rfl ⟨rz 3 rfl,rfl,trivial⟩ (λw a=>⟨_,0,NA,nc,OA,oc,_,_,_,_,_,_,2,I,((((a).lM 10 I).lM 11 I).lM 12 I).pick [0,1,10,11,12] I I,.dif1 I hu ay az a4 he (B.trans ae) hd,si⟩)
   .refine St.to [cS NA (aH [] S) nc,cS OA (aH [] T) oc,aD b2 37 (sW A c its bg NA nc S OA oc T nS k gt dn),aD b4 37 qt,aD g 80 [_,bF],aD b8 37 (sW A c its bg NA nc S OA oc T nS k 2 dn)] J<|aF<|G rfl<|R<|jO [4] (λw a Q=>xL g AD D A235 L m _ 32 w Q (r1.bJ a [4]) (N) U U) λA2116 r B116 af b=>?_
    have l:=Zp ad
    rw [show (bQ m _ 32)=bG from l.1]
    rw [show (dM m _ 32)=m from by rw [l.2.1]]
    rw [show (dJ m _ 32)=true from by rw [l.2.2]]
    replace b:cZ AD D A2116 m r:=by have d:cZ AD D _ _ _:=b; rw [l.2.1] at d; exact d
    refine lw (vS bG) (kM (e:=5) bG I J J J I I (λw a=>fM (i:=6) I w a))<|G rfl<|Nb<|G rfl<|R<|jO [4] (λw a Q=>tG g AD D _ _ m true w Q (r1.bJ a [4]) (b) U) λA2120 s B120 u o=>?_
    rw [show (bQ _ _ _)=bG from I]
    rw [show (dM _ _ _)=m from I]
    rw [show (dJ _ _ _)=true from I]
    have K:q.sum.2.rest.2.end_≠0:=DT (Zk ai.2).2
    have p:eZ bG=none:=by rfl
    refine R<|qZ (λw a=>DR B120 u bG w (a.aR (j:=7) I (λ_ h=>aI.bM h)) (by decide) (by simp [bG]) (p)) λE Ag121 O an=>G I<|R<|pA C1 λaj=>R<|zv 8 I (by simp [Value.oneCell']) ?_
    refine G I<|Nf<|aT ?_
    refine xd ?_
    refine aF<|G I<|M (Z g 0)<|M (Z g 1)<|lL 4 I<|G I<|lT<|G I<|lT<|G I<|lT<|No<|lW (rA 2 _)<|R<|zv 3 I (gV I) ?_
    exact G I<|Nh<|eL<|cJ<|dL [_,_] rfl ⟨rz 3 rfl,rfl,trivial⟩ (λw a=>jJ (a.pick [0,1] I I) (.bad I hu nofun (λ_=>.inr (.inr (.inl K))) nofun nofun nofun) F)
  .refine Nc<|G I<|lF<|G I<|lF<|G I<|Np<|aF<|G I<|lF<|G I<|lF<|G I<|Np<|aF<|G I<|lF<|G I<|lF<|G I<|lF<|G I<|lF<|G I ?_
   refine Nu<|Nw<|Nc<|lW (rA 2 _)<|R<|zv 3 I (gV I) ?_
   exact G I<|Nd<|dL [_,_] rfl ⟨rz 3 rfl,rfl,trivial⟩ (λw a=>jJ (a.pick [0,1] I I) (.bad I hu nofun (λ_=>.inr (.inl (Oq F (by have h8:=W; simp at h8; omega)))) nofun nofun nofun) F)
 .refine G I<|lF<|G I<|Np<|aF<|G I<|lF<|G I<|lF<|G I<|Np<|aF<|G I<|lF<|G I<|lF<|G I<|Np<|aF<|G I<|lF<|G I<|lF<|G I ?_
  refine lF<|G I<|lF<|G I<|Nu<|Nw<|Nc<|lW (rA 2 _)<|R<|zv 3 I (gV I) ?_
  exact G I<|Nd<|dL [_,_] rfl ⟨rz 3 rfl,rfl,trivial⟩ (λw a=>jJ (a.pick [0,1] I I) (.bad I hu nofun (λ_=>.inl (by show k≠1; have d:=X; simp at d; omega)) nofun nofun nofun) F)
theorem ZR(O:(Rd.mk D 0 0 0).uint=(3,q)):pW A c its bg NA nc S OA oc T k rc dn gt AD cD D w:=by
 unfold pW
 intro E r0 r1 hs F hD aw s a3 a4
 refine bS AB6 282 (E) I<|aT ?_
 have a0:cZ AD D AD D cD:=⟨λw h=>h,aw,J7 _⟩
 refine aF<|R<|pB (sW A c its bg NA nc S OA oc T nS k gt dn) λb2=>R<|pA qt λb4=>G I<|Ne<|M (Z b2 9)<|lL 2 rfl<|lF<|G rfl<|lg (Z b2 13)<|lu bF (bW 2 rfl rfl J rfl rfl)<|lF<|Nn<|aF<|G rfl<|M (J4 AD D cD)<|R<|pB _ λn=>G I<|Nb<|G I<|R ?_
 refine iS [4] (λw a E=>tF n AD D AD cD D _ 5 w E (r1.bJ a [4]) (a0) U U) λA235 r u=>G I<|Nf ?_
 refine xd ?_
 obtain ⟨K,H,-,hq,a5⟩:=(zS O).resolve_right λ⟨_,_,h⟩=>by omega
 rw [show (aS D _ 5).1=3 from by rw [H]]
 rw [show (aS D _ 5).2.1=K from by rw [H]]
 rw [show (aS D _ 5).2.2=false from by rw [H]]
 replace u:cZ AD D A235 K r:=by have b:cZ AD D A235 _ r:=u; rw [H] at b; exact b
 refine aF<|lW (rA 2 _)<|R<|pA qt λW=>R<|zv 5 I (gV I) ?_
 refine Nb<|G I<|M (Z W 11)<|R<|qs 5 I (T2 I) ?_
 refine Nf<|fY<|Nc<|G I<|lF<|G I<|lF<|G I<|lF<|G I<|Np<|aF<|G I<|lF<|G I<|lF<|G I<|lF<|G I<|Np<|aF<|G I<|lT<|G I ?_
 refine lg (Z b2 10)<|lu _ (bW 2 I I J I I)<|lg (F9 k)<|M (F9 k)<|G I ?_
 refine qi I (λm=>?_) λm=>?_
 .have aj:k≠0:=by have b:=m; simp at b; omega
  refine Nc<|G rfl<|R<|jO [4] (λw a E=>tG n AD D A235 r K _ w E (r1.bJ a [4]) (u) U) λA2159 p B159 X t=>?_
  obtain ⟨v,l2,f2,h4⟩:∃ x y z,eE K=(x,y,z):=⟨_,_,_,I⟩
  rw [show (bQ _ _ _)=v from by show (eE K).1=_; rw [h4]]
  rw [show (dM _ _ _)=l2 from by show (eE K).2.1=_; rw [h4]]
  rw [show (dJ _ _ _)=f2 from by show (eE K).2.2=_; rw [h4]]
  replace t:cZ AD D A2159 l2 p:=by have b:cZ AD D _ (eE K).2.1 p:=t; rw [h4] at b; exact b
  have ba:v.length<=1048576:=by have b:=uK K; rw [h4] at b; exact b
  have an:=Bz hq U h4
  refine St.fact (λw a=>nH (a.at (i:=6) I)) (λai=>G I<|Nf<|aT ?_)
  refine xd ?_
  refine aF<|G I<|M (Z n 0)<|M (Z n 1)<|lL 4 I<|lm ?_
  refine St.dec 164 I (λg=>?_) (λg=>?_)
  .refine G I<|lT<|G I<|lT<|No<|lW (rA 2 _)<|R<|zv 3 I (gV I) ?_
   exact G I<|Nh<|eL<|cJ<|dL [_,(C 3)] rfl ⟨rz 3 rfl,rfl,trivial⟩ (λw a=>jJ (a.pick [0,1] I I) (.bad I O nofun nofun (λ_=>.inr (.inl (an.resolve_left (λh=>by have h8:=h.1; rw [h8] at g; simp at g)).2.2)) nofun nofun) s)
  .have ay:f2=false:=by simpa using g
   obtain ⟨-,P,ak,a2⟩:=an.resolve_right (λh=>by have h8:=h.1; rw [ay] at h8; cases h8)
   refine G I<|lg (Y v.length)<|lg (.bool ((v.length:Int) == 0))<|M (.bool ((v.length:Int) == 0))<|lm ?_
   refine St.dec 169 I (λl=>?_) (λl=>?_)
   .refine G I<|lT<|No<|lW (rA 2 _)<|R<|zv 3 I (gV I) ?_
    exact G I<|Nh<|eL<|cJ<|dL [(.agg (sW A c its bg NA nc S OA oc T nS k gt dn).toArray),(C 3)] rfl ⟨rz 3 rfl,rfl,trivial⟩ (λw a=>jJ (a.pick [0,1] I I) (.bad I O nofun nofun (λ_=>.inr (.inr (.inl (by rw [<- P]; exact L1 (by have b:=l; simp at b; simp [b]))))) nofun nofun) s)
   .have B:v≠[]:=λe=>by rw [e] at l; simp at l
    refine G I<|lg (Z n 0)<|lg (Z n 0)<|lu _ (bW 4 I I J I I)<|lg (B4 l2)<|lg (E5 l2)<|M (E5 l2) ?_
    refine qi I (λd=>?_) λd=>?_
    .have ae:=D4 d
     refine Nc<|lW (rA 2 _)<|R<|zv 3 I (gV I) ?_
     exact G I<|Nh<|eL<|cJ<|dL [_,_] rfl ⟨rz 3 rfl,rfl,trivial⟩ (λw a=>jJ (a.pick [0,1] I I) (.bad I O nofun nofun (λ_=>.inr (.inl (λe=>by have b:=(tH ak).1 e; rw [b] at d; simp at d))) nofun nofun) s)
    .have ae:=C7 d
     have az:l2=[]:=L1 (by have b:=d; simp at b; simp [b])
     have he:q.rest.2.end_=0:=(tH ak).2 az
     refine Nl ?_
     refine xd ?_
     rcases j8 ((bC its 4 4 v).err=0) with o | o
     .have N:q.rest.1≠[]:=by rw [<- P]; exact B
      have L:(bC its 4 4 q.rest.1).err=0:=by rw [<- P]; exact o
      refine aF<|M (Z b2 2)<|lw _ (gI [(V A its c),(Y 4),(Y 4),(F7 NA S nc),(F7 OA T oc)] rfl rfl J J (cW (i:=2) rfl (by intro j v hj; first | (rw [K7]; exact hj) | (match j,hj with | 0,h=>exact h | 1,h=>exact h | 2,h=>exact h | 3,h=>exact h | 4,h=>exact h))))<|G rfl<|R<|fT [0,1] _ (λw a E=>(Zv A c its 4 4 NA nc S OA oc T B159 _ v w E (r0.bJ a [0,1]) (a.fX [0,1] (j:=6) I (λ_ h=>aI.bM h)) (hs) (F) (by decide) (by decide) (by decide) (by decide) U (ai) U U (by rw [o]; decide)).mono ?_)
      rintro e w' ⟨NA2182,ao,OA2182,ap,B182,ab,rfl,hP⟩
      refine ⟨_,[_,_],_,I,hP,I,?_⟩; clear hP a E
      rw [show (bC its 4 4 v).err=0 from o]
      refine G I<|R<|pA G7 λQ=>R<|zv 8 I (by simp [Value.oneCell']) ?_
      refine G I<|Ne<|G I<|lF<|Nn<|dN _ 10 J (κ [0,1,2,3,4,6,7,8] I I)<|aV 0 _ I (zr 7 I)<|aC 1 (Z Q 3) I<|al 2 7 ?_
      refine aC 3 (Z Q 4) I<|al 4 7 ?_
      refine aC 5 (Z W 2) I<|aA 6 I<|dE 5 [(V A its c),_,_,_,_,_,_,(V NA _ nc),(V OA _ oc),nS,_,(C 3),_,bF] I I J I I I J I (T2 I) (by simp [Value.oneCell']) I ?_
      refine xd ?_
      refine aQ _ η (κ [0,1,2,3,4,6,7,8] I I)<|aC 7 (Z W 7) I<|aA 8 I<|qs 5 I (T2 I) ?_
      refine aQ _ η (κ [0,1,2,3,4,6,7,8] I I)<|aC 9 (Z W 8) I<|aA 10 I<|qs 5 I (T2 I) ?_
      refine lH J I<|aJ<|Ny<|G I<|M (Y (((bC its 4 4 v).reply).length))<|M (.bool (decide (((((bC its 4 4 v).reply).length:Nat):Int) > 0))) ?_
      refine qi I (λf=>?_) λf=>?_
      .have af:=D4 f
       have ah:(bC its 4 4 q.rest.1).reply≠[]:=by rw [<- P]; exact λe=>by rw [e] at f; simp at f
       refine St.mem (λw a=>a.gB 5 1) ?_
       have a9:=Yk hs F (show v.length<=20000 by omega)
       have a8:bG.length=0:=I
       refine aF<|G rfl<|R<|iI [9] (λw a E=>DM none 0 bG B182 ab _ w E (a.fX [9] (j:=7) I (λ_ h=>aI.bM h)) U U) λB202 ad=>R<|dC (λw a=>zU 3 B202 ad (bG++aE _++((bC its 4 4 v).reply)) w (a.aR (j:=9) I (λ_ h=>aI.bM h)) U (by have b:=eY (bC its 4 4 v).reply.length U; simp only [C3,W7,bG]; omega)) λB203 aq=>?_
       rw [show aE 3++(bG++aE _++((bC its 4 4 v).reply))=bB 3 (bC its 4 4 v).reply from by simp [bB,bG]]
       refine M (Z W 9)<|R<|qs 5 I (T2 I) ?_
       refine Nf ?_
       refine xd ?_
       refine aF<|lW (zr 5 I)<|R<|zv 3 I (by simp [Value.oneCell']) ?_
       exact G I<|Nd<|eL<|cJ<|dL [_,_] rfl ⟨rz 3 rfl,rfl,trivial⟩ (λw a=>⟨_,0,_,_,_,_,_,0,_,0,_,_,3,I,((((a).fF none).fF none).lM 10 I).pick [0,1,11,12,10] I I,(by have b:=lA.step (bg:=bg) (x:=(Sd.mk 2 k [] rc dn false [] [] S T)) I O aj he N L ah; rw [<- P] at b; exact b),si⟩)
      .have af:=C7 f
       have ah:(bC its 4 4 q.rest.1).reply=[]:=by rw [<- P]; exact L1 (by have b:=f; simp at b; simp [b])
       refine Nc<|M (Z W 12)<|R<|qs 5 I (T2 I) ?_
       refine Nv<|R<|dC (λw a=>zU 5 none 0 bG w Gv U (by decide)) λB206 ar=>?_
       rw [show aE 5++bG=aE 5 from by simp [bG]]
       refine M (Z W 9)<|R<|qs 5 I (T2 I) ?_
       refine Nf ?_
       refine xd ?_
       refine aF<|lW (zr 5 I)<|R<|zv 3 I (by simp [Value.oneCell']) ?_
       exact G I<|Nd<|eL<|cJ<|dL [_,_] rfl ⟨rz 3 rfl,rfl,trivial⟩ (λw a=>⟨_,0,_,_,_,_,_,0,_,0,_,_,3,I,((((a).fF none).fF none).lM 9 I).pick [0,1,10,11,9] I I,(by have b:=lA.stop (bg:=bg) (x:=(Sd.mk 2 k [] rc dn false [] [] S T)) I O aj he N L ah; rw [<- P] at b; exact b),si⟩)
     .have au:=Oo hs F (show v.length<=20000 by omega)
      have ax:=NF B o au
      refine aF<|M (Z b2 2)<|lw _ (gI [(V A its c),(Y 4),(Y 4),(F7 NA S nc),(F7 OA T oc)] rfl rfl J J (cW (i:=2) rfl (by intro j v hj; first | (rw [K7]; exact hj) | (match j,hj with | 0,h=>exact h | 1,h=>exact h | 2,h=>exact h | 3,h=>exact h | 4,h=>exact h))))<|G rfl<|R<|bV (λw a=>ZL A c its 4 4 NA nc S OA oc T B159 X v w (r0.aX a) (a.aR (j:=6) I (λ_ h=>aI.bM h)) (hs) (F) (by decide) (by decide) (by decide) (by decide) U (ai) (B) (ax))<|G rfl<|R<|pA G7 λQ=>R<|zv 7 I (by simp [Value.oneCell']) ?_
      refine G I<|Nf<|aT ?_
      refine xd ?_
      refine aF<|G I<|lT<|No<|lW (rA 2 _)<|G I<|R<|zv 3 I (gV I) ?_
      exact G I<|Nh<|eL<|cJ<|dL [_,_] rfl ⟨rz 3 rfl,rfl,trivial⟩ (λw a=>jJ (a.pick [0,1] I I) (.bad I O nofun nofun (λ_=>.inr (.inr (.inr (by rw [<- P]; exact o)))) nofun nofun) s)
 .refine Nc<|G I<|lF<|G I<|lF<|G I<|Np<|aF<|G I<|lF<|G I<|lF<|G I<|lF<|G I<|lF<|G I<|Nu<|Nw<|Nc<|lW (rA 2 _)<|R<|zv 3 I (gV I) ?_
  exact G I<|Nd<|dL [_,_] rfl ⟨rz 3 rfl,rfl,trivial⟩ (λw a=>jJ (a.pick [0,1] I I) (.bad I O nofun nofun (λ_=>.inl (by have b:=m; simp at b; omega)) nofun nofun) s)
theorem ZS(L:(Rd.mk D 0 0 0).uint=(4,q)):pW A c its bg NA nc S OA oc T k rc dn gt AD cD D w:=by
 unfold pW
 intro u r0 O hs ap hD ai E aq ar
 refine bS AB6 282 (u) I<|aT ?_
 have ao:cZ AD D AD D cD:=⟨λw h=>h,ai,J7 _⟩
 refine aF<|R<|pB (sW A c its bg NA nc S OA oc T nS k gt dn) λQ=>R<|pA qt λb4=>G I<|Ne<|M (Z Q 9)<|lL 2 rfl<|lF<|G rfl<|lg (Z Q 13)<|lu bF (bW 2 rfl rfl J rfl rfl)<|lF<|Nn<|aF<|G rfl<|M (J4 AD D cD)<|R<|pB _ λg=>G I<|Nb<|G I<|R ?_
 refine iS [4] (λw f u=>tF g AD D AD cD D _ 5 w u (O.bJ f [4]) (ao) U U) λA235 o p=>G I<|Nf ?_
 refine xd ?_
 obtain ⟨F,K,-,hq,au⟩:=(zS L).resolve_right λ⟨_,_,h⟩=>by omega
 rw [show (aS D _ 5).1=4 from by rw [K]]
 rw [show (aS D _ 5).2.1=F from by rw [K]]
 rw [show (aS D _ 5).2.2=false from by rw [K]]
 replace p:cZ AD D A235 F o:=by have l:cZ AD D A235 _ o:=p; rw [K] at l; exact l
 refine aF<|lW (rA 2 _)<|R<|pA qt λW=>R<|zv 5 I (gV I) ?_
 refine Nb<|G I<|M (Z W 11)<|R<|qs 5 I (T2 I) ?_
 refine Nf<|fY<|Nc<|G I<|lF<|G I<|lF<|G I<|lF<|G I<|Np<|aF<|G I<|lF<|G I<|lF<|G I<|lF<|G I<|Np<|aF<|G I<|lF<|G I ?_
 refine lF<|G I<|Np<|aF<|G I<|lT<|G I<|lg (Z Q 10)<|lu _ (bW 2 I I J I I)<|lg (I5 k)<|M (I5 k)<|G I ?_
 refine qi I (λy=>?_) λy=>?_
 .have aj:k=2:=by have l:=y; simp at l; omega
  refine aT ?_
  refine xd ?_
  rcases OZ hq U with ⟨H,a,an,ae,aw⟩ | a
  .rcases OZ an U with ⟨P,b,ad,af,ax⟩ | b
   .refine aF<|G rfl<|R<|jO [4] (λw f u=>zW g AD D A235 o F _ w u (O.bJ f [4]) (p) U) λA2218 m B218 s d=>?_
    rw [show (eB F _).1=(q.items _).1 from by rw [a]]
    rw [show (eB F _).2.1=H from by rw [a]]
    rw [show (eB F _).2.2=false from by rw [a]]
    replace d:cZ AD D A2218 H m:=by have l:cZ AD D _ _ _:=d; rw [a] at l; exact l
    refine G I<|R<|jO [4] (λw f u=>zW g AD D _ _ H _ w u (O.bJ f [4]) (d) U) λA2220 r B220 t n=>?_
    rw [show (eB H _).1=((q.items _).2.items _).1 from by rw [b]]
    rw [show (eB H _).2.1=P from by rw [b]]
    rw [show (eB H _).2.2=false from by rw [b]]
    replace n:cZ AD D A2220 P r:=by have l:cZ AD D _ _ _:=n; rw [b] at l; exact l
    refine G I<|Ne<|G I<|M (Z g 0)<|M (Z g 1)<|lL 4 I<|G I<|lg (Z g 0)<|lg (Z g 0)<|lu _ (bW 4 I I J I I)<|lg (B4 P)<|lg (E5 P)<|M (E5 P)<|lm ?_
    refine St.dec 233 I (λi=>?_) (λi=>?_)
    .have N:=D4 i
     refine G I<|lT<|G I<|lT<|No<|lW (rA 2 _)<|R<|zv 3 I (gV I) ?_
     exact G I<|Nh<|eL<|cJ<|dL [_,_] rfl ⟨rz 3 rfl,rfl,trivial⟩ (λw f=>jJ (f.pick [0,1] I I) (.bad I L nofun nofun nofun (λ_=>.inr (.inr (.inr (.inl (λe=>by have l:=(tH ad).1 e; rw [l] at i; simp at i))))) nofun) E)
    .have N:=C7 i
     have ak:P=[]:=L1 (by have l:=i; simp at l; simp [l])
     have he:((q.items _).2.items _).2.end_=0:=(tH ad).2 ak
     refine lg (Z Q 0)<|lu (V A its c) (bW 2 rfl rfl J rfl rfl)<|G rfl<|dP rfl rfl<|bV (λw f=>zV A c its B218 s ((q.items 16384).1) false w (r0.aX f) (f.aR (j:=6) I (λ_ h=>aI.bM h)) U (by first | (have l:=q.oJ 16384; omega) | (have l:=(q.items 16384).2.oJ 16384; omega)))<|lg (.bool (!(((q.items 16384).1).all λx=>its.contains x == false)))<|M (.bool (!(((q.items 16384).1).all λx=>its.contains x == false)))<|lm ?_
     refine St.dec 240 I (λz=>?_) (λz=>?_)
     .refine G I<|lT<|Nt<|aT ?_
      refine xd ?_
      refine aF<|lW (rA 2 _)<|R<|zv 3 I (gV I) ?_
      exact G I<|Nh<|eL<|cJ<|dL [_,_] rfl ⟨rz 3 rfl,rfl,trivial⟩ (λw f=>jJ (f.pick [0,1] I I) (.bad I L nofun nofun nofun (λ_=>.inr (.inr (.inr (.inr (ZN z))))) nofun) E)
     .have X:((q.items 16384).1.all λx=>its.contains x == false)=true:=by simpa using z
      refine lg (Z Q 0)<|lu (V A its c) (bW 2 rfl rfl J rfl rfl)<|G rfl<|dP rfl rfl<|bV (λw f=>zV A c its B220 t (((q.items 16384).2.items 16384).1) true w (r0.aX f) (f.aR (j:=7) I (λ_ h=>aI.bM h)) U (by first | (have l:=q.oJ 16384; omega) | (have l:=(q.items 16384).2.oJ 16384; omega)))<|lg (.bool (!((((q.items 16384).2.items 16384).1).all λx=>its.contains x == true)))<|M (.bool (!((((q.items 16384).2.items 16384).1).all λx=>its.contains x == true))) ?_
      refine qi I (λB=>?_) λB=>?_
      .refine Nc<|lW (rA 2 _)<|R<|zv 3 I (gV I) ?_
       exact G I<|Nh<|eL<|cJ<|dL [_,_] rfl ⟨rz 3 rfl,rfl,trivial⟩ (λw f=>jJ (f.pick [0,1] I I) (.bad I L nofun nofun nofun (λ_=>.inr (.inr (.inr (.inr (ZO B))))) nofun) E)
      .have ab:(((q.items 16384).2.items 16384).1.all λx=>its.contains x == true)=true:=by simpa using B
       refine Nl ?_
       have ah:iX its (q.items 16384).1 ((q.items 16384).2.items 16384).1=true:=by rw [zX,X,ab]; rfl
       refine aF<|G I<|M (Z W 7)<|R<|qs 5 I (T2 I) ?_
       refine M (Z W 8)<|R<|qs 5 I (T2 I) ?_
       refine M (Z W 12)<|R<|qs 5 I (T2 I) ?_
       refine xd ?_
       refine M (Z W 13)<|R<|qs 5 I (T2 I) ?_
       refine Nb<|lW (rA 5 [_,_,_,_,_,_,_,(V B218 _ _),(V B220 _ _),nS,_,(C 4),bT,bT])<|R<|dE 3 [(V A its c),_,(V A its c),_,_,(V NA _ nc),(V OA _ oc),_,_,nS,_,_,bT,bT] I I J I I I J I (T2 I) (by simp [Value.oneCell']) I ?_
       exact G I<|Nd<|eL<|cJ<|dL [_,_] rfl ⟨rz 3 rfl,rfl,trivial⟩ (λw f=>⟨_,0,NA,nc,OA,oc,_,_,_,_,_,0,4,I,((((f).lM 6 I).lM 7 I).fF none).pick [0,1,6,7,8] I I,.diff I L aj ae af he ah,si⟩)
   .refine aF<|G rfl<|R<|jO [4] (λw f u=>zW g AD D A235 o F _ w u (O.bJ f [4]) (p) U) λA2218 m B218 s d=>?_
    rw [show (eB F _).1=(q.items _).1 from by rw [a]]
    rw [show (eB F _).2.1=H from by rw [a]]
    rw [show (eB F _).2.2=false from by rw [a]]
    replace d:cZ AD D A2218 H m:=by have l:cZ AD D _ _ _:=d; rw [a] at l; exact l
    refine G I<|R<|jO [4] (λw f u=>zW g AD D _ _ H _ w u (O.bJ f [4]) (d) U) λA2220 r B220 t n=>?_
    rw [show (eB H _).2.2=true from by rw [b.1]]
    refine G I<|Nf<|aT ?_
    refine xd ?_
    refine aF<|G I<|M (Z g 0)<|M (Z g 1)<|lL 4 I<|G I<|lT<|G I<|lT<|G I<|lT<|No<|lW (rA 2 _)<|R<|zv 3 I (gV I) ?_
    exact G I<|Nh<|eL<|cJ<|dL [_,_] rfl ⟨rz 3 rfl,rfl,trivial⟩ (λw f=>jJ (f.pick [0,1] I I) (.bad I L nofun nofun nofun (λ_=>.inr (b.2.elim (λh=>.inr (.inl h)) (λh=>.inr (.inr (.inl (DT h)))))) nofun) E)
  .refine aF<|G rfl<|R<|jO [4] (λw f u=>zW g AD D A235 o F _ w u (O.bJ f [4]) (p) U) λA2218 m B218 s d=>?_
   rw [show (eB F _).2.2=true from by rw [a.1]]
   refine G I<|R<|jO [4] (λw f u=>zW g AD D _ _ _ true w u (O.bJ f [4]) (d) U) λA2220 r B220 t n=>?_
   rw [show (eB _ true).2.2=true from Zo _]
   refine G I<|Ne<|G I<|M (Z g 0)<|M (Z g 1)<|lL 4 I<|G I<|lT<|G I<|lT<|G I<|lT<|No<|lW (rA 2 _)<|R<|zv 3 I (gV I) ?_
   exact G I<|Nh<|eL<|cJ<|dL [_,_] rfl ⟨rz 3 rfl,rfl,trivial⟩ (λw f=>jJ (f.pick [0,1] I I) (.bad I L nofun nofun nofun (λ_=>.inr (a.2.elim (λh=>.inl h) (λh=>.inr (.inr (.inl (DT (Zm h _).2)))))) nofun) E)
 .refine aT ?_
  refine xd ?_
  refine aF<|G I<|lF<|G I<|lF<|G I<|lF<|G I<|lF<|G I<|Nu<|Nw<|Nc<|lW (rA 2 _)<|R<|zv 3 I (gV I) ?_
  exact G I<|Nd<|dL [_,_] rfl ⟨rz 3 rfl,rfl,trivial⟩ (λw f=>jJ (f.pick [0,1] I I) (.bad I L nofun nofun nofun (λ_=>.inl (by show k≠2; have l:=y; simp at l; omega)) nofun) E)
theorem ZT(o:(Rd.mk D 0 0 0).uint=(5,q)):pW A c its bg NA nc S OA oc T k rc dn gt AD cD D w:=by
 unfold pW
 intro s P K O z N t m B E
 refine bS AB6 282 (s) I<|aT ?_
 have x:cZ AD D AD D cD:=⟨λw h=>h,t,J7 _⟩
 refine aF<|R<|pB (sW A c its bg NA nc S OA oc T nS k gt dn) λp=>R<|pA qt λL=>G I<|Ne<|M (Z p 9)<|lL 2 rfl<|lF<|G rfl<|lg (Z p 13)<|lu bF (bW 2 rfl rfl J rfl rfl)<|lF<|Nn<|aF<|G rfl<|M (J4 AD D cD)<|R<|pB _ λd=>G I<|Nb<|G I<|R ?_
 refine iS [4] (λw l s=>tF d AD D AD cD D _ 5 w s (K.bJ l [4]) (x) U U) λA235 i j=>G I<|Nf ?_
 refine xd ?_
 obtain ⟨n,g,-,y,H⟩:=(zS o).resolve_right λ⟨_,_,h⟩=>by omega
 rw [show (aS D _ 5).1=5 from by rw [g]]
 rw [show (aS D _ 5).2.1=n from by rw [g]]
 rw [show (aS D _ 5).2.2=false from by rw [g]]
 replace j:cZ AD D A235 n i:=by have f:cZ AD D A235 _ i:=j; rw [g] at f; exact f
 refine aF<|lW (rA 2 _)<|R<|pA qt λr=>R<|zv 5 I (gV I) ?_
 refine Nb<|G I<|M (Z r 11)<|R<|qs 5 I (T2 I) ?_
 refine Nf<|fY<|Nc<|G I<|lF<|G I<|lF<|G I<|lF<|G I<|Np<|aF<|G I<|lF<|G I<|lF<|G I<|lF<|G I<|Np<|aF<|G I<|lF<|G I ?_
 refine lF<|G I<|Np<|aF<|G I<|lF<|G I<|lF<|G I<|Np<|aF<|G I<|lT<|G I<|lg (Z p 10)<|lu _ (bW 2 I I J I I)<|lg (F8 k)<|M (F8 k)<|lm ?_
 refine St.dec 263 I (λb=>?_) (λb=>?_)
 .have u:k=3:=by have f:=b; simp at f; omega
  refine G I<|lg (Z d 0)<|lg (Z d 1)<|lu bF (bW 4 I I J I I)<|lg bT<|lT<|G I<|lg (Z d 0)<|lg (Z d 0)<|lu _ (bW 4 I I J I I)<|lg (Y n.length)<|lg (.bool ((n.length:Int) == 0))<|M (.bool ((n.length:Int) == 0))<|G I ?_
  refine qi I (λa=>?_) λa=>?_
  .have F:q.end_=0:=(tH y).2 (L1 (by have f:=a; simp at f; simp [f]))
   refine Nc<|M (Z r 12)<|R<|qs 5 I (T2 I) ?_
   refine M (Z r 13)<|R<|qs 5 I (T2 I) ?_
   refine Nf ?_
   refine xd ?_
   refine aF<|lW (rA 5 [_,_,(V A its c),_,_,_,_,(V NA _ nc),_,nS,_,_,bT,bT])<|R<|dE 3 [(V A its c),_,_,_,_,(V NA _ nc),(V OA _ oc),_,(V OA _ oc),nS,_,(C 5),bT,bT] I I J I I I J I (T2 I) (by simp [Value.oneCell']) I ?_
   exact G I<|Nd<|eL<|cJ<|dL [_,_] rfl ⟨rz 3 rfl,rfl,trivial⟩ (λw l=>⟨_,0,NA,nc,OA,oc,_,0,_,0,_,0,5,I,((((l).fF none).fF none).fF none).pick [0,1,6,7,8] I I,.fin I o F u,si⟩)
  .refine Nw<|Nc<|lW (rA 2 _)<|R<|zv 3 I (gV I) ?_
   exact G I<|Nd<|dL [_,_] rfl ⟨rz 3 rfl,rfl,trivial⟩ (λw l=>jJ (l.pick [0,1] I I) (.bad I o nofun nofun nofun nofun (λ_=>.inl (λe=>by have f:=(tH y).1 e; rw [f] at a; simp at a))) m)
 .refine G I<|lF<|G I<|lF<|G I<|Nu<|Nw<|Nc<|lW (rA 2 _)<|R<|zv 3 I (gV I) ?_
  exact G I<|Nd<|dL [_,_] rfl ⟨rz 3 rfl,rfl,trivial⟩ (λw l=>jJ (l.pick [0,1] I I) (.bad I o nofun nofun nofun nofun (λ_=>.inr (by show k≠3; have f:=b; simp at f; omega))) m)
theorem ZU{u:Nat}(n:(Rd.mk D 0 0 0).uint=(u,q))(r:u=0\/5 < u):pW A c its bg NA nc S OA oc T k rc dn gt AD cD D w:=by
 unfold pW
 intro e H z F s E f g t x
 refine bS AB6 282 (e) I<|aT ?_
 have i:cZ AD D AD D cD:=⟨λw h=>h,f,J7 _⟩
 refine aF<|R<|pB (sW A c its bg NA nc S OA oc T nS k gt dn) λj=>R<|pA qt λB=>G I<|Ne<|M (Z j 9)<|lL 2 rfl<|lF<|G rfl<|lg (Z j 13)<|lu bF (bW 2 rfl rfl J rfl rfl)<|lF<|Nn<|aF<|G rfl<|M (J4 AD D cD)<|R<|pB _ λb=>G I<|Nb<|G I<|R ?_
 refine iS [4] (λw d e=>tF b AD D AD cD D _ 5 w e (z.bJ d [4]) (i) U U) λA235 l m=>G I<|Nf ?_
 refine xd ?_
 obtain ⟨y,p,a⟩:=ZM n r
 rw [show (aS D _ 5).1=0 from by rw [a]]
 rw [show (aS D _ 5).2.1=y from by rw [a]]
 rw [show (aS D _ 5).2.2=p from by rw [a]]
 refine aF<|lW (rA 2 _)<|R<|pA qt λo=>R<|zv 5 I (gV I) ?_
 refine Nb<|G I<|M (Z o 11)<|R<|qs 5 I (T2 I) ?_
 refine Nf<|fY<|Nc<|G I<|lF<|G I<|lF<|G I<|lF<|G I<|Np<|aF<|G I<|lF<|G I<|lF<|G I<|lF<|G I<|Np<|aF<|G I<|lF<|G I ?_
 refine lF<|G I<|Np<|aF<|G I<|lF<|G I<|lF<|G I<|Np<|aF<|G I<|lF<|G I<|lF<|G I<|lF<|G I<|lF<|G I<|Nu<|Nw<|Nc<|lW (rA 2 _) ?_
 refine R<|zv 3 I (gV I) ?_
 exact G I<|Nd<|dL [_,_] rfl ⟨rz 3 rfl,rfl,trivial⟩ (λw d=>jJ (d.pick [0,1] I I) (.bad I n (λh=>absurd h U) (λh=>absurd h U) (λh=>absurd h U) (λh=>absurd h U) (λh=>absurd h U)) g)
end
theorem v4G{its:List Γ}{D:Γ}:pW A c its bg NA nc S OA oc T k rc dn gt AD cD D w:=by
 obtain ⟨u,q,a⟩:∃ u q,(Rd.mk D 0 0 0).uint=(u,q):=⟨_,_,I⟩
 rcases j8 (u=1) with h | b
 .subst h
  exact ZP a
 rcases j8 (u=2) with h | d
 .subst h
  exact ZQ a
 rcases j8 (u=3) with h | e
 .subst h
  exact ZR a
 rcases j8 (u=4) with h | f
 .subst h
  exact ZS a
 rcases j8 (u=5) with h | g
 .subst h
  exact ZT a
 exact ZU a U
end
section
structure nD (its:List Bs) (n:Nat) (x:Sd) (sn gt:Nat):Prop where
 si:mS its n x.st x.k x.sd x.needs x.offs x.S x.T
 sm:x.st≠1 -> x.m=[]
 my:x.st=1 -> ∃ y,x.m[0]?=some y /\ y.toNat=x.k
 k5:x.k <= 5
 sk:x.st≠1 -> sn=x.k
 gr:gt=0↔x.rc=false
theorem zY(k)(h:k < 128)(t):∃ y,(aE k++t)[0]?=some y/\y.toNat=k:=by
 rw [oM k h]
 exact ⟨_,I,by rw [AFa]; exact l8 U⟩
theorem ZV(k)(h:k < 128):∃ y,(aE k)[0]?=some y/\y.toNat=k:=by
 rw [oM k h]
 exact ⟨_,I,by rw [AFa]; exact l8 U⟩
section
variable {its:List Bs}{bg:Bool}{x x2:Sd}{D m2:Bs}{n sn gt gt2 sn2:Nat}{b z:Int}
theorem nD.next(h:nD its n x sn gt)(g:mD x b x2 m2 z)(c:x2.st≠1->sn2=x2.k):nD its (n+1) x2 sn2 gt:=by
 have a:nD its _ x sn gt:=⟨h.si.go h.si.le h.si.set,h.sm,h.my,h.k5,h.sk,h.gr⟩
 cases g with
 | arg _=>exact ⟨a.si,a.sm,a.my,a.k5,c,a.gr⟩
 | fin _ _=>exact ⟨a.si,a.sm,a.my,a.k5,c,a.gr⟩
 | wait _ _=>exact ⟨a.si,a.sm,a.my,a.k5,c,a.gr⟩
 | short _ _ _=>exact ⟨a.si,a.sm,a.my,a.k5,c,a.gr⟩
 | last d i k=>exact ⟨h.si.go oz zg,zg,zg,h.k5,c,h.gr⟩
 | more d i f j=>exact ⟨h.si.go oz λe=>absurd ((h.si.set e).2 d) f,zg,zg,h.k5,c,h.gr⟩
theorem nD.recv(h:nD its n x sn gt)(hR:lA its bg x D x2 z)(hD:D.length<=20000)(g:dD its)(A:its.length<=40)(d:gt2=0↔x2.rc=false):nD its (n+1) x2 sn gt2:=by
 have hq:mS its _ x.st x.k x.sd _ _ x.S x.T:=h.si.go h.si.le h.si.set
 have s:x.st=2->x.sd=false:=λe=>by
  cases W:x.sd with
  | false=>rfl
  | true=>exact absurd e (h.si.set W).1
 have ae:x.st=2->∀ o p,o<=2->mS its _ o p x.sd x.needs x.offs x.S x.T:=λe o p h2=>h.si.go h2 zg
 have i:x.st=2->mS its n x.st x.k false [] [] x.S x.T:=λe=>by
  have h9:=h.si
  have h8:=h.si.opn (s e)
  grind
 have ah:x.st=2->∀ {E:Bs},E.length<=20000->∀ p,mS its (n+1) 1 p x.sd x.needs x.offs (x.S++(bC its 4 4 E).need) (x.T++(bC its 4 4 E).off):=λe E hE p=>by
  have h9:=(i e).step hE g A (show 1<=2 by omega) (k2:=p)
  have h8:=h.si.opn (s e)
  grind
 cases hR with
 | busy a=>exact ⟨hq,h.sm,h.my,h.k5,h.sk,d⟩
 | bad a c _ _ _ _ _=>exact ⟨hq,h.sm,h.my,h.k5,h.sk,d⟩
 | rng a c hb S ab f m=>exact ⟨zg,zg,λ_=>zY 3 (by omega) _,by grind,zg,d⟩
 | tab a c hb S ab f m ai hz=>exact ⟨zg,zg,λ_=>zY 2 (by omega) _,by grind,zg,d⟩
 | dif0 a c m S w f W hd=>exact ⟨zg,λe=>absurd I e,λ_=>zY 3 (by omega) _,by show 3<=5; omega,λe=>absurd I e,d⟩
 | dif1 a c m S w f W hd =>
   obtain ⟨X,ad⟩:=tC w
   have u:=On c
   obtain ⟨r,l,-,-⟩:=Bl hd
   rename_i q t of nd
   obtain ⟨⟨Q,af⟩,N,O⟩:=Bm (vD (rI g.1 t.cells.length) X) r
   have L:=(vN r).2
   rw [mM (by rw [jW]),jW] at L
   obtain ⟨j,k⟩:=Hp l
   exact ⟨(i a).settle (λx y=>⟨j x y,O x y⟩) k N Q (show nd.length<=16384 by omega) (.inr ⟨I,I⟩),λe=>absurd I e,λ_=>zY 4 U _,by show 4<=5; omega,λe=>absurd I e,d⟩
 | step a c m f P H T =>
   have u:=DF c
   exact ⟨zg,zg,λ_=>zY 3 U _,by grind,zg,d⟩
 | stop a c m f P H T =>
   have u:=DF c
   exact ⟨zg,zg,λ_=>ZV 5 U,by show 5<=5; omega,λe=>absurd I e,d⟩
 | diff a c m B F f l =>
   rename_i q
   obtain ⟨j,k⟩:=Hp l
   obtain ⟨e1,e2⟩:=Om (end_err f)
   obtain ⟨-,e4⟩:=Om e1
   have K:=q.oJ 16384
   exact ⟨(i a).settle (λx y=>⟨j x y,e4 x y⟩) k B F K (.inl I),λ_=>h.sm U,(λe=>by cases e),h.k5,λ_=>h.sk U,d⟩
 | fin a c f m=>exact ⟨zg,λ_=>h.sm (by omega),zg,h.k5,λ_=>h.sk (by omega),d⟩
end
end
theorem mV(sd A l c B m d):(kR sd A l c B m d).oneCell'=true:=by cases sd <;> rfl
theorem Pr(a A m c):(Bp a A m c).oneCell'=true:=by unfold Bp; split <;> rfl
theorem ZW(A c)(its:List Γ)(bg)(NA:Δ)(i:Nat)(N:List Γ)(OA:Δ)(j:Nat)(O:List Γ)(a b:Ω)(k f:Nat)(dn:Bool)(l:Addr)(m:Γ)(d:Nat)(AD:Δ)(n p:Nat)(w:Λ)(g:a.oneCell'=true)(h:b.oneCell'=true):
  Θ 11 #[(.agg #[(V A its c),(.bool bg),(V A its c),(Y 4),(Y 4),(V NA (aH [] N) i),(V OA (aH [] O) j),a,b,(V (some l) m d),(Y k),(Y f),(.bool dn),bF]),(.slice AD (n) (p))] w λe r=>e = .returned (.tuple #[(.agg #[(V A its c),(.bool bg),(V A its c),(Y 4),(Y 4),(V NA (aH [] N) i),(V OA (aH [] O) j),a,b,(V (some l) m d),(Y k),(Y f),(.bool dn),bF]),(C 6)])/\aN [] w [] r:=by
 refine bS AB6 282 (B3 w) rfl<|Nc<|R<|pB _ λo=>R<|pA D5 λs=>G I<|Ne<|M (Z o 9)<|lL 0 I<|lT<|G I<|lT<|No<|lW (rA 0 [_,(.bool bg),_,_,(Y 4),_,(V OA _ j),a,b,_,_,(Y f),_,bF])<|R<|dE 1 [(V A its c),_,(V A its c),(Y 4),_,(V NA _ i),_,a,b,(V _ m d),(Y k),_,(.bool dn),bF] I I J I I I J I si (by simp only [T0,U7,k4,X8,z6]; exact ⟨I,I,I,I,I,I,I,g,h,I,I,I,I,I⟩) I ?_
 exact G I<|Nh<|dL [_,_] rfl ⟨rz 1 rfl,rfl,trivial⟩ (λw q=>⟨I,(q.pick [] I I)⟩)
theorem ZX(A c)(its:List Γ)(bg:Bool)(NA:Δ)(h:Nat)(N:List Γ)(OA:Δ)(i:Nat)(O:List Γ)(a b:Ω)(j d:Nat)(dn:Bool)(AD:Δ)(n l:Nat)(w:Λ)(f:a.oneCell'=true)(g:b.oneCell'=true):
  Θ 11 #[(.agg #[(V A its c),(.bool bg),(V A its c),(Y 4),(Y 4),(V NA (aH [] N) h),(V OA (aH [] O) i),a,b,nS,(Y j),(Y d),(.bool dn),bT]),(.slice AD (n) (l))] w λe o=>e = .returned (.tuple #[(.agg #[(V A its c),(.bool bg),(V A its c),(Y 4),(Y 4),(V NA (aH [] N) h),(V OA (aH [] O) i),a,b,nS,(Y j),(Y d),(.bool dn),bT]),(C 6)])/\aN [] w [] o:=by
 refine bS AB6 282 (B3 w) rfl<|Nc<|R<|pB _ λk=>R<|pA D5 λp=>G I<|Ne<|M (Z k 9)<|lL 0 I<|lF<|G I<|lg (Z k 13)<|lu bT (bW 0 I I J I I)<|lT<|No<|lW (rA 0 [(V A its c),_,_,_,_,_,_,a,b,nS,(Y j),_,_,bT])<|R<|dE 1 [_,(.bool bg),(V A its c),(Y 4),(Y 4),(V NA _ h),(V OA _ i),a,b,nS,_,(Y d),(.bool dn),bT] I I J I I I J I si (by simp only [T0,U7,k4,X8,z6]; exact ⟨I,I,I,I,I,I,I,f,g,I,I,I,I,I⟩) I ?_
 exact G I<|Nh<|dL [_,_] rfl ⟨rz 1 rfl,rfl,trivial⟩ (λw m=>⟨I,(m.pick [] I I)⟩)
theorem ZY(A c its bg p k m rc dn sd needs offs S T NA d OA f AN F AO H AM N B E n AD L D w)(t:cC [cS NA (aH [] S) d,cS OA (aH [] T) f,bI AN (SS needs),bI AO (SS offs),bI AM (B8 m)] w)(r0:Rf [cS NA (aH [] S) d,cS OA (aH [] T) f,bI AN (SS needs),bI AO (SS offs),bI AM (B8 m)] w (λw=>aI w A (SS its)))(r1:Rf [cS NA (aH [] S) d,cS OA (aH [] T) f,bI AN (SS needs),bI AO (SS offs),bI AM (B8 m)] w (λw=>aI w AD (B8 D)))(a:nD its n (Sd.mk p k m rc dn sd needs offs S T) B E)(j:dD its)(b:its.length<=40)(ae:n<=8)(O:D.length<=20000)(W:D.length<=L):
  Θ 11 #[(qN A c its bg (Sd.mk p k m rc dn sd needs offs S T) NA d OA f AN F AO H AM N B E),(V AD D L)] w λe P=>∃ (g:Sd) (z:Int) (NA2:Δ) (l:Nat) (OA2:Δ) (o:Nat) (AN2:Δ) (r:Nat) (AO2:Δ) (s:Nat) (AM2:Δ) (q h:Nat),e = .returned (.tuple #[(qN A c its bg g NA2 l OA2 o AN2 r AO2 s AM2 q B h),(C z)])/\aN [cS NA (aH [] S) d,cS OA (aH [] T) f,bI AN (SS needs),bI AO (SS offs),bI AM (B8 m)] w [cS NA2 (aH [] g.S) l,cS OA2 (aH [] g.T) o,bI AN2 (SS g.needs),bI AO2 (SS g.offs),bI AM2 (B8 g.m)] P/\(lA its bg (Sd.mk p k m rc dn sd needs offs S T) D g z)/\(nD its (n+1) g B h):=by
 rcases j8 (p=2) with x | x
 .subst x
  obtain ⟨rfl,rfl,rfl,rfl,rfl⟩:sd=false/\needs=[]/\offs=[]/\m=[]/\k=B:=by
   have j:sd=false:=by
    cases sd with
    | false=>rfl
    | true=>exact absurd I (a.si.set I).1
   exact ⟨j,(a.si.opn j).1,(a.si.opn j).2,a.sm (by show 2≠1; decide),(a.sk (by show 2≠1; decide)).symm⟩
  have X:=a.si.Qn U
  have ab:=(a.si.Qm j b).2
  change (aH [] S).length<=16384 at X
  change (aH [] T).length<=40 at ab
  refine (v4G (S:=S) (T:=T) (rc:=rc) (dn:=dn) (t.sub [0,1]) (r0.bJ t [0,1]) (r1.bJ t [0,1]) j b O W a.gr U U).mono ?_
  rintro e P ⟨g,z,NA2,l,OA2,o,AN2,r,AO2,s,AM2,q,h,rfl,K,u,hg⟩
  have Q:=t.res [0,1] (ms':=[_,_]) K
  exact ⟨g,z,NA2,l,OA2,o,AN2,r,AO2,s,AM2,q,h,I,Q.pick [0,1,5,6,7] I I,u,a.recv u O j b hg⟩
 have ad:p<=2:=a.si.le
 have u:lA its bg (Sd.mk p k m rc dn sd needs offs S T) D _ 6:=.busy x
 rcases j8 (p=1) with h1 | h1
 .subst h1
  obtain ⟨y,hy,af⟩:=a.my I
  obtain ⟨b9,o9,rfl⟩:=qX (show aI w AM _ from t.at (i:=4) I) (tT hy)
  refine (ZW A c its bg NA d S OA f T (kR sd AN needs F NA (aH [] S) d) (kR sd AO offs H OA (aH [] T) f) B E dn _ m N AD _ L w (mV _ _ _ _ _ _ _) (mV _ _ _ _ _ _ _)).mono ?_
  rintro e P ⟨rfl,K⟩
  exact ⟨_,6,NA,d,OA,f,AN,F,AO,H,_,N,E,I,t.same K,u,a.recv u O j b a.gr⟩
 .obtain rfl:p=0:=U
  obtain rfl:m=[]:=a.sm (by show 0≠1; decide)
  refine (ZX A c its bg NA d S OA f T (kR sd AN needs F NA (aH [] S) d) (kR sd AO offs H OA (aH [] T) f) B E dn AD _ L w (mV _ _ _ _ _ _ _) (mV _ _ _ _ _ _ _)).mono ?_
  rintro e P ⟨rfl,K⟩
  exact ⟨_,6,NA,d,OA,f,AN,F,AO,H,AM,N,E,I,t.same K,u,a.recv u O j b a.gr⟩
theorem ZZ(A c its bg l k m rc dn sd needs offs S T NA g OA h AN x AO B AM p o r n b w)(t:cC [bI AM (B8 m)] w)(f:nD its n (Sd.mk l k m rc dn sd needs offs S T) o r):
  Θ 10 #[(qN A c its bg (Sd.mk l k m rc dn sd needs offs S T) NA g OA h AN x AO B AM p o r),(C b)] w λe E=>∃ (s:Sd) (N:Γ) (z:Int) (AM2:Δ) (K H:Nat) (a:Δ) (W:Nat),e = .returned (.tuple #[(qN A c its bg s NA g OA h AN x AO B AM2 K H r),(V a N W),(C z)])/\aN [bI AM (B8 m)] w [bI AM2 (B8 s.m),bI a (B8 N)] E/\(mD (Sd.mk l k m rc dn sd needs offs S T) b s N z)/\(nD its (n+1) s H r)/\(s.S=S/\s.T=T/\s.needs=needs/\s.offs=offs/\s.sd=sd/\s.dn=dn):=by
 have ab:l<=2:=f.si.le
 rcases AG5 b 0 with u | u
 .refine (Zz A c its bg NA g S OA h T (kR sd AN needs x NA (aH [] S) g) (kR sd AO offs B OA (aH [] T) h) o r dn (Bp l AM m p) (Hr l) b w (mV _ _ _ _ _ _ _) (mV _ _ _ _ _ _ _) (Pr _ _ _ _) u).mono ?_
  rintro e E ⟨rfl,q⟩
  have d:mD (Sd.mk l k m rc dn sd needs offs S T) b _ [] 1:=.arg u
  exact ⟨(Sd.mk l k m rc dn sd _ offs S T),[],1,AM,p,o,_,0,I,(t.same q).fF none,d,f.next d f.sk,I,I,I,I,I,I⟩
 rcases W4 l 1 with O | O
 .obtain rfl:l=0:=U
  obtain rfl:m=[]:=f.sm (by show 0≠1; decide)
  refine (ZA A c its bg NA g S OA h T (kR sd AN needs x NA (aH [] S) g) (kR sd AO offs B OA (aH [] T) h) o r dn nS b w (mV _ _ _ _ _ _ _) (mV _ _ _ _ _ _ _) I u).mono ?_
  rintro e E ⟨rfl,q⟩
  have d:mD (Sd.mk 0 k [] rc dn sd needs offs S T) b _ [] 4:=.fin u I
  exact ⟨(Sd.mk 0 k [] rc dn sd _ offs S T),[],4,AM,p,o,_,0,I,(t.same q).fF none,d,f.next d f.sk,I,I,I,I,I,I⟩
 rcases W4 1 l with P | P
 .obtain rfl:l=2:=U
  obtain rfl:m=[]:=f.sm (by show 2≠1; decide)
  refine (ZB A c its bg NA g S OA h T (kR sd AN needs x NA (aH [] S) g) (kR sd AO offs B OA (aH [] T) h) o r dn b w (mV _ _ _ _ _ _ _) (mV _ _ _ _ _ _ _) u).mono ?_
  rintro e E ⟨rfl,q⟩
  have d:mD (Sd.mk 2 k [] rc dn sd needs offs S T) b _ [] 6:=.wait u I
  exact ⟨(Sd.mk 2 k [] rc dn sd _ offs S T),[],6,AM,p,o,_,0,I,(t.same q).fF none,d,f.next d f.sk,I,I,I,I,I,I⟩
 obtain rfl:l=1:=U
 obtain ⟨y,L,F⟩:=f.my I
 obtain ⟨b9,o9,rfl⟩:=qX (show aI w AM (B8 m) from t.at (i:=0) I) (tT L)
 clear O P
 have X:k<=5:=f.k5
 rcases AG5 b m.length with D | D
 .refine (ZC A c its bg NA g S OA h T (kR sd AN needs x NA (aH [] S) g) (kR sd AO offs B OA (aH [] T) h) o r dn _ m p b w (mV _ _ _ _ _ _ _) (mV _ _ _ _ _ _ _) u D).mono ?_
  rintro e E ⟨rfl,q⟩
  have d:mD (Sd.mk 1 k m rc dn sd needs offs S T) b _ [] 10:=.short u I D
  exact ⟨(Sd.mk 1 k m rc dn sd _ offs S T),[],10,_,p,o,_,0,I,(t.same q).fF none,d,f.next d f.sk,I,I,I,I,I,I⟩
 rcases W4 k 4 with Q | Q
 .refine (Pk A c its bg NA g S OA h T (kR sd AN needs x NA (aH [] S) g) (kR sd AO offs B OA (aH [] T) h) o r dn _ m p y k b w (t.aR (j:=0) I η) (mV _ _ _ _ _ _ _) (mV _ _ _ _ _ _ _) D L F).mono ?_
  rintro e E ⟨rfl,q⟩
  have d:mD (Sd.mk 1 k m rc dn sd _ offs S T) b (Sd.mk 2 k [] rc dn sd needs offs S T) m 0:=.more I D (by show k≠4; omega) (by show k≠5; omega)
  exact ⟨_,m,0,_,0,k,_,p,by rw [show decide _=false from AHe U]; rfl,(((t.same q).fF none).pick [1,0] I I),d,f.next d (λ_=>I),I,I,I,I,I,I⟩
 .refine (Pk A c its bg NA g S OA h T (kR sd AN needs x NA (aH [] S) g) (kR sd AO offs B OA (aH [] T) h) o r dn _ m p y k b w (t.aR (j:=0) I η) (mV _ _ _ _ _ _ _) (mV _ _ _ _ _ _ _) D L F).mono ?_
  rintro e E ⟨rfl,q⟩
  have d:mD (Sd.mk 1 k m rc dn sd _ offs S T) b (Sd.mk 0 k [] rc dn sd needs offs S T) m 0:=.last I D (by show k=4\/k=5; omega)
  exact ⟨_,m,0,_,0,k,_,p,by rw [show decide _=true from ADd Q]; rfl,(((t.same q).fF none).pick [1,0] I I),d,f.next d (λ_=>I),I,I,I,I,I,I⟩
abbrev J9(a b):=V a dY b
abbrev I3(a b c):=Y (0+(bB 1 (cH (bO a))).length+(fO b c).length+(bB 3 (dO a b 4 4 0)).length+(bB 3 (dO a b 4 4 1)).length+(bB 3 (dO a b 4 4 2)).length+(aE 5).length)
theorem aaA(A c a A2 c2 b)(bd k n:Nat)(na oa nb ob w)(r0:Rf [] w (eG))(r1:Rf [] w (λw=>aI w A (SS a)))(r2:Rf [] w (λw=>aI w A2 (SS b)))(H:dD a)(K:dD b)(L:a.length<=40)(af:b.length<=40)(a2:iA (bO a) (bO b)=k)(hk:k<=500)(b1:kW ((k+k / 2:Nat):Int)=(n:Int))(hz:fI (n:Int)=true)(bx:n<=600)(br:((fZ a n).sub (fZ b n)).keys=none)(hK:Mx a b 4 4 3)(b5:(bB 1 (cH (bO a))).length+(fO b n).length+(bB 3 (dO a b 4 4 0)).length+(bB 3 (dO a b 4 4 1)).length+(bB 3 (dO a b 4 4 2)).length+(aE 5).length<=bd)(b3:bd<=1099511627776)(bg:aH [] ((cE a b 4 4 1 3).1)=na)(bh:aH [] ((cE a b 4 4 1 3).2)=oa)(bi:aH [] ((cE a b 4 4 0 3).1)=nb)(bj:aH [] ((cE a b 4 4 0 3).2)=ob)(bz:na.Pairwise (· < ·))(b0:nb.Pairwise (· < ·)):
  Θ 18 #[(V A a c),(V A2 b c2),(Y bd)] w λe w'=>∃ (B1:Δ) (a8:Nat) (B2:Δ) (a9 b2:Nat),e = .returned (.tuple #[(V B1 (fA oa nb) a8),(V B2 (fA ob na) a9),(Y b2),bT,(C 0)])/\aN [] w [cS B1 (fA oa nb) a8,cS B2 (fA ob na) a9] w':=by
 refine kN Tryz.func18 83 (B3 w) I<|Nc<|G I<|Nf<|aT ?_
 have bs:eM a=0:=qJ U H
 have bt:eM b=0:=qJ U K
 have az:=H.1
 have a0:=K.1
 have bk:=rJ (nA az).all
 rw [mA] at bk
 obtain ⟨q1,u1,s1,e1⟩:=DP (k:=1) (D:=cH (bO a)) U U
 obtain ⟨q2,p2,u2,s2,d2,e2⟩:=YT a0 hz
 have bu:(dO a b 4 4 0).length<=1048576:=by rw [show dO a b 4 4 0=bK (O6 a) from I,Dz L]; omega
 have bf:=hK.go 0 U
 obtain ⟨q3,u3,s3,e3⟩:=DP (k:=3) (D:=dO a b 4 4 0) U U
 have bv:(dO a b 4 4 1).length<=1048576:=Bi _ _ _ _
 have a3:=hK.go 1 U
 obtain ⟨q4,u4,s4,e4⟩:=DP (k:=3) (D:=dO a b 4 4 1) U U
 have bw:(dO a b 4 4 2).length<=1048576:=Bi _ _ _ _
 have a4:=hK.go 2 U
 obtain ⟨q5,u5,s5,e5⟩:=DP (k:=3) (D:=dO a b 4 4 2) U U
 have:=vY (k:=1) (D:=(cH (bO a))) U U
 have:=vY (k:=3) (D:=(dO a b 4 4 0)) U U
 have:=vY (k:=3) (D:=(dO a b 4 4 1)) U U
 have:=vY (k:=3) (D:=(dO a b 4 4 2)) U U
 have:=eY 5 U
 obtain ⟨q6,u6,e6⟩:=YS (k:=5) U
 have b4:(fO b n).length<=200100:=GR (wP (rI a0 n) (by rw [jW]; exact (jQ hz).2.1) _)
 refine aF<|G rfl<|M (C8 bd)<|Na<|fD rfl si<|Ni<|G rfl<|R<|Ck (λw d=>Dt A c a w (r0.aX d) (r1.aX d) U (bs) U) λo A122 f g A222 p r x Am22 ah=>G I<|Ne<|G rfl<|lF<|Nn<|aF<|G rfl<|R<|iR (λw d=>(GO A2 c2 b w (r0.aX d) (r2.aX d) U (bt) U).mono ?_)
 rintro e w' ⟨z,A130,l,m,A230,q,s,y,rfl,hP⟩
 refine ⟨_,_,I,hP,?_⟩; clear hP d
 refine G I<|Ne<|G rfl<|lF<|Nn<|aT<|St.fact (λw d=>nH (d.at (i:=3) I)) (λaq=>St.fact (λw d=>nH (d.at (i:=10) I)) (λar=>?_))
 refine xd ?_
 refine aF<|G rfl<|Ng<|GQ 7<|rL<|aT<|fY<|Nc<|G rfl<|lw (Y bd) (jT (bd:Int) rfl rfl rfl U U U)<|R<|eF [0] (λw d hO=>zG o (V A122 a f) bT bF bF (Z g 0) bF nS nS 1 Am22 ah (bB 1 (cH (bO a))) bd w hO U (by decide))<|G I<|Ne<|G I<|lF<|Nn<|aF<|G I<|M (Y ((bB 1 (cH (bO a))).length))<|lw (Y (0+(bB 1 (cH (bO a))).length)) bN<|G I<|Nb<|G I ?_
 refine R<|fT [7,11,12] _ (λw d hO=>(xI z A130 l b false 0 none 0 none 0 none 0 false false m A230 q s y ((cE a b 4 4 0 0).1) ((cE a b 4 4 0 0).2) Am22 ah (bB 1 (cH (bO a))) (Sd.mk 1 2 (fO b n) true false false [] [] ((cE a b 4 4 0 0).1) ((cE a b 4 4 0 0).2)) 0 w hO (r0.bJ d [7,11,12]) (d.fX [7,11,12] (j:=8) I (λ_ h=>aI.bM h)) (d.fX [7,11,12] (j:=6) I (λ_ h=>aI.bM h)) (((d.fX [7,11,12] (j:=9) I η).and (d.fX [7,11,12] (j:=10) I (λ_ h=>aI.bM h))).imp (λ_ h=>⟨h.1,h.2⟩)) (.tab I u1 I I (by rw [s1]; exact Ig (nA az) (mA a)) e1 (by rw [a2]; exact hk) (by rw [a2]; exact b1) hz) U (λu q' F e=>by rw [u1] at F; cases F; cases e) (λq' t F=>by rw [u1] at F; cases F) (λh=>absurd h (by decide)) (K) (af) (ar) (by have h9:=(qM (fan:=4) (leaf:=4) (par:=0) H K L af 0).1; omega) (by have h9:=(qM (fan:=4) (leaf:=4) (par:=0) H K L af 0).2; omega)).mono ?_)
 rintro e w' ⟨Am256r0,ai,An256r0,O,Ao256r0,W,rfl,hP⟩
 refine ⟨_,[_,_,_],_,I,hP,I,?_⟩; clear hP d hO
 refine St.mem (cs':=[aD o 68 [(V A122 a f),bT,(C 2),(Y 1),nS,bF,bF,(Z g 0),bF,nS,nS],cS A122 a f,aD g 113 [(V A222 a p),(Y 4),(Y 4),(.map (some r)),(.map (some x))],cS A222 a p,aP r ((cE a b 4 4 1 0).1),aP x ((cE a b 4 4 1 0).2),cB Am22 (bB 1 (cH (bO a))) ah,aD z 68 [(V A130 b l),bF,(C 1),(Y 2),(V Am256r0 (fO b n) ai),bT,bF,(Z m 0),bF,(J9 An256r0 O),(J9 Ao256r0 W)],cS A130 b l,aD m 113 [(V A230 b q),(Y 4),(Y 4),(.map (some s)),(.map (some y))],cS A230 b q,aP s (((cE a b 4 4 0 0).1)),aP y (((cE a b 4 4 0 0).2)),bI Am256r0 (B8 (fO b n))]) (κ [0,1,2,3,4,5,6,7,8,9,10,11,12,15] I I)<|G rfl<|Nb<|G rfl<|lF<|Nu<|Nw<|aF<|G rfl<|Na<|rL<|aT<|fY<|Nc<|G rfl<|lw (Y (bd - (0+(bB 1 (cH (bO a))).length))) (zP rfl rfl rfl U U)<|R<|eF [7] (λw d hO=>zG z (V A130 b l) bF bT bF (Z m 0) bF (J9 An256r0 O) (J9 Ao256r0 W) 2 Am256r0 ai (fO b n) (bd - (0+(bB 1 (cH (bO a))).length)) w hO U (by decide))<|G I<|Ne<|G I<|lF<|Nn<|aF ?_
 refine G I<|M (Y ((fO b n).length))<|lw (Y (0+(bB 1 (cH (bO a))).length+(fO b n).length)) bN<|G rfl<|Nb<|G rfl<|R<|fT [0,4,5] _ (λw d hO=>(xI o A122 f a true 1 none 0 none 0 none 0 false false g A222 p r x ((cE a b 4 4 1 0).1) ((cE a b 4 4 1 0).2) Am256r0 ai (fO b n) (Sd.mk 1 3 (bB 3 (bK (O6 a))) true false false [] [] ((cE a b 4 4 1 0).1) ((cE a b 4 4 1 0).2)) 0 w hO (r0.bJ d [0,4,5]) (d.fX [0,4,5] (j:=1) I (λ_ h=>aI.bM h)) (d.fX [0,4,5] (j:=13) I (λ_ h=>kO h)) (((d.fX [0,4,5] (j:=2) I η).and (d.fX [0,4,5] (j:=3) I (λ_ h=>aI.bM h))).imp (λ_ h=>⟨h.1,h.2⟩)) (.dif0 I u2 I I (by rw [s2]; exact d2) (by rw [s2]; exact e2) (zC b n) (by rw [s2]; unfold nM; rw [jW,br])) U (λu q' F e=>by rw [u2] at F; cases F; cases e) (λq' t F a5=>by rw [u2] at F; cases F; rw [s2] at a5; rw [d2] at a5; cases a5; rw [jW]; exact bx) (λh=>absurd h (by decide)) (H) (L) (aq) (by have h9:=(qM (fan:=4) (leaf:=4) (par:=1) H K L af 0).1; omega) (by have h9:=(qM (fan:=4) (leaf:=4) (par:=1) H K L af 0).2; omega)).mono ?_)
 rintro e w' ⟨Am256r1,aj,An256r1,P,Ao256r1,X,rfl,hP⟩
 refine ⟨_,[_,_,_],_,I,hP,I,?_⟩; clear hP d hO
 refine St.mem (cs':=[aD o 68 [(V A122 a f),bT,(C 1),(Y 3),(V Am256r1 (bB 3 (bK (O6 a))) aj),bT,bF,(Z g 0),bF,(J9 An256r1 P),(J9 Ao256r1 X)],cS A122 a f,aD g 113 [(V A222 a p),(Y 4),(Y 4),(.map (some r)),(.map (some x))],cS A222 a p,aP r (((cE a b 4 4 1 0).1)),aP x (((cE a b 4 4 1 0).2)),cB Am22 (bB 1 (cH (bO a))) ah,aD z 68 [(V A130 b l),bF,(C 2),(Y 2),nS,bT,bF,(Z m 0),bF,(J9 An256r0 O),(J9 Ao256r0 W)],cS A130 b l,aD m 113 [(V A230 b q),(Y 4),(Y 4),(.map (some s)),(.map (some y))],cS A230 b q,aP s (((cE a b 4 4 0 0).1)),aP y (((cE a b 4 4 0 0).2)),bI Am256r0 (B8 (fO b n)),bI Am256r1 (B8 (bB 3 (bK (O6 a))))]) (κ [0,1,2,3,4,5,6,7,8,9,10,11,12,13,16] I I) ?_
 rw [show bK (O6 a)=dO a b 4 4 0 from I]
 refine G I<|Nb<|G I<|lF<|Nu<|Nw<|aF<|G I<|Na ?_
 have ap:=qM (fan:=4) (leaf:=4) (par:=0) H K L af 0
 have bl:((cE a b 4 4 0 0).1).length<=549755813888:=by have h9:=ap.1; omega
 have bo:((cE a b 4 4 0 0).2).length<=549755813888:=by have h9:=ap.2; omega
 refine rL<|aT<|fY<|Nc<|G rfl<|lw (Y (bd - (0+(bB 1 (cH (bO a))).length+(fO b n).length))) (zP rfl rfl rfl U U)<|R<|eF [0] (λw d hO=>zG o (V A122 a f) bT bT bF (Z g 0) bF (J9 An256r1 P) (J9 Ao256r1 X) 3 Am256r1 aj (bB 3 (dO a b 4 4 0)) (bd - (0+(bB 1 (cH (bO a))).length+(fO b n).length)) w hO U (by decide))<|G rfl<|Ne<|G rfl<|lF<|Nn<|aF<|G rfl<|M (Y ((bB 3 (dO a b 4 4 0)).length))<|lw (Y (0+(bB 1 (cH (bO a))).length+(fO b n).length+(bB 3 (dO a b 4 4 0)).length)) bN<|G rfl<|Nb<|G rfl<|R<|fT [7,11,12] _ (λw d hO=>(xI z A130 l b false 2 none 0 An256r0 O Ao256r0 W true false m A230 q s y ((cE a b 4 4 0 0).1) ((cE a b 4 4 0 0).2) Am256r1 aj (bB 3 (dO a b 4 4 0)) (Sd.mk 1 3 (bB 3 (bC b 4 4 q3.rest.1).reply) true false false [] [] (((cE a b 4 4 0 0).1)++(bC b 4 4 q3.rest.1).need) (((cE a b 4 4 0 0).2)++(bC b 4 4 q3.rest.1).off)) 0 w hO (r0.bJ d [7,11,12]) (d.fX [7,11,12] (j:=8) I (λ_ h=>aI.bM h)) (d.fX [7,11,12] (j:=14) I (λ_ h=>kO h)) (((d.fX [7,11,12] (j:=9) I η).and (d.fX [7,11,12] (j:=10) I (λ_ h=>aI.bM h))).imp (λ_ h=>⟨h.1,h.2⟩)) (.step I u3 (by show 2≠0; decide) e3 (by rw [s3]; exact bf.1) (by rw [s3]; exact bf.2) (by rw [s3]; exact a3.1)) U (λu q' F _=>by rw [u3] at F; cases F; rw [s3]; exact bu) (λq' t F=>by rw [u3] at F; cases F) (λh=>absurd h (by decide)) (K) (af) (ar) (bl) (bo)).mono ?_)
 rintro e w' ⟨Am256r2,ak,An256r2,Q,Ao256r2,ab,rfl,hP⟩
 refine ⟨_,[_,_,_],_,I,hP,I,?_⟩; clear hP d hO
 refine St.mem (cs':=[aD o 68 [(V A122 a f),bT,(C 2),(Y 3),nS,bT,bF,(Z g 0),bF,(J9 An256r1 P),(J9 Ao256r1 X)],cS A122 a f,aD g 113 [(V A222 a p),(Y 4),(Y 4),(.map (some r)),(.map (some x))],cS A222 a p,aP r (((cE a b 4 4 1 0).1)),aP x (((cE a b 4 4 1 0).2)),cB Am22 (bB 1 (cH (bO a))) ah,aD z 68 [(V A130 b l),bF,(C 1),(Y 3),(V Am256r2 (bB 3 (bC b 4 4 q3.rest.1).reply) ak),bT,bF,(Z m 0),bF,(J9 An256r2 Q),(J9 Ao256r2 ab)],cS A130 b l,aD m 113 [(V A230 b q),(Y 4),(Y 4),(.map (some s)),(.map (some y))],cS A230 b q,aP s ((((cE a b 4 4 0 0).1)++(bC b 4 4 q3.rest.1).need)),aP y ((((cE a b 4 4 0 0).2)++(bC b 4 4 q3.rest.1).off)),bI Am256r0 (B8 (fO b n)),bI Am256r1 (B8 (bB 3 (dO a b 4 4 0))),bI Am256r2 (B8 (bB 3 (bC b 4 4 q3.rest.1).reply))]) (κ [0,1,2,3,4,5,6,7,8,9,10,11,12,13,14,17] I I) ?_
 rw [show bC b 4 4 q3.rest.1=iZ a b 4 4 0 from by rw [s3]; rfl]
 rw [show (iZ a b 4 4 0).reply=dO a b 4 4 1 from I]
 rw [show ((cE a b 4 4 0 0).1)++(iZ a b 4 4 0).need=(cE a b 4 4 0 1).1 from by rw [zQ (j:=0) (by decide)]]
 rw [show (cE a b 4 4 1 0).1=(cE a b 4 4 1 1).1 from by rw [zR (j:=0) (by decide)]]
 rw [show ((cE a b 4 4 0 0).2)++(iZ a b 4 4 0).off=(cE a b 4 4 0 1).2 from by rw [zQ (j:=0) (by decide)]]
 rw [show (cE a b 4 4 1 0).2=(cE a b 4 4 1 1).2 from by rw [zR (j:=0) (by decide)]]
 refine G I<|Nb<|G I<|lF<|Nu<|Nw<|aF<|G I<|Na ?_
 have ap:=qM (fan:=4) (leaf:=4) (par:=1) H K L af 1
 have bm:((cE a b 4 4 1 1).1).length<=549755813888:=by have h9:=ap.1; omega
 have bp:((cE a b 4 4 1 1).2).length<=549755813888:=by have h9:=ap.2; omega
 refine rL<|aT<|fY<|Nc<|G rfl<|lw (Y (bd - (0+(bB 1 (cH (bO a))).length+(fO b n).length+(bB 3 (dO a b 4 4 0)).length))) (zP rfl rfl rfl U U)<|R<|eF [7] (λw d hO=>zG z (V A130 b l) bF bT bF (Z m 0) bF (J9 An256r2 Q) (J9 Ao256r2 ab) 3 Am256r2 ak (bB 3 (dO a b 4 4 1)) (bd - (0+(bB 1 (cH (bO a))).length+(fO b n).length+(bB 3 (dO a b 4 4 0)).length)) w hO U (by decide))<|G rfl<|Ne<|G rfl<|lF<|Nn<|aF<|G rfl<|M (Y ((bB 3 (dO a b 4 4 1)).length))<|lw (Y (0+(bB 1 (cH (bO a))).length+(fO b n).length+(bB 3 (dO a b 4 4 0)).length+(bB 3 (dO a b 4 4 1)).length)) bN<|G rfl<|Nb<|G rfl<|R<|fT [0,4,5] _ (λw d hO=>(xI o A122 f a true 3 none 0 An256r1 P Ao256r1 X true false g A222 p r x ((cE a b 4 4 1 1).1) ((cE a b 4 4 1 1).2) Am256r2 ak (bB 3 (dO a b 4 4 1)) (Sd.mk 1 3 (bB 3 (bC a 4 4 q4.rest.1).reply) true false false [] [] (((cE a b 4 4 1 1).1)++(bC a 4 4 q4.rest.1).need) (((cE a b 4 4 1 1).2)++(bC a 4 4 q4.rest.1).off)) 0 w hO (r0.bJ d [0,4,5]) (d.fX [0,4,5] (j:=1) I (λ_ h=>aI.bM h)) (d.fX [0,4,5] (j:=15) I (λ_ h=>kO h)) (((d.fX [0,4,5] (j:=2) I η).and (d.fX [0,4,5] (j:=3) I (λ_ h=>aI.bM h))).imp (λ_ h=>⟨h.1,h.2⟩)) (.step I u4 (by show 3≠0; decide) e4 (by rw [s4]; exact a3.1) (by rw [s4]; exact a3.2) (by rw [s4]; exact a4.1)) U (λu q' F _=>by rw [u4] at F; cases F; rw [s4]; exact bv) (λq' t F=>by rw [u4] at F; cases F) (λh=>absurd h (by decide)) (H) (L) (aq) (bm) (bp)).mono ?_)
 rintro e w' ⟨Am256r3,an,An256r3,S,Ao256r3,ad,rfl,hP⟩
 refine ⟨_,[_,_,_],_,I,hP,I,?_⟩; clear hP d hO
 refine St.mem (cs':=[aD o 68 [(V A122 a f),bT,(C 1),(Y 3),(V Am256r3 (bB 3 (bC a 4 4 q4.rest.1).reply) an),bT,bF,(Z g 0),bF,(J9 An256r3 S),(J9 Ao256r3 ad)],cS A122 a f,aD g 113 [(V A222 a p),(Y 4),(Y 4),(.map (some r)),(.map (some x))],cS A222 a p,aP r ((((cE a b 4 4 1 1).1)++(bC a 4 4 q4.rest.1).need)),aP x ((((cE a b 4 4 1 1).2)++(bC a 4 4 q4.rest.1).off)),cB Am22 (bB 1 (cH (bO a))) ah,aD z 68 [(V A130 b l),bF,(C 2),(Y 3),nS,bT,bF,(Z m 0),bF,(J9 An256r2 Q),(J9 Ao256r2 ab)],cS A130 b l,aD m 113 [(V A230 b q),(Y 4),(Y 4),(.map (some s)),(.map (some y))],cS A230 b q,aP s (((cE a b 4 4 0 1).1)),aP y (((cE a b 4 4 0 1).2)),bI Am256r0 (B8 (fO b n)),bI Am256r1 (B8 (bB 3 (dO a b 4 4 0))),bI Am256r2 (B8 (bB 3 (dO a b 4 4 1))),bI Am256r3 (B8 (bB 3 (bC a 4 4 q4.rest.1).reply))]) (κ [0,1,2,3,4,5,6,7,8,9,10,11,12,13,14,15,18] I I) ?_
 rw [show bC a 4 4 q4.rest.1=iZ a b 4 4 1 from by rw [s4]; rfl]
 rw [show (iZ a b 4 4 1).reply=dO a b 4 4 2 from I]
 rw [show ((cE a b 4 4 1 1).1)++(iZ a b 4 4 1).need=(cE a b 4 4 1 2).1 from by rw [zQ (j:=1) (by decide)]]
 rw [show (cE a b 4 4 0 1).1=(cE a b 4 4 0 2).1 from by rw [zR (j:=1) (by decide)]]
 rw [show ((cE a b 4 4 1 1).2)++(iZ a b 4 4 1).off=(cE a b 4 4 1 2).2 from by rw [zQ (j:=1) (by decide)]]
 rw [show (cE a b 4 4 0 1).2=(cE a b 4 4 0 2).2 from by rw [zR (j:=1) (by decide)]]
 refine G I<|Nb<|G I<|lF<|Nu<|Nw<|aF<|G I<|Na ?_
 have ap:=qM (fan:=4) (leaf:=4) (par:=0) H K L af 2
 have bn:((cE a b 4 4 0 2).1).length<=549755813888:=by have h9:=ap.1; omega
 have bq:((cE a b 4 4 0 2).2).length<=549755813888:=by have h9:=ap.2; omega
 refine rL<|aT<|fY<|Nc<|G rfl<|lw (Y (bd - (0+(bB 1 (cH (bO a))).length+(fO b n).length+(bB 3 (dO a b 4 4 0)).length+(bB 3 (dO a b 4 4 1)).length))) (zP rfl rfl rfl U U)<|R<|eF [0] (λw d hO=>zG o (V A122 a f) bT bT bF (Z g 0) bF (J9 An256r3 S) (J9 Ao256r3 ad) 3 Am256r3 an (bB 3 (dO a b 4 4 2)) (bd - (0+(bB 1 (cH (bO a))).length+(fO b n).length+(bB 3 (dO a b 4 4 0)).length+(bB 3 (dO a b 4 4 1)).length)) w hO U (by decide))<|G rfl<|Ne<|G rfl<|lF<|Nn<|aF<|G rfl<|M (Y ((bB 3 (dO a b 4 4 2)).length))<|lw (Y (0+(bB 1 (cH (bO a))).length+(fO b n).length+(bB 3 (dO a b 4 4 0)).length+(bB 3 (dO a b 4 4 1)).length+(bB 3 (dO a b 4 4 2)).length)) bN<|G rfl<|Nb<|G rfl<|R<|fT [7,11,12] _ (λw d hO=>(xI z A130 l b false 3 none 0 An256r2 Q Ao256r2 ab true false m A230 q s y ((cE a b 4 4 0 2).1) ((cE a b 4 4 0 2).2) Am256r3 an (bB 3 (dO a b 4 4 2)) (Sd.mk 1 5 (aE 5) true true false [] [] (((cE a b 4 4 0 2).1)++(bC b 4 4 q5.rest.1).need) (((cE a b 4 4 0 2).2)++(bC b 4 4 q5.rest.1).off)) 0 w hO (r0.bJ d [7,11,12]) (d.fX [7,11,12] (j:=8) I (λ_ h=>aI.bM h)) (d.fX [7,11,12] (j:=16) I (λ_ h=>kO h)) (((d.fX [7,11,12] (j:=9) I η).and (d.fX [7,11,12] (j:=10) I (λ_ h=>aI.bM h))).imp (λ_ h=>⟨h.1,h.2⟩)) (.stop I u5 (by show 3≠0; decide) e5 (by rw [s5]; exact a4.1) (by rw [s5]; exact a4.2) (by rw [s5]; exact hK.stop)) U (λu q' F _=>by rw [u5] at F; cases F; rw [s5]; exact bw) (λq' t F=>by rw [u5] at F; cases F) (λh=>absurd h (by decide)) (K) (af) (ar) (bn) (bq)).mono ?_)
 rintro e w' ⟨Am256r4,ao,An256r4,B,Ao256r4,E,rfl,hP⟩
 refine ⟨_,[_,_,_],_,I,hP,I,?_⟩; clear hP d hO
 refine St.mem (cs':=[aD o 68 [(V A122 a f),bT,(C 2),(Y 3),nS,bT,bF,(Z g 0),bF,(J9 An256r3 S),(J9 Ao256r3 ad)],cS A122 a f,aD g 113 [(V A222 a p),(Y 4),(Y 4),(.map (some r)),(.map (some x))],cS A222 a p,aP r (((cE a b 4 4 1 2).1)),aP x (((cE a b 4 4 1 2).2)),cB Am22 (bB 1 (cH (bO a))) ah,aD z 68 [(V A130 b l),bF,(C 1),(Y 5),(V Am256r4 (aE 5) ao),bT,bT,(Z m 0),bF,(J9 An256r4 B),(J9 Ao256r4 E)],cS A130 b l,aD m 113 [(V A230 b q),(Y 4),(Y 4),(.map (some s)),(.map (some y))],cS A230 b q,aP s ((((cE a b 4 4 0 2).1)++(bC b 4 4 q5.rest.1).need)),aP y ((((cE a b 4 4 0 2).2)++(bC b 4 4 q5.rest.1).off)),bI Am256r0 (B8 (fO b n)),bI Am256r1 (B8 (bB 3 (dO a b 4 4 0))),bI Am256r2 (B8 (bB 3 (dO a b 4 4 1))),bI Am256r3 (B8 (bB 3 (dO a b 4 4 2))),bI Am256r4 (B8 (aE 5))]) (κ [0,1,2,3,4,5,6,7,8,9,10,11,12,13,14,15,16,19] I I) ?_
 rw [show bC b 4 4 q5.rest.1=iZ a b 4 4 2 from by rw [s5]; rfl]
 rw [show ((cE a b 4 4 0 2).1)++(iZ a b 4 4 2).need=(cE a b 4 4 0 3).1 from by rw [zQ (j:=2) (by decide)]]
 rw [show (cE a b 4 4 1 2).1=(cE a b 4 4 1 3).1 from by rw [zR (j:=2) (by decide)]]
 rw [show ((cE a b 4 4 0 2).2)++(iZ a b 4 4 2).off=(cE a b 4 4 0 3).2 from by rw [zQ (j:=2) (by decide)]]
 rw [show (cE a b 4 4 1 2).2=(cE a b 4 4 1 3).2 from by rw [zR (j:=2) (by decide)]]
 refine G I<|Nb<|G rfl<|lF<|Nu<|Nw<|aF<|G rfl<|Na<|rL<|aT<|fY<|Nc<|G rfl<|lw (Y (bd - (0+(bB 1 (cH (bO a))).length+(fO b n).length+(bB 3 (dO a b 4 4 0)).length+(bB 3 (dO a b 4 4 1)).length+(bB 3 (dO a b 4 4 2)).length))) (zP rfl rfl rfl U U)<|R<|eF [7] (λw d hO=>MF z (V A130 b l) bF bT bT (Z m 0) bF (J9 An256r4 B) (J9 Ao256r4 E) 5 Am256r4 ao (aE 5) (bd - (0+(bB 1 (cH (bO a))).length+(fO b n).length+(bB 3 (dO a b 4 4 0)).length+(bB 3 (dO a b 4 4 1)).length+(bB 3 (dO a b 4 4 2)).length)) w hO U (by decide))<|G I<|Ne<|G I<|lF<|Nn<|aF<|G I ?_
 refine M (Y ((aE 5).length))<|lw (I3 a b n) bN<|G rfl<|Nb<|G rfl<|R<|fT [0,4,5] _ (λw d hO=>(xI o A122 f a true 3 none 0 An256r3 S Ao256r3 ad true false g A222 p r x ((cE a b 4 4 1 3).1) ((cE a b 4 4 1 3).2) Am256r4 ao (aE 5) (Sd.mk 0 3 ([]) true true false [] [] (((cE a b 4 4 1 3).1)) (((cE a b 4 4 1 3).2))) 0 w hO (r0.bJ d [0,4,5]) (d.fX [0,4,5] (j:=1) I (λ_ h=>aI.bM h)) (d.fX [0,4,5] (j:=17) I (λ_ h=>kO h)) (((d.fX [0,4,5] (j:=2) I η).and (d.fX [0,4,5] (j:=3) I (λ_ h=>aI.bM h))).imp (λ_ h=>⟨h.1,h.2⟩)) (.fin I u6 e6 I) U (λu q' F e=>by rw [u6] at F; cases F; cases e) (λq' t F=>by rw [u6] at F; cases F) (λh=>absurd h (by decide)) (H) (L) (aq) (by have h9:=(qM (fan:=4) (leaf:=4) (par:=1) H K L af 3).1; omega) (by have h9:=(qM (fan:=4) (leaf:=4) (par:=1) H K L af 3).2; omega)).mono ?_)
 rintro e w' ⟨Am256r5,N,An256r5,T,Ao256r5,ae,rfl,hP⟩
 refine ⟨_,[_,_,_],_,I,hP,I,?_⟩; clear hP d hO
 refine St.mem (cs':=[aD o 68 [(V A122 a f),bT,(C 0),(Y 3),(V Am256r5 bG N),bT,bT,(Z g 0),bF,(J9 An256r5 T),(J9 Ao256r5 ae)],cS A122 a f,aD g 113 [(V A222 a p),(Y 4),(Y 4),(.map (some r)),(.map (some x))],cS A222 a p,aP r ((((cE a b 4 4 1 3).1))),aP x ((((cE a b 4 4 1 3).2))),cB Am22 (bB 1 (cH (bO a))) ah,aD z 68 [(V A130 b l),bF,(C 0),(Y 5),nS,bT,bT,(Z m 0),bF,(J9 An256r4 B),(J9 Ao256r4 E)],cS A130 b l,aD m 113 [(V A230 b q),(Y 4),(Y 4),(.map (some s)),(.map (some y))],cS A230 b q,aP s (((cE a b 4 4 0 3).1)),aP y (((cE a b 4 4 0 3).2)),bI Am256r0 (B8 (fO b n)),bI Am256r1 (B8 (bB 3 (dO a b 4 4 0))),bI Am256r2 (B8 (bB 3 (dO a b 4 4 1))),bI Am256r3 (B8 (bB 3 (dO a b 4 4 2))),bI Am256r4 (B8 (aE 5))]) (κ [0,1,2,3,4,5,6,7,8,9,10,11,12,13,14,15,16,17] I I)<|G rfl<|Nb<|G rfl<|lF<|Nu<|Nw<|aF<|G rfl<|Na<|rL<|aT<|fY<|Nc<|G rfl<|lw (Y (bd - (0+(bB 1 (cH (bO a))).length+(fO b n).length+(bB 3 (dO a b 4 4 0)).length+(bB 3 (dO a b 4 4 1)).length+(bB 3 (dO a b 4 4 2)).length+(aE 5).length))) (zP rfl rfl rfl U U)<|R<|bV (λw d=>MG o (V A122 a f) bT (Y 3) (V Am256r5 bG N) bT bT (Z g 0) bF (J9 An256r5 T) (J9 Ao256r5 ae) (bd - (0+(bB 1 (cH (bO a))).length+(fO b n).length+(bB 3 (dO a b 4 4 0)).length+(bB 3 (dO a b 4 4 1)).length+(bB 3 (dO a b 4 4 2)).length+(aE 5).length)) w (d.aR (j:=0) I η))<|G I<|Ne<|G I<|lT<|Nt<|pJ ?_
 refine jB<|uS I<|jB<|jB<|kL<|aJ<|aT ?_
 have aw:=qM (fan:=4) (leaf:=4) (par:=1) H K L af 3
 have au:=qM (fan:=4) (leaf:=4) (par:=0) H K L af 3
 refine aF<|G rfl<|R<|dC (λw d=>Bk o (V A122 a f) bT (C 0) (Y 3) (V Am256r5 bG N) bT bT (J9 An256r5 T) (J9 Ao256r5 ae) g A222 p a r x ((cE a b 4 4 1 3).2) w (d.aR (j:=0) I η) (d.aR (j:=2) I η) (d.aR (j:=5) I η) (P8 aw.2 U)) λB61 ba=>?_
 rw [show aH [] ((cE a b 4 4 1 3).2)=oa from bh]
 refine G I<|R<|dC (λw d=>Bj z (V A130 b l) bF (C 0) (Y 5) nS bT bT (J9 An256r4 B) (J9 Ao256r4 E) m A230 q b s y ((cE a b 4 4 0 3).1) w (d.aR (j:=7) I η) (d.aR (j:=9) I η) (d.aR (j:=11) I η) (P8 au.1 U)) λB63 bb=>?_
 rw [show aH [] ((cE a b 4 4 0 3).1)=nb from bi]
 refine R<|dC (λw d=>Dj B61 ba oa B63 bb nb w (d.aR (j:=18) I (λ_ h=>aI.bM h)) (d.aR (j:=19) I (λ_ h=>aI.bM h)) (by rw [<- bh]; exact P8 (P8 (wT _ []) si) (P8 aw.2 U)) (b0) (by rw [<- bi]; exact P8 (P8 (wT _ []) si) (P8 au.1 U))) λB64 ax=>G I<|R<|dC (λw d=>Bk z (V A130 b l) bF (C 0) (Y 5) nS bT bT (J9 An256r4 B) (J9 Ao256r4 E) m A230 q b s y ((cE a b 4 4 0 3).2) w (d.aR (j:=7) I η) (d.aR (j:=9) I η) (d.aR (j:=12) I η) (P8 au.2 U)) λB66 bc=>?_
 rw [show aH [] ((cE a b 4 4 0 3).2)=ob from bj]
 refine G I<|R<|dC (λw d=>Bj o (V A122 a f) bT (C 0) (Y 3) (V Am256r5 bG N) bT bT (J9 An256r5 T) (J9 Ao256r5 ae) g A222 p a r x ((cE a b 4 4 1 3).1) w (d.aR (j:=0) I η) (d.aR (j:=2) I η) (d.aR (j:=4) I η) (P8 aw.1 U)) λB68 be=>?_
 refine xd ?_
 rw [show aH [] ((cE a b 4 4 1 3).1)=na from bg]
 refine R<|dC (λw d=>Dj B66 bc ob B68 be na w (d.aR (j:=21) I (λ_ h=>aI.bM h)) (d.aR (j:=22) I (λ_ h=>aI.bM h)) (by rw [<- bj]; exact P8 (P8 (wT _ []) si) (P8 au.2 U)) (bz) (by rw [<- bg]; exact P8 (P8 (wT _ []) si) (P8 aw.1 U))) λB69 ay=>G I ?_
 refine Nf ?_
 refine dN _ 18 J η ?_
 refine am 0 ?_
 refine am 1 ?_
 refine am 2 ?_
 refine am 3 ?_
 refine aC 4 (Z o 0) I<|aC 5 (Z o 6) I<|al 6 0 ?_
 refine am 7 ?_
 refine fQ 8 ?_
 refine aG 9 (Z z 0) I<|aG 10 (Z z 6) I<|aW 11 bT I (bW 7 I I J I I)<|aC 12 bT I<|aa 13 ?_
 refine aa 14 ?_
 refine aa 15 ?_
 refine aa 16 ?_
 refine aa 17 ?_
 exact cG J<|aJ<|gW<|sN [(V B64 (fA oa nb) ax),(V B69 (fA ob na) ay),(I3 a b n),bT,(C 0)] λw d=>⟨B64,ax,B69,ay,(0+(bB 1 (cH (bO a))).length+(fO b n).length+(bB 3 (dO a b 4 4 0)).length+(bB 3 (dO a b 4 4 1)).length+(bB 3 (dO a b 4 4 2)).length+(aE 5).length),I,(d.pick [20,23] I I)⟩
theorem aaB(A c a w)(K:Rf [] w (eG))(O:Rf [] w (λw=>aI w A (SS a)))(z:dD a)(N:a.length<=40):
  Θ 18 #[(V A a c),nS,(C 0)] w λe L=>∃ (P Q:Ω),e = .returned (.tuple #[P,Q,(C 0),bF,(C 0)])/\aN [] w [] L:=by
 refine kN Tryz.func18 83 (B3 w) I<|Nc<|G I<|Nf<|aT ?_
 have x:eM a=0:=qJ U z
 have y:eM dY=0:=by decide
 refine aF<|G rfl<|lF<|Nn<|aF<|G rfl<|R<|Ck (λw b=>Dt A c a w (K.aX b) (O.aX b) U (x) U) λd A122 B o A222 g k m Am22 u=>G I<|Ne<|G rfl<|lF<|Nn<|aF<|G rfl<|R<|iR (λw b=>(GO none 0 dY w (K.aX b) Mg (by decide) (y) (by decide)).mono ?_)
 rintro e L ⟨f,A130,D,p,A230,i,l,n,rfl,H⟩
 refine ⟨_,_,I,H,?_⟩; clear H b
 refine G I<|Ne<|G rfl<|lF<|Nn<|Nc<|G rfl<|Ng<|GQ 1<|rL<|aT<|fY<|Nc<|G rfl<|lw (Y 0) (jT _ rfl rfl rfl U U U)<|R<|bV (λw b=>GP d _ bT bF bF _ bF nS nS 1 Am22 u _ 0 w (b.aR (j:=0) I η) (by have S:=lV 1; simp only [bB,C3]; omega))<|G I<|Ne<|G I<|lT<|Nt<|pJ<|jB ?_
 refine uS I<|jB<|jB<|kL<|aJ<|Nc<|G rfl<|R<|dC (λw b=>Bk d _ bT (C 1) (Y 1) _ bF bF nS nS o A222 g a k m [] w (b.aR (j:=0) I η) (b.aR (j:=2) I η) (b.aR (j:=5) I η) (by decide)) λB61 q=>G I<|R<|dC (λw b=>Bj f _ bF _ (C 0) nS bF bF nS nS p A230 i dY l n [] w (b.aR (j:=7) I η) (b.aR (j:=9) I η) (b.aR (j:=11) I η) (by decide)) λB63 r=>R<|dC (λw b=>Dj B61 q (aH [] []) B63 r (aH [] []) w (b.aR (j:=13) I (λ_ h=>aI.bM h)) (b.aR (j:=14) I (λ_ h=>aI.bM h)) (by decide) (List.Pairwise.nil) (by decide)) λB64 E=>?_
 refine xd ?_
 refine G I<|R<|dC (λw b=>Bk f _ bF _ _ nS bF bF nS nS p A230 i dY l n [] w (b.aR (j:=7) I η) (b.aR (j:=9) I η) (b.aR (j:=12) I η) (by decide)) λB66 s=>G I<|R<|dC (λw b=>Bj d _ bT (C 1) (Y 1) _ bF bF nS nS o A222 g a k m [] w (b.aR (j:=0) I η) (b.aR (j:=2) I η) (b.aR (j:=4) I η) (by decide)) λB68 t=>R<|dC (λw b=>Dj B66 s (aH [] []) B68 t (aH [] []) w (b.aR (j:=16) I (λ_ h=>aI.bM h)) (b.aR (j:=17) I (λ_ h=>aI.bM h)) (by decide) (List.Pairwise.nil) (by decide)) λB69 F=>G I<|Nf<|dN _ 18 J η<|am 0 ?_
 refine am 1 ?_
 refine am 2 ?_
 refine am 3 ?_
 refine aC 4 (Z d 0) I<|aC 5 (Z d 6) I<|al 6 0 ?_
 refine am 7 ?_
 refine bR 8 ?_
 refine bR 9 ?_
 refine bR 10 ?_
 refine bR 11 ?_
 refine aC 12 bF I<|aa 13 ?_
 refine aa 14 ?_
 refine aa 15 ?_
 refine aa 16 ?_
 refine aa 17 ?_
 exact cG J<|aJ<|gW<|sN [_,_,_,bF,_] λw b=>⟨_,_,I,(b.pick [] I I)⟩
abbrev qA:List Bs:=[eU 65,eU 66]
abbrev qB:List Bs:=[eU 66,eU 67]
theorem rS:zJ qA qB 4 4:=⟨by decide +kernel,by decide +kernel,by decide,by decide,by decide,by decide,by decide,by decide⟩
theorem aaC:iA (bO qA) (bO qB)=2:=by decide +kernel
theorem aaD:iA (bO [eU 65]) (bO [eU 65])=0:=by decide +kernel
theorem aaE:((fZ qA 18).sub (fZ qB 18)).keys=none:=by
 have h:((fZ qA 18).sub (fZ qB 18)).raw.isNone=true:=by decide +kernel
 grind [BT.keys,Option.isNone_iff_eq_none]
theorem q_m1:iC qA qB 4 4 1=[⟨[],[],.list qB⟩]:=by kernel_rfl
theorem q_m2:iC qA qB 4 4 2=[⟨[],[],.ans [eU 65] [eU 67]⟩]:=by kernel_rfl
theorem q_m3:iC qA qB 4 4 3=[]:=by kernel_rfl
theorem okMsg1{p:AP}(h:p.ok)(a:follows [] p=true):CU [p]:=⟨by simp,by simpa using h,λk q b=>by
 match k,b with
 | 0,h=>cases h; exact a⟩
theorem qstep{m:List AP}(h:iC qA qB 4 4 j=m)(b:CU m)(c:iC qA qB 4 4 (j+1)=m2)(f:(bK m).length<=1048576/\(bK m2).length<=1048576)(d:dO qA qB 4 4 j=bK m):iZ qA qB 4 4 j=⟨bK m2,0,m.flatMap (iB (kP qA qB j)),m.flatMap (jD (kP qA qB j))⟩/\bK m≠[]:=by
 have a:bK m≠[]:=λe=>b.1 (MZ.1 e)
 refine ⟨?_,a⟩
 have e:fS (kP qA qB j) 4 4 m=m2:=by rw [<- c,<- h]; rfl
 unfold iZ bC
 rw [d,P4 a,FY b (by omega)]
 dsimp only
 rw [e,P4 (by omega)]
theorem q0:iZ qA qB 4 4 0=⟨bK [⟨[],[],.list qB⟩],0,(iC qA qB 4 4 0).flatMap (iB qB),(iC qA qB 4 4 0).flatMap (jD qB)⟩/\dO qA qB 4 4 0≠[] :=
 qstep I (okMsg1 ⟨⟨I,I,I⟩,by show _/\_; decide +kernel⟩ I) q_m1 (by decide +kernel) I
theorem q1:iZ qA qB 4 4 1=⟨bK [⟨[],[],.ans [eU 65] [eU 67]⟩],0,(iC qA qB 4 4 1).flatMap (iB qA),(iC qA qB 4 4 1).flatMap (jD qA)⟩/\dO qA qB 4 4 1≠[]:=by
 have e:dO qA qB 4 4 1=bK [⟨[],[],.list qB⟩]:=U0 GH.reply q0.1
 rw [q_m1,e]
 exact qstep q_m1 (okMsg1 ⟨⟨I,I,I⟩,by decide,(by unfold iV; decide),by decide +kernel⟩ I) q_m2 (by decide +kernel) e
theorem q2:iZ qA qB 4 4 2=⟨bK [],0,(iC qA qB 4 4 2).flatMap (iB qB),(iC qA qB 4 4 2).flatMap (jD qB)⟩/\dO qA qB 4 4 2≠[]:=by
 have e:dO qA qB 4 4 2=bK [⟨[],[],.ans [eU 65] [eU 67]⟩]:=U0 GH.reply q1.1
 rw [q_m2,e]
 exact qstep q_m2 (okMsg1 ⟨⟨I,I,I⟩,⟨by decide,(by unfold iV; decide),by decide +kernel⟩,by decide,(by unfold iV; decide),by decide +kernel⟩ I) q_m3 (by decide +kernel) e
theorem qends:Mx qA qB 4 4 3:=⟨λj a=>match j,a with
 | 0,_=>⟨q0.2,U0 GH.err q0.1⟩
 | 1,_=>⟨q1.2,U0 GH.err q1.1⟩
 | 2,_=>⟨q2.2,U0 GH.err q2.1⟩,U0 GH.reply q2.1,by omega⟩
theorem Ps:cE qA qB 4 4 1 3=((iC qA qB 4 4 1).flatMap (iB qA),(iC qA qB 4 4 1).flatMap (jD qA)):=by
 have e:cE qA qB 4 4 1 3=([]++(iZ qA qB 4 4 1).need,[]++(iZ qA qB 4 4 1).off):=by simp [cE]
 rw [e,q1.1]
 rfl
theorem Pt:cE qA qB 4 4 0 3=((iC qA qB 4 4 0).flatMap (iB qB)++(iC qA qB 4 4 2).flatMap (iB qB),(iC qA qB 4 4 0).flatMap (jD qB)++(iC qA qB 4 4 2).flatMap (jD qB)):=by
 have e:cE qA qB 4 4 0 3=(([]++(iZ qA qB 4 4 0).need)++(iZ qA qB 4 4 2).need,([]++(iZ qA qB 4 4 0).off)++(iZ qA qB 4 4 2).off):=by simp [cE]
 rw [e,q0.1,q2.1]
 rfl
theorem aaH:aH [] (cE qA qB 4 4 1 3).1=[eU 67]:=by rw [Ps]; decide +kernel
theorem aaI:aH [] (cE qA qB 4 4 1 3).2=[eU 65]:=by rw [Ps]; decide +kernel
theorem aaJ:aH [] (cE qA qB 4 4 0 3).1=[eU 65]:=by rw [Pt]; decide +kernel
theorem aaK:aH [] (cE qA qB 4 4 0 3).2=[eU 67]:=by rw [Pt]; decide +kernel
theorem Pu:(iC qA qB 4 4 1).length<=10/\(bK (iC qA qB 4 4 1)).length<=1000/\(bK (iC qA qB 4 4 2)).length<=1000:=by decide +kernel
theorem aaL:(bB 1 (cH (bO qA))).length+(fO qB 18).length+(bB 3 (dO qA qB 4 4 0)).length+(bB 3 (dO qA qB 4 4 1)).length+(bB 3 (dO qA qB 4 4 2)).length+(aE 5).length<=1048576:=by
 have a:=rJ (nA rS.ha.1).all
 rw [mA] at a
 have c:=vY (k:=1) (D:=cH (bO qA)) U U
 have d:(fO qB 18).length<=200100:=GR (wP (rI rS.hb.1 18) (by rw [jW]; omega) _)
 have e:(dO qA qB 4 4 0).length=37:=Dz (by decide)
 have f:(dO qA qB 4 4 1).length<=1000:=by rw [show dO qA qB 4 4 1=_ from U0 GH.reply q0.1,<- q_m1]; exact Pu.2.1
 have g:(dO qA qB 4 4 2).length<=1000:=by rw [show dO qA qB 4 4 2=_ from U0 GH.reply q1.1,<- q_m2]; exact Pu.2.2
 have h:=vY (k:=3) (D:=dO qA qB 4 4 0) U U
 have i:=vY (k:=3) (D:=dO qA qB 4 4 1) U U
 have j:=vY (k:=3) (D:=dO qA qB 4 4 2) U U
 have b:=eY 5 U
 omega
theorem Pv:eS (cH (bO [eU 65]))=some (bO [eU 65]):=Ig (nA Dy.1) (mA _)
theorem Pw:(cH (bO [eU 65])).length<=4294967296:=by
 have h:=rJ (nA Dy.1).all
 rw [mA] at h
 omega
theorem aaM:fA [eU 65] [eU 65]=[eU 65]:=by decide +kernel
theorem aaN:fA [eU 67] [eU 67]=[eU 67]:=by decide +kernel
abbrev L3(a:Nat):Value:=.bool (decide (((a:Nat):Int) < 32))
theorem aaO(y:UInt8)(w):
  Θ 19 #[(.int .u8 (y.toNat:Int))] w λe f=>e = .returned (vS (La y))/\aN [] w [] f:=by
 refine eO Tryz.func19 15 (B3 w) rfl<|Nc<|G rfl<|Nb<|G rfl<|Ne<|G rfl<|Ng<|sL (λi=>i<=32) (λi=>32 - i) (λi=>[(0,(.int .u8 (y.toNat:Int))),(2,E2),(3,(vS (List.replicate i y))),(4,(Y i))]) (λi=>[]) 0 U η ?_
 intro i d
 show St _ _ _ [(0,(.int .u8 (y.toNat:Int))),(2,qe),(3,(vS (List.replicate i y))),(4,(Y i))] [] _
 refine Ny<|G I<|M (L3 i) ?_
 refine ζ I (λb=>?_) λb=>?_
 .refine Nl<|fY<|aF<|G rfl<|R<|pN 1 5 [(.int .u8 (y.toNat:Int))] λc=>lw (vS [y]) (kM (e:=5) [y] I J J J I I (λw a=>tU (a.at (i:=0) I) I))<|lw _ (Jm I I I (by grind))<|G I<|Nk<|aF<|G I<|lw (Y (i+1)) bN<|G I<|Na ?_
  rw [show List.replicate i y++[y]=List.replicate _ y from (AD2 ..).symm]
  exact St.drop (List.nil_sublist _)<|sA (i+1) (by show _<=_; omega) (by show 32 - (i+1) < 32 - i; omega) η
 .exact Nj<|aF<|G rfl<|Nd<|sN [(vS (List.replicate i y))] λw a=>⟨by rw [show i=32 by omega]; rfl,a⟩
theorem vZ(n w)(b:n < 256):
  Θ 19 #[(.int .u8 ((n:Nat):Int))] w λe a=>e = .returned (vS (eU n))/\aN [] w [] a:=by
 have h:=aaO (UInt8.ofNat n) w
 rw [show (UInt8.ofNat n).toNat=n from by simp; omega] at h
 omega
theorem DU(A c l A2 b m w)(f:Rf [] w (λw=>aI w A (SS l)))(g:Rf [] w (λw=>aI w A2 (SS m)))(i:l.length<=68719476736)(d:m.length<=68719476736):
  Θ 14 #[(V A l c),(V A2 m b)] w λe h=>e = .returned (.bool (decide (l=m)))/\aN [] w [] h:=by
 exact bS Tryz.func14 8 (B3 w) rfl<|Nc<|G rfl<|Nb<|G rfl<|R<|bV (λw a=>TR A c l A2 b m w (f.aX a) (g.aX a) U U)<|G rfl<|Nd<|sN [_] λw a=>⟨I,a⟩
abbrev Q9:Value:=.bool (((kW ((10+10 / 2:Nat):Int)):Int) == 42)
abbrev O3:Value:=.bool (((((iA (bO [eU 65]) (bO [eU 65])):Nat):Int):Int) == 0)
theorem aaP(w)(i:Rf [] w (eG)):
  Θ 4 #[] w λe A=>e = .returned bT/\aN [] w [] A:=by
 refine sE0 Tryz.func4 133 (B3 w) ?_
 refine Nc<|G rfl<|Nb<|R<|bV (λw a=>Ma 10 9 w (by decide))<|G rfl<|Nb<|R<|bV (λw a=>vZ 65 w (by decide))<|R<|bV (λw a=>vZ 66 w (by decide))<|R<|pN 2 9 [(vS (eU 65)),(vS (eU 66))] λx=>R<|bV (λw a=>vZ 66 w (by decide))<|R<|bV (λw a=>vZ 67 w (by decide)) ?_
 refine xd ?_
 refine R<|pN 2 9 [(vS (eU 66)),(vS (eU 67))] λk=>R<|EN (λw a=>aaA _ 2 _ (qa k) 2 _ 1048576 2 18 [eU 67] [eU 65] [eU 65] [eU 67] w (i.aX a) (a.aR (j:=0) I (λ_ h=>tU h I)) (a.aR (j:=1) I (λ_ h=>tU h I)) (rS.ha) (rS.hb) (by decide) (by decide) (aaC) (by decide) (by decide) (by decide) (by decide) (aaE) (qends) (aaL) (by decide) (aaH) (aaI) (aaJ) (aaK) (ABf ..) (ABf ..)) λB134 c B234 d m=>G I<|Nb<|R<|bV (λw a=>vZ 65 w (by decide))<|R<|pN 1 9 [(vS (eU 65))] λl=>R<|dC (λw a=>aaB (qa l) 1 _ w (i.aX a) (a.aR (j:=4) I (λ_ h=>tU h I)) (Dy) (by decide)) λt u=>G I<|Nf ?_
 refine xd ?_
 refine aF<|R<|bV (λw a=>vZ 65 w (by decide))<|R<|pN 1 9 [(vS (eU 65))] λy=>R<|dC (λw a=>VL _ 1 [_] w (i.aX a) (a.aR (j:=5) I (λ_ h=>tU h I)) (by decide) (qJ (by decide) Dy) (by decide)) λA252 b=>G I<|Nb<|G rfl<|R<|bV (λw a=>VM A252 b _ A252 b _ _ _ w (i.aX a) (a.aR (j:=6) I (λ_ h=>aI.bM h)) (a.aR (j:=6) I (λ_ h=>aI.bM h)) (Pw) (Pw) (Pv) (Pv))<|G I<|Nf ?_
 refine xd ?_
 refine aF<|R<|Ck (λw a=>Dt none 0 dY w (i.aX a) Mg (by decide) (by decide) (by decide)) λf A162 o s A262 p q r Am62 g=>G I<|Ne<|G rfl<|lF<|G rfl<|lg bF<|lF<|Nn<|aF<|G rfl<|R<|bV (λw a=>GP f _ bT bF bF _ bF nS nS 1 Am62 g _ 0 w (a.aR (j:=7) I η) (by grind [lV,bB]))<|G I<|Nb<|G I<|lT<|G I<|lg bT<|lT<|G I<|lg Q9 ?_
 refine M Q9<|G rfl<|St.known 86 (b':=true) rfl (by decide)<|G rfl<|lg bT<|lT<|G rfl<|lT<|G rfl<|dP rfl rfl<|bV (λw a=>vZ 65 w (by decide))<|dP rfl rfl<|pN 1 9 [(vS (eU 65))] λz=>dP I I<|bV (λw a=>DU B134 c (fA [eU 65] [eU 65]) _ 1 [(eU 65)] w (a.aR (j:=2) I (λ_ h=>aI.bM h)) (a.aR (j:=14) I (λ_ h=>tU h I)) (by decide) (by decide))<|M (.bool (decide ((fA [eU 65] [eU 65])=[(eU 65)])))<|G rfl<|St.known 99 rfl (ADd aaM)<|G rfl<|dP rfl rfl<|bV (λw a=>vZ 67 w (by decide)) ?_
 refine xd ?_
 refine dP I I<|pN 1 9 [(vS (eU 67))] λn=>dP I I<|bV (λw a=>DU B234 d (fA [eU 67] [eU 67]) _ 1 [_] w (a.aR (j:=3) I (λ_ h=>aI.bM h)) (a.aR (j:=15) I (λ_ h=>tU h I)) (by decide) (by decide))<|M (.bool (decide ((fA [eU 67] [eU 67])=[(eU 67)])))<|G I<|St.known 105 I (ADd aaN)<|G I<|lg bT<|lT<|G I<|lg bT<|lT<|G I<|lg bT<|lT<|G I<|lg bT<|lT<|G I<|lg bT<|lT<|G I<|lg O3 ?_
 exact M O3<|G rfl<|St.known 129 (b':=true) rfl (by rw [aaD]; rfl)<|G rfl<|lg bT<|lT<|G rfl<|Nd<|sN [bT] λw a=>⟨I,(a.pick [] I I)⟩
def fB(its:List Bs)(bg:Bool):Sd:=⟨cond bg 1 2,cond bg 1 0,cond bg (bB 1 (cH (bO its))) [],false,false,false,[],[],[],[]⟩
theorem aaQ(its bg):nD its 0 (fB its bg) 0 0:=by
 cases bg with
 | true=>exact ⟨⟨by show 1<=2; omega,(λh=>by cases h),λ_=>⟨I,I⟩,(λx a=>by cases a),(λx a=>by cases a),List.Pairwise.nil,List.Pairwise.nil,G6 _,(λx a=>by cases a),(λx a=>by cases a),G6 _,G6 _⟩,λh=>absurd I h,λ_=>zY 1 (by omega) _,by show 1<=5; omega,λh=>absurd I h,⟨λ_=>I,λ_=>I⟩⟩
 | false=>exact ⟨⟨by show 2<=2; omega,(λh=>by cases h),λ_=>⟨I,I⟩,(λx a=>by cases a),(λx a=>by cases a),List.Pairwise.nil,List.Pairwise.nil,G6 _,(λx a=>by cases a),(λx a=>by cases a),G6 _,G6 _⟩,λ_=>I,(λh=>by cases h),by show 0<=5; omega,λ_=>I,⟨λ_=>I,λ_=>I⟩⟩
theorem aaR{x:Sd}(h:lA its bg x D x2 z)(a:x.st≠2):x2=x/\z=6:=by
 cases h with
 | busy _=>grind
 | bad e=>omega
 | rng e=>exact U
 | tab e=>exact U
 | dif0 e=>exact U
 | dif1 e=>exact U
 | step e=>exact U
 | stop e=>exact U
 | diff e=>exact U
 | fin e=>exact U
theorem aaS{x:Sd}{b:Int}{m a:Bs}(h:mD x b y m z)(c:mD x b y2 a z2):y=y2/\m=a/\z=z2:=by
 cases h <;> cases c <;> first | grind | omega
abbrev O0(a:Nat):Value:=.bool (decide (((a:Nat):Int)<=16384))
theorem aaT(A c n w):
  Θ 5 #[(.slice A (n) (c))] w λe f=>e = .returned (.bool (AE n))/\aN [] w [] f:=by
 refine eO Tryz.func5 11 (B3 w) I<|Nc<|G I<|Nb<|G I<|M (Y n)<|M (.bool (decide (((n:Nat):Int) > 40)))<|lm ?_
 refine St.dec 6 I (λa=>?_) (λa=>?_)
 .have d:=D4 a
  exact G I<|lg (Y n)<|lg (O0 n)<|M (O0 n)<|G rfl<|Nd<|sN [(O0 n)] λw b=>⟨gK (by unfold AE; grind),b⟩
 .have d:=C7 a
  exact G I<|lF<|G rfl<|Nd<|sN [bF] λw b=>⟨gK (by unfold AE; rw [Bool.eq_iff_iff]; simp; omega),b⟩
set_option maxHeartbeats 400000 in
theorem aaU(bs A1 f)(its:List Γ)(bg:Bool)(q k:Nat)(Am:Δ)(m:Γ)(h:Nat)(rc dn:Bool)(d:Nat)(sd:Bool)(An:Δ)(needs:List Γ)(i:Nat)(Ao:Δ)(offs:List Γ)(j:Nat)(A2:Δ)(g b U:Nat)(S:List Γ)(w:Λ)(c:Rf [] w (λw=>At w bs 68 [(V A1 its f),(.bool bg),(Y q),(Y k),(V Am m h),(.bool rc),(.bool dn),(Z d 0),(.bool sd),(V An needs i),(V Ao offs j)]))(n:Rf [] w (λw=>At w d 113 [(V A2 its g),(Y 4),(Y 4),(.map (some b)),(.map (some U))]))(o:Rf [] w (λw=>hF w b S))(p:Rf [] w (λw=>aI w An (SS needs)))(l:S.length<=1099511627776)(a:needs.length<=4294967296):
  Θ 15 #[(Z bs 0)] w λe r=>∃ (B:Δ) (cb:Nat),e = .returned (V B (kK sd needs S) cb)/\aN [] w [cS B (kK sd needs S) cb] r:=by
 cases sd with
 | true=>exact WD _ _ _ _ _ _ _ _ _ _ _ _ _ w c p a
 | false=>exact Bj _ _ _ _ _ _ _ _ _ _ _ _ _ _ _ _ _ w c n o l
set_option maxHeartbeats 400000 in
theorem aaV(bs A1 d)(its:List Γ)(bg:Bool)(q k:Nat)(Am:Δ)(m:Γ)(g:Nat)(rc dn:Bool)(c:Nat)(sd:Bool)(An:Δ)(needs:List Γ)(h:Nat)(Ao:Δ)(offs:List Γ)(i:Nat)(A2:Δ)(f l U:Nat)(S2:List Γ)(w:Λ)(b:Rf [] w (λw=>At w bs 68 [(V A1 its d),(.bool bg),(Y q),(Y k),(V Am m g),(.bool rc),(.bool dn),(Z c 0),(.bool sd),(V An needs h),(V Ao offs i)]))(n:Rf [] w (λw=>At w c 113 [(V A2 its f),(Y 4),(Y 4),(.map (some l)),(.map (some U))]))(o:Rf [] w (λw=>hF w U S2))(p:Rf [] w (λw=>aI w Ao (SS offs)))(j:S2.length<=1099511627776)(a:offs.length<=4294967296):
  Θ 16 #[(Z bs 0)] w λe r=>∃ (B:Δ) (cb:Nat),e = .returned (V B (kK sd offs S2) cb)/\aN [] w [cS B (kK sd offs S2) cb] r:=by
 cases sd with
 | true=>exact WE _ _ _ _ _ _ _ _ _ _ _ _ _ w b p a
 | false=>exact Bk _ _ _ _ _ _ _ _ _ _ _ _ _ _ _ _ _ w b n o j
theorem aaW(bs d f g h i j k l m b dn w)(c:Rf [] w (λw=>At w bs 68 [d,f,g,h,i,j,(.bool dn),k,l,m,b])):
  Θ 13 #[(Z bs 0)] w λe n=>e = .returned (.bool dn)/\aN [] w [] n:=by
 exact eO Tryz.func13 7 (B3 w) rfl<|Nc<|G rfl<|Nb<|G rfl<|M (Z bs 0)<|M (Z bs 6)<|lW (rW (λw a=>At.cell (c.now a) 6))<|G rfl<|Nd<|sN [_] λw a=>⟨I,a⟩
theorem aaX(A c l bg w)(d:Rf [] w (λw=>aI w A (SS l)))(g:l.length<=9223372036854775807)(b:eM l≠0):
  Θ 6 #[(V A l c),(.bool bg)] w λe f=>e = .returned (.tuple #[qp,(C (eM l))])/\aN [] w [] f:=by
 exact bS Tryz.func6 42 (B3 w) rfl<|Nc<|G rfl<|Ne<|G rfl<|R<|bV (λw a=>Lj A c l w (d.aX a) U ag)<|G rfl<|Nb<|G rfl<|M (M6 l)<|Na<|lG rfl (by simpa using b)<|Nc<|G rfl<|Nh<|sN [_,_] λw a=>⟨I,a⟩
set_option maxHeartbeats 400000 in
theorem aaY(A c l bg w)(p:Rf [] w (eG))(q:Rf [] w (λw=>aI w A (SS l)))(o:l.length<=9223372036854775807)(n:eM l=0)(g:l.length<=1000):
  Θ 6 #[(V A l c),(.bool bg)] w λe j=>∃ (bs:Nat) (A1:Δ) (a:Nat) (Am:Δ) (h f:Nat) (A2:Δ) (b d U:Nat),e = .returned (.tuple #[(Z bs 0),(C 0)])/\aN [] w [aD bs 68 [(V A1 l a),(.bool bg),(Y ((fB l bg).st)),(Y ((fB l bg).k)),(.slice Am ((fB l bg).m.length) (h)),(.bool (fB l bg).rc),(.bool (fB l bg).dn),(Z f 0),(.bool (fB l bg).sd),(.slice none ((fB l bg).needs.length) (0)),(.slice none ((fB l bg).offs.length) (0))],cS A1 l a,aD f 113 [(V A2 l b),(Y 4),(Y 4),(.map (some d)),(.map (some U))],cS A2 l b,aP d ((fB l bg).S),aP U ((fB l bg).T),bI none (SS (fB l bg).needs),bI none (SS (fB l bg).offs),bI Am (B8 (fB l bg).m)] j:=by
 cases bg with
 | true =>
   refine (Dt _ _ _ w p q o n g).mono ?_
   rintro e j ⟨bs,A1,a,f,A2,b,d,U,Am,h,rfl,i⟩
   exact ⟨bs,A1,a,Am,h,f,A2,b,d,U,I,(((i.lM 6 I).fF none).fF none).pick [0,1,2,3,4,5,7,8,6] I I⟩
 | false =>
   refine (GO _ _ _ w p q o n g).mono ?_
   rintro e j ⟨bs,A1,a,f,A2,b,d,U,rfl,i⟩
   exact ⟨bs,A1,a,none,0,f,A2,b,d,U,I,((i.fF none).fF none).fF none⟩
set_option maxHeartbeats 400000 in
theorem aaZ(A c its bg w)(h:Rf [] w (λw=>aI w A (SS its)))(g:dD its)(a:its.length<=40):
  Θ 8 #[(V A its c),(.bool bg)] w λe f=>∃ (AM:Δ) (b:Nat),e = .returned (qN A c its bg (fB its bg) none 0 none 0 none 0 none 0 AM b 0 0)/\aN [] w [bI AM (B8 (fB its bg).m)] f:=by
 cases bg with
 | true =>
   refine (ZD _ _ _ w h g a).mono ?_
   rintro e f ⟨AM,b,rfl,d⟩
   exact ⟨AM,b,I,d.lM 0 I⟩
 | false =>
   refine (ZE _ _ _ w h g a).mono ?_
   rintro e f ⟨rfl,d⟩
   exact ⟨none,0,I,d.fF none⟩
set_option maxHeartbeats 400000 in
theorem abA(A c its bg i k m rc dn sd needs offs S T NA q OA r AN j AO l AM t s h n b d p z w)(B:cC [bI AM (B8 m)] w)(x:nD its n (Sd.mk i k m rc dn sd needs offs S T) s h)(y:mD (Sd.mk i k m rc dn sd needs offs S T) b d p z):
  Θ 10 #[(qN A c its bg (Sd.mk i k m rc dn sd needs offs S T) NA q OA r AN j AO l AM t s h),(C b)] w λe u=>∃ (AM2:Δ) (g f:Nat) (a:Δ) (o:Nat),e = .returned (.tuple #[(qN A c its bg d NA q OA r AN j AO l AM2 g f h),(V a p o),(C z)])/\aN [bI AM (B8 m)] w [bI AM2 (B8 d.m),bI a (B8 p)] u/\(nD its (n+1) d f h)/\(d.S=S/\d.T=T/\d.needs=needs/\d.offs=offs/\d.sd=sd/\d.dn=dn):=by
 refine (ZZ A c its bg i k m rc dn sd needs offs S T NA q OA r AN j AO l AM t s h n b w B x).mono ?_
 rintro e u ⟨N,L,O,AM2,g,f,a,o,E,D,H,K,F⟩
 obtain ⟨rfl,rfl,rfl⟩:=aaS H y
 exact ⟨AM2,g,f,a,o,E,D,K,F⟩
set_option maxHeartbeats 400000 in
theorem abB(bs A1 g its bg b k Am m h rc dn f sd An needs i Ao offs l A2 A d U S T AD P Dm a z n sn X w)(o:cC [aD bs 68 [(V A1 its g),(.bool bg),(Y b),(Y k),(V Am m h),(.bool rc),(.bool dn),(Z f 0),(.bool sd),(V An needs i),(V Ao offs l)],aP d (S),aP U (T),bI An (SS needs),bI Ao (SS offs),bI Am (B8 m)] w)(r0:Rf [aD bs 68 [(V A1 its g),(.bool bg),(Y b),(Y k),(V Am m h),(.bool rc),(.bool dn),(Z f 0),(.bool sd),(V An needs i),(V Ao offs l)],aP d (S),aP U (T),bI An (SS needs),bI Ao (SS offs),bI Am (B8 m)] w (eG))(r1:Rf [aD bs 68 [(V A1 its g),(.bool bg),(Y b),(Y k),(V Am m h),(.bool rc),(.bool dn),(Z f 0),(.bool sd),(V An needs i),(V Ao offs l)],aP d (S),aP U (T),bI An (SS needs),bI Ao (SS offs),bI Am (B8 m)] w (λw=>aI w A1 (SS its)))(r2:Rf [aD bs 68 [(V A1 its g),(.bool bg),(Y b),(Y k),(V Am m h),(.bool rc),(.bool dn),(Z f 0),(.bool sd),(V An needs i),(V Ao offs l)],aP d (S),aP U (T),bI An (SS needs),bI Ao (SS offs),bI Am (B8 m)] w (λw=>aI w AD (B8 Dm)))(r3:Rf [aD bs 68 [(V A1 its g),(.bool bg),(Y b),(Y k),(V Am m h),(.bool rc),(.bool dn),(Z f 0),(.bool sd),(V An needs i),(V Ao offs l)],aP d (S),aP U (T),bI An (SS needs),bI Ao (SS offs),bI Am (B8 m)] w (jM f A2 A its 4 4 d U))(Q:lA its bg (Sd.mk b k m rc dn sd needs offs S T) Dm a z)(y:nD its n (Sd.mk b k m rc dn sd needs offs S T) sn X)(D:Dm.length<=20000)(x:dD its)(B:its.length<=40)(K:its.length<=A)(F:S.length<=549755813888)(H:T.length<=549755813888):
  Θ 12 #[(Z bs 0),(V AD Dm P)] w λe O=>∃ (Am2:Δ) (p:Nat) (An2:Δ) (r:Nat) (Ao2:Δ) (s:Nat),e = .returned (C z)/\aN [aD bs 68 [(V A1 its g),(.bool bg),(Y b),(Y k),(V Am m h),(.bool rc),(.bool dn),(Z f 0),(.bool sd),(V An needs i),(V Ao offs l)],aP d (S),aP U (T),bI An (SS needs),bI Ao (SS offs),bI Am (B8 m)] w [aD bs 68 [(V A1 its g),(.bool bg),(Y a.st),(Y a.k),(V Am2 a.m p),(.bool a.rc),(.bool a.dn),(Z f 0),(.bool a.sd),(V An2 a.needs r),(V Ao2 a.offs s)],aP d (a.S),aP U (a.T),bI An2 (SS a.needs),bI Ao2 (SS a.offs),bI Am2 (B8 a.m)] O:=by
 have ab:b<=2:=y.si.le
 rcases j8 (b=2) with c | c
 .subst c
  have W:sd=false:=by
   cases sd with
   | false=>rfl
   | true=>exact absurd I (y.si.set I).1
  obtain rfl:m=[]:=y.sm (by show 2≠1; decide)
  obtain ⟨rfl,rfl⟩:needs=[]/\offs=[]:=y.si.opn W
  subst W
  refine (xI bs A1 g its bg k Am h An i Ao l rc dn f A2 A d U S T AD P Dm a z w (o.sub [0,1,2]) (r0.bJ o [0,1,2]) (r1.bJ o [0,1,2]) (r2.bJ o [0,1,2]) (r3.bJ o [0,1,2]) Q (by omega) (λu q N _=>by have h9:=DF N; omega) (λq t N L=>by obtain ⟨-,h8⟩:=tC L; have h9:=On N; omega) (λ_=>D) x B K F H).mono ?_
  rintro e O ⟨Am2,p,An2,r,Ao2,s,rfl,E⟩
  exact ⟨Am2,p,An2,r,Ao2,s,I,(o.res [0,1,2] (ms':=[_,_,_]) (news:=[_,_,_]) E).pick [0,1,2,6,7,8] I I⟩
 .obtain ⟨rfl,rfl⟩:=aaR Q c
  refine (Xv _ _ _ _ _ _ _ _ _ _ _ _ _ _ b w (o.aR (j:=0) I η) c (by omega)).mono ?_
  rintro e O ⟨rfl,E⟩
  exact ⟨Am,h,An,i,Ao,l,I,o.same E⟩
section
structure oI where
 nx:Bool
 b:Int
 A:Option Addr
 c:Nat
 D:Bs
def qQ(p:oI):List Value:=[.bool p.nx,.int .i64 p.b,.slice p.A p.D.length p.c]
abbrev AX(l:List oI):List Value:=l.flatMap qQ
def Px(l:List oI)(w:World):Prop:=∀ x∈l,aI w x.A (B8 x.D) /\ x.D.length <= x.c
theorem abC(l):(AX l).length=l.length*3:=by
 induction l with
 | nil=>rfl
 | cons p l a=>simp only [AX,V5,C3,V0,qQ,W7] at a ⊢; omega
theorem Ir{l:List oI}{p:oI}(h:l[i]?=some p)(j v)(a:(qQ p)[j]?=some v):(AX l)[i*3+j]?=some v:=by
 induction l generalizing i with
 | nil=>simp at h
 | cons q l c =>
   have b:(qQ q).length=3:=I
   grind
section
variable {P:Program}{ops:Array Oper}{Q:Exit -> Act -> World -> Prop}{n:Nat}{w0:World}{F:List Nat}{E:eH}{cs:List Ch}{X:Act -> World -> Prop}
theorem abD{ps:List oI}{i:Nat}{p:oI}(h:aI w A (AX ps))(d:ps[i]?=some p){b q:Nat}(a:A=some ⟨b,q,none⟩):∀ j v,(qQ p)[j]?=some v->w.cell? ⟨b,q+i*3+j,none⟩=some v:=λj v c=>by
 rw [Z4]
 exact yF h (Ir d j v c) a
theorem St.adE{ps:List oI}{i:Nat}{p:oI}(h:∀ w,Mm w0 F cs w->aI w A (AX ps))(e:ps[i]?=some p)(k:∀ b q,A=some ⟨b,q,none⟩->(∀ w,Mm w0 F cs w->∀ j v,(qQ p)[j]?=some v->w.cell? ⟨b,q+i*3+j,none⟩=some v)->St n w0 F E cs X):St n w0 F E cs X:=λa w g d=>by
 obtain ⟨b,q,c⟩:=qX (h w d) (Ir e 0 _ I)
 exact k b q c (λl f=>abD zg e c) a w g d
end
def lB(A:Option Addr)(c:Nat)(its:List Bs)(bg:Bool)(x:Sd)(NA:Option Addr)(nc:Nat)(OA:Option Addr)(oc:Nat)(AN:Option Addr)(cN:Nat)(AO:Option Addr)(cO:Nat)(AM:Option Addr)(cM sn gt:Nat):List Value :=
 [.slice A its.length c,.bool bg,.slice A its.length c,Y 4,Y 4,.slice NA (aH [] x.S).length nc,.slice OA (aH [] x.T).length oc,kR x.sd AN x.needs cN NA (aH [] x.S) nc,kR x.sd AO x.offs cO OA (aH [] x.T) oc,Bp x.st AM x.m cM,Y sn,Y gt,.bool x.dn,.bool (Hr x.st)]
theorem Py(sd A l c B S d):kR sd A l c B (aH [] S) d = .slice (cond sd A B) (kK sd l S).length (cond sd c d):=by cases sd <;> rfl
theorem BE{x:Sd}:∀ v∈lB A c its bg x NA nc OA oc AN cN AO cO AM cM sn gt,v.oneCell'=true:=by
 simp only [lB,T0,U7,k4,X8,z6]
 exact ⟨I,I,I,I,I,I,I,mV ..,mV ..,Pr ..,I,I,I,I⟩
theorem Pz{cs:List Ch}(a:Mm w0 F cs w){l S:List Bs}{d:Nat}(hi:cs[i]?=some (bI A (SS l)))(b:cs[j]?=some (bD 9 1 B (aH [] S).length d (SS (aH [] S))))(sd):Ro [] w λw=>aI w (cond sd A B) (SS (kK sd l S)):=by
 cases sd with
 | true=>exact a.aR hi λ_ h=>h
 | false=>exact a.aR b λ_ h=>aI.bM h
end
theorem abE(h:AE n=false)(a:n<=16384):n<=40:=by
 grind [AE]
abbrev S5(a:oI):=[(.bool a.nx),(.int .i64 a.b),(V a.A a.D (a.c))]
abbrev Q4:=[0,4,5,6,7,8]
theorem abF(A c l bg Aq cA d)(w:Λ)(r0:Rf [] w (eG))(r1:Rf [] w (λw=>aI w A (SS l)))(r2:Rf [] w (λw=>aI w Aq (AX d)))(r3:Rf [] w (Px d))(hl:l.length<=9223372036854775807)(b0:d.length<=9223372036854775807):
  Θ 3 #[(V A l c),(.bool bg),(V Aq d cA)] w λe w'=>e = .returned bT/\aN [] w [] w':=by
 refine kN Tryz.func3 129 (B3 w) rfl<|Nc<|G rfl<|Ne<|R<|bV (λw b=>aaP  w (r0.aX b))<|lF<|Nn<|Nc<|G rfl<|R<|bV (λw b=>aaT A c l.length w )<|lm ?_
 refine St.dec 24 I (λa3=>?_) (λa3=>?_)
 .exact G I<|lT<|No<|G rfl<|Nh<|sN [bT] λw b=>⟨I,b⟩
 .refine G I<|lg (Y d.length)<|lg (.bool (decide (((d.length:Nat):Int) > 8)))<|M (.bool (decide (((d.length:Nat):Int) > 8))) ?_
  refine ζ I (λbf=>?_) λbf=>?_
  .exact Nc<|G rfl<|Nh<|sN [bT] λw b=>⟨I,b⟩
  .refine Nl<|St.to [] J ?_
   rcases j8 (eM l=0) with ap | ap
   .obtain ⟨a8,ak⟩:=uB ap
    have az:l.length<=40:=abE a3 a8
    refine aF<|G rfl<|R<|Ck (λw b=>aaY A c l bg w (r0.aX b) (r1.aX b) U (ap) U) λn A132 f Am32 a2 g A232 o p q=>G I<|Ne<|G rfl<|R<|bV (λw b=>yY A c l w (r1.aX b) U) ?_
    rw [show (eM l)=0 from ap]
    refine G I<|Nb<|G rfl<|lF<|Nn<|Nc<|G rfl<|lF<|G rfl<|lg bF<|lF<|Nn<|aF<|G rfl<|R<|dC (λw b=>aaZ A c l bg w (r1.aX b) (ak) (az)) λAM54 a0=>R<|pA qt λt=>R<|zv 10 I BE ?_
    refine Nf<|aT ?_
    refine xd ?_
    refine St.fact (λw b=>nH (b.at (i:=3) I)) (λbe=>St.mem (cs':=[aD n 68 [(V A132 l f),(.bool bg),(Y ((fB l bg).st)),(Y ((fB l bg).k)),(.slice Am32 ((fB l bg).m.length) (a2)),(.bool (fB l bg).rc),(.bool (fB l bg).dn),(Z g 0),(.bool (fB l bg).sd),(.slice none ((fB l bg).needs.length) (0)),(.slice none ((fB l bg).offs.length) (0))],cS A132 l f,aD g 113 [(V A232 l o),(Y 4),(Y 4),(.map (some p)),(.map (some q))],cS A232 l o,aP p ((fB l bg).S),aP q ((fB l bg).T),bI none (SS (fB l bg).needs),bI none (SS (fB l bg).offs),bI Am32 (B8 (fB l bg).m),bI AM54 (B8 (fB l bg).m),aD t 37 (lB A c l bg (fB l bg) none 0 none 0 none 0 none 0 AM54 a0 0 0),bI none (SS (fB l bg).needs),bI none (SS (fB l bg).offs),cS none (aH [] (fB l bg).S) 0,cS none (aH [] (fB l bg).T) 0]) (λw b=>((((b.fF none).fF none).gB 9 1).gB 9 1))<|aF<|G rfl<|M (Y d.length)<|G rfl<|Ng<|sL (λ(i,x,Am,cm,An,cn,Ao,co,NA,F,OA,K,AN,W,AO,cO,AM,cM,N,D)=>i<=d.length/\nD l i x N D) (λ(i,x,Am,cm,An,cn,Ao,co,NA,F,OA,K,AN,W,AO,cO,AM,cM,N,D)=>d.length - i) (λ(i,x,Am,cm,An,cn,Ao,co,NA,F,OA,K,AN,W,AO,cO,AM,cM,N,D)=>[(6,bF),(7,(Z n 0)),(10,(Z t 0)),(55,(V Aq d cA)),(56,(Y d.length)),(57,(Y i))]) (λ(i,x,Am,cm,An,cn,Ao,co,NA,F,OA,K,AN,W,AO,cO,AM,cM,N,D)=>[aD n 68 [(V A132 l f),(.bool bg),(Y x.st),(Y x.k),(V Am x.m cm),(.bool x.rc),(.bool x.dn),(Z g 0),(.bool x.sd),(V An x.needs cn),(V Ao x.offs co)],cS A132 l f,aD g 113 [(V A232 l o),(Y 4),(Y 4),(.map (some p)),(.map (some q))],cS A232 l o,aP p (x.S),aP q (x.T),bI An (SS x.needs),bI Ao (SS x.offs),bI Am (B8 x.m),bI AM (B8 x.m),aD t 37 (lB A c l bg x NA F OA K AN W AO cO AM cM N D),bI AN (SS x.needs),bI AO (SS x.offs),cS NA (aH [] x.S) F,cS OA (aH [] x.T) K]) (0,(fB l bg),Am32,a2,none,0,none,0,none,0,none,0,none,0,none,0,AM54,a0,0,0) ⟨G6 _,aaQ l bg⟩ (λw b=>by omega) ?_)
    rintro ⟨i,x,Am,cm,An,cn,Ao,co,NA,F,OA,K,AN,W,AO,cO,AM,cM,N,D⟩ ⟨hi,hI⟩
    dsimp only
    refine Nc<|M (qb i d.length) ?_
    refine χ I (λbh=>?_) λbh=>?_
    .refine Nm<|aF ?_
     obtain ⟨r,a9⟩:=gk d i U
     refine St.adE (λw b=>r2.now b) a9 (λbp bq bb bc=>lw (Z bp (bq+i*3)) (wV (e:=40) I J J I I bb U)<|lw (.agg #[(.bool r.nx),(.int .i64 r.b),(V r.A r.D (r.c))]) (gI [(.bool r.nx),(.int .i64 r.b),(V r.A r.D (r.c))] I I J J (bc)) ?_)
     have bn:=Ro.imp (Ψ:=λw=>aI w r.A (B8 r.D)) r3 (λw h=>(h r (F0 a9)).1)
     have bo:=(Ro.here r3 r (F0 a9)).2
     have bv:=hI.si.l1; have bw:=hI.si.l2
     refine R<|pA [bF,(C 0),nS] λO=>R<|zu 15 I<|Ne<|M (Z O 2)<|lL 15 I<|M (Y r.D.length)<|M (.bool (decide ((r.D.length:Int) > 20000))) ?_
     refine ζ I (λbi=>?_) λbi=>?_
     .exact Nc<|G rfl<|Nq<|cJ<|sN [bT] λw b=>⟨I,(b.pick [] I I)⟩
     .refine gL<|aJ ?_
      refine xd ?_
      refine qU (ι:=Sd × Δ × Nat × Δ × Nat × Δ × Nat × Δ × Nat × Δ × Nat × Δ × Nat × Δ × Nat × Δ × Nat × Nat × Nat) (λ(a,Am',u,An',y,Ao',B,NA',H,OA',L,AN',X,AO',ad,AM',ar,aq,ao)=>nD l (i+1) a aq ao) (λ(a,Am',u,An',y,Ao',B,NA',H,OA',L,AN',X,AO',ad,AM',ar,aq,ao)=>[(6,bF),(7,(Z n 0)),(10,(Z t 0)),(55,(V Aq d cA)),(56,(Y d.length)),(57,(Y i))]) (λ(a,Am',u,An',y,Ao',B,NA',H,OA',L,AN',X,AO',ad,AM',ar,aq,ao)=>[aD n 68 [(V A132 l f),(.bool bg),(Y a.st),(Y a.k),(V Am' a.m u),(.bool a.rc),(.bool a.dn),(Z g 0),(.bool a.sd),(V An' a.needs y),(V Ao' a.offs B)],cS A132 l f,aD g 113 [(V A232 l o),(Y 4),(Y 4),(.map (some p)),(.map (some q))],cS A232 l o,aP p (a.S),aP q (a.T),bI An' (SS a.needs),bI Ao' (SS a.offs),bI Am' (B8 a.m),bI AM' (B8 a.m),aD t 37 (lB A c l bg a NA' H OA' L AN' X AO' ad AM' ar aq ao),bI AN' (SS a.needs),bI AO' (SS a.offs),cS NA' (aH [] a.S) H,cS OA' (aH [] a.T) L]) ?_ ?_
      .refine Nc<|M (Z O 0)<|lL 15 I ?_
       refine qi I (λbd=>?_) λbd=>?_
       .refine aT ?_
        obtain ⟨s,m2,z,hN⟩:=Yi x r.b hI.si.le
        refine aF<|G rfl<|M (Z O 1)<|lL 15 rfl<|R<|fT [0,8] _ (λw b hO=>(Ym n A132 f l bg x.st x.k Am x.m cm x.rc x.dn g x.sd An x.needs cn Ao x.offs co r.b s m2 z x.S x.T w hO (hN)).mono ?_)
        rintro e w' ⟨Am271,au,R71,br,rfl,hP⟩
        refine ⟨_,[_,_],_,I,hP,I,?_⟩; clear hP b hO
        refine G I<|Nb<|lw (qN A c l bg (Sd.mk x.st x.k x.m x.rc x.dn x.sd x.needs x.offs x.S x.T) NA F OA K AN W AO cO AM cM N D) (gI (lB A c l bg x NA F OA K AN W AO cO AM cM N D) rfl rfl J J (cW (i:=10) rfl yy))<|M (Z O 1)<|lL 15 rfl<|R<|fT [9] _ (λw b hO=>(abA A c l bg x.st x.k x.m x.rc x.dn x.sd x.needs x.offs x.S x.T NA F OA K AN W AO cO AM cM N D i r.b s m2 z w hO (hI) (hN)).mono ?_)
        rintro e w' ⟨AM278,P,aj,R78,bs,rfl,hP,bl,bj⟩
        refine ⟨_,[_],_,I,hP,I,?_⟩; clear hP b hO
        obtain ⟨e1,e2,e3,e4,-,-⟩:=bj
        refine St.to [aD n 68 [(V A132 l f),(.bool bg),(Y s.st),(Y s.k),(V Am271 s.m au),(.bool s.rc),(.bool s.dn),(Z g 0),(.bool s.sd),(V An s.needs cn),(V Ao s.offs co)],cS A132 l f,aD g 113 [(V A232 l o),(Y 4),(Y 4),(.map (some p)),(.map (some q))],cS A232 l o,aP p (s.S),aP q (s.T),bI An (SS s.needs),bI Ao (SS s.offs),bI Am271 (B8 s.m),bI AM278 (B8 s.m),aD t 37 (lB A c l bg x NA F OA K AN W AO cO AM cM N D),bI AN (SS s.needs),bI AO (SS s.offs),cS NA (aH [] s.S) F,cS OA (aH [] s.T) K,aD O 40 (S5 r),bI R71 (B8 m2),bI R78 (B8 m2)] (by rw [e1,e2,e3,e4]; rfl)<|G rfl<|R<|pA qt λbt=>R<|zv 18 I BE ?_
        refine G I<|Nf<|aT ?_
        refine xd ?_
        refine aF<|G rfl<|lw bF (gY (v:=.bool ((z:Int) != z)) (gZ λ_=>by kernel_rfl) si)<|G rfl<|lu (vS m2) (kM (e:=5) m2 rfl J J J rfl rfl (λw b=>kO (b.at (i:=16) I)))<|G rfl<|lu (vS m2) (kM (e:=5) m2 rfl J J J rfl rfl (λw b=>kO (b.at (i:=17) I)))<|lu bF (gY (qC I I I) si)<|lF<|Nu<|gL<|aJ<|aF<|lw (qN A c l bg s NA F OA K AN W AO cO AM278 P aj D) (gI (lB A c l bg s NA F OA K AN W AO cO AM278 P aj D) I I J J (cW (i:=18) I yy))<|R<|zv 10 I BE ?_
        exact aO (aJ (sM (s,Am271,au,An,cn,Ao,co,NA,F,OA,K,AN,W,AO,cO,AM278,P,aj,D) (bl) (κ [0,1,2,3,4,5,6,7,8,9,10,11,12,13,14] I I)))
       .refine Nc<|lw (qN A c l bg (Sd.mk x.st x.k x.m x.rc x.dn x.sd x.needs x.offs x.S x.T) NA F OA K AN W AO cO AM cM N D) (gI (lB A c l bg x NA F OA K AN W AO cO AM cM N D) rfl rfl J J (cW (i:=10) rfl yy))<|M (Z O 2)<|lL 15 rfl<|R<|fT [13,14,11,12,9] _ (λw b hO=>(ZY A c l bg x.st x.k x.m x.rc x.dn x.sd x.needs x.offs x.S x.T NA F OA K AN W AO cO AM cM N D i r.A r.c r.D w hO (r1.bJ b [13,14,11,12,9]) (bn.bJ b [13,14,11,12,9]) (hI) (ak) (az) U U (bo)).mono ?_)
        rintro e w' ⟨an,ba,NA297,ah,OA297,ai,AN297,ab,AO297,ae,AM297,Q,af,rfl,hP,bk,bm⟩
        refine ⟨_,[_,_,_,_,_],_,I,hP,I,?_⟩; clear hP b hO
        refine G I<|R<|pA qt λbu=>R<|zv 16 I BE ?_
        refine G I<|Nf<|aT ?_
        refine xd ?_
        refine aF<|G rfl<|M (Z O 2)<|lL 15 rfl<|R<|fT Q4 _ (λw b hO=>(abB n A132 f l bg x.st x.k Am x.m cm x.rc x.dn g x.sd An x.needs cn Ao x.offs co A232 o p q x.S x.T r.A r.c r.D an ba i N D w hO (r0.bJ b Q4) (b.fX Q4 (j:=1) I (λ_ h=>aI.bM h)) (bn.bJ b Q4) (((b.fX Q4 (j:=2) I η).and (b.fX Q4 (j:=3) I (λ_ h=>aI.bM h))).imp (λ_ h=>⟨h.1,h.2⟩)) (bk) (hI) U (ak) (az) (be) U U).mono ?_)
        rintro e w' ⟨Am2103,aw,An2103,ax,Ao2103,ay,rfl,hP⟩
        refine ⟨_,[_,_,_,_,_,_],_,I,hP,I,?_⟩; clear hP b hO
        refine G I<|lw bF (gY (v:=.bool ((ba:Int) != ba)) (gZ λ_=>by kernel_rfl) si)<|Nu<|gL<|aJ<|aF<|lw (qN A c l bg an NA297 ah OA297 ai AN297 ab AO297 ae AM297 Q N af) (gI (lB A c l bg an NA297 ah OA297 ai AN297 ab AO297 ae AM297 Q N af) I I J J (cW (i:=16) I yy))<|R<|zv 10 I BE ?_
        exact aO (aJ (sM (an,Am2103,aw,An2103,ax,Ao2103,ay,NA297,ah,OA297,ai,AN297,ab,AO297,ae,AM297,Q,N,af) (bm) (κ [0,1,2,3,4,5,6,7,8,9,10,11,12,13,14] I I)))
      .rintro ⟨a,Am',u,An',y,Ao',B,NA',H,OA',L,AN',X,AO',ad,AM',ar,aq,ao⟩ E
       dsimp only
       have bz:=(E.si.Qm ak az).2; have bx:=E.si.Qn U
       refine aT<|dN _ 21 J η<|am 0 ?_
       refine aC 2 (Z t 12) I<|al 3 10 ?_
       refine aA 1 I<|bV (λw b=>aaW n (V A132 l f) (.bool bg) (Y a.st) (Y a.k) (V Am' a.m u) (.bool a.rc) (Z g 0) (.bool a.sd) (V An' a.needs y) (V Ao' a.offs B) a.dn w (b.aR (j:=0) I η)) ?_
       refine xd ?_
       refine aQ _ η η ?_
       refine aV 4 bF I (gY (v:=.bool !(a.dn == a.dn)) (gZ λ_=>by kernel_rfl) si) ?_
       refine am 5 ?_
       refine fQ 6 ?_
       refine aG 8 (Z t 7) I<|aW 9 (V (cond a.sd AN' NA') (kK a.sd a.needs a.S) ((cond a.sd X H))) rfl (gY (bW 10 rfl rfl J rfl rfl) (Py ..))<|aB 7 rfl<|dC (λw b=>aaU n A132 f l bg a.st a.k Am' a.m u a.rc a.dn g a.sd An' a.needs y Ao' a.offs B A232 o p q a.S w (b.aR (j:=0) I η) (b.aR (j:=2) I η) (b.aR (j:=4) I η) (b.aR (j:=6) I (λ_ h=>kO h)) (by have h9:=E.si.l1; omega) (by have h9:=E.si.ln; omega)) λB114 a4=>aQ _ (κ [0,1,2,3,4,5,6,7,8,9,10,11,12,13,14] I I) η<|aB 10 rfl<|bV (λw b=>DU B114 a4 (kK a.sd a.needs a.S) (cond a.sd AN' NA') (cond a.sd X H) (kK a.sd a.needs a.S) w (b.aR (j:=15) I (λ_ h=>aI.bM h)) (Pz b (i:=11) (j:=13) I I _) U U)<|aQ _ η η<|aG 11 (.bool (!(decide ((kK a.sd a.needs a.S)=(kK a.sd a.needs a.S))))) I<|aC 12 (.bool (!(decide ((kK a.sd a.needs a.S)=(kK a.sd a.needs a.S))))) I<|am 13 ?_
       refine Any.known 120 (b':=false) I si<|fQ 14 ?_
       refine aG 16 (Z t 8) I<|aW 17 (V (cond a.sd AO' OA') (kK a.sd a.offs a.T) ((cond a.sd ad L))) rfl (gY (bW 10 rfl rfl J rfl rfl) (Py ..))<|aB 15 rfl<|dC (λw b=>aaV n A132 f l bg a.st a.k Am' a.m u a.rc a.dn g a.sd An' a.needs y Ao' a.offs B A232 o p q a.T w (b.aR (j:=0) I η) (b.aR (j:=2) I η) (b.aR (j:=5) I η) (b.aR (j:=7) I (λ_ h=>kO h)) (by have h9:=E.si.l2; omega) (by have h9:=GW E.si.ao E.si.of; omega)) λB122 a5=>aQ _ (κ [0,1,2,3,4,5,6,7,8,9,10,11,12,13,14,15] I I) η<|aB 18 rfl<|bV (λw b=>DU B122 a5 (kK a.sd a.offs a.T) (cond a.sd AO' OA') (cond a.sd ad L) (kK a.sd a.offs a.T) w (b.aR (j:=16) I (λ_ h=>aI.bM h)) (Pz b (i:=12) (j:=14) I I _) U U)<|aQ _ η η<|aG 19 (.bool (!(decide ((kK a.sd a.offs a.T)=(kK a.sd a.offs a.T))))) I<|aC 20 (.bool (!(decide ((kK a.sd a.offs a.T)=(kK a.sd a.offs a.T))))) I<|cG J<|aJ<|fD I si<|Nw ?_
       refine xd ?_
       exact aF<|lw (Y (i+1)) bN<|G I<|aO (aJ (sA (i+1,a,Am',u,An',y,Ao',B,NA',H,OA',L,AN',X,AO',ad,AM',ar,aq,ao) (⟨U,E⟩) oz (κ [0,1,2,3,4,5,6,7,8,9,10,11,12,13,14] I I)))
    .exact Nj<|aF<|G rfl<|Nd<|sN [bT] λw b=>⟨I,(b.pick [] I I)⟩
   .refine aF<|G rfl<|R<|bV (λw b=>aaX A c l bg w (r1.aX b) U (ap))<|G rfl<|Ne<|G rfl<|R<|bV (λw b=>yY A c l w (r1.aX b) U)<|G rfl<|Nb<|G rfl<|M (.bool (((eM l):Int) != 0))<|Na<|lG rfl (su ap)<|Nc<|G rfl<|lw bT (gY (v:=.bool (((eM l):Int) == (eM l))) (gZ λ_=>by kernel_rfl) si)<|G rfl<|lg bT<|lT<|G rfl<|Nh<|sN [bT] λw b=>?_
    exact ⟨by first | rfl | simp,b⟩
section
open Go.ChangeShapes Go.WideShapes Go.ChangeAt Go.RowKit
theorem abG{enc:TypeId × Value->H}(m:laidOutB P=true)(l:Below W.heap.size W W'):
  ∀ (ts:List TypeId) (vs:Ξ) (c:List (DataW H)) (ps:List MemPlace),(∀ t∈ts,P.readableRec t=true/\t < P.types.size)->(∀ p∈ps,p.block < W.heap.size) ->
   DataW.TrodAll enc P W 0 (λ_=>true) true ts vs c ps->DataW.TrodAll enc P W' 0 (λb=>decide (b < W.heap.size)) true ts vs c ps:=by
 intro ts
 induction ts with
 | nil =>
  intro vs c ps _ _ h
  obtain ⟨rfl,rfl,rfl⟩:=trodAll_nil h
  exact trodAll_mk0
 | cons t ts o =>
  intro vs c ps g f h
  obtain ⟨v,i,d,e,p,q,rfl,rfl,rfl,j,k⟩:=trodAll_cons h
  refine trodAll_cons_mk (WideElems.Trod_stays m (g t (by simp)).1 (g t (by simp)).2 j (λx a=>l.same (f x (by simp [a]))) (λx a=>by simpa using f x (by simp [a]))) (o i e q (λt n=>g t (by simp [n])) (λx a=>f x (by simp [a])) k)
theorem abH{enc:TypeId × Value->H}{f:Func}{args:Array Value}(n:laidOutB P=true)(u:f.params.toList.all (λt=>P.readableRec t && decide (t < P.types.size))=true)(k:s.vars=[])(d:DataW.Whole enc P f.params.toList s.vars false W args.toList ds gs before)(g:(s.fn H ds).results=[.lit (.bool true)]/\(s.fn H ds).args=ds/\(s.fn H ds).vars=[])(a:∀ (b:Nat),DataW.TrodAll enc P W' b (λ_=>false) false f.resultTypes.toList ((Value.bool true).resultList f.resultTypes.size) [.lit (.bool true)] [])(j:Below W.heap.size W W'):s.post enc P f false true false false W args (.bool true) W':=by
 have e:∀ p∈before,p.block < W.heap.size:=λp r=>d.lt p r
 obtain ⟨p,q,l,i,rfl,m,o⟩:=id d
 rw [k] at i
 obtain ⟨rfl,rfl⟩:=trodVars_none i
 have c:=abG n j f.params.toList args.toList ds p (λt w=>by
  have:=AF6.1 u t w
  simpa using this) (λx y=>e x (by simp [y])) l
 refine ⟨ds,[],p++[],[],p,[],d,?_,?_,?_,?_,λh=>by cases h⟩
 .rw [O4,g.1]; exact a _
 .rw [O4,g.2.1]; exact c
 .rw [O4,g.2.2,k]; rfl
 .exact j.frame _
open Go.ChangeShapes Go.WideShapes Go.ChangeAt Go.RowKit
theorem abI{n:Int}(h:(Lit.int .u8 n).wf=true):0<=n/\n<=255:=by
 grind [Lit.wf,IntKind.min,IntKind.max,IntKind.signed,IntKind.bits]
theorem PC{v:Ω}(h:w.cell? a=some v):a.spot=none:=by
 unfold World.cell? at h
 split at h
 .split at h
  .grind
  .rename_i c
   cases b:a.spot with
   | none=>rfl
   | some x=>grind
 grind
theorem PD{v:Ω}(h:w.cell? ⟨b,o,none⟩=some v):b < w.heap.size:=World.block_lt_of_cell? w ⟨b,o,none⟩ h
section
variable {H:Type}{enc:TypeId × Value -> H}{P:Program}{W:World}
theorem PE{v:Ω}{d:DataW H}(C)(y:0 < C)(L:P.underlying t=some (.slice e))(O:P.cellsOf e=C)(hv:Value.okWide P W .any base t v)(h:DataW.Trod enc P W 0 (λ_=>true) true t v d p):
  ∃ (A:Δ) (n cap:Nat),v = .slice A n cap/\n<=cap/\cap<=maxLen /\
    (0 < n->∃ b o,A=some ⟨b,o,none⟩/\b < W.heap.size/\∀ i,i < n->∃ (cs:Ξ) (f:Nat) (x:DataW H × List MemPlace),cs.length=C/\(∀ j,j < C->W.cell? ⟨b,o+i*C+j,none⟩=cs[j]?)/\DataW.trod enc P W 0 (λ_=>true) true f e cs=some x):=by
 obtain ⟨A,n,cap,rfl⟩:=okWide_slice L hv
 obtain ⟨f,Q⟩:=h
 rcases Go.Deep.open_slice L (by simpa [Value.cells] using Q) with ⟨q,_⟩ | ⟨a,len,E,m,N,D,Pl,r,_,X,hm,B,_,S⟩
 .grind
 .simp only [AAj,R6,AD3] at r
  obtain ⟨rfl,rfl,rfl⟩:=r
  simp only [AA9] at B
  have k:∀ i,i < n->∃ (cs:List _) (x:DataW H × List _),cs.length=C/\(∀ j,j < C->W.cell? ((a.add (i*C)).add j)=cs[j]?)/\DataW.trod enc P W 0 (λ_=>true) true N e cs=some x:=by
   intro i u
   obtain ⟨w,F,l⟩:=S i U
   rw [O] at F
   obtain ⟨_,g,c⟩:=World.cells?_some F
   exact ⟨w,_,g,c,l⟩
  refine ⟨_,n,cap,I,X,hm,λhn=>?_⟩
  obtain ⟨cs,x,g,c,_⟩:=k 0 hn
  have q:=c 0 y
  rw [AA0,E1 U] at q
  have z:(a.add 0).add 0=a:=by unfold Addr.add; simp
  rw [z] at q
  obtain ⟨b,o,s⟩:=a
  have K:=PC q
  simp only at K
  subst K
  refine ⟨b,o,I,PD q,λi u=>?_⟩
  obtain ⟨cs,x,g,c,l⟩:=k i u
  refine ⟨cs,N,x,g,λj T=>?_,l⟩
  have:=c j T
  rwa [kB,kB] at this
end
end
section
open Go.ChangeShapes Go.WideShapes Go.ChangeAt Go.RowKit
theorem abJ : Tryz.prog.globalNamed "kinkeep/sha256.initial" = some 0 := by kernel_rfl
theorem abK : Tryz.prog.globalNamed "kinkeep/sha256.constants" = some 1 := by kernel_rfl
theorem abL:(Tryz.prog.globals[0]?).map (·.type)=some 186:=by kernel_rfl
theorem abM:(Tryz.prog.globals[1]?).map (·.type)=some 224:=by kernel_rfl
def BF : List (String × DataW Unit) := [("kinkeep/sha256.initial", Rows.laid_kinkeep_sha256_initial), ("kinkeep/sha256.constants", Rows.laid_kinkeep_sha256_constants)]
theorem abN(os args):laidMetH Tryz.prog BF ((World.doorLaid Tryz.prog 400 os).forCall (λ_ _=>0) ⟨#[],args,[]⟩).memory :=
 laidMetH_of_parts3 (fuel:=8) (laidMet_of_run' 8 J J) J J
theorem PF{enc:TypeId × Value->Unit}(r:Tryz.prog.underlying t=some (.array n 185))(h:DataW.trod enc Tryz.prog W base spare held fuel t cs=some (.agg (l.map λk:Nat=>DataW.lit (Lit.int .u32 (k:Int))),ps)):
  ∀ i x:Nat,l[i]?=some x->cs[i]?=some (.int .u32 (x:Int)):=by
 obtain ⟨u,m,_,d,_,s,b⟩:=DataW.trod_array r h
 simp only [e7,DataW.agg.injEq] at d
 have p:Tryz.prog.cellsOf 185=1:=by kernel_rfl
 intro i x j
 have q:l.length=n:=by
  have:=U0 List.length d.1
  simp at this
  omega
 have c:i < n:=by rw [<- q]; exact (C4.1 j).1
 have f:=b i c
 rw [E1 U] at f
 obtain ⟨k,e,o,_⟩:=DataW.trod_int Tryz.underlying185 f
 have a:=U0 (λz=>z[i]?) d.1
 simp only [U8,j,k9] at a
 rw [E1 U] at a
 simp only [k9,V4] at a
 rw [o] at a
 simp only [DataW.lit.injEq,Lit.int.injEq,true_and] at a
 rw [p,X1] at e
 have g:(List.take 1 (List.drop i cs))[0]?=some (.int .u32 k):=by rw [e]; rfl
 rw [Y5 U,W8,AB7] at g
 rw [g,a]
theorem abO(h:laidMetH Tryz.prog BF W):eG W:=by
 rw [MakeChecks.laidMetH_plain _ _ _ J] at h
 obtain ⟨t,⟨p,u,l,n,r,q0,a,e,g,c,⟨q,t1,m,o,s,q1,b,f,j,d,_,_⟩,_⟩,_,_⟩:=h
 obtain rfl:=Z0 (abJ.symm.trans a)
 obtain rfl:=Z0 (abK.symm.trans b)
 obtain rfl:=Z0 (abL.symm.trans e)
 obtain rfl:=Z0 (abM.symm.trans f)
 refine ⟨λi x k=>?_,λi x k=>?_⟩
 .rw [World.var?_cell a g i]
  have:=PF p7 c i x k
  simpa using this
 .rw [World.var?_cell b j i]
  have:=PF Tryz.underlying224 d i x k
  simpa using this
theorem abP(s):s=bL s.data.toList:=by
 cases s
 simp [bL]
end
section
open Go.ChangeShapes Go.WideShapes Go.ChangeAt Go.RowKit
section
variable {H:Type}{enc:TypeId × Value -> H}{P:Program}{W:World}
theorem abQ{v:Ω}{d:DataW H}(r:P.underlying t=some (.slice e))(D:P.underlying e=some .string)(y:P.cellsOf e=1)(N:Value.okWide P W .any base t v)(h:DataW.Trod enc P W 0 (λ_=>true) true t v d p):
  ∃ (A:Δ) (cap:Nat) (l:List Γ),v = .slice A l.length cap/\l.length<=9223372036854775807/\aI W A (SS l)/\l.length<=cap:=by
 obtain ⟨A,n,cap,rfl,q,k,L⟩:=PE 1 (by omega) r y N h
 have w:n<=9223372036854775807:=by unfold maxLen at k; omega
 rcases l6 n with rfl | K
 .exact ⟨A,cap,[],I,G6 _,(λi x j=>by simp at j),G6 _⟩
 .obtain ⟨b,o,rfl,Q,F⟩:=L K
  have j:∀ i,i < n->∃ x:List _,W.cell? ⟨b,o+i,none⟩=some (.string (bL x)):=by
   intro i c
   obtain ⟨O,f,x,S,B,r⟩:=F i c
   obtain ⟨a,z,_⟩:=DataW.trod_string D r
   have s:=B 0 (by omega)
   rw [X1,z] at s
   exact ⟨_,by rw [<- abP]; exact s⟩
  let g:Nat->Γ:=λi=>if h:i < n then Classical.choose (j i h) else []
  have E:∀ i (c:i < n),W.cell? ⟨b,o+i,none⟩=some (.string (bL (g i))):=by
   intro i c
   have m:g i=Classical.choose (j i c):=by simp only [g,c,dif_pos]
   rw [m]
   exact Classical.choose_spec (j i c)
  refine ⟨some ⟨b,o,none⟩,cap,(List.range n).map g,by simp,by simp; omega,?_,by simpa using q⟩
  intro i u T
  grind
end
end
section
open Go.ChangeShapes Go.WideShapes Go.ChangeAt Go.RowKit
section
variable {H:Type}{enc:TypeId × Value -> H}{P:Program}{W:World}
theorem abR{u:Υ}{c:Ω}{x:DataW H × List MemPlace}(Q:P.underlying e=some (.slice u))(p:P.underlying u=some (.int .u8))(O:P.cellsOf u=1)(h:DataW.trod enc P W 0 (λ_=>true) true f e [c]=some x):∃ (A:Δ) (cap:Nat) (bs:Γ),c = .slice A bs.length cap/\aI W A (B8 bs)/\bs.length<=cap:=by
 rcases Go.Deep.open_slice Q h with ⟨d,_⟩ | ⟨a,len,cap,m,n,D,Pl,k,_,X,hm,B,_,T⟩
 .simp only [AAj,AD3] at d
  exact ⟨_,0,[],d,(λi u p=>by simp [B8] at p),J7 _⟩
 .simp only [AAj,AD3] at k
  simp only [AA9] at B
  have L:∀ i,i < len->∃ y:UInt8,W.cell? (a.add i)=some (.int .u8 ((y.toNat:Nat))):=by
   intro i l
   obtain ⟨q,E,ht⟩:=T i U
   rw [O,X1] at E
   obtain ⟨_,w,t⟩:=World.cells?_some E
   match q,w with
   | [y],_ =>
     obtain ⟨z,hz,_,wz⟩:=DataW.trod_int p ht
     have d:=t 0 U
     rw [show (a.add i).add 0=a.add i by unfold Addr.add; simp] at d
     simp only [AAj,AD3] at hz
     obtain ⟨r,h2⟩:=abI wz
     refine ⟨UInt8.ofNat z.toNat,?_⟩
     have N:z.toNat % 256=z.toNat:=l8 U
     have h3:(((UInt8.ofNat z.toNat).toNat:Nat))=z:=by rw [AFa,show (2 ^ 8)=256 from I,N]; omega
     grind
  rcases l6 len with rfl | hn
  .exact ⟨_,cap,[],k,(λi u p=>by simp [B8] at p),G6 _⟩
  .obtain ⟨y0,d⟩:=L 0 hn
   rw [show a.add 0=a by unfold Addr.add; simp] at d
   obtain ⟨b,o,s⟩:=a
   have F:=PC d
   simp only at F
   subst F
   obtain ⟨g,S⟩:=Go.Deep.choose_lt L
   have j:((List.range len).map g).length=len:=by simp
   refine ⟨_,cap,_,by rw [j]; exact k,λi v K=>?_,by rw [j]; exact X⟩
   have l:i < len:=by
    have:=(C4.1 K).1
    simpa [B8] using this
   have r:=S i l
   rw [kB] at r
   refine ⟨b,o,I,PD d,?_⟩
   rw [r,<- K]
   simp [B8,l]
end
end
section
open Go.ChangeShapes Go.WideShapes Go.ChangeAt Go.RowKit
section
variable {H:Type}{enc:TypeId × Value -> H}{P:Program}{W:World}
theorem abS{v:Ω}(a:P.underlying t=some .bool)(c:Value.okWide P W .any base t v):∃ b:Bool,v = .bool b:=by
 obtain U:=okWide_bool a c
 grind
theorem abT{u:Υ}{x:DataW H × List MemPlace}(he:P.underlying e=some (.struct fs))(hn:P.underlying tn=some .bool)(hi:P.underlying ti=some (.int .i64))(X:P.underlying tb=some (.slice u))(hu:P.underlying u=some (.int .u8))(K:P.cellsOf u=1)(D:P.cellsOf tn=1)(E:P.cellsOf ti=1)(F:P.cellsOf tb=1)(d:fs.toList.map (λf=>(f.type,f.offset))=[(tn,0),(ti,1),(tb,2)])(h:DataW.trod enc P W 0 (λ_=>true) true f e cs=some x)(hl:cs.length=3):
  ∃ p:oI,cs=qQ p/\aI W p.A (B8 p.D)/\p.D.length<=p.c:=by
 obtain ⟨z,n,_,_,_,q,l⟩:=DataW.trod_struct he h
 match cs,hl with
 | [v0,v1,v2],_ =>
   have k:fs.toList.length=3:=by have:=U0 List.length d; simpa using this
   match a:fs.toList,k with
   | [Q,S,T],_ =>
     rw [a] at d
     simp only [X4,Y8,AAj,e7,AD3] at d
     obtain ⟨⟨t0,o0⟩,⟨t1,o1⟩,⟨t2,o2⟩⟩:=d
     have o:∀ i,i < 3->∃ y,z[i]?=some y:=λi hi=>⟨z[i]'(by rw [q,<- Array.length_toList,a]; simpa using hi),E1 _⟩
     have s:=l 0 Q (by rw [<- AB1,a]; rfl)
     have t:=l 1 S (by rw [<- AB1,a]; rfl)
     have w:=l 2 T (by rw [<- AB1,a]; rfl)
     obtain ⟨y0,L⟩:=o 0 U
     obtain ⟨y1,N⟩:=o 1 U
     obtain ⟨y2,O⟩:=o 2 U
     rw [t0,o0,D,L] at s
     rw [t1,o1,E,N] at t
     rw [t2,o2,F,O] at w
     obtain ⟨A,b,_⟩:=DataW.trod_bool hn s
     obtain ⟨z1,c,_,_⟩:=DataW.trod_int hi t
     obtain ⟨A2,r,B,g,m,j⟩:=abR X hu K w
     simp at b c
     refine ⟨⟨A,z1,A2,_,B⟩,?_,m,j⟩
     rw [b,c,g]
     rfl
end
theorem abU{enc:TypeId × Value->H}{v:Ω}(T:Value.okWide Tryz.prog W .any base 23 v)(h:DataW.Trod enc Tryz.prog W 0 (λ_=>true) true 23 v d p):∃ (A:Δ) (cap:Nat) (l:List oI),v = .slice A l.length cap/\l.length<=9223372036854775807/\aI W A (AX l)/\Px l W:=by
 obtain ⟨A,n,cap,rfl,P,t,Q⟩:=PE 3 U Tryz.underlying23 J T h
 have F:n<=9223372036854775807:=by unfold maxLen at t; omega
 rcases l6 n with rfl | O
 .exact ⟨A,cap,[],I,G6 _,(λi x k=>by simp at k),(λx k=>by simp at k)⟩
 .obtain ⟨b,o,rfl,K,y⟩:=Q O
  have k:∀ i,i < n->∃ p:oI,(∀ j u,(qQ p)[j]?=some u->W.cell? ⟨b,o+i*3+j,none⟩=some u)/\aI W p.A (B8 p.D)/\p.D.length<=p.c:=by
   intro i a
   obtain ⟨X,f,x,N,s,S⟩:=y i a
   obtain ⟨p,rfl,r⟩:=abT Tryz.underlying40 y8 ABe Y1 a7 J J J J (by rfl) S N
   refine ⟨p,λj u m=>?_,r⟩
   have L:j < 3:=(C4.1 m).1
   rw [s j L]
   exact m
  haveI:Inhabited oI:=⟨⟨false,0,none,0,[]⟩⟩
  obtain ⟨g,E⟩:=Go.Deep.choose_lt k
  have w:∀ i,i < n->((List.range n).map g)[i]?=some (g i):=λi y=>by simp [y]
  refine ⟨some ⟨b,o,none⟩,cap,(List.range n).map g,si,by grind,?_,?_⟩
  .intro q u m
   have hq:q < n*3:=by
    have:=(C4.1 m).1
    rw [abC] at this
    simpa using this
   have a:q / 3 < n:=U
   have B:q % 3 < 3:=z8 _ U
   obtain ⟨c,s⟩:=gk (qQ (g (q / 3))) (q % 3) (by show q % 3 < 3; exact B)
   have r:=Ir (w _ a) _ c s
   have e:q / 3*3+q % 3=q:=U
   rw [e,m] at r
   refine ⟨b,o,I,K,?_⟩
   have D:=(E _ a).1 _ c s
   rw [Z4,e] at D
   rw [D,r]
  .intro x k
   obtain ⟨i,z,rfl⟩:=Y9.1 k
   exact (E i (List.mem_range.1 z)).2
end
end Go.Proofs.YtkjnecaieiaijaaGreatDoor
