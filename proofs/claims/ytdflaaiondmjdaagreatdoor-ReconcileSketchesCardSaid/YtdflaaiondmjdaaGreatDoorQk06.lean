/- Part 6 of a proof: what its row uses. -/
import Derived.Test.YtdflaaiondmjdaaGreatDoorQk05
set_option maxRecDepth 100000
set_option maxHeartbeats 1000000
namespace Go.Proofs.YtdflaaiondmjdaaGreatDoor
open Go.RowKit
section
theorem AL (l:Bs) (bad:Bool) (most:Nat):(bJ l bad most).1≤most:=by
 unfold bJ
 split
 ·exact Nat.zero_le _
 ·omega
theorem Ka {D l1 l2:Bs} {n1 sd1:Nat} {b1 b2:Bool} (h1:bJ D false 3072=(n1,l1,b1)) (h2:bQ l1 b1=(sd1,l2,b2)) (h:b2=true∨dQ (n1:Int)=false):eB D=none:=by
 refine Sp ?_
 rw [h1]
 dsimp only
 cases b1 with
 | true=>exact .inl rfl
 | false =>
   rw [h2]
   rcases h with h | h
   ·exact .inr (.inl h)
   ·exact .inr (.inr h)
theorem Kb {l l1 l3:Bs} {a z:Nat} {b1 b3:Bool} (h1:bQ l false=(a,l1,b1)) (h3:bQ (eC l1 b1 32) (eE l1 b1 32)=(z,l3,b3)):gB l=(⟨eZ a,jV (bW l1 b1 32),z⟩,l3,b3):=by
 unfold gB
 rw [h1]
 dsimp only
 rw [h3]
theorem Ea (l:Bs) (b:Bool) (n:Nat):(bW l b n).length≤n:=by
 unfold bW
 split
 ·exact Nat.zero_le _
 ·rw [List.length_take]; omega
theorem AM {c:BC} (h:c.keys.length=32):c.cells.length=34:=by simp [BC.cells,dL,h]
theorem Kc {k:Bs} (h:k.length≤32):(jV k).length=32:=by
 unfold jV
 rw [List.length_append,List.length_replicate]
 omega
theorem Ke {k:Bs} {j:Nat} {x:UInt8} (hx:k[j]?=some x) (h:k.length≤32):(k.take j++List.replicate (32 - j) 0).set j x=k.take (j+1)++List.replicate (32 - (j+1)) 0:=by
 have hj:=(List.getElem?_eq_some_iff.1 hx).1
 rw [List.set_append_right _ _ (by rw [List.length_take]; omega),List.length_take,Nat.min_eq_left om,Nat.sub_self,show 32 - j=(32 - (j+1))+1 by omega,List.replicate_succ,List.set_cons_zero,List.take_add_one,hx]
 simp
theorem Ts {D l:Bs} {n sd i:Nat} {cl:List BC} {b:Bool} {u:BT} (hd:eB D=some u) (hT:mN D n sd i cl l b) (hin:i=n) (hb:b=false) (hz:dQ (n:Int)=true) (hu:bI sd):l=[]∧u=⟨cl,sd⟩:=by
 subst hin hb
 obtain ⟨-,h2,-,h4⟩:=hT.cpl u hd
 rw [List.drop_eq_nil_of_le om] at h4
 have h5:l=[]:=h4
 subst h5
 have h6:=hT.yes hz hu
 rw [hd] at h6
 exact ⟨rfl,Option.some.inj h6⟩
theorem Tt {D l:Bs} {n sd i:Nat} {cl:List BC} {b:Bool} (hT:mN D n sd i cl l b) (hin:i=n) (hb:b=false) (hz:dQ (n:Int)=true) (hu:bI sd) (hd:eB D=none):((((l.length:Nat):Int):Int) == 0)=false:=by
 subst hin hb
 cases l with
 | nil=>rw [hT.yes hz hu] at hd; cases hd
 | cons x l=>simp; omega
section
variable {w0 w : World} {F : List Nat} {cs : List Ch}
theorem Mm.KU (h:Mm w0 F cs w) (i:Nat) {X:RX} {n sd:Nat} (hi:cs[i]?=some (fT X (BT.new n sd))):Mm w0 F (cs.set i (aD X.g 136 (aU (List.replicate n BC.zero)++X.rest))) w:=by
 have h1:gW w X.g X.c X.rest (BT.new n sd):=h.at hi
 have h2:=h.swap i hi (c':=aD X.g 136 (aU (List.replicate n BC.zero)++X.rest)) (Fr.refl _ _) h1.cells (fun b hb=>.inl hb) (by simp [aD])
 exact h2
theorem Mm.UR {X:RX} {t:BT} (h:Mm w0 F [aD X.g 136 (aU t.cells++X.rest)] w) (hok:t.Ok) (hz:dQ (t.cells.length:Int)=true) (hc:t.cells.length≤X.c):Mm w0 F [fT X t] w :=
 h.swap 0 rfl (c':=fT X t) (Fr.refl _ _) ⟨h.at (i:=0) rfl,hok,hz,hc⟩ (fun b hb=>.inl hb) (by simp [mJ])
end
theorem AN (br:Nat) (A:Option Addr) (D:List UInt8) (A1:Option Addr) (c1:Nat) (l:List UInt8) (bad:Bool) (w:World) (hO:cE [aD br 88 [(vL A1 l c1),(.bool bad)]] w) (r0:Rf [aD br 88 [(vL A1 l c1),(.bool bad)]] w (fun w=>aH w A (B8 D))) (hs:eX A D A1 l c1) (hD:D.length≤1048576) :
  Calls Tryz.prog 41 #[(vP br 0)] w fun e w'=>∃ (A2:Option Addr) (c2:Nat) (B:Option Addr) (cb:Nat),e = .returned (vL B (bW (bJ l bad 1048576).2.1 (bJ l bad 1048576).2.2 (bJ l bad 1048576).1) cb)∧aJ [aD br 88 [(vL A1 l c1),(.bool bad)]] w [aD br 88 [(vL A2 (eC (bJ l bad 1048576).2.1 (bJ l bad 1048576).2.2 (bJ l bad 1048576).1) c2),(.bool (eE (bJ l bad 1048576).2.1 (bJ l bad 1048576).2.2 (bJ l bad 1048576).1))],cB B (bW (bJ l bad 1048576).2.1 (bJ l bad 1048576).2.2 (bJ l bad 1048576).1) cb] w'∧(eX A D A2 ((eC (bJ l bad 1048576).2.1 (bJ l bad 1048576).2.2 (bJ l bad 1048576).1)) c2):=by
 exact dI Tryz.func41 7 (hO) rfl<|Nc<|lx rfl<|Nb<|lx rfl<|Nx<|kL [0] (fun w hM hO=>DZ br A D A1 c1 l bad 1048576 w hO (r0.cK hM [0]) ag ag om) fun A25 c25 hs5=>Nx<|oG [0] (fun w hM hO=>DY br A D A25 c25 ((bJ l bad 1048576).2.1) ((bJ l bad 1048576).2.2) ((bJ l bad 1048576).1) w hO (r0.cK hM [0]) ag ag (AL l bad 1048576)) fun A26 c26 B6 cb6 hs6=>lx rfl<|Nd<|sN [(vL B6 (bW ((bJ l bad 1048576).2.1) ((bJ l bad 1048576).2.2) ((bJ l bad 1048576).1)) cb6)] fun w hM=>⟨A26,c26,B6,cb6,rfl,hM,hs6⟩
theorem Kf (A:Option Addr) (c:Nat) (D:List UInt8) (w:World) (r0:Rf [] w (fun w=>aH w A (B8 D))) (hD:D.length≤1048576) (hc:D.length≤c) (hd:eB D=none) :
  Calls Tryz.prog 40 #[(vL A D c)] w fun e w'=>∃ (sd:Nat) (Ag:Option Addr) (n cg:Nat),e = .returned (.tuple #[(.agg #[(.int .u64 ((sd:Nat):Int)),(.slice Ag (n) (cg))]),bF])∧aJ [] w [] w':=by
 refine dI Tryz.func40 83 (Mm.start w []) rfl<|Nc<|Nx<|pA [(.int .u64 0),nS] fun b2=>lx rfl<|Nb<|lx rfl<|lk (.agg #[(vL A D c),bF])<|Nx<|pB [(vL A D c),bF] fun b14=>lx rfl<|Nf ?_
 have hs0:eX A D A D c:=⟨fun w h=>h,hc,Nat.le_refl _⟩
 refine aF<|lx rfl<|Nx<|kL [1] (fun w hM hO=>DZ b14 A D A c D false 3072 w hO (r0.cK hM [1]) (hs0) ag om) fun A216 c216 hs16=>?_
 obtain ⟨n1,l1,f1,h1⟩:∃ x y z,bJ D false 3072=(x,y,z):=⟨_,_,_,rfl⟩
 rw [show (bJ D false 3072).1=n1 from by rw [h1]]
 rw [show (bJ D false 3072).2.1=l1 from by rw [h1]]
 rw [show (bJ D false 3072).2.2=f1 from by rw [h1]]
 rw [h1] at hs16
 change eX A D A216 l1 c216 at hs16
 have hn1:n1≤3072:=by have h9:=AL D false 3072; rw [h1] at h9; exact h9
 refine lx rfl<|Nb<|lx rfl<|Nx<|kL [1] (fun w hM hO=>tB b14 A D A216 c216 l1 f1 w hO (r0.cK hM [1]) ag ag) fun A218 c218 hs18=>?_
 obtain ⟨sd1,l2,f2,h2⟩:∃ x y z,bQ l1 f1=(x,y,z):=⟨_,_,_,rfl⟩
 rw [show (bQ l1 f1).1=sd1 from by rw [h2]]
 rw [show (bQ l1 f1).2.1=l2 from by rw [h2]]
 rw [show (bQ l1 f1).2.2=f2 from by rw [h2]]
 rw [h2] at hs18
 change eX A D A218 l2 c218 at hs18
 have hu1:bI sd1:=by have h9:=sX l1 f1; rw [h2] at h9; exact h9
 refine lx rfl<|Nf<|aS ?_
 dsimp only [bE,List.set,List.cons_append,List.nil_append]
 refine aF<|lx rfl<|lk (vP b14 0)<|lk (vP b14 1)<|lL 1 rfl<|lm ?_
 refine St.dec 23 rfl (fun hc23=>?_) (fun hc23=>?_)
 ·exact lx rfl<|lT<|No<|lk (.agg #[(.int .u64 0),nS])<|Nx<|pT 0 [(.int .u64 0),nS] rfl<|lx rfl<|Nh<|fP [(.agg #[(.int .u64 0),nS]),bF] rfl ⟨⟨_,rfl,fun w hM=>gZ kr kr (eQ (i:=0) (off:=0) rfl (by intro j v hj; rw [Nat.zero_add]; exact hj) w hM)⟩,rfl,trivial⟩ (fun w hM=>⟨0,none,0,0,rfl,(hM.pick [] rfl rfl)⟩)
 ·obtain rfl:f2=false:=hc23
  obtain rfl:f1=false:=DO (by rw [h2])
  refine lx rfl<|cO rfl rfl<|bP (fun w hM=>IX ((n1:Nat):Int) w )<|lg (.bool (!(dQ ((n1:Nat):Int))))<|lk (.bool (!(dQ ((n1:Nat):Int)))) ?_
  refine aO (aI (bD rfl (fun hc27=>?_) (fun hc27=>?_)))
  ·exact Nc<|lk (.agg #[(.int .u64 0),nS])<|Nx<|pT 0 [(.int .u64 0),nS] rfl<|lx rfl<|Nh<|fP [(.agg #[(.int .u64 0),nS]),bF] rfl ⟨⟨_,rfl,fun w hM=>gZ kr kr (eQ (i:=0) (off:=0) rfl (by intro j v hj; rw [Nat.zero_add]; exact hj) w hM)⟩,rfl,trivial⟩ (fun w hM=>⟨0,none,0,0,rfl,(hM.pick [] rfl rfl)⟩)
  ·have hz:dQ (n1:Int)=true:=by simpa using hc27
   have hzb:=gV hz
   refine Ni<|lx rfl<|Nx<|gD (fun w hM=>DB n1 sd1 w (hz) (hu1)) fun X31=>Nx<|pA [(.int .u64 0),nS] fun b7=>Nx<|pT 3 [(vU sd1),(.slice (some ⟨X31.g,0,none⟩) (n1) (X31.c))] rfl ?_
   dsimp only [bE,List.set,List.cons_append,List.nil_append]
   refine Nf<|aS ?_
   have hT:=mN.start (b:=D) h1 h2
   refine St.fact (fun w hM=>(hM.at (i:=2) rfl:(fT X31 (BT.new n1 sd1)).holds w).cap) (fun hcap=>?_)
   rw [uR] at hcap
   refine St.mem (cs':=[aD b2 83 [(.int .u64 0),nS],aD b14 88 [(vL A218 l2 c218),bF],aD X31.g 136 (aU (List.replicate n1 BC.zero)++X31.rest),aD b7 83 [(vU sd1),(.slice (some ⟨X31.g,0,none⟩) (n1) (X31.c))]]) (fun w hM=>Mm.KU hM 2 rfl)<|aF<|lx rfl<|Ng<|sL (fun (i,cl,A4,l4,c4,f4)=>mN D n1 sd1 i cl l4 f4∧eX A D A4 l4 c4) (fun (i,cl,A4,l4,c4,f4)=>n1 - i) (fun (i,cl,A4,l4,c4,f4)=>[(2,(vP b2 0)),(3,bF),(4,(vP b14 0)),(5,(vI n1)),(7,(vP b7 0)),(8,(vI i))]) (fun (i,cl,A4,l4,c4,f4)=>[aD b2 83 [(.int .u64 0),nS],aD b14 88 [(vL A4 l4 c4),(.bool f4)],aD X31.g 136 (aU cl++X31.rest),aD b7 83 [(vU sd1),(.slice (some ⟨X31.g,0,none⟩) (n1) (X31.c))]]) (0,List.replicate n1 BC.zero,A218,l2,c218,false) ⟨hT,hs18⟩ (fun _ h=>h) ?_
   rintro ⟨i,cl,A4,l4,c4,f4⟩ ⟨hT,hs4⟩
   dsimp only
   refine Ny<|lx rfl<|lk (.bool (decide (((i:Nat):Int) < ((n1:Nat):Int))))<|lm ?_
   refine St.dec 35 rfl (fun hc35=>?_) (fun hc35=>?_)
   ·have hd35:=of_decide_eq_true hc35
    have hlt:i < n1:=by have:=of_decide_eq_true hc35; omega
    refine lx rfl<|lg (vP b14 0)<|lg (vP b14 1)<|lu (.bool f4) (cW 1 rfl rfl kr rfl rfl)<|lg (.bool (!f4))<|lk (.bool (!f4)) ?_
    refine aO (aI (bD rfl (fun hc41=>?_) (fun hc41=>?_)))
    ·obtain rfl:f4=false:=by simpa using hc41
     refine Nm<|aF<|lx rfl<|Nx<|kL [1] (fun w hM hO=>tB b14 A D A4 c4 l4 false w hO (r0.cK hM [1]) (hs4) ag) fun A245 c245 hs45=>?_
     obtain ⟨a4,l5,f5,h5⟩:∃ x y z,bQ l4 false=(x,y,z):=⟨_,_,_,rfl⟩
     rw [show (bQ l4 false).1=a4 from by rw [h5]]
     rw [show (bQ l4 false).2.1=l5 from by rw [h5]]
     rw [show (bQ l4 false).2.2=f5 from by rw [h5]]
     rw [h5] at hs45
     change eX A D A245 l5 c245 at hs45
     have hu5:bI a4:=by have h9:=sX l4 false; rw [h5] at h9; exact h9
     refine Nx<|bP (fun w hM=>IY a4 w (hu5))<|lk (.agg #[(vi (eZ a4)),(.int .u8 0),(.int .u8 0),(.int .u8 0),(.int .u8 0),(.int .u8 0),(.int .u8 0),(.int .u8 0),(.int .u8 0),(.int .u8 0),(.int .u8 0),(.int .u8 0),(.int .u8 0),(.int .u8 0),(.int .u8 0),(.int .u8 0),(.int .u8 0),(.int .u8 0),(.int .u8 0),(.int .u8 0),(.int .u8 0),(.int .u8 0),(.int .u8 0),(.int .u8 0),(.int .u8 0),(.int .u8 0),(.int .u8 0),(.int .u8 0),(.int .u8 0),(.int .u8 0),(.int .u8 0),(.int .u8 0),(.int .u8 0),(.int .u64 0)])<|Nx<|pA [(vi 0),(.int .u8 0),(.int .u8 0),(.int .u8 0),(.int .u8 0),(.int .u8 0),(.int .u8 0),(.int .u8 0),(.int .u8 0),(.int .u8 0),(.int .u8 0),(.int .u8 0),(.int .u8 0),(.int .u8 0),(.int .u8 0),(.int .u8 0),(.int .u8 0),(.int .u8 0),(.int .u8 0),(.int .u8 0),(.int .u8 0),(.int .u8 0),(.int .u8 0),(.int .u8 0),(.int .u8 0),(.int .u8 0),(.int .u8 0),(.int .u8 0),(.int .u8 0),(.int .u8 0),(.int .u8 0),(.int .u8 0),(.int .u8 0),(.int .u64 0)] fun b9=>Nx<|pT 4 [(vi (eZ a4)),(.int .u8 0),(.int .u8 0),(.int .u8 0),(.int .u8 0),(.int .u8 0),(.int .u8 0),(.int .u8 0),(.int .u8 0),(.int .u8 0),(.int .u8 0),(.int .u8 0),(.int .u8 0),(.int .u8 0),(.int .u8 0),(.int .u8 0),(.int .u8 0),(.int .u8 0),(.int .u8 0),(.int .u8 0),(.int .u8 0),(.int .u8 0),(.int .u8 0),(.int .u8 0),(.int .u8 0),(.int .u8 0),(.int .u8 0),(.int .u8 0),(.int .u8 0),(.int .u8 0),(.int .u8 0),(.int .u8 0),(.int .u8 0),(.int .u64 0)] rfl<|Nf<|aS ?_
     dsimp only [bE,List.set,List.cons_append,List.nil_append]
     refine aF<|lx rfl<|Nx<|oG [1] (fun w hM hO=>DY b14 A D A245 c245 l5 f5 32 w hO (r0.cK hM [1]) ag ag (by decide)) fun A249 c249 B49 cb49 hs49=>?_
     have htl:(bW l5 f5 32).length≤32:=Ea _ _ _
     refine lk (vI ((bW l5 f5 32).length))<|lx rfl<|Ng<|sL (fun j=>j≤(bW l5 f5 32).length) (fun j=>(bW l5 f5 32).length - j) (fun j=>[(2,(vP b2 0)),(3,bF),(4,(vP b14 0)),(5,(vI n1)),(7,(vP b7 0)),(8,(vI i)),(9,(vP b9 0)),(49,(vL B49 (bW l5 f5 32) cb49)),(50,(vI ((bW l5 f5 32).length))),(51,(vI j))]) (fun j=>[aD b2 83 [(.int .u64 0),nS],aD b14 88 [(vL A249 (eC l5 f5 32) c249),(.bool (eE l5 f5 32))],aD X31.g 136 (aU cl++X31.rest),aD b7 83 [(vU sd1),(.slice (some ⟨X31.g,0,none⟩) (n1) (X31.c))],aD b9 136 ((BC.mk (eZ a4) ((bW l5 f5 32).take j++List.replicate (32 - j) 0) 0).cells),cB B49 (bW l5 f5 32) cb49]) 0 (Nat.zero_le _) (fun w hM=>by show Mm _ _ [aD b2 83 [(.int .u64 0),nS],aD b14 88 [(vL A249 (eC l5 f5 32) c249),(.bool (eE l5 f5 32))],aD X31.g 136 (aU cl++X31.rest),aD b7 83 [(vU sd1),(.slice (some ⟨X31.g,0,none⟩) (n1) (X31.c))],aD b9 136 ((BC.mk (eZ a4) ((bW l5 f5 32).take 0++List.replicate (32 - 0) 0) 0).cells),cB B49 (bW l5 f5 32) cb49] w; exact hM) ?_
     intro j hj
     show St _ _ _ [(2,(vP b2 0)),(3,bF),(4,(vP b14 0)),(5,(vI n1)),(7,(vP b7 0)),(8,(vI i)),(9,(vP b9 0)),(49,(vL B49 (bW l5 f5 32) cb49)),(50,(vI ((bW l5 f5 32).length))),(51,(vI j))] [aD b2 83 [(.int .u64 0),nS],aD b14 88 [(vL A249 (eC l5 f5 32) c249),(.bool (eE l5 f5 32))],aD X31.g 136 (aU cl++X31.rest),aD b7 83 [(vU sd1),(.slice (some ⟨X31.g,0,none⟩) (n1) (X31.c))],aD b9 136 ((BC.mk (eZ a4) ((bW l5 f5 32).take j++List.replicate (32 - j) 0) 0).cells),cB B49 (bW l5 f5 32) cb49] _
     refine Nc<|lk (.bool (decide (((j:Nat):Int) < (((bW l5 f5 32).length:Nat):Int)))) ?_
     refine aO (aI (aS (bD rfl (fun hc52=>?_) (fun hc52=>?_))))
     ·have hd52:=of_decide_eq_true hc52
      refine Nm<|aF<|lx rfl ?_
      obtain ⟨x0,hx0⟩:∃ ξ,(bW l5 f5 32)[j]?=some ξ:=⟨_,List.getElem?_eq_getElem om⟩
      refine St.eY (fun w hM=>gJ (i:=5) rfl w hM) (yL hx0) (fun p54 q54 hA54 hc54=>lw (vP p54 (q54+j)) (rR 5 hA54)<|lW (rW hc54)<|lx rfl<|Nv<|lx rfl<|lk (vP b9 1)<|lw (vP b9 (1+j)) (kU (e:=5) (m:=32) rfl kr kr rfl rfl om)<|Nx<|kJ 4 rfl rfl kr rfl rfl rfl kr rfl (by rw [AM (by rw [List.length_append,List.length_take,List.length_replicate]; omega)]; omega) ?_)
      rw [Cx (by rw [List.length_append,List.length_take,List.length_replicate]; omega),Ke hx0 htl]
      exact Nk<|aF<|lw (vI (j+1)) bO<|lx rfl<|aO (aI (sA (j+1) (by show _≤_; omega) (by show (bW l5 f5 32).length - (j+1) < (bW l5 f5 32).length - j; omega) (fun w hM=>hM)))
     ·have hd52:=of_decide_eq_false hc52
      obtain rfl:j=(bW l5 f5 32).length:=by have:=of_decide_eq_false hc52; omega
      rw [List.take_length]
      refine St.to [aD b2 83 [(.int .u64 0),nS],aD b14 88 [(vL A249 (eC l5 f5 32) c249),(.bool (eE l5 f5 32))],aD X31.g 136 (aU cl++X31.rest),aD b7 83 [(vU sd1),(.slice (some ⟨X31.g,0,none⟩) (n1) (X31.c))],aD b9 136 ((BC.mk (eZ a4) (jV (bW l5 f5 32)) 0).cells),cB B49 (bW l5 f5 32) cb49] (by rfl)<|Nj<|aF<|lx rfl<|Nx<|kL [1] (fun w hM hO=>tB b14 A D A249 c249 (eC l5 f5 32) (eE l5 f5 32) w hO (r0.cK hM [1]) ag ag) fun A262 c262 hs62=>?_
      obtain ⟨z7,l7,f7,h7⟩:∃ x y z,bQ (eC l5 f5 32) (eE l5 f5 32)=(x,y,z):=⟨_,_,_,rfl⟩
      rw [show (bQ (eC l5 f5 32) (eE l5 f5 32)).1=z7 from by rw [h7]]
      rw [show (bQ (eC l5 f5 32) (eE l5 f5 32)).2.1=l7 from by rw [h7]]
      rw [show (bQ (eC l5 f5 32) (eE l5 f5 32)).2.2=f7 from by rw [h7]]
      rw [h7] at hs62
      change eX A D A262 l7 c262 at hs62
      have hrc:gB l4=(⟨eZ a4,jV (bW l5 f5 32),z7⟩,l7,f7):=Kb h5 h7
      refine lk (vP b9 33)<|Nx ?_
      have hk32:(jV (bW l5 f5 32)).length=32:=Kc htl
      refine kJ 4 rfl rfl kr rfl rfl rfl kr rfl (by rw [AM hk32]; omega) ?_
      rw [← uB (c:=BC.mk (eZ a4) (jV (bW l5 f5 32)) 0) hk32]
      refine St.to [aD b2 83 [(.int .u64 0),nS],aD b14 88 [(vL A262 l7 c262),(.bool f7)],aD X31.g 136 (aU cl++X31.rest),aD b7 83 [(vU sd1),(.slice (some ⟨X31.g,0,none⟩) (n1) (X31.c))],aD b9 136 ((gB l4).1.cells),cB B49 (bW l5 f5 32) cb49] (by rw [hrc]; rfl)<|Nv<|lk (vP b7 1)<|lL 3 rfl<|lx rfl<|lw (.agg (gB l4).1.cells.toArray) (gC (gB l4).1.cells rfl rfl kr (by rw [BC.cells_len (xK l4)]; kernel_rfl) (eQ (i:=4) rfl (fun j v hj=>by rw [Nat.zero_add]; exact hj)))<|lw (vP X31.g (0+i*34)) (jN (e:=136) (sz:=34) rfl kr kr rfl rfl hlt)<|Nx ?_
      have hcl34:=BC.cells_len (xK l4)
      have hci:∃ c,cl[i]?=some c:=⟨_,List.getElem?_eq_getElem (by rw [hT.len]; exact hlt)⟩
      obtain ⟨co,hco⟩:=hci
      refine gI 2 (aU (cl.set i (gB l4).1)++X31.rest) (vs:=(gB l4).1.cells) rfl rfl kr rfl rfl rfl (by rw [hcl34]; kernel_rfl) rfl (by rw [hcl34,List.length_append,kM hT.ok,hT.len]; omega) (BC.mB _) (by rw [hcl34,Nat.zero_add]; exact (zI hT.ok X31.rest i co hco _).symm) ?_
      refine Nk ?_
      dsimp only [bE,List.set,List.cons_append,List.nil_append]
      exact aF<|lx rfl<|lw (vI (i+1)) bO<|lx rfl<|aO (aI (sA (i+1,cl.set i (gB l4).1,A262,l7,c262,f7) (⟨by have h9:=hT.step hlt; rw [hrc] at h9 ⊢; exact h9,hs62⟩) (by show n1 - (i+1) < n1 - i; omega) (fun w hM=>(hM.pick [0,1,2,3] rfl rfl))))
    ·obtain rfl:f4=true:=by simpa using hc41
     refine Nj<|cQ _ 16 kr (fun _ h=>h.pick [1,2,3] rfl rfl)<|aV 0 _ rfl (rA 2 [(vU sd1),(.slice (some ⟨X31.g,0,none⟩) (n1) (X31.c))])<|am 1 ?_
     refine aC 2 (vP b14 0) rfl<|aC 3 (vP b14 1) rfl<|al 4 0 ?_
     refine aC 5 bF rfl ?_
     refine am 6 ?_
     refine dF 7 ?_
     refine dF 8 ?_
     refine dF 9 ?_
     refine dF 10 ?_
     refine dF 11 ?_
     refine dF 12 ?_
     refine aC 13 bF rfl<|aA 14 rfl<|pT 0 [(vU sd1),(.slice (some ⟨X31.g,0,none⟩) (n1) (X31.c))] rfl<|aP _ (fun _ h=>h) (fun _ h=>h.pick [1,2,3] rfl rfl)<|aa 15 ?_
     exact cF kr<|aI<|fX<|fP [(.agg #[(vU sd1),(.slice (some ⟨X31.g,0,none⟩) (n1) (X31.c))]),bF] rfl ⟨⟨_,rfl,fun w hM=>gZ kr kr (eQ (i:=0) (off:=0) rfl (by intro j v hj; rw [Nat.zero_add]; exact hj) w hM)⟩,rfl,trivial⟩ (fun w hM=>⟨sd1,some ⟨X31.g,0,none⟩,n1,X31.c,rfl,(hM.pick [] rfl rfl)⟩)
   ·have hd35:=of_decide_eq_false hc35
    have hin:i=n1:=by have:=hT.le; have:=of_decide_eq_false hc35; omega
    refine lx rfl<|lF<|Nu<|Nj<|cQ _ 16 kr (fun _ h=>h.pick [1,2,3] rfl rfl)<|aV 0 _ rfl (rA 2 [(vU sd1),(.slice (some ⟨X31.g,0,none⟩) (n1) (X31.c))])<|am 1 ?_
    refine aC 2 (vP b14 0) rfl<|aC 3 (vP b14 1) rfl<|al 4 0 ?_
    refine aC 5 (.bool (!f4)) rfl ?_
    refine am 6 ?_
    refine Any.dec 75 rfl (fun hc75=>?_) (fun hc75=>?_)
    ·refine iL 7 ?_
     refine aG 8 (vP b14 0) rfl<|aG 9 (vP b14 0) rfl<|aW 10 (vL A4 l4 c4) rfl (cW 0 rfl rfl kr rfl rfl)<|aG 11 (vI l4.length) rfl<|aG 12 (.bool ((((l4.length:Nat):Int):Int) == 0)) rfl<|aC 13 (.bool ((((l4.length:Nat):Int):Int) == 0)) rfl<|aA 14 rfl<|pT 0 [(vU sd1),(.slice (some ⟨X31.g,0,none⟩) (n1) (X31.c))] rfl<|aP _ (fun _ h=>h) (fun _ h=>h.pick [1,2,3] rfl rfl)<|aa 15 ?_
     refine cF kr<|aI<|fX<|fP [(.agg #[(vU sd1),(.slice (some ⟨X31.g,0,none⟩) (n1) (X31.c))]),(.bool ((((l4.length:Nat):Int):Int) == 0))] rfl ⟨⟨_,rfl,fun w hM=>gZ kr kr (eQ (i:=0) (off:=0) rfl (by intro j v hj; rw [Nat.zero_add]; exact hj) w hM)⟩,rfl,trivial⟩ (fun w hM=>?_)
     rw [Tt hT hin (by simpa using hc75) hz hu1 hd]
     exact ⟨sd1,some ⟨X31.g,0,none⟩,n1,X31.c,rfl,(hM.pick [] rfl rfl)⟩
    ·refine dF 7 ?_
     refine dF 8 ?_
     refine dF 9 ?_
     refine dF 10 ?_
     refine dF 11 ?_
     refine dF 12 ?_
     refine aC 13 bF rfl<|aA 14 rfl<|pT 0 [(vU sd1),(.slice (some ⟨X31.g,0,none⟩) (n1) (X31.c))] rfl<|aP _ (fun _ h=>h) (fun _ h=>h.pick [1,2,3] rfl rfl)<|aa 15 ?_
     exact cF kr<|aI<|fX<|fP [(.agg #[(vU sd1),(.slice (some ⟨X31.g,0,none⟩) (n1) (X31.c))]),bF] rfl ⟨⟨_,rfl,fun w hM=>gZ kr kr (eQ (i:=0) (off:=0) rfl (by intro j v hj; rw [Nat.zero_add]; exact hj) w hM)⟩,rfl,trivial⟩ (fun w hM=>⟨sd1,some ⟨X31.g,0,none⟩,n1,X31.c,rfl,(hM.pick [] rfl rfl)⟩)
theorem Kg (A:Option Addr) (c:Nat) (D:List UInt8) (u:BT) (w:World) (r0:Rf [] w (fun w=>aH w A (B8 D))) (hD:D.length≤1048576) (hc:D.length≤c) (hd:eB D=some u) :
  Calls Tryz.prog 40 #[(vL A D c)] w fun e w'=>∃ (X:RX) (n sd:Nat),e = .returned (.tuple #[(.agg #[(.int .u64 ((sd:Nat):Int)),(.slice (some ⟨X.g,0,none⟩) (n) (X.c))]),bT])∧aJ [] w [fT X u] w'∧(u.cells.length=n)∧(u.seed=sd):=by
 refine dI Tryz.func40 83 (Mm.start w []) rfl<|Nc<|Nx<|pA [(.int .u64 0),nS] fun b2=>lx rfl<|Nb<|lx rfl<|lk (.agg #[(vL A D c),bF])<|Nx<|pB [(vL A D c),bF] fun b14=>lx rfl<|Nf ?_
 have hs0:eX A D A D c:=⟨fun w h=>h,hc,Nat.le_refl _⟩
 refine aF<|lx rfl<|Nx<|kL [1] (fun w hM hO=>DZ b14 A D A c D false 3072 w hO (r0.cK hM [1]) (hs0) ag om) fun A216 c216 hs16=>?_
 obtain ⟨n1,l1,f1,h1⟩:∃ x y z,bJ D false 3072=(x,y,z):=⟨_,_,_,rfl⟩
 rw [show (bJ D false 3072).1=n1 from by rw [h1]]
 rw [show (bJ D false 3072).2.1=l1 from by rw [h1]]
 rw [show (bJ D false 3072).2.2=f1 from by rw [h1]]
 rw [h1] at hs16
 change eX A D A216 l1 c216 at hs16
 have hn1:n1≤3072:=by have h9:=AL D false 3072; rw [h1] at h9; exact h9
 refine lx rfl<|Nb<|lx rfl<|Nx<|kL [1] (fun w hM hO=>tB b14 A D A216 c216 l1 f1 w hO (r0.cK hM [1]) ag ag) fun A218 c218 hs18=>?_
 obtain ⟨sd1,l2,f2,h2⟩:∃ x y z,bQ l1 f1=(x,y,z):=⟨_,_,_,rfl⟩
 rw [show (bQ l1 f1).1=sd1 from by rw [h2]]
 rw [show (bQ l1 f1).2.1=l2 from by rw [h2]]
 rw [show (bQ l1 f1).2.2=f2 from by rw [h2]]
 rw [h2] at hs18
 change eX A D A218 l2 c218 at hs18
 have hu1:bI sd1:=by have h9:=sX l1 f1; rw [h2] at h9; exact h9
 refine lx rfl<|Nf<|aS ?_
 dsimp only [bE,List.set,List.cons_append,List.nil_append]
 refine aF<|lx rfl<|lk (vP b14 0)<|lk (vP b14 1)<|lL 1 rfl<|lm ?_
 refine St.dec 23 rfl (fun hc23=>?_) (fun hc23=>?_)
 ·exact absurd (Ka h1 h2 (.inl hc23)) (by rw [hd]; simp)
 ·obtain rfl:f2=false:=hc23
  obtain rfl:f1=false:=DO (by rw [h2])
  refine lx rfl<|cO rfl rfl<|bP (fun w hM=>IX ((n1:Nat):Int) w )<|lg (.bool (!(dQ ((n1:Nat):Int))))<|lk (.bool (!(dQ ((n1:Nat):Int)))) ?_
  refine aO (aI (bD rfl (fun hc27=>?_) (fun hc27=>?_)))
  ·exact absurd (Ka h1 h2 (.inr (by simpa using hc27))) (by rw [hd]; simp)
  ·have hz:dQ (n1:Int)=true:=by simpa using hc27
   have hzb:=gV hz
   refine Ni<|lx rfl<|Nx<|gD (fun w hM=>DB n1 sd1 w (hz) (hu1)) fun X31=>Nx<|pA [(.int .u64 0),nS] fun b7=>Nx<|pT 3 [(vU sd1),(.slice (some ⟨X31.g,0,none⟩) (n1) (X31.c))] rfl<|Nf<|aS ?_
   dsimp only [bE,List.set,List.cons_append,List.nil_append]
   have hT:=mN.start (b:=D) h1 h2
   refine St.fact (fun w hM=>(hM.at (i:=2) rfl:(fT X31 (BT.new n1 sd1)).holds w).cap) (fun hcap=>?_)
   rw [uR] at hcap
   refine St.mem (cs':=[aD b2 83 [(.int .u64 0),nS],aD b14 88 [(vL A218 l2 c218),bF],aD X31.g 136 (aU (List.replicate n1 BC.zero)++X31.rest),aD b7 83 [(vU sd1),(.slice (some ⟨X31.g,0,none⟩) (n1) (X31.c))]]) (fun w hM=>Mm.KU hM 2 rfl)<|aF<|lx rfl<|Ng<|sL (fun (i,cl,A4,l4,c4,f4)=>mN D n1 sd1 i cl l4 f4∧eX A D A4 l4 c4) (fun (i,cl,A4,l4,c4,f4)=>n1 - i) (fun (i,cl,A4,l4,c4,f4)=>[(2,(vP b2 0)),(3,bF),(4,(vP b14 0)),(5,(vI n1)),(7,(vP b7 0)),(8,(vI i))]) (fun (i,cl,A4,l4,c4,f4)=>[aD b2 83 [(.int .u64 0),nS],aD b14 88 [(vL A4 l4 c4),(.bool f4)],aD X31.g 136 (aU cl++X31.rest),aD b7 83 [(vU sd1),(.slice (some ⟨X31.g,0,none⟩) (n1) (X31.c))]]) (0,List.replicate n1 BC.zero,A218,l2,c218,false) ⟨hT,hs18⟩ (fun _ h=>h) ?_
   rintro ⟨i,cl,A4,l4,c4,f4⟩ ⟨hT,hs4⟩
   dsimp only
   refine Ny<|lx rfl<|lk (.bool (decide (((i:Nat):Int) < ((n1:Nat):Int))))<|lm ?_
   refine St.dec 35 rfl (fun hc35=>?_) (fun hc35=>?_)
   ·have hd35:=of_decide_eq_true hc35
    have hlt:i < n1:=by have:=of_decide_eq_true hc35; omega
    refine lx rfl<|lg (vP b14 0)<|lg (vP b14 1)<|lu (.bool f4) (cW 1 rfl rfl kr rfl rfl)<|lg (.bool (!f4))<|lk (.bool (!f4)) ?_
    refine aO (aI (bD rfl (fun hc41=>?_) (fun hc41=>?_)))
    ·obtain rfl:f4=false:=by simpa using hc41
     refine Nm<|aF<|lx rfl<|Nx<|kL [1] (fun w hM hO=>tB b14 A D A4 c4 l4 false w hO (r0.cK hM [1]) (hs4) ag) fun A245 c245 hs45=>?_
     obtain ⟨a4,l5,f5,h5⟩:∃ x y z,bQ l4 false=(x,y,z):=⟨_,_,_,rfl⟩
     rw [show (bQ l4 false).1=a4 from by rw [h5]]
     rw [show (bQ l4 false).2.1=l5 from by rw [h5]]
     rw [show (bQ l4 false).2.2=f5 from by rw [h5]]
     rw [h5] at hs45
     change eX A D A245 l5 c245 at hs45
     have hu5:bI a4:=by have h9:=sX l4 false; rw [h5] at h9; exact h9
     refine Nx<|bP (fun w hM=>IY a4 w (hu5))<|lk (.agg #[(vi (eZ a4)),(.int .u8 0),(.int .u8 0),(.int .u8 0),(.int .u8 0),(.int .u8 0),(.int .u8 0),(.int .u8 0),(.int .u8 0),(.int .u8 0),(.int .u8 0),(.int .u8 0),(.int .u8 0),(.int .u8 0),(.int .u8 0),(.int .u8 0),(.int .u8 0),(.int .u8 0),(.int .u8 0),(.int .u8 0),(.int .u8 0),(.int .u8 0),(.int .u8 0),(.int .u8 0),(.int .u8 0),(.int .u8 0),(.int .u8 0),(.int .u8 0),(.int .u8 0),(.int .u8 0),(.int .u8 0),(.int .u8 0),(.int .u8 0),(.int .u64 0)])<|Nx<|pA [(vi 0),(.int .u8 0),(.int .u8 0),(.int .u8 0),(.int .u8 0),(.int .u8 0),(.int .u8 0),(.int .u8 0),(.int .u8 0),(.int .u8 0),(.int .u8 0),(.int .u8 0),(.int .u8 0),(.int .u8 0),(.int .u8 0),(.int .u8 0),(.int .u8 0),(.int .u8 0),(.int .u8 0),(.int .u8 0),(.int .u8 0),(.int .u8 0),(.int .u8 0),(.int .u8 0),(.int .u8 0),(.int .u8 0),(.int .u8 0),(.int .u8 0),(.int .u8 0),(.int .u8 0),(.int .u8 0),(.int .u8 0),(.int .u8 0),(.int .u64 0)] fun b9=>Nx<|pT 4 [(vi (eZ a4)),(.int .u8 0),(.int .u8 0),(.int .u8 0),(.int .u8 0),(.int .u8 0),(.int .u8 0),(.int .u8 0),(.int .u8 0),(.int .u8 0),(.int .u8 0),(.int .u8 0),(.int .u8 0),(.int .u8 0),(.int .u8 0),(.int .u8 0),(.int .u8 0),(.int .u8 0),(.int .u8 0),(.int .u8 0),(.int .u8 0),(.int .u8 0),(.int .u8 0),(.int .u8 0),(.int .u8 0),(.int .u8 0),(.int .u8 0),(.int .u8 0),(.int .u8 0),(.int .u8 0),(.int .u8 0),(.int .u8 0),(.int .u8 0),(.int .u64 0)] rfl<|Nf<|aS ?_
     dsimp only [bE,List.set,List.cons_append,List.nil_append]
     refine aF<|lx rfl<|Nx<|oG [1] (fun w hM hO=>DY b14 A D A245 c245 l5 f5 32 w hO (r0.cK hM [1]) ag ag (by decide)) fun A249 c249 B49 cb49 hs49=>?_
     have htl:(bW l5 f5 32).length≤32:=Ea _ _ _
     refine lk (vI ((bW l5 f5 32).length))<|lx rfl<|Ng<|sL (fun j=>j≤(bW l5 f5 32).length) (fun j=>(bW l5 f5 32).length - j) (fun j=>[(2,(vP b2 0)),(3,bF),(4,(vP b14 0)),(5,(vI n1)),(7,(vP b7 0)),(8,(vI i)),(9,(vP b9 0)),(49,(vL B49 (bW l5 f5 32) cb49)),(50,(vI ((bW l5 f5 32).length))),(51,(vI j))]) (fun j=>[aD b2 83 [(.int .u64 0),nS],aD b14 88 [(vL A249 (eC l5 f5 32) c249),(.bool (eE l5 f5 32))],aD X31.g 136 (aU cl++X31.rest),aD b7 83 [(vU sd1),(.slice (some ⟨X31.g,0,none⟩) (n1) (X31.c))],aD b9 136 ((BC.mk (eZ a4) ((bW l5 f5 32).take j++List.replicate (32 - j) 0) 0).cells),cB B49 (bW l5 f5 32) cb49]) 0 (Nat.zero_le _) (fun w hM=>by show Mm _ _ [aD b2 83 [(.int .u64 0),nS],aD b14 88 [(vL A249 (eC l5 f5 32) c249),(.bool (eE l5 f5 32))],aD X31.g 136 (aU cl++X31.rest),aD b7 83 [(vU sd1),(.slice (some ⟨X31.g,0,none⟩) (n1) (X31.c))],aD b9 136 ((BC.mk (eZ a4) ((bW l5 f5 32).take 0++List.replicate (32 - 0) 0) 0).cells),cB B49 (bW l5 f5 32) cb49] w; exact hM) ?_
     intro j hj
     show St _ _ _ [(2,(vP b2 0)),(3,bF),(4,(vP b14 0)),(5,(vI n1)),(7,(vP b7 0)),(8,(vI i)),(9,(vP b9 0)),(49,(vL B49 (bW l5 f5 32) cb49)),(50,(vI ((bW l5 f5 32).length))),(51,(vI j))] [aD b2 83 [(.int .u64 0),nS],aD b14 88 [(vL A249 (eC l5 f5 32) c249),(.bool (eE l5 f5 32))],aD X31.g 136 (aU cl++X31.rest),aD b7 83 [(vU sd1),(.slice (some ⟨X31.g,0,none⟩) (n1) (X31.c))],aD b9 136 ((BC.mk (eZ a4) ((bW l5 f5 32).take j++List.replicate (32 - j) 0) 0).cells),cB B49 (bW l5 f5 32) cb49] _
     refine Nc<|lk (.bool (decide (((j:Nat):Int) < (((bW l5 f5 32).length:Nat):Int)))) ?_
     refine aO (aI (aS (bD rfl (fun hc52=>?_) (fun hc52=>?_))))
     ·have hd52:=of_decide_eq_true hc52
      refine Nm<|aF<|lx rfl ?_
      obtain ⟨x0,hx0⟩:∃ ξ,(bW l5 f5 32)[j]?=some ξ:=⟨_,List.getElem?_eq_getElem om⟩
      refine St.eY (fun w hM=>gJ (i:=5) rfl w hM) (yL hx0) (fun p54 q54 hA54 hc54=>lw (vP p54 (q54+j)) (rR 5 hA54)<|lW (rW hc54)<|lx rfl<|Nv<|lx rfl<|lk (vP b9 1)<|lw (vP b9 (1+j)) (kU (e:=5) (m:=32) rfl kr kr rfl rfl om)<|Nx<|kJ 4 rfl rfl kr rfl rfl rfl kr rfl (by rw [AM (by rw [List.length_append,List.length_take,List.length_replicate]; omega)]; omega) ?_)
      rw [Cx (by rw [List.length_append,List.length_take,List.length_replicate]; omega),Ke hx0 htl]
      exact Nk<|aF<|lw (vI (j+1)) bO<|lx rfl<|aO (aI (sA (j+1) (by show _≤_; omega) (by show (bW l5 f5 32).length - (j+1) < (bW l5 f5 32).length - j; omega) (fun w hM=>hM)))
     ·have hd52:=of_decide_eq_false hc52
      obtain rfl:j=(bW l5 f5 32).length:=by have:=of_decide_eq_false hc52; omega
      rw [List.take_length]
      refine St.to [aD b2 83 [(.int .u64 0),nS],aD b14 88 [(vL A249 (eC l5 f5 32) c249),(.bool (eE l5 f5 32))],aD X31.g 136 (aU cl++X31.rest),aD b7 83 [(vU sd1),(.slice (some ⟨X31.g,0,none⟩) (n1) (X31.c))],aD b9 136 ((BC.mk (eZ a4) (jV (bW l5 f5 32)) 0).cells),cB B49 (bW l5 f5 32) cb49] (by rfl)<|Nj<|aF<|lx rfl<|Nx<|kL [1] (fun w hM hO=>tB b14 A D A249 c249 (eC l5 f5 32) (eE l5 f5 32) w hO (r0.cK hM [1]) ag ag) fun A262 c262 hs62=>?_
      obtain ⟨z7,l7,f7,h7⟩:∃ x y z,bQ (eC l5 f5 32) (eE l5 f5 32)=(x,y,z):=⟨_,_,_,rfl⟩
      rw [show (bQ (eC l5 f5 32) (eE l5 f5 32)).1=z7 from by rw [h7]]
      rw [show (bQ (eC l5 f5 32) (eE l5 f5 32)).2.1=l7 from by rw [h7]]
      rw [show (bQ (eC l5 f5 32) (eE l5 f5 32)).2.2=f7 from by rw [h7]]
      rw [h7] at hs62
      change eX A D A262 l7 c262 at hs62
      have hrc:gB l4=(⟨eZ a4,jV (bW l5 f5 32),z7⟩,l7,f7):=Kb h5 h7
      refine lk (vP b9 33)<|Nx ?_
      have hk32:(jV (bW l5 f5 32)).length=32:=Kc htl
      refine kJ 4 rfl rfl kr rfl rfl rfl kr rfl (by rw [AM hk32]; omega) ?_
      rw [← uB (c:=BC.mk (eZ a4) (jV (bW l5 f5 32)) 0) hk32]
      refine St.to [aD b2 83 [(.int .u64 0),nS],aD b14 88 [(vL A262 l7 c262),(.bool f7)],aD X31.g 136 (aU cl++X31.rest),aD b7 83 [(vU sd1),(.slice (some ⟨X31.g,0,none⟩) (n1) (X31.c))],aD b9 136 ((gB l4).1.cells),cB B49 (bW l5 f5 32) cb49] (by rw [hrc]; rfl)<|Nv<|lk (vP b7 1)<|lL 3 rfl<|lx rfl<|lw (.agg (gB l4).1.cells.toArray) (gC (gB l4).1.cells rfl rfl kr (by rw [BC.cells_len (xK l4)]; kernel_rfl) (eQ (i:=4) rfl (fun j v hj=>by rw [Nat.zero_add]; exact hj)))<|lw (vP X31.g (0+i*34)) (jN (e:=136) (sz:=34) rfl kr kr rfl rfl hlt)<|Nx ?_
      have hcl34:=BC.cells_len (xK l4)
      have hci:∃ c,cl[i]?=some c:=⟨_,List.getElem?_eq_getElem (by rw [hT.len]; exact hlt)⟩
      obtain ⟨co,hco⟩:=hci
      refine gI 2 (aU (cl.set i (gB l4).1)++X31.rest) (vs:=(gB l4).1.cells) rfl rfl kr rfl rfl rfl (by rw [hcl34]; kernel_rfl) rfl (by rw [hcl34,List.length_append,kM hT.ok,hT.len]; omega) (BC.mB _) (by rw [hcl34,Nat.zero_add]; exact (zI hT.ok X31.rest i co hco _).symm) ?_
      refine Nk ?_
      dsimp only [bE,List.set,List.cons_append,List.nil_append]
      exact aF<|lx rfl<|lw (vI (i+1)) bO<|lx rfl<|aO (aI (sA (i+1,cl.set i (gB l4).1,A262,l7,c262,f7) (⟨by have h9:=hT.step hlt; rw [hrc] at h9 ⊢; exact h9,hs62⟩) (by show n1 - (i+1) < n1 - i; omega) (fun w hM=>(hM.pick [0,1,2,3] rfl rfl))))
    ·obtain rfl:f4=true:=by simpa using hc41
     refine Nj<|cQ _ 16 kr (fun _ h=>h.pick [1,2,3] rfl rfl)<|aV 0 _ rfl (rA 2 [(vU sd1),(.slice (some ⟨X31.g,0,none⟩) (n1) (X31.c))])<|am 1 ?_
     refine aC 2 (vP b14 0) rfl<|aC 3 (vP b14 1) rfl<|al 4 0 ?_
     refine aC 5 bF rfl ?_
     refine am 6 ?_
     refine dF 7 ?_
     refine dF 8 ?_
     refine dF 9 ?_
     refine dF 10 ?_
     refine dF 11 ?_
     refine dF 12 ?_
     refine aC 13 bF rfl<|aA 14 rfl<|pT 0 [(vU sd1),(.slice (some ⟨X31.g,0,none⟩) (n1) (X31.c))] rfl<|aP _ (fun _ h=>h) (fun _ h=>h.pick [1,2,3] rfl rfl)<|aa 15 ?_
     exact cF kr<|aI<|fX<|fP [(.agg #[(vU sd1),(.slice (some ⟨X31.g,0,none⟩) (n1) (X31.c))]),bF] rfl ⟨⟨_,rfl,fun w hM=>gZ kr kr (eQ (i:=0) (off:=0) rfl (by intro j v hj; rw [Nat.zero_add]; exact hj) w hM)⟩,rfl,trivial⟩ (fun w hM=>absurd (hT.cpl u hd).1 si)
   ·have hd35:=of_decide_eq_false hc35
    have hin:i=n1:=by have:=hT.le; have:=of_decide_eq_false hc35; omega
    refine lx rfl<|lF<|Nu<|Nj<|cQ _ 16 kr (fun _ h=>h.pick [1,2,3] rfl rfl)<|aV 0 _ rfl (rA 2 [(vU sd1),(.slice (some ⟨X31.g,0,none⟩) (n1) (X31.c))])<|am 1 ?_
    refine aC 2 (vP b14 0) rfl<|aC 3 (vP b14 1) rfl<|al 4 0 ?_
    refine aC 5 (.bool (!f4)) rfl ?_
    refine am 6 ?_
    refine Any.dec 75 rfl (fun hc75=>?_) (fun hc75=>?_)
    ·refine iL 7 ?_
     refine aG 8 (vP b14 0) rfl<|aG 9 (vP b14 0) rfl<|aW 10 (vL A4 l4 c4) rfl (cW 0 rfl rfl kr rfl rfl)<|aG 11 (vI l4.length) rfl<|aG 12 (.bool ((((l4.length:Nat):Int):Int) == 0)) rfl<|aC 13 (.bool ((((l4.length:Nat):Int):Int) == 0)) rfl<|aA 14 rfl<|pT 0 [(vU sd1),(.slice (some ⟨X31.g,0,none⟩) (n1) (X31.c))] rfl<|aP _ (fun _ h=>h) (fun _ h=>h.pick [1,2,3] rfl rfl)<|aa 15 ?_
     refine cF kr<|aI<|fX<|fP [(.agg #[(vU sd1),(.slice (some ⟨X31.g,0,none⟩) (n1) (X31.c))]),(.bool ((((l4.length:Nat):Int):Int) == 0))] rfl ⟨⟨_,rfl,fun w hM=>gZ kr kr (eQ (i:=0) (off:=0) rfl (by intro j v hj; rw [Nat.zero_add]; exact hj) w hM)⟩,rfl,trivial⟩ (fun w hM=>?_)
     obtain ⟨rfl,rfl⟩:=Ts hd hT hin (by simpa using hc75) hz hu1
     exact ⟨X31,n1,sd1,rfl,Mm.UR (hM.pick [2] rfl rfl) ⟨hT.ok,hu1⟩ (by show dQ (cl.length:Int)=true; rw [hT.len]; exact hz) (by show cl.length≤_; rw [hT.len]; exact hcap),hT.len,rfl⟩
    ·refine dF 7 ?_
     refine dF 8 ?_
     refine dF 9 ?_
     refine dF 10 ?_
     refine dF 11 ?_
     refine dF 12 ?_
     refine aC 13 bF rfl<|aA 14 rfl<|pT 0 [(vU sd1),(.slice (some ⟨X31.g,0,none⟩) (n1) (X31.c))] rfl<|aP _ (fun _ h=>h) (fun _ h=>h.pick [1,2,3] rfl rfl)<|aa 15 ?_
     refine cF kr<|aI<|fX<|fP [(.agg #[(vU sd1),(.slice (some ⟨X31.g,0,none⟩) (n1) (X31.c))]),bF] rfl ⟨⟨_,rfl,fun w hM=>gZ kr kr (eQ (i:=0) (off:=0) rfl (by intro j v hj; rw [Nat.zero_add]; exact hj) w hM)⟩,rfl,trivial⟩ (fun w hM=>?_)
     have hb:f4=true:=by simpa using hc75
     rw [hb] at hT
     exact absurd (hT.cpl u hd).1 si
end
theorem AO (l:Bs):(eT l).1.length≤1048576:=Nat.le_trans (Ea _ _ _) (AL l false 1048576)
theorem Tu {D l:Bs} {ts us:List BT} (h:jL D 12 ts l) (hd:cM D=some us):l=[]∧us=ts:=by
 obtain ⟨h1,h2⟩:=h.cpl us hd
 have h3:=(oV hd).1
 rw [List.drop_eq_nil_of_le om] at h2
 rw [List.take_of_length_le om] at h1
 exact ⟨h2,h1.symm⟩
theorem Tv {D l:Bs} {ts:List BT} (h:jL D 12 ts l) (hd:cM D=none):((((l.length:Nat):Int):Int) == 0)=false:=by
 cases l with
 | nil=>rw [h.yes] at hd; cases hd
 | cons x l=>simp; omega
theorem AQ (A:Option Addr) (c:Nat) (D:List UInt8) (w:World) (r0:Rf [] w (fun w=>aH w A (B8 D))) (hD:D.length≤20000) (hc:D.length≤c) (hd:cM D=none) :
  Calls Tryz.prog 14 #[(vL A D c)] w fun e w'=>∃ (x1:Value),e = .returned (.tuple #[x1,bF])∧aJ [] w [] w':=by
 refine dI Tryz.func14 55 (Mm.start w []) rfl<|Nc<|lx rfl<|Nb<|lx rfl<|lk (.agg #[(vL A D c),bF])<|Nx<|pB [(vL A D c),bF] fun b11=>lx rfl<|Nb<|lx rfl<|Ne<|lx rfl<|Ng ?_
 have hs0:eX A D A D c:=⟨fun w h=>h,hc,Nat.le_refl _⟩
 refine St.mem (fun w hM=>hM.gY 83 2)<|St.mem (fun w hM=>hM.Eo)<|sL (fun (i,B,cb,Xs,ts,A4,l4,c4)=>i≤12∧Xs.length=i∧jL D i ts l4∧eX A D A4 l4 c4) (fun (i,B,cb,Xs,ts,A4,l4,c4)=>12 - i) (fun (i,B,cb,Xs,ts,A4,l4,c4)=>[(2,nS),(3,bF),(4,(vP b11 0)),(5,(vL B (bS Xs) cb)),(6,(vI i))]) (fun (i,B,cb,Xs,ts,A4,l4,c4)=>[aD b11 88 [(vL A4 l4 c4),bF],aR 83 2 B ((bS Xs).length) (cb) (TQ (bS Xs)),jU Xs ts]) (0,none,0,[],[],A,D,c) ⟨om,rfl,jL.start D,hs0⟩ (fun w hM=>by show Mm _ _ [aD b11 88 [(vL A D c),bF],aR 83 2 none ((bS []).length) (0) (TQ (bS [])),jU [] []] w; exact hM) ?_
 rintro ⟨i,B,cb,Xs,ts,A4,l4,c4⟩ ⟨hi,hXl,hI,hs4⟩
 dsimp only
 refine Ny<|lx rfl<|lk (.bool (decide (((i:Nat):Int) < 12))) ?_
 refine aO (aI (bD rfl (fun hc13=>?_) (fun hc13=>?_)))
 ·have hd13:=of_decide_eq_true hc13
  have hlt:i < 12:=by have:=of_decide_eq_true hc13; omega
  refine Nm ?_
  rcases htx:eB (eT l4).1 with _ | t
  ·refine aF<|lx rfl<|Nx<|oG [0] (fun w hM hO=>AN b11 A D A4 c4 l4 false w hO (r0.cK hM [0]) (hs4) om) fun A218 c218 B18 cb18 hs18=>?_
   obtain ⟨x,l5,f5,h5⟩:∃ x y z,eT l4=(x,y,z):=⟨_,_,_,rfl⟩
   have hbl:x.length≤1048576:=by have h9:=AO l4; rw [h5] at h9; exact h9
   rw [show (bW (bJ l4 false 1048576).2.1 (bJ l4 false 1048576).2.2 (bJ l4 false 1048576).1)=x from by show (eT l4).1=_; rw [h5]]
   rw [show (eC (bJ l4 false 1048576).2.1 (bJ l4 false 1048576).2.2 (bJ l4 false 1048576).1)=l5 from by show (eT l4).2.1=_; rw [h5]]
   rw [show (eE (bJ l4 false 1048576).2.1 (bJ l4 false 1048576).2.2 (bJ l4 false 1048576).1)=f5 from by show (eT l4).2.2=_; rw [h5]]
   rw [h5] at htx
   change eB x=_ at htx
   replace hs18:eX A D A218 l5 c218:=by have h9:eX A D A218 (eT l4).2.1 c218:=hs18; rw [h5] at h9; exact h9
   refine St.fact (fun w hM=>tW (hM.at (i:=3) rfl)) (fun hcx=>Nx<|vZ (fun w hM=>Kf B18 cb18 x w (hM.bB (j:=3) rfl (fun _ h=>aH.cN h)) om om ag) fun sd19 Ag19 n19 cg19=>lx rfl<|Nx<|pA [(.int .u64 0),nS] fun b7=>Nx<|pT 4 [(vU sd19),(.slice Ag19 (n19) (cg19))] rfl<|lx rfl<|Nf<|aS ?_)
   dsimp only [bE,List.set,List.cons_append,List.nil_append]
   refine aF<|lx rfl<|lk (vP b11 0)<|lk (vP b11 1)<|lL 0 rfl<|lm ?_
   refine St.dec 26 rfl (fun hc26=>?_) (fun hc26=>?_)
   ·have hno:cM D=none:=hI.no hlt hD (by rw [h5]; exact .inr fun t ht=>by rw [htx] at ht; cases ht)
    exact lx rfl<|lT<|lx rfl<|lT<|lx rfl<|lT<|No<|lx rfl<|Nq<|dC<|sN [nS,bF] fun w hM=>⟨_,rfl,(hM.pick [] rfl rfl)⟩
   ·obtain rfl:f5=false:=hc26
    exact lx rfl<|lg bT<|lT<|lx rfl<|lT<|lx rfl<|lT<|No<|lx rfl<|Nq<|dC<|sN [nS,bF] fun w hM=>⟨_,rfl,(hM.pick [] rfl rfl)⟩
  ·refine aF<|lx rfl<|Nx<|oG [0] (fun w hM hO=>AN b11 A D A4 c4 l4 false w hO (r0.cK hM [0]) (hs4) om) fun A218 c218 B18 cb18 hs18=>?_
   obtain ⟨x,l5,f5,h5⟩:∃ x y z,eT l4=(x,y,z):=⟨_,_,_,rfl⟩
   have hbl:x.length≤1048576:=by have h9:=AO l4; rw [h5] at h9; exact h9
   rw [show (bW (bJ l4 false 1048576).2.1 (bJ l4 false 1048576).2.2 (bJ l4 false 1048576).1)=x from by show (eT l4).1=_; rw [h5]]
   rw [show (eC (bJ l4 false 1048576).2.1 (bJ l4 false 1048576).2.2 (bJ l4 false 1048576).1)=l5 from by show (eT l4).2.1=_; rw [h5]]
   rw [show (eE (bJ l4 false 1048576).2.1 (bJ l4 false 1048576).2.2 (bJ l4 false 1048576).1)=f5 from by show (eT l4).2.2=_; rw [h5]]
   rw [h5] at htx
   change eB x=_ at htx
   replace hs18:eX A D A218 l5 c218:=by have h9:eX A D A218 (eT l4).2.1 c218:=hs18; rw [h5] at h9; exact h9
   refine St.fact (fun w hM=>tW (hM.at (i:=3) rfl)) (fun hcx=>Nx<|qK (fun w hM=>Kg B18 cb18 x t w (hM.bB (j:=3) rfl (fun _ h=>aH.cN h)) om om ag) fun X19 n19 sd19 hn19 hs19=>lx rfl<|Nx<|pA [(.int .u64 0),nS] fun b7=>Nx<|pT 5 [(vU sd19),(.slice (some ⟨X19.g,0,none⟩) (n19) (X19.c))] rfl<|lx rfl<|Nf<|aS ?_)
   dsimp only [bE,List.set,List.cons_append,List.nil_append]
   refine aF<|lx rfl<|lk (vP b11 0)<|lk (vP b11 1)<|lL 0 rfl<|lm ?_
   refine St.dec 26 rfl (fun hc26=>?_) (fun hc26=>?_)
   ·have hno:cM D=none:=hI.no hlt hD (by rw [h5]; exact .inl hc26)
    exact lx rfl<|lT<|lx rfl<|lT<|lx rfl<|lT<|No<|lx rfl<|Nq<|dC<|sN [nS,bF] fun w hM=>⟨_,rfl,(hM.pick [] rfl rfl)⟩
   ·obtain rfl:f5=false:=hc26
    refine lx rfl<|lg bF<|lF<|lx rfl<|lg (vP b7 1)<|lu (.slice (some ⟨X19.g,0,none⟩) (n19) (X19.c)) (cW 5 rfl rfl kr rfl rfl)<|lg (vI n19)<|lg (.bool ((((n19:Nat):Int):Int) != 12))<|lk (.bool ((((n19:Nat):Int):Int) != 12))<|lm ?_
    refine St.dec 36 rfl (fun hc36=>?_) (fun hc36=>?_)
    ·have hno:cM D=none:=hI.no hlt hD (by rw [h5]; exact .inr fun t' ht=>.inl (by rw [htx] at ht; cases ht; rw [hn19]; have h9:=hc36; simp at h9; omega))
     exact lx rfl<|lT<|No<|lx rfl<|Nq<|dC<|sN [nS,bF] fun w hM=>⟨_,rfl,(hM.pick [] rfl rfl)⟩
    ·have e12:n19=12:=by have h9:=hc36; simp at h9; omega
     subst e12
     refine lg (vP b7 0)<|lu (vU sd19) (cW 5 rfl rfl kr rfl rfl)<|lx rfl<|lu (vI (i+1)) (mG _ rfl rfl rfl om om om)<|lu (vU (i+1)) (iC _ (fun _=>kr) rfl rfl (kK om om))<|lg (.bool ((((sd19:Nat):Int):Int) != (((i+1):Nat):Int)))<|lk (.bool ((((sd19:Nat):Int):Int) != (((i+1):Nat):Int))) ?_
     refine aO (aI (bD rfl (fun hc43=>?_) (fun hc43=>?_)))
     ·have hno:cM D=none:=hI.no hlt hD (by rw [h5]; exact .inr fun t' ht=>.inr (by rw [htx] at ht; cases ht; rw [hs19]; have h9:=hc43; simp at h9; omega))
      exact Nc<|lx rfl<|Nq<|dC<|sN [nS,bF] fun w hM=>⟨_,rfl,(hM.pick [] rfl rfl)⟩
     ·have e13:sd19=i+1:=by have h9:=hc43; simp at h9; omega
      subst e13
      have hI2:jL D (i+1) (ts++[t]) l5:=by have h9:=hI.step hlt hD (by rw [h5]) (by rw [h5]; exact htx) hn19 hs19; rw [h5] at h9; exact h9
      refine fI<|aI<|aF<|lx rfl<|lW (rA 5 [(vU (i+1)),(.slice (some ⟨X19.g,0,none⟩) (12) (X19.c))])<|Nx<|pN 1 83 [(vU (i+1)),(.slice (some ⟨X19.g,0,none⟩) (12) (X19.c))] fun b46=>Nx<|cY DK 1 ([(vU (i+1)),(.slice (some ⟨X19.g,0,none⟩) (12) (X19.c))]) rfl rfl kr rfl rfl rfl (rfl) (fQ (i:=6) rfl (fun j v h=>by rw [Nat.zero_add]; exact h)) (DJ (fW.mk X19 12 (i+1))) (by rw [oY]; omega) ((bS Xs++[fW.mk X19 12 (i+1)]).length) fN (TQ (bS Xs++[fW.mk X19 12 (i+1)])) (by rw [show TQ (bS Xs++[fW.mk X19 12 (i+1)])=TQ (bS Xs)++TQ [fW.mk X19 12 (i+1)] from List.flatMap_append ..]; rfl) (fun A47 c47=>?_)
      rw [show bS Xs++[fW.mk X19 12 (i+1)]=bS (Xs++[X19]) from by rw [DL,hXl]]
      exact lx rfl<|Nk<|aF<|lx rfl<|lw (vI (i+1)) bO<|lx rfl<|aO (aI (sA (i+1,A47,c47,Xs++[X19],ts++[t],A218,l5,c218) (⟨om,by simp [hXl],hI2,hs18⟩) (by show 12 - (i+1) < 12 - i; omega) (fun w hM=>Mm.Ep (cs:=[aD b11 88 [(vL A218 l5 c218),bF],aR 83 2 A47 ((bS (Xs++[X19])).length) (c47) (TQ (bS (Xs++[X19])))]) (hM.pick [0,1,2,4] rfl rfl))))
 ·have hd13:=of_decide_eq_false hc13
  obtain rfl:i=12:=by have:=of_decide_eq_false hc13; omega
  refine Nj ?_
  refine cQ _ 9 kr (fun _ h=>h) ?_
  refine am 0 ?_
  refine am 1 ?_
  refine aC 2 (vP b11 0) rfl<|aC 3 (vP b11 0) rfl<|al 4 0 ?_
  refine aC 5 (vI l4.length) rfl<|aC 6 (.bool ((((l4.length:Nat):Int):Int) == 0)) rfl<|aa 7 ?_
  refine aa 8 ?_
  refine cF kr<|aI<|fX<|sN [(vL B (bS Xs) cb),(.bool ((((l4.length:Nat):Int):Int) == 0))] fun w hM=>?_
  rw [Tv hI hd]
  exact ⟨_,rfl,(hM.pick [] rfl rfl)⟩
theorem AR (A:Option Addr) (c:Nat) (D:List UInt8) (us:List BT) (w:World) (r0:Rf [] w (fun w=>aH w A (B8 D))) (hD:D.length≤20000) (hc:D.length≤c) (hd:cM D=some us) :
  Calls Tryz.prog 14 #[(vL A D c)] w fun e w'=>∃ (B:Option Addr) (cb:Nat) (Xs:List RX),e = .returned (.tuple #[(vL B (bS Xs) cb),bT])∧aJ [] w [aR 83 2 B ((bS Xs).length) (cb) (TQ (bS Xs)),jU Xs us] w'∧(Xs.length=12):=by
 refine dI Tryz.func14 55 (Mm.start w []) rfl<|Nc<|lx rfl<|Nb<|lx rfl<|lk (.agg #[(vL A D c),bF])<|Nx<|pB [(vL A D c),bF] fun b11=>lx rfl<|Nb<|lx rfl<|Ne<|lx rfl<|Ng ?_
 have hs0:eX A D A D c:=⟨fun w h=>h,hc,Nat.le_refl _⟩
 refine St.mem (fun w hM=>hM.gY 83 2)<|St.mem (fun w hM=>hM.Eo)<|sL (fun (i,B,cb,Xs,ts,A4,l4,c4)=>i≤12∧Xs.length=i∧jL D i ts l4∧eX A D A4 l4 c4) (fun (i,B,cb,Xs,ts,A4,l4,c4)=>12 - i) (fun (i,B,cb,Xs,ts,A4,l4,c4)=>[(2,nS),(3,bF),(4,(vP b11 0)),(5,(vL B (bS Xs) cb)),(6,(vI i))]) (fun (i,B,cb,Xs,ts,A4,l4,c4)=>[aD b11 88 [(vL A4 l4 c4),bF],aR 83 2 B ((bS Xs).length) (cb) (TQ (bS Xs)),jU Xs ts]) (0,none,0,[],[],A,D,c) ⟨om,rfl,jL.start D,hs0⟩ (fun w hM=>by show Mm _ _ [aD b11 88 [(vL A D c),bF],aR 83 2 none ((bS []).length) (0) (TQ (bS [])),jU [] []] w; exact hM) ?_
 rintro ⟨i,B,cb,Xs,ts,A4,l4,c4⟩ ⟨hi,hXl,hI,hs4⟩
 dsimp only
 refine Ny<|lx rfl<|lk (.bool (decide (((i:Nat):Int) < 12))) ?_
 refine aO (aI (bD rfl (fun hc13=>?_) (fun hc13=>?_)))
 ·have hd13:=of_decide_eq_true hc13
  have hlt:i < 12:=by have:=of_decide_eq_true hc13; omega
  refine Nm ?_
  rcases htx:eB (eT l4).1 with _ | t
  ·refine aF<|lx rfl<|Nx<|oG [0] (fun w hM hO=>AN b11 A D A4 c4 l4 false w hO (r0.cK hM [0]) (hs4) om) fun A218 c218 B18 cb18 hs18=>?_
   obtain ⟨x,l5,f5,h5⟩:∃ x y z,eT l4=(x,y,z):=⟨_,_,_,rfl⟩
   have hbl:x.length≤1048576:=by have h9:=AO l4; rw [h5] at h9; exact h9
   rw [show (bW (bJ l4 false 1048576).2.1 (bJ l4 false 1048576).2.2 (bJ l4 false 1048576).1)=x from by show (eT l4).1=_; rw [h5]]
   rw [show (eC (bJ l4 false 1048576).2.1 (bJ l4 false 1048576).2.2 (bJ l4 false 1048576).1)=l5 from by show (eT l4).2.1=_; rw [h5]]
   rw [show (eE (bJ l4 false 1048576).2.1 (bJ l4 false 1048576).2.2 (bJ l4 false 1048576).1)=f5 from by show (eT l4).2.2=_; rw [h5]]
   rw [h5] at htx
   change eB x=_ at htx
   replace hs18:eX A D A218 l5 c218:=by have h9:eX A D A218 (eT l4).2.1 c218:=hs18; rw [h5] at h9; exact h9
   refine St.fact (fun w hM=>tW (hM.at (i:=3) rfl)) (fun hcx=>Nx<|vZ (fun w hM=>Kf B18 cb18 x w (hM.bB (j:=3) rfl (fun _ h=>aH.cN h)) om om ag) fun sd19 Ag19 n19 cg19=>lx rfl<|Nx<|pA [(.int .u64 0),nS] fun b7=>Nx<|pT 4 [(vU sd19),(.slice Ag19 (n19) (cg19))] rfl<|lx rfl<|Nf<|aS ?_)
   dsimp only [bE,List.set,List.cons_append,List.nil_append]
   refine aF<|lx rfl<|lk (vP b11 0)<|lk (vP b11 1)<|lL 0 rfl<|lm ?_
   refine St.dec 26 rfl (fun hc26=>?_) (fun hc26=>?_)
   ·have hno:cM D=none:=hI.no hlt hD (by rw [h5]; exact .inr fun t ht=>by rw [htx] at ht; cases ht)
    rw [hd] at hno; cases hno
   ·obtain rfl:f5=false:=hc26
    refine lx rfl<|lg bT<|lT<|lx rfl<|lT<|lx rfl<|lT<|Nt<|aS ?_
    have hno:cM D=none:=hI.no hlt hD (by rw [h5]; exact .inr fun t ht=>by rw [htx] at ht; cases ht)
    rw [hd] at hno; cases hno
  ·refine aF<|lx rfl<|Nx<|oG [0] (fun w hM hO=>AN b11 A D A4 c4 l4 false w hO (r0.cK hM [0]) (hs4) om) fun A218 c218 B18 cb18 hs18=>?_
   obtain ⟨x,l5,f5,h5⟩:∃ x y z,eT l4=(x,y,z):=⟨_,_,_,rfl⟩
   have hbl:x.length≤1048576:=by have h9:=AO l4; rw [h5] at h9; exact h9
   rw [show (bW (bJ l4 false 1048576).2.1 (bJ l4 false 1048576).2.2 (bJ l4 false 1048576).1)=x from by show (eT l4).1=_; rw [h5]]
   rw [show (eC (bJ l4 false 1048576).2.1 (bJ l4 false 1048576).2.2 (bJ l4 false 1048576).1)=l5 from by show (eT l4).2.1=_; rw [h5]]
   rw [show (eE (bJ l4 false 1048576).2.1 (bJ l4 false 1048576).2.2 (bJ l4 false 1048576).1)=f5 from by show (eT l4).2.2=_; rw [h5]]
   rw [h5] at htx
   change eB x=_ at htx
   replace hs18:eX A D A218 l5 c218:=by have h9:eX A D A218 (eT l4).2.1 c218:=hs18; rw [h5] at h9; exact h9
   refine St.fact (fun w hM=>tW (hM.at (i:=3) rfl)) (fun hcx=>Nx<|qK (fun w hM=>Kg B18 cb18 x t w (hM.bB (j:=3) rfl (fun _ h=>aH.cN h)) om om ag) fun X19 n19 sd19 hn19 hs19=>lx rfl<|Nx<|pA [(.int .u64 0),nS] fun b7=>Nx<|pT 5 [(vU sd19),(.slice (some ⟨X19.g,0,none⟩) (n19) (X19.c))] rfl<|lx rfl<|Nf<|aS ?_)
   dsimp only [bE,List.set,List.cons_append,List.nil_append]
   refine aF<|lx rfl<|lk (vP b11 0)<|lk (vP b11 1)<|lL 0 rfl<|lm ?_
   refine St.dec 26 rfl (fun hc26=>?_) (fun hc26=>?_)
   ·have hno:cM D=none:=hI.no hlt hD (by rw [h5]; exact .inl hc26)
    rw [hd] at hno; cases hno
   ·obtain rfl:f5=false:=hc26
    refine lx rfl<|lg bF<|lF<|lx rfl<|lg (vP b7 1)<|lu (.slice (some ⟨X19.g,0,none⟩) (n19) (X19.c)) (cW 5 rfl rfl kr rfl rfl)<|lg (vI n19)<|lg (.bool ((((n19:Nat):Int):Int) != 12))<|lk (.bool ((((n19:Nat):Int):Int) != 12))<|lm ?_
    refine St.dec 36 rfl (fun hc36=>?_) (fun hc36=>?_)
    ·have hno:cM D=none:=hI.no hlt hD (by rw [h5]; exact .inr fun t' ht=>.inl (by rw [htx] at ht; cases ht; rw [hn19]; have h9:=hc36; simp at h9; omega))
     rw [hd] at hno; cases hno
    ·have e12:n19=12:=by have h9:=hc36; simp at h9; omega
     subst e12
     refine lg (vP b7 0)<|lu (vU sd19) (cW 5 rfl rfl kr rfl rfl)<|lx rfl<|lu (vI (i+1)) (mG _ rfl rfl rfl om om om)<|lu (vU (i+1)) (iC _ (fun _=>kr) rfl rfl (kK om om))<|lg (.bool ((((sd19:Nat):Int):Int) != (((i+1):Nat):Int)))<|lk (.bool ((((sd19:Nat):Int):Int) != (((i+1):Nat):Int))) ?_
     refine aO (aI (bD rfl (fun hc43=>?_) (fun hc43=>?_)))
     ·have hno:cM D=none:=hI.no hlt hD (by rw [h5]; exact .inr fun t' ht=>.inr (by rw [htx] at ht; cases ht; rw [hs19]; have h9:=hc43; simp at h9; omega))
      rw [hd] at hno; cases hno
     ·have e13:sd19=i+1:=by have h9:=hc43; simp at h9; omega
      subst e13
      have hI2:jL D (i+1) (ts++[t]) l5:=by have h9:=hI.step hlt hD (by rw [h5]) (by rw [h5]; exact htx) hn19 hs19; rw [h5] at h9; exact h9
      refine fI<|aI<|aF<|lx rfl<|lW (rA 5 [(vU (i+1)),(.slice (some ⟨X19.g,0,none⟩) (12) (X19.c))])<|Nx<|pN 1 83 [(vU (i+1)),(.slice (some ⟨X19.g,0,none⟩) (12) (X19.c))] fun b46=>Nx<|cY DK 1 ([(vU (i+1)),(.slice (some ⟨X19.g,0,none⟩) (12) (X19.c))]) rfl rfl kr rfl rfl rfl (rfl) (fQ (i:=6) rfl (fun j v h=>by rw [Nat.zero_add]; exact h)) (DJ (fW.mk X19 12 (i+1))) (by rw [oY]; omega) ((bS Xs++[fW.mk X19 12 (i+1)]).length) fN (TQ (bS Xs++[fW.mk X19 12 (i+1)])) (by rw [show TQ (bS Xs++[fW.mk X19 12 (i+1)])=TQ (bS Xs)++TQ [fW.mk X19 12 (i+1)] from List.flatMap_append ..]; rfl) (fun A47 c47=>?_)
      rw [show bS Xs++[fW.mk X19 12 (i+1)]=bS (Xs++[X19]) from by rw [DL,hXl]]
      exact lx rfl<|Nk<|aF<|lx rfl<|lw (vI (i+1)) bO<|lx rfl<|aO (aI (sA (i+1,A47,c47,Xs++[X19],ts++[t],A218,l5,c218) (⟨om,by simp [hXl],hI2,hs18⟩) (by show 12 - (i+1) < 12 - i; omega) (fun w hM=>Mm.Ep (cs:=[aD b11 88 [(vL A218 l5 c218),bF],aR 83 2 A47 ((bS (Xs++[X19])).length) (c47) (TQ (bS (Xs++[X19])))]) (hM.pick [0,1,2,4] rfl rfl))))
 ·have hd13:=of_decide_eq_false hc13
  obtain rfl:i=12:=by have:=of_decide_eq_false hc13; omega
  refine Nj ?_
  refine cQ _ 9 kr (fun _ h=>h) ?_
  refine am 0 ?_
  refine am 1 ?_
  refine aC 2 (vP b11 0) rfl<|aC 3 (vP b11 0) rfl<|al 4 0 ?_
  refine aC 5 (vI l4.length) rfl<|aC 6 (.bool ((((l4.length:Nat):Int):Int) == 0)) rfl<|aa 7 ?_
  refine aa 8 ?_
  refine cF kr<|aI<|fX<|sN [(vL B (bS Xs) cb),(.bool ((((l4.length:Nat):Int):Int) == 0))] fun w hM=>?_
  obtain ⟨rfl,rfl⟩:=Tu hI hd
  exact ⟨B,cb,Xs,rfl,(hM.pick [1,2] rfl rfl),hXl⟩
theorem Tw (A:Option Addr) (c:Nat) (a:List (List UInt8)) (A2:Option Addr) (c2:Nat) (b:List (List UInt8)) (bd k n:Nat) (na oa:List (List UInt8)) (nb ob:List (List UInt8)) (w:World) (r0:Rf [] w (cI)) (r1:Rf [] w (fun w=>aH w A (SS a))) (r2:Rf [] w (fun w=>aH w A2 (SS b))) (hsa:cJ a) (hsb:cJ b) (ha4:a.length≤40) (hb4:b.length≤40) (hest:gR (bC a) (bC b)=k) (hk:k≤500) (hsz:jC ((k+k / 2:Nat):Int)=(n:Int)) (hz:dQ (n:Int)=true) (hn6:n≤600) (hdf:((eH a n).sub (eH b n)).keys=none) (hK:Jn a b 4 4 3) (hbd:(aZ 1 (bL (bC a))).length+(eI b n).length+(aZ 3 (bZ a b 4 4 0)).length+(aZ 3 (bZ a b 4 4 1)).length+(aZ 3 (bZ a b 4 4 2)).length+(aE 5).length≤bd) (hbd2:bd≤1099511627776) (hl0:dK [] ((bV a b 4 4 1 3).1)=na) (hl1:dK [] ((bV a b 4 4 1 3).2)=oa) (hl2:dK [] ((bV a b 4 4 0 3).1)=nb) (hl3:dK [] ((bV a b 4 4 0 3).2)=ob) (hna:na.Pairwise (· < ·)) (hnb:nb.Pairwise (· < ·)) :
  Calls Tryz.prog 28 #[(vL A a c),(vL A2 b c2),(vI bd)] w fun e w'=>∃ (B1:Option Addr) (cb1:Nat) (B2:Option Addr) (cb2 nbt:Nat),e = .returned (.tuple #[(vL B1 (dJ oa nb) cb1),(vL B2 (dJ ob na) cb2),(vI nbt),bT,(vi 0)])∧aJ [] w [cS B1 (dJ oa nb) cb1,cS B2 (dJ ob na) cb2] w':=by
 refine mI Tryz.func28 83 (Mm.start w []) rfl<|Nc<|lx rfl<|Nf<|aS ?_
 have hea:dR a=0:=sC om hsa
 have heb:dR b=0:=sC om hsb
 have h32a:=hsa.1
 have h32b:=hsb.1
 have hska:=pW (mZ h32a).all
 rw [lY] at hska
 obtain ⟨q1,u1,s1,e1⟩:=AK (k:=1) (D:=bL (bC a)) om om
 obtain ⟨q2,p2,u2,s2,d2,e2⟩:=Tl h32b hz
 have hm0:(bZ a b 4 4 0).length≤1048576:=by rw [show bZ a b 4 4 0=bX [dS a [] []] from rfl,DW ha4]; omega
 have hg0:=hK.go 0 om
 obtain ⟨q3,u3,s3,e3⟩:=AK (k:=3) (D:=bZ a b 4 4 0) om om
 have hm1:(bZ a b 4 4 1).length≤1048576:=xG _ _ _ _
 have hg1:=hK.go 1 om
 obtain ⟨q4,u4,s4,e4⟩:=AK (k:=3) (D:=bZ a b 4 4 1) om om
 have hm2:(bZ a b 4 4 2).length≤1048576:=xG _ _ _ _
 have hg2:=hK.go 2 om
 obtain ⟨q5,u5,s5,e5⟩:=AK (k:=3) (D:=bZ a b 4 4 2) om om
 have:=qY (k:=1) (D:=(bL (bC a))) om om
 have:=qY (k:=3) (D:=(bZ a b 4 4 0)) om om
 have:=qY (k:=3) (D:=(bZ a b 4 4 1)) om om
 have:=qY (k:=3) (D:=(bZ a b 4 4 2)) om om
 have:=fG 5 om
 obtain ⟨q6,u6,e6⟩:=Tk (k:=5) om
 have hml2:(eI b n).length≤200100:=DU (uC (uS h32b n) (by rw [oU]; exact (gV hz).2.1) _)
 refine aF<|lx rfl<|lk (.bool (decide (((bd:Nat):Int) < 0)))<|Na<|eP rfl si<|Ni<|lx rfl<|Nx<|BM (fun w hM=>DT A c a w (r0.aQ hM) (r1.aQ hM) om (hea) om) fun bs22 A122 c122 se22 A222 c222 nm22 om22 Am22 cm22=>lx rfl<|Ne<|lx rfl<|lF<|Nn<|aF<|lx rfl<|Nx<|gU (fun w hM=>(JI A2 c2 b w (r0.aQ hM) (r2.aQ hM) om (heb) om).mono ?_)
 rintro e w' ⟨bs30,A130,c130,se30,A230,c230,nm30,om30,rfl,hP⟩
 refine ⟨_,_,rfl,hP,?_⟩; clear hP hM
 refine lx rfl<|Ne<|lx rfl<|lF<|Nn<|aS<|St.fact (fun w hM=>tW (hM.at (i:=3) rfl)) (fun hcapa=>St.fact (fun w hM=>tW (hM.at (i:=10) rfl)) (fun hcapb=>?_))
 dsimp only [bE,List.set,List.cons_append,List.nil_append]
 refine aF<|lx rfl<|Ng<|JK 7<|qX<|aS<|fO<|Nc<|lx rfl<|lw (vI bd) (kX ((bd:Nat):Int) rfl rfl rfl om om om)<|Nx<|eK [0] (fun w hM hO=>xL bs22 (vL A122 a c122) bT bF bF (vP se22 0) bF nS nS 1 Am22 cm22 (aZ 1 (bL (bC a))) bd w hO om (by decide))<|lx rfl<|Ne<|lx rfl<|lF<|Nn<|aF<|lx rfl<|lk (vI ((aZ 1 (bL (bC a))).length))<|lw (vI (0+(aZ 1 (bL (bC a))).length)) bO<|lx rfl<|Nb<|lx rfl ?_
 refine Nx<|oF [7] (fun w hM hO=>SP bs30 A130 c130 b (vi 0) nS bF (vP se30 0) bF nS nS Am22 cm22 (aZ 1 (bL (bC a))) q1 (bC a) k n w hO (r0.cK hM [7]) (hM.gM [7] (j:=8) rfl (fun _ h=>aH.cN h)) (hM.gM [7] (j:=6) rfl (fun _ h=>aH.cN h)) om (u1) (by rw [s1]; exact DX (mZ h32a) (lY a)) (e1) (hsb) (hb4) (hest) (hk) (hsz) (hz)) fun Am56r0 cm56r0=>lx rfl<|Nb<|lx rfl<|lF<|Nu<|Nw<|aF<|lx rfl<|Na<|qX<|aS<|fO<|Nc<|lx rfl<|lw (vI (bd - (0+(aZ 1 (bL (bC a))).length))) (vD rfl rfl rfl om om)<|Nx<|eK [7] (fun w hM hO=>xL bs30 (vL A130 b c130) bF bT bF (vP se30 0) bF nS nS 2 Am56r0 cm56r0 (eI b n) (bd - (0+(aZ 1 (bL (bC a))).length)) w hO om (by decide))<|lx rfl<|Ne<|lx rfl<|lF<|Nn ?_
 refine aF<|lx rfl<|lk (vI ((eI b n).length))<|lw (vI (0+(aZ 1 (bL (bC a))).length+(eI b n).length)) bO<|lx rfl<|Nb<|lx rfl<|Nx<|gO [0] [aD bs22 101 [(vL A122 a c122),bT,(vi 2),(vI 1),nS,bF,bF,(vP se22 0),bF,nS,nS]] (fun w hM hO=>(Th bs22 A122 c122 a bT nS bF bF nS nS Am56r0 cm56r0 (eI b n) q2 (eV b) p2 (eH b n) se22 A222 c222 nm22 om22 w hO (r0.cK hM [0]) (hM.gM [0] (j:=1) rfl (fun _ h=>aH.cN h)) (hM.gM [0] (j:=13) rfl (fun _ h=>aH.cN h)) (((hM.gM [0] (j:=2) rfl (fun _ h=>h)).and (hM.gM [0] (j:=3) rfl (fun _ h=>aH.cN h))).imp (fun _ h=>⟨h.1,h.2⟩)) om (u2) (s2) (d2) (e2) (Ia b n) (hsa) (ha4) (hcapa) (by rw [oU]; exact hn6) (by unfold sK; rw [oU,hdf])).mono ?_)
 rintro e w' ⟨Am56r1,cm56r1,rfl,hP⟩
 refine ⟨_,[aD bs22 101 [(vL A122 a c122),bT,(vi 1),(vI 3),(vL Am56r1 (aZ 3 (bX [dS a [] []])) cm56r1),bT,bF,(vP se22 0),bF,nS,nS]],_,rfl,hP,rfl,?_⟩; clear hP hM hO
 rw [show bX [dS a [] []]=bZ a b 4 4 0 from rfl]
 refine lx rfl<|Nf<|St.to [aD bs22 101 [(vL A122 a c122),bT,(vi 1),(vI 3),(vL Am56r1 (aZ 3 (bZ a b 4 4 0)) cm56r1),bT,bF,(vP se22 0),bF,nS,nS],cS A122 a c122,aD se22 149 [(vL A222 a c222),(vI 4),(vI 4),(.map (some nm22)),(.map (some om22))],cS A222 a c222,aN nm22 ((bV a b 4 4 1 0).1),aN om22 ((bV a b 4 4 1 0).2),cB Am22 (aZ 1 (bL (bC a))) cm22,aD bs30 101 [(vL A130 b c130),bF,(vi 2),(vI 2),nS,bT,bF,(vP se30 0),bF,nS,nS],cS A130 b c130,aD se30 149 [(vL A230 b c230),(vI 4),(vI 4),(.map (some nm30)),(.map (some om30))],cS A230 b c230,aN nm30 ((bV a b 4 4 0 0).1),aN om30 ((bV a b 4 4 0 0).2),cB Am56r0 (eI b n) cm56r0,cB Am56r1 (aZ 3 (bZ a b 4 4 0)) cm56r1] kr<|aF<|lx rfl<|lF<|Nu<|Nw<|aF<|lx rfl<|Na ?_
 have hn9:=uY (fan:=4) (leaf:=4) (par:=0) hsa hsb ha4 hb4 0
 have hS2:((bV a b 4 4 0 0).1).length≤549755813888:=by have h9:=hn9.1; omega
 have hT2:((bV a b 4 4 0 0).2).length≤549755813888:=by have h9:=hn9.2; omega
 refine qX<|aS<|fO<|Nc<|lx rfl<|lw (vI (bd - (0+(aZ 1 (bL (bC a))).length+(eI b n).length))) (vD rfl rfl rfl om om)<|Nx<|gO [0] [aD bs22 101 [(vL A122 a c122),bT,(vi 1),(vI 3),(vL Am56r1 (aZ 3 (bZ a b 4 4 0)) cm56r1),bT,bF,(vP se22 0),bF,nS,nS]] (fun w hM hO=>(xL bs22 (vL A122 a c122) bT bT bF (vP se22 0) bF nS nS 3 Am56r1 cm56r1 (aZ 3 (bZ a b 4 4 0)) (bd - (0+(aZ 1 (bL (bC a))).length+(eI b n).length)) w hO om (by decide)).mono ?_)
 rintro e w' ⟨rfl,hP⟩
 refine ⟨_,[aD bs22 101 [(vL A122 a c122),bT,(vi 2),(vI 3),nS,bT,bF,(vP se22 0),bF,nS,nS]],_,rfl,hP,rfl,?_⟩; clear hP hM hO
 refine lx rfl<|Ne<|lx rfl<|lF<|Nn<|aF<|lx rfl<|lk (vI ((aZ 3 (bZ a b 4 4 0)).length))<|lw (vI (0+(aZ 1 (bL (bC a))).length+(eI b n).length+(aZ 3 (bZ a b 4 4 0)).length)) (mG _ rfl rfl rfl om om om)<|lx rfl<|Nb<|lx rfl<|Nx<|gO [7,11,12] [aD bs30 101 [(vL A130 b c130),bF,(vi 2),(vI 2),nS,bT,bF,(vP se30 0),bF,nS,nS],aN nm30 ((bV a b 4 4 0 0).1),aN om30 ((bV a b 4 4 0 0).2)] (fun w hM hO=>(JX bs30 A130 c130 b bF nS bT bF bF nS nS Am56r1 cm56r1 (aZ 3 (bZ a b 4 4 0)) q3 se30 A230 c230 nm30 om30 ((bV a b 4 4 0 0).1) ((bV a b 4 4 0 0).2) 2 w hO (r0.cK hM [7,11,12]) (hM.gM [7,11,12] (j:=8) rfl (fun _ h=>aH.cN h)) (hM.gM [7,11,12] (j:=14) rfl (fun _ h=>aH.cN h)) (((hM.gM [7,11,12] (j:=9) rfl (fun _ h=>h)).and (hM.gM [7,11,12] (j:=10) rfl (fun _ h=>aH.cN h))).imp (fun _ h=>⟨h.1,h.2⟩)) om (u3) (e3) (by rw [s3]; exact hg0.1) (hsb) (hb4) (hcapb) (by rw [s3]; exact hm0) (by rw [s3]; exact hg0.2) (hS2) (hT2) (by rw [s3]; exact hg1.1) (by decide)).mono ?_)
 rintro e w' ⟨Am56r2,cm56r2,rfl,hP⟩
 refine ⟨_,[aD bs30 101 [(vL A130 b c130),bF,(vi 1),(vI 3),(vL Am56r2 (aZ 3 (dA b 4 4 q3.rest.1).reply) cm56r2),bT,bF,(vP se30 0),bF,nS,nS],aN nm30 (((bV a b 4 4 0 0).1)++(dA b 4 4 q3.rest.1).need),aN om30 (((bV a b 4 4 0 0).2)++(dA b 4 4 q3.rest.1).off)],_,rfl,hP,rfl,?_⟩; clear hP hM hO
 rw [show dA b 4 4 q3.rest.1=fV a b 4 4 0 from by rw [s3]; rfl]
 rw [show (fV a b 4 4 0).reply=bZ a b 4 4 1 from rfl]
 rw [show ((bV a b 4 4 0 0).1)++(fV a b 4 4 0).need=(bV a b 4 4 0 1).1 from by rw [vE (j:=0) (by decide)]]
 rw [show (bV a b 4 4 1 0).1 = (bV a b 4 4 1 1).1 from by rw [vF (j := 0) (by decide)]]
 rw [show ((bV a b 4 4 0 0).2)++(fV a b 4 4 0).off=(bV a b 4 4 0 1).2 from by rw [vE (j:=0) (by decide)]]
 rw [show (bV a b 4 4 1 0).2=(bV a b 4 4 1 1).2 from by rw [vF (j:=0) (by decide)]]
 refine lx rfl<|Nb<|lx rfl<|lF<|Nu<|Nw<|aF<|lx rfl<|Na ?_
 have hn9:=uY (fan:=4) (leaf:=4) (par:=1) hsa hsb ha4 hb4 1
 have hS3:((bV a b 4 4 1 1).1).length≤549755813888:=by have h9:=hn9.1; omega
 have hT3:((bV a b 4 4 1 1).2).length≤549755813888:=by have h9:=hn9.2; omega
 refine qX<|aS<|fO<|Nc<|lx rfl<|lw (vI (bd - (0+(aZ 1 (bL (bC a))).length+(eI b n).length+(aZ 3 (bZ a b 4 4 0)).length))) (vD rfl rfl rfl om om)<|Nx<|eK [7] (fun w hM hO=>xL bs30 (vL A130 b c130) bF bT bF (vP se30 0) bF nS nS 3 Am56r2 cm56r2 (aZ 3 (bZ a b 4 4 1)) (bd - (0+(aZ 1 (bL (bC a))).length+(eI b n).length+(aZ 3 (bZ a b 4 4 0)).length)) w hO om (by decide))<|lx rfl<|Ne<|lx rfl<|lF<|Nn<|aF<|lx rfl<|lk (vI ((aZ 3 (bZ a b 4 4 1)).length))<|lw (vI (0+(aZ 1 (bL (bC a))).length+(eI b n).length+(aZ 3 (bZ a b 4 4 0)).length+(aZ 3 (bZ a b 4 4 1)).length)) bO<|lx rfl<|Nb<|lx rfl<|Nx<|Fk [0,4,5] (fun w hM hO=>JX bs22 A122 c122 a bT nS bT bF bF nS nS Am56r2 cm56r2 (aZ 3 (bZ a b 4 4 1)) q4 se22 A222 c222 nm22 om22 ((bV a b 4 4 1 1).1) ((bV a b 4 4 1 1).2) 3 w hO (r0.cK hM [0,4,5]) (hM.gM [0,4,5] (j:=1) rfl (fun _ h=>aH.cN h)) (hM.gM [0,4,5] (j:=15) rfl (fun _ h=>aH.cN h)) (((hM.gM [0,4,5] (j:=2) rfl (fun _ h=>h)).and (hM.gM [0,4,5] (j:=3) rfl (fun _ h=>aH.cN h))).imp (fun _ h=>⟨h.1,h.2⟩)) om (u4) (e4) (by rw [s4]; exact hg1.1) (hsa) (ha4) (hcapa) (by rw [s4]; exact hm1) (by rw [s4]; exact hg1.2) (hS3) (hT3) (by rw [s4]; exact hg2.1) (by decide)) fun Am56r3 cm56r3=>?_
 rw [show dA a 4 4 q4.rest.1=fV a b 4 4 1 from by rw [s4]; rfl]
 rw [show (fV a b 4 4 1).reply=bZ a b 4 4 2 from rfl]
 rw [show ((bV a b 4 4 1 1).1)++(fV a b 4 4 1).need=(bV a b 4 4 1 2).1 from by rw [vE (j:=1) (by decide)]]
 rw [show (bV a b 4 4 0 1).1=(bV a b 4 4 0 2).1 from by rw [vF (j:=1) (by decide)]]
 rw [show ((bV a b 4 4 1 1).2)++(fV a b 4 4 1).off=(bV a b 4 4 1 2).2 from by rw [vE (j:=1) (by decide)]]
 rw [show (bV a b 4 4 0 1).2=(bV a b 4 4 0 2).2 from by rw [vF (j:=1) (by decide)]]
 refine lx rfl<|Nf ?_
 dsimp only [bE,List.set,List.cons_append,List.nil_append]
 refine aF<|lx rfl<|lF<|Nu<|Nw<|aF<|lx rfl<|Na ?_
 have hn9:=uY (fan:=4) (leaf:=4) (par:=0) hsa hsb ha4 hb4 2
 have hS4:((bV a b 4 4 0 2).1).length≤549755813888:=by have h9:=hn9.1; omega
 have hT4:((bV a b 4 4 0 2).2).length≤549755813888:=by have h9:=hn9.2; omega
 refine qX<|aS<|fO<|Nc<|lx rfl<|lw (vI (bd - (0+(aZ 1 (bL (bC a))).length+(eI b n).length+(aZ 3 (bZ a b 4 4 0)).length+(aZ 3 (bZ a b 4 4 1)).length))) (vD rfl rfl rfl om om)<|Nx<|eK [0] (fun w hM hO=>xL bs22 (vL A122 a c122) bT bT bF (vP se22 0) bF nS nS 3 Am56r3 cm56r3 (aZ 3 (bZ a b 4 4 2)) (bd - (0+(aZ 1 (bL (bC a))).length+(eI b n).length+(aZ 3 (bZ a b 4 4 0)).length+(aZ 3 (bZ a b 4 4 1)).length)) w hO om (by decide))<|lx rfl<|Ne<|lx rfl<|lF<|Nn<|aF<|lx rfl<|lk (vI ((aZ 3 (bZ a b 4 4 2)).length))<|lw (vI (0+(aZ 1 (bL (bC a))).length+(eI b n).length+(aZ 3 (bZ a b 4 4 0)).length+(aZ 3 (bZ a b 4 4 1)).length+(aZ 3 (bZ a b 4 4 2)).length)) bO<|lx rfl<|Nb<|lx rfl<|Nx<|Fk [7,11,12] (fun w hM hO=>Ti bs30 A130 c130 b bF nS bT bF bF nS nS Am56r3 cm56r3 (aZ 3 (bZ a b 4 4 2)) q5 se30 A230 c230 nm30 om30 ((bV a b 4 4 0 2).1) ((bV a b 4 4 0 2).2) 3 w hO (r0.cK hM [7,11,12]) (hM.gM [7,11,12] (j:=8) rfl (fun _ h=>aH.cN h)) (hM.gM [7,11,12] (j:=16) rfl (fun _ h=>aH.cN h)) (((hM.gM [7,11,12] (j:=9) rfl (fun _ h=>h)).and (hM.gM [7,11,12] (j:=10) rfl (fun _ h=>aH.cN h))).imp (fun _ h=>⟨h.1,h.2⟩)) om (u5) (e5) (by rw [s5]; exact hg2.1) (hsb) (hb4) (hcapb) (by rw [s5]; exact hm2) (by rw [s5]; exact hg2.2) (hS4) (hT4) (by rw [s5]; exact hK.stop) (by decide)) fun Am56r4 cm56r4=>?_
 rw [show dA b 4 4 q5.rest.1=fV a b 4 4 2 from by rw [s5]; rfl]
 rw [show ((bV a b 4 4 0 2).1)++(fV a b 4 4 2).need=(bV a b 4 4 0 3).1 from by rw [vE (j:=2) (by decide)]]
 rw [show (bV a b 4 4 1 2).1=(bV a b 4 4 1 3).1 from by rw [vF (j:=2) (by decide)]]
 rw [show ((bV a b 4 4 0 2).2)++(fV a b 4 4 2).off=(bV a b 4 4 0 3).2 from by rw [vE (j:=2) (by decide)]]
 rw [show (bV a b 4 4 1 2).2=(bV a b 4 4 1 3).2 from by rw [vF (j:=2) (by decide)]]
 refine lx rfl<|Nb<|lx rfl<|lF<|Nu<|Nw<|aF<|lx rfl<|Na<|qX<|aS<|fO<|Nc<|lx rfl<|lw (vI (bd - (0+(aZ 1 (bL (bC a))).length+(eI b n).length+(aZ 3 (bZ a b 4 4 0)).length+(aZ 3 (bZ a b 4 4 1)).length+(aZ 3 (bZ a b 4 4 2)).length))) (vD rfl rfl rfl om om)<|Nx<|eK [7] (fun w hM hO=>SJ bs30 (vL A130 b c130) bF bT bT (vP se30 0) bF nS nS 5 Am56r4 cm56r4 (aE 5) (bd - (0+(aZ 1 (bL (bC a))).length+(eI b n).length+(aZ 3 (bZ a b 4 4 0)).length+(aZ 3 (bZ a b 4 4 1)).length+(aZ 3 (bZ a b 4 4 2)).length)) w hO om (by decide))<|lx rfl<|Ne<|lx rfl<|lF<|Nn<|aF<|lx rfl ?_
 refine lk (vI ((aE 5).length))<|lw (vI (0+(aZ 1 (bL (bC a))).length+(eI b n).length+(aZ 3 (bZ a b 4 4 0)).length+(aZ 3 (bZ a b 4 4 1)).length+(aZ 3 (bZ a b 4 4 2)).length+(aE 5).length)) bO<|lx rfl<|Nb<|lx rfl<|Nx<|eK [0] (fun w hM hO=>Tj bs22 (vL A122 a c122) bT nS bT bF (vP se22 0) bF nS nS Am56r4 cm56r4 (aE 5) q6 w hO (hM.gM [0] (j:=17) rfl (fun _ h=>aH.cN h)) om (u6) (e6))<|lx rfl<|Nf ?_
 dsimp only [bE,List.set,List.cons_append,List.nil_append]
 refine aF<|lx rfl<|lF<|Nu<|Nw<|aF<|lx rfl<|Na<|qX<|aS<|fO<|Nc<|lx rfl<|lw (vI (bd - (0+(aZ 1 (bL (bC a))).length+(eI b n).length+(aZ 3 (bZ a b 4 4 0)).length+(aZ 3 (bZ a b 4 4 1)).length+(aZ 3 (bZ a b 4 4 2)).length+(aE 5).length))) (vD rfl rfl rfl om om)<|Nx<|bP (fun w hM=>SK bs22 (vL A122 a c122) bT (vI 3) nS bT bT (vP se22 0) bF nS nS (bd - (0+(aZ 1 (bL (bC a))).length+(eI b n).length+(aZ 3 (bZ a b 4 4 0)).length+(aZ 3 (bZ a b 4 4 1)).length+(aZ 3 (bZ a b 4 4 2)).length+(aE 5).length)) w (hM.bB (j:=0) rfl (fun _ h=>h)))<|lx rfl<|Ne<|lx rfl<|lT<|Nt<|qE<|iW<|vO rfl ?_
 refine iW<|iW<|mQ<|aI<|aS ?_
 have h71:=uY (fan:=4) (leaf:=4) (par:=1) hsa hsb ha4 hb4 3
 have h70:=uY (fan:=4) (leaf:=4) (par:=0) hsa hsb ha4 hb4 3
 refine aF<|lx rfl<|Nx<|dW (fun w hM=>AF bs22 (vL A122 a c122) bT (vi 0) (vI 3) nS bT bT nS nS se22 A222 c222 a nm22 om22 ((bV a b 4 4 1 3).2) w (hM.bB (j:=0) rfl (fun _ h=>h)) (hM.bB (j:=2) rfl (fun _ h=>h)) (hM.bB (j:=5) rfl (fun _ h=>h)) (Nat.le_trans h71.2 om)) fun B61 cb61=>?_
 rw [show dK [] ((bV a b 4 4 1 3).2)=oa from hl1]
 refine lx rfl<|Nx<|dW (fun w hM=>AE bs30 (vL A130 b c130) bF (vi 0) (vI 5) nS bT bT nS nS se30 A230 c230 b nm30 om30 ((bV a b 4 4 0 3).1) w (hM.bB (j:=7) rfl (fun _ h=>h)) (hM.bB (j:=9) rfl (fun _ h=>h)) (hM.bB (j:=11) rfl (fun _ h=>h)) (Nat.le_trans h70.1 om)) fun B63 cb63=>?_
 rw [show dK [] ((bV a b 4 4 0 3).1)=nb from hl2]
 refine Nx<|dW (fun w hM=>Aj B61 cb61 oa B63 cb63 nb w (hM.bB (j:=18) rfl (fun _ h=>aH.cN h)) (hM.bB (j:=19) rfl (fun _ h=>aH.cN h)) (by rw [← hl1]; exact Nat.le_trans (Nat.le_trans (zR _ []) si) (Nat.le_trans h71.2 om)) (hnb) (by rw [← hl2]; exact Nat.le_trans (Nat.le_trans (zR _ []) si) (Nat.le_trans h70.1 om))) fun B64 cb64=>lx rfl<|Nx<|dW (fun w hM=>AF bs30 (vL A130 b c130) bF (vi 0) (vI 5) nS bT bT nS nS se30 A230 c230 b nm30 om30 ((bV a b 4 4 0 3).2) w (hM.bB (j:=7) rfl (fun _ h=>h)) (hM.bB (j:=9) rfl (fun _ h=>h)) (hM.bB (j:=12) rfl (fun _ h=>h)) (Nat.le_trans h70.2 om)) fun B66 cb66=>?_
 rw [show dK [] ((bV a b 4 4 0 3).2)=ob from hl3]
 refine lx rfl<|Nx<|dW (fun w hM=>AE bs22 (vL A122 a c122) bT (vi 0) (vI 3) nS bT bT nS nS se22 A222 c222 a nm22 om22 ((bV a b 4 4 1 3).1) w (hM.bB (j:=0) rfl (fun _ h=>h)) (hM.bB (j:=2) rfl (fun _ h=>h)) (hM.bB (j:=4) rfl (fun _ h=>h)) (Nat.le_trans h71.1 om)) fun B68 cb68=>?_
 dsimp only [bE,List.set,List.cons_append,List.nil_append]
 rw [show dK [] ((bV a b 4 4 1 3).1)=na from hl0]
 refine Nx<|dW (fun w hM=>Aj B66 cb66 ob B68 cb68 na w (hM.bB (j:=21) rfl (fun _ h=>aH.cN h)) (hM.bB (j:=22) rfl (fun _ h=>aH.cN h)) (by rw [← hl3]; exact Nat.le_trans (Nat.le_trans (zR _ []) si) (Nat.le_trans h70.2 om)) (hna) (by rw [← hl0]; exact Nat.le_trans (Nat.le_trans (zR _ []) si) (Nat.le_trans h71.1 om))) fun B69 cb69=>lx rfl ?_
 refine Nf ?_
 refine cQ _ 18 kr (fun _ h=>h) ?_
 refine am 0 ?_
 refine am 1 ?_
 refine am 2 ?_
 refine am 3 ?_
 refine aC 4 (vP bs22 0) rfl<|aC 5 (vP bs22 6) rfl<|al 6 0 ?_
 refine am 7 ?_
 refine iL 8 ?_
 refine aG 9 (vP bs30 0) rfl<|aG 10 (vP bs30 6) rfl<|aW 11 bT rfl (cW 7 rfl rfl kr rfl rfl)<|aC 12 bT rfl<|aa 13 ?_
 refine aa 14 ?_
 refine aa 15 ?_
 refine aa 16 ?_
 refine aa 17 ?_
 exact cF kr<|aI<|fX<|sN [(vL B64 (dJ oa nb) cb64),(vL B69 (dJ ob na) cb69),(vI (0+(aZ 1 (bL (bC a))).length+(eI b n).length+(aZ 3 (bZ a b 4 4 0)).length+(aZ 3 (bZ a b 4 4 1)).length+(aZ 3 (bZ a b 4 4 2)).length+(aE 5).length)),bT,(vi 0)] fun w hM=>⟨B64,cb64,B69,cb69,(0+(aZ 1 (bL (bC a))).length+(eI b n).length+(aZ 3 (bZ a b 4 4 0)).length+(aZ 3 (bZ a b 4 4 1)).length+(aZ 3 (bZ a b 4 4 2)).length+(aE 5).length),rfl,(hM.pick [20,23] rfl rfl)⟩
theorem Tx (A:Option Addr) (c:Nat) (a:List (List UInt8)) (w:World) (r0:Rf [] w (cI)) (r1:Rf [] w (fun w=>aH w A (SS a))) (hsa:cJ a) (ha4:a.length≤40) :
  Calls Tryz.prog 28 #[(vL A a c),nS,(vi 0)] w fun e w'=>∃ (x1 x2:Value),e = .returned (.tuple #[x1,x2,(vi 0),bF,(vi 0)])∧aJ [] w [] w':=by
 refine mI Tryz.func28 83 (Mm.start w []) rfl<|Nc<|lx rfl<|Nf<|aS ?_
 have hea:dR a=0:=sC om hsa
 have heb:dR nM=0:=by decide
 refine aF<|lx rfl<|lF<|Nn<|aF<|lx rfl<|Nx<|BM (fun w hM=>DT A c a w (r0.aQ hM) (r1.aQ hM) om (hea) om) fun bs22 A122 c122 se22 A222 c222 nm22 om22 Am22 cm22=>lx rfl<|Ne<|lx rfl<|lF<|Nn<|aF<|lx rfl<|Nx<|gU (fun w hM=>(JI none 0 nM w (r0.aQ hM) IH (by decide) (heb) (by decide)).mono ?_)
 rintro e w' ⟨bs30,A130,c130,se30,A230,c230,nm30,om30,rfl,hP⟩
 refine ⟨_,_,rfl,hP,?_⟩; clear hP hM
 refine lx rfl<|Ne<|lx rfl<|lF<|Nn<|Nc<|lx rfl<|Ng<|JK 1<|qX<|aS<|fO<|Nc<|lx rfl<|lw (vI 0) (kX (0:Int) rfl rfl rfl om om om)<|Nx<|bP (fun w hM=>JJ bs22 (vL A122 a c122) bT bF bF (vP se22 0) bF nS nS 1 Am22 cm22 (aZ 1 (bL (bC a))) 0 w (hM.bB (j:=0) rfl (fun _ h=>h)) (by have h9:=uE 1; simp only [aZ,List.length_append]; omega))<|lx rfl<|Ne<|lx rfl<|lT<|Nt<|qE<|iW ?_
 refine vO rfl<|iW<|iW<|mQ<|aI<|Nc<|lx rfl<|Nx<|dW (fun w hM=>AF bs22 (vL A122 a c122) bT (vi 1) (vI 1) (vL Am22 (aZ 1 (bL (bC a))) cm22) bF bF nS nS se22 A222 c222 a nm22 om22 [] w (hM.bB (j:=0) rfl (fun _ h=>h)) (hM.bB (j:=2) rfl (fun _ h=>h)) (hM.bB (j:=5) rfl (fun _ h=>h)) (by decide)) fun B61 cb61=>lx rfl<|Nx<|dW (fun w hM=>AE bs30 (vL A130 nM c130) bF (vi 2) (vi 0) nS bF bF nS nS se30 A230 c230 nM nm30 om30 [] w (hM.bB (j:=7) rfl (fun _ h=>h)) (hM.bB (j:=9) rfl (fun _ h=>h)) (hM.bB (j:=11) rfl (fun _ h=>h)) (by decide)) fun B63 cb63=>Nx<|dW (fun w hM=>Aj B61 cb61 (dK [] []) B63 cb63 (dK [] []) w (hM.bB (j:=13) rfl (fun _ h=>aH.cN h)) (hM.bB (j:=14) rfl (fun _ h=>aH.cN h)) (by decide) (List.Pairwise.nil) (by decide)) fun B64 cb64=>?_
 dsimp only [bE,List.set,List.cons_append,List.nil_append]
 refine lx rfl<|Nx<|dW (fun w hM=>AF bs30 (vL A130 nM c130) bF (vi 2) (vi 0) nS bF bF nS nS se30 A230 c230 nM nm30 om30 [] w (hM.bB (j:=7) rfl (fun _ h=>h)) (hM.bB (j:=9) rfl (fun _ h=>h)) (hM.bB (j:=12) rfl (fun _ h=>h)) (by decide)) fun B66 cb66=>lx rfl<|Nx<|dW (fun w hM=>AE bs22 (vL A122 a c122) bT (vi 1) (vI 1) (vL Am22 (aZ 1 (bL (bC a))) cm22) bF bF nS nS se22 A222 c222 a nm22 om22 [] w (hM.bB (j:=0) rfl (fun _ h=>h)) (hM.bB (j:=2) rfl (fun _ h=>h)) (hM.bB (j:=4) rfl (fun _ h=>h)) (by decide)) fun B68 cb68=>Nx<|dW (fun w hM=>Aj B66 cb66 (dK [] []) B68 cb68 (dK [] []) w (hM.bB (j:=16) rfl (fun _ h=>aH.cN h)) (hM.bB (j:=17) rfl (fun _ h=>aH.cN h)) (by decide) (List.Pairwise.nil) (by decide)) fun B69 cb69=>lx rfl<|Nf<|cQ _ 18 kr (fun _ h=>h)<|am 0 ?_
 refine am 1 ?_
 refine am 2 ?_
 refine am 3 ?_
 refine aC 4 (vP bs22 0) rfl<|aC 5 (vP bs22 6) rfl<|al 6 0 ?_
 refine am 7 ?_
 refine dF 8 ?_
 refine dF 9 ?_
 refine dF 10 ?_
 refine dF 11 ?_
 refine aC 12 bF rfl<|aa 13 ?_
 refine aa 14 ?_
 refine aa 15 ?_
 refine aa 16 ?_
 refine aa 17 ?_
 exact cF kr<|aI<|fX<|sN [(vL B64 (dJ (dK [] []) (dK [] [])) cb64),(vL B69 (dJ (dK [] []) (dK [] [])) cb69),(vi 0),bF,(vi 0)] fun w hM=>⟨(vL B64 (dJ (dK [] []) (dK [] [])) cb64),(vL B69 (dJ (dK [] []) (dK [] [])) cb69),rfl,(hM.pick [] rfl rfl)⟩
abbrev qA : List Bs := [dB 65, dB 66]
abbrev qB : List Bs := [dB 66, dB 67]
theorem nO:vC qA qB 4 4:=⟨by decide +kernel,by decide +kernel,by decide,by decide,by decide,by decide,by decide,by decide⟩
theorem Ty:gR (bC qA) (bC qB)=2:=by decide +kernel
theorem Tz:gR (bC [dB 65]) (bC [dB 65])=0:=by decide +kernel
theorem TA:((eH qA 18).sub (eH qB 18)).keys=none:=by
 have h:((eH qA 18).sub (eH qB 18)).raw.isNone=true:=by decide +kernel
 unfold BT.keys
 rw [Option.isNone_iff_eq_none.1 h]
 rfl
theorem TB (j:Nat) (hj:j < 3):fB qA qB 4 4 j≠[]:=by
 intro e
 have h:(fB qA qB 4 4 j).isEmpty=true:=by rw [e]; rfl
 match j,hj with
 | 0,_=>exact absurd h (by decide +kernel)
 | 1,_=>exact absurd h (by decide +kernel)
 | 2,_=>exact absurd h (by decide +kernel)
theorem TC:Jn qA qB 4 4 3:=by
 refine ⟨fun j hj=>?_,?_,om⟩
 ·obtain ⟨e1,e2⟩:=tA nO j om
  exact ⟨by rw [e1]; exact fun e=>TB j hj (JW.1 e),by rw [e2]⟩
 ·rw [(tA nO 3 om).1,JW]
  have h:(fB qA qB 4 4 3).isEmpty=true:=by decide +kernel
  exact List.isEmpty_iff.1 h
theorem Kh:bV qA qB 4 4 1 3=((fB qA qB 4 4 1).flatMap (jI qA),(fB qA qB 4 4 1).flatMap (jJ qA)):=by
 have e:bV qA qB 4 4 1 3=([]++(fV qA qB 4 4 1).need,[]++(fV qA qB 4 4 1).off):=by simp [bV]
 rw [e,(tA nO 1 om).2]
 rfl
theorem Ki:bV qA qB 4 4 0 3=((fB qA qB 4 4 0).flatMap (jI qB)++(fB qA qB 4 4 2).flatMap (jI qB),(fB qA qB 4 4 0).flatMap (jJ qB)++(fB qA qB 4 4 2).flatMap (jJ qB)):=by
 have e:bV qA qB 4 4 0 3=(([]++(fV qA qB 4 4 0).need)++(fV qA qB 4 4 2).need,([]++(fV qA qB 4 4 0).off)++(fV qA qB 4 4 2).off):=by simp [bV]
 rw [e,(tA nO 0 om).2,(tA nO 2 om).2]
 rfl
theorem TD:dK [] (bV qA qB 4 4 1 3).1=[dB 67]:=by rw [Kh]; decide +kernel
theorem TE:dK [] (bV qA qB 4 4 1 3).2=[dB 65]:=by rw [Kh]; decide +kernel
theorem TF:dK [] (bV qA qB 4 4 0 3).1=[dB 65]:=by rw [Ki]; decide +kernel
theorem TG:dK [] (bV qA qB 4 4 0 3).2=[dB 67]:=by rw [Ki]; decide +kernel
theorem Kj:(fB qA qB 4 4 1).length≤10∧(bX (fB qA qB 4 4 1)).length≤1000∧(bX (fB qA qB 4 4 2)).length≤1000:=by decide +kernel
theorem TH:(aZ 1 (bL (bC qA))).length+(eI qB 18).length+(aZ 3 (bZ qA qB 4 4 0)).length+(aZ 3 (bZ qA qB 4 4 1)).length+(aZ 3 (bZ qA qB 4 4 2)).length+(aE 5).length≤1048576:=by
 have h1:=pW (mZ (l:=qA) nO.ha.1).all
 rw [lY] at h1
 have h2:=qY (k:=1) (D:=bL (bC qA)) om om
 have h3:(eI qB 18).length≤200100:=DU (uC (uS nO.hb.1 18) (by rw [oU]; omega) _)
 have h4:(bZ qA qB 4 4 0).length=37:=DW (by decide)
 have h5:(bZ qA qB 4 4 1).length≤1000:=by rw [(tA nO 1 om).1]; exact Kj.2.1
 have h6:(bZ qA qB 4 4 2).length≤1000:=by rw [(tA nO 2 om).1]; exact Kj.2.2
 have h7:=qY (k:=3) (D:=bZ qA qB 4 4 0) om om
 have h8:=qY (k:=3) (D:=bZ qA qB 4 4 1) om om
 have h9:=qY (k:=3) (D:=bZ qA qB 4 4 2) om om
 have h10:=fG 5 om
 omega
theorem Kk:cM (bL (bC [dB 65]))=some (bC [dB 65]):=DX (mZ AJ.1) (lY _)
theorem Kl:(bL (bC [dB 65])).length≤4294967296:=by
 have h:=pW (mZ (l:=[dB 65]) AJ.1).all
 rw [lY] at h
 omega
theorem TI:dJ [dB 65] [dB 65]=[dB 65]:=by decide +kernel
theorem TJ:dJ [dB 67] [dB 67]=[dB 67]:=by decide +kernel
theorem TK (y:UInt8) (w:World) :
  Calls Tryz.prog 29 #[(.int .u8 ((y.toNat:Nat):Int))] w fun e w'=>e = .returned (vS (GX y))∧aJ [] w [] w':=by
 refine dI Tryz.func29 15 (Mm.start w []) rfl<|Nc<|lx rfl<|Nb<|lx rfl<|Ne<|lx rfl<|Ng<|sL (fun i=>i≤32) (fun i=>32 - i) (fun i=>[(0,(.int .u8 ((y.toNat:Nat):Int))),(2,(.string ⟨#[]⟩)),(3,(vS (List.replicate i y))),(4,(vI i))]) (fun i=>[]) 0 om (fun _ h=>h) ?_
 intro i hok
 show St _ _ _ [(0,(.int .u8 ((y.toNat:Nat):Int))),(2,(.string ⟨#[]⟩)),(3,(vS (List.replicate i y))),(4,(vI i))] [] _
 refine Ny<|lx rfl<|lk (.bool (decide (((i:Nat):Int) < 32))) ?_
 refine aO (aI (bD rfl (fun hc6=>?_) (fun hc6=>?_)))
 ·have hd6:=of_decide_eq_true hc6
  refine Nl<|fO<|aF<|lx rfl<|Nx<|pN 1 5 [(.int .u8 ((y.toNat:Nat):Int))] fun b11=>lw (vS [y]) (kW (e:=5) [y] rfl kr kr kr rfl rfl (fun w hM=>qJ (hM.at (i:=0) rfl) rfl))<|lw (vS ((List.replicate i y)++[y])) (LH rfl rfl rfl (by simp; omega))<|lx rfl<|Nk<|aF<|lx rfl<|lw (vI (i+1)) bO<|lx rfl<|Na ?_
  rw [show List.replicate i y++[y]=List.replicate (i+1) y from (List.replicate_succ' ..).symm]
  exact St.drop (cs':=[]) (List.nil_sublist _)<|sA (i+1) (by show _≤_; omega) (by show 32 - (i+1) < 32 - i; omega) (fun w hM=>hM)
 ·have hd6:=of_decide_eq_false hc6
  exact Nj<|aF<|lx rfl<|Nd<|sN [(vS (List.replicate i y))] fun w hM=>⟨by rw [show i=32 by omega]; rfl,hM⟩
theorem qZ (n:Nat) (w:World) (hn:n < 256) :
  Calls Tryz.prog 29 #[(.int .u8 ((n:Nat):Int))] w fun e w'=>e = .returned (vS (dB n))∧aJ [] w [] w':=by
 have h:=TK (UInt8.ofNat n) w
 rw [show (UInt8.ofNat n).toNat=n from by simp; omega] at h
 exact h
theorem Km (A:Option Addr) (c:Nat) (l:List (List UInt8)) (A2:Option Addr) (c2:Nat) (m:List (List UInt8)) (w:World) (r0:Rf [] w (fun w=>aH w A (SS l))) (r1:Rf [] w (fun w=>aH w A2 (SS m))) (hl:l.length≤68719476736) (hl2:m.length≤68719476736) :
  Calls Tryz.prog 23 #[(vL A l c),(vL A2 m c2)] w fun e w'=>e = .returned (.bool (decide (l=m)))∧aJ [] w [] w':=by
 exact bK Tryz.func23 8 (Mm.start w []) rfl<|Nc<|lx rfl<|Nb<|lx rfl<|Nx<|bP (fun w hM=>OU A c l A2 c2 m w (r0.aQ hM) (r1.aQ hM) om om)<|lx rfl<|Nd<|sN [(.bool (decide (l=m)))] fun w hM=>⟨rfl,hM⟩
theorem TL (w:World) (r0:Rf [] w (cI)) :
  Calls Tryz.prog 6 #[] w fun e w'=>e = .returned bT∧aJ [] w [] w':=by
 refine sE0 Tryz.func6 133 (Mm.start w []) ?_
 refine Nc<|lx rfl<|Nb<|Nx<|bP (fun w hM=>Du 10 9 w (by decide))<|lx rfl<|Nb<|Nx<|bP (fun w hM=>qZ 65 w (by decide))<|Nx<|bP (fun w hM=>qZ 66 w (by decide))<|Nx<|pN 2 9 [(vS (dB 65)),(vS (dB 66))] fun b30=>Nx<|bP (fun w hM=>qZ 66 w (by decide))<|Nx<|bP (fun w hM=>qZ 67 w (by decide)) ?_
 dsimp only [bE,List.set,List.cons_append,List.nil_append]
 refine Nx<|pN 2 9 [(vS (dB 66)),(vS (dB 67))] fun b33=>Nx<|BL (fun w hM=>Tw (some ⟨b30,0,none⟩) 2 [(dB 65),(dB 66)] (some ⟨b33,0,none⟩) 2 [(dB 66),(dB 67)] 1048576 2 18 [dB 67] [dB 65] [dB 65] [dB 67] w (r0.aQ hM) (hM.bB (j:=0) rfl (fun _ h=>qJ h rfl)) (hM.bB (j:=1) rfl (fun _ h=>qJ h rfl)) (nO.ha) (nO.hb) (by decide) (by decide) (Ty) (by decide) (by decide) (by decide) (by decide) (TA) (TC) (TH) (by decide) (TD) (TE) (TF) (TG) (List.pairwise_singleton ..) (List.pairwise_singleton ..)) fun B134 cb134 B234 cb234 nbt34=>lx rfl<|Nb<|Nx<|bP (fun w hM=>qZ 65 w (by decide))<|Nx<|pN 1 9 [(vS (dB 65))] fun b42=>Nx<|dW (fun w hM=>Tx (some ⟨b42,0,none⟩) 1 [(dB 65)] w (r0.aQ hM) (hM.bB (j:=4) rfl (fun _ h=>qJ h rfl)) (AJ) (by decide)) fun x143 x243=>lx rfl<|Nf ?_
 dsimp only [bE,List.set,List.cons_append,List.nil_append]
 refine aF<|Nx<|bP (fun w hM=>qZ 65 w (by decide))<|Nx<|pN 1 9 [(vS (dB 65))] fun b51=>Nx<|dW (fun w hM=>ID (some ⟨b51,0,none⟩) 1 [(dB 65)] w (r0.aQ hM) (hM.bB (j:=5) rfl (fun _ h=>qJ h rfl)) (by decide) (sC (by decide) AJ) (by decide)) fun A252 c252=>lx rfl<|Nb<|lx rfl<|Nx<|bP (fun w hM=>IF A252 c252 (bL (bC [(dB 65)])) A252 c252 (bL (bC [(dB 65)])) (bC [dB 65]) (bC [dB 65]) w (r0.aQ hM) (hM.bB (j:=6) rfl (fun _ h=>aH.cN h)) (hM.bB (j:=6) rfl (fun _ h=>aH.cN h)) (Kl) (Kl) (Kk) (Kk))<|lx rfl<|Nf ?_
 dsimp only [bE,List.set,List.cons_append,List.nil_append]
 refine aF<|Nx<|BM (fun w hM=>DT none 0 nM w (r0.aQ hM) IH (by decide) (by decide) (by decide)) fun bs62 A162 c162 se62 A262 c262 nm62 om62 Am62 cm62=>lx rfl<|Ne<|lx rfl<|lF<|lx rfl<|lg bF<|lF<|Nn<|aF<|lx rfl<|Nx<|bP (fun w hM=>JJ bs62 (vL A162 nM c162) bT bF bF (vP se62 0) bF nS nS 1 Am62 cm62 (aZ 1 (bL (bC nM))) 0 w (hM.bB (j:=7) rfl (fun _ h=>h)) (by have h9:=uE 1; simp only [aZ,List.length_append]; omega))<|lx rfl<|Nb<|lx rfl<|lT<|lx rfl<|lg bT<|lT<|lx rfl<|lg (.bool (((jC ((10+10 / 2:Nat):Int)):Int) == 42)) ?_
 refine lk (.bool (((jC ((10+10 / 2:Nat):Int)):Int) == 42))<|lx rfl<|St.known 86 (b':=true) rfl (by decide)<|lx rfl<|lg bT<|lT<|lx rfl<|lT<|lx rfl<|cO rfl rfl<|bP (fun w hM=>qZ 65 w (by decide))<|cO rfl rfl<|pN 1 9 [(vS (dB 65))] fun b96=>cO rfl rfl<|bP (fun w hM=>Km B134 cb134 (dJ [dB 65] [dB 65]) (some ⟨b96,0,none⟩) 1 [(dB 65)] w (hM.bB (j:=2) rfl (fun _ h=>aH.cN h)) (hM.bB (j:=14) rfl (fun _ h=>qJ h rfl)) (by decide) (by decide))<|lk (.bool (decide ((dJ [dB 65] [dB 65])=[(dB 65)])))<|lx rfl<|St.known 99 (b':=true) rfl (decide_eq_true TI)<|lx rfl<|cO rfl rfl<|bP (fun w hM=>qZ 67 w (by decide)) ?_
 dsimp only [bE,List.set,List.cons_append,List.nil_append]
 refine cO rfl rfl<|pN 1 9 [(vS (dB 67))] fun b102=>cO rfl rfl<|bP (fun w hM=>Km B234 cb234 (dJ [dB 67] [dB 67]) (some ⟨b102,0,none⟩) 1 [(dB 67)] w (hM.bB (j:=3) rfl (fun _ h=>aH.cN h)) (hM.bB (j:=15) rfl (fun _ h=>qJ h rfl)) (by decide) (by decide))<|lk (.bool (decide ((dJ [dB 67] [dB 67])=[(dB 67)])))<|lx rfl<|St.known 105 (b':=true) rfl (decide_eq_true TJ)<|lx rfl<|lg bT<|lT<|lx rfl<|lg bT<|lT<|lx rfl<|lg bT<|lT<|lx rfl<|lg bT<|lT<|lx rfl<|lg bT<|lT<|lx rfl<|lg (.bool (((((gR (bC [dB 65]) (bC [dB 65])):Nat):Int):Int) == 0)) ?_
 exact lk (.bool (((((gR (bC [dB 65]) (bC [dB 65])):Nat):Int):Int) == 0))<|lx rfl<|St.known 129 (b':=true) rfl (by rw [Tz]; rfl)<|lx rfl<|lg bT<|lT<|lx rfl<|Nd<|sN [bT] fun w hM=>⟨rfl,(hM.pick [] rfl rfl)⟩
def kG (l : List Bs) : Bs := if dR l = 0 then bL (bC l) else []
def rB (D D2 : Bs) : Int := match cM D with
 | some ts => match cM D2 with
   | some us => (gR ts us : Int)
   | none => 0
 | none => 0
def rC (D D2 : Bs) : Int := match cM D with
 | some _ => match cM D2 with
   | some _ => 0
   | none => 3
 | none => 3
def lI (k n : Int) : Int := if k < 0 ∨ n < 0 then 1 else 0
def hZ (k n : Int) : Int := if k < 0 ∨ n < 0 then 0 else if 500 < k then 2 else 1
def iA (k n : Int) : Int := if k < 0 ∨ n < 0 then 0 else if 500 < k then 0 else jC ((k.toNat + k.toNat / 2 : Nat) : Int)
theorem TM {k:Nat} {n:Int} (h:¬ ((k:Int) < 0∨n < 0)):lI (k:Int) n=0∧hZ (k:Int) n=hZ (k:Int) 0∧iA (k:Int) n=iA (k:Int) 0:=by
 have h0:¬ ((k:Int) < 0∨(0:Int) < 0):=om
 simp only [lI,hZ,iA,if_neg h,if_neg h0,and_self]
theorem Kn (D D2:Bs):(cM D=none∧cM D2=none∧rC D D2=3∧rB D D2=0)∨(∃ ts,cM D=some ts∧cM D2=none∧rC D D2=3∧rB D D2=0)∨(∃ us,cM D=none∧cM D2=some us∧rC D D2=3∧rB D D2=0)∨∃ ts us,cM D=some ts∧cM D2=some us∧rC D D2=0∧rB D D2=(gR ts us:Int):=by
 unfold rC rB
 cases h1:cM D <;> cases h2:cM D2 <;> simp
theorem TN (A:Option Addr) (c n:Nat) (w:World) :
  Calls Tryz.prog 7 #[(.slice A (n) (c))] w fun e w'=>e = .returned (.bool (wP n))∧aJ [] w [] w':=by
 refine dI Tryz.func7 11 (Mm.start w []) rfl<|Nc<|lx rfl<|Nb<|lx rfl<|lk (vI n)<|lk (.bool (decide (((n:Nat):Int) > 40)))<|lm ?_
 refine St.dec 6 rfl (fun hc6=>?_) (fun hc6=>?_)
 ·have hd6:=of_decide_eq_true hc6
  exact lx rfl<|lg (vI n)<|lg (.bool (decide (((n:Nat):Int)≤16384)))<|lk (.bool (decide (((n:Nat):Int)≤16384)))<|lx rfl<|Nd<|sN [(.bool (decide (((n:Nat):Int)≤16384)))] fun w hM=>⟨fF (by unfold wP; rw [Bool.eq_iff_iff]; simp; omega),hM⟩
 ·have hd6:=of_decide_eq_false hc6
  exact lx rfl<|lF<|lx rfl<|Nd<|sN [bF] fun w hM=>⟨fF (by unfold wP; rw [Bool.eq_iff_iff]; simp; omega),hM⟩
set_option maxHeartbeats 400000 in
theorem TO (A:Option Addr) (c:Nat) (l:List (List UInt8)) (w:World) (r0:Rf [] w (cI)) (r1:Rf [] w (fun w=>aH w A (SS l))) (hl:l.length≤9223372036854775807) (h40:dR l=0→l.length≤1000) :
  Calls Tryz.prog 8 #[(vL A l c)] w fun e w'=>∃ (B:Option Addr) (cb:Nat),e = .returned (.tuple #[(vL B (kG l) cb),(vi (dR l))])∧aJ [] w [cB B (kG l) cb] w':=by
 rcases Decidable.em (dR l=0) with he | he
 ·refine (ID _ _ _ w r0 r1 hl he (h40 he)).mono ?_
  rintro e w' ⟨B,cb,rfl,hP⟩
  rw [show kG l=bL (bC l) from if_pos he,he]
  exact ⟨B,cb,rfl,hP⟩
 ·refine (QV _ _ _ w r1 hl he).mono ?_
  rintro e w' ⟨rfl,hP⟩
  rw [show kG l=[] from if_neg he]
  exact ⟨none,0,rfl,hP.gY 5 1⟩
set_option maxHeartbeats 400000 in
theorem TP (A:Option Addr) (c:Nat) (D:List UInt8) (A2:Option Addr) (c2:Nat) (D2:List UInt8) (w:World) (r0:Rf [] w (cI)) (r1:Rf [] w (fun w=>aH w A (B8 D))) (r2:Rf [] w (fun w=>aH w A2 (B8 D2))) (hD:D.length≤4294967296) (hD2:D2.length≤4294967296) :
  Calls Tryz.prog 9 #[(vL A D c),(vL A2 D2 c2)] w fun e w'=>e = .returned (.tuple #[(vi (rB D D2)),(vi (rC D D2))])∧aJ [] w [] w':=by
 rcases Kn D D2 with ⟨h1,h2,hE,hV⟩ | ⟨ts,h1,h2,hE,hV⟩ | ⟨us,h1,h2,hE,hV⟩ | ⟨ts,us,h1,h2,hE,hV⟩
 ·rw [hE,hV]
  exact IE _ _ _ _ _ _ w r0 r1 r2 hD hD2 h1
 ·rw [hE,hV]
  exact QW _ _ _ _ _ _ _ w r0 r1 r2 hD hD2 h1 h2
 ·rw [hE,hV]
  exact IE _ _ _ _ _ _ w r0 r1 r2 hD hD2 h1
 ·rw [hE,hV]
  exact IF _ _ _ _ _ _ _ _ w r0 r1 r2 hD hD2 h1 h2
set_option maxHeartbeats 400000 in
theorem TR (k n:Int) (w:World) :
  Calls Tryz.prog 10 #[(vi k),(vi n)] w fun e w'=>e = .returned (.tuple #[(vi (hZ k n)),(vi (iA k n)),(vi (lI k n))])∧aJ [] w [] w':=by
 rcases Decidable.em (k < 0∨n < 0) with h0 | h0
 ·refine (QO k n w h0).mono ?_
  rintro e w' ⟨rfl,hP⟩
  exact ⟨by simp only [hZ,iA,lI,h0,if_true],hP⟩
 ·obtain ⟨k,rfl⟩:=Int.eq_ofNat_of_zero_le (show 0≤k by omega)
  obtain ⟨n,rfl⟩:=Int.eq_ofNat_of_zero_le (show 0≤n by omega)
  rcases Nat.lt_or_ge 500 k with h5 | h5
  ·refine (QP k n w h5).mono ?_
   rintro e w' ⟨rfl,hP⟩
   exact ⟨by simp only [hZ,iA,lI,if_neg h0,if_pos (show (500:Int) < (k:Int) by omega)],hP⟩
  ·refine (Du k n w h5).mono ?_
   rintro e w' ⟨rfl,hP⟩
   exact ⟨by simp only [hZ,iA,lI,if_neg h0,if_neg (show ¬ (500:Int) < (k:Int) by omega),Int.toNat_natCast],hP⟩
set_option maxHeartbeats 400000 in
theorem TS (k:Nat) (w:World) (hk:k≤1099511627776) :
  Calls Tryz.prog 13 #[(vI k)] w fun e w'=>e = .returned (.tuple #[(vi (hZ k 0)),(vi (iA k 0))])∧aJ [] w [] w':=by
 have h0:¬ ((k:Int) < 0∨(0:Int) < 0):=om
 rcases Nat.lt_or_ge 500 k with h5 | h5
 ·refine (RE k w h5).mono ?_
  rintro e w' ⟨rfl,hP⟩
  exact ⟨by simp only [hZ,iA,if_neg h0,if_pos (show (500:Int) < (k:Int) by omega)],hP⟩
 ·refine (RD k w h5).mono ?_
  rintro e w' ⟨rfl,hP⟩
  exact ⟨by simp only [hZ,iA,if_neg h0,if_neg (show ¬ (500:Int) < (k:Int) by omega),Int.toNat_natCast],hP⟩
theorem TT (A:Option Addr) (c:Nat) (l:List (List UInt8)) (A1:Option Addr) (c1:Nat) (D1:List UInt8) (A2:Option Addr) (c2:Nat) (D2:List UInt8) (k n:Int) (w:World) (r0:Rf [] w (cI)) (r1:Rf [] w (fun w=>aH w A (SS l))) (r2:Rf [] w (fun w=>aH w A1 (B8 D1))) (r3:Rf [] w (fun w=>aH w A2 (B8 D2))) (hl:l.length≤9223372036854775807) (hc1:D1.length≤c1) (hc2:D2.length≤c2) :
  Calls Tryz.prog 3 #[(vL A l c),(vL A1 D1 c1),(vL A2 D2 c2),(vi k),(vi n)] w fun e w'=>e = .returned bT∧aJ [] w [] w':=by
 refine e5' Tryz.func3 151 (Mm.start w []) rfl<|Nc<|lx rfl<|Ne<|Nx<|bP (fun w hM=>TL  w (r0.aQ hM))<|lF<|Nn<|Nc<|lx rfl<|Nx<|bP (fun w hM=>TN A c l.length w )<|lm ?_
 refine St.dec 29 rfl (fun hc29=>?_) (fun hc29=>?_)
 ·exact lx rfl<|lT<|lx rfl<|lT<|lx rfl<|lT<|No<|lx rfl<|Nh<|sN [bT] fun w hM=>⟨rfl,hM⟩
 ·refine lx rfl<|lg (vI D1.length)<|lg (.bool (decide (((D1.length:Nat):Int) > 20000)))<|lk (.bool (decide (((D1.length:Nat):Int) > 20000)))<|lm ?_
  refine St.dec 34 rfl (fun hc34=>?_) (fun hc34=>?_)
  ·have hd34:=of_decide_eq_true hc34
   exact lx rfl<|lT<|lx rfl<|lT<|No<|lx rfl<|Nh<|sN [bT] fun w hM=>⟨rfl,hM⟩
  ·have hd34:=of_decide_eq_false hc34
   refine lx rfl<|lg (vI D2.length)<|lg (.bool (decide (((D2.length:Nat):Int) > 20000)))<|lk (.bool (decide (((D2.length:Nat):Int) > 20000)))<|lm ?_
   refine St.dec 39 rfl (fun hc39=>?_) (fun hc39=>?_)
   ·have hd39:=of_decide_eq_true hc39
    exact lx rfl<|lT<|No<|lx rfl<|Nh<|sN [bT] fun w hM=>⟨rfl,hM⟩
   ·have hd39:=of_decide_eq_false hc39
    refine lx rfl<|lg (.bool (decide ((k:Int) > 1099511627776)))<|lk (.bool (decide ((k:Int) > 1099511627776))) ?_
    refine aO (aI (bD rfl (fun hc42=>?_) (fun hc42=>?_)))
    ·have hd42:=of_decide_eq_true hc42
     exact Nc<|lx rfl<|Nh<|sN [bT] fun w hM=>⟨rfl,hM⟩
    ·have hd42:=of_decide_eq_false hc42
     have hlg:wP l.length=false:=by simpa using hc29
     have hD1:D1.length≤20000:=om
     have hD2:D2.length≤20000:=om
     have hk40:k≤1099511627776:=om
     have hset:dR l=0→l.length≤40∧cJ l:=fun h=>by obtain ⟨h1,h2⟩:=wQ h; unfold wP at hlg; simp at hlg; exact ⟨om,h2⟩
     refine Ni<|lx rfl<|Nx<|dW (fun w hM=>TO A c l w (r0.aQ hM) (r1.aQ hM) om (fun h=>by have:=(hset h).1; omega)) fun B45 cb45=>lx rfl<|Nb<|lx rfl<|Nx<|bP (fun w hM=>TP A1 c1 D1 A2 c2 D2 w (r0.aQ hM) (r2.aQ hM) (r3.aQ hM) om om) ?_
     obtain ⟨ev,hev⟩:∃ x,rB D1 D2=x:=⟨_,rfl⟩
     obtain ⟨er,her⟩:∃ x,rC D1 D2=x:=⟨_,rfl⟩
     rw [show rB D1 D2=ev from hev]
     rw [show rC D1 D2=er from her]
     refine lx rfl<|Nf<|St.to [cB B45 (kG l) cb45] kr<|aF<|lx rfl<|Nx<|bP (fun w hM=>TR k n w )<|lx rfl<|Nb<|lx rfl<|Nx<|bP (fun w hM=>OT A c l w (r1.aQ hM) om)<|lx rfl<|Na<|St.to [cB B45 (kG l) cb45] kr ?_
     refine nX (ι:=Unit) (fun _=>True) (fun _=>[(0,(vL A l c)),(1,(vL A1 D1 c1)),(2,(vL A2 D2 c2)),(3,(vi k)),(4,(vi n)),(10,bF),(13,(vi ev)),(14,(vi er)),(15,(vi (hZ k n))),(16,(vi (iA k n))),(17,(vi (lI k n)))]) (fun _=>[]) ?_ ?_
     ·refine aS ?_
      rcases Decidable.em (dR l=0) with he | he
      ·obtain ⟨hl40,hok⟩:=hset he
       have h32:=hok.1
       rw [he]
       refine cQ _ 24 kr (fun _ h=>h)<|am 0 ?_
       refine am 1 ?_
       refine aC 2 bF rfl<|am 3 ?_
       refine iL 4 ?_
       refine aG 5 bT rfl<|iL 6 ?_
       refine iL 7 ?_
       refine aW 8 (vS (kG l)) rfl (kW (e:=5) (kG l) rfl kr kr kr rfl rfl (fun w hM=>gJ (i:=0) rfl w hM))<|iL 9 ?_
       refine aB 10 rfl<|dW (fun w hM=>Sg A c l w (r1.aQ hM) (h32) om) fun B73 cb73=>aP _ (fun _ h=>h.pick [0] rfl rfl) (fun _ h=>h)<|aW 11 (vS (bL (bC l))) rfl (kW (e:=5) (bL (bC l)) rfl kr kr kr rfl rfl (fun w hM=>gJ (i:=1) rfl w hM))<|aW 12 (.bool (!decide ((kG l)=(bL (bC l))))) rfl (rP rfl rfl rfl)<|aG 13 (.bool (!decide ((kG l)=(bL (bC l))))) rfl<|aC 14 (.bool (!decide ((kG l)=(bL (bC l))))) rfl<|am 15 ?_
       refine Any.known 78 (b':=false) rfl (by rw [show kG l=bL (bC l) from if_pos he]; simp) ?_
       refine iL 16 ?_
       refine aG 17 bF rfl<|iL 18 ?_
       refine dF 19 ?_
       refine dF 20 ?_
       refine dF 21 ?_
       exact aG 22 bF rfl<|aC 23 bF rfl<|cF kr<|aI<|qF rfl<|fI<|aI<|sM () (trivial) (fun _ h=>h.pick [] rfl rfl)
      ·refine cQ _ 24 kr (fun _ h=>h)<|am 0 ?_
       refine am 1 ?_
       refine aV 2 bF rfl (iB (v:=.bool (((dR l):Int) != (dR l))) (fL fun _=>by kernel_rfl) si)<|am 3 ?_
       refine iL 4 ?_
       refine aG 5 (.bool (((dR l):Int) == 0)) rfl<|iL 6 ?_
       refine Any.known 69 (b':=false) rfl (by simpa using he)<|dF 7 ?_
       refine dF 8 ?_
       refine dF 9 ?_
       refine dF 10 ?_
       refine dF 11 ?_
       refine dF 12 ?_
       refine aG 13 bF rfl ?_
       refine aC 14 bF rfl ?_
       refine am 15 ?_
       refine iL 16 ?_
       refine aG 17 (.bool (((dR l):Int) != 0)) rfl ?_
       refine iL 18 ?_
       refine Any.known 81 (b':=true) rfl (by simpa using he)<|iL 19 ?_
       refine aG 20 (vI ((kG l).length)) rfl<|aG 21 (.bool (decide ((((kG l).length:Nat):Int) > 0))) rfl<|aG 22 (.bool (decide ((((kG l).length:Nat):Int) > 0))) rfl<|aC 23 (.bool (decide ((((kG l).length:Nat):Int) > 0))) rfl<|cF kr ?_
       refine aI (bD rfl (fun hc86=>?_) (fun hc86=>?_))
       ·have hd86:=of_decide_eq_true hc86
        exact absurd hc86 (by rw [show kG l=[] from if_neg he]; simp)
       ·have hd86:=of_decide_eq_false hc86
        exact fI (aI (sM () (trivial) (fun _ h=>h.pick [] rfl rfl)))
     ·rintro _ -
      show St _ _ _ [(0,(vL A l c)),(1,(vL A1 D1 c1)),(2,(vL A2 D2 c2)),(3,(vi k)),(4,(vi n)),(10,bF),(13,(vi ev)),(14,(vi er)),(15,(vi (hZ k n))),(16,(vi (iA k n))),(17,(vi (lI k n)))] [] _
      refine nX (ι:=Unit) (fun _=>True) (fun _=>[(0,(vL A l c)),(1,(vL A1 D1 c1)),(2,(vL A2 D2 c2)),(10,bF),(13,(vi ev)),(14,(vi er))]) (fun _=>[]) ?_ ?_
      ·refine Nc<|lx rfl<|lk (.bool (decide ((k:Int) < 0)))<|lm ?_
       refine St.dec 89 rfl (fun hc89=>?_) (fun hc89=>?_)
       ·have hd89:=of_decide_eq_true hc89
        refine lx rfl<|lT<|Nt<|aS ?_
        have hbad:k < 0∨n < 0:=om
        have hch:hZ k n=0∧iA k n=0∧lI k n=1:=by simp only [hZ,iA,lI,hbad,if_true,and_self]
        refine aF<|lx rfl<|lk (.bool (((lI k n):Int) != 1))<|lm ?_
        refine St.known 95 (b':=false) rfl (by rw [hch.2.2]; rfl)<|lx rfl<|lg (.bool (((hZ k n):Int) != 0))<|lk (.bool (((hZ k n):Int) != 0))<|lm ?_
        exact St.known 99 (b':=false) rfl (by rw [hch.1]; rfl)<|lx rfl<|lg (.bool (((iA k n):Int) != 0))<|lk (.bool (((iA k n):Int) != 0))<|Na<|eP rfl (by rw [hch.2.1]; rfl)<|fI (aI (sM () (trivial) (fun _ h=>h)))
       ·have hd89:=of_decide_eq_false hc89
        refine lx rfl<|lg (.bool (decide ((n:Int) < 0)))<|lk (.bool (decide ((n:Int) < 0))) ?_
        refine aO (aI (bD rfl (fun hc92=>?_) (fun hc92=>?_)))
        ·have hd92:=of_decide_eq_true hc92
         refine aS ?_
         have hbad:k < 0∨n < 0:=om
         have hch:hZ k n=0∧iA k n=0∧lI k n=1:=by simp only [hZ,iA,lI,hbad,if_true,and_self]
         refine aF<|lx rfl<|lk (.bool (((lI k n):Int) != 1))<|lm ?_
         refine St.known 95 (b':=false) rfl (by rw [hch.2.2]; rfl)<|lx rfl<|lg (.bool (((hZ k n):Int) != 0))<|lk (.bool (((hZ k n):Int) != 0))<|lm ?_
         exact St.known 99 (b':=false) rfl (by rw [hch.1]; rfl)<|lx rfl<|lg (.bool (((iA k n):Int) != 0))<|lk (.bool (((iA k n):Int) != 0))<|Na<|eP rfl (by rw [hch.2.1]; rfl)<|fI (aI (sM () (trivial) (fun _ h=>h)))
        ·have hd92:=of_decide_eq_false hc92
         refine aS ?_
         have hgd:¬ (k < 0∨n < 0):=om
         obtain ⟨kk,rfl⟩:=Int.eq_ofNat_of_zero_le (show 0≤k by omega)
         have hch:=TM (k:=kk) hgd
         refine aF<|lx rfl<|Nx<|bP (fun w hM=>TS kk w om)<|lx rfl<|Nb<|lx rfl<|lk (.bool (((lI ((kk:Nat):Int) n):Int) != 0))<|lm ?_
         refine St.known 110 (b':=false) rfl (by rw [hch.1]; simp)<|lx rfl<|lg (.bool (((hZ ((kk:Nat):Int) n):Int) != (hZ kk 0)))<|lk (.bool (((hZ ((kk:Nat):Int) n):Int) != (hZ kk 0)))<|lm ?_
         exact St.known 115 (b':=false) rfl (by rw [hch.2.1]; simp)<|lx rfl<|lg (.bool (((iA ((kk:Nat):Int) n):Int) != (iA kk 0)))<|lk (.bool (((iA ((kk:Nat):Int) n):Int) != (iA kk 0)))<|Na<|eP rfl (by rw [hch.2.2]; simp)<|fI (aI (sM () (trivial) (fun _ h=>h)))
      ·rintro _ -
       show St _ _ _ [(0,(vL A l c)),(1,(vL A1 D1 c1)),(2,(vL A2 D2 c2)),(10,bF),(13,(vi ev)),(14,(vi er))] [] _
       refine aS ?_
       rcases Kn D1 D2 with ⟨h1,h2,hE,hV⟩ | ⟨ts,h1,h2,hE,hV⟩ | ⟨us,h1,h2,hE,hV⟩ | ⟨ts,us,h1,h2,hE,hV⟩
       ·rw [her] at hE; rw [hev] at hV
        have HE:=Lib.hid hE; have HV:=Lib.hid hV; clear hE hV
        refine aF<|lx rfl<|Nx<|gD (fun w hM=>AQ A1 c1 D1 w (r2.aQ hM) om om (h1)) fun x1122=>lx rfl<|Nb<|lx rfl<|Nx<|gD (fun w hM=>AQ A2 c2 D2 w (r3.aQ hM) om om (h2)) fun x1127=>lx rfl<|Ne<|lx rfl<|lT<|lx rfl<|lT<|No<|lx rfl<|lk (.bool ((er:Int) == 3))<|lm ?_
        exact St.known 138 (b':=true) rfl (by rw [HE.out]; rfl)<|lx rfl<|lg (.bool ((ev:Int) == 0))<|lk (.bool ((ev:Int) == 0))<|lx rfl<|Nh<|sN [(.bool ((ev:Int) == 0))] fun w hM=>⟨by rw [HV.out]; rfl,hM⟩
       ·rw [her] at hE; rw [hev] at hV
        have HE:=Lib.hid hE; have HV:=Lib.hid hV; clear hE hV
        refine aF<|lx rfl<|Nx<|vY (fun w hM=>AR A1 c1 D1 ts w (r2.aQ hM) om om (h1)) fun B122 cb122 Xs122 hn122=>lx rfl<|Nb<|lx rfl<|Nx<|gD (fun w hM=>AQ A2 c2 D2 w (r3.aQ hM) om om (h2)) fun x1127=>lx rfl<|Nf<|aS ?_
        dsimp only [bE,List.set,List.cons_append,List.nil_append]
        refine aF<|lx rfl<|lF<|lx rfl<|lg bT<|lT<|No<|lx rfl<|lk (.bool ((er:Int) == 3))<|lm ?_
        exact St.known 138 (b':=true) rfl (by rw [HE.out]; rfl)<|lx rfl<|lg (.bool ((ev:Int) == 0))<|lk (.bool ((ev:Int) == 0))<|lx rfl<|Nh<|sN [(.bool ((ev:Int) == 0))] fun w hM=>⟨by rw [HV.out]; rfl,(hM.pick [] rfl rfl)⟩
       ·rw [her] at hE; rw [hev] at hV
        have HE:=Lib.hid hE; have HV:=Lib.hid hV; clear hE hV
        refine aF<|lx rfl<|Nx<|gD (fun w hM=>AQ A1 c1 D1 w (r2.aQ hM) om om (h1)) fun x1122=>lx rfl<|Nb<|lx rfl<|Nx<|vY (fun w hM=>AR A2 c2 D2 us w (r3.aQ hM) om om (h2)) fun B127 cb127 Xs127 hn127=>lx rfl<|Ne<|lx rfl<|lT<|lx rfl<|lT<|No<|lx rfl<|lk (.bool ((er:Int) == 3))<|lm ?_
        exact St.known 138 (b':=true) rfl (by rw [HE.out]; rfl)<|lx rfl<|lg (.bool ((ev:Int) == 0))<|lk (.bool ((ev:Int) == 0))<|lx rfl<|Nh<|sN [(.bool ((ev:Int) == 0))] fun w hM=>⟨by rw [HV.out]; rfl,(hM.pick [] rfl rfl)⟩
       ·rw [her] at hE; rw [hev] at hV
        have HE:=Lib.hid hE; have HV:=Lib.hid hV; clear hE hV
        refine aF<|lx rfl<|Nx<|vY (fun w hM=>AR A1 c1 D1 ts w (r2.aQ hM) om om (h1)) fun B122 cb122 Xs122 hn122=>lx rfl<|Nb<|lx rfl<|Nx<|vY (fun w hM=>AR A2 c2 D2 us w (r3.aQ hM) om om (h2)) fun B127 cb127 Xs127 hn127=>lx rfl<|Nf<|aS ?_
        dsimp only [bE,List.set,List.cons_append,List.nil_append]
        refine aF<|lx rfl<|lF<|lx rfl<|lg bF<|lF<|Nn ?_
        obtain ⟨o1,o2⟩:=oV h1
        obtain ⟨v1,v2⟩:=oV h2
        refine aF<|lx rfl<|lk (.bool ((er:Int) == 0))<|lm ?_
        exact St.known 144 (b':=true) rfl (by rw [HE.out]; rfl)<|lx rfl<|cO rfl rfl<|bP (fun w hM=>Sh B122 cb122 Xs122 ts B127 cb127 Xs127 us w (hM.bB (j:=0) rfl (fun _ h=>Jp h)) (hM.bB (j:=2) rfl (fun _ h=>Jp h)) (hM.bB (j:=1) rfl (fun _ h=>h)) (hM.bB (j:=3) rfl (fun _ h=>h)) (o2) (o1) (hn122) (v2) (v1) (hn127))<|lg (.bool ((ev:Int) == (((gR ts us):Nat):Int)))<|lk (.bool ((ev:Int) == (((gR ts us):Nat):Int)))<|lx rfl<|Nd<|sN [(.bool ((ev:Int) == (((gR ts us):Nat):Int)))] fun w hM=>⟨by rw [HV.out]; simp; rfl,(hM.pick [] rfl rfl)⟩
section
open Go.ChangeShapes Go.WideShapes Go.ChangeAt Go.RowKit
theorem TU {H:Type} {enc:TypeId × Value→H} {P:Program} (hl:laidOutB P=true) {W W':World} (hb:Below W.heap.size W W') :
  ∀ (ts:List TypeId) (vs:List Value) (ds:List (DataW H)) (ps:List MemPlace),(∀ t∈ts,P.readableRec t=true∧t < P.types.size)→(∀ p∈ps,p.block < W.heap.size) →
    DataW.TrodAll enc P W 0 (fun _=>true) true ts vs ds ps→DataW.TrodAll enc P W' 0 (fun b=>decide (b < W.heap.size)) true ts vs ds ps:=by
 intro ts
 induction ts with
 | nil =>
   intro vs ds ps _ _ h
   obtain ⟨rfl,rfl,rfl⟩:=trodAll_nil h
   exact trodAll_mk0
 | cons t ts ih =>
   intro vs ds ps hr hp h
   obtain ⟨v,vs',d,ds',p,q,rfl,rfl,rfl,h1,h2⟩:=trodAll_cons h
   refine trodAll_cons_mk (WideElems.Trod_stays hl (hr t si).1 (hr t si).2 h1 (fun x hx=>hb.same (hp x (by simp [hx]))) (fun x hx=>by simpa using hp x (by simp [hx]))) (ih vs' ds' q (fun t ht=>hr t (by simp [ht])) (fun x hx=>hp x (by simp [hx])) h2)
theorem TV {H:Type} {enc:TypeId × Value→H} {P:Program} {f:Func} {s:ChangeSpec} {W W':World} {args:Array Value} {ds gs:List (DataW H)} {before:List MemPlace}
  (hl:laidOutB P=true) (hr:f.params.toList.all (fun t=>P.readableRec t && decide (t < P.types.size))=true) (hv:s.vars=[])
  (hW:DataW.Whole enc P f.params.toList s.vars false W args.toList ds gs before)
  (hs:(s.fn H ds).results=[.lit (.bool true)]∧(s.fn H ds).args=ds∧(s.fn H ds).vars=[])
  (hres:∀ (b:Nat),DataW.TrodAll enc P W' b (fun _=>false) false f.resultTypes.toList ((Value.bool true).resultList f.resultTypes.size) [.lit (.bool true)] [])
  (hb:Below W.heap.size W W'):s.post enc P f false true false false W args (.bool true) W':=by
 have hlt:∀ p∈before,p.block < W.heap.size:=fun p hp=>hW.lt p hp
 obtain ⟨p,q,hA,hV,rfl,hfz,hnd⟩:=id hW
 rw [hv] at hV
 obtain ⟨rfl,rfl⟩:=trodVars_none hV
 have hA':=TU hl hb f.params.toList args.toList ds p (fun t ht=>by
  have:=List.all_eq_true.1 hr t ht
  simpa using this) (fun x hx=>hlt x (by simp [hx])) hA
 refine ⟨ds,[],p++[],[],p,[],hW,?_,?_,?_,?_,fun h=>by cases h⟩
 ·rw [List.append_nil,hs.1]; exact hres _
 ·rw [List.append_nil,hs.2.1]; exact hA'
 ·rw [List.append_nil,hs.2.2,hv]; rfl
 ·exact hb.frame _
open Go.ChangeShapes Go.WideShapes Go.ChangeAt Go.RowKit
theorem TW {n:Int} (h:(Lit.int .u8 n).wf=true):0≤n∧n≤255:=by
 simpa [Lit.wf,IntKind.min,IntKind.max,IntKind.signed,IntKind.bits] using h
theorem Ko {w:World} {a:Addr} {v:Value} (h:w.cell? a=some v):a.spot=none:=by
 unfold World.cell? at h
 split at h
 ·split at h
  ·cases h
  ·rename_i hs
   cases he:a.spot with
   | none=>rfl
   | some x=>rw [he] at hs; exact absurd rfl hs
 ·cases h
theorem Eb (b o j:Nat):(⟨b,o,none⟩:Addr).add j=⟨b,o+j,none⟩:=by
 unfold Addr.add
 split
 ·simp_all
 ·rfl
theorem Kp {w:World} {b o:Nat} {v:Value} (h:w.cell? ⟨b,o,none⟩=some v):b < w.heap.size:=World.block_lt_of_cell? w ⟨b,o,none⟩ h
section
variable {H : Type} {enc : TypeId × Value → H} {P : Program} {W : World}
theorem TY {t e:TypeId} {base:Nat} {v:Value} {d:DataW H} {p:List MemPlace} (C:Nat) (hC0:0 < C) (ht:P.underlying t=some (.slice e)) (hC:P.cellsOf e=C) (hv:Value.okWide P W .any base t v)
  (h:DataW.Trod enc P W 0 (fun _=>true) true t v d p) :
  ∃ (A:Option Addr) (n cap:Nat),v = .slice A n cap∧n≤cap∧cap≤maxLen ∧
    (0 < n→∃ b o,A=some ⟨b,o,none⟩∧b < W.heap.size∧∀ i,i < n→∃ (cs:List Value) (f:Nat) (x:DataW H × List MemPlace),cs.length=C∧(∀ j,j < C→W.cell? ⟨b,o+i*C+j,none⟩=cs[j]?)∧DataW.trod enc P W 0 (fun _=>true) true f e cs=some x):=by
 obtain ⟨A,n,cap,rfl⟩:=okWide_slice ht hv
 obtain ⟨f,hf⟩:=h
 rcases Go.Deep.open_slice ht (by simpa [Value.cells] using hf) with ⟨h0,_⟩ | ⟨a,len,cap',m,n',D,Pl,hcs,_,hl,hm,hmm,_,hi⟩
 ·simp only [List.cons.injEq,Value.slice.injEq,and_true] at h0
  obtain ⟨rfl,rfl,rfl⟩:=h0
  exact ⟨none,0,0,rfl,Nat.le_refl _,Nat.zero_le _,fun h=>absurd h om⟩
 ·simp only [List.cons.injEq,Value.slice.injEq,and_true] at hcs
  obtain ⟨rfl,rfl,rfl⟩:=hcs
  simp only [if_true] at hmm
  have hrow:∀ i,i < n→∃ (cs:List Value) (x:DataW H × List MemPlace),cs.length=C∧(∀ j,j < C→W.cell? ((a.add (i*C)).add j)=cs[j]?)∧DataW.trod enc P W 0 (fun _=>true) true n' e cs=some x:=by
   intro i hin
   obtain ⟨cs',hc,ht'⟩:=hi i om
   rw [hC] at hc
   obtain ⟨_,hcl,hat⟩:=World.cells?_some hc
   exact ⟨cs',_,hcl,hat,ht'⟩
  refine ⟨_,n,cap,rfl,hl,hm,fun hn=>?_⟩
  obtain ⟨cs,x,hcl,hat,_⟩:=hrow 0 hn
  have h0:=hat 0 hC0
  rw [Nat.zero_mul,List.getElem?_eq_getElem om] at h0
  have ha0:(a.add 0).add 0=a:=by unfold Addr.add; simp
  rw [ha0] at h0
  obtain ⟨b,o,s⟩:=a
  have hs:=Ko h0
  simp only at hs
  subst hs
  refine ⟨b,o,rfl,Kp h0,fun i hin=>?_⟩
  obtain ⟨cs,x,hcl,hat,ht'⟩:=hrow i hin
  refine ⟨cs,n',x,hcl,fun j hj=>?_,ht'⟩
  have:=hat j hj
  rwa [Eb,Eb] at this
end
end
section
open Go.ChangeShapes Go.WideShapes Go.ChangeAt Go.RowKit
theorem TZ : Tryz.prog.globalNamed "kinkeep/sha256.initial" = some 0 := by kernel_rfl
theorem Ua : Tryz.prog.globalNamed "kinkeep/sha256.constants" = some 1 := by kernel_rfl
theorem Ub:(Tryz.prog.globals[0]?).map (·.type)=some 201:=by kernel_rfl
theorem Uc:(Tryz.prog.globals[1]?).map (·.type)=some 232:=by kernel_rfl
def xQ : List (String × DataW Unit) := [("kinkeep/sha256.initial", Rows.laid_kinkeep_sha256_initial), ("kinkeep/sha256.constants", Rows.laid_kinkeep_sha256_constants)]
theorem Ud (os:Os) (args:Array Value):laidMetH Tryz.prog xQ ((World.doorLaid Tryz.prog 400 os).forCall (fun _ _=>0) ⟨#[],args,[]⟩).memory :=
 laidMetH_of_parts3 (fuel:=8) (laidMet_of_run' 8 kr kr) kr kr
theorem Kq {enc:TypeId × Value→Unit} {W:World} {base:Nat} {spare:Nat→Bool} {held:Bool} {fuel:Nat} {t:TypeId} {n:Nat} {cs:List Value} {l:List Nat} {ps:List MemPlace} (ht:Tryz.prog.underlying t=some (.array n 200)) (h:DataW.trod enc Tryz.prog W base spare held fuel t cs=some (.agg (l.map fun k:Nat=>DataW.lit (Lit.int .u32 (k:Int))),ps)) :
  ∀ i x:Nat,l[i]?=some x→cs[i]?=some (.int .u32 (x:Int)):=by
 obtain ⟨xs,m,_,hx,_,hn,hel⟩:=DataW.trod_array ht h
 simp only [Prod.mk.injEq,DataW.agg.injEq] at hx
 have hc:Tryz.prog.cellsOf 200=1:=by kernel_rfl
 intro i x hi
 have hl:l.length=n:=by
  have:=congrArg List.length hx.1
  simp at this
  omega
 have hin:i < n:=by rw [← hl]; exact (List.getElem?_eq_some_iff.1 hi).1
 have h1:=hel i hin
 rw [List.getElem?_eq_getElem om] at h1
 obtain ⟨k,e1,e2,_⟩:=DataW.trod_int Tryz.underlying200 h1
 have h2:=congrArg (fun z=>z[i]?) hx.1
 simp only [List.getElem?_map,hi,Option.map_some] at h2
 rw [List.getElem?_eq_getElem om] at h2
 simp only [Option.map_some,Option.some.injEq] at h2
 rw [e2] at h2
 simp only [DataW.lit.injEq,Lit.int.injEq,true_and] at h2
 rw [hc,Nat.mul_one] at e1
 have h3:(List.take 1 (List.drop i cs))[0]?=some (.int .u32 k):=by rw [e1]; rfl
 rw [List.getElem?_take_of_lt om,List.getElem?_drop,Nat.add_zero] at h3
 rw [h3,h2]
theorem Ue {W:World} (h:laidMetH Tryz.prog xQ W):cI W:=by
 rw [MakeChecks.laidMetH_plain _ _ _ kr] at h
 obtain ⟨ps,⟨g0,t0,cs0,f0,p0,q0,hg0,ht0,hv0,hd0,⟨g1,t1,cs1,f1,p1,q1,hg1,ht1,hv1,hd1,_,_⟩,_⟩,_,_⟩:=h
 obtain rfl:=Option.some.inj (TZ.symm.trans hg0)
 obtain rfl:=Option.some.inj (Ua.symm.trans hg1)
 obtain rfl:=Option.some.inj (Ub.symm.trans ht0)
 obtain rfl:=Option.some.inj (Uc.symm.trans ht1)
 refine ⟨fun i x hx=>?_,fun i x hx=>?_⟩
 ·rw [World.var?_cell hg0 hv0 i]
  have:=Kq (l:=jM) Tryz.underlying201 hd0 i x hx
  simpa using this
 ·rw [World.var?_cell hg1 hv1 i]
  have:=Kq (l:=mD) Tryz.underlying232 hd1 i x hx
  simpa using this
theorem Uf (s:ByteArray):s=aT s.data.toList:=by
 cases s
 simp [aT]
end
section
open Go.ChangeShapes Go.WideShapes Go.ChangeAt Go.RowKit
section
variable {H : Type} {enc : TypeId × Value → H} {P : Program} {W : World}
theorem Ug {t e:TypeId} {base:Nat} {v:Value} {d:DataW H} {p:List MemPlace} (ht:P.underlying t=some (.slice e)) (he:P.underlying e=some .string) (hC:P.cellsOf e=1) (hv:Value.okWide P W .any base t v)
  (h:DataW.Trod enc P W 0 (fun _=>true) true t v d p) :
  ∃ (A:Option Addr) (cap:Nat) (l:List (List UInt8)),v = .slice A l.length cap∧l.length≤9223372036854775807∧aH W A (SS l)∧l.length≤cap:=by
 obtain ⟨A,n,cap,rfl,hnc,hcm,hr⟩:=TY 1 (by omega) ht hC hv h
 have hmax:n≤9223372036854775807:=by unfold maxLen at hcm; omega
 rcases Nat.eq_zero_or_pos n with rfl | hn
 ·exact ⟨A,cap,[],rfl,Nat.zero_le _,(fun i x hx=>by simp at hx),Nat.zero_le _⟩
 ·obtain ⟨b,o,rfl,hb,hi⟩:=hr hn
  have hx:∀ i,i < n→∃ x:List UInt8,W.cell? ⟨b,o+i,none⟩=some (.string (aT x)):=by
   intro i hin
   obtain ⟨cs,f,x,hl,hc,ht⟩:=hi i hin
   obtain ⟨a,ha,_⟩:=DataW.trod_string he ht
   have h0:=hc 0 (by omega)
   rw [Nat.mul_one,ha] at h0
   exact ⟨a.data.toList, by rw [← Uf]; exact h0⟩
  let g:Nat→List UInt8:=fun i=>if h:i < n then Classical.choose (hx i h) else []
  have hgs:∀ i (hin:i < n),W.cell? ⟨b,o+i,none⟩=some (.string (aT (g i))):=by
   intro i hin
   have hgi:g i=Classical.choose (hx i hin):=by simp only [g,hin,dif_pos]
   rw [hgi]
   exact Classical.choose_spec (hx i hin)
  refine ⟨some ⟨b,o,none⟩,cap,(List.range n).map g,by simp,by simp; omega,?_,by simpa using hnc⟩
  intro i u hu
  have hin:i < n:=by
   have:=(List.getElem?_eq_some_iff.1 hu).1
   simpa using this
  have hg:Value.string (aT (g i))=u:=by simpa [hin] using hu
  exact ⟨b, o, rfl, hb, by rw [hgs i hin, hg]⟩
end
end
section
open Go.ChangeShapes Go.WideShapes Go.ChangeAt Go.RowKit
section
variable {H : Type} {enc : TypeId × Value → H} {P : Program} {W : World}
theorem Uh {e u:TypeId} {f:Nat} {c:Value} {x:DataW H × List MemPlace} (he:P.underlying e=some (.slice u)) (hu:P.underlying u=some (.int .u8)) (hC:P.cellsOf u=1)
  (h:DataW.trod enc P W 0 (fun _=>true) true f e [c]=some x):∃ (A:Option Addr) (cap:Nat) (bs:List UInt8),c = .slice A bs.length cap∧aH W A (B8 bs)∧bs.length≤cap:=by
 rcases Go.Deep.open_slice he h with ⟨h0,_⟩ | ⟨a,len,cap,m,n,D,Pl,hcs,_,hl,hm,hmm,_,hi⟩
 ·simp only [List.cons.injEq,and_true] at h0
  exact ⟨none,0,[],h0,(fun i u hu=>by simp [B8] at hu),Nat.le_refl _⟩
 ·simp only [List.cons.injEq,and_true] at hcs
  simp only [if_true] at hmm
  have hx:∀ i,i < len→∃ y:UInt8,W.cell? (a.add i)=some (.int .u8 ((y.toNat:Nat):Int)):=by
   intro i hin
   obtain ⟨cs',hc,ht⟩:=hi i om
   rw [hC,Nat.mul_one] at hc
   obtain ⟨_,hcl,hat⟩:=World.cells?_some hc
   match cs',hcl with
   | [y],_ =>
     obtain ⟨z,hz,_,wz⟩:=DataW.trod_int hu ht
     have h0:=hat 0 om
     rw [show (a.add i).add 0=a.add i by unfold Addr.add; simp] at h0
     simp only [List.cons.injEq,and_true] at hz
     obtain ⟨h1,h2⟩:=TW wz
     refine ⟨UInt8.ofNat z.toNat,?_⟩
     have h4:z.toNat % 256=z.toNat:=Nat.mod_eq_of_lt om
     have h3:(((UInt8.ofNat z.toNat).toNat:Nat):Int)=z:=by rw [UInt8.toNat_ofNat',show (2 ^ 8:Nat)=256 from rfl,h4]; omega
     rw [h0,hz,h3]
     rfl
  rcases Nat.eq_zero_or_pos len with rfl | hn
  ·exact ⟨_,cap,[],hcs,(fun i u hu=>by simp [B8] at hu),Nat.zero_le _⟩
  ·obtain ⟨y0,h0⟩:=hx 0 hn
   rw [show a.add 0=a by unfold Addr.add; simp] at h0
   obtain ⟨b,o,s⟩:=a
   have hs:=Ko h0
   simp only at hs
   subst hs
   obtain ⟨g,hg⟩:=Go.Deep.choose_lt hx
   have hlen:((List.range len).map g).length=len:=by simp
   refine ⟨some ⟨b,o,none⟩,cap,(List.range len).map g,by rw [hlen]; exact hcs,fun i v hv=>?_,by rw [hlen]; exact hl⟩
   have hin:i < len:=by
    have:=(List.getElem?_eq_some_iff.1 hv).1
    simpa [B8] using this
   have h1:=hg i hin
   rw [Eb] at h1
   refine ⟨b,o,rfl,Kp h0,?_⟩
   rw [h1,← hv]
   simp [B8,hin]
end
end
section
open Go.ChangeShapes Go.WideShapes Go.ChangeAt Go.RowKit
section
variable {H : Type} {enc : TypeId × Value → H} {P : Program} {W : World}
theorem Kr {e u:TypeId} {base:Nat} {v:Value} {d:DataW H} {p:List MemPlace} (he:P.underlying e=some (.slice u)) (hu:P.underlying u=some (.int .u8)) (hC:P.cellsOf u=1) (hv:Value.okWide P W .any base e v)
  (h:DataW.Trod enc P W 0 (fun _=>true) true e v d p):∃ (A:Option Addr) (cap:Nat) (bs:List UInt8),v = .slice A bs.length cap∧aH W A (B8 bs)∧bs.length≤cap:=by
 obtain ⟨A,n,cap,rfl⟩:=okWide_slice he hv
 obtain ⟨f,hf⟩:=h
 exact Uh he hu hC (by simpa [Value.cells] using hf)
end
end
end Go.Proofs.YtdflaaiondmjdaaGreatDoor
