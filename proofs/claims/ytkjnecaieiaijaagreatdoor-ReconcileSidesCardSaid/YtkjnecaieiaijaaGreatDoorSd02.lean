/- Part 2 of a proof: what its row uses. -/
import Derived.Test.YtkjnecaieiaijaaGreatDoorSd01
set_option maxRecDepth 100000
set_option maxHeartbeats 1000000
namespace Go.Proofs.YtkjnecaieiaijaaGreatDoor
open Go.RowKit
variable {H:List Nat}{P:Program}{Q:Exit->Act->World->Prop}{S:List Nat}{a:Act}{base:Nat}{bc:Nat}{bh:Nat}{bk:Nat}{blk:Γ}{br:Nat}{bt:Nat}{bw:Nat}{chk:Nat}{e:Υ}{fn:Func}{i:Nat}{key:Γ}{l:List Bool}{n:Nat}{o:Oper}{ops:Array Oper}{p:Tmp}{seed:Nat}{sz:Nat}{t:Nat}{ty:Υ}{w:Λ}{w':Λ}{w1:Λ}{wr:Λ}{xs:Ξ}
theorem Co{t:Υ}(h:fn.results = #[.cell p ty])(a:Array Value)(w g cs d)(i:a.getD p undef = .pointer (qa g))(b:At w g t cs)(k:P.underlying ty=some d)(e:(match d with | .struct _ | .array _ _=>true | _=>false)=true)(hi:(P.info? ty).map (·.size)=some cs.length):(results fn a).run P w = .ok (.agg cs.toArray) w:=by
 have f:=Ea (P:=P) w g 0 ty cs d (λj v l=>by rw [K7,b.cell]; exact l) k e hi
 have c:a[p]?.getD undef = .pointer (some ⟨g,0,none⟩):=by simpa using i
 simp [results,h,c,asAddr,f]
theorem Ai{rest:List Oper}(b:o.guard=none)(t parts)(c:o.op = .build t parts)(v)(d:P.built t (parts.map λ(i,x)=>(i,a.eval x)).toList=some v)(h:wpList P ops Q rest (a.put o.dst (.agg v)) w):wpList P ops Q (o::rest) a w :=
 wpList_build b t parts c (by grind) (by grind)
def Aj:List Value:=[.int .u32 1116352408,.int .u32 1899447441,.int .u32 3049323471,.int .u32 3921009573,.int .u32 961987163,.int .u32 1508970993,.int .u32 2453635748,.int .u32 2870763221,.int .u32 3624381080,.int .u32 310598401,.int .u32 607225278,.int .u32 1426881987,.int .u32 1925078388,.int .u32 2162078206,.int .u32 2614888103,.int .u32 3248222580,.int .u32 3835390401,.int .u32 4022224774,.int .u32 264347078,.int .u32 604807628,.int .u32 770255983,.int .u32 1249150122,.int .u32 1555081692,.int .u32 1996064986,.int .u32 2554220882,.int .u32 2821834349,.int .u32 2952996808,.int .u32 3210313671,.int .u32 3336571891,.int .u32 3584528711,.int .u32 113926993,.int .u32 338241895,.int .u32 666307205,.int .u32 773529912,.int .u32 1294757372,.int .u32 1396182291,.int .u32 1695183700,.int .u32 1986661051,.int .u32 2177026350,.int .u32 2456956037,.int .u32 2730485921,.int .u32 2820302411,.int .u32 3259730800,.int .u32 3345764771,.int .u32 3516065817,.int .u32 3600352804,.int .u32 4094571909,.int .u32 275423344,.int .u32 430227734,.int .u32 506948616,.int .u32 659060556,.int .u32 883997877,.int .u32 958139571,.int .u32 1322822218,.int .u32 1537002063,.int .u32 1747873779,.int .u32 1955562222,.int .u32 2024104815,.int .u32 2227730452,.int .u32 2361852424,.int .u32 2428436474,.int .u32 2756734187,.int .u32 3204031479,.int .u32 3329325298]
theorem JK:Aj=U4 pF:=by kernel_rfl
theorem Ru:∀ v∈Aj,v.oneCell'=true:=by
 intro v a
 rw [JK] at a
 obtain ⟨x,_,rfl⟩:=Y9.1 a
 rfl
theorem Rv(w):Calls Tryz.prog 159 #[] w λe w'=>e = .returned (.agg (U4 pF).toArray)/\Fr [] w w':=by
 go_enter Tryz.func159,Tryz.ntmps159
 rw [<- JK]
 go_wp2_with (first
  | (refine Ai rfl 224 _ rfl Aj.toArray ?hv ?_)
  | (refine rV rfl 224 (.tmp 0) (.tmp 1) rfl rfl 224 _ Aj rfl rfl ?h1 Ru ?_))
 case hv=>kernel_rfl
 case h1=>kernel_rfl
 intro w1 hf1 ha1
 go_wp2_with fail
 exact AEf (Co (t:=224) rfl _ _ w.heap.size Aj _ rfl ha1 Tryz.underlying224 rfl J) rfl ⟨rfl,hf1⟩
theorem sO(x n:Nat)(k w)(hk:k=(n:Int))(hx:dS x)(h1:1<=n)(h2:n<=31):
  Calls Tryz.prog 160 #[.int .u32 (x:Int),C k] w λe w'=>e = .returned (.int .u32 (rotr n x:Int))/\∃ m,w'=w.drewN m:=by
 subst hk
 have HX:=D3 hx
 clear hx
 have hs:IntKind.i64.wrap (32 - (n:Int))=32 - (n:Int):=Z3 _ U
 have hn0:(0:Int)<=32 - (n:Int):=U
 have hnn:(32 - (n:Int)).toNat=32 - n:=U
 go_enter Tryz.func160,Tryz.ntmps160
 go_wp2_with fail
 go_quiet (fail)
 go_wp2_with fail
 go_ret
 refine ⟨jK ?_,_,rfl⟩
 rw [Jv,EO,AGd _ _ (HX.out.div _) (z8 _ (by decide))]
 rfl
theorem Rw(A cp xs w)(hrow:aI w A (B8 xs))(hlen:xs.length<=68719476736):
  Calls Tryz.prog 118 #[.slice A xs.length cp] w (xY (xs++pG xs.length) w):=by
 obtain ⟨n,hn⟩:∃ n,n=xs.length:=⟨_,rfl⟩
 rw [<- hn] at hlen ⊢
 have H:=D3 (And.intro hrow hn)
 obtain ⟨z,hz⟩:∃ z,z=(119 - n % 64) % 64:=⟨_,rfl⟩
 have hz64:z < 64:=U
 have hzz:(n+1+z) % 64=56:=U
 have hzu:∀ j,j < z->(n+1+j) % 64≠56:=U
 have HZ:=D3 (And.intro hz (And.intro hzz hzu))
 clear hz hzz hzu hrow hn
 go_enter Tryz.func118,Tryz.ntmps118
 go_wp2_with (first
  | (at_builtin; refine xR gS rfl (.tmp 6) (.tmp 7) rfl w.heap.size _ _ (B8 []) rfl (Z8 _ #[] 0 (J7 _) (G6 _) rfl) A n cp (B8 xs) rfl (by rw [eX,<- H.out.2,X1]) (eN.gJ (H.out.1.eW ((Fr.refl _ _).alloc _))) (iP _) (by omega) (by simp) ?_; intro v1 w1 hown1 hg1 hb1; rw [H.out.2] at hown1; obtain ⟨A1,c1,cs1,HC1,hc1,rfl,HB1⟩:=BR.push (cs:=[]) (xs:=xs) ⟨(Fr.refl [] w).alloc _,Z8 _ #[] 0 (J7 _) (G6 _) rfl⟩ hown1 hg1; have hsz1:=HB1.out.size; have hl1:cs1.length<=n:=(by rw [HC1.out,U6,<- H.out.2]; exact J7 _); clear hown1 hg1 hb1)
  | (at_builtin; refine oL gS rfl (.tmp 8) (.tmp 9) rfl w.heap.size _ _ (B8 cs1) (.int .u8 128) rfl HB1.out.own rfl rfl (by omega) (by omega) 5 ?_; intro v2 w2 hown2 hg2 hb2; obtain ⟨A2,c2,cs2,HC2,hc2,rfl,HB2⟩:=BR.push (xs:=[128]) HB1.out hown2 hg2; clear hown2 hg2 hb2))
 have HC2':Hid (cs2=xs++128::List.replicate 0 0):=by show cs2=_; rw [HC2.out,HC1.out]; rfl
 have hcl2:cs2.length<=n+0+1/\n+0+1<=cs2.length:=by rw [HC2'.out,H.out.2]; simp
 clear HC2 HC1 HB1 hc1 hl1
 go_loopw [3] (λv wx=>∃ (j:Nat) (A':Δ) (c':Nat) (cs:Γ),j<=z/\v = .slice A' cs.length c'/\cs.length<=n+j+1/\n+j+1<=cs.length/\Hid (cs=xs++128::List.replicate j 0)/\Hid (BR w wx v cs)) (λv _=>match v with | .slice _ k _=>n+65 - k | _=>0)
 case atStart=>exact ⟨0,_,_,cs2,by omega,rfl,hcl2.1,hcl2.2,HC2',HB2⟩
 case round =>
  obtain ⟨j,A',c',cs,hj,rfl,hcl,hcl',HC,HB⟩:=hrel
  have hsz:=HB.out.size
  obtain ⟨r,hr⟩:∃ r,r=cs.length % 64:=⟨_,rfl⟩
  have er:(cs.length:Int) % 64=(r:Int):=U
  by_cases hlt:j < z
  .have hr56:r≠56:=by have:=HZ.out.2.2 j hlt; rw [hr]; intro e; apply this; rw [<- e]; congr 1; omega
   have hrb:((r:Int) != 56)=true:=by simp; omega
   clear hr hr56
   go_wp2_with (at_builtin; refine oL gS rfl (.tmp 15) (.tmp 16) rfl w.heap.size _ _ (B8 cs) (.int .u8 0) rfl HB.out.own rfl rfl (by omega) (by omega) 5 ?_; intro v2 w2 hown2 hg2 hb2; obtain ⟨A3,c3,cs3,HC3,hc3,rfl,HB3⟩:=BR.push (xs:=[0]) HB.out hown2 hg2; clear hown2 hg2 hb2)
   have h3:cs3.length=cs.length+1:=by rw [HC3.out]; simp
   have HC4:Hid (cs3=xs++128::List.replicate (j+1) 0):=by
    show cs3=_
    rw [HC3.out,HC.out,AD2,D1,Z2]
   go_roundw
   case rel=>exact ⟨j+1,A3,c3,cs3,by omega,rfl,by omega,by omega,HC4,HB3⟩
   case measure=>show n+65 - cs3.length < n+65 - cs.length; omega
  .obtain rfl:j=z:=U
   have hr56:r=56:=by have:=HZ.out.2.1; rw [hr]; rw [<- this]; congr 1; omega
   have hrb:((r:Int) != 56)=false:=by rw [hr56]; rfl
   clear hr hr56
   obtain ⟨m8,hm8⟩:∃ m8,m8=n*8:=⟨_,rfl⟩
   have em8:IntKind.u64.wrap ((n:Int)*8)=(m8:Int):=by rw [X0,hm8]; omega
   have en:IntKind.u64.wrap (n:Int)=(n:Int):=by rw [X0]; omega
   have HM8:=D3 hm8
   have hm8b:m8<=4398046511104:=U
   clear hm8
   go_wp2_with fail
   clear em8 en er hrb
   go_loopw [3,5] (λv s wx=>∃ (i:Nat) (t:Int) (A':Δ) (c':Nat) (ds:Γ),i<=8/\s=Value.int .i64 t/\t+(i:Int)<=7/\7<=t+(i:Int)/\v = .slice A' ds.length c'/\ds.length<=n+65+i/\Hid (ds=cs++(List.range i).map λq=>fV m8 (7 - q))/\Hid (BR w wx v ds)) (λ_ s _=>(intOf s+1).toNat)
   case atStart=>exact ⟨0,7,_,_,cs,by omega,rfl,by omega,by omega,rfl,by omega,by simp [Hid],HB⟩
   case round =>
    obtain ⟨i,t,A1,c1,ds,hi,rfl,ht1,ht2,rfl,hdl,HD,HB1⟩:=hrel
    have hsz1:=HB1.out.size
    by_cases hlt2:i < 8
    .obtain ⟨sh,rfl⟩:∃ sh:Nat,t=(sh:Int):=⟨t.toNat,U⟩
     obtain ⟨y,HY⟩:∃ y:UInt8,Hid (y=fV m8 (7 - i)):=⟨_,rfl⟩
     have hsh:sh<=7:=U
     obtain ⟨s8,hs8⟩:∃ s8:Nat,s8=8*sh:=⟨_,rfl⟩
     have e8:(8:Int)*(sh:Int)=(s8:Int):=U
     have hy:IntKind.u8.wrap ((m8:Int) / 2 ^ s8)=(y.toNat:Int):=by
      rw [HY.out,hs8,show sh=7 - i by omega]
      exact qG m8 (7 - i)
     have HS8:=D3 hs8
     have hs8b:s8<=56:=U
     clear hs8
     go_wp2_with (at_builtin; refine oL gS rfl (.tmp 26) (.tmp 32) rfl w.heap.size _ _ (B8 ds) (.int .u8 (y.toNat:Int)) rfl HB1.out.own rfl rfl (by omega) (by omega) 5 ?_; intro v2 w2 hown2 hg2 hb2; obtain ⟨A3,c3,cs3,HC3,hc3,rfl,HB3⟩:=BR.push (xs:=[y]) HB1.out hown2 hg2; clear hown2 hg2 hb2)
     have h3:cs3.length=ds.length+1:=by rw [HC3.out]; simp
     have HC4:Hid (cs3=cs++(List.range (i+1)).map λq=>fV m8 (7 - q)):=by
      show cs3=_
      rw [HC3.out,HD.out,AAi,U1,D1,HY.out]
      rfl
     go_roundw
     case rel=>exact ⟨i+1,(sh:Int) - 1,A3,c3,cs3,by omega,by go_num,by omega,by omega,rfl,by omega,HC4,HB3⟩
     case measure=>simp [intOf] <;> omega
    .obtain rfl:i=8:=U
     obtain rfl:t = -1:=U
     have HPAD:Hid (xs++pG n=ds):=by
      show _=ds
      rw [HD.out,HC.out,HM8.out,HZ.out.1,D1]
      rfl
     go_wp2_with fail
     go_ret
     exact IV ds HPAD.out ⟨_,_,rfl,HB1.out.fr,HB1.out.own⟩
structure RB (w wr:World) (bh br bk bw:Nat) (H:List Nat) (blk:List UInt8) (t:Nat):Prop where
 fr:Fr [] w wr
 h:At wr bh 186 (U4 H)
 r:∃ l,l.length=8 /\ At wr br 186 l
 k:At wr bk 224 (U4 pF)
 sched:At wr bw 224 (lI blk t)
 lo:w.heap.size <= bh
 o1:bh < br
 o2:br < bk
 o3:bk < bw
theorem RB.drewN(h:RB w wr bh br bk bw H blk t)(n):RB w (wr.drewN n) bh br bk bw H blk t :=
 ⟨h.fr.drewN n,h.h,h.r,h.k,h.sched,h.lo,h.o1,h.o2,h.o3⟩
theorem RB.drew(h:RB w wr bh br bk bw H blk t):RB w wr.drew bh br bk bw H blk t :=
 ⟨h.fr.drew,h.h,h.r,h.k,h.sched,h.lo,h.o1,h.o2,h.o3⟩
theorem RB.Iw(h:RB w wr bh br bk bw H blk t)(a:Fr S wr w1)(c:∀ x∈S,bw < x):RB w w1 bh br bk bw H blk t:=by
 have e:=h.lo
 have f:=h.o1
 have g:=h.o2
 have i:=h.o3
 have b:∀ x,x<=bw->x∉S:=λx d k=>by have:=c x k; omega
 obtain ⟨l,j,m⟩:=h.r
 exact ⟨h.fr.trans' a (λx d=>.inr (by have:=c x d; omega)),h.h.fr a (b _ U),⟨l,j,m.fr a (b _ U)⟩,h.k.fr a (b _ U),h.sched.fr a (b _ U),e,f,g,i⟩
theorem RB.PM(h:RB w wr bh br bk bw H blk t)(g:t < 64)(x)(i:x=if t < 16 then word blk t else xV (nP blk t) t):
  RB w (wr.setCell ⟨bw,t,none⟩ (.int .u32 (x:Int))) bh br bk bw H blk (t+1):=by
 have a:=h.lo
 have b:=h.o1
 have c:=h.o2
 have d:=h.o3
 obtain ⟨l,e,f⟩:=h.r
 refine ⟨h.fr.setCell (.inr (show w.heap.size<=bw by omega)) _,h.h.far (show bh≠bw by omega) _,⟨l,e,f.far (show br≠bw by omega) _⟩,h.k.far (show bk≠bw by omega) _,?_,a,b,c,d⟩
 rw [<- EP blk t g x i]
 exact h.sched.set t _
theorem JL(a t)(h:t < 64):(lI a t)[t]?=some (.int .u32 0):=by
 unfold lI
 rw [T8 (by rw [kC,sB]; exact J7 _),kC,sB,W6,s9,P1 U]
theorem yJ(l):∀ v∈U4 l,v.oneCell'=true:=by
 intro v a
 obtain ⟨x,_,rfl⟩:=Y9.1 a
 rfl
theorem Rx(A B):List.zipWith fG A B=List.zipWith fG B A:=by
 grind [List.zipWith_comm,fG]
set_option maxHeartbeats 4000000 in
theorem Ry(g o cap)(H:List Nat)(blk:Γ)(w)(hH:H.length=8)(hW:∀ x∈H,dS x)(hbl:blk.length=64)(hrow:aI w (some ⟨g,o,none⟩) (B8 blk)):
  Calls Tryz.prog 119 #[.agg (U4 H).toArray,.slice (some ⟨g,o,none⟩) 64 cap] w λe w'=>e = .returned (.agg (U4 (lO H blk)).toArray)/\Fr [] w w':=by
 have HH:=D3 (And.intro hH hW)
 have HR:=D3 (And.intro hbl hrow)
 clear hH hW hbl hrow
 obtain ⟨UH,HUH⟩:∃ UH,Hid (UH=U4 H):=⟨_,rfl⟩
 rw [<- HUH.out]
 obtain ⟨UK,HUK⟩:∃ UK,Hid (UK=U4 pF):=⟨_,rfl⟩
 obtain ⟨UZ,HUZ⟩:∃ UZ:Ξ,Hid (UZ=List.replicate 64 (.int .u32 0)):=⟨_,rfl⟩
 go_enter Tryz.func119,Tryz.ntmps119
 go_wp2_with fail
 refine (Rv _).mono ?_
 rintro e w1 ⟨rfl,hf1⟩
 rw [<- HUK.out]
 go_wp2_with (first
  | (refine Ai rfl 224 _ rfl UZ.toArray (by rw [HUZ.out]; kernel_rfl) ?_)
  | (refine rV rfl 224 (.tmp 5) (.tmp 22) rfl rfl 224 _ UK rfl (by rw [HUK.out]; rfl) (by rw [HUK.out]; kernel_rfl) (by rw [HUK.out]; exact yJ _) ?_; intro w2 hf2 ha2)
  | (refine rV rfl 224 (.tmp 6) (.tmp 23) rfl rfl 224 _ UZ rfl (by rw [HUZ.out]; rfl) (by rw [HUZ.out]; kernel_rfl) (by rw [HUZ.out]; decide) ?_; intro w3 hf3 ha3))
 obtain ⟨bh,hbh⟩:∃ bh,bh=w.heap.size:=⟨_,rfl⟩
 obtain ⟨br,hbr⟩:∃ br,br=w.heap.size+1:=⟨_,rfl⟩
 obtain ⟨bk,hbk⟩:∃ bk,bk=w1.heap.size:=⟨_,rfl⟩
 obtain ⟨bw,hbw⟩:∃ bw,bw=w2.heap.size:=⟨_,rfl⟩
 have HB0:Hid (RB w w3 bh br bk bw H blk 0):=by
  have hs1:=hf1.size
  simp at hs1
  have hlk:bk < w2.heap.size:=by rw [hbk]; exact ha2.lt
  have f0:Fr [] w w1:=(((Fr.refl [] w).alloc _).alloc _).trans hf1
  refine ⟨(f0.trans hf2).trans hf3,?_,⟨List.replicate 8 (.int .u32 0),rfl,?_⟩,?_,?_,U,U,U,U⟩
  .have a1:At (w.alloc (.cells UH.toArray 186)) bh 186 UH:=by rw [hbh]; exact At.new _ _ _
   rw [<- HUH.out]
   exact (((a1.alloc _).fr hf1 si).fr hf2 si).fr hf3 si
  .have a1:At ((w.alloc (.cells UH.toArray 186)).alloc (.cells (List.replicate 8 (.int .u32 0)).toArray 186)) br 186 (List.replicate 8 (.int .u32 0)):=by
    have:=At.new (w.alloc (.cells UH.toArray 186)) 186 (List.replicate 8 (.int .u32 0))
    rw [show br=(w.alloc (.cells UH.toArray 186)).heap.size by rw [hbr]; simp]
    exact this
   exact ((a1.fr hf1 si).fr hf2 si).fr hf3 si
  .rw [<- HUK.out,hbk]
   exact ha2.fr hf3 si
  .rw [hbw]
   have e:lI blk 0=UZ:=by rw [HUZ.out]; rfl
   rw [e]
   exact ha3
 rw [<- hbr,<- hbh,<- hbk,<- hbw]
 clear hf1 hf2 hf3 ha2 ha3 hbh hbr hbk hbw
 go_loopw [7] (λi wx=>∃ t:Nat,t<=16/\i = .int .i64 t/\Hid (RB w wx bh br bk bw H blk t)) (λi _=>16 - (intOf i).toNat)
 case atStart=>exact ⟨0,by omega,rfl,HB0⟩
 case round =>
  obtain ⟨t,ht,rfl,HL⟩:=hrel
  by_cases h16:t < 16
  .obtain ⟨⟨v0,e0,c0,k0⟩,⟨v1,e1,c1,k1⟩,⟨v2,e2,c2,k2⟩,⟨v3,e3,c3,k3⟩⟩:(∃ v:UInt8,blk.getD (4*t) 0=v/\wr.cell? ⟨g,o+4*t,none⟩=some (.int .u8 (v.toNat:Int))/\g < w.heap.size)/\(∃ v:UInt8,blk.getD (4*t+1) 0=v/\wr.cell? ⟨g,o+(4*t+1),none⟩=some (.int .u8 (v.toNat:Int))/\g < w.heap.size)/\(∃ v:UInt8,blk.getD (4*t+2) 0=v/\wr.cell? ⟨g,o+(4*t+2),none⟩=some (.int .u8 (v.toNat:Int))/\g < w.heap.size)/\(∃ v:UInt8,blk.getD (4*t+3) 0=v/\wr.cell? ⟨g,o+(4*t+3),none⟩=some (.int .u8 (v.toNat:Int))/\g < w.heap.size):=by
    have key:∀ i,i < 64->∃ v:UInt8,blk.getD i 0=v/\wr.cell? ⟨g,o+i,none⟩=some (.int .u8 (v.toNat:Int))/\g < w.heap.size:=by
     intro i hi
     have hg:=E1 (l:=blk) (i:=i) (by rw [HR.out.1]; exact hi)
     obtain ⟨g',o',hA,hg',hc⟩:=HR.out.2 i _ (uN blk i _ hg)
     injection hA with hA
     injection hA with a1 a2
     subst a1 a2
     refine ⟨_,by rw [U5,hg,Option.getD_some],?_,hg'⟩
     rw [HL.out.fr.cell (p:=⟨g,o+i,none⟩) hg' si]
     exact hc
    exact ⟨key (4*t) U,key (4*t+1) U,key (4*t+2) U,key (4*t+3) U⟩
   have q0:=HL.out.lo
   have q1:=HL.out.o1
   have q2:=HL.out.o2
   have q3:=HL.out.o3
   have n0:g≠bw:=U
   have n1:bw≠g:=U
   have wc:wr.cell? ⟨bw,t,none⟩=some (.int .u32 0):=by rw [HL.out.sched.cell]; exact JL blk t U
   have wf:=HL.out.sched.frozen t
   obtain ⟨x,HX⟩:∃ x,Hid (x=word blk t):=⟨_,rfl⟩
   have xw:bits BinOp.or IntKind.u32 (bits BinOp.or IntKind.u32 (bits BinOp.or IntKind.u32 (IntKind.u32.wrap (IntKind.u32.wrap (v0.toNat:Int)*16777216)) (IntKind.u32.wrap (IntKind.u32.wrap (v1.toNat:Int)*65536))) (IntKind.u32.wrap (IntKind.u32.wrap (v2.toNat:Int)*256))) (IntKind.u32.wrap (v3.toNat:Int))=(x:Int):=by
    rw [Jw,HX.out]
    unfold word
    rw [e0,e1,e2,e3]
   have m0:IntKind.i64.wrap (4*(t:Int))=4*(t:Int):=Z3 _ U
   have m1:IntKind.i64.wrap (4*(t:Int)+1)=4*(t:Int)+1:=Z3 _ U
   have m2:IntKind.i64.wrap (4*(t:Int)+2)=4*(t:Int)+2:=Z3 _ U
   have m3:IntKind.i64.wrap (4*(t:Int)+3)=4*(t:Int)+3:=Z3 _ U
   have z0:(0:Int)<=4*(t:Int):=U
   have z1:(0:Int)<=4*(t:Int)+1:=U
   have z2:(0:Int)<=4*(t:Int)+2:=U
   have z3:(0:Int)<=4*(t:Int)+3:=U
   have y0:4*(t:Int) < 64:=U
   have y1:4*(t:Int)+1 < 64:=U
   have y2:4*(t:Int)+2 < 64:=U
   have y3:4*(t:Int)+3 < 64:=U
   have tn0:(4*(t:Int)).toNat=4*t:=U
   have tn1:(4*(t:Int)+1).toNat=4*t+1:=U
   have tn2:(4*(t:Int)+2).toNat=4*t+2:=U
   have tn3:(4*(t:Int)+3).toNat=4*t+3:=U
   have tI:(t:Int) < 64:=U
   have HN:Hid (RB w (wr.setCell ⟨bw,t,none⟩ (.int .u32 (x:Int))).drew bh br bk bw H blk (t+1)):=(HL.out.PM U x (by rw [P1 h16]; exact HX.out)).drew
   clear e0 e1 e2 e3 k0 k1 k2 k3
   go_wp2_with fail
   go_region_held3 (λw'=>w'.cell? ⟨g,o+4*t,none⟩=some (.int .u8 (v0.toNat:Int))/\w'.cell? ⟨g,o+(4*t+1),none⟩=some (.int .u8 (v1.toNat:Int))/\w'.cell? ⟨g,o+(4*t+2),none⟩=some (.int .u8 (v2.toNat:Int))/\w'.cell? ⟨g,o+(4*t+3),none⟩=some (.int .u8 (v3.toNat:Int))) (go_keep) (first | fail)
   generalize (wr.setCell ⟨bw,t,none⟩ (.int .u32 (x:Int))).drew=W1 at HN ⊢
   rename_i hHeld
   clear hHeld xw m0 m1 m2 m3 tn0 tn1 tn2 tn3 c0 c1 c2 c3 wc wf HL
   go_wp2_with fail
   go_roundw
   case rel =>
    first
     | exact ⟨t+1,by omega,by go_num,HN⟩
     | ((repeat apply Exists.intro); exact ⟨⟨t+1,by omega,by go_num,HN⟩,rfl⟩)
   case measure=>simp [intOf] <;> omega
  .obtain rfl:t=16:=U
   go_wp2_with fail
   obtain ⟨wa,HWA⟩:∃ wa,Hid (wa=wr):=⟨_,rfl⟩
   rw [<- HWA.out] at HL ⊢
   clear HWA
   go_loopw [8] (λi wx=>∃ t:Nat,16<=t/\t<=64/\i = .int .i64 t/\Hid (RB w wx bh br bk bw H blk t)) (λi _=>64 - (intOf i).toNat)
   case atStart=>exact ⟨16,by omega,by omega,rfl,HL⟩
   case round =>
    obtain ⟨t,ht16,ht,rfl,HL⟩:=hrel
    by_cases hlt:t < 64
    .obtain ⟨x2,f2,w2,d2⟩:=sK blk t (t - 2) U
     obtain ⟨x7,f7,w7,d7⟩:=sK blk t (t - 7) U
     obtain ⟨x15,f15,w15,d15⟩:=sK blk t (t - 15) U
     obtain ⟨x16,f16,w16,d16⟩:=sK blk t (t - 16) U
     have HCC:Hid (∀ W,RB w W bh br bk bw H blk t->W.cell? ⟨bw,t - 2,none⟩=some (.int .u32 (x2:Int))/\W.cell? ⟨bw,t - 7,none⟩=some (.int .u32 (x7:Int))/\W.cell? ⟨bw,t - 15,none⟩=some (.int .u32 (x15:Int))/\W.cell? ⟨bw,t - 16,none⟩=some (.int .u32 (x16:Int))/\W.cell? ⟨bw,t,none⟩=some (.int .u32 0)/\W.frozen? ⟨bw,t,none⟩=false):=λW hW =>
      ⟨by rw [hW.sched.cell]; exact d2,by rw [hW.sched.cell]; exact d7,by rw [hW.sched.cell]; exact d15,by rw [hW.sched.cell]; exact d16,by rw [hW.sched.cell]; exact JL blk t hlt,hW.sched.frozen t⟩
     have HE:=D3 (And.intro f2 (And.intro f7 (And.intro f15 f16)))
     have HW:=D3 (And.intro w2 (And.intro w7 (And.intro w15 w16)))
     obtain ⟨s1,q1,HQ1⟩:∃ s1:Nat,bits BinOp.xor IntKind.u32 (bits BinOp.xor IntKind.u32 (rotr 17 x2:Int) (rotr 19 x2:Int)) ((x2:Int) / 1024)=(s1:Int)/\Hid (s1=rZ x2):=⟨_,Jx x2 w2,rfl⟩
     obtain ⟨s0,q0,HQ0⟩:∃ s0:Nat,bits BinOp.xor IntKind.u32 (bits BinOp.xor IntKind.u32 (rotr 7 x15:Int) (rotr 18 x15:Int)) ((x15:Int) / 8)=(s0:Int)/\Hid (s0=tM x15):=⟨_,Jy x15 w15,rfl⟩
     obtain ⟨y1,p1,HP1⟩:∃ y:Nat,IntKind.u32.wrap ((s1:Int)+(x7:Int))=(y:Int)/\Hid (y=fG s1 x7):=⟨_,nQ _ _,rfl⟩
     obtain ⟨y2,p2,HP2⟩:∃ y:Nat,IntKind.u32.wrap ((y1:Int)+(s0:Int))=(y:Int)/\Hid (y=fG y1 s0):=⟨_,nQ _ _,rfl⟩
     obtain ⟨y3,p3,HP3⟩:∃ y:Nat,IntKind.u32.wrap ((y2:Int)+(x16:Int))=(y:Int)/\Hid (y=fG y2 x16):=⟨_,nQ _ _,rfl⟩
     have HX:Hid (y3=if t < 16 then word blk t else xV (nP blk t) t):=by
      show y3=_
      rw [P4 U,HP3.out,HP2.out,HP1.out,HQ1.out,HQ0.out]
      unfold xV
      rw [HE.out.1,HE.out.2.1,HE.out.2.2.1,HE.out.2.2.2]
     clear f2 f7 f15 f16 w2 w7 w15 w16 d2 d7 d15 d16
     obtain ⟨c2,c7,c15,c16,wc,wf⟩:=HCC.out wr HL.out
     have s2:(0:Int)<=(t:Int) - 2:=U
     have s15:(0:Int)<=(t:Int) - 15:=U
     have s7:(0:Int)<=(t:Int) - 7:=U
     have s16:(0:Int)<=(t:Int) - 16:=U
     have s2l:(t:Int) - 2 < 64:=U
     have s15l:(t:Int) - 15 < 64:=U
     have s7l:(t:Int) - 7 < 64:=U
     have s16l:(t:Int) - 16 < 64:=U
     have g2:(2:Int)<=(t:Int):=U
     have g2n:2<=t:=U
     have g15:(15:Int)<=(t:Int):=U
     have g15n:15<=t:=U
     have g7:(7:Int)<=(t:Int):=U
     have g7n:7<=t:=U
     have g16:(16:Int)<=(t:Int):=U
     have o7:t - 7≠t:=U
     have o7':t≠t - 7:=U
     have o16:t - 16≠t:=U
     have o16':t≠t - 16:=U
     have tI:(t:Int) < 64:=U
     have s2n:((t:Int) - 2).toNat=t - 2:=U
     have s7n:((t:Int) - 7).toNat=t - 7:=U
     have s15n:((t:Int) - 15).toNat=t - 15:=U
     have s16n:((t:Int) - 16).toNat=t - 16:=U
     have s2w:IntKind.i64.wrap ((t:Int) - 2)=(t:Int) - 2:=Z3 _ U
     have s7w:IntKind.i64.wrap ((t:Int) - 7)=(t:Int) - 7:=Z3 _ U
     have s15w:IntKind.i64.wrap ((t:Int) - 15)=(t:Int) - 15:=Z3 _ U
     have s16w:IntKind.i64.wrap ((t:Int) - 16)=(t:Int) - 16:=Z3 _ U
     go_wp2_with fail
     go_quiet ((first
      | (go_at_call 160; exact ABc (sO x15 7 _ _ rfl HW.out.2.2.1 (by decide) (by decide)))
      | (go_at_call 160; exact ABc (sO x15 18 _ _ rfl HW.out.2.2.1 (by decide) (by decide)))))
     obtain ⟨W1,HW1⟩:∃ W1,Hid (W1=wr.drewN nq):=⟨_,rfl⟩
     rw [<- HW1.out]
     have HL1:Hid (RB w W1 bh br bk bw H blk t):=by show RB w W1 bh br bk bw H blk t; rw [HW1.out]; exact HL.out.drewN _
     clear c2 c7 c15 c16 wc wf HL HW1
     obtain ⟨c2,c7,c15,c16,wc,wf⟩:=HCC.out W1 HL1.out
     go_wp2_with fail
     go_quiet ((first
      | (go_at_call 160; exact ABc (sO x2 17 _ _ rfl HW.out.1 (by decide) (by decide)))
      | (go_at_call 160; exact ABc (sO x2 19 _ _ rfl HW.out.1 (by decide) (by decide)))))
     obtain ⟨W2,HW2⟩:∃ W2,Hid (W2=W1.drewN nq):=⟨_,rfl⟩
     rw [<- HW2.out]
     have HL2:Hid (RB w W2 bh br bk bw H blk t):=by show RB w W2 bh br bk bw H blk t; rw [HW2.out]; exact HL1.out.drewN _
     clear c2 c7 c15 c16 wc wf HL1 HW2
     obtain ⟨c2,c7,c15,c16,wc,wf⟩:=HCC.out W2 HL2.out
     have HN:Hid (RB w (W2.setCell ⟨bw,t,none⟩ (.int .u32 (y3:Int))).drew bh br bk bw H blk (t+1)):=(HL2.out.PM hlt y3 HX.out).drew
     go_wp2_with fail
     go_still_tail 15,(by kernel_rfl)
     change wpList _ _ _ _ _ W2.drew
     go_wp2_with fail
     generalize (W2.setCell ⟨bw,t,none⟩ (.int .u32 (y3:Int))).drew=W3 at HN ⊢
     clear q1 q0 p1 p2 p3 s2n s7n s15n s16n s2w s7w s15w s16w c2 c7 c15 c16 wc wf HL2
     (try go_wp2_with fail)
     go_roundw
     case rel =>
      first
       | exact ⟨t+1,by omega,by omega,by go_num,HN⟩
       | ((repeat apply Exists.intro); exact ⟨⟨t+1,by omega,by omega,by go_num,HN⟩,rfl⟩)
     case measure=>simp [intOf] <;> omega
    .obtain rfl:t=64:=U
     have HC8:Hid (UH.length=8/\∀ v∈UH,v.oneCell'=true):=by
      show _/\_
      rw [HUH.out,kC]
      exact ⟨HH.out.1,yJ _⟩
     have hhw:=HL.out.h.lt
     have hww:=HL.out.sched.lt
     go_wp2_with (first
      | (refine qT rfl 186 (.tmp 2) rfl bh 0 rfl UH _ (λj v hj=>(by rw [K7,HL.out.h.cell,<- HUH.out]; exact hj)) p7 rfl (by rw [HC8.out.1]; kernel_rfl) ?_)
      | (refine rV rfl 186 (.tmp 11) (.tmp 116) rfl rfl 186 _ UH rfl (by rw [HC8.out.1]; rfl) (by rw [HC8.out.1]; kernel_rfl) HC8.out.2 ?_; intro w4 hf4 ha4))
     obtain ⟨bv,hbv⟩:∃ bv,bv=wr.heap.size:=⟨_,rfl⟩
     rw [<- hbv] at ha4 ⊢
     have hbb:bw < bv:=U
     have HV:Hid (RB w w4 bh br bk bw H blk 64/\At w4 bv 186 (U4 H)):=⟨HL.out.Iw hf4 si,by rw [<- HUH.out]; exact ha4⟩
     clear hf4 ha4 hbv HL hhw hww
     obtain ⟨s0,HS0⟩:∃ s0:S8,Hid (s0=S8.of H/\s0.Ok/\s0.list=H):=by
      refine ⟨_,rfl,S8.PG HH.out.2,?_⟩
      have hl:=HH.out.1
      match H,hl with
      | [h0,h1,h2,h3,h4,h5,h6,h7],_=>rfl
     obtain ⟨WS,HWS⟩:∃ WS,Hid (WS=nP blk 64):=⟨_,rfl⟩
     go_loopw [12] (λi wx=>∃ (t:Nat) (s:S8),t<=64/\i = .int .i64 t/\Hid (s=rounds WS s0 t/\s.Ok/\RB w wx bh br bk bw H blk 64/\At wx bv 186 (U4 s.list))) (λi _=>64 - (intOf i).toNat)
     case atStart=>exact ⟨0,s0,by omega,rfl,rfl,HS0.out.2.1,HV.out.1,by rw [HS0.out.2.2]; exact HV.out.2⟩
     case round =>
      obtain ⟨t,s,ht,rfl,HT⟩:=hrel
      obtain ⟨a,b',c,d,e,f,g',h⟩:=s
      by_cases hlt:t < 64
      .obtain ⟨kt,hkt⟩:=gk pF t (show t < pF.length from hlt)
       obtain ⟨wt,fw,ww,dw⟩:=sK blk 64 t hlt
       obtain ⟨s1,ef,ne,ng,ch,x1,x2,x3,t1,z0,ab,ac,bc,mx,mj,t2,na,nd,q1,q2,q3,q4,q5,q6,q7,q8,q9,q10,q11,q12,q13,q14,q15,q16,q17,q18,HQ⟩:=Jz a b' c d e f g' h kt wt HT.out.2.1
       have HO:Hid (dS e/\dS a):=⟨HT.out.2.1.e,HT.out.2.1.a⟩
       have HK:Hid (rounds WS s0 (t+1)=⟨na,a,b',c,nd,e,f,g'⟩/\S8.Ok ⟨na,a,b',c,nd,e,f,g'⟩):=by
        refine ⟨?_,by rw [<- HQ.out]; exact HT.out.2.1.wA _ _⟩
        rw [<- HQ.out]
        show (rounds WS s0 t).wA (pF.getD t 0) (WS.getD t 0)=_
        rw [<- HT.out.1,U5,hkt,HWS.out,fw]
        rfl
       have HCC:Hid (∀ W,RB w W bh br bk bw H blk 64->At W bv 186 (U4 [a,b',c,d,e,f,g',h])->W.cell? ⟨bk,t,none⟩=some (.int .u32 (kt:Int))/\W.cell? ⟨bw,t,none⟩=some (.int .u32 (wt:Int))/\W.cell? ⟨bv,0,none⟩=some (.int .u32 (a:Int))/\W.cell? ⟨bv,1,none⟩=some (.int .u32 (b':Int))/\W.cell? ⟨bv,2,none⟩=some (.int .u32 (c:Int))/\W.cell? ⟨bv,3,none⟩=some (.int .u32 (d:Int))/\W.cell? ⟨bv,4,none⟩=some (.int .u32 (e:Int))/\W.cell? ⟨bv,5,none⟩=some (.int .u32 (f:Int))/\W.cell? ⟨bv,6,none⟩=some (.int .u32 (g':Int))/\W.cell? ⟨bv,7,none⟩=some (.int .u32 (h:Int))):=λW hW hA =>
        ⟨by rw [hW.k.cell]; exact uY _ _ _ hkt,by rw [hW.sched.cell]; exact dw,by rw [hA.cell]; rfl,by rw [hA.cell]; rfl,by rw [hA.cell]; rfl,by rw [hA.cell]; rfl,by rw [hA.cell]; rfl,by rw [hA.cell]; rfl,by rw [hA.cell]; rfl,by rw [hA.cell]; rfl⟩
       clear hkt fw ww dw
       have htI:(t:Int) < 64:=U
       obtain ⟨ck,cw,j0,j1,j2,j3,j4,j5,j6,j7⟩:=HCC.out wr HT.out.2.2.1 HT.out.2.2.2
       go_wp2_with fail
       go_quiet (fail)
       obtain ⟨W1,HW1⟩:∃ W1,Hid (W1=wr.drewN nq):=⟨_,rfl⟩
       rw [<- HW1.out]
       have HL1:Hid (RB w W1 bh br bk bw H blk 64/\At W1 bv 186 (U4 [a,b',c,d,e,f,g',h])):=by show _/\_; rw [HW1.out]; exact ⟨HT.out.2.2.1.drewN _,HT.out.2.2.2⟩
       clear ck cw j0 j1 j2 j3 j4 j5 j6 j7 HW1
       obtain ⟨ck,cw,j0,j1,j2,j3,j4,j5,j6,j7⟩:=HCC.out W1 HL1.out.1 HL1.out.2
       go_wp2_with fail
       go_quiet ((first
        | (go_at_call 160; exact ABc (sO e 6 _ _ rfl HO.out.1 (by decide) (by decide)))
        | (go_at_call 160; exact ABc (sO e 11 _ _ rfl HO.out.1 (by decide) (by decide)))
        | (go_at_call 160; exact ABc (sO e 25 _ _ rfl HO.out.1 (by decide) (by decide)))))
       obtain ⟨W2,HW2⟩:∃ W2,Hid (W2=W1.drewN nq):=⟨_,rfl⟩
       rw [<- HW2.out]
       have HL2:Hid (RB w W2 bh br bk bw H blk 64/\At W2 bv 186 (U4 [a,b',c,d,e,f,g',h])):=by show _/\_; rw [HW2.out]; exact ⟨HL1.out.1.drewN _,HL1.out.2⟩
       clear ck cw j0 j1 j2 j3 j4 j5 j6 j7 HW2 HL1
       go_wp2_with fail
       refine (sO a 2 _ _ rfl HO.out.2 (by decide) (by decide)).mono ?_
       rintro e1 w5 ⟨rfl,m5,rfl⟩
       go_wp2_with fail
       refine (sO a 13 _ _ rfl HO.out.2 (by decide) (by decide)).mono ?_
       rintro e1 w6 ⟨rfl,m6,rfl⟩
       go_wp2_with fail
       refine (sO a 22 _ _ rfl HO.out.2 (by decide) (by decide)).mono ?_
       rintro e1 w7 ⟨rfl,m7,rfl⟩
       obtain ⟨W3,HW3⟩:∃ W3,Hid (W3=(W2.drewN (m5+m6)).drewN m7):=⟨_,rfl⟩
       have HL3:Hid (RB w W3 bh br bk bw H blk 64/\At W3 bv 186 (U4 [a,b',c,d,e,f,g',h])):=by show _/\_; rw [HW3.out]; exact ⟨(HL2.out.1.drewN _).drewN _,HL2.out.2⟩
       rw [<- HW3.out]
       clear HW3 HL2
       obtain ⟨ck,cw,j0,j1,j2,j3,j4,j5,j6,j7⟩:=HCC.out W3 HL3.out.1 HL3.out.2
       obtain ⟨L0,HL0⟩:∃ L0,Hid (L0=U4 [a,b',c,d,e,f,g',h]):=⟨_,rfl⟩
       obtain ⟨L2,HLL2⟩:∃ L2,Hid (L2=U4 [na,a,b',c,nd,e,f,g']):=⟨_,rfl⟩
       go_wp2_with (refine xT rfl 186 (.tmp 11) (.tmp 194) rfl bv 0 rfl 186 L0 [.int .u32 (na:Int),.int .u32 (a:Int),.int .u32 (b':Int),.int .u32 (c:Int),.int .u32 (nd:Int),.int .u32 (e:Int),.int .u32 (f:Int),.int .u32 (g':Int)] rfl (by rw [HL0.out]; exact HL3.out.2) (by rw [HL0.out]; exact J7 _) (by kernel_rfl) (yJ [na,a,b',c,nd,e,f,g']) L2 (by rw [HL0.out,HLL2.out]; rfl) ?_; intro w8 hf8 ha8)
       have HN:Hid (RB w w8 bh br bk bw H blk 64/\At w8 bv 186 (U4 [na,a,b',c,nd,e,f,g'])):=⟨HL3.out.1.Iw hf8 (by simp; omega),by rw [<- HLL2.out]; exact ha8⟩
       clear q1 q2 q3 q4 q5 q6 q7 q8 q9 q10 q11 q12 q13 q14 q15 q16 q17 q18 hf8 ha8 ck cw j0 j1 j2 j3 j4 j5 j6 j7 HL3 HCC
       go_wp2_with fail
       go_roundw
       case rel =>
        first
         | exact ⟨t+1,⟨na,a,b',c,nd,e,f,g'⟩,by omega,by go_num,HK.out.1.symm,HK.out.2,HN.out.1,HN.out.2⟩
         | ((repeat apply Exists.intro); exact ⟨⟨t+1,⟨na,a,b',c,nd,e,f,g'⟩,by omega,by go_num,HK.out.1.symm,HK.out.2,HN.out.1,HN.out.2⟩,rfl⟩)
       case measure=>simp [intOf] <;> omega
      .obtain rfl:t=64:=U
       obtain ⟨V,HVV⟩:∃ V,Hid (V=[a,b',c,d,e,f,g',h]):=⟨_,rfl⟩
       have HF:Hid (lO H blk=List.zipWith fG V H):=by
        show lO H blk=_
        unfold lO
        rw [<- HWS.out,<- HS0.out.1,<- HT.out.1,HVV.out,Rx]
        rfl
       have HV8:Hid (V.length=8):=by show V.length=8; rw [HVV.out]; rfl
       have HZ:Hid (RB w wr bh br bk bw H blk 64/\At wr bv 186 (U4 V)):=⟨HT.out.2.2.1,by rw [HVV.out]; exact HT.out.2.2.2⟩
       obtain ⟨wb,HWB⟩:∃ wb,Hid (wb=wr):=⟨_,rfl⟩
       rw [<- HWB.out] at HZ ⊢
       clear HT HWB HVV
       go_wp2_with fail
       go_loopw [21] (λi wx=>∃ k:Nat,k<=8/\i = .int .i64 k/\Hid (RB w wx bh br bk bw H blk 64/\At wx bv 186 (U4 ((List.zipWith fG V H).take k++V.drop k)++[]))) (λi _=>8 - (intOf i).toNat)
       case atStart=>exact ⟨0,by omega,rfl,by rw [X5,U6,AAb,O4]; exact HZ⟩
       case round =>
        obtain ⟨k,hk,rfl,HY⟩:=hrel
        by_cases hlt4:k < 8
        .obtain ⟨x,hx⟩:=gk H k (by rw [HH.out.1]; exact hlt4)
         obtain ⟨y,hy⟩:=gk V k (by rw [HV8.out]; exact hlt4)
         have HS:=D3 (JA V H [] k y x hy hx)
         have cy:wr.cell? ⟨bh,k,none⟩=some (.int .u32 (x:Int)):=by rw [HY.out.1.h.cell]; exact uY _ _ _ hx
         have cb:wr.cell? ⟨bv,k,none⟩=some (.int .u32 (y:Int)):=by rw [HY.out.2.cell]; exact JB V H [] k y x hy hx
         have fb:=HY.out.2.frozen k
         obtain ⟨sm,em,HSM⟩:∃ sm:Nat,IntKind.u32.wrap ((y:Int)+(x:Int))=(sm:Int)/\Hid (sm=fG y x):=⟨_,nQ y x,rfl⟩
         have hkI:(k:Int) < 8:=U
         have b0:=HY.out.1.o1
         have b1:=HY.out.1.o2
         have b2:=HY.out.1.o3
         have hne:bh≠bv:=U
         have hne':bv≠bh:=U
         have HN:Hid (RB w (wr.setCell ⟨bv,k,none⟩ (.int .u32 (sm:Int))).drew bh br bk bw H blk 64/\At (wr.setCell ⟨bv,k,none⟩ (.int .u32 (sm:Int))).drew bv 186 (U4 ((List.zipWith fG V H).take (k+1)++V.drop (k+1))++[])):=by
          refine ⟨HY.out.1.Iw (S:=[bv]) (((Fr.refl _ _).setCell si _).drew) (by simp; omega),?_⟩
          rw [HSM.out,<- HS.out]
          exact (HY.out.2.set k _).drew
         clear hx hy
         go_wp2_with fail
         go_region
         generalize (wr.setCell ⟨bv,k,none⟩ (.int .u32 (sm:Int))).drew=W5 at HN ⊢
         clear em cy cb fb HY HS
         go_wp2_with fail
         go_roundw
         case rel =>
          first
           | exact ⟨k+1,by omega,by go_num,HN⟩
           | ((repeat apply Exists.intro); exact ⟨⟨k+1,by omega,by go_num,HN⟩,rfl⟩)
         case measure=>simp [intOf] <;> omega
        .obtain rfl:k=8:=U
         obtain ⟨l,hl8,har⟩:=HY.out.1.r
         obtain ⟨LF,HLF⟩:∃ LF,Hid (LF=U4 (lO H blk)):=⟨_,rfl⟩
         have HLX:Hid (LF.length=8/\(∀ v∈LF,v.oneCell'=true)/\At wr bv 186 LF):=by
          show _/\_/\_
          rw [HLF.out,kC]
          refine ⟨Ed H blk HH.out.1,yJ _,?_⟩
          have h8:=HY.out.2
          rw [O4,U2 (by simp [HH.out.1,HV8.out]),X6 (by rw [HV8.out]; exact J7 _),O4] at h8
          rw [HF.out]
          exact h8
         have HAR:=D3 (And.intro hl8 har)
         have b0:=HY.out.1.o1
         have b00:=HY.out.1.lo
         clear hl8 har
         go_wp2_with (first
          | (refine qT rfl 186 (.tmp 11) rfl bv 0 rfl LF _ (λj v hj=>(by rw [K7,HLX.out.2.2.cell]; exact hj)) p7 rfl (by rw [HLX.out.1]; kernel_rfl) ?_)
          | (refine xT rfl 186 (.tmp 4) (.tmp 207) rfl br 0 rfl 186 l LF rfl HAR.out.2 (by rw [HAR.out.1,HLX.out.1]; exact J7 _) (by rw [HLX.out.1]; kernel_rfl) HLX.out.2.1 LF (by rw [HLX.out.1,X6 (by rw [HAR.out.1]; exact J7 _)]; simp) ?_; intro w9 hf9 ha9))
         exact AEf (Co (t:=186) rfl _ _ br LF _ rfl ha9 p7 rfl (by rw [HLX.out.1]; kernel_rfl)) rfl ⟨by rw [HLF.out],HY.out.1.fr.trans' hf9 (by simp; omega)⟩
theorem Rz(xs):∃ q,(xs++pG xs.length).length=64*q:=by
 have:=QD xs.length
 exact ⟨(xs++pG _).length / 64,by rw [C3]; omega⟩
theorem ET(A cp xs w)(hrow:aI w A (B8 xs))(hlen:xs.length<=68719476736):
  Calls Tryz.prog 74 #[.slice A xs.length cp] w λe w'=>e = .returned (vS (fP xs))/\Fr [] w w':=by
 have H:=D3 (And.intro hrow hlen)
 clear hrow hlen
 obtain ⟨n,HN⟩:∃ n,Hid (n=xs.length):=⟨_,rfl⟩
 rw [<- HN.out]
 obtain ⟨UI,HUI⟩:∃ UI,Hid (UI=U4 mH):=⟨_,rfl⟩
 go_enter Tryz.func74,Tryz.ntmps74
 go_wp2_with (first
  | (refine Ai rfl 186 _ rfl UI.toArray (by rw [HUI.out]; kernel_rfl) ?_)
  | (refine rV rfl 186 (.tmp 3) (.tmp 8) rfl rfl 186 _ UI rfl (by rw [HUI.out]; rfl) (by rw [HUI.out]; kernel_rfl) (by rw [HUI.out]; exact yJ _) ?_; intro w1 hf1 ha1))
 obtain ⟨bh,hbh⟩:∃ bh,bh=w.heap.size:=⟨_,rfl⟩
 rw [<- hbh] at ha1 ⊢
 have HP:=D3 (Rw A cp xs w1 (H.out.1.eW hf1) H.out.2)
 rw [<- HN.out] at HP
 have H1:Hid (Fr [] w w1/\At w1 bh 186 (U4 mH)/\bh=w.heap.size):=⟨hf1,by rw [<- HUI.out]; exact ha1,hbh⟩
 clear hf1 ha1 hbh
 go_wp2_with fail
 refine HP.out.mono ?_
 rintro e w2 ⟨A2,c2,rfl,hf2,hown2⟩
 obtain ⟨p,HPP⟩:∃ p,Hid (p=xs++pG n):=⟨_,rfl⟩
 rw [<- HPP.out] at hown2 ⊢
 obtain ⟨q,HQ⟩:∃ q,Hid (p.length=64*q):=by rw [HPP.out,HN.out]; exact Rz xs
 have hpl:p.length<=68719476864:=by
  rw [HPP.out,HN.out,C3]
  have:=H.out.2
  simp only [pG,C3,V0,k7,W7]
  omega
 have HR:=D3 (aI.bM hown2)
 have hcap2:p.length<=c2:=by
  have hb:BR w1 w2 (.slice A2 p.length c2) p:=⟨hf2,hown2⟩
  exact hb.cap
 obtain ⟨g,o,rfl,hg⟩:=HR.out.some (by rw [HPP.out,C3]; simp [pG]; omega)
 have hgb:g≠bh:=by
  have hb:BR w1 w2 (.slice (some ⟨g,o,none⟩) p.length c2) p:=⟨hf2,hown2⟩
  have:=hb.far g o rfl
  have:=H1.out.2.1.lt
  omega
 have H2:Hid (Fr [] w w2/\At w2 bh 186 (U4 mH)):=⟨H1.out.1.trans hf2,H1.out.2.1.fr hf2 si⟩
 clear hown2 hf2 HP
 obtain ⟨pl,HPL⟩:∃ pl,Hid (pl=p.length):=⟨_,rfl⟩
 rw [<- HPL.out] at hpl hcap2 HQ ⊢
 go_wp2_with fail
 go_loopw [5] (λi wx=>∃ (k j:Nat),i = .int .i64 j/\j<=pl/\Hid (j=64*k/\Fr [bh] w2 wx/\At wx bh 186 (U4 (lD k mH p)))) (λi _=>pl - (intOf i).toNat)
 case atStart=>exact ⟨0,0,rfl,by omega,rfl,Fr.refl _ _,H2.out.2⟩
 case round =>
  obtain ⟨k,j,rfl,hj,HL⟩:=hrel
  by_cases hlt:j < pl
  .have hj64:j+64<=pl:=by have h1:=HL.out.1; have h2:=HQ.out; omega
   obtain ⟨h0,h1,h2,h3,h4,h5,h6,h7,HH⟩:∃ h0 h1 h2 h3 h4 h5 h6 h7:Nat,Hid (lD k mH p=[h0,h1,h2,h3,h4,h5,h6,h7]):=by
    have hl:=(xX k mH p rfl Ac).1
    generalize lD k mH p=X at hl
    match X,hl with
    | [h0,h1,h2,h3,h4,h5,h6,h7],_=>exact ⟨h0,h1,h2,h3,h4,h5,h6,h7,rfl⟩
   have hab:=HL.out.2.2
   rw [HH.out] at hab
   have d0:wr.cell? ⟨bh,0,none⟩=some (.int .u32 (h0:Int)):=by rw [hab.cell]; rfl
   have d1:wr.cell? ⟨bh,1,none⟩=some (.int .u32 (h1:Int)):=by rw [hab.cell]; rfl
   have d2:wr.cell? ⟨bh,2,none⟩=some (.int .u32 (h2:Int)):=by rw [hab.cell]; rfl
   have d3:wr.cell? ⟨bh,3,none⟩=some (.int .u32 (h3:Int)):=by rw [hab.cell]; rfl
   have d4:wr.cell? ⟨bh,4,none⟩=some (.int .u32 (h4:Int)):=by rw [hab.cell]; rfl
   have d5:wr.cell? ⟨bh,5,none⟩=some (.int .u32 (h5:Int)):=by rw [hab.cell]; rfl
   have d6:wr.cell? ⟨bh,6,none⟩=some (.int .u32 (h6:Int)):=by rw [hab.cell]; rfl
   have d7:wr.cell? ⟨bh,7,none⟩=some (.int .u32 (h7:Int)):=by rw [hab.cell]; rfl
   have HAB:=D3 hab
   clear hab
   obtain ⟨o2,cp2,ho2,hsl⟩:∃ o2 cp2:Nat,o2=o+j/\∀ W:World,(Instr.slice 35 (.slice (some ⟨g,o,none⟩) pl c2) (some (C (j:Int))) (some (C ((j:Int)+64))) none).run Tryz.prog W = .ok (.slice (some ⟨g,o2,none⟩) 64 cp2) W:=by
    refine ⟨o+j,c2 - j,rfl,λW=>?_⟩
    have hne:¬ (c2=j):=U
    rw [run_slice_lh W 35 (some ⟨g,o,none⟩) pl c2 J .i64 .i64 (j:Int) ((j:Int)+64) U U U,show (sizeOf (Tryz.prog.elem 35)).run Tryz.prog W = .ok 1 W by kernel_rfl]
    have e1:((j:Int)+64).toNat=j+64:=U
    simp [sliced,hne,kB,e1]
   have HO2:=D3 ho2
   clear ho2
   have HROW:Hid (aI wr.drew (some ⟨g,o2,none⟩) (B8 ((p.drop (64*k)).take 64))):=by
    have h5:=(HR.out.fr HL.out.2.1 (by intro b o' e; injection e with e; injection e with e1 e2; subst e1; simpa using hgb)).Iv (k:=j) (o':=o2) (λ_=>HO2.out)
    rw [<- HL.out.1]
    exact h5.DV
   have HC:=D3 (Ry g o2 cp2 [h0,h1,h2,h3,h4,h5,h6,h7] ((p.drop (64*k)).take 64) wr.drew rfl (by rw [<- HH.out]; exact (xX k mH p rfl Ac).2) (by have e1:=HL.out.1; have e2:=HPL.out; rw [I8,Q7]; omega) HROW.out)
   have hw1:IntKind.i64.wrap ((j:Int)+64)=(j:Int)+64:=Z3 _ U
   go_wp2_with fail
   go_still_tail 6,(by kernel_rfl)
   change wpList _ _ _ _ _ wr.drew
   go_wp2_with fail
   refine HC.out.mono ?_
   rintro e w3 ⟨rfl,hf3⟩
   obtain ⟨LF,HLF⟩:∃ LF,Hid (LF=U4 (lO [h0,h1,h2,h3,h4,h5,h6,h7] ((p.drop (64*k)).take 64))):=⟨_,rfl⟩
   rw [<- HLF.out]
   have HLX:Hid (LF.length=8/\(∀ v∈LF,v.oneCell'=true)):=by
    show _/\_
    rw [HLF.out,kC]
    exact ⟨Ed _ _ rfl,yJ _⟩
   obtain ⟨L0,HL0⟩:∃ L0,Hid (L0=U4 [h0,h1,h2,h3,h4,h5,h6,h7]):=⟨_,rfl⟩
   have HA3:Hid (Fr [bh] w2 w3/\At w3 bh 186 L0/\L0.length=8):=⟨(HL.out.2.1.drew.mono si).trans' hf3 si,by rw [HL0.out]; exact HAB.out.drew.fr hf3 si,by rw [HL0.out]; rfl⟩
   clear d0 d1 d2 d3 d4 d5 d6 d7 hf3 hsl hw1 HC HAB
   go_wp2_with (refine xT rfl 186 (.tmp 3) (.tmp 23) rfl bh 0 rfl 186 L0 LF rfl HA3.out.2.1 (by rw [HA3.out.2.2,HLX.out.1]; exact J7 _) (by rw [HLX.out.1]; kernel_rfl) HLX.out.2 LF (by rw [HLX.out.1,X6 (by rw [HA3.out.2.2]; exact J7 _)]; simp) ?_; intro w4 hf4 ha4)
   have HNN:Hid (j+64=64*(k+1)/\Fr [bh] w2 w4/\At w4 bh 186 (U4 (lD (k+1) mH p))):=by
    refine ⟨by have:=HL.out.1; omega,HA3.out.1.trans hf4,?_⟩
    rw [Ee,HH.out,<- HLF.out]
    exact ha4
   clear hf4 ha4
   go_roundw
   case rel =>
    first
     | exact ⟨k+1,j+64,by go_num,by omega,HNN⟩
     | ((repeat apply Exists.intro); exact ⟨⟨k+1,j+64,by go_num,by omega,HNN⟩,rfl⟩)
   case measure=>simp [intOf] <;> omega
  .obtain rfl:j=pl:=U
   obtain ⟨X,HX⟩:∃ X,Hid (X=lD k mH p):=⟨_,rfl⟩
   have HX8:Hid (X.length=8/\(∀ x∈X,dS x)/\lP X=fP xs):=by
    show _/\_/\_
    rw [HX.out]
    refine ⟨(xX k mH p rfl Ac).1,(xX k mH p rfl Ac).2,?_⟩
    have e1:=HL.out.1
    have e2:=HPL.out
    rw [IS,gX,<- HN.out,<- HPP.out,<- e2,e1,Nat.mul_div_cancel_left _ (by decide)]
   have HZ:Hid (Fr [] w wr/\At wr bh 186 (U4 X)):=⟨(H2.out.1.mono si).trans' HL.out.2.1 (by have:=H1.out.2.2; simp; omega),by rw [HX.out]; exact HL.out.2.2⟩
   obtain ⟨wb,HWB⟩:∃ wb,Hid (wb=wr):=⟨_,rfl⟩
   rw [<- HWB.out] at HZ ⊢
   clear HWB HL
   have hbw:=HZ.out.2.lt
   go_wp2_with fail
   go_loopw [6,7] (λv s wx=>∃ (i:Nat) (A':Δ) (c':Nat) (es:Γ),i<=8/\s = .int .i64 i/\v = .slice A' es.length c'/\es.length<=4*i/\Hid (es=lP (X.take i))/\Hid (BR wb wx v es)) (λ_ s _=>8 - (intOf s).toNat)
   case atStart=>exact ⟨0,_,_,[],by omega,rfl,rfl,by simp,rfl,(Fr.refl _ _).alloc _,Z8 wb #[] 0 (J7 _) (G6 _) rfl⟩
   case round =>
    obtain ⟨i,A4,c4,es,hi,rfl,rfl,hel,HE,HB4⟩:=hrel
    have hsz4:=HB4.out.size
    by_cases hlt3:i < 8
    .obtain ⟨x,hx⟩:=gk X i (by rw [HX8.out.1]; exact hlt3)
     have cx:wr.cell? ⟨bh,i,none⟩=some (.int .u32 (x:Int)):=by rw [HB4.out.fr.cell (p:=⟨bh,i,none⟩) hbw si,HZ.out.2.cell]; exact uY _ _ _ hx
     obtain ⟨y3,HY3⟩:∃ y:UInt8,Hid (y=fV x 3):=⟨_,rfl⟩
     obtain ⟨y2,HY2⟩:∃ y:UInt8,Hid (y=fV x 2):=⟨_,rfl⟩
     obtain ⟨y1,HY1⟩:∃ y:UInt8,Hid (y=fV x 1):=⟨_,rfl⟩
     obtain ⟨y0,HY0⟩:∃ y:UInt8,Hid (y=fV x 0):=⟨_,rfl⟩
     have k3:IntKind.u8.wrap ((x:Int) / 16777216)=(y3.toNat:Int):=by rw [HY3.out]; exact qG x 3
     have k2:IntKind.u8.wrap ((x:Int) / 65536)=(y2.toNat:Int):=by rw [HY2.out]; exact qG x 2
     have k1:IntKind.u8.wrap ((x:Int) / 256)=(y1.toNat:Int):=by rw [HY1.out]; exact qG x 1
     have k0:IntKind.u8.wrap (x:Int)=(y0.toNat:Int):=by rw [HY0.out]; have:=qG x 0; simpa using this
     have HXX:Hid (lP (X.take (i+1))=lP (X.take i)++[y3,y2,y1,y0]):=by
      obtain ⟨h1,e1⟩:=C4.1 hx
      show lP _=_
      rw [O5 h1,e1,lP,R3,HY3.out,HY2.out,HY1.out,HY0.out]
      simp [lP]
     have hiI:(i:Int) < 8:=U
     have HCX:Hid ((U4 X)[i]?=some (.int .u32 (x:Int))):=uY _ _ _ hx
     clear hx
     go_wp2_with fail
     have hne:wr.heap.size≠bh:=U
     have hne':bh≠wr.heap.size:=U
     have hbr:bh < wr.heap.size:=U
     go_region_held3 (λw'=>w'.cell? ⟨bh,i,none⟩=some (.int .u32 (x:Int))) (first | go_keep | (rw [HG.out.cell (p:=⟨bh,i,none⟩) hbr (by simp)]; assumption))
      ((refine Qu gS rfl (.tmp 29) (.tmp 49) rfl wb.heap.size (.slice A4 es.length c4) es.length (B8 es) (by simp [Act.eval]) (by exact HB4.out.own.alloc _) (qa wr.heap.size) 4 4 (B8 [y3,y2,y1,y0]) (by simp [Act.eval]) rfl (by exact eN.new _ _ (B8 [y3,y2,y1,y0])) (iP _) U (by simp; omega) ?_; intro v2 w5 hown2 hg2 hb2; have HG:Hid (Fr [] wb w5):=(xZ (HB4.out.fr.alloc _) (HB4.out.own.alloc _) (II hg2)); obtain ⟨A3,c3,cs3,HC3,hc3,rfl,HB3⟩:=BR.push (xs:=[y3,y2,y1,y0]) (HB4.out.alloc _) hown2 (II hg2); have cx5:w5.cell? ⟨bh,i,none⟩=some (.int .u32 (x:Int)):=(by rw [HG.out.cell (p:=⟨bh,i,none⟩) hbw si,HZ.out.2.cell]; exact HCX.out); clear hown2 hg2 hb2))
     have HC4:Hid (cs3=lP (X.take (i+1))):=by show cs3=_; rw [HC3.out,HXX.out,HE.out]
     have h3:cs3.length<=es.length+4:=hc3
     rename_i hHeld
     clear hHeld k3 k2 k1 k0 cx cx5
     go_wp2_with fail
     go_roundw
     case rel =>
      first
       | exact ⟨i+1,A3,c3,cs3,by omega,by go_num,rfl,by omega,HC4,HB3⟩
       | ((repeat apply Exists.intro); exact ⟨⟨i+1,A3,c3,cs3,by omega,by go_num,rfl,by omega,HC4,HB3⟩,rfl⟩)
     case measure=>simp [intOf] <;> omega
    .obtain rfl:i=8:=U
     have hst:=wD (P:=Tryz.prog) (src:=35) (dst:=9) Y1 a7 V7 wr A4 c4 es HB4.out.row
     go_wp2_with fail
     go_ret
     refine ⟨?_,HZ.out.1.trans HB4.out.fr⟩
     rw [HE.out,U2 (by rw [HX8.out.1]; exact J7 _),HX8.out.2.2]
     rfl
structure BC where
 count:Int
 keys:List UInt8
 checks:Nat
def BC.zero:BC:=⟨0,List.replicate 32 0,0⟩
def BC.cells(c:BC):List Value:=Value.int .i64 c.count::(B8 c.keys++[.int .u64 (c.checks:Int)])
structure BC.Ok (c:BC):Prop where
 count:pX c.count
 keys:c.keys.length=32
 checks:dA c.checks
theorem BC.Ok.zero:BC.zero.Ok:=⟨by unfold pX; decide,I,by unfold dA; decide⟩
theorem BC.cells_len{c:BC}(h:c.Ok):c.cells.length=34:=by simp [BC.cells,eX,h.keys]
structure BT where
 cells:List BC
 seed:Nat
structure BT.Ok (t:BT):Prop where
 cells:∀ c∈t.cells,c.Ok
 seed:dA t.seed
def uZ(s:Nat):List UInt8:=[fV s 7,fV s 6,fV s 5,fV s 4,fV s 3,fV s 2,fV s 1,fV s 0]
def rB(l:List UInt8):Nat -> Nat
 | 0=>0
 | k+1=>rB l k*256+(l.getD k 0).toNat
def jL(seed i:Nat)(key:List UInt8):Nat:=rB (fP (uZ seed++[UInt8.ofNat i]++key)) 8
def gO(n seed:Nat)(key:List UInt8)(i:Nat):Nat:=i*(n / 3)+jL seed i key % (n / 3)
def fI(n:Int):Bool:=decide (3 <= n) && decide (n <= 3072) && decide (n % 3=0)
theorem Cp(l:Γ):∀ k,rB l k < 256 ^ k
 | 0=>by simp [rB]
 | k+1=>by
   have a:=Cp l k
   grind [UInt8.toNat_lt,rB]
theorem Cq(a i key):dA (jL a i key):=Cp _ 8
theorem Cr(n a key i)(d:3<=n)(hi:i < 3):gO n a key i < n:=by
 have b:0 < n / 3:=U
 have c:=z8 (jL a i key) b
 unfold gO
 have:i*(n / 3)<=2*(n / 3):=Y4 _ U
 omega
def kD(a b:List UInt8):List UInt8:=List.zipWith (λx y=>x ^^^ y) a b
theorem Ak(a b:Γ)(h:a.length=b.length):(kD a b).length=a.length:=by simp [kD,h]
def BC.add(c:BC)(key:List UInt8)(aE:Int)(chk:Nat):BC:=⟨IntKind.i64.wrap (c.count+aE),kD c.keys key,c.checks ^^^ chk⟩
theorem EU(n):pX (IntKind.i64.wrap n):=by
 grind [IntKind.wrap_i64,pX]
theorem BC.Ok.add{c:BC}(h:c.Ok)(b:key.length=32)(aE)(a:dA chk):(c.add key aE chk).Ok :=
 ⟨EU _,by show (kD c.keys key).length=32; rw [Ak _ _ (by rw [h.keys,b])]; exact h.keys,AE1 (n:=64) h.checks a⟩
def BT.nN(t:BT)(key:List UInt8)(aE:Int)(i:Nat):BT:={ t with cells:=t.cells.modify (gO t.cells.length t.seed key i) λc=>c.add key aE (jL t.seed 3 key) }
def BT.change(t:BT)(key:List UInt8)(aE:Int):BT:=((t.nN key aE 0).nN key aE 1).nN key aE 2
theorem BT.PN(t:BT)(key aE i):(t.nN key aE i).cells.length=t.cells.length:=by simp [BT.nN]
theorem BT.change_len(t:BT)(key aE):(t.change key aE).cells.length=t.cells.length:=by simp [BT.change,BT.PN]
def BC.pure(seed:Nat)(c:BC):Bool:=(decide (c.count=1) || decide (c.count = -1)) && decide (c.checks=jL seed 3 c.keys)
def BC.isZero(c:BC):Bool:=decide (c.count=0) && decide (c.keys=List.replicate 32 0) && decide (c.checks=0)
def BT.empty(t:BT):Bool:=t.cells.all BC.isZero
def BT.first(t:BT):Option Nat:=t.cells.findIdx? (BC.pure t.seed)
def BT.cellAt(t:BT)(i:Nat):BC:=t.cells.getD i BC.zero
structure gE where
 t:BT
 taken:List (List UInt8)
 added:List (List UInt8)
 removed:List (List UInt8)
def gE.take(s:gE)(c:BC):gE :=
 ⟨s.t.change c.keys (-c.count),c.keys::s.taken,if c.count=1 then s.added++[c.keys] else s.added,if c.count=1 then s.removed else s.removed++[c.keys]⟩
def iM:Nat -> gE -> Option gE
 | 0,s=>some s
 | n+1,s=>match s.t.first with
   | none=>some s
   | some i=>if s.taken.contains (s.t.cellAt i).keys then none else iM n (s.take (s.t.cellAt i))
def dG(l:List (List UInt8)):List (List UInt8):=l.mergeSort λx y=>decide (x <= y)
def BT.raw(t:BT):Option (List (List UInt8) × List (List UInt8)):=match iM t.cells.length ⟨t,[],[],[]⟩ with
 | none=>none
 | some s=>if s.t.empty then some (s.added,s.removed) else none
def BT.keys(t:BT):Option (List (List UInt8) × List (List UInt8)):=t.raw.map λp=>(dG p.1,dG p.2)
def BT.new(n seed:Nat):BT:=⟨List.replicate n BC.zero,seed⟩
def bU(l:List BC):List Value:=l.flatMap BC.cells
def jH(l:List BC):Prop:=∀ c∈l,c.Ok
theorem tX(c l):bU (c::l)=c.cells++bU l:=rfl
theorem JM(a b):bU (a++b)=bU a++bU b:=by simp [bU]
theorem nI:∀ {l:List BC},jH l->(bU l).length=l.length*34
 | [],_=>rfl
 | c::l,h=>by
   rw [tX,C3,BC.cells_len (h c si),nI (λx a=>h x (by simp [a])),V0]
   omega
theorem mW:∀ {l:List BC} (_:jH l) (rest:Ξ) (p:Nat) (c:BC) (_:l[p]?=some c) (j:Nat) (_:j < 34),(bU l++rest)[p*34+j]?=c.cells[j]?
 | [],_,_,p,c,a,_,_=>by grind
 | d::l,h,rest,0,c,a,j,b=>by
   simp at a
   subst a
   rw [tX,D1,AA0,K7,R1 (by rw [BC.cells_len (h d si)]; exact b)]
 | d::l,h,rest,p+1,c,a,j,b=>by
   have e:=BC.cells_len (h d si)
   rw [tX,D1,T8 (by rw [e]; omega),e,show (p+1)*34+j - 34=p*34+j by omega]
   exact mW (λx f=>h x (by grind)) rest p c (su a) j b
theorem tY:∀ {l:List BC} (_:jH l) (rest:Ξ) (p:Nat) (c:BC) (_:l[p]?=some c) (j:Nat) (_:j < 34) (v:Ω) (c':BC) (_:c'.cells=c.cells.set j v),
  (bU l++rest).set (p*34+j) v=bU (l.set p c')++rest
 | [],_,_,p,c,a,_,_,_,_,_=>by grind
 | d::l,h,rest,0,c,a,j,e,v,c',b=>by
   simp at a
   subst a
   rw [tX,D1,AA0,K7,List.set_append_left _ _ (by rw [BC.cells_len (h d si)]; exact e),Z7,tX,b,D1]
 | d::l,h,rest,p+1,c,a,j,e,v,c',b=>by
   have f:=BC.cells_len (h d si)
   rw [tX,D1,V3 _ _ (by rw [f]; omega),f,show (p+1)*34+j - 34=p*34+j by omega,AE3,tX,D1]
   rw [tY (λx g=>h x (by grind)) rest p c (su a) j e v c' b]
theorem yK{l:List BC}:∀ v∈bU l,v.oneCell'=true:=by
 intro v b
 obtain ⟨c,_,a⟩:=T5.1 b
 simp only [BC.cells,T0,P7,U7,k4] at a
 rcases a with rfl | a | rfl
 .rfl
 .exact iP _ _ a
 .rfl
def BC.part(c:BC)(key:List UInt8)(aE:Int)(chk i:Nat):BC:=⟨IntKind.i64.wrap (c.count+aE),(kD c.keys key).take i++c.keys.drop i,c.checks ^^^ chk⟩
theorem JN(a b)(i:Nat)(x y)(c:a[i]?=some x)(d:b[i]?=some y):(kD a b)[i]?=some (x ^^^ y):=by
 grind [kD]
theorem EV(c:BC)(key aE chk):c.part key aE chk 0=⟨IntKind.i64.wrap (c.count+aE),c.keys,c.checks ^^^ chk⟩:=by simp [BC.part]
theorem Al(c:BC)(key:Γ)(aE chk)(a:c.keys.length=32)(b:key.length=32):c.part key aE chk 32=c.add key aE chk:=by
 have:(kD c.keys key).length=32:=by rw [Ak _ _ U]; omega
 simp only [BC.part,BC.add]
 grind
theorem yL{c:BC}(h:c.Ok)(d:key.length=32)(aE)(b:dA chk)(i):(c.part key aE chk i).Ok:=by
 have a:=h.keys
 have e:(kD c.keys key).length=32:=by rw [Ak _ _ U]; omega
 refine ⟨EU _,?_,AE1 (n:=64) h.checks b⟩
 show ((kD c.keys key).take i++c.keys.drop i).length=32
 grind
theorem EW{c:BC}(key:Γ)(aE chk i x)(b:c.keys[i]?=some x)(e:key.length=32)(a:c.keys.length=32):(c.part key aE chk i).keys[i]?=some x:=by
 have d:=(C4.1 b).1
 have f:((kD c.keys key).take i).length=i:=by rw [I8,Ak _ _ U]; omega
 show ((kD c.keys key).take i++c.keys.drop i)[i]?=some x
 grind
theorem EX{c:BC}(key aE chk i x y)(b:c.keys[i]?=some x)(n:key[i]?=some y)(h:c.keys.length=32)(p:key.length=32):
  (c.part key aE chk (i+1)).cells=(c.part key aE chk i).cells.set (1+i) (.int .u8 ((x ^^^ y).toNat:Int)):=by
 have q:=(C4.1 b).1
 have m:(kD c.keys key).length=32:=by rw [Ak _ _ U]; exact h
 have d:((kD c.keys key).take i).length=i:=by rw [I8]; omega
 have l:=JN _ _ i x y b n
 obtain ⟨j,g⟩:=C4.1 l
 obtain ⟨k,o⟩:=C4.1 b
 have e:(kD c.keys key).take (i+1)++c.keys.drop (i+1)=((kD c.keys key).take i++c.keys.drop i).set i (x ^^^ y):=by
  rw [V3 _ _ U,d,W6,V2 k,Z7,O5 j,g,D1]
  rfl
 have f:i < ((kD c.keys key).take i++c.keys.drop i).length:=by rw [C3,d,Q7]; omega
 show Value.int .i64 _::(B8 ((kD c.keys key).take (i+1)++c.keys.drop (i+1))++[_])=List.set (Value.int .i64 _::(B8 ((kD c.keys key).take i++c.keys.drop i)++[_])) (1+i) _
 rw [e]
 generalize (kD c.keys key).take i++c.keys.drop i=a at f
 rw [AEg 1 i,AE3,List.set_append_left _ _ (by rw [eX]; exact f)]
 simp only [B8,AGe]
 rfl
theorem lS(c:BC):c.cells[0]?=some (.int .i64 c.count):=rfl
theorem yM{c:BC}(i x)(a:c.keys[i]?=some x):c.cells[1+i]?=some (.int .u8 (x.toNat:Int)):=by
 grind [BC.cells,eX,uN]
theorem qH{c:BC}(h:c.keys.length=32):c.cells[33]?=some (.int .u64 (c.checks:Int)):=by
 grind [BC.cells,eX]
theorem Cs(c:BC)(n):(⟨n,c.keys,c.checks⟩:BC).cells=c.cells.set 0 (C n):=rfl
theorem yN{c:BC}(h:c.keys.length=32)(n):(⟨c.count,c.keys,n⟩:BC).cells=c.cells.set 33 (.int .u64 (n:Int)):=by
 rw [BC.cells,BC.cells,AE3,V3 _ _ (by rw [eX]; omega),eX,h]
 rfl
theorem Ct(x y:UInt8):bits BinOp.xor IntKind.u8 (x.toNat:Int) (y.toNat:Int)=((x ^^^ y).toNat:Int):=by
 grind [u8_xor_nat,UInt8.toNat_lt,UInt8.toNat_xor]
def BT.iE(t:BT)(key:List UInt8)(aE:Int):Nat -> BT
 | 0=>t
 | k+1=>(t.iE key aE k).nN key aE k
theorem BT.BI(t:BT)(key aE):t.iE key aE 3=t.change key aE:=rfl
theorem BT.rU(t:BT)(key:Γ)(aE:Int):∀ k,(t.iE key aE k).cells.length=t.cells.length
 | 0=>rfl
 | k+1=>by rw [BT.iE,BT.PN,BT.rU t key aE k]
theorem BT.qR(t:BT)(key:Γ)(aE:Int):∀ k,(t.iE key aE k).seed=t.seed
 | 0=>rfl
 | k+1=>by rw [BT.iE]; exact BT.qR t key aE k
theorem BT.Ok.nN{t:BT}(h:t.Ok)(f:key.length=32)(aE i):(t.nN key aE i).Ok:=by
 refine ⟨λc b=>?_,h.seed⟩
 simp only [BT.nN] at b
 obtain ⟨j,a⟩:=o8.1 b
 rw [List.getElem?_modify] at a
 cases g:t.cells[j]? with
 | none=>grind
 | some d =>
   rw [g] at a
   have e:=h.cells d zg
   split at a
   .simp at a
    rw [<- a]
    exact e.add f aE (Cq _ _ _)
   grind
theorem BT.Ok.iE{t:BT}(h:t.Ok)(a:key.length=32)(aE:Int):∀ k,(t.iE key aE k).Ok
 | 0=>h
 | k+1=>(BT.Ok.iE h a aE k).nN a aE k
theorem BT.Ok.change{t:BT}(h:t.Ok)(a:key.length=32)(aE):(t.change key aE).Ok:=BT.Ok.iE h a aE 3
theorem BT.PO(t:BT)(key aE i c)(a:t.cells[gO t.cells.length t.seed key i]?=some c):
  (t.nN key aE i).cells=t.cells.set (gO t.cells.length t.seed key i) (c.add key aE (jL t.seed 3 key)):=by
 obtain ⟨d,b⟩:=C4.1 a
 simp only [BT.nN]
 apply s6
 grind
def BT.eJ(t:BT):List Bool:=t.cells.map (BC.pure t.seed)
theorem BT.uL(t:BT):t.eJ.length=t.cells.length:=by simp [BT.eJ]
theorem BT.Ix{t:BT}{c:BC}(h:t.cells[i]?=some c):t.eJ[i]?=some (c.pure t.seed):=by simp [BT.eJ,h]
theorem BT.PQ(t:BT):t.first=t.eJ.findIdx? id:=by
 unfold BT.first BT.eJ
 simp
def kE(n seed:Nat)(key:List UInt8)(old new:List Bool):Nat -> List Bool
 | 0=>old
 | k+1=>(kE n seed key old new k).set (gO n seed key k) (new.getD (gO n seed key k) false)
theorem Cu(n a:Nat)(key:Γ)(b new:List Bool):∀ k,(kE n a key b new k).length=b.length
 | 0=>rfl
 | k+1=>by rw [kE,a6,Cu n a key b new k]
theorem JO(n a:Nat)(key:Γ)(b new:List Bool)(q:Nat)(d:b.length=new.length):∀ k,(kE n a key b new k)[q]?=if ∃ j,j < k/\gO n a key j=q then new[q]? else b[q]?
 | 0=>by simp [kE]
 | k+1=>by
   rw [kE,AC4,JO n a key b new q d k,Cu]
   by_cases e:gO n a key k=q
   .have c:∃ j,j < k+1/\gO n a key j=q:=zg
    grind
   .rw [P4 e]
    by_cases h:∃ j,j < k/\gO n a key j=q
    .obtain U:=h
     rw [P1 zg,P1 zg]
    grind
theorem RA(t:BT)(key aE i q)(h:gO t.cells.length t.seed key i≠q):(t.nN key aE i).cells[q]?=t.cells[q]?:=by
 simp only [BT.nN]
 grind
theorem JP(t:BT)(key:Γ)(aE:Int)(q:Nat):∀ k,(∀ j,j < k->gO t.cells.length t.seed key j≠q)->(t.iE key aE k).cells[q]?=t.cells[q]?
 | 0,_=>rfl
 | k+1,h=>by
   rw [BT.iE,RA _ _ _ _ _ (by rw [BT.rU,BT.qR]; grind),JP t key aE q k zg]
theorem JQ(t:BT)(key aE):kE t.cells.length t.seed key t.eJ (t.change key aE).eJ 3=(t.change key aE).eJ:=by
 have a:t.eJ.length=(t.change key aE).eJ.length:=by grind [BT.uL,BT.change_len]
 apply s6
 intro q
 rw [JO _ _ _ _ _ _ a]
 split
 .rfl
 .rename_i h
  have b:(t.change key aE).seed=t.seed:=BT.qR t key aE 3
  have:=JP t key aE q 3 zg
  rw [BT.BI] at this
  unfold BT.eJ
  rw [U8,U8,this,b]
theorem JR(m)(s:gE)(h:s.t.first=none):iM m s=some s:=by
 cases m with
 | zero=>rfl
 | succ m=>simp only [iM,h]
theorem JS(m)(s:gE)(i)(h:s.t.first=some i)(a:s.taken.contains (s.t.cellAt i).keys=true):iM (m+1) s=none:=by
 simp only [iM,h,a,AA9]
theorem EY(m)(s:gE)(i)(h:s.t.first=some i)(a:s.taken.contains (s.t.cellAt i).keys=false):iM (m+1) s=iM m (s.take (s.t.cellAt i)):=by
 simp only [iM,h,a,Bool.false_eq_true,if_false]
theorem EZ{t:BT}(h:t.first=some i):∃ c,t.cells[i]?=some c/\c.pure t.seed=true/\t.cellAt i=c:=by
 grind [BT.first,List.findIdx?_eq_some_iff_getElem,BT.cellAt]
theorem Fa{c:BC}(h:c.pure seed=true):c.count=1\/c.count = -1:=by
 grind [BC.pure]
theorem Fb(n w):Calls Tryz.prog 108 #[C n] w λe w'=>e = .returned (.bool (fI n))/\w=w':=by
 unfold fI
 by_cases h1:3<=n
 .by_cases h2:n<=3072
  .by_cases h3:n % 3=0
   .have q:(n % 3 == 0)=true:=by simpa using h3
    have e:(decide (3<=n) && decide (n<=3072) && decide (n % 3=0))=true:=by simp [h1,h2,h3]
    rw [e]
    clear e h3
    go_enter AGf,AFh
    go_wp2_with fail
    go_ret
    exact ⟨rfl,rfl⟩
   .have q:(n % 3 == 0)=false:=by simpa using h3
    have e:(decide (3<=n) && decide (n<=3072) && decide (n % 3=0))=false:=by simp [h3]
    rw [e]
    clear e h3
    go_enter AGf,AFh
    go_wp2_with fail
    go_ret
    exact ⟨rfl,rfl⟩
  .have e:(decide (3<=n) && decide (n<=3072) && decide (n % 3=0))=false:=by simp [h2]
   rw [e]
   have d:decide (n<=3072)=false:=by simpa using h2
   clear e
   go_enter AGf,AFh
   go_wp2_with fail
   go_ret
   exact ⟨rfl,rfl⟩
 .have e:(decide (3<=n) && decide (n<=3072) && decide (n % 3=0))=false:=by simp [h1]
  rw [e]
  have d:decide (3<=n)=false:=by simpa using h1
  clear e
  go_enter AGf,AFh
  go_wp2_with fail
  go_ret
  exact ⟨rfl,rfl⟩
theorem Fc(l)(i:Nat)(y)(h:l[i]?=some y)(w):(Instr.index 9 (vS l) (C (i:Int))).run Tryz.prog w = .ok (.int .u8 (y.toNat:Int)) w:=by
 obtain ⟨c,a⟩:=C4.1 h
 have b:(bL l).size=l.length:=by simp [bL,ByteArray.size]
 rw [run_index_string w 9 _ .i64 i V7,dif_pos (by rw [b]; omega)]
 have:(bL l)[((i:Int)).toNat]'(by omega)=y:=by
  rw [<- a]
  rfl
 grind
def sP(seed k:Nat):List UInt8:=(uZ seed).take k++List.replicate (9 - k) 0
theorem RC(a k)(h:k < 8):(B8 (sP a k)).set k (.int .u8 ((fV a (7 - k)).toNat:Int))=B8 (sP a (k+1)):=by
 match k,h with
 | 0,_=>rfl
 | 1,_=>rfl
 | 2,_=>rfl
 | 3,_=>rfl
 | 4,_=>rfl
 | 5,_=>rfl
 | 6,_=>rfl
 | 7,_=>rfl
theorem RD(a k)(h:k < 8):(B8 (sP a k))[k]?=some (.int .u8 0):=by
 match k,h with
 | 0,_=>rfl
 | 1,_=>rfl
 | 2,_=>rfl
 | 3,_=>rfl
 | 4,_=>rfl
 | 5,_=>rfl
 | 6,_=>rfl
 | 7,_=>rfl
theorem RE(v)(y:UInt8)(h:v*256 < 18446744073709551616):bits BinOp.or IntKind.u64 ((v*256:Nat):Int) (y.toNat:Int)=((v*256+y.toNat:Nat):Int):=by
 have a:=V1 y
 rw [u64_or_nat _ _ h U]
 have:=Nat.two_pow_add_eq_or_of_lt U v
 grind
theorem JT(seed i:Nat)(key:Γ)(w)(hv:eG w)(hs:dA seed)(hi:i<=3)(hk:key.length<=274877906944):
  Calls Tryz.prog 184 #[.int .u64 (seed:Int),C (i:Int),.string (bL key)] w λe w'=>e = .returned (.int .u64 (jL seed i key:Int))/\Fr [] w w':=by
 have H:=D3 (And.intro hv (And.intro hs hk))
 clear hv hs hk
 obtain ⟨bh,hbh⟩:∃ bh,bh=w.heap.size:=⟨_,rfl⟩
 go_enter Tryz.func184,Tryz.ntmps184
 go_wp2_with fail
 change Code.wp _ _ _ _ (w.alloc (.cells (B8 (sP seed 0)).toArray 274))
 rw [<- hbh]
 have HW0:Hid (Fr [] w (w.alloc (.cells (B8 (sP seed 0)).toArray 274))/\At (w.alloc (.cells (B8 (sP seed 0)).toArray 274)) bh 274 (B8 (sP seed 0))):=⟨(Fr.refl _ _).alloc _,by rw [hbh]; exact At.new _ _ _⟩
 generalize w.alloc (.cells (B8 (sP seed 0)).toArray 274)=W0 at HW0 ⊢
 have HBH:=D3 hbh
 clear hbh
 go_loopw [12] (λs wx=>∃ k:Nat,k<=8/\s = .int .i64 k/\Hid (Fr [] w wx/\At wx bh 274 (B8 (sP seed k)))) (λs _=>8 - (intOf s).toNat)
 case atStart=>exact ⟨0,by omega,rfl,HW0⟩
 case round =>
  obtain ⟨k,hk,rfl,HR⟩:=hrel
  by_cases hlt:k < 8
  .obtain ⟨sh,hsh⟩:∃ sh:Nat,sh=56 - 8*k:=⟨_,rfl⟩
   obtain ⟨y,HY⟩:∃ y:UInt8,Hid (y=fV seed (7 - k)):=⟨_,rfl⟩
   have hy:IntKind.u8.wrap ((seed:Int) / 2 ^ sh)=(y.toNat:Int):=by
    rw [HY.out,show sh=8*(7 - k) by omega]
    exact qG seed (7 - k)
   have e1:(56:Int) - 8*(k:Int)=(sh:Int):=U
   have hshb:sh<=56:=U
   have cz:wr.cell? ⟨bh,k,none⟩=some (.int .u8 0):=by rw [HR.out.2.cell]; exact RD seed k hlt
   have fz:=HR.out.2.frozen k
   have hkI:(k:Int) < 9:=U
   have hkI8:(k:Int) < 8:=U
   have HN:Hid (Fr [] w (wr.setCell ⟨bh,k,none⟩ (.int .u8 (y.toNat:Int)))/\At (wr.setCell ⟨bh,k,none⟩ (.int .u8 (y.toNat:Int))) bh 274 (B8 (sP seed (k+1)))):=by
    refine ⟨HR.out.1.setCell (.inr (by have:=HBH.out; show w.heap.size<=bh; omega)) _,?_⟩
    rw [<- RC seed k hlt,<- HY.out]
    exact HR.out.2.set k _
   clear hsh
   go_wp2_with fail
   go_roundw
   case rel =>
    first
     | exact ⟨k+1,by omega,by go_num,HN⟩
     | ((repeat apply Exists.intro); exact ⟨⟨k+1,by omega,by go_num,HN⟩,rfl⟩)
   case measure=>simp [intOf] <;> omega
  .obtain rfl:k=8:=U
   have cz:wr.cell? ⟨bh,8,none⟩=some (.int .u8 0):=by rw [HR.out.2.cell]; rfl
   have fz:=HR.out.2.frozen 8
   have hyi:IntKind.u8.wrap (i:Int)=((UInt8.ofNat i).toNat:Int):=by
    rw [AG7]
    have:(UInt8.ofNat i).toNat=i:=by simp; omega
    rw [this]
    omega
   obtain ⟨yi,HYI⟩:∃ yi:UInt8,Hid (yi=UInt8.ofNat i):=⟨_,rfl⟩
   rw [<- HYI.out] at hyi
   have H9:Hid (Fr [] w (wr.setCell ⟨bh,8,none⟩ (.int .u8 (yi.toNat:Int)))/\At (wr.setCell ⟨bh,8,none⟩ (.int .u8 (yi.toNat:Int))) bh 274 (B8 (uZ seed++[yi]))):=by
    refine ⟨HR.out.1.setCell (.inr (by have:=HBH.out; show w.heap.size<=bh; omega)) _,?_⟩
    have:=HR.out.2.set 8 (.int .u8 (yi.toNat:Int))
    exact this
   obtain ⟨W9,HW9⟩:∃ W9,Hid (W9=wr.setCell ⟨bh,8,none⟩ (.int .u8 (yi.toNat:Int))):=⟨_,rfl⟩
   rw [<- HW9.out] at H9
   have hst:=wD (P:=Tryz.prog) (src:=35) (dst:=9) Y1 a7 V7 W9 (qa bh) 9 (uZ seed++[yi]) (λj v hj=>⟨bh,0,rfl,H9.out.2.lt,by rw [K7,H9.out.2.cell]; exact hj⟩)
   rw [show (uZ seed++[yi]).length=9 from rfl] at hst
   have hsl:∀ W:World,(Instr.sliceAt 274 (Z bh 0) none none none).run Tryz.prog W = .ok (ql bh 9 9) W:=λW=>by kernel_rfl
   obtain ⟨hd,HHD⟩:∃ hd,Hid (hd=uZ seed++[yi]):=⟨_,rfl⟩
   rw [<- HHD.out] at hst
   rw [HW9.out] at hst
   go_wp2_with fail
   have hsz:wr.heap.size=W9.heap.size:=by rw [HW9.out]; simp [World.setCell]
   rw [<- HW9.out,hsz]
   have HJ:=D3 (JJ (qa W9.heap.size) 2 [hd,key] (W9.alloc (.cells #[.string (bL hd),.string (bL key)] 9)) (H.out.1.fr (H9.out.1.alloc _) si si)
    (λj v hj=>⟨W9.heap.size,0,rfl,si,by rw [K7,(At.new W9 9 [.string (bL hd),.string (bL key)]).cell]; exact hj⟩)
    (by have:=H.out.2.2; rw [HHD.out]; simp [uZ]; omega) si)
   refine HJ.out.mono ?_
   rintro e w3 ⟨rfl,hf3⟩
   obtain ⟨sm,HSM⟩:∃ sm,Hid (sm=fP [hd,key].flatten):=⟨_,rfl⟩
   rw [<- HSM.out]
   have HF:Hid (Fr [] w w3):=(H9.out.1.alloc _).trans hf3
   have HS32:Hid (sm.length=32):=by show sm.length=32; rw [HSM.out]; exact uO _
   clear hf3 HJ hst hsl hsz cz fz
   go_wp2_with fail
   go_loop [10,32] (λv s=>∃ k m:Nat,k<=8/\s = .int .i64 k/\v = .int .u64 (m:Int)/\Hid (m=rB sm k)) (λ_ s=>8 - (intOf s).toNat)
   case atStart=>exact ⟨0,0,by omega,rfl,rfl,rfl⟩
   case round =>
    obtain ⟨k,m,hk,rfl,rfl,HM⟩:=hrel
    by_cases hlt:k < 8
    .obtain ⟨y,hy⟩:=gk sm k (by rw [HS32.out]; omega)
     have hix:=Fc sm k y hy
     have hmb:m*256 < 18446744073709551616:=by
      rw [HM.out]
      have h1:=Cp sm k
      have h2:256 ^ k<=256 ^ 7:=Y2 (by decide) U
      omega
     obtain ⟨m8,q1,HM8⟩:∃ m8:Nat,IntKind.u64.wrap ((m:Int)*256)=(m8:Int)/\Hid (m8=m*256):=⟨m*256,by rw [X0]; omega,rfl⟩
     have qy:IntKind.u64.wrap (y.toNat:Int)=(y.toNat:Int):=by rw [X0]; have:=V1 y; omega
     obtain ⟨mn,q2,HMN⟩:∃ mn:Nat,bits BinOp.or IntKind.u64 (m8:Int) (y.toNat:Int)=(mn:Int)/\Hid (mn=rB sm (k+1)):=by
      refine ⟨m*256+y.toNat,by rw [HM8.out]; exact RE m y hmb,?_⟩
      show _=rB sm k*256+(sm.getD k 0).toNat
      rw [<- HM.out,U5,hy]
      rfl
     have hkI:(k:Int) < 8:=U
     clear hy hmb
     go_wp2_with fail
     go_round
     case rel=>exact ⟨k+1,mn,by omega,by go_num,rfl,HMN⟩
     case measure=>simp [intOf] <;> omega
    .obtain rfl:k=8:=U
     go_wp2_with fail
     go_ret
     refine ⟨jK ?_,HF.out⟩
     rw [HM.out,HSM.out,HHD.out,HYI.out]
     simp [jL]
theorem JU(seed)(key:Γ)(w)(hv:eG w)(hs:dA seed)(hk:key.length<=274877906944):
  Calls Tryz.prog 183 #[.int .u64 (seed:Int),.string (bL key)] w λe w'=>e = .returned (.int .u64 (jL seed 3 key:Int))/\Fr [] w w':=by
 have H:=D3 (JT seed 3 key w hv hs U hk)
 clear hv hs hk
 go_enter Tryz.func183,Tryz.ntmps183
 go_wp2_with fail
 refine H.out.mono ?_
 rintro e w1 ⟨rfl,hf1⟩
 go_wp2_with fail
 go_ret
 exact ⟨rfl,hf1⟩
def wN(n seed:Nat)(key:List UInt8)(k:Nat):List Value:=(List.range k).map (λj=>Value.int .i64 (gO n seed key j:Int))++List.replicate (3 - k) (Value.int .i64 0)
def wO(n seed:Nat)(key:List UInt8):List Value:=[Value.int .i64 (gO n seed key 0:Int),Value.int .i64 (gO n seed key 1:Int),Value.int .i64 (gO n seed key 2:Int)]
theorem RF(n a key k)(h:k < 3):(wN n a key k).set k (C (gO n a key k:Int))=wN n a key (k+1):=by
 match k,h with
 | 0,_=>rfl
 | 1,_=>rfl
 | 2,_=>rfl
theorem RG(n a key k)(h:k < 3):(wN n a key k)[k]?=some (C 0):=by
 match k,h with
 | 0,_=>rfl
 | 1,_=>rfl
 | 2,_=>rfl
theorem Fe(n seed:Nat)(key:Γ)(w)(hv:eG w)(hs:dA seed)(hk:key.length<=274877906944)(hn:3<=n)(hn2:n<=3072):
  Calls Tryz.prog 154 #[C (n:Int),.int .u64 (seed:Int),.string (bL key)] w λe w'=>e = .returned (.agg (wO n seed key).toArray)/\Fr [] w w':=by
 have H:=D3 (And.intro hv (And.intro hs hk))
 clear hv hs hk
 obtain ⟨th,hth⟩:∃ th,th=n / 3:=⟨_,rfl⟩
 have eth:(n:Int) / 3=(th:Int):=U
 have th1:1<=th:=U
 have th2:th<=1024:=U
 have HTH:=D3 hth
 clear hth
 obtain ⟨br,hbr⟩:∃ br,br=w.heap.size:=⟨_,rfl⟩
 obtain ⟨ba,hba⟩:∃ ba,ba=w.heap.size+1:=⟨_,rfl⟩
 go_enter Tryz.func154,Tryz.ntmps154
 go_wp2_with fail
 rw [<- hba,<- hbr]
 have HW0:Hid (Fr [] w ((w.alloc (.cells #[C 0,C 0,C 0] 219)).alloc (.cells #[C 0,C 0,C 0] 219))/\At ((w.alloc (.cells #[C 0,C 0,C 0] 219)).alloc (.cells #[C 0,C 0,C 0] 219)) br 219 [C 0,C 0,C 0]/\At ((w.alloc (.cells #[C 0,C 0,C 0] 219)).alloc (.cells #[C 0,C 0,C 0] 219)) ba 219 (wN n seed key 0)):=by
  refine ⟨((Fr.refl _ _).alloc _).alloc _,?_,?_⟩
  .rw [hbr]
   exact (At.new w 219 [C 0,C 0,C 0]).alloc _
  .have:=At.new (w.alloc (.cells #[C 0,C 0,C 0] 219)) 219 [C 0,C 0,C 0]
   rw [show ba=(w.alloc (.cells #[C 0,C 0,C 0] 219)).heap.size by rw [hba]; simp]
   exact this
 generalize (w.alloc (.cells #[C 0,C 0,C 0] 219)).alloc (.cells #[C 0,C 0,C 0] 219)=W0 at HW0 ⊢
 have hlo:w.heap.size<=br:=U
 have hlt0:br < ba:=U
 clear hbr hba
 go_loopw [12] (λs wx=>∃ k:Nat,k<=3/\s = .int .i64 k/\Hid (Fr [] w wx/\At wx br 219 [Value.int .i64 0,Value.int .i64 0,Value.int .i64 0]/\At wx ba 219 (wN n seed key k))) (λs _=>3 - (intOf s).toNat)
 case atStart=>exact ⟨0,by omega,rfl,HW0⟩
 case round =>
  obtain ⟨k,hk,rfl,HR⟩:=hrel
  by_cases hlt:k < 3
  .obtain ⟨hv,HHV⟩:∃ hv,Hid (hv=jL seed k key):=⟨_,rfl⟩
   have hvu:Hid (dA hv):=by show dA hv; rw [HHV.out]; exact Cq _ _ _
   have HC:=D3 (JT seed k key wr (H.out.1.fr HR.out.1 si si) H.out.2.1 U H.out.2.2)
   rw [<- HHV.out] at HC
   have hkt:k*th<=2*1024:=Z9 U th2
   obtain ⟨kt,q1,HKT⟩:∃ kt:Nat,IntKind.i64.wrap ((k:Int)*(th:Int))=(kt:Int)/\Hid (kt=k*th):=⟨k*th,by rw [<- AG8,ABb]; omega,rfl⟩
   have hktb:kt<=2048:=by rw [HKT.out]; exact hkt
   have qth:IntKind.u64.wrap (th:Int)=(th:Int):=by rw [X0]; omega
   obtain ⟨hm,q2,q3,HHM⟩:∃ hm:Nat,(hv:Int) % (th:Int)=(hm:Int)/\(hv:Int).tmod (th:Int)=(hm:Int)/\Hid (hm=hv % th):=⟨hv % th,by rw [Int.natCast_emod],by rw [AC6],rfl⟩
   have hmb:hm < th:=by rw [HHM.out]; exact z8 _ U
   have qi:IntKind.i64.wrap (hm:Int)=(hm:Int):=by rw [ABb]; omega
   obtain ⟨p,q4,HP⟩:∃ p:Nat,(kt:Int)+(hm:Int)=(p:Int)/\Hid (p=gO n seed key k):=⟨kt+hm,U,by show _=_; unfold gO; rw [<- HTH.out,<- HHV.out,<- HHM.out,<- HKT.out]⟩
   have thI:(th:Int)≠0:=U
   have thB:((th:Int) == 0)=false:=by simp; omega
   have hkI:(k:Int) < 3:=U
   clear hkt
   go_wp2_with fail
   refine HC.out.mono ?_
   rintro e w1 ⟨rfl,hf1⟩
   have HR1:Hid (Fr [] w w1/\At w1 br 219 [C 0,C 0,C 0]/\At w1 ba 219 (wN n seed key k)):=⟨HR.out.1.trans hf1,HR.out.2.1.fr hf1 si,HR.out.2.2.fr hf1 si⟩
   have cz:w1.cell? ⟨ba,k,none⟩=some (C 0):=by rw [HR1.out.2.2.cell]; exact RG n seed key k hlt
   have fz:=HR1.out.2.2.frozen k
   have HN:Hid (Fr [] w (w1.setCell ⟨ba,k,none⟩ (Value.int .i64 (p:Int)))/\At (w1.setCell ⟨ba,k,none⟩ (Value.int .i64 (p:Int))) br 219 [C 0,C 0,C 0]/\At (w1.setCell ⟨ba,k,none⟩ (Value.int .i64 (p:Int))) ba 219 (wN n seed key (k+1))):=by
    refine ⟨HR1.out.1.setCell (.inr oz) _,HR1.out.2.1.far oz _,?_⟩
    rw [<- RF n seed key k hlt,<- HP.out]
    exact HR1.out.2.2.set k _
   clear hf1 HC
   go_wp2_with fail
   go_roundw
   case rel =>
    first
     | exact ⟨k+1,by omega,by go_num,HN⟩
     | ((repeat apply Exists.intro); exact ⟨⟨k+1,by omega,by go_num,HN⟩,rfl⟩)
   case measure=>simp [intOf] <;> omega
  .obtain rfl:k=3:=U
   obtain ⟨L,HL⟩:∃ L,Hid (L=wO n seed key):=⟨_,rfl⟩
   have HLX:Hid (L.length=3/\(∀ v∈L,v.oneCell'=true)/\At wr ba 219 L):=by
    show _/\_/\_
    rw [HL.out]
    refine ⟨rfl,?_,HR.out.2.2⟩
    intro v hv
    simp only [wO,T0,U7,k4] at hv
    rcases hv with rfl | rfl | rfl <;> rfl
   go_wp2_with (first
    | (refine qT rfl 219 (.tmp 7) rfl ba 0 rfl L _ (λj v hj=>(by rw [K7,HLX.out.2.2.cell]; exact hj)) ABh rfl (by rw [HLX.out.1]; kernel_rfl) ?_)
    | (refine xT rfl 219 (.tmp 6) (.tmp 30) rfl br 0 rfl 219 [Value.int .i64 0,Value.int .i64 0,Value.int .i64 0] L rfl HR.out.2.1 (by rw [HLX.out.1]; exact J7 _) (by rw [HLX.out.1]; kernel_rfl) HLX.out.2.1 L (by rw [HLX.out.1]; simp) ?_; intro w9 hf9 ha9))
   exact AEf (Co (t:=219) rfl _ _ br L _ rfl ha9 ABh rfl (by rw [HLX.out.1]; kernel_rfl)) rfl ⟨by rw [HL.out],HR.out.1.trans' hf9 (by simp; omega)⟩
structure gF (w:World) (bt bc cap:Nat) (rest:List Value) (t:BT):Prop where
 tab:At w bt 169 [.slice (some ⟨bc,0,none⟩) t.cells.length cap,.int .u64 (t.seed:Int)]
 cells:At w bc 178 (bU t.cells++rest)
 ok:t.Ok
 size:fI (t.cells.length:Int)=true
 cap:t.cells.length <= cap
theorem gF.ne{cap:Nat}{rest:Ξ}{t:BT}(h:gF w bt bc cap rest t):bt≠bc:=h.tab.ne h.cells (by decide)
theorem gF.fr{cap:Nat}{rest:Ξ}{t:BT}(h:gF w bt bc cap rest t)(a:Fr S w w')(b:bt∉S)(c:bc∉S):gF w' bt bc cap rest t :=
 ⟨h.tab.fr a b,h.cells.fr a c,h.ok,h.size,h.cap⟩
theorem jQ(h:fI (n:Int)=true):3<=n/\n<=3072/\n % 3=0:=by
 grind [fI]
theorem Ap(n a key k)(h:k < 3):(wO n a key)[k]?=some (C (gO n a key k:Int)):=by
 match k,h with
 | 0,_=>rfl
 | 1,_=>rfl
 | 2,_=>rfl
set_option maxHeartbeats 4000000 in
theorem Ff(bt bc cap rest t)(key:Γ)(aE w)(hv:eG w)(ht:gF w bt bc cap rest t)(hk:key.length=32):
  Calls Tryz.prog 153 #[Z bt 0,.string (bL key),C aE] w λe w'=>e = .returned (.tuple #[])/\Fr [bc] w w'/\gF w' bt bc cap rest (t.change key aE):=by
 obtain ⟨n,HN⟩:∃ n,Hid (n=t.cells.length):=⟨_,rfl⟩
 obtain ⟨seed,HS⟩:∃ seed,Hid (seed=t.seed):=⟨_,rfl⟩
 obtain ⟨n3,n4,n5⟩:=jQ ht.size
 rw [<- HN.out] at n3 n4
 clear n5
 have H:=D3 (And.intro hv (And.intro ht hk))
 have hne:bt≠bc:=ht.ne
 have hbtl:=ht.tab.lt
 have HT:Hid (∀ W,At W bt 169 [ql bc t.cells.length cap,.int .u64 (t.seed:Int)]->W.cell? ⟨bt,0,none⟩=some (ql bc n cap)/\W.cell? ⟨bt,1,none⟩=some (.int .u64 (seed:Int))):=λW hW =>
  ⟨by rw [hW.cell,HN.out]; rfl,by rw [hW.cell,HS.out]; rfl⟩
 obtain ⟨q0,q1⟩:=HT.out w ht.tab
 clear hv ht hk
 obtain ⟨ck,HCK⟩:∃ ck,Hid (ck=jL seed 3 key):=⟨_,rfl⟩
 have HC:=D3 (JU seed key w H.out.1 (by rw [HS.out]; exact H.out.2.1.ok.seed) (by rw [H.out.2.2]; omega))
 rw [<- HCK.out] at HC
 go_enter Tryz.func153,Tryz.ntmps153
 go_wp2_with fail
 refine HC.out.mono ?_
 rintro e w1 ⟨rfl,hf1⟩
 have H1:Hid (Fr [] w w1/\At w1 bt 169 [ql bc t.cells.length cap,.int .u64 (t.seed:Int)]):=⟨hf1,H.out.2.1.tab.fr hf1 si⟩
 clear q0 q1 hf1 HC
 obtain ⟨q0,q1⟩:=HT.out w1 H1.out.2
 have hbt1:bt < w1.heap.size:=H1.out.2.lt
 obtain ⟨L,HL⟩:∃ L,Hid (L=wO n seed key):=⟨_,rfl⟩
 have HPL:=D3 (Fe n seed key w1.drew (H.out.1.fr H1.out.1.drew si si) (by rw [HS.out]; exact H.out.2.1.ok.seed) (by rw [H.out.2.2]; omega) n3 n4)
 rw [<- HL.out] at HPL
 go_wp2_with fail
 go_region_held3 (λw'=>w'.cell? ⟨bt,0,none⟩=some (ql bc n cap)/\w'.cell? ⟨bt,1,none⟩=some (.int .u64 (seed:Int))) (first | go_keep | (exact HT.out _ H2.out.2))
  (first | (go_at_call 154; ((with_reducible refine HPL.out.mono ?_)); rintro e w2 ⟨rfl,hf2⟩; have H2:Hid (Fr [] w w2/\At w2 bt 169 [ql bc t.cells.length cap,.int .u64 (t.seed:Int)]):=⟨H1.out.1.drew.trans hf2,H1.out.2.drew.fr hf2 (by simp)⟩; clear hf2))
 rename_i hHeld
 have HT0:Hid (Fr [bc] w w2/\gF w2 bt bc cap rest (t.iE key aE 0)):=⟨H2.out.1.mono si,H2.out.2,H.out.2.1.cells.fr H2.out.1 si,H.out.2.1.ok,H.out.2.1.size,H.out.2.1.cap⟩
 clear hHeld HPL H1 H2 q0 q1 hbt1
 go_wp2_with fail
 go_loopw [28] (λs wx=>∃ k:Nat,k<=3/\s = .int .i64 k/\Hid (Fr [bc] w wx/\gF wx bt bc cap rest (t.iE key aE k))) (λs _=>3 - (intOf s).toNat)
 case atStart=>exact ⟨0,by omega,rfl,HT0⟩
 case round =>
  obtain ⟨k,hk,rfl,HR⟩:=hrel
  obtain ⟨wo,HWO⟩:∃ wo,Hid (wo=wr):=⟨_,rfl⟩
  rw [<- HWO.out] at HR ⊢
  clear HWO
  by_cases hlt:k < 3
  .obtain ⟨p,HP⟩:∃ p,Hid (p=gO n seed key k):=⟨_,rfl⟩
   have hpn:p < n:=by rw [HP.out]; exact Cr n seed key k n3 hlt
   have hix:∀ W:World,(Instr.index 219 (.agg L.toArray) (C (k:Int))).run Tryz.prog W = .ok (Value.int .i64 (p:Int)) W:=Ab (P:=Tryz.prog) 219 3 3 L (Value.int .i64 (p:Int)) .i64 k ABh J (λ_=>J) hlt (by rw [HL.out,HP.out]; exact Ap n seed key k hlt)
   obtain ⟨cl,HCL⟩:∃ cl,Hid (cl=(t.iE key aE k).cells):=⟨_,rfl⟩
   have hlen:Hid (cl.length=n):=by show cl.length=n; rw [HCL.out,BT.rU,HN.out]
   have hok:Hid (jH cl):=by show jH cl; rw [HCL.out]; exact HR.out.2.ok.cells
   obtain ⟨c,hc⟩:=gk cl p (by rw [hlen.out]; exact hpn)
   have hcok:Hid c.Ok:=hok.out c (F0 hc)
   have HTB:Hid (At wo bt 169 [ql bc t.cells.length cap,.int .u64 (t.seed:Int)]/\At wo bc 178 (bU cl++rest)):=by
    have h1:=HR.out.2.tab
    rw [BT.rU,BT.qR] at h1
    exact ⟨h1,by rw [HCL.out]; exact HR.out.2.cells⟩
   obtain ⟨q0,q1⟩:=HT.out wo HTB.out.1
   obtain ⟨cnt,HCN⟩:∃ cnt,Hid (cnt=c.count):=⟨_,rfl⟩
   obtain ⟨chk,HCH⟩:∃ chk,Hid (chk=c.checks):=⟨_,rfl⟩
   have r0:wo.cell? ⟨bc,p*34,none⟩=some (Value.int .i64 cnt):=by
    have:=mW hok.out rest p c hc 0 U
    rw [AB7] at this
    rw [HTB.out.2.cell,this,HCN.out]
    rfl
   have r33:wo.cell? ⟨bc,p*34+33,none⟩=some (.int .u64 (chk:Int)):=by
    rw [HTB.out.2.cell,mW hok.out rest p c hc 33 U,HCH.out]
    exact qH hcok.out.keys
   have f0:=HTB.out.2.frozen (p*34)
   have f33:=HTB.out.2.frozen (p*34+33)
   obtain ⟨nc,e1,HNC⟩:∃ nc:Int,IntKind.i64.wrap (cnt+aE)=nc/\Hid (nc=IntKind.i64.wrap (c.count+aE)):=⟨_,rfl,by rw [HCN.out]; rfl⟩
   have hcku:Hid (dA ck):=by show dA ck; rw [HCK.out]; exact Cq _ _ _
   obtain ⟨nk,e2,HNK⟩:∃ nk:Nat,bits BinOp.xor IntKind.u64 (chk:Int) (ck:Int)=(nk:Int)/\Hid (nk=c.checks ^^^ ck):=⟨_,AH4 _ _ (by rw [HCH.out]; exact hcok.out.checks) hcku.out,by rw [HCH.out]; rfl⟩
   have HN0:Hid (At ((wo.setCell ⟨bc,p*34,none⟩ (Value.int .i64 nc)).setCell ⟨bc,p*34+33,none⟩ (.int .u64 (nk:Int))) bc 178 (bU (cl.set p (c.part key aE ck 0))++rest)):=by
    have a1:=(HTB.out.2.set (p*34) (Value.int .i64 nc)).set (p*34+33) (.int .u64 (nk:Int))
    have e0:=tY hok.out rest p c hc 0 U (Value.int .i64 nc) ⟨nc,c.keys,c.checks⟩ (Cs c nc)
    rw [AB7] at e0
    have hp':p < cl.length:=by rw [hlen.out]; exact hpn
    have ok1:jH (cl.set p ⟨nc,c.keys,c.checks⟩):=by
     intro d hd
     rcases AAg hd with h | h
     .exact hok.out d h
     .rw [h]
      exact ⟨by rw [HNC.out]; exact EU _,hcok.out.keys,hcok.out.checks⟩
    have e3:=tY ok1 rest p ⟨nc,c.keys,c.checks⟩ (by rw [X7 hp']) 33 U (.int .u64 (nk:Int)) ⟨nc,c.keys,nk⟩ (yN (c:=⟨nc,c.keys,c.checks⟩) hcok.out.keys nk)
    rw [e0,e3,ABg] at a1
    rw [EV,<- HNC.out,<- HNK.out]
    exact a1
   have hpI:(p:Int) < (n:Int):=U
   have hkI:(k:Int) < 3:=U
   have hbcl:=HTB.out.2.lt
   have HC2:=D3 hc
   clear hc
   go_wp2_with fail
   have HW0:Hid (Fr [bc] w ((wo.setCell ⟨bc,p*34,none⟩ (Value.int .i64 nc)).setCell ⟨bc,p*34+33,none⟩ (.int .u64 (nk:Int)))/\At ((wo.setCell ⟨bc,p*34,none⟩ (Value.int .i64 nc)).setCell ⟨bc,p*34+33,none⟩ (.int .u64 (nk:Int))) bt 169 [ql bc t.cells.length cap,.int .u64 (t.seed:Int)]) :=
    ⟨(HR.out.1.setCell si _).setCell si _,(HTB.out.1.far hne _).far hne _⟩
   generalize (wo.setCell ⟨bc,p*34,none⟩ (Value.int .i64 nc)).setCell ⟨bc,p*34+33,none⟩ (.int .u64 (nk:Int))=W0 at HN0 HW0 ⊢
   clear q0 q1 r0 r33 f0 f33 e1 e2 hix HTB
   go_loopw [53] (λs wx=>∃ i:Nat,i<=32/\s = .int .i64 i/\Hid (Fr [bc] w wx/\At wx bt 169 [ql bc t.cells.length cap,.int .u64 (t.seed:Int)]/\At wx bc 178 (bU (cl.set p (c.part key aE ck i))++rest))) (λs _=>32 - (intOf s).toNat)
   case atStart=>exact ⟨0,by omega,rfl,HW0.out.1,HW0.out.2,HN0.out⟩
   case round =>
    obtain ⟨i,hi,rfl,HI⟩:=hrel
    have hp':Hid (p < cl.length):=by show p < cl.length; rw [hlen.out]; exact hpn
    have oki:Hid (jH (cl.set p (c.part key aE ck i))):=by
     intro d hd
     rcases AAg hd with h | h
     .exact hok.out d h
     .rw [h]
      exact yL hcok.out H.out.2.2 aE hcku.out i
    by_cases hlt2:i < 32
    .obtain ⟨x,hx⟩:=gk c.keys i (by rw [hcok.out.keys]; exact hlt2)
     obtain ⟨y,hy⟩:=gk key i (by rw [H.out.2.2]; exact hlt2)
     have hiy:=Fc key i y hy
     have hself:(cl.set p (c.part key aE ck i))[p]?=some (c.part key aE ck i):=X7 hp'.out
     have rk:wr.cell? ⟨bc,p*34+1+i,none⟩=some (.int .u8 (x.toNat:Int)):=by
      rw [HI.out.2.2.cell,Z4,mW oki.out rest p _ hself (1+i) U]
      exact yM i x (EW key aE ck i x hx H.out.2.2 hcok.out.keys)
     have fk:=HI.out.2.2.frozen (p*34+1+i)
     obtain ⟨z,ez,HZ⟩:∃ z:UInt8,bits BinOp.xor IntKind.u8 (x.toNat:Int) (y.toNat:Int)=(z.toNat:Int)/\Hid (z=x ^^^ y):=⟨_,Ct x y,rfl⟩
     have HNN:Hid (Fr [bc] w (wr.setCell ⟨bc,p*34+1+i,none⟩ (.int .u8 (z.toNat:Int))).drew/\At (wr.setCell ⟨bc,p*34+1+i,none⟩ (.int .u8 (z.toNat:Int))).drew bt 169 [ql bc t.cells.length cap,.int .u64 (t.seed:Int)]/\At (wr.setCell ⟨bc,p*34+1+i,none⟩ (.int .u8 (z.toNat:Int))).drew bc 178 (bU (cl.set p (c.part key aE ck (i+1)))++rest)):=by
      refine ⟨(HI.out.1.setCell si _).drew,(HI.out.2.1.far hne _).drew,?_⟩
      have a1:=(HI.out.2.2.set (p*34+1+i) (.int .u8 (z.toNat:Int))).drew
      rw [Z4,tY oki.out rest p _ hself (1+i) U (.int .u8 (z.toNat:Int)) (c.part key aE ck (i+1)) (by rw [HZ.out]; exact EX key aE ck i x y hx hy hcok.out.keys H.out.2.2),ABg] at a1
      rw [Z4]
      exact a1
     have hiI:(i:Int) < 32:=U
     clear hx hy hself
     go_wp2_with fail
     go_still_tail 13,(by kernel_rfl)
     change wpList _ _ _ _ _ wr.drew
     go_wp2_with fail
     generalize (wr.setCell ⟨bc,p*34+1+i,none⟩ (.int .u8 (z.toNat:Int))).drew=W1 at HNN ⊢
     clear rk fk ez hiy
     (try go_wp2_with fail)
     go_roundw
     case rel =>
      first
       | exact ⟨i+1,by omega,by go_num,HNN⟩
       | ((repeat apply Exists.intro); exact ⟨⟨i+1,by omega,by go_num,HNN⟩,rfl⟩)
     case measure=>simp [intOf] <;> omega
    .obtain rfl:i=32:=U
     have HEND:Hid (Fr [bc] w wr/\gF wr bt bc cap rest (t.iE key aE (k+1))):=by
      have hlen2:(t.iE key aE (k+1)).cells.length=t.cells.length:=BT.rU _ _ _ _
      have hseed2:(t.iE key aE (k+1)).seed=t.seed:=BT.qR _ _ _ _
      have hplace:p=gO (t.iE key aE k).cells.length (t.iE key aE k).seed key k:=by rw [HP.out,BT.rU,BT.qR,HN.out,HS.out]
      have hcells:(t.iE key aE (k+1)).cells=cl.set p (c.part key aE ck 32):=by
       show ((t.iE key aE k).nN key aE k).cells=_
       rw [BT.PO _ key aE k c (by rw [<- hplace,<- HCL.out]; exact HC2.out),<- hplace,<- HCL.out,Al c key aE ck hcok.out.keys H.out.2.2,BT.qR,HCK.out,HS.out]
      refine ⟨HI.out.1,?_,?_,BT.Ok.iE H.out.2.1.ok H.out.2.2 aE (k+1),?_,?_⟩
      .rw [hlen2,hseed2]
       exact HI.out.2.1
      .rw [hcells]
       exact HI.out.2.2
      .rw [hlen2]
       exact H.out.2.1.size
      .rw [hlen2]
       exact H.out.2.1.cap
     go_wp2_with fail
     go_roundw
     case rel =>
      first
       | exact ⟨k+1,by omega,by go_num,HEND⟩
       | ((repeat apply Exists.intro); exact ⟨⟨k+1,by omega,by go_num,HEND⟩,rfl⟩)
     case measure=>simp [intOf] <;> omega
  .obtain rfl:k=3:=U
   go_wp2_with fail
   go_end0
   exact ⟨rfl,HR.out.1,HR.out.2⟩
theorem RH(n i)(h:i < n*34):(bU (List.replicate n BC.zero))[i]?=BC.zero.cells[i % 34]?:=by
 have ok:jH (List.replicate n BC.zero):=by
  intro c b
  grind [BC.Ok.zero]
 have a:(List.replicate n BC.zero)[i / 34]?=some BC.zero:=by grind
 have:=mW ok [] _ _ a (i % 34) U
 grind
theorem Fg(n):madeCells BC.zero.cells.toArray (n*34)=(bU (List.replicate n BC.zero)).toArray:=by
 have ok:jH (List.replicate n BC.zero):=by
  intro c b
  grind [BC.Ok.zero]
 apply AE4
 intro i
 rw [show (bU _).toArray[i]?=(bU (List.replicate n BC.zero))[i]? from zg]
 by_cases h:i < n*34
 .rw [RH n i h]
  have e:BC.zero.cells.toArray.size=34:=I
  have d:i % 34 < BC.zero.cells.toArray.size:=by omega
  have a:(madeCells BC.zero.cells.toArray (n*34))[i]?=some (BC.zero.cells.toArray[i % 34]!):=by
   unfold madeCells
   grind
  grind
 grind [nI,size_madeCells]
theorem BT.Ok.new(n a)(d:dA a):(BT.new n a).Ok:=by
 refine ⟨λc b=>?_,d⟩
 rw [List.eq_of_mem_replicate b]
 exact BC.Ok.zero
abbrev M7:Value:=.agg BC.zero.cells.toArray
theorem RI(n:Nat)(f:n<=3072)(w):(Instr.makeSlice 167 (C (n:Int)) (C (n:Int))).run Tryz.prog w = .ok (.slice (some ⟨w.heap.size,0,none⟩) n n) (w.alloc (.cells (bU (List.replicate n BC.zero)).toArray 178)):=by
 have a:(Tryz.prog.info? 178).map (λi=>(i.zero,i.size,i.bytes))=some (some M7,34,48):=by kernel_rfl
 obtain ⟨i,d,e,c,b⟩:=AA6 a
 have:=run_make w 167 178 i _ AE5 d e .i64 .i64 n n U U (by rw [b]; omega) U
 rw [c,k6] at this
 rw [this,<- Fg]
 rfl
theorem RJ(n seed:Nat)(w)(h:fI (n:Int)=true)(hs:dA seed):Calls Tryz.prog 60 #[C (n:Int),.int .u64 (seed:Int)] w λe w'=>e = .returned (.tuple #[.pointer (some ⟨w.heap.size+1,0,none⟩),C 0])/\Fr [] w w'/\gF w' (w.heap.size+1) w.heap.size n [] (BT.new n seed):=by
 have H:=D3 (Fb (n:Int) w)
 rw [h] at H
 obtain ⟨n3,n4,n5⟩:=jQ h
 have hmk:=RI n n4 w
 have HH:=D3 (And.intro h hs)
 clear h hs n5
 obtain ⟨W1,HW1⟩:∃ W1,Hid (W1=w.alloc (.cells (bU (List.replicate n BC.zero)).toArray 178)):=⟨_,rfl⟩
 rw [<- HW1.out] at hmk
 have hsz:W1.heap.size=w.heap.size+1:=by rw [HW1.out]; simp
 have HZ:=D3 hsz
 clear hsz
 go_enter Tryz.func60,Tryz.ntmps60
 go_wp2_with fail
 refine H.out.mono ?_
 rintro e w1 ⟨rfl,rfl⟩
 go_wp2_with fail
 go_ret2
 have ha:At W1 w.heap.size 178 (bU (List.replicate n BC.zero)):=by rw [HW1.out]; exact At.new _ _ _
 have hf:Fr [] w W1:=by rw [HW1.out]; exact (Fr.refl _ _).alloc _
 refine ⟨by rw [HZ.out]; rfl,hf.alloc _,?_,?_,BT.Ok.new n seed HH.out.2,?_,?_⟩
 .have:=At.new W1 169 [ql w.heap.size n n,.int .u64 (seed:Int)]
  rw [HZ.out] at this
  have e:(BT.new n seed).cells.length=n:=by simp [BT.new]
  rw [e]
  exact this
 .rw [O4]
  exact ha.alloc _
 .have e:(BT.new n seed).cells.length=n:=by simp [BT.new]
  rw [e]
  exact HH.out.1
 .have e:(BT.new n seed).cells.length=n:=by simp [BT.new]
  rw [e]
  exact J7 _
theorem RK(bt bc cap rest t)(key:Γ)(aE w)(hv:eG w)(ht:gF w bt bc cap rest t)(hk:key.length=32):
  Calls Tryz.prog 111 #[Z bt 0,.string (bL key),C aE] w λe w'=>e = .returned (C 0)/\Fr [bc] w w'/\gF w' bt bc cap rest (t.change key aE):=by
 have hs:(bL key).size=32:=by simp [bL,ByteArray.size,hk]
 obtain ⟨n,HN⟩:∃ n,Hid (n=t.cells.length):=⟨_,rfl⟩
 have h3:3<=n:=by rw [HN.out]; exact (jQ ht.size).1
 have c0:w.cell? ⟨bt,0,none⟩=some (ql bc n cap):=by rw [ht.tab.cell,HN.out]; rfl
 have HC:=D3 (Ff bt bc cap rest t key aE w hv ht hk)
 clear hv ht hk
 obtain ⟨ks,HK⟩:∃ ks,Hid (ks=bL key):=⟨_,rfl⟩
 rw [<- HK.out] at hs HC ⊢
 have hnn:(n:Int)≠0:=U
 have hnb:((n:Int) == 0)=false:=by simp; omega
 have hn0:n≠0:=U
 go_enter Tryz.func111,Tryz.ntmps111
 go_wp2_with fail
 refine HC.out.mono ?_
 rintro e w1 ⟨rfl,hf1,ht1⟩
 go_wp2_with fail
 go_ret
 exact ⟨rfl,hf1,ht1⟩
theorem JV(bt bc cap rest t)(key:Γ)(w)(hv:eG w)(ht:gF w bt bc cap rest t)(hk:key.length=32):
  Calls Tryz.prog 62 #[Z bt 0,.string (bL key)] w λe w'=>e = .returned (C 0)/\Fr [bc] w w'/\gF w' bt bc cap rest (t.change key (1)):=by
 have HC:=D3 (RK bt bc cap rest t key (1) w hv ht hk)
 clear hv ht hk
 go_enter Tryz.func62,Tryz.ntmps62
 go_wp2_with fail
 refine HC.out.mono ?_
 rintro e w1 ⟨rfl,hf1,ht1⟩
 go_wp2_with fail
 go_ret
 exact ⟨rfl,hf1,ht1⟩
def Fh(bt bc p seed chk:Nat)(cnt:Int)(keys:List UInt8)(w':World):Prop :=
 w'.cell? ⟨bt,1,none⟩=some (.int .u64 (seed:Int)) /\ w'.cell? ⟨bc,p*34,none⟩=some (Value.int .i64 cnt) /\ w'.cell? ⟨bc,p*34+33,none⟩=some (.int .u64 (chk:Int)) /\ (convert 35 9 (.slice (some ⟨bc,p*34+1,none⟩) 32 32)).run Tryz.prog w' = .ok (.string (bL keys)) w'
theorem Fi{cap:Nat}{rest:Ξ}{t:BT}(h:gF w bt bc cap rest t)(p c)(b:t.cells[p]?=some c):Fh bt bc p t.seed c.checks c.count c.keys w:=by
 have ok:jH _:=h.ok.cells
 have d:=(ok c (F0 b)).keys
 refine ⟨by rw [h.tab.cell]; rfl,?_,?_,?_⟩
 .have:=mW ok rest p c b 0 U
  rw [AB7] at this
  rw [h.cells.cell,this]
  rfl
 .rw [h.cells.cell,mW ok rest p c b 33 U]
  exact qH d
 .have:=wD (src:=35) (dst:=9) Y1 a7 V7 w _ 32 _ (λj v e=>⟨bc,_,I,h.cells.lt,by
   have a:=(C4.1 e).1
   rw [eX,d] at a
   rw [h.cells.cell,Z4,mW ok rest p c b (1+j) U,BC.cells,AEg 1 j,ABd,R1 (by rw [eX,d]; exact a)]
   exact e⟩)
  grind
theorem Fj(bt bc cap rest t)(p:Nat)(c w)(hv:eG w)(ht:gF w bt bc cap rest t)(hc:t.cells[p]?=some c):
  Calls Tryz.prog 151 #[Z bt 0,C (p:Int)] w λe w'=>e = .returned (.bool (c.pure t.seed))/\Fr [] w w':=by
 obtain ⟨n,HN⟩:∃ n,Hid (n=t.cells.length):=⟨_,rfl⟩
 obtain ⟨seed,HS⟩:∃ seed,Hid (seed=t.seed):=⟨_,rfl⟩
 obtain ⟨cnt,HCN⟩:∃ cnt,Hid (cnt=c.count):=⟨_,rfl⟩
 obtain ⟨chk,HCH⟩:∃ chk,Hid (chk=c.checks):=⟨_,rfl⟩
 obtain ⟨keys,HK⟩:∃ keys,Hid (keys=c.keys):=⟨_,rfl⟩
 have hp:p < n:=by rw [HN.out]; exact (C4.1 hc).1
 have hpI:(p:Int) < (n:Int):=U
 have q0:w.cell? ⟨bt,0,none⟩=some (ql bc n cap):=by rw [ht.tab.cell,HN.out]; rfl
 have HP:=D3 (Fi ht p c hc)
 rw [<- HS.out,<- HCN.out,<- HCH.out,<- HK.out] at HP
 have HPD:=D3 (Fi (w:=w.drew) (ht.fr (Fr.refl [] w).drew si si) p c hc)
 rw [<- HS.out,<- HCN.out,<- HCH.out,<- HK.out] at HPD
 have H:=D3 (And.intro hv (And.intro ht hc))
 have HKL:Hid (keys.length=32):=by show keys.length=32; rw [HK.out]; exact (ht.ok.cells c (F0 hc)).keys
 obtain ⟨ck,HCK⟩:∃ ck,Hid (ck=jL seed 3 keys):=⟨_,rfl⟩
 have HCC:Hid (∀ W,Fr [] w W->Calls Tryz.prog 183 #[.int .u64 (seed:Int),.string (bL keys)] W λe w'=>e = .returned (.int .u64 (ck:Int))/\Fr [] W w'/\Fh bt bc p seed chk cnt keys w'):=λW hW=>by
  have:=JU seed keys W (H.out.1.fr hW si si) (by rw [HS.out]; exact H.out.2.1.ok.seed) (by rw [HKL.out]; omega)
  rw [<- HCK.out] at this
  refine this.mono ?_
  rintro e w' ⟨he,hf⟩
  refine ⟨he,hf,?_⟩
  have h2:=Fi (H.out.2.1.fr (hW.trans hf) si si) p c H.out.2.2
  rw [<- HS.out,<- HCN.out,<- HCH.out,<- HK.out] at h2
  exact h2
 have hsl:∀ W:World,(Instr.sliceAt 130 (.pointer (some ⟨bc,p*34+1,none⟩)) none none none).run Tryz.prog W = .ok (.slice (some ⟨bc,p*34+1,none⟩) 32 32) W:=λW=>by
  have hl:Tryz.prog.arrayLen 130=32:=by kernel_rfl
  have hz:(sizeOf (Tryz.prog.elem 130)).run Tryz.prog W = .ok 1 W:=by kernel_rfl
  rw [run_sliceAt_array_all W 130 ⟨bc,p*34+1,none⟩ J,hz,hl]
  simp [slicedAt,kB]
 have HRES:Hid (c.pure t.seed=((decide (cnt=1) || decide (cnt = -1)) && decide (chk=ck))):=by
  show c.pure t.seed=_
  rw [HCN.out,HCH.out,HCK.out,HK.out,HS.out]
  rfl
 rw [HRES.out]
 clear hv ht hc
 by_cases h1:cnt=1
 .have HD:Hid (((decide (cnt=1) || decide (cnt = -1)) && decide (chk=ck))=decide (chk=ck)):=by show _=_; rw [h1]; rfl
  rw [HD.out]
  clear HD
  subst h1
  go_enter Tryz.func151,Tryz.ntmps151
  go_wp2_with fail
  refine wp_region_held_drew (S:=(λw'=>w'.cell? ⟨bt,1,none⟩=some (.int .u64 (seed:Int))/\w'.cell? ⟨bc,p*34,none⟩=some (Value.int .i64 (1))/\w'.cell? ⟨bc,p*34+33,none⟩=some (.int .u64 (chk:Int))/\(convert 35 9 (.slice (some ⟨bc,p*34+1,none⟩) 32 32)).run Tryz.prog w' = .ok (vS keys) w')) J HPD.out (λhHeld=>?_)
  refine V8 (i:=0) (v:=?v0) rfl J J J (λ_ _ _ h=>h) (Or.inl ⟨by rfl,?y0⟩) hHeld ?r0
  case y0=>(intro w' hS'; (try dsimp only at hS'); go_simp; try with_reducible rfl)
  refine V8 (i:=1) (v:=?v1) rfl J J J (λ_ _ _ h=>h) (Or.inl ⟨by rfl,?y1⟩) hHeld ?r1
  case y1=>(intro w' hS'; (try dsimp only at hS'); go_simp; try with_reducible rfl)
  refine V8 (i:=2) (v:=?v2) rfl J J J (λ_ _ _ h=>h) (Or.inl ⟨by rfl,?y2⟩) hHeld ?r2
  case y2=>(intro w' hS'; (try dsimp only at hS'); go_simp; try with_reducible rfl)
  refine V8 (i:=3) (v:=?v3) rfl J J J (λ_ _ _ h=>h) (Or.inl ⟨by rfl,?y3⟩) hHeld ?r3
  case y3=>(intro w' hS'; (try dsimp only at hS'); go_simp; try with_reducible rfl)
  refine V8 (i:=4) (v:=.bool true) rfl J J J (λ_ _ _ h=>h) (Or.inl ⟨by rfl,?y4⟩) hHeld ?r4
  case y4=>(intro w' hS'; (try dsimp only at hS'); go_simp; try with_reducible rfl)
  refine V8 (i:=5) (v:=.bool true) rfl J J J (λ_ _ _ h=>h) (Or.inl ⟨by rfl,?y5⟩) hHeld ?r5
  case y5=>(intro w' hS'; (try dsimp only at hS'); go_simp; try with_reducible rfl)
  refine V8 (i:=6) (v:=undef) rfl J J J (λ_ _ _ h=>h) (Or.inr ⟨J,rfl⟩) hHeld ?r6
  refine V8 (i:=7) (v:=undef) rfl J J J (λ_ _ _ h=>h) (Or.inr ⟨J,rfl⟩) hHeld ?r7
  refine V8 (i:=8) (v:=undef) rfl J J J (λ_ _ _ h=>h) (Or.inr ⟨J,rfl⟩) hHeld ?r8
  refine V8 (i:=9) (v:=undef) rfl J J J (λ_ _ _ h=>h) (Or.inr ⟨J,rfl⟩) hHeld ?r9
  refine V8 (i:=10) (v:=undef) rfl J J J (λ_ _ _ h=>h) (Or.inr ⟨J,rfl⟩) hHeld ?r10
  refine V8 (i:=11) (v:=.bool true) rfl J J J (λ_ _ _ h=>h) (Or.inl ⟨J,?y11⟩) hHeld ?r11
  case y11=>(intro w' hS'; (try dsimp only at hS'); go_simp; try with_reducible rfl)
  refine V8 (i:=12) (v:=.bool true) rfl J J J (λ_ _ _ h=>h) (Or.inl ⟨J,?y12⟩) hHeld ?r12
  case y12=>(intro w' hS'; (try dsimp only at hS'); go_simp; try with_reducible rfl)
  refine V8 (i:=13) (v:=?v13) rfl J J J (λ_ _ _ h=>h) (Or.inl ⟨J,?y13⟩) hHeld ?r13
  case y13=>(intro w' hS'; (try dsimp only at hS'); go_simp; try with_reducible rfl)
  refine V8 (i:=14) (v:=?v14) rfl J J J (λ_ _ _ h=>h) (Or.inl ⟨J,?y14⟩) hHeld ?r14
  case y14=>(intro w' hS'; (try dsimp only at hS'); go_simp; try with_reducible rfl)
  refine V8 (i:=15) (v:=?v15) rfl J J J (λ_ _ _ h=>h) (Or.inl ⟨J,?y15⟩) hHeld ?r15
  case y15=>(intro w' hS'; (try dsimp only at hS'); go_simp; try with_reducible rfl)
  refine V8 (i:=16) (v:=?v16) rfl J J J (λ_ _ _ h=>h) (Or.inl ⟨J,?y16⟩) hHeld ?r16
  case y16=>(intro w' hS'; (try dsimp only at hS'); go_simp; try with_reducible rfl)
  refine V8 (i:=17) (v:=?v17) rfl J J J (λ_ _ _ h=>h) (Or.inl ⟨J,?y17⟩) hHeld ?r17
  case y17=>(intro w' hS'; (try dsimp only at hS'); go_simp; try with_reducible rfl)
  refine V8 (i:=18) (v:=?v18) rfl J J J (λ_ _ _ h=>h) (Or.inl ⟨J,?y18⟩) hHeld ?r18
  case y18=>(intro w' hS'; (try dsimp only at hS'); go_simp; try with_reducible rfl)
  refine V8 (i:=19) (v:=?v19) rfl J J J (λ_ _ _ h=>h) (Or.inl ⟨J,?y19⟩) hHeld ?r19
  case y19=>(intro w' hS'; (try dsimp only at hS'); go_simp; try with_reducible rfl)
  refine V8 (i:=20) (v:=?v20) rfl J J J (λ_ _ _ h=>h) (Or.inl ⟨J,?y20⟩) hHeld ?r20
  case y20=>(intro w' hS'; (try dsimp only at hS'); go_simp; try with_reducible rfl)
  refine V8 (i:=21) (v:=?v21) rfl J J J (λ_ _ _ h=>h) (Or.inl ⟨J,?y21⟩) hHeld ?r21
  case y21=>(intro w' hS'; (try dsimp only at hS'); go_simp; try with_reducible rfl)
  refine V8 (i:=22) (v:=?v22) rfl J J J (λ_ _ _ h=>h) (Or.inl ⟨J,?y22⟩) hHeld ?r22
  case y22=>(intro w' hS'; (try dsimp only at hS'); go_simp; try with_reducible rfl)
  refine V8 (i:=23) (v:=?v23) rfl J J J (λ_ _ _ h=>h) (Or.inl ⟨J,?y23⟩) hHeld ?r23
  case y23=>(intro w' hS'; (try dsimp only at hS'); go_simp; try with_reducible rfl)
  refine V8 (i:=24) (v:=?v24) rfl J J J (λ_ _ _ h=>h) (Or.inl ⟨J,?y24⟩) hHeld ?r24
  case y24=>(intro w' hS'; (try dsimp only at hS'); go_simp; try with_reducible rfl)
  refine V8 (i:=25) (v:=?v25) rfl J J J (λ_ _ _ h=>h) (Or.inl ⟨J,?y25⟩) hHeld ?r25
  case y25=>(intro w' hS'; (try dsimp only at hS'); go_simp; try with_reducible rfl)
  refine wpAnyH_ready (rs:=[26]) J si<|AllReadyH.cons rfl (λK hK=>?_) AllReadyH.nil
  go_simp
  refine (HCC.out _ (Fr.refl _ _).drew).mono ?_
  rintro e w2 ⟨rfl,hf2,hs2⟩
  (try go_wp2_with fail)
  refine hK.out _ _ hs2 (λhHeld2=>?_)
  clear hK K hHeld
  have hHeld:=hHeld2
  clear hHeld2
  refine V8 (i:=27) (v:=?v27) rfl J J J (λ_ _ _ h=>h) (Or.inl ⟨J,?y27⟩) hHeld ?r27
  case y27=>(intro w' hS'; (try dsimp only at hS'); go_simp; try with_reducible rfl)
  refine V8 (i:=28) (v:=?v28) rfl J J J (λ_ _ _ h=>h) (Or.inl ⟨J,?y28⟩) hHeld ?r28
  case y28=>(intro w' hS'; (try dsimp only at hS'); go_simp; try with_reducible rfl)
  refine V8 (i:=29) (v:=?v29) rfl J J J (λ_ _ _ h=>h) (Or.inl ⟨J,?y29⟩) hHeld ?r29
  case y29=>(intro w' hS'; (try dsimp only at hS'); go_simp; try with_reducible rfl)
  refine wpAnyH_done J ?_ _
  go_wp2_with fail
  go_ret
  exact ⟨gK (by rw [u9]; simp; omega),(Fr.refl [] w).drew.trans hf2⟩
 by_cases h2:cnt = -1
 .have HD:Hid (((decide (cnt=1) || decide (cnt = -1)) && decide (chk=ck))=decide (chk=ck)):=by show _=_; rw [h2]; rfl
  rw [HD.out]
  clear HD
  subst h2
  go_enter Tryz.func151,Tryz.ntmps151
  go_wp2_with fail
  go_region_held3 (λw'=>w'.cell? ⟨bt,1,none⟩=some (.int .u64 (seed:Int))/\w'.cell? ⟨bc,p*34,none⟩=some (Value.int .i64 (-1))/\w'.cell? ⟨bc,p*34+33,none⟩=some (.int .u64 (chk:Int))/\(convert 35 9 (.slice (some ⟨bc,p*34+1,none⟩) 32 32)).run Tryz.prog w' = .ok (vS keys) w') (first | exact HPD.out | exact hs2) (first | (go_at_call 183; refine (HCC.out _ (Fr.refl _ _).drew).mono ?_; rintro e w2 ⟨rfl,hf2,hs2⟩))
  go_wp2_with fail
  go_ret
  exact ⟨gK (by rw [u9]; simp; omega),(Fr.refl [] w).drew.trans hf2⟩
 have d1:(cnt == 1)=false:=by simpa using h1
 have d2:(cnt == -1)=false:=by simpa using h2
 have d3:decide (cnt=1)=false:=by simpa using h1
 have d4:decide (cnt = -1)=false:=by simpa using h2
 have HD:Hid (((decide (cnt=1) || decide (cnt = -1)) && decide (chk=ck))=false):=by show _=_; rw [d3,d4]; rfl
 rw [HD.out]
 obtain ⟨p1,p2,p3,p4⟩:Fh bt bc p seed chk cnt keys w:=HP.out
 clear p4 p3 p1 h1 h2 hsl
 go_enter Tryz.func151,Tryz.ntmps151
 go_wp2_with fail
 go_quiet (fail)
 go_wp2_with fail
 go_ret
 exact ⟨rfl,(Fr.refl [] w).drewN _⟩
theorem JW(l):B8 l=l.map Extern.Stop.cell:=rfl
theorem RM(c:BC)(hk:c.keys.length=32):c.cells.toArray.extract 1 33=(B8 c.keys).toArray:=by
 have h:(B8 c.keys).length=32:=by rw [eX,hk]
 rw [List.extract_toArray]
 congr 1
 show (List.drop 1 (Value.int .i64 c.count::(B8 c.keys++[.int .u64 (c.checks:Int)]))).take (33 - 1)=B8 c.keys
 grind
theorem RN(w d i a j h)(b f g : Field)(m : b.name ≠ "_")(n : f.name ≠ "_")(o : g.name ≠ "_")(D : b.offset = 0)(E : f.offset = 1)(F : g.offset = 33)(K : b.type = i)(t1 : f.type = a)(t2 : g.type = j)(z : P.underlying i = some (.int .i64))(A : P.underlying a = some (.array 32 h))(B : P.underlying j = some (.int .u64))(L : P.underlying h = some (.int .u8))(p : ∀ w, (sizeOf h).run P w = .ok 1 w)(q : ∀ w, (sizeOf a).run P w = .ok 32 w)(c e : BC)(k : c.keys.length = 32)(l : e.keys.length = 32):
  (Op.eqFields (d+2) c.cells.toArray e.cells.toArray [b,f,g]).run P w = .ok (decide (c.count=e.count) && decide (c.keys=e.keys) && decide (c.checks=e.checks)) w:=by
 have H:∀ x:BC,(part i x.cells.toArray 0).run P w = .ok (Value.int .i64 x.count) w:=λx=>by simp [part,isAgg,X3 z,BC.cells]
 have u:∀ x:BC,x.keys.length=32->(part a _ 1).run P w = .ok (.agg (B8 _).toArray) w:=λx r=>by
  have:=RM x r
  simp only [part,isAgg,P5,X3 A,J3,T9,AA9,q]
  rw [<- this]
 have y:∀ x:BC,x.keys.length=32->(part j x.cells.toArray 33).run P w = .ok (.int .u64 x.checks) w:=λx r=>by
  have:=qH r
  simp [part,isAgg,X3 B,this]
 have q1:=run_equalIn_bytes w d a h 32 A L p _ _ k l
 rw [<- JW,<- JW] at q1
 simp only [Op.eqFields,m,n,o,D,E,F,K,t1,t2,P5,Sem.run_ite,ne_eq,not_false_eq_true,AA9,H,u _ k,u _ l,y _ k,y _ l,J3,q1,AG9 w (d+1) i .i64 .i64 _ _ z,AG9 w (d+1) j .u64 .u64 _ _ B,T9]
 by_cases s:c.count=e.count
 .by_cases a1:c.keys=e.keys
  .by_cases t:c.checks=e.checks
   .simp [s,a1,t]
   .have:((c.checks:Int) == e.checks)=false:=by simp; omega
    simp [s,a1,t,this]
  grind
 grind
theorem JX(t l d m b n a1 o)(g : n ≠ "_")(h : a1 ≠ "_")(i : o ≠ "_")(a : (P.fieldsOf t).toList.map (λf => (f.name, f.type, f.offset)) = [(n, l, 0), (a1, d, 1), (o, m, 33)])(A : P.underlying t = some (.struct (P.fieldsOf t)))(z : P.stoodInHeld t = false)(S : P.underlying l = some (.int .i64))(T : P.underlying d = some (.array 32 b))(W : P.underlying m = some (.int .u64))(Q : P.underlying b = some (.int .u8))(j : ∀ w, (sizeOf b).run P w = .ok 1 w)(k : ∀ w, (sizeOf d).run P w = .ok 32 w)(c e : BC)(u : c.keys.length = 32)(x : e.keys.length = 32)(w):
  (binOp .neq t (.agg c.cells.toArray) (.agg e.cells.toArray)).run P w = .ok (.bool (!(decide (c.count=e.count) && decide (c.keys=e.keys) && decide (c.checks=e.checks)))) w:=by
 rw [run_neq_struct,show 10000=9997+2+1 from I,run_equalIn_agg w _ t _ _ A z]
 generalize (P.fieldsOf t).toList=p at a
 have y:p.length=3:=by have:=U0 List.length a; simpa using this
 match p,y with
 | [q,r,s],_ =>
   simp only [X4,Y8,AAj,e7,AD3] at a
   obtain ⟨⟨B,D,E⟩,⟨F,H,K⟩,⟨L,N,O⟩⟩:=a
   rw [RN w 9997 l d m b q r s (by rw [B]; exact g) (by rw [F]; exact h) (by rw [L]; exact i) E K O D H N S T W Q j k c e u x]
   rfl
theorem RO(c:BC)(a:c.keys.length=32)(w):(binOp .neq 178 (.agg c.cells.toArray) (.agg BC.zero.cells.toArray)).run Tryz.prog w = .ok (.bool (!c.isZero)) w :=
 JX 178 3 130 92 5 "count" "keys" "checks" (by decide) (by decide) (by decide) (by kernel_rfl) (by kernel_rfl) (by kernel_rfl) ABe Tryz.underlying130 AFd a7 (λw => by kernel_rfl) (λw => by kernel_rfl) c BC.zero a I w
theorem RP:lN Tryz.prog 167 178 (.agg BC.zero.cells.toArray) 34 48:=⟨si,J,I,U,U⟩
theorem RQ{v:Ω}(h:w.ownsRow base e sz v n xs)(k:0 < n):
  ∃ g cap rest,v = .slice (some ⟨g,0,none⟩) n cap/\base<=g/\n<=cap/\At w g e (xs++rest):=by
 rcases h.2 with ⟨_,j⟩ | ⟨g,cap,a,rfl,d,b,c,_,f,i⟩
 .omega
 .refine ⟨g,cap,a.toList.drop (n*sz),I,d,c,?_⟩
  unfold At
  rw [<- i,S6]
  simpa using b
theorem RR(bc cap n l rest w)(ha:At w bc 178 (bU l++rest))(hok:jH l)(hn:n=l.length)(h3:3<=n)(h4:n<=3072):
  Calls Tryz.prog 182 #[ql bc n cap] w λe w'=>∃ g c' rest',e = .returned (ql g n c')/\w.heap.size<=g/\n<=c'/\Fr [] w w'/\At w' g 178 (bU l++rest'):=by
 have H:=D3 (And.intro ha (And.intro hok hn))
 obtain ⟨C,HC⟩:∃ C,Hid (C=bU l):=⟨_,rfl⟩
 have HCL:Hid (C.length=n*34/\(∀ v∈C,v.oneCell'=true)):=by
  show _/\_
  rw [HC.out,nI hok,hn]
  exact ⟨rfl,yK⟩
 have HCA:Hid (∀ W,Fr [] w W->eN W (qa bc) C):=λW hW j v hv=>⟨_,rfl,by
  rw [kB,K7,hW.cell (p:=⟨bc,j,none⟩) ha.lt si,ha.cell,R1 (by rw [<- HC.out]; exact (C4.1 hv).1),<- HC.out]
  exact hv⟩
 clear ha hok hn
 have hnil:=λW:World=>Lib.run_eql_slice_nil (P:=Tryz.prog) W 167 178 (qa bc) n cap 0 0 AE5
 go_enter Tryz.func182,Tryz.ntmps182
 go_wp2_with (at_builtin; refine xR RP rfl (.tmp 5) (.tmp 6) rfl w.heap.size _ _ [] rfl (Z8 _ #[] 0 (J7 _) (G6 _) rfl) (qa bc) n cap C rfl HCL.out.1 (HCA.out _ ((Fr.refl _ _).alloc _)) HCL.out.2 (by omega) (by simp) ?_; intro v1 w1 hown1 hg1 hb1)
 rw [U6,K7] at hown1
 obtain ⟨g,c',rest',rfl,hg,hc,hat⟩:=RQ hown1 U
 go_ret
 refine ⟨g,c',rest',rfl,hg,hc,((Fr.refl [] w).alloc _).grown hg1 (λk hk=>.inr ?_),by rw [<- HC.out]; exact hat⟩
 have hk2:some w.heap.size=some k:=hk
 injection hk2 with hk2
 exact AEh hk2
theorem JY(bt bc cap rest t w)(ht:gF w bt bc cap rest t):
  Calls Tryz.prog 150 #[Z bt 0] w λe w'=>∃ bt' bc' cap' rest',e = .returned (.pointer (qa bt'))/\w.heap.size<=bt'/\w.heap.size<=bc'/\Fr [] w w'/\gF w' bt' bc' cap' rest' t:=by
 obtain ⟨n,HN⟩:∃ n,Hid (n=t.cells.length):=⟨_,rfl⟩
 obtain ⟨seed,HS⟩:∃ seed,Hid (seed=t.seed):=⟨_,rfl⟩
 have hb:=jQ ht.size
 have h3:3<=n:=by rw [HN.out]; exact hb.1
 have h4:n<=3072:=by rw [HN.out]; exact hb.2.1
 have HT:Hid (∀ W,Fr [] w W->W.cell? ⟨bt,0,none⟩=some (ql bc n cap)/\W.cell? ⟨bt,1,none⟩=some (.int .u64 (seed:Int))):=λW hW =>
  ⟨by rw [(ht.tab.fr hW si).cell,HN.out]; rfl,by rw [(ht.tab.fr hW si).cell,HS.out]; rfl⟩
 obtain ⟨q0,q1⟩:=HT.out w (Fr.refl _ _)
 have HC:=D3 (RR bc cap n t.cells rest w.drew (ht.cells.drew) ht.ok.cells HN.out h3 h4)
 have H:=D3 ht
 have hbl:=ht.tab.lt
 clear ht hb
 go_enter Tryz.func150,Tryz.ntmps150
 go_wp2_with fail
 go_region_held3 (λw'=>w'.cell? ⟨bt,0,none⟩=some (ql bc n cap)/\w'.cell? ⟨bt,1,none⟩=some (.int .u64 (seed:Int))) (first | go_keep | (exact HT.out _ H2.out) | (exact HT.out _ (H2.out.alloc _)))
  (first | (go_at_call 182; ((with_reducible refine HC.out.mono ?_)); rintro e w2 ⟨g,c',rest',rfl,hg,hc',hf2,ha2⟩; have H2:Hid (Fr [] w w2):=(Fr.refl [] w).drew.trans hf2; have HA2:=D3 (And.intro ha2 hg); have hbl2:bt < w2.heap.size:=l0 hbl H2.out.size; clear hf2 ha2 hg))
 rename_i hHeld
 clear hHeld
 go_wp2_with fail
 go_ret
 refine ⟨w2.heap.size,g,c',rest',rfl,H2.out.size,HA2.out.2,H2.out.alloc _,?_,HA2.out.1.alloc _,H.out.ok,H.out.size,by rw [<- HN.out]; exact hc'⟩
 rw [<- HN.out,<- HS.out]
 exact At.new w2 169 [ql g n c',.int .u64 (seed:Int)]
theorem JZ{l:List BC}{f:BC->Bool}{c:BC}(a:l[i]?=some c)(h:(l.take i).all f=true)(b:f c=true):(l.take (i+1)).all f=true:=by
 grind [List.take_succ_eq_append_getElem]
theorem Ka(bt bc cap rest t w)(ht:gF w bt bc cap rest t):
  Calls Tryz.prog 155 #[Value.pointer (some ⟨bt,0,none⟩)] w λe w'=>e = .returned (.bool t.empty)/\Fr [] w w':=by
 obtain ⟨n,HN⟩:∃ n,Hid (n=t.cells.length):=⟨_,rfl⟩
 have hb:=jQ ht.size
 have h4:n<=3072:=by rw [HN.out]; exact hb.2.1
 have q0:w.cell? ⟨bt,0,none⟩=some (.slice (some ⟨bc,0,none⟩) n cap):=by rw [ht.tab.cell,HN.out]; rfl
 have H:=D3 ht
 have hbcl:=ht.cells.lt
 clear ht hb
 obtain ⟨Z,HZ⟩:∃ Z,Hid (Z=BC.zero.cells):=⟨_,rfl⟩
 have hgd:Tryz.prog.eqGuardType Tryz.prog.depth 178=false:=by kernel_rfl
 go_enter Tryz.func155,Tryz.ntmps155
 go_wp2_with fail
 go_loopw [10] (λs wx=>∃ i:Nat,i<=n/\s = .int .i64 i/\Hid (Fr [] w wx/\(t.cells.take i).all BC.isZero=true)) (λs _=>n - (intOf s).toNat)
 case atStart=>exact ⟨0,by omega,rfl,Fr.refl _ _,rfl⟩
 case round =>
  obtain ⟨i,hi,rfl,HR⟩:=hrel
  by_cases hlt:i < n
  .obtain ⟨c,hc⟩:∃ c,t.cells[i]?=some c:=⟨_,E1 (by rw [<- HN.out]; exact hlt)⟩
   have hcok:=H.out.ok.cells c (F0 hc)
   obtain ⟨L,HL⟩:∃ L,Hid (L=c.cells):=⟨_,rfl⟩
   have HLX:Hid (L.length=34/\(∀ v∈L,v.oneCell'=true)/\∀ j v,L[j]?=some v->wr.cell? ⟨bc,i*34+j,none⟩=some v):=by
    show _/\_/\_
    rw [HL.out]
    refine ⟨BC.cells_len hcok,λv hv=>yK (l:=[c]) v (by simpa [bU] using hv),λj v hj=>?_⟩
    have hj34:=(C4.1 hj).1
    rw [BC.cells_len hcok] at hj34
    rw [HR.out.1.cell (p:=⟨bc,i*34+j,none⟩) hbcl (by simp),H.out.cells.cell,mW H.out.ok.cells rest i c hc j hj34]
    exact hj
   have hiI:(i:Int) < (n:Int):=by omega
   have hq:=RO c hcok.keys
   rw [<- HL.out,<- HZ.out] at hq
   have HC:=D3 hc
   clear hc hcok
   cases hz:c.isZero
   .rw [hz] at hq
    go_wp2_with (first
     | (refine qT rfl 178 (.tmp 12) rfl bc (i*34) rfl L _ (λj v hj=>HLX.out.2.2 j v hj) AAc rfl (by rw [HLX.out.1]; kernel_rfl) ?_)
     | (refine rV rfl 178 (.tmp 4) (.tmp 13) rfl rfl 178 _ L rfl (by rw [HLX.out.1]; rfl) (by rw [HLX.out.1]; kernel_rfl) HLX.out.2.1 ?_; intro w1 hf1 ha1)
     | (refine qT rfl 178 (.tmp 4) rfl wr.heap.size 0 rfl L _ (λj v hj=>by rw [K7,ha1.cell]; exact hj) AAc rfl (by rw [HLX.out.1]; kernel_rfl) ?_)
     | (refine Ai rfl 178 _ rfl Z.toArray (by rw [HZ.out]; kernel_rfl) ?_))
    go_ret
    refine ⟨gK ?_,HR.out.1.trans hf1⟩
    symm
    rw [Bool.eq_false_iff]
    intro h
    have:=AF6.1 h c (F0 HC.out)
    rw [hz] at this
    cases this
   .rw [hz] at hq
    have HN2:Hid ((t.cells.take (i+1)).all BC.isZero=true):=JZ HC.out HR.out.2 hz
    go_wp2_with (first
     | (refine qT rfl 178 (.tmp 12) rfl bc (i*34) rfl L _ (λj v hj=>HLX.out.2.2 j v hj) AAc rfl (by rw [HLX.out.1]; kernel_rfl) ?_)
     | (refine rV rfl 178 (.tmp 4) (.tmp 13) rfl rfl 178 _ L rfl (by rw [HLX.out.1]; rfl) (by rw [HLX.out.1]; kernel_rfl) HLX.out.2.1 ?_; intro w1 hf1 ha1)
     | (refine qT rfl 178 (.tmp 4) rfl wr.heap.size 0 rfl L _ (λj v hj=>by rw [K7,ha1.cell]; exact hj) AAc rfl (by rw [HLX.out.1]; kernel_rfl) ?_)
     | (refine Ai rfl 178 _ rfl Z.toArray (by rw [HZ.out]; kernel_rfl) ?_))
    have HF1:Hid (Fr [] w w1):=HR.out.1.trans hf1
    clear hq hf1 ha1
    (try go_wp2_with fail)
    go_roundw
    case rel =>
     first
      | exact ⟨i+1,by omega,by go_num,HF1.out,HN2.out⟩
      | ((repeat apply Exists.intro); exact ⟨⟨i+1,by omega,by go_num,HF1.out,HN2.out⟩,rfl⟩)
    case measure=>simp [intOf] <;> omega
  .obtain rfl:i=n:=by omega
   go_wp2_with fail
   go_ret
   refine ⟨gK ?_,HR.out.1⟩
   have:=HR.out.2
   rw [HN.out,R0] at this
   exact this.symm
theorem RS(bt bc cap rest t w)(ht:gF w bt bc cap rest t):Calls Tryz.prog 134 #[Value.pointer (some ⟨bt,0,none⟩)] w λe w'=>e = .returned (Value.int .i64 (t.cells.length:Int))/\w=w':=by
 obtain ⟨n,HN⟩:∃ n,Hid (n=t.cells.length):=⟨_,rfl⟩
 rw [<- HN.out]
 have q0:w.cell? ⟨bt,0,none⟩=some (.slice (some ⟨bc,0,none⟩) n cap):=by rw [ht.tab.cell,HN.out]; rfl
 clear ht
 go_enter Tryz.func134,Tryz.ntmps134
 go_wp2_with fail
 go_ret
 exact ⟨rfl,rfl⟩
def kW(n:Int):Int:=if 1536 < n then 3072 else if n < 0 then 12 else min 3072 ((2*n+14) / 3*3)
theorem RT(n w):Calls Tryz.prog 52 #[Value.int .i64 n] w λe w'=>e = .returned (Value.int .i64 (kW n))/\w=w':=by
 unfold kW
 by_cases h1:1536 < n
 .rw [P1 h1]
  go_enter Tryz.func52,Tryz.ntmps52
  go_wp2_with fail
  go_ret
  exact ⟨rfl,rfl⟩
 .rw [P4 h1]
  have h1':n<=1536:=by omega
  by_cases h2:n < 0
  .rw [P1 h2]
   have h2':¬ 0<=n:=by omega
   go_enter Tryz.func52,Tryz.ntmps52
   go_wp2_with fail
   go_ret
   first | exact ⟨rfl,rfl⟩ | exact ⟨jK (by omega),rfl⟩
  .rw [P4 h2]
   have h2':0<=n:=by omega
   go_enter Tryz.func52,Tryz.ntmps52
   go_wp2_with fail
   all_goals
    go_ret
    exact ⟨jK (by omega),rfl⟩
def sQ(l:List Bool):Int:=match l.findIdx? id with | none=>-1 | some i=>(i:Int)
def BB(l:List Bool):List Value:=l.map λb=>Value.bool b
theorem RU(h:∀ j,j < i->l[j]?=some false)(hi:l[i]?=some true):sQ l=(i:Int):=by
 have:l.findIdx? id=some i:=by
  grind [List.findIdx?_eq_some_iff_getElem]
 unfold sQ
 grind
theorem RV(h:∀ j,j < l.length->l[j]?=some false):sQ l = -1:=by
 grind [List.mem_iff_getElem?,sQ]
theorem RW(g cap l w)(ha:At w g 4 (BB l))(hl:l.length<=3072):Calls Tryz.prog 152 #[.slice (some ⟨g,0,none⟩) l.length cap,.bool true] w λe w'=>e = .returned (Value.int .i64 (sQ l))/\w=w':=by
 obtain ⟨n,HN⟩:∃ n,Hid (n=l.length):=⟨_,rfl⟩
 have H:=D3 ha
 clear ha
 rw [<- HN.out] at hl ⊢
 go_enter Tryz.func152,Tryz.ntmps152
 go_wp2_with fail
 go_loop [8] (λs=>∃ i:Nat,i<=n/\s = .int .i64 i/\Hid (∀ j,j < i->l[j]?=some false)) (λs=>n - (intOf s).toNat)
 case atStart=>exact ⟨0,by omega,rfl,λj hj=>by omega⟩
 case round =>
  obtain ⟨i,hi,rfl,HR⟩:=hrel
  by_cases hlt:i < n
  .obtain ⟨b,hb⟩:∃ b,l[i]?=some b:=⟨_,E1 (by rw [<- HN.out]; exact hlt)⟩
   have cb:w.cell? ⟨g,i,none⟩=some (.bool b):=by rw [H.out.cell]; simp [BB,hb]
   have hiI:(i:Int) < (n:Int):=by omega
   have HB:=D3 hb
   clear hb
   cases b
   .go_wp2_with fail
    go_round
    case rel =>
     refine ⟨i+1,by omega,by go_num,λj hj=>?_⟩
     rcases W4 j i with h | h
     .exact HR.out j h
     .obtain rfl:j=i:=by omega
      exact HB.out
    case measure=>simp [intOf] <;> omega
   .go_wp2_with fail
    go_ret
    refine ⟨jK ?_,rfl⟩
    exact (RU HR.out HB.out).symm
  .obtain rfl:i=n:=by omega
   go_wp2_with fail
   go_ret
   refine ⟨jK ?_,rfl⟩
   exact (RV (by rw [<- HN.out]; exact HR.out)).symm
end Go.Proofs.YtkjnecaieiaijaaGreatDoor
namespace Go.Proofs
open Go.Shelf
def Tryz.acC:Go.Shelf.Ren:=⟨λ| 132=>110 | 127=>157 | n=>n,λ| 49=>170 | 3=>3 | 4=>4 | 46=>171 | 5=>5 | 9=>9 | n=>n,λ| n=>n⟩
theorem Tryz.acD:Go.Proofs.Lays.n132 Tryz.prog Tryz.acC:={
 mixed:=by kernel_rfl
 f127:=Tryz.func157.trans (congrArg some (by kernel_rfl))
 f132:=Tryz.func110.trans (congrArg some (by kernel_rfl))
 t3:=Tryz.underlying3
 a3:=Tryz.isAgg3
 z3:=Tryz.sizeOf3
 v3:=Tryz.zeroValue3
 t4:=Tryz.underlying4
 a4:=Tryz.isAgg4
 z4:=Tryz.sizeOf4
 v4:=Tryz.zeroValue4
 t5:=Tryz.underlying5
 a5:=Tryz.isAgg5
 z5:=Tryz.sizeOf5
 v5:=Tryz.zeroValue5
 t9:=Tryz.underlying9
 a9:=Tryz.isAgg9
 z9:=Tryz.sizeOf9
 v9:=Tryz.zeroValue9
 t46:=Tryz.underlying171
 a46:=Tryz.isAgg171
 z46:=Tryz.sizeOf171
 v46:=Tryz.zeroValue171
 t49:=Tryz.underlying170
 a49:=Tryz.isAgg170
 z49:=Tryz.sizeOf170
 v49:=Tryz.zeroValue170 }
theorem Tryz.bits_LeadingZeros16(x w)(h0 : 0 <= x)(h1 : x <= 65535):
  Calls Tryz.prog 110 #[.int .u16 x] w λe w' => e = .returned (.int .i64 (16 - (Lib.bitLen x.toNat : Int))) /\ w' = w := Any.bits_LeadingZeros16 Tryz.acD x w h0 h1
def Tryz.acE:Go.Shelf.Ren:=⟨λ| 190=>142 | 125=>177 | 258=>176 | 128=>203 | 129=>204 | 302=>195 | 303=>196 | 304=>197 | 305=>198 | 306=>199 | 307=>200 | 308=>144 | 309=>201 | 310=>202 | 333=>214 | 329=>215 | 330=>216 | 334=>217 | 335=>218 | 336=>178 | 344=>220 | n=>n,λ| 31=>22 | 9=>9 | 3=>3 | 46=>171 | 0=>0 | 51=>185 | 53=>92 | 4=>4 | 183=>268 | 182=>267 | 131=>156 | 5=>5 | 218=>278 | 222=>281 | 228=>283 | 229=>85 | n=>n,λ| n=>n⟩
theorem Tryz.PR:Go.Proofs.Lays.n190 Tryz.prog Tryz.acE:={
 mixed:=by kernel_rfl
 f125:=Tryz.func177.trans (congrArg some (by kernel_rfl))
 f128:=Tryz.func203.trans (congrArg some (by kernel_rfl))
 f129:=Tryz.func204.trans (congrArg some (by kernel_rfl))
 f190:=Tryz.func142.trans (congrArg some (by kernel_rfl))
 f258:=Tryz.func176.trans (congrArg some (by kernel_rfl))
 f302:=Tryz.func195.trans (congrArg some (by kernel_rfl))
 f303:=Tryz.func196.trans (congrArg some (by kernel_rfl))
 f304:=Tryz.func197.trans (congrArg some (by kernel_rfl))
 f305:=Tryz.func198.trans (congrArg some (by kernel_rfl))
 f306:=Tryz.func199.trans (congrArg some (by kernel_rfl))
 f307:=Tryz.func200.trans (congrArg some (by kernel_rfl))
 f308:=Tryz.func144.trans (congrArg some (by kernel_rfl))
 f309:=Tryz.func201.trans (congrArg some (by kernel_rfl))
 f310:=Tryz.func202.trans (congrArg some (by kernel_rfl))
 f329:=Tryz.func215.trans (congrArg some (by kernel_rfl))
 f330:=Tryz.func216.trans (congrArg some (by kernel_rfl))
 f333:=Tryz.func214.trans (congrArg some (by kernel_rfl))
 f334:=Tryz.func217.trans (congrArg some (by kernel_rfl))
 f335:=Tryz.func218.trans (congrArg some (by kernel_rfl))
 f336:=Tryz.func178.trans (congrArg some (by kernel_rfl))
 f344:=Tryz.func220.trans (congrArg some (by kernel_rfl))
 t0:=Tryz.underlying0
 a0:=Tryz.isAgg0
 z0:=Tryz.sizeOf0
 v0:=Tryz.zeroValue0
 t3:=Tryz.underlying3
 a3:=Tryz.isAgg3
 z3:=Tryz.sizeOf3
 v3:=Tryz.zeroValue3
 t4:=Tryz.underlying4
 a4:=Tryz.isAgg4
 z4:=Tryz.sizeOf4
 v4:=Tryz.zeroValue4
 t5:=Tryz.underlying5
 a5:=Tryz.isAgg5
 z5:=Tryz.sizeOf5
 v5:=Tryz.zeroValue5
 t9:=Tryz.underlying9
 a9:=Tryz.isAgg9
 z9:=Tryz.sizeOf9
 v9:=Tryz.zeroValue9
 t31:=Tryz.underlying22
 a31:=Tryz.isAgg22
 z31:=Tryz.sizeOf22
 v31:=Tryz.zeroValue22
 t46:=Tryz.underlying171
 a46:=Tryz.isAgg171
 z46:=Tryz.sizeOf171
 v46:=Tryz.zeroValue171
 t51:=Tryz.underlying185
 a51:=Tryz.isAgg185
 z51:=Tryz.sizeOf185
 v51:=Tryz.zeroValue185
 t53:=Tryz.underlying92
 a53:=Tryz.isAgg92
 z53:=Tryz.sizeOf92
 v53:=Tryz.zeroValue92
 t131:=Tryz.underlying156
 a131:=Tryz.isAgg156
 z131:=Tryz.sizeOf156
 v131:=Tryz.zeroValue156
 t182:=Tryz.underlying267
 a182:=Tryz.isAgg267
 z182:=Tryz.sizeOf267
 v182:=Tryz.zeroValue267
 t183:=Tryz.underlying268
 a183:=Tryz.isAgg268
 z183:=Tryz.sizeOf268
 v183:=Tryz.zeroValue268
 t218:=Tryz.underlying278
 a218:=Tryz.isAgg278
 z218:=Tryz.sizeOf278
 v218:=Tryz.zeroValue278
 t222:=Tryz.underlying281
 a222:=Tryz.isAgg281
 z222:=Tryz.sizeOf281
 v222:=Tryz.zeroValue281
 t228:=Tryz.underlying283
 a228:=Tryz.isAgg283
 z228:=Tryz.sizeOf283
 v228:=Tryz.zeroValue283
 t229:=Tryz.underlying85
 a229:=Tryz.isAgg85
 z229:=Tryz.sizeOf85
 v229:=Tryz.zeroValue85 }
open Go.Sort Go.RowKit in
theorem Tryz.slices_Sort_string(blk off cap : Nat)(ss : List (List UInt8))(w : World)(hH : Holds encStr w blk off ss.toArray)(hblk : blk < w.heap.size)(hsz : ss.length < 4611686018427387904):
  Calls Tryz.prog 142 #[.slice (some ⟨blk, off, none⟩) ss.length cap] w λe w' =>
   e = .returned (.tuple #[]) /\ ∃ n os, w' = grow (putRow encStr (Sort.ahead w n) blk off (ss.mergeSort λx y => decide (x <= y)).toArray) os := Any.slices_Sort_string Tryz.PR blk off cap ss w hH hblk hsz
open Go.RowKit Go.Sort in
theorem Tryz.slices_Sort_string_none(p cap w):
  Calls Tryz.prog 142 #[.slice p 0 cap] w λe w' => e = .returned (.tuple #[]) /\ w' = w := Any.slices_Sort_string_none Tryz.PR p cap w
def Tryz.PT:Go.Shelf.Ren:=⟨λ| 7=>96 | 10=>143 | n=>n,λ| 23=>111 | 26=>9 | 3=>4 | 28=>154 | 0=>0 | 27=>153 | 33=>211 | 4=>4 | n=>n,λ| n=>n⟩
theorem Tryz.PU:Go.Proofs.SlLaysZ.n7 Tryz.prog Tryz.PT:={
 mixed:=by kernel_rfl
 f7:=⟨Tryz.f96.name,by decide,Tryz.func96.trans (congrArg some (by kernel_rfl))⟩
 f10:=⟨Tryz.f143.name,by decide,Tryz.func143.trans (congrArg some (by kernel_rfl))⟩
 t0:=Tryz.underlying0
 a0:=Tryz.isAgg0
 z0:=Tryz.sizeOf0
 v0:=Tryz.zeroValue0
 t4:=Tryz.underlying4
 a4:=Tryz.isAgg4
 z4:=Tryz.sizeOf4
 v4:=Tryz.zeroValue4
 t23:=Tryz.underlying111
 a23:=Tryz.isAgg111
 z23:=Tryz.sizeOf111
 v23:=Tryz.zeroValue111
 t26:=Tryz.underlying9
 a26:=Tryz.isAgg9
 z26:=Tryz.sizeOf9
 v26:=Tryz.zeroValue9
 t27:=Tryz.underlying153
 a27:=Tryz.isAgg153
 z27:=Tryz.sizeOf153
 v27:=Tryz.zeroValue153
 t28:=Tryz.underlying154
 a28:=Tryz.isAgg154
 z28:=Tryz.sizeOf154
 v28:=Tryz.zeroValue154
 t33:=Tryz.underlying211
 a33:=Tryz.isAgg211
 z33:=Tryz.sizeOf211
 v33:=Tryz.zeroValue211 }
def Tryz.PW:Go.Shelf.Ren:=⟨λ| 6=>95 | 8=>141 | 9=>142 | 11=>175 | 13=>177 | 12=>176 | 23=>203 | 24=>204 | 14=>195 | 15=>196 | 16=>197 | 17=>198 | 18=>199 | 19=>200 | 20=>144 | 21=>201 | 22=>202 | 25=>214 | 26=>215 | 27=>216 | 28=>217 | 29=>218 | 30=>178 | 31=>220 | n=>n,λ| 26=>9 | 28=>154 | 24=>22 | 0=>0 | 3=>3 | 37=>171 | 48=>185 | 50=>92 | 4=>4 | 40=>268 | 39=>267 | 45=>156 | 5=>5 | 9=>9 | 51=>278 | 55=>281 | 57=>283 | 58=>85 | 33=>211 | n=>n,λ| n=>n⟩
theorem Tryz.acF:Go.Proofs.SlLaysZ.n6 Tryz.prog Tryz.PW:={
 mixed:=by kernel_rfl
 f6:=⟨Tryz.f95.name,by decide,Tryz.func95.trans (congrArg some (by kernel_rfl))⟩
 f8:=⟨Tryz.f141.name,by decide,Tryz.func141.trans (congrArg some (by kernel_rfl))⟩
 f11:=⟨Tryz.f175.name,by decide,Tryz.func175.trans (congrArg some (by kernel_rfl))⟩
 t0:=Tryz.underlying0
 a0:=Tryz.isAgg0
 z0:=Tryz.sizeOf0
 v0:=Tryz.zeroValue0
 t24:=Tryz.underlying22
 a24:=Tryz.isAgg22
 z24:=Tryz.sizeOf22
 v24:=Tryz.zeroValue22
 t26:=Tryz.underlying9
 a26:=Tryz.isAgg9
 z26:=Tryz.sizeOf9
 v26:=Tryz.zeroValue9
 t28:=Tryz.underlying154
 a28:=Tryz.isAgg154
 z28:=Tryz.sizeOf154
 v28:=Tryz.zeroValue154
 i26:=by kernel_rfl }
end Go.Proofs
namespace Go.Proofs.YtkjnecaieiaijaaGreatDoor
open Go.RowKit
section
open Go.RowKit Go.Sort
open Go.Maps (setOf)
def lU(l:List (List UInt8)):List (List UInt8):=l.mergeSort λx y=>decide (x <= y)
theorem Ar(l):(lU l).length=l.length:=by simp [lU]
theorem RZ(d c:List Γ)(rest)(h:c.length=d.length):
  putCells encStr 0 c.toArray (d.map aZ++rest).toArray=(c.map aZ++rest).toArray:=by
 apply AE4
 intro k
 simp only [putCells,Array.getElem?_mapIdx,List.getElem?_toArray,G6,true_and,K7,List.size_toArray,Nat.sub_zero]
 by_cases b:k < c.length
 .rw [R1 (by simpa using h▸b),R1 (by simpa using b)]
  have a:k < d.length:=h▸b
  simp [b,E1 a,aZ,bL]
 .rw [T8 (by simp; omega),T8 (by simp; omega)]
  have a:¬ k < d.length:=by omega
  simp [a,h]
theorem Sa(b cap)(a:List Γ)(rest t w)(h:At w b t (a.map aZ++rest))(d:a.length < 4611686018427387904):
  Θ 142 #[ql b a.length cap] w λe f=>e = .returned (.tuple #[])/\Fr [b] w f/\At f b t ((lU a).map aZ++rest):= by
 have g:Holds encStr w b 0 a.toArray:=by
  intro j l
  have c:j < a.length:=by simpa using l
  rw [K7,h.cell,h.frozen]
  refine ⟨?_,I⟩
  rw [R1 (by simpa using c)]
  simp [getElem!_pos,c,aZ,bL]
 refine (Tryz.slices_Sort_string b 0 cap a w g h.lt d).mono ?_
 rintro e f ⟨rfl,n,p,rfl⟩
 have i:=h.lt
 refine ⟨I,⟨I,I,I,?_,?_⟩,?_⟩
 .simp
 .intro k m o
  simp only [grow,putRow,mapBlock,heap_ahead]
  rw [AAa (by simpa using m),ADh,P4 (by simpa using AIa (by simpa using o))]
 .unfold At at h ⊢
  simp only [grow,putRow,mapBlock,heap_ahead]
  rw [AAa (by simpa using i),ADh,P1 I,h]
  simp only [k9,onCells]
  rw [show (a.mergeSort λx y=>decide (x<=y))=lU a from I,RZ a (lU a) rest (Ar a)]
def hF(w:World)(b:Nat)(S:List (List UInt8)):Prop:=w.ownsMap (H:=Unit) Tryz.prog 9 (plainElem Tryz.prog 4) b S.length (setOf (.lit (.bool true)) (S.map Lit.string))
theorem hF.new(w:Λ):hF (w.alloc (.map #[] 0)) w.heap.size []:=World.ownsMap_made w _ _ _
theorem hF.lt{w:Λ}{b:Nat}{S:List Γ}(h:hF w b S):b < w.heap.size:=World.ownsMap.lt h
theorem hF.grown{w c:Λ}{b:Nat}{S:List Γ}{row:Option Nat}(h:hF w b S)(d:w.grownBy c row)(a:some b≠row):hF c b S:=World.ownsMap.kept h d a
theorem hF.fr{w d:Λ}{b:Nat}{S:List Γ}{T:List Nat}(h:hF w b S)(i:Fr T w d)(g:b∉T):hF d b S:=by
 obtain ⟨e,a,c,f⟩:=h
 exact ⟨e,a,by rw [i.block b (U9.1 c).1 g]; exact c,f⟩
theorem hF.zZ{w:Λ}{b b':Nat}{S:List Γ}{t:Υ}{l:Ξ}(h:hF w b S)(c:At w b' t l):b≠b':=by
 rintro rfl
 obtain ⟨e,a,d,_⟩:=h
 unfold At at c
 rw [d] at c
 cases c
theorem Fk(p:Γ)(a:p.length<=maxLen):keyOf Tryz.prog 9 (vS p)=some (.string p):=by
 grind [bL,ByteArray.size,WideMaps.keyOf_string_mk,Tryz.underlying9]
theorem Kb(u z:DataW Unit)(p:Γ):∀ a:List Γ,(setOf u (a.reverse.map Lit.string)).atKey (.string p) z=if a.contains p then u else z
 | []=>rfl
 | x::a=>by
  have d:Maps.IsMap (setOf u (a.reverse.map Lit.string)):=(Maps.tidy_setOf u _ (by intro y f; obtain ⟨q,_,rfl⟩:=Y9.1 f; exact True.intro)).isMap
  rw [List.reverse_cons,U1,X4,Y8,Maps.setOf_snoc]
  by_cases b:p=x
  .subst b
   have c:WideAt.IsKeyLit (Lit.string p):=True.intro
   rw [Maps.atKey_put_same d c]
   simp
  .rw [Maps.atKey_put_other (λe=>b (by injection e)),Kb u z p a]
   have:(p == x)=false:=by simpa using b
   simp only [List.contains_cons,this,AD1]
theorem hF.lookup{w:Λ}{b:Nat}{S:List Γ}(h:hF w b S)(p:Γ)(g:p.length<=maxLen):
  (Instr.lookup 111 (.map (some b)) (vS p) false).run Tryz.prog w = .ok (.bool (S.contains p)) w:= by
 have f:Tryz.prog.underlying 4=some .bool:=y8
 obtain ⟨v,i,c,a⟩:=World.ownsMap.lookup h (AFe V7) ACi (z:=.bool false) (by kernel_rfl) (plainElem_bool f false) (Fk p g)
 have e:=Kb (.lit (.bool true)) (.lit (.bool false)) p S.reverse
 rw [List.reverse_reverse,List.contains_reverse] at e
 rw [e] at a
 rw [c]
 unfold plainElem at a
 rw [f] at a
 cases v with
 | bool x =>
  simp only [V4,e7] at a
  cases d:S.contains p with
  | true=>rw [d] at a; simp at a; rw [a.1]
  | false=>rw [d] at a; simp at a; rw [a.1]
 | _=>simp at a
theorem hF.PX{w:Λ}{b:Nat}{S:List Γ}{p:Γ}(h:w.ownsMap (H:=Unit) Tryz.prog 9 (plainElem Tryz.prog 4) b (S.length+1) ((setOf (.lit (.bool true)) (S.map Lit.string)).put (.string p) (.lit (.bool true)))):hF w b (S++[p]):=by
 grind [hF,Maps.setOf_snoc]
def aP(b:Nat)(S:List (List UInt8)):Ch where
 fp:=[b]
 holds w:=hF w b S
 ok w w' hb h:=by
  obtain ⟨es,clock,h1,h2⟩:=h
  exact ⟨es,clock,(hb b (by simp)).trans h1,h2⟩
 lt w h c hc:=by
  rw [List.mem_singleton] at hc
  subst hc
  exact h.lt
section
variable {Q:Exit -> Act -> World -> Prop}{n:Nat}{w0:World}{F:List Nat}{E:eH}{cs:List Ch}{X K:Act -> World -> Prop}{o:Oper}{d:Nat}
theorem rC{t:Υ}(f:o.op = .makeMap t none)(c:o.dst=some d)(e:dH n E o=true)(h:∀ b,St n w0 F ((d,.map (some b))::E) (cs++[aP b []]) K):eK Tryz.prog Q n w0 F E cs o K :=
 pH c e λw a=>by
  refine ⟨_,_,_,?_,a.push ((Fr.refl _ _).alloc _) (hF.new w) (by simp [aP]) (by simp [aP]),h _⟩
  unfold execOp
  simp only [f]
  rfl
theorem Sb{x y:Operand}{b:Nat}{S:List Γ}{p:Γ}(i:Nat)(c:o.op = .lookup 111 x y false)(f:bA E x=some (.map (some b)))(g:bA E y=some (vS p))(hi:cs[i]?=some (aP b S))(j:p.length<=1099511627776):eD Tryz.prog w0 F cs E o (.bool (S.contains p)):=λw a=>by
 have h:hF w b S:=a.at hi
 have e:=h.lookup p (by unfold maxLen; omega)
 unfold execOp
 simp only [c,cU f,cU g,P5,e]
 rfl
theorem Fl{x y v:Operand}{b:Nat}{S:List Γ}{p:Γ}(i)(u:o.op = .mapUpdate 111 x y v)(q:o.dst=none)(s:dH n E o=true)(B:bA E x=some (.map (some b)))(D:bA E y=some (vS p))(A:bA E v=some bT)(hi:cs[i]?=some (aP b S))(N:p.length<=1099511627776)(L:S.length<=1099511627776)(h:St n w0 F E (cs.set i (aP b (S++[p]))) K):eK Tryz.prog Q n w0 F E cs o K :=
 Em q s λw j=>by
  have z:hF w b S:=j.at hi
  obtain ⟨l,a,H,f⟩:=World.ownsMap.update z (AFe V7) ACi (by unfold maxLen; omega) (Fk p (by unfold maxLen; omega)) (plainElem_bool Tryz.underlying4 true)
  have r:Fr (aP b S).fp w l:=⟨f.os,f.tape,f.output,f.size,λk g t=>f.block k g (λe=>by
   injection e with e
   exact t (by simp [aP,e]))⟩
  refine ⟨l,_,?_,j.swap i hi (c':=aP b (S++[p])) r (hF.PX H) (λc m=>.inl m) (by simp [aP]),h⟩
  unfold execOp
  simp only [u,cU B,cU D,cU A,P5,a]
  rfl
end
end
section
theorem Fm{l:List Bool}{i:Nat}{b:Bool}(h:l[i]?=some b):(BB l)[i]?=some (.bool b):=by simp [BB,h]
theorem Kc(l i b):(BB l).set i (.bool b)=BB (l.set i b):=by simp [BB,si]
theorem Sc(n):madeCells #[.bool false] (n*1)=(BB (List.replicate n false)).toArray:=by
 apply AE4
 intro i
 rw [show (BB (List.replicate n false)).toArray[i]?=(BB (List.replicate n false))[i]? from List.getElem?_toArray ..]
 by_cases h:i < n
 .have a:(madeCells #[.bool false] (n*1))[i]?=some (#[Value.bool false][i % 1]!):=by
   unfold madeCells
   rw [Array.getElem?_map,Array.getElem?_range,P1 (by omega)]
   rfl
  rw [a,Nat.mod_one]
  simp [BB,h]
 .rw [y6 (by rw [size_madeCells]; omega),Y7 (by simp [BB]; omega)]
abbrev L9:Value:=.bool false
theorem Se(n:Nat)(f:n<=3072)(w):(Instr.makeSlice 216 (C (n:Int)) (C (n:Int))).run Tryz.prog w = .ok (ql w.heap.size n n) (w.alloc (.cells (BB (List.replicate n false)).toArray 4)):= by
 have a:(Tryz.prog.info? 4).map (λi=>(i.zero,i.size,i.bytes))=some (some L9,1,1):=by kernel_rfl
 obtain ⟨i,d,e,c,b⟩:=AA6 a
 have:=run_make (P:=Tryz.prog) w 216 4 i _ Tryz.underlying216 d e .i64 .i64 (n:Int) (n:Int) (by omega) (by omega) (by rw [b]; omega) (by omega)
 rw [c,k6] at this
 rw [this,<- Sc]
 rfl
def As(w:World)(A1 A2:Option Addr):Prop:=(∀ a,A1=some a -> w.heap.size <= a.block) /\ (∀ a,A2=some a -> w.heap.size <= a.block) /\ ∀ a b,A1=some a -> A2=some b -> a.block≠b.block
theorem Ke{w h:Λ}{e i:Υ}{sz n c f c':Nat}{A A':Δ}{xs o:Ξ}(j:h.ownsRow w.heap.size e sz (.slice A n c) n xs)(k:h.ownsRow w.heap.size i sz (.slice A' f c') f o)(m:∀ g,(Value.slice A n c).ownBlock=some g->(Value.slice A' f c').ownBlock≠some g):As w A A':=by
 refine ⟨λa d=>?_,λa d=>?_,λa b d l e=>?_⟩
 .subst d; exact (j.lt _ I).1
 .subst d; exact (k.lt _ I).1
 .subst d l; exact m _ I (by rw [e]; rfl)
def Sf(t:BT)(w:World)(e:Ending)(w':World):Prop :=
 Fr [] w w' /\ match t.keys with
  | none=>e = .returned (.tuple #[.slice none 0 0,.slice none 0 0,Value.int .i64 10])
  | some p=>∃ A1 c1 A2 c2,e = .returned (.tuple #[.slice A1 p.1.length c1,.slice A2 p.2.length c2,Value.int .i64 0]) /\ aI w' A1 (p.1.map aZ) /\ aI w' A2 (p.2.map aZ) /\ As w A1 A2
structure KS (w wx:World) (bt bc cap:Nat) (rest:List Value) (bp bm:Nat) (v9 v10:Value) (t:BT) (pl:List Bool) (tk ad rm:List (List UInt8)):Prop where
 fr:Fr [] w wx
 tab:gF wx bt bc cap rest t
 pur:At wx bp 4 (BB pl)
 set:hF wx bm tk.reverse
 add:wx.ownsRow w.heap.size 9 1 v9 ad.length (ad.map aZ)
 rem:wx.ownsRow w.heap.size 9 1 v10 rm.length (rm.map aZ)
 sep:v9.ownBlock=none \/ v9.ownBlock≠v10.ownBlock
 lt:w.heap.size <= bt
 lc:w.heap.size <= bc
 lp:w.heap.size <= bp
 lm:w.heap.size <= bm
theorem qI{w:Λ}{a:Nat}{e t:Υ}{sz n:Nat}{v:Ω}{xs l:Ξ}{b:Nat}(h:w.ownsRow a e sz v n xs)(c:At w b t l)(d:e≠t):some b≠v.ownBlock:=by
 intro f
 rcases h.2 with ⟨rfl,_⟩ | ⟨g,cap,i,rfl,_,j,_⟩
 .simp [Value.ownBlock] at f
 .have:some b=some g:=f
  injection this with this
  subst this
  unfold At at c
  rw [j] at c
  simp only [V4,Obj.cells.injEq] at c
  exact d c.2.1
theorem Cv{w:Λ}{a:Nat}{e:Υ}{sz n:Nat}{v:Ω}{xs:Ξ}{b:Nat}{S:List Γ}(h:w.ownsRow a e sz v n xs)(j:hF w b S):some b≠v.ownBlock:=by
 intro f
 rcases h.2 with ⟨rfl,_⟩ | ⟨g,cap,i,rfl,_,k,_⟩
 .simp [Value.ownBlock] at f
 .have:some b=some g:=f
  injection this with this
  subst this
  obtain ⟨l,c,d,_⟩:=j
  rw [k] at d
  cases d
theorem At.grown{w c:Λ}{b:Nat}{t:Υ}{l:Ξ}{row:Option Nat}(h:At w b t l)(d:w.grownBy c row)(a:some b≠row):At c b t l:=(d.block b h.lt a).trans h
theorem gF.grown{w d:Λ}{b a cap:Nat}{rest:Ξ}{t:BT}{row:Option Nat}(h:gF w b a cap rest t)(c:w.grownBy d row)(e:some b≠row)(f:some a≠row):gF d b a cap rest t :=
 ⟨h.tab.grown c e,h.cells.grown c f,h.ok,h.size,h.cap⟩
section
variable {w wx w':World}{bt bc cap:Nat}{rest:List Value}{bp bm:Nat}{v9 v10:Value}{t:BT}{pl:List Bool}{tk ad rm:List (List UInt8)}
theorem KS.eW(h:KS w wx bt bc cap rest bp bm v9 v10 t pl tk ad rm)(a:Fr [] wx w'):KS w w' bt bc cap rest bp bm v9 v10 t pl tk ad rm :=
 ⟨h.fr.trans a,h.tab.fr a si si,h.pur.fr a si,h.set.fr a si,gC h.add a si,gC h.rem a si,h.sep,h.lt,h.lc,h.lp,h.lm⟩
theorem KS.map{key:Γ}(h:KS w wx bt bc cap rest bp bm v9 v10 t pl tk ad rm)(a:wx.grownBy w' (some bm))(c:hF w' bm (tk.reverse++[key])):KS w w' bt bc cap rest bp bm v9 v10 t pl (key::tk) ad rm:=by
 have d:=h.set.zZ h.tab.tab
 have f:=h.set.zZ h.tab.cells
 have i:=h.set.zZ h.pur
 have lm:=h.lm
 refine ⟨h.fr.grown a zg,h.tab.grown a zg zg,h.pur.grown a zg,
  by grind,h.add.kept a ?_,h.rem.kept a ?_,h.sep,h.lt,h.lc,h.lp,h.lm⟩
 .cases b:v9.ownBlock with
  | none=>grind
  | some g=>exact .inr (λe=>Cv h.add h.set (by grind))
 .cases b:v10.ownBlock with
  | none=>grind
  | some g=>exact .inr (λe=>Cv h.rem h.set (by grind))
theorem Kf{a:Nat}{e:Υ}{sz n:Nat}{v:Ω}{xs:Ξ}(h:wx.ownsRow a e sz v n xs):∀ k,v.ownBlock=some k->a<=k:=λk b=>(h.lt k b).1
theorem KS.acG{a:Ω}{key:Γ}(h:KS w wx bt bc cap rest bp bm v9 v10 t pl tk ad rm)(c:w'.ownsRow w.heap.size 9 1 a (ad.length+1) (ad.map aZ++[aZ key]))(b:wx.grownBy w' v9.ownBlock)(i:a.ownBlock=v9.ownBlock\/a.ownBlock=some (wx.heap.size+1)):
  KS w w' bt bc cap rest bp bm a v10 t pl tk (ad++[key]) rm:=by
 have l:w'.ownsRow w.heap.size 9 1 v10 rm.length (rm.map aZ):=by
  refine h.rem.kept b ?_
  cases j:v10.ownBlock with
  | none=>exact .inl I
  | some g =>
   refine .inr (λe=>?_)
   rcases h.sep with d | d
   .rw [d] at e; cases e
   .exact d (by rw [j]; exact e.symm)
 refine ⟨h.fr.grown b (λk e=>.inr (Kf h.add k e)),h.tab.grown b (qI h.add h.tab.tab (by decide)) (qI h.add h.tab.cells (by decide)),h.pur.grown b (qI h.add h.pur (by decide)),h.set.grown b (Cv h.add h.set),by rw [C3,U1]; exact c,l,?_,h.lt,h.lc,h.lp,h.lm⟩
 rcases i with e | e
 .rw [e]; exact h.sep
 .refine .inr ?_
  rw [e]
  intro f
  have:=(h.rem.lt _ f.symm).2
  omega
theorem KS.acH{a:Ω}{key:Γ}(h:KS w wx bt bc cap rest bp bm v9 v10 t pl tk ad rm)(d:w'.ownsRow w.heap.size 9 1 a (rm.length+1) (rm.map aZ++[aZ key]))(c:wx.grownBy w' v10.ownBlock)(j:a.ownBlock=v10.ownBlock\/a.ownBlock=some (wx.heap.size+1)):
  KS w w' bt bc cap rest bp bm v9 a t pl tk ad (rm++[key]):=by
 have l:w'.ownsRow w.heap.size 9 1 v9 ad.length (ad.map aZ):=by
  refine h.add.kept c ?_
  cases f:v9.ownBlock with
  | none=>exact .inl I
  | some g =>
   refine .inr (λe=>?_)
   rcases h.sep with b | b
   .rw [b] at f; cases f
   .exact b (by rw [f]; exact e)
 refine ⟨h.fr.grown c (λk e=>.inr (Kf h.rem k e)),h.tab.grown c (qI h.rem h.tab.tab (by decide)) (qI h.rem h.tab.cells (by decide)),h.pur.grown c (qI h.rem h.pur (by decide)),h.set.grown c (Cv h.rem h.set),l,by rw [C3,U1]; exact d,?_,h.lt,h.lc,h.lp,h.lm⟩
 rcases j with e | e
 .rcases h.sep with b | b
  .exact .inl b
  .exact .inr (by rw [e]; exact b)
 .cases f:v9.ownBlock with
  | none=>exact .inl I
  | some g =>
   refine .inr ?_
   rw [e]
   intro i
   injection i with i
   have:=(h.add.lt _ f).2
   omega
theorem KS.PY{t':BT}(h:KS w wx bt bc cap rest bp bm v9 v10 t pl tk ad rm)(hf:Fr [bc] wx w')(ht:gF w' bt bc cap rest t'):KS w w' bt bc cap rest bp bm v9 v10 t' pl tk ad rm:=by
 have lc:=h.lc
 have n1:bp≠bc:=h.pur.ne h.tab.cells (by decide)
 have n2:=h.set.zZ h.tab.cells
 refine ⟨h.fr.trans' hf (by grind),ht,h.pur.fr hf (su n1),h.set.fr hf (su n2),gC h.add hf ?_,gC h.rem hf ?_,h.sep,h.lt,h.lc,h.lp,h.lm⟩
 .intro g hg hm
  simp at hm
  subst hm
  exact qI h.add h.tab.cells (by decide) hg.symm
 .intro g hg hm
  simp at hm
  subst hm
  exact qI h.rem h.tab.cells (by decide) hg.symm
theorem KS.PZ(h:KS w wx bt bc cap rest bp bm v9 v10 t pl tk ad rm)(i b):KS w (wx.setCell ⟨bp,i,none⟩ (.bool b)) bt bc cap rest bp bm v9 v10 t (pl.set i b) tk ad rm:=by
 have lp:=h.lp
 have n1:bt≠bp:=h.tab.tab.ne h.pur (by decide)
 have n2:bc≠bp:=h.tab.cells.ne h.pur (by decide)
 have n3:=h.set.zZ h.pur
 have hf:Fr [bp] wx (wx.setCell ⟨bp,i,none⟩ (.bool b)):=(Fr.refl _ _).setCell si _
 refine ⟨h.fr.setCell zg _,h.tab.fr hf (su n1) (su n2),by rw [<- Kc]; exact h.pur.set i _,h.set.fr hf (su n3),gC h.add hf ?_,gC h.rem hf ?_,h.sep,h.lt,h.lc,h.lp,h.lm⟩
 .intro g hg hm
  simp at hm
  subst hm
  exact qI h.add h.pur (by decide) hg.symm
 .intro g hg hm
  simp at hm
  subst hm
  exact qI h.rem h.pur (by decide) hg.symm
end
theorem Au{w : World}{base n c : Nat}{A : Option Addr}{ss : List (List UInt8)}(h : w.ownsRow base 9 1 (.slice A n c) n (ss.map aZ))(hn : n = ss.length)(hl : n <= 3072):
  Calls Tryz.prog 142 #[.slice A n c] w λe w' => e = .returned (.tuple #[]) /\ Fr (Value.slice A n c).ownBlock.toList w w' /\ aI w' A ((lU ss).map aZ) := by
 by_cases h0 : n = 0
 .subst h0
  have e : ss = [] := List.eq_nil_of_length_eq_zero hn.symm
  subst e
  refine (Tryz.slices_Sort_string_none A c w).mono ?_
  rintro e w' ⟨rfl, rfl⟩
  exact ⟨rfl, Fr.refl _ _, λi u hu => by simp [lU] at hu⟩
 .obtain ⟨g, cap, rest, hv, _, _, ha, _, _⟩ := IJ h (by omega)
  simp only [Value.slice.injEq] at hv
  obtain ⟨rfl, _, rfl⟩ := hv
  subst hn
  refine (Sa g c ss rest 9 w ha (by omega)).mono ?_
  rintro e w' ⟨rfl, hf, ha'⟩
  refine ⟨rfl, hf, λi u hu => ⟨g, 0, rfl, ha'.lt, ?_⟩⟩
  rw [Nat.zero_add, ha'.cell, List.getElem?_append_left (List.getElem?_eq_some_iff.1 hu).1]
  exact hu
theorem KS.BJ{w i:Λ}{m j cap:Nat}{rest:Ξ}{l k:Nat}{A9:Δ}{a f:Nat}{b:Ω}{t:BT}{n:List Bool}{p d o:List Γ}(h:KS w i m j cap rest l k (.slice A9 a f) b t n p d o):i.ownsRow w.heap.size 9 1 (.slice A9 a f) a (d.map aZ):=by
 obtain ⟨A,c,e⟩:=lC h.add
 simp only [R6] at e
 have g:=h.add
 rw [<- e.2.1] at g
 exact g
theorem KS.DW{w g:Λ}{m j cap:Nat}{rest:Ξ}{l k:Nat}{A10:Δ}{a b:Nat}{p:Ω}{t:BT}{n:List Bool}{o i f:List Γ}(h:KS w g m j cap rest l k p (.slice A10 a b) t n o i f):g.ownsRow w.heap.size 9 1 (.slice A10 a b) a (f.map aZ):=by
 obtain ⟨A,c,e⟩:=lC h.rem
 simp only [R6] at e
 have d:=h.rem
 rw [<- e.2.1] at d
 exact d
theorem Kg{w c f:Λ}{v:Ω}{e:Υ}{sz n:Nat}{xs:Ξ}(i:Fr [] w c)(h:c.ownsRow w.heap.size e sz v n xs)(a:Fr v.ownBlock.toList c f):Fr [] w f:=by
 refine i.trans' a (λx b=>.inr ?_)
 cases d:v.ownBlock with
 | none=>grind
 | some g =>
   rw [d] at b
   simp at b
   subst b
   exact (h.lt x d).1
theorem KS.Qa{w l c:Λ}{p m cap:Nat}{rest:Ξ}{o n:Nat}{A9 A10:Δ}{d f a b:Nat}{t:BT}{u:List Bool}{x e j:List Γ}(h:KS w l p m cap rest o n (.slice A9 d f) (.slice A10 a b) t u x e j)(_:d=e.length)(_:a=j.length)(k:Fr (Value.slice A9 d f).ownBlock.toList l c)(s:aI c A9 ((lU e).map aZ)):Fr [] w c/\aI c A9 ((lU e).map aZ)/\c.ownsRow w.heap.size 9 1 (.slice A10 a b) a (j.map aZ):=by
 refine ⟨Kg h.fr h.add k,s,gC h.DW k ?_⟩
 intro g z i
 cases r:(Value.slice A9 d f).ownBlock with
 | none=>grind
 | some y =>
   rw [r] at i
   simp at i
   subst i
   rcases h.sep with q | q
   .grind
   grind
theorem Kh{w j i:Λ}{A9 A10:Δ}{q r a c:Nat}{t:List Γ}{xs p:Ξ}(l:Fr [] w j)(h:j.ownsRow w.heap.size 9 1 (.slice A10 a c) a (t.map aZ))(f:∀ g,(Value.slice A9 q r).ownBlock=some g->(Value.slice A10 a c).ownBlock≠some g)(s:aI j A9 xs)(n:Fr (Value.slice A10 a c).ownBlock.toList j i)(m:aI i A10 p):Fr [] w i/\aI i A9 xs/\aI i A10 p:=by
 refine ⟨Kg l h n,s.fr n ?_,m⟩
 intro b o e d
 subst e
 cases k:(Value.slice A10 a c).ownBlock with
 | none=>rw [k] at d; simp at d
 | some g =>
  rw [k] at d
  simp at d
  subst d
  exact f b I k
theorem Sg{t:BT}{i:Nat}{c:BC}(a:t.cells[i]?=some c):(BB (t.eJ.take i++List.replicate (t.cells.length - i) false)).set i (.bool (c.pure t.seed))=BB (t.eJ.take (i+1)++List.replicate (t.cells.length - (i+1)) false):=by
 have h:=(C4.1 a).1
 have g:=BT.Ix a
 obtain ⟨d,b⟩:=C4.1 g
 have e:(t.eJ.take i).length=i:=by rw [I8]; omega
 rw [Kc,V3 _ _ (by omega),e,W6]
 obtain ⟨m,f⟩:∃ m,t.cells.length - i=m+1:=⟨t.cells.length - i - 1,by omega⟩
 rw [f,AA8,Z7,show t.cells.length - (i+1)=m by omega,O5 d,b,D1]
 rfl
set_option maxHeartbeats 8000000 in
theorem Ki(bt0 bc0 cap0 rest0 t w)(hv:eG w)(ht:gF w bt0 bc0 cap0 rest0 t):
  Calls Tryz.prog 103 #[Z bt0 0] w (Sf t w):=by
 obtain ⟨n,HN⟩:∃ n,Hid (n=t.cells.length):=⟨_,rfl⟩
 have hb:=jQ ht.size
 have n3:3<=n:=by rw [HN.out]; exact hb.1
 have n4:n<=3072:=by rw [HN.out]; exact hb.2.1
 have H:=D3 (And.intro hv ht)
 have HCL:=D3 (JY bt0 bc0 cap0 rest0 t w ht)
 clear hb hv ht
 have hmb:=Se n n4
 go_enter Tryz.func103,Tryz.ntmps103
 go_wp2_with fail
 refine HCL.out.mono ?_
 rintro e w1 ⟨bt,bc,cap,rest,rfl,hbt,hbc,hf1,ht1⟩
 have H1:=D3 (And.intro hf1 ht1)
 have q0:w1.cell? ⟨bt,0,none⟩=some (ql bc n cap):=by rw [ht1.tab.cell,HN.out]; rfl
 have hbtl:=ht1.tab.lt
 have hbcl:=ht1.cells.lt
 clear hf1 ht1 HCL
 go_wp2_with fail
 obtain ⟨bp,hbp⟩:∃ bp,bp=w1.heap.size:=⟨_,rfl⟩
 rw [<- hbp]
 have HL0:Hid (Fr [] w1 (w1.alloc (.cells (BB (List.replicate n false)).toArray 4))/\At (w1.alloc (.cells (BB (List.replicate n false)).toArray 4)) bp 4 (BB (t.eJ.take 0++List.replicate (t.cells.length - 0) false))) :=
  ⟨(Fr.refl _ _).alloc _,by rw [hbp,<- HN.out]; exact At.new _ _ _⟩
 obtain ⟨W0,HW0⟩:∃ W0,Hid (W0=w1.alloc (.cells (BB (List.replicate n false)).toArray 4)):=⟨_,rfl⟩
 rw [<- HW0.out] at HL0 ⊢
 have hbpl:w.heap.size<=bp:=by rw [hbp]; exact H1.out.1.size
 have hbpt:bt < bp:=by rw [hbp]; exact hbtl
 have hbpw:w1.heap.size<=bp:=U
 have hbpc:bc < bp:=by rw [hbp]; exact hbcl
 clear hmb HW0 q0 hbp
 go_wp2_with fail
 go_loopw [26] (λs wx=>∃ i:Nat,i<=n/\s = .int .i64 i/\Hid (Fr [] w1 wx/\At wx bp 4 (BB (t.eJ.take i++List.replicate (t.cells.length - i) false)))) (λs _=>n - (intOf s).toNat)
 case atStart=>exact ⟨0,by omega,rfl,HL0⟩
 case round =>
  obtain ⟨i,hi,rfl,HR⟩:=hrel
  by_cases hlt:i < n
  .obtain ⟨c,hc⟩:=gk t.cells i (by rw [<- HN.out]; exact hlt)
   have HP:=D3 (Fj bt bc cap rest t i c wr (H.out.1.fr (H1.out.1.trans HR.out.1) si si) (H1.out.2.fr HR.out.1 si si) hc)
   have HST:=D3 (Sg hc)
   obtain ⟨b,HB⟩:∃ b,Hid (b=c.pure t.seed):=⟨_,rfl⟩
   rw [<- HB.out] at HP HST
   have hiI:(i:Int) < (n:Int):=U
   clear hc
   go_wp2_with fail
   refine HP.out.mono ?_
   rintro e w2 ⟨rfl,hf2⟩
   have HR2:Hid (Fr [] w1 w2/\At w2 bp 4 (BB (t.eJ.take i++List.replicate (t.cells.length - i) false))):=⟨HR.out.1.trans hf2,HR.out.2.fr hf2 si⟩
   have cz:∃ z,w2.cell? ⟨bp,i,none⟩=some (.bool z):=by
    refine ⟨false,?_⟩
    rw [HR2.out.2.cell]
    apply Fm
    rw [T8 (by rw [I8,BT.uL]; omega),I8,BT.uL,s9,P1 (by rw [<- HN.out]; omega)]
   obtain ⟨z,cz⟩:=cz
   have fz:=HR2.out.2.frozen i
   have HNN:Hid (Fr [] w1 (w2.setCell ⟨bp,i,none⟩ (.bool b))/\At (w2.setCell ⟨bp,i,none⟩ (.bool b)) bp 4 (BB (t.eJ.take (i+1)++List.replicate (t.cells.length - (i+1)) false))):=by
    exact ⟨HR2.out.1.setCell (.inr hbpw) _,by rw [<- HST.out]; exact HR2.out.2.set i _⟩
   clear hf2 HP
   go_wp2_with fail
   go_roundw
   case rel =>
    first
     | exact ⟨i+1,by omega,by go_num,HNN⟩
     | ((repeat apply Exists.intro); exact ⟨⟨i+1,by omega,by go_num,HNN⟩,rfl⟩)
   case measure=>simp [intOf] <;> omega
  .obtain rfl:i=n:=U
   have HZ:Hid (Fr [] w wr/\gF wr bt bc cap rest t/\At wr bp 4 (BB t.eJ)):=by
    refine ⟨H1.out.1.trans HR.out.1,H1.out.2.fr HR.out.1 si si,?_⟩
    have h1:=HR.out.2
    rw [<- HN.out,W6,List.replicate_zero,O4,U2 (by rw [BT.uL,<- HN.out]; exact J7 _)] at h1
    exact h1
   obtain ⟨wa,HWA⟩:∃ wa,Hid (wa=wr):=⟨_,rfl⟩
   rw [<- HWA.out] at HZ ⊢
   clear HWA HR
   have hmm:=@run_makeMap Tryz.prog
   have q0:wa.cell? ⟨bt,0,none⟩=some (ql bc i cap):=by rw [HZ.out.2.1.tab.cell,HN.out]; rfl
   have hbta:=HZ.out.2.1.tab.lt
   have hnem:wa.heap.size≠bt:=U
   have hnem':bt≠wa.heap.size:=U
   go_wp2_with fail
   obtain ⟨bm,hbm⟩:∃ bm,bm=wa.heap.size:=⟨_,rfl⟩
   rw [<- hbm]
   have HK0:Hid (KS w (wa.alloc (.map #[] 0)) bt bc cap rest bp bm nS nS t t.eJ [] [] []):=by
    refine ⟨HZ.out.1.alloc _,HZ.out.2.1.fr ((Fr.refl [] _).alloc _) si si,HZ.out.2.2.alloc _,by rw [hbm]; exact hF.new wa,⟨rfl,.inl ⟨rfl,rfl⟩⟩,⟨rfl,.inl ⟨rfl,rfl⟩⟩,.inl rfl,hbt,hbc,hbpl,?_⟩
    rw [hbm]
    exact HZ.out.1.size
   generalize wa.alloc (.map #[] 0)=W0 at HK0 ⊢
   clear hmm q0 hbta hnem hnem' hbm HZ
   obtain ⟨n,hni⟩:∃ n,n=i:=⟨_,rfl⟩
   rw [<- hni]
   subst hni
   go_loopw [9,10,42] (λv9 v10 s42 wx=>∃ (k:Nat) (A9:Δ) (a9 c9:Nat) (A10:Δ) (a10 c10:Nat) (s:gE),k<=n/\s42 = .int .i64 k/\v9 = .slice A9 a9 c9/\v10 = .slice A10 a10 c10/\a9<=k/\a10<=k/\s.taken.length<=k /\
    Hid (a9=s.added.length/\a10=s.removed.length/\s.t.cells.length=n/\s.t.seed=t.seed/\KS w wx bt bc cap rest bp bm v9 v10 s.t s.t.eJ s.taken s.added s.removed/\iM n ⟨t,[],[],[]⟩=iM (n - k) s)) (λ_ _ s42 _=>n - (intOf s42).toNat)
   case atStart=>exact ⟨0,none,0,0,none,0,0,⟨t,[],[],[]⟩,by omega,rfl,rfl,rfl,by omega,by omega,by simp,rfl,rfl,HN.out.symm,rfl,HK0.out,rfl⟩
   case round =>
    obtain ⟨k,A9,a9,c9,A10,a10,c10,s,hk,rfl,rfl,rfl,ha9,ha10,htk,HR⟩:=hrel
    obtain ⟨wo,HWO⟩:∃ wo,Hid (wo=wr):=⟨_,rfl⟩
    rw [<- HWO.out] at HR ⊢
    clear HWO
    by_cases hlt:k < n
    .have HI:Hid (Calls Tryz.prog 152 #[ql bp n n,.bool true] wo λe w'=>e = .returned (Value.int .i64 (sQ s.t.eJ))/\wo=w'):=by
      have h1:=RW bp n s.t.eJ wo HR.out.2.2.2.2.1.pur (by rw [BT.uL,HR.out.2.2.1]; exact n4)
      rw [BT.uL,HR.out.2.2.1] at h1
      exact h1
     have hkI:(k:Int) < (n:Int):=U
     cases hfst:s.t.first with
     | none =>
       have hix:sQ s.t.eJ = -1:=by rw [BT.PQ] at hfst; unfold sQ; rw [hfst]
       rw [hix] at HI
       have HPE:Hid (iM n ⟨t,[],[],[]⟩=some s):=by show _=_; rw [HR.out.2.2.2.2.2]; exact JR _ s hfst
       clear hix hfst
       go_wp2_with fail
       refine HI.out.mono ?_
       rintro e w2 ⟨rfl,rfl⟩
       have HEM:=D3 (Ka bt bc cap rest s.t wo HR.out.2.2.2.2.1.tab)
       go_wp2_with fail
       refine HEM.out.mono ?_
       rintro e w3 ⟨rfl,hf3⟩
       have HK3:Hid (KS w w3 bt bc cap rest bp bm (.slice A9 a9 c9) (.slice A10 a10 c10) s.t s.t.eJ s.taken s.added s.removed):=HR.out.2.2.2.2.1.eW hf3
       clear hf3 HEM
       cases hem:s.t.empty with
       | false =>
         have HRES:Hid (t.keys=none):=by show _=_; unfold BT.keys BT.raw; rw [<- HN.out,HPE.out]; simp [hem]
         go_wp2_with fail
         go_ret3
         exact ⟨HK3.out.fr,by rw [HRES.out]; rfl⟩
       | true =>
         have HRES:Hid (t.keys=some (dG s.added,dG s.removed)):=by show _=_; unfold BT.keys BT.raw; rw [<- HN.out,HPE.out]; simp [hem]
         have HS1:=D3 (Au HK3.out.BJ HR.out.1 U)
         go_wp2_with fail
         refine HS1.out.mono ?_
         rintro e w4 ⟨rfl,hf4,hr4⟩
         have HO4:Hid (Fr [] w w4/\aI w4 A9 ((lU s.added).map aZ)/\w4.ownsRow w.heap.size 9 1 (.slice A10 a10 c10) a10 (s.removed.map aZ)):=HK3.out.Qa HR.out.1 HR.out.2.1 hf4 hr4
         have HSEP:Hid (∀ g,(Value.slice A9 a9 c9).ownBlock=some g->(Value.slice A10 a10 c10).ownBlock≠some g):=λg hg e=>HK3.out.sep.elim (λh0=>by rw [h0] at hg; cases hg) (λh0=>h0 (by rw [hg,e]))
         have HFR:Hid (As w A9 A10):=Ke HK3.out.BJ HK3.out.DW HSEP.out
         have HS2:=D3 (Au HO4.out.2.2 HR.out.2.1 U)
         clear hf4 hr4 HS1
         go_wp2_with fail
         refine HS2.out.mono ?_
         rintro e w5 ⟨rfl,hf5,hr5⟩
         have HO5:Hid (Fr [] w w5/\aI w5 A9 ((lU s.added).map aZ)/\aI w5 A10 ((lU s.removed).map aZ)):=Kh HO4.out.1 HO4.out.2.2 HSEP.out HO4.out.2.1 hf5 hr5
         clear hf5 hr5 HS2
         go_wp2_with fail
         go_ret3
         refine ⟨HO5.out.1,?_⟩
         rw [HRES.out]
         refine ⟨A9,c9,A10,c10,?_,HO5.out.2.1,HO5.out.2.2,HFR.out⟩
         show _=Ending.returned (.tuple #[.slice A9 (lU s.added).length c9,.slice A10 (lU s.removed).length c10,C 0])
         rw [Ar,Ar,<- HR.out.1,<- HR.out.2.1]
         rfl
     | some i =>
       have hix:sQ s.t.eJ=(i:Int):=by rw [BT.PQ] at hfst; unfold sQ; rw [hfst]
       rw [hix] at HI
       obtain ⟨c,hc,hcp,hca⟩:=EZ hfst
       have hcok:=HR.out.2.2.2.2.1.tab.ok.cells c (F0 hc)
       have hin:i < n:=by rw [<- HR.out.2.2.1]; exact (C4.1 hc).1
       have hinI:(i:Int) < (n:Int):=U
       obtain ⟨L,HL⟩:∃ L,Hid (L=c.cells):=⟨_,rfl⟩
       obtain ⟨key,HKEY⟩:∃ key,Hid (key=c.keys):=⟨_,rfl⟩
       have HKL:Hid (key.length=32):=by show key.length=32; rw [HKEY.out]; exact hcok.keys
       have hbcl:=HR.out.2.2.2.2.1.tab.cells.lt
       have hbtl:=HR.out.2.2.2.2.1.tab.tab.lt
       have HLX:Hid (L.length=34/\(∀ v∈L,v.oneCell'=true)/\∀ j v,L[j]?=some v->wo.cell? ⟨bc,i*34+j,none⟩=some v):=by
        show _/\_/\_
        rw [HL.out]
        refine ⟨BC.cells_len hcok,λv hv=>yK (l:=[c]) v (by simpa [bU] using hv),λj v hj=>?_⟩
        have hj34:=(C4.1 hj).1
        rw [BC.cells_len hcok] at hj34
        rw [HR.out.2.2.2.2.1.tab.cells.cell,mW HR.out.2.2.2.2.1.tab.ok.cells rest i c hc j hj34]
        exact hj
       have q0:wo.cell? ⟨bt,0,none⟩=some (ql bc n cap):=by rw [HR.out.2.2.2.2.1.tab.tab.cell,<- HR.out.2.2.1]; rfl
       obtain ⟨m,hm⟩:∃ m,n - k=m+1:=⟨n - k - 1,U⟩
       have HF:=D3 (And.intro hfst (And.intro hc (And.intro hca (And.intro hcok hm))))
       have hcnt:=Fa hcp
       clear hix hfst hc hca hcok hm hcp
       go_wp2_with fail
       refine HI.out.mono ?_
       rintro e w2 ⟨rfl,rfl⟩
       go_upto_region 15 with (first
        | (refine qT rfl 178 (.tmp 53) rfl bc (i*34) rfl L _ (λj v hj=>HLX.out.2.2 j v hj) AAc rfl (by rw [HLX.out.1]; kernel_rfl) ?_)
        | (refine rV rfl 178 (.tmp 12) (.tmp 54) rfl rfl 178 _ L rfl (by rw [HLX.out.1]; rfl) (by rw [HLX.out.1]; kernel_rfl) HLX.out.2.1 ?_; intro w2 hf2 ha2))
       obtain ⟨bx,hbx⟩:∃ bx,bx=wo.heap.size:=⟨_,rfl⟩
       rw [<- hbx] at ha2 ⊢
       have HX:Hid (At w2 bx 178 c.cells):=by show At _ _ _ _; rw [<- HL.out]; exact ha2
       have HK2:Hid (KS w w2 bt bc cap rest bp bm (.slice A9 a9 c9) (.slice A10 a10 c10) s.t s.t.eJ s.taken s.added s.removed):=HR.out.2.2.2.2.1.eW hf2
       have hbx1:w.heap.size<=bx:=by rw [hbx]; exact HR.out.2.2.2.2.1.fr.size
       have hbxc:bc < bx:=U
       clear q0 hf2 ha2 hbx hbcl hbtl
       have hsl:∀ W:World,(Instr.sliceAt 130 (Z bx 1) none none none).run Tryz.prog W = .ok (.slice (some ⟨bx,1,none⟩) 32 32) W:=λW=>by kernel_rfl
       have hst:(convert 35 9 (.slice (some ⟨bx,1,none⟩) 32 32)).run Tryz.prog w2 = .ok (vS key) w2:=by
        have h1:=wD (P:=Tryz.prog) (src:=35) (dst:=9) Y1 a7 V7 w2 (some ⟨bx,1,none⟩) 32 key (λj v hj=>⟨bx,1,rfl,HX.out.lt,by
         rw [HX.out.cell,AEg 1 j,BC.cells,ABd,R1 (by rw [<- HKEY.out]; exact (C4.1 hj).1),<- HKEY.out]
         exact hj⟩)
        rw [HKL.out] at h1
        exact h1
       obtain ⟨tw,HTW⟩:∃ tw,Hid (tw=s.taken.contains key):=⟨_,rfl⟩
       have hlk:(Instr.lookup 111 (.map (some bm)) (vS key) false).run Tryz.prog w2 = .ok (.bool tw) w2:=by
        have h1:=HK2.out.set.lookup key (by rw [HKL.out]; unfold maxLen; omega)
        rw [List.contains_reverse] at h1
        rw [h1,HTW.out]
       cases tw with
       | true =>
         have HRES:Hid (t.keys=none):=by
          show _=_
          have h1:=JS m s i HF.out.1 (by rw [HF.out.2.2.1,<- HKEY.out,<- HTW.out])
          unfold BT.keys BT.raw
          rw [<- HN.out,HR.out.2.2.2.2.2,HF.out.2.2.2.2,h1]
          rfl
         go_wp2_with fail
         go_ret3
         exact ⟨HK2.out.fr,by rw [HRES.out]; rfl⟩
       | false =>
         go_upto_region 19 with (at_mapUpdate; refine wpList_mapUpdate_own _ rfl _ _ _ 111 rfl 9 4 (AFe V7) ACi _ bm _ _ rfl HK2.out.set (by rw [List.length_reverse]; unfold maxLen; omega) _ _ (.string key) rfl rfl (Fk key (by rw [HKL.out]; unfold maxLen; omega)) (.lit (.bool true)) [] (plainElem_bool Tryz.underlying4 true) ?_; intro w3 hown3 hg3)
         have HK3:Hid (KS w w3 bt bc cap rest bp bm (.slice A9 a9 c9) (.slice A10 a10 c10) s.t s.t.eJ (key::s.taken) s.added s.removed):=HK2.out.map hg3 (hF.PX hown3)
         have HX3:Hid (At w3 bx 178 c.cells):=HX.out.grown hg3 (λe=>HK2.out.set.zZ HX.out (by injection e with e; exact e.symm))
         have hw3:w.heap.size<=w3.heap.size:=HK3.out.fr.size
         obtain ⟨seed,HSD⟩:∃ seed,Hid (seed=s.t.seed):=⟨_,rfl⟩
         clear hown3 hg3 hsl hst hlk HK2 HI
         rcases hcnt with hcnt | hcnt
         .have c0:w3.cell? ⟨bx,0,none⟩=some (Value.int .i64 (1)):=by rw [HX3.out.cell,lS,hcnt]
          have HCN:=D3 hcnt
          clear hcnt
          go_upto_region 22 with (at_builtin; refine oL gD rfl (.tmp 66) (.tmp 68) rfl w.heap.size _ _ (s.added.map aZ) (vS key) rfl HK3.out.BJ rfl rfl (by omega) (by omega) 9 ?_; intro v4 w4 hown4 hg4 hb4)
          obtain ⟨A4,c4,rfl⟩:=lC hown4
          have HK4:Hid (KS w w4 bt bc cap rest bp bm (.slice A4 (a9+1) c4) (.slice A10 a10 c10) s.t s.t.eJ (key::s.taken) (s.added++[key]) s.removed):=by
           have h1:=hown4
           have h2:=HR.out.1
           refine HK3.out.acG (key:=key) ?_ hg4 hb4
           rw [<- h2]
           exact h1
          have HX4:Hid (At w4 bx 178 c.cells):=HX3.out.grown hg4 (qI HK3.out.add HX3.out (by decide))
          clear c0 hown4 hg4 hb4 HK3 HX3
          have c0:w4.cell? ⟨bx,0,none⟩=some (Value.int .i64 (1)):=by rw [HX4.out.cell,lS,HCN.out]
          have HCH:=D3 (Ff bt bc cap rest s.t key (-1) w4 (H.out.1.fr HK4.out.fr si si) HK4.out.tab HKL.out)
          go_wp2_with fail
          refine HCH.out.mono ?_
          rintro e w5 ⟨rfl,hf5,ht5⟩
          obtain ⟨t',HT'⟩:∃ t',Hid (t'=s.t.change key (-1)):=⟨_,rfl⟩
          rw [<- HT'.out] at ht5
          have HK5:Hid (KS w w5 bt bc cap rest bp bm (.slice A4 (a9+1) c4) (.slice A10 a10 c10) t' s.t.eJ (key::s.taken) (s.added++[key]) s.removed):=HK4.out.PY hf5 ht5
          have HTN:Hid (t'.cells.length=n/\t'.seed=seed):=⟨by rw [HT'.out,BT.change_len]; exact HR.out.2.2.1,by rw [HT'.out,HSD.out]; exact BT.qR _ _ _ 3⟩
          clear hf5 ht5 HCH HK4 c0
          have HTC:Hid (∀ W,Fr [] w5 W->W.cell? ⟨bt,0,none⟩=some (ql bc n cap)/\W.cell? ⟨bt,1,none⟩=some (.int .u64 (seed:Int))):=λW hW =>
           ⟨by rw [(HK5.out.tab.tab.fr hW si).cell,<- HTN.out.1]; rfl,by rw [(HK5.out.tab.tab.fr hW si).cell,<- HTN.out.2]; rfl⟩
          obtain ⟨q0,q1⟩:=HTC.out w5 (Fr.refl _ _)
          have hbt5:bt < w5.heap.size:=HK5.out.tab.tab.lt
          obtain ⟨PL,HPLL⟩:∃ PL,Hid (PL=wO n seed key):=⟨_,rfl⟩
          have HPL:=D3 (Fe n seed key w5.drew (H.out.1.fr HK5.out.fr.drew si si) (by rw [HSD.out]; exact HR.out.2.2.2.2.1.tab.ok.seed) (by rw [HKL.out]; omega) n3 n4)
          rw [<- HPLL.out] at HPL
          go_wp2_with fail
          go_region_held3 (λw'=>w'.cell? ⟨bt,0,none⟩=some (ql bc n cap)/\w'.cell? ⟨bt,1,none⟩=some (.int .u64 (seed:Int))) (first | go_keep | (exact HTC.out _ H6.out))
           (first | (go_at_call 154; ((with_reducible refine HPL.out.mono ?_)); rintro e w6 ⟨rfl,hf6⟩; have H6:Hid (Fr [] w5 w6):=(Fr.refl [] w5).drew.trans hf6; clear hf6))
          rename_i hHeld
          have HK6:Hid (KS w w6 bt bc cap rest bp bm (.slice A4 (a9+1) c4) (.slice A10 a10 c10) t' (kE n seed key s.t.eJ t'.eJ 0) (key::s.taken) (s.added++[key]) s.removed):=HK5.out.eW H6.out
          clear hHeld q0 q1 HPL HTC H6 hbt5 HK5
          go_wp2_with fail
          go_loopw [91] (λs91 wx=>∃ j:Nat,j<=3/\s91 = .int .i64 j/\Hid (KS w wx bt bc cap rest bp bm (.slice A4 (a9+1) c4) (.slice A10 a10 c10) t' (kE n seed key s.t.eJ t'.eJ j) (key::s.taken) (s.added++[key]) s.removed)) (λs91 _=>3 - (intOf s91).toNat)
          case atStart=>exact ⟨0,by omega,rfl,HK6⟩
          case round =>
           obtain ⟨j,hj,rfl,HJ⟩:=hrel
           by_cases hltj:j < 3
           .obtain ⟨p,HPP⟩:∃ p,Hid (p=gO n seed key j):=⟨_,rfl⟩
            have hpn:p < n:=by rw [HPP.out]; exact Cr n seed key j n3 hltj
            have hixj:∀ W:World,(Instr.index 219 (.agg PL.toArray) (C (j:Int))).run Tryz.prog W = .ok (Value.int .i64 (p:Int)) W:=Ab (P:=Tryz.prog) 219 3 3 PL (Value.int .i64 (p:Int)) .i64 j ABh J (λ_=>J) hltj (by rw [HPLL.out,HPP.out]; exact Ap n seed key j hltj)
            obtain ⟨c2,hc2⟩:=gk t'.cells p (by rw [HTN.out.1]; exact hpn)
            have HPU:=D3 (Fj bt bc cap rest t' p c2 wr (H.out.1.fr HJ.out.fr si si) HJ.out.tab hc2)
            obtain ⟨b,HB⟩:∃ b,Hid (b=c2.pure t'.seed):=⟨_,rfl⟩
            rw [<- HB.out] at HPU
            have HST:Hid ((kE n seed key s.t.eJ t'.eJ j).set p b=kE n seed key s.t.eJ t'.eJ (j+1)):=by
             show _=(kE n seed key s.t.eJ t'.eJ j).set (gO n seed key j) (t'.eJ.getD (gO n seed key j) false)
             rw [<- HPP.out,U5,BT.Ix hc2,HB.out]
             rfl
            have hpI:(p:Int) < (n:Int):=U
            have hjI:(j:Int) < 3:=U
            clear hc2
            go_wp2_with fail
            refine HPU.out.mono ?_
            rintro e w7 ⟨rfl,hf7⟩
            have HJ7:Hid (KS w w7 bt bc cap rest bp bm (.slice A4 (a9+1) c4) (.slice A10 a10 c10) t' (kE n seed key s.t.eJ t'.eJ j) (key::s.taken) (s.added++[key]) s.removed):=HJ.out.eW hf7
            obtain ⟨z,cz⟩:∃ z,w7.cell? ⟨bp,p,none⟩=some (.bool z):=by
             have hpl:p < (kE n seed key s.t.eJ t'.eJ j).length:=by rw [Cu,BT.uL,HR.out.2.2.1]; exact hpn
             refine ⟨_,by rw [HJ7.out.pur.cell]; exact Fm (E1 hpl)⟩
            have fz:=HJ7.out.pur.frozen p
            have HN7:Hid (KS w (w7.setCell ⟨bp,p,none⟩ (.bool b)) bt bc cap rest bp bm (.slice A4 (a9+1) c4) (.slice A10 a10 c10) t' (kE n seed key s.t.eJ t'.eJ (j+1)) (key::s.taken) (s.added++[key]) s.removed):=by
             have h1:=HJ7.out.PZ p b
             rw [HST.out] at h1
             exact h1
            clear hf7 HPU
            go_wp2_with fail
            go_roundw
            case rel =>
             first
              | exact ⟨j+1,by omega,by go_num,HN7⟩
              | ((repeat apply Exists.intro); exact ⟨⟨j+1,by omega,by go_num,HN7⟩,rfl⟩)
            case measure=>simp [intOf] <;> omega
           .obtain rfl:j=3:=U
            have HTAKE:Hid (s.take c=⟨t',key::s.taken,(s.added++[key]),s.removed⟩):=by
             show s.take c=_
             unfold gE.take
             rw [HCN.out,HT'.out,HKEY.out]
             simp
            have HEND:Hid (a9+1=(s.take c).added.length/\a10=(s.take c).removed.length/\(s.take c).t.cells.length=n/\(s.take c).t.seed=t.seed/\KS w wr bt bc cap rest bp bm (.slice A4 (a9+1) c4) (.slice A10 a10 c10) (s.take c).t (s.take c).t.eJ (s.take c).taken (s.take c).added (s.take c).removed/\iM n ⟨t,[],[],[]⟩=iM (n - (k+1)) (s.take c)):=by
             have h1:=HJ.out
             have h2:=JQ s.t key (-1)
             rw [HR.out.2.2.1,<- HSD.out,<- HT'.out] at h2
             rw [h2] at h1
             have h3:=EY m s i HF.out.1 (by rw [HF.out.2.2.1,<- HKEY.out,<- HTW.out])
             rw [HF.out.2.2.1] at h3
             rw [HTAKE.out] at h3 ⊢
             have e9:=HR.out.1
             have e10:=HR.out.2.1
             refine ⟨by simp; omega,by simp; omega,HTN.out.1,by rw [<- HR.out.2.2.2.1,<- HSD.out]; exact HTN.out.2,h1,?_⟩
             rw [HR.out.2.2.2.2.2,HF.out.2.2.2.2,h3]
             congr 1
             have:=HF.out.2.2.2.2
             omega
            have htk':(s.take c).taken.length<=k+1:=by rw [HTAKE.out]; simp; omega
            go_wp2_with fail
            go_roundw
            case rel =>
             first
              | exact ⟨k+1,_,_,_,_,_,_,s.take c,by omega,by go_num,rfl,rfl,by omega,by omega,htk',HEND⟩
              | ((repeat apply Exists.intro); exact ⟨⟨k+1,_,_,_,_,_,_,s.take c,by omega,by go_num,rfl,rfl,by omega,by omega,htk',HEND⟩,rfl⟩)
            case measure=>simp [intOf] <;> omega
         .have c0:w3.cell? ⟨bx,0,none⟩=some (Value.int .i64 (-1)):=by rw [HX3.out.cell,lS,hcnt]
          have HCN:=D3 hcnt
          clear hcnt
          go_upto_region 22 with (at_builtin; refine oL gD rfl (.tmp 70) (.tmp 72) rfl w.heap.size _ _ (s.removed.map aZ) (vS key) rfl HK3.out.DW rfl rfl (by omega) (by omega) 9 ?_; intro v4 w4 hown4 hg4 hb4)
          obtain ⟨A4,c4,rfl⟩:=lC hown4
          have HK4:Hid (KS w w4 bt bc cap rest bp bm (.slice A9 a9 c9) (.slice A4 (a10+1) c4) s.t s.t.eJ (key::s.taken) s.added (s.removed++[key])):=by
           have h1:=hown4
           have h2:=HR.out.2.1
           refine HK3.out.acH (key:=key) ?_ hg4 hb4
           rw [<- h2]
           exact h1
          have HX4:Hid (At w4 bx 178 c.cells):=HX3.out.grown hg4 (qI HK3.out.rem HX3.out (by decide))
          clear c0 hown4 hg4 hb4 HK3 HX3
          have c0:w4.cell? ⟨bx,0,none⟩=some (Value.int .i64 (-1)):=by rw [HX4.out.cell,lS,HCN.out]
          have HCH:=D3 (Ff bt bc cap rest s.t key (1) w4 (H.out.1.fr HK4.out.fr si si) HK4.out.tab HKL.out)
          go_wp2_with fail
          refine HCH.out.mono ?_
          rintro e w5 ⟨rfl,hf5,ht5⟩
          obtain ⟨t',HT'⟩:∃ t',Hid (t'=s.t.change key (1)):=⟨_,rfl⟩
          rw [<- HT'.out] at ht5
          have HK5:Hid (KS w w5 bt bc cap rest bp bm (.slice A9 a9 c9) (.slice A4 (a10+1) c4) t' s.t.eJ (key::s.taken) s.added (s.removed++[key])):=HK4.out.PY hf5 ht5
          have HTN:Hid (t'.cells.length=n/\t'.seed=seed):=⟨by rw [HT'.out,BT.change_len]; exact HR.out.2.2.1,by rw [HT'.out,HSD.out]; exact BT.qR _ _ _ 3⟩
          clear hf5 ht5 HCH HK4 c0
          have HTC:Hid (∀ W,Fr [] w5 W->W.cell? ⟨bt,0,none⟩=some (ql bc n cap)/\W.cell? ⟨bt,1,none⟩=some (.int .u64 (seed:Int))):=λW hW =>
           ⟨by rw [(HK5.out.tab.tab.fr hW si).cell,<- HTN.out.1]; rfl,by rw [(HK5.out.tab.tab.fr hW si).cell,<- HTN.out.2]; rfl⟩
          obtain ⟨q0,q1⟩:=HTC.out w5 (Fr.refl _ _)
          have hbt5:bt < w5.heap.size:=HK5.out.tab.tab.lt
          obtain ⟨PL,HPLL⟩:∃ PL,Hid (PL=wO n seed key):=⟨_,rfl⟩
          have HPL:=D3 (Fe n seed key w5.drew (H.out.1.fr HK5.out.fr.drew si si) (by rw [HSD.out]; exact HR.out.2.2.2.2.1.tab.ok.seed) (by rw [HKL.out]; omega) n3 n4)
          rw [<- HPLL.out] at HPL
          go_wp2_with fail
          go_region_held3 (λw'=>w'.cell? ⟨bt,0,none⟩=some (ql bc n cap)/\w'.cell? ⟨bt,1,none⟩=some (.int .u64 (seed:Int))) (first | go_keep | (exact HTC.out _ H6.out))
           (first | (go_at_call 154; ((with_reducible refine HPL.out.mono ?_)); rintro e w6 ⟨rfl,hf6⟩; have H6:Hid (Fr [] w5 w6):=(Fr.refl [] w5).drew.trans hf6; clear hf6))
          rename_i hHeld
          have HK6:Hid (KS w w6 bt bc cap rest bp bm (.slice A9 a9 c9) (.slice A4 (a10+1) c4) t' (kE n seed key s.t.eJ t'.eJ 0) (key::s.taken) s.added (s.removed++[key])):=HK5.out.eW H6.out
          clear hHeld q0 q1 HPL HTC H6 hbt5 HK5
          go_wp2_with fail
          go_loopw [91] (λs91 wx=>∃ j:Nat,j<=3/\s91 = .int .i64 j/\Hid (KS w wx bt bc cap rest bp bm (.slice A9 a9 c9) (.slice A4 (a10+1) c4) t' (kE n seed key s.t.eJ t'.eJ j) (key::s.taken) s.added (s.removed++[key]))) (λs91 _=>3 - (intOf s91).toNat)
          case atStart=>exact ⟨0,by omega,rfl,HK6⟩
          case round =>
           obtain ⟨j,hj,rfl,HJ⟩:=hrel
           by_cases hltj:j < 3
           .obtain ⟨p,HPP⟩:∃ p,Hid (p=gO n seed key j):=⟨_,rfl⟩
            have hpn:p < n:=by rw [HPP.out]; exact Cr n seed key j n3 hltj
            have hixj:∀ W:World,(Instr.index 219 (.agg PL.toArray) (C (j:Int))).run Tryz.prog W = .ok (Value.int .i64 (p:Int)) W:=Ab (P:=Tryz.prog) 219 3 3 PL (Value.int .i64 (p:Int)) .i64 j ABh J (λ_=>J) hltj (by rw [HPLL.out,HPP.out]; exact Ap n seed key j hltj)
            obtain ⟨c2,hc2⟩:=gk t'.cells p (by rw [HTN.out.1]; exact hpn)
            have HPU:=D3 (Fj bt bc cap rest t' p c2 wr (H.out.1.fr HJ.out.fr si si) HJ.out.tab hc2)
            obtain ⟨b,HB⟩:∃ b,Hid (b=c2.pure t'.seed):=⟨_,rfl⟩
            rw [<- HB.out] at HPU
            have HST:Hid ((kE n seed key s.t.eJ t'.eJ j).set p b=kE n seed key s.t.eJ t'.eJ (j+1)):=by
             show _=(kE n seed key s.t.eJ t'.eJ j).set (gO n seed key j) (t'.eJ.getD (gO n seed key j) false)
             rw [<- HPP.out,U5,BT.Ix hc2,HB.out]
             rfl
            have hpI:(p:Int) < (n:Int):=U
            have hjI:(j:Int) < 3:=U
            clear hc2
            go_wp2_with fail
            refine HPU.out.mono ?_
            rintro e w7 ⟨rfl,hf7⟩
            have HJ7:Hid (KS w w7 bt bc cap rest bp bm (.slice A9 a9 c9) (.slice A4 (a10+1) c4) t' (kE n seed key s.t.eJ t'.eJ j) (key::s.taken) s.added (s.removed++[key])):=HJ.out.eW hf7
            obtain ⟨z,cz⟩:∃ z,w7.cell? ⟨bp,p,none⟩=some (.bool z):=by
             have hpl:p < (kE n seed key s.t.eJ t'.eJ j).length:=by rw [Cu,BT.uL,HR.out.2.2.1]; exact hpn
             refine ⟨_,by rw [HJ7.out.pur.cell]; exact Fm (E1 hpl)⟩
            have fz:=HJ7.out.pur.frozen p
            have HN7:Hid (KS w (w7.setCell ⟨bp,p,none⟩ (.bool b)) bt bc cap rest bp bm (.slice A9 a9 c9) (.slice A4 (a10+1) c4) t' (kE n seed key s.t.eJ t'.eJ (j+1)) (key::s.taken) s.added (s.removed++[key])):=by
             have h1:=HJ7.out.PZ p b
             rw [HST.out] at h1
             exact h1
            clear hf7 HPU
            go_wp2_with fail
            go_roundw
            case rel =>
             first
              | exact ⟨j+1,by omega,by go_num,HN7⟩
              | ((repeat apply Exists.intro); exact ⟨⟨j+1,by omega,by go_num,HN7⟩,rfl⟩)
            case measure=>simp [intOf] <;> omega
           .obtain rfl:j=3:=U
            have HTAKE:Hid (s.take c=⟨t',key::s.taken,s.added,(s.removed++[key])⟩):=by
             show s.take c=_
             unfold gE.take
             rw [HCN.out,HT'.out,HKEY.out]
             simp
            have HEND:Hid (a9=(s.take c).added.length/\a10+1=(s.take c).removed.length/\(s.take c).t.cells.length=n/\(s.take c).t.seed=t.seed/\KS w wr bt bc cap rest bp bm (.slice A9 a9 c9) (.slice A4 (a10+1) c4) (s.take c).t (s.take c).t.eJ (s.take c).taken (s.take c).added (s.take c).removed/\iM n ⟨t,[],[],[]⟩=iM (n - (k+1)) (s.take c)):=by
             have h1:=HJ.out
             have h2:=JQ s.t key (1)
             rw [HR.out.2.2.1,<- HSD.out,<- HT'.out] at h2
             rw [h2] at h1
             have h3:=EY m s i HF.out.1 (by rw [HF.out.2.2.1,<- HKEY.out,<- HTW.out])
             rw [HF.out.2.2.1] at h3
             rw [HTAKE.out] at h3 ⊢
             have e9:=HR.out.1
             have e10:=HR.out.2.1
             refine ⟨by simp; omega,by simp; omega,HTN.out.1,by rw [<- HR.out.2.2.2.1,<- HSD.out]; exact HTN.out.2,h1,?_⟩
             rw [HR.out.2.2.2.2.2,HF.out.2.2.2.2,h3]
             congr 1
             have:=HF.out.2.2.2.2
             omega
            have htk':(s.take c).taken.length<=k+1:=by rw [HTAKE.out]; simp; omega
            go_wp2_with fail
            go_roundw
            case rel =>
             first
              | exact ⟨k+1,_,_,_,_,_,_,s.take c,by omega,by go_num,rfl,rfl,by omega,by omega,htk',HEND⟩
              | ((repeat apply Exists.intro); exact ⟨⟨k+1,_,_,_,_,_,_,s.take c,by omega,by go_num,rfl,rfl,by omega,by omega,htk',HEND⟩,rfl⟩)
            case measure=>simp [intOf] <;> omega
    .obtain rfl:k=n:=U
     have HPE:Hid (iM k ⟨t,[],[],[]⟩=some s):=by show _=_; rw [HR.out.2.2.2.2.2,W6]; rfl
     have HEM:=D3 (Ka bt bc cap rest s.t wo HR.out.2.2.2.2.1.tab)
     go_wp2_with fail
     refine HEM.out.mono ?_
     rintro e w3 ⟨rfl,hf3⟩
     have HK3:Hid (KS w w3 bt bc cap rest bp bm (.slice A9 a9 c9) (.slice A10 a10 c10) s.t s.t.eJ s.taken s.added s.removed):=HR.out.2.2.2.2.1.eW hf3
     clear hf3 HEM
     cases hem:s.t.empty with
     | false =>
       have HRES:Hid (t.keys=none):=by show _=_; unfold BT.keys BT.raw; rw [<- HN.out,HPE.out]; simp [hem]
       go_wp2_with fail
       go_ret3
       exact ⟨HK3.out.fr,by rw [HRES.out]; rfl⟩
     | true =>
       have HRES:Hid (t.keys=some (dG s.added,dG s.removed)):=by show _=_; unfold BT.keys BT.raw; rw [<- HN.out,HPE.out]; simp [hem]
       have HS1:=D3 (Au HK3.out.BJ HR.out.1 U)
       go_wp2_with fail
       refine HS1.out.mono ?_
       rintro e w4 ⟨rfl,hf4,hr4⟩
       have HO4:Hid (Fr [] w w4/\aI w4 A9 ((lU s.added).map aZ)/\w4.ownsRow w.heap.size 9 1 (.slice A10 a10 c10) a10 (s.removed.map aZ)):=HK3.out.Qa HR.out.1 HR.out.2.1 hf4 hr4
       have HSEP:Hid (∀ g,(Value.slice A9 a9 c9).ownBlock=some g->(Value.slice A10 a10 c10).ownBlock≠some g):=λg hg e=>HK3.out.sep.elim (λh0=>by rw [h0] at hg; cases hg) (λh0=>h0 (by rw [hg,e]))
       have HFR:Hid (As w A9 A10):=Ke HK3.out.BJ HK3.out.DW HSEP.out
       have HS2:=D3 (Au HO4.out.2.2 HR.out.2.1 U)
       clear hf4 hr4 HS1
       go_wp2_with fail
       refine HS2.out.mono ?_
       rintro e w5 ⟨rfl,hf5,hr5⟩
       have HO5:Hid (Fr [] w w5/\aI w5 A9 ((lU s.added).map aZ)/\aI w5 A10 ((lU s.removed).map aZ)):=Kh HO4.out.1 HO4.out.2.2 HSEP.out HO4.out.2.1 hf5 hr5
       clear hf5 hr5 HS2
       go_wp2_with fail
       go_ret3
       refine ⟨HO5.out.1,?_⟩
       rw [HRES.out]
       refine ⟨A9,c9,A10,c10,?_,HO5.out.2.1,HO5.out.2.2,HFR.out⟩
       show _=Ending.returned (.tuple #[.slice A9 (lU s.added).length c9,.slice A10 (lU s.removed).length c10,C 0])
       rw [Ar,Ar,<- HR.out.1,<- HR.out.2.1]
       rfl
end
theorem Sh(n w)(h0:-9223372036854775808<=n)(h1:n<=9223372036854775807):
  Calls Tryz.prog 158 #[C n] w λe w'=>e = .returned (.int .u64 (gH n:Int))/\w=w':=by
 by_cases hn:n < 0
 .go_enter Tryz.func158,Tryz.ntmps158
  go_wp2
  go_ret
  refine ⟨jK ?_,rfl⟩
  unfold gH
  rw [P1 hn]
  omega
 .replace hn:=Int.not_lt.1 hn
  go_enter Tryz.func158,Tryz.ntmps158
  go_wp2
  go_ret
  refine ⟨jK ?_,rfl⟩
  unfold gH
  rw [P4 U]
  omega
structure nY (base:Nat) (v:Value) (bs:List UInt8) (w:World) (v':Value) (w':World):Prop where
 own:w'.ownsRow base 5 1 v' bs.length (B8 bs)
 gr:w.grownBy w' v.ownBlock
 blk:v'.ownBlock=v.ownBlock \/ ∃ g,v'.ownBlock=some g /\ w.heap.size <= g
theorem nY.step{a:Nat}{v v' d:Ω}{bs cs:Γ}{w n f:Λ}(h:nY a v bs w v' n)(k:nY a v' cs n d f):nY a v cs w d f:=by
 refine ⟨k.own,⟨k.gr.os.trans h.gr.os,k.gr.tape.trans h.gr.tape,k.gr.output.trans h.gr.output,P8 h.gr.size k.gr.size,λi l m=>?_⟩,?_⟩
 .refine (k.gr.block i (l0 l h.gr.size) (λe=>?_)).trans (h.gr.block i l m)
  rcases h.blk with b | ⟨g,b,j⟩
  .exact m (e.trans b)
  .rw [b] at e
   injection e with e
   omega
 .rcases k.blk with b | ⟨g,b,j⟩
  .rcases h.blk with c | ⟨g,c,j⟩
   .exact .inl (b.trans c)
   .exact .inr ⟨g,b.trans c,j⟩
  .exact .inr ⟨g,b,P8 h.gr.size j⟩
theorem nY.refl{a:Nat}{v:Ω}{bs:Γ}{w:Λ}(h:w.ownsRow a 5 1 v bs.length (B8 bs)):nY a v bs w v w:=⟨h,World.grownBy.refl w _,zg⟩
theorem nY.size{a:Nat}{v v':Ω}{bs:Γ}{w b:Λ}(h:nY a v bs w v' b):w.heap.size<=b.heap.size:=h.gr.size
theorem nY.push{a:Nat}{v v':Ω}{bs:Γ}{b:UInt8}{w c:Λ}(h:c.ownsRow a 5 1 v' (bs.length+1) (B8 bs++[.int .u8 (b.toNat:Int)]))(d:w.grownBy c v.ownBlock)(e:v'.ownBlock=v.ownBlock\/v'.ownBlock=some (w.heap.size+1)):nY a v (bs++[b]) w v' c:=by
 refine ⟨?_,d,?_⟩
 .rw [nO,C3]; exact h
 grind
set_option maxHeartbeats 2000000 in
theorem Kj(base n v)(bs:Γ)(w:World)(hn:dA n)(hl:bs.length+10<=4294967296)(hb:base<=w.heap.size)(hown:w.ownsRow base 5 1 v bs.length (B8 bs)):
  Calls Tryz.prog 107 #[v,.int .u64 (n:Int)] w λe w'=>∃ v',e = .returned v'/\nY base v (bs++aE n) w v' w':=by
 have H0:=Lib.hid (nY.refl hown)
 have hnl:=eY n hn
 have HN:=Lib.hid hn
 have HL:=Lib.hid hl
 clear hown hn hl
 go_enter Tryz.func107,Tryz.ntmps107
 go_wp2_with fail
 go_loopw [0,1] (λb i wr=>∃ (m:Nat) (cs:Γ),dA m/\i = .int .u64 (m:Int)/\bs++aE n=cs++aE m/\nY base v cs w b wr) (λ_ i _=>(intOf i).toNat)
 case atStart=>exact ⟨n,bs,HN.out,rfl,rfl,H0.out⟩
 case round =>
  obtain ⟨m,cs,hm,rfl,he,hg⟩:=hrel
  have hsz:=hg.size
  have HC:Hid (cs.length+1<=137438953472):=by have h1:=congrArg List.length he; have h2:=HL.out; rw [List.length_append,List.length_append] at h1; show _<=_; omega
  have HG:=Lib.hid hg
  have HE:=Lib.hid he
  have HM:=Lib.hid hm
  have hmI:(m:Int)<=18446744073709551615:=by unfold dA at hm; omega
  clear hg he hm
  obtain ⟨A,c,rfl⟩:=lC HG.out.own
  by_cases hlt:m < 128
  .go_wp2_with (at_builtin; refine oL gS rfl (.tmp 15) (.tmp 18) rfl base _ _ _ (.int .u8 (m:Int)) rfl HG.out.own rfl rfl HC.out (by omega) 5 ?_; intro v' w1 hown1 hg1 hb1)
   go_ret
   refine ⟨v',rfl,HG.out.step ?_⟩
   rw [HE.out,oM m hlt]
   exact nY.push (by rw [IL m U] at hown1; exact hown1) hg1 hb1
  .have hor:=Qz m
   have hge:(128:Int)<=(m:Int):=U
   go_wp2_with (at_builtin; refine oL gS rfl (.tmp 7) (.tmp 11) rfl base _ _ _ (.int .u8 ((UInt8.ofNat (m % 128+128)).toNat:Int)) rfl HG.out.own rfl rfl HC.out (by omega) 5 ?_; intro v' w1 hown1 hg1 hb1)
   go_roundw
   case rel =>
    refine ⟨m / 128,cs++[UInt8.ofNat (m % 128+128)],?_,by go_num,?_,HG.out.step (nY.push hown1 hg1 hb1)⟩
    .have:=HM.out; unfold dA at this ⊢; omega
    .rw [HE.out,rY m hlt,List.append_assoc]; rfl
   case measure=>simp [intOf]; omega
theorem nZ{w:Λ}{a:Nat}{e t:Υ}{sz n b:Nat}{v:Ω}{xs l:Ξ}(h:w.ownsRow a e sz v n xs)(f:At w b t l)(d:e≠t):v.ownBlock≠some b:=by
 rcases h.2 with ⟨rfl,_⟩ | ⟨g,cap,i,rfl,_,c,_⟩
 .simp [Value.ownBlock]
 .intro j
  have:g=b:=by simpa [Value.ownBlock] using j
  subst this
  unfold At at f
  rw [f] at c
  simp only [V4,Obj.cells.injEq] at c
  exact d c.2.1.symm
def kX(w:World)(base bw:Nat)(xs:List UInt8):Prop:=∃ v,At w bw 175 [v,Value.int .i64 0] /\ w.ownsRow base 5 1 v xs.length (B8 xs)
theorem kX.bel{w d:Λ}{a b:Nat}{xs:Γ}(h:kX w a b xs)(c:Fr [] w d):kX d a b xs:=by
 obtain ⟨v,e,f⟩:=h
 exact ⟨v,e.fr c si,gC f c si⟩
theorem Kk(w):Calls Tryz.prog 63 #[] w λe w'=>e = .returned (.pointer (qa w.heap.size))/\Fr [] w w'/\At w' w.heap.size 175 [nS,C 0]:=by
 go_enter Tryz.func63,Tryz.ntmps63
 go_wp2
 go_ret
 exact ⟨rfl,(Fr.refl _ _).alloc _,At.new w 175 [nS,C 0]⟩
theorem kX.new{w:Λ}{a b:Nat}(h:At w b 175 [nS,C 0]):kX w a b []:=⟨_,h,World.ownsRow_nil _ _ _ _⟩
structure Fo (base bw:Nat) (xs:List UInt8) (w:World) (e:Ending) (w':World):Prop where
 ret:e = .returned (.tuple #[])
 bel:oK base [bw] w w'
 at_:kX w' base bw xs
 other:∀ k t l,At w k t l -> t≠5 -> k≠bw -> At w' k t l
set_option maxHeartbeats 2000000 in
theorem Cw(base bw n xs w)(hw:kX w base bw xs)(hb:base<=w.heap.size)(hn:dA n)(hl:xs.length<=4294967000):
  Calls Tryz.prog 112 #[Z bw 0,.int .u64 (n:Int)] w (Fo base bw (xs++aE n) w):=by
 obtain ⟨v,ha,ho⟩:=hw
 obtain ⟨A,c,rfl⟩:=lC ho
 have h0:w.cell? ⟨bw,0,none⟩=some (.slice A xs.length c):=by rw [ha.cell]; rfl
 have h1:w.cell? ⟨bw,1,none⟩=some (C 0):=by rw [ha.cell]; rfl
 have hne:=nZ ho ha (by decide)
 have H:=D3 (And.intro ha (And.intro ho hne))
 have HN:=D3 (And.intro hn hl)
 clear ha ho hne hn hl
 go_enter Tryz.func112,Tryz.ntmps112
 go_wp2_with fail
 refine (Kj base n _ xs _ HN.out.1 (by have:=HN.out.2; omega) hb H.out.2.1).mono ?_
 rintro e w1 ⟨v1,rfl,hg⟩
 obtain ⟨A1,c1,hv⟩:=lC hg.own
 rw [C3] at hv
 subst hv
 have ha1:At w1 bw 175 [.slice A xs.length c,C 0]:=(hg.gr.block bw H.out.1.lt (λe=>H.out.2.2 e.symm)).trans H.out.1
 have c0:w1.cell? ⟨bw,0,none⟩=some (.slice A xs.length c):=by rw [ha1.cell]; rfl
 have z0:w1.frozen? ⟨bw,0,none⟩=false:=ha1.frozen 0
 have HOT:Hid (∀ k t l,At w k t l->t≠5->k≠bw->At (w1.setCell ⟨bw,0,none⟩ (.slice A1 (xs.length+(aE n).length) c1)) k t l):=λk t l hk ht hne =>
  At.far (w:=w1) (Eq.trans (hg.gr.block k hk.lt (λe=>nZ H.out.2.1 hk (λe2=>ht e2.symm) e.symm)) hk) hne _
 have HF:Hid (oK base [bw] w (w1.setCell ⟨bw,0,none⟩ (.slice A1 (xs.length+(aE n).length) c1))/\kX (w1.setCell ⟨bw,0,none⟩ (.slice A1 (xs.length+(aE n).length) c1)) base bw (xs++aE n)):=by
  refine ⟨((oK.refl base [bw] w).grown hg.gr hb (λk hk=>.inr (H.out.2.1.lt k hk).1)).setCell (.inl si) _,_,ha1.set 0 _,gC (S:=[bw]) hg.own ((Fr.refl _ _).setCell (.inl si) _) ?_⟩
  intro g hg' hm
  have:g=bw:=by simpa using hm
  subst this
  exact nZ hg.own ha1 (by decide) hg'
 clear hg ha1
 go_wp2_with fail
 go_end0
 exact ⟨rfl,HF.out.1,HF.out.2,HOT.out⟩
set_option maxHeartbeats 2000000 in
theorem Si(base bw n xs w)(hw:kX w base bw xs)(hb:base<=w.heap.size)(h0:-9223372036854775808<=n)(h1:n<=9223372036854775807)(hl:xs.length<=4294967000):
  Calls Tryz.prog 113 #[Z bw 0,C n] w (Fo base bw (xs++aE (gH n)) w):=by
 have H:=D3 (And.intro hw (And.intro hb (And.intro hl (And.intro h0 h1))))
 clear hw hb hl h0 h1
 go_enter Tryz.func113,Tryz.ntmps113
 go_wp2_with fail
 refine (Sh n _ H.out.2.2.2.1 H.out.2.2.2.2).mono ?_
 rintro e w' ⟨rfl,rfl⟩
 go_wp2_with fail
 refine (Cw base bw (gH n) xs _ H.out.1 H.out.2.1 (xU n H.out.2.2.2.1 H.out.2.2.2.2) H.out.2.2.1).mono ?_
 rintro e w1 ⟨rfl,h2,h3,h4⟩
 have H1:=D3 (And.intro h2 (And.intro h3 h4))
 clear h2 h3 h4
 go_wp2_with fail
 go_end0
 exact ⟨rfl,H1.out.1,H1.out.2.1,H1.out.2.2⟩
structure Cx (bs:List UInt8) (w:World) (v:Value) (w':World):Prop where
 own:w'.ownsRow w.heap.size 5 1 v bs.length (B8 bs)
 fr:Fr [] w w'
set_option maxHeartbeats 2000000 in
theorem Sj(base bw xs w)(hw:kX w base bw xs)(hl:xs.length<=1048576):
  Calls Tryz.prog 66 #[Z bw 0] w λe w'=>∃ v,e = .returned (.tuple #[v,C 0])/\Cx xs w v w':=by
 obtain ⟨v,ha,ho⟩:=hw
 obtain ⟨A,c,rfl⟩:=lC ho
 have h0:w.cell? ⟨bw,0,none⟩=some (.slice A xs.length c):=by rw [ha.cell]; rfl
 have h1:w.cell? ⟨bw,1,none⟩=some (C 0):=by rw [ha.cell]; rfl
 have h2:((xs.length:Nat):Int)<=1048576:=U
 have hlt:=ha.lt
 have H:=D3 ho
 have HL:=D3 hl
 clear ha ho hl
 go_enter Tryz.func66,Tryz.ntmps66
 go_wp2_with (at_builtin; refine xR gS rfl (.tmp 19) (.tmp 23) rfl w.heap.size _ 0 [] rfl (by exact Z8 _ #[] 0 (J7 _) (G6 _) rfl) A _ c (B8 xs) rfl (by rw [eX]; simp) (by exact eN.bM (H.out.alloc _)) (iP _) (by have:=HL.out; omega) (by simp) ?_; intro v2 w2 hown2 hg2 hb2)
 go_ret2
 refine ⟨v2,rfl,?_,?_⟩
 .simpa using hown2
 .exact ((Fr.refl [] w).alloc _).grown hg2 (λg hg=>.inr (by have hg':some w.heap.size=some g:=hg; injection hg' with hg'; omega))
theorem Kl(p):(bL p).size=p.length:=by simp [bL,ByteArray.size]
theorem Sk(p):Lib.strCells (bL p)=B8 p:=by simp [Lib.strCells,bL,B8]
set_option maxHeartbeats 2000000 in
theorem Sl(base bw)(p xs:Γ)(w)(hw:kX w base bw xs)(hb:base<=w.heap.size)(hp:p.length=32)(hl:xs.length<=4294967000):
  Calls Tryz.prog 114 #[Z bw 0,.string (bL p)] w (Fo base bw (xs++p) w):=by
 obtain ⟨v,ha,ho⟩:=hw
 obtain ⟨A,c,rfl⟩:=lC ho
 have h0:w.cell? ⟨bw,0,none⟩=some (.slice A xs.length c):=by rw [ha.cell]; rfl
 have h1:w.cell? ⟨bw,1,none⟩=some (C 0):=by rw [ha.cell]; rfl
 have hne:=nZ ho ha (by decide)
 have H:=D3 (And.intro ha (And.intro ho hne))
 obtain ⟨s,HS⟩:∃ s,Hid (s=bL p):=⟨_,rfl⟩
 have hs:s.size=32:=by rw [HS.out,Kl]; exact hp
 have HSZ:Hid (s.size=p.length):=by show _=_; rw [HS.out,Kl]
 rw [<- HS.out]
 have q1:((s.size:Int) == 32)=true:=by simp; omega
 have q2:((s.size:Int) != 32)=false:=by simp; omega
 have hsb:s.size<=32:=U
 obtain ⟨i0,hi0,hz0,hz1,hz2⟩:=AA6 (show (Tryz.prog.info? 5).map (λi=>(i.zero,i.size,i.bytes))=some (some (.int .u8 0),1,1) by kernel_rfl)
 have HINF:=D3 (And.intro hi0 (And.intro hz0 (And.intro hz1 hz2)))
 clear ha ho hne hs hp hi0 hz0 hz1 hz2
 go_enter Tryz.func114,Tryz.ntmps114
 go_wp2_with (at_builtin; refine AD8 _ rfl (.tmp 19) (.tmp 20) 35 9 rfl base 5 i0 Y1 V7 HINF.out.1 HINF.out.2.1 HINF.out.2.2.1 HINF.out.2.2.2 _ _ (B8 xs) rfl H.out.2.1 s rfl (by unfold maxLen; omega) (by omega) hb ?_; intro v1 w1 hown1 hg1 _; obtain ⟨A1,c1,rfl⟩:=lC hown1; have ha1:At w1 bw 175 [.slice A xs.length c,Value.int .i64 0]:=((hg1.block bw H.out.1.lt (λe=>H.out.2.2 e.symm)).trans H.out.1); have c0:w1.cell? ⟨bw,0,none⟩=some (.slice A xs.length c):=(by rw [ha1.cell]; rfl); have z0:w1.frozen? ⟨bw,0,none⟩=false:=ha1.frozen 0; have HQ:=Lib.hid (And.intro ha1 (And.intro hown1 hg1)); clear ha1 hown1 hg1)
 have HOT:Hid (∀ k t l,At w k t l->t≠5->k≠bw->At (w1.setCell ⟨bw,0,none⟩ (.slice A1 (xs.length+s.size) c1)) k t l):=λk t l hk ht hne =>
  At.far (w:=w1) (Eq.trans (HQ.out.2.2.block k hk.lt (λe=>nZ H.out.2.1 hk (λe2=>ht e2.symm) e.symm)) hk) hne _
 have HF:Hid (oK base [bw] w (w1.setCell ⟨bw,0,none⟩ (.slice A1 (xs.length+s.size) c1))/\kX (w1.setCell ⟨bw,0,none⟩ (.slice A1 (xs.length+s.size) c1)) base bw (xs++p)):=by
  have ha1:=HQ.out.1
  have hown1:=HQ.out.2.1
  rw [HS.out,Sk,<- nO] at hown1
  refine ⟨((oK.refl base [bw] w).grown HQ.out.2.2 hb (λk hk=>.inr (H.out.2.1.lt k hk).1)).setCell (.inl si) _,_,ha1.set 0 _,?_⟩
  refine gC (S:=[bw]) ?_ ((Fr.refl _ _).setCell (.inl si) _) ?_
  .rw [C3,<- HSZ.out,HS.out]
   exact hown1
  .intro g hg' hm
   have:g=bw:=by simpa using hm
   subst this
   exact nZ hown1 ha1 (by decide) (by rw [<- HS.out]; exact hg')
 go_end0
 exact ⟨rfl,HF.out.1,HF.out.2,HOT.out⟩
def BC.enc(c:BC):List UInt8:=aE (gH c.count)++c.keys++aE c.checks
def fW(t:BT)(i:Nat):List UInt8:=aE t.cells.length++aE t.seed++(t.cells.take i).flatMap BC.enc
def BT.enc(t:BT):List UInt8:=fW t t.cells.length
theorem BC.acI{c:BC}(h:c.Ok):c.enc.length<=52:=by
 have a:=eY _ (xU _ h.count.1 h.count.2)
 have b:=eY _ h.checks
 have d:=h.keys
 grind [BC.enc]
theorem Km{t:BT}{i:Nat}{c:BC}(h:t.cells[i]?=some c):fW t (i+1)=fW t i++aE (gH c.count)++c.keys++aE c.checks:=by
 grind [fW,List.take_succ_eq_append_getElem,BC.enc]
theorem Kn{l:List BC}(h:jH l):(l.flatMap BC.enc).length<=l.length*52:=by
 induction l with
 | nil=>simp
 | cons c l a =>
   have b:=BC.acI (h c si)
   have d:=a (λx e=>h x (by grind))
   grind
theorem wP{t:BT}(h:t.Ok)(f:t.cells.length<=3072)(i):(fW t i).length<=200000:=by
 have a:=eY t.cells.length U
 have b:=eY _ h.seed
 have d:=Kn (l:=t.cells.take i) (λc e=>h.cells c zg)
 grind [fW]
set_option maxHeartbeats 2000000 in
theorem Sm(bt bc cap rest t w)(ht:gF w bt bc cap rest t):
  Calls Tryz.prog 65 #[Z bt 0] w λe w'=>∃ v,e = .returned v/\Cx t.enc w v w':=by
 obtain ⟨n,HN⟩:∃ n,Hid (n=t.cells.length):=⟨_,rfl⟩
 obtain ⟨seed,HS⟩:∃ seed,Hid (seed=t.seed):=⟨_,rfl⟩
 have hb:=jQ ht.size
 have n4:n<=3072:=by rw [HN.out]; exact hb.2.1
 have HTC:Hid (∀ W,Fr [] w W->W.cell? ⟨bt,0,none⟩=some (ql bc n cap)/\W.cell? ⟨bt,1,none⟩=some (.int .u64 (seed:Int))):=λW hW =>
  ⟨by rw [(ht.tab.fr hW si).cell,HN.out]; rfl,by rw [(ht.tab.fr hW si).cell,HS.out]; rfl⟩
 have H:=D3 ht
 have hbt:=ht.tab.lt
 have hbc:=ht.cells.lt
 clear ht hb
 obtain ⟨bw,HBW⟩:∃ bw,Hid (bw=w.heap.size):=⟨_,rfl⟩
 have HNW:=D3 (Kk w)
 rw [<- HBW.out] at HNW
 have hen:IntKind.u64.wrap (n:Int)=(n:Int):=by rw [X0]; omega
 have HEL:Hid (∀ i,(fW t i).length<=200000):=λi=>wP H.out.ok (by rw [<- HN.out]; exact n4) i
 go_enter Tryz.func65,Tryz.ntmps65
 go_wp2_with fail
 refine HNW.out.mono ?_
 rintro e w1 ⟨rfl,hf1,ha1⟩
 have H1:Hid (Fr [] w w1/\kX w1 w.heap.size bw []):=⟨hf1,kX.new ha1⟩
 have hz1:=hf1.size
 obtain ⟨q0,q1⟩:=HTC.out w1 hf1
 clear hf1 ha1 HNW
 go_wp2_with fail
 refine (Cw w.heap.size bw n [] w1 H1.out.2 hz1 (by unfold dA; omega) si).mono ?_
 rintro e w2 ⟨rfl,hb2,ha2,_⟩
 have H2:Hid (Fr [] w w2/\kX w2 w.heap.size bw (aE n)):=⟨H1.out.1.BG hb2 (J7 _) (by have:=HBW.out; simp; omega),by simpa using ha2⟩
 clear q0 q1 hb2 ha2 H1
 obtain ⟨q0,q1⟩:=HTC.out w2 H2.out.1
 have hz2:=H2.out.1.size
 go_wp2_with fail
 refine (Cw w.heap.size bw seed (aE n) w2 H2.out.2 hz2 (by rw [HS.out]; exact H.out.ok.seed) (by have:=eY n U; omega)).mono ?_
 rintro e w3 ⟨rfl,hb3,ha3,_⟩
 have H3:Hid (Fr [] w w3/\kX w3 w.heap.size bw (fW t 0)):=⟨H2.out.1.BG hb3 (J7 _) (by have:=HBW.out; simp; omega),by
  have e:fW t 0=aE n++aE seed:=by unfold fW; rw [<- HN.out,<- HS.out]; simp
  rw [e]
  exact ha3⟩
 clear q0 q1 hb3 ha3 H2
 obtain ⟨q0,q1⟩:=HTC.out w3 H3.out.1
 go_wp2_with fail
 clear q0 q1 hen
 go_loopw [28] (λs wx=>∃ i:Nat,i<=n/\s = .int .i64 i/\Hid (Fr [] w wx/\kX wx w.heap.size bw (fW t i))) (λs _=>n - (intOf s).toNat)
 case atStart=>exact ⟨0,by omega,rfl,H3⟩
 case round =>
  obtain ⟨i,hi,rfl,HR⟩:=hrel
  by_cases hlt:i < n
  .obtain ⟨c,hc⟩:=gk t.cells i (by rw [<- HN.out]; exact hlt)
   have hcok:=H.out.ok.cells c (F0 hc)
   obtain ⟨L,HL⟩:∃ L,Hid (L=c.cells):=⟨_,rfl⟩
   obtain ⟨key,HKEY⟩:∃ key,Hid (key=c.keys):=⟨_,rfl⟩
   obtain ⟨cnt,HCN⟩:∃ cnt,Hid (cnt=c.count):=⟨_,rfl⟩
   obtain ⟨chk,HCH⟩:∃ chk,Hid (chk=c.checks):=⟨_,rfl⟩
   have HKL:Hid (key.length=32):=by show key.length=32; rw [HKEY.out]; exact hcok.keys
   have HLX:Hid (L.length=34/\(∀ v∈L,v.oneCell'=true)/\∀ j v,L[j]?=some v->wr.cell? ⟨bc,i*34+j,none⟩=some v):=by
    show _/\_/\_
    rw [HL.out]
    refine ⟨BC.cells_len hcok,λv hv=>yK (l:=[c]) v (by simpa [bU] using hv),λj v hj=>?_⟩
    have hj34:=(C4.1 hj).1
    rw [BC.cells_len hcok] at hj34
    rw [HR.out.1.cell (p:=⟨bc,i*34+j,none⟩) hbc si,H.out.cells.cell,mW H.out.ok.cells rest i c hc j hj34]
    exact hj
   have HSU:=D3 (Km hc)
   rw [<- HCN.out,<- HKEY.out,<- HCH.out] at HSU
   have HOK:=D3 hcok
   have hiI:(i:Int) < (n:Int):=U
   have hzr:=HR.out.1.size
   have hwl:bw < wr.heap.size:=by obtain ⟨v,ha,_⟩:=HR.out.2; exact ha.lt
   clear hc hcok
   go_upto_region 7 with (first
    | (refine qT rfl 178 (.tmp 30) rfl bc (i*34) rfl L _ (λj v hj=>HLX.out.2.2 j v hj) AAc rfl (by rw [HLX.out.1]; kernel_rfl) ?_)
    | (refine rV rfl 178 (.tmp 5) (.tmp 31) rfl rfl 178 _ L rfl (by rw [HLX.out.1]; rfl) (by rw [HLX.out.1]; kernel_rfl) HLX.out.2.1 ?_; intro w4 hf4 ha4))
   obtain ⟨bx,hbx⟩:∃ bx,bx=wr.heap.size:=⟨_,rfl⟩
   rw [<- hbx] at ha4 ⊢
   have hxw:bx≠bw:=U
   have H4:Hid (Fr [] w w4/\kX w4 w.heap.size bw (fW t i)/\At w4 bx 178 c.cells):=⟨HR.out.1.trans hf4,HR.out.2.bel hf4,by rw [<- HL.out]; exact ha4⟩
   clear hf4 ha4 hbx
   have hz4:=H4.out.1.size
   have c0:w4.cell? ⟨bx,0,none⟩=some (Value.int .i64 cnt):=by rw [H4.out.2.2.cell,lS,HCN.out]
   go_wp2_with fail
   refine (Si w.heap.size bw cnt (fW t i) w4 H4.out.2.1 hz4 (by rw [HCN.out]; exact HOK.out.count.1) (by rw [HCN.out]; exact HOK.out.count.2) (by have:=HEL.out i; omega)).mono ?_
   rintro e w5 ⟨rfl,hb5,ha5,ho5⟩
   have H5:Hid (Fr [] w w5/\kX w5 w.heap.size bw (fW t i++aE (gH cnt))/\At w5 bx 178 c.cells):=⟨H4.out.1.BG hb5 (J7 _) (by have:=HBW.out; simp; omega),ha5,ho5 bx _ _ H4.out.2.2 (by decide) hxw⟩
   clear c0 hb5 ha5 ho5 H4
   have hz5:=H5.out.1.size
   have hsl:∀ W:World,(Instr.sliceAt 130 (Z bx 1) none none none).run Tryz.prog W = .ok (.slice (some ⟨bx,1,none⟩) 32 32) W:=λW=>by kernel_rfl
   have hst:(convert 35 9 (.slice (some ⟨bx,1,none⟩) 32 32)).run Tryz.prog w5 = .ok (vS key) w5:=by
    have h1:=wD (P:=Tryz.prog) (src:=35) (dst:=9) Y1 a7 V7 w5 (some ⟨bx,1,none⟩) 32 key (λj v hj=>⟨bx,1,rfl,H5.out.2.2.lt,by
     rw [H5.out.2.2.cell,AEg 1 j,BC.cells,ABd,R1 (by rw [<- HKEY.out]; exact (C4.1 hj).1),<- HKEY.out]
     exact hj⟩)
    rw [HKL.out] at h1
    exact h1
   have HL5:Hid ((fW t i++aE (gH cnt)).length<=200010):=by
    show _<=_
    have h1:=HEL.out i
    have h2:=eY (gH cnt) (by rw [HCN.out]; exact xU c.count HOK.out.count.1 HOK.out.count.2)
    rw [C3]
    omega
   go_wp2_with fail
   refine (Sl w.heap.size bw key (fW t i++aE (gH cnt)) w5 H5.out.2.1 hz5 HKL.out (by have:=HL5.out; omega)).mono ?_
   rintro e w6 ⟨rfl,hb6,ha6,ho6⟩
   have H6:Hid (Fr [] w w6/\kX w6 w.heap.size bw (fW t i++aE (gH cnt)++key)/\At w6 bx 178 c.cells):=⟨H5.out.1.BG hb6 (J7 _) (by have:=HBW.out; simp; omega),ha6,ho6 bx _ _ H5.out.2.2 (by decide) hxw⟩
   clear hsl hst hb6 ha6 ho6 H5
   have hz6:=H6.out.1.size
   have c33:w6.cell? ⟨bx,33,none⟩=some (.int .u64 (chk:Int)):=by rw [H6.out.2.2.cell,qH HOK.out.keys,HCH.out]
   go_wp2_with fail
   refine (Cw w.heap.size bw chk (fW t i++aE (gH cnt)++key) w6 H6.out.2.1 hz6 (by rw [HCH.out]; exact HOK.out.checks) (by have:=HL5.out; rw [C3,HKL.out]; omega)).mono ?_
   rintro e w7 ⟨rfl,hb7,ha7,_⟩
   have H7:Hid (Fr [] w w7/\kX w7 w.heap.size bw (fW t (i+1))):=⟨H6.out.1.BG hb7 (J7 _) (by have:=HBW.out; simp; omega),by rw [HSU.out]; exact ha7⟩
   clear c33 hb7 ha7 H6
   go_wp2_with fail
   go_roundw
   case rel =>
    first
     | exact ⟨i+1,by omega,by go_num,H7⟩
     | ((repeat apply Exists.intro); exact ⟨⟨i+1,by omega,by go_num,H7⟩,rfl⟩)
   case measure=>simp [intOf] <;> omega
  .obtain rfl:i=n:=U
   go_wp2_with fail
   refine (Sj w.heap.size bw (fW t i) wr HR.out.2 (by have:=HEL.out i; omega)).mono ?_
   rintro e w8 ⟨v,rfl,ho8⟩
   have H8:=D3 ho8
   obtain ⟨A8,c8,rfl⟩:=lC ho8.own
   clear ho8
   go_wp2_with fail
   go_ret
   refine ⟨_,rfl,?_,HR.out.1.trans H8.out.fr⟩
   have h1:=H8.out.own
   unfold BT.enc
   rw [<- HN.out]
   exact xS h1 HR.out.1.size
section
variable {X:Option Addr × Nat}
def bY(X:Option Addr × Nat)(w:World)(br:Nat)(D:List UInt8)(off last:Nat)(err:Int):Prop :=
 ∃ A c,X=(A,c) /\ At w br 201 [.slice A D.length c,Value.int .i64 (off:Int),Value.int .i64 (last:Int),Value.int .i64 err] /\ w.ownsRow 0 5 1 (.slice A D.length c) D.length (B8 D)
def Sn(X:Option Addr × Nat)(br:Nat)(D:List UInt8)(off last:Nat)(w:World)(e:Ending)(w':World):Prop :=
 Fr [br] w w' /\ ∃ off',off' <= D.length /\ bY X w' br D off' last 0 /\
  match eP D off with
  | some (n,m)=>e = .returned (.tuple #[.int .u64 (n:Int),Value.int .i64 0]) /\ off'=m /\ dA n
  | none=>e = .returned (.tuple #[.int .u64 0,Value.int .i64 3])
theorem bY.fr{w b:Λ}{br:Nat}{D:Γ}{off last:Nat}{err:Int}(h:bY X w br D off last err)(a:Fr [] w b):bY X b br D off last err:=by
 obtain ⟨A,c,f,d,e⟩:=h
 exact ⟨A,c,f,d.fr a si,gC e a si⟩
theorem yO(br)(D:Γ)(off last:Nat)(w wr A)(c:Nat)(v:Ω)(k:Nat)(ha:At w br 201 [.slice A D.length c,C (off:Int),C (last:Int),C 0])(hrow:w.ownsRow 0 5 1 (.slice A D.length c) D.length (B8 D))(hX:X=(A,c))(hf:Fr [br] w wr)(hat:At wr br 201 [.slice A D.length c,v,C (last:Int),C 0])(nq:Nat):
  Fr [br] w ((wr.drewN nq).setCell ⟨br,1,none⟩ (C ((off:Int)+(k:Int)+1)))/\At ((wr.drewN nq).setCell ⟨br,1,none⟩ (C ((off:Int)+(k:Int)+1))) br 201 [.slice A D.length c,Y (off+k+1),C (last:Int),C 0]/\bY X ((wr.drewN nq).setCell ⟨br,1,none⟩ (C ((off:Int)+(k:Int)+1))) br D (off+k+1) last 0:=by
 have h1:=(hf.drewN nq).setCell (p:=⟨br,1,none⟩) zg (Value.int .i64 (off+k+1))
 have e:off+(k:Int)+1=((off+k+1:Nat)):=U
 have h2:=(hat.drewN nq).set 1 (Value.int .i64 (off+k+1))
 rw [e] at h1 h2 ⊢
 refine ⟨h1,h2,A,c,hX,h2,gC hrow h1 ?_⟩
 grind [nZ]
set_option maxHeartbeats 4000000 in
theorem Ko(br D off last w)(hr:bY X w br D off last 0)(ho:off<=D.length)(hD:D.length<=4294967296):
  Calls Tryz.prog 130 #[Z br 0] w (Sn X br D off last w):=by
 obtain ⟨A,c,hX,ha,hrow⟩:=hr
 have HR:=D3 (And.intro ha hrow)
 have HD:=D3 hD
 clear ha hrow hD
 go_enter Tryz.func130,Tryz.ntmps130
 go_wp2_with fail
 go_loopw [2,6] (λn i wr=>∃ k:Nat,k<=10/\i = .int .i64 k/\Fr [br] w wr/\At wr br 201 [.slice A D.length c,Value.int .i64 ((off+k:Nat):Int),Value.int .i64 (last:Int),Value.int .i64 0]/\off+k<=D.length /\
  (∀ j b,j < k->D[off+j]?=some b->128<=b.toNat)/\∃ m:Nat,n = .int .u64 (m:Int)/\dA m/\(k<=9->m=eC (D.drop off) k)) (λ_ i _=>10 - (intOf i).toNat)
 case atStart=>exact ⟨0,by omega,rfl,Fr.refl _ _,HR.out.1,ho,by intro j b h; omega,0,rfl,by unfold dA; decide,λ_=>by simp [eC]⟩
 case round =>
  obtain ⟨k,hk,rfl,hfr,hat,hle,hpre,m,rfl,hm,hacc⟩:=hrel
  have HS:=D3 (And.intro hfr (And.intro hat (And.intro hpre (And.intro hm hacc))))
  have c0:wr.cell? ⟨br,0,none⟩=some (.slice A D.length c):=by rw [hat.cell]; rfl
  have c1:wr.cell? ⟨br,1,none⟩=some (Value.int .i64 ((off+k:Nat):Int)):=by rw [hat.cell]; rfl
  have z1:wr.frozen? ⟨br,1,none⟩=false:=hat.frozen 1
  have hmI:(m:Int)<=18446744073709551615:=by unfold dA at hm; omega
  have hDI:(D.length:Int)<=4294967296:=by have:=HD.out; omega
  clear hfr hat hpre hm hacc
  by_cases hk10:k < 10
  .by_cases hend:off+k=D.length
   .have t1:(((off+k:Nat):Int) == (D.length:Int))=true:=by rw [hend]; simp
    have HE:=D3 hend
    clear hend
    go_wp2_with fail
    go_quiet (fail)
    go_wp2_with fail
    go_ret2
    refine ⟨HS.out.1.drewN _,off+k,hle,⟨A,c,hX,HS.out.2.1.drewN _,?_⟩,?_⟩
    .refine gC HR.out.2 (HS.out.1.drewN _) ?_
     intro g hg hm
     have:g=br:=by simpa using hm
     subst this
     exact nZ HR.out.2 HR.out.1 (by decide) hg
    .rw [IT D off k HS.out.2.2.1 HE.out]
     rfl
   .have hlt:off+k < D.length:=U
    have t1:(((off+k:Nat):Int) == (D.length:Int))=false:=by simp; omega
    obtain ⟨g,cap',rest,hv,_,_,hrat,hxl,_⟩:=IJ HR.out.2 U
    simp only [R6,true_and] at hv
    obtain ⟨rfl,rfl⟩:=hv
    have hx:=E1 hlt
    generalize D[off+k]=x at hx
    have hgb:g≠br:=λe=>nZ HR.out.2 HR.out.1 (by decide) (by rw [e]; rfl)
    have hcx:wr.cell? ⟨g,off+k,none⟩=some (.int .u8 (x.toNat:Int)):=by
     rw [(hrat.fr HS.out.1 (su hgb)).cell,R1 (by rw [eX]; exact hlt)]
     exact uN D _ x hx
    have hxb:=V1 x
    have HX:=D3 hx
    obtain ⟨m',he,hm'⟩:=QH m x k HS.out.2.2.2.1
    unfold Ej at he
    have HM:=D3 hm'
    clear hx hrat hend hm' hxl
    by_cases hx128:128<=x.toNat
    .have a1:(128:Int)<=(x.toNat:Int):=U
     go_wp2_with fail
     go_quiet (fail)
     go_wp2_with fail
     go_quiet (fail)
     go_wp2_with fail
     go_roundw
     case rel =>
      obtain ⟨f1,f2,f3⟩:=yO br D off last w wr _ c _ k HR.out.1 HR.out.2 hX HS.out.1 HS.out.2.1 _
      refine ⟨k+1,by omega,by go_num,f1,f2,by omega,?_,m',rfl,HM.out.1,λhk9=>?_⟩
      .intro j b hj hb
       by_cases e:j=k
       .subst e
        rw [HX.out] at hb
        injection hb with hb
        subst hb
        omega
       .exact HS.out.2.2.1 j b U hb
      .rw [uP k _ x (by rw [W8]; exact HX.out),<- HS.out.2.2.2.2 U]
       refine HM.out.2 ?_ ?_
       .rw [HS.out.2.2.2.2 U]; exact wC _ _
       .have h1:128 ^ k<=128 ^ 8:=Y2 U (by first | omega | (have:=HG.out; omega))
        have h2:=z8 x.toNat (show 128 > 0 by omega)
        have h3:x.toNat % 128*128 ^ k<=127*128 ^ 8:=Z9 U h1
        have h4:127*128 ^ 8 < 18446744073709551616:=by decide
        omega
     case measure=>simp [intOf]; omega
    .by_cases hbad:(0 < k/\x.toNat=0)\/(k=9/\1 < x.toNat)
     .have HB:=D3 hbad
      by_cases hx0:x.toNat=0
      .have a1:((x.toNat:Int) == 0)=true:=by simp [hx0]
       have a2:(0:Int) < (k:Int):=U
       have a3:(x.toNat:Int) < 128:=U
       clear hbad
       go_wp2_with fail
       go_quiet (fail)
       go_wp2_with fail
       go_quiet (fail)
       go_wp2_with fail
       go_ret2
       obtain ⟨f1,f2,f3⟩:=yO br D off last w wr _ c _ k HR.out.1 HR.out.2 hX HS.out.1 HS.out.2.1 _
       refine ⟨f1,_,?_,f3,?_⟩
       .omega
       rw [uQ D off k x HS.out.2.2.1 HX.out U]
       rw [P4 (by have:=HB.out; omega)]
       rfl
      .have a1:((x.toNat:Int) == 0)=false:=by simp; omega
       have a2:(0:Int) < (k:Int):=U
       have a3:(x.toNat:Int) < 128:=U
       have a4:((k:Int) == 9)=true:=by simp; omega
       have a5:(1:Int) < (x.toNat:Int):=U
       clear hbad
       go_wp2_with fail
       go_quiet (fail)
       go_wp2_with fail
       go_quiet (fail)
       go_wp2_with fail
       go_ret2
       obtain ⟨f1,f2,f3⟩:=yO br D off last w wr _ c _ k HR.out.1 HR.out.2 hX HS.out.1 HS.out.2.1 _
       refine ⟨f1,_,?_,f3,?_⟩
       .omega
       rw [uQ D off k x HS.out.2.2.1 HX.out U]
       rw [P4 (by have:=HB.out; omega)]
       rfl
     .have HG0:=D3 hbad
      by_cases hk0:k=0
      .have a1:decide ((0:Int) < (k:Int))=false:=by simp; omega
       have a1n:decide (0 < k)=false:=by simp; omega
       have HG:=D3 (And.intro HG0.out (And.intro hk0 hx128))
       have a3:(x.toNat:Int) < 128:=U
       have a4:((k:Int) == 9)=false:=by simp; omega
       clear hbad hk0 HG0
       go_wp2_with fail
       go_quiet (fail)
       go_wp2_with fail
       go_quiet (fail)
       go_wp2_with fail
       go_ret2
       obtain ⟨f1,f2,f3⟩:=yO br D off last w wr _ c _ k HR.out.1 HR.out.2 hX HS.out.1 HS.out.2.1 _
       refine ⟨f1,_,?_,f3,?_⟩
       .omega
       rw [uQ D off k x HS.out.2.2.1 HX.out U]
       rw [P1 (by have:=HG.out; omega)]
       have hv:m'=eC (D.drop off) (k+1):=by
        rw [uP k _ x (by rw [W8]; exact HX.out),<- HS.out.2.2.2.2 U]
        refine HM.out.2 ?_ ?_
        .rw [HS.out.2.2.2.2 U]; exact wC _ _
        .have h1:128 ^ k<=128 ^ 8:=Y2 U (by first | omega | (have:=HG.out; omega))
         have h2:=z8 x.toNat (show 128 > 0 by omega)
         have h3:x.toNat % 128*128 ^ k<=127*128 ^ 8:=Z9 U h1
         have h4:127*128 ^ 8 < 18446744073709551616:=by decide
         omega
       rw [<- hv]
       exact ⟨rfl,rfl,HM.out.1⟩
      .by_cases hk9:k=9
       .have a1:((x.toNat:Int) == 0)=false:=by simp; omega
        have a2:(0:Int) < (k:Int):=U
        have a3:(x.toNat:Int) < 128:=U
        have a4:((k:Int) == 9)=true:=by simp; omega
        have a5:¬ (1:Int) < (x.toNat:Int):=U
        have HK:=D3 hk9
        have HG:=D3 (And.intro HG0.out (And.intro hk9 hx128))
        clear hbad hk0 hk9
        go_wp2_with fail
        go_quiet (fail)
        go_wp2_with fail
        go_quiet (fail)
        go_wp2_with fail
        go_ret2
        obtain ⟨f1,f2,f3⟩:=yO br D off last w wr _ c _ k HR.out.1 HR.out.2 hX HS.out.1 HS.out.2.1 _
        refine ⟨f1,_,?_,f3,?_⟩
        .omega
        rw [uQ D off k x HS.out.2.2.1 HX.out U]
        rw [P1 (by have:=HG.out; omega)]
        have hv:m'=eC (D.drop off) (k+1):=by
         rw [uP k _ x (by rw [W8]; exact HX.out),<- HS.out.2.2.2.2 U]
         refine HM.out.2 ?_ ?_
         .rw [HS.out.2.2.2.2 U]; exact wC _ _
         .have hk9:=HK.out
          subst hk9
          have h1:x.toNat % 128=1:=by have:=HG.out; omega
          rw [h1]
          decide
        rw [<- hv]
        exact ⟨rfl,rfl,HM.out.1⟩
       .have a1:((x.toNat:Int) == 0)=false:=by simp; omega
        have a2:(0:Int) < (k:Int):=U
        have a3:(x.toNat:Int) < 128:=U
        have a4:((k:Int) == 9)=false:=by simp; omega
        have HG:=D3 (And.intro HG0.out (And.intro hk9 (And.intro hk0 hx128)))
        clear hbad hk9 hk0
        go_wp2_with fail
        go_quiet (fail)
        go_wp2_with fail
        go_quiet (fail)
        go_wp2_with fail
        go_ret2
        obtain ⟨f1,f2,f3⟩:=yO br D off last w wr _ c _ k HR.out.1 HR.out.2 hX HS.out.1 HS.out.2.1 _
        refine ⟨f1,_,?_,f3,?_⟩
        .omega
        rw [uQ D off k x HS.out.2.2.1 HX.out U]
        rw [P1 (by have:=HG.out; omega)]
        have hv:m'=eC (D.drop off) (k+1):=by
         rw [uP k _ x (by rw [W8]; exact HX.out),<- HS.out.2.2.2.2 U]
         refine HM.out.2 ?_ ?_
         .rw [HS.out.2.2.2.2 U]; exact wC _ _
         .have h1:128 ^ k<=128 ^ 8:=Y2 U (by first | omega | (have:=HG.out; omega))
          have h2:=z8 x.toNat (show 128 > 0 by omega)
          have h3:x.toNat % 128*128 ^ k<=127*128 ^ 8:=Z9 U h1
          have h4:127*128 ^ 8 < 18446744073709551616:=by decide
          omega
        rw [<- hv]
        exact ⟨rfl,rfl,HM.out.1⟩
  .obtain rfl:k=10:=U
   go_wp2_with fail
   go_ret2
   refine ⟨HS.out.1,off+10,hle,⟨A,c,hX,HS.out.2.1,?_⟩,?_⟩
   .refine gC HR.out.2 HS.out.1 ?_
    intro g hg hm
    have:g=br:=by simpa using hm
    subst this
    exact nZ HR.out.2 HR.out.1 (by decide) hg
   .rw [IU D off HS.out.2.2.1 hle]
    rfl
end
section
variable {X:Option Addr × Nat}
structure Rd where
 D:List UInt8
 off:Nat
 last:Nat
 err:Int
structure Rd.Ok (r:Rd):Prop where
 off:r.off <= r.D.length
 len:r.D.length <= 4294967296
def cF(X:Option Addr × Nat)(w:World)(br:Nat)(r:Rd):Prop:=bY X w br r.D r.off r.last r.err
def Rd.done(r:Rd)(m:Nat):Rd:={ r with off:=m,last:=r.off }
def Rd.fail(r:Rd)(e:Int):Rd:={ r with last:=r.off,err:=e }
def Rd.uint(r:Rd):Nat × Rd:=if r.err=0 then (match eP r.D r.off with | some (n,m)=>(n,r.done m) | none=>(0,r.fail 3)) else (0,r)
theorem Sp(b0 b1 b2 br A n c off last start w)(h0:At w b0 3 [C start])(h1:At w b1 148 [Z br 0])(hr:At w br 201 [.slice A n c,C off,C last,C 0]):
  CallsD Tryz.prog 161 #[Z b0 0,Z b1 0,Z b2 0] .returning w λe u' w'=>u' = .returning/\e = .returned (.tuple #[])/\w'=w.setCell ⟨br,2,none⟩ (C start):=by
 have c0:w.cell? ⟨b0,0,none⟩=some (Value.int .i64 start):=by rw [h0.cell]; rfl
 have c1:w.cell? ⟨b1,0,none⟩=some (Value.pointer (qa br)):=by rw [h1.cell]; rfl
 have c2:w.cell? ⟨br,2,none⟩=some (Value.int .i64 last):=by rw [hr.cell]; rfl
 have c3:w.cell? ⟨br,3,none⟩=some (C 0):=by rw [hr.cell]; rfl
 have z2:=hr.frozen 2
 have hne:b1≠br:=h1.ne hr (by decide)
 clear h0 h1 hr
 go_enter_d Tryz.func161,Tryz.ntmps161
 go_wp2_with fail
 go_end0
 exact ⟨rfl,rfl⟩
theorem Sq(b0 b1 b2 br A n c off last start err v w)(h0:At w b0 3 [C start])(h1:At w b1 148 [Z br 0])(h2:At w b2 92 [.int .u64 v])(hr:At w br 201 [.slice A n c,C off,C last,C err])(he:err≠0):
  CallsD Tryz.prog 161 #[Z b0 0,Z b1 0,Z b2 0] .returning w λe u' w'=>u' = .returning/\e = .returned (.tuple #[])/\w'=((w.setCell ⟨br,2,none⟩ (C start)).setCell ⟨br,1,none⟩ (C start)).setCell ⟨b2,0,none⟩ (.int .u64 0):=by
 have c0:w.cell? ⟨b0,0,none⟩=some (Value.int .i64 start):=by rw [h0.cell]; rfl
 have c1:w.cell? ⟨b1,0,none⟩=some (Value.pointer (qa br)):=by rw [h1.cell]; rfl
 have cr1:w.cell? ⟨br,1,none⟩=some (Value.int .i64 off):=by rw [hr.cell]; rfl
 have c2:w.cell? ⟨br,2,none⟩=some (Value.int .i64 last):=by rw [hr.cell]; rfl
 have c3:w.cell? ⟨br,3,none⟩=some (Value.int .i64 err):=by rw [hr.cell]; rfl
 have c4:w.cell? ⟨b2,0,none⟩=some (.int .u64 v):=by rw [h2.cell]; rfl
 have z2:=hr.frozen 2
 have z1:=hr.frozen 1
 have z4:=h2.frozen 0
 have hne:b1≠br:=h1.ne hr (by decide)
 have hne2:b2≠br:=h2.ne hr (by decide)
 have hne0:b0≠br:=h0.ne hr (by decide)
 have heb:(err != 0)=true:=by simpa using he
 clear h0 h1 hr h2 he
 go_enter_d Tryz.func161,Tryz.ntmps161
 go_wp2_with fail
 go_end0
 exact ⟨rfl,rfl⟩
theorem Fp(br D off last w)(k:bY X w br D off last 0)(j:off<=D.length)(g:D.length<=4294967296)(n m)(h:eP D off=some (n,m)):
  Θ 130 #[Z br 0] w λe a=>e = .returned (.tuple #[.int .u64 (n:Int),C 0])/\Fr [br] w a/\bY X a br D m last 0/\m<=D.length/\dA n:=by
 refine (Ko br D off last w k j g).mono ?_
 rintro e a ⟨i,c,d,f,b⟩
 rw [h] at b
 obtain ⟨rfl,rfl,l⟩:=b
 exact ⟨I,i,f,d,l⟩
theorem Kp(br D off last w)(k:bY X w br D off last 0)(j:off<=D.length)(g:D.length<=4294967296)(h:eP D off=none):
  Θ 130 #[Z br 0] w λe b=>e = .returned (.tuple #[.int .u64 0,C 3])/\Fr [br] w b/\∃ a,a<=D.length/\bY X b br D a last 0:=by
 refine (Ko br D off last w k j g).mono ?_
 rintro e b ⟨i,a,d,f,c⟩
 rw [h] at c
 exact ⟨c,i,_,d,f⟩
theorem bY.ne{w:Λ}{br b:Nat}{D:Γ}{off last:Nat}{err:Int}{t:Υ}{l:Ξ}(h:bY X w br D off last err)(e:At w b t l)(a:t≠201):b≠br:=by
 obtain ⟨A,c,f,d,_⟩:=h
 exact e.ne d a
theorem sR{W a:Λ}{br B b2:Nat}{D:Γ}{off last d b:Nat}{err:Int}{t2:Υ}{f:Ω}(g:At W B 148 [Z br 0])(h:At W b2 t2 [f])(k:bY X W br D off last 0)(j:Fr [br] W.drew a)(e:bY X a br D d b err)(m:t2≠201:=by decide):
  a.cell? ⟨B,0,none⟩=some (.pointer (qa br))/\a.cell? ⟨b2,0,none⟩=some f/\a.frozen? ⟨b2,0,none⟩=false/\a.cell? ⟨br,3,none⟩=some (C err)/\a.frozen? ⟨br,3,none⟩=false:=by
 have o:=k.ne g (by decide)
 have p:=k.ne h m
 have n:At a B 148 _:=(At.drew g).fr j (by simpa using o)
 have l:At a b2 t2 [f]:=(At.drew h).fr j (by simpa using p)
 obtain ⟨A,c,q,i,_⟩:=e
 exact ⟨by rw [n.cell]; rfl,by rw [l.cell]; rfl,l.frozen 0,by rw [i.cell]; rfl,i.frozen 3⟩
theorem sS{W a:Λ}{br B b2 i:Nat}{D:Γ}{off last h d:Nat}{start:Int}{t2:Υ}{x:Ω}(r:At W B 148 [Z br 0])(E:At W b2 t2 [x])(F:At W i 3 [C start])(L:bY X W br D off last 0)(f:Fr [br] W.drew a)(p:bY X a br D h d 0)(v e)(K:b2≠br/\b2≠B/\b2≠i/\i≠br)(q:t2≠5):
  At (((a.setCell ⟨b2,0,none⟩ v).setCell ⟨br,3,none⟩ e).setCell ⟨b2,0,none⟩ v) B 148 [Z br 0]/\At (((a.setCell ⟨b2,0,none⟩ v).setCell ⟨br,3,none⟩ e).setCell ⟨b2,0,none⟩ v) b2 t2 [v]/\At (((a.setCell ⟨b2,0,none⟩ v).setCell ⟨br,3,none⟩ e).setCell ⟨b2,0,none⟩ v) i 3 [C start] /\
  (∃ A c,X=(A,c)/\At (((a.setCell ⟨b2,0,none⟩ v).setCell ⟨br,3,none⟩ e).setCell ⟨b2,0,none⟩ v) br 201 [.slice A D.length c,C (h:Int),C (d:Int),e]/\(((a.setCell ⟨b2,0,none⟩ v).setCell ⟨br,3,none⟩ e).setCell ⟨b2,0,none⟩ v).ownsRow 0 5 1 (.slice A D.length c) D.length (B8 D)) /\
  Fr [br,b2] W (((a.setCell ⟨b2,0,none⟩ v).setCell ⟨br,3,none⟩ e).setCell ⟨b2,0,none⟩ v):=by
 obtain ⟨o,j,k,l⟩:=K
 have w:=L.ne r (by decide)
 have n:b2≠br:=o
 have N:At a B 148 _:=(At.drew r).fr f (by simpa using w)
 have u:At a b2 t2 [x]:=(At.drew E).fr f (by simpa using n)
 have O:At a i 3 _:=(At.drew F).fr f (by simpa using l)
 obtain ⟨A,c,H,m,b⟩:=p
 have y:Fr [br,b2] W (((a.setCell ⟨b2,0,none⟩ v).setCell ⟨br,3,none⟩ e).setCell ⟨b2,0,none⟩ v):=by
  have:Fr [br] W a:=⟨f.os,f.tape,f.output,f.size,f.block⟩
  exact (((this.mono si).setCell (.inl si) _).setCell (.inl si) _).setCell (.inl si) _
 refine ⟨((N.far (by simpa using j.symm) _).far (by simpa using w) _).far (by simpa using j.symm) _,?_,((O.far (by simpa using k.symm) _).far (by simpa using l) _).far (by simpa using k.symm) _,⟨A,c,H,?_,?_⟩,y⟩
 .exact ((u.set 0 v).far (su n) _).set 0 v
 .exact ((m.far (su n.symm) _).set 3 e).far (su n.symm) _
 .have z:Fr [br,b2] a (((a.setCell ⟨b2,0,none⟩ v).setCell ⟨br,3,none⟩ e).setCell ⟨b2,0,none⟩ v):=((((Fr.refl _ _).setCell zg _).setCell zg _).setCell (.inl si) _)
  refine gC b z ?_
  intro g s t
  simp only [T0,U7,k4] at t
  rcases t with rfl | rfl
  .exact nZ b m (by decide) s
  .exact nZ b u (AIa q) s
theorem Av{W a:Λ}{w:Λ}{br:Nat}{D:Γ}{off m last:Nat}{b2:Nat}{t2:Υ}{v:Ω}{A:Δ}{c:Nat}(g:Fr [] w W)(j:Fr [br,b2] W a)(i:w.heap.size<=b2)(e:At a b2 t2 [v])(k:t2≠201)(f:At a br 201 [.slice A D.length c,C (m:Int),C (last:Int),C 0])(b:a.ownsRow 0 5 1 (.slice A D.length c) D.length (B8 D))(h:X=(A,c)):
  (a.setCell ⟨br,2,none⟩ (C (off:Int))).cell? ⟨b2,0,none⟩=some v/\Fr [br] w (a.setCell ⟨br,2,none⟩ (C (off:Int)))/\bY X (a.setCell ⟨br,2,none⟩ (C (off:Int))) br D m off 0:=by
 have d:=e.ne f k
 refine ⟨by rw [(e.far (by simpa using d) _).cell]; rfl,?_,A,c,h,f.set 2 _,?_⟩
 .refine ((g.mono (S':=[br]) si).trans' j ?_).setCell (.inl si) _
  grind
 .refine gC (S:=[br]) b ((Fr.refl _ _).setCell zg _) ?_
  grind [nZ]
theorem Aw{W d:Λ}{w:Λ}{br:Nat}{D:Γ}{off m last:Nat}{b2:Nat}{t2:Υ}{v z:Ω}{j:Int}{A:Δ}{c:Nat}(n:Fr [] w W)(p:Fr [br,b2] W d)(f:w.heap.size<=b2)(e:At d b2 t2 [v])(q:t2≠201)(i:t2≠5)(h:At d br 201 [.slice A D.length c,C (m:Int),C (last:Int),C j])(a:d.ownsRow 0 5 1 (.slice A D.length c) D.length (B8 D))(o:X=(A,c)):
  (((d.setCell ⟨br,2,none⟩ (C (off:Int))).setCell ⟨br,1,none⟩ (C (off:Int))).setCell ⟨b2,0,none⟩ z).cell? ⟨b2,0,none⟩=some z/\Fr [br] w (((d.setCell ⟨br,2,none⟩ (C (off:Int))).setCell ⟨br,1,none⟩ (C (off:Int))).setCell ⟨b2,0,none⟩ z)/\bY X (((d.setCell ⟨br,2,none⟩ (C (off:Int))).setCell ⟨br,1,none⟩ (C (off:Int))).setCell ⟨b2,0,none⟩ z) br D off off j:=by
 have b:=e.ne h q
 refine ⟨by rw [(((e.far (by simpa using b) _).far (by simpa using b) _).set 0 z).cell]; rfl,?_,A,c,o,(((h.set 2 _).set 1 _).far (by simpa using b.symm) _),?_⟩
 .refine ((((n.mono (S':=[br]) si).trans' p ?_).setCell (.inl si) _).setCell (.inl si) _).setCell (.inr f) _
  grind
 .refine gC (S:=[br,b2]) a ((((Fr.refl _ _).setCell zg _).setCell zg _).setCell (.inl si) _) ?_
  intro g k l
  simp only [T0,U7,k4] at l
  rcases l with rfl | rfl
  .exact nZ a h (by decide) k
  .exact nZ a e (AIa i) k
set_option maxHeartbeats 4000000 in
theorem Sr(br r w)(hr:cF X w br r)(hk:r.Ok)(h0:r.err=0):
  Calls Tryz.prog 129 #[Z br 0,.func (.func 130) #[Z br 0] #[]] w λe w'=>e = .returned (.int .u64 (r.uint.1:Int))/\Fr [br] w w'/\cF X w' br r.uint.2:=by
 obtain ⟨D,off,last,err⟩:=r
 simp only at h0
 subst h0
 obtain ⟨A,c,hX,ha,hrow⟩:=hr
 have c1:w.cell? ⟨br,1,none⟩=some (Value.int .i64 (off:Int)):=by rw [ha.cell]; rfl
 have c3:w.cell? ⟨br,3,none⟩=some (C 0):=by rw [ha.cell]; rfl
 have hlt:=ha.lt
 have HR:=Lib.hid (And.intro ha hrow)
 have HK:=Lib.hid hk
 clear ha hrow hk
 have hmf:∀ (fn:Fn) (first cap:Array Value) (w:World),(Instr.makeFunc fn first cap).run Tryz.prog w = .ok (.func fn first cap) w:=λ_ _ _ _=>rfl
 go_enter_defers Tryz.func129,Tryz.ntmps129
 go_wp2_with fail
 obtain ⟨W,hW⟩:∃ W,W=((w.alloc (Obj.cells #[Z br 0] 148)).alloc (Obj.cells #[Value.int IntKind.u64 0] 92)).alloc (Obj.cells #[C (off:Int)] 3):=⟨_,rfl⟩
 rw [<- hW]
 have HW:Hid (At W w.heap.size 148 [Z br 0]/\At W (w.heap.size+1) 92 [.int .u64 0]/\At W (w.heap.size+1+1) 3 [C (off:Int)]/\Fr [] w W/\bY X W br D off last 0):=by
  rw [hW]
  refine ⟨((At.new w 148 [Z br 0]).alloc _).alloc _,?_,?_,(((Fr.refl _ _).alloc _).alloc _).alloc _,A,c,hX,((HR.out.1.alloc _).alloc _).alloc _,((HR.out.2.alloc _).alloc _).alloc _⟩
  .have:=(At.new (w.alloc (Obj.cells #[Z br 0] 148)) 92 [.int .u64 0]).alloc (Obj.cells #[C (off:Int)] 3)
   simpa using this
  .have:=At.new ((w.alloc (Obj.cells #[Z br 0] 148)).alloc (Obj.cells #[Value.int IntKind.u64 0] 92)) 3 [C (off:Int)]
   simpa using this
 clear hW c1 c3
 have d0:W.cell? ⟨w.heap.size,0,none⟩=some (Value.pointer (qa br)):=by rw [HW.out.1.cell]; rfl
 have nb1:w.heap.size≠br:=U
 have nb2:br≠w.heap.size:=U
 cases hrd:eP D off with
 | some p =>
   obtain ⟨n,m⟩:=p
   have HD:=Lib.hid hrd
   clear hrd
   go_region_held3 (λw'=>w'.cell? ⟨w.heap.size,0,none⟩=some (Value.pointer (qa br))) (go_keep) (first | (go_at_call 130; refine (Fp br D off last _ (by exact HW.out.2.2.2.2) HK.out.off HK.out.len n m HD.out).mono ?_; rintro e w1 ⟨rfl,hf1,hr1,hm1,hu1⟩; obtain ⟨e0,e1,z1,e3,z3⟩:=sR (W:=W) HW.out.1 HW.out.2.1 HW.out.2.2.2.2 hf1 hr1; have H1:=Lib.hid (And.intro hf1 (And.intro hr1 (And.intro hm1 hu1))); clear hf1 hr1 hm1 hu1))
   go_wp2_with fail
   obtain ⟨k0,k1,k2,k3,kf⟩:=sS HW.out.1 HW.out.2.1 HW.out.2.2.1 HW.out.2.2.2.2 H1.out.1 H1.out.2.1 (.int .u64 (n:Int)) (C 0) U (by decide)
   refine leaves_cons (f:=161) (args:=#[Value.pointer (some ⟨w.heap.size+1+1,0,none⟩),Value.pointer (qa w.heap.size),Value.pointer (some ⟨w.heap.size+1,0,none⟩)]) si (by simp [go_sem]) ?_
   obtain ⟨A',c',hX',k3'⟩:=k3
   refine (Sp _ _ _ br A' _ c' _ _ _ _ k2 k0 k3'.1).mono ?_
   rintro e u' w'' ⟨rfl,rfl,rfl⟩
   obtain ⟨g1,g2,g3⟩:=Av (off:=off) HW.out.2.2.2.1 kf U k1 (by decide) k3'.1 k3'.2 hX'
   refine ⟨.int .u64 (n:Int),by simp [results,Tryz.results129,go_sem,g1],?_,g2,?_⟩
   .simp only [Rd.uint,if_true,HD.out]
   .simp only [Rd.uint,if_true,HD.out]
    exact g3
 | none =>
   have HD:=Lib.hid hrd
   clear hrd
   go_region_held3 (λw'=>w'.cell? ⟨w.heap.size,0,none⟩=some (Value.pointer (qa br))) (go_keep) (first | (go_at_call 130; refine (Kp br D off last _ (by exact HW.out.2.2.2.2) HK.out.off HK.out.len HD.out).mono ?_; rintro e w1 ⟨rfl,hf1,off',hm1,hr1⟩; obtain ⟨e0,e1,z1,e3,z3⟩:=sR (W:=W) HW.out.1 HW.out.2.1 HW.out.2.2.2.2 hf1 hr1; have H1:=Lib.hid (And.intro hf1 (And.intro hr1 hm1)); clear hf1 hr1 hm1))
   go_wp2_with fail
   obtain ⟨k0,k1,k2,k3,kf⟩:=sS HW.out.1 HW.out.2.1 HW.out.2.2.1 HW.out.2.2.2.2 H1.out.1 H1.out.2.1 (.int .u64 0) (Value.int .i64 3) U (by decide)
   refine leaves_cons (f:=161) (args:=#[Value.pointer (some ⟨w.heap.size+1+1,0,none⟩),Value.pointer (qa w.heap.size),Value.pointer (some ⟨w.heap.size+1,0,none⟩)]) si (by simp [go_sem]) ?_
   obtain ⟨A',c',hX',k3'⟩:=k3
   refine (Sq _ _ _ br A' _ c' _ _ _ 3 0 _ k2 k0 k1 k3'.1 (by decide)).mono ?_
   rintro e u' w'' ⟨rfl,rfl,rfl⟩
   obtain ⟨g1,g2,g3⟩:=Aw (off:=off) (z:=.int .u64 0) HW.out.2.2.2.1 kf U k1 (by decide) (by decide) k3'.1 k3'.2 hX'
   refine ⟨.int .u64 0,by simp [results,Tryz.results129,go_sem,g1],?_,g2,?_⟩
   .simp only [Rd.uint,if_true,HD.out]
    rfl
   .simp only [Rd.uint,if_true,HD.out]
    exact g3
theorem Ss(br r fv w)(hr:cF X w br r)(h0:r.err≠0):
  Calls Tryz.prog 129 #[Z br 0,fv] w λe w'=>e = .returned (.int .u64 0)/\Fr [] w w'/\cF X w' br r:=by
 have hr0:=hr
 obtain ⟨A,c,hX,ha,hrow⟩:=hr
 have c3:w.cell? ⟨br,3,none⟩=some (Value.int .i64 r.err):=by rw [ha.cell]; rfl
 have hb:(r.err != 0)=true:=by simpa using h0
 have hlt:=ha.lt
 have HR:=D3 hr0
 clear ha hrow hr0 h0
 go_enter_defers Tryz.func129,Tryz.ntmps129
 go_wp2_with fail
 have hf:Fr [] w ((w.alloc (Obj.cells #[Z br 0] 148)).alloc (Obj.cells #[Value.int IntKind.u64 0] 92)):=((Fr.refl _ _).alloc _).alloc _
 exact ⟨.int .u64 0,by simp [results,go_sem],rfl,hf,bY.fr HR.out hf⟩
end
section
variable {X:Option Addr × Nat}
theorem Su(b0 b1 b2 br A n c off last start w)(h0:At w b0 3 [C start])(h1:At w b1 148 [Z br 0])(hr:At w br 201 [.slice A n c,C off,C last,C 0]):
  CallsD Tryz.prog 213 #[Z b0 0,Z b1 0,Z b2 0] .returning w λe u' w'=>u' = .returning/\e = .returned (.tuple #[])/\w'=w.setCell ⟨br,2,none⟩ (C start):=by
 have c0:w.cell? ⟨b0,0,none⟩=some (Value.int .i64 start):=by rw [h0.cell]; rfl
 have c1:w.cell? ⟨b1,0,none⟩=some (Value.pointer (qa br)):=by rw [h1.cell]; rfl
 have c2:w.cell? ⟨br,2,none⟩=some (Value.int .i64 last):=by rw [hr.cell]; rfl
 have c3:w.cell? ⟨br,3,none⟩=some (C 0):=by rw [hr.cell]; rfl
 have z2:=hr.frozen 2
 have hne:b1≠br:=h1.ne hr (by decide)
 clear h0 h1 hr
 go_enter_d Tryz.func213,Tryz.ntmps213
 go_wp2_with fail
 go_end0
 exact ⟨rfl,rfl⟩
theorem Sv(b0 b1 b2 br A n c off last start err v w)(h0:At w b0 3 [C start])(h1:At w b1 148 [Z br 0])(h2:At w b2 3 [v])(hr:At w br 201 [.slice A n c,C off,C last,C err])(he:err≠0)(hb:b2≠b0/\b2≠br):
  CallsD Tryz.prog 213 #[Z b0 0,Z b1 0,Z b2 0] .returning w λe u' w'=>u' = .returning/\e = .returned (.tuple #[])/\w'=((w.setCell ⟨br,2,none⟩ (C start)).setCell ⟨br,1,none⟩ (C start)).setCell ⟨b2,0,none⟩ (C 0):=by
 have c0:w.cell? ⟨b0,0,none⟩=some (Value.int .i64 start):=by rw [h0.cell]; rfl
 have c1:w.cell? ⟨b1,0,none⟩=some (Value.pointer (qa br)):=by rw [h1.cell]; rfl
 have cr1:w.cell? ⟨br,1,none⟩=some (Value.int .i64 off):=by rw [hr.cell]; rfl
 have c2:w.cell? ⟨br,2,none⟩=some (Value.int .i64 last):=by rw [hr.cell]; rfl
 have c3:w.cell? ⟨br,3,none⟩=some (Value.int .i64 err):=by rw [hr.cell]; rfl
 have c4:w.cell? ⟨b2,0,none⟩=some v:=by rw [h2.cell]; rfl
 have z2:=hr.frozen 2
 have z1:=hr.frozen 1
 have z4:=h2.frozen 0
 have hne:b1≠br:=h1.ne hr (by decide)
 have hne2:b2≠br:=hb.2
 have hne0:b0≠br:=h0.ne hr (by decide)
 have heb:(err != 0)=true:=by simpa using he
 clear h0 h1 hr h2 he hb
 go_enter_d Tryz.func213,Tryz.ntmps213
 go_wp2_with fail
 go_end0
 exact ⟨rfl,rfl⟩
set_option maxHeartbeats 4000000 in
theorem Sw(br D off last m x bx by_ w)(hr:bY X w br D off last 0)(hdec:∀ W,Fr [] w W->bY X W br D off last 0->Calls Tryz.prog 193 #[Z bx 0,Z by_ 0] W λe w'=>e = .returned (.tuple #[C x,C 0])/\Fr [br] W w'/\bY X w' br D m last 0):
  Calls Tryz.prog 192 #[Z br 0,.func (.func 193) #[] #[Z bx 0,Z by_ 0]] w λe w'=>e = .returned (C x)/\Fr [br] w w'/\bY X w' br D m off 0:=by
 obtain ⟨A,c,hX,ha,hrow⟩:=hr
 have c1:w.cell? ⟨br,1,none⟩=some (Value.int .i64 (off:Int)):=by rw [ha.cell]; rfl
 have c3:w.cell? ⟨br,3,none⟩=some (C 0):=by rw [ha.cell]; rfl
 have hlt:=ha.lt
 have HR:=Lib.hid (And.intro ha hrow)
 have HD:=Lib.hid hdec
 clear ha hrow hdec
 have hmf:∀ (fn:Fn) (first cap:Array Value) (w:World),(Instr.makeFunc fn first cap).run Tryz.prog w = .ok (.func fn first cap) w:=λ_ _ _ _=>rfl
 go_enter_defers Tryz.func192,Tryz.ntmps192
 go_wp2_with fail
 obtain ⟨W,hW⟩:∃ W,W=((w.alloc (Obj.cells #[Z br 0] 148)).alloc (Obj.cells #[C 0] 3)).alloc (Obj.cells #[C (off:Int)] 3):=⟨_,rfl⟩
 rw [<- hW]
 have HW:Hid (At W w.heap.size 148 [Z br 0]/\At W (w.heap.size+1) 3 [C 0]/\At W (w.heap.size+1+1) 3 [C (off:Int)]/\Fr [] w W/\bY X W br D off last 0):=by
  rw [hW]
  refine ⟨((At.new w 148 [Z br 0]).alloc _).alloc _,?_,?_,(((Fr.refl _ _).alloc _).alloc _).alloc _,A,c,hX,((HR.out.1.alloc _).alloc _).alloc _,((HR.out.2.alloc _).alloc _).alloc _⟩
  .have:=(At.new (w.alloc (Obj.cells #[Z br 0] 148)) 3 [C 0]).alloc (Obj.cells #[C (off:Int)] 3)
   simpa using this
  .have:=At.new ((w.alloc (Obj.cells #[Z br 0] 148)).alloc (Obj.cells #[C 0] 3)) 3 [C (off:Int)]
   simpa using this
 clear hW c1 c3
 have d0:W.cell? ⟨w.heap.size,0,none⟩=some (Value.pointer (qa br)):=by rw [HW.out.1.cell]; rfl
 have nb1:w.heap.size≠br:=U
 have nb2:br≠w.heap.size:=U
 go_region_held3 (λw'=>w'.cell? ⟨w.heap.size,0,none⟩=some (Value.pointer (qa br))) (go_keep) (first | (go_at_call 193; refine (HD.out W.drew (by exact HW.out.2.2.2.1.drew) (by exact HW.out.2.2.2.2)).mono ?_; rintro e w1 ⟨rfl,hf1,hr1⟩; obtain ⟨e0,e1,z1,e3,z3⟩:=sR (W:=W) HW.out.1 HW.out.2.1 HW.out.2.2.2.2 hf1 hr1; have H1:=Lib.hid (And.intro hf1 hr1); clear hf1 hr1))
 go_wp2_with fail
 obtain ⟨k0,k1,k2,k3,kf⟩:=sS HW.out.1 HW.out.2.1 HW.out.2.2.1 HW.out.2.2.2.2 H1.out.1 H1.out.2 (Value.int .i64 x) (C 0) U (by decide)
 refine leaves_cons (f:=213) (args:=#[Value.pointer (some ⟨w.heap.size+1+1,0,none⟩),Value.pointer (qa w.heap.size),Value.pointer (some ⟨w.heap.size+1,0,none⟩)]) si (by simp [go_sem]) ?_
 obtain ⟨A',c',hX',k3'⟩:=k3
 refine (Su _ _ _ br A' _ c' _ _ _ _ k2 k0 k3'.1).mono ?_
 rintro e u' w'' ⟨rfl,rfl,rfl⟩
 obtain ⟨g1,g2,g3⟩:=Av (off:=off) HW.out.2.2.2.1 kf U k1 (by decide) k3'.1 k3'.2 hX'
 exact ⟨Value.int .i64 x,by simp [results,Tryz.results192,go_sem,g1],rfl,g2,g3⟩
set_option maxHeartbeats 4000000 in
theorem Kq(br D off last er x bx by_ w)(hr:bY X w br D off last 0)(he:er≠0)(hdec:∀ W,Fr [] w W->bY X W br D off last 0->Calls Tryz.prog 193 #[Z bx 0,Z by_ 0] W λe w'=>e = .returned (.tuple #[C x,C er])/\Fr [br] W w'/\∃ off':Nat,bY X w' br D off' last 0):
  Calls Tryz.prog 192 #[Z br 0,.func (.func 193) #[] #[Z bx 0,Z by_ 0]] w λe w'=>e = .returned (C 0)/\Fr [br] w w'/\bY X w' br D off off er:=by
 have HE:=Lib.hid he
 clear he
 obtain ⟨A,c,hX,ha,hrow⟩:=hr
 have c1:w.cell? ⟨br,1,none⟩=some (Value.int .i64 (off:Int)):=by rw [ha.cell]; rfl
 have c3:w.cell? ⟨br,3,none⟩=some (C 0):=by rw [ha.cell]; rfl
 have hlt:=ha.lt
 have HR:=Lib.hid (And.intro ha hrow)
 have HD:=Lib.hid hdec
 clear ha hrow hdec
 have hmf:∀ (fn:Fn) (first cap:Array Value) (w:World),(Instr.makeFunc fn first cap).run Tryz.prog w = .ok (.func fn first cap) w:=λ_ _ _ _=>rfl
 go_enter_defers Tryz.func192,Tryz.ntmps192
 go_wp2_with fail
 obtain ⟨W,hW⟩:∃ W,W=((w.alloc (Obj.cells #[Z br 0] 148)).alloc (Obj.cells #[C 0] 3)).alloc (Obj.cells #[C (off:Int)] 3):=⟨_,rfl⟩
 rw [<- hW]
 have HW:Hid (At W w.heap.size 148 [Z br 0]/\At W (w.heap.size+1) 3 [C 0]/\At W (w.heap.size+1+1) 3 [C (off:Int)]/\Fr [] w W/\bY X W br D off last 0):=by
  rw [hW]
  refine ⟨((At.new w 148 [Z br 0]).alloc _).alloc _,?_,?_,(((Fr.refl _ _).alloc _).alloc _).alloc _,A,c,hX,((HR.out.1.alloc _).alloc _).alloc _,((HR.out.2.alloc _).alloc _).alloc _⟩
  .have:=(At.new (w.alloc (Obj.cells #[Z br 0] 148)) 3 [C 0]).alloc (Obj.cells #[C (off:Int)] 3)
   simpa using this
  .have:=At.new ((w.alloc (Obj.cells #[Z br 0] 148)).alloc (Obj.cells #[C 0] 3)) 3 [C (off:Int)]
   simpa using this
 clear hW c1 c3
 have d0:W.cell? ⟨w.heap.size,0,none⟩=some (Value.pointer (qa br)):=by rw [HW.out.1.cell]; rfl
 have nb1:w.heap.size≠br:=U
 have nb2:br≠w.heap.size:=U
 go_region_held3 (λw'=>w'.cell? ⟨w.heap.size,0,none⟩=some (Value.pointer (qa br))) (go_keep) (first | (go_at_call 193; refine (HD.out W.drew (by exact HW.out.2.2.2.1.drew) (by exact HW.out.2.2.2.2)).mono ?_; rintro e w1 ⟨rfl,hf1,off',hr1⟩; obtain ⟨e0,e1,z1,e3,z3⟩:=sR (W:=W) HW.out.1 HW.out.2.1 HW.out.2.2.2.2 hf1 hr1; have H1:=Lib.hid (And.intro hf1 hr1); clear hf1 hr1))
 go_wp2_with fail
 obtain ⟨k0,k1,k2,k3,kf⟩:=sS HW.out.1 HW.out.2.1 HW.out.2.2.1 HW.out.2.2.2.2 H1.out.1 H1.out.2 (Value.int .i64 x) (Value.int .i64 er) U (by decide)
 refine leaves_cons (f:=213) (args:=#[Value.pointer (some ⟨w.heap.size+1+1,0,none⟩),Value.pointer (qa w.heap.size),Value.pointer (some ⟨w.heap.size+1,0,none⟩)]) si (by simp [go_sem]) ?_
 obtain ⟨A',c',hX',k3'⟩:=k3
 refine (Sv _ _ _ br A' _ c' _ _ _ er (Value.int .i64 x) _ k2 k0 k1 k3'.1 HE.out U).mono ?_
 rintro e u' w'' ⟨rfl,rfl,rfl⟩
 obtain ⟨g1,g2,g3⟩:=Aw (off:=off) (z:=Value.int .i64 0) HW.out.2.2.2.1 kf U k1 (by decide) (by decide) k3'.1 k3'.2 hX'
 exact ⟨Value.int .i64 0,by simp [results,Tryz.results192,go_sem,g1],rfl,g2,g3⟩
theorem Sx(br r fv w)(hr:cF X w br r)(h0:r.err≠0):
  Calls Tryz.prog 192 #[Z br 0,fv] w λe w'=>e = .returned (C 0)/\Fr [] w w'/\cF X w' br r:=by
 have hr0:=hr
 obtain ⟨A,c,hX,ha,hrow⟩:=hr
 have c3:w.cell? ⟨br,3,none⟩=some (Value.int .i64 r.err):=by rw [ha.cell]; rfl
 have hb:(r.err != 0)=true:=by simpa using h0
 have hlt:=ha.lt
 have HR:=D3 hr0
 clear ha hrow hr0 h0
 go_enter_defers Tryz.func192,Tryz.ntmps192
 go_wp2_with fail
 have hf:Fr [] w ((w.alloc (Obj.cells #[Z br 0] 148)).alloc (Obj.cells #[C 0] 3)):=((Fr.refl _ _).alloc _).alloc _
 exact ⟨Value.int .i64 0,by simp [results,go_sem],rfl,hf,bY.fr HR.out hf⟩
variable {X:Option Addr × Nat}
theorem Rd.Ok.uint{r:Rd}(h:r.Ok)(b:∀ n m,eP r.D r.off=some (n,m)->m<=r.D.length):r.uint.2.Ok:=by
 unfold Rd.uint
 split
 .cases a:eP r.D r.off with
  | none=>exact ⟨h.off,h.len⟩
  | some p=>exact ⟨b p.1 p.2 a,h.len⟩
 omega
theorem rD(D off n m)(h:eP D off=some (n,m)):off < m/\m<=D.length/\dA n:=by
 unfold eP at h
 split at h
 .cases h
 .rename_i b a
  split at h
  .rename_i j
   simp only [V4,e7] at h
   obtain ⟨rfl,rfl⟩:=h
   have d:=(C4.1 a).1
   rw [Q7] at d
   refine ⟨U,U,?_⟩
   unfold dA
   rw [uP _ _ b a]
   have e:=wC (ahead (D.drop off)) (D.drop off)
   by_cases i:ahead (D.drop off)=9
   .grind
   .have c:b.toNat % 128<=127:=U
    have f:b.toNat % 128*128 ^ (ahead (D.drop off))<=127*128 ^ (ahead _):=Y4 _ c
    have g:128 ^ (ahead (D.drop off))<=128 ^ 8:=Y2 U U
    omega
  grind
theorem vA(br r w)(hr:cF X w br r)(hk:r.Ok):
  Calls Tryz.prog 89 #[Z br 0] w λe w'=>e = .returned (.int .u64 (r.uint.1:Int))/\Fr [br] w w'/\cF X w' br r.uint.2:=by
 have hmf:∀ (fn:Fn) (first cap:Array Value) (w:World),(Instr.makeFunc fn first cap).run Tryz.prog w = .ok (.func fn first cap) w:=λ_ _ _ _=>rfl
 have H:=D3 (And.intro hr hk)
 clear hr hk
 by_cases h0:r.err=0
 .have H0:=D3 h0
  clear h0
  go_enter Tryz.func89,Tryz.ntmps89
  go_wp2_with fail
  refine (Sr br r _ H.out.1 H.out.2 H0.out).mono ?_
  rintro e w1 ⟨rfl,hf,hr1⟩
  have H1:=D3 (And.intro hf hr1)
  clear hf hr1
  go_wp2_with fail
  go_ret
  exact ⟨rfl,H1.out⟩
 .have H0:=D3 h0
  clear h0
  go_enter Tryz.func89,Tryz.ntmps89
  go_wp2_with fail
  refine (Ss br r _ _ H.out.1 H0.out).mono ?_
  rintro e w1 ⟨rfl,hf,hr1⟩
  have H1:=D3 (And.intro (hf.mono (S':=[br]) si) hr1)
  clear hf hr1
  have e:r.uint=(0,r):=by unfold Rd.uint; rw [if_neg H0.out]
  have HE:=D3 e
  clear e
  go_wp2_with fail
  go_ret
  rw [HE.out]
  exact ⟨rfl,H1.out⟩
theorem Fq(n)(h:dA n):pX (hU n):=by
 grind [dA,hU,pX]
theorem Sy(n):hU (gH n)=n:=by
 unfold hU gH
 grind
theorem Sz(n w)(h:dA n):Calls Tryz.prog 179 #[.int .u64 (n:Int)] w λe w'=>e = .returned (C (hU n))/\w=w':=by
 have hI:(n:Int)<=18446744073709551615:=by unfold dA at h; omega
 have hI0:(0:Int)<=(n:Int):=U
 clear h
 by_cases h1:n % 2=1
 .have hb:((n:Int) % 2 == 1)=true:=by simp; omega
  go_enter Tryz.func179,Tryz.ntmps179
  go_wp2_with fail
  go_ret
  refine ⟨jK ?_,rfl⟩
  unfold hU
  rw [P1 h1]
  omega
 .have hb:((n:Int) % 2 == 1)=false:=by simp; omega
  go_enter Tryz.func179,Tryz.ntmps179
  go_wp2_with fail
  go_ret
  refine ⟨jK ?_,rfl⟩
  unfold hU
  rw [P4 h1]
  omega
def Rd.int(r:Rd):Int × Rd:=(hU r.uint.1,r.uint.2)
theorem Rd.DX(r:Rd):dA r.uint.1:=by
 unfold Rd.uint
 split
 .cases a:eP r.D r.off with
  | none=>show 0 < 18446744073709551616; decide
  | some p=>exact (rD _ _ p.1 p.2 a).2.2
 .show 0 < 18446744073709551616; decide
theorem SA(br r w)(hr:cF X w br r)(hk:r.Ok):
  Calls Tryz.prog 146 #[Z br 0] w λe w'=>e = .returned (.int .i64 r.int.1)/\Fr [br] w w'/\cF X w' br r.int.2:=by
 have H:=D3 (And.intro hr hk)
 clear hr hk
 go_enter Tryz.func146,Tryz.ntmps146
 go_wp2_with fail
 refine (vA br r _ H.out.1 H.out.2).mono ?_
 rintro e w1 ⟨rfl,hf,hr1⟩
 have H1:=D3 (And.intro hf hr1)
 clear hf hr1
 go_wp2_with fail
 refine (Sz _ _ r.DX).mono ?_
 rintro e w' ⟨rfl,rfl⟩
 go_wp2_with fail
 go_ret
 exact ⟨rfl,H1.out⟩
variable {X:Option Addr × Nat}
def oQ(X:Option Addr × Nat)(br:Nat)(D:List UInt8)(off last:Nat)(most:Int)(w:World)(e:Ending)(w':World):Prop :=
 Fr [br] w w' /\ match eP D off with
  | none=>e = .returned (.tuple #[Value.int .i64 0,Value.int .i64 3]) /\ ∃ off':Nat,bY X w' br D off' last 0
  | some (n,m)=>if max most 0 < (n:Int) then e = .returned (.tuple #[Value.int .i64 0,Value.int .i64 2]) /\ ∃ off':Nat,bY X w' br D off' last 0 else e = .returned (.tuple #[Value.int .i64 (n:Int),Value.int .i64 0]) /\ bY X w' br D m last 0
theorem Ax(br D off last most w)(hr:bY X w br D off last 0)(ho:off<=D.length)(hD:D.length<=4294967296)(hm:pX most):
  Calls Tryz.prog 181 #[Z br 0,C most] w (oQ X br D off last most w):=by
 have H:=D3 (And.intro hr (And.intro ho hD))
 have hm0:=hm.1
 have hm1:=hm.2
 clear hr ho hD hm
 cases hb:eP D off with
 | none =>
   have HB:=D3 hb
   clear hb
   go_enter Tryz.func181,Tryz.ntmps181
   go_wp2_with fail
   refine (Kp br D off last _ H.out.1 H.out.2.1 H.out.2.2 HB.out).mono ?_
   rintro e w1 ⟨rfl,hf,off',ho',hr1⟩
   have H1:=D3 (And.intro hf hr1)
   clear hf hr1 ho'
   go_wp2_with fail
   go_ret2
   unfold oQ
   rw [HB.out]
   exact ⟨H1.out.1,rfl,off',H1.out.2⟩
 | some p =>
   obtain ⟨n,m⟩:=p
   have hu:=(rD _ _ _ _ hb).2.2
   have hI:(n:Int)<=18446744073709551615:=by unfold dA at hu; omega
   have HB:=D3 hb
   clear hb hu
   by_cases hg:max most 0 < (n:Int)
   .have HG:=D3 hg
    go_enter Tryz.func181,Tryz.ntmps181
    go_wp2_with fail
    refine (Fp br D off last _ H.out.1 H.out.2.1 H.out.2.2 n m HB.out).mono ?_
    rintro e w1 ⟨rfl,hf,hr1,_,_⟩
    have H1:=D3 (And.intro hf hr1)
    clear hf hr1
    go_wp2_with fail
    all_goals
     go_ret2
     unfold oQ
     rw [HB.out]
     simp only
     rw [P1 HG.out]
     exact ⟨H1.out.1,rfl,m,H1.out.2⟩
   .have HG:=D3 hg
    have hg':(n:Int)<=max most 0:=U
    have hn2:(n:Int)<=9223372036854775807:=U
    clear hg
    go_enter Tryz.func181,Tryz.ntmps181
    go_wp2_with fail
    refine (Fp br D off last _ H.out.1 H.out.2.1 H.out.2.2 n m HB.out).mono ?_
    rintro e w1 ⟨rfl,hf,hr1,_,_⟩
    have H1:=D3 (And.intro hf hr1)
    clear hf hr1
    go_wp2_with fail
    all_goals
     go_ret2
     unfold oQ
     rw [HB.out]
     simp only
     rw [P4 (by have:=HG.out; omega)]
     exact ⟨H1.out.1,rfl,H1.out.2⟩
theorem SB(bx by_ br D off last most w)(hx:At w bx 148 [Z br 0])(hy:At w by_ 3 [C most])(hr:bY X w br D off last 0)(ho:off<=D.length)(hD:D.length<=4294967296)(hm:pX most):
  Calls Tryz.prog 193 #[Z bx 0,Z by_ 0] w (oQ X br D off last most w):=by
 have x0:w.cell? ⟨bx,0,none⟩=some (Value.pointer (qa br)):=by rw [hx.cell]; rfl
 have y0:w.cell? ⟨by_,0,none⟩=some (Value.int .i64 most):=by rw [hy.cell]; rfl
 have H:=D3 (Ax br D off last most w hr ho hD hm)
 clear hr ho hD hm hx hy
 go_enter Tryz.func193,Tryz.ntmps193
 go_wp2_with fail
 refine H.out.mono ?_
 intro e w1 h
 have HH:=D3 h
 unfold oQ at h
 obtain ⟨hf,h⟩:=h
 split at h
 .obtain ⟨rfl,_⟩:=h
  clear hf
  go_wp2_with fail
  go_ret2
  exact HH.out
 .split at h
  .obtain ⟨rfl,_⟩:=h
   clear hf
   go_wp2_with fail
   go_ret2
   exact HH.out
  .obtain ⟨rfl,_⟩:=h
   clear hf
   go_wp2_with fail
   go_ret2
   exact HH.out
def Rd.count(r:Rd)(most:Int):Nat × Rd:=if r.err=0 then (match eP r.D r.off with
 | none=>(0,r.fail 3)
 | some (n,m)=>if max most 0 < (n:Int) then (0,r.fail 2) else (n,r.done m)) else (0,r)
theorem SC(br r most w)(hr:cF X w br r)(hk:r.Ok)(hm:pX most):
  Calls Tryz.prog 171 #[Z br 0,C most] w λe w'=>e = .returned (C ((r.count most).1:Int))/\Fr [br] w w'/\cF X w' br (r.count most).2:=by
 have hmf:∀ (fn:Fn) (first cap:Array Value) (w:World),(Instr.makeFunc fn first cap).run Tryz.prog w = .ok (.func fn first cap) w:=λ_ _ _ _=>rfl
 have hlt:br < w.heap.size:=by obtain ⟨A,c,hX,ha,_⟩:=hr; exact ha.lt
 have hf0:Fr [] w ((w.alloc (.cells #[Z br 0] 148)).alloc (.cells #[C most] 3)):=((Fr.refl _ _).alloc _).alloc _
 have ha0:At ((w.alloc (.cells #[Z br 0] 148)).alloc (.cells #[C most] 3)) w.heap.size 148 [Z br 0]:=(At.new w _ [Z br 0]).alloc _
 have hb0:At ((w.alloc (.cells #[Z br 0] 148)).alloc (.cells #[C most] 3)) (w.heap.size+1) 3 [C most]:=by
  have:=At.new (w.alloc (.cells #[Z br 0] 148)) 3 [C most]
  simpa using this
 have hr0:cF X ((w.alloc (.cells #[Z br 0] 148)).alloc (.cells #[C most] 3)) br r:=bY.fr hr hf0
 have H:=D3 (And.intro hr0 (And.intro hk (And.intro hf0 (And.intro ha0 hb0))))
 have HM:=D3 hm
 clear hr hk hf0 ha0 hr0 hb0 hm
 by_cases h0:r.err=0
 .obtain ⟨D,off,last,err⟩:=r
  simp only at h0
  subst h0
  have hdec:∀ W,Fr [] ((w.alloc (.cells #[Z br 0] 148)).alloc (.cells #[C most] 3)) W->bY X W br D off last 0->Calls Tryz.prog 193 #[Value.pointer (qa w.heap.size),Value.pointer (some ⟨w.heap.size+1,0,none⟩)] W (oQ X br D off last most W) :=
   λW hf hr=>SB w.heap.size (w.heap.size+1) br D off last most W (H.out.2.2.2.1.fr hf si) (H.out.2.2.2.2.fr hf si) hr H.out.2.1.off H.out.2.1.len HM.out
  have HD:=D3 hdec
  clear hdec
  cases hb:eP D off with
  | none =>
    have HB:=D3 hb
    clear hb
    go_enter AGh,AFj
    go_wp2_with fail
    refine (Kq br D off last 3 0 w.heap.size (w.heap.size+1) _ H.out.1 (by decide) (λW hf hr=>(HD.out W hf hr).mono (λe w' h=>by unfold oQ at h; rw [HB.out] at h; exact ⟨h.2.1,h.1,h.2.2⟩))).mono ?_
    rintro e w1 ⟨rfl,hf,hr1⟩
    have H1:=D3 (And.intro (H.out.2.2.1.mono (S':=[br]) si |>.trans hf) hr1)
    clear hf hr1
    go_wp2_with fail
    go_ret
    simp only [Rd.count,AA9,HB.out]
    exact ⟨rfl,H1.out⟩
  | some p =>
    obtain ⟨n,m⟩:=p
    have HB:=D3 hb
    clear hb
    by_cases hg:max most 0 < (n:Int)
    .have HG:=D3 hg
     clear hg
     go_enter AGh,AFj
     go_wp2_with fail
     refine (Kq br D off last 2 0 w.heap.size (w.heap.size+1) _ H.out.1 (by decide) (λW hf hr=>(HD.out W hf hr).mono (λe w' h=>by unfold oQ at h; rw [HB.out] at h; simp only [if_pos HG.out] at h; exact ⟨h.2.1,h.1,h.2.2⟩))).mono ?_
     rintro e w1 ⟨rfl,hf,hr1⟩
     have H1:=D3 (And.intro (H.out.2.2.1.mono (S':=[br]) si |>.trans hf) hr1)
     clear hf hr1
     go_wp2_with fail
     go_ret
     simp only [Rd.count,AA9,HB.out,P1 HG.out]
     exact ⟨rfl,H1.out⟩
    .have HG:=D3 hg
     clear hg
     go_enter AGh,AFj
     go_wp2_with fail
     refine (Sw br D off last m (n:Int) w.heap.size (w.heap.size+1) _ H.out.1 (λW hf hr=>(HD.out W hf hr).mono (λe w' h=>by unfold oQ at h; rw [HB.out] at h; simp only at h; rw [if_neg (by have:=HG.out; omega)] at h; exact ⟨h.2.1,h.1,h.2.2⟩))).mono ?_
     rintro e w1 ⟨rfl,hf,hr1⟩
     have H1:=D3 (And.intro (H.out.2.2.1.mono (S':=[br]) si |>.trans hf) hr1)
     clear hf hr1
     go_wp2_with fail
     go_ret
     simp only [Rd.count,AA9,HB.out]
     rw [P4 (by have:=HG.out; omega)]
     exact ⟨rfl,H1.out⟩
 .have e:r.count most=(0,r):=by unfold Rd.count; rw [if_neg h0]
  have HE:=D3 (And.intro h0 e)
  clear h0 e
  go_enter AGh,AFj
  go_wp2_with fail
  refine (Sx br r _ _ H.out.1 HE.out.1).mono ?_
  rintro e w1 ⟨rfl,hf,hr1⟩
  have H1:=D3 (And.intro ((H.out.2.2.1.trans hf).mono (S':=[br]) si) hr1)
  clear hf hr1
  go_wp2_with fail
  go_ret
  rw [HE.out.2]
  exact ⟨rfl,H1.out⟩
def Rd.end_(r:Rd):Int:=if r.err≠0 then r.err else if r.off < r.D.length then 3 else 0
theorem Kr(br r w)(hr:cF X w br r)(hk:r.Ok):
  Calls Tryz.prog 94 #[Z br 0] w λe w'=>e = .returned (.tuple #[C (r.off:Int),.int .i64 r.end_])/\Fr [] w w':=by
 obtain ⟨A,c,hX,ha,hrow⟩:=hr
 have c0:w.cell? ⟨br,0,none⟩=some (.slice A r.D.length c):=by rw [ha.cell]; rfl
 have c1:w.cell? ⟨br,1,none⟩=some (Value.int .i64 (r.off:Int)):=by rw [ha.cell]; rfl
 have c3:w.cell? ⟨br,3,none⟩=some (Value.int .i64 r.err):=by rw [ha.cell]; rfl
 have hDI:(r.D.length:Int)<=4294967296:=by have:=hk.len; omega
 clear ha hrow hk
 by_cases h0:r.err=0
 .have hb:(r.err != 0)=false:=by simpa using h0
  by_cases hl:r.off < r.D.length
  .have hlI:decide (r.off < r.D.length)=true:=by simpa using hl
   have he:r.end_=3:=by unfold Rd.end_; rw [if_neg (su h0),if_pos hl]
   have HE:=D3 he
   clear h0 he
   go_enter Tryz.func94,Tryz.ntmps94
   go_wp2_with fail
   go_quiet (fail)
   go_wp2_with fail
   go_ret2
   rw [HE.out]
   exact ⟨rfl,(Fr.refl _ _).drewN _⟩
  .have hlI:decide (r.off < r.D.length)=false:=by simpa using hl
   have he:r.end_=0:=by unfold Rd.end_; rw [if_neg (su h0),if_neg hl]
   have HE:=D3 he
   clear h0 he
   go_enter Tryz.func94,Tryz.ntmps94
   go_wp2_with fail
   go_quiet (fail)
   go_wp2_with fail
   go_ret2
   rw [HE.out]
   exact ⟨rfl,(Fr.refl _ _).drewN _⟩
 .have hb:(r.err != 0)=true:=by simpa using h0
  have he:r.end_=r.err:=by unfold Rd.end_; rw [if_pos h0]
  have HE:=D3 he
  clear h0 he
  go_enter Tryz.func94,Tryz.ntmps94
  go_wp2_with fail
  go_quiet (fail)
  go_wp2_with fail
  go_ret2
  rw [HE.out]
  exact ⟨rfl,(Fr.refl _ _).drewN _⟩
theorem Cy(A c)(D:Γ)(w)(hD:D.length<=4294967296)(hrow:aI w A (B8 D)):
  Calls Tryz.prog 88 #[.slice A D.length c] w λe w'=>∃ br A2 c2,e = .returned (.pointer (qa br))/\w.heap.size<=br/\Fr [] w w'/\cF (A2,c2) w' br ⟨D,0,0,0⟩/\w'.ownsRow w.heap.size 5 1 (.slice A2 D.length c2) D.length (B8 D):=by
 have H:=D3 (And.intro hrow hD)
 clear hrow hD
 go_enter Tryz.func88,Tryz.ntmps88
 go_wp2_with (at_builtin; refine xR gS rfl (.tmp 3) (.tmp 4) rfl w.heap.size _ 0 [] rfl (by exact Z8 _ #[] 0 (J7 _) (G6 _) rfl) A _ c (B8 D) rfl (by rw [eX]; simp) (by exact eN.gJ (H.out.1.eW ((Fr.refl _ _).alloc _))) (iP _) (by have:=H.out.2; omega) (by simp) ?_; intro v2 w2 hown2 hg2 hb2; obtain ⟨A2,c2,rfl⟩:=lC hown2)
 go_ret
 have hf:Fr [] w w2:=((Fr.refl [] w).alloc _).grown hg2 (λg hg=>.inr (by have hg':some w.heap.size=some g:=hg; injection hg' with hg'; omega))
 refine ⟨w2.heap.size,A2,c2,rfl,hf.size,hf.alloc _,⟨A2,c2,rfl,?_,?_⟩,?_⟩
 .have:=At.new w2 201 [.slice A2 D.length c2,C 0,C 0,C 0]
  simpa using this
 .have:=xS hown2 (G6 w.heap.size)
  simpa using this.alloc _
 .simpa using hown2.alloc _
end
end Go.Proofs.YtkjnecaieiaijaaGreatDoor
