/- Part 2 of a proof: what its row uses. -/
import Derived.Test.YtdflaaiondmjdaaGreatDoorQk01
set_option maxRecDepth 100000
set_option maxHeartbeats 1000000
namespace Go.Proofs.YtdflaaiondmjdaaGreatDoor
open Go.RowKit
theorem yT {P:Program} {fn:Func} {p:Tmp} {ty t:TypeId} (h:fn.results = #[.cell p ty]) (tmps:Array Value) (w:World) (g:Nat) (cs:List Value) (d:TypeDesc) (hp:tmps.getD p undef = .pointer (some ⟨g,0,none⟩)) (hat:At w g t cs)
  (hu:P.underlying ty=some d) (hd:(match d with | .struct _ | .array _ _=>true | _=>false)=true) (hi:(P.info? ty).map (·.size)=some cs.length):(results fn tmps).run P w = .ok (.agg cs.toArray) w:=by
 have hl:=Ba (P:=P) w g 0 ty cs d (fun j v hv=>by rw [Nat.zero_add,hat.cell]; exact hv) hu hd hi
 have hp':tmps[p]?.getD undef = .pointer (some ⟨g,0,none⟩):=by simpa using hp
 simp [results,h,hp',asAddr,hl]
theorem wB {P:Program} {ops:Array Oper} {rest:List Oper} {o:Oper} {a:Act} {w:World} {Q:Exit→Act→World→Prop} (hg:o.guard=none) (t:TypeId) (parts:Array (Nat × Operand)) (ho:o.op = .build t parts) (v:Array Value)
  (hv:P.built t (parts.map fun (i,x)=>(i,a.eval x)).toList=some v) (h:wpList P ops Q rest (a.put o.dst (.agg v)) w):wpList P ops Q (o::rest) a w :=
 wpList_build hg t parts ho (by rw [hv]; rfl) (by rw [hv]; exact h)
def wC : List Value := [.int .u32 1116352408, .int .u32 1899447441, .int .u32 3049323471, .int .u32 3921009573, .int .u32 961987163, .int .u32 1508970993, .int .u32 2453635748, .int .u32 2870763221, .int .u32 3624381080, .int .u32 310598401, .int .u32 607225278, .int .u32 1426881987, .int .u32 1925078388, .int .u32 2162078206, .int .u32 2614888103, .int .u32 3248222580, .int .u32 3835390401, .int .u32 4022224774, .int .u32 264347078, .int .u32 604807628, .int .u32 770255983, .int .u32 1249150122, .int .u32 1555081692, .int .u32 1996064986, .int .u32 2554220882, .int .u32 2821834349, .int .u32 2952996808, .int .u32 3210313671, .int .u32 3336571891, .int .u32 3584528711, .int .u32 113926993, .int .u32 338241895, .int .u32 666307205, .int .u32 773529912, .int .u32 1294757372, .int .u32 1396182291, .int .u32 1695183700, .int .u32 1986661051, .int .u32 2177026350, .int .u32 2456956037, .int .u32 2730485921, .int .u32 2820302411, .int .u32 3259730800, .int .u32 3345764771, .int .u32 3516065817, .int .u32 3600352804, .int .u32 4094571909, .int .u32 275423344, .int .u32 430227734, .int .u32 506948616, .int .u32 659060556, .int .u32 883997877, .int .u32 958139571, .int .u32 1322822218, .int .u32 1537002063, .int .u32 1747873779, .int .u32 1955562222, .int .u32 2024104815, .int .u32 2227730452, .int .u32 2361852424, .int .u32 2428436474, .int .u32 2756734187, .int .u32 3204031479, .int .u32 3329325298]
theorem FC:wC=U4 mD:=by kernel_rfl
theorem LZ:∀ v∈wC,v.oneCell'=true:=by
 intro v hv
 rw [FC] at hv
 obtain ⟨x,_,rfl⟩:=List.mem_map.1 hv
 rfl
theorem Ma (w:World):Calls Tryz.prog 173 #[] w fun e w'=>e = .returned (.agg (U4 mD).toArray)∧Fr [] w w':=by
 go_enter Tryz.func173,Tryz.ntmps173
 rw [← FC]
 go_wp2_with (first
  | (refine wB rfl 232 _ rfl wC.toArray ?hv ?_)
  | (refine nQ rfl 232 (.tmp 0) (.tmp 1) rfl rfl 232 _ wC rfl rfl ?h1 LZ ?_))
 case hv=>kernel_rfl
 case h1=>kernel_rfl
 intro w1 hf1 ha1
 go_wp2_with fail
 exact bodyPost_ret (yT (t:=232) rfl _ _ w.heap.size wC _ rfl ha1 Tryz.underlying232 rfl kr) rfl ⟨rfl,hf1⟩
theorem oJ (x n:Nat) (k:Int) (w:World) (hk:k=(n:Int)) (hx:bR x) (h1:1≤n) (h2:n≤31) :
  Calls Tryz.prog 174 #[.int .u32 (x:Int),vi k] w fun e w'=>e = .returned (.int .u32 (rotr n x:Int))∧∃ m,w'=w.drewN m:=by
 subst hk
 have HX:=Lib.hid hx
 clear hx
 have hs:IntKind.i64.wrap (32 - (n:Int))=32 - (n:Int):=IntWalk.i64_in _ om
 have hn0:(0:Int)≤32 - (n:Int):=om
 have hnn:(32 - (n:Int)).toNat=32 - n:=om
 go_enter Tryz.func174,Tryz.ntmps174
 go_wp2_with fail
 go_quiet (fail)
 go_wp2_with fail
 go_ret
 refine ⟨gG ?_,_,rfl⟩
 rw [Fl,BN,u32_or_nat _ _ (HX.out.div _) (Nat.mod_lt _ (by decide))]
 rfl
theorem Mb (A:Option Addr) (cp:Nat) (xs:List UInt8) (w:World) (hrow:aH w A (B8 xs)) (hlen:xs.length≤68719476736) :
  Calls Tryz.prog 135 #[.slice A xs.length cp] w (tO (xs++mE xs.length) w):=by
 obtain ⟨n,hn⟩:∃ n,n=xs.length:=⟨_,rfl⟩
 rw [← hn] at hlen ⊢
 have H:=Lib.hid (And.intro hrow hn)
 obtain ⟨z,hz⟩:∃ z,z=(119 - n % 64) % 64:=⟨_,rfl⟩
 have hz64:z < 64:=om
 have hzz:(n+1+z) % 64=56:=om
 have hzu:∀ j,j < z→(n+1+j) % 64≠56:=om
 have HZ:=Lib.hid (And.intro hz (And.intro hzz hzu))
 clear hz hzz hzu hrow hn
 go_enter Tryz.func135,Tryz.ntmps135
 go_wp2_with (first
  | (at_builtin; refine tF fH rfl (.tmp 6) (.tmp 7) rfl w.heap.size _ _ (B8 []) rfl (World.ownsRow_made _ #[] 0 (Nat.le_refl _) (Nat.zero_le _) rfl) A n cp (B8 xs) rfl (by rw [dL,← H.out.2,Nat.mul_one]) (dV.jW (H.out.1.dD ((Fr.refl _ _).alloc _))) (gS _) (by omega) (by simp) ?_; intro v1 w1 hown1 hg1 hb1; rw [H.out.2] at hown1; obtain ⟨A1,c1,cs1,HC1,hc1,rfl,HB1⟩:=BR.push (cs:=[]) (xs:=xs) ⟨(Fr.refl [] w).alloc _,World.ownsRow_made _ #[] 0 (Nat.le_refl _) (Nat.zero_le _) rfl⟩ hown1 hg1; have hsz1:=HB1.out.size; have hl1:cs1.length≤n:=(by rw [HC1.out,List.nil_append,← H.out.2]; exact Nat.le_refl _); clear hown1 hg1 hb1)
  | (at_builtin; refine lK fH rfl (.tmp 8) (.tmp 9) rfl w.heap.size _ _ (B8 cs1) (.int .u8 128) rfl HB1.out.own rfl rfl (by omega) (by omega) 5 ?_; intro v2 w2 hown2 hg2 hb2; obtain ⟨A2,c2,cs2,HC2,hc2,rfl,HB2⟩:=BR.push (xs:=[128]) HB1.out hown2 hg2; clear hown2 hg2 hb2))
 have HC2':Hid (cs2=xs++128::List.replicate 0 0):=by show cs2=_; rw [HC2.out,HC1.out]; rfl
 have hcl2:cs2.length≤n+0+1∧n+0+1≤cs2.length:=by rw [HC2'.out,H.out.2]; simp
 clear HC2 HC1 HB1 hc1 hl1
 go_loopw [3] (fun v wx=>∃ (j:Nat) (A':Option Addr) (c':Nat) (cs:List UInt8),j≤z∧v = .slice A' cs.length c'∧cs.length≤n+j+1∧n+j+1≤cs.length∧Hid (cs=xs++128::List.replicate j 0)∧Hid (BR w wx v cs)) (fun v _=>match v with | .slice _ k _=>n+65 - k | _=>0)
 case atStart=>exact ⟨0,_,_,cs2,by omega,rfl,hcl2.1,hcl2.2,HC2',HB2⟩
 case round =>
  obtain ⟨j,A',c',cs,hj,rfl,hcl,hcl',HC,HB⟩:=hrel
  have hsz:=HB.out.size
  obtain ⟨r,hr⟩:∃ r,r=cs.length % 64:=⟨_,rfl⟩
  have er:(cs.length:Int) % 64=(r:Int):=om
  by_cases hlt:j < z
  ·have hr56:r≠56:=by have:=HZ.out.2.2 j hlt; rw [hr]; intro e; apply this; rw [← e]; congr 1; omega
   have hrb:((r:Int) != 56)=true:=by simp; omega
   clear hr hr56
   go_wp2_with (at_builtin; refine lK fH rfl (.tmp 15) (.tmp 16) rfl w.heap.size _ _ (B8 cs) (.int .u8 0) rfl HB.out.own rfl rfl (by omega) (by omega) 5 ?_; intro v2 w2 hown2 hg2 hb2; obtain ⟨A3,c3,cs3,HC3,hc3,rfl,HB3⟩:=BR.push (xs:=[0]) HB.out hown2 hg2; clear hown2 hg2 hb2)
   have h3:cs3.length=cs.length+1:=by rw [HC3.out]; simp
   have HC4:Hid (cs3=xs++128::List.replicate (j+1) 0):=by
    show cs3=_
    rw [HC3.out,HC.out,List.replicate_succ',List.append_assoc,List.cons_append]
   go_roundw
   case rel=>exact ⟨j+1,A3,c3,cs3,by omega,rfl,by omega,by omega,HC4,HB3⟩
   case measure=>show n+65 - cs3.length < n+65 - cs.length; omega
  ·obtain rfl:j=z:=om
   have hr56:r=56:=by have:=HZ.out.2.1; rw [hr]; rw [← this]; congr 1; omega
   have hrb:((r:Int) != 56)=false:=by rw [hr56]; rfl
   clear hr hr56
   obtain ⟨m8,hm8⟩:∃ m8,m8=n*8:=⟨_,rfl⟩
   have em8:IntKind.u64.wrap ((n:Int)*8)=(m8:Int):=by rw [IntKind.wrap_u64,hm8]; omega
   have en:IntKind.u64.wrap (n:Int)=(n:Int):=by rw [IntKind.wrap_u64]; omega
   have HM8:=Lib.hid hm8
   have hm8b:m8≤4398046511104:=om
   clear hm8
   go_wp2_with fail
   clear em8 en er hrb
   go_loopw [3,5] (fun v s wx=>∃ (i:Nat) (t:Int) (A':Option Addr) (c':Nat) (ds:List UInt8),i≤8∧s=Value.int .i64 t∧t+(i:Int)≤7∧7≤t+(i:Int)∧v = .slice A' ds.length c'∧ds.length≤n+65+i∧Hid (ds=cs++(List.range i).map fun q=>dU m8 (7 - q))∧Hid (BR w wx v ds)) (fun _ s _=>(intOf s+1).toNat)
   case atStart=>exact ⟨0,7,_,_,cs,by omega,rfl,by omega,by omega,rfl,by omega,by simp [Hid],HB⟩
   case round =>
    obtain ⟨i,t,A1,c1,ds,hi,rfl,ht1,ht2,rfl,hdl,HD,HB1⟩:=hrel
    have hsz1:=HB1.out.size
    by_cases hlt2:i < 8
    ·obtain ⟨sh,rfl⟩:∃ sh:Nat,t=(sh:Int):=⟨t.toNat,om⟩
     obtain ⟨y,HY⟩:∃ y:UInt8,Hid (y=dU m8 (7 - i)):=⟨_,rfl⟩
     have hsh:sh≤7:=om
     obtain ⟨s8,hs8⟩:∃ s8:Nat,s8=8*sh:=⟨_,rfl⟩
     have e8:(8:Int)*(sh:Int)=(s8:Int):=om
     have hy:IntKind.u8.wrap ((m8:Int) / 2 ^ s8)=(y.toNat:Int):=by
      rw [HY.out,hs8,show sh=7 - i by omega]
      exact mV m8 (7 - i)
     have HS8:=Lib.hid hs8
     have hs8b:s8≤56:=om
     clear hs8
     go_wp2_with (at_builtin; refine lK fH rfl (.tmp 26) (.tmp 32) rfl w.heap.size _ _ (B8 ds) (.int .u8 (y.toNat:Int)) rfl HB1.out.own rfl rfl (by omega) (by omega) 5 ?_; intro v2 w2 hown2 hg2 hb2; obtain ⟨A3,c3,cs3,HC3,hc3,rfl,HB3⟩:=BR.push (xs:=[y]) HB1.out hown2 hg2; clear hown2 hg2 hb2)
     have h3:cs3.length=ds.length+1:=by rw [HC3.out]; simp
     have HC4:Hid (cs3=cs++(List.range (i+1)).map fun q=>dU m8 (7 - q)):=by
      show cs3=_
      rw [HC3.out,HD.out,List.range_succ,List.map_append,List.append_assoc,HY.out]
      rfl
     go_roundw
     case rel=>exact ⟨i+1,(sh:Int) - 1,A3,c3,cs3,by omega,by go_num,by omega,by omega,rfl,by omega,HC4,HB3⟩
     case measure=>simp [intOf] <;> omega
    ·obtain rfl:i=8:=om
     obtain rfl:t = -1:=om
     have HPAD:Hid (xs++mE n=ds):=by
      show _=ds
      rw [HD.out,HC.out,HM8.out,HZ.out.1,List.append_assoc]
      rfl
     go_wp2_with fail
     go_ret
     exact EG ds HPAD.out ⟨_,_,rfl,HB1.out.fr,HB1.out.own⟩
structure RB (w wr : World) (bh br bk bw : Nat) (H : List Nat) (blk : List UInt8) (t : Nat) : Prop where
 fr : Fr [] w wr
 h : At wr bh 201 (U4 H)
 r : ∃ l, l.length = 8 ∧ At wr br 201 l
 k : At wr bk 232 (U4 mD)
 sched : At wr bw 232 (iX blk t)
 lo : w.heap.size ≤ bh
 o1 : bh < br
 o2 : br < bk
 o3 : bk < bw
theorem RB.drewN {w wr:World} {bh br bk bw:Nat} {H:List Nat} {blk:List UInt8} {t:Nat} (h:RB w wr bh br bk bw H blk t) (n:Nat):RB w (wr.drewN n) bh br bk bw H blk t :=
 ⟨h.fr.drewN n,h.h,h.r,h.k,h.sched,h.lo,h.o1,h.o2,h.o3⟩
theorem RB.drew {w wr:World} {bh br bk bw:Nat} {H:List Nat} {blk:List UInt8} {t:Nat} (h:RB w wr bh br bk bw H blk t):RB w wr.drew bh br bk bw H blk t :=
 ⟨h.fr.drew,h.h,h.r,h.k,h.sched,h.lo,h.o1,h.o2,h.o3⟩
theorem RB.Eg {w wr w1:World} {bh br bk bw:Nat} {H:List Nat} {blk:List UInt8} {t:Nat} {S:List Nat} (h:RB w wr bh br bk bw H blk t) (hf:Fr S wr w1) (hs:∀ x∈S,bw < x):RB w w1 bh br bk bw H blk t:=by
 have h0:=h.lo
 have h1:=h.o1
 have h2:=h.o2
 have h3:=h.o3
 have hn:∀ x,x≤bw→x∉S:=fun x hx hm=>by have:=hs x hm; omega
 obtain ⟨l,hl,hr⟩:=h.r
 exact ⟨h.fr.trans' hf (fun x hx=>.inr (by have:=hs x hx; omega)),h.h.fr hf (hn _ om),⟨l,hl,hr.fr hf (hn _ om)⟩,h.k.fr hf (hn _ om),h.sched.fr hf (hn _ om),h0,h1,h2,h3⟩
theorem RB.Kv {w wr:World} {bh br bk bw:Nat} {H:List Nat} {blk:List UInt8} {t:Nat} (h:RB w wr bh br bk bw H blk t) (ht:t < 64) (x:Nat) (hx:x=if t < 16 then word blk t else tK (kP blk t) t) :
  RB w (wr.setCell ⟨bw,t,none⟩ (.int .u32 (x:Int))) bh br bk bw H blk (t+1):=by
 have h0:=h.lo
 have h1:=h.o1
 have h2:=h.o2
 have h3:=h.o3
 obtain ⟨l,hl,hr⟩:=h.r
 refine ⟨h.fr.setCell (.inr (show w.heap.size≤bw by omega)) _,h.h.far (show bh≠bw by omega) _,⟨l,hl,hr.far (show br≠bw by omega) _⟩,h.k.far (show bk≠bw by omega) _,?_,h0,h1,h2,h3⟩
 rw [← BO blk t ht x hx]
 exact h.sched.set t _
theorem FD (blk:List UInt8) (t:Nat) (h:t < 64):(iX blk t)[t]?=some (.int .u32 0):=by
 unfold iX
 rw [List.getElem?_append_right (by rw [iE,nU]; exact Nat.le_refl _),iE,nU,Nat.sub_self,List.getElem?_replicate,if_pos om]
theorem tX (l:List Nat):∀ v∈U4 l,v.oneCell'=true:=by
 intro v hv
 obtain ⟨x,_,rfl⟩:=List.mem_map.1 hv
 rfl
theorem Mc (A B:List Nat):List.zipWith dH A B=List.zipWith dH B A:=by
 rw [List.zipWith_comm]
 congr 1
 funext x y
 unfold dH
 rw [Nat.add_comm]
set_option maxHeartbeats 4000000 in
theorem Md (g o cap:Nat) (H:List Nat) (blk:List UInt8) (w:World) (hH:H.length=8) (hW:∀ x∈H,bR x) (hbl:blk.length=64) (hrow:aH w (some ⟨g,o,none⟩) (B8 blk)) :
  Calls Tryz.prog 136 #[.agg (U4 H).toArray,.slice (some ⟨g,o,none⟩) 64 cap] w fun e w'=>e = .returned (.agg (U4 (iZ H blk)).toArray)∧Fr [] w w':=by
 have HH:=Lib.hid (And.intro hH hW)
 have HR:=Lib.hid (And.intro hbl hrow)
 clear hH hW hbl hrow
 obtain ⟨UH,HUH⟩:∃ UH,Hid (UH=U4 H):=⟨_,rfl⟩
 rw [← HUH.out]
 obtain ⟨UK,HUK⟩:∃ UK,Hid (UK=U4 mD):=⟨_,rfl⟩
 obtain ⟨UZ,HUZ⟩:∃ UZ:List Value,Hid (UZ=List.replicate 64 (.int .u32 0)):=⟨_,rfl⟩
 go_enter Tryz.func136,Tryz.ntmps136
 go_wp2_with fail
 refine (Ma _).mono ?_
 rintro e w1 ⟨rfl,hf1⟩
 rw [← HUK.out]
 go_wp2_with (first
  | (refine wB rfl 232 _ rfl UZ.toArray (by rw [HUZ.out]; kernel_rfl) ?_)
  | (refine nQ rfl 232 (.tmp 5) (.tmp 22) rfl rfl 232 _ UK rfl (by rw [HUK.out]; rfl) (by rw [HUK.out]; kernel_rfl) (by rw [HUK.out]; exact tX _) ?_; intro w2 hf2 ha2)
  | (refine nQ rfl 232 (.tmp 6) (.tmp 23) rfl rfl 232 _ UZ rfl (by rw [HUZ.out]; rfl) (by rw [HUZ.out]; kernel_rfl) (by rw [HUZ.out]; decide) ?_; intro w3 hf3 ha3))
 obtain ⟨bh,hbh⟩:∃ bh,bh=w.heap.size:=⟨_,rfl⟩
 obtain ⟨br,hbr⟩:∃ br,br=w.heap.size+1:=⟨_,rfl⟩
 obtain ⟨bk,hbk⟩:∃ bk,bk=w1.heap.size:=⟨_,rfl⟩
 obtain ⟨bw,hbw⟩:∃ bw,bw=w2.heap.size:=⟨_,rfl⟩
 have HB0:Hid (RB w w3 bh br bk bw H blk 0):=by
  have hs1:=hf1.size
  simp at hs1
  have hlk:bk < w2.heap.size:=by rw [hbk]; exact ha2.lt
  have f0:Fr [] w w1:=(((Fr.refl [] w).alloc _).alloc _).trans hf1
  refine ⟨(f0.trans hf2).trans hf3,?_,⟨List.replicate 8 (.int .u32 0),rfl,?_⟩,?_,?_,om,om,om,om⟩
  ·have a1:At (w.alloc (.cells UH.toArray 201)) bh 201 UH:=by rw [hbh]; exact At.new _ _ _
   rw [← HUH.out]
   exact (((a1.alloc _).fr hf1 si).fr hf2 si).fr hf3 si
  ·have a1:At ((w.alloc (.cells UH.toArray 201)).alloc (.cells (List.replicate 8 (.int .u32 0)).toArray 201)) br 201 (List.replicate 8 (.int .u32 0)):=by
    have:=At.new (w.alloc (.cells UH.toArray 201)) 201 (List.replicate 8 (.int .u32 0))
    rw [show br=(w.alloc (.cells UH.toArray 201)).heap.size by rw [hbr]; simp]
    exact this
   exact ((a1.fr hf1 si).fr hf2 si).fr hf3 si
  ·rw [← HUK.out,hbk]
   exact ha2.fr hf3 si
  ·rw [hbw]
   have e:iX blk 0=UZ:=by rw [HUZ.out]; rfl
   rw [e]
   exact ha3
 rw [← hbr,← hbh,← hbk,← hbw]
 clear hf1 hf2 hf3 ha2 ha3 hbh hbr hbk hbw
 go_loopw [7] (fun i wx=>∃ t:Nat,t≤16∧i = .int .i64 t∧Hid (RB w wx bh br bk bw H blk t)) (fun i _=>16 - (intOf i).toNat)
 case atStart=>exact ⟨0,by omega,rfl,HB0⟩
 case round =>
  obtain ⟨t,ht,rfl,HL⟩:=hrel
  by_cases h16:t < 16
  ·obtain ⟨⟨v0,e0,c0,k0⟩,⟨v1,e1,c1,k1⟩,⟨v2,e2,c2,k2⟩,⟨v3,e3,c3,k3⟩⟩:(∃ v:UInt8,blk.getD (4*t) 0=v∧wr.cell? ⟨g,o+4*t,none⟩=some (.int .u8 (v.toNat:Int))∧g < w.heap.size)∧(∃ v:UInt8,blk.getD (4*t+1) 0=v∧wr.cell? ⟨g,o+(4*t+1),none⟩=some (.int .u8 (v.toNat:Int))∧g < w.heap.size)∧(∃ v:UInt8,blk.getD (4*t+2) 0=v∧wr.cell? ⟨g,o+(4*t+2),none⟩=some (.int .u8 (v.toNat:Int))∧g < w.heap.size)∧(∃ v:UInt8,blk.getD (4*t+3) 0=v∧wr.cell? ⟨g,o+(4*t+3),none⟩=some (.int .u8 (v.toNat:Int))∧g < w.heap.size):=by
    have key:∀ i,i < 64→∃ v:UInt8,blk.getD i 0=v∧wr.cell? ⟨g,o+i,none⟩=some (.int .u8 (v.toNat:Int))∧g < w.heap.size:=by
     intro i hi
     have hg:=List.getElem?_eq_getElem (l:=blk) (i:=i) (by rw [HR.out.1]; exact hi)
     obtain ⟨g',o',hA,hg',hc⟩:=HR.out.2 i _ (pZ blk i _ hg)
     injection hA with hA
     injection hA with a1 a2
     subst a1 a2
     refine ⟨_,by rw [List.getD_eq_getElem?_getD,hg,Option.getD_some],?_,hg'⟩
     rw [HL.out.fr.cell (p:=⟨g,o+i,none⟩) hg' si]
     exact hc
    exact ⟨key (4*t) om,key (4*t+1) om,key (4*t+2) om,key (4*t+3) om⟩
   have q0:=HL.out.lo
   have q1:=HL.out.o1
   have q2:=HL.out.o2
   have q3:=HL.out.o3
   have n0:g≠bw:=om
   have n1:bw≠g:=om
   have wc:wr.cell? ⟨bw,t,none⟩=some (.int .u32 0):=by rw [HL.out.sched.cell]; exact FD blk t om
   have wf:=HL.out.sched.frozen t
   obtain ⟨x,HX⟩:∃ x,Hid (x=word blk t):=⟨_,rfl⟩
   have xw:bits BinOp.or IntKind.u32 (bits BinOp.or IntKind.u32 (bits BinOp.or IntKind.u32 (IntKind.u32.wrap (IntKind.u32.wrap (v0.toNat:Int)*16777216)) (IntKind.u32.wrap (IntKind.u32.wrap (v1.toNat:Int)*65536))) (IntKind.u32.wrap (IntKind.u32.wrap (v2.toNat:Int)*256))) (IntKind.u32.wrap (v3.toNat:Int))=(x:Int):=by
    rw [Fm,HX.out]
    unfold word
    rw [e0,e1,e2,e3]
   have m0:IntKind.i64.wrap (4*(t:Int))=4*(t:Int):=IntWalk.i64_in _ om
   have m1:IntKind.i64.wrap (4*(t:Int)+1)=4*(t:Int)+1:=IntWalk.i64_in _ om
   have m2:IntKind.i64.wrap (4*(t:Int)+2)=4*(t:Int)+2:=IntWalk.i64_in _ om
   have m3:IntKind.i64.wrap (4*(t:Int)+3)=4*(t:Int)+3:=IntWalk.i64_in _ om
   have z0:(0:Int)≤4*(t:Int):=om
   have z1:(0:Int)≤4*(t:Int)+1:=om
   have z2:(0:Int)≤4*(t:Int)+2:=om
   have z3:(0:Int)≤4*(t:Int)+3:=om
   have y0:4*(t:Int) < 64:=om
   have y1:4*(t:Int)+1 < 64:=om
   have y2:4*(t:Int)+2 < 64:=om
   have y3:4*(t:Int)+3 < 64:=om
   have tn0:(4*(t:Int)).toNat=4*t:=om
   have tn1:(4*(t:Int)+1).toNat=4*t+1:=om
   have tn2:(4*(t:Int)+2).toNat=4*t+2:=om
   have tn3:(4*(t:Int)+3).toNat=4*t+3:=om
   have tI:(t:Int) < 64:=om
   have HN:Hid (RB w (wr.setCell ⟨bw,t,none⟩ (.int .u32 (x:Int))).drew bh br bk bw H blk (t+1)):=(HL.out.Kv om x (by rw [if_pos h16]; exact HX.out)).drew
   clear e0 e1 e2 e3 k0 k1 k2 k3
   go_wp2_with fail
   go_region_held3 (fun w'=>w'.cell? ⟨g,o+4*t,none⟩=some (.int .u8 (v0.toNat:Int))∧w'.cell? ⟨g,o+(4*t+1),none⟩=some (.int .u8 (v1.toNat:Int))∧w'.cell? ⟨g,o+(4*t+2),none⟩=some (.int .u8 (v2.toNat:Int))∧w'.cell? ⟨g,o+(4*t+3),none⟩=some (.int .u8 (v3.toNat:Int))) (go_keep) (first | fail)
   generalize (wr.setCell ⟨bw,t,none⟩ (.int .u32 (x:Int))).drew=W1 at HN ⊢
   rename_i hHeld
   clear hHeld xw m0 m1 m2 m3 tn0 tn1 tn2 tn3 c0 c1 c2 c3 wc wf HL
   go_wp2_with fail
   go_roundw
   case rel =>
    first
     | exact ⟨t+1,by omega,by go_num,HN⟩
     | ((repeat apply Exists.intro); exact ⟨⟨t+1,by omega,by go_num,HN⟩,rfl⟩)
   case measure=>simp [intOf] <;> omega
  ·obtain rfl:t=16:=om
   go_wp2_with fail
   obtain ⟨wa,HWA⟩:∃ wa,Hid (wa=wr):=⟨_,rfl⟩
   rw [← HWA.out] at HL ⊢
   clear HWA
   go_loopw [8] (fun i wx=>∃ t:Nat,16≤t∧t≤64∧i = .int .i64 t∧Hid (RB w wx bh br bk bw H blk t)) (fun i _=>64 - (intOf i).toNat)
   case atStart=>exact ⟨16,by omega,by omega,rfl,HL⟩
   case round =>
    obtain ⟨t,ht16,ht,rfl,HL⟩:=hrel
    by_cases hlt:t < 64
    ·obtain ⟨x2,f2,w2,d2⟩:=oI blk t (t - 2) om
     obtain ⟨x7,f7,w7,d7⟩:=oI blk t (t - 7) om
     obtain ⟨x15,f15,w15,d15⟩:=oI blk t (t - 15) om
     obtain ⟨x16,f16,w16,d16⟩:=oI blk t (t - 16) om
     have HCC:Hid (∀ W,RB w W bh br bk bw H blk t→W.cell? ⟨bw,t - 2,none⟩=some (.int .u32 (x2:Int))∧W.cell? ⟨bw,t - 7,none⟩=some (.int .u32 (x7:Int))∧W.cell? ⟨bw,t - 15,none⟩=some (.int .u32 (x15:Int))∧W.cell? ⟨bw,t - 16,none⟩=some (.int .u32 (x16:Int))∧W.cell? ⟨bw,t,none⟩=some (.int .u32 0)∧W.frozen? ⟨bw,t,none⟩=false):=fun W hW =>
      ⟨by rw [hW.sched.cell]; exact d2,by rw [hW.sched.cell]; exact d7,by rw [hW.sched.cell]; exact d15,by rw [hW.sched.cell]; exact d16,by rw [hW.sched.cell]; exact FD blk t hlt,hW.sched.frozen t⟩
     have HE:=Lib.hid (And.intro f2 (And.intro f7 (And.intro f15 f16)))
     have HW:=Lib.hid (And.intro w2 (And.intro w7 (And.intro w15 w16)))
     obtain ⟨s1,q1,HQ1⟩:∃ s1:Nat,bits BinOp.xor IntKind.u32 (bits BinOp.xor IntKind.u32 (rotr 17 x2:Int) (rotr 19 x2:Int)) ((x2:Int) / 1024)=(s1:Int)∧Hid (s1=nT x2):=⟨_,Fo x2 w2,rfl⟩
     obtain ⟨s0,q0,HQ0⟩:∃ s0:Nat,bits BinOp.xor IntKind.u32 (bits BinOp.xor IntKind.u32 (rotr 7 x15:Int) (rotr 18 x15:Int)) ((x15:Int) / 8)=(s0:Int)∧Hid (s0=pE x15):=⟨_,Fp x15 w15,rfl⟩
     obtain ⟨y1,p1,HP1⟩:∃ y:Nat,IntKind.u32.wrap ((s1:Int)+(x7:Int))=(y:Int)∧Hid (y=dH s1 x7):=⟨_,kQ _ _,rfl⟩
     obtain ⟨y2,p2,HP2⟩:∃ y:Nat,IntKind.u32.wrap ((y1:Int)+(s0:Int))=(y:Int)∧Hid (y=dH y1 s0):=⟨_,kQ _ _,rfl⟩
     obtain ⟨y3,p3,HP3⟩:∃ y:Nat,IntKind.u32.wrap ((y2:Int)+(x16:Int))=(y:Int)∧Hid (y=dH y2 x16):=⟨_,kQ _ _,rfl⟩
     have HX:Hid (y3=if t < 16 then word blk t else tK (kP blk t) t):=by
      show y3=_
      rw [if_neg om,HP3.out,HP2.out,HP1.out,HQ1.out,HQ0.out]
      unfold tK
      rw [HE.out.1,HE.out.2.1,HE.out.2.2.1,HE.out.2.2.2]
     clear f2 f7 f15 f16 w2 w7 w15 w16 d2 d7 d15 d16
     obtain ⟨c2,c7,c15,c16,wc,wf⟩:=HCC.out wr HL.out
     have s2:(0:Int)≤(t:Int) - 2:=om
     have s15:(0:Int)≤(t:Int) - 15:=om
     have s7:(0:Int)≤(t:Int) - 7:=om
     have s16:(0:Int)≤(t:Int) - 16:=om
     have s2l:(t:Int) - 2 < 64:=om
     have s15l:(t:Int) - 15 < 64:=om
     have s7l:(t:Int) - 7 < 64:=om
     have s16l:(t:Int) - 16 < 64:=om
     have g2:(2:Int)≤(t:Int):=om
     have g2n:2≤t:=om
     have g15:(15:Int)≤(t:Int):=om
     have g15n:15≤t:=om
     have g7:(7:Int)≤(t:Int):=om
     have g7n:7≤t:=om
     have g16:(16:Int)≤(t:Int):=om
     have o7:t - 7≠t:=om
     have o7':t≠t - 7:=om
     have o16:t - 16≠t:=om
     have o16':t≠t - 16:=om
     have tI:(t:Int) < 64:=om
     have s2n:((t:Int) - 2).toNat=t - 2:=om
     have s7n:((t:Int) - 7).toNat=t - 7:=om
     have s15n:((t:Int) - 15).toNat=t - 15:=om
     have s16n:((t:Int) - 16).toNat=t - 16:=om
     have s2w:IntKind.i64.wrap ((t:Int) - 2)=(t:Int) - 2:=IntWalk.i64_in _ om
     have s7w:IntKind.i64.wrap ((t:Int) - 7)=(t:Int) - 7:=IntWalk.i64_in _ om
     have s15w:IntKind.i64.wrap ((t:Int) - 15)=(t:Int) - 15:=IntWalk.i64_in _ om
     have s16w:IntKind.i64.wrap ((t:Int) - 16)=(t:Int) - 16:=IntWalk.i64_in _ om
     go_wp2_with fail
     go_quiet ((first
      | (go_at_call 174; exact Calls.quiet_of (oJ x15 7 _ _ rfl HW.out.2.2.1 (by decide) (by decide)))
      | (go_at_call 174; exact Calls.quiet_of (oJ x15 18 _ _ rfl HW.out.2.2.1 (by decide) (by decide)))))
     obtain ⟨W1,HW1⟩:∃ W1,Hid (W1=wr.drewN nq):=⟨_,rfl⟩
     rw [← HW1.out]
     have HL1:Hid (RB w W1 bh br bk bw H blk t):=by show RB w W1 bh br bk bw H blk t; rw [HW1.out]; exact HL.out.drewN _
     clear c2 c7 c15 c16 wc wf HL HW1
     obtain ⟨c2,c7,c15,c16,wc,wf⟩:=HCC.out W1 HL1.out
     go_wp2_with fail
     go_quiet ((first
      | (go_at_call 174; exact Calls.quiet_of (oJ x2 17 _ _ rfl HW.out.1 (by decide) (by decide)))
      | (go_at_call 174; exact Calls.quiet_of (oJ x2 19 _ _ rfl HW.out.1 (by decide) (by decide)))))
     obtain ⟨W2,HW2⟩:∃ W2,Hid (W2=W1.drewN nq):=⟨_,rfl⟩
     rw [← HW2.out]
     have HL2:Hid (RB w W2 bh br bk bw H blk t):=by show RB w W2 bh br bk bw H blk t; rw [HW2.out]; exact HL1.out.drewN _
     clear c2 c7 c15 c16 wc wf HL1 HW2
     obtain ⟨c2,c7,c15,c16,wc,wf⟩:=HCC.out W2 HL2.out
     have HN:Hid (RB w (W2.setCell ⟨bw,t,none⟩ (.int .u32 (y3:Int))).drew bh br bk bw H blk (t+1)):=(HL2.out.Kv hlt y3 HX.out).drew
     go_wp2_with fail
     go_still_tail 15,(by kernel_rfl)
     change wpList _ _ _ _ _ W2.drew
     go_wp2_with fail
     generalize (W2.setCell ⟨bw,t,none⟩ (.int .u32 (y3:Int))).drew=W3 at HN ⊢
     clear q1 q0 p1 p2 p3 s2n s7n s15n s16n s2w s7w s15w s16w c2 c7 c15 c16 wc wf HL2
     (try go_wp2_with fail)
     go_roundw
     case rel =>
      first
       | exact ⟨t+1,by omega,by omega,by go_num,HN⟩
       | ((repeat apply Exists.intro); exact ⟨⟨t+1,by omega,by omega,by go_num,HN⟩,rfl⟩)
     case measure=>simp [intOf] <;> omega
    ·obtain rfl:t=64:=om
     have HC8:Hid (UH.length=8∧∀ v∈UH,v.oneCell'=true):=by
      show _∧_
      rw [HUH.out,iE]
      exact ⟨HH.out.1,tX _⟩
     have hhw:=HL.out.h.lt
     have hww:=HL.out.sched.lt
     go_wp2_with (first
      | (refine nD rfl 201 (.tmp 2) rfl bh 0 rfl UH _ (fun j v hj=>(by rw [Nat.zero_add,HL.out.h.cell,← HUH.out]; exact hj)) Tryz.underlying201 rfl (by rw [HC8.out.1]; kernel_rfl) ?_)
      | (refine nQ rfl 201 (.tmp 11) (.tmp 116) rfl rfl 201 _ UH rfl (by rw [HC8.out.1]; rfl) (by rw [HC8.out.1]; kernel_rfl) HC8.out.2 ?_; intro w4 hf4 ha4))
     obtain ⟨bv,hbv⟩:∃ bv,bv=wr.heap.size:=⟨_,rfl⟩
     rw [← hbv] at ha4 ⊢
     have hbb:bw < bv:=om
     have HV:Hid (RB w w4 bh br bk bw H blk 64∧At w4 bv 201 (U4 H)):=⟨HL.out.Eg hf4 si,by rw [← HUH.out]; exact ha4⟩
     clear hf4 ha4 hbv HL hhw hww
     obtain ⟨s0,HS0⟩:∃ s0:S8,Hid (s0=S8.of H∧s0.Ok∧s0.list=H):=by
      refine ⟨_,rfl,S8.Ks HH.out.2,?_⟩
      have hl:=HH.out.1
      match H,hl with
      | [h0,h1,h2,h3,h4,h5,h6,h7],_=>rfl
     obtain ⟨WS,HWS⟩:∃ WS,Hid (WS=kP blk 64):=⟨_,rfl⟩
     go_loopw [12] (fun i wx=>∃ (t:Nat) (s:S8),t≤64∧i = .int .i64 t∧Hid (s=rounds WS s0 t∧s.Ok∧RB w wx bh br bk bw H blk 64∧At wx bv 201 (U4 s.list))) (fun i _=>64 - (intOf i).toNat)
     case atStart=>exact ⟨0,s0,by omega,rfl,rfl,HS0.out.2.1,HV.out.1,by rw [HS0.out.2.2]; exact HV.out.2⟩
     case round =>
      obtain ⟨t,s,ht,rfl,HT⟩:=hrel
      obtain ⟨a,b',c,d,e,f,g',h⟩:=s
      by_cases hlt:t < 64
      ·obtain ⟨kt,hkt⟩:∃ kt,mD[t]?=some kt:=⟨_,List.getElem?_eq_getElem (show t < mD.length from hlt)⟩
       obtain ⟨wt,fw,ww,dw⟩:=oI blk 64 t hlt
       obtain ⟨s1,ef,ne,ng,ch,x1,x2,x3,t1,z0,ab,ac,bc,mx,mj,t2,na,nd,q1,q2,q3,q4,q5,q6,q7,q8,q9,q10,q11,q12,q13,q14,q15,q16,q17,q18,HQ⟩:=Fq a b' c d e f g' h kt wt HT.out.2.1
       have HO:Hid (bR e∧bR a):=⟨HT.out.2.1.e,HT.out.2.1.a⟩
       have HK:Hid (rounds WS s0 (t+1)=⟨na,a,b',c,nd,e,f,g'⟩∧S8.Ok ⟨na,a,b',c,nd,e,f,g'⟩):=by
        refine ⟨?_,by rw [← HQ.out]; exact HT.out.2.1.rD _ _⟩
        rw [← HQ.out]
        show (rounds WS s0 t).rD (mD.getD t 0) (WS.getD t 0)=_
        rw [← HT.out.1,List.getD_eq_getElem?_getD,hkt,HWS.out,fw]
        rfl
       have HCC:Hid (∀ W,RB w W bh br bk bw H blk 64→At W bv 201 (U4 [a,b',c,d,e,f,g',h])→W.cell? ⟨bk,t,none⟩=some (.int .u32 (kt:Int))∧W.cell? ⟨bw,t,none⟩=some (.int .u32 (wt:Int))∧W.cell? ⟨bv,0,none⟩=some (.int .u32 (a:Int))∧W.cell? ⟨bv,1,none⟩=some (.int .u32 (b':Int))∧W.cell? ⟨bv,2,none⟩=some (.int .u32 (c:Int))∧W.cell? ⟨bv,3,none⟩=some (.int .u32 (d:Int))∧W.cell? ⟨bv,4,none⟩=some (.int .u32 (e:Int))∧W.cell? ⟨bv,5,none⟩=some (.int .u32 (f:Int))∧W.cell? ⟨bv,6,none⟩=some (.int .u32 (g':Int))∧W.cell? ⟨bv,7,none⟩=some (.int .u32 (h:Int))):=fun W hW hA =>
        ⟨by rw [hW.k.cell]; exact qL _ _ _ hkt,by rw [hW.sched.cell]; exact dw,by rw [hA.cell]; rfl,by rw [hA.cell]; rfl,by rw [hA.cell]; rfl,by rw [hA.cell]; rfl,by rw [hA.cell]; rfl,by rw [hA.cell]; rfl,by rw [hA.cell]; rfl,by rw [hA.cell]; rfl⟩
       clear hkt fw ww dw
       have htI:(t:Int) < 64:=om
       obtain ⟨ck,cw,j0,j1,j2,j3,j4,j5,j6,j7⟩:=HCC.out wr HT.out.2.2.1 HT.out.2.2.2
       go_wp2_with fail
       go_quiet (fail)
       obtain ⟨W1,HW1⟩:∃ W1,Hid (W1=wr.drewN nq):=⟨_,rfl⟩
       rw [← HW1.out]
       have HL1:Hid (RB w W1 bh br bk bw H blk 64∧At W1 bv 201 (U4 [a,b',c,d,e,f,g',h])):=by show _∧_; rw [HW1.out]; exact ⟨HT.out.2.2.1.drewN _,HT.out.2.2.2⟩
       clear ck cw j0 j1 j2 j3 j4 j5 j6 j7 HW1
       obtain ⟨ck,cw,j0,j1,j2,j3,j4,j5,j6,j7⟩:=HCC.out W1 HL1.out.1 HL1.out.2
       go_wp2_with fail
       go_quiet ((first
        | (go_at_call 174; exact Calls.quiet_of (oJ e 6 _ _ rfl HO.out.1 (by decide) (by decide)))
        | (go_at_call 174; exact Calls.quiet_of (oJ e 11 _ _ rfl HO.out.1 (by decide) (by decide)))
        | (go_at_call 174; exact Calls.quiet_of (oJ e 25 _ _ rfl HO.out.1 (by decide) (by decide)))))
       obtain ⟨W2,HW2⟩:∃ W2,Hid (W2=W1.drewN nq):=⟨_,rfl⟩
       rw [← HW2.out]
       have HL2:Hid (RB w W2 bh br bk bw H blk 64∧At W2 bv 201 (U4 [a,b',c,d,e,f,g',h])):=by show _∧_; rw [HW2.out]; exact ⟨HL1.out.1.drewN _,HL1.out.2⟩
       clear ck cw j0 j1 j2 j3 j4 j5 j6 j7 HW2 HL1
       go_wp2_with fail
       refine (oJ a 2 _ _ rfl HO.out.2 (by decide) (by decide)).mono ?_
       rintro e1 w5 ⟨rfl,m5,rfl⟩
       go_wp2_with fail
       refine (oJ a 13 _ _ rfl HO.out.2 (by decide) (by decide)).mono ?_
       rintro e1 w6 ⟨rfl,m6,rfl⟩
       go_wp2_with fail
       refine (oJ a 22 _ _ rfl HO.out.2 (by decide) (by decide)).mono ?_
       rintro e1 w7 ⟨rfl,m7,rfl⟩
       obtain ⟨W3,HW3⟩:∃ W3,Hid (W3=(W2.drewN (m5+m6)).drewN m7):=⟨_,rfl⟩
       have HL3:Hid (RB w W3 bh br bk bw H blk 64∧At W3 bv 201 (U4 [a,b',c,d,e,f,g',h])):=by show _∧_; rw [HW3.out]; exact ⟨(HL2.out.1.drewN _).drewN _,HL2.out.2⟩
       rw [← HW3.out]
       clear HW3 HL2
       obtain ⟨ck,cw,j0,j1,j2,j3,j4,j5,j6,j7⟩:=HCC.out W3 HL3.out.1 HL3.out.2
       obtain ⟨L0,HL0⟩:∃ L0,Hid (L0=U4 [a,b',c,d,e,f,g',h]):=⟨_,rfl⟩
       obtain ⟨L2,HLL2⟩:∃ L2,Hid (L2=U4 [na,a,b',c,nd,e,f,g']):=⟨_,rfl⟩
       go_wp2_with (refine tH rfl 201 (.tmp 11) (.tmp 194) rfl bv 0 rfl 201 L0 [.int .u32 (na:Int),.int .u32 (a:Int),.int .u32 (b':Int),.int .u32 (c:Int),.int .u32 (nd:Int),.int .u32 (e:Int),.int .u32 (f:Int),.int .u32 (g':Int)] rfl (by rw [HL0.out]; exact HL3.out.2) (by rw [HL0.out]; exact Nat.le_refl _) (by kernel_rfl) (tX [na,a,b',c,nd,e,f,g']) L2 (by rw [HL0.out,HLL2.out]; rfl) ?_; intro w8 hf8 ha8)
       have HN:Hid (RB w w8 bh br bk bw H blk 64∧At w8 bv 201 (U4 [na,a,b',c,nd,e,f,g'])):=⟨HL3.out.1.Eg hf8 (by simp; omega),by rw [← HLL2.out]; exact ha8⟩
       clear q1 q2 q3 q4 q5 q6 q7 q8 q9 q10 q11 q12 q13 q14 q15 q16 q17 q18 hf8 ha8 ck cw j0 j1 j2 j3 j4 j5 j6 j7 HL3 HCC
       go_wp2_with fail
       go_roundw
       case rel =>
        first
         | exact ⟨t+1,⟨na,a,b',c,nd,e,f,g'⟩,by omega,by go_num,HK.out.1.symm,HK.out.2,HN.out.1,HN.out.2⟩
         | ((repeat apply Exists.intro); exact ⟨⟨t+1,⟨na,a,b',c,nd,e,f,g'⟩,by omega,by go_num,HK.out.1.symm,HK.out.2,HN.out.1,HN.out.2⟩,rfl⟩)
       case measure=>simp [intOf] <;> omega
      ·obtain rfl:t=64:=om
       obtain ⟨V,HVV⟩:∃ V,Hid (V=[a,b',c,d,e,f,g',h]):=⟨_,rfl⟩
       have HF:Hid (iZ H blk=List.zipWith dH V H):=by
        show iZ H blk=_
        unfold iZ
        rw [← HWS.out,← HS0.out.1,← HT.out.1,HVV.out,Mc]
        rfl
       have HV8:Hid (V.length=8):=by show V.length=8; rw [HVV.out]; rfl
       have HZ:Hid (RB w wr bh br bk bw H blk 64∧At wr bv 201 (U4 V)):=⟨HT.out.2.2.1,by rw [HVV.out]; exact HT.out.2.2.2⟩
       obtain ⟨wb,HWB⟩:∃ wb,Hid (wb=wr):=⟨_,rfl⟩
       rw [← HWB.out] at HZ ⊢
       clear HT HWB HVV
       go_wp2_with fail
       go_loopw [21] (fun i wx=>∃ k:Nat,k≤8∧i = .int .i64 k∧Hid (RB w wx bh br bk bw H blk 64∧At wx bv 201 (U4 ((List.zipWith dH V H).take k++V.drop k)++[]))) (fun i _=>8 - (intOf i).toNat)
       case atStart=>exact ⟨0,by omega,rfl,by rw [List.take_zero,List.nil_append,List.drop_zero,List.append_nil]; exact HZ⟩
       case round =>
        obtain ⟨k,hk,rfl,HY⟩:=hrel
        by_cases hlt4:k < 8
        ·obtain ⟨x,hx⟩:∃ x,H[k]?=some x:=⟨_,List.getElem?_eq_getElem (by rw [HH.out.1]; exact hlt4)⟩
         obtain ⟨y,hy⟩:∃ y,V[k]?=some y:=⟨_,List.getElem?_eq_getElem (by rw [HV8.out]; exact hlt4)⟩
         have HS:=Lib.hid (Fs V H [] k y x hy hx)
         have cy:wr.cell? ⟨bh,k,none⟩=some (.int .u32 (x:Int)):=by rw [HY.out.1.h.cell]; exact qL _ _ _ hx
         have cb:wr.cell? ⟨bv,k,none⟩=some (.int .u32 (y:Int)):=by rw [HY.out.2.cell]; exact Ft V H [] k y x hy hx
         have fb:=HY.out.2.frozen k
         obtain ⟨sm,em,HSM⟩:∃ sm:Nat,IntKind.u32.wrap ((y:Int)+(x:Int))=(sm:Int)∧Hid (sm=dH y x):=⟨_,kQ y x,rfl⟩
         have hkI:(k:Int) < 8:=om
         have b0:=HY.out.1.o1
         have b1:=HY.out.1.o2
         have b2:=HY.out.1.o3
         have hne:bh≠bv:=om
         have hne':bv≠bh:=om
         have HN:Hid (RB w (wr.setCell ⟨bv,k,none⟩ (.int .u32 (sm:Int))).drew bh br bk bw H blk 64∧At (wr.setCell ⟨bv,k,none⟩ (.int .u32 (sm:Int))).drew bv 201 (U4 ((List.zipWith dH V H).take (k+1)++V.drop (k+1))++[])):=by
          refine ⟨HY.out.1.Eg (S:=[bv]) (((Fr.refl _ _).setCell si _).drew) (by simp; omega),?_⟩
          rw [HSM.out,← HS.out]
          exact (HY.out.2.set k _).drew
         clear hx hy
         go_wp2_with fail
         go_region
         generalize (wr.setCell ⟨bv,k,none⟩ (.int .u32 (sm:Int))).drew=W5 at HN ⊢
         clear em cy cb fb HY HS
         go_wp2_with fail
         go_roundw
         case rel =>
          first
           | exact ⟨k+1,by omega,by go_num,HN⟩
           | ((repeat apply Exists.intro); exact ⟨⟨k+1,by omega,by go_num,HN⟩,rfl⟩)
         case measure=>simp [intOf] <;> omega
        ·obtain rfl:k=8:=om
         obtain ⟨l,hl8,har⟩:=HY.out.1.r
         obtain ⟨LF,HLF⟩:∃ LF,Hid (LF=U4 (iZ H blk)):=⟨_,rfl⟩
         have HLX:Hid (LF.length=8∧(∀ v∈LF,v.oneCell'=true)∧At wr bv 201 LF):=by
          show _∧_∧_
          rw [HLF.out,iE]
          refine ⟨Bd H blk HH.out.1,tX _,?_⟩
          have h8:=HY.out.2
          rw [List.append_nil,List.take_of_length_le (by simp [HH.out.1,HV8.out]),List.drop_of_length_le (by rw [HV8.out]; exact Nat.le_refl _),List.append_nil] at h8
          rw [HF.out]
          exact h8
         have HAR:=Lib.hid (And.intro hl8 har)
         have b0:=HY.out.1.o1
         have b00:=HY.out.1.lo
         clear hl8 har
         go_wp2_with (first
          | (refine nD rfl 201 (.tmp 11) rfl bv 0 rfl LF _ (fun j v hj=>(by rw [Nat.zero_add,HLX.out.2.2.cell]; exact hj)) Tryz.underlying201 rfl (by rw [HLX.out.1]; kernel_rfl) ?_)
          | (refine tH rfl 201 (.tmp 4) (.tmp 207) rfl br 0 rfl 201 l LF rfl HAR.out.2 (by rw [HAR.out.1,HLX.out.1]; exact Nat.le_refl _) (by rw [HLX.out.1]; kernel_rfl) HLX.out.2.1 LF (by rw [HLX.out.1,List.drop_of_length_le (by rw [HAR.out.1]; exact Nat.le_refl _)]; simp) ?_; intro w9 hf9 ha9))
         exact bodyPost_ret (yT (t:=201) rfl _ _ br LF _ rfl ha9 Tryz.underlying201 rfl (by rw [HLX.out.1]; kernel_rfl)) rfl ⟨by rw [HLF.out],HY.out.1.fr.trans' hf9 (by simp; omega)⟩
theorem Me (xs:List UInt8):∃ q,(xs++mE xs.length).length=64*q:=by
 have:=Lg xs.length
 exact ⟨(xs++mE xs.length).length / 64,by rw [List.length_append]; omega⟩
theorem FE (A:Option Addr) (cp:Nat) (xs:List UInt8) (w:World) (hrow:aH w A (B8 xs)) (hlen:xs.length≤68719476736) :
  Calls Tryz.prog 94 #[.slice A xs.length cp] w fun e w'=>e = .returned (vS (dO xs))∧Fr [] w w':=by
 have H:=Lib.hid (And.intro hrow hlen)
 clear hrow hlen
 obtain ⟨n,HN⟩:∃ n,Hid (n=xs.length):=⟨_,rfl⟩
 rw [← HN.out]
 obtain ⟨UI,HUI⟩:∃ UI,Hid (UI=U4 jM):=⟨_,rfl⟩
 go_enter Tryz.func94,Tryz.ntmps94
 go_wp2_with (first
  | (refine wB rfl 201 _ rfl UI.toArray (by rw [HUI.out]; kernel_rfl) ?_)
  | (refine nQ rfl 201 (.tmp 3) (.tmp 8) rfl rfl 201 _ UI rfl (by rw [HUI.out]; rfl) (by rw [HUI.out]; kernel_rfl) (by rw [HUI.out]; exact tX _) ?_; intro w1 hf1 ha1))
 obtain ⟨bh,hbh⟩:∃ bh,bh=w.heap.size:=⟨_,rfl⟩
 rw [← hbh] at ha1 ⊢
 have HP:=Lib.hid (Mb A cp xs w1 (H.out.1.dD hf1) H.out.2)
 rw [← HN.out] at HP
 have H1:Hid (Fr [] w w1∧At w1 bh 201 (U4 jM)∧bh=w.heap.size):=⟨hf1,by rw [← HUI.out]; exact ha1,hbh⟩
 clear hf1 ha1 hbh
 go_wp2_with fail
 refine HP.out.mono ?_
 rintro e w2 ⟨A2,c2,rfl,hf2,hown2⟩
 obtain ⟨p,HPP⟩:∃ p,Hid (p=xs++mE n):=⟨_,rfl⟩
 rw [← HPP.out] at hown2 ⊢
 obtain ⟨q,HQ⟩:∃ q,Hid (p.length=64*q):=by rw [HPP.out,HN.out]; exact Me xs
 have hpl:p.length≤68719476864:=by
  rw [HPP.out,HN.out,List.length_append]
  have:=H.out.2
  simp only [mE,List.length_append,List.length_cons,List.length_replicate,List.length_nil]
  omega
 have HR:=Lib.hid (aH.cN hown2)
 have hcap2:p.length≤c2:=by
  have hb:BR w1 w2 (.slice A2 p.length c2) p:=⟨hf2,hown2⟩
  exact hb.cap
 obtain ⟨g,o,rfl,hg⟩:=HR.out.some (by rw [HPP.out,List.length_append]; simp [mE]; omega)
 have hgb:g≠bh:=by
  have hb:BR w1 w2 (.slice (some ⟨g,o,none⟩) p.length c2) p:=⟨hf2,hown2⟩
  have:=hb.far g o rfl
  have:=H1.out.2.1.lt
  omega
 have H2:Hid (Fr [] w w2∧At w2 bh 201 (U4 jM)):=⟨H1.out.1.trans hf2,H1.out.2.1.fr hf2 si⟩
 clear hown2 hf2 HP
 obtain ⟨pl,HPL⟩:∃ pl,Hid (pl=p.length):=⟨_,rfl⟩
 rw [← HPL.out] at hpl hcap2 HQ ⊢
 go_wp2_with fail
 go_loopw [5] (fun i wx=>∃ (k j:Nat),i = .int .i64 j∧j≤pl∧Hid (j=64*k∧Fr [bh] w2 wx∧At wx bh 201 (U4 (iU k jM p)))) (fun i _=>pl - (intOf i).toNat)
 case atStart=>exact ⟨0,0,rfl,by omega,rfl,Fr.refl _ _,H2.out.2⟩
 case round =>
  obtain ⟨k,j,rfl,hj,HL⟩:=hrel
  by_cases hlt:j < pl
  ·have hj64:j+64≤pl:=by have h1:=HL.out.1; have h2:=HQ.out; omega
   obtain ⟨h0,h1,h2,h3,h4,h5,h6,h7,HH⟩:∃ h0 h1 h2 h3 h4 h5 h6 h7:Nat,Hid (iU k jM p=[h0,h1,h2,h3,h4,h5,h6,h7]):=by
    have hl:=(tM k jM p rfl vM).1
    generalize iU k jM p=X at hl
    match X,hl with
    | [h0,h1,h2,h3,h4,h5,h6,h7],_=>exact ⟨h0,h1,h2,h3,h4,h5,h6,h7,rfl⟩
   have hab:=HL.out.2.2
   rw [HH.out] at hab
   have d0:wr.cell? ⟨bh,0,none⟩=some (.int .u32 (h0:Int)):=by rw [hab.cell]; rfl
   have d1:wr.cell? ⟨bh,1,none⟩=some (.int .u32 (h1:Int)):=by rw [hab.cell]; rfl
   have d2:wr.cell? ⟨bh,2,none⟩=some (.int .u32 (h2:Int)):=by rw [hab.cell]; rfl
   have d3:wr.cell? ⟨bh,3,none⟩=some (.int .u32 (h3:Int)):=by rw [hab.cell]; rfl
   have d4:wr.cell? ⟨bh,4,none⟩=some (.int .u32 (h4:Int)):=by rw [hab.cell]; rfl
   have d5:wr.cell? ⟨bh,5,none⟩=some (.int .u32 (h5:Int)):=by rw [hab.cell]; rfl
   have d6:wr.cell? ⟨bh,6,none⟩=some (.int .u32 (h6:Int)):=by rw [hab.cell]; rfl
   have d7:wr.cell? ⟨bh,7,none⟩=some (.int .u32 (h7:Int)):=by rw [hab.cell]; rfl
   have HAB:=Lib.hid hab
   clear hab
   obtain ⟨o2,cp2,ho2,hsl⟩:∃ o2 cp2:Nat,o2=o+j∧∀ W:World,(Instr.slice 23 (.slice (some ⟨g,o,none⟩) pl c2) (some (vi (j:Int))) (some (vi ((j:Int)+64))) none).run Tryz.prog W = .ok (.slice (some ⟨g,o2,none⟩) 64 cp2) W:=by
    refine ⟨o+j,c2 - j,rfl,fun W=>?_⟩
    have hne:¬ (c2=j):=om
    rw [run_slice_lh W 23 (some ⟨g,o,none⟩) pl c2 kr .i64 .i64 (j:Int) ((j:Int)+64) om om om,show (sizeOf (Tryz.prog.elem 23)).run Tryz.prog W = .ok 1 W by kernel_rfl]
    have e1:((j:Int)+64).toNat=j+64:=om
    simp [sliced,hne,iK,e1]
   have HO2:=Lib.hid ho2
   clear ho2
   have HROW:Hid (aH wr.drew (some ⟨g,o2,none⟩) (B8 ((p.drop (64*k)).take 64))):=by
    have h5:=(HR.out.fr HL.out.2.1 (by intro b o' e; injection e with e; injection e with e1 e2; subst e1; simpa using hgb)).Ef (k:=j) (o':=o2) (fun _=>HO2.out)
    rw [← HL.out.1]
    exact h5.AS
   have HC:=Lib.hid (Md g o2 cp2 [h0,h1,h2,h3,h4,h5,h6,h7] ((p.drop (64*k)).take 64) wr.drew rfl (by rw [← HH.out]; exact (tM k jM p rfl vM).2) (by have e1:=HL.out.1; have e2:=HPL.out; rw [List.length_take,List.length_drop]; omega) HROW.out)
   have hw1:IntKind.i64.wrap ((j:Int)+64)=(j:Int)+64:=IntWalk.i64_in _ om
   go_wp2_with fail
   go_still_tail 6,(by kernel_rfl)
   change wpList _ _ _ _ _ wr.drew
   go_wp2_with fail
   refine HC.out.mono ?_
   rintro e w3 ⟨rfl,hf3⟩
   obtain ⟨LF,HLF⟩:∃ LF,Hid (LF=U4 (iZ [h0,h1,h2,h3,h4,h5,h6,h7] ((p.drop (64*k)).take 64))):=⟨_,rfl⟩
   rw [← HLF.out]
   have HLX:Hid (LF.length=8∧(∀ v∈LF,v.oneCell'=true)):=by
    show _∧_
    rw [HLF.out,iE]
    exact ⟨Bd _ _ rfl,tX _⟩
   obtain ⟨L0,HL0⟩:∃ L0,Hid (L0=U4 [h0,h1,h2,h3,h4,h5,h6,h7]):=⟨_,rfl⟩
   have HA3:Hid (Fr [bh] w2 w3∧At w3 bh 201 L0∧L0.length=8):=⟨(HL.out.2.1.drew.mono si).trans' hf3 si,by rw [HL0.out]; exact HAB.out.drew.fr hf3 si,by rw [HL0.out]; rfl⟩
   clear d0 d1 d2 d3 d4 d5 d6 d7 hf3 hsl hw1 HC HAB
   go_wp2_with (refine tH rfl 201 (.tmp 3) (.tmp 23) rfl bh 0 rfl 201 L0 LF rfl HA3.out.2.1 (by rw [HA3.out.2.2,HLX.out.1]; exact Nat.le_refl _) (by rw [HLX.out.1]; kernel_rfl) HLX.out.2 LF (by rw [HLX.out.1,List.drop_of_length_le (by rw [HA3.out.2.2]; exact Nat.le_refl _)]; simp) ?_; intro w4 hf4 ha4)
   have HNN:Hid (j+64=64*(k+1)∧Fr [bh] w2 w4∧At w4 bh 201 (U4 (iU (k+1) jM p))):=by
    refine ⟨by have:=HL.out.1; omega,HA3.out.1.trans hf4,?_⟩
    rw [Be,HH.out,← HLF.out]
    exact ha4
   clear hf4 ha4
   go_roundw
   case rel =>
    first
     | exact ⟨k+1,j+64,by go_num,by omega,HNN⟩
     | ((repeat apply Exists.intro); exact ⟨⟨k+1,j+64,by go_num,by omega,HNN⟩,rfl⟩)
   case measure=>simp [intOf] <;> omega
  ·obtain rfl:j=pl:=om
   obtain ⟨X,HX⟩:∃ X,Hid (X=iU k jM p):=⟨_,rfl⟩
   have HX8:Hid (X.length=8∧(∀ x∈X,bR x)∧jA X=dO xs):=by
    show _∧_∧_
    rw [HX.out]
    refine ⟨(tM k jM p rfl vM).1,(tM k jM p rfl vM).2,?_⟩
    have e1:=HL.out.1
    have e2:=HPL.out
    rw [EB,eU,← HN.out,← HPP.out,← e2,e1,Nat.mul_div_cancel_left _ (by decide)]
   have HZ:Hid (Fr [] w wr∧At wr bh 201 (U4 X)):=⟨(H2.out.1.mono si).trans' HL.out.2.1 (by have:=H1.out.2.2; simp; omega),by rw [HX.out]; exact HL.out.2.2⟩
   obtain ⟨wb,HWB⟩:∃ wb,Hid (wb=wr):=⟨_,rfl⟩
   rw [← HWB.out] at HZ ⊢
   clear HWB HL
   have hbw:=HZ.out.2.lt
   go_wp2_with fail
   go_loopw [6,7] (fun v s wx=>∃ (i:Nat) (A':Option Addr) (c':Nat) (es:List UInt8),i≤8∧s = .int .i64 i∧v = .slice A' es.length c'∧es.length≤4*i∧Hid (es=jA (X.take i))∧Hid (BR wb wx v es)) (fun _ s _=>8 - (intOf s).toNat)
   case atStart=>exact ⟨0,_,_,[],by omega,rfl,rfl,by simp,rfl,(Fr.refl _ _).alloc _,World.ownsRow_made wb #[] 0 (Nat.le_refl _) (Nat.zero_le _) rfl⟩
   case round =>
    obtain ⟨i,A4,c4,es,hi,rfl,rfl,hel,HE,HB4⟩:=hrel
    have hsz4:=HB4.out.size
    by_cases hlt3:i < 8
    ·obtain ⟨x,hx⟩:∃ x,X[i]?=some x:=⟨_,List.getElem?_eq_getElem (by rw [HX8.out.1]; exact hlt3)⟩
     have cx:wr.cell? ⟨bh,i,none⟩=some (.int .u32 (x:Int)):=by rw [HB4.out.fr.cell (p:=⟨bh,i,none⟩) hbw si,HZ.out.2.cell]; exact qL _ _ _ hx
     obtain ⟨y3,HY3⟩:∃ y:UInt8,Hid (y=dU x 3):=⟨_,rfl⟩
     obtain ⟨y2,HY2⟩:∃ y:UInt8,Hid (y=dU x 2):=⟨_,rfl⟩
     obtain ⟨y1,HY1⟩:∃ y:UInt8,Hid (y=dU x 1):=⟨_,rfl⟩
     obtain ⟨y0,HY0⟩:∃ y:UInt8,Hid (y=dU x 0):=⟨_,rfl⟩
     have k3:IntKind.u8.wrap ((x:Int) / 16777216)=(y3.toNat:Int):=by rw [HY3.out]; exact mV x 3
     have k2:IntKind.u8.wrap ((x:Int) / 65536)=(y2.toNat:Int):=by rw [HY2.out]; exact mV x 2
     have k1:IntKind.u8.wrap ((x:Int) / 256)=(y1.toNat:Int):=by rw [HY1.out]; exact mV x 1
     have k0:IntKind.u8.wrap (x:Int)=(y0.toNat:Int):=by rw [HY0.out]; have:=mV x 0; simpa using this
     have HXX:Hid (jA (X.take (i+1))=jA (X.take i)++[y3,y2,y1,y0]):=by
      obtain ⟨h1,e1⟩:=List.getElem?_eq_some_iff.1 hx
      show jA _=_
      rw [List.take_succ_eq_append_getElem h1,e1,jA,List.flatMap_append,HY3.out,HY2.out,HY1.out,HY0.out]
      simp [jA]
     have hiI:(i:Int) < 8:=om
     have HCX:Hid ((U4 X)[i]?=some (.int .u32 (x:Int))):=qL _ _ _ hx
     clear hx
     go_wp2_with fail
     have hne:wr.heap.size≠bh:=om
     have hne':bh≠wr.heap.size:=om
     have hbr:bh < wr.heap.size:=om
     go_region_held3 (fun w'=>w'.cell? ⟨bh,i,none⟩=some (.int .u32 (x:Int))) (first | go_keep | (rw [HG.out.cell (p:=⟨bh,i,none⟩) hbr (by simp)]; assumption))
      ((refine KX fH rfl (.tmp 29) (.tmp 49) rfl wb.heap.size (.slice A4 es.length c4) es.length (B8 es) (by simp [Act.eval]) (by exact HB4.out.own.alloc _) (some ⟨wr.heap.size,0,none⟩) 4 4 (B8 [y3,y2,y1,y0]) (by simp [Act.eval]) rfl (by exact dV.new _ _ (B8 [y3,y2,y1,y0])) (gS _) om (by simp; omega) ?_; intro v2 w5 hown2 hg2 hb2; have HG:Hid (Fr [] wb w5):=(tP (HB4.out.fr.alloc _) (HB4.out.own.alloc _) (Et hg2)); obtain ⟨A3,c3,cs3,HC3,hc3,rfl,HB3⟩:=BR.push (xs:=[y3,y2,y1,y0]) (HB4.out.alloc _) hown2 (Et hg2); have cx5:w5.cell? ⟨bh,i,none⟩=some (.int .u32 (x:Int)):=(by rw [HG.out.cell (p:=⟨bh,i,none⟩) hbw si,HZ.out.2.cell]; exact HCX.out); clear hown2 hg2 hb2))
     have HC4:Hid (cs3=jA (X.take (i+1))):=by show cs3=_; rw [HC3.out,HXX.out,HE.out]
     have h3:cs3.length≤es.length+4:=hc3
     rename_i hHeld
     clear hHeld k3 k2 k1 k0 cx cx5
     go_wp2_with fail
     go_roundw
     case rel =>
      first
       | exact ⟨i+1,A3,c3,cs3,by omega,by go_num,rfl,by omega,HC4,HB3⟩
       | ((repeat apply Exists.intro); exact ⟨⟨i+1,A3,c3,cs3,by omega,by go_num,rfl,by omega,HC4,HB3⟩,rfl⟩)
     case measure=>simp [intOf] <;> omega
    ·obtain rfl:i=8:=om
     have hst:=rH (P:=Tryz.prog) (src:=23) (dst:=9) Tryz.underlying23 Tryz.underlying5 Tryz.underlying9 wr A4 c4 es HB4.out.row
     go_wp2_with fail
     go_ret
     refine ⟨?_,HZ.out.1.trans HB4.out.fr⟩
     rw [HE.out,List.take_of_length_le (by rw [HX8.out.1]; exact Nat.le_refl _),HX8.out.2.2]
     rfl
structure BC where
 count : Int
 keys : List UInt8
 checks : Nat
def BC.zero : BC := ⟨0, List.replicate 32 0, 0⟩
def BC.cells (c : BC) : List Value := Value.int .i64 c.count :: (B8 c.keys ++ [.int .u64 (c.checks : Int)])
structure BC.Ok (c : BC) : Prop where
 count : mP c.count
 keys : c.keys.length = 32
 checks : bI c.checks
theorem BC.Ok.zero:BC.zero.Ok:=⟨by unfold mP; decide,rfl,by unfold bI; decide⟩
theorem BC.cells_len {c:BC} (h:c.Ok):c.cells.length=34:=by simp [BC.cells,dL,h.keys]
structure BT where
 cells : List BC
 seed : Nat
structure BT.Ok (t : BT) : Prop where
 cells : ∀ c ∈ t.cells, c.Ok
 seed : bI t.seed
def qM (s : Nat) : List UInt8 := [dU s 7, dU s 6, dU s 5, dU s 4, dU s 3, dU s 2, dU s 1, dU s 0]
def nG (l : List UInt8) : Nat → Nat
 | 0 => 0
 | k + 1 => nG l k * 256 + (l.getD k 0).toNat
def gL (seed i : Nat) (key : List UInt8) : Nat := nG (dO (qM seed ++ [UInt8.ofNat i] ++ key)) 8
def eL (n seed : Nat) (key : List UInt8) (i : Nat) : Nat := i * (n / 3) + gL seed i key % (n / 3)
def dQ (n : Int) : Bool := decide (3 ≤ n) && decide (n ≤ 3072) && decide (n % 3 = 0)
theorem yU (l:List UInt8):∀ k,nG l k < 256 ^ k
 | 0=>by simp [nG]
 | k+1=>by
   have ih:=yU l k
   have hb:=UInt8.toNat_lt (l.getD k 0)
   rw [nG,Nat.pow_succ]
   omega
theorem yV (seed i:Nat) (key:List UInt8):bI (gL seed i key):=yU _ 8
theorem yW (n seed:Nat) (key:List UInt8) (i:Nat) (hn:3≤n) (hi:i < 3):eL n seed key i < n:=by
 have h1:0 < n / 3:=om
 have h2:=Nat.mod_lt (gL seed i key) h1
 unfold eL
 have:i*(n / 3)≤2*(n / 3):=Nat.mul_le_mul_right _ om
 omega
def iF (a b : List UInt8) : List UInt8 := List.zipWith (fun x y => x ^^^ y) a b
theorem wD (a b:List UInt8) (h:a.length=b.length):(iF a b).length=a.length:=by simp [iF,h]
def BC.add (c : BC) (key : List UInt8) (aE : Int) (chk : Nat) : BC := ⟨IntKind.i64.wrap (c.count + aE), iF c.keys key, c.checks ^^^ chk⟩
theorem BS (n:Int):mP (IntKind.i64.wrap n):=by
 rw [IntKind.wrap_i64]
 unfold mP
 omega
theorem BC.Ok.add {c:BC} (h:c.Ok) {key:List UInt8} (hk:key.length=32) (aE:Int) {chk:Nat} (hc:bI chk):(c.add key aE chk).Ok :=
 ⟨BS _,by show (iF c.keys key).length=32; rw [wD _ _ (by rw [h.keys,hk])]; exact h.keys,Nat.xor_lt_two_pow (n:=64) h.checks hc⟩
def BT.kO (t : BT) (key : List UInt8) (aE : Int) (i : Nat) : BT := { t with cells := t.cells.modify (eL t.cells.length t.seed key i) fun c => c.add key aE (gL t.seed 3 key) }
def BT.change (t : BT) (key : List UInt8) (aE : Int) : BT := ((t.kO key aE 0).kO key aE 1).kO key aE 2
theorem BT.Kw (t:BT) (key:List UInt8) (aE:Int) (i:Nat):(t.kO key aE i).cells.length=t.cells.length:=by simp [BT.kO]
theorem BT.change_len (t:BT) (key:List UInt8) (aE:Int):(t.change key aE).cells.length=t.cells.length:=by simp [BT.change,BT.Kw]
def BC.pure (seed : Nat) (c : BC) : Bool := (decide (c.count = 1) || decide (c.count = -1)) && decide (c.checks = gL seed 3 c.keys)
def BC.isZero (c : BC) : Bool := decide (c.count = 0) && decide (c.keys = List.replicate 32 0) && decide (c.checks = 0)
def BT.empty (t : BT) : Bool := t.cells.all BC.isZero
def BT.first (t : BT) : Option Nat := t.cells.findIdx? (BC.pure t.seed)
def BT.cellAt (t : BT) (i : Nat) : BC := t.cells.getD i BC.zero
structure dZ where
 t : BT
 taken : List (List UInt8)
 added : List (List UInt8)
 removed : List (List UInt8)
def dZ.take (s : dZ) (c : BC) : dZ :=
 ⟨s.t.change c.keys (-c.count), c.keys :: s.taken, if c.count = 1 then s.added ++ [c.keys] else s.added, if c.count = 1 then s.removed else s.removed ++ [c.keys]⟩
def fS : Nat → dZ → Option dZ
 | 0, s => some s
 | n + 1, s => match s.t.first with
   | none => some s
   | some i => if s.taken.contains (s.t.cellAt i).keys then none else fS n (s.take (s.t.cellAt i))
def bM (l : List (List UInt8)) : List (List UInt8) := l.mergeSort fun x y => decide (x ≤ y)
def BT.raw (t : BT) : Option (List (List UInt8) × List (List UInt8)) := match fS t.cells.length ⟨t, [], [], []⟩ with
 | none => none
 | some s => if s.t.empty then some (s.added, s.removed) else none
def BT.keys (t : BT) : Option (List (List UInt8) × List (List UInt8)) := t.raw.map fun p => (bM p.1, bM p.2)
def BT.new (n seed : Nat) : BT := ⟨List.replicate n BC.zero, seed⟩
def aU (l : List BC) : List Value := l.flatMap BC.cells
def gE (l : List BC) : Prop := ∀ c ∈ l, c.Ok
theorem pM (c:BC) (l:List BC):aU (c::l)=c.cells++aU l:=rfl
theorem FF (a b:List BC):aU (a++b)=aU a++aU b:=by simp [aU]
theorem kM:∀ {l:List BC},gE l→(aU l).length=l.length*34
 | [],_=>rfl
 | c::l,h=>by
   rw [pM,List.length_append,BC.cells_len (h c si),kM (fun x hx=>h x (by simp [hx])),List.length_cons]
   omega
theorem jY:∀ {l:List BC} (_:gE l) (rest:List Value) (p:Nat) (c:BC) (_:l[p]?=some c) (j:Nat) (_:j < 34),(aU l++rest)[p*34+j]?=c.cells[j]?
 | [],_,_,p,c,hp,_,_=>by simp at hp
 | d::l,h,rest,0,c,hp,j,hj=>by
   simp at hp
   subst hp
   rw [pM,List.append_assoc,Nat.zero_mul,Nat.zero_add,List.getElem?_append_left (by rw [BC.cells_len (h d si)]; exact hj)]
 | d::l,h,rest,p+1,c,hp,j,hj=>by
   have hd:=BC.cells_len (h d si)
   rw [pM,List.append_assoc,List.getElem?_append_right (by rw [hd]; omega),hd,show (p+1)*34+j - 34=p*34+j by omega]
   exact jY (fun x hx=>h x (by simp [hx])) rest p c (by simpa using hp) j hj
theorem pO:∀ {l:List BC} (_:gE l) (rest:List Value) (p:Nat) (c:BC) (_:l[p]?=some c) (j:Nat) (_:j < 34) (v:Value) (c':BC) (_:c'.cells=c.cells.set j v),
  (aU l++rest).set (p*34+j) v=aU (l.set p c')++rest
 | [],_,_,p,c,hp,_,_,_,_,_=>by simp at hp
 | d::l,h,rest,0,c,hp,j,hj,v,c',hc=>by
   simp at hp
   subst hp
   rw [pM,List.append_assoc,Nat.zero_mul,Nat.zero_add,List.set_append_left _ _ (by rw [BC.cells_len (h d si)]; exact hj),List.set_cons_zero,pM,hc,List.append_assoc]
 | d::l,h,rest,p+1,c,hp,j,hj,v,c',hc=>by
   have hd:=BC.cells_len (h d si)
   rw [pM,List.append_assoc,List.set_append_right _ _ (by rw [hd]; omega),hd,show (p+1)*34+j - 34=p*34+j by omega,List.set_cons_succ,pM,List.append_assoc]
   rw [pO (fun x hx=>h x (by simp [hx])) rest p c (by simpa using hp) j hj v c' hc]
theorem tY {l:List BC}:∀ v∈aU l,v.oneCell'=true:=by
 intro v hv
 obtain ⟨c,_,hc⟩:=List.mem_flatMap.1 hv
 simp only [BC.cells,List.mem_cons,List.mem_append,List.not_mem_nil,or_false] at hc
 rcases hc with rfl | hc | rfl
 ·rfl
 ·exact gS _ _ hc
 ·rfl
def BC.part (c : BC) (key : List UInt8) (aE : Int) (chk i : Nat) : BC := ⟨IntKind.i64.wrap (c.count + aE), (iF c.keys key).take i ++ c.keys.drop i, c.checks ^^^ chk⟩
theorem FG (a b:List UInt8) (i:Nat) (x y:UInt8) (ha:a[i]?=some x) (hb:b[i]?=some y):(iF a b)[i]?=some (x ^^^ y):=by
 unfold iF
 rw [List.getElem?_zipWith,ha,hb]
theorem BU (c:BC) (key:List UInt8) (aE:Int) (chk:Nat):c.part key aE chk 0=⟨IntKind.i64.wrap (c.count+aE),c.keys,c.checks ^^^ chk⟩:=by simp [BC.part]
theorem wE (c:BC) (key:List UInt8) (aE:Int) (chk:Nat) (h1:c.keys.length=32) (h2:key.length=32):c.part key aE chk 32=c.add key aE chk:=by
 have:(iF c.keys key).length=32:=by rw [wD _ _ om]; exact h1
 simp only [BC.part,BC.add]
 rw [List.take_of_length_le om,List.drop_of_length_le om,List.append_nil]
theorem tZ {c:BC} (h:c.Ok) {key:List UInt8} (hk:key.length=32) (aE:Int) {chk:Nat} (hc:bI chk) (i:Nat):(c.part key aE chk i).Ok:=by
 have h32:=h.keys
 have hx:(iF c.keys key).length=32:=by rw [wD _ _ om]; exact h32
 refine ⟨BS _,?_,Nat.xor_lt_two_pow (n:=64) h.checks hc⟩
 show ((iF c.keys key).take i++c.keys.drop i).length=32
 rw [List.length_append,List.length_take,List.length_drop]
 omega
theorem BV {c:BC} (key:List UInt8) (aE:Int) (chk i:Nat) (x:UInt8) (hx:c.keys[i]?=some x) (hk:key.length=32) (h32:c.keys.length=32):(c.part key aE chk i).keys[i]?=some x:=by
 have hi:=(List.getElem?_eq_some_iff.1 hx).1
 have hl:((iF c.keys key).take i).length=i:=by rw [List.length_take,wD _ _ om]; omega
 show ((iF c.keys key).take i++c.keys.drop i)[i]?=some x
 rw [List.getElem?_append_right om,hl,Nat.sub_self,List.getElem?_drop]
 exact hx
theorem BW {c:BC} (key:List UInt8) (aE:Int) (chk i:Nat) (x y:UInt8) (hx:c.keys[i]?=some x) (hy:key[i]?=some y) (h1:c.keys.length=32) (h2:key.length=32) :
  (c.part key aE chk (i+1)).cells=(c.part key aE chk i).cells.set (1+i) (.int .u8 ((x ^^^ y).toNat:Int)):=by
 have hi:=(List.getElem?_eq_some_iff.1 hx).1
 have hxl:(iF c.keys key).length=32:=by rw [wD _ _ om]; exact h1
 have hl:((iF c.keys key).take i).length=i:=by rw [List.length_take]; omega
 have hg:=FG _ _ i x y hx hy
 obtain ⟨h3,e3⟩:=List.getElem?_eq_some_iff.1 hg
 obtain ⟨h4,e4⟩:=List.getElem?_eq_some_iff.1 hx
 have e:(iF c.keys key).take (i+1)++c.keys.drop (i+1)=((iF c.keys key).take i++c.keys.drop i).set i (x ^^^ y):=by
  rw [List.set_append_right _ _ om,hl,Nat.sub_self,List.drop_eq_getElem_cons h4,List.set_cons_zero,List.take_succ_eq_append_getElem h3,e3,List.append_assoc]
  rfl
 have hz:i < ((iF c.keys key).take i++c.keys.drop i).length:=by rw [List.length_append,hl,List.length_drop]; omega
 show Value.int .i64 _::(B8 ((iF c.keys key).take (i+1)++c.keys.drop (i+1))++[_])=List.set (Value.int .i64 _::(B8 ((iF c.keys key).take i++c.keys.drop i)++[_])) (1+i) _
 rw [e]
 generalize (iF c.keys key).take i++c.keys.drop i=Z at hz
 rw [Nat.add_comm 1 i,List.set_cons_succ,List.set_append_left _ _ (by rw [dL]; exact hz)]
 simp only [B8,List.map_set]
 rfl
theorem jB (c:BC):c.cells[0]?=some (.int .i64 c.count):=rfl
theorem uA {c:BC} (i:Nat) (x:UInt8) (hx:c.keys[i]?=some x):c.cells[1+i]?=some (.int .u8 (x.toNat:Int)):=by
 have hi:=(List.getElem?_eq_some_iff.1 hx).1
 rw [BC.cells,Nat.add_comm,List.getElem?_cons_succ,List.getElem?_append_left (by rw [dL]; omega)]
 exact pZ _ _ _ hx
theorem mW {c:BC} (h:c.keys.length=32):c.cells[33]?=some (.int .u64 (c.checks:Int)):=by
 rw [BC.cells,List.getElem?_cons_succ,List.getElem?_append_right (by rw [dL]; omega),dL,h]
 rfl
theorem yX (c:BC) (n:Int):(⟨n,c.keys,c.checks⟩:BC).cells=c.cells.set 0 (vi n):=rfl
theorem uB {c:BC} (h:c.keys.length=32) (n:Nat):(⟨c.count,c.keys,n⟩:BC).cells=c.cells.set 33 (.int .u64 (n:Int)):=by
 rw [BC.cells,BC.cells,List.set_cons_succ,List.set_append_right _ _ (by rw [dL]; omega),dL,h]
 rfl
theorem yY (x y:UInt8):bits BinOp.xor IntKind.u8 (x.toNat:Int) (y.toNat:Int)=((x ^^^ y).toNat:Int):=by
 rw [u8_xor_nat _ _ (UInt8.toNat_lt x) (UInt8.toNat_lt y),UInt8.toNat_xor]
def BT.fC (t : BT) (key : List UInt8) (aE : Int) : Nat → BT
 | 0 => t
 | k + 1 => (t.fC key aE k).kO key aE k
theorem BT.xT (t:BT) (key:List UInt8) (aE:Int):t.fC key aE 3=t.change key aE:=rfl
theorem BT.nP (t:BT) (key:List UInt8) (aE:Int):∀ k,(t.fC key aE k).cells.length=t.cells.length
 | 0=>rfl
 | k+1=>by rw [BT.fC,BT.Kw,BT.nP t key aE k]
theorem BT.nC (t:BT) (key:List UInt8) (aE:Int):∀ k,(t.fC key aE k).seed=t.seed
 | 0=>rfl
 | k+1=>by rw [BT.fC]; exact BT.nC t key aE k
theorem BT.Ok.kO {t:BT} (h:t.Ok) {key:List UInt8} (hk:key.length=32) (aE:Int) (i:Nat):(t.kO key aE i).Ok:=by
 refine ⟨fun c hc=>?_,h.seed⟩
 simp only [BT.kO] at hc
 obtain ⟨j,hj⟩:=List.mem_iff_getElem?.1 hc
 rw [List.getElem?_modify] at hj
 cases hq:t.cells[j]? with
 | none=>rw [hq] at hj; simp at hj
 | some d =>
   rw [hq] at hj
   have hd:=h.cells d (List.mem_of_getElem? hq)
   split at hj
   ·simp at hj
    rw [← hj]
    exact hd.add hk aE (yV _ _ _)
   ·simp at hj
    rw [← hj]
    exact hd
theorem BT.Ok.fC {t:BT} (h:t.Ok) {key:List UInt8} (hk:key.length=32) (aE:Int):∀ k,(t.fC key aE k).Ok
 | 0=>h
 | k+1=>(BT.Ok.fC h hk aE k).kO hk aE k
theorem BT.Ok.change {t:BT} (h:t.Ok) {key:List UInt8} (hk:key.length=32) (aE:Int):(t.change key aE).Ok:=BT.Ok.fC h hk aE 3
theorem BT.Kx (t:BT) (key:List UInt8) (aE:Int) (i:Nat) (c:BC) (hc:t.cells[eL t.cells.length t.seed key i]?=some c) :
  (t.kO key aE i).cells=t.cells.set (eL t.cells.length t.seed key i) (c.add key aE (gL t.seed 3 key)):=by
 obtain ⟨h1,e1⟩:=List.getElem?_eq_some_iff.1 hc
 simp only [BT.kO]
 apply List.ext_getElem?
 intro j
 rw [List.getElem?_modify,List.getElem?_set]
 by_cases hj:eL t.cells.length t.seed key i=j
 ·subst hj
  simp [h1,e1]
 ·rw [if_neg hj]
  simp [hj]
def BT.cG (t : BT) : List Bool := t.cells.map (BC.pure t.seed)
theorem BT.pY (t:BT):t.cG.length=t.cells.length:=by simp [BT.cG]
theorem BT.Eh {t:BT} {i:Nat} {c:BC} (h:t.cells[i]?=some c):t.cG[i]?=some (c.pure t.seed):=by simp [BT.cG,h]
theorem BT.Ky (t:BT):t.first=t.cG.findIdx? id:=by
 unfold BT.first BT.cG
 rw [List.findIdx?_map]
 rfl
def iG (n seed : Nat) (key : List UInt8) (old new : List Bool) : Nat → List Bool
 | 0 => old
 | k + 1 => (iG n seed key old new k).set (eL n seed key k) (new.getD (eL n seed key k) false)
theorem yZ (n seed:Nat) (key:List UInt8) (old new:List Bool):∀ k,(iG n seed key old new k).length=old.length
 | 0=>rfl
 | k+1=>by rw [iG,List.length_set,yZ n seed key old new k]
theorem FH (n seed:Nat) (key:List UInt8) (old new:List Bool) (q:Nat) (hl:old.length=new.length):∀ k,(iG n seed key old new k)[q]?=if ∃ j,j < k∧eL n seed key j=q then new[q]? else old[q]?
 | 0=>by simp [iG]
 | k+1=>by
   rw [iG,List.getElem?_set,FH n seed key old new q hl k,yZ]
   by_cases hq:eL n seed key k=q
   ·have hex:∃ j,j < k+1∧eL n seed key j=q:=⟨k,om,hq⟩
    rw [if_pos hq,if_pos hex,hq]
    by_cases hlt:q < old.length
    ·rw [if_pos hlt,List.getD_eq_getElem?_getD]
     rw [List.getElem?_eq_getElem om]
     rfl
    ·rw [if_neg hlt,List.getElem?_eq_none om]
   ·rw [if_neg hq]
    by_cases h:∃ j,j < k∧eL n seed key j=q
    ·obtain ⟨j,hj,e⟩:=h
     rw [if_pos ⟨j,hj,e⟩,if_pos ⟨j,om,e⟩]
    ·rw [if_neg h,if_neg]
     rintro ⟨j,hj,e⟩
     rcases (by omega:j < k∨j=k) with h' | rfl
     ·exact h ⟨j,h',e⟩
     ·exact hq e
theorem Mf (t:BT) (key:List UInt8) (aE:Int) (i q:Nat) (h:eL t.cells.length t.seed key i≠q):(t.kO key aE i).cells[q]?=t.cells[q]?:=by
 simp only [BT.kO,List.getElem?_modify,if_neg h]
 cases t.cells[q]? <;> rfl
theorem FI (t:BT) (key:List UInt8) (aE:Int) (q:Nat):∀ k,(∀ j,j < k→eL t.cells.length t.seed key j≠q)→(t.fC key aE k).cells[q]?=t.cells[q]?
 | 0,_=>rfl
 | k+1,h=>by
   rw [BT.fC,Mf _ _ _ _ _ (by rw [BT.nP,BT.nC]; exact h k om),FI t key aE q k (fun j hj=>h j om)]
theorem FJ (t:BT) (key:List UInt8) (aE:Int):iG t.cells.length t.seed key t.cG (t.change key aE).cG 3=(t.change key aE).cG:=by
 have hl:t.cG.length=(t.change key aE).cG.length:=by rw [BT.pY,BT.pY,BT.change_len]
 apply List.ext_getElem?
 intro q
 rw [FH _ _ _ _ _ _ hl]
 split
 ·rfl
 ·rename_i h
  have hs:(t.change key aE).seed=t.seed:=BT.nC t key aE 3
  have:=FI t key aE q 3 (fun j hj e=>h ⟨j,hj,e⟩)
  rw [BT.xT] at this
  unfold BT.cG
  rw [List.getElem?_map,List.getElem?_map,this,hs]
theorem FK (m:Nat) (s:dZ) (h:s.t.first=none):fS m s=some s:=by
 cases m with
 | zero=>rfl
 | succ m=>simp only [fS,h]
theorem FL (m:Nat) (s:dZ) (i:Nat) (h:s.t.first=some i) (ht:s.taken.contains (s.t.cellAt i).keys=true):fS (m+1) s=none:=by
 simp only [fS,h,ht,if_true]
theorem BY (m:Nat) (s:dZ) (i:Nat) (h:s.t.first=some i) (ht:s.taken.contains (s.t.cellAt i).keys=false):fS (m+1) s=fS m (s.take (s.t.cellAt i)):=by
 simp only [fS,h,ht,Bool.false_eq_true,if_false]
theorem BZ {t:BT} {i:Nat} (h:t.first=some i):∃ c,t.cells[i]?=some c∧c.pure t.seed=true∧t.cellAt i=c:=by
 unfold BT.first at h
 rw [List.findIdx?_eq_some_iff_getElem] at h
 obtain ⟨h1,h2,_⟩:=h
 refine ⟨_,List.getElem?_eq_getElem h1,h2,?_⟩
 unfold BT.cellAt
 rw [List.getD_eq_getElem?_getD,List.getElem?_eq_getElem h1]
 rfl
theorem Ca {c:BC} {seed:Nat} (h:c.pure seed=true):c.count=1∨c.count = -1:=by
 unfold BC.pure at h
 simp at h
 exact h.1
theorem Cb (n:Int) (w:World):Calls Tryz.prog 113 #[vi n] w fun e w'=>e = .returned (.bool (dQ n))∧w=w':=by
 unfold dQ
 by_cases h1:3≤n
 ·by_cases h2:n≤3072
  ·by_cases h3:n % 3=0
   ·have q:(n % 3 == 0)=true:=by simpa using h3
    have e:(decide (3≤n) && decide (n≤3072) && decide (n % 3=0))=true:=by simp [h1,h2,h3]
    rw [e]
    clear e h3
    go_enter Tryz.func113,Tryz.ntmps113
    go_wp2_with fail
    go_ret
    exact ⟨rfl,rfl⟩
   ·have q:(n % 3 == 0)=false:=by simpa using h3
    have e:(decide (3≤n) && decide (n≤3072) && decide (n % 3=0))=false:=by simp [h3]
    rw [e]
    clear e h3
    go_enter Tryz.func113,Tryz.ntmps113
    go_wp2_with fail
    go_ret
    exact ⟨rfl,rfl⟩
  ·have e:(decide (3≤n) && decide (n≤3072) && decide (n % 3=0))=false:=by simp [h2]
   rw [e]
   have d:decide (n≤3072)=false:=by simpa using h2
   clear e
   go_enter Tryz.func113,Tryz.ntmps113
   go_wp2_with fail
   go_ret
   exact ⟨rfl,rfl⟩
 ·have e:(decide (3≤n) && decide (n≤3072) && decide (n % 3=0))=false:=by simp [h1]
  rw [e]
  have d:decide (3≤n)=false:=by simpa using h1
  clear e
  go_enter Tryz.func113,Tryz.ntmps113
  go_wp2_with fail
  go_ret
  exact ⟨rfl,rfl⟩
theorem Cc (l:List UInt8) (i:Nat) (y:UInt8) (h:l[i]?=some y) (w:World):(Instr.index 9 (vS l) (vi (i:Int))).run Tryz.prog w = .ok (.int .u8 (y.toNat:Int)) w:=by
 obtain ⟨h1,h2⟩:=List.getElem?_eq_some_iff.1 h
 have hs:(aT l).size=l.length:=by simp [aT,ByteArray.size]
 rw [run_index_string w 9 (aT l) .i64 (i:Int) Tryz.underlying9,dif_pos (by rw [hs]; omega)]
 have:(aT l)[((i:Int)).toNat]'(by rw [hs]; omega)=y:=by
  rw [← h2]
  rfl
 rw [this]
def oK (seed k : Nat) : List UInt8 := (qM seed).take k ++ List.replicate (9 - k) 0
theorem Mg (seed k:Nat) (h:k < 8):(B8 (oK seed k)).set k (.int .u8 ((dU seed (7 - k)).toNat:Int))=B8 (oK seed (k+1)):=by
 match k,h with
 | 0,_=>rfl
 | 1,_=>rfl
 | 2,_=>rfl
 | 3,_=>rfl
 | 4,_=>rfl
 | 5,_=>rfl
 | 6,_=>rfl
 | 7,_=>rfl
theorem Mh (seed k:Nat) (h:k < 8):(B8 (oK seed k))[k]?=some (.int .u8 0):=by
 match k,h with
 | 0,_=>rfl
 | 1,_=>rfl
 | 2,_=>rfl
 | 3,_=>rfl
 | 4,_=>rfl
 | 5,_=>rfl
 | 6,_=>rfl
 | 7,_=>rfl
theorem Mi (v:Nat) (y:UInt8) (h:v*256 < 18446744073709551616):bits BinOp.or IntKind.u64 ((v*256:Nat):Int) (y.toNat:Int)=((v*256+y.toNat:Nat):Int):=by
 have hy:=UInt8.toNat_lt y
 rw [u64_or_nat _ _ h om]
 have:=Nat.two_pow_add_eq_or_of_lt (i:=8) (b:=y.toNat) om v
 rw [show v*256=2 ^ 8*v by omega,this]
theorem FM (seed i:Nat) (key:List UInt8) (w:World) (hv:cI w) (hs:bI seed) (hi:i≤3) (hk:key.length≤274877906944) :
  Calls Tryz.prog 170 #[.int .u64 (seed:Int),vi (i:Int),.string (aT key)] w fun e w'=>e = .returned (.int .u64 (gL seed i key:Int))∧Fr [] w w':=by
 have H:=Lib.hid (And.intro hv (And.intro hs hk))
 clear hv hs hk
 obtain ⟨bh,hbh⟩:∃ bh,bh=w.heap.size:=⟨_,rfl⟩
 go_enter Tryz.func170,Tryz.ntmps170
 go_wp2_with fail
 change Code.wp _ _ _ _ (w.alloc (.cells (B8 (oK seed 0)).toArray 260))
 rw [← hbh]
 have HW0:Hid (Fr [] w (w.alloc (.cells (B8 (oK seed 0)).toArray 260))∧At (w.alloc (.cells (B8 (oK seed 0)).toArray 260)) bh 260 (B8 (oK seed 0))):=⟨(Fr.refl _ _).alloc _,by rw [hbh]; exact At.new _ _ _⟩
 generalize w.alloc (.cells (B8 (oK seed 0)).toArray 260)=W0 at HW0 ⊢
 have HBH:=Lib.hid hbh
 clear hbh
 go_loopw [12] (fun s wx=>∃ k:Nat,k≤8∧s = .int .i64 k∧Hid (Fr [] w wx∧At wx bh 260 (B8 (oK seed k)))) (fun s _=>8 - (intOf s).toNat)
 case atStart=>exact ⟨0,by omega,rfl,HW0⟩
 case round =>
  obtain ⟨k,hk,rfl,HR⟩:=hrel
  by_cases hlt:k < 8
  ·obtain ⟨sh,hsh⟩:∃ sh:Nat,sh=56 - 8*k:=⟨_,rfl⟩
   obtain ⟨y,HY⟩:∃ y:UInt8,Hid (y=dU seed (7 - k)):=⟨_,rfl⟩
   have hy:IntKind.u8.wrap ((seed:Int) / 2 ^ sh)=(y.toNat:Int):=by
    rw [HY.out,show sh=8*(7 - k) by omega]
    exact mV seed (7 - k)
   have e1:(56:Int) - 8*(k:Int)=(sh:Int):=om
   have hshb:sh≤56:=om
   have cz:wr.cell? ⟨bh,k,none⟩=some (.int .u8 0):=by rw [HR.out.2.cell]; exact Mh seed k hlt
   have fz:=HR.out.2.frozen k
   have hkI:(k:Int) < 9:=om
   have hkI8:(k:Int) < 8:=om
   have HN:Hid (Fr [] w (wr.setCell ⟨bh,k,none⟩ (.int .u8 (y.toNat:Int)))∧At (wr.setCell ⟨bh,k,none⟩ (.int .u8 (y.toNat:Int))) bh 260 (B8 (oK seed (k+1)))):=by
    refine ⟨HR.out.1.setCell (.inr (by have:=HBH.out; show w.heap.size≤bh; omega)) _,?_⟩
    rw [← Mg seed k hlt,← HY.out]
    exact HR.out.2.set k _
   clear hsh
   go_wp2_with fail
   go_roundw
   case rel =>
    first
     | exact ⟨k+1,by omega,by go_num,HN⟩
     | ((repeat apply Exists.intro); exact ⟨⟨k+1,by omega,by go_num,HN⟩,rfl⟩)
   case measure=>simp [intOf] <;> omega
  ·obtain rfl:k=8:=om
   have cz:wr.cell? ⟨bh,8,none⟩=some (.int .u8 0):=by rw [HR.out.2.cell]; rfl
   have fz:=HR.out.2.frozen 8
   have hyi:IntKind.u8.wrap (i:Int)=((UInt8.ofNat i).toNat:Int):=by
    rw [IntKind.wrap_u8]
    have:(UInt8.ofNat i).toNat=i:=by simp; omega
    rw [this]
    omega
   obtain ⟨yi,HYI⟩:∃ yi:UInt8,Hid (yi=UInt8.ofNat i):=⟨_,rfl⟩
   rw [← HYI.out] at hyi
   have H9:Hid (Fr [] w (wr.setCell ⟨bh,8,none⟩ (.int .u8 (yi.toNat:Int)))∧At (wr.setCell ⟨bh,8,none⟩ (.int .u8 (yi.toNat:Int))) bh 260 (B8 (qM seed++[yi]))):=by
    refine ⟨HR.out.1.setCell (.inr (by have:=HBH.out; show w.heap.size≤bh; omega)) _,?_⟩
    have:=HR.out.2.set 8 (.int .u8 (yi.toNat:Int))
    exact this
   obtain ⟨W9,HW9⟩:∃ W9,Hid (W9=wr.setCell ⟨bh,8,none⟩ (.int .u8 (yi.toNat:Int))):=⟨_,rfl⟩
   rw [← HW9.out] at H9
   have hst:=rH (P:=Tryz.prog) (src:=23) (dst:=9) Tryz.underlying23 Tryz.underlying5 Tryz.underlying9 W9 (some ⟨bh,0,none⟩) 9 (qM seed++[yi]) (fun j v hj=>⟨bh,0,rfl,H9.out.2.lt,by rw [Nat.zero_add,H9.out.2.cell]; exact hj⟩)
   rw [show (qM seed++[yi]).length=9 from rfl] at hst
   have hsl:∀ W:World,(Instr.sliceAt 260 (vP bh 0) none none none).run Tryz.prog W = .ok (.slice (some ⟨bh,0,none⟩) 9 9) W:=fun W=>by kernel_rfl
   obtain ⟨hd,HHD⟩:∃ hd,Hid (hd=qM seed++[yi]):=⟨_,rfl⟩
   rw [← HHD.out] at hst
   rw [HW9.out] at hst
   go_wp2_with fail
   have hsz:wr.heap.size=W9.heap.size:=by rw [HW9.out]; simp [World.setCell]
   rw [← HW9.out,hsz]
   have HJ:=Lib.hid (FB (some ⟨W9.heap.size,0,none⟩) 2 [hd,key] (W9.alloc (.cells #[.string (aT hd),.string (aT key)] 9)) (H.out.1.fr (H9.out.1.alloc _) si si)
    (fun j v hj=>⟨W9.heap.size,0,rfl,si,by rw [Nat.zero_add,(At.new W9 9 [.string (aT hd),.string (aT key)]).cell]; exact hj⟩)
    (by have:=H.out.2.2; rw [HHD.out]; simp [qM]; omega) si)
   refine HJ.out.mono ?_
   rintro e w3 ⟨rfl,hf3⟩
   obtain ⟨sm,HSM⟩:∃ sm,Hid (sm=dO [hd,key].flatten):=⟨_,rfl⟩
   rw [← HSM.out]
   have HF:Hid (Fr [] w w3):=(H9.out.1.alloc _).trans hf3
   have HS32:Hid (sm.length=32):=by show sm.length=32; rw [HSM.out]; exact rF _
   clear hf3 HJ hst hsl hsz cz fz
   go_wp2_with fail
   go_loop [10,32] (fun v s=>∃ k m:Nat,k≤8∧s = .int .i64 k∧v = .int .u64 (m:Int)∧Hid (m=nG sm k)) (fun _ s=>8 - (intOf s).toNat)
   case atStart=>exact ⟨0,0,by omega,rfl,rfl,rfl⟩
   case round =>
    obtain ⟨k,m,hk,rfl,rfl,HM⟩:=hrel
    by_cases hlt:k < 8
    ·obtain ⟨y,hy⟩:∃ y,sm[k]?=some y:=⟨_,List.getElem?_eq_getElem (by rw [HS32.out]; omega)⟩
     have hix:=Cc sm k y hy
     have hmb:m*256 < 18446744073709551616:=by
      rw [HM.out]
      have h1:=yU sm k
      have h2:256 ^ k≤256 ^ 7:=Nat.pow_le_pow_right (by decide) om
      omega
     obtain ⟨m8,q1,HM8⟩:∃ m8:Nat,IntKind.u64.wrap ((m:Int)*256)=(m8:Int)∧Hid (m8=m*256):=⟨m*256,by rw [IntKind.wrap_u64]; omega,rfl⟩
     have qy:IntKind.u64.wrap (y.toNat:Int)=(y.toNat:Int):=by rw [IntKind.wrap_u64]; have:=UInt8.toNat_lt y; omega
     obtain ⟨mn,q2,HMN⟩:∃ mn:Nat,bits BinOp.or IntKind.u64 (m8:Int) (y.toNat:Int)=(mn:Int)∧Hid (mn=nG sm (k+1)):=by
      refine ⟨m*256+y.toNat,by rw [HM8.out]; exact Mi m y hmb,?_⟩
      show _=nG sm k*256+(sm.getD k 0).toNat
      rw [← HM.out,List.getD_eq_getElem?_getD,hy]
      rfl
     have hkI:(k:Int) < 8:=om
     clear hy hmb
     go_wp2_with fail
     go_round
     case rel=>exact ⟨k+1,mn,by omega,by go_num,rfl,HMN⟩
     case measure=>simp [intOf] <;> omega
    ·obtain rfl:k=8:=om
     go_wp2_with fail
     go_ret
     refine ⟨gG ?_,HF.out⟩
     rw [HM.out,HSM.out,HHD.out,HYI.out]
     simp [gL]
theorem FN (seed:Nat) (key:List UInt8) (w:World) (hv:cI w) (hs:bI seed) (hk:key.length≤274877906944) :
  Calls Tryz.prog 169 #[.int .u64 (seed:Int),.string (aT key)] w fun e w'=>e = .returned (.int .u64 (gL seed 3 key:Int))∧Fr [] w w':=by
 have H:=Lib.hid (FM seed 3 key w hv hs om hk)
 clear hv hs hk
 go_enter Tryz.func169,Tryz.ntmps169
 go_wp2_with fail
 refine H.out.mono ?_
 rintro e w1 ⟨rfl,hf1⟩
 go_wp2_with fail
 go_ret
 exact ⟨rfl,hf1⟩
def rU (n seed : Nat) (key : List UInt8) (k : Nat) : List Value := (List.range k).map (fun j => Value.int .i64 (eL n seed key j : Int)) ++ List.replicate (3 - k) (Value.int .i64 0)
def rV (n seed : Nat) (key : List UInt8) : List Value := [Value.int .i64 (eL n seed key 0 : Int), Value.int .i64 (eL n seed key 1 : Int), Value.int .i64 (eL n seed key 2 : Int)]
theorem Mj (n seed:Nat) (key:List UInt8) (k:Nat) (h:k < 3):(rU n seed key k).set k (vi (eL n seed key k:Int))=rU n seed key (k+1):=by
 match k,h with
 | 0,_=>rfl
 | 1,_=>rfl
 | 2,_=>rfl
theorem Mk (n seed:Nat) (key:List UInt8) (k:Nat) (h:k < 3):(rU n seed key k)[k]?=some (vi 0):=by
 match k,h with
 | 0,_=>rfl
 | 1,_=>rfl
 | 2,_=>rfl
theorem Cd (n seed:Nat) (key:List UInt8) (w:World) (hv:cI w) (hs:bI seed) (hk:key.length≤274877906944) (hn:3≤n) (hn2:n≤3072) :
  Calls Tryz.prog 130 #[vi (n:Int),.int .u64 (seed:Int),.string (aT key)] w fun e w'=>e = .returned (.agg (rV n seed key).toArray)∧Fr [] w w':=by
 have H:=Lib.hid (And.intro hv (And.intro hs hk))
 clear hv hs hk
 obtain ⟨th,hth⟩:∃ th,th=n / 3:=⟨_,rfl⟩
 have eth:(n:Int) / 3=(th:Int):=om
 have th1:1≤th:=om
 have th2:th≤1024:=om
 have HTH:=Lib.hid hth
 clear hth
 obtain ⟨br,hbr⟩:∃ br,br=w.heap.size:=⟨_,rfl⟩
 obtain ⟨ba,hba⟩:∃ ba,ba=w.heap.size+1:=⟨_,rfl⟩
 go_enter Tryz.func130,Tryz.ntmps130
 go_wp2_with fail
 rw [← hba,← hbr]
 have HW0:Hid (Fr [] w ((w.alloc (.cells #[vi 0,vi 0,vi 0] 194)).alloc (.cells #[vi 0,vi 0,vi 0] 194))∧At ((w.alloc (.cells #[vi 0,vi 0,vi 0] 194)).alloc (.cells #[vi 0,vi 0,vi 0] 194)) br 194 [vi 0,vi 0,vi 0]∧At ((w.alloc (.cells #[vi 0,vi 0,vi 0] 194)).alloc (.cells #[vi 0,vi 0,vi 0] 194)) ba 194 (rU n seed key 0)):=by
  refine ⟨((Fr.refl _ _).alloc _).alloc _,?_,?_⟩
  ·rw [hbr]
   exact (At.new w 194 [vi 0,vi 0,vi 0]).alloc _
  ·have:=At.new (w.alloc (.cells #[vi 0,vi 0,vi 0] 194)) 194 [vi 0,vi 0,vi 0]
   rw [show ba=(w.alloc (.cells #[vi 0,vi 0,vi 0] 194)).heap.size by rw [hba]; simp]
   exact this
 generalize (w.alloc (.cells #[vi 0,vi 0,vi 0] 194)).alloc (.cells #[vi 0,vi 0,vi 0] 194)=W0 at HW0 ⊢
 have hlo:w.heap.size≤br:=om
 have hlt0:br < ba:=om
 clear hbr hba
 go_loopw [12] (fun s wx=>∃ k:Nat,k≤3∧s = .int .i64 k∧Hid (Fr [] w wx∧At wx br 194 [Value.int .i64 0,Value.int .i64 0,Value.int .i64 0]∧At wx ba 194 (rU n seed key k))) (fun s _=>3 - (intOf s).toNat)
 case atStart=>exact ⟨0,by omega,rfl,HW0⟩
 case round =>
  obtain ⟨k,hk,rfl,HR⟩:=hrel
  by_cases hlt:k < 3
  ·obtain ⟨hv,HHV⟩:∃ hv,Hid (hv=gL seed k key):=⟨_,rfl⟩
   have hvu:Hid (bI hv):=by show bI hv; rw [HHV.out]; exact yV _ _ _
   have HC:=Lib.hid (FM seed k key wr (H.out.1.fr HR.out.1 si si) H.out.2.1 om H.out.2.2)
   rw [← HHV.out] at HC
   have hkt:k*th≤2*1024:=Nat.mul_le_mul om th2
   obtain ⟨kt,q1,HKT⟩:∃ kt:Nat,IntKind.i64.wrap ((k:Int)*(th:Int))=(kt:Int)∧Hid (kt=k*th):=⟨k*th,by rw [← Int.natCast_mul,IntKind.wrap_i64]; omega,rfl⟩
   have hktb:kt≤2048:=by rw [HKT.out]; exact hkt
   have qth:IntKind.u64.wrap (th:Int)=(th:Int):=by rw [IntKind.wrap_u64]; omega
   obtain ⟨hm,q2,q3,HHM⟩:∃ hm:Nat,(hv:Int) % (th:Int)=(hm:Int)∧(hv:Int).tmod (th:Int)=(hm:Int)∧Hid (hm=hv % th):=⟨hv % th,by rw [Int.natCast_emod],by rw [Int.ofNat_tmod],rfl⟩
   have hmb:hm < th:=by rw [HHM.out]; exact Nat.mod_lt _ om
   have qi:IntKind.i64.wrap (hm:Int)=(hm:Int):=by rw [IntKind.wrap_i64]; omega
   obtain ⟨p,q4,HP⟩:∃ p:Nat,(kt:Int)+(hm:Int)=(p:Int)∧Hid (p=eL n seed key k):=⟨kt+hm,om,by show _=_; unfold eL; rw [← HTH.out,← HHV.out,← HHM.out,← HKT.out]⟩
   have thI:(th:Int)≠0:=om
   have thB:((th:Int) == 0)=false:=by simp; omega
   have hkI:(k:Int) < 3:=om
   clear hkt
   go_wp2_with fail
   refine HC.out.mono ?_
   rintro e w1 ⟨rfl,hf1⟩
   have HR1:Hid (Fr [] w w1∧At w1 br 194 [vi 0,vi 0,vi 0]∧At w1 ba 194 (rU n seed key k)):=⟨HR.out.1.trans hf1,HR.out.2.1.fr hf1 si,HR.out.2.2.fr hf1 si⟩
   have cz:w1.cell? ⟨ba,k,none⟩=some (vi 0):=by rw [HR1.out.2.2.cell]; exact Mk n seed key k hlt
   have fz:=HR1.out.2.2.frozen k
   have HN:Hid (Fr [] w (w1.setCell ⟨ba,k,none⟩ (Value.int .i64 (p:Int)))∧At (w1.setCell ⟨ba,k,none⟩ (Value.int .i64 (p:Int))) br 194 [vi 0,vi 0,vi 0]∧At (w1.setCell ⟨ba,k,none⟩ (Value.int .i64 (p:Int))) ba 194 (rU n seed key (k+1))):=by
    refine ⟨HR1.out.1.setCell (.inr (by show w.heap.size≤ba; omega)) _,HR1.out.2.1.far (by show br≠ba; omega) _,?_⟩
    rw [← Mj n seed key k hlt,← HP.out]
    exact HR1.out.2.2.set k _
   clear hf1 HC
   go_wp2_with fail
   go_roundw
   case rel =>
    first
     | exact ⟨k+1,by omega,by go_num,HN⟩
     | ((repeat apply Exists.intro); exact ⟨⟨k+1,by omega,by go_num,HN⟩,rfl⟩)
   case measure=>simp [intOf] <;> omega
  ·obtain rfl:k=3:=om
   obtain ⟨L,HL⟩:∃ L,Hid (L=rV n seed key):=⟨_,rfl⟩
   have HLX:Hid (L.length=3∧(∀ v∈L,v.oneCell'=true)∧At wr ba 194 L):=by
    show _∧_∧_
    rw [HL.out]
    refine ⟨rfl,?_,HR.out.2.2⟩
    intro v hv
    simp only [rV,List.mem_cons,List.not_mem_nil,or_false] at hv
    rcases hv with rfl | rfl | rfl <;> rfl
   go_wp2_with (first
    | (refine nD rfl 194 (.tmp 7) rfl ba 0 rfl L _ (fun j v hj=>(by rw [Nat.zero_add,HLX.out.2.2.cell]; exact hj)) Tryz.underlying194 rfl (by rw [HLX.out.1]; kernel_rfl) ?_)
    | (refine tH rfl 194 (.tmp 6) (.tmp 30) rfl br 0 rfl 194 [Value.int .i64 0,Value.int .i64 0,Value.int .i64 0] L rfl HR.out.2.1 (by rw [HLX.out.1]; exact Nat.le_refl _) (by rw [HLX.out.1]; kernel_rfl) HLX.out.2.1 L (by rw [HLX.out.1]; simp) ?_; intro w9 hf9 ha9))
   exact bodyPost_ret (yT (t:=194) rfl _ _ br L _ rfl ha9 Tryz.underlying194 rfl (by rw [HLX.out.1]; kernel_rfl)) rfl ⟨by rw [HL.out],HR.out.1.trans' hf9 (by simp; omega)⟩
structure eD (w : World) (bt bc cap : Nat) (rest : List Value) (t : BT) : Prop where
 tab : At w bt 174 [.slice (some ⟨bc, 0, none⟩) t.cells.length cap, .int .u64 (t.seed : Int)]
 cells : At w bc 183 (aU t.cells ++ rest)
 ok : t.Ok
 size : dQ (t.cells.length : Int) = true
 cap : t.cells.length ≤ cap
theorem eD.ne {w:World} {bt bc cap:Nat} {rest:List Value} {t:BT} (h:eD w bt bc cap rest t):bt≠bc:=h.tab.ne h.cells (by decide)
theorem eD.fr {w w':World} {bt bc cap:Nat} {rest:List Value} {t:BT} {S:List Nat} (h:eD w bt bc cap rest t) (hf:Fr S w w') (h1:bt∉S) (h2:bc∉S):eD w' bt bc cap rest t :=
 ⟨h.tab.fr hf h1,h.cells.fr hf h2,h.ok,h.size,h.cap⟩
theorem gV {n:Nat} (h:dQ (n:Int)=true):3≤n∧n≤3072∧n % 3=0:=by
 unfold dQ at h
 simp at h
 omega
theorem wF (n seed:Nat) (key:List UInt8) (k:Nat) (h:k < 3):(rV n seed key)[k]?=some (vi (eL n seed key k:Int)):=by
 match k,h with
 | 0,_=>rfl
 | 1,_=>rfl
 | 2,_=>rfl
set_option maxHeartbeats 4000000 in
theorem Ce (bt bc cap:Nat) (rest:List Value) (t:BT) (key:List UInt8) (aE:Int) (w:World) (hv:cI w) (ht:eD w bt bc cap rest t) (hk:key.length=32) :
  Calls Tryz.prog 129 #[vP bt 0,.string (aT key),vi aE] w fun e w'=>e = .returned (.tuple #[])∧Fr [bc] w w'∧eD w' bt bc cap rest (t.change key aE):=by
 obtain ⟨n,HN⟩:∃ n,Hid (n=t.cells.length):=⟨_,rfl⟩
 obtain ⟨seed,HS⟩:∃ seed,Hid (seed=t.seed):=⟨_,rfl⟩
 obtain ⟨n3,n4,n5⟩:=gV ht.size
 rw [← HN.out] at n3 n4
 clear n5
 have H:=Lib.hid (And.intro hv (And.intro ht hk))
 have hne:bt≠bc:=ht.ne
 have hbtl:=ht.tab.lt
 have HT:Hid (∀ W,At W bt 174 [.slice (some ⟨bc,0,none⟩) t.cells.length cap,.int .u64 (t.seed:Int)]→W.cell? ⟨bt,0,none⟩=some (.slice (some ⟨bc,0,none⟩) n cap)∧W.cell? ⟨bt,1,none⟩=some (.int .u64 (seed:Int))):=fun W hW =>
  ⟨by rw [hW.cell,HN.out]; rfl,by rw [hW.cell,HS.out]; rfl⟩
 obtain ⟨q0,q1⟩:=HT.out w ht.tab
 clear hv ht hk
 obtain ⟨ck,HCK⟩:∃ ck,Hid (ck=gL seed 3 key):=⟨_,rfl⟩
 have HC:=Lib.hid (FN seed key w H.out.1 (by rw [HS.out]; exact H.out.2.1.ok.seed) (by rw [H.out.2.2]; omega))
 rw [← HCK.out] at HC
 go_enter Tryz.func129,Tryz.ntmps129
 go_wp2_with fail
 refine HC.out.mono ?_
 rintro e w1 ⟨rfl,hf1⟩
 have H1:Hid (Fr [] w w1∧At w1 bt 174 [.slice (some ⟨bc,0,none⟩) t.cells.length cap,.int .u64 (t.seed:Int)]):=⟨hf1,H.out.2.1.tab.fr hf1 si⟩
 clear q0 q1 hf1 HC
 obtain ⟨q0,q1⟩:=HT.out w1 H1.out.2
 have hbt1:bt < w1.heap.size:=H1.out.2.lt
 obtain ⟨L,HL⟩:∃ L,Hid (L=rV n seed key):=⟨_,rfl⟩
 have HPL:=Lib.hid (Cd n seed key w1.drew (H.out.1.fr H1.out.1.drew si si) (by rw [HS.out]; exact H.out.2.1.ok.seed) (by rw [H.out.2.2]; omega) n3 n4)
 rw [← HL.out] at HPL
 go_wp2_with fail
 go_region_held3 (fun w'=>w'.cell? ⟨bt,0,none⟩=some (.slice (some ⟨bc,0,none⟩) n cap)∧w'.cell? ⟨bt,1,none⟩=some (.int .u64 (seed:Int))) (first | go_keep | (exact HT.out _ H2.out.2))
  (first | (go_at_call 130; ((with_reducible refine HPL.out.mono ?_)); rintro e w2 ⟨rfl,hf2⟩; have H2:Hid (Fr [] w w2∧At w2 bt 174 [.slice (some ⟨bc,0,none⟩) t.cells.length cap,.int .u64 (t.seed:Int)]):=⟨H1.out.1.drew.trans hf2,H1.out.2.drew.fr hf2 (by simp)⟩; clear hf2))
 rename_i hHeld
 have HT0:Hid (Fr [bc] w w2∧eD w2 bt bc cap rest (t.fC key aE 0)):=⟨H2.out.1.mono si,H2.out.2,H.out.2.1.cells.fr H2.out.1 si,H.out.2.1.ok,H.out.2.1.size,H.out.2.1.cap⟩
 clear hHeld HPL H1 H2 q0 q1 hbt1
 go_wp2_with fail
 go_loopw [28] (fun s wx=>∃ k:Nat,k≤3∧s = .int .i64 k∧Hid (Fr [bc] w wx∧eD wx bt bc cap rest (t.fC key aE k))) (fun s _=>3 - (intOf s).toNat)
 case atStart=>exact ⟨0,by omega,rfl,HT0⟩
 case round =>
  obtain ⟨k,hk,rfl,HR⟩:=hrel
  obtain ⟨wo,HWO⟩:∃ wo,Hid (wo=wr):=⟨_,rfl⟩
  rw [← HWO.out] at HR ⊢
  clear HWO
  by_cases hlt:k < 3
  ·obtain ⟨p,HP⟩:∃ p,Hid (p=eL n seed key k):=⟨_,rfl⟩
   have hpn:p < n:=by rw [HP.out]; exact yW n seed key k n3 hlt
   have hix:∀ W:World,(Instr.index 194 (.agg L.toArray) (vi (k:Int))).run Tryz.prog W = .ok (Value.int .i64 (p:Int)) W:=vK (P:=Tryz.prog) 194 3 3 L (Value.int .i64 (p:Int)) .i64 k Tryz.underlying194 kr (fun _=>kr) hlt (by rw [HL.out,HP.out]; exact wF n seed key k hlt)
   obtain ⟨cl,HCL⟩:∃ cl,Hid (cl=(t.fC key aE k).cells):=⟨_,rfl⟩
   have hlen:Hid (cl.length=n):=by show cl.length=n; rw [HCL.out,BT.nP,HN.out]
   have hok:Hid (gE cl):=by show gE cl; rw [HCL.out]; exact HR.out.2.ok.cells
   obtain ⟨c,hc⟩:∃ c,cl[p]?=some c:=⟨_,List.getElem?_eq_getElem (by rw [hlen.out]; exact hpn)⟩
   have hcok:Hid c.Ok:=hok.out c (List.mem_of_getElem? hc)
   have HTB:Hid (At wo bt 174 [.slice (some ⟨bc,0,none⟩) t.cells.length cap,.int .u64 (t.seed:Int)]∧At wo bc 183 (aU cl++rest)):=by
    have h1:=HR.out.2.tab
    rw [BT.nP,BT.nC] at h1
    exact ⟨h1,by rw [HCL.out]; exact HR.out.2.cells⟩
   obtain ⟨q0,q1⟩:=HT.out wo HTB.out.1
   obtain ⟨cnt,HCN⟩:∃ cnt,Hid (cnt=c.count):=⟨_,rfl⟩
   obtain ⟨chk,HCH⟩:∃ chk,Hid (chk=c.checks):=⟨_,rfl⟩
   have r0:wo.cell? ⟨bc,p*34,none⟩=some (Value.int .i64 cnt):=by
    have:=jY hok.out rest p c hc 0 om
    rw [Nat.add_zero] at this
    rw [HTB.out.2.cell,this,HCN.out]
    rfl
   have r33:wo.cell? ⟨bc,p*34+33,none⟩=some (.int .u64 (chk:Int)):=by
    rw [HTB.out.2.cell,jY hok.out rest p c hc 33 om,HCH.out]
    exact mW hcok.out.keys
   have f0:=HTB.out.2.frozen (p*34)
   have f33:=HTB.out.2.frozen (p*34+33)
   obtain ⟨nc,e1,HNC⟩:∃ nc:Int,IntKind.i64.wrap (cnt+aE)=nc∧Hid (nc=IntKind.i64.wrap (c.count+aE)):=⟨_,rfl,by rw [HCN.out]; rfl⟩
   have hcku:Hid (bI ck):=by show bI ck; rw [HCK.out]; exact yV _ _ _
   obtain ⟨nk,e2,HNK⟩:∃ nk:Nat,bits BinOp.xor IntKind.u64 (chk:Int) (ck:Int)=(nk:Int)∧Hid (nk=c.checks ^^^ ck):=⟨_,u64_xor_nat _ _ (by rw [HCH.out]; exact hcok.out.checks) hcku.out,by rw [HCH.out]; rfl⟩
   have HN0:Hid (At ((wo.setCell ⟨bc,p*34,none⟩ (Value.int .i64 nc)).setCell ⟨bc,p*34+33,none⟩ (.int .u64 (nk:Int))) bc 183 (aU (cl.set p (c.part key aE ck 0))++rest)):=by
    have a1:=(HTB.out.2.set (p*34) (Value.int .i64 nc)).set (p*34+33) (.int .u64 (nk:Int))
    have e0:=pO hok.out rest p c hc 0 om (Value.int .i64 nc) ⟨nc,c.keys,c.checks⟩ (yX c nc)
    rw [Nat.add_zero] at e0
    have hp':p < cl.length:=by rw [hlen.out]; exact hpn
    have ok1:gE (cl.set p ⟨nc,c.keys,c.checks⟩):=by
     intro d hd
     rcases List.mem_or_eq_of_mem_set hd with h | h
     ·exact hok.out d h
     ·rw [h]
      exact ⟨by rw [HNC.out]; exact BS _,hcok.out.keys,hcok.out.checks⟩
    have e3:=pO ok1 rest p ⟨nc,c.keys,c.checks⟩ (by rw [List.getElem?_set_self hp']) 33 om (.int .u64 (nk:Int)) ⟨nc,c.keys,nk⟩ (uB (c:=⟨nc,c.keys,c.checks⟩) hcok.out.keys nk)
    rw [e0,e3,List.set_set] at a1
    rw [BU,← HNC.out,← HNK.out]
    exact a1
   have hpI:(p:Int) < (n:Int):=om
   have hkI:(k:Int) < 3:=om
   have hbcl:=HTB.out.2.lt
   have HC2:=Lib.hid hc
   clear hc
   go_wp2_with fail
   have HW0:Hid (Fr [bc] w ((wo.setCell ⟨bc,p*34,none⟩ (Value.int .i64 nc)).setCell ⟨bc,p*34+33,none⟩ (.int .u64 (nk:Int)))∧At ((wo.setCell ⟨bc,p*34,none⟩ (Value.int .i64 nc)).setCell ⟨bc,p*34+33,none⟩ (.int .u64 (nk:Int))) bt 174 [.slice (some ⟨bc,0,none⟩) t.cells.length cap,.int .u64 (t.seed:Int)]) :=
    ⟨(HR.out.1.setCell si _).setCell si _,(HTB.out.1.far hne _).far hne _⟩
   generalize (wo.setCell ⟨bc,p*34,none⟩ (Value.int .i64 nc)).setCell ⟨bc,p*34+33,none⟩ (.int .u64 (nk:Int))=W0 at HN0 HW0 ⊢
   clear q0 q1 r0 r33 f0 f33 e1 e2 hix HTB
   go_loopw [53] (fun s wx=>∃ i:Nat,i≤32∧s = .int .i64 i∧Hid (Fr [bc] w wx∧At wx bt 174 [.slice (some ⟨bc,0,none⟩) t.cells.length cap,.int .u64 (t.seed:Int)]∧At wx bc 183 (aU (cl.set p (c.part key aE ck i))++rest))) (fun s _=>32 - (intOf s).toNat)
   case atStart=>exact ⟨0,by omega,rfl,HW0.out.1,HW0.out.2,HN0.out⟩
   case round =>
    obtain ⟨i,hi,rfl,HI⟩:=hrel
    have hp':Hid (p < cl.length):=by show p < cl.length; rw [hlen.out]; exact hpn
    have oki:Hid (gE (cl.set p (c.part key aE ck i))):=by
     intro d hd
     rcases List.mem_or_eq_of_mem_set hd with h | h
     ·exact hok.out d h
     ·rw [h]
      exact tZ hcok.out H.out.2.2 aE hcku.out i
    by_cases hlt2:i < 32
    ·obtain ⟨x,hx⟩:∃ x,c.keys[i]?=some x:=⟨_,List.getElem?_eq_getElem (by rw [hcok.out.keys]; exact hlt2)⟩
     obtain ⟨y,hy⟩:∃ y,key[i]?=some y:=⟨_,List.getElem?_eq_getElem (by rw [H.out.2.2]; exact hlt2)⟩
     have hiy:=Cc key i y hy
     have hself:(cl.set p (c.part key aE ck i))[p]?=some (c.part key aE ck i):=List.getElem?_set_self hp'.out
     have rk:wr.cell? ⟨bc,p*34+1+i,none⟩=some (.int .u8 (x.toNat:Int)):=by
      rw [HI.out.2.2.cell,Nat.add_assoc,jY oki.out rest p _ hself (1+i) om]
      exact uA i x (BV key aE ck i x hx H.out.2.2 hcok.out.keys)
     have fk:=HI.out.2.2.frozen (p*34+1+i)
     obtain ⟨z,ez,HZ⟩:∃ z:UInt8,bits BinOp.xor IntKind.u8 (x.toNat:Int) (y.toNat:Int)=(z.toNat:Int)∧Hid (z=x ^^^ y):=⟨_,yY x y,rfl⟩
     have HNN:Hid (Fr [bc] w (wr.setCell ⟨bc,p*34+1+i,none⟩ (.int .u8 (z.toNat:Int))).drew∧At (wr.setCell ⟨bc,p*34+1+i,none⟩ (.int .u8 (z.toNat:Int))).drew bt 174 [.slice (some ⟨bc,0,none⟩) t.cells.length cap,.int .u64 (t.seed:Int)]∧At (wr.setCell ⟨bc,p*34+1+i,none⟩ (.int .u8 (z.toNat:Int))).drew bc 183 (aU (cl.set p (c.part key aE ck (i+1)))++rest)):=by
      refine ⟨(HI.out.1.setCell si _).drew,(HI.out.2.1.far hne _).drew,?_⟩
      have a1:=(HI.out.2.2.set (p*34+1+i) (.int .u8 (z.toNat:Int))).drew
      rw [Nat.add_assoc,pO oki.out rest p _ hself (1+i) om (.int .u8 (z.toNat:Int)) (c.part key aE ck (i+1)) (by rw [HZ.out]; exact BW key aE ck i x y hx hy hcok.out.keys H.out.2.2),List.set_set] at a1
      rw [Nat.add_assoc]
      exact a1
     have hiI:(i:Int) < 32:=om
     clear hx hy hself
     go_wp2_with fail
     go_still_tail 13,(by kernel_rfl)
     change wpList _ _ _ _ _ wr.drew
     go_wp2_with fail
     generalize (wr.setCell ⟨bc,p*34+1+i,none⟩ (.int .u8 (z.toNat:Int))).drew=W1 at HNN ⊢
     clear rk fk ez hiy
     (try go_wp2_with fail)
     go_roundw
     case rel =>
      first
       | exact ⟨i+1,by omega,by go_num,HNN⟩
       | ((repeat apply Exists.intro); exact ⟨⟨i+1,by omega,by go_num,HNN⟩,rfl⟩)
     case measure=>simp [intOf] <;> omega
    ·obtain rfl:i=32:=om
     have HEND:Hid (Fr [bc] w wr∧eD wr bt bc cap rest (t.fC key aE (k+1))):=by
      have hlen2:(t.fC key aE (k+1)).cells.length=t.cells.length:=BT.nP _ _ _ _
      have hseed2:(t.fC key aE (k+1)).seed=t.seed:=BT.nC _ _ _ _
      have hplace:p=eL (t.fC key aE k).cells.length (t.fC key aE k).seed key k:=by rw [HP.out,BT.nP,BT.nC,HN.out,HS.out]
      have hcells:(t.fC key aE (k+1)).cells=cl.set p (c.part key aE ck 32):=by
       show ((t.fC key aE k).kO key aE k).cells=_
       rw [BT.Kx _ key aE k c (by rw [← hplace,← HCL.out]; exact HC2.out),← hplace,← HCL.out,wE c key aE ck hcok.out.keys H.out.2.2,BT.nC,HCK.out,HS.out]
      refine ⟨HI.out.1,?_,?_,BT.Ok.fC H.out.2.1.ok H.out.2.2 aE (k+1),?_,?_⟩
      ·rw [hlen2,hseed2]
       exact HI.out.2.1
      ·rw [hcells]
       exact HI.out.2.2
      ·rw [hlen2]
       exact H.out.2.1.size
      ·rw [hlen2]
       exact H.out.2.1.cap
     go_wp2_with fail
     go_roundw
     case rel =>
      first
       | exact ⟨k+1,by omega,by go_num,HEND⟩
       | ((repeat apply Exists.intro); exact ⟨⟨k+1,by omega,by go_num,HEND⟩,rfl⟩)
     case measure=>simp [intOf] <;> omega
  ·obtain rfl:k=3:=om
   go_wp2_with fail
   go_end0
   exact ⟨rfl,HR.out.1,HR.out.2⟩
theorem Ml (n i:Nat) (h:i < n*34):(aU (List.replicate n BC.zero))[i]?=BC.zero.cells[i % 34]?:=by
 have ok:gE (List.replicate n BC.zero):=by
  intro c hc
  rw [List.eq_of_mem_replicate hc]
  exact BC.Ok.zero
 have hp:(List.replicate n BC.zero)[i / 34]?=some BC.zero:=by rw [List.getElem?_replicate,if_pos om]
 have:=jY ok [] (i / 34) BC.zero hp (i % 34) om
 rw [List.append_nil,show i / 34*34+i % 34=i by omega] at this
 exact this
theorem Cf (n:Nat):madeCells BC.zero.cells.toArray (n*34)=(aU (List.replicate n BC.zero)).toArray:=by
 have ok:gE (List.replicate n BC.zero):=by
  intro c hc
  rw [List.eq_of_mem_replicate hc]
  exact BC.Ok.zero
 apply Array.ext_getElem?
 intro i
 rw [show (aU (List.replicate n BC.zero)).toArray[i]?=(aU (List.replicate n BC.zero))[i]? from List.getElem?_toArray ..]
 by_cases h:i < n*34
 ·rw [Ml n i h]
  have hz:BC.zero.cells.toArray.size=34:=rfl
  have hm:i % 34 < BC.zero.cells.toArray.size:=by rw [hz]; omega
  have e1:(madeCells BC.zero.cells.toArray (n*34))[i]?=some (BC.zero.cells.toArray[i % 34]!):=by
   unfold madeCells
   rw [Array.getElem?_map,Array.getElem?_range,if_pos h,hz]
   rfl
  rw [e1,getElem!_pos BC.zero.cells.toArray (i % 34) hm,List.getElem?_eq_getElem (l:=BC.zero.cells) (i:=i % 34) (by simpa using hm)]
  rfl
 ·rw [List.getElem?_eq_none (by rw [kM ok,List.length_replicate]; omega),Array.getElem?_eq_none (by rw [size_madeCells]; omega)]
theorem BT.Ok.new (n seed:Nat) (hs:bI seed):(BT.new n seed).Ok:=by
 refine ⟨fun c hc=>?_,hs⟩
 rw [List.eq_of_mem_replicate hc]
 exact BC.Ok.zero
theorem Mn (n:Nat) (hn:n≤3072) (w:World):(Instr.makeSlice 172 (vi (n:Int)) (vi (n:Int))).run Tryz.prog w = .ok (.slice (some ⟨w.heap.size,0,none⟩) n n) (w.alloc (.cells (aU (List.replicate n BC.zero)).toArray 183)):=by
 have hinfo:(Tryz.prog.info? 183).map (fun i=>(i.zero,i.size,i.bytes))=some (some (.agg BC.zero.cells.toArray),34,48):=by kernel_rfl
 obtain ⟨i,hi,hz,hsz,hby⟩:=info_parts hinfo
 have:=run_make (P:=Tryz.prog) w 172 183 i _ Tryz.underlying172 hi hz .i64 .i64 (n:Int) (n:Int) om om (by rw [hby]; omega) om
 rw [hsz,Int.toNat_natCast] at this
 rw [this,← Cf]
 rfl
theorem Mo (n seed:Nat) (w:World) (h:dQ (n:Int)=true) (hs:bI seed):Calls Tryz.prog 65 #[vi (n:Int),.int .u64 (seed:Int)] w fun e w'=>e = .returned (.tuple #[.pointer (some ⟨w.heap.size+1,0,none⟩),vi 0])∧Fr [] w w'∧eD w' (w.heap.size+1) w.heap.size n [] (BT.new n seed):=by
 have H:=Lib.hid (Cb (n:Int) w)
 rw [h] at H
 obtain ⟨n3,n4,n5⟩:=gV h
 have hmk:=Mn n n4 w
 have HH:=Lib.hid (And.intro h hs)
 clear h hs n5
 obtain ⟨W1,HW1⟩:∃ W1,Hid (W1=w.alloc (.cells (aU (List.replicate n BC.zero)).toArray 183)):=⟨_,rfl⟩
 rw [← HW1.out] at hmk
 have hsz:W1.heap.size=w.heap.size+1:=by rw [HW1.out]; simp
 have HZ:=Lib.hid hsz
 clear hsz
 go_enter Tryz.func65,Tryz.ntmps65
 go_wp2_with fail
 refine H.out.mono ?_
 rintro e w1 ⟨rfl,rfl⟩
 go_wp2_with fail
 go_ret2
 have ha:At W1 w.heap.size 183 (aU (List.replicate n BC.zero)):=by rw [HW1.out]; exact At.new _ _ _
 have hf:Fr [] w W1:=by rw [HW1.out]; exact (Fr.refl _ _).alloc _
 refine ⟨by rw [HZ.out]; rfl,hf.alloc _,?_,?_,BT.Ok.new n seed HH.out.2,?_,?_⟩
 ·have:=At.new W1 174 [.slice (some ⟨w.heap.size,0,none⟩) n n,.int .u64 (seed:Int)]
  rw [HZ.out] at this
  have e:(BT.new n seed).cells.length=n:=by simp [BT.new]
  rw [e]
  exact this
 ·rw [List.append_nil]
  exact ha.alloc _
 ·have e:(BT.new n seed).cells.length=n:=by simp [BT.new]
  rw [e]
  exact HH.out.1
 ·have e:(BT.new n seed).cells.length=n:=by simp [BT.new]
  rw [e]
  exact Nat.le_refl _
theorem Mp (bt bc cap:Nat) (rest:List Value) (t:BT) (key:List UInt8) (aE:Int) (w:World) (hv:cI w) (ht:eD w bt bc cap rest t) (hk:key.length=32) :
  Calls Tryz.prog 116 #[vP bt 0,.string (aT key),vi aE] w fun e w'=>e = .returned (vi 0)∧Fr [bc] w w'∧eD w' bt bc cap rest (t.change key aE):=by
 have hs:(aT key).size=32:=by simp [aT,ByteArray.size,hk]
 obtain ⟨n,HN⟩:∃ n,Hid (n=t.cells.length):=⟨_,rfl⟩
 have h3:3≤n:=by rw [HN.out]; exact (gV ht.size).1
 have c0:w.cell? ⟨bt,0,none⟩=some (.slice (some ⟨bc,0,none⟩) n cap):=by rw [ht.tab.cell,HN.out]; rfl
 have HC:=Lib.hid (Ce bt bc cap rest t key aE w hv ht hk)
 clear hv ht hk
 obtain ⟨ks,HK⟩:∃ ks,Hid (ks=aT key):=⟨_,rfl⟩
 rw [← HK.out] at hs HC ⊢
 have hnn:(n:Int)≠0:=om
 have hnb:((n:Int) == 0)=false:=by simp; omega
 have hn0:n≠0:=om
 go_enter Tryz.func116,Tryz.ntmps116
 go_wp2_with fail
 refine HC.out.mono ?_
 rintro e w1 ⟨rfl,hf1,ht1⟩
 go_wp2_with fail
 go_ret
 exact ⟨rfl,hf1,ht1⟩
theorem FO (bt bc cap:Nat) (rest:List Value) (t:BT) (key:List UInt8) (w:World) (hv:cI w) (ht:eD w bt bc cap rest t) (hk:key.length=32) :
  Calls Tryz.prog 67 #[vP bt 0,.string (aT key)] w fun e w'=>e = .returned (vi 0)∧Fr [bc] w w'∧eD w' bt bc cap rest (t.change key (1)):=by
 have HC:=Lib.hid (Mp bt bc cap rest t key (1) w hv ht hk)
 clear hv ht hk
 go_enter Tryz.func67,Tryz.ntmps67
 go_wp2_with fail
 refine HC.out.mono ?_
 rintro e w1 ⟨rfl,hf1,ht1⟩
 go_wp2_with fail
 go_ret
 exact ⟨rfl,hf1,ht1⟩
def Cg (bt bc p seed chk : Nat) (cnt : Int) (keys : List UInt8) (w' : World) : Prop :=
 w'.cell? ⟨bt, 1, none⟩ = some (.int .u64 (seed : Int)) ∧ w'.cell? ⟨bc, p * 34, none⟩ = some (Value.int .i64 cnt) ∧ w'.cell? ⟨bc, p * 34 + 33, none⟩ = some (.int .u64 (chk : Int)) ∧ (convert 23 9 (.slice (some ⟨bc, p * 34 + 1, none⟩) 32 32)).run Tryz.prog w' = .ok (.string (aT keys)) w'
theorem Ci {w:World} {bt bc cap:Nat} {rest:List Value} {t:BT} (h:eD w bt bc cap rest t) (p:Nat) (c:BC) (hc:t.cells[p]?=some c):Cg bt bc p t.seed c.checks c.count c.keys w:=by
 have ok:gE t.cells:=h.ok.cells
 have hk:=(ok c (List.mem_of_getElem? hc)).keys
 refine ⟨by rw [h.tab.cell]; rfl,?_,?_,?_⟩
 ·have:=jY ok rest p c hc 0 om
  rw [Nat.add_zero] at this
  rw [h.cells.cell,this]
  rfl
 ·rw [h.cells.cell,jY ok rest p c hc 33 om]
  exact mW hk
 ·have:=rH (P:=Tryz.prog) (src:=23) (dst:=9) Tryz.underlying23 Tryz.underlying5 Tryz.underlying9 w (some ⟨bc,p*34+1,none⟩) 32 c.keys (fun j v hj=>⟨bc,p*34+1,rfl,h.cells.lt,by
   have hjl:=(List.getElem?_eq_some_iff.1 hj).1
   rw [dL,hk] at hjl
   rw [h.cells.cell,Nat.add_assoc,jY ok rest p c hc (1+j) om,BC.cells,Nat.add_comm 1 j,List.getElem?_cons_succ,List.getElem?_append_left (by rw [dL,hk]; exact hjl)]
   exact hj⟩)
  rw [hk] at this
  exact this
theorem Cj (bt bc cap:Nat) (rest:List Value) (t:BT) (p:Nat) (c:BC) (w:World) (hv:cI w) (ht:eD w bt bc cap rest t) (hc:t.cells[p]?=some c) :
  Calls Tryz.prog 127 #[vP bt 0,vi (p:Int)] w fun e w'=>e = .returned (.bool (c.pure t.seed))∧Fr [] w w':=by
 obtain ⟨n,HN⟩:∃ n,Hid (n=t.cells.length):=⟨_,rfl⟩
 obtain ⟨seed,HS⟩:∃ seed,Hid (seed=t.seed):=⟨_,rfl⟩
 obtain ⟨cnt,HCN⟩:∃ cnt,Hid (cnt=c.count):=⟨_,rfl⟩
 obtain ⟨chk,HCH⟩:∃ chk,Hid (chk=c.checks):=⟨_,rfl⟩
 obtain ⟨keys,HK⟩:∃ keys,Hid (keys=c.keys):=⟨_,rfl⟩
 have hp:p < n:=by rw [HN.out]; exact (List.getElem?_eq_some_iff.1 hc).1
 have hpI:(p:Int) < (n:Int):=om
 have q0:w.cell? ⟨bt,0,none⟩=some (.slice (some ⟨bc,0,none⟩) n cap):=by rw [ht.tab.cell,HN.out]; rfl
 have HP:=Lib.hid (Ci ht p c hc)
 rw [← HS.out,← HCN.out,← HCH.out,← HK.out] at HP
 have HPD:=Lib.hid (Ci (w:=w.drew) (ht.fr (Fr.refl [] w).drew si si) p c hc)
 rw [← HS.out,← HCN.out,← HCH.out,← HK.out] at HPD
 have H:=Lib.hid (And.intro hv (And.intro ht hc))
 have HKL:Hid (keys.length=32):=by show keys.length=32; rw [HK.out]; exact (ht.ok.cells c (List.mem_of_getElem? hc)).keys
 obtain ⟨ck,HCK⟩:∃ ck,Hid (ck=gL seed 3 keys):=⟨_,rfl⟩
 have HCC:Hid (∀ W,Fr [] w W→Calls Tryz.prog 169 #[.int .u64 (seed:Int),.string (aT keys)] W fun e w'=>e = .returned (.int .u64 (ck:Int))∧Fr [] W w'∧Cg bt bc p seed chk cnt keys w'):=fun W hW=>by
  have:=FN seed keys W (H.out.1.fr hW si si) (by rw [HS.out]; exact H.out.2.1.ok.seed) (by rw [HKL.out]; omega)
  rw [← HCK.out] at this
  refine this.mono ?_
  rintro e w' ⟨he,hf⟩
  refine ⟨he,hf,?_⟩
  have h2:=Ci (H.out.2.1.fr (hW.trans hf) si si) p c H.out.2.2
  rw [← HS.out,← HCN.out,← HCH.out,← HK.out] at h2
  exact h2
 have hsl:∀ W:World,(Instr.sliceAt 134 (.pointer (some ⟨bc,p*34+1,none⟩)) none none none).run Tryz.prog W = .ok (.slice (some ⟨bc,p*34+1,none⟩) 32 32) W:=fun W=>by
  have hl:Tryz.prog.arrayLen 134=32:=by kernel_rfl
  have hz:(sizeOf (Tryz.prog.elem 134)).run Tryz.prog W = .ok 1 W:=by kernel_rfl
  rw [run_sliceAt_array_all W 134 ⟨bc,p*34+1,none⟩ kr,hz,hl]
  simp [slicedAt,iK]
 have HRES:Hid (c.pure t.seed=((decide (cnt=1) || decide (cnt = -1)) && decide (chk=ck))):=by
  show c.pure t.seed=_
  rw [HCN.out,HCH.out,HCK.out,HK.out,HS.out]
  rfl
 rw [HRES.out]
 clear hv ht hc
 by_cases h1:cnt=1
 ·have HD:Hid (((decide (cnt=1) || decide (cnt = -1)) && decide (chk=ck))=decide (chk=ck)):=by show _=_; rw [h1]; rfl
  rw [HD.out]
  clear HD
  subst h1
  go_enter Tryz.func127,Tryz.ntmps127
  go_wp2_with fail
  refine wp_region_held_drew (S:=(fun w'=>w'.cell? ⟨bt,1,none⟩=some (.int .u64 (seed:Int))∧w'.cell? ⟨bc,p*34,none⟩=some (Value.int .i64 (1))∧w'.cell? ⟨bc,p*34+33,none⟩=some (.int .u64 (chk:Int))∧(convert 23 9 (.slice (some ⟨bc,p*34+1,none⟩) 32 32)).run Tryz.prog w' = .ok (vS keys) w')) kr HPD.out (fun hHeld=>?_)
  refine wpAnyH_take (i:=0) (v:=?v0) rfl kr kr kr (fun _ _ _ h=>h) (Or.inl ⟨by rfl,?y0⟩) hHeld ?r0
  case y0=>(intro w' hS'; (try dsimp only at hS'); go_simp; try with_reducible rfl)
  refine wpAnyH_take (i:=1) (v:=?v1) rfl kr kr kr (fun _ _ _ h=>h) (Or.inl ⟨by rfl,?y1⟩) hHeld ?r1
  case y1=>(intro w' hS'; (try dsimp only at hS'); go_simp; try with_reducible rfl)
  refine wpAnyH_take (i:=2) (v:=?v2) rfl kr kr kr (fun _ _ _ h=>h) (Or.inl ⟨by rfl,?y2⟩) hHeld ?r2
  case y2=>(intro w' hS'; (try dsimp only at hS'); go_simp; try with_reducible rfl)
  refine wpAnyH_take (i:=3) (v:=?v3) rfl kr kr kr (fun _ _ _ h=>h) (Or.inl ⟨by rfl,?y3⟩) hHeld ?r3
  case y3=>(intro w' hS'; (try dsimp only at hS'); go_simp; try with_reducible rfl)
  refine wpAnyH_take (i:=4) (v:=.bool true) rfl kr kr kr (fun _ _ _ h=>h) (Or.inl ⟨by rfl,?y4⟩) hHeld ?r4
  case y4=>(intro w' hS'; (try dsimp only at hS'); go_simp; try with_reducible rfl)
  refine wpAnyH_take (i:=5) (v:=.bool true) rfl kr kr kr (fun _ _ _ h=>h) (Or.inl ⟨by rfl,?y5⟩) hHeld ?r5
  case y5=>(intro w' hS'; (try dsimp only at hS'); go_simp; try with_reducible rfl)
  refine wpAnyH_take (i:=6) (v:=undef) rfl kr kr kr (fun _ _ _ h=>h) (Or.inr ⟨kr,rfl⟩) hHeld ?r6
  refine wpAnyH_take (i:=7) (v:=undef) rfl kr kr kr (fun _ _ _ h=>h) (Or.inr ⟨kr,rfl⟩) hHeld ?r7
  refine wpAnyH_take (i:=8) (v:=undef) rfl kr kr kr (fun _ _ _ h=>h) (Or.inr ⟨kr,rfl⟩) hHeld ?r8
  refine wpAnyH_take (i:=9) (v:=undef) rfl kr kr kr (fun _ _ _ h=>h) (Or.inr ⟨kr,rfl⟩) hHeld ?r9
  refine wpAnyH_take (i:=10) (v:=undef) rfl kr kr kr (fun _ _ _ h=>h) (Or.inr ⟨kr,rfl⟩) hHeld ?r10
  refine wpAnyH_take (i:=11) (v:=.bool true) rfl kr kr kr (fun _ _ _ h=>h) (Or.inl ⟨kr,?y11⟩) hHeld ?r11
  case y11=>(intro w' hS'; (try dsimp only at hS'); go_simp; try with_reducible rfl)
  refine wpAnyH_take (i:=12) (v:=.bool true) rfl kr kr kr (fun _ _ _ h=>h) (Or.inl ⟨kr,?y12⟩) hHeld ?r12
  case y12=>(intro w' hS'; (try dsimp only at hS'); go_simp; try with_reducible rfl)
  refine wpAnyH_take (i:=13) (v:=?v13) rfl kr kr kr (fun _ _ _ h=>h) (Or.inl ⟨kr,?y13⟩) hHeld ?r13
  case y13=>(intro w' hS'; (try dsimp only at hS'); go_simp; try with_reducible rfl)
  refine wpAnyH_take (i:=14) (v:=?v14) rfl kr kr kr (fun _ _ _ h=>h) (Or.inl ⟨kr,?y14⟩) hHeld ?r14
  case y14=>(intro w' hS'; (try dsimp only at hS'); go_simp; try with_reducible rfl)
  refine wpAnyH_take (i:=15) (v:=?v15) rfl kr kr kr (fun _ _ _ h=>h) (Or.inl ⟨kr,?y15⟩) hHeld ?r15
  case y15=>(intro w' hS'; (try dsimp only at hS'); go_simp; try with_reducible rfl)
  refine wpAnyH_take (i:=16) (v:=?v16) rfl kr kr kr (fun _ _ _ h=>h) (Or.inl ⟨kr,?y16⟩) hHeld ?r16
  case y16=>(intro w' hS'; (try dsimp only at hS'); go_simp; try with_reducible rfl)
  refine wpAnyH_take (i:=17) (v:=?v17) rfl kr kr kr (fun _ _ _ h=>h) (Or.inl ⟨kr,?y17⟩) hHeld ?r17
  case y17=>(intro w' hS'; (try dsimp only at hS'); go_simp; try with_reducible rfl)
  refine wpAnyH_take (i:=18) (v:=?v18) rfl kr kr kr (fun _ _ _ h=>h) (Or.inl ⟨kr,?y18⟩) hHeld ?r18
  case y18=>(intro w' hS'; (try dsimp only at hS'); go_simp; try with_reducible rfl)
  refine wpAnyH_take (i:=19) (v:=?v19) rfl kr kr kr (fun _ _ _ h=>h) (Or.inl ⟨kr,?y19⟩) hHeld ?r19
  case y19=>(intro w' hS'; (try dsimp only at hS'); go_simp; try with_reducible rfl)
  refine wpAnyH_take (i:=20) (v:=?v20) rfl kr kr kr (fun _ _ _ h=>h) (Or.inl ⟨kr,?y20⟩) hHeld ?r20
  case y20=>(intro w' hS'; (try dsimp only at hS'); go_simp; try with_reducible rfl)
  refine wpAnyH_take (i:=21) (v:=?v21) rfl kr kr kr (fun _ _ _ h=>h) (Or.inl ⟨kr,?y21⟩) hHeld ?r21
  case y21=>(intro w' hS'; (try dsimp only at hS'); go_simp; try with_reducible rfl)
  refine wpAnyH_take (i:=22) (v:=?v22) rfl kr kr kr (fun _ _ _ h=>h) (Or.inl ⟨kr,?y22⟩) hHeld ?r22
  case y22=>(intro w' hS'; (try dsimp only at hS'); go_simp; try with_reducible rfl)
  refine wpAnyH_take (i:=23) (v:=?v23) rfl kr kr kr (fun _ _ _ h=>h) (Or.inl ⟨kr,?y23⟩) hHeld ?r23
  case y23=>(intro w' hS'; (try dsimp only at hS'); go_simp; try with_reducible rfl)
  refine wpAnyH_take (i:=24) (v:=?v24) rfl kr kr kr (fun _ _ _ h=>h) (Or.inl ⟨kr,?y24⟩) hHeld ?r24
  case y24=>(intro w' hS'; (try dsimp only at hS'); go_simp; try with_reducible rfl)
  refine wpAnyH_take (i:=25) (v:=?v25) rfl kr kr kr (fun _ _ _ h=>h) (Or.inl ⟨kr,?y25⟩) hHeld ?r25
  case y25=>(intro w' hS'; (try dsimp only at hS'); go_simp; try with_reducible rfl)
  refine wpAnyH_ready (rs:=[26]) kr si<|AllReadyH.cons rfl (fun K hK=>?_) AllReadyH.nil
  go_simp
  refine (HCC.out _ (Fr.refl _ _).drew).mono ?_
  rintro e w2 ⟨rfl,hf2,hs2⟩
  (try go_wp2_with fail)
  refine hK.out _ _ hs2 (fun hHeld2=>?_)
  clear hK K hHeld
  have hHeld:=hHeld2
  clear hHeld2
  refine wpAnyH_take (i:=27) (v:=?v27) rfl kr kr kr (fun _ _ _ h=>h) (Or.inl ⟨kr,?y27⟩) hHeld ?r27
  case y27=>(intro w' hS'; (try dsimp only at hS'); go_simp; try with_reducible rfl)
  refine wpAnyH_take (i:=28) (v:=?v28) rfl kr kr kr (fun _ _ _ h=>h) (Or.inl ⟨kr,?y28⟩) hHeld ?r28
  case y28=>(intro w' hS'; (try dsimp only at hS'); go_simp; try with_reducible rfl)
  refine wpAnyH_take (i:=29) (v:=?v29) rfl kr kr kr (fun _ _ _ h=>h) (Or.inl ⟨kr,?y29⟩) hHeld ?r29
  case y29=>(intro w' hS'; (try dsimp only at hS'); go_simp; try with_reducible rfl)
  refine wpAnyH_done kr ?_ _
  go_wp2_with fail
  go_ret
  exact ⟨fF (by rw [Bool.eq_iff_iff]; simp; omega),(Fr.refl [] w).drew.trans hf2⟩
 by_cases h2:cnt = -1
 ·have HD:Hid (((decide (cnt=1) || decide (cnt = -1)) && decide (chk=ck))=decide (chk=ck)):=by show _=_; rw [h2]; rfl
  rw [HD.out]
  clear HD
  subst h2
  go_enter Tryz.func127,Tryz.ntmps127
  go_wp2_with fail
  go_region_held3 (fun w'=>w'.cell? ⟨bt,1,none⟩=some (.int .u64 (seed:Int))∧w'.cell? ⟨bc,p*34,none⟩=some (Value.int .i64 (-1))∧w'.cell? ⟨bc,p*34+33,none⟩=some (.int .u64 (chk:Int))∧(convert 23 9 (.slice (some ⟨bc,p*34+1,none⟩) 32 32)).run Tryz.prog w' = .ok (vS keys) w') (first | exact HPD.out | exact hs2) (first | (go_at_call 169; refine (HCC.out _ (Fr.refl _ _).drew).mono ?_; rintro e w2 ⟨rfl,hf2,hs2⟩))
  go_wp2_with fail
  go_ret
  exact ⟨fF (by rw [Bool.eq_iff_iff]; simp; omega),(Fr.refl [] w).drew.trans hf2⟩
 have d1:(cnt == 1)=false:=by simpa using h1
 have d2:(cnt == -1)=false:=by simpa using h2
 have d3:decide (cnt=1)=false:=by simpa using h1
 have d4:decide (cnt = -1)=false:=by simpa using h2
 have HD:Hid (((decide (cnt=1) || decide (cnt = -1)) && decide (chk=ck))=false):=by show _=_; rw [d3,d4]; rfl
 rw [HD.out]
 obtain ⟨p1,p2,p3,p4⟩:Cg bt bc p seed chk cnt keys w:=HP.out
 clear p4 p3 p1 h1 h2 hsl
 go_enter Tryz.func127,Tryz.ntmps127
 go_wp2_with fail
 go_quiet (fail)
 go_wp2_with fail
 go_ret
 exact ⟨rfl,(Fr.refl [] w).drewN _⟩
theorem FP (l:List UInt8):B8 l=l.map Extern.Stop.cell:=rfl
theorem Mq (c:BC) (hk:c.keys.length=32):c.cells.toArray.extract 1 33=(B8 c.keys).toArray:=by
 have h:(B8 c.keys).length=32:=by rw [dL,hk]
 rw [List.extract_toArray]
 congr 1
 show (List.drop 1 (Value.int .i64 c.count::(B8 c.keys++[.int .u64 (c.checks:Int)]))).take (33 - 1)=B8 c.keys
 rw [List.drop_succ_cons,List.drop_zero,List.take_append_of_le_length (by rw [h]; decide),List.take_of_length_le (by rw [h]; decide)]
theorem Mr {P : Program} (w : World) (d : Nat) (ti tk tu te : TypeId) (f0 f1 f2 : Field) (hn0 : f0.name ≠ "_") (hn1 : f1.name ≠ "_") (hn2 : f2.name ≠ "_") (h0 : f0.offset = 0) (h1 : f1.offset = 1) (h2 : f2.offset = 33)
  (t0 : f0.type = ti) (t1 : f1.type = tk) (t2 : f2.type = tu) (ui : P.underlying ti = some (.int .i64)) (uk : P.underlying tk = some (.array 32 te)) (uu : P.underlying tu = some (.int .u64)) (ue : P.underlying te = some (.int .u8))
  (hse : ∀ w, (sizeOf te).run P w = .ok 1 w) (hsk : ∀ w, (sizeOf tk).run P w = .ok 32 w) (c e : BC) (hc : c.keys.length = 32) (he : e.keys.length = 32) :
  (Op.eqFields (d + 2) c.cells.toArray e.cells.toArray [f0, f1, f2]).run P w = .ok (decide (c.count = e.count) && decide (c.keys = e.keys) && decide (c.checks = e.checks)) w:=by
 have p0:∀ x:BC,(part ti x.cells.toArray 0).run P w = .ok (Value.int .i64 x.count) w:=fun x=>by simp [part,isAgg,run_underlying ui,BC.cells]
 have p1:∀ x:BC,x.keys.length=32→(part tk x.cells.toArray 1).run P w = .ok (.agg (B8 x.keys).toArray) w:=fun x hx=>by
  have:=Mq x hx
  simp only [part,isAgg,Sem.run_bind,run_underlying uk,Result.andThen_ok,Sem.run_pure,if_true,hsk]
  rw [← this]
 have p2:∀ x:BC,x.keys.length=32→(part tu x.cells.toArray 33).run P w = .ok (.int .u64 (x.checks:Int)) w:=fun x hx=>by
  have:=mW hx
  simp [part,isAgg,run_underlying uu,this]
 have q1:=run_equalIn_bytes (P:=P) w d tk te 32 uk ue hse c.keys e.keys hc he
 rw [← FP,← FP] at q1
 simp only [Op.eqFields,hn0,hn1,hn2,h0,h1,h2,t0,t1,t2,Sem.run_bind,Sem.run_ite,ne_eq,not_false_eq_true,if_true,p0,p1 _ hc,p1 _ he,p2 _ hc,p2 _ he,Result.andThen_ok,q1,run_equalIn_int w (d+1) ti .i64 .i64 _ _ ui,run_equalIn_int w (d+1) tu .u64 .u64 _ _ uu,Sem.run_pure]
 by_cases a0:c.count=e.count
 ·by_cases a1:c.keys=e.keys
  ·by_cases a2:c.checks=e.checks
   ·simp [a0,a1,a2]
   ·have:((c.checks:Int) == (e.checks:Int))=false:=by simp; omega
    simp [a0,a1,a2,this]
  ·have:(c.keys == e.keys)=false:=by simpa using a1
   simp [a0,a1,this]
 ·have:(c.count == e.count)=false:=by simpa using a0
  simp [a0,this]
theorem FQ {P : Program} (t ti tk tu te : TypeId) (a0 a1 a2 : String) (hn0 : a0 ≠ "_") (hn1 : a1 ≠ "_") (hn2 : a2 ≠ "_") (hm : (P.fieldsOf t).toList.map (fun f => (f.name, f.type, f.offset)) = [(a0, ti, 0), (a1, tk, 1), (a2, tu, 33)])
  (ht : P.underlying t = some (.struct (P.fieldsOf t))) (hp : P.stoodInHeld t = false) (ui : P.underlying ti = some (.int .i64)) (uk : P.underlying tk = some (.array 32 te)) (uu : P.underlying tu = some (.int .u64)) (ue : P.underlying te = some (.int .u8))
  (hse : ∀ w, (sizeOf te).run P w = .ok 1 w) (hsk : ∀ w, (sizeOf tk).run P w = .ok 32 w) (c e : BC) (hc : c.keys.length = 32) (he : e.keys.length = 32) (w : World) :
  (binOp .neq t (.agg c.cells.toArray) (.agg e.cells.toArray)).run P w = .ok (.bool (!(decide (c.count = e.count) && decide (c.keys = e.keys) && decide (c.checks = e.checks)))) w:=by
 rw [run_neq_struct,show (10000:Nat)=9997+2+1 from rfl,run_equalIn_agg w (9997+2) t _ _ ht hp]
 generalize (P.fieldsOf t).toList=fs at hm
 have hl:fs.length=3:=by have:=congrArg List.length hm; simpa using this
 match fs,hl with
 | [f0,f1,f2],_ =>
   simp only [List.map_cons,List.map_nil,List.cons.injEq,Prod.mk.injEq,and_true] at hm
   obtain ⟨⟨m0,m1,m2⟩,⟨m3,m4,m5⟩,⟨m6,m7,m8⟩⟩:=hm
   rw [Mr w 9997 ti tk tu te f0 f1 f2 (by rw [m0]; exact hn0) (by rw [m3]; exact hn1) (by rw [m6]; exact hn2) m2 m5 m8 m1 m4 m7 ui uk uu ue hse hsk c e hc he]
   rfl
theorem Ms (c : BC) (hc : c.keys.length = 32) (w : World) : (binOp .neq 183 (.agg c.cells.toArray) (.agg BC.zero.cells.toArray)).run Tryz.prog w = .ok (.bool (!c.isZero)) w :=
 FQ 183 3 134 80 5 "count" "keys" "checks" (by decide) (by decide) (by decide) (by kernel_rfl) (by kernel_rfl) (by kernel_rfl) Tryz.underlying3 Tryz.underlying134 Tryz.underlying80 Tryz.underlying5 (fun w => by kernel_rfl) (fun w => by kernel_rfl) c BC.zero hc rfl w
theorem Mt:jX Tryz.prog 172 183 (.agg BC.zero.cells.toArray) 34 48:=⟨Tryz.underlying172,kr,rfl,om,om⟩
theorem Mu {w:World} {base:Nat} {e:TypeId} {sz:Nat} {v:Value} {n:Nat} {xs:List Value} (h:w.ownsRow base e sz v n xs) (hn:0 < n) :
  ∃ g cap rest,v = .slice (some ⟨g,0,none⟩) n cap∧base≤g∧n≤cap∧At w g e (xs++rest):=by
 rcases h.2 with ⟨_,h0⟩ | ⟨g,cap,cur,rfl,hb,hgg,hnc,_,hcs,ht⟩
 ·omega
 ·refine ⟨g,cap,cur.toList.drop (n*sz),rfl,hb,hnc,?_⟩
  unfold At
  rw [← ht,List.take_append_drop]
  simpa using hgg
theorem Mv (bc cap n:Nat) (l:List BC) (rest:List Value) (w:World) (ha:At w bc 183 (aU l++rest)) (hok:gE l) (hn:n=l.length) (h3:3≤n) (h4:n≤3072) :
  Calls Tryz.prog 168 #[.slice (some ⟨bc,0,none⟩) n cap] w fun e w'=>∃ g c' rest',e = .returned (.slice (some ⟨g,0,none⟩) n c')∧w.heap.size≤g∧n≤c'∧Fr [] w w'∧At w' g 183 (aU l++rest'):=by
 have H:=Lib.hid (And.intro ha (And.intro hok hn))
 obtain ⟨C,HC⟩:∃ C,Hid (C=aU l):=⟨_,rfl⟩
 have HCL:Hid (C.length=n*34∧(∀ v∈C,v.oneCell'=true)):=by
  show _∧_
  rw [HC.out,kM hok,hn]
  exact ⟨rfl,tY⟩
 have HCA:Hid (∀ W,Fr [] w W→dV W (some ⟨bc,0,none⟩) C):=fun W hW j v hv=>⟨_,rfl,by
  rw [iK,Nat.zero_add,hW.cell (p:=⟨bc,j,none⟩) ha.lt si,ha.cell,List.getElem?_append_left (by rw [← HC.out]; exact (List.getElem?_eq_some_iff.1 hv).1),← HC.out]
  exact hv⟩
 clear ha hok hn
 have hnil:=fun W:World=>Lib.run_eql_slice_nil (P:=Tryz.prog) W 172 183 (some ⟨bc,0,none⟩) n cap 0 0 Tryz.underlying172
 go_enter Tryz.func168,Tryz.ntmps168
 go_wp2_with (at_builtin; refine tF Mt rfl (.tmp 5) (.tmp 6) rfl w.heap.size _ _ [] rfl (World.ownsRow_made _ #[] 0 (Nat.le_refl _) (Nat.zero_le _) rfl) (some ⟨bc,0,none⟩) n cap C rfl HCL.out.1 (HCA.out _ ((Fr.refl _ _).alloc _)) HCL.out.2 (by omega) (by simp) ?_; intro v1 w1 hown1 hg1 hb1)
 rw [List.nil_append,Nat.zero_add] at hown1
 obtain ⟨g,c',rest',rfl,hg,hc,hat⟩:=Mu hown1 om
 go_ret
 refine ⟨g,c',rest',rfl,hg,hc,((Fr.refl [] w).alloc _).grown hg1 (fun k hk=>.inr ?_),by rw [← HC.out]; exact hat⟩
 have hk2:some w.heap.size=some k:=hk
 injection hk2 with hk2
 exact Nat.le_of_eq hk2
theorem FR (bt bc cap:Nat) (rest:List Value) (t:BT) (w:World) (ht:eD w bt bc cap rest t) :
  Calls Tryz.prog 126 #[vP bt 0] w fun e w'=>∃ bt' bc' cap' rest',e = .returned (.pointer (some ⟨bt',0,none⟩))∧w.heap.size≤bt'∧w.heap.size≤bc'∧Fr [] w w'∧eD w' bt' bc' cap' rest' t:=by
 obtain ⟨n,HN⟩:∃ n,Hid (n=t.cells.length):=⟨_,rfl⟩
 obtain ⟨seed,HS⟩:∃ seed,Hid (seed=t.seed):=⟨_,rfl⟩
 have hb:=gV ht.size
 have h3:3≤n:=by rw [HN.out]; exact hb.1
 have h4:n≤3072:=by rw [HN.out]; exact hb.2.1
 have HT:Hid (∀ W,Fr [] w W→W.cell? ⟨bt,0,none⟩=some (.slice (some ⟨bc,0,none⟩) n cap)∧W.cell? ⟨bt,1,none⟩=some (.int .u64 (seed:Int))):=fun W hW =>
  ⟨by rw [(ht.tab.fr hW si).cell,HN.out]; rfl,by rw [(ht.tab.fr hW si).cell,HS.out]; rfl⟩
 obtain ⟨q0,q1⟩:=HT.out w (Fr.refl _ _)
 have HC:=Lib.hid (Mv bc cap n t.cells rest w.drew (ht.cells.drew) ht.ok.cells HN.out h3 h4)
 have H:=Lib.hid ht
 have hbl:=ht.tab.lt
 clear ht hb
 go_enter Tryz.func126,Tryz.ntmps126
 go_wp2_with fail
 go_region_held3 (fun w'=>w'.cell? ⟨bt,0,none⟩=some (.slice (some ⟨bc,0,none⟩) n cap)∧w'.cell? ⟨bt,1,none⟩=some (.int .u64 (seed:Int))) (first | go_keep | (exact HT.out _ H2.out) | (exact HT.out _ (H2.out.alloc _)))
  (first | (go_at_call 168; ((with_reducible refine HC.out.mono ?_)); rintro e w2 ⟨g,c',rest',rfl,hg,hc',hf2,ha2⟩; have H2:Hid (Fr [] w w2):=(Fr.refl [] w).drew.trans hf2; have HA2:=Lib.hid (And.intro ha2 hg); have hbl2:bt < w2.heap.size:=Nat.lt_of_lt_of_le hbl H2.out.size; clear hf2 ha2 hg))
 rename_i hHeld
 clear hHeld
 go_wp2_with fail
 go_ret
 refine ⟨w2.heap.size,g,c',rest',rfl,H2.out.size,HA2.out.2,H2.out.alloc _,?_,HA2.out.1.alloc _,H.out.ok,H.out.size,by rw [← HN.out]; exact hc'⟩
 rw [← HN.out,← HS.out]
 exact At.new w2 174 [.slice (some ⟨g,0,none⟩) n c',.int .u64 (seed:Int)]
theorem FT {l : List BC} {f : BC → Bool} {i : Nat} {c : BC} (hc : l[i]? = some c) (h : (l.take i).all f = true) (hf : f c = true) : (l.take (i + 1)).all f = true := by
 obtain ⟨h1, e1⟩ := List.getElem?_eq_some_iff.1 hc
 rw [List.take_succ_eq_append_getElem h1, e1, List.all_append, h]
 simp [hf]
theorem FU (bt bc cap : Nat) (rest : List Value) (t : BT) (w : World) (ht : eD w bt bc cap rest t) :
  Calls Tryz.prog 131 #[Value.pointer (some ⟨bt, 0, none⟩)] w fun e w' => e = .returned (.bool t.empty) ∧ Fr [] w w' := by
 obtain ⟨n, HN⟩ : ∃ n, Hid (n = t.cells.length) := ⟨_, rfl⟩
 have hb := gV ht.size
 have h4 : n ≤ 3072 := by rw [HN.out]; exact hb.2.1
 have q0 : w.cell? ⟨bt, 0, none⟩ = some (.slice (some ⟨bc, 0, none⟩) n cap) := by rw [ht.tab.cell, HN.out]; rfl
 have H := Lib.hid ht
 have hbcl := ht.cells.lt
 clear ht hb
 obtain ⟨Z, HZ⟩ : ∃ Z, Hid (Z = BC.zero.cells) := ⟨_, rfl⟩
 have hgd : Tryz.prog.eqGuardType Tryz.prog.depth 183 = false := by kernel_rfl
 go_enter Tryz.func131, Tryz.ntmps131
 go_wp2_with fail
 go_loopw [10] (fun s wx => ∃ i : Nat, i ≤ n ∧ s = .int .i64 i ∧ Hid (Fr [] w wx ∧ (t.cells.take i).all BC.isZero = true)) (fun s _ => n - (intOf s).toNat)
 case atStart => exact ⟨0, by omega, rfl, Fr.refl _ _, rfl⟩
 case round =>
  obtain ⟨i, hi, rfl, HR⟩ := hrel
  by_cases hlt : i < n
  ·obtain ⟨c, hc⟩ : ∃ c, t.cells[i]? = some c := ⟨_, List.getElem?_eq_getElem (by rw [← HN.out]; exact hlt)⟩
   have hcok := H.out.ok.cells c (List.mem_of_getElem? hc)
   obtain ⟨L, HL⟩ : ∃ L, Hid (L = c.cells) := ⟨_, rfl⟩
   have HLX : Hid (L.length = 34 ∧ (∀ v ∈ L, v.oneCell' = true) ∧ ∀ j v, L[j]? = some v → wr.cell? ⟨bc, i * 34 + j, none⟩ = some v) := by
    show _ ∧ _ ∧ _
    rw [HL.out]
    refine ⟨BC.cells_len hcok, fun v hv => tY (l := [c]) v (by simpa [aU] using hv), fun j v hj => ?_⟩
    have hj34 := (List.getElem?_eq_some_iff.1 hj).1
    rw [BC.cells_len hcok] at hj34
    rw [HR.out.1.cell (p := ⟨bc, i * 34 + j, none⟩) hbcl (by simp), H.out.cells.cell, jY H.out.ok.cells rest i c hc j hj34]
    exact hj
   have hiI : (i : Int) < (n : Int) := by omega
   have hq := Ms c hcok.keys
   rw [← HL.out, ← HZ.out] at hq
   have HC := Lib.hid hc
   clear hc hcok
   cases hz : c.isZero
   ·rw [hz] at hq
    go_wp2_with (first
     | (refine nD rfl 183 (.tmp 12) rfl bc (i * 34) rfl L _ (fun j v hj => HLX.out.2.2 j v hj) Tryz.underlying183 rfl (by rw [HLX.out.1]; kernel_rfl) ?_)
     | (refine nQ rfl 183 (.tmp 4) (.tmp 13) rfl rfl 183 _ L rfl (by rw [HLX.out.1]; rfl) (by rw [HLX.out.1]; kernel_rfl) HLX.out.2.1 ?_; intro w1 hf1 ha1)
     | (refine nD rfl 183 (.tmp 4) rfl wr.heap.size 0 rfl L _ (fun j v hj => by rw [Nat.zero_add, ha1.cell]; exact hj) Tryz.underlying183 rfl (by rw [HLX.out.1]; kernel_rfl) ?_)
     | (refine wB rfl 183 _ rfl Z.toArray (by rw [HZ.out]; kernel_rfl) ?_))
    go_ret
    refine ⟨fF ?_, HR.out.1.trans hf1⟩
    symm
    rw [Bool.eq_false_iff]
    intro h
    have := List.all_eq_true.1 h c (List.mem_of_getElem? HC.out)
    rw [hz] at this
    cases this
   ·rw [hz] at hq
    have HN2 : Hid ((t.cells.take (i + 1)).all BC.isZero = true) := FT HC.out HR.out.2 hz
    go_wp2_with (first
     | (refine nD rfl 183 (.tmp 12) rfl bc (i * 34) rfl L _ (fun j v hj => HLX.out.2.2 j v hj) Tryz.underlying183 rfl (by rw [HLX.out.1]; kernel_rfl) ?_)
     | (refine nQ rfl 183 (.tmp 4) (.tmp 13) rfl rfl 183 _ L rfl (by rw [HLX.out.1]; rfl) (by rw [HLX.out.1]; kernel_rfl) HLX.out.2.1 ?_; intro w1 hf1 ha1)
     | (refine nD rfl 183 (.tmp 4) rfl wr.heap.size 0 rfl L _ (fun j v hj => by rw [Nat.zero_add, ha1.cell]; exact hj) Tryz.underlying183 rfl (by rw [HLX.out.1]; kernel_rfl) ?_)
     | (refine wB rfl 183 _ rfl Z.toArray (by rw [HZ.out]; kernel_rfl) ?_))
    have HF1 : Hid (Fr [] w w1) := HR.out.1.trans hf1
    clear hq hf1 ha1
    (try go_wp2_with fail)
    go_roundw
    case rel =>
     first
      | exact ⟨i + 1, by omega, by go_num, HF1.out, HN2.out⟩
      | ((repeat apply Exists.intro); exact ⟨⟨i + 1, by omega, by go_num, HF1.out, HN2.out⟩, rfl⟩)
    case measure => simp [intOf] <;> omega
  ·obtain rfl : i = n := by omega
   go_wp2_with fail
   go_ret
   refine ⟨fF ?_, HR.out.1⟩
   have := HR.out.2
   rw [HN.out, List.take_length] at this
   exact this.symm
theorem Mw (bt bc cap : Nat) (rest : List Value) (t : BT) (w : World) (ht : eD w bt bc cap rest t) : Calls Tryz.prog 148 #[Value.pointer (some ⟨bt, 0, none⟩)] w fun e w' => e = .returned (Value.int .i64 (t.cells.length : Int)) ∧ w = w' := by
 obtain ⟨n, HN⟩ : ∃ n, Hid (n = t.cells.length) := ⟨_, rfl⟩
 rw [← HN.out]
 have q0 : w.cell? ⟨bt, 0, none⟩ = some (.slice (some ⟨bc, 0, none⟩) n cap) := by rw [ht.tab.cell, HN.out]; rfl
 clear ht
 go_enter Tryz.func148, Tryz.ntmps148
 go_wp2_with fail
 go_ret
 exact ⟨rfl, rfl⟩
def jC (n : Int) : Int := if 1536 < n then 3072 else if n < 0 then 12 else min 3072 ((2 * n + 14) / 3 * 3)
theorem Mx (n : Int) (w : World) : Calls Tryz.prog 35 #[Value.int .i64 n] w fun e w' => e = .returned (Value.int .i64 (jC n)) ∧ w = w' := by
 unfold jC
 by_cases h1 : 1536 < n
 ·rw [if_pos h1]
  go_enter Tryz.func35, Tryz.ntmps35
  go_wp2_with fail
  go_ret
  exact ⟨rfl, rfl⟩
 ·rw [if_neg h1]
  have h1' : n ≤ 1536 := by omega
  by_cases h2 : n < 0
  ·rw [if_pos h2]
   have h2' : ¬ 0 ≤ n := by omega
   go_enter Tryz.func35, Tryz.ntmps35
   go_wp2_with fail
   go_ret
   first | exact ⟨rfl, rfl⟩ | exact ⟨gG (by omega), rfl⟩
  ·rw [if_neg h2]
   have h2' : 0 ≤ n := by omega
   go_enter Tryz.func35, Tryz.ntmps35
   go_wp2_with fail
   all_goals
    go_ret
    exact ⟨gG (by omega), rfl⟩
def oL (l : List Bool) : Int := match l.findIdx? id with | none => -1 | some i => (i : Int)
def BB (l : List Bool) : List Value := l.map fun b => Value.bool b
theorem My {l : List Bool} {i : Nat} (h : ∀ j, j < i → l[j]? = some false) (hi : l[i]? = some true) : oL l = (i : Int) := by
 have : l.findIdx? id = some i := by
  rw [List.findIdx?_eq_some_iff_getElem]
  obtain ⟨h1, e1⟩ := List.getElem?_eq_some_iff.1 hi
  refine ⟨h1, by simp [e1], fun j hj => ?_⟩
  obtain ⟨h2, e2⟩ := List.getElem?_eq_some_iff.1 (h j hj)
  simp [e2]
 unfold oL
 rw [this]
theorem Mz {l : List Bool} (h : ∀ j, j < l.length → l[j]? = some false) : oL l = -1 := by
 have : l.findIdx? id = none := by
  rw [List.findIdx?_eq_none_iff]
  intro x hx
  obtain ⟨j, hj⟩ := List.mem_iff_getElem?.1 hx
  have := h j (List.getElem?_eq_some_iff.1 hj).1
  rw [hj] at this
  injection this
 unfold oL
 rw [this]
theorem MA (g cap : Nat) (l : List Bool) (w : World) (ha : At w g 4 (BB l)) (hl : l.length ≤ 3072) : Calls Tryz.prog 128 #[.slice (some ⟨g, 0, none⟩) l.length cap, .bool true] w fun e w' => e = .returned (Value.int .i64 (oL l)) ∧ w = w' := by
 obtain ⟨n, HN⟩ : ∃ n, Hid (n = l.length) := ⟨_, rfl⟩
 have H := Lib.hid ha
 clear ha
 rw [← HN.out] at hl ⊢
 go_enter Tryz.func128, Tryz.ntmps128
 go_wp2_with fail
 go_loop [8] (fun s => ∃ i : Nat, i ≤ n ∧ s = .int .i64 i ∧ Hid (∀ j, j < i → l[j]? = some false)) (fun s => n - (intOf s).toNat)
 case atStart => exact ⟨0, by omega, rfl, fun j hj => by omega⟩
 case round =>
  obtain ⟨i, hi, rfl, HR⟩ := hrel
  by_cases hlt : i < n
  ·obtain ⟨b, hb⟩ : ∃ b, l[i]? = some b := ⟨_, List.getElem?_eq_getElem (by rw [← HN.out]; exact hlt)⟩
   have cb : w.cell? ⟨g, i, none⟩ = some (.bool b) := by rw [H.out.cell]; simp [BB, hb]
   have hiI : (i : Int) < (n : Int) := by omega
   have HB := Lib.hid hb
   clear hb
   cases b
   ·go_wp2_with fail
    go_round
    case rel =>
     refine ⟨i + 1, by omega, by go_num, fun j hj => ?_⟩
     rcases Nat.lt_or_ge j i with h | h
     ·exact HR.out j h
     ·obtain rfl : j = i := by omega
      exact HB.out
    case measure => simp [intOf] <;> omega
   ·go_wp2_with fail
    go_ret
    refine ⟨gG ?_, rfl⟩
    exact (My HR.out HB.out).symm
  ·obtain rfl : i = n := by omega
   go_wp2_with fail
   go_ret
   refine ⟨gG ?_, rfl⟩
   exact (Mz (by rw [← HN.out]; exact HR.out)).symm
end Go.Proofs.YtdflaaiondmjdaaGreatDoor
namespace Go.Proofs
open Go.Shelf
def Tryz.Ur : Go.Shelf.Ren := ⟨fun | 132 => 115 | 127 => 160 | n => n, fun | 49 => 175 | 3 => 3 | 4 => 4 | 46 => 176 | 5 => 5 | 9 => 9 | n => n, fun | n => n⟩
theorem Tryz.Us : Go.Proofs.Lays.n132 Tryz.prog Tryz.Ur := {
 mixed := by kernel_rfl
 f127 := Tryz.func160.trans (congrArg some (by kernel_rfl))
 f132 := Tryz.func115.trans (congrArg some (by kernel_rfl))
 t3 := Tryz.underlying3
 a3 := Tryz.isAgg3
 z3 := Tryz.sizeOf3
 v3 := Tryz.zeroValue3
 t4 := Tryz.underlying4
 a4 := Tryz.isAgg4
 z4 := Tryz.sizeOf4
 v4 := Tryz.zeroValue4
 t5 := Tryz.underlying5
 a5 := Tryz.isAgg5
 z5 := Tryz.sizeOf5
 v5 := Tryz.zeroValue5
 t9 := Tryz.underlying9
 a9 := Tryz.isAgg9
 z9 := Tryz.sizeOf9
 v9 := Tryz.zeroValue9
 t46 := Tryz.underlying176
 a46 := Tryz.isAgg176
 z46 := Tryz.sizeOf176
 v46 := Tryz.zeroValue176
 t49 := Tryz.underlying175
 a49 := Tryz.isAgg175
 z49 := Tryz.sizeOf175
 v49 := Tryz.zeroValue175 }
theorem Tryz.bits_LeadingZeros16 (x : Int) (w : World) (h0 : 0 ≤ x) (h1 : x ≤ 65535) :
  Calls Tryz.prog 115 #[.int .u16 x] w fun e w' => e = .returned (.int .i64 (16 - (Lib.bitLen x.toNat : Int))) ∧ w' = w := Any.bits_LeadingZeros16 Tryz.Us x w h0 h1
def Tryz.Ut : Go.Shelf.Ren := ⟨fun | 190 => 132 | 125 => 172 | 258 => 171 | 128 => 198 | 129 => 199 | 302 => 190 | 303 => 191 | 304 => 192 | 305 => 193 | 306 => 194 | 307 => 195 | 308 => 157 | 309 => 196 | 310 => 197 | 333 => 208 | 329 => 209 | 330 => 210 | 334 => 211 | 335 => 212 | 336 => 187 | 344 => 222 | n => n, fun | 31 => 22 | 9 => 9 | 3 => 3 | 46 => 176 | 0 => 0 | 51 => 200 | 53 => 80 | 4 => 4 | 183 => 263 | 182 => 262 | 131 => 167 | 5 => 5 | 218 => 276 | 222 => 279 | 228 => 284 | 229 => 35 | n => n, fun | n => n⟩
theorem Tryz.Kz : Go.Proofs.Lays.n190 Tryz.prog Tryz.Ut := {
 mixed := by kernel_rfl
 f125 := Tryz.func172.trans (congrArg some (by kernel_rfl))
 f128 := Tryz.func198.trans (congrArg some (by kernel_rfl))
 f129 := Tryz.func199.trans (congrArg some (by kernel_rfl))
 f190 := Tryz.func132.trans (congrArg some (by kernel_rfl))
 f258 := Tryz.func171.trans (congrArg some (by kernel_rfl))
 f302 := Tryz.func190.trans (congrArg some (by kernel_rfl))
 f303 := Tryz.func191.trans (congrArg some (by kernel_rfl))
 f304 := Tryz.func192.trans (congrArg some (by kernel_rfl))
 f305 := Tryz.func193.trans (congrArg some (by kernel_rfl))
 f306 := Tryz.func194.trans (congrArg some (by kernel_rfl))
 f307 := Tryz.func195.trans (congrArg some (by kernel_rfl))
 f308 := Tryz.func157.trans (congrArg some (by kernel_rfl))
 f309 := Tryz.func196.trans (congrArg some (by kernel_rfl))
 f310 := Tryz.func197.trans (congrArg some (by kernel_rfl))
 f329 := Tryz.func209.trans (congrArg some (by kernel_rfl))
 f330 := Tryz.func210.trans (congrArg some (by kernel_rfl))
 f333 := Tryz.func208.trans (congrArg some (by kernel_rfl))
 f334 := Tryz.func211.trans (congrArg some (by kernel_rfl))
 f335 := Tryz.func212.trans (congrArg some (by kernel_rfl))
 f336 := Tryz.func187.trans (congrArg some (by kernel_rfl))
 f344 := Tryz.func222.trans (congrArg some (by kernel_rfl))
 t0 := Tryz.underlying0
 a0 := Tryz.isAgg0
 z0 := Tryz.sizeOf0
 v0 := Tryz.zeroValue0
 t3 := Tryz.underlying3
 a3 := Tryz.isAgg3
 z3 := Tryz.sizeOf3
 v3 := Tryz.zeroValue3
 t4 := Tryz.underlying4
 a4 := Tryz.isAgg4
 z4 := Tryz.sizeOf4
 v4 := Tryz.zeroValue4
 t5 := Tryz.underlying5
 a5 := Tryz.isAgg5
 z5 := Tryz.sizeOf5
 v5 := Tryz.zeroValue5
 t9 := Tryz.underlying9
 a9 := Tryz.isAgg9
 z9 := Tryz.sizeOf9
 v9 := Tryz.zeroValue9
 t31 := Tryz.underlying22
 a31 := Tryz.isAgg22
 z31 := Tryz.sizeOf22
 v31 := Tryz.zeroValue22
 t46 := Tryz.underlying176
 a46 := Tryz.isAgg176
 z46 := Tryz.sizeOf176
 v46 := Tryz.zeroValue176
 t51 := Tryz.underlying200
 a51 := Tryz.isAgg200
 z51 := Tryz.sizeOf200
 v51 := Tryz.zeroValue200
 t53 := Tryz.underlying80
 a53 := Tryz.isAgg80
 z53 := Tryz.sizeOf80
 v53 := Tryz.zeroValue80
 t131 := Tryz.underlying167
 a131 := Tryz.isAgg167
 z131 := Tryz.sizeOf167
 v131 := Tryz.zeroValue167
 t182 := Tryz.underlying262
 a182 := Tryz.isAgg262
 z182 := Tryz.sizeOf262
 v182 := Tryz.zeroValue262
 t183 := Tryz.underlying263
 a183 := Tryz.isAgg263
 z183 := Tryz.sizeOf263
 v183 := Tryz.zeroValue263
 t218 := Tryz.underlying276
 a218 := Tryz.isAgg276
 z218 := Tryz.sizeOf276
 v218 := Tryz.zeroValue276
 t222 := Tryz.underlying279
 a222 := Tryz.isAgg279
 z222 := Tryz.sizeOf279
 v222 := Tryz.zeroValue279
 t228 := Tryz.underlying284
 a228 := Tryz.isAgg284
 z228 := Tryz.sizeOf284
 v228 := Tryz.zeroValue284
 t229 := Tryz.underlying35
 a229 := Tryz.isAgg35
 z229 := Tryz.sizeOf35
 v229 := Tryz.zeroValue35 }
open Go.Sort Go.RowKit in
theorem Tryz.slices_Sort_string (blk off cap : Nat) (ss : List (List UInt8)) (w : World) (hH : Holds encStr w blk off ss.toArray) (hblk : blk < w.heap.size) (hsz : ss.length < 4611686018427387904) :
  Calls Tryz.prog 132 #[.slice (some ⟨blk, off, none⟩) ss.length cap] w fun e w' =>
   e = .returned (.tuple #[]) ∧ ∃ n os, w' = grow (putRow encStr (Sort.ahead w n) blk off (ss.mergeSort fun x y => decide (x ≤ y)).toArray) os := Any.slices_Sort_string Tryz.Kz blk off cap ss w hH hblk hsz
open Go.RowKit Go.Sort in
theorem Tryz.slices_Sort_string_none (p : Option Addr) (cap : Nat) (w : World) :
  Calls Tryz.prog 132 #[.slice p 0 cap] w fun e w' => e = .returned (.tuple #[]) ∧ w' = w := Any.slices_Sort_string_none Tryz.Kz p cap w
def Tryz.KA : Go.Shelf.Ren := ⟨fun | 7 => 108 | 10 => 156 | n => n, fun | 23 => 147 | 26 => 9 | 3 => 4 | 28 => 165 | 0 => 0 | 27 => 164 | 33 => 220 | 4 => 4 | n => n, fun | n => n⟩
theorem Tryz.KB : Go.Proofs.SlLaysZ.n7 Tryz.prog Tryz.KA := {
 mixed := by kernel_rfl
 f7 := ⟨Tryz.f108.name, by decide, Tryz.func108.trans (congrArg some (by kernel_rfl))⟩
 f10 := ⟨Tryz.f156.name, by decide, Tryz.func156.trans (congrArg some (by kernel_rfl))⟩
 t0 := Tryz.underlying0
 a0 := Tryz.isAgg0
 z0 := Tryz.sizeOf0
 v0 := Tryz.zeroValue0
 t4 := Tryz.underlying4
 a4 := Tryz.isAgg4
 z4 := Tryz.sizeOf4
 v4 := Tryz.zeroValue4
 t23 := Tryz.underlying147
 a23 := Tryz.isAgg147
 z23 := Tryz.sizeOf147
 v23 := Tryz.zeroValue147
 t26 := Tryz.underlying9
 a26 := Tryz.isAgg9
 z26 := Tryz.sizeOf9
 v26 := Tryz.zeroValue9
 t27 := Tryz.underlying164
 a27 := Tryz.isAgg164
 z27 := Tryz.sizeOf164
 v27 := Tryz.zeroValue164
 t28 := Tryz.underlying165
 a28 := Tryz.isAgg165
 z28 := Tryz.sizeOf165
 v28 := Tryz.zeroValue165
 t33 := Tryz.underlying220
 a33 := Tryz.isAgg220
 z33 := Tryz.sizeOf220
 v33 := Tryz.zeroValue220 }
def Tryz.KC : Go.Shelf.Ren := ⟨fun | 6 => 107 | 8 => 155 | 9 => 132 | 11 => 186 | 13 => 172 | 12 => 171 | 23 => 198 | 24 => 199 | 14 => 190 | 15 => 191 | 16 => 192 | 17 => 193 | 18 => 194 | 19 => 195 | 20 => 157 | 21 => 196 | 22 => 197 | 25 => 208 | 26 => 209 | 27 => 210 | 28 => 211 | 29 => 212 | 30 => 187 | 31 => 222 | n => n, fun | 26 => 9 | 28 => 165 | 24 => 22 | 0 => 0 | 3 => 3 | 37 => 176 | 48 => 200 | 50 => 80 | 4 => 4 | 40 => 263 | 39 => 262 | 45 => 167 | 5 => 5 | 9 => 9 | 51 => 276 | 55 => 279 | 57 => 284 | 58 => 35 | 33 => 220 | n => n, fun | n => n⟩
theorem Tryz.Uu : Go.Proofs.SlLaysZ.n6 Tryz.prog Tryz.KC := {
 mixed := by kernel_rfl
 f6 := ⟨Tryz.f107.name, by decide, Tryz.func107.trans (congrArg some (by kernel_rfl))⟩
 f8 := ⟨Tryz.f155.name, by decide, Tryz.func155.trans (congrArg some (by kernel_rfl))⟩
 f11 := ⟨Tryz.f186.name, by decide, Tryz.func186.trans (congrArg some (by kernel_rfl))⟩
 t0 := Tryz.underlying0
 a0 := Tryz.isAgg0
 z0 := Tryz.sizeOf0
 v0 := Tryz.zeroValue0
 t24 := Tryz.underlying22
 a24 := Tryz.isAgg22
 z24 := Tryz.sizeOf22
 v24 := Tryz.zeroValue22
 t26 := Tryz.underlying9
 a26 := Tryz.isAgg9
 z26 := Tryz.sizeOf9
 v26 := Tryz.zeroValue9
 t28 := Tryz.underlying165
 a28 := Tryz.isAgg165
 z28 := Tryz.sizeOf165
 v28 := Tryz.zeroValue165
 i26 := by kernel_rfl }
end Go.Proofs
namespace Go.Proofs.YtdflaaiondmjdaaGreatDoor
open Go.RowKit
section
open Go.RowKit Go.Sort
open Go.Maps (setOf)
def jD (l : List (List UInt8)) : List (List UInt8) := l.mergeSort fun x y => decide (x ≤ y)
theorem wG (l:List (List UInt8)):(jD l).length=l.length:=by simp [jD]
theorem MB (zs ys:List (List UInt8)) (rest:List Value) (h:ys.length=zs.length) :
  putCells encStr 0 ys.toArray (zs.map aL++rest).toArray=(ys.map aL++rest).toArray:=by
 apply Array.ext_getElem?
 intro k
 simp only [putCells,Array.getElem?_mapIdx,List.getElem?_toArray,Nat.zero_le,true_and,Nat.zero_add,List.size_toArray,Nat.sub_zero]
 by_cases hk:k < ys.length
 ·rw [List.getElem?_append_left (by simpa using h▸hk),List.getElem?_append_left (by simpa using hk)]
  have hk':k < zs.length:=h▸hk
  simp [hk,List.getElem?_eq_getElem hk',aL,aT]
 ·rw [List.getElem?_append_right (by simp; omega),List.getElem?_append_right (by simp; omega)]
  have hk':¬ k < zs.length:=om
  simp [hk',h]
theorem MC (b cap:Nat) (zs:List (List UInt8)) (rest:List Value) (t:TypeId) (w:World) (h:At w b t (zs.map aL++rest)) (hlen:zs.length < 4611686018427387904) :
  Calls Tryz.prog 132 #[.slice (some ⟨b,0,none⟩) zs.length cap] w fun e w'=>e = .returned (.tuple #[])∧Fr [b] w w'∧At w' b t ((jD zs).map aL++rest):=by
 have hH:Holds encStr w b 0 zs.toArray:=by
  intro j hj
  have hj':j < zs.length:=by simpa using hj
  rw [Nat.zero_add,h.cell,h.frozen]
  refine ⟨?_,rfl⟩
  rw [List.getElem?_append_left (by simpa using hj')]
  simp [getElem!_pos,hj',aL,aT]
 refine (Tryz.slices_Sort_string b 0 cap zs w hH h.lt hlen).mono ?_
 rintro e w' ⟨rfl,n,os,rfl⟩
 have hb:=h.lt
 refine ⟨rfl,⟨rfl,rfl,rfl,?_,?_⟩,?_⟩
 ·simp
 ·intro k hk hn
  simp only [grow,putRow,mapBlock,heap_ahead]
  rw [Array.getElem?_append_left (by simpa using hk),Array.getElem?_modify,if_neg (by simpa using Ne.symm (by simpa using hn))]
 ·unfold At at h ⊢
  simp only [grow,putRow,mapBlock,heap_ahead]
  rw [Array.getElem?_append_left (by simpa using hb),Array.getElem?_modify,if_pos rfl,h]
  simp only [Option.map_some,onCells]
  rw [show (zs.mergeSort fun x y=>decide (x≤y))=jD zs from rfl,MB zs (jD zs) rest (wG zs)]
def fD (w : World) (b : Nat) (S : List (List UInt8)) : Prop := w.ownsMap (H := Unit) Tryz.prog 9 (plainElem Tryz.prog 4) b S.length (setOf (.lit (.bool true)) (S.map Lit.string))
theorem fD.new (w:World):fD (w.alloc (.map #[] 0)) w.heap.size []:=World.ownsMap_made w _ _ _
theorem fD.lt {w:World} {b:Nat} {S:List (List UInt8)} (h:fD w b S):b < w.heap.size:=World.ownsMap.lt h
theorem fD.grown {w w':World} {b:Nat} {S:List (List UInt8)} {row:Option Nat} (h:fD w b S) (hg:w.grownBy w' row) (hne:some b≠row):fD w' b S:=World.ownsMap.kept h hg hne
theorem fD.fr {w w':World} {b:Nat} {S:List (List UInt8)} {T:List Nat} (h:fD w b S) (hf:Fr T w w') (hb:b∉T):fD w' b S:=by
 obtain ⟨es,clock,h1,h2⟩:=h
 exact ⟨es,clock,by rw [hf.block b (Array.getElem?_eq_some_iff.1 h1).1 hb]; exact h1,h2⟩
theorem fD.vG {w:World} {b b':Nat} {S:List (List UInt8)} {t:TypeId} {l:List Value} (h:fD w b S) (h':At w b' t l):b≠b':=by
 rintro rfl
 obtain ⟨es,clock,h1,_⟩:=h
 unfold At at h'
 rw [h1] at h'
 cases h'
theorem Ck (p:List UInt8) (hp:p.length≤maxLen):keyOf Tryz.prog 9 (vS p)=some (.string p):=by
 have hs:(aT p).size=p.length:=by simp [aT,ByteArray.size]
 exact WideMaps.keyOf_string_mk Tryz.underlying9 (s:=aT p) (by rw [hs]; exact hp)
theorem FV (u z:DataW Unit) (p:List UInt8):∀ R:List (List UInt8),(setOf u (R.reverse.map Lit.string)).atKey (.string p) z=if R.contains p then u else z
 | []=>rfl
 | x::R=>by
   have hm:Maps.IsMap (setOf u (R.reverse.map Lit.string)):=(Maps.tidy_setOf u _ (by intro y hy; obtain ⟨q,_,rfl⟩:=List.mem_map.1 hy; exact True.intro)).isMap
   rw [List.reverse_cons,List.map_append,List.map_cons,List.map_nil,Maps.setOf_snoc]
   by_cases hx:p=x
   ·subst hx
    have hk:WideAt.IsKeyLit (Lit.string p):=True.intro
    rw [Maps.atKey_put_same hm hk]
    simp
   ·rw [Maps.atKey_put_other (fun e=>hx (by injection e)),FV u z p R]
    have:(p == x)=false:=by simpa using hx
    simp only [List.contains_cons,this,Bool.false_or]
theorem fD.lookup {w:World} {b:Nat} {S:List (List UInt8)} (h:fD w b S) (p:List UInt8) (hp:p.length≤maxLen) :
  (Instr.lookup 147 (.map (some b)) (vS p) false).run Tryz.prog w = .ok (.bool (S.contains p)) w:=by
 have he:Tryz.prog.underlying 4=some .bool:=Tryz.underlying4
 obtain ⟨v,ps,hrun,hv⟩:=World.ownsMap.lookup h (Maps.string_keyed Tryz.underlying9) Tryz.underlying147 (z:=.bool false) kr (plainElem_bool he false) (Ck p hp)
 have e:=FV (.lit (.bool true)) (.lit (.bool false)) p S.reverse
 rw [List.reverse_reverse,List.contains_reverse] at e
 rw [e] at hv
 rw [hrun]
 unfold plainElem at hv
 rw [he] at hv
 cases v with
 | bool x =>
   simp only [Option.some.injEq,Prod.mk.injEq] at hv
   cases hS:S.contains p with
   | true=>rw [hS] at hv; simp at hv; rw [hv.1]
   | false=>rw [hS] at hv; simp at hv; rw [hv.1]
 | _=>simp at hv
theorem fD.KD {w:World} {b:Nat} {S:List (List UInt8)} {p:List UInt8} (h:w.ownsMap (H:=Unit) Tryz.prog 9 (plainElem Tryz.prog 4) b (S.length+1) ((setOf (.lit (.bool true)) (S.map Lit.string)).put (.string p) (.lit (.bool true)))):fD w b (S++[p]):=by
 unfold fD
 rw [List.map_append,List.map_cons,List.map_nil,Maps.setOf_snoc,List.length_append]
 exact h
def aN (b : Nat) (S : List (List UInt8)) : Ch where
 fp := [b]
 holds w := fD w b S
 ok w w' hb h := by
  obtain ⟨es, clock, h1, h2⟩ := h
  exact ⟨es, clock, (hb b (by simp)).trans h1, h2⟩
 lt w h c hc := by
  rw [List.mem_singleton] at hc
  subst hc
  exact h.lt
section
variable {Q : Exit → Act → World → Prop} {n : Nat} {w0 : World} {F : List Nat} {E : cH} {cs : List Ch} {X K : Act → World → Prop} {o : Oper} {d : Nat}
theorem nH {t:TypeId} (ho:o.op = .makeMap t none) (hd:o.dst=some d) (hk:bN n E o=true) (h:∀ b,St n w0 F ((d,.map (some b))::E) (cs++[aN b []]) K):cL Tryz.prog Q n w0 F E cs o K :=
 nW hd hk fun w hM=>by
  refine ⟨.map (some w.heap.size),w.alloc (.map #[] 0),_,?_,hM.push (c:=aN w.heap.size []) ((Fr.refl _ _).alloc _) (fD.new w) (by simp [aN]) (by simp [aN]),h _⟩
  unfold execOp
  simp only [ho,Option.map_none,Sem.run_bind,run_makeMap,Result.andThen_ok]
  rfl
theorem MD {x y:Operand} {b:Nat} {S:List (List UInt8)} {p:List UInt8} (i:Nat) (ho:o.op = .lookup 147 x y false) (hx:aM E x=some (.map (some b))) (hy:aM E y=some (vS p)) (hi:cs[i]?=some (aN b S)) (hp:p.length≤1099511627776):cC Tryz.prog w0 F cs E o (.bool (S.contains p)):=fun w hM=>by
 have h:fD w b S:=hM.at hi
 have hr:=h.lookup p (by unfold maxLen; omega)
 unfold execOp
 simp only [ho,bG hx,bG hy,Sem.run_bind,hr]
 rfl
theorem Cl {x y v:Operand} {b:Nat} {S:List (List UInt8)} {p:List UInt8} (i:Nat) (ho:o.op = .mapUpdate 147 x y v) (hd:o.dst=none) (hk:bN n E o=true) (hx:aM E x=some (.map (some b))) (hy:aM E y=some (vS p)) (hv:aM E v=some bT) (hi:cs[i]?=some (aN b S)) (hp:p.length≤1099511627776) (hS:S.length≤1099511627776)
  (h:St n w0 F E (cs.set i (aN b (S++[p]))) K):cL Tryz.prog Q n w0 F E cs o K :=
 Bj hd hk fun w hM=>by
  have hs:fD w b S:=hM.at hi
  obtain ⟨w',hrun,r1,r2⟩:=World.ownsMap.update hs (Maps.string_keyed Tryz.underlying9) Tryz.underlying147 (by unfold maxLen; omega) (Ck p (by unfold maxLen; omega)) (plainElem_bool Tryz.underlying4 true)
  have hf:Fr (aN b S).fp w w':=⟨r2.os,r2.tape,r2.output,r2.size,fun k hk' hn=>r2.block k hk' (fun e=>by
   injection e with e
   exact hn (by simp [aN,e]))⟩
  refine ⟨w',_,?_,hM.swap i hi (c':=aN b (S++[p])) hf (fD.KD r1) (fun c hc=>.inl hc) (by simp [aN]),h⟩
  unfold execOp
  simp only [ho,bG hx,bG hy,bG hv,Sem.run_bind,hrun]
  rfl
end
end
section
theorem Cm {l:List Bool} {i:Nat} {b:Bool} (h:l[i]?=some b):(BB l)[i]?=some (.bool b):=by simp [BB,h]
theorem FW (l:List Bool) (i:Nat) (b:Bool):(BB l).set i (.bool b)=BB (l.set i b):=by simp [BB,List.map_set]
theorem ME (n:Nat):madeCells #[.bool false] (n*1)=(BB (List.replicate n false)).toArray:=by
 apply Array.ext_getElem?
 intro i
 rw [show (BB (List.replicate n false)).toArray[i]?=(BB (List.replicate n false))[i]? from List.getElem?_toArray ..]
 by_cases h:i < n
 ·have e1:(madeCells #[.bool false] (n*1))[i]?=some (#[Value.bool false][i % 1]!):=by
   unfold madeCells
   rw [Array.getElem?_map,Array.getElem?_range,if_pos om]
   rfl
  rw [e1,Nat.mod_one]
  simp [BB,h]
 ·rw [Array.getElem?_eq_none (by rw [size_madeCells]; omega),List.getElem?_eq_none (by simp [BB]; omega)]
theorem MF (n:Nat) (hn:n≤3072) (w:World):(Instr.makeSlice 191 (vi (n:Int)) (vi (n:Int))).run Tryz.prog w = .ok (.slice (some ⟨w.heap.size,0,none⟩) n n) (w.alloc (.cells (BB (List.replicate n false)).toArray 4)):=by
 have hinfo:(Tryz.prog.info? 4).map (fun i=>(i.zero,i.size,i.bytes))=some (some bF,1,1):=by kernel_rfl
 obtain ⟨i,hi,hz,hsz,hby⟩:=info_parts hinfo
 have:=run_make (P:=Tryz.prog) w 191 4 i _ Tryz.underlying191 hi hz .i64 .i64 (n:Int) (n:Int) om om (by rw [hby]; omega) om
 rw [hsz,Int.toNat_natCast] at this
 rw [this,← ME]
 rfl
theorem eM:jX Tryz.prog 22 9 (.string ⟨#[]⟩) 1 16:=⟨Tryz.underlying22,kr,rfl,om,om⟩
def wH (w : World) (A1 A2 : Option Addr) : Prop := (∀ a, A1 = some a → w.heap.size ≤ a.block) ∧ (∀ a, A2 = some a → w.heap.size ≤ a.block) ∧ ∀ a b, A1 = some a → A2 = some b → a.block ≠ b.block
theorem FX {w wx:World} {e e':TypeId} {sz n c n' c':Nat} {A A':Option Addr} {xs ys:List Value} (h1:wx.ownsRow w.heap.size e sz (.slice A n c) n xs) (h2:wx.ownsRow w.heap.size e' sz (.slice A' n' c') n' ys) (hs:∀ g,(Value.slice A n c).ownBlock=some g→(Value.slice A' n' c').ownBlock≠some g):wH w A A':=by
 refine ⟨fun a ha=>?_,fun a ha=>?_,fun a b ha hb e=>?_⟩
 ·subst ha; exact (h1.lt a.block rfl).1
 ·subst ha; exact (h2.lt a.block rfl).1
 ·subst ha hb; exact hs a.block rfl (by rw [e]; rfl)
def MG (t : BT) (w : World) (e : Ending) (w' : World) : Prop :=
 Fr [] w w' ∧ match t.keys with
  | none => e = .returned (.tuple #[.slice none 0 0, .slice none 0 0, Value.int .i64 10])
  | some p => ∃ A1 c1 A2 c2, e = .returned (.tuple #[.slice A1 p.1.length c1, .slice A2 p.2.length c2, Value.int .i64 0]) ∧ aH w' A1 (p.1.map aL) ∧ aH w' A2 (p.2.map aL) ∧ wH w A1 A2
structure KS (w wx : World) (bt bc cap : Nat) (rest : List Value) (bp bm : Nat) (v9 v10 : Value) (t : BT) (pl : List Bool) (tk ad rm : List (List UInt8)) : Prop where
 fr : Fr [] w wx
 tab : eD wx bt bc cap rest t
 pur : At wx bp 4 (BB pl)
 set : fD wx bm tk.reverse
 add : wx.ownsRow w.heap.size 9 1 v9 ad.length (ad.map aL)
 rem : wx.ownsRow w.heap.size 9 1 v10 rm.length (rm.map aL)
 sep : v9.ownBlock = none ∨ v9.ownBlock ≠ v10.ownBlock
 lt : w.heap.size ≤ bt
 lc : w.heap.size ≤ bc
 lp : w.heap.size ≤ bp
 lm : w.heap.size ≤ bm
theorem mX {w:World} {base:Nat} {e t:TypeId} {sz n:Nat} {v:Value} {xs l:List Value} {b:Nat} (h:w.ownsRow base e sz v n xs) (ha:At w b t l) (hne:e≠t):some b≠v.ownBlock:=by
 intro hb
 rcases h.2 with ⟨rfl,_⟩ | ⟨g,cap,cur,rfl,_,hg,_⟩
 ·simp [Value.ownBlock] at hb
 ·have:some b=some g:=hb
  injection this with this
  subst this
  unfold At at ha
  rw [hg] at ha
  simp only [Option.some.injEq,Obj.cells.injEq] at ha
  exact hne ha.2.1
theorem zA {w:World} {base:Nat} {e:TypeId} {sz n:Nat} {v:Value} {xs:List Value} {b:Nat} {S:List (List UInt8)} (h:w.ownsRow base e sz v n xs) (ha:fD w b S):some b≠v.ownBlock:=by
 intro hb
 rcases h.2 with ⟨rfl,_⟩ | ⟨g,cap,cur,rfl,_,hg,_⟩
 ·simp [Value.ownBlock] at hb
 ·have:some b=some g:=hb
  injection this with this
  subst this
  obtain ⟨es,clock,h1,_⟩:=ha
  rw [hg] at h1
  cases h1
theorem At.grown {w w':World} {b:Nat} {t:TypeId} {l:List Value} {row:Option Nat} (h:At w b t l) (hg:w.grownBy w' row) (hne:some b≠row):At w' b t l:=(hg.block b h.lt hne).trans h
theorem eD.grown {w w':World} {bt bc cap:Nat} {rest:List Value} {t:BT} {row:Option Nat} (h:eD w bt bc cap rest t) (hg:w.grownBy w' row) (h1:some bt≠row) (h2:some bc≠row):eD w' bt bc cap rest t :=
 ⟨h.tab.grown hg h1,h.cells.grown hg h2,h.ok,h.size,h.cap⟩
section
variable {w wx w' : World} {bt bc cap : Nat} {rest : List Value} {bp bm : Nat} {v9 v10 : Value} {t : BT} {pl : List Bool} {tk ad rm : List (List UInt8)}
theorem KS.dD (h:KS w wx bt bc cap rest bp bm v9 v10 t pl tk ad rm) (hf:Fr [] wx w'):KS w w' bt bc cap rest bp bm v9 v10 t pl tk ad rm :=
 ⟨h.fr.trans hf,h.tab.fr hf si si,h.pur.fr hf si,h.set.fr hf si,dY h.add hf si,dY h.rem hf si,h.sep,h.lt,h.lc,h.lp,h.lm⟩
theorem KS.map {key:List UInt8} (h:KS w wx bt bc cap rest bp bm v9 v10 t pl tk ad rm) (hg:wx.grownBy w' (some bm)) (hs:fD w' bm (tk.reverse++[key])):KS w w' bt bc cap rest bp bm v9 v10 t pl (key::tk) ad rm:=by
 have n1:=h.set.vG h.tab.tab
 have n2:=h.set.vG h.tab.cells
 have n3:=h.set.vG h.pur
 have lm:=h.lm
 refine ⟨h.fr.grown hg (fun k e=>.inr (by injection e; omega)),h.tab.grown hg (fun e=>n1 (by injection e with e; exact e.symm)) (fun e=>n2 (by injection e with e; exact e.symm)),h.pur.grown hg (fun e=>n3 (by injection e with e; exact e.symm)),
  by rw [List.reverse_cons]; exact hs,h.add.kept hg ?_,h.rem.kept hg ?_,h.sep,h.lt,h.lc,h.lp,h.lm⟩
 ·cases hb:v9.ownBlock with
  | none=>exact .inl rfl
  | some g=>exact .inr (fun e=>zA h.add h.set (by rw [hb,← e]))
 ·cases hb:v10.ownBlock with
  | none=>exact .inl rfl
  | some g=>exact .inr (fun e=>zA h.rem h.set (by rw [hb,← e]))
theorem FY {base:Nat} {e:TypeId} {sz n:Nat} {v:Value} {xs:List Value} (h:wx.ownsRow base e sz v n xs):∀ k,v.ownBlock=some k→base≤k:=fun k hk=>(h.lt k hk).1
theorem KS.Uv {v9':Value} {key:List UInt8} (h:KS w wx bt bc cap rest bp bm v9 v10 t pl tk ad rm) (hown:w'.ownsRow w.heap.size 9 1 v9' (ad.length+1) (ad.map aL++[aL key])) (hg:wx.grownBy w' v9.ownBlock) (hb:v9'.ownBlock=v9.ownBlock∨v9'.ownBlock=some (wx.heap.size+1)) :
  KS w w' bt bc cap rest bp bm v9' v10 t pl tk (ad++[key]) rm:=by
 have hr:w'.ownsRow w.heap.size 9 1 v10 rm.length (rm.map aL):=by
  refine h.rem.kept hg ?_
  cases hq:v10.ownBlock with
  | none=>exact .inl rfl
  | some g =>
    refine .inr (fun e=>?_)
    rcases h.sep with h0 | h0
    ·rw [h0] at e; cases e
    ·exact h0 (by rw [hq]; exact e.symm)
 refine ⟨h.fr.grown hg (fun k e=>.inr (FY h.add k e)),h.tab.grown hg (mX h.add h.tab.tab (by decide)) (mX h.add h.tab.cells (by decide)),h.pur.grown hg (mX h.add h.pur (by decide)),h.set.grown hg (zA h.add h.set),by rw [List.length_append,List.map_append]; exact hown,hr,?_,h.lt,h.lc,h.lp,h.lm⟩
 rcases hb with e | e
 ·rw [e]; exact h.sep
 ·refine .inr ?_
  rw [e]
  intro e2
  have:=(h.rem.lt _ e2.symm).2
  omega
theorem KS.Uw {v10':Value} {key:List UInt8} (h:KS w wx bt bc cap rest bp bm v9 v10 t pl tk ad rm) (hown:w'.ownsRow w.heap.size 9 1 v10' (rm.length+1) (rm.map aL++[aL key])) (hg:wx.grownBy w' v10.ownBlock) (hb:v10'.ownBlock=v10.ownBlock∨v10'.ownBlock=some (wx.heap.size+1)) :
  KS w w' bt bc cap rest bp bm v9 v10' t pl tk ad (rm++[key]):=by
 have hr:w'.ownsRow w.heap.size 9 1 v9 ad.length (ad.map aL):=by
  refine h.add.kept hg ?_
  cases hq:v9.ownBlock with
  | none=>exact .inl rfl
  | some g =>
    refine .inr (fun e=>?_)
    rcases h.sep with h0 | h0
    ·rw [h0] at hq; cases hq
    ·exact h0 (by rw [hq]; exact e)
 refine ⟨h.fr.grown hg (fun k e=>.inr (FY h.rem k e)),h.tab.grown hg (mX h.rem h.tab.tab (by decide)) (mX h.rem h.tab.cells (by decide)),h.pur.grown hg (mX h.rem h.pur (by decide)),h.set.grown hg (zA h.rem h.set),hr,by rw [List.length_append,List.map_append]; exact hown,?_,h.lt,h.lc,h.lp,h.lm⟩
 rcases hb with e | e
 ·rcases h.sep with h0 | h0
  ·exact .inl h0
  ·exact .inr (by rw [e]; exact h0)
 ·cases hq:v9.ownBlock with
  | none=>exact .inl rfl
  | some g =>
    refine .inr ?_
    rw [e]
    intro e2
    injection e2 with e2
    have:=(h.add.lt _ hq).2
    omega
theorem KS.KE {t':BT} (h:KS w wx bt bc cap rest bp bm v9 v10 t pl tk ad rm) (hf:Fr [bc] wx w') (ht:eD w' bt bc cap rest t'):KS w w' bt bc cap rest bp bm v9 v10 t' pl tk ad rm:=by
 have lc:=h.lc
 have n1:bp≠bc:=h.pur.ne h.tab.cells (by decide)
 have n2:=h.set.vG h.tab.cells
 refine ⟨h.fr.trans' hf (by simp; omega),ht,h.pur.fr hf (by simpa using n1),h.set.fr hf (by simpa using n2),dY h.add hf ?_,dY h.rem hf ?_,h.sep,h.lt,h.lc,h.lp,h.lm⟩
 ·intro g hg hm
  simp at hm
  subst hm
  exact mX h.add h.tab.cells (by decide) hg.symm
 ·intro g hg hm
  simp at hm
  subst hm
  exact mX h.rem h.tab.cells (by decide) hg.symm
theorem KS.KF (h:KS w wx bt bc cap rest bp bm v9 v10 t pl tk ad rm) (i:Nat) (b:Bool):KS w (wx.setCell ⟨bp,i,none⟩ (.bool b)) bt bc cap rest bp bm v9 v10 t (pl.set i b) tk ad rm:=by
 have lp:=h.lp
 have n1:bt≠bp:=h.tab.tab.ne h.pur (by decide)
 have n2:bc≠bp:=h.tab.cells.ne h.pur (by decide)
 have n3:=h.set.vG h.pur
 have hf:Fr [bp] wx (wx.setCell ⟨bp,i,none⟩ (.bool b)):=(Fr.refl _ _).setCell si _
 refine ⟨h.fr.setCell (.inr h.lp) _,h.tab.fr hf (by simpa using n1) (by simpa using n2),by rw [← FW]; exact h.pur.set i _,h.set.fr hf (by simpa using n3),dY h.add hf ?_,dY h.rem hf ?_,h.sep,h.lt,h.lc,h.lp,h.lm⟩
 ·intro g hg hm
  simp at hm
  subst hm
  exact mX h.add h.pur (by decide) hg.symm
 ·intro g hg hm
  simp at hm
  subst hm
  exact mX h.rem h.pur (by decide) hg.symm
end
theorem wI {w:World} {base n c:Nat} {A:Option Addr} {ss:List (List UInt8)} (h:w.ownsRow base 9 1 (.slice A n c) n (ss.map aL)) (hn:n=ss.length) (hl:n≤3072) :
  Calls Tryz.prog 132 #[.slice A n c] w fun e w'=>e = .returned (.tuple #[])∧Fr (Value.slice A n c).ownBlock.toList w w'∧aH w' A ((jD ss).map aL):=by
 by_cases h0:n=0
 ·subst h0
  have e:ss=[]:=List.eq_nil_of_length_eq_zero hn.symm
  subst e
  refine (Tryz.slices_Sort_string_none A c w).mono ?_
  rintro e w' ⟨rfl,rfl⟩
  exact ⟨rfl,Fr.refl _ _,fun i u hu=>by simp [jD] at hu⟩
 ·obtain ⟨g,cap,rest,hv,_,_,ha,_,_⟩:=Eu h om
  simp only [Value.slice.injEq] at hv
  obtain ⟨rfl,_,rfl⟩:=hv
  subst hn
  refine (MC g c ss rest 9 w ha om).mono ?_
  rintro e w' ⟨rfl,hf,ha'⟩
  refine ⟨rfl,hf,fun i u hu=>⟨g,0,rfl,ha'.lt,?_⟩⟩
  rw [Nat.zero_add,ha'.cell,List.getElem?_append_left (List.getElem?_eq_some_iff.1 hu).1]
  exact hu
theorem KS.xU {w wx:World} {bt bc cap:Nat} {rest:List Value} {bp bm:Nat} {A9:Option Addr} {a9 c9:Nat} {v10:Value} {t:BT} {pl:List Bool} {tk ad rm:List (List UInt8)} (h:KS w wx bt bc cap rest bp bm (.slice A9 a9 c9) v10 t pl tk ad rm):wx.ownsRow w.heap.size 9 1 (.slice A9 a9 c9) a9 (ad.map aL):=by
 obtain ⟨A,c,e⟩:=iT h.add
 simp only [Value.slice.injEq] at e
 have h1:=h.add
 rw [← e.2.1] at h1
 exact h1
theorem KS.AT {w wx:World} {bt bc cap:Nat} {rest:List Value} {bp bm:Nat} {A10:Option Addr} {a10 c10:Nat} {v9:Value} {t:BT} {pl:List Bool} {tk ad rm:List (List UInt8)} (h:KS w wx bt bc cap rest bp bm v9 (.slice A10 a10 c10) t pl tk ad rm):wx.ownsRow w.heap.size 9 1 (.slice A10 a10 c10) a10 (rm.map aL):=by
 obtain ⟨A,c,e⟩:=iT h.rem
 simp only [Value.slice.injEq] at e
 have h1:=h.rem
 rw [← e.2.1] at h1
 exact h1
theorem FZ {w wx w':World} {v:Value} {e:TypeId} {sz n:Nat} {xs:List Value} (hf:Fr [] w wx) (h:wx.ownsRow w.heap.size e sz v n xs) (hf':Fr v.ownBlock.toList wx w'):Fr [] w w':=by
 refine hf.trans' hf' (fun x hx=>.inr ?_)
 cases hb:v.ownBlock with
 | none=>rw [hb] at hx; simp at hx
 | some g =>
   rw [hb] at hx
   simp at hx
   subst hx
   exact (h.lt x hb).1
theorem KS.KG {w wx w':World} {bt bc cap:Nat} {rest:List Value} {bp bm:Nat} {A9 A10:Option Addr} {a9 c9 a10 c10:Nat} {t:BT} {pl:List Bool} {tk ad rm:List (List UInt8)} (h:KS w wx bt bc cap rest bp bm (.slice A9 a9 c9) (.slice A10 a10 c10) t pl tk ad rm) (_:a9=ad.length) (_:a10=rm.length)
  (hf:Fr (Value.slice A9 a9 c9).ownBlock.toList wx w') (hr:aH w' A9 ((jD ad).map aL)):Fr [] w w'∧aH w' A9 ((jD ad).map aL)∧w'.ownsRow w.heap.size 9 1 (.slice A10 a10 c10) a10 (rm.map aL):=by
 refine ⟨FZ h.fr h.add hf,hr,dY h.AT hf ?_⟩
 intro g hg hm
 cases hb:(Value.slice A9 a9 c9).ownBlock with
 | none=>rw [hb] at hm; simp at hm
 | some g9 =>
   rw [hb] at hm
   simp at hm
   subst hm
   rcases h.sep with h0 | h0
   ·rw [h0] at hb; cases hb
   ·exact h0 (by rw [hb,hg])
theorem Ga {w wx w':World} {A9 A10:Option Addr} {a9 c9 a10 c10:Nat} {rm:List (List UInt8)} {xs ys:List Value} (hf0:Fr [] w wx) (h:wx.ownsRow w.heap.size 9 1 (.slice A10 a10 c10) a10 (rm.map aL)) (hsep:∀ g,(Value.slice A9 a9 c9).ownBlock=some g→(Value.slice A10 a10 c10).ownBlock≠some g)
  (hr:aH wx A9 xs) (hf:Fr (Value.slice A10 a10 c10).ownBlock.toList wx w') (hr2:aH w' A10 ys):Fr [] w w'∧aH w' A9 xs∧aH w' A10 ys:=by
 refine ⟨FZ hf0 h hf,hr.fr hf ?_,hr2⟩
 intro b o e hm
 subst e
 cases hb:(Value.slice A10 a10 c10).ownBlock with
 | none=>rw [hb] at hm; simp at hm
 | some g =>
   rw [hb] at hm
   simp at hm
   subst hm
   exact hsep b rfl hb
theorem MH {t:BT} {i:Nat} {c:BC} (hc:t.cells[i]?=some c):(BB (t.cG.take i++List.replicate (t.cells.length - i) false)).set i (.bool (c.pure t.seed))=BB (t.cG.take (i+1)++List.replicate (t.cells.length - (i+1)) false):=by
 have h1:=(List.getElem?_eq_some_iff.1 hc).1
 have hp:=BT.Eh hc
 obtain ⟨h2,e2⟩:=List.getElem?_eq_some_iff.1 hp
 have hl:(t.cG.take i).length=i:=by rw [List.length_take]; omega
 rw [FW,List.set_append_right _ _ om,hl,Nat.sub_self]
 obtain ⟨m,hm⟩:∃ m,t.cells.length - i=m+1:=⟨t.cells.length - i - 1,om⟩
 rw [hm,List.replicate_succ,List.set_cons_zero,show t.cells.length - (i+1)=m by omega,List.take_succ_eq_append_getElem h2,e2,List.append_assoc]
 rfl
set_option maxHeartbeats 8000000 in
theorem Gb (bt0 bc0 cap0:Nat) (rest0:List Value) (t:BT) (w:World) (hv:cI w) (ht:eD w bt0 bc0 cap0 rest0 t) :
  Calls Tryz.prog 79 #[vP bt0 0] w (MG t w):=by
 obtain ⟨n,HN⟩:∃ n,Hid (n=t.cells.length):=⟨_,rfl⟩
 have hb:=gV ht.size
 have n3:3≤n:=by rw [HN.out]; exact hb.1
 have n4:n≤3072:=by rw [HN.out]; exact hb.2.1
 have H:=Lib.hid (And.intro hv ht)
 have HCL:=Lib.hid (FR bt0 bc0 cap0 rest0 t w ht)
 clear hb hv ht
 have hmb:=MF n n4
 go_enter Tryz.func79,Tryz.ntmps79
 go_wp2_with fail
 refine HCL.out.mono ?_
 rintro e w1 ⟨bt,bc,cap,rest,rfl,hbt,hbc,hf1,ht1⟩
 have H1:=Lib.hid (And.intro hf1 ht1)
 have q0:w1.cell? ⟨bt,0,none⟩=some (.slice (some ⟨bc,0,none⟩) n cap):=by rw [ht1.tab.cell,HN.out]; rfl
 have hbtl:=ht1.tab.lt
 have hbcl:=ht1.cells.lt
 clear hf1 ht1 HCL
 go_wp2_with fail
 obtain ⟨bp,hbp⟩:∃ bp,bp=w1.heap.size:=⟨_,rfl⟩
 rw [← hbp]
 have HL0:Hid (Fr [] w1 (w1.alloc (.cells (BB (List.replicate n false)).toArray 4))∧At (w1.alloc (.cells (BB (List.replicate n false)).toArray 4)) bp 4 (BB (t.cG.take 0++List.replicate (t.cells.length - 0) false))) :=
  ⟨(Fr.refl _ _).alloc _,by rw [hbp,← HN.out]; exact At.new _ _ _⟩
 obtain ⟨W0,HW0⟩:∃ W0,Hid (W0=w1.alloc (.cells (BB (List.replicate n false)).toArray 4)):=⟨_,rfl⟩
 rw [← HW0.out] at HL0 ⊢
 have hbpl:w.heap.size≤bp:=by rw [hbp]; exact H1.out.1.size
 have hbpt:bt < bp:=by rw [hbp]; exact hbtl
 have hbpw:w1.heap.size≤bp:=om
 have hbpc:bc < bp:=by rw [hbp]; exact hbcl
 clear hmb HW0 q0 hbp
 go_wp2_with fail
 go_loopw [26] (fun s wx=>∃ i:Nat,i≤n∧s = .int .i64 i∧Hid (Fr [] w1 wx∧At wx bp 4 (BB (t.cG.take i++List.replicate (t.cells.length - i) false)))) (fun s _=>n - (intOf s).toNat)
 case atStart=>exact ⟨0,by omega,rfl,HL0⟩
 case round =>
  obtain ⟨i,hi,rfl,HR⟩:=hrel
  by_cases hlt:i < n
  ·obtain ⟨c,hc⟩:∃ c,t.cells[i]?=some c:=⟨_,List.getElem?_eq_getElem (by rw [← HN.out]; exact hlt)⟩
   have HP:=Lib.hid (Cj bt bc cap rest t i c wr (H.out.1.fr (H1.out.1.trans HR.out.1) si si) (H1.out.2.fr HR.out.1 si si) hc)
   have HST:=Lib.hid (MH hc)
   obtain ⟨b,HB⟩:∃ b,Hid (b=c.pure t.seed):=⟨_,rfl⟩
   rw [← HB.out] at HP HST
   have hiI:(i:Int) < (n:Int):=om
   clear hc
   go_wp2_with fail
   refine HP.out.mono ?_
   rintro e w2 ⟨rfl,hf2⟩
   have HR2:Hid (Fr [] w1 w2∧At w2 bp 4 (BB (t.cG.take i++List.replicate (t.cells.length - i) false))):=⟨HR.out.1.trans hf2,HR.out.2.fr hf2 si⟩
   have cz:∃ z,w2.cell? ⟨bp,i,none⟩=some (.bool z):=by
    refine ⟨false,?_⟩
    rw [HR2.out.2.cell]
    apply Cm
    rw [List.getElem?_append_right (by rw [List.length_take,BT.pY]; omega),List.length_take,BT.pY,List.getElem?_replicate,if_pos (by rw [← HN.out]; omega)]
   obtain ⟨z,cz⟩:=cz
   have fz:=HR2.out.2.frozen i
   have HNN:Hid (Fr [] w1 (w2.setCell ⟨bp,i,none⟩ (.bool b))∧At (w2.setCell ⟨bp,i,none⟩ (.bool b)) bp 4 (BB (t.cG.take (i+1)++List.replicate (t.cells.length - (i+1)) false))):=by
    exact ⟨HR2.out.1.setCell (.inr hbpw) _,by rw [← HST.out]; exact HR2.out.2.set i _⟩
   clear hf2 HP
   go_wp2_with fail
   go_roundw
   case rel =>
    first
     | exact ⟨i+1,by omega,by go_num,HNN⟩
     | ((repeat apply Exists.intro); exact ⟨⟨i+1,by omega,by go_num,HNN⟩,rfl⟩)
   case measure=>simp [intOf] <;> omega
  ·obtain rfl:i=n:=om
   have HZ:Hid (Fr [] w wr∧eD wr bt bc cap rest t∧At wr bp 4 (BB t.cG)):=by
    refine ⟨H1.out.1.trans HR.out.1,H1.out.2.fr HR.out.1 si si,?_⟩
    have h1:=HR.out.2
    rw [← HN.out,Nat.sub_self,List.replicate_zero,List.append_nil,List.take_of_length_le (by rw [BT.pY,← HN.out]; exact Nat.le_refl _)] at h1
    exact h1
   obtain ⟨wa,HWA⟩:∃ wa,Hid (wa=wr):=⟨_,rfl⟩
   rw [← HWA.out] at HZ ⊢
   clear HWA HR
   have hmm:=@run_makeMap Tryz.prog
   have q0:wa.cell? ⟨bt,0,none⟩=some (.slice (some ⟨bc,0,none⟩) i cap):=by rw [HZ.out.2.1.tab.cell,HN.out]; rfl
   have hbta:=HZ.out.2.1.tab.lt
   have hnem:wa.heap.size≠bt:=om
   have hnem':bt≠wa.heap.size:=om
   go_wp2_with fail
   obtain ⟨bm,hbm⟩:∃ bm,bm=wa.heap.size:=⟨_,rfl⟩
   rw [← hbm]
   have HK0:Hid (KS w (wa.alloc (.map #[] 0)) bt bc cap rest bp bm nS nS t t.cG [] [] []):=by
    refine ⟨HZ.out.1.alloc _,HZ.out.2.1.fr ((Fr.refl [] _).alloc _) si si,HZ.out.2.2.alloc _,by rw [hbm]; exact fD.new wa,⟨rfl,.inl ⟨rfl,rfl⟩⟩,⟨rfl,.inl ⟨rfl,rfl⟩⟩,.inl rfl,hbt,hbc,hbpl,?_⟩
    rw [hbm]
    exact HZ.out.1.size
   generalize wa.alloc (.map #[] 0)=W0 at HK0 ⊢
   clear hmm q0 hbta hnem hnem' hbm HZ
   obtain ⟨n,hni⟩:∃ n,n=i:=⟨_,rfl⟩
   rw [← hni]
   subst hni
   go_loopw [9,10,42] (fun v9 v10 s42 wx=>∃ (k:Nat) (A9:Option Addr) (a9 c9:Nat) (A10:Option Addr) (a10 c10:Nat) (s:dZ),k≤n∧s42 = .int .i64 k∧v9 = .slice A9 a9 c9∧v10 = .slice A10 a10 c10∧a9≤k∧a10≤k∧s.taken.length≤k ∧
    Hid (a9=s.added.length∧a10=s.removed.length∧s.t.cells.length=n∧s.t.seed=t.seed∧KS w wx bt bc cap rest bp bm v9 v10 s.t s.t.cG s.taken s.added s.removed∧fS n ⟨t,[],[],[]⟩=fS (n - k) s)) (fun _ _ s42 _=>n - (intOf s42).toNat)
   case atStart=>exact ⟨0,none,0,0,none,0,0,⟨t,[],[],[]⟩,by omega,rfl,rfl,rfl,by omega,by omega,by simp,rfl,rfl,HN.out.symm,rfl,HK0.out,rfl⟩
   case round =>
    obtain ⟨k,A9,a9,c9,A10,a10,c10,s,hk,rfl,rfl,rfl,ha9,ha10,htk,HR⟩:=hrel
    obtain ⟨wo,HWO⟩:∃ wo,Hid (wo=wr):=⟨_,rfl⟩
    rw [← HWO.out] at HR ⊢
    clear HWO
    by_cases hlt:k < n
    ·have HI:Hid (Calls Tryz.prog 128 #[.slice (some ⟨bp,0,none⟩) n n,.bool true] wo fun e w'=>e = .returned (Value.int .i64 (oL s.t.cG))∧wo=w'):=by
      have h1:=MA bp n s.t.cG wo HR.out.2.2.2.2.1.pur (by rw [BT.pY,HR.out.2.2.1]; exact n4)
      rw [BT.pY,HR.out.2.2.1] at h1
      exact h1
     have hkI:(k:Int) < (n:Int):=om
     cases hfst:s.t.first with
     | none =>
       have hix:oL s.t.cG = -1:=by rw [BT.Ky] at hfst; unfold oL; rw [hfst]
       rw [hix] at HI
       have HPE:Hid (fS n ⟨t,[],[],[]⟩=some s):=by show _=_; rw [HR.out.2.2.2.2.2]; exact FK _ s hfst
       clear hix hfst
       go_wp2_with fail
       refine HI.out.mono ?_
       rintro e w2 ⟨rfl,rfl⟩
       have HEM:=Lib.hid (FU bt bc cap rest s.t wo HR.out.2.2.2.2.1.tab)
       go_wp2_with fail
       refine HEM.out.mono ?_
       rintro e w3 ⟨rfl,hf3⟩
       have HK3:Hid (KS w w3 bt bc cap rest bp bm (.slice A9 a9 c9) (.slice A10 a10 c10) s.t s.t.cG s.taken s.added s.removed):=HR.out.2.2.2.2.1.dD hf3
       clear hf3 HEM
       cases hem:s.t.empty with
       | false =>
         have HRES:Hid (t.keys=none):=by show _=_; unfold BT.keys BT.raw; rw [← HN.out,HPE.out]; simp [hem]
         go_wp2_with fail
         go_ret3
         exact ⟨HK3.out.fr,by rw [HRES.out]; rfl⟩
       | true =>
         have HRES:Hid (t.keys=some (bM s.added,bM s.removed)):=by show _=_; unfold BT.keys BT.raw; rw [← HN.out,HPE.out]; simp [hem]
         have HS1:=Lib.hid (wI HK3.out.xU HR.out.1 om)
         go_wp2_with fail
         refine HS1.out.mono ?_
         rintro e w4 ⟨rfl,hf4,hr4⟩
         have HO4:Hid (Fr [] w w4∧aH w4 A9 ((jD s.added).map aL)∧w4.ownsRow w.heap.size 9 1 (.slice A10 a10 c10) a10 (s.removed.map aL)):=HK3.out.KG HR.out.1 HR.out.2.1 hf4 hr4
         have HSEP:Hid (∀ g,(Value.slice A9 a9 c9).ownBlock=some g→(Value.slice A10 a10 c10).ownBlock≠some g):=fun g hg e=>HK3.out.sep.elim (fun h0=>by rw [h0] at hg; cases hg) (fun h0=>h0 (by rw [hg,e]))
         have HFR:Hid (wH w A9 A10):=FX HK3.out.xU HK3.out.AT HSEP.out
         have HS2:=Lib.hid (wI HO4.out.2.2 HR.out.2.1 om)
         clear hf4 hr4 HS1
         go_wp2_with fail
         refine HS2.out.mono ?_
         rintro e w5 ⟨rfl,hf5,hr5⟩
         have HO5:Hid (Fr [] w w5∧aH w5 A9 ((jD s.added).map aL)∧aH w5 A10 ((jD s.removed).map aL)):=Ga HO4.out.1 HO4.out.2.2 HSEP.out HO4.out.2.1 hf5 hr5
         clear hf5 hr5 HS2
         go_wp2_with fail
         go_ret3
         refine ⟨HO5.out.1,?_⟩
         rw [HRES.out]
         refine ⟨A9,c9,A10,c10,?_,HO5.out.2.1,HO5.out.2.2,HFR.out⟩
         show _=Ending.returned (.tuple #[.slice A9 (jD s.added).length c9,.slice A10 (jD s.removed).length c10,vi 0])
         rw [wG,wG,← HR.out.1,← HR.out.2.1]
         rfl
     | some i =>
       have hix:oL s.t.cG=(i:Int):=by rw [BT.Ky] at hfst; unfold oL; rw [hfst]
       rw [hix] at HI
       obtain ⟨c,hc,hcp,hca⟩:=BZ hfst
       have hcok:=HR.out.2.2.2.2.1.tab.ok.cells c (List.mem_of_getElem? hc)
       have hin:i < n:=by rw [← HR.out.2.2.1]; exact (List.getElem?_eq_some_iff.1 hc).1
       have hinI:(i:Int) < (n:Int):=om
       obtain ⟨L,HL⟩:∃ L,Hid (L=c.cells):=⟨_,rfl⟩
       obtain ⟨key,HKEY⟩:∃ key,Hid (key=c.keys):=⟨_,rfl⟩
       have HKL:Hid (key.length=32):=by show key.length=32; rw [HKEY.out]; exact hcok.keys
       have hbcl:=HR.out.2.2.2.2.1.tab.cells.lt
       have hbtl:=HR.out.2.2.2.2.1.tab.tab.lt
       have HLX:Hid (L.length=34∧(∀ v∈L,v.oneCell'=true)∧∀ j v,L[j]?=some v→wo.cell? ⟨bc,i*34+j,none⟩=some v):=by
        show _∧_∧_
        rw [HL.out]
        refine ⟨BC.cells_len hcok,fun v hv=>tY (l:=[c]) v (by simpa [aU] using hv),fun j v hj=>?_⟩
        have hj34:=(List.getElem?_eq_some_iff.1 hj).1
        rw [BC.cells_len hcok] at hj34
        rw [HR.out.2.2.2.2.1.tab.cells.cell,jY HR.out.2.2.2.2.1.tab.ok.cells rest i c hc j hj34]
        exact hj
       have q0:wo.cell? ⟨bt,0,none⟩=some (.slice (some ⟨bc,0,none⟩) n cap):=by rw [HR.out.2.2.2.2.1.tab.tab.cell,← HR.out.2.2.1]; rfl
       obtain ⟨m,hm⟩:∃ m,n - k=m+1:=⟨n - k - 1,om⟩
       have HF:=Lib.hid (And.intro hfst (And.intro hc (And.intro hca (And.intro hcok hm))))
       have hcnt:=Ca hcp
       clear hix hfst hc hca hcok hm hcp
       go_wp2_with fail
       refine HI.out.mono ?_
       rintro e w2 ⟨rfl,rfl⟩
       go_upto_region 15 with (first
        | (refine nD rfl 183 (.tmp 53) rfl bc (i*34) rfl L _ (fun j v hj=>HLX.out.2.2 j v hj) Tryz.underlying183 rfl (by rw [HLX.out.1]; kernel_rfl) ?_)
        | (refine nQ rfl 183 (.tmp 12) (.tmp 54) rfl rfl 183 _ L rfl (by rw [HLX.out.1]; rfl) (by rw [HLX.out.1]; kernel_rfl) HLX.out.2.1 ?_; intro w2 hf2 ha2))
       obtain ⟨bx,hbx⟩:∃ bx,bx=wo.heap.size:=⟨_,rfl⟩
       rw [← hbx] at ha2 ⊢
       have HX:Hid (At w2 bx 183 c.cells):=by show At _ _ _ _; rw [← HL.out]; exact ha2
       have HK2:Hid (KS w w2 bt bc cap rest bp bm (.slice A9 a9 c9) (.slice A10 a10 c10) s.t s.t.cG s.taken s.added s.removed):=HR.out.2.2.2.2.1.dD hf2
       have hbx1:w.heap.size≤bx:=by rw [hbx]; exact HR.out.2.2.2.2.1.fr.size
       have hbxc:bc < bx:=om
       clear q0 hf2 ha2 hbx hbcl hbtl
       have hsl:∀ W:World,(Instr.sliceAt 134 (vP bx 1) none none none).run Tryz.prog W = .ok (.slice (some ⟨bx,1,none⟩) 32 32) W:=fun W=>by kernel_rfl
       have hst:(convert 23 9 (.slice (some ⟨bx,1,none⟩) 32 32)).run Tryz.prog w2 = .ok (vS key) w2:=by
        have h1:=rH (P:=Tryz.prog) (src:=23) (dst:=9) Tryz.underlying23 Tryz.underlying5 Tryz.underlying9 w2 (some ⟨bx,1,none⟩) 32 key (fun j v hj=>⟨bx,1,rfl,HX.out.lt,by
         rw [HX.out.cell,Nat.add_comm 1 j,BC.cells,List.getElem?_cons_succ,List.getElem?_append_left (by rw [← HKEY.out]; exact (List.getElem?_eq_some_iff.1 hj).1),← HKEY.out]
         exact hj⟩)
        rw [HKL.out] at h1
        exact h1
       obtain ⟨tw,HTW⟩:∃ tw,Hid (tw=s.taken.contains key):=⟨_,rfl⟩
       have hlk:(Instr.lookup 147 (.map (some bm)) (vS key) false).run Tryz.prog w2 = .ok (.bool tw) w2:=by
        have h1:=HK2.out.set.lookup key (by rw [HKL.out]; unfold maxLen; omega)
        rw [List.contains_reverse] at h1
        rw [h1,HTW.out]
       cases tw with
       | true =>
         have HRES:Hid (t.keys=none):=by
          show _=_
          have h1:=FL m s i HF.out.1 (by rw [HF.out.2.2.1,← HKEY.out,← HTW.out])
          unfold BT.keys BT.raw
          rw [← HN.out,HR.out.2.2.2.2.2,HF.out.2.2.2.2,h1]
          rfl
         go_wp2_with fail
         go_ret3
         exact ⟨HK2.out.fr,by rw [HRES.out]; rfl⟩
       | false =>
         go_upto_region 19 with (at_mapUpdate; refine wpList_mapUpdate_own _ rfl _ _ _ 147 rfl 9 4 (Maps.string_keyed Tryz.underlying9) Tryz.underlying147 _ bm _ _ rfl HK2.out.set (by rw [List.length_reverse]; unfold maxLen; omega) _ _ (.string key) rfl rfl (Ck key (by rw [HKL.out]; unfold maxLen; omega)) (.lit (.bool true)) [] (plainElem_bool Tryz.underlying4 true) ?_; intro w3 hown3 hg3)
         have HK3:Hid (KS w w3 bt bc cap rest bp bm (.slice A9 a9 c9) (.slice A10 a10 c10) s.t s.t.cG (key::s.taken) s.added s.removed):=HK2.out.map hg3 (fD.KD hown3)
         have HX3:Hid (At w3 bx 183 c.cells):=HX.out.grown hg3 (fun e=>HK2.out.set.vG HX.out (by injection e with e; exact e.symm))
         have hw3:w.heap.size≤w3.heap.size:=HK3.out.fr.size
         obtain ⟨seed,HSD⟩:∃ seed,Hid (seed=s.t.seed):=⟨_,rfl⟩
         clear hown3 hg3 hsl hst hlk HK2 HI
         rcases hcnt with hcnt | hcnt
         ·have c0:w3.cell? ⟨bx,0,none⟩=some (Value.int .i64 (1)):=by rw [HX3.out.cell,jB,hcnt]
          have HCN:=Lib.hid hcnt
          clear hcnt
          go_upto_region 22 with (at_builtin; refine lK eM rfl (.tmp 66) (.tmp 68) rfl w.heap.size _ _ (s.added.map aL) (vS key) rfl HK3.out.xU rfl rfl (by omega) (by omega) 9 ?_; intro v4 w4 hown4 hg4 hb4)
          obtain ⟨A4,c4,rfl⟩:=iT hown4
          have HK4:Hid (KS w w4 bt bc cap rest bp bm (.slice A4 (a9+1) c4) (.slice A10 a10 c10) s.t s.t.cG (key::s.taken) (s.added++[key]) s.removed):=by
           have h1:=hown4
           have h2:=HR.out.1
           refine HK3.out.Uv (key:=key) ?_ hg4 hb4
           rw [← h2]
           exact h1
          have HX4:Hid (At w4 bx 183 c.cells):=HX3.out.grown hg4 (mX HK3.out.add HX3.out (by decide))
          clear c0 hown4 hg4 hb4 HK3 HX3
          have c0:w4.cell? ⟨bx,0,none⟩=some (Value.int .i64 (1)):=by rw [HX4.out.cell,jB,HCN.out]
          have HCH:=Lib.hid (Ce bt bc cap rest s.t key (-1) w4 (H.out.1.fr HK4.out.fr si si) HK4.out.tab HKL.out)
          go_wp2_with fail
          refine HCH.out.mono ?_
          rintro e w5 ⟨rfl,hf5,ht5⟩
          obtain ⟨t',HT'⟩:∃ t',Hid (t'=s.t.change key (-1)):=⟨_,rfl⟩
          rw [← HT'.out] at ht5
          have HK5:Hid (KS w w5 bt bc cap rest bp bm (.slice A4 (a9+1) c4) (.slice A10 a10 c10) t' s.t.cG (key::s.taken) (s.added++[key]) s.removed):=HK4.out.KE hf5 ht5
          have HTN:Hid (t'.cells.length=n∧t'.seed=seed):=⟨by rw [HT'.out,BT.change_len]; exact HR.out.2.2.1,by rw [HT'.out,HSD.out]; exact BT.nC _ _ _ 3⟩
          clear hf5 ht5 HCH HK4 c0
          have HTC:Hid (∀ W,Fr [] w5 W→W.cell? ⟨bt,0,none⟩=some (.slice (some ⟨bc,0,none⟩) n cap)∧W.cell? ⟨bt,1,none⟩=some (.int .u64 (seed:Int))):=fun W hW =>
           ⟨by rw [(HK5.out.tab.tab.fr hW si).cell,← HTN.out.1]; rfl,by rw [(HK5.out.tab.tab.fr hW si).cell,← HTN.out.2]; rfl⟩
          obtain ⟨q0,q1⟩:=HTC.out w5 (Fr.refl _ _)
          have hbt5:bt < w5.heap.size:=HK5.out.tab.tab.lt
          obtain ⟨PL,HPLL⟩:∃ PL,Hid (PL=rV n seed key):=⟨_,rfl⟩
          have HPL:=Lib.hid (Cd n seed key w5.drew (H.out.1.fr HK5.out.fr.drew si si) (by rw [HSD.out]; exact HR.out.2.2.2.2.1.tab.ok.seed) (by rw [HKL.out]; omega) n3 n4)
          rw [← HPLL.out] at HPL
          go_wp2_with fail
          go_region_held3 (fun w'=>w'.cell? ⟨bt,0,none⟩=some (.slice (some ⟨bc,0,none⟩) n cap)∧w'.cell? ⟨bt,1,none⟩=some (.int .u64 (seed:Int))) (first | go_keep | (exact HTC.out _ H6.out))
           (first | (go_at_call 130; ((with_reducible refine HPL.out.mono ?_)); rintro e w6 ⟨rfl,hf6⟩; have H6:Hid (Fr [] w5 w6):=(Fr.refl [] w5).drew.trans hf6; clear hf6))
          rename_i hHeld
          have HK6:Hid (KS w w6 bt bc cap rest bp bm (.slice A4 (a9+1) c4) (.slice A10 a10 c10) t' (iG n seed key s.t.cG t'.cG 0) (key::s.taken) (s.added++[key]) s.removed):=HK5.out.dD H6.out
          clear hHeld q0 q1 HPL HTC H6 hbt5 HK5
          go_wp2_with fail
          go_loopw [91] (fun s91 wx=>∃ j:Nat,j≤3∧s91 = .int .i64 j∧Hid (KS w wx bt bc cap rest bp bm (.slice A4 (a9+1) c4) (.slice A10 a10 c10) t' (iG n seed key s.t.cG t'.cG j) (key::s.taken) (s.added++[key]) s.removed)) (fun s91 _=>3 - (intOf s91).toNat)
          case atStart=>exact ⟨0,by omega,rfl,HK6⟩
          case round =>
           obtain ⟨j,hj,rfl,HJ⟩:=hrel
           by_cases hltj:j < 3
           ·obtain ⟨p,HPP⟩:∃ p,Hid (p=eL n seed key j):=⟨_,rfl⟩
            have hpn:p < n:=by rw [HPP.out]; exact yW n seed key j n3 hltj
            have hixj:∀ W:World,(Instr.index 194 (.agg PL.toArray) (vi (j:Int))).run Tryz.prog W = .ok (Value.int .i64 (p:Int)) W:=vK (P:=Tryz.prog) 194 3 3 PL (Value.int .i64 (p:Int)) .i64 j Tryz.underlying194 kr (fun _=>kr) hltj (by rw [HPLL.out,HPP.out]; exact wF n seed key j hltj)
            obtain ⟨c2,hc2⟩:∃ c2,t'.cells[p]?=some c2:=⟨_,List.getElem?_eq_getElem (by rw [HTN.out.1]; exact hpn)⟩
            have HPU:=Lib.hid (Cj bt bc cap rest t' p c2 wr (H.out.1.fr HJ.out.fr si si) HJ.out.tab hc2)
            obtain ⟨b,HB⟩:∃ b,Hid (b=c2.pure t'.seed):=⟨_,rfl⟩
            rw [← HB.out] at HPU
            have HST:Hid ((iG n seed key s.t.cG t'.cG j).set p b=iG n seed key s.t.cG t'.cG (j+1)):=by
             show _=(iG n seed key s.t.cG t'.cG j).set (eL n seed key j) (t'.cG.getD (eL n seed key j) false)
             rw [← HPP.out,List.getD_eq_getElem?_getD,BT.Eh hc2,HB.out]
             rfl
            have hpI:(p:Int) < (n:Int):=om
            have hjI:(j:Int) < 3:=om
            clear hc2
            go_wp2_with fail
            refine HPU.out.mono ?_
            rintro e w7 ⟨rfl,hf7⟩
            have HJ7:Hid (KS w w7 bt bc cap rest bp bm (.slice A4 (a9+1) c4) (.slice A10 a10 c10) t' (iG n seed key s.t.cG t'.cG j) (key::s.taken) (s.added++[key]) s.removed):=HJ.out.dD hf7
            obtain ⟨z,cz⟩:∃ z,w7.cell? ⟨bp,p,none⟩=some (.bool z):=by
             have hpl:p < (iG n seed key s.t.cG t'.cG j).length:=by rw [yZ,BT.pY,HR.out.2.2.1]; exact hpn
             refine ⟨_,by rw [HJ7.out.pur.cell]; exact Cm (List.getElem?_eq_getElem hpl)⟩
            have fz:=HJ7.out.pur.frozen p
            have HN7:Hid (KS w (w7.setCell ⟨bp,p,none⟩ (.bool b)) bt bc cap rest bp bm (.slice A4 (a9+1) c4) (.slice A10 a10 c10) t' (iG n seed key s.t.cG t'.cG (j+1)) (key::s.taken) (s.added++[key]) s.removed):=by
             have h1:=HJ7.out.KF p b
             rw [HST.out] at h1
             exact h1
            clear hf7 HPU
            go_wp2_with fail
            go_roundw
            case rel =>
             first
              | exact ⟨j+1,by omega,by go_num,HN7⟩
              | ((repeat apply Exists.intro); exact ⟨⟨j+1,by omega,by go_num,HN7⟩,rfl⟩)
            case measure=>simp [intOf] <;> omega
           ·obtain rfl:j=3:=om
            have HTAKE:Hid (s.take c=⟨t',key::s.taken,(s.added++[key]),s.removed⟩):=by
             show s.take c=_
             unfold dZ.take
             rw [HCN.out,HT'.out,HKEY.out]
             simp
            have HEND:Hid (a9+1=(s.take c).added.length∧a10=(s.take c).removed.length∧(s.take c).t.cells.length=n∧(s.take c).t.seed=t.seed∧KS w wr bt bc cap rest bp bm (.slice A4 (a9+1) c4) (.slice A10 a10 c10) (s.take c).t (s.take c).t.cG (s.take c).taken (s.take c).added (s.take c).removed∧fS n ⟨t,[],[],[]⟩=fS (n - (k+1)) (s.take c)):=by
             have h1:=HJ.out
             have h2:=FJ s.t key (-1)
             rw [HR.out.2.2.1,← HSD.out,← HT'.out] at h2
             rw [h2] at h1
             have h3:=BY m s i HF.out.1 (by rw [HF.out.2.2.1,← HKEY.out,← HTW.out])
             rw [HF.out.2.2.1] at h3
             rw [HTAKE.out] at h3 ⊢
             have e9:=HR.out.1
             have e10:=HR.out.2.1
             refine ⟨by simp; omega,by simp; omega,HTN.out.1,by rw [← HR.out.2.2.2.1,← HSD.out]; exact HTN.out.2,h1,?_⟩
             rw [HR.out.2.2.2.2.2,HF.out.2.2.2.2,h3]
             congr 1
             have:=HF.out.2.2.2.2
             omega
            have htk':(s.take c).taken.length≤k+1:=by rw [HTAKE.out]; simp; omega
            go_wp2_with fail
            go_roundw
            case rel =>
             first
              | exact ⟨k+1,_,_,_,_,_,_,s.take c,by omega,by go_num,rfl,rfl,by omega,by omega,htk',HEND⟩
              | ((repeat apply Exists.intro); exact ⟨⟨k+1,_,_,_,_,_,_,s.take c,by omega,by go_num,rfl,rfl,by omega,by omega,htk',HEND⟩,rfl⟩)
            case measure=>simp [intOf] <;> omega
         ·have c0:w3.cell? ⟨bx,0,none⟩=some (Value.int .i64 (-1)):=by rw [HX3.out.cell,jB,hcnt]
          have HCN:=Lib.hid hcnt
          clear hcnt
          go_upto_region 22 with (at_builtin; refine lK eM rfl (.tmp 70) (.tmp 72) rfl w.heap.size _ _ (s.removed.map aL) (vS key) rfl HK3.out.AT rfl rfl (by omega) (by omega) 9 ?_; intro v4 w4 hown4 hg4 hb4)
          obtain ⟨A4,c4,rfl⟩:=iT hown4
          have HK4:Hid (KS w w4 bt bc cap rest bp bm (.slice A9 a9 c9) (.slice A4 (a10+1) c4) s.t s.t.cG (key::s.taken) s.added (s.removed++[key])):=by
           have h1:=hown4
           have h2:=HR.out.2.1
           refine HK3.out.Uw (key:=key) ?_ hg4 hb4
           rw [← h2]
           exact h1
          have HX4:Hid (At w4 bx 183 c.cells):=HX3.out.grown hg4 (mX HK3.out.rem HX3.out (by decide))
          clear c0 hown4 hg4 hb4 HK3 HX3
          have c0:w4.cell? ⟨bx,0,none⟩=some (Value.int .i64 (-1)):=by rw [HX4.out.cell,jB,HCN.out]
          have HCH:=Lib.hid (Ce bt bc cap rest s.t key (1) w4 (H.out.1.fr HK4.out.fr si si) HK4.out.tab HKL.out)
          go_wp2_with fail
          refine HCH.out.mono ?_
          rintro e w5 ⟨rfl,hf5,ht5⟩
          obtain ⟨t',HT'⟩:∃ t',Hid (t'=s.t.change key (1)):=⟨_,rfl⟩
          rw [← HT'.out] at ht5
          have HK5:Hid (KS w w5 bt bc cap rest bp bm (.slice A9 a9 c9) (.slice A4 (a10+1) c4) t' s.t.cG (key::s.taken) s.added (s.removed++[key])):=HK4.out.KE hf5 ht5
          have HTN:Hid (t'.cells.length=n∧t'.seed=seed):=⟨by rw [HT'.out,BT.change_len]; exact HR.out.2.2.1,by rw [HT'.out,HSD.out]; exact BT.nC _ _ _ 3⟩
          clear hf5 ht5 HCH HK4 c0
          have HTC:Hid (∀ W,Fr [] w5 W→W.cell? ⟨bt,0,none⟩=some (.slice (some ⟨bc,0,none⟩) n cap)∧W.cell? ⟨bt,1,none⟩=some (.int .u64 (seed:Int))):=fun W hW =>
           ⟨by rw [(HK5.out.tab.tab.fr hW si).cell,← HTN.out.1]; rfl,by rw [(HK5.out.tab.tab.fr hW si).cell,← HTN.out.2]; rfl⟩
          obtain ⟨q0,q1⟩:=HTC.out w5 (Fr.refl _ _)
          have hbt5:bt < w5.heap.size:=HK5.out.tab.tab.lt
          obtain ⟨PL,HPLL⟩:∃ PL,Hid (PL=rV n seed key):=⟨_,rfl⟩
          have HPL:=Lib.hid (Cd n seed key w5.drew (H.out.1.fr HK5.out.fr.drew si si) (by rw [HSD.out]; exact HR.out.2.2.2.2.1.tab.ok.seed) (by rw [HKL.out]; omega) n3 n4)
          rw [← HPLL.out] at HPL
          go_wp2_with fail
          go_region_held3 (fun w'=>w'.cell? ⟨bt,0,none⟩=some (.slice (some ⟨bc,0,none⟩) n cap)∧w'.cell? ⟨bt,1,none⟩=some (.int .u64 (seed:Int))) (first | go_keep | (exact HTC.out _ H6.out))
           (first | (go_at_call 130; ((with_reducible refine HPL.out.mono ?_)); rintro e w6 ⟨rfl,hf6⟩; have H6:Hid (Fr [] w5 w6):=(Fr.refl [] w5).drew.trans hf6; clear hf6))
          rename_i hHeld
          have HK6:Hid (KS w w6 bt bc cap rest bp bm (.slice A9 a9 c9) (.slice A4 (a10+1) c4) t' (iG n seed key s.t.cG t'.cG 0) (key::s.taken) s.added (s.removed++[key])):=HK5.out.dD H6.out
          clear hHeld q0 q1 HPL HTC H6 hbt5 HK5
          go_wp2_with fail
          go_loopw [91] (fun s91 wx=>∃ j:Nat,j≤3∧s91 = .int .i64 j∧Hid (KS w wx bt bc cap rest bp bm (.slice A9 a9 c9) (.slice A4 (a10+1) c4) t' (iG n seed key s.t.cG t'.cG j) (key::s.taken) s.added (s.removed++[key]))) (fun s91 _=>3 - (intOf s91).toNat)
          case atStart=>exact ⟨0,by omega,rfl,HK6⟩
          case round =>
           obtain ⟨j,hj,rfl,HJ⟩:=hrel
           by_cases hltj:j < 3
           ·obtain ⟨p,HPP⟩:∃ p,Hid (p=eL n seed key j):=⟨_,rfl⟩
            have hpn:p < n:=by rw [HPP.out]; exact yW n seed key j n3 hltj
            have hixj:∀ W:World,(Instr.index 194 (.agg PL.toArray) (vi (j:Int))).run Tryz.prog W = .ok (Value.int .i64 (p:Int)) W:=vK (P:=Tryz.prog) 194 3 3 PL (Value.int .i64 (p:Int)) .i64 j Tryz.underlying194 kr (fun _=>kr) hltj (by rw [HPLL.out,HPP.out]; exact wF n seed key j hltj)
            obtain ⟨c2,hc2⟩:∃ c2,t'.cells[p]?=some c2:=⟨_,List.getElem?_eq_getElem (by rw [HTN.out.1]; exact hpn)⟩
            have HPU:=Lib.hid (Cj bt bc cap rest t' p c2 wr (H.out.1.fr HJ.out.fr si si) HJ.out.tab hc2)
            obtain ⟨b,HB⟩:∃ b,Hid (b=c2.pure t'.seed):=⟨_,rfl⟩
            rw [← HB.out] at HPU
            have HST:Hid ((iG n seed key s.t.cG t'.cG j).set p b=iG n seed key s.t.cG t'.cG (j+1)):=by
             show _=(iG n seed key s.t.cG t'.cG j).set (eL n seed key j) (t'.cG.getD (eL n seed key j) false)
             rw [← HPP.out,List.getD_eq_getElem?_getD,BT.Eh hc2,HB.out]
             rfl
            have hpI:(p:Int) < (n:Int):=om
            have hjI:(j:Int) < 3:=om
            clear hc2
            go_wp2_with fail
            refine HPU.out.mono ?_
            rintro e w7 ⟨rfl,hf7⟩
            have HJ7:Hid (KS w w7 bt bc cap rest bp bm (.slice A9 a9 c9) (.slice A4 (a10+1) c4) t' (iG n seed key s.t.cG t'.cG j) (key::s.taken) s.added (s.removed++[key])):=HJ.out.dD hf7
            obtain ⟨z,cz⟩:∃ z,w7.cell? ⟨bp,p,none⟩=some (.bool z):=by
             have hpl:p < (iG n seed key s.t.cG t'.cG j).length:=by rw [yZ,BT.pY,HR.out.2.2.1]; exact hpn
             refine ⟨_,by rw [HJ7.out.pur.cell]; exact Cm (List.getElem?_eq_getElem hpl)⟩
            have fz:=HJ7.out.pur.frozen p
            have HN7:Hid (KS w (w7.setCell ⟨bp,p,none⟩ (.bool b)) bt bc cap rest bp bm (.slice A9 a9 c9) (.slice A4 (a10+1) c4) t' (iG n seed key s.t.cG t'.cG (j+1)) (key::s.taken) s.added (s.removed++[key])):=by
             have h1:=HJ7.out.KF p b
             rw [HST.out] at h1
             exact h1
            clear hf7 HPU
            go_wp2_with fail
            go_roundw
            case rel =>
             first
              | exact ⟨j+1,by omega,by go_num,HN7⟩
              | ((repeat apply Exists.intro); exact ⟨⟨j+1,by omega,by go_num,HN7⟩,rfl⟩)
            case measure=>simp [intOf] <;> omega
           ·obtain rfl:j=3:=om
            have HTAKE:Hid (s.take c=⟨t',key::s.taken,s.added,(s.removed++[key])⟩):=by
             show s.take c=_
             unfold dZ.take
             rw [HCN.out,HT'.out,HKEY.out]
             simp
            have HEND:Hid (a9=(s.take c).added.length∧a10+1=(s.take c).removed.length∧(s.take c).t.cells.length=n∧(s.take c).t.seed=t.seed∧KS w wr bt bc cap rest bp bm (.slice A9 a9 c9) (.slice A4 (a10+1) c4) (s.take c).t (s.take c).t.cG (s.take c).taken (s.take c).added (s.take c).removed∧fS n ⟨t,[],[],[]⟩=fS (n - (k+1)) (s.take c)):=by
             have h1:=HJ.out
             have h2:=FJ s.t key (1)
             rw [HR.out.2.2.1,← HSD.out,← HT'.out] at h2
             rw [h2] at h1
             have h3:=BY m s i HF.out.1 (by rw [HF.out.2.2.1,← HKEY.out,← HTW.out])
             rw [HF.out.2.2.1] at h3
             rw [HTAKE.out] at h3 ⊢
             have e9:=HR.out.1
             have e10:=HR.out.2.1
             refine ⟨by simp; omega,by simp; omega,HTN.out.1,by rw [← HR.out.2.2.2.1,← HSD.out]; exact HTN.out.2,h1,?_⟩
             rw [HR.out.2.2.2.2.2,HF.out.2.2.2.2,h3]
             congr 1
             have:=HF.out.2.2.2.2
             omega
            have htk':(s.take c).taken.length≤k+1:=by rw [HTAKE.out]; simp; omega
            go_wp2_with fail
            go_roundw
            case rel =>
             first
              | exact ⟨k+1,_,_,_,_,_,_,s.take c,by omega,by go_num,rfl,rfl,by omega,by omega,htk',HEND⟩
              | ((repeat apply Exists.intro); exact ⟨⟨k+1,_,_,_,_,_,_,s.take c,by omega,by go_num,rfl,rfl,by omega,by omega,htk',HEND⟩,rfl⟩)
            case measure=>simp [intOf] <;> omega
    ·obtain rfl:k=n:=om
     have HPE:Hid (fS k ⟨t,[],[],[]⟩=some s):=by show _=_; rw [HR.out.2.2.2.2.2,Nat.sub_self]; rfl
     have HEM:=Lib.hid (FU bt bc cap rest s.t wo HR.out.2.2.2.2.1.tab)
     go_wp2_with fail
     refine HEM.out.mono ?_
     rintro e w3 ⟨rfl,hf3⟩
     have HK3:Hid (KS w w3 bt bc cap rest bp bm (.slice A9 a9 c9) (.slice A10 a10 c10) s.t s.t.cG s.taken s.added s.removed):=HR.out.2.2.2.2.1.dD hf3
     clear hf3 HEM
     cases hem:s.t.empty with
     | false =>
       have HRES:Hid (t.keys=none):=by show _=_; unfold BT.keys BT.raw; rw [← HN.out,HPE.out]; simp [hem]
       go_wp2_with fail
       go_ret3
       exact ⟨HK3.out.fr,by rw [HRES.out]; rfl⟩
     | true =>
       have HRES:Hid (t.keys=some (bM s.added,bM s.removed)):=by show _=_; unfold BT.keys BT.raw; rw [← HN.out,HPE.out]; simp [hem]
       have HS1:=Lib.hid (wI HK3.out.xU HR.out.1 om)
       go_wp2_with fail
       refine HS1.out.mono ?_
       rintro e w4 ⟨rfl,hf4,hr4⟩
       have HO4:Hid (Fr [] w w4∧aH w4 A9 ((jD s.added).map aL)∧w4.ownsRow w.heap.size 9 1 (.slice A10 a10 c10) a10 (s.removed.map aL)):=HK3.out.KG HR.out.1 HR.out.2.1 hf4 hr4
       have HSEP:Hid (∀ g,(Value.slice A9 a9 c9).ownBlock=some g→(Value.slice A10 a10 c10).ownBlock≠some g):=fun g hg e=>HK3.out.sep.elim (fun h0=>by rw [h0] at hg; cases hg) (fun h0=>h0 (by rw [hg,e]))
       have HFR:Hid (wH w A9 A10):=FX HK3.out.xU HK3.out.AT HSEP.out
       have HS2:=Lib.hid (wI HO4.out.2.2 HR.out.2.1 om)
       clear hf4 hr4 HS1
       go_wp2_with fail
       refine HS2.out.mono ?_
       rintro e w5 ⟨rfl,hf5,hr5⟩
       have HO5:Hid (Fr [] w w5∧aH w5 A9 ((jD s.added).map aL)∧aH w5 A10 ((jD s.removed).map aL)):=Ga HO4.out.1 HO4.out.2.2 HSEP.out HO4.out.2.1 hf5 hr5
       clear hf5 hr5 HS2
       go_wp2_with fail
       go_ret3
       refine ⟨HO5.out.1,?_⟩
       rw [HRES.out]
       refine ⟨A9,c9,A10,c10,?_,HO5.out.2.1,HO5.out.2.2,HFR.out⟩
       show _=Ending.returned (.tuple #[.slice A9 (jD s.added).length c9,.slice A10 (jD s.removed).length c10,vi 0])
       rw [wG,wG,← HR.out.1,← HR.out.2.1]
       rfl
end
theorem MI (n:Int) (w:World) (h0:-9223372036854775808≤n) (h1:n≤9223372036854775807) :
  Calls Tryz.prog 161 #[vi n] w fun e w'=>e = .returned (.int .u64 (eG n:Int))∧w=w':=by
 by_cases hn:n < 0
 ·go_enter Tryz.func161,Tryz.ntmps161
  go_wp2
  go_ret
  refine ⟨gG ?_,rfl⟩
  unfold eG
  rw [if_pos hn]
  omega
 ·replace hn:=Int.not_lt.1 hn
  go_enter Tryz.func161,Tryz.ntmps161
  go_wp2
  go_ret
  refine ⟨gG ?_,rfl⟩
  unfold eG
  rw [if_neg om]
  omega
structure kZ (base : Nat) (v : Value) (bs : List UInt8) (w : World) (v' : Value) (w' : World) : Prop where
 own : w'.ownsRow base 5 1 v' bs.length (B8 bs)
 gr : w.grownBy w' v.ownBlock
 blk : v'.ownBlock = v.ownBlock ∨ ∃ g, v'.ownBlock = some g ∧ w.heap.size ≤ g
theorem kZ.step {base:Nat} {v v' v'':Value} {bs cs:List UInt8} {w w' w'':World} (h:kZ base v bs w v' w') (k:kZ base v' cs w' v'' w''):kZ base v cs w v'' w'':=by
 refine ⟨k.own,⟨k.gr.os.trans h.gr.os,k.gr.tape.trans h.gr.tape,k.gr.output.trans h.gr.output,Nat.le_trans h.gr.size k.gr.size,fun i hi hn=>?_⟩,?_⟩
 ·refine (k.gr.block i (Nat.lt_of_lt_of_le hi h.gr.size) (fun e=>?_)).trans (h.gr.block i hi hn)
  rcases h.blk with hb | ⟨g,hb,hg⟩
  ·exact hn (e.trans hb)
  ·rw [hb] at e
   injection e with e
   omega
 ·rcases k.blk with hb | ⟨g,hb,hg⟩
  ·rcases h.blk with hb' | ⟨g,hb',hg⟩
   ·exact .inl (hb.trans hb')
   ·exact .inr ⟨g,hb.trans hb',hg⟩
  ·exact .inr ⟨g,hb,Nat.le_trans h.gr.size hg⟩
theorem kZ.refl {base:Nat} {v:Value} {bs:List UInt8} {w:World} (h:w.ownsRow base 5 1 v bs.length (B8 bs)):kZ base v bs w v w:=⟨h,World.grownBy.refl w _,.inl rfl⟩
theorem kZ.size {base:Nat} {v v':Value} {bs:List UInt8} {w w':World} (h:kZ base v bs w v' w'):w.heap.size≤w'.heap.size:=h.gr.size
theorem kZ.push {base:Nat} {v v':Value} {bs:List UInt8} {b:UInt8} {w w':World} (h:w'.ownsRow base 5 1 v' (bs.length+1) (B8 bs++[.int .u8 (b.toNat:Int)])) (hg:w.grownBy w' v.ownBlock) (hb:v'.ownBlock=v.ownBlock∨v'.ownBlock=some (w.heap.size+1)):kZ base v (bs++[b]) w v' w':=by
 refine ⟨?_,hg,?_⟩
 ·rw [mC,List.length_append]; exact h
 ·rcases hb with hb | hb
  ·exact .inl hb
  ·exact .inr ⟨_,hb,om⟩
set_option maxHeartbeats 2000000 in
theorem Gc (base n:Nat) (v:Value) (bs:List UInt8) (w:World) (hn:bI n) (hl:bs.length+10≤4294967296) (hb:base≤w.heap.size) (hown:w.ownsRow base 5 1 v bs.length (B8 bs)) :
  Calls Tryz.prog 117 #[v,.int .u64 (n:Int)] w fun e w'=>∃ v',e = .returned v'∧kZ base v (bs++aE n) w v' w':=by
 have H0:=Lib.hid (kZ.refl hown)
 have hnl:=fG n hn
 have HN:=Lib.hid hn
 have HL:=Lib.hid hl
 clear hown hn hl
 go_enter Tryz.func117,Tryz.ntmps117
 go_wp2_with fail
 go_loopw [0,1] (fun b i wr=>∃ (m:Nat) (cs:List UInt8),bI m∧i = .int .u64 (m:Int)∧bs++aE n=cs++aE m∧kZ base v cs w b wr) (fun _ i _=>(intOf i).toNat)
 case atStart=>exact ⟨n,bs,HN.out,rfl,rfl,H0.out⟩
 case round =>
  obtain ⟨m,cs,hm,rfl,he,hg⟩:=hrel
  have hsz:=hg.size
  have HC:Hid (cs.length+1≤137438953472):=by have h1:=congrArg List.length he; have h2:=HL.out; rw [List.length_append,List.length_append] at h1; show _≤_; omega
  have HG:=Lib.hid hg
  have HE:=Lib.hid he
  have HM:=Lib.hid hm
  have hmI:(m:Int)≤18446744073709551615:=by unfold bI at hm; omega
  clear hg he hm
  obtain ⟨A,c,rfl⟩:=iT HG.out.own
  by_cases hlt:m < 128
  ·go_wp2_with (at_builtin; refine lK fH rfl (.tmp 15) (.tmp 18) rfl base _ _ _ (.int .u8 (m:Int)) rfl HG.out.own rfl rfl HC.out (by omega) 5 ?_; intro v' w1 hown1 hg1 hb1)
   go_ret
   refine ⟨v',rfl,HG.out.step ?_⟩
   rw [HE.out,mO m hlt]
   exact kZ.push (by rw [Ew m om] at hown1; exact hown1) hg1 hb1
  ·have hor:=Ld m
   have hge:(128:Int)≤(m:Int):=om
   go_wp2_with (at_builtin; refine lK fH rfl (.tmp 7) (.tmp 11) rfl base _ _ _ (.int .u8 ((UInt8.ofNat (m % 128+128)).toNat:Int)) rfl HG.out.own rfl rfl HC.out (by omega) 5 ?_; intro v' w1 hown1 hg1 hb1)
   go_roundw
   case rel =>
    refine ⟨m / 128,cs++[UInt8.ofNat (m % 128+128)],?_,by go_num,?_,HG.out.step (kZ.push hown1 hg1 hb1)⟩
    ·have:=HM.out; unfold bI at this ⊢; omega
    ·rw [HE.out,nR m hlt,List.append_assoc]; rfl
   case measure=>simp [intOf]; omega
theorem lA {w:World} {base:Nat} {e t:TypeId} {sz n b:Nat} {v:Value} {xs l:List Value} (h:w.ownsRow base e sz v n xs) (ha:At w b t l) (hne:e≠t):v.ownBlock≠some b:=by
 rcases h.2 with ⟨rfl,_⟩ | ⟨g,cap,cur,rfl,_,hh,_⟩
 ·simp [Value.ownBlock]
 ·intro he
  have:g=b:=by simpa [Value.ownBlock] using he
  subst this
  unfold At at ha
  rw [ha] at hh
  simp only [Option.some.injEq,Obj.cells.injEq] at hh
  exact hne hh.2.1.symm
def iR (w : World) (base bw : Nat) (xs : List UInt8) : Prop := ∃ v, At w bw 180 [v, Value.int .i64 0] ∧ w.ownsRow base 5 1 v xs.length (B8 xs)
theorem iR.bel {w w':World} {base bw:Nat} {xs:List UInt8} (h:iR w base bw xs) (hb:Fr [] w w'):iR w' base bw xs:=by
 obtain ⟨v,h1,h2⟩:=h
 exact ⟨v,h1.fr hb si,dY h2 hb si⟩
theorem Gd (w:World):Calls Tryz.prog 68 #[] w fun e w'=>e = .returned (.pointer (some ⟨w.heap.size,0,none⟩))∧Fr [] w w'∧At w' w.heap.size 180 [nS,vi 0]:=by
 go_enter Tryz.func68,Tryz.ntmps68
 go_wp2
 go_ret
 exact ⟨rfl,(Fr.refl _ _).alloc _,At.new w 180 [nS,vi 0]⟩
theorem iR.new {w:World} {base bw:Nat} (h:At w bw 180 [nS,vi 0]):iR w base bw []:=⟨_,h,World.ownsRow_nil _ _ _ _⟩
structure Cn (base bw : Nat) (xs : List UInt8) (w : World) (e : Ending) (w' : World) : Prop where
 ret : e = .returned (.tuple #[])
 bel : lJ base [bw] w w'
 at_ : iR w' base bw xs
 other : ∀ k t l, At w k t l → t ≠ 5 → k ≠ bw → At w' k t l
set_option maxHeartbeats 2000000 in
theorem zB (base bw n:Nat) (xs:List UInt8) (w:World) (hw:iR w base bw xs) (hb:base≤w.heap.size) (hn:bI n) (hl:xs.length≤4294967000) :
  Calls Tryz.prog 118 #[vP bw 0,.int .u64 (n:Int)] w (Cn base bw (xs++aE n) w):=by
 obtain ⟨v,ha,ho⟩:=hw
 obtain ⟨A,c,rfl⟩:=iT ho
 have h0:w.cell? ⟨bw,0,none⟩=some (.slice A xs.length c):=by rw [ha.cell]; rfl
 have h1:w.cell? ⟨bw,1,none⟩=some (vi 0):=by rw [ha.cell]; rfl
 have hne:=lA ho ha (by decide)
 have H:=Lib.hid (And.intro ha (And.intro ho hne))
 have HN:=Lib.hid (And.intro hn hl)
 clear ha ho hne hn hl
 go_enter Tryz.func118,Tryz.ntmps118
 go_wp2_with fail
 refine (Gc base n _ xs _ HN.out.1 (by have:=HN.out.2; omega) hb H.out.2.1).mono ?_
 rintro e w1 ⟨v1,rfl,hg⟩
 obtain ⟨A1,c1,hv⟩:=iT hg.own
 rw [List.length_append] at hv
 subst hv
 have ha1:At w1 bw 180 [.slice A xs.length c,vi 0]:=(hg.gr.block bw H.out.1.lt (fun e=>H.out.2.2 e.symm)).trans H.out.1
 have c0:w1.cell? ⟨bw,0,none⟩=some (.slice A xs.length c):=by rw [ha1.cell]; rfl
 have z0:w1.frozen? ⟨bw,0,none⟩=false:=ha1.frozen 0
 have HOT:Hid (∀ k t l,At w k t l→t≠5→k≠bw→At (w1.setCell ⟨bw,0,none⟩ (.slice A1 (xs.length+(aE n).length) c1)) k t l):=fun k t l hk ht hne =>
  At.far (w:=w1) (Eq.trans (hg.gr.block k hk.lt (fun e=>lA H.out.2.1 hk (fun e2=>ht e2.symm) e.symm)) hk) hne _
 have HF:Hid (lJ base [bw] w (w1.setCell ⟨bw,0,none⟩ (.slice A1 (xs.length+(aE n).length) c1))∧iR (w1.setCell ⟨bw,0,none⟩ (.slice A1 (xs.length+(aE n).length) c1)) base bw (xs++aE n)):=by
  refine ⟨((lJ.refl base [bw] w).grown hg.gr hb (fun k hk=>.inr (H.out.2.1.lt k hk).1)).setCell (.inl si) _,_,ha1.set 0 _,dY (S:=[bw]) hg.own ((Fr.refl _ _).setCell (.inl si) _) ?_⟩
  intro g hg' hm
  have:g=bw:=by simpa using hm
  subst this
  exact lA hg.own ha1 (by decide) hg'
 clear hg ha1
 go_wp2_with fail
 go_end0
 exact ⟨rfl,HF.out.1,HF.out.2,HOT.out⟩
set_option maxHeartbeats 2000000 in
theorem MJ (base bw:Nat) (n:Int) (xs:List UInt8) (w:World) (hw:iR w base bw xs) (hb:base≤w.heap.size) (h0:-9223372036854775808≤n) (h1:n≤9223372036854775807) (hl:xs.length≤4294967000) :
  Calls Tryz.prog 119 #[vP bw 0,vi n] w (Cn base bw (xs++aE (eG n)) w):=by
 have H:=Lib.hid (And.intro hw (And.intro hb (And.intro hl (And.intro h0 h1))))
 clear hw hb hl h0 h1
 go_enter Tryz.func119,Tryz.ntmps119
 go_wp2_with fail
 refine (MI n _ H.out.2.2.2.1 H.out.2.2.2.2).mono ?_
 rintro e w' ⟨rfl,rfl⟩
 go_wp2_with fail
 refine (zB base bw (eG n) xs _ H.out.1 H.out.2.1 (tJ n H.out.2.2.2.1 H.out.2.2.2.2) H.out.2.2.1).mono ?_
 rintro e w1 ⟨rfl,h2,h3,h4⟩
 have H1:=Lib.hid (And.intro h2 (And.intro h3 h4))
 clear h2 h3 h4
 go_wp2_with fail
 go_end0
 exact ⟨rfl,H1.out.1,H1.out.2.1,H1.out.2.2⟩
structure zC (bs : List UInt8) (w : World) (v : Value) (w' : World) : Prop where
 own : w'.ownsRow w.heap.size 5 1 v bs.length (B8 bs)
 fr : Fr [] w w'
set_option maxHeartbeats 2000000 in
theorem MK (base bw:Nat) (xs:List UInt8) (w:World) (hw:iR w base bw xs) (hl:xs.length≤1048576) :
  Calls Tryz.prog 71 #[vP bw 0] w fun e w'=>∃ v,e = .returned (.tuple #[v,vi 0])∧zC xs w v w':=by
 obtain ⟨v,ha,ho⟩:=hw
 obtain ⟨A,c,rfl⟩:=iT ho
 have h0:w.cell? ⟨bw,0,none⟩=some (.slice A xs.length c):=by rw [ha.cell]; rfl
 have h1:w.cell? ⟨bw,1,none⟩=some (vi 0):=by rw [ha.cell]; rfl
 have h2:((xs.length:Nat):Int)≤1048576:=om
 have hlt:=ha.lt
 have H:=Lib.hid ho
 have HL:=Lib.hid hl
 clear ha ho hl
 go_enter Tryz.func71,Tryz.ntmps71
 go_wp2_with (at_builtin; refine tF fH rfl (.tmp 19) (.tmp 23) rfl w.heap.size _ 0 [] rfl (by exact World.ownsRow_made _ #[] 0 (Nat.le_refl _) (Nat.zero_le _) rfl) A _ c (B8 xs) rfl (by rw [dL]; simp) (by exact dV.cN (H.out.alloc _)) (gS _) (by have:=HL.out; omega) (by simp) ?_; intro v2 w2 hown2 hg2 hb2)
 go_ret2
 refine ⟨v2,rfl,?_,?_⟩
 ·simpa using hown2
 ·exact ((Fr.refl [] w).alloc _).grown hg2 (fun g hg=>.inr (by have hg':some w.heap.size=some g:=hg; injection hg' with hg'; omega))
theorem Ge (p:List UInt8):(aT p).size=p.length:=by simp [aT,ByteArray.size]
theorem ML (p:List UInt8):Lib.strCells (aT p)=B8 p:=by simp [Lib.strCells,aT,B8]
set_option maxHeartbeats 2000000 in
theorem MM (base bw:Nat) (p xs:List UInt8) (w:World) (hw:iR w base bw xs) (hb:base≤w.heap.size) (hp:p.length=32) (hl:xs.length≤4294967000) :
  Calls Tryz.prog 120 #[vP bw 0,.string (aT p)] w (Cn base bw (xs++p) w):=by
 obtain ⟨v,ha,ho⟩:=hw
 obtain ⟨A,c,rfl⟩:=iT ho
 have h0:w.cell? ⟨bw,0,none⟩=some (.slice A xs.length c):=by rw [ha.cell]; rfl
 have h1:w.cell? ⟨bw,1,none⟩=some (vi 0):=by rw [ha.cell]; rfl
 have hne:=lA ho ha (by decide)
 have H:=Lib.hid (And.intro ha (And.intro ho hne))
 obtain ⟨s,HS⟩:∃ s,Hid (s=aT p):=⟨_,rfl⟩
 have hs:s.size=32:=by rw [HS.out,Ge]; exact hp
 have HSZ:Hid (s.size=p.length):=by show _=_; rw [HS.out,Ge]
 rw [← HS.out]
 have q1:((s.size:Int) == 32)=true:=by simp; omega
 have q2:((s.size:Int) != 32)=false:=by simp; omega
 have hsb:s.size≤32:=om
 obtain ⟨i0,hi0,hz0,hz1,hz2⟩:=info_parts (show (Tryz.prog.info? 5).map (fun i=>(i.zero,i.size,i.bytes))=some (some (.int .u8 0),1,1) by kernel_rfl)
 have HINF:=Lib.hid (And.intro hi0 (And.intro hz0 (And.intro hz1 hz2)))
 clear ha ho hne hs hp hi0 hz0 hz1 hz2
 go_enter Tryz.func120,Tryz.ntmps120
 go_wp2_with (at_builtin; refine Lib.wpList_append_own_string _ rfl (.tmp 19) (.tmp 20) 23 9 rfl base 5 i0 Tryz.underlying23 Tryz.underlying9 HINF.out.1 HINF.out.2.1 HINF.out.2.2.1 HINF.out.2.2.2 _ _ (B8 xs) rfl H.out.2.1 s rfl (by unfold maxLen; omega) (by omega) hb ?_; intro v1 w1 hown1 hg1 _; obtain ⟨A1,c1,rfl⟩:=iT hown1; have ha1:At w1 bw 180 [.slice A xs.length c,Value.int .i64 0]:=((hg1.block bw H.out.1.lt (fun e=>H.out.2.2 e.symm)).trans H.out.1); have c0:w1.cell? ⟨bw,0,none⟩=some (.slice A xs.length c):=(by rw [ha1.cell]; rfl); have z0:w1.frozen? ⟨bw,0,none⟩=false:=ha1.frozen 0; have HQ:=Lib.hid (And.intro ha1 (And.intro hown1 hg1)); clear ha1 hown1 hg1)
 have HOT:Hid (∀ k t l,At w k t l→t≠5→k≠bw→At (w1.setCell ⟨bw,0,none⟩ (.slice A1 (xs.length+s.size) c1)) k t l):=fun k t l hk ht hne =>
  At.far (w:=w1) (Eq.trans (HQ.out.2.2.block k hk.lt (fun e=>lA H.out.2.1 hk (fun e2=>ht e2.symm) e.symm)) hk) hne _
 have HF:Hid (lJ base [bw] w (w1.setCell ⟨bw,0,none⟩ (.slice A1 (xs.length+s.size) c1))∧iR (w1.setCell ⟨bw,0,none⟩ (.slice A1 (xs.length+s.size) c1)) base bw (xs++p)):=by
  have ha1:=HQ.out.1
  have hown1:=HQ.out.2.1
  rw [HS.out,ML,← mC] at hown1
  refine ⟨((lJ.refl base [bw] w).grown HQ.out.2.2 hb (fun k hk=>.inr (H.out.2.1.lt k hk).1)).setCell (.inl si) _,_,ha1.set 0 _,?_⟩
  refine dY (S:=[bw]) ?_ ((Fr.refl _ _).setCell (.inl si) _) ?_
  ·rw [List.length_append,← HSZ.out,HS.out]
   exact hown1
  ·intro g hg' hm
   have:g=bw:=by simpa using hm
   subst this
   exact lA hown1 ha1 (by decide) (by rw [← HS.out]; exact hg')
 go_end0
 exact ⟨rfl,HF.out.1,HF.out.2,HOT.out⟩
def BC.enc (c : BC) : List UInt8 := aE (eG c.count) ++ c.keys ++ aE c.checks
def eA (t : BT) (i : Nat) : List UInt8 := aE t.cells.length ++ aE t.seed ++ (t.cells.take i).flatMap BC.enc
def BT.enc (t : BT) : List UInt8 := eA t t.cells.length
theorem BC.Ux {c:BC} (h:c.Ok):c.enc.length≤52:=by
 have h1:=fG (eG c.count) (tJ c.count h.count.1 h.count.2)
 have h2:=fG c.checks h.checks
 have h3:=h.keys
 simp only [BC.enc,List.length_append]
 omega
theorem Gf {t:BT} {i:Nat} {c:BC} (h:t.cells[i]?=some c):eA t (i+1)=eA t i++aE (eG c.count)++c.keys++aE c.checks:=by
 obtain ⟨h1,e1⟩:=List.getElem?_eq_some_iff.1 h
 unfold eA
 rw [List.take_succ_eq_append_getElem h1,e1,List.flatMap_append]
 simp [BC.enc,List.append_assoc]
theorem Gg {l:List BC} (h:gE l):(l.flatMap BC.enc).length≤l.length*52:=by
 induction l with
 | nil=>simp
 | cons c l ih =>
   have h1:=BC.Ux (h c si)
   have h2:=ih (fun x hx=>h x (by simp [hx]))
   rw [List.flatMap_cons,List.length_append,List.length_cons]
   omega
theorem uC {t:BT} (h:t.Ok) (hn:t.cells.length≤3072) (i:Nat):(eA t i).length≤200000:=by
 have h1:=fG t.cells.length om
 have h2:=fG t.seed h.seed
 have h3:=Gg (l:=t.cells.take i) (fun c hc=>h.cells c (List.mem_of_mem_take hc))
 rw [List.length_take] at h3
 simp only [eA,List.length_append]
 omega
set_option maxHeartbeats 2000000 in
theorem MN (bt bc cap:Nat) (rest:List Value) (t:BT) (w:World) (ht:eD w bt bc cap rest t) :
  Calls Tryz.prog 70 #[vP bt 0] w fun e w'=>∃ v,e = .returned v∧zC t.enc w v w':=by
 obtain ⟨n,HN⟩:∃ n,Hid (n=t.cells.length):=⟨_,rfl⟩
 obtain ⟨seed,HS⟩:∃ seed,Hid (seed=t.seed):=⟨_,rfl⟩
 have hb:=gV ht.size
 have n4:n≤3072:=by rw [HN.out]; exact hb.2.1
 have HTC:Hid (∀ W,Fr [] w W→W.cell? ⟨bt,0,none⟩=some (.slice (some ⟨bc,0,none⟩) n cap)∧W.cell? ⟨bt,1,none⟩=some (.int .u64 (seed:Int))):=fun W hW =>
  ⟨by rw [(ht.tab.fr hW si).cell,HN.out]; rfl,by rw [(ht.tab.fr hW si).cell,HS.out]; rfl⟩
 have H:=Lib.hid ht
 have hbt:=ht.tab.lt
 have hbc:=ht.cells.lt
 clear ht hb
 obtain ⟨bw,HBW⟩:∃ bw,Hid (bw=w.heap.size):=⟨_,rfl⟩
 have HNW:=Lib.hid (Gd w)
 rw [← HBW.out] at HNW
 have hen:IntKind.u64.wrap (n:Int)=(n:Int):=by rw [IntKind.wrap_u64]; omega
 have HEL:Hid (∀ i,(eA t i).length≤200000):=fun i=>uC H.out.ok (by rw [← HN.out]; exact n4) i
 go_enter Tryz.func70,Tryz.ntmps70
 go_wp2_with fail
 refine HNW.out.mono ?_
 rintro e w1 ⟨rfl,hf1,ha1⟩
 have H1:Hid (Fr [] w w1∧iR w1 w.heap.size bw []):=⟨hf1,iR.new ha1⟩
 have hz1:=hf1.size
 obtain ⟨q0,q1⟩:=HTC.out w1 hf1
 clear hf1 ha1 HNW
 go_wp2_with fail
 refine (zB w.heap.size bw n [] w1 H1.out.2 hz1 (by unfold bI; omega) si).mono ?_
 rintro e w2 ⟨rfl,hb2,ha2,_⟩
 have H2:Hid (Fr [] w w2∧iR w2 w.heap.size bw (aE n)):=⟨H1.out.1.xR hb2 (Nat.le_refl _) (by have:=HBW.out; simp; omega),by simpa using ha2⟩
 clear q0 q1 hb2 ha2 H1
 obtain ⟨q0,q1⟩:=HTC.out w2 H2.out.1
 have hz2:=H2.out.1.size
 go_wp2_with fail
 refine (zB w.heap.size bw seed (aE n) w2 H2.out.2 hz2 (by rw [HS.out]; exact H.out.ok.seed) (by have:=fG n om; omega)).mono ?_
 rintro e w3 ⟨rfl,hb3,ha3,_⟩
 have H3:Hid (Fr [] w w3∧iR w3 w.heap.size bw (eA t 0)):=⟨H2.out.1.xR hb3 (Nat.le_refl _) (by have:=HBW.out; simp; omega),by
  have e:eA t 0=aE n++aE seed:=by unfold eA; rw [← HN.out,← HS.out]; simp
  rw [e]
  exact ha3⟩
 clear q0 q1 hb3 ha3 H2
 obtain ⟨q0,q1⟩:=HTC.out w3 H3.out.1
 go_wp2_with fail
 clear q0 q1 hen
 go_loopw [28] (fun s wx=>∃ i:Nat,i≤n∧s = .int .i64 i∧Hid (Fr [] w wx∧iR wx w.heap.size bw (eA t i))) (fun s _=>n - (intOf s).toNat)
 case atStart=>exact ⟨0,by omega,rfl,H3⟩
 case round =>
  obtain ⟨i,hi,rfl,HR⟩:=hrel
  by_cases hlt:i < n
  ·obtain ⟨c,hc⟩:∃ c,t.cells[i]?=some c:=⟨_,List.getElem?_eq_getElem (by rw [← HN.out]; exact hlt)⟩
   have hcok:=H.out.ok.cells c (List.mem_of_getElem? hc)
   obtain ⟨L,HL⟩:∃ L,Hid (L=c.cells):=⟨_,rfl⟩
   obtain ⟨key,HKEY⟩:∃ key,Hid (key=c.keys):=⟨_,rfl⟩
   obtain ⟨cnt,HCN⟩:∃ cnt,Hid (cnt=c.count):=⟨_,rfl⟩
   obtain ⟨chk,HCH⟩:∃ chk,Hid (chk=c.checks):=⟨_,rfl⟩
   have HKL:Hid (key.length=32):=by show key.length=32; rw [HKEY.out]; exact hcok.keys
   have HLX:Hid (L.length=34∧(∀ v∈L,v.oneCell'=true)∧∀ j v,L[j]?=some v→wr.cell? ⟨bc,i*34+j,none⟩=some v):=by
    show _∧_∧_
    rw [HL.out]
    refine ⟨BC.cells_len hcok,fun v hv=>tY (l:=[c]) v (by simpa [aU] using hv),fun j v hj=>?_⟩
    have hj34:=(List.getElem?_eq_some_iff.1 hj).1
    rw [BC.cells_len hcok] at hj34
    rw [HR.out.1.cell (p:=⟨bc,i*34+j,none⟩) hbc si,H.out.cells.cell,jY H.out.ok.cells rest i c hc j hj34]
    exact hj
   have HSU:=Lib.hid (Gf hc)
   rw [← HCN.out,← HKEY.out,← HCH.out] at HSU
   have HOK:=Lib.hid hcok
   have hiI:(i:Int) < (n:Int):=om
   have hzr:=HR.out.1.size
   have hwl:bw < wr.heap.size:=by obtain ⟨v,ha,_⟩:=HR.out.2; exact ha.lt
   clear hc hcok
   go_upto_region 7 with (first
    | (refine nD rfl 183 (.tmp 30) rfl bc (i*34) rfl L _ (fun j v hj=>HLX.out.2.2 j v hj) Tryz.underlying183 rfl (by rw [HLX.out.1]; kernel_rfl) ?_)
    | (refine nQ rfl 183 (.tmp 5) (.tmp 31) rfl rfl 183 _ L rfl (by rw [HLX.out.1]; rfl) (by rw [HLX.out.1]; kernel_rfl) HLX.out.2.1 ?_; intro w4 hf4 ha4))
   obtain ⟨bx,hbx⟩:∃ bx,bx=wr.heap.size:=⟨_,rfl⟩
   rw [← hbx] at ha4 ⊢
   have hxw:bx≠bw:=om
   have H4:Hid (Fr [] w w4∧iR w4 w.heap.size bw (eA t i)∧At w4 bx 183 c.cells):=⟨HR.out.1.trans hf4,HR.out.2.bel hf4,by rw [← HL.out]; exact ha4⟩
   clear hf4 ha4 hbx
   have hz4:=H4.out.1.size
   have c0:w4.cell? ⟨bx,0,none⟩=some (Value.int .i64 cnt):=by rw [H4.out.2.2.cell,jB,HCN.out]
   go_wp2_with fail
   refine (MJ w.heap.size bw cnt (eA t i) w4 H4.out.2.1 hz4 (by rw [HCN.out]; exact HOK.out.count.1) (by rw [HCN.out]; exact HOK.out.count.2) (by have:=HEL.out i; omega)).mono ?_
   rintro e w5 ⟨rfl,hb5,ha5,ho5⟩
   have H5:Hid (Fr [] w w5∧iR w5 w.heap.size bw (eA t i++aE (eG cnt))∧At w5 bx 183 c.cells):=⟨H4.out.1.xR hb5 (Nat.le_refl _) (by have:=HBW.out; simp; omega),ha5,ho5 bx _ _ H4.out.2.2 (by decide) hxw⟩
   clear c0 hb5 ha5 ho5 H4
   have hz5:=H5.out.1.size
   have hsl:∀ W:World,(Instr.sliceAt 134 (vP bx 1) none none none).run Tryz.prog W = .ok (.slice (some ⟨bx,1,none⟩) 32 32) W:=fun W=>by kernel_rfl
   have hst:(convert 23 9 (.slice (some ⟨bx,1,none⟩) 32 32)).run Tryz.prog w5 = .ok (vS key) w5:=by
    have h1:=rH (P:=Tryz.prog) (src:=23) (dst:=9) Tryz.underlying23 Tryz.underlying5 Tryz.underlying9 w5 (some ⟨bx,1,none⟩) 32 key (fun j v hj=>⟨bx,1,rfl,H5.out.2.2.lt,by
     rw [H5.out.2.2.cell,Nat.add_comm 1 j,BC.cells,List.getElem?_cons_succ,List.getElem?_append_left (by rw [← HKEY.out]; exact (List.getElem?_eq_some_iff.1 hj).1),← HKEY.out]
     exact hj⟩)
    rw [HKL.out] at h1
    exact h1
   have HL5:Hid ((eA t i++aE (eG cnt)).length≤200010):=by
    show _≤_
    have h1:=HEL.out i
    have h2:=fG (eG cnt) (by rw [HCN.out]; exact tJ c.count HOK.out.count.1 HOK.out.count.2)
    rw [List.length_append]
    omega
   go_wp2_with fail
   refine (MM w.heap.size bw key (eA t i++aE (eG cnt)) w5 H5.out.2.1 hz5 HKL.out (by have:=HL5.out; omega)).mono ?_
   rintro e w6 ⟨rfl,hb6,ha6,ho6⟩
   have H6:Hid (Fr [] w w6∧iR w6 w.heap.size bw (eA t i++aE (eG cnt)++key)∧At w6 bx 183 c.cells):=⟨H5.out.1.xR hb6 (Nat.le_refl _) (by have:=HBW.out; simp; omega),ha6,ho6 bx _ _ H5.out.2.2 (by decide) hxw⟩
   clear hsl hst hb6 ha6 ho6 H5
   have hz6:=H6.out.1.size
   have c33:w6.cell? ⟨bx,33,none⟩=some (.int .u64 (chk:Int)):=by rw [H6.out.2.2.cell,mW HOK.out.keys,HCH.out]
   go_wp2_with fail
   refine (zB w.heap.size bw chk (eA t i++aE (eG cnt)++key) w6 H6.out.2.1 hz6 (by rw [HCH.out]; exact HOK.out.checks) (by have:=HL5.out; rw [List.length_append,HKL.out]; omega)).mono ?_
   rintro e w7 ⟨rfl,hb7,ha7,_⟩
   have H7:Hid (Fr [] w w7∧iR w7 w.heap.size bw (eA t (i+1))):=⟨H6.out.1.xR hb7 (Nat.le_refl _) (by have:=HBW.out; simp; omega),by rw [HSU.out]; exact ha7⟩
   clear c33 hb7 ha7 H6
   go_wp2_with fail
   go_roundw
   case rel =>
    first
     | exact ⟨i+1,by omega,by go_num,H7⟩
     | ((repeat apply Exists.intro); exact ⟨⟨i+1,by omega,by go_num,H7⟩,rfl⟩)
   case measure=>simp [intOf] <;> omega
  ·obtain rfl:i=n:=om
   go_wp2_with fail
   refine (MK w.heap.size bw (eA t i) wr HR.out.2 (by have:=HEL.out i; omega)).mono ?_
   rintro e w8 ⟨v,rfl,ho8⟩
   have H8:=Lib.hid ho8
   obtain ⟨A8,c8,rfl⟩:=iT ho8.own
   clear ho8
   go_wp2_with fail
   go_ret
   refine ⟨_,rfl,?_,HR.out.1.trans H8.out.fr⟩
   have h1:=H8.out.own
   unfold BT.enc
   rw [← HN.out]
   exact tG h1 HR.out.1.size
section
variable {X : Option Addr × Nat}
def aX (X : Option Addr × Nat) (w : World) (br : Nat) (D : List UInt8) (off last : Nat) (err : Int) : Prop :=
 ∃ A c, X = (A, c) ∧ At w br 187 [.slice A D.length c, Value.int .i64 (off : Int), Value.int .i64 (last : Int), Value.int .i64 err] ∧ w.ownsRow 0 5 1 (.slice A D.length c) D.length (B8 D)
def MO (X : Option Addr × Nat) (br : Nat) (D : List UInt8) (off last : Nat) (w : World) (e : Ending) (w' : World) : Prop :=
 Fr [br] w w' ∧ ∃ off', off' ≤ D.length ∧ aX X w' br D off' last 0 ∧
  match dE D off with
  | some (n, m) => e = .returned (.tuple #[.int .u64 (n : Int), Value.int .i64 0]) ∧ off' = m ∧ bI n
  | none => e = .returned (.tuple #[.int .u64 0, Value.int .i64 3])
theorem aX.fr {w w':World} {br:Nat} {D:List UInt8} {off last:Nat} {err:Int} (h:aX X w br D off last err) (hf:Fr [] w w'):aX X w' br D off last err:=by
 obtain ⟨A,c,hX,h1,h2⟩:=h
 exact ⟨A,c,hX,h1.fr hf si,dY h2 hf si⟩
theorem uD (br:Nat) (D:List UInt8) (off last:Nat) (w wr:World) (A:Option Addr) (c:Nat) (v:Value) (k:Nat)
  (ha:At w br 187 [.slice A D.length c,vi (off:Int),vi (last:Int),vi 0]) (hrow:w.ownsRow 0 5 1 (.slice A D.length c) D.length (B8 D)) (hX:X=(A,c)) (hf:Fr [br] w wr)
  (hat:At wr br 187 [.slice A D.length c,v,vi (last:Int),vi 0]) (nq:Nat) :
  Fr [br] w ((wr.drewN nq).setCell ⟨br,1,none⟩ (vi ((off:Int)+(k:Int)+1)))∧At ((wr.drewN nq).setCell ⟨br,1,none⟩ (vi ((off:Int)+(k:Int)+1))) br 187 [.slice A D.length c,vI (off+k+1),vi (last:Int),vi 0]∧aX X ((wr.drewN nq).setCell ⟨br,1,none⟩ (vi ((off:Int)+(k:Int)+1))) br D (off+k+1) last 0:=by
 have h1:=(hf.drewN nq).setCell (p:=⟨br,1,none⟩) (.inl si) (Value.int .i64 ((off:Int)+(k:Int)+1))
 have e:(off:Int)+(k:Int)+1=((off+k+1:Nat):Int):=om
 have h2:=(hat.drewN nq).set 1 (Value.int .i64 ((off:Int)+(k:Int)+1))
 rw [e] at h1 h2 ⊢
 refine ⟨h1,h2,A,c,hX,h2,dY hrow h1 ?_⟩
 intro g hg hm
 have:g=br:=by simpa using hm
 subst this
 exact lA hrow ha (by decide) hg
set_option maxHeartbeats 4000000 in
theorem Gh (br:Nat) (D:List UInt8) (off last:Nat) (w:World) (hr:aX X w br D off last 0) (ho:off≤D.length) (hD:D.length≤4294967296) :
  Calls Tryz.prog 145 #[vP br 0] w (MO X br D off last w):=by
 obtain ⟨A,c,hX,ha,hrow⟩:=hr
 have HR:=Lib.hid (And.intro ha hrow)
 have HD:=Lib.hid hD
 clear ha hrow hD
 go_enter Tryz.func145,Tryz.ntmps145
 go_wp2_with fail
 go_loopw [2,6] (fun n i wr=>∃ k:Nat,k≤10∧i = .int .i64 k∧Fr [br] w wr∧At wr br 187 [.slice A D.length c,Value.int .i64 ((off+k:Nat):Int),Value.int .i64 (last:Int),Value.int .i64 0]∧off+k≤D.length ∧
  (∀ j b,j < k→D[off+j]?=some b→128≤b.toNat)∧∃ m:Nat,n = .int .u64 (m:Int)∧bI m∧(k≤9→m=dM (D.drop off) k)) (fun _ i _=>10 - (intOf i).toNat)
 case atStart=>exact ⟨0,by omega,rfl,Fr.refl _ _,HR.out.1,ho,by intro j b h; omega,0,rfl,by unfold bI; decide,fun _=>by simp [dM]⟩
 case round =>
  obtain ⟨k,hk,rfl,hfr,hat,hle,hpre,m,rfl,hm,hacc⟩:=hrel
  have HS:=Lib.hid (And.intro hfr (And.intro hat (And.intro hpre (And.intro hm hacc))))
  have c0:wr.cell? ⟨br,0,none⟩=some (.slice A D.length c):=by rw [hat.cell]; rfl
  have c1:wr.cell? ⟨br,1,none⟩=some (Value.int .i64 ((off+k:Nat):Int)):=by rw [hat.cell]; rfl
  have z1:wr.frozen? ⟨br,1,none⟩=false:=hat.frozen 1
  have hmI:(m:Int)≤18446744073709551615:=by unfold bI at hm; omega
  have hDI:(D.length:Int)≤4294967296:=by have:=HD.out; omega
  clear hfr hat hpre hm hacc
  by_cases hk10:k < 10
  ·by_cases hend:off+k=D.length
   ·have t1:(((off+k:Nat):Int) == (D.length:Int))=true:=by rw [hend]; simp
    have HE:=Lib.hid hend
    clear hend
    go_wp2_with fail
    go_quiet (fail)
    go_wp2_with fail
    go_ret2
    refine ⟨HS.out.1.drewN _,off+k,hle,⟨A,c,hX,HS.out.2.1.drewN _,?_⟩,?_⟩
    ·refine dY HR.out.2 (HS.out.1.drewN _) ?_
     intro g hg hm
     have:g=br:=by simpa using hm
     subst this
     exact lA HR.out.2 HR.out.1 (by decide) hg
    ·rw [EC D off k HS.out.2.2.1 HE.out]
     rfl
   ·have hlt:off+k < D.length:=om
    have t1:(((off+k:Nat):Int) == (D.length:Int))=false:=by simp; omega
    obtain ⟨g,cap',rest,hv,_,_,hrat,hxl,_⟩:=Eu HR.out.2 om
    simp only [Value.slice.injEq,true_and] at hv
    obtain ⟨rfl,rfl⟩:=hv
    have hx:=List.getElem?_eq_getElem hlt
    generalize D[off+k]=x at hx
    have hgb:g≠br:=fun e=>lA HR.out.2 HR.out.1 (by decide) (by rw [e]; rfl)
    have hcx:wr.cell? ⟨g,off+k,none⟩=some (.int .u8 (x.toNat:Int)):=by
     rw [(hrat.fr HS.out.1 (by simpa using hgb)).cell,List.getElem?_append_left (by rw [dL]; exact hlt)]
     exact pZ D _ x hx
    have hxb:=UInt8.toNat_lt x
    have HX:=Lib.hid hx
    obtain ⟨m',he,hm'⟩:=Lk m x k HS.out.2.2.2.1
    unfold Bh at he
    have HM:=Lib.hid hm'
    clear hx hrat hend hm' hxl
    by_cases hx128:128≤x.toNat
    ·have a1:(128:Int)≤(x.toNat:Int):=om
     go_wp2_with fail
     go_quiet (fail)
     go_wp2_with fail
     go_quiet (fail)
     go_wp2_with fail
     go_roundw
     case rel =>
      obtain ⟨f1,f2,f3⟩:=uD br D off last w wr _ c _ k HR.out.1 HR.out.2 hX HS.out.1 HS.out.2.1 _
      refine ⟨k+1,by omega,by go_num,f1,f2,by omega,?_,m',rfl,HM.out.1,fun hk9=>?_⟩
      ·intro j b hj hb
       by_cases e:j=k
       ·subst e
        rw [HX.out] at hb
        injection hb with hb
        subst hb
        omega
       ·exact HS.out.2.2.1 j b om hb
      ·rw [qC k _ x (by rw [List.getElem?_drop]; exact HX.out),← HS.out.2.2.2.2 om]
       refine HM.out.2 ?_ ?_
       ·rw [HS.out.2.2.2.2 om]; exact tN _ _
       ·have h1:128 ^ k≤128 ^ 8:=Nat.pow_le_pow_right om (by first | omega | (have:=HG.out; omega))
        have h2:=Nat.mod_lt x.toNat (show 128 > 0 by omega)
        have h3:x.toNat % 128*128 ^ k≤127*128 ^ 8:=Nat.mul_le_mul om h1
        have h4:127*128 ^ 8 < 18446744073709551616:=by decide
        omega
     case measure=>simp [intOf]; omega
    ·by_cases hbad:(0 < k∧x.toNat=0)∨(k=9∧1 < x.toNat)
     ·have HB:=Lib.hid hbad
      by_cases hx0:x.toNat=0
      ·have a1:((x.toNat:Int) == 0)=true:=by simp [hx0]
       have a2:(0:Int) < (k:Int):=om
       have a3:(x.toNat:Int) < 128:=om
       clear hbad
       go_wp2_with fail
       go_quiet (fail)
       go_wp2_with fail
       go_quiet (fail)
       go_wp2_with fail
       go_ret2
       obtain ⟨f1,f2,f3⟩:=uD br D off last w wr _ c _ k HR.out.1 HR.out.2 hX HS.out.1 HS.out.2.1 _
       refine ⟨f1,_,?_,f3,?_⟩
       ·omega
       rw [rG D off k x HS.out.2.2.1 HX.out om]
       rw [if_neg (by have:=HB.out; omega)]
       rfl
      ·have a1:((x.toNat:Int) == 0)=false:=by simp; omega
       have a2:(0:Int) < (k:Int):=om
       have a3:(x.toNat:Int) < 128:=om
       have a4:((k:Int) == 9)=true:=by simp; omega
       have a5:(1:Int) < (x.toNat:Int):=om
       clear hbad
       go_wp2_with fail
       go_quiet (fail)
       go_wp2_with fail
       go_quiet (fail)
       go_wp2_with fail
       go_ret2
       obtain ⟨f1,f2,f3⟩:=uD br D off last w wr _ c _ k HR.out.1 HR.out.2 hX HS.out.1 HS.out.2.1 _
       refine ⟨f1,_,?_,f3,?_⟩
       ·omega
       rw [rG D off k x HS.out.2.2.1 HX.out om]
       rw [if_neg (by have:=HB.out; omega)]
       rfl
     ·have HG0:=Lib.hid hbad
      by_cases hk0:k=0
      ·have a1:decide ((0:Int) < (k:Int))=false:=by simp; omega
       have a1n:decide (0 < k)=false:=by simp; omega
       have HG:=Lib.hid (And.intro HG0.out (And.intro hk0 hx128))
       have a3:(x.toNat:Int) < 128:=om
       have a4:((k:Int) == 9)=false:=by simp; omega
       clear hbad hk0 HG0
       go_wp2_with fail
       go_quiet (fail)
       go_wp2_with fail
       go_quiet (fail)
       go_wp2_with fail
       go_ret2
       obtain ⟨f1,f2,f3⟩:=uD br D off last w wr _ c _ k HR.out.1 HR.out.2 hX HS.out.1 HS.out.2.1 _
       refine ⟨f1,_,?_,f3,?_⟩
       ·omega
       rw [rG D off k x HS.out.2.2.1 HX.out om]
       rw [if_pos (by have:=HG.out; omega)]
       have hv:m'=dM (D.drop off) (k+1):=by
        rw [qC k _ x (by rw [List.getElem?_drop]; exact HX.out),← HS.out.2.2.2.2 om]
        refine HM.out.2 ?_ ?_
        ·rw [HS.out.2.2.2.2 om]; exact tN _ _
        ·have h1:128 ^ k≤128 ^ 8:=Nat.pow_le_pow_right om (by first | omega | (have:=HG.out; omega))
         have h2:=Nat.mod_lt x.toNat (show 128 > 0 by omega)
         have h3:x.toNat % 128*128 ^ k≤127*128 ^ 8:=Nat.mul_le_mul om h1
         have h4:127*128 ^ 8 < 18446744073709551616:=by decide
         omega
       rw [← hv]
       exact ⟨rfl,rfl,HM.out.1⟩
      ·by_cases hk9:k=9
       ·have a1:((x.toNat:Int) == 0)=false:=by simp; omega
        have a2:(0:Int) < (k:Int):=om
        have a3:(x.toNat:Int) < 128:=om
        have a4:((k:Int) == 9)=true:=by simp; omega
        have a5:¬ (1:Int) < (x.toNat:Int):=om
        have HK:=Lib.hid hk9
        have HG:=Lib.hid (And.intro HG0.out (And.intro hk9 hx128))
        clear hbad hk0 hk9
        go_wp2_with fail
        go_quiet (fail)
        go_wp2_with fail
        go_quiet (fail)
        go_wp2_with fail
        go_ret2
        obtain ⟨f1,f2,f3⟩:=uD br D off last w wr _ c _ k HR.out.1 HR.out.2 hX HS.out.1 HS.out.2.1 _
        refine ⟨f1,_,?_,f3,?_⟩
        ·omega
        rw [rG D off k x HS.out.2.2.1 HX.out om]
        rw [if_pos (by have:=HG.out; omega)]
        have hv:m'=dM (D.drop off) (k+1):=by
         rw [qC k _ x (by rw [List.getElem?_drop]; exact HX.out),← HS.out.2.2.2.2 om]
         refine HM.out.2 ?_ ?_
         ·rw [HS.out.2.2.2.2 om]; exact tN _ _
         ·have hk9:=HK.out
          subst hk9
          have h1:x.toNat % 128=1:=by have:=HG.out; omega
          rw [h1]
          decide
        rw [← hv]
        exact ⟨rfl,rfl,HM.out.1⟩
       ·have a1:((x.toNat:Int) == 0)=false:=by simp; omega
        have a2:(0:Int) < (k:Int):=om
        have a3:(x.toNat:Int) < 128:=om
        have a4:((k:Int) == 9)=false:=by simp; omega
        have HG:=Lib.hid (And.intro HG0.out (And.intro hk9 (And.intro hk0 hx128)))
        clear hbad hk9 hk0
        go_wp2_with fail
        go_quiet (fail)
        go_wp2_with fail
        go_quiet (fail)
        go_wp2_with fail
        go_ret2
        obtain ⟨f1,f2,f3⟩:=uD br D off last w wr _ c _ k HR.out.1 HR.out.2 hX HS.out.1 HS.out.2.1 _
        refine ⟨f1,_,?_,f3,?_⟩
        ·omega
        rw [rG D off k x HS.out.2.2.1 HX.out om]
        rw [if_pos (by have:=HG.out; omega)]
        have hv:m'=dM (D.drop off) (k+1):=by
         rw [qC k _ x (by rw [List.getElem?_drop]; exact HX.out),← HS.out.2.2.2.2 om]
         refine HM.out.2 ?_ ?_
         ·rw [HS.out.2.2.2.2 om]; exact tN _ _
         ·have h1:128 ^ k≤128 ^ 8:=Nat.pow_le_pow_right om (by first | omega | (have:=HG.out; omega))
          have h2:=Nat.mod_lt x.toNat (show 128 > 0 by omega)
          have h3:x.toNat % 128*128 ^ k≤127*128 ^ 8:=Nat.mul_le_mul om h1
          have h4:127*128 ^ 8 < 18446744073709551616:=by decide
          omega
        rw [← hv]
        exact ⟨rfl,rfl,HM.out.1⟩
  ·obtain rfl:k=10:=om
   go_wp2_with fail
   go_ret2
   refine ⟨HS.out.1,off+10,hle,⟨A,c,hX,HS.out.2.1,?_⟩,?_⟩
   ·refine dY HR.out.2 HS.out.1 ?_
    intro g hg hm
    have:g=br:=by simpa using hm
    subst this
    exact lA HR.out.2 HR.out.1 (by decide) hg
   ·rw [ED D off HS.out.2.2.1 hle]
    rfl
end
section
variable {X : Option Addr × Nat}
structure Rd where
 D : List UInt8
 off : Nat
 last : Nat
 err : Int
structure Rd.Ok (r : Rd) : Prop where
 off : r.off ≤ r.D.length
 len : r.D.length ≤ 4294967296
def bA (X : Option Addr × Nat) (w : World) (br : Nat) (r : Rd) : Prop := aX X w br r.D r.off r.last r.err
def Rd.done (r : Rd) (m : Nat) : Rd := { r with off := m, last := r.off }
def Rd.fail (r : Rd) (e : Int) : Rd := { r with last := r.off, err := e }
def Rd.uint (r : Rd) : Nat × Rd := if r.err = 0 then (match dE r.D r.off with | some (n, m) => (n, r.done m) | none => (0, r.fail 3)) else (0, r)
theorem MP (b0 b1 b2 br:Nat) (A:Option Addr) (n c:Nat) (off last start:Int) (w:World) (h0:At w b0 3 [vi start]) (h1:At w b1 124 [vP br 0]) (hr:At w br 187 [.slice A n c,vi off,vi last,vi 0]) :
  CallsD Tryz.prog 175 #[vP b0 0,vP b1 0,vP b2 0] .returning w fun e u' w'=>u' = .returning∧e = .returned (.tuple #[])∧w'=w.setCell ⟨br,2,none⟩ (vi start):=by
 have c0:w.cell? ⟨b0,0,none⟩=some (Value.int .i64 start):=by rw [h0.cell]; rfl
 have c1:w.cell? ⟨b1,0,none⟩=some (Value.pointer (some ⟨br,0,none⟩)):=by rw [h1.cell]; rfl
 have c2:w.cell? ⟨br,2,none⟩=some (Value.int .i64 last):=by rw [hr.cell]; rfl
 have c3:w.cell? ⟨br,3,none⟩=some (vi 0):=by rw [hr.cell]; rfl
 have z2:=hr.frozen 2
 have hne:b1≠br:=h1.ne hr (by decide)
 clear h0 h1 hr
 go_enter_d Tryz.func175,Tryz.ntmps175
 go_wp2_with fail
 go_end0
 exact ⟨rfl,rfl⟩
theorem MQ (b0 b1 b2 br:Nat) (A:Option Addr) (n c:Nat) (off last start err v:Int) (w:World) (h0:At w b0 3 [vi start]) (h1:At w b1 124 [vP br 0]) (h2:At w b2 80 [.int .u64 v]) (hr:At w br 187 [.slice A n c,vi off,vi last,vi err]) (he:err≠0) :
  CallsD Tryz.prog 175 #[vP b0 0,vP b1 0,vP b2 0] .returning w fun e u' w'=>u' = .returning∧e = .returned (.tuple #[])∧w'=((w.setCell ⟨br,2,none⟩ (vi start)).setCell ⟨br,1,none⟩ (vi start)).setCell ⟨b2,0,none⟩ (.int .u64 0):=by
 have c0:w.cell? ⟨b0,0,none⟩=some (Value.int .i64 start):=by rw [h0.cell]; rfl
 have c1:w.cell? ⟨b1,0,none⟩=some (Value.pointer (some ⟨br,0,none⟩)):=by rw [h1.cell]; rfl
 have cr1:w.cell? ⟨br,1,none⟩=some (Value.int .i64 off):=by rw [hr.cell]; rfl
 have c2:w.cell? ⟨br,2,none⟩=some (Value.int .i64 last):=by rw [hr.cell]; rfl
 have c3:w.cell? ⟨br,3,none⟩=some (Value.int .i64 err):=by rw [hr.cell]; rfl
 have c4:w.cell? ⟨b2,0,none⟩=some (.int .u64 v):=by rw [h2.cell]; rfl
 have z2:=hr.frozen 2
 have z1:=hr.frozen 1
 have z4:=h2.frozen 0
 have hne:b1≠br:=h1.ne hr (by decide)
 have hne2:b2≠br:=h2.ne hr (by decide)
 have hne0:b0≠br:=h0.ne hr (by decide)
 have heb:(err != 0)=true:=by simpa using he
 clear h0 h1 hr h2 he
 go_enter_d Tryz.func175,Tryz.ntmps175
 go_wp2_with fail
 go_end0
 exact ⟨rfl,rfl⟩
theorem Co (br:Nat) (D:List UInt8) (off last:Nat) (w:World) (hr:aX X w br D off last 0) (ho:off≤D.length) (hD:D.length≤4294967296) (n m:Nat) (h:dE D off=some (n,m)) :
  Calls Tryz.prog 145 #[vP br 0] w fun e w'=>e = .returned (.tuple #[.int .u64 (n:Int),vi 0])∧Fr [br] w w'∧aX X w' br D m last 0∧m≤D.length∧bI n:=by
 refine (Gh br D off last w hr ho hD).mono ?_
 rintro e w' ⟨hf,off',h1,h2,h3⟩
 rw [h] at h3
 obtain ⟨rfl,rfl,hu⟩:=h3
 exact ⟨rfl,hf,h2,h1,hu⟩
theorem Gi (br:Nat) (D:List UInt8) (off last:Nat) (w:World) (hr:aX X w br D off last 0) (ho:off≤D.length) (hD:D.length≤4294967296) (h:dE D off=none) :
  Calls Tryz.prog 145 #[vP br 0] w fun e w'=>e = .returned (.tuple #[.int .u64 0,vi 3])∧Fr [br] w w'∧∃ off',off'≤D.length∧aX X w' br D off' last 0:=by
 refine (Gh br D off last w hr ho hD).mono ?_
 rintro e w' ⟨hf,off',h1,h2,h3⟩
 rw [h] at h3
 exact ⟨h3,hf,off',h1,h2⟩
theorem aX.ne {w:World} {br b:Nat} {D:List UInt8} {off last:Nat} {err:Int} {t:TypeId} {l:List Value} (h:aX X w br D off last err) (ha:At w b t l) (hne:t≠187):b≠br:=by
 obtain ⟨A,c,hX,h1,_⟩:=h
 exact ha.ne h1 hne
theorem oM {W w1:World} {br B b2:Nat} {D:List UInt8} {off last off' last':Nat} {err:Int} {t2:TypeId} {v2:Value} (h0:At W B 124 [vP br 0]) (h1:At W b2 t2 [v2]) (hr:aX X W br D off last 0) (hf:Fr [br] W.drew w1) (hr1:aX X w1 br D off' last' err) (ht:t2≠187:=by decide) :
  w1.cell? ⟨B,0,none⟩=some (.pointer (some ⟨br,0,none⟩))∧w1.cell? ⟨b2,0,none⟩=some v2∧w1.frozen? ⟨b2,0,none⟩=false∧w1.cell? ⟨br,3,none⟩=some (vi err)∧w1.frozen? ⟨br,3,none⟩=false:=by
 have n0:=hr.ne h0 (by decide)
 have n1:=hr.ne h1 ht
 have k0:At w1 B 124 [vP br 0]:=(At.drew h0).fr hf (by simpa using n0)
 have k1:At w1 b2 t2 [v2]:=(At.drew h1).fr hf (by simpa using n1)
 obtain ⟨A,c,hX,h3,_⟩:=hr1
 exact ⟨by rw [k0.cell]; rfl,by rw [k1.cell]; rfl,k1.frozen 0,by rw [h3.cell]; rfl,h3.frozen 3⟩
theorem oN {W w1:World} {br B b2 b3:Nat} {D:List UInt8} {off last off' last':Nat} {start:Int} {t2:TypeId} {v2:Value} (h0:At W B 124 [vP br 0]) (h1:At W b2 t2 [v2]) (h3:At W b3 3 [vi start]) (hr:aX X W br D off last 0) (hf:Fr [br] W.drew w1) (hr1:aX X w1 br D off' last' 0)
  (v er:Value) (hb:b2≠br∧b2≠B∧b2≠b3∧b3≠br) (ht8:t2≠5) :
  At (((w1.setCell ⟨b2,0,none⟩ v).setCell ⟨br,3,none⟩ er).setCell ⟨b2,0,none⟩ v) B 124 [vP br 0]∧At (((w1.setCell ⟨b2,0,none⟩ v).setCell ⟨br,3,none⟩ er).setCell ⟨b2,0,none⟩ v) b2 t2 [v]∧At (((w1.setCell ⟨b2,0,none⟩ v).setCell ⟨br,3,none⟩ er).setCell ⟨b2,0,none⟩ v) b3 3 [vi start] ∧
  (∃ A c,X=(A,c)∧At (((w1.setCell ⟨b2,0,none⟩ v).setCell ⟨br,3,none⟩ er).setCell ⟨b2,0,none⟩ v) br 187 [.slice A D.length c,vi (off':Int),vi (last':Int),er]∧(((w1.setCell ⟨b2,0,none⟩ v).setCell ⟨br,3,none⟩ er).setCell ⟨b2,0,none⟩ v).ownsRow 0 5 1 (.slice A D.length c) D.length (B8 D)) ∧
  Fr [br,b2] W (((w1.setCell ⟨b2,0,none⟩ v).setCell ⟨br,3,none⟩ er).setCell ⟨b2,0,none⟩ v):=by
 obtain ⟨hb1,hb2,hb3,hb4⟩:=hb
 have n0:=hr.ne h0 (by decide)
 have n1:b2≠br:=hb1
 have k0:At w1 B 124 [vP br 0]:=(At.drew h0).fr hf (by simpa using n0)
 have k1:At w1 b2 t2 [v2]:=(At.drew h1).fr hf (by simpa using n1)
 have k3:At w1 b3 3 [vi start]:=(At.drew h3).fr hf (by simpa using hb4)
 obtain ⟨A,c,hX,hra,hrow⟩:=hr1
 have f1:Fr [br,b2] W (((w1.setCell ⟨b2,0,none⟩ v).setCell ⟨br,3,none⟩ er).setCell ⟨b2,0,none⟩ v):=by
  have:Fr [br] W w1:=⟨hf.os,hf.tape,hf.output,hf.size,hf.block⟩
  exact (((this.mono (S':=[br,b2]) si).setCell (.inl si) _).setCell (.inl si) _).setCell (.inl si) _
 refine ⟨((k0.far (by simpa using hb2.symm) _).far (by simpa using n0) _).far (by simpa using hb2.symm) _,?_,((k3.far (by simpa using hb3.symm) _).far (by simpa using hb4) _).far (by simpa using hb3.symm) _,⟨A,c,hX,?_,?_⟩,f1⟩
 ·exact ((k1.set 0 v).far (by simpa using n1) _).set 0 v
 ·exact ((hra.far (by simpa using n1.symm) _).set 3 er).far (by simpa using n1.symm) _
 ·have f2:Fr [br,b2] w1 (((w1.setCell ⟨b2,0,none⟩ v).setCell ⟨br,3,none⟩ er).setCell ⟨b2,0,none⟩ v):=((((Fr.refl _ _).setCell (.inl si) _).setCell (.inl si) _).setCell (.inl si) _)
  refine dY hrow f2 ?_
  intro g hg hm
  simp only [List.mem_cons,List.not_mem_nil,or_false] at hm
  rcases hm with rfl | rfl
  ·exact lA hrow hra (by decide) hg
  ·exact lA hrow k1 (Ne.symm ht8) hg
theorem wJ {W w5:World} {w:World} {br:Nat} {D:List UInt8} {off m last:Nat} {b2:Nat} {t2:TypeId} {v:Value} {A:Option Addr} {c:Nat} (hW:Fr [] w W) (hf:Fr [br,b2] W w5) (hb2:w.heap.size≤b2) (h2:At w5 b2 t2 [v]) (ht:t2≠187)
  (hr:At w5 br 187 [.slice A D.length c,vi (m:Int),vi (last:Int),vi 0]) (hrow:w5.ownsRow 0 5 1 (.slice A D.length c) D.length (B8 D)) (hX:X=(A,c)) :
  (w5.setCell ⟨br,2,none⟩ (vi (off:Int))).cell? ⟨b2,0,none⟩=some v∧Fr [br] w (w5.setCell ⟨br,2,none⟩ (vi (off:Int)))∧aX X (w5.setCell ⟨br,2,none⟩ (vi (off:Int))) br D m off 0:=by
 have hne:=h2.ne hr ht
 refine ⟨by rw [(h2.far (by simpa using hne) _).cell]; rfl,?_,A,c,hX,hr.set 2 _,?_⟩
 ·refine ((hW.mono (S':=[br]) si).trans' hf ?_).setCell (.inl si) _
  intro x hx
  simp only [List.mem_cons,List.not_mem_nil,or_false] at hx
  rcases hx with rfl | rfl
  ·exact .inl si
  ·exact .inr hb2
 ·refine dY (S:=[br]) hrow ((Fr.refl _ _).setCell (.inl si) _) ?_
  intro g hg hm
  have:g=br:=by simpa using hm
  subst this
  exact lA hrow hr (by decide) hg
theorem wK {W w5:World} {w:World} {br:Nat} {D:List UInt8} {off m last:Nat} {b2:Nat} {t2:TypeId} {v z:Value} {er:Int} {A:Option Addr} {c:Nat} (hW:Fr [] w W) (hf:Fr [br,b2] W w5) (hb2:w.heap.size≤b2) (h2:At w5 b2 t2 [v]) (ht:t2≠187) (ht8:t2≠5)
  (hr:At w5 br 187 [.slice A D.length c,vi (m:Int),vi (last:Int),vi er]) (hrow:w5.ownsRow 0 5 1 (.slice A D.length c) D.length (B8 D)) (hX:X=(A,c)) :
  (((w5.setCell ⟨br,2,none⟩ (vi (off:Int))).setCell ⟨br,1,none⟩ (vi (off:Int))).setCell ⟨b2,0,none⟩ z).cell? ⟨b2,0,none⟩=some z∧Fr [br] w (((w5.setCell ⟨br,2,none⟩ (vi (off:Int))).setCell ⟨br,1,none⟩ (vi (off:Int))).setCell ⟨b2,0,none⟩ z)∧aX X (((w5.setCell ⟨br,2,none⟩ (vi (off:Int))).setCell ⟨br,1,none⟩ (vi (off:Int))).setCell ⟨b2,0,none⟩ z) br D off off er:=by
 have hne:=h2.ne hr ht
 refine ⟨by rw [(((h2.far (by simpa using hne) _).far (by simpa using hne) _).set 0 z).cell]; rfl,?_,A,c,hX,(((hr.set 2 _).set 1 _).far (by simpa using hne.symm) _),?_⟩
 ·refine ((((hW.mono (S':=[br]) si).trans' hf ?_).setCell (.inl si) _).setCell (.inl si) _).setCell (.inr hb2) _
  intro x hx
  simp only [List.mem_cons,List.not_mem_nil,or_false] at hx
  rcases hx with rfl | rfl
  ·exact .inl si
  ·exact .inr hb2
 ·refine dY (S:=[br,b2]) hrow ((((Fr.refl _ _).setCell (.inl si) _).setCell (.inl si) _).setCell (.inl si) _) ?_
  intro g hg hm
  simp only [List.mem_cons,List.not_mem_nil,or_false] at hm
  rcases hm with rfl | rfl
  ·exact lA hrow hr (by decide) hg
  ·exact lA hrow h2 (Ne.symm ht8) hg
set_option maxHeartbeats 4000000 in
theorem MR (br:Nat) (r:Rd) (w:World) (hr:bA X w br r) (hk:r.Ok) (h0:r.err=0) :
  Calls Tryz.prog 144 #[vP br 0,.func (.func 145) #[vP br 0] #[]] w fun e w'=>e = .returned (.int .u64 (r.uint.1:Int))∧Fr [br] w w'∧bA X w' br r.uint.2:=by
 obtain ⟨D,off,last,err⟩:=r
 simp only at h0
 subst h0
 obtain ⟨A,c,hX,ha,hrow⟩:=hr
 have c1:w.cell? ⟨br,1,none⟩=some (Value.int .i64 (off:Int)):=by rw [ha.cell]; rfl
 have c3:w.cell? ⟨br,3,none⟩=some (vi 0):=by rw [ha.cell]; rfl
 have hlt:=ha.lt
 have HR:=Lib.hid (And.intro ha hrow)
 have HK:=Lib.hid hk
 clear ha hrow hk
 have hmf:∀ (fn:Fn) (first cap:Array Value) (w:World),(Instr.makeFunc fn first cap).run Tryz.prog w = .ok (.func fn first cap) w:=fun _ _ _ _=>rfl
 go_enter_defers Tryz.func144,Tryz.ntmps144
 go_wp2_with fail
 obtain ⟨W,hW⟩:∃ W,W=((w.alloc (Obj.cells #[vP br 0] 124)).alloc (Obj.cells #[Value.int IntKind.u64 0] 80)).alloc (Obj.cells #[vi (off:Int)] 3):=⟨_,rfl⟩
 rw [← hW]
 have HW:Hid (At W w.heap.size 124 [vP br 0]∧At W (w.heap.size+1) 80 [.int .u64 0]∧At W (w.heap.size+1+1) 3 [vi (off:Int)]∧Fr [] w W∧aX X W br D off last 0):=by
  rw [hW]
  refine ⟨((At.new w 124 [vP br 0]).alloc _).alloc _,?_,?_,(((Fr.refl _ _).alloc _).alloc _).alloc _,A,c,hX,((HR.out.1.alloc _).alloc _).alloc _,((HR.out.2.alloc _).alloc _).alloc _⟩
  ·have:=(At.new (w.alloc (Obj.cells #[vP br 0] 124)) 80 [.int .u64 0]).alloc (Obj.cells #[vi (off:Int)] 3)
   simpa using this
  ·have:=At.new ((w.alloc (Obj.cells #[vP br 0] 124)).alloc (Obj.cells #[Value.int IntKind.u64 0] 80)) 3 [vi (off:Int)]
   simpa using this
 clear hW c1 c3
 have d0:W.cell? ⟨w.heap.size,0,none⟩=some (Value.pointer (some ⟨br,0,none⟩)):=by rw [HW.out.1.cell]; rfl
 have nb1:w.heap.size≠br:=om
 have nb2:br≠w.heap.size:=om
 cases hrd:dE D off with
 | some p =>
   obtain ⟨n,m⟩:=p
   have HD:=Lib.hid hrd
   clear hrd
   go_region_held3 (fun w'=>w'.cell? ⟨w.heap.size,0,none⟩=some (Value.pointer (some ⟨br,0,none⟩))) (go_keep) (first | (go_at_call 145; refine (Co br D off last _ (by exact HW.out.2.2.2.2) HK.out.off HK.out.len n m HD.out).mono ?_; rintro e w1 ⟨rfl,hf1,hr1,hm1,hu1⟩; obtain ⟨e0,e1,z1,e3,z3⟩:=oM (W:=W) HW.out.1 HW.out.2.1 HW.out.2.2.2.2 hf1 hr1; have H1:=Lib.hid (And.intro hf1 (And.intro hr1 (And.intro hm1 hu1))); clear hf1 hr1 hm1 hu1))
   go_wp2_with fail
   obtain ⟨k0,k1,k2,k3,kf⟩:=oN HW.out.1 HW.out.2.1 HW.out.2.2.1 HW.out.2.2.2.2 H1.out.1 H1.out.2.1 (.int .u64 (n:Int)) (vi 0) om (by decide)
   refine leaves_cons (f:=175) (args:=#[Value.pointer (some ⟨w.heap.size+1+1,0,none⟩),Value.pointer (some ⟨w.heap.size,0,none⟩),Value.pointer (some ⟨w.heap.size+1,0,none⟩)]) si (by simp [go_sem]) ?_
   obtain ⟨A',c',hX',k3'⟩:=k3
   refine (MP _ _ _ br A' _ c' _ _ _ _ k2 k0 k3'.1).mono ?_
   rintro e u' w'' ⟨rfl,rfl,rfl⟩
   obtain ⟨g1,g2,g3⟩:=wJ (off:=off) HW.out.2.2.2.1 kf om k1 (by decide) k3'.1 k3'.2 hX'
   refine ⟨.int .u64 (n:Int),by simp [results,Tryz.results144,go_sem,g1],?_,g2,?_⟩
   ·simp only [Rd.uint,if_true,HD.out]
   ·simp only [Rd.uint,if_true,HD.out]
    exact g3
 | none =>
   have HD:=Lib.hid hrd
   clear hrd
   go_region_held3 (fun w'=>w'.cell? ⟨w.heap.size,0,none⟩=some (Value.pointer (some ⟨br,0,none⟩))) (go_keep) (first | (go_at_call 145; refine (Gi br D off last _ (by exact HW.out.2.2.2.2) HK.out.off HK.out.len HD.out).mono ?_; rintro e w1 ⟨rfl,hf1,off',hm1,hr1⟩; obtain ⟨e0,e1,z1,e3,z3⟩:=oM (W:=W) HW.out.1 HW.out.2.1 HW.out.2.2.2.2 hf1 hr1; have H1:=Lib.hid (And.intro hf1 (And.intro hr1 hm1)); clear hf1 hr1 hm1))
   go_wp2_with fail
   obtain ⟨k0,k1,k2,k3,kf⟩:=oN HW.out.1 HW.out.2.1 HW.out.2.2.1 HW.out.2.2.2.2 H1.out.1 H1.out.2.1 (.int .u64 0) (Value.int .i64 3) om (by decide)
   refine leaves_cons (f:=175) (args:=#[Value.pointer (some ⟨w.heap.size+1+1,0,none⟩),Value.pointer (some ⟨w.heap.size,0,none⟩),Value.pointer (some ⟨w.heap.size+1,0,none⟩)]) si (by simp [go_sem]) ?_
   obtain ⟨A',c',hX',k3'⟩:=k3
   refine (MQ _ _ _ br A' _ c' _ _ _ 3 0 _ k2 k0 k1 k3'.1 (by decide)).mono ?_
   rintro e u' w'' ⟨rfl,rfl,rfl⟩
   obtain ⟨g1,g2,g3⟩:=wK (off:=off) (z:=.int .u64 0) HW.out.2.2.2.1 kf om k1 (by decide) (by decide) k3'.1 k3'.2 hX'
   refine ⟨.int .u64 0,by simp [results,Tryz.results144,go_sem,g1],?_,g2,?_⟩
   ·simp only [Rd.uint,if_true,HD.out]
    rfl
   ·simp only [Rd.uint,if_true,HD.out]
    exact g3
theorem MS (br:Nat) (r:Rd) (fv:Value) (w:World) (hr:bA X w br r) (h0:r.err≠0) :
  Calls Tryz.prog 144 #[vP br 0,fv] w fun e w'=>e = .returned (.int .u64 0)∧Fr [] w w'∧bA X w' br r:=by
 have hr0:=hr
 obtain ⟨A,c,hX,ha,hrow⟩:=hr
 have c3:w.cell? ⟨br,3,none⟩=some (Value.int .i64 r.err):=by rw [ha.cell]; rfl
 have hb:(r.err != 0)=true:=by simpa using h0
 have hlt:=ha.lt
 have HR:=Lib.hid hr0
 clear ha hrow hr0 h0
 go_enter_defers Tryz.func144,Tryz.ntmps144
 go_wp2_with fail
 have hf:Fr [] w ((w.alloc (Obj.cells #[vP br 0] 124)).alloc (Obj.cells #[Value.int IntKind.u64 0] 80)):=((Fr.refl _ _).alloc _).alloc _
 exact ⟨.int .u64 0,by simp [results,Tryz.results144,go_sem],rfl,hf,aX.fr HR.out hf⟩
end
section
variable {X : Option Addr × Nat}
theorem MT (b0 b1 b2 br:Nat) (A:Option Addr) (n c:Nat) (off last start:Int) (w:World) (h0:At w b0 3 [vi start]) (h1:At w b1 124 [vP br 0]) (hr:At w br 187 [.slice A n c,vi off,vi last,vi 0]) :
  CallsD Tryz.prog 221 #[vP b0 0,vP b1 0,vP b2 0] .returning w fun e u' w'=>u' = .returning∧e = .returned (.tuple #[])∧w'=w.setCell ⟨br,2,none⟩ (vi start):=by
 have c0:w.cell? ⟨b0,0,none⟩=some (Value.int .i64 start):=by rw [h0.cell]; rfl
 have c1:w.cell? ⟨b1,0,none⟩=some (Value.pointer (some ⟨br,0,none⟩)):=by rw [h1.cell]; rfl
 have c2:w.cell? ⟨br,2,none⟩=some (Value.int .i64 last):=by rw [hr.cell]; rfl
 have c3:w.cell? ⟨br,3,none⟩=some (vi 0):=by rw [hr.cell]; rfl
 have z2:=hr.frozen 2
 have hne:b1≠br:=h1.ne hr (by decide)
 clear h0 h1 hr
 go_enter_d Tryz.func221,Tryz.ntmps221
 go_wp2_with fail
 go_end0
 exact ⟨rfl,rfl⟩
theorem MU (b0 b1 b2 br:Nat) (A:Option Addr) (n c:Nat) (off last start err:Int) (v:Value) (w:World) (h0:At w b0 3 [vi start]) (h1:At w b1 124 [vP br 0]) (h2:At w b2 3 [v]) (hr:At w br 187 [.slice A n c,vi off,vi last,vi err]) (he:err≠0) (hb:b2≠b0∧b2≠br) :
  CallsD Tryz.prog 221 #[vP b0 0,vP b1 0,vP b2 0] .returning w fun e u' w'=>u' = .returning∧e = .returned (.tuple #[])∧w'=((w.setCell ⟨br,2,none⟩ (vi start)).setCell ⟨br,1,none⟩ (vi start)).setCell ⟨b2,0,none⟩ (vi 0):=by
 have c0:w.cell? ⟨b0,0,none⟩=some (Value.int .i64 start):=by rw [h0.cell]; rfl
 have c1:w.cell? ⟨b1,0,none⟩=some (Value.pointer (some ⟨br,0,none⟩)):=by rw [h1.cell]; rfl
 have cr1:w.cell? ⟨br,1,none⟩=some (Value.int .i64 off):=by rw [hr.cell]; rfl
 have c2:w.cell? ⟨br,2,none⟩=some (Value.int .i64 last):=by rw [hr.cell]; rfl
 have c3:w.cell? ⟨br,3,none⟩=some (Value.int .i64 err):=by rw [hr.cell]; rfl
 have c4:w.cell? ⟨b2,0,none⟩=some v:=by rw [h2.cell]; rfl
 have z2:=hr.frozen 2
 have z1:=hr.frozen 1
 have z4:=h2.frozen 0
 have hne:b1≠br:=h1.ne hr (by decide)
 have hne2:b2≠br:=hb.2
 have hne0:b0≠br:=h0.ne hr (by decide)
 have heb:(err != 0)=true:=by simpa using he
 clear h0 h1 hr h2 he hb
 go_enter_d Tryz.func221,Tryz.ntmps221
 go_wp2_with fail
 go_end0
 exact ⟨rfl,rfl⟩
set_option maxHeartbeats 4000000 in
theorem MV (br:Nat) (D:List UInt8) (off last m:Nat) (x:Int) (bx by_:Nat) (w:World) (hr:aX X w br D off last 0)
  (hdec:∀ W,Fr [] w W→aX X W br D off last 0→Calls Tryz.prog 206 #[vP bx 0,vP by_ 0] W fun e w'=>e = .returned (.tuple #[vi x,vi 0])∧Fr [br] W w'∧aX X w' br D m last 0) :
  Calls Tryz.prog 205 #[vP br 0,.func (.func 206) #[] #[vP bx 0,vP by_ 0]] w fun e w'=>e = .returned (vi x)∧Fr [br] w w'∧aX X w' br D m off 0:=by
 obtain ⟨A,c,hX,ha,hrow⟩:=hr
 have c1:w.cell? ⟨br,1,none⟩=some (Value.int .i64 (off:Int)):=by rw [ha.cell]; rfl
 have c3:w.cell? ⟨br,3,none⟩=some (vi 0):=by rw [ha.cell]; rfl
 have hlt:=ha.lt
 have HR:=Lib.hid (And.intro ha hrow)
 have HD:=Lib.hid hdec
 clear ha hrow hdec
 have hmf:∀ (fn:Fn) (first cap:Array Value) (w:World),(Instr.makeFunc fn first cap).run Tryz.prog w = .ok (.func fn first cap) w:=fun _ _ _ _=>rfl
 go_enter_defers Tryz.func205,Tryz.ntmps205
 go_wp2_with fail
 obtain ⟨W,hW⟩:∃ W,W=((w.alloc (Obj.cells #[vP br 0] 124)).alloc (Obj.cells #[vi 0] 3)).alloc (Obj.cells #[vi (off:Int)] 3):=⟨_,rfl⟩
 rw [← hW]
 have HW:Hid (At W w.heap.size 124 [vP br 0]∧At W (w.heap.size+1) 3 [vi 0]∧At W (w.heap.size+1+1) 3 [vi (off:Int)]∧Fr [] w W∧aX X W br D off last 0):=by
  rw [hW]
  refine ⟨((At.new w 124 [vP br 0]).alloc _).alloc _,?_,?_,(((Fr.refl _ _).alloc _).alloc _).alloc _,A,c,hX,((HR.out.1.alloc _).alloc _).alloc _,((HR.out.2.alloc _).alloc _).alloc _⟩
  ·have:=(At.new (w.alloc (Obj.cells #[vP br 0] 124)) 3 [vi 0]).alloc (Obj.cells #[vi (off:Int)] 3)
   simpa using this
  ·have:=At.new ((w.alloc (Obj.cells #[vP br 0] 124)).alloc (Obj.cells #[vi 0] 3)) 3 [vi (off:Int)]
   simpa using this
 clear hW c1 c3
 have d0:W.cell? ⟨w.heap.size,0,none⟩=some (Value.pointer (some ⟨br,0,none⟩)):=by rw [HW.out.1.cell]; rfl
 have nb1:w.heap.size≠br:=om
 have nb2:br≠w.heap.size:=om
 go_region_held3 (fun w'=>w'.cell? ⟨w.heap.size,0,none⟩=some (Value.pointer (some ⟨br,0,none⟩))) (go_keep) (first | (go_at_call 206; refine (HD.out W.drew (by exact HW.out.2.2.2.1.drew) (by exact HW.out.2.2.2.2)).mono ?_; rintro e w1 ⟨rfl,hf1,hr1⟩; obtain ⟨e0,e1,z1,e3,z3⟩:=oM (W:=W) HW.out.1 HW.out.2.1 HW.out.2.2.2.2 hf1 hr1; have H1:=Lib.hid (And.intro hf1 hr1); clear hf1 hr1))
 go_wp2_with fail
 obtain ⟨k0,k1,k2,k3,kf⟩:=oN HW.out.1 HW.out.2.1 HW.out.2.2.1 HW.out.2.2.2.2 H1.out.1 H1.out.2 (Value.int .i64 x) (vi 0) om (by decide)
 refine leaves_cons (f:=221) (args:=#[Value.pointer (some ⟨w.heap.size+1+1,0,none⟩),Value.pointer (some ⟨w.heap.size,0,none⟩),Value.pointer (some ⟨w.heap.size+1,0,none⟩)]) si (by simp [go_sem]) ?_
 obtain ⟨A',c',hX',k3'⟩:=k3
 refine (MT _ _ _ br A' _ c' _ _ _ _ k2 k0 k3'.1).mono ?_
 rintro e u' w'' ⟨rfl,rfl,rfl⟩
 obtain ⟨g1,g2,g3⟩:=wJ (off:=off) HW.out.2.2.2.1 kf om k1 (by decide) k3'.1 k3'.2 hX'
 exact ⟨Value.int .i64 x,by simp [results,Tryz.results205,go_sem,g1],rfl,g2,g3⟩
set_option maxHeartbeats 4000000 in
theorem Gj (br:Nat) (D:List UInt8) (off last:Nat) (er x:Int) (bx by_:Nat) (w:World) (hr:aX X w br D off last 0) (he:er≠0)
  (hdec:∀ W,Fr [] w W→aX X W br D off last 0→Calls Tryz.prog 206 #[vP bx 0,vP by_ 0] W fun e w'=>e = .returned (.tuple #[vi x,vi er])∧Fr [br] W w'∧∃ off':Nat,aX X w' br D off' last 0) :
  Calls Tryz.prog 205 #[vP br 0,.func (.func 206) #[] #[vP bx 0,vP by_ 0]] w fun e w'=>e = .returned (vi 0)∧Fr [br] w w'∧aX X w' br D off off er:=by
 have HE:=Lib.hid he
 clear he
 obtain ⟨A,c,hX,ha,hrow⟩:=hr
 have c1:w.cell? ⟨br,1,none⟩=some (Value.int .i64 (off:Int)):=by rw [ha.cell]; rfl
 have c3:w.cell? ⟨br,3,none⟩=some (vi 0):=by rw [ha.cell]; rfl
 have hlt:=ha.lt
 have HR:=Lib.hid (And.intro ha hrow)
 have HD:=Lib.hid hdec
 clear ha hrow hdec
 have hmf:∀ (fn:Fn) (first cap:Array Value) (w:World),(Instr.makeFunc fn first cap).run Tryz.prog w = .ok (.func fn first cap) w:=fun _ _ _ _=>rfl
 go_enter_defers Tryz.func205,Tryz.ntmps205
 go_wp2_with fail
 obtain ⟨W,hW⟩:∃ W,W=((w.alloc (Obj.cells #[vP br 0] 124)).alloc (Obj.cells #[vi 0] 3)).alloc (Obj.cells #[vi (off:Int)] 3):=⟨_,rfl⟩
 rw [← hW]
 have HW:Hid (At W w.heap.size 124 [vP br 0]∧At W (w.heap.size+1) 3 [vi 0]∧At W (w.heap.size+1+1) 3 [vi (off:Int)]∧Fr [] w W∧aX X W br D off last 0):=by
  rw [hW]
  refine ⟨((At.new w 124 [vP br 0]).alloc _).alloc _,?_,?_,(((Fr.refl _ _).alloc _).alloc _).alloc _,A,c,hX,((HR.out.1.alloc _).alloc _).alloc _,((HR.out.2.alloc _).alloc _).alloc _⟩
  ·have:=(At.new (w.alloc (Obj.cells #[vP br 0] 124)) 3 [vi 0]).alloc (Obj.cells #[vi (off:Int)] 3)
   simpa using this
  ·have:=At.new ((w.alloc (Obj.cells #[vP br 0] 124)).alloc (Obj.cells #[vi 0] 3)) 3 [vi (off:Int)]
   simpa using this
 clear hW c1 c3
 have d0:W.cell? ⟨w.heap.size,0,none⟩=some (Value.pointer (some ⟨br,0,none⟩)):=by rw [HW.out.1.cell]; rfl
 have nb1:w.heap.size≠br:=om
 have nb2:br≠w.heap.size:=om
 go_region_held3 (fun w'=>w'.cell? ⟨w.heap.size,0,none⟩=some (Value.pointer (some ⟨br,0,none⟩))) (go_keep) (first | (go_at_call 206; refine (HD.out W.drew (by exact HW.out.2.2.2.1.drew) (by exact HW.out.2.2.2.2)).mono ?_; rintro e w1 ⟨rfl,hf1,off',hr1⟩; obtain ⟨e0,e1,z1,e3,z3⟩:=oM (W:=W) HW.out.1 HW.out.2.1 HW.out.2.2.2.2 hf1 hr1; have H1:=Lib.hid (And.intro hf1 hr1); clear hf1 hr1))
 go_wp2_with fail
 obtain ⟨k0,k1,k2,k3,kf⟩:=oN HW.out.1 HW.out.2.1 HW.out.2.2.1 HW.out.2.2.2.2 H1.out.1 H1.out.2 (Value.int .i64 x) (Value.int .i64 er) om (by decide)
 refine leaves_cons (f:=221) (args:=#[Value.pointer (some ⟨w.heap.size+1+1,0,none⟩),Value.pointer (some ⟨w.heap.size,0,none⟩),Value.pointer (some ⟨w.heap.size+1,0,none⟩)]) si (by simp [go_sem]) ?_
 obtain ⟨A',c',hX',k3'⟩:=k3
 refine (MU _ _ _ br A' _ c' _ _ _ er (Value.int .i64 x) _ k2 k0 k1 k3'.1 HE.out om).mono ?_
 rintro e u' w'' ⟨rfl,rfl,rfl⟩
 obtain ⟨g1,g2,g3⟩:=wK (off:=off) (z:=Value.int .i64 0) HW.out.2.2.2.1 kf om k1 (by decide) (by decide) k3'.1 k3'.2 hX'
 exact ⟨Value.int .i64 0,by simp [results,Tryz.results205,go_sem,g1],rfl,g2,g3⟩
theorem MW (br:Nat) (r:Rd) (fv:Value) (w:World) (hr:bA X w br r) (h0:r.err≠0) :
  Calls Tryz.prog 205 #[vP br 0,fv] w fun e w'=>e = .returned (vi 0)∧Fr [] w w'∧bA X w' br r:=by
 have hr0:=hr
 obtain ⟨A,c,hX,ha,hrow⟩:=hr
 have c3:w.cell? ⟨br,3,none⟩=some (Value.int .i64 r.err):=by rw [ha.cell]; rfl
 have hb:(r.err != 0)=true:=by simpa using h0
 have hlt:=ha.lt
 have HR:=Lib.hid hr0
 clear ha hrow hr0 h0
 go_enter_defers Tryz.func205,Tryz.ntmps205
 go_wp2_with fail
 have hf:Fr [] w ((w.alloc (Obj.cells #[vP br 0] 124)).alloc (Obj.cells #[vi 0] 3)):=((Fr.refl _ _).alloc _).alloc _
 exact ⟨Value.int .i64 0,by simp [results,Tryz.results205,go_sem],rfl,hf,aX.fr HR.out hf⟩
variable {X : Option Addr × Nat}
theorem Rd.Ok.uint {r:Rd} (h:r.Ok) (hn:∀ n m,dE r.D r.off=some (n,m)→m≤r.D.length):r.uint.2.Ok:=by
 unfold Rd.uint
 split
 ·cases hd:dE r.D r.off with
  | none=>exact ⟨h.off,h.len⟩
  | some p=>exact ⟨hn p.1 p.2 hd,h.len⟩
 ·exact h
theorem pP (D:List UInt8) (off n m:Nat) (h:dE D off=some (n,m)):off < m∧m≤D.length∧bI n:=by
 unfold dE at h
 split at h
 ·cases h
 ·rename_i b hb
  split at h
  ·rename_i hc
   simp only [Option.some.injEq,Prod.mk.injEq] at h
   obtain ⟨rfl,rfl⟩:=h
   have hl:=(List.getElem?_eq_some_iff.1 hb).1
   rw [List.length_drop] at hl
   refine ⟨om,om,?_⟩
   unfold bI
   rw [qC _ _ b hb]
   have h1:=tN (ahead (D.drop off)) (D.drop off)
   by_cases h9:ahead (D.drop off)=9
   ·have hb1:b.toNat≤1:=om
    rw [h9] at h1 ⊢
    have h2:b.toNat % 128≤1:=om
    have h3:b.toNat % 128*128 ^ 9≤1*128 ^ 9:=Nat.mul_le_mul_right _ h2
    have h4:128 ^ 9+1*128 ^ 9≤18446744073709551616:=by decide
    omega
   ·have h2:b.toNat % 128≤127:=om
    have h3:b.toNat % 128*128 ^ (ahead (D.drop off))≤127*128 ^ (ahead (D.drop off)):=Nat.mul_le_mul_right _ h2
    have h4:128 ^ (ahead (D.drop off))≤128 ^ 8:=Nat.pow_le_pow_right om om
    have h5:128*128 ^ 8 < 18446744073709551616:=by decide
    omega
  ·cases h
theorem qN (br:Nat) (r:Rd) (w:World) (hr:bA X w br r) (hk:r.Ok) :
  Calls Tryz.prog 102 #[vP br 0] w fun e w'=>e = .returned (.int .u64 (r.uint.1:Int))∧Fr [br] w w'∧bA X w' br r.uint.2:=by
 have hmf:∀ (fn:Fn) (first cap:Array Value) (w:World),(Instr.makeFunc fn first cap).run Tryz.prog w = .ok (.func fn first cap) w:=fun _ _ _ _=>rfl
 have H:=Lib.hid (And.intro hr hk)
 clear hr hk
 by_cases h0:r.err=0
 ·have H0:=Lib.hid h0
  clear h0
  go_enter Tryz.func102,Tryz.ntmps102
  go_wp2_with fail
  refine (MR br r _ H.out.1 H.out.2 H0.out).mono ?_
  rintro e w1 ⟨rfl,hf,hr1⟩
  have H1:=Lib.hid (And.intro hf hr1)
  clear hf hr1
  go_wp2_with fail
  go_ret
  exact ⟨rfl,H1.out⟩
 ·have H0:=Lib.hid h0
  clear h0
  go_enter Tryz.func102,Tryz.ntmps102
  go_wp2_with fail
  refine (MS br r _ _ H.out.1 H0.out).mono ?_
  rintro e w1 ⟨rfl,hf,hr1⟩
  have H1:=Lib.hid (And.intro (hf.mono (S':=[br]) si) hr1)
  clear hf hr1
  have e:r.uint=(0,r):=by unfold Rd.uint; rw [if_neg H0.out]
  have HE:=Lib.hid e
  clear e
  go_wp2_with fail
  go_ret
  rw [HE.out]
  exact ⟨rfl,H1.out⟩
theorem Cp (n:Nat) (h:bI n):mP (eZ n):=by
 unfold bI at h
 unfold eZ mP
 split <;> omega
theorem MX (n:Int):eZ (eG n)=n:=by
 unfold eZ eG
 by_cases h:n < 0
 ·simp only [h,if_true]
  rw [if_pos om]
  omega
 ·simp only [h,if_false]
  rw [if_neg om]
  omega
theorem MY (n:Nat) (w:World) (h:bI n):Calls Tryz.prog 162 #[.int .u64 (n:Int)] w fun e w'=>e = .returned (vi (eZ n))∧w=w':=by
 have hI:(n:Int)≤18446744073709551615:=by unfold bI at h; omega
 have hI0:(0:Int)≤(n:Int):=om
 clear h
 by_cases h1:n % 2=1
 ·have hb:((n:Int) % 2 == 1)=true:=by simp; omega
  go_enter Tryz.func162,Tryz.ntmps162
  go_wp2_with fail
  go_ret
  refine ⟨gG ?_,rfl⟩
  unfold eZ
  rw [if_pos h1]
  omega
 ·have hb:((n:Int) % 2 == 1)=false:=by simp; omega
  go_enter Tryz.func162,Tryz.ntmps162
  go_wp2_with fail
  go_ret
  refine ⟨gG ?_,rfl⟩
  unfold eZ
  rw [if_neg h1]
  omega
def Rd.int (r : Rd) : Int × Rd := (eZ r.uint.1, r.uint.2)
theorem Rd.AU (r:Rd):bI r.uint.1:=by
 unfold Rd.uint
 split
 ·cases hd:dE r.D r.off with
  | none=>show 0 < 18446744073709551616; decide
  | some p=>exact (pP _ _ p.1 p.2 hd).2.2
 ·show 0 < 18446744073709551616; decide
theorem MZ (br:Nat) (r:Rd) (w:World) (hr:bA X w br r) (hk:r.Ok) :
  Calls Tryz.prog 121 #[vP br 0] w fun e w'=>e = .returned (.int .i64 r.int.1)∧Fr [br] w w'∧bA X w' br r.int.2:=by
 have H:=Lib.hid (And.intro hr hk)
 clear hr hk
 go_enter Tryz.func121,Tryz.ntmps121
 go_wp2_with fail
 refine (qN br r _ H.out.1 H.out.2).mono ?_
 rintro e w1 ⟨rfl,hf,hr1⟩
 have H1:=Lib.hid (And.intro hf hr1)
 clear hf hr1
 go_wp2_with fail
 refine (MY _ _ r.AU).mono ?_
 rintro e w' ⟨rfl,rfl⟩
 go_wp2_with fail
 go_ret
 exact ⟨rfl,H1.out⟩
variable {X : Option Addr × Nat}
def lP (X : Option Addr × Nat) (br : Nat) (D : List UInt8) (off last : Nat) (most : Int) (w : World) (e : Ending) (w' : World) : Prop :=
 Fr [br] w w' ∧ match dE D off with
  | none => e = .returned (.tuple #[Value.int .i64 0, Value.int .i64 3]) ∧ ∃ off' : Nat, aX X w' br D off' last 0
  | some (n, m) => if max most 0 < (n : Int) then e = .returned (.tuple #[Value.int .i64 0, Value.int .i64 2]) ∧ ∃ off' : Nat, aX X w' br D off' last 0 else e = .returned (.tuple #[Value.int .i64 (n : Int), Value.int .i64 0]) ∧ aX X w' br D m last 0
theorem wL (br:Nat) (D:List UInt8) (off last:Nat) (most:Int) (w:World) (hr:aX X w br D off last 0) (ho:off≤D.length) (hD:D.length≤4294967296) (hm:mP most) :
  Calls Tryz.prog 167 #[vP br 0,vi most] w (lP X br D off last most w):=by
 have H:=Lib.hid (And.intro hr (And.intro ho hD))
 have hm0:=hm.1
 have hm1:=hm.2
 clear hr ho hD hm
 cases hb:dE D off with
 | none =>
   have HB:=Lib.hid hb
   clear hb
   go_enter Tryz.func167,Tryz.ntmps167
   go_wp2_with fail
   refine (Gi br D off last _ H.out.1 H.out.2.1 H.out.2.2 HB.out).mono ?_
   rintro e w1 ⟨rfl,hf,off',ho',hr1⟩
   have H1:=Lib.hid (And.intro hf hr1)
   clear hf hr1 ho'
   go_wp2_with fail
   go_ret2
   unfold lP
   rw [HB.out]
   exact ⟨H1.out.1,rfl,off',H1.out.2⟩
 | some p =>
   obtain ⟨n,m⟩:=p
   have hu:=(pP _ _ _ _ hb).2.2
   have hI:(n:Int)≤18446744073709551615:=by unfold bI at hu; omega
   have HB:=Lib.hid hb
   clear hb hu
   by_cases hg:max most 0 < (n:Int)
   ·have HG:=Lib.hid hg
    go_enter Tryz.func167,Tryz.ntmps167
    go_wp2_with fail
    refine (Co br D off last _ H.out.1 H.out.2.1 H.out.2.2 n m HB.out).mono ?_
    rintro e w1 ⟨rfl,hf,hr1,_,_⟩
    have H1:=Lib.hid (And.intro hf hr1)
    clear hf hr1
    go_wp2_with fail
    all_goals
     go_ret2
     unfold lP
     rw [HB.out]
     simp only
     rw [if_pos HG.out]
     exact ⟨H1.out.1,rfl,m,H1.out.2⟩
   ·have HG:=Lib.hid hg
    have hg':(n:Int)≤max most 0:=om
    have hn2:(n:Int)≤9223372036854775807:=om
    clear hg
    go_enter Tryz.func167,Tryz.ntmps167
    go_wp2_with fail
    refine (Co br D off last _ H.out.1 H.out.2.1 H.out.2.2 n m HB.out).mono ?_
    rintro e w1 ⟨rfl,hf,hr1,_,_⟩
    have H1:=Lib.hid (And.intro hf hr1)
    clear hf hr1
    go_wp2_with fail
    all_goals
     go_ret2
     unfold lP
     rw [HB.out]
     simp only
     rw [if_neg (by have:=HG.out; omega)]
     exact ⟨H1.out.1,rfl,H1.out.2⟩
theorem Nz (bx by_ br:Nat) (D:List UInt8) (off last:Nat) (most:Int) (w:World) (hx:At w bx 124 [vP br 0]) (hy:At w by_ 3 [vi most]) (hr:aX X w br D off last 0) (ho:off≤D.length) (hD:D.length≤4294967296) (hm:mP most) :
  Calls Tryz.prog 206 #[vP bx 0,vP by_ 0] w (lP X br D off last most w):=by
 have x0:w.cell? ⟨bx,0,none⟩=some (Value.pointer (some ⟨br,0,none⟩)):=by rw [hx.cell]; rfl
 have y0:w.cell? ⟨by_,0,none⟩=some (Value.int .i64 most):=by rw [hy.cell]; rfl
 have H:=Lib.hid (wL br D off last most w hr ho hD hm)
 clear hr ho hD hm hx hy
 go_enter Tryz.func206,Tryz.ntmps206
 go_wp2_with fail
 refine H.out.mono ?_
 intro e w1 h
 have HH:=Lib.hid h
 unfold lP at h
 obtain ⟨hf,h⟩:=h
 split at h
 ·obtain ⟨rfl,_⟩:=h
  clear hf
  go_wp2_with fail
  go_ret2
  exact HH.out
 ·split at h
  ·obtain ⟨rfl,_⟩:=h
   clear hf
   go_wp2_with fail
   go_ret2
   exact HH.out
  ·obtain ⟨rfl,_⟩:=h
   clear hf
   go_wp2_with fail
   go_ret2
   exact HH.out
def Rd.count (r : Rd) (most : Int) : Nat × Rd := if r.err = 0 then (match dE r.D r.off with
 | none => (0, r.fail 3)
 | some (n, m) => if max most 0 < (n : Int) then (0, r.fail 2) else (n, r.done m)) else (0, r)
theorem NA (br:Nat) (r:Rd) (most:Int) (w:World) (hr:bA X w br r) (hk:r.Ok) (hm:mP most) :
  Calls Tryz.prog 182 #[vP br 0,vi most] w fun e w'=>e = .returned (vi ((r.count most).1:Int))∧Fr [br] w w'∧bA X w' br (r.count most).2:=by
 have hmf:∀ (fn:Fn) (first cap:Array Value) (w:World),(Instr.makeFunc fn first cap).run Tryz.prog w = .ok (.func fn first cap) w:=fun _ _ _ _=>rfl
 have hlt:br < w.heap.size:=by obtain ⟨A,c,hX,ha,_⟩:=hr; exact ha.lt
 have hf0:Fr [] w ((w.alloc (.cells #[vP br 0] 124)).alloc (.cells #[vi most] 3)):=((Fr.refl _ _).alloc _).alloc _
 have ha0:At ((w.alloc (.cells #[vP br 0] 124)).alloc (.cells #[vi most] 3)) w.heap.size 124 [vP br 0]:=(At.new w _ [vP br 0]).alloc _
 have hb0:At ((w.alloc (.cells #[vP br 0] 124)).alloc (.cells #[vi most] 3)) (w.heap.size+1) 3 [vi most]:=by
  have:=At.new (w.alloc (.cells #[vP br 0] 124)) 3 [vi most]
  simpa using this
 have hr0:bA X ((w.alloc (.cells #[vP br 0] 124)).alloc (.cells #[vi most] 3)) br r:=aX.fr hr hf0
 have H:=Lib.hid (And.intro hr0 (And.intro hk (And.intro hf0 (And.intro ha0 hb0))))
 have HM:=Lib.hid hm
 clear hr hk hf0 ha0 hr0 hb0 hm
 by_cases h0:r.err=0
 ·obtain ⟨D,off,last,err⟩:=r
  simp only at h0
  subst h0
  have hdec:∀ W,Fr [] ((w.alloc (.cells #[vP br 0] 124)).alloc (.cells #[vi most] 3)) W→aX X W br D off last 0→Calls Tryz.prog 206 #[Value.pointer (some ⟨w.heap.size,0,none⟩),Value.pointer (some ⟨w.heap.size+1,0,none⟩)] W (lP X br D off last most W) :=
   fun W hf hr=>Nz w.heap.size (w.heap.size+1) br D off last most W (H.out.2.2.2.1.fr hf si) (H.out.2.2.2.2.fr hf si) hr H.out.2.1.off H.out.2.1.len HM.out
  have HD:=Lib.hid hdec
  clear hdec
  cases hb:dE D off with
  | none =>
    have HB:=Lib.hid hb
    clear hb
    go_enter Tryz.func182,Tryz.ntmps182
    go_wp2_with fail
    refine (Gj br D off last 3 0 w.heap.size (w.heap.size+1) _ H.out.1 (by decide) (fun W hf hr=>(HD.out W hf hr).mono (fun e w' h=>by unfold lP at h; rw [HB.out] at h; exact ⟨h.2.1,h.1,h.2.2⟩))).mono ?_
    rintro e w1 ⟨rfl,hf,hr1⟩
    have H1:=Lib.hid (And.intro (H.out.2.2.1.mono (S':=[br]) si |>.trans hf) hr1)
    clear hf hr1
    go_wp2_with fail
    go_ret
    simp only [Rd.count,if_true,HB.out]
    exact ⟨rfl,H1.out⟩
  | some p =>
    obtain ⟨n,m⟩:=p
    have HB:=Lib.hid hb
    clear hb
    by_cases hg:max most 0 < (n:Int)
    ·have HG:=Lib.hid hg
     clear hg
     go_enter Tryz.func182,Tryz.ntmps182
     go_wp2_with fail
     refine (Gj br D off last 2 0 w.heap.size (w.heap.size+1) _ H.out.1 (by decide) (fun W hf hr=>(HD.out W hf hr).mono (fun e w' h=>by unfold lP at h; rw [HB.out] at h; simp only [if_pos HG.out] at h; exact ⟨h.2.1,h.1,h.2.2⟩))).mono ?_
     rintro e w1 ⟨rfl,hf,hr1⟩
     have H1:=Lib.hid (And.intro (H.out.2.2.1.mono (S':=[br]) si |>.trans hf) hr1)
     clear hf hr1
     go_wp2_with fail
     go_ret
     simp only [Rd.count,if_true,HB.out,if_pos HG.out]
     exact ⟨rfl,H1.out⟩
    ·have HG:=Lib.hid hg
     clear hg
     go_enter Tryz.func182,Tryz.ntmps182
     go_wp2_with fail
     refine (MV br D off last m (n:Int) w.heap.size (w.heap.size+1) _ H.out.1 (fun W hf hr=>(HD.out W hf hr).mono (fun e w' h=>by unfold lP at h; rw [HB.out] at h; simp only at h; rw [if_neg (by have:=HG.out; omega)] at h; exact ⟨h.2.1,h.1,h.2.2⟩))).mono ?_
     rintro e w1 ⟨rfl,hf,hr1⟩
     have H1:=Lib.hid (And.intro (H.out.2.2.1.mono (S':=[br]) si |>.trans hf) hr1)
     clear hf hr1
     go_wp2_with fail
     go_ret
     simp only [Rd.count,if_true,HB.out]
     rw [if_neg (by have:=HG.out; omega)]
     exact ⟨rfl,H1.out⟩
 ·have e:r.count most=(0,r):=by unfold Rd.count; rw [if_neg h0]
  have HE:=Lib.hid (And.intro h0 e)
  clear h0 e
  go_enter Tryz.func182,Tryz.ntmps182
  go_wp2_with fail
  refine (MW br r _ _ H.out.1 HE.out.1).mono ?_
  rintro e w1 ⟨rfl,hf,hr1⟩
  have H1:=Lib.hid (And.intro ((H.out.2.2.1.trans hf).mono (S':=[br]) si) hr1)
  clear hf hr1
  go_wp2_with fail
  go_ret
  rw [HE.out.2]
  exact ⟨rfl,H1.out⟩
def Rd.end_ (r : Rd) : Int := if r.err ≠ 0 then r.err else if r.off < r.D.length then 3 else 0
theorem Gk (br:Nat) (r:Rd) (w:World) (hr:bA X w br r) (hk:r.Ok) :
  Calls Tryz.prog 77 #[vP br 0] w fun e w'=>e = .returned (.tuple #[vi (r.off:Int),.int .i64 r.end_])∧Fr [] w w':=by
 obtain ⟨A,c,hX,ha,hrow⟩:=hr
 have c0:w.cell? ⟨br,0,none⟩=some (.slice A r.D.length c):=by rw [ha.cell]; rfl
 have c1:w.cell? ⟨br,1,none⟩=some (Value.int .i64 (r.off:Int)):=by rw [ha.cell]; rfl
 have c3:w.cell? ⟨br,3,none⟩=some (Value.int .i64 r.err):=by rw [ha.cell]; rfl
 have hDI:(r.D.length:Int)≤4294967296:=by have:=hk.len; omega
 clear ha hrow hk
 by_cases h0:r.err=0
 ·have hb:(r.err != 0)=false:=by simpa using h0
  by_cases hl:r.off < r.D.length
  ·have hlI:decide (r.off < r.D.length)=true:=by simpa using hl
   have he:r.end_=3:=by unfold Rd.end_; rw [if_neg (by simpa using h0),if_pos hl]
   have HE:=Lib.hid he
   clear h0 he
   go_enter Tryz.func77,Tryz.ntmps77
   go_wp2_with fail
   go_quiet (fail)
   go_wp2_with fail
   go_ret2
   rw [HE.out]
   exact ⟨rfl,(Fr.refl _ _).drewN _⟩
  ·have hlI:decide (r.off < r.D.length)=false:=by simpa using hl
   have he:r.end_=0:=by unfold Rd.end_; rw [if_neg (by simpa using h0),if_neg hl]
   have HE:=Lib.hid he
   clear h0 he
   go_enter Tryz.func77,Tryz.ntmps77
   go_wp2_with fail
   go_quiet (fail)
   go_wp2_with fail
   go_ret2
   rw [HE.out]
   exact ⟨rfl,(Fr.refl _ _).drewN _⟩
 ·have hb:(r.err != 0)=true:=by simpa using h0
  have he:r.end_=r.err:=by unfold Rd.end_; rw [if_pos h0]
  have HE:=Lib.hid he
  clear h0 he
  go_enter Tryz.func77,Tryz.ntmps77
  go_wp2_with fail
  go_quiet (fail)
  go_wp2_with fail
  go_ret2
  rw [HE.out]
  exact ⟨rfl,(Fr.refl _ _).drewN _⟩
theorem zD (A:Option Addr) (c:Nat) (D:List UInt8) (w:World) (hD:D.length≤4294967296) (hrow:aH w A (B8 D)) :
  Calls Tryz.prog 72 #[.slice A D.length c] w fun e w'=>∃ br A2 c2,e = .returned (.pointer (some ⟨br,0,none⟩))∧w.heap.size≤br∧Fr [] w w'∧bA (A2,c2) w' br ⟨D,0,0,0⟩∧w'.ownsRow w.heap.size 5 1 (.slice A2 D.length c2) D.length (B8 D):=by
 have H:=Lib.hid (And.intro hrow hD)
 clear hrow hD
 go_enter Tryz.func72,Tryz.ntmps72
 go_wp2_with (at_builtin; refine tF fH rfl (.tmp 3) (.tmp 4) rfl w.heap.size _ 0 [] rfl (by exact World.ownsRow_made _ #[] 0 (Nat.le_refl _) (Nat.zero_le _) rfl) A _ c (B8 D) rfl (by rw [dL]; simp) (by exact dV.jW (H.out.1.dD ((Fr.refl _ _).alloc _))) (gS _) (by have:=H.out.2; omega) (by simp) ?_; intro v2 w2 hown2 hg2 hb2; obtain ⟨A2,c2,rfl⟩:=iT hown2)
 go_ret
 have hf:Fr [] w w2:=((Fr.refl [] w).alloc _).grown hg2 (fun g hg=>.inr (by have hg':some w.heap.size=some g:=hg; injection hg' with hg'; omega))
 refine ⟨w2.heap.size,A2,c2,rfl,hf.size,hf.alloc _,⟨A2,c2,rfl,?_,?_⟩,?_⟩
 ·have:=At.new w2 187 [.slice A2 D.length c2,vi 0,vi 0,vi 0]
  simpa using this
 ·have:=tG hown2 (Nat.zero_le w.heap.size)
  simpa using this.alloc _
 ·simpa using hown2.alloc _
end
end Go.Proofs.YtdflaaiondmjdaaGreatDoor
