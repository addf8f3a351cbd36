/- Part 3 of a proof: what its row uses. -/
import Derived.Test.YtkjnecaieiaijaaGreatDoorSd02
set_option maxRecDepth 100000
set_option maxHeartbeats 1000000
namespace Go.Proofs.YtkjnecaieiaijaaGreatDoor
open Go.RowKit
variable {A:Δ}{A1:Δ}{A2:Δ}{D:Γ}{E:eH}{F:List Nat}{K:Act->World->Prop}{P:Program}{Q:Exit->Act->World->Prop}{S:List Nat}{X:Δ × Nat}{b:Nat}{b':Nat}{bc:Nat}{br:Nat}{bs:Γ}{bt:Nat}{c:Nat}{cs:List Ch}{d:Tmp}{dCap:Nat}{dLen:Nat}{dT:Υ}{e:Υ}{elem:Υ}{fan:Nat}{g:Nat}{i:Nat}{j:Nat}{k:Nat}{ks:Γ}{l':Ξ}{m:Nat}{n:Nat}{nt:Nat}{o:Oper}{off:Nat}{p:Nat->Bool}{sT:Υ}{seed:Nat}{sz:Nat}{t':Υ}{ty:Υ}{u:Υ}{w:Λ}{w':Λ}{w0:Λ}{wv:Ω}{x:Operand}{xs:Ξ}{y:Operand}{ys:Ξ}{α:Type}{l:List α}
section
variable {X:Option Addr × Nat}
theorem Mm.one{b:Nat}{t:Υ}{l:Ξ}(h:At w b t l):Mm w [b] [aD b t l] w :=
 ⟨Fr.refl _ _,λc a=>by rw [G2] at a; subst a; exact h,by simp [aD],λx d=>.inl (by simpa [aD] using d)⟩
theorem mX{a:Nat}{t:Υ}{sz n:Nat}{v:Ω}{l:Ξ}{b:Nat}(h:w.ownsRow a e sz v n xs)(i:At w b t l)(f:e≠t):some b≠v.ownBlock:=by
 intro c
 rcases h.2 with ⟨rfl,_⟩ | ⟨g,cap,d,rfl,_,j,_⟩
 .simp [Value.ownBlock] at c
 .have:some b=some g:=c
  grind [At]
theorem ownCap{a:Nat}{sz:Nat}{m c:Nat}(h:w.ownsRow a e sz (.slice A m c) m xs):m<=c:=by
 rcases h.2 with ⟨b,i⟩ | ⟨g,cap,d,b,_,_,f,_⟩
 .omega
 .simp only [R6] at b
  omega
theorem Fs{xs:Γ}{c k N:Nat}(h:aI w A (B8 xs))(l:(B8 xs).length<=c):aI w (if c=k then A else A.map (·.add (k*1))) (B8 ((xs.drop k).take N)):=by
 intro j u d
 have e:(B8 xs)[k+j]?=some u:=by
  simp only [B8,U8,List.getElem?_take,W8] at d ⊢
  split at d
  .exact d
  .cases d
 have i:=(C4.1 e).1
 obtain ⟨b,o,f,g,a⟩:=h _ _ e
 refine ⟨b,o+k,?_,g,by rw [Z4]; exact a⟩
 rw [P4 U,f]
 show some ((⟨b,o,none⟩:Addr).add (k*1))=_
 rw [kB,X1]
theorem Ks(br)(D:Γ)(off last N:Nat)(err w A c)(b:At w br 201 [.slice A D.length c,C (off:Int),C (last:Int),C err])(_hl:D.length<=4294967296)(h:off<=D.length)(f:N<=4294967296)(_hc:D.length<=c)(g:D.length < off+N):
  Θ 165 #[Z br 0,C (N:Int)] w λe d=>e = .returned (.tuple #[nS,C 3])/\Fr [br] w d/\At d br 201 [.slice A D.length c,C (off:Int),C (last:Int),C err]:=by
 have HA:=D3 b
 clear b
 refine bS Tryz.func165 43 (Mm.one HA.out) I<|Nc<|G I<|Nf<|aT<|dN _ 12 J η<|am 0 ?_
 refine am 1 ?_
 refine aC 2 (Z br 0) I<|aC 3 (Z br 0) I<|al 4 0 ?_
 refine aC 5 (Y D.length) I ?_
 refine am 6 ?_
 refine aC 7 (Z br 0) I<|aC 8 (Z br 1) I<|al 9 0 ?_
 exact aV 10 _ I (jT _ I I I I U U)<|aC 11 (.bool (decide ((N:Int) > ((D.length:Int) - (off:Int))))) rfl<|cG J<|aJ<|lG rfl (by simp; omega)<|Nc<|G rfl<|Nh<|sN [nS,_] λw a=>⟨I,a.fr,a.at (i:=0) I⟩
theorem Kt(br)(D:Γ)(off last N:Nat)(err w A c)(b:At w br 201 [.slice A D.length c,C (off:Int),C (last:Int),C err])(j:D.length<=4294967296)(k:off<=D.length)(f:N<=4294967296)(g:D.length<=c)(h:off+N<=D.length):
  Θ 165 #[Z br 0,C (N:Int)] w λe d=>e = .returned (.tuple #[.slice (if c=off then A else A.map (·.add (off*1))) N (c - off),C 0])/\Fr [br] w d/\At d br 201 [.slice A D.length c,Y (off+N),C (last:Int),C err]:=by
 have HA:=D3 b
 clear b
 refine bS Tryz.func165 43 (Mm.one HA.out) I<|Nc<|G I<|Nf<|aT<|dN _ 12 J η<|am 0 ?_
 refine am 1 ?_
 refine aC 2 (Z br 0) I<|aC 3 (Z br 0) I<|al 4 0 ?_
 refine aC 5 (Y D.length) I ?_
 refine am 6 ?_
 refine aC 7 (Z br 0) I<|aC 8 (Z br 1) I<|al 9 0 ?_
 refine aV 10 (.int .i64 _) I (jT _ I I I I U U)<|aC 11 (.bool (decide ((N:Int) > ((D.length:Int) - (off:Int))))) I<|cG J<|aJ<|fD I (by simp; omega)<|Nl<|dN _ 16 J η<|am 0 ?_
 refine aC 1 (Z br 0) I<|aC 2 (Z br 0) I<|al 3 0 ?_
 refine am 4 ?_
 refine aC 5 (Z br 0) I<|aC 6 (Z br 1) I<|al 7 0 ?_
 refine am 8 ?_
 refine aC 9 (Z br 0) I<|aC 10 (Z br 1) I<|al 11 0 ?_
 refine am 12 ?_
 refine aV 13 (Y (off+N)) I bN<|aV 14 _ I (EE (e:=5) (sz:=1) I J J I I I U U)<|aa 15 ?_
 exact cG J<|aJ<|Nc<|G rfl<|M (Z br 0)<|M (Z br 1)<|lL 0 rfl<|G rfl<|lw _ bN<|M (Z br 0)<|M (Z br 1)<|R<|pS 0 rfl<|Nb<|G rfl<|Nd<|sN [(.slice _ (off+N - off) _),_] λw a=>⟨by rw [show off+N - off=N by omega]; rfl,a.fr,a.at (i:=0) I⟩
abbrev E3(a):=Value.pointer (some ⟨a,0,none⟩)
abbrev F2(a:Option Addr)(b:List UInt8)(c:Nat):=Value.slice a b.length c
theorem SD(l br D off last err w)(f:At w l 148 [Z br 0])(E:bY X w br D off last err)(z:D.length<=4294967296)(B:off<=D.length)(x:off+32<=D.length):
  Θ 164 #[Z l 0] w λe p=>e = .returned (.tuple #[.string (bL ((D.drop off).take 32)),C 0])/\Fr [br] w p/\bY X p br D (off+32) last err:=by
 obtain ⟨A,c,s,m,a⟩:=E
 have F:w.cell? ⟨l,0,none⟩=some (E3 br):=by rw [f.cell]; rfl
 have n:l≠br:=f.ne m (by decide)
 have HA:=D3 m
 have HO:=D3 a
 have HR:Hid (aI w A _):=aI.bM a
 have u:D.length<=c:=ownCap a
 have HNB:Hid (∀ g,(F2 A D c).ownBlock=some g->g∉[br]):=λg y=>by
  have q:=mX a m (by decide)
  simp only [G2]
  rintro rfl
  exact q y.symm
 have HNE:Hid (∀ b o,A=some ⟨b,o,none⟩->b∉[br]):=λb o r=>HNB.out b (by rw [r]; rfl)
 clear m a f
 refine eO Tryz.func164 13 (Mm.one HA.out) rfl<|Nc<|G rfl<|Nb<|lW (rW (λw d=>d.gA F (by simpa using n)))<|R<|eR 165 _ rfl J (λ_=>J) (λw d=>(Kt br D off last 32 err w A c (d.at (i:=0) I) z B U u x).mono ?_)
 rintro e p ⟨rfl,k,j⟩
 have h:=d.swap 0 (c':=aD br 201 [_,_,(Y last),_]) I k j (λb t=>.inl t) (by simp [aD])
 refine ⟨_,_,I,h,?_⟩
 clear d h k j
 exact G I<|Nb<|G rfl<|lw _ (kM (e:=5) ((D.drop off).take 32) rfl J J J rfl (by grind) (λw d=>Fs (HR.out.fr d.fr HNE.out) (by rw [eX]; omega)))<|G rfl<|Nd<|sN [_,_] λw d=>⟨I,d.fr,A,c,s,d.at (i:=0) I,gC HO.out d.fr HNB.out⟩
theorem SE(m br D off last err w)(f:At w m 148 [Z br 0])(E:bY X w br D off last err)(z:D.length<=4294967296)(B:off<=D.length)(x:D.length < off+32):
  Θ 164 #[Z m 0] w λe q=>e = .returned (.tuple #[.string (bL []),C 3])/\Fr [br] w q/\bY X q br D off last err:=by
 obtain ⟨A,c,s,n,a⟩:=E
 have F:w.cell? ⟨m,0,none⟩=some (E3 br):=by rw [f.cell]; rfl
 have p:m≠br:=f.ne n (by decide)
 have HA:=D3 n
 have HO:=D3 a
 have u:D.length<=c:=ownCap a
 have HNB:Hid (∀ g,(F2 A D c).ownBlock=some g->g∉[br]):=λg K=>by
  have H:=mX a n (by decide)
  grind
 have HNE:Hid (∀ b o,A=some ⟨b,o,none⟩->b∉[br]):=λb o r=>HNB.out b (by rw [r]; rfl)
 clear n a f
 refine eO Tryz.func164 13 (Mm.one HA.out) rfl<|Nc<|G rfl<|Nb<|lW (rW (λw d=>d.gA F (by simpa using p)))<|R<|eR 165 _ rfl J (λ_=>J) (λw d=>(Ks br D off last 32 err w A c (d.at (i:=0) I) z B U u x).mono ?_)
 rintro e q ⟨rfl,l,k⟩
 have h:=d.swap 0 (c':=aD br 201 [_,(Y off),(Y last),_]) I l k (λb t=>.inl t) (by simp [aD])
 refine ⟨_,_,I,h,?_⟩
 clear d h l k
 exact G I<|Nb<|G rfl<|lw _ (kM (e:=5) [] rfl J J J rfl rfl (λw d j v y=>by simp [B8] at y))<|G rfl<|Nd<|sN [_,_] λw d=>⟨I,d.fr,A,c,s,d.at (i:=0) I,gC HO.out d.fr HNB.out⟩
theorem SF(b0 b1 b2 br A n c off last start w)(h0:At w b0 3 [C start])(h1:At w b1 148 [Z br 0])(hr:At w br 201 [.slice A n c,C off,C last,C 0]):
  CallsD Tryz.prog 187 #[Z b0 0,Z b1 0,Z b2 0] .returning w λe u' w'=>u' = .returning/\e = .returned (.tuple #[])/\w'=w.setCell ⟨br,2,none⟩ (C start):=by
 have c0:w.cell? ⟨b0,0,none⟩=some (Value.int .i64 start):=by rw [h0.cell]; rfl
 have c1:w.cell? ⟨b1,0,none⟩=some (Value.pointer (qa br)):=by rw [h1.cell]; rfl
 have c2:w.cell? ⟨br,2,none⟩=some (Value.int .i64 last):=by rw [hr.cell]; rfl
 have c3:w.cell? ⟨br,3,none⟩=some (C 0):=by rw [hr.cell]; rfl
 have z2:=hr.frozen 2
 have hne:b1≠br:=h1.ne hr (by decide)
 clear h0 h1 hr
 go_enter_d AGi,AF0
 go_wp2_with fail
 go_end0
 exact ⟨rfl,rfl⟩
theorem SG(b0 b1 b2 br A n c off last start err v w)(h0:At w b0 3 [C start])(h1:At w b1 148 [Z br 0])(h2:At w b2 9 [v])(hr:At w br 201 [.slice A n c,C off,C last,C err])(he:err≠0)(hb:b2≠b0/\b2≠br):
  CallsD Tryz.prog 187 #[Z b0 0,Z b1 0,Z b2 0] .returning w λe u' w'=>u' = .returning/\e = .returned (.tuple #[])/\w'=((w.setCell ⟨br,2,none⟩ (C start)).setCell ⟨br,1,none⟩ (C start)).setCell ⟨b2,0,none⟩ qe:=by
 have c0:w.cell? ⟨b0,0,none⟩=some (Value.int .i64 start):=by rw [h0.cell]; rfl
 have c1:w.cell? ⟨b1,0,none⟩=some (Value.pointer (qa br)):=by rw [h1.cell]; rfl
 have cr1:w.cell? ⟨br,1,none⟩=some (Value.int .i64 off):=by rw [hr.cell]; rfl
 have c2:w.cell? ⟨br,2,none⟩=some (Value.int .i64 last):=by rw [hr.cell]; rfl
 have c3:w.cell? ⟨br,3,none⟩=some (Value.int .i64 err):=by rw [hr.cell]; rfl
 have c4:w.cell? ⟨b2,0,none⟩=some v:=by rw [h2.cell]; rfl
 have z2:=hr.frozen 2
 have z1:=hr.frozen 1
 have z4:=h2.frozen 0
 have hne:b1≠br:=h1.ne hr (by decide)
 have hne2:b2≠br:=hb.2
 have hne0:b0≠br:=h0.ne hr (by decide)
 have heb:(err != 0)=true:=by simpa using he
 clear h0 h1 hr h2 he hb
 go_enter_d AGi,AF0
 go_wp2_with fail
 go_end0
 exact ⟨rfl,rfl⟩
set_option maxHeartbeats 4000000 in
theorem SH(br D off last m x bx w)(hr:bY X w br D off last 0)(hdec:∀ W,Fr [] w W->bY X W br D off last 0->Calls Tryz.prog 164 #[Z bx 0] W λe w'=>e = .returned (.tuple #[.string (bL x),C 0])/\Fr [br] W w'/\bY X w' br D m last 0):
  Calls Tryz.prog 163 #[Z br 0,.func (.func 164) #[] #[Z bx 0]] w λe w'=>e = .returned (vS x)/\Fr [br] w w'/\bY X w' br D m off 0:=by
 obtain ⟨A,c,hX,ha,hrow⟩:=hr
 have c1:w.cell? ⟨br,1,none⟩=some (Value.int .i64 (off:Int)):=by rw [ha.cell]; rfl
 have c3:w.cell? ⟨br,3,none⟩=some (C 0):=by rw [ha.cell]; rfl
 have hlt:=ha.lt
 have HR:=D3 (And.intro ha hrow)
 have HD:=D3 hdec
 clear ha hrow hdec
 have hmf:∀ (fn:Fn) (first cap:Array Value) (w:World),(Instr.makeFunc fn first cap).run Tryz.prog w = .ok (.func fn first cap) w:=λ_ _ _ _=>rfl
 go_enter_defers AC7,ACe
 go_wp2_with fail
 obtain ⟨W,hW⟩:∃ W,W=((w.alloc (Obj.cells #[Z br 0] 148)).alloc (Obj.cells #[Value.string ⟨#[]⟩] 9)).alloc (Obj.cells #[C (off:Int)] 3):=⟨_,rfl⟩
 rw [<- hW]
 have HW:Hid (At W w.heap.size 148 [Z br 0]/\At W (w.heap.size+1) 9 [Value.string ⟨#[]⟩]/\At W (w.heap.size+1+1) 3 [C (off:Int)]/\Fr [] w W/\bY X W br D off last 0):=by
  rw [hW]
  refine ⟨((At.new w 148 [Z br 0]).alloc _).alloc _,?_,?_,(((Fr.refl _ _).alloc _).alloc _).alloc _,A,c,hX,((HR.out.1.alloc _).alloc _).alloc _,((HR.out.2.alloc _).alloc _).alloc _⟩
  .have:=(At.new (w.alloc (Obj.cells #[Z br 0] 148)) 9 [Value.string ⟨#[]⟩]).alloc (Obj.cells #[C (off:Int)] 3)
   simpa using this
  .have:=At.new ((w.alloc (Obj.cells #[Z br 0] 148)).alloc (Obj.cells #[Value.string ⟨#[]⟩] 9)) 3 [C (off:Int)]
   simpa using this
 clear hW c1 c3
 have d0:W.cell? ⟨w.heap.size,0,none⟩=some (Value.pointer (qa br)):=by rw [HW.out.1.cell]; rfl
 have nb1:w.heap.size≠br:=U
 have nb2:br≠w.heap.size:=U
 go_region_held3 (λw'=>w'.cell? ⟨w.heap.size,0,none⟩=some (Value.pointer (qa br))) (go_keep) (first | (go_at_call 164; refine (HD.out W.drew (by exact HW.out.2.2.2.1.drew) (by exact HW.out.2.2.2.2)).mono ?_; rintro e w1 ⟨rfl,hf1,hr1⟩; obtain ⟨e0,e1,z1,e3,z3⟩:=sR (W:=W) HW.out.1 HW.out.2.1 HW.out.2.2.2.2 hf1 hr1; have H1:=D3 (And.intro hf1 hr1); clear hf1 hr1))
 go_wp2_with fail
 obtain ⟨k0,k1,k2,k3,kf⟩:=sS HW.out.1 HW.out.2.1 HW.out.2.2.1 HW.out.2.2.2.2 H1.out.1 H1.out.2 (Value.string (bL x)) (C 0) U (by decide)
 refine AA2 (f:=187) (args:=#[Value.pointer (some ⟨w.heap.size+1+1,0,none⟩),Value.pointer (qa w.heap.size),Value.pointer (some ⟨w.heap.size+1,0,none⟩)]) si (by simp [go_sem]) ?_
 obtain ⟨A',c',hX',k3'⟩:=k3
 refine (SF _ _ _ br A' _ c' _ _ _ _ k2 k0 k3'.1).mono ?_
 rintro e u' w'' ⟨rfl,rfl,rfl⟩
 obtain ⟨g1,g2,g3⟩:=Av (off:=off) HW.out.2.2.2.1 kf U k1 (by decide) k3'.1 k3'.2 hX'
 exact ⟨Value.string (bL x),by simp [results,go_sem,g1],rfl,g2,g3⟩
set_option maxHeartbeats 4000000 in
theorem SI(br D off last er x bx w)(hr:bY X w br D off last 0)(he:er≠0)(hdec:∀ W,Fr [] w W->bY X W br D off last 0->Calls Tryz.prog 164 #[Z bx 0] W λe w'=>e = .returned (.tuple #[.string (bL x),C er])/\Fr [br] W w'/\∃ off':Nat,bY X w' br D off' last 0):
  Calls Tryz.prog 163 #[Z br 0,.func (.func 164) #[] #[Z bx 0]] w λe w'=>e = .returned qe/\Fr [br] w w'/\bY X w' br D off off er:=by
 have HE:=D3 he
 clear he
 obtain ⟨A,c,hX,ha,hrow⟩:=hr
 have c1:w.cell? ⟨br,1,none⟩=some (Value.int .i64 (off:Int)):=by rw [ha.cell]; rfl
 have c3:w.cell? ⟨br,3,none⟩=some (C 0):=by rw [ha.cell]; rfl
 have hlt:=ha.lt
 have HR:=D3 (And.intro ha hrow)
 have HD:=D3 hdec
 clear ha hrow hdec
 have hmf:∀ (fn:Fn) (first cap:Array Value) (w:World),(Instr.makeFunc fn first cap).run Tryz.prog w = .ok (.func fn first cap) w:=λ_ _ _ _=>rfl
 go_enter_defers AC7,ACe
 go_wp2_with fail
 obtain ⟨W,hW⟩:∃ W,W=((w.alloc (Obj.cells #[Z br 0] 148)).alloc (Obj.cells #[Value.string ⟨#[]⟩] 9)).alloc (Obj.cells #[C (off:Int)] 3):=⟨_,rfl⟩
 rw [<- hW]
 have HW:Hid (At W w.heap.size 148 [Z br 0]/\At W (w.heap.size+1) 9 [Value.string ⟨#[]⟩]/\At W (w.heap.size+1+1) 3 [C (off:Int)]/\Fr [] w W/\bY X W br D off last 0):=by
  rw [hW]
  refine ⟨((At.new w 148 [Z br 0]).alloc _).alloc _,?_,?_,(((Fr.refl _ _).alloc _).alloc _).alloc _,A,c,hX,((HR.out.1.alloc _).alloc _).alloc _,((HR.out.2.alloc _).alloc _).alloc _⟩
  .have:=(At.new (w.alloc (Obj.cells #[Z br 0] 148)) 9 [Value.string ⟨#[]⟩]).alloc (Obj.cells #[C (off:Int)] 3)
   simpa using this
  .have:=At.new ((w.alloc (Obj.cells #[Z br 0] 148)).alloc (Obj.cells #[Value.string ⟨#[]⟩] 9)) 3 [C (off:Int)]
   simpa using this
 clear hW c1 c3
 have d0:W.cell? ⟨w.heap.size,0,none⟩=some (Value.pointer (qa br)):=by rw [HW.out.1.cell]; rfl
 have nb1:w.heap.size≠br:=U
 have nb2:br≠w.heap.size:=U
 go_region_held3 (λw'=>w'.cell? ⟨w.heap.size,0,none⟩=some (Value.pointer (qa br))) (go_keep) (first | (go_at_call 164; refine (HD.out W.drew (by exact HW.out.2.2.2.1.drew) (by exact HW.out.2.2.2.2)).mono ?_; rintro e w1 ⟨rfl,hf1,off',hr1⟩; obtain ⟨e0,e1,z1,e3,z3⟩:=sR (W:=W) HW.out.1 HW.out.2.1 HW.out.2.2.2.2 hf1 hr1; have H1:=D3 (And.intro hf1 hr1); clear hf1 hr1))
 go_wp2_with fail
 obtain ⟨k0,k1,k2,k3,kf⟩:=sS HW.out.1 HW.out.2.1 HW.out.2.2.1 HW.out.2.2.2.2 H1.out.1 H1.out.2 (Value.string (bL x)) (Value.int .i64 er) U (by decide)
 refine AA2 (f:=187) (args:=#[Value.pointer (some ⟨w.heap.size+1+1,0,none⟩),Value.pointer (qa w.heap.size),Value.pointer (some ⟨w.heap.size+1,0,none⟩)]) si (by simp [go_sem]) ?_
 obtain ⟨A',c',hX',k3'⟩:=k3
 refine (SG _ _ _ br A' _ c' _ _ _ er (Value.string (bL x)) _ k2 k0 k1 k3'.1 HE.out U).mono ?_
 rintro e u' w'' ⟨rfl,rfl,rfl⟩
 obtain ⟨g1,g2,g3⟩:=Aw (off:=off) (z:=Value.string ⟨#[]⟩) HW.out.2.2.2.1 kf U k1 (by decide) (by decide) k3'.1 k3'.2 hX'
 exact ⟨Value.string ⟨#[]⟩,by simp [results,go_sem,g1],rfl,g2,g3⟩
theorem SJ(br r fv w)(hr:cF X w br r)(h0:r.err≠0):
  Calls Tryz.prog 163 #[Z br 0,fv] w λe w'=>e = .returned qe/\Fr [] w w'/\cF X w' br r:=by
 have hr0:=hr
 obtain ⟨A,c,hX,ha,hrow⟩:=hr
 have c3:w.cell? ⟨br,3,none⟩=some (Value.int .i64 r.err):=by rw [ha.cell]; rfl
 have hb:(r.err != 0)=true:=by simpa using h0
 have hlt:=ha.lt
 have HR:=D3 hr0
 clear ha hrow hr0 h0
 go_enter_defers AC7,ACe
 go_wp2_with fail
 have hf:Fr [] w ((w.alloc (Obj.cells #[Z br 0] 148)).alloc (Obj.cells #[Value.string ⟨#[]⟩] 9)):=((Fr.refl _ _).alloc _).alloc _
 exact ⟨Value.string ⟨#[]⟩,by simp [results,go_sem],rfl,hf,bY.fr HR.out hf⟩
def Rd.sum(r:Rd):List UInt8 × Rd:=if r.err=0 then (if r.off+32 <= r.D.length then ((r.D.drop r.off).take 32,r.done (r.off+32)) else ([],r.fail 3)) else ([],r)
abbrev M8(a):=#[(Z a 0)]
abbrev P2(a b):=#[(Z a 0),(.func (.func 164) #[] (M8 b))]
theorem SK(br r w)(f:cF X w br r)(_:r.Ok)(b:r.err≠0):
  Θ 133 #[Z br 0] w λe g=>e = .returned (vS r.sum.1)/\Fr [br] w g/\cF X g br r.sum.2:=by
 have HR:=D3 f
 clear f
 refine eO Tryz.func133 6 (B3 w) rfl<|Nc<|R<|pB [(Z br 0)] λd=>G I<|Nb<|lL 0 rfl<|M (.func (.func 164) #[] (M8 d))<|R<|pI 163 (P2 br d) rfl J (λ_=>J) (λh a=>?_)
 have HR1:Hid (cF X h br r):=bY.fr HR.out a.fr
 have HF1:=D3 a.fr
 refine (SJ br r _ h HR1.out b).mono ?_
 rintro e i ⟨rfl,j,c⟩
 refine ⟨_,i,[],[],I,Mm.start i [],?_⟩
 clear a
 exact G I<|Nd<|sN [_] λw a=>⟨by unfold Rd.sum; rw [if_neg b]; rfl,((HF1.out.trans j).trans a.fr).mono si,by unfold Rd.sum; rw [if_neg b]; exact bY.fr c a.fr⟩
theorem SL(br r w)(hr:cF X w br r)(hk:r.Ok)(h0:r.err=0)(hf32:r.off+32<=r.D.length):
  Θ 133 #[Z br 0] w λe w'=>e = .returned (vS r.sum.1)/\Fr [br] w w'/\cF X w' br r.sum.2:=by
 have HR:=D3 hr
 have HK:=D3 hk
 clear hr hk
 refine eO Tryz.func133 6 (B3 w) rfl<|Nc<|R<|pB [(Z br 0)] λb1=>G rfl<|Nb<|lL 0 rfl<|M (.func (.func 164) #[] (M8 b1))<|R<|pI 163 (P2 br b1) rfl J (λ_=>J) (λw1 hM=>?_)
 have HR1:Hid (cF X w1 br r):=bY.fr HR.out hM.fr
 have HB1:Hid (At w1 b1 148 _):=hM.at (i:=0) rfl
 have HF1:=D3 hM.fr
 refine (SH br r.D _ _ _ _ b1 w1 (by have h:=HR1.out; unfold cF at h; rw [h0] at h; exact h) (λW hf hr=>(SD b1 br r.D _ _ 0 W (HB1.out.fr hf si) hr HK.out.len U hf32))).mono ?_
 rintro e w2 ⟨rfl,hf,hr2⟩
 refine ⟨_,w2,[],[],rfl,Mm.start w2 [],?_⟩
 clear hM
 exact G rfl<|Nd<|sN [_] λw hM=>⟨by unfold Rd.sum; rw [if_pos h0,if_pos hf32]; rfl,((HF1.out.mono si).trans hf).trans (hM.fr.mono si),by unfold Rd.sum Rd.done cF; rw [if_pos h0,if_pos hf32]; have h:=bY.fr hr2 hM.fr; rw [<- h0] at h; exact h⟩
theorem SM(br r w)(d:cF X w br r)(l:r.Ok)(f:r.err=0)(a:¬ r.off+32<=r.D.length):
  Θ 133 #[Z br 0] w λe m=>e = .returned (vS r.sum.1)/\Fr [br] w m/\cF X m br r.sum.2:=by
 have HR:=D3 d
 have HK:=D3 l
 clear d l
 refine eO Tryz.func133 6 (B3 w) rfl<|Nc<|R<|pB [(Z br 0)] λc=>G I<|Nb<|lL 0 rfl<|M (.func (.func 164) #[] (M8 c))<|R<|pI 163 (P2 br c) rfl J (λ_=>J) (λk b=>?_)
 have HR1:Hid (cF X k br r):=bY.fr HR.out b.fr
 have HB1:Hid (At k c 148 _):=b.at (i:=0) I
 have HF1:=D3 b.fr
 refine (SI br r.D _ _ 3 [] c k (by have h:=HR1.out; unfold cF at h; rw [f] at h; exact h) (by decide) (λW g d=>((SE c br r.D _ _ 0 W (HB1.out.fr g si) d HK.out.len HK.out.off U).mono zg))).mono ?_
 rintro e n ⟨rfl,g,j⟩
 refine ⟨_,n,[],[],I,Mm.start n [],?_⟩
 clear b
 exact G I<|Nd<|sN [_] λw b=>⟨by unfold Rd.sum; rw [if_pos f,if_neg a]; rfl,((HF1.out.mono si).trans g).trans (b.fr.mono si),by unfold Rd.sum Rd.fail cF; rw [if_pos f,if_neg a]; exact bY.fr j b.fr⟩
theorem Ku(br r w)(c:cF X w br r)(b:r.Ok):Θ 133 #[Z br 0] w λe a=>e = .returned (vS r.sum.1)/\Fr [br] w a/\cF X a br r.sum.2:=by
 grind [SL,SM,SK]
end
theorem lV(n):0 < (aE n).length:=by
 grind [oM,rY]
theorem Kv(n):∀ l:Γ,eC (aE n++l) (aE n).length=n:=by
 induction n using Nat.strongRecOn with
 | _ n b =>
   intro l
   by_cases a:n < 128
   .rw [oM n a]
    simp [eC]
    omega
   .rw [rY n a]
    have h:=b (n / 128) (Nat.div_lt_self U U) l
    rw [V0,Z2,eC,h,Eh _ U]
    omega
theorem Kw(n):gH (hU n)=n:=by
 unfold gH hU
 grind
theorem Kx:∀ (l:Γ) (j:Nat) (b:UInt8),j < ahead l->l[j]?=some b->128<=b.toNat
 | [],j,b,h,_=>by grind
 | c::l,j,b,h,a=>by
   rw [ahead] at h
   split at h
   .omega
   .cases j with
    | zero =>
      grind
    | succ j=>exact Kx l j b U (su a)
theorem Ky:∀ (l:Γ) (b:UInt8),l[ahead l]?=some b->b.toNat < 128
 | [],b,h=>by grind
 | c::l,b,h=>by
   rw [ahead] at h
   split at h
   .grind
   .exact Ky l b (su h)
theorem vB(D off n m)(h:eP D off=some (n,m)):D.drop off=aE n++D.drop m:=by
 unfold eP at h
 split at h
 .grind
 .rename_i b a
  split at h
  .rename_i c
   simp only [V4,e7] at h
   obtain U:=h
   grind [Eg,Kx,Ky,List.drop_drop]
  grind
theorem yP(D:Γ)(off n rest)(h:D.drop off=aE n++rest)(p:dA n):eP D off=some (n,off+(aE n).length):=by
 have y:=lV n
 have w:=eY n p
 obtain ⟨k,g⟩:∃ k,(aE n).length=k+1:=⟨(aE n).length - 1,U⟩
 have a:∀ j,j < k+1->D[off+j]?=(aE n)[j]?:=by
  intro j u
  rw [<- W8,h,R1 U]
 have m:=E1 (l:=aE n) (i:=k) U
 generalize (aE n)[k]=x at m
 have e:D[off+k]?=some x:=by rw [a k U]; exact m
 obtain ⟨_,q⟩:=Ei n k x m
 obtain ⟨o,r⟩:=q U
 rw [uQ D off k x (λj b u t=>(Ei n j b (by rw [<- a j U]; exact t)).1 U) e o,P1,g]
 .have c:=Kv n rest
  rw [g] at c
  rw [h,c]
  rfl
 .refine ⟨U,λd=>r d.1 d.2,λd=>?_⟩
  have c:=Kv n rest
  rw [g,<- h] at c
  have f:=uP k _ x (by rw [W8]; exact e)
  rw [c,d.1] at f
  unfold dA at p
  have:x.toNat % 128=x.toNat:=l8 o
  rw [this] at f
  have s:128 ^ 9=9223372036854775808:=by decide
  rw [s] at f
  have:=d.2
  omega
structure kY (r r':Rd) (bs:List UInt8):Prop where
 err:r.err=0
 D:r'.D=r.D
 bytes:r.D.drop r.off=bs++r.D.drop r'.off
theorem kY.trans{a b c:Rd}{x y:Γ}(h:kY a b x)(k:kY b c y):kY a c (x++y) :=
 ⟨h.err,k.D.trans h.D,by rw [h.bytes,D1]; congr 1; have:=k.bytes; rwa [h.D] at this⟩
theorem wQ(r:Rd)(h:r.uint.2.err=0):kY r r.uint.2 (aE r.uint.1):=by
 unfold Rd.uint at h ⊢
 by_cases he:r.err=0
 .rw [P1 he] at h ⊢
  cases hd:eP r.D r.off with
  | none=>rw [hd] at h; cases h
  | some p=>exact ⟨he,rfl,vB _ _ _ _ hd⟩
 .rw [P4 he] at h
  exact absurd h he
theorem SN(r:Rd)(h:r.int.2.err=0):kY r r.int.2 (aE (gH r.int.1)):=by
 have:=wQ r h
 have e:gH r.int.1=r.uint.1:=Kw _
 rw [e]
 exact this
structure dK (r:Rd) (bs:List UInt8):Prop where
 err:r.err=0
 bytes:r.D.drop r.off=bs
theorem dK.uint{r:Rd}{rest:Γ}(h:dK r (aE n++rest))(b:dA n):r.uint.1=n/\dK r.uint.2 rest:=by
 have a:=yP r.D _ n rest h.bytes b
 unfold Rd.uint
 rw [P1 h.err,a]
 refine ⟨I,h.err,?_⟩
 show r.D.drop (r.off+(aE n).length)=rest
 rw [<- Y3,h.bytes,AC8]
theorem dK.int{r:Rd}{v:Int}{rest:Γ}(h:dK r (aE (gH v)++rest))(a:pX v):r.int.1=v/\dK r.int.2 rest:=by
 obtain ⟨b,c⟩:=h.uint (xU v a.1 a.2)
 exact ⟨by show hU r.uint.1=v; rw [b,Sy],c⟩
theorem Ay(r:Rd)(h:r.sum.2.err=0):kY r r.sum.2 r.sum.1/\r.sum.1.length=32:=by
 unfold Rd.sum at h ⊢
 by_cases a:r.err=0
 .rw [P1 a] at h ⊢
  by_cases b:r.off+32<=r.D.length
  .rw [P1 b]
   refine ⟨⟨a,I,?_⟩,by simp; omega⟩
   show r.D.drop r.off=(r.D.drop r.off).take 32++r.D.drop (r.off+32)
   rw [<- Y3,S6]
  .rw [P4 b] at h
   cases h
 grind
theorem dK.sum{r:Rd}{k rest:Γ}(h:dK r (k++rest))(a:k.length=32):r.sum.1=k/\dK r.sum.2 rest:=by
 have b:=U0 List.length h.bytes
 rw [Q7,C3] at b
 unfold Rd.sum
 rw [P1 h.err,P1 (by omega)]
 refine ⟨?_,h.err,?_⟩
 .show (r.D.drop r.off).take 32=k
  rw [h.bytes,<- a,AB4]
 .show r.D.drop (r.off+32)=rest
  rw [<- Y3,h.bytes,<- a,AC8]
theorem Rd.Ok.uint'{r:Rd}(h:r.Ok):r.uint.2.Ok:=h.uint λn m a=>(rD _ _ n m a).2.1
theorem Rd.Ok.int{r:Rd}(h:r.Ok):r.int.2.Ok:=h.uint'
theorem Rd.Iy(r:Rd):pX r.int.1:=Fq _ r.DX
theorem Rd.Ok.sum{r:Rd}(h:r.Ok):r.sum.2.Ok:=by
 unfold Rd.sum
 by_cases b:r.err=0
 .rw [P1 b]
  by_cases a:r.off+32<=r.D.length
  .rw [P1 a]; exact ⟨a,h.len⟩
  .rw [P4 a]; exact ⟨h.off,h.len⟩
 .rw [P4 b]; exact h
theorem Rd.BK(r:Rd):r.sum.1.length<=32:=by
 grind [Rd.sum]
theorem Rd.Iz(r:Rd):r.uint.2.D=r.D:=by
 unfold Rd.uint
 split
 .split <;> rfl
 .rfl
theorem Rd.acJ(r:Rd):r.sum.2.D=r.D:=by
 unfold Rd.sum
 split
 .split <;> rfl
 .rfl
theorem kY.end_{r c:Rd}(h:kY r c bs)(a:c.end_=0):r.D.drop r.off=bs:=by
 unfold Rd.end_ at a
 have b:c.D.length<=c.off:=by
  split at a
  .rename_i d; exact absurd a d
  .split at a
   .cases a
   .omega
 rw [h.bytes,AC9 (by rw [<- h.D]; exact b),O4]
theorem Rd.end_err{r:Rd}(h:r.end_=0):r.err=0:=by
 grind [Rd.end_]
theorem dK.end_{r:Rd}(h:dK r []):r.end_=0:=by
 have a:=U0 List.length h.bytes
 rw [Q7,W7] at a
 unfold Rd.end_
 rw [P4 (by rw [h.err]; simp),P4 (by omega)]
def mK(x:List UInt8):List UInt8:=x++List.replicate (32 - x.length) 0
def Rd.cell(r:Rd):BC × Rd:=(⟨r.int.1,mK r.int.2.sum.1,r.int.2.sum.2.uint.1⟩,r.int.2.sum.2.uint.2)
def lJ(r:Rd):Nat -> Rd
 | 0=>r
 | i+1=>(lJ r i).cell.2
def oR(r:Rd)(i:Nat):List BC:=(List.range i).map λj=>(lJ r j).cell.1
def lX(r:Rd)(n i:Nat):List BC:=oR r i++List.replicate (n - i) BC.zero
def jX(D:List UInt8):Rd:=⟨D,0,0,0⟩
def nJ(D:List UInt8):Nat:=(jX D).uint.1
def wR(D:List UInt8):Rd:=(jX D).uint.2.uint.2
def vC(D:List UInt8):BT:=⟨oR (wR D) (nJ D),(jX D).uint.2.uint.1⟩
def sU(D:List UInt8):Rd:=lJ (wR D) (nJ D)
theorem Kz{x:Γ}(h:x.length<=32):(mK x).length=32:=by simp [mK]; omega
theorem Rd.Ok.cell{r:Rd}(h:r.Ok):r.cell.2.Ok:=h.int.sum.uint'
theorem Rd.acK(r:Rd):r.cell.1.Ok:=⟨r.Iy,Kz (Rd.BK _),Rd.DX _⟩
theorem Ft{r:Rd}(h:r.Ok):∀ i,(lJ r i).Ok
 | 0=>h
 | i+1=>(Ft h i).cell
theorem yQ(h:D.length<=4294967296):(jX D).Ok:=⟨G6 _,h⟩
theorem yR(r i):(oR r i).length=i:=by simp [oR]
theorem Fu(r i):oR r (i+1)=oR r i++[(lJ r i).cell.1]:=by simp [oR,AAi]
theorem KA(r i):∀ c∈oR r i,c.Ok:=by
 intro c a
 unfold oR at a
 obtain ⟨j,_,rfl⟩:=Y9.1 a
 exact Rd.acK _
theorem SO{r:Rd}(h:i<=n):(lX r n i).length=n:=by simp [lX,yR]; omega
theorem SP(r n i):jH (lX r n i):=by
 intro c a
 rcases P7.1 a with a | a
 .exact KA r i c a
 .rw [List.eq_of_mem_replicate a]; exact BC.Ok.zero
theorem SQ(r n):lX r n 0=List.replicate n BC.zero:=by simp [lX,oR]
theorem SR(r n):lX r n n=oR r n:=by simp [lX]
theorem SU{r:Rd}(h:i < n):(lX r n i)[i]?=some BC.zero:=by
 unfold lX
 rw [T8 (by rw [yR]; exact J7 _),yR,W6,s9,P1 (by omega)]
theorem SV{r:Rd}(h:i < n):(lX r n i).set i (lJ r i).cell.1=lX r n (i+1):=by
 unfold lX
 rw [V3 _ _ (by rw [yR]; exact J7 _),yR,W6,Fu,D1]
 congr 1
 rw [show n - i=(n - (i+1))+1 by omega,AA8]
 rfl
theorem Fv(D):(vC D).Ok:=⟨KA _ _,Rd.DX _⟩
theorem Fw(D):(vC D).cells.length=nJ D:=yR _ _
theorem KB(r:Rd)(h:r.cell.2.err=0):kY r r.cell.2 r.cell.1.enc:=by
 have b:=wQ _ h
 have a:=Ay _ b.err
 have c:=SN r a.1.err
 have e:mK r.int.2.sum.1=r.int.2.sum.1:=by simp [mK,a.2]
 have:=(c.trans a.1).trans b
 unfold BC.enc
 show kY r _ (aE (gH r.int.1)++mK r.int.2.sum.1++aE r.int.2.sum.2.uint.1)
 rw [e]
 exact this
theorem SW(r i)(h:(lJ r (i+1)).err=0):(lJ r i).err=0:=(KB _ h).err
theorem KC(r:Rd):∀ i,(lJ r i).err=0->kY r (lJ r i) ((oR r i).flatMap BC.enc)
 | 0,h=>⟨h,I,I⟩
 | i+1,h=>by
  rw [Fu,R3]
  have:=(KC r i (SW r i h)).trans (KB _ h)
  rw [List.flatMap_singleton]
  exact this
theorem SX(h:(sU D).end_=0):(vC D).enc=D:=by
 have b:=KC (wR D) (nJ D) (Rd.end_err h)
 have a:=wQ (jX D).uint.2 b.err
 have c:=wQ (jX D) a.err
 have:=((c.trans a).trans b).end_ h
 unfold BT.enc fW
 rw [R0,Fw]
 exact this.symm
theorem dK.cell{r:Rd}{c:BC}{rest:Γ}(h:dK r (c.enc++rest))(a:c.Ok):r.cell.1=c/\dK r.cell.2 rest:=by
 unfold BC.enc at h
 rw [D1,D1] at h
 obtain ⟨a1,b⟩:=h.int a.count
 obtain ⟨d,f⟩:=b.sum a.keys
 obtain ⟨g,i⟩:=f.uint a.checks
 refine ⟨?_,i⟩
 unfold Rd.cell
 rw [a1,d,g]
 have e:mK c.keys=c.keys:=by simp [mK,a.keys]
 rw [e]
theorem KD{r:Rd}(l:List BC)(d:∀ c∈l,c.Ok)(h:dK r (l.flatMap BC.enc)):∀ i,i<=l.length->oR r i=l.take i/\dK (lJ r i) ((l.drop i).flatMap BC.enc)
 | 0,_=>⟨by simp [oR],h⟩
 | i+1,j=>by
   obtain ⟨e,b⟩:=KD l d h i U
   have a:i < l.length:=U
   rw [V2 a,V5] at b
   obtain ⟨f,g⟩:=b.cell (d _ (y9 _))
   refine ⟨?_,g⟩
   rw [Fu,e,f,O5 a]
theorem SY{t:BT}(h:t.Ok)(i:t.cells.length<=3072):nJ t.enc=t.cells.length/\vC t.enc=t/\(sU t.enc).end_=0:=by
 have g:dK (jX t.enc) (aE t.cells.length++(aE t.seed++t.cells.flatMap BC.enc)):=⟨I,by show t.enc=_; unfold BT.enc fW; rw [List.take_length,List.append_assoc]⟩
 obtain ⟨a1,b⟩:=g.uint (by unfold dA; omega)
 obtain ⟨c,d⟩:=b.uint h.seed
 obtain ⟨f,a⟩:=KD t.cells h.cells d t.cells.length (J7 _)
 have e:nJ t.enc=t.cells.length:=a1
 refine ⟨e,?_,?_⟩
 .unfold vC
  rw [e]
  unfold wR
  rw [f,c,R0]
 .unfold sU
  rw [e]
  rw [List.drop_length] at a
  exact a.end_
theorem SZ(n w):Calls Tryz.prog 78 #[C n] w λe w'=>e = .returned (.bool (fI n))/\w=w':=by
 unfold fI
 by_cases h1:3<=n
 .by_cases h2:n<=3072
  .by_cases h3:n % 3=0
   .have q:(n % 3 == 0)=true:=by simpa using h3
    have e:(decide (3<=n) && decide (n<=3072) && decide (n % 3=0))=true:=by simp [h1,h2,h3]
    rw [e]
    clear e h3
    go_enter AH8,AGj
    go_wp2_with fail
    go_ret
    exact ⟨rfl,rfl⟩
   .have q:(n % 3 == 0)=false:=by simpa using h3
    have e:(decide (3<=n) && decide (n<=3072) && decide (n % 3=0))=false:=by simp [h3]
    rw [e]
    clear e h3
    go_enter AH8,AGj
    go_wp2_with fail
    go_ret
    exact ⟨rfl,rfl⟩
  .have e:(decide (3<=n) && decide (n<=3072) && decide (n % 3=0))=false:=by simp [h2]
   rw [e]
   have d:decide (n<=3072)=false:=by simpa using h2
   clear e
   go_enter AH8,AGj
   go_wp2_with fail
   go_ret
   exact ⟨rfl,rfl⟩
 .have e:(decide (3<=n) && decide (n<=3072) && decide (n % 3=0))=false:=by simp [h1]
  rw [e]
  have d:decide (3<=n)=false:=by simpa using h1
  clear e
  go_enter AH8,AGj
  go_wp2_with fail
  go_ret
  exact ⟨rfl,rfl⟩
theorem Fx(n k:Int)(c:2*n+12<=k)(a:k<=(2*n+14) / 3*3)(b:k % 3=0):k=(2*n+14) / 3*3:=U
theorem Ta(n w):Calls Tryz.prog 69 #[C n] w λe w'=>e = .returned (C (kW n))/\w=w':=by
 obtain ⟨m,hm0,hm1,hm⟩:∃ m:Int,0<=m/\m<=2000/\m=(if n < 0 then 0 else if 2000 < n then 2000 else n):=⟨_,by split <;> (try split) <;> omega,by split <;> (try split) <;> omega,rfl⟩
 have hres:kW n=if 3072 < (2*m+14) / 3*3 then 3072 else (2*m+14) / 3*3:=by
  unfold kW
  split at hm
  .subst hm
   rw [P4 U,P1 U]
   rfl
  .split at hm
   .subst hm
    rw [P1 U]
    rfl
   .subst hm
    by_cases h:1536 < m
    .rw [P1 h,P1 U]
    .rw [P4 h,P4 U]
     split <;> omega
 rw [hres]
 have HM:=D3 hm
 clear hm hres
 by_cases c1:n < 0
 .have hmm:m=0:=by have:=HM.out; rw [P1 c1] at this; exact this
  obtain ⟨m,hmm2⟩:∃ m':Int,m'=m:=⟨m,rfl⟩
  rw [<- hmm2] at hmm hm0 hm1 ⊢
  clear hmm2 HM
  have HMM:=D3 hmm
  clear hmm
  go_enter Tryz.func69,Tryz.ntmps69
  go_wp2_with fail
  go_loop [3] (λv=>∃ k:Int,2*m+12<=k/\k<=(2*m+14) / 3*3/\v=Value.int .i64 k) (λv=>((2*m+14) / 3*3 - intOf v).toNat)
  case atStart=>exact ⟨2*m+12,by omega,by omega,by rw [HMM.out]; rfl⟩
  case round =>
   obtain ⟨k,k1,k2,rfl⟩:=hrel
   by_cases h3:k % 3=0
   .have q1:(k % 3 != 0)=false:=by simpa using h3
    have q2:(k % 3 == 0)=true:=by simpa using h3
    have HK:=D3 (Fx m k k1 k2 h3)
    clear h3
    by_cases h4:3072 < k
    .go_wp2_with fail
     go_ret
     exact ⟨rfl,rfl⟩
    .go_wp2_with fail
     go_ret
     exact ⟨jK HK.out,rfl⟩
   .have q1:(k % 3 != 0)=true:=by simpa using h3
    have q2:(k % 3 == 0)=false:=by simpa using h3
    have k3:k+1<=(2*m+14) / 3*3:=U
    go_wp2_with fail
    go_round
    case rel=>exact ⟨k+1,by omega,k3,rfl⟩
    case measure=>simp [intOf] <;> omega
 .by_cases c2:2000 < n
  .have hmm:m=2000:=by have:=HM.out; rw [P4 c1,P1 c2] at this; exact this
   have HMM:=D3 hmm
   clear hmm HM
   go_enter Tryz.func69,Tryz.ntmps69
   go_wp2_with fail
   go_loop [3] (λv=>∃ k:Int,2*m+12<=k/\k<=(2*m+14) / 3*3/\v=Value.int .i64 k) (λv=>((2*m+14) / 3*3 - intOf v).toNat)
   case atStart=>exact ⟨2*m+12,by omega,by omega,by rw [HMM.out]; rfl⟩
   case round =>
    obtain ⟨k,k1,k2,rfl⟩:=hrel
    by_cases h3:k % 3=0
    .have q1:(k % 3 != 0)=false:=by simpa using h3
     have q2:(k % 3 == 0)=true:=by simpa using h3
     have HK:=D3 (Fx m k k1 k2 h3)
     clear h3
     by_cases h4:3072 < k
     .go_wp2_with fail
      go_ret
      exact ⟨rfl,rfl⟩
     .go_wp2_with fail
      go_ret
      exact ⟨jK HK.out,rfl⟩
    .have q1:(k % 3 != 0)=true:=by simpa using h3
     have q2:(k % 3 == 0)=false:=by simpa using h3
     have k3:k+1<=(2*m+14) / 3*3:=U
     go_wp2_with fail
     go_round
     case rel=>exact ⟨k+1,by omega,k3,rfl⟩
     case measure=>simp [intOf] <;> omega
  .obtain rfl:m=n:=by have:=HM.out; rw [P4 c1,P4 c2] at this; exact this
   clear HM
   go_enter Tryz.func69,Tryz.ntmps69
   go_wp2_with fail
   go_loop [3] (λv=>∃ k:Int,2*m+12<=k/\k<=(2*m+14) / 3*3/\v=Value.int .i64 k) (λv=>((2*m+14) / 3*3 - intOf v).toNat)
   case atStart=>exact ⟨2*m+12,by omega,by omega,rfl⟩
   case round =>
    obtain ⟨k,k1,k2,rfl⟩:=hrel
    by_cases h3:k % 3=0
    .have q1:(k % 3 != 0)=false:=by simpa using h3
     have q2:(k % 3 == 0)=true:=by simpa using h3
     have HK:=D3 (Fx m k k1 k2 h3)
     clear h3
     by_cases h4:3072 < k
     .go_wp2_with fail
      go_ret
      exact ⟨rfl,rfl⟩
     .go_wp2_with fail
      go_ret
      exact ⟨jK HK.out,rfl⟩
    .have q1:(k % 3 != 0)=true:=by simpa using h3
     have q2:(k % 3 == 0)=false:=by simpa using h3
     have k3:k+1<=(2*m+14) / 3*3:=U
     go_wp2_with fail
     go_round
     case rel=>exact ⟨k+1,by omega,k3,rfl⟩
     case measure=>simp [intOf] <;> omega
theorem Tb(p):Lib.strCells (bL p)=B8 p:=by
 simp [Lib.strCells,bL,B8]
theorem Cz(seed i:Nat)(key:Γ)(w)(hi:i<=3)(hk:key.length<=34359738368):
  Calls Tryz.prog 121 #[.int .u64 (seed:Int),C (i:Int),.string (bL key)] w λe w'=>e = .returned (.int .u64 (jL seed i key:Int))/\Fr [] w w':=by
 obtain ⟨i0,hi0,hz0,hz1,hz2⟩:=AA6 (show (Tryz.prog.info? 5).map (λi=>(i.zero,i.size,i.bytes))=some (some (.int .u8 0),1,1) by kernel_rfl)
 have HINF:=D3 (And.intro hi0 (And.intro hz0 (And.intro hz1 hz2)))
 clear hi0 hz0 hz1 hz2
 obtain ⟨ks,HKS⟩:∃ ks,Hid (ks=bL key):=⟨_,rfl⟩
 have hks:ks.size<=34359738368:=by rw [HKS.out,Kl]; exact hk
 rw [<- HKS.out]
 clear hk
 go_enter Tryz.func121,Tryz.ntmps121
 go_wp2_with fail
 go_loopw [7,8] (λv s wx=>∃ (j:Nat) (t:Int) (A':Δ) (c':Nat) (ds:Γ),j<=8/\s=Value.int .i64 t/\t+(j:Int)<=7/\7<=t+(j:Int)/\v = .slice A' ds.length c'/\ds.length<=j/\Hid (ds=(List.range j).map λq=>fV seed (7 - q))/\Hid (BR w wx v ds)) (λ_ s _=>(intOf s+1).toNat)
 case atStart=>exact ⟨0,7,_,_,[],by omega,rfl,by omega,by omega,rfl,by simp,rfl,(Fr.refl _ _).alloc _,Z8 _ #[] 0 (J7 _) (G6 _) rfl⟩
 case round =>
  obtain ⟨j,t,A1,c1,ds,hj,rfl,ht1,ht2,rfl,hdl,HD,HB1⟩:=hrel
  have hsz1:=HB1.out.size
  by_cases hlt2:j < 8
  .obtain ⟨sh,rfl⟩:∃ sh:Nat,t=(sh:Int):=⟨t.toNat,U⟩
   obtain ⟨y,HY⟩:∃ y:UInt8,Hid (y=fV seed (7 - j)):=⟨_,rfl⟩
   have hsh:sh<=7:=U
   obtain ⟨s8,hs8⟩:∃ s8:Nat,s8=8*sh:=⟨_,rfl⟩
   have e8:(8:Int)*(sh:Int)=(s8:Int):=U
   have hy:IntKind.u8.wrap ((seed:Int) / 2 ^ s8)=(y.toNat:Int):=by
    rw [HY.out,hs8,show sh=7 - j by omega]
    exact qG seed (7 - j)
   have hs8b:s8<=56:=U
   clear hs8
   go_wp2_with (at_builtin; refine oL gS rfl (.tmp 17) (.tmp 23) rfl w.heap.size _ _ (B8 ds) (.int .u8 (y.toNat:Int)) rfl HB1.out.own rfl rfl (by omega) (by omega) 5 ?_; intro v2 w2 hown2 hg2 hb2; obtain ⟨A3,c3,cs3,HC3,hc3,rfl,HB3⟩:=BR.push (xs:=[y]) HB1.out hown2 hg2; clear hown2 hg2 hb2)
   have h3:cs3.length=ds.length+1:=by rw [HC3.out]; simp
   have HC4:Hid (cs3=(List.range (j+1)).map λq=>fV seed (7 - q)):=by
    show cs3=_
    rw [HC3.out,HD.out,AAi,U1,HY.out]
    rfl
   go_roundw
   case rel=>exact ⟨j+1,(sh:Int) - 1,A3,c3,cs3,by omega,by go_num,by omega,by omega,rfl,by omega,HC4,HB3⟩
   case measure=>simp [intOf] <;> omega
  .obtain rfl:j=8:=U
   obtain rfl:t = -1:=U
   have HDS:Hid (ds=uZ seed):=HD.out
   obtain ⟨yi,hyi,HYI⟩:∃ yi:UInt8,IntKind.u8.wrap (i:Int)=(yi.toNat:Int)/\Hid (yi=UInt8.ofNat i):=by
    refine ⟨_,?_,rfl⟩
    rw [AG7]
    have:(UInt8.ofNat i).toNat=i:=by simp; omega
    rw [this]
    omega
   go_wp2_with (first
    | (at_builtin; refine oL gS rfl (.tmp 25) (.tmp 28) rfl w.heap.size _ _ (B8 ds) (.int .u8 (yi.toNat:Int)) rfl HB1.out.own rfl rfl (by omega) (by omega) 5 ?_; intro v2 w2 hown2 hg2 hb2; obtain ⟨A3,c3,cs3,HC3,hc3,rfl,HB3⟩:=BR.push (xs:=[yi]) HB1.out hown2 hg2; have hsz3:=HB3.out.size; have hc3':cs3.length<=ds.length+1:=hc3; clear hown2 hg2 hb2 hc3)
    | (at_builtin; refine AD8 _ rfl (.tmp 29) (.tmp 30) 35 9 rfl w.heap.size 5 i0 Y1 V7 HINF.out.1 HINF.out.2.1 HINF.out.2.2.1 HINF.out.2.2.2 _ _ (B8 cs3) rfl HB3.out.own ks rfl (by unfold maxLen; omega) (by omega) (by omega) ?_; intro v4 w4 hown4 hg4 hb4))
   obtain ⟨A4,c4,rfl⟩:=lC hown4
   obtain ⟨msg,HMSG⟩:∃ msg,Hid (msg=cs3++key):=⟨_,rfl⟩
   have HRW:Hid (Fr [] w w4/\aI w4 A4 (B8 msg)/\msg.length=cs3.length+ks.size):=by
    refine ⟨xZ HB3.out.fr HB3.out.own hg4,?_,by rw [HMSG.out,C3,HKS.out,Kl]⟩
    have h1:=hown4
    rw [HKS.out,Tb,<- nO,<- HMSG.out] at h1
    exact aI.bM h1
   clear hown4 hg4 hb4
   have HSU:=D3 (ET A4 c4 msg w4 HRW.out.2.1 (by rw [HRW.out.2.2]; omega))
   rw [HRW.out.2.2] at HSU
   go_wp2_with fail
   refine HSU.out.mono ?_
   rintro e w5 ⟨rfl,hf5⟩
   obtain ⟨sm,HSM⟩:∃ sm,Hid (sm=fP msg):=⟨_,rfl⟩
   rw [<- HSM.out]
   have HF:Hid (Fr [] w w5):=HRW.out.1.trans hf5
   have HS32:Hid (sm.length=32):=by show sm.length=32; rw [HSM.out]; exact uO _
   clear hf5 HSU hyi
   go_wp2_with fail
   go_loop [10,11] (λv s=>∃ k m:Nat,k<=8/\s = .int .i64 k/\v = .int .u64 (m:Int)/\Hid (m=rB sm k)) (λ_ s=>8 - (intOf s).toNat)
   case atStart=>exact ⟨0,0,by omega,rfl,rfl,rfl⟩
   case round =>
    obtain ⟨k,m,hk,rfl,rfl,HM⟩:=hrel
    by_cases hlt:k < 8
    .obtain ⟨y,hy⟩:=gk sm k (by rw [HS32.out]; omega)
     have hix:=Fc sm k y hy
     have hyb:=V1 y
     have hmb:m*256+256<=18446744073709551616:=by
      rw [HM.out]
      have h1:=Cp sm k
      have h2:256 ^ k<=256 ^ 7:=Y2 (by decide) U
      omega
     obtain ⟨m8,q1,HM8⟩:∃ m8:Nat,IntKind.u64.wrap ((m:Int)*256)=(m8:Int)/\Hid (m8=m*256):=⟨m*256,by rw [X0]; omega,rfl⟩
     have qy:IntKind.u64.wrap (y.toNat:Int)=(y.toNat:Int):=by rw [X0]; omega
     obtain ⟨mn,q2,HMN⟩:∃ mn:Nat,IntKind.u64.wrap ((m8:Int)+(y.toNat:Int))=(mn:Int)/\Hid (mn=rB sm (k+1)):=by
      refine ⟨m*256+y.toNat,by rw [HM8.out,X0]; omega,?_⟩
      show _=rB sm k*256+(sm.getD k 0).toNat
      rw [<- HM.out,U5,hy]
      rfl
     have hkI:(k:Int) < 8:=U
     clear hy hmb hyb
     go_wp2_with fail
     go_round
     case rel=>exact ⟨k+1,mn,by omega,by go_num,rfl,HMN⟩
     case measure=>simp [intOf] <;> omega
    .obtain rfl:k=8:=U
     go_wp2_with fail
     go_ret
     refine ⟨jK ?_,HF.out⟩
     rw [HM.out,HSM.out,HMSG.out,HC3.out,HDS.out,HYI.out]
     simp [jL]
theorem Tc:lN Tryz.prog 189 3 (C 0) 1 8:=⟨si,J,I,U,U⟩
def lY(n seed:Nat)(key:List UInt8):List Int:=[(gO n seed key 0:Int),(gO n seed key 1:Int),(gO n seed key 2:Int)]
theorem Td(n a key k)(h:k < 3):(lY n a key).take (k+1)=(lY n a key).take k++[(gO n a key k:Int)]:=by
 match k,h with
 | 0,_=>rfl
 | 1,_=>rfl
 | 2,_=>rfl
theorem Te(n seed:Nat)(key:Γ)(w)(hn:fI (n:Int)=true)(hk:key.length<=34359738368):
  Calls Tryz.prog 120 #[C (n:Int),.int .u64 (seed:Int),.string (bL key)] w λe w'=>∃ g c,e = .returned (ql g 3 c)/\Fr [] w w'/\aI w' (qa g) ((lY n seed key).map (.int .i64))/\w.heap.size<=g:=by
 obtain ⟨n3,n4,n5⟩:=jQ hn
 obtain ⟨th,rfl⟩:∃ th,n=3*th:=⟨n / 3,U⟩
 have th1:1<=th:=U
 have th2:th<=1024:=U
 have HK:=D3 hk
 clear hn n5 hk
 obtain ⟨n,HN⟩:∃ n,Hid (n=3*th):=⟨_,rfl⟩
 have hn3:n<=3072:=by rw [HN.out]; omega
 rw [<- HN.out]
 have eth:(n:Int) / 3=(th:Int):=by have:=HN.out; omega
 have qth:IntKind.u64.wrap (th:Int)=(th:Int):=by rw [X0]; omega
 have thB:((th:Int) == 0)=false:=by simp; omega
 have thI:(th:Int)≠0:=U
 go_enter Tryz.func120,Tryz.ntmps120
 go_wp2_with fail
 go_loopw [7,8] (λv s wx=>∃ (k:Nat) (A':Δ) (c':Nat),k<=3/\s = .int .i64 k/\v = .slice A' k c'/\Hid (Fr [] w wx/\wx.ownsRow w.heap.size 3 1 v k (((lY n seed key).take k).map (Value.int .i64)))) (λ_ s _=>3 - (intOf s).toNat)
 case atStart=>exact ⟨0,_,_,by omega,rfl,rfl,(Fr.refl _ _).alloc _,Z8 _ #[] 0 (J7 _) (G6 _) rfl⟩
 case round =>
  obtain ⟨k,A',c',hk,rfl,rfl,HR⟩:=hrel
  by_cases hlt:k < 3
  .obtain ⟨hv,HHV⟩:∃ hv,Hid (hv=jL seed k key):=⟨_,rfl⟩
   have HC:=D3 (Cz seed k key wr U HK.out)
   rw [<- HHV.out] at HC
   have hkt:k*th<=2*1024:=Z9 U th2
   have hkn:k*n<=2*3072:=Z9 U hn3
   obtain ⟨kn,q0,HKN⟩:∃ kn:Nat,IntKind.i64.wrap ((k:Int)*(n:Int))=(kn:Int)/\Hid (kn=k*n):=⟨k*n,by rw [<- AG8,ABb]; omega,rfl⟩
   obtain ⟨kt,q1,HKT⟩:∃ kt:Nat,(kn:Int) / 3=(kt:Int)/\Hid (kt=k*th):=⟨k*th,by
    rw [HKN.out,HN.out]
    have:k*(3*th)=3*(k*th):=by rw [Nat.mul_left_comm]
    rw [this]
    omega,rfl⟩
   have hknb:kn<=6144:=by rw [HKN.out]; exact hkn
   have hktb:kt<=2048:=by rw [HKT.out]; exact hkt
   obtain ⟨hm,q2,q3,HHM⟩:∃ hm:Nat,(hv:Int) % (th:Int)=(hm:Int)/\(hv:Int).tmod (th:Int)=(hm:Int)/\Hid (hm=hv % th):=⟨hv % th,by rw [Int.natCast_emod],by rw [AC6],rfl⟩
   have hmb:hm < th:=by rw [HHM.out]; exact z8 _ U
   have qi:IntKind.i64.wrap (hm:Int)=(hm:Int):=by rw [ABb]; omega
   obtain ⟨p,q4,HP⟩:∃ p:Nat,(kt:Int)+(hm:Int)=(p:Int)/\Hid (p=gO n seed key k):=⟨kt+hm,U,by
    show _=_
    unfold gO
    rw [show n / 3=th by have:=HN.out; omega,<- HHV.out,<- HHM.out,<- HKT.out]⟩
   have hkI:(k:Int) < 3:=U
   clear hkt hkn
   go_wp2_with fail
   refine HC.out.mono ?_
   rintro e w1 ⟨rfl,hf1⟩
   have HR1:Hid (Fr [] w w1/\w1.ownsRow w.heap.size 3 1 (.slice A' k c') k (((lY n seed key).take k).map (Value.int .i64))):=⟨HR.out.1.trans hf1,gC HR.out.2 hf1 si⟩
   have hsz1:=HR1.out.1.size
   clear hf1 HC
   go_wp2_with (at_builtin; refine oL Tc rfl (.tmp 14) (.tmp 29) rfl w.heap.size _ _ (((lY n seed key).take k).map (Value.int .i64)) (Value.int .i64 (p:Int)) rfl HR1.out.2 rfl rfl (by omega) (by omega) 3 ?_; intro v2 w2 hown2 hg2 hb2)
   obtain ⟨A2,c2,rfl⟩:=lC hown2
   have HN2:Hid (Fr [] w w2/\w2.ownsRow w.heap.size 3 1 (.slice A2 (k+1) c2) (k+1) (((lY n seed key).take (k+1)).map (Value.int .i64))):=by
    refine ⟨xZ HR1.out.1 HR1.out.2 hg2,?_⟩
    rw [Td n seed key k hlt,U1,<- HP.out]
    exact hown2
   clear hown2 hg2 hb2 q0 q1 q2 q3 q4
   go_roundw
   case rel =>
    first
     | exact ⟨k+1,A2,c2,by omega,by go_num,rfl,HN2⟩
     | ((repeat apply Exists.intro); exact ⟨⟨k+1,A2,c2,by omega,by go_num,rfl,HN2⟩,rfl⟩)
   case measure=>simp [intOf] <;> omega
  .obtain rfl:k=3:=U
   go_wp2_with fail
   go_ret
   have h1:=HR.out.1
   have h2:=HR.out.2
   rcases h2.2 with ⟨_,h0⟩ | ⟨g,cap,cur,he,hb,_⟩
   .omega
   .injection he with e1 e2 e3
    subst e1
    exact ⟨g,c',rfl,h1,aI.bM h2,hb⟩
structure jU (w:World) (g c:Nat) (rest:List Value) (t:BT):Prop where
 cells:At w g 132 (bU t.cells++rest)
 ok:t.Ok
 size:fI (t.cells.length:Int)=true
 cap:t.cells.length <= c
theorem jU.fr{rest:Ξ}{t:BT}(h:jU w g c rest t)(a:Fr S w w')(b:g∉S):jU w' g c rest t:=⟨h.cells.fr a b,h.ok,h.size,h.cap⟩
theorem Tf(n:Nat)(f:n<=3072)(w):(Instr.makeSlice 93 (C (n:Int)) (C (n:Int))).run Tryz.prog w = .ok (.slice (some ⟨w.heap.size,0,none⟩) n n) (w.alloc (.cells (bU (List.replicate n BC.zero)).toArray 132)):=by
 have a:(Tryz.prog.info? 132).map (λi=>(i.zero,i.size,i.bytes))=some (some M7,34,48):=by kernel_rfl
 obtain ⟨i,d,e,c,b⟩:=AA6 a
 have:=run_make w 93 132 i _ Tryz.underlying93 d e .i64 .i64 n n U U (by rw [b]; omega) U
 rw [c,k6] at this
 rw [this,<- Fg]
 rfl
theorem KF(n seed:Nat)(w)(h:fI (n:Int)=true)(hs:dA seed):Calls Tryz.prog 76 #[C (n:Int),.int .u64 (seed:Int)] w λe w'=>∃ g,e = .returned (.agg #[.int .u64 (seed:Int),ql g n n])/\w.heap.size<=g/\Fr [] w w'/\jU w' g n [] (BT.new n seed):=by
 obtain ⟨n3,n4,n5⟩:=jQ h
 have hmk:=Tf n n4
 have HH:=D3 (And.intro h hs)
 clear h hs n5
 go_enter Tryz.func76,Tryz.ntmps76
 go_wp2_with (refine xT rfl 95 (.tmp 4) (.tmp 8) rfl w.heap.size 0 rfl 95 [.int .u64 0,.slice none 0 0] [.int .u64 (seed:Int),.slice (some ⟨w.heap.size+1,0,none⟩) n n] rfl ((At.new w 95 [.int .u64 0,.slice none 0 0]).alloc _) (by simp) (by kernel_rfl) (by simp [Value.oneCell']) [.int .u64 (seed:Int),.slice (some ⟨w.heap.size+1,0,none⟩) n n] rfl ?_; intro w2 hf2 ha2)
 refine AEf (Co (t:=95) rfl _ _ w.heap.size [.int .u64 (seed:Int),.slice (some ⟨w.heap.size+1,0,none⟩) n n] _ rfl ha2 Tryz.underlying95 rfl J) rfl ⟨w.heap.size+1,rfl,U,(((Fr.refl [] w).alloc _).alloc _).trans' hf2 si,?_⟩
 have e:(BT.new n seed).cells.length=n:=by simp [BT.new]
 refine ⟨?_,BT.Ok.new n seed HH.out.2,by rw [e]; exact HH.out.1,by rw [e]; exact J7 _⟩
 have h1:=At.new (w.alloc (.cells #[.int .u64 0,nS] 95)) 132 (bU (List.replicate n BC.zero))
 have e2:(w.alloc (.cells #[.int .u64 0,nS] 95)).heap.size=w.heap.size+1:=by simp
 rw [e2] at h1
 rw [O4]
 exact h1.fr hf2 si
theorem CA{l:List BC}(h:jH l)(rest p c)(m:l[p]?=some c)(c':BC):(bU l++rest).take (p*34)++c'.cells++(bU l++rest).drop (p*34+34)=bU (l.set p c')++rest:=by
 obtain ⟨k,g⟩:=C4.1 m
 obtain ⟨A,B,rfl,f⟩:∃ A B,l=A++c::B/\A.length=p:=⟨_,_,by rw [<- g,<- V2 k,S6],by rw [I8]; omega⟩
 have b:(bU A).length=p*34:=by rw [nI (λx n=>h x (by simp [n])),f]
 have d:c.cells.length=34:=BC.cells_len (h c si)
 have a:(bU A++c.cells).length=p*34+34:=by rw [C3,b,d]
 have e:bU (A++c::B)++rest=(bU A++c.cells)++(bU B++rest):=by rw [JM,tX]; simp
 have i:bU (A++c::B)++rest=bU A++(c.cells++(bU B++rest)):=by rw [e,D1]
 have j:(A++c::B).set p c'=A++c'::B:=by rw [V3 _ _ U,f,W6,Z7]
 have t1:(bU (A++c::B)++rest).take (p*34)=bU A:=by rw [i]; exact List.take_left' b
 have t2:(bU (A++c::B)++rest).drop (p*34+34)=bU B++rest:=by rw [e]; exact List.drop_left' a
 rw [t1,t2,j,JM,tX]
 simp
theorem Fy:lN Tryz.prog 93 132 (.agg BC.zero.cells.toArray) 34 48:=⟨si,J,I,U,U⟩
theorem Tg(m:Nat):((m:Int) % 128+128)=((UInt8.ofNat (m % 128+128)).toNat:Int):=by
 rw [Eh _ U]
 omega
set_option maxHeartbeats 2000000 in
theorem yS(n w)(hn:dA n):Calls Tryz.prog 67 #[.int .u64 (n:Int)] w (xY (aE n) w):=by
 have hnl:=eY n hn
 have HN:=D3 hn
 clear hn
 go_enter Tryz.func67,Tryz.ntmps67
 go_wp2_with fail
 go_loopw [0,3] (λi b wr=>∃ (m:Nat) (cs:Γ),dA m/\i = .int .u64 (m:Int)/\aE n=cs++aE m/\Fr [] w wr/\wr.ownsRow w.heap.size 5 1 b cs.length (B8 cs)) (λi _ _=>(intOf i).toNat)
 case atStart=>exact ⟨n,[],HN.out,rfl,rfl,(Fr.refl _ _).alloc _,Z8 _ #[] 0 (J7 _) (G6 _) rfl⟩
 case round =>
  obtain ⟨m,cs,hm,rfl,he,hf,hown⟩:=hrel
  have hsz:=hf.size
  have HC:Hid (cs.length+1<=137438953472):=by have h1:=U0 List.length he; rw [C3] at h1; show _<=_; omega
  have HG:=D3 (And.intro hf hown)
  have HE:=D3 he
  have HM:=D3 hm
  have hmI:(m:Int)<=18446744073709551615:=by unfold dA at hm; omega
  clear hf hown he hm
  obtain ⟨A,c,rfl⟩:=lC HG.out.2
  by_cases hlt:m < 128
  .go_wp2_with (at_builtin; refine oL gS rfl (.tmp 16) (.tmp 19) rfl w.heap.size _ _ _ (.int .u8 (m:Int)) rfl HG.out.2 rfl rfl HC.out (by omega) 5 ?_; intro v' w1 hown1 hg1 hb1)
   go_ret
   have hf1:Fr [] w w1:=xZ HG.out.1 HG.out.2 hg1
   obtain ⟨A1,c1,rfl⟩:=lC hown1
   rw [IL m U] at hown1
   refine IV (cs++[UInt8.ofNat m]) ?_ ⟨A1,c1,si,hf1,?_⟩
   .rw [HE.out,oM m hlt]
   .rw [nO,C3]; exact hown1
  .have hor:=Tg m
   obtain ⟨y,hy⟩:∃ y:UInt8,y=UInt8.ofNat (m % 128+128):=⟨_,rfl⟩
   rw [<- hy] at hor
   have hyb:=V1 y
   have HY:=D3 hy
   clear hy
   have hge:(127:Int) < (m:Int):=U
   go_wp2_with (at_builtin; refine oL gS rfl (.tmp 7) (.tmp 12) rfl w.heap.size _ _ _ (.int .u8 (y.toNat:Int)) rfl HG.out.2 rfl rfl HC.out (by omega) 5 ?_; intro v' w1 hown1 hg1 hb1)
   go_roundw
   case rel =>
    refine ⟨m / 128,cs++[y],?_,by go_num,?_,xZ HG.out.1 HG.out.2 hg1,?_⟩
    .have:=HM.out; unfold dA at this ⊢; omega
    .rw [HE.out,rY m hlt,D1,HY.out]; rfl
    .rw [nO,C3]; exact hown1
   case measure=>simp [intOf]; omega
theorem Th(n w)(h:pX n):Calls Tryz.prog 75 #[C n] w λe w'=>e = .returned (.int .u64 (gH n:Int))/\w=w':=by
 have h0:=h.1
 have h1:=h.2
 clear h
 by_cases hn:n < 0
 .go_enter Tryz.func75,Tryz.ntmps75
  go_wp2_with fail
  go_ret
  refine ⟨jK ?_,rfl⟩
  unfold gH
  rw [P1 hn]
  omega
 .replace hn:=Int.not_lt.1 hn
  go_enter Tryz.func75,Tryz.ntmps75
  go_wp2_with fail
  go_ret
  refine ⟨jK ?_,rfl⟩
  unfold gH
  rw [P4 U]
  omega
theorem Ti(n w)(h:dA n):Calls Tryz.prog 79 #[.int .u64 (n:Int)] w λe w'=>e = .returned (C (hU n))/\w=w':=by
 have hI:(n:Int)<=18446744073709551615:=by unfold dA at h; omega
 have hI0:(0:Int)<=(n:Int):=U
 clear h
 by_cases h1:n % 2=1
 .have hb:((n:Int) % 2 == 0)=false:=by simp; omega
  go_enter Tryz.func79,Tryz.ntmps79
  go_wp2_with fail
  go_ret
  refine ⟨jK ?_,rfl⟩
  unfold hU
  rw [P1 h1]
  omega
 .have hb:((n:Int) % 2 == 0)=true:=by simp; omega
  go_enter Tryz.func79,Tryz.ntmps79
  go_wp2_with fail
  go_ret
  refine ⟨jK ?_,rfl⟩
  unfold hU
  rw [P4 h1]
  omega
theorem Mm.newRow{e:Ending}(h:Mm w0 F cs w)(g:xY bs w e w'):∃ A c,e = .returned (.slice A bs.length c)/\Mm w0 F (cs++[bD 5 1 A bs.length c (B8 bs)]) w':=by
 obtain ⟨A,c,rfl,f,i⟩:=g
 obtain ⟨A',j,a,d⟩:=h.PH f i
 injection a with a k b
 subst a b
 exact ⟨A,c,I,d⟩
theorem Mm.acL(h:Mm w0 [] cs w)(hi:cs[i]?=some (bD e sz A m c xs)):w.ownsRow w0.heap.size e sz (.slice A m c) m xs:=by
 have d:w.ownsRow 0 e sz _ m xs:=h.at hi
 refine ⟨d.1,?_⟩
 rcases d.2 with f | ⟨g,cap,a,b,_,rest⟩
 .grind
 .refine .inr ⟨g,cap,a,b,?_,rest⟩
  simp only [R6] at b
  obtain ⟨rfl,_,_⟩:=b
  exact h.lo hi (by simp [bD,eT])
theorem wS{rest:Ξ}{t:BT}(h:jU w g c rest t){b:BC}(d:t.cells[i]?=some b)(j v)(e:b.cells[j]?=some v):w.cell? ⟨g,i*34+j,none⟩=some v:=by
 have a:=(C4.1 e).1
 rw [BC.cells_len (h.ok.cells b zg)] at a
 rw [h.cells.cell,mW h.ok.cells rest i b d j a]
 omega
theorem BC.pD(c:BC):∀ u∈c.cells,u.oneCell'=true:=λv a=>yK (l:=[c]) v (by simpa [bU] using a)
theorem Az{c:BC}{v:Ω}(h:(B8 c.keys)[j]?=some v):c.cells[1+j]?=some v:=by
 grind [BC.cells]
abbrev B0(a b c:Nat):Value:=.slice (some ⟨a,0,none⟩) (b) (c)
abbrev E4(a b c d):=[(vU a),(B0 b c d)]
abbrev F3(a b:Nat):Value:=.bool (decide (((a:Nat):Int) < ((b:Nat):Int)))
abbrev C0(a b:Nat):Value:=.pointer (some ⟨a,0+b*34,none⟩)
abbrev I1(a:BC):Value:=.agg (a.cells).toArray
abbrev C2:Value:=.int .u8 0
abbrev G9:Value:=.int .u64 0
abbrev A0:=[(C 0),C2,C2,C2,C2,C2,C2,C2,C2,C2,C2,C2,C2,C2,C2,C2,C2,C2,C2,C2,C2,C2,C2,C2,C2,C2,C2,C2,C2,C2,C2,C2,C2,G9]
theorem Tj(g cap rest t w)(s:jU w g cap rest t):
  Θ 40 #[.agg #[.int .u64 (t.seed:Int),.slice (some ⟨g,0,none⟩) t.cells.length cap]] w (xY t.enc w):=by
 obtain ⟨n,HN⟩:∃ n,Hid (n=t.cells.length):=⟨_,I⟩
 obtain ⟨a,HS⟩:∃ a,Hid (a=t.seed):=⟨_,I⟩
 have P:n<=3072:=by rw [HN.out]; exact (jQ s.size).2.1
 rw [<- HN.out,<- HS.out]
 have HU:Hid (dA a):=by show dA a; rw [HS.out]; exact s.ok.seed
 have HEL:Hid _:=λi=>wP s.ok (by rw [<- HN.out]; exact P) i
 have HE0:Hid (fW t 0=aE n++aE a):=by show _=_; unfold fW; rw [<- HN.out,<- HS.out]; simp
 have HENC:Hid (t.enc=fW t n):=by show _=_; rw [HN.out]; rfl
 have HL0:Hid ((aE n).length+(aE a).length<=200000):=by
  show _<=_
  have:=HEL.out 0
  rw [HE0.out,C3] at this
  exact this
 have HT:=D3 s
 clear s
 refine eO Tryz.func40 41 (B3 w) rfl<|Nc<|R<|pB [(vU a),_] λp=>G I<|Nf<|dN _ 10 J η<|aC 0 (Z p 1) I<|al 1 0 ?_
 refine aC 2 (Y n) I<|aV 3 (vU n) rfl (iQ _ (λ_=>J) I I (kV U U))<|aC 5 (Z p 0) I<|al 6 0 ?_
 refine dW (i:=4) J I I<|eR 67 _ rfl J (λ_=>J) (λw f=>(yS (n) w (by unfold dA; omega)).mono ?_)
 rintro e u m
 obtain ⟨A10,F,rfl,d⟩:=f.newRow m
 refine ⟨_,_,I,d,?_⟩
 clear f m d
 refine aQ _ η (λ_ h=>h.sub (.cons_cons _ (.cons _ .slnil)))<|dW (i:=7) J rfl rfl<|eR 67 _ rfl J (λ_=>J) (λw f=>(yS _ w HU.out).mono ?_)
 rintro e u m
 obtain ⟨A13,H,rfl,d⟩:=f.newRow m
 refine ⟨_,_,I,d,?_⟩
 clear f m d
 refine aQ _ (λ_ h=>h.sub (.cons_cons _ (.cons _ .slnil))) (λ_ h=>h.sub (.cons_cons _ (.cons _ (.cons_cons _ .slnil))))<|dW (i:=8) J I I ?_
 refine cL gS 1 _ I I J I I I (by rw [eX,X1]) (EA (i:=2) I) (iP _) (by have:=HL0.out; omega) ((fW t 0).length) (by rw [HE0.out,C3]) (B8 (fW t 0)) (by rw [HE0.out,nO]) (λA14 x=>?_)
 refine aQ _ (λ_ h=>h.sub (.cons_cons _ (.cons _ (.cons_cons _ .slnil)))) η ?_
 refine aa 9 ?_
 refine cG J<|aJ<|Ny<|G rfl<|Ng<|sL (λ(i,A,c)=>i<=n) (λ(i,A,c)=>n - i) (λ(i,A,c)=>[(1,(Z p 0)),(3,(.slice A ((fW t i).length) (c))),(4,(Y i))]) (λ(i,A,c)=>[aD p 95 (E4 a g n cap),bD 5 1 A ((fW t i).length) (c) (B8 (fW t i))]) (0,A14,x) (G6 _) (λ_ h=>h.sub (.cons_cons _ (.cons_cons _ (.cons _ .slnil)))) ?_
 rintro ⟨i,A,c⟩ (O:i<=n)
 dsimp only
 refine Ny<|G I<|M (Z p 1)<|lL 0 I<|M (Y n)<|M (F3 i n) ?_
 refine ζ I (λr=>?_) λr=>?_
 .obtain ⟨l,D⟩:=gk t.cells i (by rw [<- HN.out]; omega)
  have N:i < n:=U
  have b:=HT.out.ok.cells l (F0 D)
  have k:=BC.cells_len b
  have HSU:=Km D
  have o:=HEL.out (i+1)
  rw [HSU] at o
  simp only [C3] at o
  refine Nm<|aF<|M (Z p 1)<|lL 0 rfl<|G rfl<|lw (C0 g i) (mI (e:=132) (sz:=34) rfl J J rfl rfl U)<|lw (I1 l) (gI l.cells rfl rfl J (by rw [k]; kernel_rfl) (λw f j v E=>by rw [K7]; exact f.gA (wS HT.out D j v E) si))<|R<|pA A0 λq=>R<|dE 2 l.cells (vs:=l.cells) I I J I I I (by rw [k]; kernel_rfl) I (by rw [k]; decide) (BC.pD l) (sG (by rw [k]; rfl)) ?_
  refine Na ?_
  refine dN _ 12 J (λ_ h=>h.sub (.cons_cons _ (.cons _ (.cons_cons _ .slnil)))) ?_
  refine am 0 ?_
  refine aC 1 (Z q 0) I<|aV 2 _ rfl (bW 1 rfl rfl J rfl (lS l))<|aC 6 (Z q 1) rfl<|aC 7 (.slice (some ⟨q,1,none⟩) (32) (32)) rfl<|aC 9 (Z q 33) rfl<|aV 10 (vU _) rfl (bW 1 rfl rfl J rfl (qH b.keys))<|dW (i:=3) J rfl rfl<|eR 75 _ rfl J (λ_=>J) (λw f=>(Th _ w b.count).mono ?_)
  rintro e u ⟨rfl,rfl⟩
  refine ⟨_,_,I,f,?_⟩
  clear f
  refine aQ _ η (λ_ h=>h.sub (.cons_cons _ (.cons _ (.cons_cons _ .slnil))))<|dW (i:=4) J rfl rfl<|eR 67 _ rfl J (λ_=>J) (λw f=>(yS _ w (xU _ b.count.1 b.count.2)).mono ?_)
  rintro e u m
  obtain ⟨A31,y,rfl,d⟩:=f.newRow m
  refine ⟨_,_,I,d,?_⟩
  clear f m d
  refine aQ _ (λ_ h=>h.sub (.cons_cons _ (.cons_cons _ (.cons _ .slnil)))) (λ_ h=>h.sub (.cons_cons _ (.cons _ (.cons_cons _ (.cons_cons _ .slnil)))))<|dW (i:=5) J rfl rfl<|cL gS 1 _ rfl rfl J rfl rfl rfl (by rw [eX,X1]) (EA (i:=3) rfl) (iP _) U ((fW t i++aE _).length) (by rw [C3]) (B8 _) (by rw [nO]) (λA32 K=>aQ _ η (λ_ h=>h.sub (.cons_cons _ (.cons _ (.cons_cons _ (.cons_cons _ .slnil)))))<|dW (i:=8) J rfl rfl<|cL gS 1 _ rfl rfl J rfl rfl rfl (by rw [eX,b.keys]) (fE (i:=2) rfl (λj v E=>Az E)) (iP _) (by simp only [C3]; omega) ((fW t i++aE _++l.keys).length) (by rw [C3 (bs:=l.keys),b.keys]) (B8 _) (by rw [nO _ l.keys]) (λA35 L=>aQ _ η (λ_ h=>h.sub (.cons_cons _ (.cons _ (.cons_cons _ (.cons_cons _ .slnil)))))<|dW (i:=11) J rfl rfl<|eR 67 _ rfl J (λ_=>J) (λw f=>(yS _ w b.checks).mono ?_)))
  rintro e u m
  obtain ⟨A38,z,rfl,d⟩:=f.newRow m
  refine ⟨_,_,I,d,?_⟩
  clear f m d
  refine aQ _ (λ_ h=>h.sub (.cons_cons _ (.cons_cons _ (.cons_cons _ (.cons _ .slnil))))) (λ_ h=>h.sub (.cons_cons _ (.cons _ (.cons_cons _ (.cons_cons _ (.cons_cons _ .slnil))))))<|dW (i:=12) J rfl rfl<|cL gS 1 (B8 (aE l.checks)) rfl rfl J rfl rfl rfl (by rw [eX,X1]) (EA (i:=4) rfl) (iP _) (by simp only [C3]; omega) ((fW t (i+1)).length) (by rw [HSU,C3 (bs:=aE l.checks)]) (B8 (fW t (i+1))) (by rw [HSU,nO _ (aE l.checks)]) (λA39 B=>Ex [aD p 95 (E4 a g n cap),aD q 132 (l.cells),bD 5 1 A31 ((aE (gH l.count)).length) (y) (B8 (aE (gH l.count))),bD 5 1 A38 ((aE (l.checks)).length) (z) (B8 (aE (l.checks)))] 14 I (λ_ h=>h.sub (.cons_cons _ (.cons _ (.cons_cons _ (.cons_cons _ (.cons_cons _ .slnil))))))<|aa 13 ?_)
  refine cG J<|jF<|aJ<|aF<|G I<|lw (Y (i+1)) bN<|G I ?_
  refine aO (aJ (yC (i+1,A39,B) oz oz ⟨I,I,I,trivial⟩ (λ_ h=>h.sub (.cons_cons _ (.cons_cons _ (.cons _ (.cons _ (.cons _ .slnil))))))))
 .obtain rfl:i=n:=U
  refine Nj<|aF<|G rfl<|Nd<|sN [_] λw f=>⟨A,c,by show _=Ending.returned _; rw [HENC.out]; rfl,f.fr,?_⟩
  rw [HENC.out]
  exact f.acL (i:=1) I
def oS(b:Nat)(xs:List Value):Ch where
 fp:=[b]
 holds w:=b < w.heap.size /\ ∀ i u,xs[i]?=some u -> w.cell? ⟨b,i,none⟩=some u
 ok w w' hb h:=by
  have e:=hb b (by simp)
  refine ⟨?_,λi u hu=>by rw [World.cell?_of_block (w:=w) e]; exact h.2 i u hu⟩
  rw [Array.getElem?_eq_getElem h.1] at e
  exact (Array.getElem?_eq_some_iff.1 e).1
 lt w h b' hb:=by rw [List.mem_singleton] at hb; subst hb; exact h.1
theorem Tk(h:aI w (qa b) xs)(a:0 < xs.length):(oS b xs).holds w:=by
 refine ⟨?_,λi u d=>?_⟩
 .obtain ⟨f,g,e,c,_⟩:=h 0 xs[0] (E1 a)
  grind
 .obtain U:=h i u d
  grind
theorem Tl(n a key):((lY n a key).map (Value.int .i64)).length=3:=rfl
theorem AA(g0 c0 rest0 t)(key:Γ)(aE w)(ht:jU w g0 c0 rest0 t)(hk:key.length=32):
  Θ 77 #[.agg #[.int .u64 (t.seed:Int),.slice (some ⟨g0,0,none⟩) t.cells.length c0],.string (bL key),vi aE] w λe w'=>∃ g c rest,e = .returned (.agg #[.int .u64 (t.seed:Int),.slice (some ⟨g,0,none⟩) t.cells.length c])/\w.heap.size<=g/\Fr [] w w'/\jU w' g c rest (t.change key aE):=by
 obtain ⟨n,HN⟩:∃ n,Hid (n=t.cells.length):=⟨_,rfl⟩
 obtain ⟨seed,HS⟩:∃ seed,Hid (seed=t.seed):=⟨_,rfl⟩
 rw [<- HN.out,<- HS.out]
 have hb:=jQ ht.size
 have n3:3<=n:=by rw [HN.out]; exact hb.1
 have n4:n<=3072:=by rw [HN.out]; exact hb.2.1
 obtain ⟨C,HC⟩:∃ C,Hid (C=bU t.cells):=⟨_,rfl⟩
 have HCL:Hid (C.length=n*34/\(∀ v∈C,v.oneCell'=true)):=by
  show _/\_
  rw [HC.out,nI ht.ok.cells,HN.out]
  exact ⟨rfl,yK⟩
 have HCA:Hid (∀ W,Fr [] w W->eN W (some ⟨g0,0,none⟩) C):=λW hW j v hv=>⟨_,rfl,by
  rw [kB,K7,hW.cell (p:=⟨g0,j,none⟩) ht.cells.lt si,ht.cells.cell,R1 (by rw [<- HC.out]; exact (C4.1 hv).1),<- HC.out]
  exact hv⟩
 have H:=D3 (And.intro ht hk)
 clear ht hk hb
 refine kN Tryz.func77 75 (Mm.start w []) rfl<|Nc<|R<|pB [(vU seed),(.slice (some ⟨g0,0,none⟩) (n) (c0))] λb3=>R<|pA [(.int .u64 0),nS] λb6=>?_
 refine aO (aJ (qU (ι:=Nat × Δ × Nat × Nat) (λ_=>True) (λ(b14,A17,c17,b7)=>[(0,(.agg #[(vU seed),(.slice (some ⟨g0,0,none⟩) (n) (c0))])),(1,(vS key)),(2,(vi aE)),(3,(Z b3 0)),(6,(Z b6 0)),(12,(Z b3 0)),(13,(vU seed)),(15,(Z b3 1)),(16,(.slice (some ⟨g0,0,none⟩) (n) (c0))),(14,(.slice (some ⟨b14,0,none⟩) (0) (0))),(17,(.slice A17 (n) (c17))),(18,(.agg #[(vU seed),(.slice A17 (n) (c17))])),(7,(Z b7 0))]) (λ(b14,A17,c17,b7)=>[aD b3 95 [(vU seed),(.slice (some ⟨g0,0,none⟩) (n) (c0))],aD b6 95 [(.int .u64 0),nS],bD 132 34 A17 (n) (c17) (C),aD b7 95 [(vU seed),(.slice A17 (n) (c17))]]) ?_ ?_))
 .refine dN _ 9 J η<|aC 0 (Z b3 0) rfl<|al 1 0 ?_
  refine aC 3 (Z b3 1) rfl<|al 4 0 ?_
  refine kU (i:=2) (j:=7) J rfl rfl rfl rfl ?_ ?_
  .refine pN 0 132 [] λb14=>aQ _ η (λ_ h=>h.sub (.cons_cons _ (.cons_cons _ (.cons _ .slnil)))) ?_
   refine kU (i:=5) (j:=7) J rfl rfl rfl rfl ?_ ?_
   .exact nW Fy 2 C rfl rfl J rfl rfl rfl (by rw [HCL.out.1]) (λw hM=>HCA.out w hM.fr) HCL.out.2 U n U C rfl (λA17 c17=>aQ _ (λ_ h=>h.sub (.cons_cons _ (.cons_cons _ (.cons _ .slnil)))) η<|aC 6 (.agg #[(vU seed),(.slice A17 (n) (c17))]) rfl<|dW (i:=7) J rfl rfl<|pA [(.int .u64 0),nS] λb7=>aQ _ η (λ_ h=>h.sub (.cons_cons _ (.cons_cons _ (.cons_cons _ (.cons _ .slnil)))))<|dW (i:=8) J rfl rfl<|zu 3 rfl<|aQ _ (λ_ h=>h.sub (.cons_cons _ (.cons_cons _ (.cons_cons _ (.cons _ .slnil))))) η<|cG J<|aJ (sM (b14,A17,c17,b7) trivial η))
   .exact pA [(.int .u64 0),nS] λb7=>aQ _ η (λ_ h=>h.sub (.cons_cons _ (.cons_cons _ (.cons _ (.cons _ .slnil)))))<|dW (i:=5) J rfl rfl<|nW Fy 2 C rfl rfl J rfl rfl rfl (by rw [HCL.out.1]) (λw hM=>HCA.out w hM.fr) HCL.out.2 U n U C rfl (λA17 c17=>aQ _ (λ_ h=>h.sub (.cons_cons _ (.cons_cons _ (.cons _ .slnil)))) (λ_ h=>h.sub (.cons_cons _ (.cons_cons _ (.cons_cons _ (.cons _ .slnil)))))<|aC 6 (.agg #[(vU seed),(.slice A17 (n) (c17))]) rfl<|dW (i:=8) J rfl rfl<|zu 3 rfl<|aQ _ (λ_ h=>h.sub (.cons_cons _ (.cons_cons _ (.cons_cons _ (.cons _ .slnil))))) η<|cG J<|aJ (sM (b14,A17,c17,b7) trivial η))
  .exact pA [(.int .u64 0),nS] λb7=>aQ _ η (λ_ h=>h.sub (.cons_cons _ (.cons_cons _ (.cons _ .slnil))))<|dW (i:=2) J rfl rfl<|pN 0 132 [] λb14=>aQ _ η (λ_ h=>h.sub (.cons_cons _ (.cons_cons _ (.cons _ (.cons _ .slnil)))))<|dW (i:=5) J rfl rfl<|nW Fy 3 C rfl rfl J rfl rfl rfl (by rw [HCL.out.1]) (λw hM=>HCA.out w hM.fr) HCL.out.2 U n U C rfl (λA17 c17=>aQ _ (λ_ h=>h.sub (.cons_cons _ (.cons_cons _ (.cons _ .slnil)))) (λ_ h=>h.sub (.cons_cons _ (.cons_cons _ (.cons _ (.cons_cons _ .slnil)))))<|aC 6 (.agg #[(vU seed),(.slice A17 (n) (c17))]) rfl<|dW (i:=8) J rfl rfl<|zu 2 rfl<|aQ _ (λ_ h=>h.sub (.cons_cons _ (.cons_cons _ (.cons _ (.cons_cons _ .slnil))))) η<|cG J<|aJ (sM (b14,A17,c17,b7) trivial (λ_ h=>h.perm (.cons _ (.cons _ (.swap _ _ _))))))
 .rintro ⟨b14,A17,c17,b7⟩ -
  dsimp only
  refine aT<|St.acA 2 rfl U (λg rest hAA17 hleA17=>?_)
  subst hAA17
  rw [HC.out]
  show St _ _ _ _ [aD b3 95 [(vU seed),(.slice (some ⟨g0,0,none⟩) (n) (c0))],aD b6 95 [(.int .u64 0),nS],aD g 132 (bU (t.iE key aE 0).cells++rest),aD b7 95 [(vU seed),(.slice (some ⟨g,0,none⟩) (n) (c17))]] _
  refine aF<|M (Z b3 1)<|lL 0 rfl<|M (Y n)<|M (Z b3 0)<|lL 0 rfl<|G rfl<|R<|eR 120 #[(Y n),(vU seed),(vS key)] rfl J (λ_=>J) (λw hM=>(Te n seed key w (by rw [HN.out]; exact H.out.1.size) (by rw [H.out.2]; omega)).mono ?_)
  rintro e w' ⟨a8,c8,rfl,hf,hr,hg⟩
  have hM':=hM.push (c:=oS a8 ((lY n seed key).map (Value.int .i64))) hf (Tk hr (by rw [Tl]; omega)) (by simpa [oS] using hg) (by simp [oS])
  refine ⟨_,_,rfl,hM',?_⟩
  clear hM hM' hf hr hg
  refine G rfl<|Ne<|G rfl<|Ng<|sL (λk=>k<=3) (λk=>3 - k) (λk=>[(1,(vS key)),(2,(vi aE)),(3,(Z b3 0)),(6,(Z b6 0)),(7,(Z b7 0)),(8,(.slice (some ⟨a8,0,none⟩) (3) (c8))),(9,(Y k))]) (λk=>[aD b3 95 [(vU seed),(.slice (some ⟨g0,0,none⟩) (n) (c0))],aD b6 95 [(.int .u64 0),nS],aD g 132 (bU (t.iE key aE k).cells++rest),aD b7 95 [(vU seed),(.slice (some ⟨g,0,none⟩) (n) (c17))],oS a8 ((lY n seed key).map (Value.int .i64))]) 0 U η ?_
  intro k (hk:k<=3)
  show St _ _ _ [(1,(vS key)),(2,(vi aE)),(3,(Z b3 0)),(6,(Z b6 0)),(7,(Z b7 0)),(8,(.slice (some ⟨a8,0,none⟩) (3) (c8))),(9,(Y k))] [aD b3 95 [(vU seed),(.slice (some ⟨g0,0,none⟩) (n) (c0))],aD b6 95 [(.int .u64 0),nS],aD g 132 (bU (t.iE key aE k).cells++rest),aD b7 95 [(vU seed),(.slice (some ⟨g,0,none⟩) (n) (c17))],oS a8 ((lY n seed key).map (Value.int .i64))] _
  refine Ny<|G rfl<|M (.bool (decide ((k:Int) < 3))) ?_
  refine ζ rfl (λhd27=>?_) λhd27=>?_
  .have hlt:k < 3:=U
   obtain ⟨p,HP⟩:∃ p,Hid (p=gO n seed key k):=⟨_,rfl⟩
   have hpn:p < n:=by rw [HP.out]; exact Cr n seed key k n3 hlt
   obtain ⟨cl,HCL2⟩:∃ cl,Hid (cl=(t.iE key aE k).cells):=⟨_,rfl⟩
   have hlen:cl.length=n:=by rw [HCL2.out,BT.rU,HN.out]
   have hok:jH cl:=by rw [HCL2.out]; exact (BT.Ok.iE H.out.1.ok H.out.2 aE k).cells
   obtain ⟨cc,hc⟩:=gk cl p (by rw [hlen]; exact hpn)
   have hcok:cc.Ok:=hok cc (F0 hc)
   have hclen:=BC.cells_len hcok
   rw [<- HCL2.out]
   refine Nm<|dN _ 10 J η<|aC 0 (Z b7 1) rfl<|al 1 3 ?_
   refine am 2 ?_
   refine am 3 ?_
   refine aV 4 (.pointer (some ⟨a8,0+k,none⟩)) rfl (tR (e:=3) rfl J J rfl rfl U)<|BW (i:=5) (Y p) rfl rfl rfl J J θ (gN rfl rfl J (λw hM=>by have h:(oS a8 ((lY n seed key).map (Value.int .i64))).holds w:=hM.at (i:=4) rfl; rw [HP.out,K7]; exact h.2 k _ (Ap n seed key k hlt)))<|aV 6 (.pointer (some ⟨g,0+p*34,none⟩)) rfl (mI (e:=132) (sz:=34) rfl J J rfl rfl U) ?_
   refine av 7 (.agg (cc.cells).toArray) rfl (gI cc.cells rfl rfl J (by rw [hclen]; kernel_rfl) (cW (i:=2) rfl (λj v hj=>by rw [K7,mW hok rest p cc hc j (by have:=(C4.1 hj).1; omega)]; exact hj))) ?_
   refine dW (i:=8) J rfl rfl<|pA [(vi 0),(.int .u8 0),(.int .u8 0),(.int .u8 0),(.int .u8 0),(.int .u8 0),(.int .u8 0),(.int .u8 0),(.int .u8 0),(.int .u8 0),(.int .u8 0),(.int .u8 0),(.int .u8 0),(.int .u8 0),(.int .u8 0),(.int .u8 0),(.int .u8 0),(.int .u8 0),(.int .u8 0),(.int .u8 0),(.int .u8 0),(.int .u8 0),(.int .u8 0),(.int .u8 0),(.int .u8 0),(.int .u8 0),(.int .u8 0),(.int .u8 0),(.int .u8 0),(.int .u8 0),(.int .u8 0),(.int .u8 0),(.int .u8 0),(.int .u64 0)] λb10=>aQ _ η (λ_ h=>h.sub (.cons_cons _ (.cons_cons _ (.cons_cons _ (.cons_cons _ (.cons_cons _ (.cons _ .slnil)))))))<|dW (i:=9) J rfl rfl<|dE 5 cc.cells (vs:=cc.cells) rfl rfl J rfl rfl rfl (by rw [hclen]; kernel_rfl) rfl (by rw [hclen]; decide) (BC.pD cc) (sG (by rw [hclen]; rfl)) ?_
   refine aQ _ (λ_ h=>h.sub (.cons_cons _ (.cons_cons _ (.cons_cons _ (.cons_cons _ (.cons_cons _ (.cons _ .slnil))))))) η<|cG J<|aJ<|Nc<|M (Z b10 0)<|lw (.int .i64 cc.count) (bW 5 rfl rfl J rfl (lS cc))<|G rfl<|M (vi (IntKind.i64.wrap (cc.count+aE)))<|M (Z b10 0)<|R<|qs 5 rfl (by rw [hclen]; decide) ?_
   refine Nf<|aT<|St.mem (cs':=[aD b3 95 [(vU seed),(.slice (some ⟨g0,0,none⟩) (n) (c0))],aD b6 95 [(.int .u64 0),nS],aD g 132 (bU cl++rest),aD b7 95 [(vU seed),(.slice (some ⟨g,0,none⟩) (n) (c17))],oS a8 ((lY n seed key).map (Value.int .i64)),aD b10 132 ((cc.part key aE 0 0).cells)]) (λw hM=>by rw [EV,Nat.xor_zero,Cs cc]; exact hM)<|aF<|G rfl<|Ng<|sL (λi=>i<=32) (λi=>32 - i) (λi=>[(1,(vS key)),(2,(vi aE)),(3,(Z b3 0)),(6,(Z b6 0)),(7,(Z b7 0)),(8,(.slice (some ⟨a8,0,none⟩) (3) (c8))),(9,(Y k)),(10,(Z b10 0)),(11,(Y i))]) (λi=>[aD b3 95 [(vU seed),(.slice (some ⟨g0,0,none⟩) (n) (c0))],aD b6 95 [(.int .u64 0),nS],aD g 132 (bU cl++rest),aD b7 95 [(vU seed),(.slice (some ⟨g,0,none⟩) (n) (c17))],oS a8 ((lY n seed key).map (Value.int .i64)),aD b10 132 ((cc.part key aE 0 i).cells)]) 0 U η ?_
   intro i (hi:i<=32)
   show St _ _ _ [(1,(vS key)),(2,(vi aE)),(3,(Z b3 0)),(6,(Z b6 0)),(7,(Z b7 0)),(8,(.slice (some ⟨a8,0,none⟩) (3) (c8))),(9,(Y k)),(10,(Z b10 0)),(11,(Y i))] [aD b3 95 [(vU seed),(.slice (some ⟨g0,0,none⟩) (n) (c0))],aD b6 95 [(.int .u64 0),nS],aD g 132 (bU cl++rest),aD b7 95 [(vU seed),(.slice (some ⟨g,0,none⟩) (n) (c17))],oS a8 ((lY n seed key).map (Value.int .i64)),aD b10 132 ((cc.part key aE 0 i).cells)] _
   refine Ny<|G rfl<|M (.bool (decide ((i:Int) < 32))) ?_
   refine ζ rfl (λhd44=>?_) λhd44=>?_
   .have hlt2:i < 32:=U
    obtain ⟨x,hx⟩:=gk cc.keys i (by rw [hcok.keys]; exact hlt2)
    obtain ⟨y,hy⟩:=gk key i (by rw [H.out.2]; exact hlt2)
    have hpl:(cc.part key aE 0 i).cells.length=34:=BC.cells_len (yL hcok H.out.2 aE (by unfold dA; omega) i)
    refine Nl<|fY ?_
    refine dN _ 11 J η ?_
    refine am 0 ?_
    refine am 1 ?_
    refine aC 2 (Z b10 1) rfl<|aV 3 (.pointer (some ⟨b10,1+i,none⟩)) rfl (nU (e:=5) (m:=32) rfl J J rfl rfl U)<|aV 4 (.int .u8 (x.toNat:Int)) rfl (bW 5 rfl rfl J rfl (yM i x (EW key aE 0 i x hx H.out.2 hcok.keys)))<|am 5 ?_
    refine am 6 ?_
    refine aV 7 (.int .u8 (y.toNat:Int)) rfl (BY rfl J rfl rfl hy)<|aV 8 (.int .u8 (((x ^^^ y).toNat:Nat):Int)) rfl (uU .xor si _ rfl rfl rfl (Ct x y))<|aC 9 (Z b10 1) rfl<|aV 10 (.pointer (some ⟨b10,1+i,none⟩)) rfl (nU (e:=5) (m:=32) rfl J J rfl rfl U)<|dW (i:=11) J rfl rfl<|qs 5 rfl (by rw [hpl]; omega) ?_
    exact lH J rfl<|jF<|aJ<|St.mem (cs':=[aD b3 95 [(vU seed),(.slice (some ⟨g0,0,none⟩) (n) (c0))],aD b6 95 [(.int .u64 0),nS],aD g 132 (bU cl++rest),aD b7 95 [(vU seed),(.slice (some ⟨g,0,none⟩) (n) (c17))],oS a8 ((lY n seed key).map (Value.int .i64)),aD b10 132 ((cc.part key aE 0 (i+1)).cells)]) (λw hM=>by rw [EX key aE 0 i x y hx hy hcok.keys H.out.2]; exact hM)<|aF<|G rfl<|lw (Y (i+1)) bN<|G rfl<|aO (aJ (sA (i+1) oz oz η))
   .obtain rfl:i=32:=U
    obtain ⟨hh,HHH⟩:∃ hh,Hid (hh=jL seed 3 key):=⟨_,rfl⟩
    have hhu:dA hh:=by rw [HHH.out]; exact Cq _ _ _
    have hpk:=(yL hcok H.out.2 aE (chk:=0) (by unfold dA; omega) 32)
    have hpl:=BC.cells_len hpk
    have hpc:(cc.part key aE 0 32).checks=cc.checks:=Nat.xor_zero _
    refine Nj<|dN _ 8 J η<|aC 0 (Z b10 33) rfl<|aV 1 (vU cc.checks) rfl (bW 5 rfl rfl J rfl (by rw [<- hpc]; exact qH hpk.keys))<|aC 2 (Z b3 0) rfl<|al 3 0 ?_
    refine am 4 ?_
    refine dW (i:=5) J rfl rfl<|eR 121 #[(vU seed),(vi 3),(vS key)] rfl J (λ_=>J) (λw hM=>(Cz seed 3 key w U (by rw [H.out.2]; omega)).mono ?_)
    rintro e w' ⟨rfl,hf⟩
    have hM':=hM.eW hf
    refine ⟨(vU (jL seed 3 key)),_,rfl,hM',?_⟩
    clear hM hM' hf
    refine aQ _ η η<|aV 6 (vU (cc.checks ^^^ jL seed 3 key)) rfl (uU .xor si _ rfl rfl rfl (AH4 _ _ hcok.checks (by rw [<- HHH.out]; exact hhu)))<|aC 7 (Z b10 33) rfl<|dW (i:=8) J rfl rfl<|qs 5 rfl (by rw [hpl]; omega) ?_
    refine lH J rfl<|aJ ?_
    have hadd:(cc.add key aE hh).cells=(cc.part key aE 0 32).cells.set 33 (vU (cc.checks ^^^ jL seed 3 key)):=by
     rw [Al cc key aE 0 hcok.keys H.out.2,HHH.out,<- yN (by rw [<- Al cc key aE 0 hcok.keys H.out.2]; exact hpk.keys)]
     rfl
    have hal:(cc.add key aE hh).cells.length=34:=by rw [hadd,a6]; exact hpl
    refine St.mem (cs':=[aD b3 95 [(vU seed),(.slice (some ⟨g0,0,none⟩) (n) (c0))],aD b6 95 [(.int .u64 0),nS],aD g 132 (bU cl++rest),aD b7 95 [(vU seed),(.slice (some ⟨g,0,none⟩) (n) (c17))],oS a8 ((lY n seed key).map (Value.int .i64)),aD b10 132 ((cc.add key aE hh).cells)]) (λw hM=>by rw [hadd]; exact hM)<|dN _ 8 J η<|aC 0 (Z b7 1) rfl<|al 1 3 ?_
    refine am 2 ?_
    refine am 3 ?_
    refine aV 4 (.pointer (some ⟨a8,0+k,none⟩)) rfl (tR (e:=3) rfl J J rfl rfl U)<|BW (i:=5) (Y p) rfl rfl rfl J J θ (gN rfl rfl J (λw hM=>by have h:(oS a8 ((lY n seed key).map (Value.int .i64))).holds w:=hM.at (i:=4) rfl; rw [HP.out,K7]; exact h.2 k _ (Ap n seed key k hlt)))<|aV 6 (.agg ((cc.add key aE hh).cells).toArray) rfl (gI (cc.add key aE hh).cells rfl rfl J (by rw [hal]; kernel_rfl) (cW (i:=5) rfl yy))<|aV 7 (.pointer (some ⟨g,0+p*34,none⟩)) rfl (mI (e:=132) (sz:=34) rfl J J rfl rfl U)<|dW (i:=8) J rfl rfl<|dE 2 (bU (cl.set p (cc.add key aE hh))++rest) (vs:=(cc.add key aE hh).cells) rfl rfl J rfl rfl rfl (by rw [hal]; kernel_rfl) rfl (by rw [hal,C3,nI hok,hlen]; omega) (BC.pD _) (by rw [hal,K7]; exact (CA hok rest p cc hc _).symm) ?_
    refine lH J rfl<|jF<|aJ ?_
    have hplace:p=gO (t.iE key aE k).cells.length (t.iE key aE k).seed key k:=by rw [HP.out,BT.rU,BT.qR,HN.out,HS.out]
    have hcells:(t.iE key aE (k+1)).cells=cl.set p (cc.add key aE hh):=by
     show ((t.iE key aE k).nN key aE k).cells=_
     rw [BT.PO _ key aE k cc (by rw [<- hplace,<- HCL2.out]; exact hc),<- hplace,<- HCL2.out,BT.qR,HHH.out,HS.out]
    exact St.mem (cs':=[aD b3 95 [(vU seed),(.slice (some ⟨g0,0,none⟩) (n) (c0))],aD b6 95 [(.int .u64 0),nS],aD g 132 (bU (t.iE key aE (k+1)).cells++rest),aD b7 95 [(vU seed),(.slice (some ⟨g,0,none⟩) (n) (c17))],oS a8 ((lY n seed key).map (Value.int .i64)),aD b10 132 ((cc.add key aE hh).cells)]) (λw hM=>by rw [hcells]; exact hM)<|aF<|G rfl<|lw (Y (k+1)) bN<|G rfl<|aO (aJ (sA (k+1) oz oz (λ_ h=>h.sub (.cons_cons _ (.cons_cons _ (.cons_cons _ (.cons_cons _ (.cons_cons _ (.cons _ .slnil)))))))))
  .obtain rfl:k=3:=U
   refine Nj<|aF<|lW (zr 3 rfl)<|R<|zu 1 rfl<|Nd<|dL [(.agg #[(vU seed),(.slice (some ⟨g,0,none⟩) (n) (c17))])] rfl ⟨rz 1 rfl,trivial⟩ (λw hM=>?_)
   refine ⟨g,c17,rest,rfl,hM.lo (i:=2) rfl (by simp [aD]),hM.fr,⟨hM.at (i:=2) rfl,BT.Ok.iE H.out.1.ok H.out.2 aE 3,?_,?_⟩⟩
   .rw [<- BT.BI,BT.rU]; exact H.out.1.size
   .rw [<- BT.BI,BT.rU,<- HN.out]; exact hleA17
section
section
variable {w0 w w':World}{F:List Nat}{cs cs':List Ch}
theorem Mm.lift(h:Mm w0 F cs w)(f:Mm w [] cs' w'):Mm w0 F (cs++cs') w':=by
 have g:=h.eW f.fr
 have j:=h.fr.size
 have lo:∀ b∈cs'.flatMap _,w.heap.size<=b:=λb c=>(f.own b c).elim (λx=>by grind) id
 refine ⟨g.fr,?_,?_,?_⟩
 .intro x d
  rcases P7.1 d with d | d
  .exact g.hold x d
  .exact f.hold x d
 .rw [R3,X9]
  refine ⟨h.nodup,f.nodup,λa i b c e=>?_⟩
  subst e
  have k:=h.It i
  have l:=lo a c
  omega
 .intro b c
  rw [R3] at c
  rcases P7.1 c with c | c
  .exact h.own b c
  .exact .inr (by have:=lo b c; omega)
end
def mL(bt bc cap:Nat)(rest:List Value)(t:BT):Ch where
 fp:=[bt,bc]
 holds w:=gF w bt bc cap rest t
 ok w w' hb h:=⟨(hb bt (by simp)).trans h.tab,(hb bc (by simp)).trans h.cells,h.ok,h.size,h.cap⟩
 lt w h b hb:=by
  rcases List.mem_cons.1 hb with rfl | hb
  .exact h.tab.lt
  .rw [List.mem_singleton] at hb
   subst hb
   exact h.cells.lt
theorem KG{cap:Nat}{rest:Ξ}{t:BT}(h:gF w bt bc cap rest t):(mL bt bc cap rest t).fp.Nodup:=by
 have:=h.tab.ne h.cells (by decide)
 simpa [mL] using this
def pL(g c:Nat)(rest:List Value)(t:BT):Ch where
 fp:=[g]
 holds w:=jU w g c rest t
 ok w w' hb h:=⟨(hb g (by simp)).trans h.cells,h.ok,h.size,h.cap⟩
 lt w h b hb:=by
  rw [List.mem_singleton] at hb
  subst hb
  exact h.cells.lt
section
variable {w0 w w':World}{F:List Nat}{cs:List Ch}
theorem Mm.acM(h:Mm w0 F cs w)(i){c a cap:Nat}{rest:Ξ}{t d:BT}(hi:cs[i]?=some (mL c a cap rest t))(g:Fr [a] w w')(e:gF w' c a cap rest d):Mm w0 F (cs.set i (mL c a cap rest d)) w' :=
 h.swap i hi (c':=mL c a cap rest d) (g.mono λx j=>.inl (by grind [mL])) e (λb f=>.inl f) (KG e)
theorem Mm.acN(h:Mm w0 F cs w){d a cap:Nat}{rest:Ξ}{t:BT}(g:Fr [] w w')(e:gF w' d a cap rest t)(i:w.heap.size<=d)(j:w.heap.size<=a):Mm w0 F (cs++[mL d a cap rest t]) w' :=
 h.push (c:=mL d a cap rest t) g e (λb f=>by simp [mL] at f; omega) (KG e)
theorem Mm.xN(h:Mm w0 F cs w){g c:Nat}{rest:Ξ}{t:BT}(d:Fr [] w w')(e:jU w' g c rest t)(f:w.heap.size<=g):Mm w0 F (cs++[pL g c rest t]) w' :=
 h.push (c:=pL g c rest t) d e (λb a=>by simp [pL] at a; omega) (by simp [pL])
end
end
theorem change_len(t:BT)(key aE):(t.change key aE).cells.length=t.cells.length:=by rw [<- BT.BI,BT.rU]
theorem change_seed(t:BT)(key aE):(t.change key aE).seed=t.seed:=by rw [<- BT.BI,BT.qR]
theorem Tm{t:BT}(h:t.Ok)(i):(t.cellAt i).Ok:=by
 unfold BT.cellAt
 rw [U5]
 cases a:t.cells[i]? with
 | none=>exact BC.Ok.zero
 | some c=>exact h.cells c zg
def BC.sub(c d:BC):BC:=c.add d.keys (-d.count) d.checks
def BT.sub(t u:BT):BT:=⟨List.zipWith BC.sub t.cells u.cells,t.seed⟩
def jR(t u:BT)(l:List BC)(i:Nat):List BC:=(t.sub u).cells.take i++l.drop i
theorem BC.Ok.sub{c d:BC}(b:c.Ok)(a:d.Ok):(c.sub d).Ok:=by
 have:=yL b a.keys (-d.count) a.checks 32
 rwa [Al c d.keys (-d.count) d.checks b.keys a.keys] at this
theorem mM{t u:BT}(h:u.cells.length=t.cells.length):(t.sub u).cells.length=t.cells.length:=by simp [BT.sub,h]
theorem vD{t u:BT}(a:t.Ok)(b:u.Ok):(t.sub u).Ok:=by
 refine ⟨λc d=>?_,a.seed⟩
 obtain ⟨i,e,rfl⟩:=AB5.1 d
 simp only [BT.sub,List.length_zipWith] at e
 simp only [BT.sub,List.getElem_zipWith]
 exact BC.Ok.sub (a.cells _ (y9 _)) (b.cells _ (y9 _))
theorem KH{t u:BT}{i:Nat}{c d:BC}(hc:t.cells[i]?=some c)(hd:u.cells[i]?=some d):(t.sub u).cells[i]?=some (c.sub d):=by
 grind [BT.sub]
theorem KI(t u l):jR t u l 0=l:=by simp [jR]
theorem KJ{t u:BT}{l:List BC}(h:u.cells.length=t.cells.length)(hl:l.length=t.cells.length):jR t u l t.cells.length=(t.sub u).cells:=by
 unfold jR
 rw [U2 (by rw [mM h]; exact J7 _),X6 U,O4]
theorem KK{t u:BT}{l:List BC}(h:u.cells.length=t.cells.length)(hl:l.length=t.cells.length)(i)(hi:i<=t.cells.length):(jR t u l i).length=t.cells.length:=by
 grind [jR,mM]
theorem Tn{t u:BT}{l:List BC}(h:u.cells.length=t.cells.length)(i)(hi:i < t.cells.length):(jR t u l i)[i]?=l[i]?:=by
 unfold jR
 have a:((t.sub u).cells.take i).length=i:=by grind [mM]
 grind
theorem KL{t u:BT}{l:List BC}(h:u.cells.length=t.cells.length)(hl:l.length=t.cells.length){i:Nat}{x:BC}(hi:i < t.cells.length)(hx:(t.sub u).cells[i]?=some x):(jR t u l i).set i x=jR t u l (i+1):=by
 unfold jR
 have h1:((t.sub u).cells.take i).length=i:=by rw [I8,mM h]; omega
 obtain ⟨h2,h3⟩:=C4.1 hx
 rw [V3 _ _ U,h1,W6,O5 h2,h3,V2 U,Z7]
 simp
theorem KM{t u:BT}{l:List BC}(b:t.Ok)(d:u.Ok)(e:jH l)(i):jH (jR t u l i):=by
 intro c a
 rcases P7.1 a with a | a
 .exact (vD b d).cells c zg
 .exact e c zg
theorem jH.set{l:List BC}(h:jH l)(i){c:BC}(b:c.Ok):jH (l.set i c):=by
 intro x a
 rcases AAg a with a | rfl
 .exact h x a
 omega
def mY(a b:List UInt8)(j:Nat):List UInt8:=a.take j++b.drop j
theorem To{a b:Γ}(h:a.length=b.length)(j):(mY a b j).length=b.length:=by
 grind [mY]
theorem Tp{a b:Γ}(h:a.length=b.length){v:UInt8}(f:a[j]?=some v):(mY a b j).set j v=mY a b (j+1):=by
 obtain ⟨c,d⟩:=C4.1 f
 unfold mY
 have e:(a.take j).length=j:=by rw [I8]; omega
 rw [V3 _ _ U,e,W6,O5 c,d,V2 U,Z7]
 simp
theorem Fz{n:Int}{x:Nat}{v:UInt8}(h:j < ks.length):(⟨n,ks,x⟩:BC).cells.set (1+j) (.int .u8 (v.toNat:Int))=(⟨n,ks.set j v,x⟩:BC).cells:=by
 grind [BC.cells,B8,List.map_set]
theorem FA{rest:Ξ}{t:BT}(h:gF w bt bc c rest t){b:BC}(d:t.cells[i]?=some b)(j v)(e:b.cells[j]?=some v):w.cell? ⟨bc,i*34+j,none⟩=some v:=by
 have a:=(C4.1 e).1
 rw [BC.cells_len (h.ok.cells b zg)] at a
 rw [h.cells.cell,mW h.ok.cells rest i b d j a]
 omega
theorem Mm.acO{t:Υ}{l:Ξ}(h:Mm w0 F cs w)(g:Fr [] w w')(e:At w' b t l)(f:At w' b' t' l')(i:w.heap.size<=b)(j:w.heap.size<=b')(d:b≠b'):Mm w0 F (cs++[aD b t l,aD b' t' l']) w':=by
 refine h.lift ⟨g,?_,?_,?_⟩
 .intro c a
  rcases T0.1 a with rfl | a
  .exact e
  .rw [G2] at a; subst a; exact f
 .simp [aD]; exact d
 grind [aD]
theorem Mm.Qb{cap:Nat}{rest:Ξ}{t:BT}{l:List BC}(h:Mm w0 [] [aD b 169 [ql b' n cap,.int .u64 (seed:Int)],aD b' 178 (bU l++rest)] w)(g:t.cells.length=n)(j:t.seed=seed)(f:l=t.cells)(d:t.Ok)(m:fI (n:Int)=true)(e:n<=cap):Mm w0 [] [mL b b' cap rest t] w:=by
 subst g j f
 refine ⟨h.fr,?_,?_,?_⟩
 .intro c a
  rw [G2] at a
  subst a
  exact ⟨h.at (i:=0) I,h.at (i:=1) I,d,m,e⟩
 .have:=h.nodup
  simpa [mL,aD] using this
 .intro x k
  exact h.own x (by simpa [mL,aD] using k)
theorem Tq(c k f d l g h j t u w)(z:gF w c k f h t)(A:gF w d l g j u)(q:t.cells.length≠u.cells.length):
  Θ 102 #[Z c 0,Z d 0] w λe D=>e = .returned (.tuple #[.pointer none,C 1])/\Fr [] w D:=by
 have m:w.cell? ⟨c,0,none⟩=some (.slice (some ⟨k,0,none⟩) t.cells.length f):=by rw [z.tab.cell]; rfl
 have r:w.cell? ⟨c,1,none⟩=some (.int .u64 t.seed):=by rw [z.tab.cell]; rfl
 have o:w.cell? ⟨d,0,none⟩=some (.slice (some ⟨l,0,none⟩) u.cells.length g):=by rw [A.tab.cell]; rfl
 have s:w.cell? ⟨d,1,none⟩=some (.int .u64 u.seed):=by rw [A.tab.cell]; rfl
 obtain ⟨n,HN⟩:∃ n,Hid (n=t.cells.length):=⟨_,I⟩
 obtain ⟨a,HS⟩:∃ a,Hid (a=t.seed):=⟨_,I⟩
 rw [<- HN.out] at m
 rw [<- HS.out] at r
 obtain ⟨x,HN2⟩:∃ n,Hid (n=u.cells.length):=⟨_,I⟩
 obtain ⟨y,HS2⟩:∃ a,Hid (a=u.seed):=⟨_,I⟩
 rw [<- HN2.out] at o
 rw [<- HS2.out] at s
 have B:n≠x:=by rw [HN.out,HN2.out]; exact q
 clear q
 refine bS Tryz.func102 99 (B3 w) I<|Nc<|G I<|Nf<|aT<|dN [] 22 J η<|am 0 ?_
 refine aC 1 (Z c 0) I<|aC 2 (Z c 0) rfl<|aV 3 _ rfl (rW (λw p=>p.gA (m) si))<|aC 4 (Y n) I<|am 5 ?_
 refine aC 6 (Z d 0) I<|aC 7 (Z d 0) rfl<|aV 8 _ rfl (rW (λw p=>p.gA (o) si)) ?_
 refine aC 9 (Y x) I ?_
 refine aC 10 (.bool ((n:Int) != (x:Int))) I ?_
 refine am 11 ?_
 exact Any.known 22 I (by simp; omega)<|kT (i:=12) (b:=true) rfl rfl rfl rfl J J θ<|kT (i:=13) (b:=true) rfl rfl rfl rfl J J θ<|kT (i:=14) (b:=true) rfl rfl rfl rfl J J θ<|kT (i:=15) (b:=true) rfl rfl rfl rfl J J θ<|kT (i:=16) (b:=true) rfl rfl rfl rfl J J θ<|kT (i:=17) (b:=true) rfl rfl rfl rfl J J θ<|kT (i:=18) (b:=true) rfl rfl rfl rfl J J θ<|kT (i:=19) (b:=true) rfl rfl rfl rfl J J θ<|kT (i:=20) (b:=true) rfl rfl rfl rfl J J θ<|aC 21 bT rfl<|cG J<|aJ<|nR rfl<|Nc<|G rfl<|Nh<|sN [_,(C 1)] λw p=>⟨I,p.fr⟩
theorem Tr(b l g c m h j k t u w)(y:gF w b l g j t)(z:gF w c m h k u)(x:t.cells.length=u.cells.length)(s:t.seed≠u.seed):
  Θ 102 #[Z b 0,Z c 0] w λe B=>e = .returned (.tuple #[.pointer none,C 1])/\Fr [] w B:=by
 have o:w.cell? ⟨b,0,none⟩=some (ql l t.cells.length g):=by rw [y.tab.cell]; rfl
 have p:w.cell? ⟨b,1,none⟩=some (.int .u64 t.seed):=by rw [y.tab.cell]; rfl
 have q:w.cell? ⟨c,0,none⟩=some (ql m u.cells.length h):=by rw [z.tab.cell]; rfl
 have r:w.cell? ⟨c,1,none⟩=some (.int .u64 u.seed):=by rw [z.tab.cell]; rfl
 obtain ⟨n,HN⟩:∃ n,Hid (n=t.cells.length):=⟨_,I⟩
 obtain ⟨a,HS⟩:∃ a,Hid (a=t.seed):=⟨_,I⟩
 rw [<- HN.out] at o
 rw [<- HS.out] at p
 obtain ⟨d,HS2⟩:∃ a,Hid (a=u.seed):=⟨_,I⟩
 rw [<- x,<- HN.out] at q
 rw [<- HS2.out] at r
 have A:a≠d:=by rw [HS.out,HS2.out]; exact s
 clear s
 refine bS Tryz.func102 99 (B3 w) I<|Nc<|G I<|Nf<|aT<|dN [] 22 J η<|am 0 ?_
 refine aC 1 (Z b 0) I<|aC 2 (Z b 0) rfl<|aV 3 _ rfl (rW (λw f=>f.gA (o) si))<|aC 4 (Y n) I<|am 5 ?_
 refine aC 6 (Z c 0) I<|aC 7 (Z c 0) rfl<|aV 8 _ rfl (rW (λw f=>f.gA (q) si)) ?_
 refine aC 9 (Y n) I ?_
 refine aV 10 bF I (gY (v:=.bool (((n:Int)) != ((n:Nat)))) (gZ λ_=>by kernel_rfl) si) ?_
 refine am 11 ?_
 exact gM (i:=12) _ I I I I J J θ (jC I I)<|gM (i:=13) (Z b 0) rfl rfl rfl rfl J J θ (gZ λ_=>by kernel_rfl)<|gM (i:=14) _ rfl rfl rfl rfl J J θ (gZ λ_=>by kernel_rfl)<|gM (i:=15) _ rfl rfl rfl rfl J J θ (gN rfl rfl J (λw f=>f.gA (p) si))<|gM (i:=16) _ rfl rfl rfl rfl J J θ (jC rfl rfl)<|gM (i:=17) (Z c 0) rfl rfl rfl rfl J J θ (gZ λ_=>by kernel_rfl)<|gM (i:=18) _ rfl rfl rfl rfl J J θ (gZ λ_=>by kernel_rfl)<|gM (i:=19) _ rfl rfl rfl rfl J J θ (gN rfl rfl J (λw f=>f.gA (r) si))<|gM (i:=20) (.bool (((a:Nat)) != (d:Int))) rfl rfl rfl rfl J J θ (gZ λ_=>by kernel_rfl)<|aV 21 bT rfl (gY (v:=.bool ((a:Int) != (d:Int))) (gZ λ_=>by kernel_rfl) (by simp; omega))<|cG J<|aJ<|nR rfl<|Nc<|G rfl<|Nh<|sN [qp,(C 1)] λw f=>⟨I,f.fr⟩
theorem Ts(z ab D o s P N aj t u w)(L:gF w z ab D N t)(hu:gF w o s P aj u)(ae:t.cells.length=u.cells.length)(az:t.seed=u.seed):
  Θ 102 #[Z z 0,Z o 0] w λe w'=>∃ f b g a,e = .returned (.tuple #[Z f 0,C 0])/\Mm w [] [mL f b g a (t.sub u)] w':=by
 have ak:w.cell? ⟨z,0,none⟩=some (.slice (some ⟨ab,0,none⟩) t.cells.length D):=by rw [L.tab.cell]; rfl
 have an:w.cell? ⟨z,1,none⟩=some (.int .u64 t.seed):=by rw [L.tab.cell]; rfl
 have ad:w.cell? ⟨o,0,none⟩=some (.slice (some ⟨s,0,none⟩) u.cells.length P):=by rw [hu.tab.cell]; rfl
 have ao:w.cell? ⟨o,1,none⟩=some (.int .u64 u.seed):=by rw [hu.tab.cell]; rfl
 obtain ⟨n,HN⟩:∃ n,Hid (n=t.cells.length):=⟨_,I⟩
 obtain ⟨d,HS⟩:∃ d,Hid (d=t.seed):=⟨_,I⟩
 rw [<- HN.out] at ak
 rw [<- HS.out] at an
 rw [<- ae,<- HN.out] at ad
 rw [<- az,<- HS.out] at ao
 have n4:n<=3072:=by rw [HN.out]; exact (jQ L.size).2.1
 have HT:=D3 L
 have HU:=D3 hu
 have HUL:Hid (u.cells.length=n):=by show _=_; rw [HN.out]; exact ae.symm
 clear L hu ae az
 refine bS Tryz.func102 99 (Mm.start w []) I<|Nc<|G I<|Nf<|aT<|dN [] 22 J η<|am 0 ?_
 refine aC 1 (Z z 0) I<|aC 2 (Z z 0) rfl<|aV 3 _ rfl (rW (λw h=>h.gA (ak) si))<|aC 4 (Y n) I<|am 5 ?_
 refine aC 6 (Z o 0) I<|aC 7 (Z o 0) rfl<|aV 8 _ rfl (rW (λw h=>h.gA (ad) si)) ?_
 refine aC 9 (Y n) I ?_
 refine aV 10 bF I (gY (v:=.bool (((n:Int)) != ((n:Nat)))) (gZ λ_=>by kernel_rfl) si) ?_
 refine am 11 ?_
 refine gM (i:=12) (Z z 0) I I I I J J θ (jC I I)<|gM (i:=13) (Z z 0) rfl rfl rfl rfl J J θ (gZ λ_=>by kernel_rfl)<|gM (i:=14) (Z z 1) rfl rfl rfl rfl J J θ (gZ λ_=>by kernel_rfl)<|gM (i:=15) (vU d) rfl rfl rfl rfl J J θ (gN rfl rfl J (λw h=>h.gA (an) si))<|gM (i:=16) (Z o 0) rfl rfl rfl rfl J J θ (jC rfl rfl)<|gM (i:=17) (Z o 0) rfl rfl rfl rfl J J θ (gZ λ_=>by kernel_rfl)<|gM (i:=18) (Z o 1) rfl rfl rfl rfl J J θ (gZ λ_=>by kernel_rfl)<|gM (i:=19) (vU d) rfl rfl rfl rfl J J θ (gN rfl rfl J (λw h=>h.gA (ao) si))<|gM (i:=20) bF rfl rfl rfl rfl J J θ (gY (v:=.bool (((d:Int)) != ((d:Nat)))) (gZ λ_=>by kernel_rfl) si)<|aC 21 bF rfl<|cG J<|aJ<|oO rfl<|Ni<|G rfl<|R<|eR 150 _ rfl J (λ_=>J) (λw h=>(JY z ab D N t w (HT.out.fr h.fr si si)).mono ?_)
 rintro e w' ⟨f,b,g,a,rfl,aw,ax,hf,L⟩
 have ap:=h.acO hf (by show At _ _ _ _; rw [HN.out,HS.out]; exact L.tab:At w' f 169 [.slice _ n g,.int .u64 d]) (by rw [KI]; exact L.cells:At w' b 178 (bU (jR t u t.cells 0)++a)) aw ax L.ne
 have Q:=L.cap
 rw [<- HN.out] at Q
 refine ⟨_,_,I,ap,?_⟩
 clear h ap hf L aw ax
 refine G I<|Ne<|G rfl<|M (Z f 0)<|M (Z f 0)<|lL 0 rfl<|M (Y n)<|G rfl<|Ng<|sL (λi=>i<=n) (λi=>n - i) (λi=>[(1,(Z o 0)),(6,(Z f 0)),(39,(Y n)),(40,(Y i))]) (λi=>[aD f 169 [(.slice (some ⟨b,0,none⟩) (n) (g)),(vU d)],aD b 178 (bU (jR t u t.cells i)++a)]) 0 (G6 _) η ?_
 intro i (hi:i<=n)
 show St _ _ _ [(1,(Z o 0)),(6,(Z f 0)),(39,(Y n)),(40,(Y i))] [aD f 169 [(.slice (some ⟨b,0,none⟩) (n) (g)),(vU d)],aD b 178 (bU (jR t u t.cells i)++a)] _
 refine Nc<|M (.bool (decide ((i:Int) < (n:Int)))) ?_
 refine χ I (λar=>?_) λar=>?_
 .have O:i < n:=U
  obtain ⟨q,hc⟩:=gk t.cells i (by rw [<- HN.out]; exact O)
  obtain ⟨c,hd⟩:=gk u.cells i (by rw [HUL.out]; exact O)
  have p:=HT.out.ok.cells q (F0 hc)
  have k:=HU.out.ok.cells c (F0 hd)
  obtain ⟨A,HCL⟩:∃ A,Hid (A=jR t u t.cells i):=⟨_,I⟩
  have E:A.length=n:=by rw [HCL.out,KK (by rw [HUL.out,HN.out]) I i (by rw [<- HN.out]; omega),HN.out]
  have F:jH A:=by rw [HCL.out]; exact KM HT.out.ok HU.out.ok HT.out.ok.cells i
  have aq:A[i]?=some q:=by rw [HCL.out,Tn (by rw [HUL.out,HN.out]) i (by rw [<- HN.out]; exact O)]; exact hc
  have HSU:Hid (jR t u t.cells (i+1)=A.set i (q.sub c)):=by show _=_; rw [HCL.out,KL (by rw [HUL.out,HN.out]) I (by rw [<- HN.out]; exact O) (KH hc hd)]
  have af:(bU A++a).length=n*34+a.length:=by rw [C3,nI F,E]
  rw [<- HCL.out]
  refine Nm<|aF<|G I<|Nf<|dN _ 14 J η<|am 0 ?_
  refine aC 1 (Z f 0) I<|aC 2 (Z f 0) I<|al 3 0 ?_
  refine am 4 ?_
  refine aV 5 _ I (mI (e:=178) (sz:=34) I J J I I U) ?_
  refine am 6 ?_
  refine aC 7 (Z o 0) I<|aC 8 (Z o 0) rfl<|aV 9 _ rfl (rW (λw h=>h.gA (ad) si))<|am 10 ?_
  refine aV 11 _ I (mI (e:=178) (sz:=34) I J J I I U) ?_
  refine aa 12 ?_
  refine aa 13 ?_
  refine cG J<|aJ<|aT<|dN _ 11 J η<|am 0 ?_
  refine aC 1 (.pointer (some ⟨b,0+i*34,none⟩)) I<|aC 2 (.pointer (some ⟨b,0+i*34,none⟩)) I<|aV 3 _ I (bW 1 I I J I (by rw [K7]; exact (mW F _ i q aq 0 U).trans (lS q)))<|am 4 ?_
  refine aC 5 (.pointer (some ⟨s,0+i*34,none⟩)) I<|aC 6 (.pointer (some ⟨s,0+i*34,none⟩)) rfl<|aV 7 (.int .i64 c.count) rfl (gN rfl rfl J (λw h=>h.gA (by rw [K7]; exact FA HU.out hd 0 _ (lS c)) si))<|aV 8 (C (IntKind.i64.wrap (q.count + -c.count))) rfl (gY (v:=.int .i64 (IntKind.i64.wrap (q.count - c.count))) (gZ λ_=>by kernel_rfl) (by rw [Int.sub_eq_add_neg]))<|aC 9 (.pointer (some ⟨b,0+i*34,none⟩)) I<|aC 10 (.pointer (some ⟨b,0+i*34,none⟩)) I<|dW (i:=11) J I I<|qs 1 I (by rw [af]; omega) ?_
  refine lH J I<|aJ<|aT ?_
  obtain ⟨r,HC1⟩:∃ r:BC,Hid (r=(⟨IntKind.i64.wrap (q.count + -c.count),q.keys,q.checks⟩)):=⟨_,I⟩
  have B:r.Ok:=by rw [HC1.out]; exact ⟨(yL p k.keys _ k.checks 0).count,p.keys,p.checks⟩
  have H:jH (A.set i r):=F.set i B
  have S:(A.set i r)[i]?=some r:=X7 U
  have ah:(bU (A.set i r)++a).length=n*34+a.length:=by rw [C3,nI H,a6,E]
  refine St.mem (cs':=[aD f 169 [(.slice (some ⟨b,0,none⟩) (n) (g)),(vU d)],aD b 178 (bU (A.set i r)++a)]) (λw h=>by rw [<- tY F a i q aq 0 U _ r (by rw [HC1.out]; exact Cs q _)]; rw [K7] at h; exact h) ?_
  refine dN _ 11 J η ?_
  refine am 0 ?_
  refine aC 1 (.pointer (some ⟨b,0+i*34,none⟩)) I<|aC 2 (.pointer (some ⟨b,0+i*34+33,none⟩)) I ?_
  refine aV 3 (vU q.checks) I (bW 1 I I J I (by rw [K7]; exact (mW H a i r S 33 U).trans (by rw [qH B.keys,HC1.out]))) ?_
  refine am 4 ?_
  refine aC 5 (.pointer (some ⟨s,0+i*34,none⟩)) I<|aC 6 (.pointer (some ⟨s,0+i*34+33,none⟩)) rfl<|aV 7 (vU c.checks) rfl (gN rfl rfl J (λw h=>h.gA (by rw [K7]; exact FA HU.out hd 33 _ (qH k.keys)) si))<|aV 8 (vU (q.checks ^^^ c.checks)) I (uU .xor si _ I I I (AH4 _ _ p.checks k.checks))<|aC 9 (.pointer (some ⟨b,0+i*34,none⟩)) I<|aC 10 (.pointer (some ⟨b,0+i*34+33,none⟩)) I<|dW (i:=11) J I I<|qs 1 I (by rw [ah]; omega) ?_
  refine lH J I<|aJ<|aT ?_
  have a0:(A.set i r).set i (q.part c.keys (-c.count) c.checks 0)=A.set i (q.part c.keys (-c.count) c.checks 0):=by rw [ABg]
  refine St.mem (cs':=[aD f 169 [(.slice (some ⟨b,0,none⟩) (n) (g)),(vU d)],aD b 178 (bU (A.set i (q.part c.keys (-c.count) c.checks 0))++a)]) (λw h=>by rw [<- a0,<- tY H a i r S 33 U (vU (q.checks ^^^ c.checks)) (q.part c.keys (-c.count) c.checks 0) (by rw [EV,<- yN B.keys,HC1.out])]; rw [K7] at h; exact h)<|aF<|G rfl<|Ng<|sL (λj=>j<=32) (λj=>32 - j) (λj=>[(1,(Z o 0)),(6,(Z f 0)),(8,(.pointer (some ⟨b,0+i*34,none⟩))),(9,(.pointer (some ⟨s,0+i*34,none⟩))),(39,(Y n)),(40,(Y i)),(77,(Y j))]) (λj=>[aD f 169 [(.slice (some ⟨b,0,none⟩) (n) (g)),(vU d)],aD b 178 (bU (A.set i (q.part c.keys (-c.count) c.checks j))++a)]) 0 (G6 _) η ?_
  intro j (hj:j<=32)
  show St _ _ _ [(1,(Z o 0)),(6,(Z f 0)),(8,(.pointer (some ⟨b,0+i*34,none⟩))),(9,(.pointer (some ⟨s,0+i*34,none⟩))),(39,(Y n)),(40,(Y i)),(77,(Y j))] [aD f 169 [(.slice (some ⟨b,0,none⟩) (n) (g)),(vU d)],aD b 178 (bU (A.set i (q.part c.keys (-c.count) c.checks j))++a)] _
  refine Nc<|M (.bool (decide ((j:Int) < 32))) ?_
  refine χ I (λau=>?_) λau=>?_
  .have ay:j < 32:=U
   obtain ⟨x,hx⟩:=gk q.keys j (by rw [p.keys]; exact ay)
   obtain ⟨y,hy⟩:=gk c.keys j (by rw [k.keys]; exact ay)
   have W:=yL p k.keys (-c.count) k.checks j
   obtain ⟨X,HPC⟩:∃ X,Hid (X=(q.part c.keys (-c.count) c.checks j)):=⟨_,I⟩
   rw [<- HPC.out] at W ⊢
   have K:jH _:=F.set i W
   have T:(A.set i X)[i]?=some X:=X7 U
   have ai:(bU (A.set i X)++a).length=n*34+a.length:=by rw [C3,nI K,a6,E]
   refine Nm<|aF<|G I<|Na<|dN _ 16 J η<|am 0 ?_
   refine am 1 ?_
   refine aC 2 (.pointer (some ⟨b,0+i*34,none⟩)) I<|aC 3 (.pointer (some ⟨b,0+i*34+1,none⟩)) I<|aV 4 (.pointer (some ⟨b,0+i*34+1+j,none⟩)) I (nU (e:=5) (m:=32) I J J I I U)<|aV 5 (.int .u8 (x.toNat:Int)) I (bW 1 I I J I (by rw [K7,Z4]; exact (mW K a i X T (1+j) U).trans (by rw [HPC.out]; exact yM j x (EW c.keys (-c.count) c.checks j x hx k.keys p.keys))))<|am 6 ?_
   refine am 7 ?_
   refine aC 8 (.pointer (some ⟨s,0+i*34,none⟩)) I<|aC 9 (.pointer (some ⟨s,0+i*34+1,none⟩)) rfl<|aV 10 (.pointer (some ⟨s,0+i*34+1+j,none⟩)) rfl (nU (e:=5) (m:=32) rfl J J rfl rfl U)<|aV 11 (.int .u8 (y.toNat:Int)) rfl (gN rfl rfl J (λw h=>h.gA (by rw [K7,Z4]; exact FA HU.out hd (1+j) _ (yM j y hy)) si))<|aV 12 (.int .u8 (((x ^^^ y).toNat:Nat):Int)) I (uU .xor si _ I I I (Ct x y))<|aC 13 (.pointer (some ⟨b,0+i*34,none⟩)) I<|aC 14 (.pointer (some ⟨b,0+i*34+1,none⟩)) I<|aV 15 (.pointer (some ⟨b,0+i*34+1+j,none⟩)) I (nU (e:=5) (m:=32) I J J I I U)<|dW (i:=16) J I I<|qs 1 I (by rw [ai]; omega) ?_
   refine lH J I<|jF<|aJ ?_
   have a2:(A.set i X).set i (q.part c.keys (-c.count) c.checks (j+1))=A.set i (q.part c.keys (-c.count) c.checks (j+1)):=by rw [ABg]
   exact St.mem (cs':=[aD f 169 [(.slice (some ⟨b,0,none⟩) (n) (g)),(vU d)],aD b 178 (bU (A.set i (q.part c.keys (-c.count) c.checks (j+1)))++a)]) (λw h=>by rw [<- a2,<- tY K a i X T (1+j) U (.int .u8 (((x ^^^ y).toNat:Nat):Int)) (q.part c.keys (-c.count) c.checks (j+1)) (by rw [HPC.out,EX c.keys (-c.count) c.checks j x y hx hy p.keys k.keys])]; rw [K7,Z4] at h; exact h)<|aF<|lw (Y (j+1)) bN<|G I<|aO (aJ (sA (j+1) oz oz η))
  .obtain rfl:j=32:=U
   exact St.mem (cs':=[aD f 169 [(.slice (some ⟨b,0,none⟩) (n) (g)),(vU d)],aD b 178 (bU (jR t u t.cells (i+1))++a)]) (λw h=>by rw [HSU.out]; rw [Al q c.keys (-c.count) c.checks p.keys k.keys] at h; exact h)<|Nr<|kL<|jF<|aJ<|aF<|lw (Y (i+1)) bN<|G I<|aO (aJ (sA (i+1) oz oz η))
 .obtain rfl:i=n:=U
  exact Nj<|aF<|G rfl<|Nd<|sN [(Z f 0),(C 0)] λw h=>⟨f,b,g,a,I,h.Qb (by rw [mM (by rw [HUL.out,HN.out]),HN.out]) (by exact HS.out.symm) (by have e:=KJ (t:=t) (u:=u) (l:=t.cells) (by rw [HUL.out,HN.out]) I; rw [<- HN.out] at e; exact e) (vD HT.out.ok HU.out.ok) (by rw [HN.out]; exact HT.out.size) Q⟩
section
def oA(br:Nat)(X:Option Addr × Nat)(r:Rd):Ch where
 fp:=br::eT X.1
 holds w:=cF X w br r
 ok w w' hb h:=by
  obtain ⟨A,c,rfl,h1,h2⟩:=h
  exact ⟨A,c,rfl,(hb br (by simp)).trans h1,(bD 5 1 A r.D.length c (B8 r.D)).ok w w' (λb hb'=>hb b (by simp [bD] at hb'; simp [hb'])) h2⟩
 lt w h b hb:=by
  obtain ⟨A,c,rfl,h1,h2⟩:=h
  rcases List.mem_cons.1 hb with rfl | hb
  .exact h1.lt
  .exact (wI h2).2 b hb
theorem KN{r:Rd}(h:cF X w br r):(oA br X r).fp.Nodup:=by
 obtain ⟨A,c,rfl,b,d⟩:=h
 have e:=mX d b (by decide)
 cases A with
 | none=>simp [oA,eT]
 | some a =>
   grind [wI,eT,oA]
section
variable {w0 w w':World}{F:List Nat}{cs:List Ch}{X:Option Addr × Nat}{r r':Rd}{br:Nat}
theorem Mm.wB(h:Mm w0 F cs w)(i)(hi:cs[i]?=some (oA br X r))(d:Fr [br] w w')(a:cF X w' br r'):Mm w0 F (cs.set i (oA br X r')) w' :=
 h.swap i hi (c':=oA br X r') (d.mono λx e=>.inl (by grind [oA])) a (λb c=>.inl c) (KN a)
theorem Mm.IA{d:Nat}(h:Mm w0 F cs w)(j:Fr [] w w')(e:cF (A2,d) w' br r)(i:w.heap.size<=br)(k:w'.ownsRow w.heap.size 5 1 (.slice A2 r.D.length d) r.D.length (B8 r.D)):Mm w0 F (cs++[oA br (A2,d) r]) w':=by
 refine h.push j e (λb c=>?_) (KN e)
 rcases T0.1 c with rfl | c
 .exact i
 .rcases k.2 with ⟨a,_⟩ | ⟨g,cap,f,a,l,_⟩
  .simp only [R6] at a
   obtain ⟨rfl,_⟩:=a
   simp [eT] at c
  .simp only [R6] at a
   obtain ⟨rfl,_⟩:=a
   simp [eT] at c
   omega
end
theorem KO(n:Nat)(h:n<=4294967296):IntKind.i64.wrap (n:Int)=(n:Int):=by
 exact qV U U
theorem Tt(n:Nat)(f:n<=3072)(w):(Instr.makeSlice 167 (.int .u64 (n:Int)) (.int .u64 (n:Int))).run Tryz.prog w = .ok (.slice (some ⟨w.heap.size,0,none⟩) n n) (w.alloc (.cells (bU (List.replicate n BC.zero)).toArray 178)):=by
 have a:(Tryz.prog.info? 178).map (λi=>(i.zero,i.size,i.bytes))=some (some M7,34,48):=by kernel_rfl
 obtain ⟨i,d,e,c,b⟩:=AA6 a
 have:=run_make w 167 178 i _ AE5 d e .u64 .u64 n n U U (by rw [b]; omega) U
 rw [c,k6] at this
 rw [this,<- Fg]
 rfl
theorem KP(n:Nat)(e:n<=3072)(f:o.op = .makeSlice 167 x y)(a:o.dst=some d)(c:dH nt E o=true)(i:bA E x=some (.int .u64 (n:Int)))(j:bA E y=some (.int .u64 (n:Int)))(h:∀ b,St nt w0 F ((d,ql b n n)::E) (cs++[aD b 178 (bU (List.replicate n BC.zero))]) K):eK Tryz.prog Q nt w0 F E cs o K :=
 Jh (v:=λb=>ql b n n) _ _ a c (λw=>by
  have g:=Tt n e w
  unfold execOp
  simp only [f,cU i,cU j,P5,g]
  rfl) h
theorem Tu{t:Υ}{l:Ξ}(i l')(q:o.op = .call { callee:=.builtin .copy,args:=#[x,y],argTypes:=#[dT,sT] })(m:o.dst=some d)(u:P.underlying dT=some (.slice elem))(s:(P.info? elem).map (·.size)=some 1)(n:dH nt E o=true)(z:bA E x=some (.slice (some ⟨g,off,none⟩) dLen dCap))(A:bA E y=some (vS bs))(hi:cs[i]?=some (aD g t l))(p:bs.length<=dLen)(b:off+bs.length<=l.length)(f:l.take off++B8 bs++l.drop (off+bs.length)=l')(h:St nt w0 F ((d,.int .i64 (bs.length:Int))::E) (cs.set i (aD g t l')) K):eK P Q nt w0 F E cs o K :=
 pH m n λw j=>by
  subst f
  have a:At w g t l:=j.at hi
  have e:(bL bs).size=bs.length:=by simp [bL,ByteArray.size]
  have r:=Lib.run_copy_row_string w dT sT o.type elem g off dLen dCap (bL bs) _ t u s a (by omega) (by rw [e]; simpa using b)
  refine ⟨_,w.setRow g (l.take off++B8 bs++l.drop (off+bs.length)).toArray,_,?_,j.swap i hi (c':=aD g t (l.take off++B8 bs++l.drop _)) (Fr.setRow _ _ _) ?_ (λc k=>.inl k) (by simp [aD]),h⟩
  .unfold execOp
   simp only [q,resolve,invoke,builtin,P5,T9,J3,Z1,X4,Y8,cU z,cU A,r,e]
   rfl
  .have:=a.setRow (l.take off++B8 bs++l.drop (off+bs.length))
   exact this
theorem Tv{x:Γ}:x++(List.replicate 32 (0:UInt8)).drop x.length=mK x:=by
 grind [mK]
theorem Tw{l:List BC}(b:jH l){c:BC}(f:l[i]?=some c){x:Γ}(p:x.length<=32):
  (bU l).take (i*34+1)++B8 x++(bU l).drop (i*34+1+x.length)=bU (l.set i ⟨c.count,x++c.keys.drop x.length,c.checks⟩):=by
 obtain ⟨e,m⟩:=C4.1 f
 have d:(bU (l.take i)).length=i*34:=by rw [nI (λa k=>b a (l9 k)),I8,Y0 U]
 have n:l=l.take i++c::l.drop (i+1):=by rw [<- m,List.getElem_cons_drop,S6]
 have o:=(b c (F0 f)).keys
 have g:bU l=bU (l.take i)++(c.cells++bU (l.drop (i+1))):=by
  conv=>lhs; rw [n]
  simp [bU]
 have h:l.set i ⟨c.count,x++c.keys.drop x.length,c.checks⟩=l.take i++⟨c.count,x++c.keys.drop x.length,c.checks⟩::l.drop (i+1):=by
  rw [AAe,P1 e]
 have j:bU (l.set i ⟨c.count,x++c.keys.drop x.length,c.checks⟩)=bU (l.take i)++((⟨c.count,x++c.keys.drop x.length,c.checks⟩:BC).cells++bU (l.drop (i+1))):=by
  rw [h]
  simp [bU]
 rw [g,j,<- d,List.take_length_add_append,Z4,List.drop_length_add_append]
 simp only [D1,BC.cells,Z2,List.take_succ_cons,X5,U6,nO]
 rw [AEg 1,AEb,p8 (by rw [eX]; omega)]
 simp [B8,List.map_drop]
abbrev K6(a:Nat):Value:=.bool (decide (((a:Nat):Int) > 3072))
theorem Tx(A c)(D:Γ)(w)(m:D.length<=4294967296)(f:aI w A (B8 D))(p:3072 < nJ D):
  Θ 98 #[.slice A D.length c] w λe g=>e = .returned (.tuple #[.pointer none,C 3])/\Fr [] w g:=by
 have HR:=D3 f
 clear f
 obtain ⟨n,HN⟩:∃ n,Hid (n=nJ D):=⟨_,I⟩
 have s:3072 < n:=by rw [HN.out]; exact p
 clear p
 refine eO Tryz.func98 69 (B3 w) rfl<|Nc<|G rfl<|Nb<|G rfl<|R<|eR 88 _ rfl J (λ_=>J) (λw d=>(Cy A c D w m (HR.out.eW d.fr)).mono ?_)
 rintro e g ⟨l,A2,r,rfl,o,j,k,q⟩
 have a:=d.IA j k o q
 refine ⟨_,_,I,a,?_⟩
 clear d a j k o q
 refine G I<|Nb<|G rfl<|R<|eR 89 (M8 l) rfl J (λ_=>J) (λw d=>(by have h:=vA l (jX D) w (d.at (i:=0) I) (yQ m); rw [show (jX D).uint.1=n from HN.out.symm] at h; exact h:Calls _ _ _ w λe g=>e = .returned (vU n)/\Fr [l] w g/\cF (A2,r) g l ((jX D).uint.2)).mono ?_)
 rintro e g ⟨rfl,j,k⟩
 have a:=d.wB 0 I j k
 refine ⟨_,_,I,a,?_⟩
 clear d a j k
 refine G I<|Ne<|G I<|M (K6 n)<|lm ?_
 exact St.known 17 I (by simp; omega)<|iK (b:=true) rfl rfl J rfl<|iK (b:=true) rfl rfl J rfl<|iK (b:=true) rfl rfl J rfl<|iK (b:=true) rfl rfl J rfl<|lT<|No<|G rfl<|Nh<|sN [qp,_] λw d=>⟨I,d.fr⟩
theorem Ty(A c)(D:Γ)(w)(m:D.length<=4294967296)(f:aI w A (B8 D))(p:nJ D<=3072)(k:fI (nJ D:Int)=false):
  Θ 98 #[.slice A D.length c] w λe d=>e = .returned (.tuple #[.pointer none,C 3])/\Fr [] w d:=by
 have HR:=D3 f
 clear f
 obtain ⟨n,HN⟩:∃ n,Hid (n=nJ D):=⟨_,I⟩
 have s:n<=3072:=by rw [HN.out]; exact p
 have t:fI n=false:=by rw [HN.out]; exact k
 clear p k
 refine eO Tryz.func98 69 (B3 w) rfl<|Nc<|G rfl<|Nb<|G rfl<|R<|eR 88 _ rfl J (λ_=>J) (λw a=>(Cy A c D w m (HR.out.eW a.fr)).mono ?_)
 rintro e d ⟨l,A2,r,rfl,o,g,j,q⟩
 have b:=a.IA g j o q
 refine ⟨_,_,I,b,?_⟩
 clear a b g j o q
 refine G I<|Nb<|G rfl<|R<|eR 89 (M8 l) rfl J (λ_=>J) (λw a=>(by have h:=vA l (jX D) w (a.at (i:=0) I) (yQ m); rw [show (jX D).uint.1=n from HN.out.symm] at h; exact h:Calls _ _ _ w λe d=>e = .returned (vU n)/\Fr [l] w d/\cF (A2,r) d l ((jX D).uint.2)).mono ?_)
 rintro e d ⟨rfl,g,j⟩
 have b:=a.wB 0 I g j
 refine ⟨_,_,I,b,?_⟩
 clear a b g j
 refine G I<|Ne<|G I<|M (K6 n)<|lm ?_
 refine St.known 17 I (by simp; omega)<|dP rfl rfl<|fH (vU n) rfl J (jC rfl rfl)<|dP rfl rfl<|fH (Y n) rfl J (iQ _ (λ_=>J) I I (KO n U))<|dP rfl rfl<|eR 108 _ rfl J (λ_=>J) (λw a=>((by rw [<- t]; exact Fb n w:Calls _ _ _ w λe d=>e = .returned (.bool false)/\w=d)).mono ?_)
 rintro e d ⟨rfl,rfl⟩
 refine ⟨bF,_,I,a,?_⟩
 clear a
 exact dP I I<|fH bT rfl J (gZ λ_=>by kernel_rfl)<|lT<|No<|G rfl<|Nh<|sN [qp,_] λw a=>⟨I,a.fr⟩
theorem KQ(A c)(D:Γ)(w)(Q:D.length<=4294967296)(K:aI w A (B8 D))(t:fI (nJ D:Int)=true):
  Θ 98 #[.slice A D.length c] w λe l=>if (sU D).end_=0 then ∃ bt k cap rest,e = .returned (.tuple #[Z bt 0,C 0])/\Mm w [] [mL bt k cap rest (vC D)] l else e = .returned (.tuple #[.pointer none,C 3])/\Fr [] w l:=by
 have HR:=D3 K
 clear K
 obtain ⟨n,HN⟩:∃ n,Hid (n=nJ D):=⟨_,I⟩
 have hz:fI (n:Int)=true:=by rw [HN.out]; exact t
 have af:n<=3072:=(jQ hz).2.1
 clear t
 obtain ⟨a,HS⟩:∃ s,Hid (s=(jX D).uint.2.uint.1):=⟨_,I⟩
 obtain ⟨m,HR2⟩:∃ r,Hid (r=(jX D).uint.2.uint.2):=⟨_,I⟩
 have HOK:Hid m.Ok:=by show m.Ok; rw [HR2.out]; exact (yQ Q).uint'.uint'
 refine eO Tryz.func98 69 (Mm.start w []) rfl<|Nc<|G rfl<|Nb<|G rfl<|R<|eR 88 #[(.slice A (D.length) (c))] rfl J (λ_=>J) (λw d=>(Cy A c D w Q (HR.out.eW d.fr)).mono ?_)
 rintro e l ⟨g,A2,u,rfl,hb,o,p,ho⟩
 have b:=d.IA o p hb ho
 refine ⟨_,_,I,b,?_⟩
 clear d b o p hb ho
 refine G I<|Nb<|G rfl<|R<|eR 89 #[(Z g 0)] rfl J (λ_=>J) (λw d=>(by have h:=vA g (jX D) w (d.at (i:=0) I) (yQ Q); rw [show (jX D).uint.1=n from HN.out.symm] at h; exact h:Calls _ _ _ w λe l=>e = .returned (vU n)/\Fr [g] w l/\cF (A2,u) l g ((jX D).uint.2)).mono ?_)
 rintro e l ⟨rfl,o,p⟩
 have b:=d.wB 0 I o p
 refine ⟨_,_,I,b,?_⟩
 clear d b o p
 refine G I<|Ne<|G I<|M (.bool (decide ((n:Int) > 3072)))<|lm ?_
 refine St.known 17 (b':=false) I (by grind)<|dP rfl rfl<|fH (vU n) rfl J (jC rfl rfl)<|dP rfl rfl<|fH (Y n) rfl J (iQ _ (λ_=>J) I I (KO n U))<|dP rfl rfl<|eR 108 #[(Y n)] rfl J (λ_=>J) (λw d=>((by grind [Fb]:Calls _ _ _ w λe l=>e = .returned (.bool true)/\w=l)).mono ?_)
 rintro e l ⟨rfl,rfl⟩
 refine ⟨bT,_,I,d,?_⟩
 clear d
 refine dP I I<|fH bF rfl J (gZ λ_=>by kernel_rfl)<|lF<|Nu ?_
 refine gL (aJ (qU (ι:=Nat × Nat) (λ_=>True) (λ(k,f)=>[(0,(.slice A (D.length) (c))),(2,(.pointer none)),(3,(C 0)),(11,(.slice A (D.length) (c))),(12,(Z g 0)),(4,(Z g 0)),(13,(Z g 0)),(14,(vU n)),(5,(vU n)),(15,(vU n)),(16,(.bool (decide ((n:Int) > 3072)))),(17,bF),(18,(vU n)),(19,(Y n)),(20,bT),(21,bF),(22,bF),(23,(vU n)),(25,(Z g 0)),(24,(.slice (some ⟨k,0,none⟩) (n) (n))),(26,(vU a)),(27,(.agg #[(.slice (some ⟨k,0,none⟩) (n) (n)),(vU a)])),(28,(Z f 0)),(6,(Z f 0))]) (λ(k,f)=>[oA g (A2,u) (m),aD k 178 (bU (List.replicate n BC.zero)),aD f 169 [(.slice (some ⟨k,0,none⟩) (n) (n)),(vU a)]]) ?_ ?_))
 .refine dN [] 7 J (λ_ h=>h.sub (.cons _ .slnil))<|am 0 ?_
  refine am 2 ?_
  refine kU (i:=1) (j:=3) J I I I I ?_ ?_
  .refine KP n U I I J I I (λk=>aQ _ (λ_ h=>h.sub (.cons _ .slnil)) (λ_ h=>h.sub (.cons _ (.cons_cons _ .slnil)))<|dW (i:=3) J rfl rfl<|eR 89 #[(Z g 0)] rfl J (λ_=>J) (λw d=>(by have h:=vA g ((jX D).uint.2) w (d.at (i:=0) I) ((yQ Q).uint'); rw [show (jX D).uint.2.uint.1=a from HS.out.symm,show (jX D).uint.2.uint.2=m from HR2.out.symm] at h; omega:Calls _ _ _ w λe l=>e = .returned (vU a)/\Fr [g] w l/\cF (A2,u) l g (m)).mono ?_))
   rintro e l ⟨rfl,o,p⟩
   have b:=d.wB 0 I o p
   refine ⟨_,_,I,b,?_⟩
   clear d b o p
   refine aQ _ η (λ_ h=>h.sub (.cons _ (.cons_cons _ .slnil)))<|aC 4 (.agg #[(.slice (some ⟨k,0,none⟩) (n) (n)),(vU a)]) rfl<|dW (i:=5) J rfl rfl<|pB [(.slice (some ⟨k,0,none⟩) (n) (n)),(vU a)] λf=>aQ _ (λ_ h=>h.sub (.cons_cons _ (.cons _ .slnil))) (λ_ h=>h.sub (.cons _ (.cons_cons _ (.cons_cons _ .slnil))))<|aa 6 ?_
   exact cG J<|aJ (sM (k,f) trivial η)
  .refine eR 89 #[(Z g 0)] I J (λ_=>J) (λw d=>(by have h:=vA g ((jX D).uint.2) w (d.at (i:=0) I) ((yQ Q).uint'); rw [show (jX D).uint.2.uint.1=a from HS.out.symm,show (jX D).uint.2.uint.2=m from HR2.out.symm] at h; exact h:Calls _ _ _ w λe l=>e = .returned (vU a)/\Fr [g] w l/\cF (A2,u) l g (m)).mono ?_)
   rintro e l ⟨rfl,o,p⟩
   have b:=d.wB 0 I o p
   refine ⟨_,_,I,b,?_⟩
   clear d b o p
   refine aQ _ η (λ_ h=>h.sub (.cons _ .slnil))<|dW (i:=1) J rfl rfl<|KP n U rfl rfl J rfl rfl (λk=>aQ _ (λ_ h=>h.sub (.cons _ .slnil)) (λ_ h=>h.sub (.cons _ (.cons_cons _ .slnil)))<|aC 4 (.agg #[(.slice (some ⟨k,0,none⟩) (n) (n)),(vU a)]) rfl<|dW (i:=5) J rfl rfl<|pB [(.slice (some ⟨k,0,none⟩) (n) (n)),(vU a)] λf=>aQ _ (λ_ h=>h.sub (.cons_cons _ (.cons _ .slnil))) (λ_ h=>h.sub (.cons _ (.cons_cons _ (.cons_cons _ .slnil))))<|aa 6 ?_)
   exact cG J<|aJ (sM (k,f) trivial η)
 .rintro ⟨k,f⟩ -
  dsimp only
  refine aT<|aT<|St.mem (cs':=[oA g (A2,u) (m),aD k 178 (bU (lX m n 0)),aD f 169 [(.slice (some ⟨k,0,none⟩) (n) (n)),(vU a)]]) (λw d=>by rw [SQ]; exact d)<|aF<|G rfl<|M (Z f 0)<|M (Z f 0)<|lL 2 rfl<|M (Y n)<|G rfl<|Ng<|sL (λi=>i<=n) (λi=>n - i) (λi=>[(4,(Z g 0)),(6,(Z f 0)),(33,(Y n)),(34,(Y i))]) (λi=>[oA g (A2,u) (lJ m i),aD k 178 (bU (lX m n i)),aD f 169 [(.slice (some ⟨k,0,none⟩) (n) (n)),(vU a)]]) 0 (G6 _) η ?_
  intro i (hi:i<=n)
  show St _ _ _ [(4,(Z g 0)),(6,(Z f 0)),(33,(Y n)),(34,(Y i))] [oA g (A2,u) (lJ m i),aD k 178 (bU (lX m n i)),aD f 169 [(.slice (some ⟨k,0,none⟩) (n) (n)),(vU a)]] _
  refine Nc<|M (.bool (decide ((i:Int) < (n:Int)))) ?_
  refine χ I (λX=>?_) λX=>?_
  .have ad:i < n:=U
   obtain ⟨r,HRI⟩:∃ r,Hid (r=lJ m i):=⟨_,I⟩
   have B:r.Ok:=by rw [HRI.out]; exact Ft HOK.out i
   obtain ⟨q,HCL⟩:∃ q,Hid (q=lX m n i):=⟨_,I⟩
   have z:q.length=n:=by rw [HCL.out,SO hi]
   have E:jH q:=by rw [HCL.out]; exact SP _ _ _
   have ae:q[i]?=some BC.zero:=by rw [HCL.out]; exact SU ad
   have HSU:Hid (lX m n (i+1)=q.set i r.cell.1):=by show _=_; rw [HCL.out,HRI.out,SV ad]
   have HRS:Hid (lJ m (i+1)=r.cell.2):=by show _=_; rw [HRI.out]; rfl
   have ab:(bU q).length=n*34:=by rw [nI E,z]
   rw [<- HCL.out,<- HRI.out]
   refine Nm<|aF<|G rfl<|Nb<|G rfl<|M (Z f 0)<|M (Z f 0)<|lL 2 rfl<|G rfl<|lw (.pointer (some ⟨k,0+i*34,none⟩)) (mI (e:=178) (sz:=34) rfl J J rfl rfl U)<|G rfl<|Nb<|G rfl<|R<|eR 146 #[(Z g 0)] rfl J (λ_=>J) (λw d=>(by have h:=SA g (r) w (d.at (i:=0) I) (B); skip; exact h:Calls _ _ _ w λe l=>e = .returned (.int .i64 r.int.1)/\Fr [g] w l/\cF (A2,u) l g (r.int.2)).mono ?_)
   rintro e l ⟨rfl,o,p⟩
   have b:=d.wB 0 I o p
   refine ⟨_,_,I,b,?_⟩
   clear d b o p
   refine M (.pointer (some ⟨k,0+i*34,none⟩))<|M (.pointer (some ⟨k,0+i*34,none⟩))<|R<|qs 1 I (by rw [ab]; omega) ?_
   refine Nf ?_
   have L:(⟨r.int.1,List.replicate 32 0,0⟩:BC).Ok:=⟨r.Iy,si,by show 0 < 18446744073709551616; decide⟩
   have F:jH (q.set i (⟨r.int.1,List.replicate 32 0,0⟩:BC)):=E.set i L
   have T:(q.set i (⟨r.int.1,List.replicate 32 0,0⟩:BC))[i]?=some (⟨r.int.1,List.replicate 32 0,0⟩:BC):=X7 U
   have O:(bU (q.set i (⟨r.int.1,List.replicate 32 0,0⟩:BC))).length=n*34:=by rw [nI F,a6,z]
   refine St.mem (cs':=[oA g (A2,u) (r.int.2),aD k 178 (bU (q.set i (⟨r.int.1,List.replicate 32 0,0⟩:BC))),aD f 169 [(.slice (some ⟨k,0,none⟩) (n) (n)),(vU a)]]) (λw d=>by have e:=tY E [] i BC.zero ae 0 U (Value.int .i64 r.int.1) (⟨r.int.1,List.replicate 32 0,0⟩:BC) (Cs BC.zero _); rw [O4,O4] at e; rw [<- e]; rw [K7] at d; exact d)<|dN _ 6 J (λ_ h=>h.sub (.cons _ (.cons_cons _ (.cons_cons _ .slnil))))<|am 0 ?_
   refine aC 1 (.pointer (some ⟨k,0+i*34,none⟩)) I<|aC 2 (.pointer (some ⟨k,0+i*34+1,none⟩)) I<|aC 3 (.slice (some ⟨k,0+i*34+1,none⟩) (32) (32)) I<|am 4 ?_
   refine dW (i:=5) J I I<|eR 133 #[(Z g 0)] rfl J (λ_=>J) (λw d=>(by have h:=Ku g (r.int.2) w (d.at (i:=0) I) (B.int); skip; exact h:Calls _ _ _ w λe l=>e = .returned (vS r.int.2.sum.1)/\Fr [g] w l/\cF (A2,u) l g (r.int.2.sum.2)).mono ?_)
   rintro e l ⟨rfl,o,p⟩
   have b:=d.wB 0 I o p
   refine ⟨_,_,I,b,?_⟩
   clear d b o p
   refine aQ _ η (λ_ h=>h.sub (.cons _ (.cons_cons _ (.cons_cons _ .slnil))))<|dW (i:=6) J I I<|Tu (elem:=5) (bs:=r.int.2.sum.1) 1 (bU (q.set i (⟨r.int.1,mK r.int.2.sum.1,0⟩:BC))) I I J J J I I I (Rd.BK _) (by rw [O]; have:=Rd.BK r.int.2; omega) (by rw [K7,Tw F T (Rd.BK _),ABg,Tv])<|lH J I<|aJ ?_
   have x:(⟨r.int.1,mK r.int.2.sum.1,0⟩:BC).Ok:=⟨r.Iy,Kz (Rd.BK _),by show 0 < 18446744073709551616; decide⟩
   have H:jH (q.set i (⟨r.int.1,mK r.int.2.sum.1,0⟩:BC)):=E.set i x
   have W:(q.set i (⟨r.int.1,mK r.int.2.sum.1,0⟩:BC))[i]?=some (⟨r.int.1,mK r.int.2.sum.1,0⟩:BC):=X7 U
   have P:(bU (q.set i (⟨r.int.1,mK r.int.2.sum.1,0⟩:BC))).length=n*34:=by rw [nI H,a6,z]
   refine aF<|G rfl<|R<|eR 89 #[(Z g 0)] rfl J (λ_=>J) (λw d=>(by have h:=vA g (r.int.2.sum.2) w (d.at (i:=0) I) (B.int.sum); skip; exact h:Calls _ _ _ w λe l=>e = .returned (vU r.int.2.sum.2.uint.1)/\Fr [g] w l/\cF (A2,u) l g (r.cell.2)).mono ?_)
   rintro e l ⟨rfl,o,p⟩
   have b:=d.wB 0 I o p
   refine ⟨_,_,I,b,?_⟩
   clear d b o p
   refine M (.pointer (some ⟨k,0+i*34,none⟩))<|M (.pointer (some ⟨k,0+i*34+33,none⟩))<|R<|qs 1 I (by rw [P]; omega) ?_
   exact Nk<|St.mem (cs':=[oA g (A2,u) (lJ m (i+1)),aD k 178 (bU (lX m n (i+1))),aD f 169 [(.slice (some ⟨k,0,none⟩) (n) (n)),(vU a)]]) (λw d=>by have e:=tY H [] i (⟨r.int.1,mK r.int.2.sum.1,0⟩:BC) W 33 U (vU r.int.2.sum.2.uint.1) r.cell.1 (yN (c:=(⟨r.int.1,mK r.int.2.sum.1,0⟩:BC)) x.keys _); rw [O4,O4,ABg] at e; rw [HSU.out,HRS.out,<- e]; rw [K7] at d; exact d)<|aF<|lw (Y (i+1)) bN<|G I<|aO (aJ (sA (i+1) oz oz η))
  .obtain rfl:n=i:=U
   refine Nj<|Nc<|G rfl<|R<|eR 94 #[(Z g 0)] rfl J (λ_=>J) (λw d=>(Kr g (lJ m n) w (d.at (i:=0) I) (Ft HOK.out n)).mono ?_)
   rintro e l ⟨rfl,o⟩
   have b:=d.eW o
   refine ⟨_,_,I,b,?_⟩
   clear d b o
   refine G I<|Nb<|G I<|M (.bool (((lJ m n).end_:Int) != 0)) ?_
   refine qi I (λy=>?_) λy=>?_
   .refine Nc<|G rfl<|Nh<|sN [(.pointer none),(C 3)] λw d=>?_
    have t:(lJ m n).end_≠0:=by simpa using y
    have N:(sU D).end_≠0:=by unfold sU wR; rw [<- HN.out,<- HR2.out]; exact t
    rw [P4 N]
    exact ⟨I,d.fr⟩
   .refine Ni<|G rfl<|Nd<|sN [(Z f 0),(C 0)] λw d=>?_
    have t:(lJ m n).end_=0:=by simpa using y
    have N:(sU D).end_=0:=by unfold sU wR; rw [<- HN.out,<- HR2.out]; exact t
    rw [P1 N]
    have S:=(λ(w:Λ) (h:Mm _ _ _ w)=>Mm.perm h (.swap _ _ _)) w ((λ(w:Λ) (h:Mm _ _ _ w)=>Mm.sub h (.cons _ (.cons_cons _ (.cons_cons _ .slnil)))) w d)
    rw [<- O4 (bU (lX m n n))] at S
    exact ⟨f,k,n,[],I,S.Qb (by rw [Fw,HN.out]) (by exact HS.out.symm) (by rw [SR]; unfold vC wR; rw [<- HN.out,<- HR2.out]) (Fv D) (by exact hz) (Nat.le_refl _)⟩
end
def eZ(D:List UInt8):Option BT:=if fI (nJ D:Int)=true /\ (sU D).end_=0 then some (vC D) else none
theorem tZ{T:BT}(h:eZ D=some T):T.enc=D/\fI (T.cells.length:Int)=true:=by
 grind [eZ,SX,Fw]
theorem CB{T:BT}(h:T.Ok)(a:fI (T.cells.length:Int)=true):eZ T.enc=some T:=by
 obtain U:=SY h (jQ a).2.1
 unfold eZ
 grind
theorem Tz(A c)(D:Γ)(w)(hD:D.length<=4294967296)(hrow:aI w A (B8 D))(h:eZ D=none):
  Θ 98 #[.slice A D.length c] w λe w'=>e = .returned (.tuple #[.pointer none,C 3])/\Fr [] w w':=by
 rcases W4 3072 (nJ D) with hb | hb
 .grind [Tx]
 .cases hs:fI (nJ D:Int) with
  | false=>grind [Ty]
  | true =>
    refine (KQ A c D w hD hrow hs).mono λe w' he=>?_
    have hn:(sU D).end_≠0:=λh0=>by
     unfold eZ at h
     grind
    grind
theorem TA(A c)(D:Γ)(U w)(hD:D.length<=4294967296)(hrow:aI w A (B8 D))(h:eZ D=some U):
  Θ 98 #[.slice A D.length c] w λe w'=>∃ bt bc cap rest,e = .returned (.tuple #[Z bt 0,C 0])/\Mm w [] [mL bt bc cap rest U] w':=by
 unfold eZ at h
 split at h
 .rename_i h1
  injection h with h
  subst h
  refine (KQ A c D w hD hrow h1.1).mono λe w' he=>?_
  rwa [P1 h1.2] at he
 grind
theorem TB(n a m E K H N T W t u w)(ht:jU w E K T t)(hu:jU w H N W u)(hn:n=t.cells.length)(an:u.cells.length=n)(hs:a=t.seed):
  Θ 71 #[(.agg #[(.int .u64 ((a:Nat):Int)),(.slice (some ⟨E,0,none⟩) (n) (K))]),(.agg #[(.int .u64 ((m:Nat):Int)),(.slice (some ⟨H,0,none⟩) (n) (N))])] w λe w'=>∃ g c rest,e = .returned (.agg #[.int .u64 (a:Int),.slice (some ⟨g,0,none⟩) n c])/\w.heap.size<=g/\Fr [] w w'/\jU w' g c rest (t.sub u):=by
 have HN:=D3 hn
 have HS:=D3 hs
 have HUL:=D3 an
 have HT:=D3 ht
 have HU:=D3 hu
 have n4:n<=3072:=by rw [HN.out]; exact (jQ ht.size).2.1
 clear hn hs an ht hu
 refine bS Tryz.func71 67 (Mm.start w []) rfl<|Nc<|R<|pB [(vU a),_] λq=>R<|pB [(vU _),_] λB=>R<|pA [(.int .u64 0),nS] λF=>Nb<|M (Z q 1)<|lL 0 rfl<|M (Y n)<|M (Z q 0)<|lL 0 rfl<|R<|eR 76 _ rfl J (λ_=>J) (λw z=>(KF n a w (by rw [HN.out]; exact HT.out.size) (by rw [HS.out]; exact HT.out.ok.seed)).mono ?_)
 rintro e w' ⟨g,rfl,hg,hf,ht⟩
 have ab:=z.push (c:=aD g 132 (bU (jR t u (List.replicate n _) 0)++[])) hf (by show At _ _ _ _; rw [KI]; exact ht.cells) (by simpa [aD] using hg) (by simp [aD])
 refine ⟨_,_,I,ab,?_⟩
 clear z ab hf ht hg
 refine R<|pA [(.int .u64 0),nS] λD=>R<|zu 4 rfl<|Ne<|G rfl<|Ng<|sL (λi=>i<=n) (λi=>n - i) (λi=>[(2,(Z q 0)),(3,(Z B 0)),(4,(Z F 0)),(5,(Z D 0)),(6,(Y i))]) (λi=>[aD q 95 [(vU a),(.slice (some ⟨E,0,none⟩) (n) (K))],aD B 95 [(vU m),(.slice (some ⟨H,0,none⟩) (n) (N))],aD F 95 [(.int .u64 0),nS],aD g 132 (bU (jR t u (List.replicate n BC.zero) i)++[]),aD D 95 [(vU a),(.slice (some ⟨g,0,none⟩) (n) (n))]]) 0 (G6 _) η ?_
 intro i (hi:i<=n)
 show St _ _ _ [(2,(Z q 0)),(3,(Z B 0)),(4,(Z F 0)),(5,(Z D 0)),(6,(Y i))] [aD q 95 [(vU a),(.slice (some ⟨E,0,none⟩) (n) (K))],aD B 95 [(vU m),(.slice (some ⟨H,0,none⟩) (n) (N))],aD F 95 [(.int .u64 0),nS],aD g 132 (bU (jR t u (List.replicate n BC.zero) i)++[]),aD D 95 [(vU a),(.slice (some ⟨g,0,none⟩) (n) (n))]] _
 refine Ny<|G I<|M (Z q 1)<|lL 0 I<|M (Y n)<|M (.bool (decide ((i:Int) < ((n:Nat):Int)))) ?_
 refine ζ I (λaf=>?_) λaf=>?_
 .have ak:i < n:=U
  obtain ⟨b,hc⟩:=gk t.cells i (by rw [<- HN.out]; exact ak)
  obtain ⟨d,hd⟩:=gk u.cells i (by rw [HUL.out]; exact ak)
  have o:=HT.out.ok.cells b (F0 hc)
  have p:=HU.out.ok.cells d (F0 hd)
  have f:=BC.cells_len o
  have k:=BC.cells_len p
  obtain ⟨L,HCL⟩:∃ L,Hid (L=jR t u (List.replicate n BC.zero) i):=⟨_,I⟩
  have ap:(List.replicate n BC.zero).length=t.cells.length:=by rw [k7,HN.out]
  have ae:L.length=n:=by rw [HCL.out,KK (by rw [HUL.out,HN.out]) ap i (by grind),HN.out]
  have ao:jH L:=by rw [HCL.out]; exact KM HT.out.ok HU.out.ok (λc hc=>by grind [BC.Ok.zero]) i
  obtain ⟨c0,aq⟩:=gk L i U
  have HSU:Hid (jR t u (List.replicate n BC.zero) (i+1)=L.set i (b.sub d)):=by show _=_; rw [HCL.out,KL (by rw [HUL.out,HN.out]) ap (by grind) (KH hc hd)]
  obtain ⟨A,HKX⟩:∃ A,Hid (A=kD b.keys d.keys):=⟨_,I⟩
  have S:A.length=(List.replicate 32 (0:UInt8)).length:=by rw [HKX.out]; simp [kD,o.keys,p.keys]
  rw [<- HCL.out]
  refine gL (aJ (aT (fY (qU (ι:=Nat × Nat) (λ_=>True) (λ(r,s)=>[(2,(Z q 0)),(3,(Z B 0)),(4,(Z F 0)),(5,(Z D 0)),(6,(Y i)),(17,(Y i)),(18,(Z q 1)),(19,(.slice (some ⟨E,0,none⟩) (n) (K))),(20,(Y n)),(21,(.bool (decide (((i:Nat)) < (n:Int))))),(24,(Z q 1)),(25,(.slice (some ⟨E,0,none⟩) (n) (K))),(26,(Y i)),(27,(.pointer (some ⟨E,0+i*34,none⟩))),(28,(.agg (b.cells).toArray)),(29,(Z B 1)),(30,(.slice (some ⟨H,0,none⟩) (n) (N))),(31,(Y i)),(32,(.pointer (some ⟨H,0+i*34,none⟩))),(33,(.agg (d.cells).toArray)),(7,(Z r 0)),(8,(Z s 0))]) (λ(r,s)=>[aD q 95 [(vU a),(.slice (some ⟨E,0,none⟩) (n) (K))],aD B 95 [(vU m),(.slice (some ⟨H,0,none⟩) (n) (N))],aD F 95 [(.int .u64 0),nS],aD g 132 (bU L++[]),aD D 95 [(vU a),(.slice (some ⟨g,0,none⟩) (n) (n))],aD r 132 (b.cells),aD s 132 (d.cells)]) ?_ ?_))))
  .refine dN _ 14 J η<|aC 0 (Z q 1) I<|al 1 0 ?_
   refine am 2 ?_
   refine aV 3 (.pointer (some ⟨E,0+i*34,none⟩)) I (mI (e:=132) (sz:=34) I J J I I U)<|aV 4 (.agg (b.cells).toArray) rfl (gI b.cells rfl rfl J (by rw [f]; kernel_rfl) (λw z j v hj=>by rw [K7]; exact z.gA (wS HT.out hc j v hj) si))<|aC 5 (Z B 1) I<|al 6 1 ?_
   refine am 7 ?_
   refine aV 8 (.pointer (some ⟨H,0+i*34,none⟩)) I (mI (e:=132) (sz:=34) I J J I I U)<|aV 9 (.agg (d.cells).toArray) rfl (gI d.cells rfl rfl J (by rw [k]; kernel_rfl) (λw z j v hj=>by rw [K7]; exact z.gA (wS HU.out hd j v hj) si)) ?_
   refine kU (i:=10) (j:=11) J I I I I ?_ ?_
   .refine pA [(C 0),(.int .u8 0),(.int .u8 0),(.int .u8 0),(.int .u8 0),(.int .u8 0),(.int .u8 0),(.int .u8 0),(.int .u8 0),(.int .u8 0),(.int .u8 0),(.int .u8 0),(.int .u8 0),(.int .u8 0),(.int .u8 0),(.int .u8 0),(.int .u8 0),(.int .u8 0),(.int .u8 0),(.int .u8 0),(.int .u8 0),(.int .u8 0),(.int .u8 0),(.int .u8 0),(.int .u8 0),(.int .u8 0),(.int .u8 0),(.int .u8 0),(.int .u8 0),(.int .u8 0),(.int .u8 0),(.int .u8 0),(.int .u8 0),(.int .u64 0)] λr=>aQ _ η (λ_ h=>h.sub (.cons_cons _ (.cons_cons _ (.cons_cons _ (.cons_cons _ (.cons_cons _ (.cons _ .slnil)))))))<|dW (i:=11) J rfl rfl<|pA [(C 0),(.int .u8 0),(.int .u8 0),(.int .u8 0),(.int .u8 0),(.int .u8 0),(.int .u8 0),(.int .u8 0),(.int .u8 0),(.int .u8 0),(.int .u8 0),(.int .u8 0),(.int .u8 0),(.int .u8 0),(.int .u8 0),(.int .u8 0),(.int .u8 0),(.int .u8 0),(.int .u8 0),(.int .u8 0),(.int .u8 0),(.int .u8 0),(.int .u8 0),(.int .u8 0),(.int .u8 0),(.int .u8 0),(.int .u8 0),(.int .u8 0),(.int .u8 0),(.int .u8 0),(.int .u8 0),(.int .u8 0),(.int .u8 0),(.int .u64 0)] λs=>aQ _ η (λ_ h=>h.sub (.cons_cons _ (.cons_cons _ (.cons_cons _ (.cons_cons _ (.cons_cons _ (.cons _ (.cons _ .slnil))))))))<|dW (i:=12) J I I<|dE 5 b.cells I I J I I I (by rw [f]; kernel_rfl) I (by rw [f]; decide) (BC.pD _) (sG (by rw [f]; rfl)) ?_
    refine aQ _ (λ_ h=>h.sub (.cons_cons _ (.cons_cons _ (.cons_cons _ (.cons_cons _ (.cons_cons _ (.cons _ .slnil))))))) (λ_ h=>h.sub (.cons_cons _ (.cons_cons _ (.cons_cons _ (.cons_cons _ (.cons_cons _ (.cons_cons _ (.cons _ .slnil))))))))<|dW (i:=13) J I I<|dE 6 _ I I J I I I (by rw [k]; kernel_rfl) I (by rw [k]; decide) (BC.pD _) (sG (by rw [k]; rfl)) ?_
    exact aQ _ (λ_ h=>h.sub (.cons_cons _ (.cons_cons _ (.cons_cons _ (.cons_cons _ (.cons_cons _ (.cons_cons _ (.cons _ .slnil)))))))) η<|cG J<|aJ (sM (r,s) trivial η)
   .refine pA [(C 0),(.int .u8 0),(.int .u8 0),(.int .u8 0),(.int .u8 0),(.int .u8 0),(.int .u8 0),(.int .u8 0),(.int .u8 0),(.int .u8 0),(.int .u8 0),(.int .u8 0),(.int .u8 0),(.int .u8 0),(.int .u8 0),(.int .u8 0),(.int .u8 0),(.int .u8 0),(.int .u8 0),(.int .u8 0),(.int .u8 0),(.int .u8 0),(.int .u8 0),(.int .u8 0),(.int .u8 0),(.int .u8 0),(.int .u8 0),(.int .u8 0),(.int .u8 0),(.int .u8 0),(.int .u8 0),(.int .u8 0),(.int .u8 0),(.int .u64 0)] λs=>aQ _ η (λ_ h=>h.sub (.cons_cons _ (.cons_cons _ (.cons_cons _ (.cons_cons _ (.cons_cons _ (.cons _ .slnil)))))))<|dW (i:=10) J rfl rfl<|pA [(C 0),(.int .u8 0),(.int .u8 0),(.int .u8 0),(.int .u8 0),(.int .u8 0),(.int .u8 0),(.int .u8 0),(.int .u8 0),(.int .u8 0),(.int .u8 0),(.int .u8 0),(.int .u8 0),(.int .u8 0),(.int .u8 0),(.int .u8 0),(.int .u8 0),(.int .u8 0),(.int .u8 0),(.int .u8 0),(.int .u8 0),(.int .u8 0),(.int .u8 0),(.int .u8 0),(.int .u8 0),(.int .u8 0),(.int .u8 0),(.int .u8 0),(.int .u8 0),(.int .u8 0),(.int .u8 0),(.int .u8 0),(.int .u8 0),(.int .u64 0)] λr=>aQ _ η (λ_ h=>h.sub (.cons_cons _ (.cons_cons _ (.cons_cons _ (.cons_cons _ (.cons_cons _ (.cons _ (.cons _ .slnil))))))))<|dW (i:=12) J I I<|dE 6 b.cells I I J I I I (by rw [f]; kernel_rfl) I (by rw [f]; decide) (BC.pD _) (sG (by rw [f]; rfl)) ?_
    refine aQ _ (λ_ h=>h.sub (.cons_cons _ (.cons_cons _ (.cons_cons _ (.cons_cons _ (.cons_cons _ (.cons _ .slnil))))))) (λ_ h=>h.sub (.cons_cons _ (.cons_cons _ (.cons_cons _ (.cons_cons _ (.cons_cons _ (.cons _ (.cons_cons _ .slnil))))))))<|dW (i:=13) J I I<|dE 5 _ I I J I I I (by rw [k]; kernel_rfl) I (by rw [k]; decide) (BC.pD _) (sG (by rw [k]; rfl)) ?_
    exact aQ _ (λ_ h=>h.sub (.cons_cons _ (.cons_cons _ (.cons_cons _ (.cons_cons _ (.cons_cons _ (.cons _ (.cons_cons _ .slnil)))))))) η<|cG J<|aJ (sM (r,s) trivial (λ_ h=>h.perm (.cons _ (.cons _ (.cons _ (.cons _ (.cons _ (.swap _ _ _))))))))
  .rintro ⟨r,s⟩ -
   dsimp only
   refine aT ?_
   have Q:((⟨IntKind.i64.wrap (b.count + -d.count),mY A (List.replicate 32 0) 0,b.checks ^^^ d.checks⟩:BC).cells).length=34:=I
   refine aF<|M (Z r 0)<|lw _ (bW 5 rfl rfl J rfl (lS b))<|M (Z s 0)<|lw _ (bW 6 rfl rfl J rfl (lS d))<|lw (C _) (gY (v:=.int .i64 (IntKind.i64.wrap (b.count - d.count))) (gZ λ_=>by kernel_rfl) (by rw [Int.sub_eq_add_neg]))<|M (Z r 33)<|lw (vU b.checks) (bW 5 rfl rfl J rfl (qH o.keys))<|M (Z s 33)<|lw (vU d.checks) (bW 6 rfl rfl J rfl (qH p.keys))<|lw (vU _) (uU .xor si _ rfl rfl rfl (AH4 _ _ o.checks p.checks))<|M (.agg ((⟨IntKind.i64.wrap (b.count + -d.count),mY A (List.replicate 32 0) 0,b.checks ^^^ d.checks⟩:BC).cells).toArray)<|R<|pA [(C 0),(.int .u8 0),(.int .u8 0),(.int .u8 0),(.int .u8 0),(.int .u8 0),(.int .u8 0),(.int .u8 0),(.int .u8 0),(.int .u8 0),(.int .u8 0),(.int .u8 0),(.int .u8 0),(.int .u8 0),(.int .u8 0),(.int .u8 0),(.int .u8 0),(.int .u8 0),(.int .u8 0),(.int .u8 0),(.int .u8 0),(.int .u8 0),(.int .u8 0),(.int .u8 0),(.int .u8 0),(.int .u8 0),(.int .u8 0),(.int .u8 0),(.int .u8 0),(.int .u8 0),(.int .u8 0),(.int .u8 0),(.int .u8 0),(.int .u64 0)] λX=>R<|dE 7 _ (vs:=(⟨IntKind.i64.wrap (b.count + -d.count),mY A (List.replicate 32 0) 0,b.checks ^^^ d.checks⟩:BC).cells) I I J I I I (by rw [Q]; kernel_rfl) I (by rw [Q]; decide) (BC.pD _) (sG (by rw [Q]; rfl)) ?_
   refine Ne<|G rfl<|Ng<|sL (λj=>j<=32) (λj=>32 - j) (λj=>[(2,(Z q 0)),(3,(Z B 0)),(4,(Z F 0)),(5,(Z D 0)),(6,(Y i)),(7,(Z r 0)),(8,(Z s 0)),(9,(Z X 0)),(10,(Y j))]) (λj=>[aD q 95 [(vU a),(.slice (some ⟨E,0,none⟩) (n) (K))],aD B 95 [(vU m),(.slice (some ⟨H,0,none⟩) (n) (N))],aD F 95 [(.int .u64 0),nS],aD g 132 (bU L++[]),aD D 95 [(vU a),(.slice (some ⟨g,0,none⟩) (n) (n))],aD r 132 (b.cells),aD s 132 (d.cells),aD X 132 ((⟨IntKind.i64.wrap (b.count + -d.count),mY A (List.replicate 32 0) j,b.checks ^^^ d.checks⟩:BC).cells)]) 0 (G6 _) η ?_
   intro j (hj:j<=32)
   show St _ _ _ [(2,(Z q 0)),(3,(Z B 0)),(4,(Z F 0)),(5,(Z D 0)),(6,(Y i)),(7,(Z r 0)),(8,(Z s 0)),(9,(Z X 0)),(10,(Y j))] [aD q 95 [(vU a),(.slice (some ⟨E,0,none⟩) (n) (K))],aD B 95 [(vU m),(.slice (some ⟨H,0,none⟩) (n) (N))],aD F 95 [(.int .u64 0),nS],aD g 132 (bU L++[]),aD D 95 [(vU a),(.slice (some ⟨g,0,none⟩) (n) (n))],aD r 132 (b.cells),aD s 132 (d.cells),aD X 132 ((⟨IntKind.i64.wrap (b.count + -d.count),mY A (List.replicate 32 0) j,b.checks ^^^ d.checks⟩:BC).cells)] _
   refine Ny<|G I<|M (.bool (decide ((j:Int) < 32))) ?_
   refine ζ I (λah=>?_) λah=>?_
   .have aj:j < 32:=U
    obtain ⟨x,hx⟩:=gk b.keys j (by rw [o.keys]; exact aj)
    obtain ⟨y,hy⟩:=gk d.keys j (by rw [p.keys]; exact aj)
    have ar:A[j]?=some (x ^^^ y):=by rw [HKX.out]; exact JN _ _ j x y hx hy
    have P:(mY A (List.replicate 32 0) j).length=32:=by rw [To S]; rfl
    have ad:((⟨IntKind.i64.wrap (b.count + -d.count),mY A (List.replicate 32 0) j,b.checks ^^^ d.checks⟩:BC).cells).length=34:=by simp only [BC.cells,V0,C3,eX,P,W7]
    refine Nl<|fY ?_
    refine dN _ 12 J η ?_
    refine am 0 ?_
    refine am 1 ?_
    refine aC 2 (Z r 1) I<|aV 3 _ I (nU (e:=5) I J J I I U)<|aV 4 _ I (bW 5 I I J I (yM j x hx))<|am 5 ?_
    refine aC 6 (Z s 1) I<|aV 7 _ I (nU (e:=5) I J J I I U)<|aV 8 _ I (bW 6 I I J I (yM j y hy))<|aV 9 _ I (uU .xor si _ I I I (Ct x y))<|aC 10 (Z X 1) I<|aV 11 _ I (nU (e:=5) I J J I I U)<|dW (i:=12) J I I<|qs 7 I (by rw [ad]; omega) ?_
    exact lH J I<|jF<|aJ<|St.mem (cs':=[aD q 95 [(vU a),(.slice (some ⟨E,0,none⟩) (n) (K))],aD B 95 [(vU m),(.slice (some ⟨H,0,none⟩) (n) (N))],aD F 95 [(.int .u64 0),nS],aD g 132 (bU L++[]),aD D 95 [(vU a),(.slice (some ⟨g,0,none⟩) (n) (n))],aD r 132 (b.cells),aD s 132 (d.cells),aD X 132 ((⟨IntKind.i64.wrap (b.count + -d.count),mY A (List.replicate 32 0) (j+1),b.checks ^^^ d.checks⟩:BC).cells)]) (λw z=>by rw [<- Tp S ar,<- Fz (by rw [P]; omega)]; exact z)<|aF<|G I<|lw (Y (j+1)) bN<|G I<|aO (aJ (sA (j+1) oz oz η))
   .obtain rfl:j=32:=U
    have ai:(⟨IntKind.i64.wrap (b.count + -d.count),mY A (List.replicate 32 0) 32,b.checks ^^^ d.checks⟩:BC).cells=(b.sub d).cells:=by
     have e:mY A (List.replicate 32 0) 32=kD b.keys d.keys:=by
      unfold mY
      rw [U2 (by rw [S]; simp),X6 si,O4,HKX.out]
     rw [e]
     rfl
    have O:(b.sub d).cells.length=34:=BC.cells_len (BC.Ok.sub o p)
    refine St.mem (cs':=[_,_,_,_,_,_,_,_]) (λw z=>by rw [<- ai]; exact z)<|Nr<|kL<|aJ<|aF<|M (Z D 1)<|lL 4 I<|G I<|lw _ (gI _ I I J (by rw [O]; kernel_rfl) (cW (i:=7) I yy))<|lw _ (mI (e:=132) (sz:=34) I J J I I U)<|R<|dE 3 (bU _++[]) I I J I I I (by rw [O]; kernel_rfl) I (by rw [O,C3,nI ao,ae]; omega) (BC.pD _) (by rw [O,K7]; exact (CA ao [] i c0 aq _).symm) ?_
    exact Nk<|St.mem (λw z=>by rw [HSU.out]; exact z)<|aF<|G rfl<|lw (Y (i+1)) bN<|G rfl<|aO (aJ (sA _ oz oz (λ_ h=>h.sub (.cons_cons _ (.cons_cons _ (.cons_cons _ (.cons_cons _ (.cons_cons _ (.cons _ (.cons _ (.cons _ .slnil)))))))))))
 .obtain rfl:n=i:=U
  refine Nj<|aF<|lW (zr 4 rfl)<|R<|zu 2 rfl<|Nd<|dL [_] rfl ⟨rz 2 rfl,trivial⟩ (λw z=>⟨g,n,[],I,z.lo (i:=3) I (by simp [aD]),z.fr,?_⟩)
  have e:=KJ (t:=t) (l:=(List.replicate n BC.zero)) (by rw [HUL.out,HN.out]) (by rw [k7,HN.out])
  have el:(t.sub u).cells.length=n:=by rw [mM (by rw [HUL.out,HN.out]),HN.out]
  have ha:At w g 132 _:=z.at (i:=3) I
  rw [show jR t u _ n=(t.sub u).cells by rw [<- e,HN.out]] at ha
  exact ⟨ha,vD HT.out.ok HU.out.ok,by rw [el,HN.out]; exact HT.out.size,by rw [el]; exact J7 _⟩
section
def yT(l:List Ch)(p:Prop):Ch where
 fp:=l.flatMap Ch.fp
 holds w:=(∀ c∈l,c.holds w) /\ (l.flatMap Ch.fp).Nodup /\ p
 ok w w' hb h:=⟨λc hc=>c.ok w w' (λb hbc=>hb b (List.mem_flatMap.2 ⟨c,hc,hbc⟩)) (h.1 c hc),h.2⟩
 lt w h b hb:=by
  obtain ⟨c,hc,hbc⟩:=List.mem_flatMap.1 hb
  exact c.lt w (h.1 c hc) b hbc
section
variable {w0 w:World}{F:List Nat}{A B l:List Ch}{p:Prop}
theorem CC(A B l)(p:Prop):(A++yT l p::B).flatMap Ch.fp=(A++l++B).flatMap Ch.fp:=by
 simp [zg,zg,yT]
theorem Mm.unpack(h:Mm w0 F (A++yT l p::B) w):Mm w0 F (A++l++B) w/\p:=by
 have d:=h.hold (yT l p) si
 refine ⟨⟨h.fr,λc a=>?_,by rw [<- CC A B l p]; exact h.nodup,λb e=>h.own b (by rw [CC]; exact e)⟩,d.2.2⟩
 rcases P7.1 a with a | a
 .rcases P7.1 a with a | a
  .exact h.hold c (by simp [a])
  .exact d.1 c a
 .exact h.hold c (by simp [a])
theorem Mm.pack(h:Mm w0 F (A++l++B) w)(f:p):Mm w0 F (A++yT l p::B) w:=by
 refine ⟨h.fr,λc a=>?_,by rw [CC]; exact h.nodup,λb e=>h.own b (by rw [<- CC A B l p]; exact e)⟩
 rcases P7.1 a with a | a
 .exact h.hold c (by simp [a])
 .rcases T0.1 a with rfl | a
  .refine ⟨λc a=>h.hold c (by simp [a]),?_,f⟩
   have d:=h.nodup
   rw [R3,R3,X9,X9] at d
   exact d.1.2.1
  .exact h.hold c (by simp [a])
end
def bI(A:Option Addr)(xs:List Value):Ch where
 fp:=if xs.isEmpty then [] else eT A
 holds w:=aI w A xs
 ok w w' hb h:=by
  intro j v hj
  obtain ⟨b,o,hA,hlt,hc⟩:=h j v hj
  have hne:xs.isEmpty=false:=by cases xs with | nil=>simp at hj | cons x l=>rfl
  have hbb:=hb b (by rw [hne,hA]; simp [eT])
  refine ⟨b,o,hA,?_,?_⟩
  .rcases Nat.lt_or_ge b w'.heap.size with h1 | h1
   .exact h1
   .rw [Array.getElem?_eq_none h1,Array.getElem?_eq_getElem hlt] at hbb
    cases hbb
  .simp only [World.cell?,hbb] at hc ⊢
   exact hc
 lt w h b hb:=by
  split at hb
  .simp at hb
  .rename_i hne
   cases xs with
   | nil=>simp at hne
   | cons x l =>
     obtain ⟨b',o,hA,hlt,_⟩:=h 0 x rfl
     subst hA
     simp [eT] at hb
     subst hb
     exact hlt
theorem kO(h:(bI A xs).holds w):aI w A xs:=h
theorem Mm.lM(h:Mm w0 F cs w)(i)(hi:cs[i]?=some (bD e 1 A m c xs)):Mm w0 F (cs.set i (bI A xs)) w :=
 h.swap i hi (c':=bI A xs) (Fr.refl _ _) (aI.bM (h.at hi)) (λb a=>.inl (by grind [bI,bD])) (by grind [bI,uT])
theorem Mm.fF(h:Mm w0 F cs w)(A):Mm w0 F (cs++[bI A []]) w :=
 h.push (c:=bI A []) (Fr.refl _ _) (λj v a=>by simp at a) (by simp [bI]) (by simp [bI])
end
structure TX where
 bt:Nat
 bc:Nat
 cap:Nat
 rest:List Value
abbrev cT(X:TX)(t:BT):Ch:=mL X.bt X.bc X.cap X.rest t
structure RX where
 g:Nat
 c:Nat
 rest:List Value
abbrev iF(X:RX)(t:BT):Ch:=pL X.g X.c X.rest t
def sV(t u:BT):Bool:=decide (t.cells.length=u.cells.length) && decide (t.seed=u.seed)
theorem Fr.back(h:Fr [] w w'):aN [] w [] w':=⟨h,si,si,si⟩
theorem cC.tab{X:TX}{t a:BT}(b:cC [cT X t] w)(c:Fr [X.bc] w w')(h:gF w' X.bt X.bc X.cap X.rest a):aN [cT X t] w [cT X a] w':=Mm.acM b 0 I c h
theorem Cx.back{v:Ω}(h:Cx bs w v w'):∃ A c,v = .slice A bs.length c/\aN [] w [bD 5 1 A bs.length c (B8 bs)] w':=by
 obtain U:=(B3 w).PH h.fr h.own
 grind
theorem TC(j:Fr [] w w')(g:aI w' A1 xs)(i:aI w' A2 ys)(h:As w A1 A2):aN [] w [bI A1 xs,bI A2 ys] w':=by
 obtain ⟨k,l,f⟩:=h
 refine ⟨j,?_,?_,?_⟩
 .intro c e
  rcases T0.1 e with rfl | e
  .exact g
  .rw [G2] at e
   subst e
   exact i
 .simp only [bI]
  cases A1 with
  | none=>cases A2 <;> (split <;> split <;> simp [eT])
  | some a=>cases A2 with
    | none=>split <;> split <;> simp [eT]
    | some b=>split <;> split <;> simp [eT,f a b I I]
 .intro b d
  refine .inr ?_
  simp only [bI] at d
  rcases P7.1 d with d | d
  .split at d
   .simp at d
   .cases A1 with
    | none=>simp [eT] at d
    | some a=>simp [eT] at d; rw [d]; exact zg
  .split at d
   .simp at d
   .cases A2 with
    | none=>simp [eT] at d
    | some a=>simp [eT] at d; rw [d]; exact zg
theorem CD(n a:Nat)(w)(g:fI (n:Int)=true)(f:dA a):
  Θ 60 #[(Y n),(.int .u64 (a:Int))] w λe b=>∃ (X:TX),e = .returned (.tuple #[(Z X.bt 0),(C 0)])/\aN [] w [cT X (BT.new n a)] b:=by
 refine (RJ n a w g f).mono λe b h=>?_
 obtain ⟨rfl,c,d⟩:=h
 exact ⟨⟨_,_,n,[]⟩,I,(B3 w).acN c d (AC1 _) (J7 _)⟩
theorem TD(X t)(key:Γ)(w)(a:cC [cT X t] w)(g:Rf [cT X t] w (eG))(d:key.length=32):
  Θ 62 #[(Z X.bt 0),(vS key)] w λe b=>e = .returned (C 0)/\aN [cT X t] w [cT X (t.change key 1)] b:=by
 refine (JV X.bt X.bc _ _ t key w g.here (a.at (i:=0) I) d).mono λe b h=>?_
 obtain ⟨rfl,c,f⟩:=h
 exact ⟨I,cC.tab a c f⟩
theorem AB(X t w)(b:Rf [] w (λw=>(cT X t).holds w)):
  Θ 134 #[(Z X.bt 0)] w λe a=>e = .returned (Y t.cells.length)/\aN [] w [] a:=by
 refine (RS X.bt X.bc _ _ t w b.here).mono λe a h=>?_
 obtain ⟨rfl,rfl⟩:=h
 exact ⟨I,Mm.start w []⟩
theorem TE(n w):
  Θ 52 #[(C n)] w λe a=>e = .returned (C (kW n))/\aN [] w [] a:=by
 refine (RT n w).mono λe a h=>?_
 obtain ⟨rfl,rfl⟩:=h
 exact ⟨I,Mm.start w []⟩
theorem KR(X t w)(f:Rf [] w (λw=>(cT X t).holds w)):
  Θ 65 #[(Z X.bt 0)] w λe a=>∃ (A:Δ) (c:Nat),e = .returned (V A (t.enc) c)/\aN [] w [cB A (t.enc) c] a:=by
 refine (Sm X.bt X.bc _ _ t w f.here).mono λe a h=>?_
 obtain ⟨v,rfl,d⟩:=h
 obtain ⟨A,c,rfl,b⟩:=d.back
 exact ⟨A,c,I,b⟩
theorem KT(X t w)(d:Rf [] w (eG))(f:Rf [] w (λw=>(cT X t).holds w))(c:t.keys=none):
  Θ 103 #[(Z X.bt 0)] w λe a=>e = .returned (.tuple #[nS,nS,(C 10)])/\aN [] w [] a:=by
 refine (Ki X.bt X.bc _ _ t w d.here f.here).mono λe a h=>?_
 obtain ⟨b,h⟩:=h
 rw [c] at h
 exact ⟨h,b.back⟩
theorem FB(X t l m w)(k:Rf [] w (eG))(n:Rf [] w (λw=>(cT X t).holds w))(j:t.keys=some (l,m)):
  Θ 103 #[(Z X.bt 0)] w λe c=>∃ (A1:Δ) (a:Nat) (A2:Δ) (b:Nat),e = .returned (.tuple #[(V A1 l a),(V A2 m b),(C 0)])/\aN [] w [bI A1 (SS l),bI A2 (SS m)] c:=by
 refine (Ki X.bt X.bc _ _ t w k.here n.here).mono λe c h=>?_
 obtain ⟨i,h⟩:=h
 rw [j] at h
 obtain ⟨A1,a,A2,b,rfl,d,f,g⟩:=h
 exact ⟨A1,a,A2,b,I,TC i d f g⟩
theorem TF(X t a u w)(g:Rf [] w (λw=>(cT X t).holds w))(i:Rf [] w (λw=>(cT a u).holds w))(j:sV t u=false):
  Θ 102 #[(Z X.bt 0),(Z a.bt 0)] w λe f=>e = .returned (.tuple #[(.pointer none),(C 1)])/\aN [] w [] f:=by
 by_cases b:t.cells.length=u.cells.length
 .have c:t.seed≠u.seed:=λc=>by simp [sV,b,c] at j
  refine (Tr X.bt X.bc _ a.bt a.bc _ _ _ t u w g.here i.here b c).mono λe f h=>?_
  obtain ⟨rfl,d⟩:=h
  exact ⟨I,d.back⟩
 .refine (Tq X.bt X.bc _ a.bt a.bc _ _ _ t u w g.here i.here b).mono λe f h=>?_
  obtain ⟨rfl,d⟩:=h
  exact ⟨I,d.back⟩
theorem CE(X t a u w)(j:Rf [] w (λw=>(cT X t).holds w))(k:Rf [] w (λw=>(cT a u).holds w))(c:sV t u=true):
  Θ 102 #[(Z X.bt 0),(Z a.bt 0)] w λe d=>∃ (b:TX),e = .returned (.tuple #[(Z b.bt 0),(C 0)])/\aN [] w [cT b (t.sub u)] d:=by
 simp only [sV,V6,U3] at c
 refine (Ts X.bt X.bc _ a.bt a.bc _ _ _ t u w j.here k.here c.1 c.2).mono λe d h=>?_
 obtain ⟨g,f,cap,rest,rfl,i⟩:=h
 exact ⟨⟨g,f,cap,_⟩,I,i⟩
theorem KU(A c D w)(g:Rf [] w (λw=>aI w A (B8 D)))(b:D.length<=4294967296)(d:eZ D=none):
  Θ 98 #[(V A D c)] w λe a=>e = .returned (.tuple #[(.pointer none),(C 3)])/\aN [] w [] a:=by
 refine (Tz A c D w b g.here d).mono λe a h=>?_
 obtain ⟨rfl,f⟩:=h
 exact ⟨I,f.back⟩
theorem CF(A c D u w)(j:Rf [] w (λw=>aI w A (B8 D)))(g:D.length<=4294967296)(i:eZ D=some u):
  Θ 98 #[(V A D c)] w λe a=>∃ (X:TX),e = .returned (.tuple #[(Z X.bt 0),(C 0)])/\aN [] w [cT X u] a:=by
 refine (TA A c D u w g j.here i).mono λe a h=>?_
 obtain ⟨d,b,cap,rest,rfl,f⟩:=h
 exact ⟨⟨d,b,cap,_⟩,I,f⟩
abbrev Bs:=List UInt8
def uA(fan leaf:Int):Bool:=decide (2 <= fan) && decide (fan <= 16) && decide (1 <= leaf) && decide (leaf <= 64)
def dD(l:List Bs):Prop:=(∀ x∈l,x.length=32) /\ l.Pairwise (· < ·)
instance (l:List Bs):Decidable (dD l):=by unfold dD; infer_instance
def eM(l:List Bs):Int:=if 16384 < l.length then 2 else if dD l then 0 else 1
theorem rE{a b c:Bs}(d:a < b)(e:b < c):a < c:=zg
theorem lK{a:Bs}:¬ a < a:=zg
theorem vE{a b:Bs}(h:¬ a < b)(c:a≠b):b < a:=by
 grind
theorem KV{l:List Bs}(h:16384 < l.length):eM l=2:=by simp [eM,h]
theorem qJ{l:List Bs}(h:l.length<=16384)(a:dD l):eM l=0:=by unfold eM; grind
theorem CG{l:List Bs}(h:l.length<=16384)(a:¬ dD l):eM l=1:=by unfold eM; grind
theorem KW{l:List Bs}:dD (l.take 0):=by simp [dD]
theorem CH{l:List Bs}(i)(h:dD l):dD (l.take i):=⟨λx a=>h.1 x zg,h.2.sublist zg⟩
theorem vF{l:List Bs}{x:Bs}(A:l[i]?=some x):dD (l.take (i+1))↔dD (l.take i)/\x.length=32/\∀ j y,i=j+1->l[j]?=some y->y < x:=by
 obtain ⟨q,w⟩:=C4.1 A
 rw [O5 q,w]
 unfold dD
 rw [o4]
 constructor
 .rintro ⟨g,f,_,h⟩
  refine ⟨⟨λy d=>g y (AD4 _ d),f⟩,g x si,λj y m d=>h y (F0 (i:=j) (by rw [Y5 U]; exact d)) x si⟩
 .rintro ⟨⟨g,f⟩,h,r⟩
  refine ⟨λy d=>?_,f,si,λa t b u=>?_⟩
  .rcases P7.1 d with d | d
   .exact g y d
   .rw [G2.1 d]; exact h
  .rw [G2.1 u]
   obtain ⟨k,e⟩:=AA3 t
   have z:k < i:=by
    have:=(C4.1 e).1
    rw [I8] at this
    omega
   obtain ⟨j,rfl⟩:∃ j,i=j+1:=⟨i - 1,U⟩
   have m:j < l.length:=U
   have c:=r j l[j] I (E1 m)
   by_cases p:k=j
   .subst p
    rw [Y5 U,E1 m] at e
    injection e with e
    rw [<- e]
    exact c
   .refine rE ?_ c
    rw [Z6] at f
    obtain ⟨n,o⟩:=C4.1 e
    have s:j < (l.take (j+1)).length:=by rw [I8]; omega
    have:=f k j n s U
    rw [o,List.getElem_take] at this
    exact this
theorem TG{l:List Bs}{x y:Bs}(b:l[i]?=some y)(h:(l.take i).contains x=false)(a:decide (x=y)=false):(l.take (i+1)).contains x=false:=by
 grind [List.take_succ_eq_append_getElem]
theorem TH{l:List Bs}{x y:Bs}(a:l[i]?=some y)(h:decide (x=y)=true):l.contains x=true:=by
 grind
def inR(lo hi x:Bs):Bool:=(decide (lo < x) || decide (lo=x)) && (decide (hi=[]) || decide (x < hi))
def inL(l:List Bs)(lo hi:Bs):List Bs:=l.filter (inR lo hi)
theorem FC{p:α->Bool}{x:α}(a:l[i]?=some x)(h:p x=true):(l.take i).filter p++[x]=(l.take (i+1)).filter p:=by
 grind [List.take_succ_eq_append_getElem]
theorem FD{p:α->Bool}{x:α}(a:l[i]?=some x)(h:p x=false):(l.take i).filter p=(l.take (i+1)).filter p:=by
 grind [List.take_succ_eq_append_getElem]
theorem KX{l:List Bs}{x lo hi:Bs}(a:l[i]?=some x)(h:inR lo hi x=true):inL (l.take i) lo hi++[x]=inL (l.take (i+1)) lo hi:=FC a h
theorem KY{l:List Bs}{x lo hi:Bs}(a:l[i]?=some x)(h:inR lo hi x=false):inL (l.take i) lo hi=inL (l.take (i+1)) lo hi:=FD a h
theorem lZ(l lo hi):(inL l lo hi).length<=l.length:=k8 _ _
def aL(l m:List Bs):List Bs:=l.filter λx=>!m.contains x
theorem yU{l m:List Bs}{x:Bs}(a:l[i]?=some x)(h:m.contains x=false):aL (l.take i) m++[x]=aL (l.take (i+1)) m:=FC a (su h)
theorem yV{l m:List Bs}{x:Bs}(a:l[i]?=some x)(h:m.contains x=true):aL (l.take i) m=aL (l.take (i+1)) m:=FD a (su h)
theorem iN(l m):(aL l m).length<=l.length:=k8 _ _
theorem TI{l m:List Bs}{x y:Bs}(b:l[i]?=some x)(c:m[i]?=some y)(h:l.take i=m.take i)(a:x=y):l.take (i+1)=m.take (i+1):=by
 grind [List.take_succ_eq_append_getElem]
def AE(n:Nat):Bool:=decide (40 < n) && decide (n <= 16384)
def nK(lo hi:Bs):Bool:=decide (hi=[]) || decide (lo < hi)
def iU(x:Bs):Bool:=decide (x=[]) || decide (x.length=32)
def fN(l:List Bs)(lo hi:Bs):Bool:=l.all (inR lo hi) && decide (l.Pairwise (· < ·))
theorem TJ{l:List Bs}{x:Bs}(w:l[i]?=some x):(l.take (i+1)).Pairwise (· < ·)↔(l.take i).Pairwise (· < ·)/\∀ j y,i=j+1->l[j]?=some y->y < x:=by
 obtain ⟨n,t⟩:=C4.1 w
 rw [O5 n,t,o4]
 constructor
 .rintro ⟨e,_,o⟩
  refine ⟨e,λj y f z=>o y (F0 (i:=j) (by rw [Y5 U]; exact z)) x si⟩
 .rintro ⟨e,p⟩
  refine ⟨e,si,λa r b s=>?_⟩
  rw [G2.1 s]
  obtain ⟨k,d⟩:=AA3 r
  have u:k < i:=by
   have:=(C4.1 d).1
   rw [I8] at this
   omega
  obtain ⟨j,rfl⟩:∃ j,i=j+1:=⟨i - 1,U⟩
  have f:j < l.length:=U
  have c:=p j l[j] I (E1 f)
  by_cases m:k=j
  .subst m
   rw [Y5 U,E1 f] at d
   injection d with d
   rw [<- d]
   exact c
  .refine rE ?_ c
   rw [Z6] at e
   obtain ⟨g,h⟩:=C4.1 d
   have q:j < (l.take (j+1)).length:=by rw [I8]; omega
   have:=e k j g q U
   rw [h,List.getElem_take] at this
   exact this
theorem FE{l:List Bs}{x lo hi:Bs}(a:l[i]?=some x):fN (l.take (i+1)) lo hi=true↔fN (l.take i) lo hi=true/\inR lo hi x=true/\∀ j y,i=j+1->l[j]?=some y->y < x:=by
 unfold fN
 rw [V6,V6,U3,U3,TJ a]
 grind [List.take_succ_eq_append_getElem]
theorem KZ{l:List Bs}{x lo hi:Bs}(b:l[i]?=some x)(h:¬ (inR lo hi x=true/\∀ j y,i=j+1->l[j]?=some y->y < x)):fN l lo hi=false:=by
 cases a:fN l lo hi with
 | false=>rfl
 | true =>
   unfold fN at a
   rw [V6,U3] at a
   have:fN (l.take (i+1)) lo hi=true:=by
    unfold fN
    grind
   grind [FE]
theorem uB{l:List Bs}(h:eM l=0):l.length<=16384/\dD l:=by
 unfold eM at h
 grind
theorem AF{l:List Bs}(h:l.length<=16384/\dD l):l.flatten.length<=l.length*32:=by
 have a:∀ l:List Bs,(∀ x∈l,x.length=32)->l.flatten.length=l.length*32:=by
  intro l
  induction l with
  | nil=>grind
  | cons x l b =>
    grind
 exact AEh (a l h.2.1)
def La(y:UInt8):Bs:=List.replicate 32 y
theorem AG{l:List Bs}{x:Bs}(a:l[i]?=some x):(l.take i).flatten++x=(l.take (i+1)).flatten:=by
 grind [List.take_succ_eq_append_getElem]
theorem FF{l:List Bs}{x:Bs}(a:l[i]?=some x):(l.take i).flatten.length+x.length<=l.flatten.length:=by
 have h:=AG a
 have e:l.flatten=(l.take (i+1)).flatten++(l.drop (i+1)).flatten:=by rw [<- ACa,S6]
 rw [e,<- h]
 simp
def bX(l:List Bs)(x:Bs):Nat:=(l.takeWhile λy=>decide (y < x)).length
def pM(l:List Bs)(x:Bs):List Bs:=if l.contains x then l else (l.take (bX l x)++[x])++l.drop (bX l x)
def aH(l m:List Bs):List Bs:=m.foldl pM l
theorem pO(l x):bX l x<=l.length:=List.Sublist.length_le (ADa _)
theorem Lb(l:List Bs)(s):l.take (bX l s)=l.takeWhile λx=>decide (x < s):=by
 grind [bX,List.takeWhile_append_dropWhile]
theorem TK(l:List Bs)(s):l.drop (bX l s)=l.dropWhile λx=>decide (x < s):=by
 grind [bX,List.takeWhile_append_dropWhile]
theorem uC{l:List Bs}{s:Bs}{x:Bs}(e:k<=bX l s)(f:l[k]?=some x):(x < s↔k < bX l s):=by
 constructor
 .intro h
  rcases W4 k (bX l s) with a | a
  .exact a
  .exfalso
   have b:k=bX l s:=U
   subst b
   have d:(l.drop (bX l s))[0]?=some x:=by grind
   rw [TK] at d
   have c:l.dropWhile (λx=>decide (x < s))≠[]:=by grind
   have:=List.head_dropWhile_not _ c
   grind
 .intro h
  have a:(l.take (bX l s))[k]?=some x:=by grind
  grind [Lb,List.all_takeWhile]
theorem TL{l:List Bs}{s:Bs}(a:k<=bX l s)(b:l.length<=k):k=bX l s:=by
 have:=pO l s
 omega
theorem TM(l x):(pM l x).length<=l.length+1:=by
 grind [pM]
theorem wT(m):∀ l:List Bs,(aH l m).length<=l.length+m.length:=by
 induction m with
 | nil=>intro l; exact J7 _
 | cons x m a =>
   grind [TM,aH]
theorem Lc{l m:List Bs}{x:Bs}(a:m[i]?=some x):aH l (m.take (i+1))=pM (aH l (m.take i)) x:=by
 grind [List.take_succ_eq_append_getElem,aH]
theorem TN{l m:List Bs}{x:Bs}(a:m[i]?=some x)(h:(aH l (m.take i)).contains x=true):aH l (m.take i)=aH l (m.take (i+1)):=by
 rw [Lc a]
 unfold pM
 grind
theorem yW{l m:List Bs}{x:Bs}(a:m[i]?=some x)(h:(aH l (m.take i)).contains x=false)(b:k=bX (aH l (m.take i)) x):(aH l (m.take i)).take k++[x]++(aH l (m.take i)).drop k=aH l (m.take (i+1)):=by
 rw [Lc a]
 unfold pM
 grind
def mZ(p:Nat -> Bool)(i j:Nat):Nat:=if h:i < j then (if p ((i+j) / 2) then mZ p i ((i+j) / 2) else mZ p ((i+j) / 2+1) j) else i
termination_by j - i
decreasing_by all_goals omega
theorem AH(h:i < j)(a:p ((i+j) / 2)=true):mZ p i j=mZ p i ((i+j) / 2):=by rw [mZ,dif_pos h,P1 a]
theorem AI(h:i < j)(a:p ((i+j) / 2)=false):mZ p i j=mZ p ((i+j) / 2+1) j:=by rw [mZ,dif_pos h,P4 (by rw [a]; decide)]
theorem CI(h:¬ i < j):mZ p i j=i:=by rw [mZ,dif_neg h]
theorem FG(a:∀ i,i < k->p i=false)(b:∀ i,k<=i->i < n->p i=true):∀ (m i j:Nat),j - i<=m->i<=k->k<=j->j<=n->mZ p i j=k
 | 0,i,j,f,c,d,_=>by rw [CI U]; omega
 | m+1,i,j,f,c,d,g=>by
   by_cases h:i < j
   .cases e:p ((i+j) / 2) with
    | true =>
      rw [AH h e]
      have:k<=(i+j) / 2:=by
       grind
      exact FG a b m i _ U c this U
    | false =>
      rw [AI h e]
      have:(i+j) / 2 < k:=by
       grind
      exact FG a b m _ j U U d g
   .rw [CI h]; omega
def rF(l:List Bs)(x:Bs)(i:Nat):Bool:=!decide (l.getD i [] < x)
theorem uD{l:List Bs}{y x:Bs}(h:l[i]?=some y):rF l x i = !decide (y < x):=by simp [rF,zg,h]
theorem CJ{l:List Bs}(g:l.Pairwise (· < ·))(x):mZ (rF l x) 0 l.length=bX l x:=by
 refine FG (n:=l.length) (λi d=>?_) (λi d e=>?_) l.length 0 _ U U (pO l x) U
 .have a:i < l.length:=l0 d (pO l x)
  rw [uD (E1 a)]
  grind [uC]
 .rw [uD (E1 e)]
  have f:bX l x < l.length:=U
  have b:¬ l[bX l x] < x:=λh=>by
   have:=(uC (J7 _) (E1 f)).1 h
   omega
  have j:¬ l[i] < x:=λh=>by
   rcases W4 _ i with c | c
   .have:=(Z6.1 g) _ i f e c
    exact b (rE this h)
   .have:i=bX l x:=U
    subst this
    exact b h
  grind
theorem AJ{l:List Bs}{x y:Bs}(h:y∈l.take (bX l x)):y < x:=by
 grind [Lb,List.all_takeWhile]
theorem CK{l:List Bs}(f:l.Pairwise (· < ·)){x y:Bs}(h:y∈l.drop (bX l x)):¬ y < x:=by
 obtain ⟨j,b⟩:=AA3 h
 rw [W8] at b
 intro e
 have a:=(C4.1 b).1
 have c:bX l x < l.length:=U
 have g:¬ l[bX l x] < x:=λh=>by
  have:=(uC (J7 _) (E1 c)).1 h
  omega
 rcases l6 j with d | d
 .grind
 .have i:=(Z6.1 f) _ _ c a U
  grind
theorem AK{l:List Bs}(hs:l.Pairwise (· < ·))(lo hi):(l.take (max (bX l lo) (if hi=[] then l.length else bX l hi))).drop (bX l lo)=inL l lo hi:=by
 have hb:inR lo hi=λx=>!decide (x < lo) && (decide (hi=[]) || decide (x < hi)):=by
  funext x
  unfold inR
  by_cases h1:lo < x
  .have:¬ x < lo:=λh=>lK (rE h1 h)
   simp [h1,this]
  .by_cases h2:lo=x
   .subst h2; simp [lK]
   .have:x < lo:=vE h1 h2
    simp [h1,h2,this]
 have hsplit:l=l.take (bX l lo)++l.drop _:=(S6 _ _).symm
 have hD:∀ y,y∈l.drop _->¬ y < lo:=λy h=>CK hs h
 have e1:inL l lo hi=(l.drop (bX l lo)).filter λx=>decide (hi=[]) || decide (x < hi):=by
  unfold inL
  rw [hb]
  conv=>lhs; rw [hsplit]
  rw [AE7]
  have z1:(l.take (bX l lo)).filter (λx=>!decide (x < lo) && (decide (hi=[]) || decide (x < hi)))=[]:=by
   rw [ADb]
   intro x hx
   simp [AJ hx]
  rw [z1,U6]
  apply ADc
  intro x hx
  simp [hD x hx]
 rw [e1,List.drop_take]
 by_cases hh:hi=[]
 .subst hh
  have hle:=pO l lo
  rw [P1 rfl,Nat.max_eq_right hle]
  have:(l.drop (bX l lo)).filter (λx=>decide (([]:Bs)=[]) || decide (x < []))=l.drop (bX l lo):=by simp
  rw [this,U2 (by rw [Q7]; omega)]
 .rw [P4 hh]
  have e2:(l.drop (bX l lo)).filter (λx=>decide (hi=[]) || decide (x < hi))=(l.drop (bX l lo)).filter λx=>decide (x < hi):=by
   apply ADc
   intro x _
   simp [hh]
  rw [e2]
  rcases W4 (bX l lo) (bX l hi) with h1 | h1
  .rw [Nat.max_eq_right (Nat.le_of_lt h1)]
   have hs2:l.drop (bX l lo)=(l.drop (bX l lo)).take (bX l hi - bX l lo)++l.drop (bX l hi):=by
    have:=(S6 (bX l hi - bX l lo) (l.drop (bX l lo))).symm
    rwa [Y3,show bX l lo+(bX l hi - bX l lo)=bX l hi by omega] at this
   conv=>rhs; rw [hs2]
   rw [AE7]
   have z1:((l.drop (bX l lo)).take (bX l hi - bX l lo)).filter (λx=>decide (x < hi))=(l.drop (bX l lo)).take (bX l hi - bX l lo):=by
    rw [List.filter_eq_self]
    intro x hx
    have:x∈l.take (bX l hi):=by
     rw [<- List.drop_take] at hx
     exact AA1 hx
    simpa using AJ this
   have z2:(l.drop (bX l hi)).filter (λx=>decide (x < hi))=[]:=by
    rw [ADb]
    intro x hx
    simpa using CK hs hx
   rw [z1,z2,O4]
  .rw [Nat.max_eq_left h1,W6,X5]
   symm
   rw [ADb]
   intro x hx
   have:x∈l.drop (bX l hi):=by
    have e:l.drop (bX l lo)=(l.drop (bX l hi)).drop (bX l lo - bX l hi):=by rw [Y3]; congr 1; omega
    rw [e] at hx
    exact AA1 hx
   simpa using CK hs this
theorem AL{l:List Bs}(i:l.Pairwise (· < ·))(x):l.contains x=decide (l[bX l x]?=some x):=by
 rw [u9,U3,p6]
 constructor
 .intro h
  have g:x∈l.take (bX l x)++l.drop (bX l x):=by grind [List.take_append_drop]
  rcases P7.1 g with a | a
  .exact (lK (AJ a)).elim
  .obtain ⟨j,b⟩:=AA3 a
   rw [W8] at b
   have c:=(C4.1 b).1
   rcases l6 j with f | f
   .grind
   .have e:bX l x < l.length:=U
    have d:=(Z6.1 i) _ _ e c U
    rw [(C4.1 b).2] at d
    have:=(uC (J7 _) (E1 e)).1 d
    omega
 grind
theorem TO{l:List Bs}(h:dD l)(p):dD (l.filter p):=⟨λx a=>h.1 x zg,h.2.sublist si⟩
theorem CL:∀ l:List Bs,(∀ x∈l,x.length=32)->l.flatten.length=l.length*32
 | [],_=>rfl
 | x::l,a=>by
   rw [List.flatten_cons,C3,CL l λy b=>a y (by simp [b]),a x si,V0]
   omega
theorem FH{l:List Bs}(h:dD l)(lo hi):(inL l lo hi).flatten.length<=l.length*32:=by
 have e:(inL l lo hi).flatten.length=(inL l lo hi).length*32:=CL _ (TO h _).1
 grind [lZ]
def fA(l m:List Bs):List Bs:=l.filter λx=>m.contains x
theorem Ld{l m:List Bs}{x:Bs}(a:l[i]?=some x)(h:m.contains x=true):fA (l.take i) m++[x]=fA (l.take (i+1)) m:=FC a h
theorem Le{l m:List Bs}{x:Bs}(a:l[i]?=some x)(h:m.contains x=false):fA (l.take i) m=fA (l.take (i+1)) m:=FD a h
theorem FI(l m):(fA l m).length<=l.length:=k8 _ _
def eI(l:List Bs):Bs:=fP l.flatten
inductive AC where
 | sum (n : Nat) (f : Bs) | list (xs : List Bs) | ans (xs ms : List Bs)
 deriving DecidableEq
structure AP where
 (lo hi:Bs) (c:AC)
 deriving DecidableEq
def dF(its:List Bs)(lo hi:Bs):AP:=⟨lo,hi,.sum (inL its lo hi).length (eI (inL its lo hi))⟩
def kF(its own:List Bs)(fan:Nat)(lo:Bs):Nat -> Bs × List AP
 | 0=>(lo,[])
 | k+1=>if own.getD ((k+1)*own.length / fan) []=(kF its own fan lo k).1 then kF its own fan lo k else (own.getD ((k+1)*own.length / fan) [],(kF its own fan lo k).2++[dF its (kF its own fan lo k).1 (own.getD ((k+1)*own.length / fan) [])])
def mN(its:List Bs)(fan leaf:Nat)(lo hi:Bs)(n:Nat)(f:Bs):List AP :=
 if (inL its lo hi).length=n /\ eI (inL its lo hi)=f then []
 else if (inL its lo hi).length <= leaf then [⟨lo,hi,.list (inL its lo hi)⟩]
 else (kF its (inL its lo hi) fan lo (fan - 1)).2++[dF its (kF its (inL its lo hi) fan lo (fan - 1)).1 hi]
def oB(its:List Bs)(lo hi:Bs)(xs:List Bs):List AP :=
 if 0 < (aL (inL its lo hi) xs).length+(aL xs its).length then [⟨lo,hi,.ans (aL (inL its lo hi) xs) (aL xs its)⟩] else []
theorem yX{x:α}(a:l[i]?=some x):l.take i++[x]=l.take (i+1):=by grind [List.take_add_one]
abbrev bG:Bs:=[]
def AC.enc:AC -> Bs
 | .sum n f=>(aE 1++aE n)++f
 | .list xs=>aE 2++(aE xs.length++xs.flatten)
 | .ans xs ms=>(aE 3++(aE xs.length++xs.flatten))++(aE ms.length++ms.flatten)
def AP.enc(p:AP):Bs:=((aE p.lo.length++p.lo)++(aE p.hi.length++p.hi))++p.c.enc
def bK(ps:List AP):Bs:=if ps.length=0 then [] else aE ps.length++ps.flatMap AP.enc
def AC.fit:AC -> Prop
 | .sum n f=>n <= 16384 /\ f.length=32
 | .list xs=>xs.length <= 16384 /\ ∀ x∈xs,x.length=32
 | .ans xs ms=>(xs.length <= 16384 /\ ∀ x∈xs,x.length=32) /\ ms.length <= 16384 /\ ∀ x∈ms,x.length=32
def AP.fit(p:AP):Prop:=p.lo.length <= 32 /\ p.hi.length <= 32 /\ p.c.fit
theorem AQ{ps:List AP}{p:AP}(h:ps[i]?=some p):(ps.take i).flatMap AP.enc++p.enc=(ps.take (i+1)).flatMap AP.enc:=by
 rw [<- yX h,R3]
 simp
theorem Lf{ps:List AP}{p:AP}(h:ps[i]?=some p):((ps.take i).flatMap AP.enc).length+p.enc.length<=(ps.flatMap AP.enc).length:=by
 have e:=AQ h
 have a:ps.flatMap AP.enc=(ps.take (i+1)).flatMap AP.enc++(ps.drop (i+1)).flatMap AP.enc:=by rw [<- R3,S6]
 rw [a,<- e]
 simp only [C3]
 omega
theorem AR(n):0 < (aE n).length:=by
 unfold aE
 grind
theorem CM:∀ ps:List AP,ps.length<=(ps.flatMap AP.enc).length
 | []=>G6 _
 | p::ps=>by
   have h:=CM ps
   grind [AR,AP.enc]
theorem TP(fan leaf w):
  Θ 58 #[(.agg #[(C fan),(C leaf)])] w λe j=>e = .returned (.bool (uA fan leaf))/\aN [] w [] j:=by
 refine eO Tryz.func58 21 (B3 w) rfl<|Nc<|R<|pB _ λh=>G I<|Nb<|M (Z h 0)<|lL 0 I<|M (.bool (decide ((fan:Int)>=2)))<|lm ?_
 refine St.dec 6 I (λd=>?_) (λd=>?_)
 .have i:=D4 d
  refine lg (Z h 0)<|lu _ (bW 0 I I J I I)<|lg (.bool (decide ((fan:Int)<=16)))<|M (.bool (decide ((fan:Int)<=16)))<|lm ?_
  refine St.dec 11 I (λa=>?_) (λa=>?_)
  .have f:=D4 a
   refine lg (Z h 1)<|lu _ (bW 0 I I J I I)<|lg (.bool (decide ((leaf:Int)>=1)))<|M (.bool (decide ((leaf:Int)>=1)))<|lm ?_
   refine St.dec 16 I (λb=>?_) (λb=>?_)
   .have g:=D4 b
    exact lg (Z h 1)<|lu _ (bW 0 rfl rfl J rfl rfl)<|lg (.bool (decide ((leaf:Int)<=64)))<|M (.bool (decide ((leaf:Int)<=64)))<|G rfl<|Nd<|sN [(.bool (decide (leaf<=64)))] λw c=>⟨gK (by unfold uA; grind),(c.pick [] I I)⟩
   .have g:=C7 b
    exact G I<|lF<|G rfl<|Nd<|sN [bF] λw c=>⟨gK (by unfold uA; grind),(c.pick [] I I)⟩
  .have f:=C7 a
   exact G I<|lF<|G rfl<|lF<|G rfl<|Nd<|sN [bF] λw c=>⟨gK (by unfold uA; grind),(c.pick [] I I)⟩
 .have i:=C7 d
  exact G I<|lF<|G rfl<|lF<|G rfl<|lF<|G rfl<|Nd<|sN [bF] λw c=>⟨gK (by unfold uA; grind),(c.pick [] I I)⟩
abbrev B4{α:Type}(a:List α):=Y a.length
abbrev T4(a:List (List UInt8)):Value:=.bool (decide (((a.length:Nat):Int) > 16384))
abbrev G5(a:Option Addr)(b:List (List UInt8))(c:Nat)(d:Nat):=[(0,(V a b c)),(2,(C 0)),(8,(V a b c)),(9,(Y b.length)),(10,(Y d))]
abbrev C5(a:Nat)(b:List (List UInt8)):Value:=.bool (decide (((a:Nat):Int) < ((b.length:Nat):Int)))
abbrev D0(a:Nat):Value:=.bool (decide (((a:Nat):Int) > 0))
abbrev Q6(a):=Y (a - 1)
theorem yY(A c l w)(E:Rf [] w (λw=>aI w A (SS l)))(K:l.length<=9223372036854775807):
  Θ 7 #[(V A l c)] w λe P=>e = .returned (C (eM l))/\aN [] w [] P:=by
 have L:=K
 refine eO Tryz.func7 32 (B3 w) I<|Nc<|G I<|Ne<|G I<|M (B4 l)<|M (T4 l) ?_
 refine ζ I (λu=>?_) λu=>?_
 .exact Nc<|G rfl<|Nh<|sN [_] λw b=>⟨jK (KV U).symm,b⟩
 .refine Nl<|Nc<|G rfl<|M (B4 l)<|G rfl<|Ng<|sL (λi=>i<=l.length/\dD (l.take i)) (λi=>l.length - i) (λi=>(G5 A l c i)) (λi=>[]) 0 ⟨G6 _,KW⟩ η ?_
  intro i s
  show St _ _ _ (G5 A l c i) [] _
  refine Nc<|M (C5 i l) ?_
  refine χ I (λq=>?_) λq=>?_
  .refine Nm<|aF<|G I ?_
   obtain ⟨t,f⟩:∃ Q,(l)[i]?=some Q:=⟨_,E1 U⟩
   refine St.fC (λw b=>E.now b) (fR f) (λz N g m=>lw (Z z _) (rR 9 g)<|lW (rW m)<|G I<|Nb<|G I<|lw (Y _) (yI I I J)<|M (.bool (((((t).length:Nat):Int):Int) != 32))<|lm ?_)
   refine St.dec 18 I (λn=>?_) (λn=>?_)
   .refine G I<|lR ?_
    iterate 6 refine lR ?_
    exact G I<|lT<|No<|G rfl<|Nd<|eL<|cJ<|cJ<|eL<|cJ<|sN [(C 1)] λw b=>⟨jK (CG U (λh=>by have D:=CH (i+1) h; grind [vF])).symm,b⟩
   .refine G I<|lg (D0 i)<|uW ?_
    refine St.dec 21 I (λd=>?_) (λd=>?_)
    .have r:=D4 d
     refine G I<|lu (Q6 i) (jT _ I I I U U U) ?_
     obtain ⟨F,y⟩:=gk l (i - 1) U
     refine St.fC (λw b=>E.now b) (fR y) (λB O k o=>lu (Z B _) (qF (e:=9) I J J I I k U)<|lu _ (gN I I J o)<|G I<|lu _ (tS I I I)<|lg (.bool (!decide (F < t)))<|M (.bool (!decide (F < t))) ?_)
     refine qi I (λp=>?_) λp=>?_
     .exact Nc<|G rfl<|Nd<|eL<|cJ<|cJ<|eL<|cJ<|sN [(C 1)] λw b=>⟨jK (CG U (λh=>by have D:=CH (i+1) h; have S:=((vF f).1 D).2; grind)).symm,b⟩
     .have a:∀ j x,i=j+1->l[j]?=some x->x < t:=λj x H T=>by grind
      exact Nw<|aF<|lw (Y (i+1)) bN<|G I<|aO (aJ (sA _ (⟨U,(vF f).2 ⟨s.2,by grind,a⟩⟩) oz η))
    .have r:=C7 d
     have a:∀ j x,i=j+1->l[j]?=some x->x < t:=λj x H _=>by omega
     exact G I<|lg bF<|lF<|Nu<|Nw<|aF<|lw (Y (i+1)) bN<|G I<|aO (aJ (sA _ (⟨U,(vF f).2 ⟨s.2,by grind,a⟩⟩) oz η))
  .exact Nj<|aF<|G rfl<|Nd<|sN [_] λw b=>⟨jK (qJ U (by grind)).symm,b⟩
theorem FJ(A c l w)(E:Rf [] w (λw=>aI w A (SS l)))(K:l.length<=9223372036854775807):
  Θ 56 #[(V A l c)] w λe P=>e = .returned (C (eM l))/\aN [] w [] P:=by
 have L:=K
 refine eO Tryz.func56 32 (B3 w) I<|Nc<|G I<|Ne<|G I<|M (B4 l)<|M (T4 l) ?_
 refine ζ I (λu=>?_) λu=>?_
 .exact Nc<|G rfl<|Nh<|sN [_] λw b=>⟨jK (KV U).symm,b⟩
 .refine Nl<|Nc<|G rfl<|M (B4 l)<|G rfl<|Ng<|sL (λi=>i<=l.length/\dD (l.take i)) (λi=>l.length - i) (λi=>(G5 A l c i)) (λi=>[]) 0 ⟨G6 _,KW⟩ η ?_
  intro i s
  show St _ _ _ (G5 A l c i) [] _
  refine Nc<|M (C5 i l) ?_
  refine χ I (λq=>?_) λq=>?_
  .refine Nm<|aF<|G I ?_
   obtain ⟨t,f⟩:∃ Q,(l)[i]?=some Q:=⟨_,E1 U⟩
   refine St.fC (λw b=>E.now b) (fR f) (λz N g m=>lw (Z z _) (rR 9 g)<|lW (rW m)<|G I<|Nb<|G I<|lw (Y _) (yI I I J)<|M (.bool (((((t).length:Nat):Int):Int) != 32))<|lm ?_)
   refine St.dec 18 I (λn=>?_) (λn=>?_)
   .refine G I<|lR ?_
    iterate 6 refine lR ?_
    exact G I<|lT<|No<|G rfl<|Nd<|eL<|cJ<|cJ<|eL<|cJ<|sN [(C 1)] λw b=>⟨jK (CG U (λh=>by have D:=CH (i+1) h; grind [vF])).symm,b⟩
   .refine G I<|lg (D0 i)<|uW ?_
    refine St.dec 21 I (λd=>?_) (λd=>?_)
    .have r:=D4 d
     refine G I<|lu (Q6 i) (jT _ I I I U U U) ?_
     obtain ⟨F,y⟩:=gk l (i - 1) U
     refine St.fC (λw b=>E.now b) (fR y) (λB O k o=>lu (Z B _) (qF (e:=9) I J J I I k U)<|lu _ (gN I I J o)<|G I<|lu _ (tS I I I)<|lg (.bool (!decide (F < t)))<|M (.bool (!decide (F < t))) ?_)
     refine qi I (λp=>?_) λp=>?_
     .exact Nc<|G rfl<|Nd<|eL<|cJ<|cJ<|eL<|cJ<|sN [(C 1)] λw b=>⟨jK (CG U (λh=>by have D:=CH (i+1) h; have S:=((vF f).1 D).2; grind)).symm,b⟩
     .have a:∀ j x,i=j+1->l[j]?=some x->x < t:=λj x H T=>by grind
      exact Nw<|aF<|lw (Y (i+1)) bN<|G I<|aO (aJ (sA _ (⟨U,(vF f).2 ⟨s.2,by grind,a⟩⟩) oz η))
    .have r:=C7 d
     have a:∀ j x,i=j+1->l[j]?=some x->x < t:=λj x H _=>by omega
     exact G I<|lg bF<|lF<|Nu<|Nw<|aF<|lw (Y (i+1)) bN<|G I<|aO (aJ (sA _ (⟨U,(vF f).2 ⟨s.2,by grind,a⟩⟩) oz η))
  .exact Nj<|aF<|G rfl<|Nd<|sN [_] λw b=>⟨jK (qJ U (by grind)).symm,b⟩
abbrev G0(a:Nat)(b:List (List UInt8)):=qb a b.length
theorem Lg(A c l x w)(o:Rf [] w (λw=>aI w A (SS l)))(r:l.length<=68719476736):
  Θ 87 #[(V A l c),(vS x)] w λe p=>e = .returned (.bool (l.contains x))/\aN [] w [] p:=by
 refine bS Tryz.func87 17 (B3 w) rfl<|Nc<|G rfl<|Ne<|G rfl<|M (B4 l)<|G rfl<|Ng<|sL (λi=>i<=l.length/\(l.take i).contains x=false) (λi=>l.length - i) (λi=>[(1,(vS x)),(4,bF),(7,(V A l c)),(8,(B4 l)),(9,(Y i))]) (λi=>[]) 0 ⟨G6 _,I⟩ η ?_
 intro i k
 show St _ _ _ [(1,(vS x)),(4,bF),(7,(V A l c)),(8,(B4 l)),(9,(Y i))] [] _
 refine Nc<|M (G0 i l) ?_
 refine χ I (λh=>?_) λh=>?_
 .refine Nm<|aF ?_
  obtain ⟨s,b⟩:∃ q,(l)[i]?=some q:=⟨_,E1 U⟩
  refine St.fC (λw f=>o.now f) (fR b) (λm n d g=>lw (Z m _) (rR 9 d)<|lW (rW g)<|G I<|Nb<|G I<|lw _ (lQ I I I) ?_)
  refine qi I (λa=>?_) λa=>?_
  .have j:=D4 a
   exact Nc<|G rfl<|Nd<|eL<|cJ<|cJ<|eL<|cJ<|sN [bT] λw f=>⟨gK (TH b a).symm,f⟩
  .have j:=C7 a
   exact Nw<|aF<|lw (Y (i+1)) bN<|G I<|aO (aJ (sA _ (⟨U,TG b k.2 a⟩) oz η))
 .exact Nj<|aF<|G rfl<|Nd<|sN [bF] λw f=>⟨gK (by grind),f⟩
abbrev R4(a:List UInt8):Value:=.bool (decide (a=[]))
theorem AS(A c l lo hi w)(x:Rf [] w (λw=>aI w A (SS l)))(D:l.length<=68719476736):
  Θ 84 #[(V A l c),(vS lo),(vS hi)] w λe y=>∃ (B:Δ) (cb:Nat),e = .returned (V B (inL l lo hi) cb)/\aN [] w [cS B (inL l lo hi) cb] y:=by
 refine kN Tryz.func84 34 (B3 w) rfl<|Nc<|G rfl<|Nb<|G rfl<|Ne<|G rfl<|M (B4 l)<|G rfl<|Ng<|St.mem (λw m=>m.gB 9 1)<|sL (λ(i,B,cb)=>i<=l.length) (λ(i,B,cb)=>l.length - i) (λ(i,B,cb)=>[(1,(vS lo)),(2,(vS hi)),(6,nS),(10,(V A l c)),(11,(B4 l)),(7,(V B (inL (l.take i) lo hi) cb)),(12,(Y i))]) (λ(i,B,cb)=>[cS B (inL (l.take i) lo hi) cb]) (0,none,0) (G6 _) η ?_
 rintro ⟨i,B,cb⟩ (t:i<=l.length)
 dsimp only
 refine Nc<|M (C5 i l) ?_
 refine aO (aJ (aT (aY I (λd=>?_) (λd=>?_))))
 .have o:=D4 d
  refine Nm<|aF ?_
  obtain ⟨h,g⟩:∃ z,(l)[i]?=some z:=⟨_,E1 U⟩
  refine St.fC (λw m=>x.now m) (fR g) (λs u k n=>lw (Z s _) (rR 9 k)<|lW (rW n)<|G I<|Nb<|G I<|lw _ (Ji I I I)<|lm ?_)
  refine St.dec 19 I (λf=>?_) (λf=>?_)
  .refine G I<|lu (R4 hi) (lQ I I I)<|uW ?_
   refine St.dec 22 I (λa=>?_) (λa=>?_)
   .have p:=D4 a
    refine G I<|lg bT<|lT<|Nt<|aF<|G rfl<|R<|pN 1 9 [(vS h)] λr=>R<|cL gD 0 _ rfl rfl J rfl rfl rfl (rfl) (fE (i:=1) rfl yy) (by simp [Value.oneCell']) (by grind [lZ]) ((inL (l.take i) lo hi++[h]).length) dV (SS (inL (l.take i) lo hi++[h])) (by grind) (λA31 j=>G I<|Nk<|aF<|lw (Y (i+1)) bN<|G I<|Na ?_)
    rw [show inL _ lo hi++[h]=inL _ lo hi from KX g (by simp_all [inR])]
    exact sA (i+1,A31,j) oz oz (κ [0] I I)
   .have p:=C7 a
    refine G I<|lu _ (wL I I I)<|lg (.bool (decide (h < hi)))<|M (.bool (decide (h < hi))) ?_
    refine qi I (λb=>?_) λb=>?_
    .have q:=D4 b
     refine aF<|G rfl<|R<|pN 1 9 [(vS h)] λr=>R<|cL gD 0 _ rfl rfl J rfl rfl rfl (rfl) (fE (i:=1) rfl yy) (by simp [Value.oneCell']) (by grind [lZ]) ((inL (l.take i) lo hi++[h]).length) dV (SS (inL (l.take i) lo hi++[h])) (by grind) (λA31 j=>G I<|Nk ?_)
     refine xd ?_
     refine aF<|lw (Y (i+1)) bN<|G I<|Na ?_
     rw [show inL _ lo hi++[h]=inL _ lo hi from KX g (by simp_all [inR])]
     exact sA (i+1,A31,j) oz oz (κ [0] I I)
    .have q:=C7 b
     refine Nw<|aF<|lw (Y (i+1)) bN<|G I<|Na ?_
     rw [show inL _ lo hi=inL _ lo hi from KY g (by grind [inR])]
     exact sA (i+1,B,cb) oz oz η
  .refine G I<|lR ?_
   refine lR ?_
   refine lR ?_
   refine G I<|lF<|Nu<|Nw<|aF<|lw (Y (i+1)) bN<|G I<|Na ?_
   rw [show inL _ lo hi=inL _ lo hi from KY g (by first | (unfold inR; rw [f,a,b]; rfl) | (unfold inR; rw [f]; rfl))]
   exact sA (i+1,B,cb) (by show _<=_; omega) (by show l.length - (i+1) < l.length - i; omega) η
 .have o:=C7 d
  obtain rfl:i=l.length:=U
  rw [R0]
  exact Nj<|aF<|G rfl<|Nd<|sN [_] λw m=>⟨B,cb,I,m⟩
theorem wU(A c l A2 k m w)(t:Rf [] w (λw=>aI w A (SS l)))(u:Rf [] w (λw=>aI w A2 (SS m)))(y:l.length<=68719476736)(r:m.length<=68719476736):
  Θ 81 #[(V A l c),(V A2 m k)] w λe x=>∃ (B:Δ) (cb:Nat),e = .returned (V B (aL l m) cb)/\aN [] w [cS B (aL l m) cb] x:=by
 refine bS Tryz.func81 24 (B3 w) rfl<|Nc<|G rfl<|Nb<|G rfl<|Ne<|G rfl<|M (B4 l)<|G rfl<|Ng<|St.mem (λw b=>b.gB 9 1)<|sL (λ(i,B,cb)=>i<=l.length) (λ(i,B,cb)=>l.length - i) (λ(i,B,cb)=>[(1,(V A2 m k)),(4,nS),(8,(V A l c)),(9,(B4 l)),(5,(V B (aL (l.take i) m) cb)),(10,(Y i))]) (λ(i,B,cb)=>[cS B (aL (l.take i) m) cb]) (0,none,0) (G6 _) η ?_
 rintro ⟨i,B,cb⟩ (s:i<=l.length)
 dsimp only
 refine Nc<|M (G0 i l) ?_
 refine χ I (λj=>?_) λj=>?_
 .refine Nm<|aF ?_
  obtain ⟨f,d⟩:=gk l i U
  refine St.fC (λw b=>t.now b) (fR d) (λo p g h=>lw (Z o (p+i)) (rR 9 g)<|lW (rW h)<|G rfl<|Nb<|G rfl<|R<|bV (λw b=>Lg A2 k m f w (u.aX b) U)<|M (.bool (!(m.contains f))) ?_)
  refine qi I (λa=>?_) λa=>?_
  .refine aF<|G rfl<|R<|pN 1 9 [(vS f)] λq=>R<|cL gD 0 ([(vS f)]) rfl rfl J rfl rfl rfl (rfl) (fE (i:=1) rfl yy) (by simp [Value.oneCell']) (by grind [iN]) ((aL (l.take i) m++[f]).length) dV (SS (aL (l.take i) m++[f])) (by grind) (λA21 n=>G I<|Nk<|aF<|lw (Y (i+1)) bN<|G I<|Na ?_)
   rw [show aL (l.take i) m++[f]=aL (l.take (i+1)) m from yU d (su a)]
   exact sA (i+1,A21,n) oz oz (κ [0] I I)
  .refine Nw<|aF<|lw (Y (i+1)) bN<|G I<|Na ?_
   rw [show aL (l.take i) m=aL (l.take (i+1)) m from yV d (su a)]
   exact sA (i+1,B,cb) oz oz η
 .obtain rfl:i=l.length:=U
  rw [R0]
  exact Nj<|aF<|G rfl<|Nd<|sN [(V B (aL l m) cb)] λw b=>⟨B,cb,I,b⟩
theorem TR(A c l A2 r m w)(D:Rf [] w (λw=>aI w A (SS l)))(E:Rf [] w (λw=>aI w A2 (SS m)))(L:l.length<=68719476736)(B:m.length<=68719476736):
  Θ 49 #[(V A l c),(V A2 m r)] w λe F=>e = .returned (.bool (decide (l=m)))/\aN [] w [] F:=by
 refine bS Tryz.func49 26 (B3 w) I<|Nc<|G I<|Ne<|G I<|M (B4 l)<|G I<|M (B4 m)<|M (.bool ((((l.length:Nat):Int):Int) != ((m.length:Nat):Int))) ?_
 refine qi I (λk=>?_) λk=>?_
 .exact Nc<|G rfl<|Nh<|sN [bF] λw b=>⟨gK (by grind),b⟩
 .have z:l.length=m.length:=by grind
  refine Nl<|Nc<|G rfl<|M (B4 l)<|G rfl<|Ng<|sL (λi=>i<=l.length/\l.take i=m.take i) (λi=>l.length - i) (λi=>[(0,(V A l c)),(1,(V A2 m r)),(4,bF),(12,(B4 l)),(13,(Y i))]) (λi=>[]) 0 ⟨G6 _,I⟩ η ?_
  intro i q
  show St _ _ _ [(0,(V A l c)),(1,(V A2 m r)),(4,bF),(12,(B4 l)),(13,(Y i))] [] _
  refine Nc<|M (G0 i l) ?_
  refine χ I (λp=>?_) λp=>?_
  .refine Nm<|aF<|G I<|Nf<|dN [] 9 J η<|am 0 ?_
   refine am 1 ?_
   obtain ⟨H,f⟩:=gk l i U
   refine Any.fC (λw b=>D.now b) (fR f) (λt x g n=>aV 2 (Z t (x+i)) I (rR 9 g)<|aV 3 _ I (rW n)<|am 4 ?_)
   refine am 5 ?_
   obtain ⟨K,d⟩:=gk m i U
   refine Any.fC (λw b=>E.now b) (fR d) (λu y j o=>aV 6 (Z u (y+i)) I (rR 9 j)<|aV 7 _ I (rW o)<|aV 8 (.bool (!decide (H=K))) I (qC I I I)<|cG J ?_)
   refine aJ (aY I (λa=>?_) (λa=>?_))
   .exact Nc<|G rfl<|Nd<|eL<|cJ<|cJ<|eL<|cJ<|sN [bF] λw b=>⟨gK (by have s:l≠m:=(λh=>by subst h; rw [f] at d; cases d; simp at a); exact (AHe s).symm),b⟩
   .exact Nw<|aF<|lw (Y (i+1)) bN<|G I<|aO (aJ (sA (i+1) (⟨U,TI f d q.2 (su a)⟩) oz η))
  .exact Nj<|aF<|G rfl<|Nd<|sN [bT] λw b=>⟨gK (by have h:=q.2; rw [U2 U,U2 U] at h; exact (ADd h).symm),b⟩
abbrev F6(a b):=[(vS a),(vS b)]
theorem TS(lo hi w):
  Θ 207 #[(.agg #[(vS lo),(vS hi)])] w λe f=>e = .returned (.bool (nK lo hi))/\aN [] w [] f:=by
 refine eO Tryz.func207 13 (B3 w) rfl<|Nc<|R<|pB (F6 lo hi) λb=>G I<|Nb<|M (Z b 1)<|lL 0 I<|lw (R4 hi) (lQ I I I)<|lm ?_
 refine St.dec 6 I (λa=>?_) (λa=>?_)
 .have d:=D4 a
  exact G I<|lT<|G rfl<|Nd<|sN [bT] λw c=>⟨gK (by unfold nK; simp_all),(c.pick [] I I)⟩
 .have d:=C7 a
  exact lg (Z b 0)<|lu (vS lo) (bW 0 rfl rfl J rfl rfl)<|lg (Z b 1)<|lu (vS hi) (bW 0 rfl rfl J rfl rfl)<|lu (.bool (decide (lo < hi))) (wL rfl rfl rfl)<|M (.bool (decide (lo < hi)))<|G rfl<|Nd<|sN [(.bool (decide (lo < hi)))] λw c=>⟨gK (by unfold nK; grind),(c.pick [] I I)⟩
theorem TT(lo hi x w):
  Θ 245 #[(.agg #[(vS lo),(vS hi)]),(vS x)] w λe g=>e = .returned (.bool (inR lo hi x))/\aN [] w [] g:=by
 refine bS Tryz.func245 20 (B3 w) rfl<|Nc<|R<|pB (F6 lo hi) λd=>G I<|Nb<|M (Z d 0)<|lL 0 I<|G I<|lw (.bool (decide (lo < x) || decide (lo=x))) (Ji I I I)<|lm ?_
 refine St.dec 9 I (λf=>?_) (λf=>?_)
 .refine lg (Z d 1)<|lu (vS hi) (bW 0 I I J I I)<|lu (R4 hi) (lQ I I I)<|uW ?_
  refine St.dec 13 I (λa=>?_) (λa=>?_)
  .have c:=D4 a
   exact G I<|lg bT<|lT<|G rfl<|Nd<|sN [bT] λw b=>⟨gK (by grind [inR]),(b.pick [] I I)⟩
  .have c:=C7 a
   exact G I<|lg (Z d 1)<|lu (vS hi) (bW 0 rfl rfl J rfl rfl)<|lu (.bool (decide (x < hi))) (wL rfl rfl rfl)<|lg (.bool (decide (x < hi)))<|M (.bool (decide (x < hi)))<|G rfl<|Nd<|sN [(.bool (decide (x < hi)))] λw b=>⟨gK (by grind [inR]),(b.pick [] I I)⟩
 .refine G I<|lR ?_
  iterate 3 refine lR ?_
  exact G I<|lF<|G rfl<|Nd<|sN [bF] λw b=>⟨gK (by grind [inR]),(b.pick [] I I)⟩
theorem Lh(x w):
  Θ 206 #[(vS x)] w λe d=>e = .returned (.bool (iU x))/\aN [] w [] d:=by
 refine eO Tryz.func206 10 (B3 w) I<|Nc<|G I<|Nb<|G I<|lw (R4 x) (lQ I I I)<|lm ?_
 refine St.dec 5 I (λa=>?_) (λa=>?_)
 .have c:=D4 a
  exact G I<|lT<|G rfl<|Nd<|sN [bT] λw b=>⟨gK (by unfold iU; grind),b⟩
 .have c:=C7 a
  exact G I<|lu (Y ((x).length)) (yI rfl rfl J)<|lg (.bool (((((x).length:Nat):Int):Int) == 32))<|M (.bool (((((x).length:Nat):Int):Int) == 32))<|G rfl<|Nd<|sN [(.bool (((((x).length:Nat):Int):Int) == 32))] λw b=>⟨gK (by unfold iU; grind),b⟩
theorem FK(A c l lo hi w)(r0:Rf [] w (λw=>aI w A (SS l)))(hl:l.length<=68719476736):
  Θ 243 #[(V A l c),(.agg #[(vS lo),(vS hi)])] w λe w'=>e = .returned (.bool (fN l lo hi))/\aN [] w [] w':=by
 refine bS Tryz.func243 32 (Mm.start w []) rfl<|Nc<|R<|pB [(vS lo),(vS hi)] λb3=>G rfl<|Ne<|G rfl<|M (Y l.length)<|G rfl<|Ng<|sL (λi=>i<=l.length/\fN (l.take i) lo hi=true) (λi=>l.length - i) (λi=>[(0,(V A l c)),(3,(Z b3 0)),(4,bF),(7,(V A l c)),(8,(Y l.length)),(9,(Y i))]) (λi=>[aD b3 236 [(vS lo),(vS hi)]]) 0 ⟨U,rfl⟩ zg ?_
 intro i hok
 show St _ _ _ [(0,(V A l c)),(3,(Z b3 0)),(4,bF),(7,(V A l c)),(8,(Y l.length)),(9,(Y i))] [aD b3 236 [(vS lo),(vS hi)]] _
 refine Nc<|M (qb i l.length) ?_
 refine χ rfl (λhd10=>?_) λhd10=>?_
 .refine Nm<|aF<|G rfl ?_
  obtain ⟨x0,hx0⟩:=gk l i U
  refine St.fC (λw hM=>r0.now hM) (fR hx0) (λp12 q12 hA12 hc12=>lw (Z p12 (q12+i)) (rR 9 hA12)<|lW (rW hc12)<|G rfl<|Nb<|lW (zr 0 rfl)<|G rfl<|R<|bV (λw hM=>TT lo hi x0 w )<|M (.bool (!(inR lo hi x0)))<|lm ?_)
  refine St.dec 18 rfl (λhc18=>?_) (λhc18=>?_)
  .refine G rfl<|lR ?_
   iterate 6 refine lR ?_
   exact G rfl<|lT<|No<|G rfl<|Nd<|eL<|cJ<|cJ<|eL<|cJ<|sN [bF] λw hM=>⟨gK (by grind [KZ]),(hM.pick [] rfl rfl)⟩
  .refine G rfl<|lg (D0 i)<|uW ?_
   refine St.dec 21 rfl (λhc21=>?_) (λhc21=>?_)
   .have hd21:=D4 hc21
    refine G rfl<|lu (Q6 i) (jT _ rfl rfl rfl U U U) ?_
    obtain ⟨x1,hx1⟩:=gk l (i - 1) U
    refine St.fC (λw hM=>r0.now hM) (fR hx1) (λp25 q25 hA25 hc25=>lu (Z p25 (q25+(i - 1))) (qF (e:=9) rfl J J rfl rfl hA25 U)<|lu (vS x1) (gN rfl rfl J hc25)<|G rfl<|lu (.bool (!decide (x1 < x0))) (tS rfl rfl rfl)<|lg (.bool (!decide (x1 < x0)))<|M (.bool (!decide (x1 < x0))) ?_)
    refine qi rfl (λhc30=>?_) λhc30=>?_
    .exact Nc<|G rfl<|Nd<|eL<|cJ<|cJ<|eL<|cJ<|sN [bF] λw hM=>⟨gK (by have hn:fN l lo hi=false:=KZ hx0 (λh=>by grind); grind),(hM.pick [] rfl rfl)⟩
    .have hlast:∀ j x,i=j+1->l[j]?=some x->x < x0:=λj x hj hx=>by grind
     exact Nw<|aF<|lw (Y (i+1)) bN<|G rfl<|aO (aJ (sA (i+1) (⟨U,(FE hx0).2 ⟨hok.2,by grind,hlast⟩⟩) oz η))
   .have hd21:=C7 hc21
    have hlast:∀ j x,i=j+1->l[j]?=some x->x < x0:=λj x hj _=>by omega
    exact G rfl<|lg bF<|lF<|Nu<|Nw<|aF<|lw (Y (i+1)) bN<|G rfl<|aO (aJ (sA (i+1) (⟨U,(FE hx0).2 ⟨hok.2,by grind,hlast⟩⟩) oz η))
 .exact Nj<|aF<|G rfl<|Nd<|sN [bT] λw hM=>⟨gK (by grind),(hM.pick [] rfl rfl)⟩
theorem Li(A c l w)(g:Rf [] w (eG))(h:Rf [] w (λw=>aI w A (SS l)))(d:l.flatten.length<=549755813888)(f:l.length<=1000):
  Θ 57 #[(V A l c)] w λe i=>e = .returned (vS (fP l.flatten))/\aN [] w [] i:=(JJ A c l w g.here h.here d f).mono λ_ _ ⟨a,b⟩=>⟨a,Mm.rT b⟩
theorem TU(A c bs w)(f:Rf [] w (λw=>aI w A (B8 bs)))(d:bs.length<=68719476736):
  Θ 74 #[(V A bs c)] w λe g=>e = .returned (vS (fP bs))/\aN [] w [] g:=(ET A c bs w f.here d).mono λ_ _ ⟨a,b⟩=>⟨a,Mm.rT b⟩
theorem yZ(A c l w)(s:Rf [] w (λw=>aI w A (SS l)))(y:l.length<=68719476736)(x:l.flatten.length<=68719476736):
  Θ 39 #[(V A l c)] w λe t=>e = .returned (vS (eI l))/\aN [] w [] t:=by
 refine eO Tryz.func39 19 (B3 w) rfl<|Nc<|G rfl<|Nb<|G rfl<|Ne<|G rfl<|M (Y l.length)<|G rfl<|Ng<|sL (λi=>i<=l.length) (λi=>l.length - i) (λi=>[(2,(.string ⟨#[]⟩)),(6,(V A l c)),(7,(Y l.length)),(3,(vS ((l.take i).flatten))),(8,(Y i))]) (λi=>[]) 0 (G6 _) (λ_ h=>h) ?_
 intro i r
 show St _ _ _ [(2,(.string ⟨#[]⟩)),(6,(V A l c)),(7,(Y l.length)),(3,(vS ((l.take i).flatten))),(8,(Y i))] [] _
 refine Nc<|M (.bool (decide ((i:Int) < ((l.length:Nat):Int)))) ?_
 refine qj I (λb=>?_) λb=>?_
 .have n:=D4 b
  refine Nm<|aF ?_
  obtain ⟨q,d⟩:∃ u,(l)[i]?=some u:=⟨_,E1 U⟩
  refine St.fC (λw a=>s.now a) (fR d) (λo p f g=>lw (Z o (p+i)) (rR 9 f)<|lW (rW g)<|G I<|Nv<|G I<|lw (vS ((l.take i).flatten++q)) (Jm I I I (by have:=FF (l:=l) d; omega))<|G I<|Nk<|aF<|lw (Y (i+1)) bN<|G I<|Na ?_)
  rw [show (l.take i).flatten++q=(l.take (i+1)).flatten from AG d]
  exact sA (i+1) oz oz (λw a=>a)
 .have n:=C7 b
  obtain rfl:i=l.length:=U
  rw [R0]
  exact Nj<|aF<|G rfl<|R<|Rb (e:=5) (bs:=l.flatten) rfl rfl J J J J rfl (λk m=>R<|bV (λw a=>TU (some ⟨k,0,none⟩) m l.flatten w (a.aR (j:=0) I (λ_ h=>EJ h)) U)<|G rfl<|Nd<|sN [(vS (fP l.flatten))] λw a=>⟨I,(a.pick [] I I)⟩)
abbrev M6(a:List (List UInt8)):Value:=.bool (((eM a):Int) != 0)
theorem Lj(A c l w)(r0:Rf [] w (λw=>aI w A (SS l)))(hl:l.length<=9223372036854775807)(he:eM l≠0):
  Θ 22 #[(V A l c)] w λe w'=>e = .returned (.tuple #[(vS []),(C (eM l))])/\aN [] w [] w':=by
 exact eO Tryz.func22 12 (B3 w) rfl<|Nc<|G rfl<|Ne<|G rfl<|R<|bV (λw hM=>FJ A c l w (r0.aX hM) U)<|G rfl<|Nb<|G rfl<|M (M6 l)<|Na<|lG rfl (by simpa using he)<|Nc<|G rfl<|Nh<|sN [_,_] λw hM=>⟨I,hM⟩
theorem zA(A c l w)(r0:Rf [] w (eG))(r1:Rf [] w (λw=>aI w A (SS l)))(hl:l.length<=9223372036854775807)(he:eM l=0)(h40:l.length<=1000):
  Θ 22 #[(V A l c)] w λe w'=>e = .returned (.tuple #[(vS (eI l)),(C 0)])/\aN [] w [] w':=by
 exact eO Tryz.func22 12 (B3 w) rfl<|Nc<|G rfl<|Ne<|G rfl<|R<|bV (λw hM=>FJ A c l w (r1.aX hM) U)<|G rfl<|Nb<|G rfl<|M (M6 l)<|Na<|fD rfl (by simp [he])<|Ni<|G rfl<|R<|bV (λw hM=>Li A c l w (r0.aX hM) (r1.aX hM) (by have:=AF (uB he); omega) U)<|G rfl<|Nd<|sN [_,_] λw hM=>⟨rfl,hM⟩
theorem sX(A c l A2 c2 m w)(r0:Rf [] w (λw=>aI w A (SS l)))(r1:Rf [] w (λw=>aI w A2 (SS m)))(hl:l.length<=4294967296)(hl2:m.length<=4294967296):
  Θ 80 #[(V A l c),(V A2 m c2)] w λe w'=>∃ (B:Δ) (cb:Nat),e = .returned (V B (aH l m) cb)/\aN [] w [cS B (aH l m) cb] w':=by
 refine bS Tryz.func80 49 (B3 w) rfl<|Nc<|G rfl<|Nb<|R<|pN 0 9 [] λb9=>G I<|R<|oP (λw hM=>hM.tJ 0 I 1)<|cL gD 0 _ rfl rfl J rfl rfl rfl si (λw hM=>eN.gJ (r0.now hM)) (mJ) (by simp only [K7]; omega) ((l).length) dV (SS (l)) (by simp [SS]) (λA11 c11=>G I<|Ne<|G rfl<|M (B4 m)<|G rfl<|Ng<|sL (λ(i,B,cb)=>i<=m.length) (λ(i,B,cb)=>m.length - i) (λ(i,B,cb)=>[(4,nS),(12,(V A2 m c2)),(13,(B4 m)),(5,(V B (aH l (m.take i)) cb)),(14,(Y i))]) (λ(i,B,cb)=>[cS B (aH l (m.take i)) cb]) (0,A11,c11) (G6 _) η ?_)
 rintro ⟨i,B,cb⟩ (hok:i<=m.length)
 dsimp only
 refine Nc<|M (C5 i m) ?_
 refine aO (aJ (aT (aY I (λhc15=>?_) (λhc15=>?_))))
 .have hd15:=D4 hc15
  have hwl:(aH l (m.take i)).length<=l.length+m.length:=by have h:=wT (m.take i) l; rw [I8] at h; omega
  refine Nm<|aF ?_
  obtain ⟨x0,hx0⟩:∃ ξ,(m)[i]?=some ξ:=⟨_,E1 U⟩
  refine St.fC (λw hM=>r1.now hM) (fR hx0) (λp16 q16 hA16 hc16=>lw (Z p16 _) (rR 9 hA16)<|lW (rW hc16)<|G rfl<|Ne<|G rfl<|R<|bV (λw hM=>Lg B cb _ x0 w (hM.aR (j:=0) I (λ_ h=>aI.bM h)) U) ?_)
  refine qi I (λhc20=>?_) λhc20=>?_
  .refine pJ<|jB<|kL<|aJ<|aF<|lw (Y (i+1)) bN<|G I<|Na ?_
   rw [show aH l _=aH l _ from TN hx0 hc20]
   exact sA (i+1,B,cb) oz oz zg
  .refine Ni<|G rfl<|Nf<|fY<|sL (λk=>k<=bX (aH l (m.take i)) x0) (λk=>(aH l (m.take i)).length - k) (λk=>[(4,nS),(5,(V B (aH l (m.take i)) cb)),(7,(vS x0)),(12,(V A2 m c2)),(13,(B4 m)),(14,(Y i)),(8,(Y k))]) (λk=>[cS B (aH l (m.take i)) cb]) 0 (G6 _) η ?_
   intro k hok2
   show St _ _ _ [(4,nS),(5,(V B (aH l (m.take i)) cb)),(7,(vS x0)),(12,(V A2 m c2)),(13,(B4 m)),(14,(Y i)),(8,(Y k))] [cS B (aH l (m.take i)) cb] _
   refine Ny<|G I<|M (Y ((aH l (m.take i)).length))<|M (.bool (decide ((k:Int) < (((aH l (m.take i)).length:Nat):Int))))<|lm ?_
   refine St.dec 25 I (λhc25=>?_) (λhc25=>?_)
   .have hd25:=D4 hc25
    refine G I ?_
    obtain ⟨x1,hx1⟩:=gk (aH l (m.take i)) k U
    refine St.fC (λw hM=>fM (i:=0) I w hM) (fR hx1) (λp28 q28 hA28 hc28=>lu (Z p28 _) (qF (e:=9) I J J I I hA28 U)<|lu _ (gN I I J hc28)<|G I<|lu (.bool (decide (x1 < x0))) (wL I I I)<|M (.bool (decide (x1 < x0))) ?_)
    refine qi I (λhc32=>?_) λhc32=>?_
    .have hd32:=D4 hc32
     exact gL<|aJ<|fY<|aF<|G I<|lw (Y (k+1)) bN<|G I<|Nk<|sA _ ((uC hok2 hx1).1 (su hc32)) (by omega) η
    .have hd32:=C7 hc32
     have hk:k=bX (aH l (m.take i)) x0:=by have h:=mt (uC hok2 hx1).2 (su hc32); omega
     refine Nr<|kL<|aJ ?_
     have hkl:k<=(aH l (m.take i)).length:=by omega
     refine dN _ 13 J η ?_
     refine am 1 ?_
     refine am 2 ?_
     refine Any.fact (λw hM=>nH (hM.at (i:=0) I)) (λhcap38=>aV 3 (V B ((aH l (m.take i)).take k) cb) I (gY (sH (e:=9) I J J I I (by omega)) (by grind))<|am 5 ?_)
     refine am 8 ?_
     refine am 9 ?_
     refine Any.fact (λw hM=>nH (hM.at (i:=0) I)) (λhcap45=>aV 10 (V (if cb=k then B else B.map (·.add (k*1))) ((aH l (m.take i)).drop k) (cb - k)) I (gY (sI (e:=9) (sz:=1) I J J I I U) (by grind)) ?_)
     refine kU (i:=0) (j:=6) J I I I I ?_ ?_
     .refine pN 0 9 [] λb35=>?_
      refine xd ?_
      refine aQ _ η (κ [0] I I) ?_
      refine kU (i:=4) (j:=6) J I I I I ?_ ?_
      .refine oP (λw hM=>hM.tJ 1 I 1)<|cL gD 1 _ rfl rfl J rfl rfl rfl si (λw hM=>eN.gJ (qY k (fM (i:=0) I w hM))) (mJ) (by first | (simp; omega) | (simp; done)) (((aH l (m.take i)).take k).length) dV (SS ((aH l (m.take i)).take k)) (by simp [SS]) (λA39 c39=>aQ _ η (κ [0] I I)<|aA 6 rfl<|pN 1 9 [(vS x0)] λb41=>aQ _ (κ [0] I I) (κ [0,2] I I)<|aA 7 rfl<|cL gD 1 ([(vS x0)]) rfl rfl J rfl rfl rfl (rfl) (fE (i:=2) rfl yy) (by simp [Value.oneCell']) (by first | (simp; omega) | (simp; done)) (((aH l (m.take i)).take k++[x0]).length) dV (SS ((aH l (m.take i)).take k++[x0])) (by simp [SS]) (λA42 c42=>aQ _ η (κ [0,2] I I)<|aA 11 rfl<|cL gD 1 _ rfl rfl J rfl rfl rfl si (λw hM=>eN.gJ (tV k (fM (i:=0) I w hM) (hcap45))) (mJ) (by first | (simp; omega) | (simp; done)) (((aH l (m.take i)).take k++[x0]++((aH l (m.take i)).drop k)).length) dV _ (by simp [SS]) (λA46 c46=>aQ [_,cS A46 _ c46,_] (κ [0,2] I I) η<|aa 12 ?_)))
       refine cG J<|jF<|aJ ?_
       refine xd ?_
       refine aF<|lw (Y (i+1)) bN<|G I<|Na ?_
       rw [show (aH l _).take k++[x0]++((aH l _).drop k)=aH l _ from yW hx0 hc20 hk]
       exact sA (i+1,A46,c46) oz oz (κ [1] I I)
      .refine pN 1 9 [(vS x0)] λb41=>aQ _ (κ [0] I I) (κ [0,2] I I)<|aA 4 rfl<|oP (λw hM=>hM.tJ 1 I 1)<|cL gD 1 _ rfl rfl J rfl rfl rfl si (λw hM=>eN.gJ (qY k (fM (i:=0) I w hM))) (mJ) (by first | (simp; omega) | (simp; done)) (((aH l (m.take i)).take k).length) dV (SS ((aH l (m.take i)).take k)) (by simp [SS]) (λA39 c39=>aQ _ η (κ [0,2] I I)<|aA 7 rfl<|cL gD 1 ([(vS x0)]) rfl rfl J rfl rfl rfl (rfl) (fE (i:=2) rfl yy) (by simp [Value.oneCell']) (by first | (simp; omega) | (simp; done)) (((aH l (m.take i)).take k++[x0]).length) dV (SS ((aH l (m.take i)).take k++[x0])) (by simp [SS]) (λA42 c42=>aQ _ η (κ [0,2] I I)<|aA 11 rfl<|cL gD 1 _ rfl rfl J rfl rfl rfl si (λw hM=>eN.gJ (tV k (fM (i:=0) I w hM) (hcap45))) (mJ) (by first | (simp; omega) | (simp; done)) (((aH l (m.take i)).take k++[x0]++((aH l (m.take i)).drop k)).length) dV _ (by simp [SS]) (λA46 c46=>aQ [_,cS A46 _ c46,_] (κ [0,2] I I) η<|aa 12 ?_)))
       refine cG J<|jF<|aJ ?_
       refine xd ?_
       refine aF<|lw (Y (i+1)) bN<|G I<|Na ?_
       rw [show (aH l _).take k++[x0]++((aH l _).drop k)=aH l _ from yW hx0 hc20 hk]
       exact sA (i+1,A46,c46) oz oz (κ [1] I I)
     .refine pN 1 9 [(vS x0)] λb41=>aQ _ (κ [0] I I) η<|aA 0 rfl<|pN 0 9 [] λb35=>aQ _ η (κ [0,1] I I)<|aA 4 rfl<|oP (λw hM=>hM.tJ 2 I 1)<|cL gD 2 _ rfl rfl J rfl rfl rfl si (λw hM=>eN.gJ (qY k (fM (i:=0) I w hM))) (mJ) (by first | (simp; omega) | (simp; done)) (((aH l (m.take i)).take k).length) dV (SS ((aH l (m.take i)).take k)) (by simp [SS]) (λA39 c39=>aQ _ η (κ [0,1] I I)<|aA 7 rfl<|cL gD 2 ([(vS x0)]) rfl rfl J rfl rfl rfl (rfl) (fE (i:=1) rfl yy) (by simp [Value.oneCell']) (by first | (simp; omega) | (simp; done)) (((aH l (m.take i)).take k++[x0]).length) dV (SS ((aH l (m.take i)).take k++[x0])) (by simp [SS]) (λA42 c42=>aQ _ η (κ [0,1] I I)<|aA 11 rfl<|cL gD 2 _ rfl rfl J rfl rfl rfl si (λw hM=>eN.gJ (tV k (fM (i:=0) I w hM) (hcap45))) (mJ) (by first | (simp; omega) | (simp; done)) _ dV (SS ((aH l (m.take i)).take k++[x0]++((aH l (m.take i)).drop k))) (by simp [SS]) (λA46 c46=>aQ _ (κ [0,1] I I) η<|aa 12 ?_)))
      refine cG J<|jF<|aJ ?_
      refine xd ?_
      refine aF<|lw (Y (i+1)) bN<|G I<|Na ?_
      rw [show (aH l _).take k++[x0]++((aH l _).drop k)=aH l _ from yW hx0 hc20 hk]
      exact sA (i+1,A46,c46) oz oz (κ [2] I I)
   .have hd25:=C7 hc25
    have hk:k=bX _ x0:=TL hok2 U
    refine G I<|lF<|Nu<|Nr<|kL<|aJ ?_
    have hkl:k<=(aH l (m.take i)).length:=by rw [hk]; exact pO _ _
    refine dN _ 13 J η ?_
    refine am 1 ?_
    refine am 2 ?_
    refine Any.fact (λw hM=>nH (hM.at (i:=0) I)) (λhcap38=>aV 3 (V B _ cb) I (gY (sH (e:=9) I J J I I (by have:=hcap38; omega)) (by show Value.slice _ _ _=Value.slice _ _ _; rw [I8,Y0 U]))<|am 5 ?_)
    refine am 8 ?_
    refine am 9 ?_
    refine Any.fact (λw hM=>nH (hM.at (i:=0) I)) (λhcap45=>aV 10 (V _ _ _) I (gY (sI (e:=9) (sz:=1) I J J I I U) (by show Value.slice _ _ _=Value.slice _ _ _; rw [Q7])) ?_)
    refine kU (i:=0) (j:=6) J I I I I ?_ ?_
    .refine pN 0 9 [] λb35=>?_
     refine xd ?_
     refine aQ _ η (κ [0] I I) ?_
     refine kU (i:=4) (j:=6) J I I I I ?_ ?_
     .refine oP (λw hM=>hM.tJ 1 I 1)<|cL gD 1 _ rfl rfl J rfl rfl rfl si (λw hM=>eN.gJ (qY k (fM (i:=0) I w hM))) (mJ) (by first | (simp; omega) | (simp; done)) (((aH l (m.take i)).take k).length) dV (SS ((aH l (m.take i)).take k)) (by simp [SS]) (λA39 c39=>aQ _ η (κ [0] I I)<|aA 6 rfl<|pN 1 9 [(vS x0)] λb41=>aQ _ (κ [0] I I) (κ [0,2] I I)<|aA 7 rfl<|cL gD 1 ([(vS x0)]) rfl rfl J rfl rfl rfl (rfl) (fE (i:=2) rfl yy) (by simp [Value.oneCell']) (by first | (simp; omega) | (simp; done)) (((aH l (m.take i)).take k++[x0]).length) dV (SS ((aH l (m.take i)).take k++[x0])) (by simp [SS]) (λA42 c42=>aQ _ η (κ [0,2] I I)<|aA 11 rfl<|cL gD 1 _ rfl rfl J rfl rfl rfl si (λw hM=>eN.gJ (tV k (fM (i:=0) I w hM) (hcap45))) (mJ) (by first | (simp; omega) | (simp; done)) (((aH l (m.take i)).take k++[x0]++((aH l (m.take i)).drop k)).length) dV _ (by simp [SS]) (λA46 c46=>aQ [_,cS A46 _ c46,_] (κ [0,2] I I) η<|aa 12 ?_)))
      refine cG J<|jF<|aJ ?_
      refine xd ?_
      refine aF<|lw (Y (i+1)) bN<|G I<|Na ?_
      rw [show (aH l _).take k++[x0]++((aH l _).drop k)=aH l _ from yW hx0 hc20 hk]
      exact sA (i+1,A46,c46) oz oz (κ [1] I I)
     .refine pN 1 9 [(vS x0)] λb41=>aQ _ (κ [0] I I) (κ [0,2] I I)<|aA 4 rfl<|oP (λw hM=>hM.tJ 1 I 1)<|cL gD 1 _ rfl rfl J rfl rfl rfl si (λw hM=>eN.gJ (qY k (fM (i:=0) I w hM))) (mJ) (by first | (simp; omega) | (simp; done)) (((aH l (m.take i)).take k).length) dV (SS ((aH l (m.take i)).take k)) (by simp [SS]) (λA39 c39=>aQ _ η (κ [0,2] I I)<|aA 7 rfl<|cL gD 1 ([(vS x0)]) rfl rfl J rfl rfl rfl (rfl) (fE (i:=2) rfl yy) (by simp [Value.oneCell']) (by first | (simp; omega) | (simp; done)) (((aH l (m.take i)).take k++[x0]).length) dV (SS ((aH l (m.take i)).take k++[x0])) (by simp [SS]) (λA42 c42=>aQ _ η (κ [0,2] I I)<|aA 11 rfl<|cL gD 1 _ rfl rfl J rfl rfl rfl si (λw hM=>eN.gJ (tV k (fM (i:=0) I w hM) (hcap45))) (mJ) (by first | (simp; omega) | (simp; done)) (((aH l (m.take i)).take k++[x0]++((aH l (m.take i)).drop k)).length) dV _ (by simp [SS]) (λA46 c46=>aQ [_,cS A46 _ c46,_] (κ [0,2] I I) η<|aa 12 ?_)))
      refine cG J<|jF<|aJ ?_
      refine xd ?_
      refine aF<|lw (Y (i+1)) bN<|G I<|Na ?_
      rw [show (aH l _).take k++[x0]++((aH l _).drop k)=aH l _ from yW hx0 hc20 hk]
      exact sA (i+1,A46,c46) oz oz (κ [1] I I)
    .refine pN 1 9 [(vS x0)] λb41=>aQ _ (κ [0] I I) η<|aA 0 rfl<|pN 0 9 [] λb35=>aQ _ η (κ [0,1] I I)<|aA 4 rfl<|oP (λw hM=>hM.tJ 2 I 1)<|cL gD 2 _ rfl rfl J rfl rfl rfl si (λw hM=>eN.gJ (qY k (fM (i:=0) I w hM))) (mJ) (by first | (simp; omega) | (simp; done)) (((aH l (m.take i)).take k).length) dV (SS ((aH l (m.take i)).take k)) (by simp [SS]) (λA39 c39=>aQ _ η (κ [0,1] I I)<|aA 7 rfl<|cL gD 2 ([(vS x0)]) rfl rfl J rfl rfl rfl (rfl) (fE (i:=1) rfl yy) (by simp [Value.oneCell']) (by first | (simp; omega) | (simp; done)) (((aH l (m.take i)).take k++[x0]).length) dV (SS ((aH l (m.take i)).take k++[x0])) (by simp [SS]) (λA42 c42=>aQ _ η (κ [0,1] I I)<|aA 11 rfl<|cL gD 2 _ rfl rfl J rfl rfl rfl si (λw hM=>eN.gJ (tV k (fM (i:=0) I w hM) (hcap45))) (mJ) (by first | (simp; omega) | (simp; done)) _ dV (SS ((aH l (m.take i)).take k++[x0]++((aH l (m.take i)).drop k))) (by simp [SS]) (λA46 c46=>aQ _ (κ [0,1] I I) η<|aa 12 ?_)))
     refine cG J<|jF<|aJ ?_
     dsimp only [aU,List.set,List.cons_append,List.nil_append]
     refine aF<|lw (Y (i+1)) bN<|G I<|Na ?_
     rw [show (aH l _).take k++[x0]++((aH l _).drop k)=aH l _ from yW hx0 hc20 hk]
     exact sA (i+1,A46,c46) (by show _<=_; omega) (by show m.length - (i+1) < m.length - i; omega) (κ [2] I I)
 .have hd15:=C7 hc15
  obtain rfl:i=m.length:=U
  rw [R0]
  exact Nj<|aF<|G rfl<|Nd<|sN [_] λw hM=>⟨B,cb,I,hM⟩
def jM(bs:Nat)(A:Option Addr)(c:Nat)(its:List (List UInt8))(fan leaf nm U:Nat)(w:World):Prop:=At w bs 113 [(V A its c),(Y fan),(Y leaf),(.map (some nm)),(.map (some U))] /\ aI w A (SS its)
theorem FL(n g)(caps:Ξ)(p w)(t:n<=68719476736)(l:∀ args w,(callFunc g args).run Tryz.prog w = .ok (.enter g args) w)(o:∀ i,i < n->∀ b,Fr [] w b->Θ g (#[Y i]++caps.toArray) b λe h=>e = .returned (.bool (p i))/\Fr [] b h):
  Θ 209 #[(Y n),(.func (.func g) #[] caps.toArray)] w λe b=>e = .returned (Y (mZ p 0 n))/\aN [] w [] b:=by
 refine bS Tryz.func209 26 (B3 w) rfl<|Nc<|G rfl<|Nb<|G rfl<|Nf<|fY<|sL (λ(i,j)=>i<=j/\j<=n/\mZ p i j=mZ p 0 n) (λ(i,j)=>j - i) (λ(i,j)=>[(1,(.func (.func g) #[] caps.toArray)),(4,(C 0)),(5,(Y i)),(6,(Y j))]) (λ(i,j)=>[]) (0,n) ⟨G6 _,J7 _,I⟩ η ?_
 rintro ⟨i,j⟩ ⟨r,s,m⟩
 dsimp only
 refine Ny<|G I<|M (F3 i j) ?_
 refine aO (aJ (aY I (λa=>?_) (λa=>?_)))
 .have d:=D4 a
  have q:i < j:=U
  refine gL<|aJ<|fY<|Nc<|G rfl<|lw (Y (i+j)) bN<|lw (vU _) (iQ _ (λ_=>J) I I (kV U U))<|lw (vU _) (Jr rfl rfl rfl)<|lw (Y _) (iQ _ (λ_=>J) I I (qV U U))<|G rfl<|Nb<|G rfl<|R<|EK rfl rfl rfl l (λw f=>(o _ U w f.fr).mono ?_)
  rintro e b ⟨rfl,k⟩
  refine ⟨_,[],I,Mm.rT k,?_⟩; clear k f
  refine M (.bool (!(p ((i+j) / 2)))) ?_
  refine qi I (λc=>?_) λc=>?_
  .refine aF<|G I<|lw (Y (((i+j) / 2)+1)) bN<|G I<|Nk<|sA (((i+j) / 2)+1,j) (by refine ⟨U,U,?_⟩; grind [AI]) (by omega) η
  .refine aF<|G I<|Nk<|sA (i,((i+j) / 2)) (by refine ⟨U,U,?_⟩; grind [AH]) (by omega) η
 .have d:=C7 a
  exact Nj<|aF<|G rfl<|Nd<|sN [_] λw f=>⟨by rw [<- m,CI U]; rfl,f⟩
theorem TV(i b2 g bs A c its fan leaf m U lo hi w)(k:Rf [] w (jM bs A c its fan leaf m U))(o:Rf [] w (λw=>At w b2 61 [(Z bs 0)]))(p:Rf [] w (λw=>At w g 236 [(vS lo),(vS hi)]))(l:i < its.length):
  Θ 210 #[(Y i),(Z b2 0),(Z g 0)] w λe s=>e = .returned (.bool (rF its lo i))/\aN [] w [] s:=by
 have q:=k.imp (λ_ h=>h.1)
 have r:=k.imp (λ_ h=>h.2)
 refine kN Tryz.func210 15 (B3 w) rfl<|Nc<|G rfl<|Nf<|dN [] 11 J η<|aV 0 _ rfl (rW (λw a=>At.cell (o.now a) 0))<|aC 1 (Z bs 0) rfl<|aC 2 (Z bs 0) rfl<|aV 3 _ rfl (rW (λw a=>At.cell (q.now a) 0))<|am 4 ?_
 obtain ⟨t,f⟩:=gk its i (by omega)
 refine Any.fC (λw a=>r.now a) (fR f) (λj n b d=>aV 5 (Z j _) I (rR 9 b)<|aV 6 _ rfl (rW d)<|aC 7 (Z g 0) rfl<|aV 8 _ rfl (rW (λw a=>At.cell (p.now a) 0))<|aV 9 _ I (tS I I I)<|aa 10 ?_)
 exact cG J<|aJ<|gW<|sN [_] λw a=>⟨gK (uD f).symm,a⟩
theorem TW(i b2 g bs A c its fan leaf m U lo hi w)(k:Rf [] w (jM bs A c its fan leaf m U))(o:Rf [] w (λw=>At w b2 61 [(Z bs 0)]))(p:Rf [] w (λw=>At w g 236 [(vS lo),(vS hi)]))(l:i < its.length):
  Θ 211 #[(Y i),(Z b2 0),(Z g 0)] w λe s=>e = .returned (.bool (rF its hi i))/\aN [] w [] s:=by
 have q:=k.imp (λ_ h=>h.1)
 have r:=k.imp (λ_ h=>h.2)
 refine kN Tryz.func211 15 (B3 w) rfl<|Nc<|G rfl<|Nf<|dN [] 11 J η<|aV 0 _ rfl (rW (λw a=>At.cell (o.now a) 0))<|aC 1 (Z bs 0) rfl<|aC 2 (Z bs 0) rfl<|aV 3 _ rfl (rW (λw a=>At.cell (q.now a) 0))<|am 4 ?_
 obtain ⟨t,f⟩:=gk its i (by omega)
 refine Any.fC (λw a=>r.now a) (fR f) (λj n b d=>aV 5 (Z j _) I (rR 9 b)<|aV 6 _ rfl (rW d)<|aC 7 (Z g 1) rfl<|aV 8 _ rfl (rW (λw a=>At.cell (p.now a) 1))<|aV 9 _ I (tS I I I)<|aa 10 ?_)
 exact cG J<|aJ<|gW<|sN [_] λw a=>⟨gK (uD f).symm,a⟩
theorem TY(i b2 k bs A c its fan leaf o U x w)(l:Rf [] w (jM bs A c its fan leaf o U))(p:Rf [] w (λw=>At w b2 61 [(Z bs 0)]))(q:Rf [] w (λw=>At w k 9 [(vS x)]))(n:i < its.length):
  Θ 212 #[(Y i),(Z b2 0),(Z k 0)] w λe t=>e = .returned (.bool (rF its x i))/\aN [] w [] t:=by
 have r:=l.imp (λ_ h=>h.1)
 have s:=l.imp (λ_ h=>h.2)
 refine kN Tryz.func212 14 (B3 w) rfl<|Nc<|G rfl<|Nf<|dN [] 10 J η<|aV 0 _ rfl (rW (λw a=>At.cell (p.now a) 0))<|aC 1 (Z bs 0) rfl<|aC 2 (Z bs 0) rfl<|aV 3 _ rfl (rW (λw a=>At.cell (r.now a) 0))<|am 4 ?_
 obtain ⟨m,f⟩:=gk its i (by omega)
 refine Any.fC (λw a=>s.now a) (fR f) (λg j b d=>aV 5 (Z g (j+i)) I (rR 9 b)<|aV 6 _ rfl (rW d)<|aV 7 _ rfl (rW (λw a=>At.cell (q.now a) 0))<|aV 8 (.bool (!decide (m < x))) I (tS I I I)<|aa 9 ?_)
 exact cG J<|aJ<|gW<|sN [(.bool (!decide (m < x)))] λw a=>⟨gK (uD f).symm,a⟩
theorem FM(bs A c its fan leaf nm U lo hi w)(r0:Rf [] w (jM bs A c its fan leaf nm U))(hs:dD its)(hn:its.length<=1000)(hcap:its.length<=c):
  Θ 189 #[(Z bs 0),(.agg #[(vS lo),(vS hi)])] w λe w'=>∃ (B:Δ) (cb:Nat),e = .returned (V B (inL its lo hi) cb)/\aN [] w [] w'/\(∀ w,aI w A (SS its)->aI w B (SS (inL its lo hi))):=by
 have ra:=r0.imp (λ_ h=>h.1)
 refine bS Tryz.func189 38 (B3 w) rfl<|Nc<|R<|pB [(Z bs 0)] λb2=>R<|pB (F6 lo hi) λb3=>G I<|Nb ?_
 refine lL 0 I<|M (Z bs 0)<|M (Z bs 0)<|lW (rW (λw hM=>At.cell (ra.now hM) 0)) ?_
 refine M (B4 its)<|M (.func (.func 210) #[] #[(Z b2 0),(Z b3 0)]) ?_
 refine R ?_
 refine iR (λw hM=>(FL (its.length) 210 [(Z b2 0),(Z b3 0)] (rF its lo) w (by omega) (wM Tryz.func210 (by kernel_rfl) rfl) (λi hlt w' hf=>(TV i _ _ bs A c its fan leaf nm U lo hi w' (((r0.aX hM).step hf (by simp))) (((hM.aR (j:=0) I η).step hf (by simp))) (((hM.aR (j:=1) I η).step hf (by simp))) hlt).mono λe w'' he=>⟨he.1,he.2.fr⟩)).mono ?_)
 rintro e w' ⟨rfl,hP⟩
 refine ⟨_,_,I,hP,?_⟩; clear hP hM
 rw [CJ hs.2 lo]
 refine G I<|Nb<|lL 0 rfl<|M (Z bs 0)<|M (Z bs 0)<|lW (rW (λw hM=>At.cell (ra.now hM) 0))<|M (B4 its)<|G I<|Ne<|M (Z b3 1)<|lL 1 I<|lw (.bool (!decide (hi=[]))) (qC I I I) ?_
 refine qi I (λhc21=>?_) λhc21=>?_
 .refine aF<|lL 0 I<|M (Z bs 0)<|M (Z bs 0) ?_
  refine lW (rW (λw hM=>At.cell (ra.now hM) 0))<|M (B4 its) ?_
  refine M (.func (.func 211) #[] #[(Z b2 0),(Z b3 0)]) ?_
  refine R ?_
  refine iR (λw hM=>(FL (its.length) 211 [(Z b2 0),(Z b3 0)] (rF its hi) w (by omega) (wM Tryz.func211 (by kernel_rfl) rfl) (λi hlt w' hf=>(TW i _ _ bs A c its fan leaf nm U lo hi w' (((r0.aX hM).step hf (by simp))) (((hM.aR (j:=0) I η).step hf (by simp))) (((hM.aR (j:=1) I η).step hf (by simp))) hlt).mono λe w'' he=>⟨he.1,he.2.fr⟩)).mono ?_)
  rintro e w' ⟨rfl,hP⟩
  refine ⟨_,_,I,hP,?_⟩; clear hP hM
  rw [CJ hs.2 hi]
  refine G I<|Nf ?_
  refine xd ?_
  refine aF<|lL 0 rfl<|M (Z bs 0)<|M (Z bs 0)<|lW (rW (λw hM=>At.cell (ra.now hM) 0))<|G I<|lw (Y (max (bX its lo) (bX its hi))) (Jn I I I) ?_
  have hp:=AK hs.2 lo hi
  rw [P4 (su hc21)] at hp
  have h1:=pO its lo
  have h2:=pO its hi
  refine lv (v:=(V (if c=bX its lo then A else A.map (·.add (bX its lo*1))) (inL its lo hi) (c - bX its lo))) (gY (EE (e:=9) (sz:=1) I (by simp) (by kernel_rfl) I I I (by omega) (by omega)) (by grind)) ?_
  exact G I<|Nd<|sN [(V (if c=bX its lo then A else A.map (·.add (bX its lo*1))) (inL its lo hi) (c - bX its lo))] λw hM=>⟨_,_,I,(hM.pick [] I I),λw h=>by grind [Jq]⟩
 .refine Ni<|lL 0 rfl<|M (Z bs 0)<|M (Z bs 0)<|lW (rW (λw hM=>At.cell (ra.now hM) 0))<|G I<|lw (Y (max (bX its lo) its.length)) (Jn I I I) ?_
  have hp:=AK hs.2 lo hi
  rw [P1 (su hc21)] at hp
  have h1:=pO its lo
  have h2:=pO its hi
  refine lv (v:=(V (if c=bX its lo then A else A.map (·.add (bX its lo*1))) (inL its lo hi) (c - bX its lo))) (gY (EE (e:=9) (sz:=1) I (by simp) (by kernel_rfl) I I I (by omega) (by omega)) (by grind)) ?_
  exact G I<|Nd<|sN [(V (if c=bX its lo then A else A.map (·.add (bX its lo*1))) (inL its lo hi) (c - bX its lo))] λw hM=>⟨_,_,I,(hM.pick [] I I),λw h=>by grind [Jq]⟩
theorem FN(bs A c its fan leaf nm U x w)(r0:Rf [] w (jM bs A c its fan leaf nm U))(hs:dD its)(hn:its.length<=1000):
  Θ 190 #[(Z bs 0),(vS x)] w λe w'=>e = .returned (.bool (its.contains x))/\aN [] w [] w':=by
 have ra:=r0.imp (λ_ h=>h.1)
 have rb:=r0.imp (λ_ h=>h.2)
 refine bS Tryz.func190 31 (B3 w) rfl<|Nc<|R<|pB [(Z bs 0)] λb2=>R<|pB [(vS x)] λb3=>G rfl<|Nb ?_
 refine lL 0 rfl<|M (Z bs 0)<|M (Z bs 0)<|lW (rW (λw hM=>At.cell (ra.now hM) 0)) ?_
 refine M (B4 its)<|M (.func (.func 212) #[] #[(Z b2 0),(Z b3 0)]) ?_
 refine R ?_
 refine iR (λw hM=>(FL (its.length) 212 [(Z b2 0),(Z b3 0)] (rF its x) w (by omega) (wM Tryz.func212 (by kernel_rfl) rfl) (λi hlt w' hf=>(TY i _ _ bs A c its fan leaf nm U x w' (((r0.aX hM).step hf (by simp))) (((hM.aR (j:=0) rfl η).step hf (by simp))) (((hM.aR (j:=1) rfl η).step hf (by simp))) hlt).mono λe w'' he=>⟨he.1,he.2.fr⟩)).mono ?_)
 rintro e w' ⟨rfl,hP⟩
 refine ⟨_,_,rfl,hP,?_⟩; clear hP hM
 rw [CJ hs.2 x]
 refine G rfl<|Nf<|dN _ 19 J η<|am 0 ?_
 refine al 1 0 ?_
 refine aC 2 (Z bs 0) rfl<|aC 3 (Z bs 0) rfl<|aV 4 _ rfl (rW (λw hM=>At.cell (ra.now hM) 0))<|aC 5 (B4 its) rfl<|aC 6 (.bool (decide ((((bX its x):Nat):Int) < ((its.length:Nat):Int)))) rfl<|am 7 ?_
 refine Any.dec 20 rfl (λhc20=>?_) (λhc20=>?_)
 .have hd20:=D4 hc20
  refine aW 8 (Z bs 0) rfl (bW 0 rfl rfl J rfl rfl)<|aG 9 (Z bs 0) rfl<|aG 10 (Z bs 0) rfl<|aW 11 (V A its c) rfl (gN rfl rfl J (λw hM=>At.cell (ra.now hM) 0))<|fQ 12 ?_
  obtain ⟨x0,hx0⟩:=gk its (bX its x) (by omega)
  refine Any.fC (λw hM=>rb.now hM) (fR hx0) (λp26 q26 hA26 hc26=>Jp 13 (Z p26 (q26+(bX its x))) rfl (qF (e:=9) rfl (by kernel_rfl) (by kernel_rfl) rfl rfl hA26 (by omega)) ?_)
  refine aW 14 (vS x0) rfl (gN rfl rfl J hc26)<|aW 15 (vS x) rfl (bW 1 rfl rfl J rfl rfl)<|aW 16 (.bool (decide (x0=x))) rfl (lQ rfl rfl rfl)<|aC 17 (.bool (decide (x0=x))) rfl<|aa 18 ?_
  exact cG J<|aJ<|gW<|sN [(.bool (decide (x0=x)))] λw hM=>⟨gK (by rw [AL hs.2,hx0]; simp),(hM.pick [] rfl rfl)⟩
 .have hd20:=C7 hc20
  refine bR 8 ?_
  refine bR 9 ?_
  refine bR 10 ?_
  refine bR 11 ?_
  refine bR 12 ?_
  refine bR 13 ?_
  refine bR 14 ?_
  refine bR 15 ?_
  refine bR 16 ?_
  refine aC 17 bF rfl<|aa 18 ?_
  refine cG J<|aJ<|gW<|sN [bF] λw hM=>⟨gK (by rw [AL hs.2,Y7 (l:=its) (i:=bX its x) (by omega)]; simp),(hM.pick [] rfl rfl)⟩
abbrev J2(a b c):=Y ((inL a b c).length)
theorem CN(bs A c its fan leaf nm U lo hi w)(r0:Rf [] w (eG))(r1:Rf [] w (jM bs A c its fan leaf nm U))(hs:dD its)(hn:its.length<=1000)(hcap:its.length<=c):
  Θ 186 #[(Z bs 0),(.agg #[(vS lo),(vS hi)])] w λe w'=>e = .returned (.agg #[(Y ((inL its lo hi).length)),(vS (eI (inL its lo hi)))])/\aN [] w [] w':=by
 have rb:=r1.imp (λ_ h=>h.2)
 refine bS Tryz.func186 14 (B3 w) rfl<|Nc<|R<|pB (F6 lo hi) λb3=>R<|pA [(C 0),qe] λb4=>Nb<|G rfl<|lW (zr 0 rfl)<|R<|EM (λw hM=>FM bs A c its fan leaf nm U lo hi w (r1.aX hM) ag ag ag) λB8 cb8 hsub8=>?_
 have rs8:=Ro.imp (Ψ:=λw=>aI w B8 (SS (inL its lo hi))) rb hsub8
 exact G I<|Nb<|G rfl<|M (J2 its lo hi)<|G rfl<|R<|bV (λw hM=>Li B8 cb8 (inL its lo hi) w (r0.aX hM) (rs8.aX hM) (by have:=FH hs lo hi; omega) (by have:=lZ its lo hi; omega))<|M (.agg #[(J2 its lo hi),(vS (fP (inL its lo hi).flatten))])<|R<|zu 1 rfl<|Nd<|dL [(.agg #[(J2 its lo hi),(vS (fP (inL its lo hi).flatten))])] rfl ⟨rz 1 rfl,trivial⟩ (λw hM=>⟨I,(hM.pick [] I I)⟩)
section
inductive CV where
 | sum (n : Nat) (f : Bs) | list (A : Option Addr) (c : Nat) (xs : List Bs) | ans (A : Option Addr) (c : Nat) (xs : List Bs) (B : Option Addr) (d : Nat) (ms : List Bs)
structure PV where
 (lo hi:Bs) (c:CV)
def CV.val:CV -> Value
 | .sum n f=>.iface 242 (.agg #[.int .i64 ((n:Nat):Int),.string (bL f)])
 | .list A c xs=>.iface 246 (.agg #[.slice A xs.length c])
 | .ans A c xs B d ms=>.iface 249 (.agg #[.slice A xs.length c,.slice B ms.length d])
def CV.abs:CV -> AC
 | .sum n f=>.sum n f
 | .list _ _ xs=>.list xs
 | .ans _ _ xs _ _ ms=>.ans xs ms
def PV.abs(p:PV):AP:=⟨p.lo,p.hi,p.c.abs⟩
def CV.rows:CV -> List (Option Addr × List Bs)
 | .sum _ _=>[]
 | .list A _ xs=>[(A,xs)]
 | .ans A _ xs B _ ms=>[(A,xs),(B,ms)]
def PV.cells(p:PV):List Value:=[.string (bL p.lo),.string (bL p.hi),p.c.val]
def PS(ps:List PV):List Value:=ps.flatMap PV.cells
abbrev cP(A:Option Addr)(l:List PV)(c:Nat):Ch:=bD 240 3 A l.length c (PS l)
theorem vG(a b):PS (a++b)=PS a++PS b:=R3
theorem CV.one(c:CV):c.val.oneCell'=true:=by cases c <;> rfl
theorem PV.one(p:PV):∀ u∈p.cells,u.oneCell'=true:=by
 intro u a
 simp only [PV.cells,T0,U7,k4] at a
 rcases a with rfl | rfl | rfl
 .rfl
 .rfl
 .exact CV.one _
theorem CO{ps:List PV}:∀ u∈PS ps,u.oneCell'=true:=by
 intro u b
 obtain ⟨p,_,a⟩:=T5.1 b
 simp only [PV.cells,T0,U7,k4] at a
 rcases a with rfl | rfl | rfl
 .rfl
 .rfl
 .exact CV.one _
theorem FO{ps:List PV}{p:PV}(h:ps[i]?=some p)(k v)(a:p.cells[k]?=some v):(PS ps)[i*3+k]?=some v:=by
 induction ps generalizing i with
 | nil=>simp at h
 | cons q ps b =>
  show (q.cells++PS ps)[i*3+k]?=some v
  cases i with
  | zero =>
   simp only [AC0,V4] at h
   subst h
   rw [AA0,K7,R1 (C4.1 a).1]
   exact a
  | succ i =>
   rw [T8 (by show 3<=_; omega),show (i+1)*3+k - q.cells.length=i*3+k by show _ - 3=_; omega]
   exact b (by simpa using h)
def oC(its:List Bs)(lo hi:Bs):PV:=⟨lo,hi,.sum (inL its lo hi).length (eI (inL its lo hi))⟩
def dZ(its own:List Bs)(fan:Nat)(lo:Bs):Nat -> Bs × List PV
 | 0=>(lo,[])
 | k+1=>if own.getD ((k+1)*own.length / fan) []=(dZ its own fan lo k).1 then dZ its own fan lo k else (own.getD ((k+1)*own.length / fan) [],(dZ its own fan lo k).2++[oC its (dZ its own fan lo k).1 (own.getD ((k+1)*own.length / fan) [])])
theorem FP(its a:List Bs)(fan:Nat)(lo:Bs):∀ k,(dZ its a fan lo k).1=(kF its a fan lo k).1/\(dZ its a fan lo k).2.map PV.abs=(kF its a fan lo k).2
 | 0=>⟨I,I⟩
 | k+1=>by
  obtain ⟨b,c⟩:=FP its a fan lo k
  unfold dZ kF
  rw [b]
  split
  .exact ⟨b,c⟩
  .refine ⟨I,?_⟩
   rw [U1,c]
   rfl
theorem TZ{its a:List Bs}{lo x:Bs}(b:a[(k+1)*a.length / fan]?=some x)(h:(!decide (x=(dZ its a fan lo k).1))=false):dZ its a fan lo (k+1)=dZ its a fan lo k:=by
 have e:a.getD ((k+1)*a.length / fan) []=x:=by rw [U5,b]; rfl
 rw [dZ,e,P1 (by simpa using h)]
theorem Lk{its a:List Bs}{lo x:Bs}(b:a[(k+1)*a.length / fan]?=some x)(h:(!decide (x=(dZ its a fan lo k).1))=true):dZ its a fan lo (k+1)=(x,(dZ its a fan lo k).2++[oC its (dZ its a fan lo k).1 x]):=by
 have e:a.getD ((k+1)*a.length / fan) []=x:=by rw [U5,b]; rfl
 rw [dZ,e,P4 (by simpa using h)]
theorem FQ(its a:List Bs)(fan:Nat)(lo:Bs):∀ k,(dZ its a fan lo k).2.length<=k
 | 0=>J7 _
 | k+1=>by
  have:=FQ its a fan lo k
  unfold dZ
  split
  .omega
  .simp only [C3,V0,W7]; omega
theorem FR(its a:List Bs)(fan:Nat)(lo:Bs):∀ k,∀ p∈(dZ its a fan lo k).2,p.c.rows=[]
 | 0=>by simp [dZ]
 | k+1=>by
  unfold dZ
  split
  .exact FR its a fan lo k
  .intro p b
   rcases P7.1 b with b | b
   .exact FR its a fan lo k p b
   .rw [G2.1 b]; rfl
def dQ(L:List (Option Addr × List Bs)):Ch where
 fp:=L.flatMap λr=>eT r.1
 holds w:=∀ r∈L,aI w r.1 (SS r.2) /\ ∀ b∈eT r.1,b < w.heap.size
 ok w w' hb h:=λr hr=>by
  obtain ⟨h1,h2⟩:=h r hr
  have hb':∀ b∈eT r.1,w'.heap[b]?=w.heap[b]?:=λb hb1=>hb b (List.mem_flatMap.2 ⟨r,hr,hb1⟩)
  refine ⟨λj v hj=>?_,λb hb1=>?_⟩
  .obtain ⟨b,o,hA,hlt,hc⟩:=h1 j v hj
   have e:=hb' b (by rw [hA]; simp [eT])
   refine ⟨b,o,hA,?_,?_⟩
   .by_cases hlt':b < w'.heap.size
    .exact hlt'
    .rw [Array.getElem?_eq_none (by omega),Array.getElem?_eq_getElem hlt] at e
     cases e
   .rw [<- hc]
    simp only [World.cell?,e]
  .have e:=hb' b hb1
   by_cases hlt':b < w'.heap.size
   .exact hlt'
   .rw [Array.getElem?_eq_none (by omega),Array.getElem?_eq_getElem (h2 b hb1)] at e
    cases e
 lt w h b hb:=by
  obtain ⟨r,hr,hb1⟩:=List.mem_flatMap.1 hb
  exact (h r hr).2 b hb1
section
variable {w0 w w':World}{F:List Nat}{cs:List Ch}
theorem Ua{xs:List Bs}:(dQ [(A,xs)]).fp=eT A:=by simp [dQ]
theorem Mm.pE(h:Mm w0 F cs w)(i){n c:Nat}{xs:List Bs}(hi:cs[i]?=some (bD e 1 A n c (SS xs))):Mm w0 F (cs.set i (dQ [(A,xs)])) w :=
 h.swap i hi (Fr.refl _ _) (λr g=>by
  rw [G2.1 g]
  have f:=h.at hi
  refine ⟨?_,?_⟩
  .have d:w.ownsRow 0 e 1 (.slice A n c) n (SS xs):=f
   exact aI.bM d
  .intro b a
   exact (bD e 1 A n c (SS xs)).lt w f b a) (λb a=>.inl (by rw [Ua] at a; exact a)) (by simpa [dQ] using uT A)
theorem Ub(L M):(dQ (L++M)).fp=(dQ L).fp++(dQ M).fp:=R3
theorem Mm.join{L M:List (Δ × List Bs)}(h:Mm w0 F (cs++[dQ L,dQ M]) w):Mm w0 F (cs++[dQ (L++M)]) w:=by
 have e:(cs++[dQ (L++M)]).flatMap Ch.fp=(cs++[dQ L,dQ M]).flatMap Ch.fp:=by
  simp only [R3,V5,AB8,Ub,O4]
 refine ⟨h.fr,?_,?_,?_⟩
 .intro c a
  rcases P7.1 a with a | a
  .exact h.hold c (AD4 _ a)
  .rw [G2.1 a]
   intro r b
   rcases P7.1 b with b | b
   .exact h.hold (dQ L) (p5 _ si) r b
   .exact h.hold (dQ M) (p5 _ si) r b
 .rw [e]; exact h.nodup
 .rw [e]; exact h.own
theorem Mm.DY{cs':List Ch}{L M:List (Δ × List Bs)}(h:Mm w0 F cs w)(a i j)(c:Af (a++[i,j])=true)(hi:cs[i]?=some (dQ L))(d:cs[j]?=some (dQ M))(b:pk cs a++[dQ (L++M)]=cs'):Mm w0 F cs' w:=by
 subst b
 refine Mm.join<|h.pick _ c ?_
 grind [pk]
theorem Mm.tK(h:Mm w0 F cs w):Mm w0 F (cs++[dQ []]) w:=h.push (c:=dQ []) (Fr.refl _ _) (by intro r a; grind) (by simp [dQ]) (by simp [dQ])
end
def jV(L:List (Option Addr × List Bs))(A:Option Addr)(its:List Bs)(ps:List PV):Prop:=∀ p∈ps,∀ r∈p.c.rows,r∈L \/ ∀ w,aI w A (SS its) -> aI w r.1 (SS r.2)
def CP(ps:List PV)(w:World):Prop:=∀ p∈ps,∀ r∈p.c.rows,aI w r.1 (SS r.2)
theorem jV.nil{L:List (Δ × List Bs)}{its:List Bs}:jV L A its []:=by intro p a; grind
theorem jV.append{L M:List (Δ × List Bs)}{its:List Bs}{a b:List PV}(h:jV L A its a)(k:jV M A its b):jV (L++M) A its (a++b):=by
 intro p c r d
 rcases P7.1 c with c | c
 .exact (h p c r d).imp (AD4 _) id
 .exact (k p c r d).imp (p5 _) id
theorem jV.ok{L:List (Δ × List Bs)}{its:List Bs}{ps:List PV}(h:jV L A its ps)(b:(dQ L).holds w)(e:aI w A (SS its)):CP ps w:=λp d r a=>(h p d r a).elim (λc=>(b r c).1) zg
theorem jV.Qc{L:List (Δ × List Bs)}{its:List Bs}{ps:List PV}(h:∀ p∈ps,p.c.rows=[]):jV L A its ps:=λp b r a=>by rw [h p b] at a; cases a
theorem vH:lN Tryz.prog 230 240 (.agg #[.string ⟨#[]⟩,.string ⟨#[]⟩,.nilIface]) 3 48:=⟨si,J,I,U,U⟩
section
variable {P:Program}{Q:Exit -> Act -> World -> Prop}{n:Nat}{w0:World}{F:List Nat}{E:eH}{cs:List Ch}{X K:Act -> World -> Prop}{ops:Array Oper}{o oi:Oper}{rest:List Oper}{d:Nat}
theorem vJ{a b:Nat}(c:o.op = .binOp .quo ty x y u)(e:bA E x=some (C (a:Int)))(f:bA E y=some (C (b:Int)))(i:0 < b)(g:a<=9223372036854775807):eD P w0 F cs E o (C ((a / b:Nat):Int)):=by
 have h:=AD6 a b
 exact QR _ c e f U (by grind) zg zg
end
section
variable {w0:World}{F:List Nat}{E:eH}{cs:List Ch}{o:Oper}
theorem Uc{a b:Nat}{p q:Bs}(B:o.op = .binOp .eql 242 x y u)(H:bA E x=some (.agg #[.int .i64 (a:Int),.string (bL p)]))(K:bA E y=some (.agg #[.int .i64 (b:Int),.string (bL q)])):eD Tryz.prog w0 F cs E o (.bool (decide (a=b/\p=q))):=λw _=>by
 have z:Tryz.prog.eqGuardType Tryz.prog.depth 242=false:=by kernel_rfl
 have D:Tryz.prog.stoodInHeld 242=false:=by kernel_rfl
 have c : (Tryz.prog.fieldsOf 242).toList.map (λf => (f.name == "_", f.type, f.offset)) = [(false, 3, 0), (false, 9, 1)] := by kernel_rfl
 have t:(Op.equal 242 (.agg #[.int .i64 (a:Int),.string (bL p)]) (.agg #[.int .i64 (b:Int),.string (bL q)])).run Tryz.prog w = .ok (decide (a=b/\p=q)) w:=by
  refine (run_equalIn_struct w 9999 _ _ _ (by kernel_rfl) D).trans ?_
  generalize (Tryz.prog.fieldsOf 242).toList=l at c
  have A:l.length=2:=by simpa using U0 List.length c
  match l,A with
  | [O,Q],_ =>
   simp only [X4,Y8,AAj,e7,AD3,beq_eq_false_iff_ne] at c
   obtain ⟨⟨r,t1,L⟩,s,t2,N⟩:=c
   have j:=AE8 w (P:=Tryz.prog) (e:=3) (xs:=#[.int .i64 (a:Int),.string (bL p)]) (off:=0) (v:=.int .i64 (a:Int)) (by kernel_rfl) I
   have k:=AE8 w (P:=Tryz.prog) (e:=3) (xs:=#[.int .i64 (b:Int),.string (bL q)]) (off:=0) (v:=.int .i64 (b:Int)) (by kernel_rfl) I
   have m:=AE8 w (P:=Tryz.prog) (e:=9) (xs:=#[.int .i64 (a:Int),.string (bL p)]) (off:=1) (v:=.string (bL p)) (by kernel_rfl) I
   have n:=AE8 w (P:=Tryz.prog) (e:=9) (xs:=#[.int .i64 (b:Int),.string (bL q)]) (off:=1) (v:=.string (bL q)) (by kernel_rfl) I
   simp only [Op.eqFields,r,s,ne_eq,not_false_eq_true,AA9,P5,Sem.run_ite,T9,t1,t2,L,N,j,k,m,n,J3,AG9 w 9998 _ .i64 _ _ _ ABe,run_equalIn_string w 9998 _ _ _ V7,wK]
   by_cases d:a=b
   .subst d
    by_cases i:p=q
    .subst i; simp
    .simp [i]
   .have g:¬ (a:Int)=(b:Int):=λh=>d (Int.ofNat.inj h)
    simp [d,g]
 unfold execOp
 simp only [B,cU H,cU K,P5,run_eqGuard_agg w _ _ _ _ _ _ z,binOp,J3,t,T9]
end
section
variable {P:Program}{Q:Exit -> Act -> World -> Prop}{n:Nat}{w0:World}{F:List Nat}{E:eH}{cs:List Ch}{X K:Act -> World -> Prop}{ops:Array Oper}{o oi:Oper}{rest:List Oper}{d:Nat}
theorem oT{i sz:Nat}{m c:Nat}(hi:cs[i]?=some (bD e sz A m c xs)):∀ w,Mm w0 F cs w->aI w A xs:=by
 intro w q j u b
 have h:w.ownsRow 0 e sz (.slice A m c) m xs:=q.at hi
 rcases h.2 with ⟨_,p⟩ | ⟨g,cap,f,l,_,k,_,_,_,r⟩
 .have:=h.1
  rw [p,AA0] at this
  rw [L1 this] at b
  simp at b
 .simp only [R6] at l
  obtain ⟨rfl,_,_⟩:=l
  refine ⟨g,0,I,(U9.1 k).1,?_⟩
  have a:=(C4.1 b).1
  rw [h.1] at a
  have:f.toList[j]?=some u:=by rw [<- Y5 a,r]; exact b
  rw [K7]
  simpa [World.cell?,k] using this
theorem Ll{sz:Nat}{m c:Nat}(h:(bD e sz A m c xs).holds w):aI w A xs:=by
 have a:Mm w (eT A) [bD e sz A m c xs] w:=⟨Fr.refl _ _,by grind,by simpa [bD] using uT A,by intro b f; exact .inl (by simpa [bD] using f)⟩
 exact oT (i:=0) I w a
theorem Lm{ps:List PV}{i:Nat}{p:PV}(h:aI w A (PS ps))(e:ps[i]?=some p){b q:Nat}(a:A=some ⟨b,q,none⟩):∀ j v,p.cells[j]?=some v->w.cell? ⟨b,q+i*3+j,none⟩=some v:=λj v c=>by
 rw [Z4]
 exact yF h (FO e j v c) a
theorem St.xO{ps:List PV}{i:Nat}{p:PV}(h:∀ w,Mm w0 F cs w->aI w A (PS ps))(g:ps[i]?=some p)(k:∀ b q,A=some ⟨b,q,none⟩->(∀ w,Mm w0 F cs w->∀ j v,p.cells[j]?=some v->w.cell? ⟨b,q+i*3+j,none⟩=some v)->St n w0 F E cs X):St n w0 F E cs X:=λa w l f=>by
 obtain ⟨b,q,e⟩:=qX (h w f) (FO g 0 _ I)
 exact k b q e (λm c=>Lm (h m c) g e) a w l f
theorem Any.xO{e:List Ch}{z fuel:Nat}{c:Array Bool}{ps:List PV}{i:Nat}{p:PV}(h:∀ w,Mm w0 F e w->aI w A (PS ps))(m:ps[i]?=some p)(k:∀ b q,A=some ⟨b,q,none⟩->(∀ w,Mm w0 F e w->∀ j v,p.cells[j]?=some v->w.cell? ⟨b,q+i*3+j,none⟩=some v)->Any P ops Q n w0 F E cs e z fuel c):Any P ops Q n w0 F E cs e z fuel c:=λa w s r l t=>by
 obtain ⟨b,q,g⟩:=qX (h w l) (FO m 0 _ I)
 exact k b q g (λu f=>Lm (h u f) m g) a w s r l t
theorem wV{i:Operand}{b off len cap j:Nat}{k:IntKind}(g:o.op = .indexAddr ty x i)(h:P.underlying ty=some (.slice e))(c:iL P e=some 3)(l:bA E x=some (.slice A len cap))(hi:bA E i=some (.int k (j:Int)))(f:A=some ⟨b,off,none⟩)(a:j < len):eD P w0 F cs E o (.pointer (some ⟨b,off+j*3,none⟩)):=by
 subst f
 exact mI g h c l hi a
def CV.Qd:CV -> Value
 | .sum n f=>.agg #[.int .i64 ((n:Nat):Int),.string (bL f)]
 | .list A c xs=>.agg #[.slice A xs.length c]
 | .ans A c xs B d ms=>.agg #[.slice A xs.length c,.slice B ms.length d]
def CV.Qe:CV -> FuncId
 | .sum _ _=>240
 | .list _ _ _=>242
 | .ans _ _ _ _ _ _=>247
theorem Ud{t: Array TypeId}{c: CV}(a : o.op = .call { callee := .invoke x "kinkeep/rangesum.write", args := #[y], argTypes := t })(b : bA E x = some c.val)(e : bA E y = some wv): ∀ w, (execOp (evE E) o).run Tryz.prog w = .ok (.enter c.Qe #[c.Qd, wv]) w := by
 intro w
 unfold execOp
 simp only [a,resolve,cU b,cU e,P5,T9,J3,Z1,X4,Y8]
 cases c <;> kernel_rfl
end
end
end Go.Proofs.YtkjnecaieiaijaaGreatDoor
