/- Part 4 of a proof: what its row uses. -/
import Derived.Test.YtkjnecaieiaijaaGreatDoorSd03
set_option maxRecDepth 100000
set_option maxHeartbeats 1000000
namespace Go.Proofs.YtkjnecaieiaijaaGreatDoor
open Go.RowKit
variable {A:Δ}{D:Bs}{E:eH}{F:List Nat}{K:Act->World->Prop}{L:List (Δ × List Bs)}{Q:Exit->Act->World->Prop}{S:List Nat}{W:Λ}{X:Δ × Nat}{Xs:List TX}{a:Nat}{b:Bool}{b2:Nat}{base:Nat}{br:Nat}{bs:Γ}{bt:Nat}{c:Nat}{cs:List Ch}{d:Nat}{dst:Υ}{e:Υ}{f:Bs}{g:Nat}{hi:Bs}{i:Nat}{k:Nat}{l:List Bs}{m:List Bs}{most:Nat}{n:Nat}{nt:Nat}{o:Oper}{pv:PV}{pvs:List PV}{s:Nat}{src:Υ}{sz:Nat}{t:Υ}{ty:Υ}{u:Υ}{w:Λ}{w':Λ}{w0:Λ}{w1:Λ}{wf:Λ}{x:Operand}{xs:Ξ}{y:Operand}{z:Ω}{α:Type}{P:List α->Prop}
section
variable {X:Option Addr × Nat}
theorem Ln(br)(D:Γ)(off last most:Nat)(w A c)(p:At w br 201 [.slice A D.length c,Y off,C (last:Int),C 0])(a:w.ownsRow 0 5 1 (.slice A D.length c) D.length (B8 D))(r:D.length<=4294967296)(z:off<=D.length)(F:most<=4294967296)(n m)(u:eP D off=some (n,m))(H:n<=most)(x:m+n<=D.length):
  Θ 149 #[Z br 0,C (most:Int)] w λe l=>e = .returned (.tuple #[.slice (if c=m then A else A.map (·.add (m*1))) n (c - m),C 0])/\Fr [br] w l/\At l br 201 [.slice A D.length c,Y (m+n),C (last:Int),C 0]:=by
 have HA:=D3 p
 have HO:=D3 a
 have t:D.length<=c:=ownCap a
 have HNB:Hid (∀ g,(F2 A D c).ownBlock=some g->g∉[br]):=λg E=>by
  have B:=mX a p (by decide)
  grind
 clear p a
 have y:=U
 refine bS AG0 22 (Mm.one HA.out) rfl<|Nc<|G rfl<|Nb<|G rfl<|R<|eR 181 _ rfl J (λ_=>J) (λw d=>(Ax br D off last most w ⟨A,c,I,d.at (i:=0) I,gC HO.out d.fr HNB.out⟩ z r ⟨U,U⟩).mono ?_)
 intro e l h
 unfold oQ at h; rw [u] at h; dsimp only at h
 rw [P4 U] at h
 obtain ⟨k,rfl,A',s,o,j,_⟩:=h
 obtain ⟨rfl,rfl⟩:A=A'/\c=s:=by simpa using o
 have f:=d.swap 0 (c':=aD br 201 [_,(Y m),(Y last),(C 0)]) I k j (λb q=>.inl q) (by simp [aD])
 refine ⟨_,_,I,f,G I<|Ne<|G rfl<|lF<|Nn<|aF<|G rfl<|R<|eR 165 _ rfl J (λ_=>J) (λw d=>(Kt br D m last n 0 w A c (d.at (i:=0) I) r U U t x).mono ?_)⟩
 rintro e l ⟨rfl,k,j⟩
 have f:=d.swap 0 (c':=aD br 201 [_,_,(Y last),_]) I k j (λb q=>.inl q) (by simp [aD])
 exact ⟨_,_,I,f,G I<|Nd<|sN [_,_] λw d=>⟨I,d.fr,d.at (i:=0) I⟩⟩
theorem Lo(br)(D:Γ)(off last most:Nat)(w A c)(q:At w br 201 [.slice A D.length c,Y off,C (last:Int),C 0])(a:w.ownsRow 0 5 1 (.slice A D.length c) D.length (B8 D))(s:D.length<=4294967296)(B:off<=D.length)(H:most<=4294967296)(n m)(r:eP D off=some (n,m))(K:n<=most)(y:D.length < m+n):
  Θ 149 #[Z br 0,C (most:Int)] w λe o=>e = .returned (.tuple #[nS,C 3])/\Fr [br] w o/\∃ l:Nat,At o br 201 [.slice A D.length c,Y l,C (last:Int),C 0]:=by
 have HA:=D3 q
 have HO:=D3 a
 have x:D.length<=c:=ownCap a
 have HNB:Hid (∀ g,(F2 A D c).ownBlock=some g->g∉[br]):=λg F=>by
  have E:=mX a q (by decide)
  grind
 clear q a
 have z:=(rD _ _ _ _ r).2.1
 refine bS AG0 22 (Mm.one HA.out) rfl<|Nc<|G rfl<|Nb<|G rfl<|R<|eR 181 _ rfl J (λ_=>J) (λw d=>(Ax br D off last most w ⟨A,c,I,d.at (i:=0) I,gC HO.out d.fr HNB.out⟩ B s ⟨U,U⟩).mono ?_)
 intro e o h
 unfold oQ at h; rw [r] at h; dsimp only at h
 rw [P4 U] at h
 obtain ⟨k,rfl,A',t,p,j,_⟩:=h
 obtain ⟨rfl,rfl⟩:A=A'/\c=t:=by simpa using p
 have f:=d.swap 0 (c':=aD br 201 [_,(Y m),(Y last),(C 0)]) I k j (λb u=>.inl u) (by simp [aD])
 refine ⟨_,_,I,f,G I<|Ne<|G rfl<|lF<|Nn<|aF<|G rfl<|R<|eR 165 _ rfl J (λ_=>J) (λw d=>(Ks br D m last n 0 w A c (d.at (i:=0) I) s U U x y).mono ?_)⟩
 rintro e o ⟨rfl,k,j⟩
 have f:=d.swap 0 (c':=aD br 201 [_,(Y m),(Y last),_]) I k j zg (by simp [aD])
 exact ⟨_,_,I,f,G I<|Nd<|sN [nS,_] λw d=>⟨I,d.fr,⟨_,d.at (i:=0) I⟩⟩⟩
theorem Lp(br)(D:Γ)(off last most:Nat)(w A c)(l:At w br 201 [.slice A D.length c,Y off,C (last:Int),C 0])(a:w.ownsRow 0 5 1 (.slice A D.length c) D.length (B8 D))(u:D.length<=4294967296)(x:off<=D.length)(B:most<=4294967296)(n m)(t:eP D off=some (n,m))(E:most < n):
  Θ 149 #[Z br 0,C (most:Int)] w λe q=>e = .returned (.tuple #[nS,C 2])/\Fr [br] w q/\∃ d:Nat,At q br 201 [.slice A D.length c,Y d,C (last:Int),C 0]:=by
 have HA:=D3 l
 have HO:=D3 a
 have HNB:Hid (∀ g,(F2 A D c).ownBlock=some g->g∉[br]):=λg z=>by
  have y:=mX a l (by decide)
  grind
 clear l a
 refine bS AG0 22 (Mm.one HA.out) rfl<|Nc<|G rfl<|Nb<|G rfl<|R<|eR 181 _ rfl J (λ_=>J) (λw f=>(Ax br D off last most w ⟨A,c,I,f.at (i:=0) I,gC HO.out f.fr HNB.out⟩ x u ⟨U,U⟩).mono ?_)
 intro e q h
 unfold oQ at h; rw [t] at h; dsimp only at h
 rw [P1 U] at h
 obtain ⟨p,rfl,d,A',r,k,o,_⟩:=h
 obtain ⟨rfl,rfl⟩:A=A'/\c=r:=by simpa using k
 have j:=f.swap 0 (c':=aD br 201 [_,(Y d),(Y last),(C 0)]) I p o (λb s=>.inl s) (by simp [aD])
 exact ⟨_,_,I,j,G I<|Ne<|G rfl<|lT<|No<|G rfl<|Nh<|sN [nS,_] λw f=>⟨I,f.fr,⟨_,f.at (i:=0) I⟩⟩⟩
theorem Lq(br)(D:Γ)(off last most:Nat)(w A c)(l:At w br 201 [.slice A D.length c,Y off,C (last:Int),C 0])(a:w.ownsRow 0 5 1 (.slice A D.length c) D.length (B8 D))(s:D.length<=4294967296)(t:off<=D.length)(y:most<=4294967296)(r:eP D off=none):
  Θ 149 #[Z br 0,C (most:Int)] w λe o=>e = .returned (.tuple #[nS,C 3])/\Fr [br] w o/\∃ d:Nat,At o br 201 [.slice A D.length c,Y d,C (last:Int),C 0]:=by
 have HA:=D3 l
 have HO:=D3 a
 have HNB:Hid (∀ g,(F2 A D c).ownBlock=some g->g∉[br]):=λg x=>by
  have u:=mX a l (by decide)
  grind
 clear l a
 refine bS AG0 22 (Mm.one HA.out) rfl<|Nc<|G rfl<|Nb<|G rfl<|R<|eR 181 _ rfl J (λ_=>J) (λw f=>(Ax br D off last most w ⟨A,c,I,f.at (i:=0) I,gC HO.out f.fr HNB.out⟩ t s ⟨U,U⟩).mono ?_)
 intro e o h
 unfold oQ at h; rw [r] at h; dsimp only at h
 obtain ⟨n,rfl,d,A',p,k,m,_⟩:=h
 obtain ⟨rfl,rfl⟩:A=A'/\c=p:=by simpa using k
 have j:=f.swap 0 (c':=aD br 201 [_,(Y d),(Y last),(C 0)]) I n m (λb q=>.inl q) (by simp [aD])
 exact ⟨_,_,I,j,G I<|Ne<|G rfl<|lT<|No<|G rfl<|Nh<|sN [nS,_] λw f=>⟨I,f.fr,⟨_,f.at (i:=0) I⟩⟩⟩
abbrev K4(a):=Value.int .i64 a
theorem Ue(l f br D)(off last most:Nat)(w)(h:At w l 148 [Z br 0])(j:At w f 3 [C (most:Int)])(Q:bY X w br D off last 0)(L:D.length<=4294967296)(P:off<=D.length)(N:most<=4294967296)(n m)(F:eP D off=some (n,m))(O:n<=most)(H:m+n<=D.length):
  Θ 219 #[Z l 0,Z f 0] w λe u=>e = .returned (.tuple #[.string (bL ((D.drop m).take n)),C 0])/\Fr [br] w u/\bY X u br D (m+n) last 0:=by
 obtain ⟨A,c,z,k,a⟩:=Q
 have S:w.cell? ⟨l,0,none⟩=some (E3 br):=by rw [h.cell]; rfl
 have s:l≠br:=h.ne k (by decide)
 have T:w.cell? ⟨f,0,none⟩=some (K4 most):=by rw [j.cell]; rfl
 have t:f≠br:=j.ne k (by decide)
 have HA:=D3 k
 have HO:=D3 a
 have HR:Hid (aI w A (B8 D)):=aI.bM a
 have E:D.length<=c:=ownCap a
 have HNB:Hid (∀ g,(F2 A D c).ownBlock=some g->g∉[br]):=λg K=>by
  have x:=mX a k (by decide)
  simp only [G2]
  rintro rfl
  exact x K.symm
 have HNE:Hid (∀ b o,A=some ⟨b,o,none⟩->b∉[br]):=λb o y=>HNB.out b (by rw [y]; rfl)
 clear k a h j
 refine bS AG1 15 (Mm.one HA.out) rfl<|Nc<|G rfl<|Nb<|lW (rW (λw d=>d.gA S (by simpa using s)))<|lW (rW (λw d=>d.gA T (by simpa using t)))<|R<|eR 149 _ rfl J (λ_=>J) (λw d=>(Ln br D off last most w A c (d.at (i:=0) I) (gC HO.out d.fr HNB.out) L P N n m F O H).mono ?_)
 rintro e u ⟨rfl,r,q⟩
 have p:=d.swap 0 (c':=aD br 201 [_,_,(Y last),_]) I r q (λb B=>.inl B) (by simp [aD])
 exact ⟨_,_,I,p,G I<|Nb<|G rfl<|lw _ (kM (e:=5) ((D.drop m).take n) rfl J J J rfl (by rw [I8,Q7,Y0 U]) (λw d=>Fs (HR.out.fr d.fr HNE.out) (by rw [eX]; exact E)))<|G rfl<|Nd<|sN [_,_] λw d=>⟨I,d.fr,A,c,z,d.at (i:=0) I,gC HO.out d.fr HNB.out⟩⟩
theorem Uf(q f br D)(off last most:Nat)(w)(k:At w q 148 [Z br 0])(l:At w f 3 [C (most:Int)])(T:bY X w br D off last 0)(O:D.length<=4294967296)(S:off<=D.length)(P:most<=4294967296)(n m)(H:eP D off=some (n,m))(Q:n<=most)(K:D.length < m+n):
  Θ 219 #[Z q 0,Z f 0] w λe y=>e = .returned (.tuple #[.string (bL []),C 3])/\Fr [br] w y/\∃ h:Nat,bY X y br D h last 0:=by
 obtain ⟨A,c,E,p,d⟩:=T
 have W:w.cell? ⟨q,0,none⟩=some (E3 br):=by rw [k.cell]; rfl
 have u:q≠br:=k.ne p (by decide)
 have hy:w.cell? ⟨f,0,none⟩=some (K4 most):=by rw [l.cell]; rfl
 have x:f≠br:=l.ne p (by decide)
 have HA:=D3 p
 have HO:=D3 d
 have HNB:Hid (∀ g,(F2 A D c).ownBlock=some g->g∉[br]):=λg L=>by
  have z:=mX d p (by decide)
  simp only [G2]
  rintro rfl
  exact z L.symm
 have HNE:Hid (∀ b o,A=some ⟨b,o,none⟩->b∉[br]):=λb o B=>HNB.out b (by rw [B]; rfl)
 clear p d k l
 refine bS AG1 15 (Mm.one HA.out) rfl<|Nc<|G rfl<|Nb<|lW (rW (λw a=>a.gA W (by simpa using u)))<|lW (rW (λw a=>a.gA hy (by simpa using x)))<|R<|eR 149 _ rfl J (λ_=>J) (λw a=>(Lo br D off last most w A c (a.at (i:=0) I) (gC HO.out a.fr HNB.out) O S P n m H Q K).mono ?_)
 rintro e y ⟨rfl,t,h,s⟩
 have r:=a.swap 0 (c':=aD br 201 [_,_,(Y last),_]) I t s (λb F=>.inl F) (by simp [aD])
 exact ⟨_,_,I,r,G I<|Nb<|G rfl<|lw _ (kM (e:=5) [] rfl J J J rfl rfl (λw a j v N=>by simp [B8] at N))<|G rfl<|Nd<|sN [_,_] λw a=>⟨I,a.fr,_,A,c,E,a.at (i:=0) I,gC HO.out a.fr HNB.out⟩⟩
theorem Ug(q f br D)(off last most:Nat)(w)(k:At w q 148 [Z br 0])(l:At w f 3 [C (most:Int)])(S:bY X w br D off last 0)(N:D.length<=4294967296)(Q:off<=D.length)(O:most<=4294967296)(n m)(H:eP D off=some (n,m))(P:most < n):
  Θ 219 #[Z q 0,Z f 0] w λe y=>e = .returned (.tuple #[.string (bL []),C 2])/\Fr [br] w y/\∃ h:Nat,bY X y br D h last 0:=by
 obtain ⟨A,c,E,p,d⟩:=S
 have T:w.cell? ⟨q,0,none⟩=some (E3 br):=by rw [k.cell]; rfl
 have u:q≠br:=k.ne p (by decide)
 have W:w.cell? ⟨f,0,none⟩=some (K4 most):=by rw [l.cell]; rfl
 have x:f≠br:=l.ne p (by decide)
 have HA:=D3 p
 have HO:=D3 d
 have HNB:Hid (∀ g,(F2 A D c).ownBlock=some g->g∉[br]):=λg K=>by
  have z:=mX d p (by decide)
  simp only [G2]
  rintro rfl
  exact z K.symm
 have HNE:Hid (∀ b o,A=some ⟨b,o,none⟩->b∉[br]):=λb o B=>HNB.out b (by rw [B]; rfl)
 clear p d k l
 refine bS AG1 15 (Mm.one HA.out) rfl<|Nc<|G rfl<|Nb<|lW (rW (λw a=>a.gA T (by simpa using u)))<|lW (rW (λw a=>a.gA W (by simpa using x)))<|R<|eR 149 _ rfl J (λ_=>J) (λw a=>(Lp br D off last most w A c (a.at (i:=0) I) (gC HO.out a.fr HNB.out) N Q O n m H P).mono ?_)
 rintro e y ⟨rfl,t,h,s⟩
 have r:=a.swap 0 (c':=aD br 201 [_,_,(Y last),_]) I t s (λb F=>.inl F) (by simp [aD])
 exact ⟨_,_,I,r,G I<|Nb<|G rfl<|lw _ (kM (e:=5) [] rfl J J J rfl rfl (λw a j v L=>by simp [B8] at L))<|G rfl<|Nd<|sN [_,_] λw a=>⟨I,a.fr,_,A,c,E,a.at (i:=0) I,gC HO.out a.fr HNB.out⟩⟩
theorem Uh(n f br D)(off last most:Nat)(w)(k:At w n 148 [Z br 0])(l:At w f 3 [C (most:Int)])(O:bY X w br D off last 0)(K:D.length<=4294967296)(N:off<=D.length)(L:most<=4294967296)(E:eP D off=none):
  Θ 219 #[Z n 0,Z f 0] w λe u=>e = .returned (.tuple #[.string (bL []),C 3])/\Fr [br] w u/\∃ h:Nat,bY X u br D h last 0:=by
 obtain ⟨A,c,z,m,d⟩:=O
 have P:w.cell? ⟨n,0,none⟩=some (E3 br):=by rw [k.cell]; rfl
 have s:n≠br:=k.ne m (by decide)
 have Q:w.cell? ⟨f,0,none⟩=some (K4 most):=by rw [l.cell]; rfl
 have t:f≠br:=l.ne m (by decide)
 have HA:=D3 m
 have HO:=D3 d
 have HNB:Hid (∀ g,(F2 A D c).ownBlock=some g->g∉[br]):=λg F=>by
  have x:=mX d m (by decide)
  simp only [G2]
  rintro rfl
  exact x F.symm
 have HNE:Hid (∀ b o,A=some ⟨b,o,none⟩->b∉[br]):=λb o y=>HNB.out b (by rw [y]; rfl)
 clear m d k l
 refine bS AG1 15 (Mm.one HA.out) rfl<|Nc<|G rfl<|Nb<|lW (rW (λw a=>a.gA P (by simpa using s)))<|lW (rW (λw a=>a.gA Q (by simpa using t)))<|R<|eR 149 _ rfl J (λ_=>J) (λw a=>(Lq br D off last most w A c (a.at (i:=0) I) (gC HO.out a.fr HNB.out) K N L E).mono ?_)
 rintro e u ⟨rfl,r,h,q⟩
 have p:=a.swap 0 (c':=aD br 201 [_,_,(Y last),_]) I r q (λb B=>.inl B) (by simp [aD])
 exact ⟨_,_,I,p,G I<|Nb<|G rfl<|lw _ (kM (e:=5) [] rfl J J J rfl rfl (λw a j v H=>by simp [B8] at H))<|G rfl<|Nd<|sN [_,_] λw a=>⟨I,a.fr,_,A,c,z,a.at (i:=0) I,gC HO.out a.fr HNB.out⟩⟩
set_option maxHeartbeats 4000000 in
theorem Uk(br D off last m x bx by_ w)(hr:bY X w br D off last 0)(hdec:∀ W,Fr [] w W->bY X W br D off last 0->Calls Tryz.prog 219 #[Z bx 0,Z by_ 0] W λe w'=>e = .returned (.tuple #[.string (bL x),C 0])/\Fr [br] W w'/\bY X w' br D m last 0):
  Calls Tryz.prog 163 #[Z br 0,.func (.func 219) #[] #[Z bx 0,Z by_ 0]] w λe w'=>e = .returned (vS x)/\Fr [br] w w'/\bY X w' br D m off 0:=by
 obtain ⟨A,c,hX,ha,hrow⟩:=hr
 have c1:w.cell? ⟨br,1,none⟩=some (Value.int .i64 (off:Int)):=by rw [ha.cell]; rfl
 have c3:w.cell? ⟨br,3,none⟩=some (C 0):=by rw [ha.cell]; rfl
 have hlt:=ha.lt
 have HR:=D3 (And.intro ha hrow)
 have HD:=D3 hdec
 clear ha hrow hdec
 have hmf:∀ (fn:Fn) (first cap:Array Value) (w:World),(Instr.makeFunc fn first cap).run Tryz.prog w = .ok (.func fn first cap) w:=λ_ _ _ _=>rfl
 go_enter_defers AC7,ACe
 go_wp2_with fail
 obtain ⟨W,hW⟩:∃ W,W=((w.alloc (Obj.cells #[Z br 0] 148)).alloc (Obj.cells #[Value.string ⟨#[]⟩] 9)).alloc (Obj.cells #[C (off:Int)] 3):=⟨_,rfl⟩
 rw [<- hW]
 have HW:Hid (At W w.heap.size 148 [Z br 0]/\At W (w.heap.size+1) 9 [Value.string ⟨#[]⟩]/\At W (w.heap.size+1+1) 3 [C (off:Int)]/\Fr [] w W/\bY X W br D off last 0):=by
  rw [hW]
  refine ⟨((At.new w 148 [Z br 0]).alloc _).alloc _,?_,?_,(((Fr.refl _ _).alloc _).alloc _).alloc _,A,c,hX,((HR.out.1.alloc _).alloc _).alloc _,((HR.out.2.alloc _).alloc _).alloc _⟩
  .have:=(At.new (w.alloc (Obj.cells #[Z br 0] 148)) 9 [Value.string ⟨#[]⟩]).alloc (Obj.cells #[C (off:Int)] 3)
   simpa using this
  .have:=At.new ((w.alloc (Obj.cells #[Z br 0] 148)).alloc (Obj.cells #[Value.string ⟨#[]⟩] 9)) 3 [C (off:Int)]
   simpa using this
 clear hW c1 c3
 have d0:W.cell? ⟨w.heap.size,0,none⟩=some (Value.pointer (qa br)):=by rw [HW.out.1.cell]; rfl
 have nb1:w.heap.size≠br:=U
 have nb2:br≠w.heap.size:=U
 go_region_held3 (λw'=>w'.cell? ⟨w.heap.size,0,none⟩=some (Value.pointer (qa br))) (go_keep) (first | (go_at_call 219; refine (HD.out W.drew (by exact HW.out.2.2.2.1.drew) (by exact HW.out.2.2.2.2)).mono ?_; rintro e w1 ⟨rfl,hf1,hr1⟩; obtain ⟨e0,e1,z1,e3,z3⟩:=sR (W:=W) HW.out.1 HW.out.2.1 HW.out.2.2.2.2 hf1 hr1; have H1:=D3 (And.intro hf1 hr1); clear hf1 hr1))
 go_wp2_with fail
 obtain ⟨k0,k1,k2,k3,kf⟩:=sS HW.out.1 HW.out.2.1 HW.out.2.2.1 HW.out.2.2.2.2 H1.out.1 H1.out.2 (Value.string (bL x)) (C 0) U (by decide)
 refine AA2 (f:=187) (args:=#[Value.pointer (some ⟨w.heap.size+1+1,0,none⟩),Value.pointer (qa w.heap.size),Value.pointer (some ⟨w.heap.size+1,0,none⟩)]) si (by simp [go_sem]) ?_
 obtain ⟨A',c',hX',k3'⟩:=k3
 refine (SF _ _ _ br A' _ c' _ _ _ _ k2 k0 k3'.1).mono ?_
 rintro e u' w'' ⟨rfl,rfl,rfl⟩
 obtain ⟨g1,g2,g3⟩:=Av (off:=off) HW.out.2.2.2.1 kf U k1 (by decide) k3'.1 k3'.2 hX'
 exact ⟨Value.string (bL x),by simp [results,go_sem,g1],rfl,g2,g3⟩
set_option maxHeartbeats 4000000 in
theorem FT(br D off last er x bx by_ w)(hr:bY X w br D off last 0)(he:er≠0)(hdec:∀ W,Fr [] w W->bY X W br D off last 0->Calls Tryz.prog 219 #[Z bx 0,Z by_ 0] W λe w'=>e = .returned (.tuple #[.string (bL x),C er])/\Fr [br] W w'/\∃ off':Nat,bY X w' br D off' last 0):
  Calls Tryz.prog 163 #[Z br 0,.func (.func 219) #[] #[Z bx 0,Z by_ 0]] w λe w'=>e = .returned qe/\Fr [br] w w'/\bY X w' br D off off er:=by
 have HE:=D3 he
 clear he
 obtain ⟨A,c,hX,ha,hrow⟩:=hr
 have c1:w.cell? ⟨br,1,none⟩=some (Value.int .i64 (off:Int)):=by rw [ha.cell]; rfl
 have c3:w.cell? ⟨br,3,none⟩=some (C 0):=by rw [ha.cell]; rfl
 have hlt:=ha.lt
 have HR:=D3 (And.intro ha hrow)
 have HD:=D3 hdec
 clear ha hrow hdec
 have hmf:∀ (fn:Fn) (first cap:Array Value) (w:World),(Instr.makeFunc fn first cap).run Tryz.prog w = .ok (.func fn first cap) w:=λ_ _ _ _=>rfl
 go_enter_defers AC7,ACe
 go_wp2_with fail
 obtain ⟨W,hW⟩:∃ W,W=((w.alloc (Obj.cells #[Z br 0] 148)).alloc (Obj.cells #[Value.string ⟨#[]⟩] 9)).alloc (Obj.cells #[C (off:Int)] 3):=⟨_,rfl⟩
 rw [<- hW]
 have HW:Hid (At W w.heap.size 148 [Z br 0]/\At W (w.heap.size+1) 9 [Value.string ⟨#[]⟩]/\At W (w.heap.size+1+1) 3 [C (off:Int)]/\Fr [] w W/\bY X W br D off last 0):=by
  rw [hW]
  refine ⟨((At.new w 148 [Z br 0]).alloc _).alloc _,?_,?_,(((Fr.refl _ _).alloc _).alloc _).alloc _,A,c,hX,((HR.out.1.alloc _).alloc _).alloc _,((HR.out.2.alloc _).alloc _).alloc _⟩
  .have:=(At.new (w.alloc (Obj.cells #[Z br 0] 148)) 9 [Value.string ⟨#[]⟩]).alloc (Obj.cells #[C (off:Int)] 3)
   simpa using this
  .have:=At.new ((w.alloc (Obj.cells #[Z br 0] 148)).alloc (Obj.cells #[Value.string ⟨#[]⟩] 9)) 3 [C (off:Int)]
   simpa using this
 clear hW c1 c3
 have d0:W.cell? ⟨w.heap.size,0,none⟩=some (Value.pointer (qa br)):=by rw [HW.out.1.cell]; rfl
 have nb1:w.heap.size≠br:=U
 have nb2:br≠w.heap.size:=U
 go_region_held3 (λw'=>w'.cell? ⟨w.heap.size,0,none⟩=some (Value.pointer (qa br))) (go_keep) (first | (go_at_call 219; refine (HD.out W.drew (by exact HW.out.2.2.2.1.drew) (by exact HW.out.2.2.2.2)).mono ?_; rintro e w1 ⟨rfl,hf1,off',hr1⟩; obtain ⟨e0,e1,z1,e3,z3⟩:=sR (W:=W) HW.out.1 HW.out.2.1 HW.out.2.2.2.2 hf1 hr1; have H1:=D3 (And.intro hf1 hr1); clear hf1 hr1))
 go_wp2_with fail
 obtain ⟨k0,k1,k2,k3,kf⟩:=sS HW.out.1 HW.out.2.1 HW.out.2.2.1 HW.out.2.2.2.2 H1.out.1 H1.out.2 (Value.string (bL x)) (Value.int .i64 er) U (by decide)
 refine AA2 (f:=187) (args:=#[Value.pointer (some ⟨w.heap.size+1+1,0,none⟩),Value.pointer (qa w.heap.size),Value.pointer (some ⟨w.heap.size+1,0,none⟩)]) si (by simp [go_sem]) ?_
 obtain ⟨A',c',hX',k3'⟩:=k3
 refine (SG _ _ _ br A' _ c' _ _ _ er (Value.string (bL x)) _ k2 k0 k1 k3'.1 HE.out U).mono ?_
 rintro e u' w'' ⟨rfl,rfl,rfl⟩
 obtain ⟨g1,g2,g3⟩:=Aw (off:=off) (z:=Value.string ⟨#[]⟩) HW.out.2.2.2.1 kf U k1 (by decide) (by decide) k3'.1 k3'.2 hX'
 exact ⟨Value.string ⟨#[]⟩,by simp [results,go_sem,g1],rfl,g2,g3⟩
def Rd.text(r:Rd)(most:Nat):List UInt8 × Rd:=if r.err=0 then (match eP r.D r.off with
 | none=>([],r.fail 3)
 | some (n,m)=>if most < n then ([],r.fail 2) else if m+n <= r.D.length then ((r.D.drop m).take n,r.done (m+n)) else ([],r.fail 3)) else ([],r)
abbrev D6(a b:Nat):Value:=.func (.func 219) #[] #[(Z a 0),(Z b 0)]
theorem Um(br r)(most:Nat)(w)(g:cF X w br r)(_hk:r.Ok)(_hm:most<=4294967296)(b:r.err≠0):
  Θ 205 #[Z br 0,C (most:Int)] w λe h=>e = .returned (vS ((r.text most).1))/\Fr [br] w h/\cF X h br (r.text most).2:=by
 have HR:=D3 g
 clear g
 refine bS AEi 8 (B3 w) rfl<|Nc<|R<|pB [(Z br 0)] λd=>R<|pB [(Y most)] λf=>G I<|Nb<|lL 0 rfl<|M (D6 d f)<|R<|pI 163 #[(Z br 0),(D6 d f)] rfl J (λ_=>J) (λi a=>?_)
 have HR1:Hid (cF X i br r):=bY.fr HR.out a.fr
 have HF1:=D3 a.fr
 refine (SJ br r _ i HR1.out b).mono ?_
 rintro e j ⟨rfl,k,c⟩
 refine ⟨_,j,[],[],I,Mm.start j [],?_⟩
 clear a
 exact G I<|Nd<|sN [_] λw a=>⟨by unfold Rd.text; rw [if_neg b]; rfl,((HF1.out.trans k).trans a.fr).mono si,by unfold Rd.text; rw [if_neg b]; exact bY.fr c a.fr⟩
theorem Un(br r most w)(j:cF X w br r)(p:r.Ok)(t:most<=4294967296)(f:r.err=0)(n m)(l:eP r.D r.off=some (n,m))(u:n<=most)(b:m+n<=r.D.length):
  Θ 205 #[Z br 0,C (most:Int)] w λe q=>e = .returned (vS ((r.text most).1))/\Fr [br] w q/\cF X q br (r.text most).2:=by
 have HR:=D3 j
 clear j
 refine bS AEi 8 (B3 w) rfl<|Nc<|R<|pB [(Z br 0)] λc=>R<|pB [(Y most)] λd=>G I<|Nb<|lL 0 rfl<|M (D6 c d)<|R<|pI 163 #[(Z br 0),(D6 c d)] rfl J (λ_=>J) (λk a=>?_)
 have HR1:Hid (cF X k br r):=bY.fr HR.out a.fr
 have HB1:Hid (At k c 148 _):=a.at (i:=0) I
 have HB2:Hid (At k d 3 [C most]):=a.at (i:=1) I
 have HF1:=D3 a.fr
 refine (Uk br r.D _ _ _ _ c d k (by have h:=HR1.out; unfold cF at h; rw [f] at h; exact h) (λW g j=>Ue c d br r.D _ _ most W (HB1.out.fr g si) (HB2.out.fr g si) j p.len p.off t n m l u b)).mono ?_
 rintro e s ⟨rfl,g,o⟩
 refine ⟨_,s,[],[],I,Mm.start s [],?_⟩
 clear a
 exact G I<|Nd<|sN [_] λw a=>⟨by unfold Rd.text; rw [if_pos f,l]; dsimp only; rw [if_neg U,if_pos b]; rfl,((HF1.out.mono si).trans g).trans (a.fr.mono si),by unfold Rd.text; rw [if_pos f,l]; dsimp only; rw [if_neg U,if_pos b]; unfold Rd.done cF; have h:=bY.fr o a.fr; rw [<- f] at h; exact h⟩
theorem Uo(br r most w)(f:cF X w br r)(p:r.Ok)(t:most<=4294967296)(j:r.err=0)(n m)(k:eP r.D r.off=some (n,m))(u:n<=most)(l:r.D.length < m+n):
  Θ 205 #[Z br 0,C (most:Int)] w λe q=>e = .returned (vS ((r.text most).1))/\Fr [br] w q/\cF X q br (r.text most).2:=by
 have HR:=D3 f
 clear f
 refine bS AEi 8 (B3 w) rfl<|Nc<|R<|pB [(Z br 0)] λb=>R<|pB [(Y most)] λc=>G I<|Nb<|lL 0 rfl<|M (D6 b c)<|R<|pI 163 #[(Z br 0),(D6 b c)] rfl J (λ_=>J) (λg a=>?_)
 have HR1:Hid (cF X g br r):=bY.fr HR.out a.fr
 have HB1:Hid (At g b 148 _):=a.at (i:=0) I
 have HB2:Hid (At g c 3 [C most]):=a.at (i:=1) I
 have HF1:=D3 a.fr
 refine (FT br r.D _ _ 3 [] b c g (by have h:=HR1.out; unfold cF at h; rw [j] at h; exact h) (by decide) (λW d f=>Uf b c br r.D _ _ most W (HB1.out.fr d si) (HB2.out.fr d si) f p.len p.off t n m k u l)).mono ?_
 rintro e s ⟨rfl,d,o⟩
 refine ⟨_,s,[],[],I,Mm.start s [],?_⟩
 clear a
 exact G I<|Nd<|sN [_] λw a=>⟨by unfold Rd.text; rw [if_pos j,k]; dsimp only; rw [if_neg U,if_neg U]; rfl,((HF1.out.mono si).trans d).trans (a.fr.mono si),by unfold Rd.text; rw [if_pos j,k]; dsimp only; rw [if_neg U,if_neg U]; unfold Rd.fail cF; exact bY.fr o a.fr⟩
theorem Up(br r most w)(f:cF X w br r)(p:r.Ok)(t:most<=4294967296)(j:r.err=0)(n m)(k:eP r.D r.off=some (n,m))(l:most < n):
  Θ 205 #[Z br 0,C (most:Int)] w λe q=>e = .returned (vS ((r.text most).1))/\Fr [br] w q/\cF X q br (r.text most).2:=by
 have HR:=D3 f
 clear f
 refine bS AEi 8 (B3 w) rfl<|Nc<|R<|pB [(Z br 0)] λb=>R<|pB [(Y most)] λc=>G I<|Nb<|lL 0 rfl<|M (D6 b c)<|R<|pI 163 #[(Z br 0),(D6 b c)] rfl J (λ_=>J) (λg a=>?_)
 have HR1:Hid (cF X g br r):=bY.fr HR.out a.fr
 have HB1:Hid (At g b 148 _):=a.at (i:=0) I
 have HB2:Hid (At g c 3 [C most]):=a.at (i:=1) I
 have HF1:=D3 a.fr
 refine (FT br r.D _ _ 2 [] b c g (by have h:=HR1.out; unfold cF at h; rw [j] at h; exact h) (by decide) (λW d f=>Ug b c br r.D _ _ most W (HB1.out.fr d si) (HB2.out.fr d si) f p.len p.off t n m k l)).mono ?_
 rintro e s ⟨rfl,d,o⟩
 refine ⟨_,s,[],[],I,Mm.start s [],?_⟩
 clear a
 exact G I<|Nd<|sN [_] λw a=>⟨by unfold Rd.text; rw [if_pos j,k]; dsimp only; rw [if_pos l]; rfl,((HF1.out.mono si).trans d).trans (a.fr.mono si),by unfold Rd.text; rw [if_pos j,k]; dsimp only; rw [if_pos l]; unfold Rd.fail cF; exact bY.fr o a.fr⟩
theorem Uq(br r)(most:Nat)(w)(f:cF X w br r)(m:r.Ok)(p:most<=4294967296)(j:r.err=0)(k:eP r.D r.off=none):
  Θ 205 #[Z br 0,C (most:Int)] w λe n=>e = .returned (vS ((r.text most).1))/\Fr [br] w n/\cF X n br (r.text most).2:=by
 have HR:=D3 f
 clear f
 refine bS AEi 8 (B3 w) rfl<|Nc<|R<|pB [(Z br 0)] λb=>R<|pB [(Y most)] λc=>G I<|Nb<|lL 0 rfl<|M (D6 b c)<|R<|pI 163 #[(Z br 0),(D6 b c)] rfl J (λ_=>J) (λg a=>?_)
 have HR1:Hid (cF X g br r):=bY.fr HR.out a.fr
 have HB1:Hid (At g b 148 [Z br 0]):=a.at (i:=0) I
 have HB2:Hid (At g c 3 [C (most:Int)]):=a.at (i:=1) I
 have HF1:=D3 a.fr
 refine (FT br r.D r.off r.last 3 [] b c g (by have h:=HR1.out; unfold cF at h; rw [j] at h; exact h) (by decide) (λW d f=>Uh b c br r.D r.off r.last most W (HB1.out.fr d si) (HB2.out.fr d si) f m.len m.off p k)).mono ?_
 rintro e o ⟨rfl,d,l⟩
 refine ⟨_,o,[],[],I,Mm.start o [],?_⟩
 clear a
 exact G I<|Nd<|sN [qe] λw a=>⟨by unfold Rd.text; rw [if_pos j,k]; dsimp only; rfl,((HF1.out.mono si).trans d).trans (a.fr.mono si),by unfold Rd.text; rw [if_pos j,k]; dsimp only; unfold Rd.fail cF; exact bY.fr l a.fr⟩
theorem Ur(br r)(most:Nat)(w)(f:cF X w br r)(c:r.Ok)(d:most<=4294967296):Θ 205 #[Z br 0,C (most:Int)] w λe g=>e = .returned (vS ((r.text most).1))/\Fr [br] w g/\cF X g br (r.text most).2:=by
 by_cases a:r.err=0
 .cases b:eP r.D r.off with
  | none=>grind [Uq]
  | some p =>
    obtain ⟨n,m⟩:=p
    by_cases h:n<=most
    .by_cases i:m+n<=r.D.length
     .grind [Un]
     .exact Uo br r most w f c d a n m b h U
    .exact Up br r most w f c d a n m b U
 grind [Um]
end
def bH(X:Option Addr × Nat)(br:Nat)(r:Rd):Ch where
 fp:=br::eT X.1
 holds w:=cF X w br r /\ r.Ok
 ok w w' hb h:=by
  obtain ⟨⟨A,c,hX,h1,h2⟩,hk⟩:=h
  subst hX
  refine ⟨⟨A,c,rfl,?_,?_⟩,hk⟩
  .exact (aD br 201 _).ok w w' (λb hb1=>hb b (by rw [show b=br from List.mem_singleton.1 hb1]; exact List.mem_cons_self)) h1
  .exact (bD 5 1 A r.D.length c (B8 r.D)).ok w w' (λb hb1=>hb b (List.mem_cons_of_mem _ hb1)) h2
 lt w h b hb:=by
  obtain ⟨⟨A,c,hX,h1,h2⟩,hk⟩:=h
  subst hX
  rcases List.mem_cons.1 hb with rfl | hb
  .exact h1.lt
  .exact (bD 5 1 A r.D.length c (B8 r.D)).lt w h2 b hb
theorem Lr{r:Rd}(h:cF X w br r):(br::eT X.1).Nodup:=by
 obtain ⟨A,c,g,d,e⟩:=h
 subst g
 refine ACg.2 ⟨λb=>?_,uT A⟩
 have f:=mX e d (by decide)
 cases A with
 | none=>simp [eT] at b
 | some a =>
  have:br=a.block:=by simpa [eT] using b
  exact f (by rw [this]; rfl)
theorem wW{r a:Rd}(d:cC [bH X br r] w)(f:Fr [br] w w')(c:cF X w' br a)(g:a.Ok):aN [bH X br r] w [bH X br a] w' :=
 d.swap 0 (c':=bH X br a) I (f.mono (S':=br::eT X.1) (by simp)) ⟨c,g⟩ (λb e=>.inl e) (Lr c)
theorem Us{r:Rd}(j:Fr [] w w')(f:cF (A,c) w' br r)(k:r.Ok)(i:w.heap.size<=br)(l:w'.ownsRow w.heap.size 5 1 (.slice A r.D.length c) r.D.length (B8 r.D)):aN [] w [bH (A,c) br r] w' :=
 (B3 w).push (c:=bH (A,c) br r) j ⟨f,k⟩ (λb a=>by
  rcases T0.1 a with rfl | a
  .exact i
  .rcases l.2 with ⟨d,_⟩ | ⟨g,cap,h,d,e,_⟩
   .simp only [R6] at d
    obtain ⟨rfl,_,rfl⟩:=d
    simp [eT] at a
   .simp only [R6] at d
    obtain ⟨rfl,_,rfl⟩:=d
    have:b=g:=by simpa [eT] using a
    rw [this]
    exact e) (Lr f)
def Rd.cnt(r:Rd)(m:Nat):Nat × Rd:=r.count (m:Int)
theorem Rd.Ok.cnt{r:Rd}(h:r.Ok)(most):(r.cnt most).2.Ok:=by
 unfold Rd.cnt Rd.count
 split
 .cases a:eP r.D r.off with
  | none=>exact ⟨h.off,h.len⟩
  | some p =>
    simp only
    split
    .exact ⟨h.off,h.len⟩
    .exact ⟨(rD _ _ p.1 p.2 a).2.1,h.len⟩
 omega
theorem Rd.Ok.text{r:Rd}(h:r.Ok)(most):(r.text most).2.Ok:=by
 unfold Rd.text
 split
 .cases a:eP r.D r.off with
  | none=>exact ⟨h.off,h.len⟩
  | some p =>
    obtain ⟨n,m⟩:=p
    dsimp only
    split
    .exact ⟨h.off,h.len⟩
    .split
     .exact ⟨ag,h.len⟩
     .exact ⟨h.off,h.len⟩
 omega
theorem sY(X br r w)(b:cC [bH X br (r)] w):
  Θ 89 #[(Z br 0)] w λe d=>e = .returned (.int .u64 ((r.uint.1:Nat):Int))/\aN [bH X br (r)] w [bH X br (r.uint.2)] d:=by
 have h:=b.at (i:=0) I; obtain ⟨g,c⟩:cF X w br r/\r.Ok:=h
 refine (vA br r w g c).mono ?_
 rintro e d ⟨rfl,f,a⟩
 exact ⟨I,wW b f a c.uint'⟩
theorem CQ(X br r most w)(b:cC [bH X br (r)] w)(j:most<=4294967296):
  Θ 171 #[(Z br 0),(Y most)] w λe d=>e = .returned (Y ((r.cnt most).1))/\aN [bH X br (r)] w [bH X br ((r.cnt most).2)] d:=by
 have h:=b.at (i:=0) I; obtain ⟨g,c⟩:cF X w br r/\r.Ok:=h
 refine (SC br r (most:Int) w g c ⟨by omega,by omega⟩).mono ?_
 rintro e d ⟨rfl,f,a⟩
 exact ⟨I,wW b f a (c.cnt most)⟩
theorem Ut(X br r most w)(b:cC [bH X br (r)] w)(g:most<=4294967296):
  Θ 205 #[(Z br 0),(Y most)] w λe d=>e = .returned (vS ((r.text most).1))/\aN [bH X br (r)] w [bH X br ((r.text most).2)] d:=by
 have h:=b.at (i:=0) I; obtain ⟨j,c⟩:cF X w br r/\r.Ok:=h
 refine (Ur br r most w j c g).mono ?_
 rintro e d ⟨rfl,f,a⟩
 exact ⟨I,wW b f a (c.text most)⟩
theorem wX(X br r w)(b:cC [bH X br (r)] w):
  Θ 133 #[(Z br 0)] w λe d=>e = .returned (vS r.sum.1)/\aN [bH X br (r)] w [bH X br (r.sum.2)] d:=by
 have h:=b.at (i:=0) I; obtain ⟨g,c⟩:cF X w br r/\r.Ok:=h
 refine (Ku br r w g c).mono ?_
 rintro e d ⟨rfl,f,a⟩
 exact ⟨I,wW b f a c.sum⟩
theorem mO(X br r w)(a:cC [bH X br (r)] w):
  Θ 94 #[(Z br 0)] w λe f=>e = .returned (.tuple #[(Y r.off),(.int .i64 r.end_)])/\aN [bH X br (r)] w [bH X br (r)] f:=by
 have h:=a.at (i:=0) I; obtain ⟨d,c⟩:cF X w br r/\r.Ok:=h
 refine (Kr br r w d c).mono ?_
 rintro e f ⟨rfl,b⟩
 exact ⟨I,wW a (b.mono (by simp)) (bY.fr d b) c⟩
theorem qK(A c D w)(j:Rf [] w (λw=>aI w A (B8 D)))(a:D.length<=4294967296):
  Θ 88 #[(V A D c)] w λe b=>∃ (X:Δ × Nat) (br:Nat),e = .returned (Z br 0)/\aN [] w [bH X br (Rd.mk D 0 0 0)] b:=by
 refine (Cy A c D w a j.here).mono ?_
 rintro e b ⟨br,A2,d,rfl,f,g,i,h⟩
 exact ⟨(A2,d),br,I,Us g i ⟨G6 _,a⟩ f h⟩
abbrev S0(a:Nat)(b:Option Addr)(c:Rd)(d:Nat):=[aD a 201 [(V b c.D d),(Y c.off),(Y c.last),(.int .i64 c.err)]]
abbrev S1:Value:=.int .i64 0
abbrev T7(a:Rd):=Y (a.D.length - a.off)
theorem oD(X br r w)(j:cC [bH X br (r)] w):
  Θ 100 #[(Z br 0)] w λe s=>e = .returned (Y (r.D.length - r.off))/\aN [bH X br (r)] w [bH X br (r)] s:=by
 have h:=j.at (i:=0) I; obtain ⟨q,b⟩:cF X w br r/\r.Ok:=h
 obtain ⟨A,c,m,k,a⟩:=q
 have o:=b.len; have p:=b.off
 have f:∀ g,(Value.slice A r.D.length c).ownBlock=some g->g∉[br]:=λg n=>by
  have l:=mX a k (by decide)
  simp only [G2]
  rintro rfl
  exact l n.symm
 refine wG (args:=[Value.pointer (some ⟨br,0,none⟩)]) [br] Tryz.func100 I 13 I [(0,Value.pointer (some ⟨br,0,none⟩))] ⟨I,trivial⟩ (S0 br A r c) (Mm.one k) ?_
 refine aT ?_
 refine aF ?_
 refine li I (fH S1 I (by kernel_rfl) (Ey I I) ?_)
 refine aO ?_
 refine aJ ?_
 refine aT ?_
 refine dN (S0 br A r c) 11 (by kernel_rfl) (λ_ h=>h) ?_
 refine BW (i:=0) (Z br 0) I I I (by kernel_rfl) (by kernel_rfl) (λ_ _ _ h=>h) (jC I I) ?_
 refine BW (i:=1) (Z br 0) I I I (by kernel_rfl) (by kernel_rfl) (λ_ _ _ h=>h) (gZ λ_=>by kernel_rfl) ?_
 refine BW (i:=2) (Z br 0) I I I (by kernel_rfl) (by kernel_rfl) (λ_ _ _ h=>h) (gZ λ_=>by kernel_rfl) ?_
 refine BW (i:=3) (V A r.D c) I I I (by kernel_rfl) (by kernel_rfl) (λ_ _ _ h=>h) (bW 0 I I (by kernel_rfl) I I) ?_
 refine BW (i:=4) (Y r.D.length) I I I (by kernel_rfl) (by kernel_rfl) (λ_ _ _ h=>h) (gZ λ_=>by kernel_rfl) ?_
 refine BW (i:=5) (Z br 0) I I I (by kernel_rfl) (by kernel_rfl) (λ_ _ _ h=>h) (jC I I) ?_
 refine BW (i:=6) (Z br 0) I I I (by kernel_rfl) (by kernel_rfl) (λ_ _ _ h=>h) (gZ λ_=>by kernel_rfl) ?_
 refine BW (i:=7) (Z br 1) I I I (by kernel_rfl) (by kernel_rfl) (λ_ _ _ h=>h) (gZ λ_=>by kernel_rfl) ?_
 refine BW (i:=8) (Y r.off) I I I (by kernel_rfl) (by kernel_rfl) (λ_ _ _ h=>h) (bW 0 I I (by kernel_rfl) I I) ?_
 refine BW (i:=9) (T7 r) I I I (by kernel_rfl) (by kernel_rfl) (λ_ _ _ h=>h) (gY (jT _ I I I I (by omega) (by omega)) (by show Value.int _ _=Value.int _ _; rw [Int.ofNat_sub b.off])) ?_
 refine BW (i:=10) (T7 r) I I I (by kernel_rfl) (by kernel_rfl) (λ_ _ _ h=>h) (Ey I I) ?_
 refine cG (by kernel_rfl) ?_
 refine aJ ?_
 refine gW ?_
 refine dL [(T7 r)] I ⟨I,trivial⟩ (λw d=>?_)
 exact ⟨I,wW j (d.fr.mono (by simp)) ⟨A,c,m,d.at (i:=0) I,gC a d.fr f⟩ b⟩
theorem CR{P:Program}(El:lN P t e z sz bt)(n)(s:n<=4294967296)(u:o.op = .makeSlice t x y)(p:o.dst=some d)(r:dH nt E o=true)(A:bA E x=some (C 0))(B:bA E y=some (Y n))(h:∀ b,St nt w0 F ((d,ql b 0 n)::E) (cs++[bD e sz (qa b) 0 n []]) K)(a:bt<=1024):eK P Q nt w0 F E cs o K :=
 pH p r λw m=>by
  obtain ⟨i,q,D,g,f⟩:=AA6 El.hi
  have H:bt*n<=1024*4294967296:=Z9 a s
  have k:=run_make (P:=P) w t e i z El.ht q D .i64 .i64 0 ((n:Nat):Int) (by omega) (by omega) (by rw [f,<- AG8]; omega) (by omega)
  have l:=m.push (c:=aD w.heap.size e (madeCells z.cells (n*sz)).toList) ((Fr.refl _ _).alloc _) (At.new w e _) (by simp [aD]) (by simp [aD])
  have j:=l.BH cs.length (by rw [T8 (J7 _),W6]; rfl) sz 0 n (by rw [Array.length_toList,size_madeCells]) (G6 _) (by unfold maxLen; omega)
  rw [AA0,X5,V3 _ _ (J7 _),W6,Z7] at j
  refine ⟨_,_,_,?_,j,h w.heap.size⟩
  unfold execOp
  rw [g,k6] at k
  simp only [u,cU A,cU B,P5,k]
  rfl
def Rd.cK(r:Rd):Nat -> List Bs × Rd
 | 0=>([],r)
 | n+1=>((r.cK n).1++[(r.cK n).2.sum.1],(r.cK n).2.sum.2)
def Rd.bP(r:Rd)(most:Nat):Nat:=min most ((r.D.length - r.off) / 32)
def Rd.items(r:Rd)(most:Nat):List Bs × Rd:=(r.cnt (r.bP most)).2.cK (r.cnt (r.bP most)).1
theorem Rd.xP(r:Rd)(most):(r.cnt most).1<=most:=by
 unfold Rd.cnt Rd.count
 grind
theorem Rd.uM(r:Rd):∀ n,(r.cK n).1.length=n
 | 0=>rfl
 | n+1=>by
  show ((r.cK n).1++[_]).length=_
  rw [C3,r.uM n]
  rfl
theorem Rd.oJ(r:Rd)(most):(r.items most).1.length<=most:=by
 unfold Rd.items
 rw [Rd.uM]
 exact P8 (r.xP _) (AD9 _ _)
def Rd.body(r:Rd)(lo hi:Bs):Option AP × Rd :=
 if r.uint.1=1 then (some ⟨lo,hi,.sum (r.uint.2.cnt 16384).1 (r.uint.2.cnt 16384).2.sum.1⟩,(r.uint.2.cnt 16384).2.sum.2)
 else if r.uint.1=2 then (if fN (r.uint.2.items 64).1 lo hi then some ⟨lo,hi,.list (r.uint.2.items 64).1⟩ else none,(r.uint.2.items 64).2)
 else if r.uint.1=3 then (if fN (r.uint.2.items 16384).1 lo hi && fN ((r.uint.2.items 16384).2.items 16384).1 lo hi then some ⟨lo,hi,.ans (r.uint.2.items 16384).1 ((r.uint.2.items 16384).2.items 16384).1⟩ else none,((r.uint.2.items 16384).2.items 16384).2)
 else (none,r.uint.2)
def Rd.part(r:Rd):Option AP × Rd :=
 if iU (r.text 32).1 && iU ((r.text 32).2.text 32).1 && nK (r.text 32).1 ((r.text 32).2.text 32).1 then ((r.text 32).2.text 32).2.body (r.text 32).1 ((r.text 32).2.text 32).1
 else (none,((r.text 32).2.text 32).2)
theorem Rd.IB{r c d:Rd}{a b:Bs}(e:r.text 32=(a,c))(f:c.text 32=(b,d))(h:(iU a && iU b && nK a b)=false):r.part=(none,d):=by
 grind [Rd.part]
theorem Rd.part_go{r c d:Rd}{a b:Bs}(e:r.text 32=(a,c))(f:c.text 32=(b,d))(h:(iU a && iU b && nK a b)=true):r.part=d.body a b:=by
 grind [Rd.part]
theorem Rd.acP{r a b c:Rd}{lo:Bs}(d:r.uint=(k,a))(h:k=1)(e:a.cnt 16384=(n,b))(g:b.sum=(f,c)):r.body lo hi=(some ⟨lo,hi,.sum n f⟩,c):=by
 unfold Rd.body; grind
theorem Rd.acQ{r a b:Rd}{lo:Bs}(c:r.uint=(k,a))(e:k=2)(d:a.items 64=(l,b)):r.body lo hi=(if fN l lo hi then some ⟨lo,hi,.list l⟩ else none,b):=by
 unfold Rd.body; grind
theorem Rd.acR{r a b c:Rd}{lo:Bs}(d:r.uint=(k,a))(g:k=3)(e:a.items 16384=(l,b))(f:b.items 16384=(m,c)):r.body lo hi=(if fN l lo hi && fN m lo hi then some ⟨lo,hi,.ans l m⟩ else none,c):=by
 unfold Rd.body; grind
theorem Rd.acS{r a:Rd}{lo:Bs}(e:r.uint=(k,a))(b:¬ k=1)(c:¬ k=2)(d:¬ k=3):r.body lo hi=(none,a):=by
 unfold Rd.body; grind
theorem Uu{a c:Bool}(h:(!a)=true):(a && b && c)=false:=by grind
theorem Uv{a c:Bool}(h:(!b)=true):(a && b && c)=false:=by grind
theorem Uw{a c:Bool}(h:(!c)=true):(a && b && c)=false:=by grind
theorem Ux{a c:Bool}(h:(!a)=false)(k:(!b)=false)(l:(!c)=false):(a && b && c)=true:=by grind
theorem oU(h:((a:Int) == (n:Int))=true):a=n:=zg
theorem oE(h:((a:Int) == (n:Int))=false):¬ a=n:=zg
def follows(ps:List AP)(p:AP):Bool:=match ps.getLast? with | none=>true | some q=>!(decide (q.hi=[]) || decide (p.lo < q.hi))
def Rd.parts(r:Rd):Nat -> Option (List AP) × Rd
 | 0=>(some [],r)
 | k+1 =>
   match r.parts k with
   | (none,r1)=>(none,r1)
   | (some ps,r1) =>
     match r1.part with
     | (none,r2)=>(none,r2)
     | (some p,r2)=>if follows ps p then (some (ps++[p]),r2) else (none,r2)
def iO(D:Bs):Option (List AP) :=
 if ((Rd.mk D 0 0 0).cnt D.length).1=0 then none
 else match ((Rd.mk D 0 0 0).cnt D.length).2.parts ((Rd.mk D 0 0 0).cnt D.length).1 with
  | (none,_)=>none
  | (some ps,r2)=>if r2.end_=0 then some ps else none
theorem Rd.BL{r a b:Rd}{ps:List AP}{p:AP}(h:r.parts k=(some ps,a))(d:a.part=(some p,b))(c:follows ps p=true):r.parts (k+1)=(some (ps++[p]),b):=by
 rw [Rd.parts,h]; grind
theorem Rd.Qf{r a b:Rd}{ps:List AP}{p:AP}(h:r.parts k=(some ps,a))(d:a.part=(some p,b))(c:follows ps p=false):(r.parts (k+1)).1=none:=by
 rw [Rd.parts,h]; grind
theorem Rd.acT{r a b:Rd}{ps:List AP}(h:r.parts k=(some ps,a))(c:a.part=(none,b)):(r.parts (k+1)).1=none:=by
 grind [Rd.parts]
theorem Rd.Qg{r:Rd}(h:(r.parts k).1=none):∀ j,(r.parts (k+j)).1=none
 | 0=>h
 | j+1=>by
   have a:=Rd.Qg h j
   grind [Rd.parts]
theorem Rd.DZ{r:Rd}:∀ {k:Nat} {ps:List AP} {a:Rd},r.parts k=(some ps,a)->ps.length=k
 | 0,ps,a,h=>by grind [Rd.parts]
 | k+1,ps,a,h=>by
   rw [Rd.parts] at h
   generalize b:r.parts k=z at h
   obtain ⟨o,d⟩:=z
   cases o with
   | none=>grind
   | some qs =>
     dsimp only at h
     have c:=Rd.DZ b
     grind
theorem Uy{a:Rd}(b:(Rd.mk D 0 0 0).cnt D.length=(n,a))(c:n=0):iO D=none:=by
 unfold iO; grind
theorem FU{a:Rd}(b:(Rd.mk D 0 0 0).cnt D.length=(n,a))(hi:i<=n)(h:(a.parts i).1=none):iO D=none:=by
 unfold iO; rw [b]
 dsimp only
 split
 .rfl
 .have:=Rd.Qg h (n - i)
  grind
theorem Uz{a b:Rd}{ps:List AP}(c:(Rd.mk D 0 0 0).cnt D.length=(n,a))(h:a.parts n=(some ps,b))(d:¬ b.end_=0):iO D=none:=by
 unfold iO; grind
theorem Ls{a b:Rd}{ps:List AP}(c:(Rd.mk D 0 0 0).cnt D.length=(n,a))(e:¬ n=0)(h:a.parts n=(some ps,b))(d:b.end_=0):iO D=some ps:=by
 unfold iO; grind
theorem CT{ps:List AP}{q p:AP}(h:ps[i]?=some q)(a:ps.length=i+1):follows ps p = !(decide (q.hi=[]) || decide (p.lo < q.hi)):=by
 grind [follows]
theorem wY{a b:Bs}:(!(decide (a < b) || decide (a=b)))=decide (b < a):=by
 grind
def iV(l:List Bs):Prop:=∀ x∈l,x.length=32
def AC.ok(lo hi:Bs):AC -> Prop
 | .sum n f=>n <= 16384 /\ f.length=32
 | .list xs=>xs.length <= 64 /\ iV xs /\ fN xs lo hi=true
 | .ans xs ms=>(xs.length <= 16384 /\ iV xs /\ fN xs lo hi=true) /\ ms.length <= 16384 /\ iV ms /\ fN ms lo hi=true
def AP.ok(p:AP):Prop:=(iU p.lo=true /\ iU p.hi=true /\ nK p.lo p.hi=true) /\ p.c.ok p.lo p.hi
def uE(ps:List AP):Prop:=∀ k p,ps[k]?=some p -> follows (ps.take k) p=true
def CU(ps:List AP):Prop:=ps≠[] /\ (∀ p∈ps,p.ok) /\ uE ps
theorem rG{x:Bs}(h:iU x=true):x.length<=32:=by
 unfold iU at h
 grind
theorem Lt{ps:List AP}{p:AP}(h:uE ps)(c:follows ps p=true):uE (ps++[p]):=by
 intro k q a
 by_cases d:k < ps.length
 .rw [R1 d] at a
  rw [Z5 (by omega)]
  exact h k q a
 .rw [T8 (by omega)] at a
  have b:k - ps.length=0:=by
   have:=(C4.1 a).1
   simp at this
   omega
  rw [b] at a
  simp at a
  subst a
  rw [show k=ps.length by omega,AB4]
  exact c
theorem FV(r:Rd)(most)(h:(r.text most).2.err=0):kY r (r.text most).2 (aE (r.text most).1.length++(r.text most).1)/\(r.text most).1.length<=most:=by
 unfold Rd.text at h ⊢
 by_cases d:r.err=0
 .rw [P1 d] at h ⊢
  cases a:eP r.D r.off with
  | none=>rw [a] at h; cases h
  | some p =>
    obtain ⟨n,m⟩:=p
    rw [a] at h
    dsimp only at h ⊢
    by_cases b:most < n
    .rw [P1 b] at h; cases h
    .rw [P4 b] at h ⊢
     by_cases c:m+n<=r.D.length
     .rw [P1 c] at h ⊢
      have e:((r.D.drop m).take n).length=n:=by rw [I8,Q7]; omega
      refine ⟨⟨d,I,?_⟩,by dsimp only; omega⟩
      dsimp only
      rw [e,vB _ _ _ _ a,D1]
      congr 1
      show _=_++r.D.drop (m+n)
      rw [<- Y3,S6]
     .rw [P4 c] at h; cases h
 grind
theorem FW(r:Rd)(most)(h:(r.cnt most).2.err=0):kY r (r.cnt most).2 (aE (r.cnt most).1)/\(r.cnt most).1<=most:=by
 refine ⟨?_,r.xP most⟩
 unfold Rd.cnt Rd.count at h ⊢
 by_cases he:r.err=0
 .rw [P1 he] at h ⊢
  cases hd:eP r.D r.off with
  | none=>rw [hd] at h; cases h
  | some p =>
    rw [hd] at h
    dsimp only at h ⊢
    split at h
    .cases h
    .rename_i h1
     rw [P4 h1]
     exact ⟨he,I,vB _ _ _ _ hd⟩
 grind
theorem Lu(r:Rd):∀ n,(r.cK n).2.err=0->r.err=0->kY r (r.cK n).2 (r.cK n).1.flatten/\iV (r.cK n).1
 | 0,_,b=>⟨⟨b,I,I⟩,by intro x a; cases a⟩
 | n+1,h,b=>by
   obtain ⟨c,f⟩:=Ay _ h
   obtain ⟨d,e⟩:=Lu r n c.err b
   refine ⟨?_,?_⟩
   .have:=d.trans c
    show kY r (r.cK n).2.sum.2 ((r.cK n).1++[(r.cK n).2.sum.1]).flatten
    grind
   .intro x a
    rcases P7.1 a with a | a
    .exact e x a
    grind
theorem Lv(r:Rd):∀ n,(r.cK n).2.err=0->r.err=0
 | 0,h=>h
 | n+1,h=>Lv r n (Ay (r.cK n).2 h).1.err
theorem FX(r:Rd)(most)(h:(r.items most).2.err=0):kY r (r.items most).2 (aE (r.items most).1.length++(r.items most).1.flatten)/\iV (r.items most).1:=by
 have a:(r.cnt _).2.err=0:=Lv _ _ h
 obtain ⟨b,_⟩:=FW r _ a
 obtain ⟨c,d⟩:=Lu _ _ h a
 refine ⟨?_,d⟩
 rw [show (r.items most).1.length=(r.cnt _).1 from Rd.uM _ _]
 exact b.trans c
theorem UA(r:Rd)(lo hi p)(h:(r.body lo hi).2.err=0)(a:(r.body lo hi).1=some p)(c:iU lo=true/\iU hi=true/\nK lo hi=true):kY r (r.body lo hi).2 p.c.enc/\p.ok/\p.lo=lo/\p.hi=hi:=by
 unfold Rd.body at h a ⊢
 by_cases i:r.uint.1=1
 .rw [P1 i] at h a ⊢
  dsimp only at h a ⊢
  obtain ⟨a1,d⟩:=Ay _ h
  obtain ⟨e,g⟩:=FW _ _ a1.err
  have b:=wQ r e.err
  rw [i] at b
  injection a with a
  subst a
  exact ⟨(b.trans e).trans a1,⟨c,g,d⟩,I,I⟩
 .rw [P4 i] at h a ⊢
  by_cases j:r.uint.1=2
  .rw [P1 j] at h a ⊢
   dsimp only at h a ⊢
   split at a
   .rename_i f
    injection a with a
    obtain ⟨a1,d⟩:=FX _ _ h
    have b:=wQ r a1.err
    rw [j] at b
    subst a
    exact ⟨b.trans a1,⟨c,Rd.oJ _ _,d,f⟩,I,I⟩
   .cases a
  .rw [P4 j] at h a ⊢
   by_cases k:r.uint.1=3
   .rw [P1 k] at h a ⊢
    dsimp only at h a ⊢
    split at a
    .rename_i f
     rw [V6] at f
     injection a with a
     obtain ⟨a1,d⟩:=FX _ _ h
     obtain ⟨e,g⟩:=FX _ _ a1.err
     have b:=wQ r e.err
     rw [k] at b
     subst a
     exact ⟨(b.trans e).trans a1,⟨c,⟨Rd.oJ _ _,g,f.1⟩,Rd.oJ _ _,d,f.2⟩,I,I⟩
    .cases a
   .rw [P4 k] at a
    cases a
theorem UB(r:Rd)(p)(h:r.part.2.err=0)(b:r.part.1=some p):kY r r.part.2 p.enc/\p.ok:=by
 unfold Rd.part at h b ⊢
 split at b
 .rename_i a
  rw [P1 a] at h ⊢
  rw [V6,V6] at a
  obtain ⟨a1,d,f,g⟩:=UA _ _ _ p h b ⟨a.1.1,a.1.2,a.2⟩
  obtain ⟨c,_⟩:=FV _ _ a1.err
  obtain ⟨e,_⟩:=FV _ _ c.err
  refine ⟨?_,d⟩
  have:=(e.trans c).trans a1
  grind [AP.enc]
 grind
theorem Lw(r:Rd)(g:r.err=0):∀ (k:Nat) (ps:List AP) (b:Rd),r.parts k=(some ps,b)->b.err=0->kY r b (ps.flatMap AP.enc)/\(∀ p∈ps,p.ok)/\uE ps
 | 0,ps,b,h,_=>by
   rw [Rd.parts] at h
   injection h with a d
   injection a with a
   subst a d
   exact ⟨⟨g,I,I⟩,(λp e=>by cases e),(λk p e=>by simp at e)⟩
 | k+1,ps,b,h,m=>by
   rw [Rd.parts] at h
   generalize s:r.parts k=z at h
   obtain ⟨o,c⟩:=z
   cases o with
   | none=>grind
   | some qs =>
     dsimp only at h
     generalize x:c.part=y at h
     obtain ⟨q,t⟩:=y
     cases q with
     | none=>grind
     | some p =>
       dsimp only at h
       split at h
       .rename_i n
        injection h with a d
        injection a with a
        subst a d
        have l:c.part.1=some p:=by grind
        have f:c.part.2=t:=by grind
        obtain ⟨a1,u⟩:=UB c p (by rw [f]; exact m) l
        rw [f] at a1
        obtain ⟨i,w,j⟩:=Lw r g k qs c s a1.err
        refine ⟨?_,?_,Lt j n⟩
        .rw [R3]
         simpa using i.trans a1
        grind
       grind
theorem vK{D:Bs}{ps:List AP}(h:iO D=some ps):D=bK ps/\CU ps/\ps.length<=D.length:=by
 unfold iO at h
 split at h
 .grind
 .rename_i r
  generalize g:((Rd.mk D 0 0 0).cnt D.length).2.parts ((Rd.mk D 0 0 0).cnt D.length).1=z at h
  obtain ⟨o,t⟩:=z
  cases o with
  | none=>grind
  | some qs =>
    dsimp only at h
    split at h
    .rename_i d
     injection h with h
     subst h
     have n:=Rd.end_err d
     have f:=Rd.DZ g
     have c:((Rd.mk D 0 0 0).cnt D.length).2.err=0:=by
      by_cases a:((Rd.mk D 0 0 0).cnt D.length).2.err=0
      .omega
      .exfalso
       apply r
       unfold Rd.cnt Rd.count at a ⊢
       rw [P1 I] at a ⊢
       cases q:eP D 0 with
       | none=>rfl
       | some p =>
         rw [q] at a
         dsimp only at a ⊢
         split at a
         .grind
         .exact absurd I a
     obtain ⟨l,m⟩:=FW _ _ c
     obtain ⟨i,j,k⟩:=Lw _ c _ _ _ g n
     have s:=(l.trans i).end_ d
     have b:qs.length≠0:=by omega
     refine ⟨?_,⟨λe=>b (by rw [e]; rfl),j,k⟩,by rw [f]; exact m⟩
     rw [bK,P4 b,f]
     grind
    grind
theorem Lx(c:P [])(d:∀ l a,P l->P (l++[a]))(l):P l:=by
 have b:∀ m:List α,P m.reverse:=by
  intro m
  induction m with
  | nil=>grind
  | cons a m e=>grind
 have:=b l.reverse
 grind
theorem dK.text{r:Rd}{t rest:Bs}(h:dK r ((aE t.length++t)++rest))(f:t.length<=most)(e:dA t.length):(r.text most).1=t/\dK (r.text most).2 rest:=by
 have a:=h.bytes
 rw [D1] at a
 have c:=yP r.D _ _ _ a e
 have d:=U0 List.length a
 rw [Q7,C3,C3] at d
 have b:r.D.drop (r.off+(aE t.length).length)=t++rest:=by rw [<- Y3,a,AC8]
 unfold Rd.text
 rw [P1 h.err,c]
 dsimp only
 rw [P4 U,P1 (by have:=lV t.length; omega)]
 refine ⟨?_,h.err,?_⟩
 .dsimp only
  rw [b,AB4]
 .show r.D.drop (r.off+(aE t.length).length+t.length)=rest
  rw [<- Y3,b,AC8]
theorem dK.cnt{r:Rd}{rest:Bs}(h:dK r (aE n++rest))(c:n<=most)(b:dA n):(r.cnt most).1=n/\dK (r.cnt most).2 rest:=by
 have a:=yP r.D _ n rest h.bytes b
 unfold Rd.cnt Rd.count
 rw [P1 h.err,a]
 dsimp only
 rw [P4 U]
 refine ⟨I,h.err,?_⟩
 show r.D.drop (r.off+(aE n).length)=rest
 rw [<- Y3,h.bytes,AC8]
theorem dK.cK{r:Rd}:∀ (xs:List Bs) (rest:Bs),dK r (xs.flatten++rest)->iV xs->(r.cK xs.length).1=xs/\dK (r.cK xs.length).2 rest:=by
 refine Lx ?_ ?_
 .intro rest h _; exact ⟨I,h⟩
 .intro xs x g rest h a
  obtain ⟨b,c⟩:=g (x++rest) (by simpa using h) (λy f=>a y (by simp [f]))
  obtain ⟨d,e⟩:=c.sum (a x si)
  rw [C3,List.length_singleton]
  exact ⟨by show (r.cK _).1++[_]=_; rw [b,d],e⟩
theorem nL:∀ {xs:List Bs},iV xs->xs.flatten.length=32*xs.length
 | [],_=>rfl
 | x::xs,h=>by
   rw [List.flatten_cons,C3,nL (λy a=>h y (by simp [a])),h x si,V0]
   omega
theorem mP(h:n<=4294967296):dA n:=by unfold dA; omega
theorem dK.items{r:Rd}{xs:List Bs}{rest:Bs}(h:dK r ((aE xs.length++xs.flatten)++rest))(a:iV xs)(f:xs.length<=most)(g:most<=65536):(r.items most).1=xs/\dK (r.items most).2 rest:=by
 have d:=U0 List.length h.bytes
 rw [Q7,C3,C3,nL a] at d
 have e:xs.length<=r.bP most:=by
  unfold Rd.bP
  omega
 obtain ⟨b,c⟩:=dK.cnt (rest:=xs.flatten++rest) (by rw [<- D1]; exact h) e (mP U)
 unfold Rd.items
 rw [b]
 exact dK.cK xs rest c a
theorem dK.part{r:Rd}{p:AP}{rest:Bs}(h:dK r (p.enc++rest))(w:p.ok):r.part.1=some p/\dK r.part.2 rest:=by
 obtain ⟨⟨o,q,u⟩,a⟩:=w
 have l:=rG o
 have m:=rG q
 unfold AP.enc at h
 rw [D1,D1] at h
 obtain ⟨a1,s⟩:=dK.text h l (mP U)
 obtain ⟨t,b⟩:=dK.text s m (mP U)
 unfold Rd.part
 rw [a1,t,o,q,u]
 simp only [Bool.and_self,AA9]
 obtain ⟨lo,y,c⟩:=p
 dsimp only at b a ⊢
 unfold Rd.body
 cases c with
 | sum n f =>
   unfold AC.enc at b
   rw [D1,D1] at b
   obtain ⟨d,e⟩:=b.uint (mP U)
   obtain ⟨g,i⟩:=e.cnt a.1 (mP (P8 a.1 U))
   obtain ⟨j,k⟩:=i.sum a.2
   rw [P1 d,g,j]
   exact ⟨I,k⟩
 | list x =>
   unfold AC.enc at b
   rw [D1] at b
   obtain ⟨d,e⟩:=b.uint (mP U)
   obtain ⟨g,i⟩:=e.items a.2.1 a.1 U
   rw [P4 U,P1 d,g,P1 a.2.2]
   exact ⟨I,i⟩
 | ans x z =>
   unfold AC.enc at b
   rw [D1,D1] at b
   obtain ⟨d,e⟩:=b.uint (mP U)
   obtain ⟨g,i⟩:=e.items a.1.2.1 a.1.1 U
   obtain ⟨j,k⟩:=i.items a.2.2.1 a.2.1 U
   rw [P4 U,P4 U,P1 d,g,j,P1 (by rw [a.1.2.2,a.2.2.2]; rfl)]
   exact ⟨I,k⟩
theorem dK.parts{r:Rd}:∀ (ps:List AP) (rest:Bs),dK r (ps.flatMap AP.enc++rest)->(∀ p∈ps,p.ok)->uE ps->∃ r1,r.parts ps.length=(some ps,r1)/\dK r1 rest:=by
 refine Lx ?_ ?_
 .intro rest h _ _; exact ⟨r,I,by simpa using h⟩
 .intro ps p ih rest h ha hc
  obtain ⟨r1,h1,h2⟩:=ih (p.enc++rest) (by simpa using h) (λy hy=>ha y (by simp [hy])) (λk q hq=>by
   have hk:=(C4.1 hq).1
   have:=hc k q (by rw [R1 hk]; exact hq)
   rwa [Z5 U] at this)
  obtain ⟨h3,h4⟩:=dK.part h2 (ha p si)
  have hf:=hc ps.length p si
  rw [AB4] at hf
  rw [C3,List.length_singleton]
  exact ⟨_,Rd.BL h1 (AD5 h3 I) hf,h4⟩
theorem FY{ps:List AP}(h:CU ps)(n:(bK ps).length<=4294967296):iO (bK ps)=some ps:=by
 obtain ⟨i,j,k⟩:=h
 have a:ps.length≠0:=λe=>i (L1 e)
 have m:bK ps=aE ps.length++ps.flatMap AP.enc:=by rw [bK,P4 a]
 have l:=CM ps
 have b:ps.length<=(bK ps).length:=by grind
 have g:dK (Rd.mk (bK ps) 0 0 0) (aE ps.length++ps.flatMap AP.enc):=⟨I,by grind⟩
 obtain ⟨a1,c⟩:=g.cnt b (mP U)
 obtain ⟨o,d,f⟩:=dK.parts ps [] (by simpa using c) j k
 unfold iO
 rw [a1,P4 a,d]
 dsimp only
 rw [P1 f.end_]
abbrev fJ:=List UInt8
theorem FZ{a b c:fJ}(d:a<=b)(e:b<=c):a<=c:=zg
theorem UC(a b:fJ):a<=b\/b<=a:=zg
theorem CW{a b:fJ}(c:a<=b)(d:b<=a):a=b:=zg
theorem Ly{a b:fJ}:¬ a < b↔b<=a:=Iff.rfl
theorem UD{a b:fJ}(h:a < b):a<=b:=zg
theorem AT(l):(dG l).Pairwise (·<=·):=by
 have:=List.pairwise_mergeSort (le:=λx y:fJ=>decide (x<=y)) zg zg l
 simpa [dG] using this
theorem uF(l):(dG l).Perm l:=List.mergeSort_perm _ _
theorem UE{l r:List fJ}(h:l.Perm r)(a:l.Pairwise (·<=·))(b:r.Pairwise (·<=·)):l=r:=List.Perm.eq_of_pairwise zg a b h
def gQ(l:List fJ)(s:fJ):Nat:=(l.takeWhile λx=>decide (x < s)).length
def gU(l:List fJ)(s:fJ):List fJ:=l.take (gQ l s)++s::l.drop (gQ l s)
def rH(l:List fJ)(s:fJ):Bool:=decide (l[gQ l s]?=some s)
theorem Ga(l)(s:fJ):gQ l s<=l.length:=by
 grind [gQ,List.takeWhile_sublist]
theorem Gb(l:List fJ)(s:fJ):l.take (gQ l s)=l.takeWhile λx=>decide (x < s):=by
 grind [gQ,List.takeWhile_append_dropWhile]
theorem Gc(l:List fJ)(s:fJ):l.drop (gQ l s)=l.dropWhile λx=>decide (x < s):=by
 grind [gQ,List.takeWhile_append_dropWhile]
theorem UF(l)(s:fJ):(gU l s).Perm (s::l):=by
 grind [gU,List.take_append_drop]
theorem Gd{l:List fJ}{s x:fJ}(h:x∈l.takeWhile λx=>decide (x < s)):x < s:=by
 grind [List.all_takeWhile]
theorem Ge{l:List fJ}(b:l.Pairwise (·<=·)){s x:fJ}(h:x∈l.dropWhile λx=>decide (x < s)):s<=x:=by
 induction l with
 | nil=>simp at h
 | cons a l c =>
   rw [List.dropWhile_cons] at h
   rw [ABi] at b
   grind
theorem UG{l:List fJ}(hs:l.Pairwise (·<=·))(s:fJ):(gU l s).Pairwise (·<=·):=by
 unfold gU
 rw [Gb,Gc,o4,ABi]
 refine ⟨hs.sublist (ADa _),⟨λx hx=>Ge hs hx,hs.sublist (List.dropWhile_sublist _)⟩,λa ha b hb=>?_⟩
 have h1:=UD (Gd ha)
 rcases T0.1 hb with rfl | hb
 .omega
 .exact FZ h1 (Ge hs hb)
theorem Gf{l r:List fJ}{s:fJ}(a:r.Perm (s::l)):gU (dG l) s=dG r :=
 UE ((UF _ _).trans (((uF l).cons s).trans (a.symm.trans (uF r).symm))) (UG (AT l) s) (AT r)
theorem UJ{l:List fJ}(hs:l.Pairwise (·<=·))(s:fJ):rH l s=l.contains s:=by
 rw [u9]
 simp only [rH,U3,p6]
 constructor
 .intro h
  exact F0 h
 .intro h
  have e:l=l.take (gQ l s)++l.drop _:=(S6 _ _).symm
  rw [e] at h
  rcases P7.1 h with h | h
  .rw [Gb] at h
   exact absurd (Gd h) (List.lt_irrefl s)
  .have hg:∀ x∈l.drop _,s<=x:=λx hx=>by rw [Gc] at hx; exact Ge hs hx
   have hsd:(l.drop (gQ l s)).Pairwise _:=hs.sublist (List.drop_sublist _ _)
   have h0:l[gQ l s]?=(l.drop (gQ l s))[0]?:=by rw [W8]; simp
   rw [h0]
   cases hd:l.drop (gQ l s) with
   | nil=>rw [hd] at h; cases h
   | cons a r =>
     rw [hd] at h hg hsd
     have ha:=hg a si
     rw [ABi] at hsd
     have hle:a<=s:=by
      rcases T0.1 h with h | h
      .rw [h]; exact List.le_refl _
      .exact hsd.1 s h
     simp [CW hle ha]
theorem vM(l)(s:fJ):rH (dG l) s=l.contains s:=by
 rw [UJ (AT l),u9]
 grind [uF]
theorem CX{l:List fJ}{s:fJ}{x:fJ}(e:k<=gQ l s)(f:l[k]?=some x):(x < s↔k < gQ l s):=by
 constructor
 .intro h
  rcases W4 k (gQ l s) with a | a
  .exact a
  .exfalso
   have b:k=gQ l s:=U
   subst b
   have d:(l.drop (gQ l s))[0]?=some x:=by grind
   rw [Gc] at d
   have c:l.dropWhile (λx=>decide (x < s))≠[]:=by grind
   have:=List.head_dropWhile_not _ c
   grind
 .intro h
  have a:(l.take (gQ l s))[k]?=some x:=by grind
  grind [Gb,Gd]
theorem Lz{l:List fJ}{s:fJ}(a:k<=gQ l s)(b:l.length<=k):k=gQ l s:=by
 have:=Ga l s
 omega
def lz(v:Nat):Nat:=min (16 - Lib.bitLen v) 11
theorem UL(v):lz v<=11:=Nat.min_le_right _ _
theorem UM{x:Nat}(e:x < 65536):Lib.bitLen x<=k↔x < 2 ^ k:=by
 constructor
 .intro h
  apply Nat.lt_of_not_le
  intro a
  have b:=Lib.bitLen_shift k x a U
  have c:1<=x / 2 ^ k:=(Nat.le_div_iff_mul_le zg).2 U
  have d:=Lib.bitLen_half (x / 2 ^ k) U (ACh (AD6 _ _) U)
  omega
 .intro h
  rcases W4 k 65 with a | a
  .exact Lib.bitLen_le x k U h
  .exact P8 (Lib.bitLen_le x 16 U U) U
theorem LA{v:Nat}(a:v < 65536)(b:n < 11):n+1<=lz v↔v < 2 ^ (15 - n):=by
 rw [<- UM a]
 unfold lz
 omega
theorem UN{v:Nat}(b:v < 65536)(d:n < 11)(h:n<=lz v):v / 2 ^ (15 - n) % 2=0↔n+1<=lz v:=by
 rw [LA b d]
 have e:0 < 2 ^ (15 - n):=Nat.two_pow_pos _
 have c:v < 2 ^ (15 - n)*2:=by
  cases n with
  | zero=>omega
  | succ m =>
    have a:=(LA b U).1 h
    rw [show 15 - m=(15 - (m+1))+1 by omega,Nat.pow_succ] at a
    exact a
 have f:v / 2 ^ (15 - n) < 2:=Nat.div_lt_of_lt_mul c
 have g:v / 2 ^ (15 - n)=0↔v < 2 ^ (15 - n):=Nat.div_eq_zero_iff_lt e
 generalize v / 2 ^ (15 - n)=q at *
 omega
def sZ(x:Bs):Nat:=((fP x).getD 0 0).toNat*256+((fP x).getD 1 0).toNat
theorem Gg(x):sZ x < 65536:=by
 grind [UInt8.toNat_lt,sZ]
def iW(x:Bs):Nat:=lz (sZ x)
theorem Gh(x):iW x < 12:=by grind [UL,iW]
def fK(t:BT)(l:List Bs):BT:=l.foldl (λt x=>t.change x 1) t
def fZ(l:List Bs)(n:Nat):BT:=fK (BT.new n 0) l
theorem Gi(t l x):fK t (l++[x])=(fK t l).change x 1:=by simp [fK]
theorem BT.change_seed(t:BT)(key n):(t.change key n).seed=t.seed:=rfl
theorem Gj(t):∀ l:List Bs,(fK t l).cells.length=t.cells.length:=by
 intro l
 induction l generalizing t with
 | nil=>rfl
 | cons x l a=>grind [fK,BT.change_len]
theorem Gk(t):∀ l:List Bs,(fK t l).seed=t.seed:=by
 intro l
 induction l generalizing t with
 | nil=>rfl
 | cons x l a=>grind [fK,BT.change_seed]
theorem LB{t:BT}(h:t.Ok):∀ {l:List Bs},(∀ x∈l,x.length=32)->(fK t l).Ok:=by
 intro l
 induction l generalizing t with
 | nil=>intro _; exact h
 | cons x l a=>intro b; exact a (h.change zg 1) zg
theorem zB(n s):(BT.new n s).cells.length=n:=by simp [BT.new]
theorem jW(l n):(fZ l n).cells.length=n:=by rw [fZ,Gj,zB]
theorem zC(l n):(fZ l n).seed=0:=by rw [fZ,Gk]; rfl
theorem rI(h:∀ x∈l,x.length=32)(n):(fZ l n).Ok:=LB (BT.Ok.new n 0 (by unfold dA; decide)) h
def kG(l:List Bs)(k:Nat):BT:=fK (BT.new 12 (k+1)) (l.filter λx=>iW x == k)
def bO(l:List Bs):List BT:=(List.range 12).map (kG l)
theorem UO(l x k):kG (l++[x]) k=if iW x=k then (kG l k).change x 1 else kG l k:=by
 unfold kG
 rw [AE7]
 by_cases h:iW x=k
 .rw [P1 h,List.filter_cons_of_pos (by simpa using h),List.filter_nil,Gi]
 grind
theorem mA(l):(bO l).length=12:=by simp [bO]
theorem wZ(h:k < 12):(bO l)[k]?=some (kG l k):=by simp [bO,h]
theorem UP(l x):bO (l++[x])=(bO l).set (iW x) ((kG l (iW x)).change x 1):=by
 apply s6
 intro i
 have b:=Gh x
 by_cases a:i < 12
 .rw [wZ a,UO,AC4]
  by_cases h:iW x=i
  .subst h
   simp [mA,b]
  .rw [P4 h,P4 h,wZ a]
 .rw [Y7 (by rw [mA]; omega),Y7 (by rw [a6,mA]; omega)]
theorem UQ(h:∀ x∈l,x.length=32)(a:k < 12):(kG l k).Ok :=
 LB (BT.Ok.new 12 (k+1) (by unfold dA; omega)) zg
theorem LC(l k):(kG l k).cells.length=12:=by rw [kG,Gj,zB]
theorem LD(l k):(kG l k).seed=k+1:=by rw [kG,Gk]; rfl
def oF(ts:List BT):Prop:=∀ i t,ts[i]?=some t -> t.Ok /\ t.cells.length=12 /\ t.seed=i+1
theorem nA(h:∀ x∈l,x.length=32):oF (bO l):=λi t a=>by
 grind [mA,wZ,UQ,LC,LD]
def pP(t:BT):Bs:=aE t.enc.length++t.enc
def cH(ts:List BT):Bs:=ts.flatMap pP
theorem CY{t:BT}(h:t.Ok)(a:t.cells.length=12):t.enc.length<=644:=by
 unfold BT.enc fW
 rw [U2 (J7 _),C3,C3,a]
 have b:=eY 12 U
 have c:=eY _ h.seed
 have d:=Kn h.cells
 omega
theorem UR{t:BT}(h:t.Ok)(a:t.cells.length=12):(pP t).length<=654:=by
 have b:=CY h a
 have c:=eY t.enc.length U
 grind [pP]
theorem CZ(ts t):cH (ts++[t])=cH ts++pP t:=by simp [cH]
theorem rJ:∀ {ts:List BT},(∀ t∈ts,t.Ok/\t.cells.length=12)->(cH ts).length<=ts.length*654
 | [],_=>by simp [cH]
 | t::ts,h=>by
   have a:=UR (h t si).1 (h t si).2
   have b:=rJ (ts:=ts) zg
   grind [cH]
theorem oF.all{ts:List BT}(h:oF ts):∀ t∈ts,t.Ok/\t.cells.length=12:=λt b=>by
 obtain ⟨i,a⟩:=o8.1 b
 exact ⟨(h i t a).1,(h i t a).2.1⟩
def Rd.rest(r:Rd):Bs × Rd:=r.text (r.D.length - r.off)
def kH(t:BT)(n s:Nat):Bool:=decide (t.cells.length=n) && decide (t.seed=s)
def jI(r:Rd):Nat -> Option (List BT) × Rd
 | 0=>(some [],r)
 | i+1=>match jI r i with
   | (none,r1)=>(none,r1)
   | (some ts,r1)=>match eZ r1.rest.1 with
     | some t=>if kH t 12 (i+1) then (some (ts++[t]),r1.rest.2) else (none,r1.rest.2)
     | none=>(none,r1.rest.2)
theorem LG{r a:Rd}{ts:List BT}{t:BT}(h:jI r i=(some ts,a))(b:eZ a.rest.1=some t)(c:kH t 12 (i+1)=true):jI r (i+1)=(some (ts++[t]),a.rest.2):=by
 rw [jI,h]
 grind
theorem LH{r a:Rd}{ts:List BT}(h:jI r i=(some ts,a))(b:eZ a.rest.1=none\/∃ t,eZ a.rest.1=some t/\kH t 12 (i+1)=false):(jI r (i+1)).1=none:=by
 grind [jI]
theorem LI{r:Rd}(h:(jI r i).1=none):∀ j,(jI r (i+j)).1=none
 | 0=>h
 | j+1=>by
   have a:=LI h j
   grind [jI]
def eS(D:Bs):Option (List BT):=match jI (Rd.mk D 0 0 0) 12 with
 | (some ts,r)=>if r.end_=0 then some ts else none
 | (none,_)=>none
theorem LJ{r:Rd}:∀ {i:Nat} {ts:List BT} {g:Rd},jI r i=(some ts,g)->ts.length=i/\oF ts
 | 0,ts,g,h=>by
   rw [jI] at h
   simp only [e7,V4] at h
   rw [<- h.1]
   exact ⟨I,λi t d=>by simp at d⟩
 | i+1,ts,g,h=>by
   rw [jI] at h
   cases l:jI r i with
   | mk a b =>
     rw [l] at h
     cases a with
     | none=>grind
     | some m =>
       obtain ⟨n,o⟩:=LJ l
       simp only at h
       cases k:eZ b.rest.1 with
       | none=>rw [k] at h; simp at h
       | some t =>
         rw [k] at h
         simp only at h
         split at h
         .rename_i d
          simp only [e7,V4] at h
          rw [<- h.1]
          refine ⟨by simp [n],λj u c=>?_⟩
          rcases W4 j m.length with e | e
          .rw [R1 e] at c
           exact o j u c
          .rw [T8 e] at c
           have f:j - m.length=0:=by
            grind
           rw [f] at c
           simp at c
           subst c
           unfold kH at d
           simp only [V6,U3] at d
           grind [eZ,Fv]
         grind
theorem oV{D:Bs}{ts:List BT}(h:eS D=some ts):ts.length=12/\oF ts:=by
 unfold eS at h
 cases c:jI (Rd.mk D 0 0 0) 12 with
 | mk a b =>
   rw [c] at h
   cases a with
   | none=>simp at h
   | some d =>
     simp only at h
     split at h
     .injection h with h
      subst h
      exact LJ c
     .cases h
theorem LK:∀ (n:Nat) {s a:gE},iM n s=some a->a.added.length<=s.added.length+n/\a.removed.length<=s.removed.length+n
 | 0,s,a,e=>by cases e; omega
 | n+1,s,a,e=>by
   unfold iM at e
   cases b:s.t.first with
   | none=>grind
   | some i =>
     rw [b] at e
     simp only at e
     split at e
     .grind
     .have:=LK n e
      grind [gE.take]
theorem US{t:BT}{p:List Bs × List Bs}(a:t.raw=some p):p.1.length<=t.cells.length/\p.2.length<=t.cells.length:=by
 unfold BT.raw at a
 cases b:iM t.cells.length ⟨t,[],[],[]⟩ with
 | none=>grind
 | some s =>
   rw [b] at a
   have c:=LK _ b
   grind
theorem AU{t:BT}(h:t.keys=some (l,m)):∃ p,t.raw=some p/\l=dG p.1/\m=dG p.2:=by
 unfold BT.keys at h
 cases a:t.raw with
 | none=>grind
 | some p =>
   grind
theorem LL{t:BT}(h:t.keys=none):t.raw=none:=by
 unfold BT.keys at h
 cases a:t.raw with
 | none=>rfl
 | some p=>grind
theorem oG(l):(dG l).length=l.length:=(uF l).length_eq
theorem vN{t:BT}(h:t.keys=some (l,m)):l.length<=t.cells.length/\m.length<=t.cells.length:=by
 obtain ⟨p,a,rfl,rfl⟩:=AU h
 have:=US a
 rw [oG,oG]
 omega
def rK(a b:List BT):Nat -> Nat -> Nat
 | 0,s=>s
 | i+1,s=>match ((a.getD i (BT.new 0 0)).sub (b.getD i (BT.new 0 0))).raw with
   | none=>(s+1)*2 ^ (i+1)
   | some p=>rK a b i (s+p.1.length+p.2.length)
def iA(a b:List BT):Nat:=rK a b 12 0
theorem LM{a b:List BT}{t u:BT}(c:a[i]?=some t)(d:b[i]?=some u)(h:(t.sub u).keys=none):rK a b (i+1) s=(s+1)*2 ^ (i+1):=by
 grind [rK,LL]
theorem LN{a b:List BT}{t u:BT}(c:a[i]?=some t)(d:b[i]?=some u)(h:(t.sub u).keys=some (l,m)):rK a b (i+1) s=rK a b i (s+l.length+m.length):=by
 obtain U:=AU h
 grind [rK,oG]
def gG(its offs needs:List Bs):List Bs:=dG ((its.filter λx=>!offs.contains x)++needs)
def iX(its needs offs:List Bs):Bool:=(!needs.any λx=>its.contains x) && !offs.any λx=>!its.contains x
def nM(its:List Bs)(t:BT)(print:Bs):Option (List Bs × List Bs):=match ((fZ its t.cells.length).sub t).keys with
 | none=>none
 | some (offs,needs)=>if iX its needs offs && decide (eM (gG its offs needs)=0) && decide (eI (gG its offs needs)=print) then some (offs,needs) else none
section
theorem UT{v:Ω}(a:w1.ownsRow W.drew.heap.size 5 1 v n xs)(d:Fr [br,b2] w1 wf)(c:br < W.drew.heap.size)(b:b2 < W.drew.heap.size)(f:w.heap.size<=W.drew.heap.size):wf.ownsRow w.heap.size 5 1 v n xs:=by
 refine xS (gC a d ?_) f
 intro g e h
 have:=(a.lt g e).1
 grind
theorem UU{l:Ξ}{m:Nat}(d:Mm w0 [br] cs w)(j:cs[0]?=some (aD br t l))(hi:cs[i]?=some (bD 5 1 A m c xs))(p:i≠0):w.ownsRow w0.heap.size 5 1 (.slice A m c) m xs:=by
 have q:w.ownsRow 0 5 1 _ m xs:=d.at hi
 obtain ⟨o,h⟩:=q
 refine ⟨o,?_⟩
 rcases h with h | ⟨g,cap,a,f,n,k⟩
 .exact .inl h
 .refine .inr ⟨g,cap,a,f,?_,k⟩
  simp only [R6] at f
  have r:g∈(bD 5 1 A m c xs).fp:=by rw [show A=some _ from f.1]; simp [bD,eT]
  rcases d.own g zg with b | b
  .exfalso
   have e:g=br:=by simpa using b
   exact Cd d.nodup j hi U br (by simp [aD]) zg
  .exact b
theorem UW:w.ownsRow base e 1 nS 0 []:=⟨I,.inl ⟨I,I⟩⟩
theorem Mm.acU(h:Mm w0 F cs w')(j:∀ b∈cs.flatMap Ch.fp,b < k)(s:w0.heap.size<=k)(m:w'.ownsRow k e 1 (.slice A n c) n xs):Mm w0 F (cs++[bD e 1 A n c xs]) w':=by
 have l:∀ b∈(bD e 1 A n c xs).fp,k<=b:=by
  intro b d
  rcases m.2 with ⟨i,_⟩ | ⟨g,cap,o,i,p,_⟩
  .simp only [R6] at i
   obtain ⟨rfl,_,_⟩:=i
   simp [bD,eT] at d
  .simp only [R6] at i
   obtain ⟨rfl,_,_⟩:=i
   grind [bD,eT]
 refine ⟨h.fr,?_,?_,?_⟩
 .intro x f
  rcases P7.1 f with f | f
  .exact h.hold x f
  .rw [G2] at f
   subst f
   exact xS m (G6 _)
 .rw [R3,X9]
  refine ⟨h.nodup,by simpa [bD] using uT A,λa q b d e=>?_⟩
  subst e
  have p:=j a q
  have r:=l a (su d)
  omega
 .intro b d
  rw [R3] at d
  rcases P7.1 d with d | d
  .exact h.own b d
  .exact .inr (by have:=l b (su d); omega)
section
variable {X:Option Addr × Nat}
theorem UX(q f br D)(off last most:Nat)(w)(h:At w q 148 [Z br 0])(j:At w f 3 [C (most:Int)])(P:bY X w br D off last 0)(K:D.length<=4294967296)(O:off<=D.length)(L:most<=4294967296)(n m)(H:eP D off=some (n,m))(N:n<=most)(t:m+n<=D.length):
  Θ 148 #[Z q 0,Z f 0] w λe p=>∃ A c,e = .returned (.tuple #[.slice A ((D.drop m).take n).length c,C 0])/\Fr [br] w p/\bY X p br D (m+n) last 0/\p.ownsRow w.heap.size 5 1 (.slice A ((D.drop m).take n).length c) ((D.drop m).take n).length (B8 ((D.drop m).take n)):=by
 obtain ⟨A,c,B,l,a⟩:=P
 have Q:w.cell? ⟨q,0,none⟩=some (E3 br):=by rw [h.cell]; rfl
 have x:q≠br:=h.ne l (by decide)
 have S:w.cell? ⟨f,0,none⟩=some (K4 most):=by rw [j.cell]; rfl
 have y:f≠br:=j.ne l (by decide)
 have HA:=D3 l
 have HO:=D3 a
 have HR:Hid (aI w A _):=aI.bM a
 have F:D.length<=c:=ownCap a
 have HNB:Hid (∀ g,(F2 A D c).ownBlock=some g->g∉[br]):=λg hg=>by
  have W:=mX a l (by decide)
  grind
 have HNE:Hid (∀ b o,A=some ⟨b,o,none⟩->b∉[br]):=λb o z=>HNB.out b (by rw [z]; rfl)
 clear l a h j
 have T:Ro [br] w (λw=>aI w _ (B8 ((D.drop m).take n))):=λp t=>Fs (HR.out.fr t HNE.out) (by rw [eX]; exact F)
 refine bS AG2 15 (Mm.one HA.out) rfl<|Nc<|G rfl<|Nb<|lW (rW (λw d=>d.gA Q (by simpa using x)))<|lW (rW (λw d=>d.gA S (by simpa using y)))<|R<|eR 149 _ rfl J (λ_=>J) (λw d=>(Ln br D off last most w A c (d.at (i:=0) I) (gC HO.out d.fr HNB.out) K O L n m H N t).mono ?_)
 rintro e p ⟨rfl,u,s⟩
 have r:=d.swap 0 (c':=aD br 201 [(V A D c),_,(Y last),_]) I u s (λb E=>.inl E) (by simp [aD])
 exact ⟨_,_,I,r,G I<|Nb<|G rfl<|R<|oP (λw d=>d.gB 5 1)<|cL gS 1 (B8 ((D.drop m).take n)) rfl rfl J rfl rfl rfl (by rw [eX,I8,Q7,Y0 U,X1]) (λw d=>eN.gJ (T.now d)) ((iP _)) (by have:=List.length_take_le n (D.drop m); omega) (((D.drop m).take n).length) dV (B8 ((D.drop m).take n)) (by simp [B8]) (λA13 k=>G I<|Nd<|sN [(V A13 ((D.drop m).take n) k),(C 0)] λw d=>⟨A13,k,I,d.fr,⟨A,c,B,d.at (i:=0) I,gC HO.out d.fr HNB.out⟩,UU d (i:=1) I I (by decide)⟩)⟩
theorem UY(p f br D)(off last most:Nat)(w)(j:At w p 148 [Z br 0])(k:At w f 3 [C (most:Int)])(S:bY X w br D off last 0)(N:D.length<=4294967296)(Q:off<=D.length)(O:most<=4294967296)(n m)(H:eP D off=some (n,m))(P:n<=most)(K:D.length < m+n):
  Θ 148 #[Z p 0,Z f 0] w λe x=>∃ A n c,e = .returned (.tuple #[.slice A n c,C 3])/\Fr [br] w x/\∃ h:Nat,bY X x br D h last 0:=by
 obtain ⟨A,c,E,l,d⟩:=S
 have T:w.cell? ⟨p,0,none⟩=some (E3 br):=by rw [j.cell]; rfl
 have t:p≠br:=j.ne l (by decide)
 have W:w.cell? ⟨f,0,none⟩=some (K4 most):=by rw [k.cell]; rfl
 have u:f≠br:=k.ne l (by decide)
 have HA:=D3 l
 have HO:=D3 d
 have HNB:Hid (∀ g,(F2 A D c).ownBlock=some g->g∉[br]):=λg L=>by
  have z:=mX d l (by decide)
  simp only [G2]
  rintro rfl
  exact z L.symm
 have HNE:Hid (∀ b o,A=some ⟨b,o,none⟩->b∉[br]):=λb o B=>HNB.out b (by rw [B]; rfl)
 clear l d j k
 refine bS AG2 15 (Mm.one HA.out) rfl<|Nc<|G rfl<|Nb<|lW (rW (λw a=>a.gA T (by simpa using t)))<|lW (rW (λw a=>a.gA W (by simpa using u)))<|R<|eR 149 _ rfl J (λ_=>J) (λw a=>(Lo br D off last most w A c (a.at (i:=0) I) (gC HO.out a.fr HNB.out) N Q O n m H P K).mono ?_)
 rintro e x ⟨rfl,s,h,r⟩
 have q:=a.swap 0 (c':=aD br 201 [(V A D c),_,(Y last),_]) I s r (λb F=>.inl F) (by simp [aD])
 exact ⟨_,_,I,q,G I<|Nb<|G rfl<|R<|oP (λw a=>a.gB 5 1)<|cL gS 1 (B8 ([])) rfl rfl J rfl rfl rfl (rfl) (EB) ((iP _)) si (([]:Γ).length) dV (B8 ([])) (by grind) (λA13 y=>G I<|Nd<|sN [_,_] λw a=>⟨_,_,_,I,a.fr,_,A,c,E,a.at (i:=0) I,gC HO.out a.fr HNB.out⟩)⟩
theorem Va(p f br D)(off last most:Nat)(w)(j:At w p 148 [Z br 0])(k:At w f 3 [C (most:Int)])(Q:bY X w br D off last 0)(L:D.length<=4294967296)(P:off<=D.length)(N:most<=4294967296)(n m)(H:eP D off=some (n,m))(O:most < n):
  Θ 148 #[Z p 0,Z f 0] w λe x=>∃ A n c,e = .returned (.tuple #[.slice A n c,C 2])/\Fr [br] w x/\∃ h:Nat,bY X x br D h last 0:=by
 obtain ⟨A,c,E,l,d⟩:=Q
 have S:w.cell? ⟨p,0,none⟩=some (E3 br):=by rw [j.cell]; rfl
 have t:p≠br:=j.ne l (by decide)
 have T:w.cell? ⟨f,0,none⟩=some (K4 most):=by rw [k.cell]; rfl
 have u:f≠br:=k.ne l (by decide)
 have HA:=D3 l
 have HO:=D3 d
 have HNB:Hid (∀ g,(F2 A D c).ownBlock=some g->g∉[br]):=λg K=>by
  have z:=mX d l (by decide)
  simp only [G2]
  rintro rfl
  exact z K.symm
 have HNE:Hid (∀ b o,A=some ⟨b,o,none⟩->b∉[br]):=λb o B=>HNB.out b (by rw [B]; rfl)
 clear l d j k
 refine bS AG2 15 (Mm.one HA.out) rfl<|Nc<|G rfl<|Nb<|lW (rW (λw a=>a.gA S (by simpa using t)))<|lW (rW (λw a=>a.gA T (by simpa using u)))<|R<|eR 149 _ rfl J (λ_=>J) (λw a=>(Lp br D off last most w A c (a.at (i:=0) I) (gC HO.out a.fr HNB.out) L P N n m H O).mono ?_)
 rintro e x ⟨rfl,s,h,r⟩
 have q:=a.swap 0 (c':=aD br 201 [(V A D c),_,(Y last),_]) I s r (λb F=>.inl F) (by simp [aD])
 exact ⟨_,_,I,q,G I<|Nb<|G rfl<|R<|oP (λw a=>a.gB 5 1)<|cL gS 1 (B8 ([])) rfl rfl J rfl rfl rfl (rfl) (EB) ((iP _)) si (([]:Γ).length) dV (B8 ([])) (by grind) (λA13 y=>G I<|Nd<|sN [_,_] λw a=>⟨_,_,_,I,a.fr,_,A,c,E,a.at (i:=0) I,gC HO.out a.fr HNB.out⟩)⟩
theorem Vb(m f br D)(off last most:Nat)(w)(j:At w m 148 [Z br 0])(k:At w f 3 [C (most:Int)])(O:bY X w br D off last 0)(K:D.length<=4294967296)(N:off<=D.length)(L:most<=4294967296)(F:eP D off=none):
  Θ 148 #[Z m 0,Z f 0] w λe u=>∃ A n c,e = .returned (.tuple #[.slice A n c,C 3])/\Fr [br] w u/\∃ h:Nat,bY X u br D h last 0:=by
 obtain ⟨A,c,B,l,d⟩:=O
 have P:w.cell? ⟨m,0,none⟩=some (E3 br):=by rw [j.cell]; rfl
 have s:m≠br:=j.ne l (by decide)
 have Q:w.cell? ⟨f,0,none⟩=some (K4 most):=by rw [k.cell]; rfl
 have t:f≠br:=k.ne l (by decide)
 have HA:=D3 l
 have HO:=D3 d
 have HNB:Hid (∀ g,(F2 A D c).ownBlock=some g->g∉[br]):=λg H=>by
  have y:=mX d l (by decide)
  simp only [G2]
  rintro rfl
  exact y H.symm
 have HNE:Hid (∀ b o,A=some ⟨b,o,none⟩->b∉[br]):=λb o z=>HNB.out b (by rw [z]; rfl)
 clear l d j k
 refine bS AG2 15 (Mm.one HA.out) rfl<|Nc<|G rfl<|Nb<|lW (rW (λw a=>a.gA P (by simpa using s)))<|lW (rW (λw a=>a.gA Q (by simpa using t)))<|R<|eR 149 _ rfl J (λ_=>J) (λw a=>(Lq br D off last most w A c (a.at (i:=0) I) (gC HO.out a.fr HNB.out) K N L F).mono ?_)
 rintro e u ⟨rfl,r,h,q⟩
 have p:=a.swap 0 (c':=aD br 201 [(V A D c),_,(Y last),_]) I r q (λb E=>.inl E) (by simp [aD])
 exact ⟨_,_,I,p,G I<|Nb<|G rfl<|R<|oP (λw a=>a.gB 5 1)<|cL gS 1 (B8 ([])) rfl rfl J rfl rfl rfl (rfl) (EB) ((iP _)) si (([]:Γ).length) dV (B8 ([])) (by grind) (λA13 x=>G I<|Nd<|sN [_,_] λw a=>⟨_,_,_,I,a.fr,_,A,c,B,a.at (i:=0) I,gC HO.out a.fr HNB.out⟩)⟩
theorem Vc(b0 b1 b2 br A n c off last start w)(h0:At w b0 3 [C start])(h1:At w b1 148 [Z br 0])(hr:At w br 201 [.slice A n c,C off,C last,C 0]):
  CallsD Tryz.prog 180 #[Z b0 0,Z b1 0,Z b2 0] .returning w λe u' w'=>u' = .returning/\e = .returned (.tuple #[])/\w'=w.setCell ⟨br,2,none⟩ (C start):=by
 have c0:w.cell? ⟨b0,0,none⟩=some (Value.int .i64 start):=by rw [h0.cell]; rfl
 have c1:w.cell? ⟨b1,0,none⟩=some (Value.pointer (qa br)):=by rw [h1.cell]; rfl
 have c2:w.cell? ⟨br,2,none⟩=some (Value.int .i64 last):=by rw [hr.cell]; rfl
 have c3:w.cell? ⟨br,3,none⟩=some (C 0):=by rw [hr.cell]; rfl
 have z2:=hr.frozen 2
 have hne:b1≠br:=h1.ne hr (by decide)
 clear h0 h1 hr
 go_enter_d Tryz.func180,Tryz.ntmps180
 go_wp2_with fail
 go_end0
 exact ⟨rfl,rfl⟩
theorem Vd(b0 b1 b2 br A n c off last start err v w)(h0:At w b0 3 [C start])(h1:At w b1 148 [Z br 0])(h2:At w b2 35 [v])(hr:At w br 201 [.slice A n c,C off,C last,C err])(he:err≠0)(hb:b2≠b0/\b2≠br):
  CallsD Tryz.prog 180 #[Z b0 0,Z b1 0,Z b2 0] .returning w λe u' w'=>u' = .returning/\e = .returned (.tuple #[])/\w'=((w.setCell ⟨br,2,none⟩ (C start)).setCell ⟨br,1,none⟩ (C start)).setCell ⟨b2,0,none⟩ nS:=by
 have c0:w.cell? ⟨b0,0,none⟩=some (Value.int .i64 start):=by rw [h0.cell]; rfl
 have c1:w.cell? ⟨b1,0,none⟩=some (Value.pointer (qa br)):=by rw [h1.cell]; rfl
 have cr1:w.cell? ⟨br,1,none⟩=some (Value.int .i64 off):=by rw [hr.cell]; rfl
 have c2:w.cell? ⟨br,2,none⟩=some (Value.int .i64 last):=by rw [hr.cell]; rfl
 have c3:w.cell? ⟨br,3,none⟩=some (Value.int .i64 err):=by rw [hr.cell]; rfl
 have c4:w.cell? ⟨b2,0,none⟩=some v:=by rw [h2.cell]; rfl
 have z2:=hr.frozen 2
 have z1:=hr.frozen 1
 have z4:=h2.frozen 0
 have hne:b1≠br:=h1.ne hr (by decide)
 have hne2:b2≠br:=hb.2
 have hne0:b0≠br:=h0.ne hr (by decide)
 have heb:(err != 0)=true:=by simpa using he
 clear h0 h1 hr h2 he hb
 go_enter_d Tryz.func180,Tryz.ntmps180
 go_wp2_with fail
 go_end0
 exact ⟨rfl,rfl⟩
set_option maxHeartbeats 4000000 in
theorem Ve(br D off last m)(xs:Γ)(bx by_ w)(hr:bY X w br D off last 0)(hdec:∀ W,Fr [] w W->bY X W br D off last 0->Calls Tryz.prog 148 #[Z bx 0,Z by_ 0] W λe w'=>∃ A c,e = .returned (.tuple #[.slice A xs.length c,C 0])/\Fr [br] W w'/\bY X w' br D m last 0/\w'.ownsRow W.heap.size 5 1 (.slice A xs.length c) xs.length (B8 xs)):
  Calls Tryz.prog 147 #[Z br 0,.func (.func 148) #[] #[Z bx 0,Z by_ 0]] w λe w'=>∃ A c,e = .returned (.slice A xs.length c)/\Fr [br] w w'/\bY X w' br D m off 0/\w'.ownsRow w.heap.size 5 1 (.slice A xs.length c) xs.length (B8 xs):=by
 obtain ⟨A,c,hX,ha,hrow⟩:=hr
 have c1:w.cell? ⟨br,1,none⟩=some (Value.int .i64 (off:Int)):=by rw [ha.cell]; rfl
 have c3:w.cell? ⟨br,3,none⟩=some (C 0):=by rw [ha.cell]; rfl
 have hlt:=ha.lt
 have HR:=D3 (And.intro ha hrow)
 have HD:=D3 hdec
 clear ha hrow hdec
 have hmf:∀ (fn:Fn) (first cap:Array Value) (w:World),(Instr.makeFunc fn first cap).run Tryz.prog w = .ok (.func fn first cap) w:=λ_ _ _ _=>rfl
 go_enter_defers Tryz.func147,Tryz.ntmps147
 go_wp2_with fail
 obtain ⟨W,hW⟩:∃ W,W=((w.alloc (Obj.cells #[Z br 0] 148)).alloc (Obj.cells #[nS] 35)).alloc (Obj.cells #[C (off:Int)] 3):=⟨_,rfl⟩
 rw [<- hW]
 have HW:Hid (At W w.heap.size 148 [Z br 0]/\At W (w.heap.size+1) 35 [nS]/\At W (w.heap.size+1+1) 3 [C (off:Int)]/\Fr [] w W/\bY X W br D off last 0):=by
  rw [hW]
  refine ⟨((At.new w 148 [Z br 0]).alloc _).alloc _,?_,?_,(((Fr.refl _ _).alloc _).alloc _).alloc _,A,c,hX,((HR.out.1.alloc _).alloc _).alloc _,((HR.out.2.alloc _).alloc _).alloc _⟩
  .have:=(At.new (w.alloc (Obj.cells #[Z br 0] 148)) 35 [nS]).alloc (Obj.cells #[C (off:Int)] 3)
   simpa using this
  .have:=At.new ((w.alloc (Obj.cells #[Z br 0] 148)).alloc (Obj.cells #[nS] 35)) 3 [C (off:Int)]
   simpa using this
 clear hW c1 c3
 have d0:W.cell? ⟨w.heap.size,0,none⟩=some (Value.pointer (qa br)):=by rw [HW.out.1.cell]; rfl
 have nb1:w.heap.size≠br:=U
 have nb2:br≠w.heap.size:=U
 go_region_held3 (λw'=>w'.cell? ⟨w.heap.size,0,none⟩=some (Value.pointer (qa br))) (go_keep) (first | (go_at_call 148; refine (HD.out W.drew (by exact HW.out.2.2.2.1.drew) (by exact HW.out.2.2.2.2)).mono ?_; rintro e w1 ⟨AV,cV,rfl,hf1,hr1,ho1⟩; obtain ⟨e0,e1,z1,e3,z3⟩:=sR (W:=W) HW.out.1 HW.out.2.1 HW.out.2.2.2.2 hf1 hr1; have H1:=D3 (And.intro hf1 hr1); have HO1:=D3 ho1; clear hf1 hr1 ho1))
 go_wp2_with fail
 obtain ⟨k0,k1,k2,k3,kf⟩:=sS HW.out.1 HW.out.2.1 HW.out.2.2.1 HW.out.2.2.2.2 H1.out.1 H1.out.2 (.slice AV xs.length cV) (C 0) U (by decide)
 refine AA2 (f:=180) (args:=#[Value.pointer (some ⟨w.heap.size+1+1,0,none⟩),Value.pointer (qa w.heap.size),Value.pointer (some ⟨w.heap.size+1,0,none⟩)]) si (by simp [go_sem]) ?_
 obtain ⟨A',c',hX',k3'⟩:=k3
 refine (Vc _ _ _ br A' _ c' _ _ _ _ k2 k0 k3'.1).mono ?_
 rintro e u' w'' ⟨rfl,rfl,rfl⟩
 have hsz:w.heap.size+1+1 < W.drew.heap.size:=(At.drew HW.out.2.2.1).lt
 obtain ⟨g1,g2,g3⟩:=Av (off:=off) HW.out.2.2.2.1 kf U k1 (by decide) k3'.1 k3'.2 hX'
 exact ⟨.slice AV xs.length cV,by simp [results,go_sem,g1],AV,cV,rfl,g2,g3,UT HO1.out (b2:=w.heap.size+1) (br:=br) (((((Fr.refl _ _).setCell (.inl si) _).setCell (.inl si) _).setCell (.inl si) _).setCell (.inl si) _) U U U⟩
set_option maxHeartbeats 4000000 in
theorem Gl(br D off last er bx by_ w)(hr:bY X w br D off last 0)(he:er≠0)(hdec:∀ W,Fr [] w W->bY X W br D off last 0->Calls Tryz.prog 148 #[Z bx 0,Z by_ 0] W λe w'=>∃ A n c,e = .returned (.tuple #[.slice A n c,C er])/\Fr [br] W w'/\∃ off':Nat,bY X w' br D off' last 0):
  Calls Tryz.prog 147 #[Z br 0,.func (.func 148) #[] #[Z bx 0,Z by_ 0]] w λe w'=>e = .returned nS/\Fr [br] w w'/\bY X w' br D off off er:=by
 have HE:=D3 he
 clear he
 obtain ⟨A,c,hX,ha,hrow⟩:=hr
 have c1:w.cell? ⟨br,1,none⟩=some (Value.int .i64 (off:Int)):=by rw [ha.cell]; rfl
 have c3:w.cell? ⟨br,3,none⟩=some (C 0):=by rw [ha.cell]; rfl
 have hlt:=ha.lt
 have HR:=D3 (And.intro ha hrow)
 have HD:=D3 hdec
 clear ha hrow hdec
 have hmf:∀ (fn:Fn) (first cap:Array Value) (w:World),(Instr.makeFunc fn first cap).run Tryz.prog w = .ok (.func fn first cap) w:=λ_ _ _ _=>rfl
 go_enter_defers Tryz.func147,Tryz.ntmps147
 go_wp2_with fail
 obtain ⟨W,hW⟩:∃ W,W=((w.alloc (Obj.cells #[Z br 0] 148)).alloc (Obj.cells #[nS] 35)).alloc (Obj.cells #[C (off:Int)] 3):=⟨_,rfl⟩
 rw [<- hW]
 have HW:Hid (At W w.heap.size 148 [Z br 0]/\At W (w.heap.size+1) 35 [nS]/\At W (w.heap.size+1+1) 3 [C (off:Int)]/\Fr [] w W/\bY X W br D off last 0):=by
  rw [hW]
  refine ⟨((At.new w 148 [Z br 0]).alloc _).alloc _,?_,?_,(((Fr.refl _ _).alloc _).alloc _).alloc _,A,c,hX,((HR.out.1.alloc _).alloc _).alloc _,((HR.out.2.alloc _).alloc _).alloc _⟩
  .have:=(At.new (w.alloc (Obj.cells #[Z br 0] 148)) 35 [nS]).alloc (Obj.cells #[C (off:Int)] 3)
   simpa using this
  .have:=At.new ((w.alloc (Obj.cells #[Z br 0] 148)).alloc (Obj.cells #[nS] 35)) 3 [C (off:Int)]
   simpa using this
 clear hW c1 c3
 have d0:W.cell? ⟨w.heap.size,0,none⟩=some (Value.pointer (qa br)):=by rw [HW.out.1.cell]; rfl
 have nb1:w.heap.size≠br:=U
 have nb2:br≠w.heap.size:=U
 go_region_held3 (λw'=>w'.cell? ⟨w.heap.size,0,none⟩=some (Value.pointer (qa br))) (go_keep) (first | (go_at_call 148; refine (HD.out W.drew (by exact HW.out.2.2.2.1.drew) (by exact HW.out.2.2.2.2)).mono ?_; rintro e w1 ⟨AV,nV,cV,rfl,hf1,off',hr1⟩; obtain ⟨e0,e1,z1,e3,z3⟩:=sR (W:=W) HW.out.1 HW.out.2.1 HW.out.2.2.2.2 hf1 hr1; have H1:=D3 (And.intro hf1 hr1); clear hf1 hr1))
 go_wp2_with fail
 obtain ⟨k0,k1,k2,k3,kf⟩:=sS HW.out.1 HW.out.2.1 HW.out.2.2.1 HW.out.2.2.2.2 H1.out.1 H1.out.2 (.slice AV nV cV) (Value.int .i64 er) U (by decide)
 refine AA2 (f:=180) (args:=#[Value.pointer (some ⟨w.heap.size+1+1,0,none⟩),Value.pointer (qa w.heap.size),Value.pointer (some ⟨w.heap.size+1,0,none⟩)]) si (by simp [go_sem]) ?_
 obtain ⟨A',c',hX',k3'⟩:=k3
 refine (Vd _ _ _ br A' _ c' _ _ _ er (.slice AV nV cV) _ k2 k0 k1 k3'.1 HE.out U).mono ?_
 rintro e u' w'' ⟨rfl,rfl,rfl⟩
 obtain ⟨g1,g2,g3⟩:=Aw (off:=off) (z:=Value.slice none 0 0) HW.out.2.2.2.1 kf U k1 (by decide) (by decide) k3'.1 k3'.2 hX'
 exact ⟨Value.slice none 0 0,by simp [results,go_sem,g1],rfl,g2,g3⟩
theorem Vf(br r fv w)(hr:cF X w br r)(h0:r.err≠0):
  Calls Tryz.prog 147 #[Z br 0,fv] w λe w'=>e = .returned nS/\Fr [] w w'/\cF X w' br r:=by
 have hr0:=hr
 obtain ⟨A,c,hX,ha,hrow⟩:=hr
 have c3:w.cell? ⟨br,3,none⟩=some (Value.int .i64 r.err):=by rw [ha.cell]; rfl
 have hb:(r.err != 0)=true:=by simpa using h0
 have hlt:=ha.lt
 have HR:=D3 hr0
 clear ha hrow hr0 h0
 go_enter_defers Tryz.func147,Tryz.ntmps147
 go_wp2_with fail
 have hf:Fr [] w ((w.alloc (Obj.cells #[Z br 0] 148)).alloc (Obj.cells #[nS] 35)):=((Fr.refl _ _).alloc _).alloc _
 exact ⟨Value.slice none 0 0,by simp [results,go_sem],rfl,hf,bY.fr HR.out hf⟩
abbrev D7(a b:Nat):Value:=.func (.func 148) #[] #[(Z a 0),(Z b 0)]
theorem Vg(br r)(most:Nat)(w)(g:cF X w br r)(_hk:r.Ok)(_hm:most<=4294967296)(b:r.err≠0):
  Θ 99 #[Z br 0,C (most:Int)] w λe h=>e = .returned nS/\(r.text most).1=[]/\Fr [br] w h/\cF X h br (r.text most).2:=by
 have HR:=D3 g
 clear g
 refine bS AFf 8 (B3 w) rfl<|Nc<|R<|pB [(Z br 0)] λd=>R<|pB [(Y most)] λf=>G I<|Nb<|lL 0 rfl<|M (D7 d f)<|R<|pI 147 #[(Z br 0),(D7 d f)] rfl J (λ_=>J) (λi a=>?_)
 have HR1:Hid (cF X i br r):=bY.fr HR.out a.fr
 have HF1:=D3 a.fr
 refine (Vf br r _ i HR1.out b).mono ?_
 rintro e j ⟨rfl,k,c⟩
 refine ⟨_,j,[],[],I,Mm.start j [],?_⟩
 clear a
 exact G I<|Nd<|sN [nS] λw a=>⟨I,by unfold Rd.text; rw [if_neg b],((HF1.out.trans k).trans a.fr).mono si,by unfold Rd.text; rw [if_neg b]; exact bY.fr c a.fr⟩
theorem Vh(br r most w)(j:cF X w br r)(t:r.Ok)(y:most<=4294967296)(l:r.err=0)(n m)(s:eP r.D r.off=some (n,m))(z:n<=most)(f:m+n<=r.D.length):
  Θ 99 #[Z br 0,C (most:Int)] w λe q=>∃ A c,e = .returned (.slice A ((r.D.drop m).take n).length c)/\Fr [br] w q/\cF X q br (r.text most).2/\q.ownsRow w.heap.size 5 1 (.slice A ((r.D.drop m).take n).length c) ((r.D.drop m).take n).length (B8 ((r.D.drop m).take n)):=by
 have HR:=D3 j
 clear j
 refine bS AFf 8 (B3 w) rfl<|Nc<|R<|pB [(Z br 0)] λb=>R<|pB [(Y most)] λd=>G I<|Nb<|lL 0 rfl<|M (D7 b d)<|R<|pI 147 #[(Z br 0),(D7 b d)] rfl J (λ_=>J) (λk a=>?_)
 have HR1:Hid (cF X k br r):=bY.fr HR.out a.fr
 have HB1:Hid (At k b 148 _):=a.at (i:=0) I
 have HB2:Hid (At k d 3 [C most]):=a.at (i:=1) I
 have HF1:=D3 a.fr
 refine (Ve br r.D _ _ _ _ b d k (by have h:=HR1.out; unfold cF at h; rw [l] at h; exact h) (λW g j=>UX b d br r.D _ _ most W (HB1.out.fr g si) (HB2.out.fr g si) j t.len t.off y n m s z f)).mono ?_
 rintro e u ⟨AV,x,rfl,g,p,o⟩
 refine ⟨_,u,[],[],I,Mm.start u [],?_⟩
 clear a
 exact G I<|Nd<|sN [_] λw a=>⟨AV,x,I,((HF1.out.mono si).trans g).trans (a.fr.mono si),by unfold Rd.text; rw [if_pos l,s]; dsimp only; rw [if_neg U,if_pos f]; unfold Rd.done cF; have h:=bY.fr p a.fr; rw [<- l] at h; exact h,xS (gC o a.fr si) (by have:=HF1.out.size; omega)⟩
theorem Vi(br r most w)(f:cF X w br r)(p:r.Ok)(t:most<=4294967296)(j:r.err=0)(n m)(k:eP r.D r.off=some (n,m))(u:n<=most)(l:r.D.length < m+n):
  Θ 99 #[Z br 0,C (most:Int)] w λe q=>e = .returned nS/\(r.text most).1=[]/\Fr [br] w q/\cF X q br (r.text most).2:=by
 have HR:=D3 f
 clear f
 refine bS AFf 8 (B3 w) rfl<|Nc<|R<|pB [(Z br 0)] λb=>R<|pB [(Y most)] λc=>G I<|Nb<|lL 0 rfl<|M (D7 b c)<|R<|pI 147 #[(Z br 0),(D7 b c)] rfl J (λ_=>J) (λg a=>?_)
 have HR1:Hid (cF X g br r):=bY.fr HR.out a.fr
 have HB1:Hid (At g b 148 _):=a.at (i:=0) I
 have HB2:Hid (At g c 3 [C most]):=a.at (i:=1) I
 have HF1:=D3 a.fr
 refine (Gl br r.D _ _ 3 b c g (by have h:=HR1.out; unfold cF at h; rw [j] at h; exact h) (by decide) (λW d f=>UY b c br r.D _ _ most W (HB1.out.fr d si) (HB2.out.fr d si) f p.len p.off t n m k u l)).mono ?_
 rintro e s ⟨rfl,d,o⟩
 refine ⟨_,s,[],[],I,Mm.start s [],?_⟩
 clear a
 exact G I<|Nd<|sN [nS] λw a=>⟨I,by unfold Rd.text; rw [if_pos j,k]; dsimp only; rw [if_neg U,if_neg U],((HF1.out.mono si).trans d).trans (a.fr.mono si),by unfold Rd.text; rw [if_pos j,k]; dsimp only; rw [if_neg U,if_neg U]; unfold Rd.fail cF; exact bY.fr o a.fr⟩
theorem Vj(br r most w)(f:cF X w br r)(p:r.Ok)(t:most<=4294967296)(j:r.err=0)(n m)(k:eP r.D r.off=some (n,m))(l:most < n):
  Θ 99 #[Z br 0,C (most:Int)] w λe q=>e = .returned nS/\(r.text most).1=[]/\Fr [br] w q/\cF X q br (r.text most).2:=by
 have HR:=D3 f
 clear f
 refine bS AFf 8 (B3 w) rfl<|Nc<|R<|pB [(Z br 0)] λb=>R<|pB [(Y most)] λc=>G I<|Nb<|lL 0 rfl<|M (D7 b c)<|R<|pI 147 #[(Z br 0),(D7 b c)] rfl J (λ_=>J) (λg a=>?_)
 have HR1:Hid (cF X g br r):=bY.fr HR.out a.fr
 have HB1:Hid (At g b 148 _):=a.at (i:=0) I
 have HB2:Hid (At g c 3 [C most]):=a.at (i:=1) I
 have HF1:=D3 a.fr
 refine (Gl br r.D _ _ 2 b c g (by have h:=HR1.out; unfold cF at h; rw [j] at h; exact h) (by decide) (λW d f=>Va b c br r.D _ _ most W (HB1.out.fr d si) (HB2.out.fr d si) f p.len p.off t n m k l)).mono ?_
 rintro e s ⟨rfl,d,o⟩
 refine ⟨_,s,[],[],I,Mm.start s [],?_⟩
 clear a
 exact G I<|Nd<|sN [nS] λw a=>⟨I,by unfold Rd.text; rw [if_pos j,k]; dsimp only; rw [if_pos l],((HF1.out.mono si).trans d).trans (a.fr.mono si),by unfold Rd.text; rw [if_pos j,k]; dsimp only; rw [if_pos l]; unfold Rd.fail cF; exact bY.fr o a.fr⟩
theorem Vk(br r)(most:Nat)(w)(f:cF X w br r)(m:r.Ok)(p:most<=4294967296)(j:r.err=0)(k:eP r.D r.off=none):
  Θ 99 #[Z br 0,C (most:Int)] w λe n=>e = .returned nS/\(r.text most).1=[]/\Fr [br] w n/\cF X n br (r.text most).2:=by
 have HR:=D3 f
 clear f
 refine bS AFf 8 (B3 w) rfl<|Nc<|R<|pB [(Z br 0)] λb=>R<|pB [(Y most)] λc=>G I<|Nb<|lL 0 rfl<|M (D7 b c)<|R<|pI 147 #[(Z br 0),(D7 b c)] rfl J (λ_=>J) (λg a=>?_)
 have HR1:Hid (cF X g br r):=bY.fr HR.out a.fr
 have HB1:Hid (At g b 148 _):=a.at (i:=0) I
 have HB2:Hid (At g c 3 [C most]):=a.at (i:=1) I
 have HF1:=D3 a.fr
 refine (Gl br r.D _ _ 3 b c g (by have h:=HR1.out; unfold cF at h; rw [j] at h; exact h) (by decide) (λW d f=>Vb b c br r.D _ _ most W (HB1.out.fr d si) (HB2.out.fr d si) f m.len m.off p k)).mono ?_
 rintro e o ⟨rfl,d,l⟩
 refine ⟨_,o,[],[],I,Mm.start o [],?_⟩
 clear a
 exact G I<|Nd<|sN [nS] λw a=>⟨I,by unfold Rd.text; rw [if_pos j,k],((HF1.out.mono si).trans d).trans (a.fr.mono si),by unfold Rd.text; rw [if_pos j,k]; dsimp only; unfold Rd.fail cF; exact bY.fr l a.fr⟩
theorem Vl(br r)(most:Nat)(w)(g:cF X w br r)(d:r.Ok)(f:most<=4294967296):Θ 99 #[Z br 0,C (most:Int)] w λe a=>∃ A c,e = .returned (.slice A (r.text most).1.length c)/\Fr [br] w a/\cF X a br (r.text most).2/\a.ownsRow w.heap.size 5 1 (.slice A (r.text most).1.length c) (r.text most).1.length (B8 (r.text most).1):=by
 have nil:∀ {e:Ending} {a:Λ},(e = .returned nS/\(r.text most).1=[]/\Fr [br] w a/\cF X a br (r.text most).2)->∃ A c,e = .returned (.slice A (r.text most).1.length c)/\Fr [br] w a/\cF X a br (r.text most).2/\a.ownsRow w.heap.size 5 1 (.slice A (r.text most).1.length c) (r.text most).1.length (B8 (r.text most).1):=by
  rintro e a ⟨rfl,i,j,k⟩
  rw [i]
  exact ⟨_,0,I,j,k,UW⟩
 by_cases b:r.err=0
 .cases h:eP r.D r.off with
  | none=>exact (Vk br r most w g d f b h).mono U
  | some p =>
    obtain ⟨n,m⟩:=p
    by_cases l:n<=most
    .by_cases o:m+n<=r.D.length
     .have q:(r.text most).1=(r.D.drop m).take n:=by unfold Rd.text; grind
      grind [Vh]
     .exact (Vi br r most w g d f b n m h l U).mono U
    .exact (Vj br r most w g d f b n m h U).mono U
 .exact (Vg br r most w g d f b).mono U
end
theorem Vm{r a:Rd}(d:cC [bH X br r] w)(f:Fr [br] w w')(i:cF X w' br a)(g:a.Ok)(h:w'.ownsRow w.heap.size 5 1 (.slice A n c) n xs):aN [bH X br r] w [bH X br a,bD 5 1 A n c xs] w':=by
 exact (wW d f i g).acU (λb e=>d.It e) U h
theorem qL(X br r most w)(hO:cC [bH X br (r)] w)(hm:most<=4294967296):
  Θ 99 #[(Z br 0),(Y most)] w λe w'=>∃ (B:Δ) (cb:Nat),e = .returned (V B ((r.text most).1) cb)/\aN [bH X br (r)] w [bH X br ((r.text most).2),cB B ((r.text most).1) cb] w':=by
 have h:=hO.at (i:=0) rfl; obtain ⟨hr,hk⟩:cF X w br r/\r.Ok:=h
 refine (Vl br r most w hr hk hm).mono ?_
 rintro e w' ⟨A,c,rfl,hf,hr2,ho⟩
 exact ⟨A,c,rfl,Vm hO hf hr2 (hk.text most) ho⟩
end
abbrev Q8(a:Rd):=Y ((a.D.length - a.off) / 32)
theorem Vn(X br r most w)(d:cC [bH X br (r)] w)(s:most<=65536):
  Θ 208 #[(Z br 0),(Y most)] w λe q=>∃ (B:Δ) (cb:Nat),e = .returned (V B ((r.items most).1) cb)/\aN [bH X br (r)] w [bH X br ((r.items most).2),cS B ((r.items most).1) cb] q:=by
 refine bS Tryz.func208 26 (d) rfl<|Nc<|G rfl<|Nf<|St.fact (λw b=>(b.at (i:=0) I).2.len) (λp=>aF<|G rfl<|R<|eF [0] (λw b d=>oD X br r w d)<|lw (Q8 r) (vJ I I I U U)<|lw (Y (r.bP most)) (Ce I I I) ?_)
 have n:r.bP most<=most:=AD9 _ _
 refine R<|eF [0] (λw b d=>CQ X br r (r.bP most) w d U) ?_
 have m:=r.xP (r.bP most)
 refine G I<|Nb<|G rfl<|R<|CR gD _ U rfl rfl J rfl rfl (λk=>G I<|Ne<|G rfl<|Ng<|sL (λ(i,AX,c)=>i<=(r.cnt (r.bP most)).1) (λ(i,AX,c)=>(r.cnt (r.bP most)).1 - i) (λ(i,AX,c)=>[(0,(Z br 0)),(4,nS),(16,(Y ((r.cnt (r.bP most)).1))),(6,(V AX (((r.cnt (r.bP most)).2.cK i).1) c)),(17,(Y i))]) (λ(i,AX,c)=>[bH X br (((r.cnt (r.bP most)).2.cK i).2),cS AX (((r.cnt (r.bP most)).2.cK i).1) c]) (0,(some _),((r.cnt _).1)) U (λw b=>by show Mm _ _ _ w; exact b) ?_) U
 rintro ⟨i,AX,c⟩ (o:i<=(r.cnt (r.bP most)).1)
 dsimp only
 refine Nc<|M (.bool (decide ((i:Int) < (((r.cnt (r.bP most)).1:Nat):Int)))) ?_
 refine aO (aJ (aT (aY I (λa=>?_) (λa=>?_))))
 .have g:=D4 a
  exact Nl<|fY<|aF<|G rfl<|R<|eF [0] (λw b d=>wX X br _ w d)<|R<|pN 1 9 [(vS ((((r.cnt (r.bP most)).2.cK i).2).sum.1))] λl=>R<|cL gD 1 _ rfl rfl J rfl rfl rfl (rfl) (fE (i:=2) rfl (λj v h=>by rw [K7]; exact h)) (by simp [Value.oneCell']) (by rw [Rd.uM]; omega) ((((r.cnt (r.bP most)).2.cK i).1++[_]).length) dV (SS (((r.cnt (r.bP most)).2.cK i).1++[(((r.cnt (r.bP most)).2.cK i).2).sum.1])) (by simp [SS]) (λA23 f=>G I<|Nk<|aF<|lw (Y (i+1)) bN<|G rfl<|aO (aJ (sA (i+1,A23,f) (by show _<=_; omega) (by show (r.cnt (r.bP most)).1 - (i+1) < (r.cnt (r.bP most)).1 - i; omega) (λw b=>by show Mm _ _ [bH X br (((r.cnt (r.bP most)).2.cK (i+1)).2),cS A23 (((r.cnt (r.bP most)).2.cK (i+1)).1) f] w; exact (b.pick [0,1] I I)))))
 .have g:=C7 a
  obtain rfl:i=(r.cnt (r.bP most)).1:=U
  exact Nj<|aF<|G rfl<|Nd<|sN [_] λw b=>⟨AX,c,I,b⟩
theorem Vo(n f lo hi w):
  Θ 239 #[(.agg #[(Y n),(vS f)]),(.agg #[(vS lo),(vS hi)])] w λe b=>e = .returned bT/\aN [] w [] b:=by
 exact bS Tryz.func239 5 (B3 w) rfl<|Nc<|R<|pB _ λc=>R<|pB _ λd=>G I<|Nb<|G rfl<|Nd<|sN [bT] λw a=>⟨I,(a.pick [] I I)⟩
theorem Vp(A c l lo hi w)(d:Rf [] w (λw=>aI w A (SS l)))(h:l.length<=68719476736):
  Θ 241 #[(.agg #[(V A l c)]),(.agg #[(vS lo),(vS hi)])] w λe f=>e = .returned (.bool (fN l lo hi))/\aN [] w [] f:=by
 exact bS Tryz.func241 9 (B3 w) rfl<|Nc<|R<|pB _ λb=>R<|pB _ λg=>G I<|Nb<|M (Z b 0)<|lL 0 rfl<|lW (rA 1 _)<|R<|bV (λw a=>FK A c l lo hi w (d.aX a) U)<|G rfl<|Nd<|sN [_] λw a=>⟨I,(a.pick [] I I)⟩
theorem Vq(A c l A2 b m lo hi w)(h:Rf [] w (λw=>aI w A (SS l)))(j:Rf [] w (λw=>aI w A2 (SS m)))(o:l.length<=68719476736)(g:m.length<=68719476736):
  Θ 246 #[(.agg #[(V A l c),(V A2 m b)]),(.agg #[(vS lo),(vS hi)])] w λe k=>e = .returned (.bool (fN l lo hi && fN m lo hi))/\aN [] w [] k:=by
 refine bS Tryz.func246 15 (B3 w) rfl<|Nc<|R<|pB [(V A l c),(V A2 m b)] λf=>R<|pB (F6 lo hi) λn=>G I<|Nb<|M (Z f 0)<|lL 0 rfl<|lW (zr 1 rfl)<|R<|bV (λw a=>FK A c l lo hi w (h.aX a) U)<|lm ?_
 refine St.dec 9 I (λd=>?_) (λd=>?_)
 .exact lg (Z f 1)<|lu (V A2 m b) (bW 0 rfl rfl J rfl rfl)<|lu (.agg #[(vS lo),(vS hi)]) (gI (F6 lo hi) rfl rfl J J (cW (i:=1) rfl (by grind)))<|dP rfl rfl<|bV (λw a=>FK A2 b m lo hi w (j.aX a) U)<|M (.bool (fN m lo hi))<|G rfl<|Nd<|sN [(.bool (fN m lo hi))] λw a=>⟨gK (by grind),(a.pick [] I I)⟩
 .exact G I<|lF<|G rfl<|Nd<|sN [bF] λw a=>⟨gK (by grind),(a.pick [] I I)⟩
theorem LO(v b){p:AP}:(Ending.returned (.tuple #[v,.bool b])) = .returned (.tuple #[v,.bool (if b=true then some p else none).isSome]):=by grind
theorem xA{a b c:Ω}(d:a.oneCell'=true)(e:b.oneCell'=true)(f:c.oneCell'=true):∀ u∈[a,b,c],u.oneCell'=true:=by
 grind
theorem LP{p q:AP}(h:(if b=true then some q else none)=some p):q=p:=by
 grind
theorem Vr(X br r w)(b:cC [bH X br (r)] w):
  Θ 89 #[(Z br 0)] w λe c=>∃ (n:Nat) (a:Rd),e = .returned (.int .u64 (n:Int))/\aN [bH X br (r)] w [bH X br (a)] c/\(r.uint=(n,a)) :=
 (sY X br r w b).mono zg
theorem Gm(X br r most w)(b:cC [bH X br (r)] w)(c:most<=4294967296):
  Θ 171 #[(Z br 0),(Y most)] w λe d=>∃ (n:Nat) (a:Rd),e = .returned (Y n)/\aN [bH X br (r)] w [bH X br (a)] d/\(r.cnt most=(n,a)) :=
 (CQ X br r most w b c).mono zg
theorem LQ(X br r most w)(b:cC [bH X br (r)] w)(c:most<=4294967296):
  Θ 205 #[(Z br 0),(Y most)] w λe d=>∃ (t:Γ) (a:Rd),e = .returned (vS t)/\aN [bH X br (r)] w [bH X br (a)] d/\(r.text most=(t,a)) :=
 (Ut X br r most w b c).mono zg
theorem Vs(X br r w)(b:cC [bH X br (r)] w):
  Θ 133 #[(Z br 0)] w λe c=>∃ (t:Γ) (a:Rd),e = .returned (vS t)/\aN [bH X br (r)] w [bH X br (a)] c/\(r.sum=(t,a)) :=
 (wX X br r w b).mono zg
theorem Gn(X br r most w)(b:cC [bH X br (r)] w)(c:most<=65536):
  Θ 208 #[(Z br 0),(Y most)] w λe d=>∃ (B:Δ) (cb:Nat) (l:List Γ) (a:Rd),e = .returned (V B (l) cb)/\aN [bH X br (r)] w [bH X br (a),cS B (l) cb] d/\(r.items most=(l,a)) :=
 (Vn X br r most w b c).mono zg
abbrev I9:=[qe,qe,.nilIface]
abbrev G4:Value:=.agg #[qe,qe,.nilIface]
abbrev I4(a:Nat):Value:=.bool ((((a:Nat):Int):Int) == 1)
abbrev I5(a:Nat):Value:=.bool ((((a:Nat):Int):Int) == 2)
abbrev F8(a:Nat):Value:=.bool ((((a:Nat):Int):Int) == 3)
theorem LR(X br r w)(A:cC [bH X br (r)] w):
  Θ 188 #[(Z br 0)] w λe w'=>∃ (cl:Ξ) (L:List (Δ × List Γ)) (o:Option AP) (r2:Rd),e = .returned (.tuple #[(.agg (cl).toArray),(.bool o.isSome)])/\aN [bH X br (r)] w [bH X br (r2),dQ (L)] w'/\(r.part=(o,r2))/\(cl.length=3/\∀ u∈cl,u.oneCell'=true)/\(∀ p,o=some p->∃ pv:PV,cl=pv.cells/\pv.abs=p/\∀ q∈pv.c.rows,q∈L):=by
 refine eO Tryz.func188 66 (A) rfl<|Nc<|R<|pA I9 λb2=>G I<|Nb<|G rfl<|R<|iS [0] (λw d A=>LQ X br r 32 w A U) λb au E=>G I<|R<|iS [0] (λw d A=>LQ X br au 32 w A U) λa s x=>G I<|Nb<|G rfl<|lk (.agg #[(vS b),(vS a)])<|lk (.agg #[(vS b),(vS a),.nilIface])<|R<|pA I9 λF=>R<|zu 2 I<|Nf<|aT ?_
 refine xd ?_
 refine aF<|G rfl<|R<|bV (λw d=>Lh b w )<|lk (.bool (!(iU b)))<|lm ?_
 refine St.dec 19 I (λH=>?_) (λH=>?_)
 .refine G I<|lT<|G rfl<|lT<|No<|lk G4<|R<|zu 1 rfl<|G rfl<|Nh<|dL [G4,bF] rfl ⟨rz 1 rfl,rfl,trivial⟩ (λw d=>?_)
  have m:r.part=(none,s):=Rd.IB E x (Uu H)
  exact ⟨I9,[],none,s,I,Mm.tK ((d.pick [0] I I)),m,⟨I,xA I I I⟩,λp m=>by cases m⟩
 .refine G I<|dP rfl rfl<|bV (λw d=>Lh a w )<|lg (.bool (!(iU a)))<|lk (.bool (!(iU a)))<|lm ?_
  refine St.dec 24 I (λK=>?_) (λK=>?_)
  .refine G I<|lT<|No<|lk G4<|R<|zu 1 rfl<|G rfl<|Nh<|dL [G4,bF] rfl ⟨rz 1 rfl,rfl,trivial⟩ (λw d=>?_)
   have m:r.part=(none,s):=Rd.IB E x (Uv K)
   exact ⟨I9,[],none,s,I,Mm.tK ((d.pick [0] I I)),m,⟨I,xA I I I⟩,λp m=>by cases m⟩
  .refine lg (Z F 0)<|lu (.agg #[(vS b),(vS a)]) (gI (F6 b a) rfl rfl J J (cW (i:=2) rfl (by intro j v hj; match j,hj with | 0,h=>exact h | 1,h=>exact h)))<|dP rfl rfl<|bV (λw d=>TS b a w )<|lg (.bool (!(nK b a)))<|lk (.bool (!(nK b a))) ?_
   refine qi I (λN=>?_) λN=>?_
   .refine aT ?_
    refine xd ?_
    refine aF<|lk G4<|R<|zu 1 rfl<|G rfl<|Nh<|dL [G4,bF] rfl ⟨rz 1 rfl,rfl,trivial⟩ (λw d=>?_)
    have m:r.part=(none,s):=Rd.IB E x (Uw N)
    exact ⟨I9,[],none,s,I,Mm.tK ((d.pick [0] I I)),m,⟨I,xA I I I⟩,λp m=>by cases m⟩
   .refine Nl<|aT ?_
    have ae:r.part=s.body b a:=Rd.part_go E x (Ux H K N)
    refine aF<|G rfl<|R<|iS [0] (λw d A=>Vr X br s w A) λz t y=>Ng<|Nc<|lk (I4 z)<|G I ?_
    refine qi I (λO=>?_) λO=>?_
    .have hk:z=1:=oU O
     refine aF<|G rfl<|R<|iS [0] (λw d A=>Gm X br t 16384 w A U) λB an aj=>G I<|R<|iS [0] (λw d A=>Vs X br an w A) λD ao ak=>lk (.agg #[(Y B),(vS D)])<|lk (.iface 242 (.agg #[(Y B),(vS D)]))<|lk (Z F 2)<|R<|pS 2 I<|Nk<|aT ?_
     refine xd ?_
     refine dN _ 8 J (κ [0,2] I I)<|aV 0 _ I (zr 1 I)<|aC 1 (Z F 2) I<|al 2 1 ?_
     refine aC 3 (Z F 0) I<|aV 4 _ rfl (rA 1 (F6 b a))<|aA 5 rfl<|bV (λw d=>Vo B D b a w )<|aQ _ η (κ [0,2] I I)<|aA 6 I<|zu 1 I<|aQ _ η (κ [0,2] I I)<|aa 7 ?_
     refine cG J<|aJ<|gW<|dL [(.agg #[(vS b),(vS a),(.iface 242 (.agg #[(Y B),(vS D)]))]),bT] rfl ⟨rz 1 rfl,rfl,trivial⟩ (λw d=>?_)
     have m:r.part=(some (PV.mk b a (.sum B D)).abs,ao):=ae.trans (Rd.acP y hk aj ak)
     exact ⟨[(vS b),(vS a),(.iface 242 (.agg #[(Y B),(vS D)]))],[],_,_,I,Mm.tK ((d.pick [0] I I)),m,⟨I,xA I I I⟩,λp m=>⟨PV.mk b a (.sum B D),I,Z0 m,λq hq=>by cases hq⟩⟩
    .have ap:¬ z=1:=oE O
     refine aT ?_
     refine xd ?_
     refine aF<|lk (I5 z)<|G I ?_
     refine qi I (λP=>?_) λP=>?_
     .have hk:z=2:=oU P
      refine aF<|G rfl<|R<|jO [0] (λw d A=>Gn X br t 64 w A U) λB46 l n ah S=>?_
      have ab:=Rd.oJ t 64; rw [S] at ab; dsimp only at ab
      refine lk (.agg #[(V B46 (n) l)])<|lk (.iface 246 (.agg #[(V B46 (n) l)]))<|lk (Z F 2)<|R<|pS 2 I<|Nk<|aT<|dN _ 8 J (κ [0,2,3] I I)<|aV 0 _ I (zr 1 I)<|aC 1 (Z F 2) I<|al 2 1 ?_
      refine aC 3 (Z F 0) I<|aV 4 _ rfl (rA 1 (F6 b a))<|aA 5 rfl<|bV (λw d=>Vp B46 l n b a w (d.aR (j:=3) I (λ_ h=>aI.bM h)) U)<|aQ _ η (κ [0,2,3] I I)<|aA 6 I<|zu 1 I ?_
      refine xd ?_
      refine aQ _ η (κ [0,2,3] I I)<|aa 7 ?_
      refine cG J<|aJ<|gW<|dL [(.agg #[(vS b),(vS a),(.iface 246 (.agg #[(V B46 (n) l)]))]),(.bool (fN n b a))] rfl ⟨rz 1 rfl,rfl,trivial⟩ (λw d=>?_)
      have m:r.part=(if fN n b a then some (PV.mk b a (.list B46 l n)).abs else none,ah):=ae.trans (Rd.acQ y hk S)
      replace d:Mm _ _ [bH X br (ah),aD b2 240 [(vS b),(vS a),(.iface 246 (.agg #[(V B46 (n) l)]))],aD F 240 [(vS b),(vS a),(.iface 246 (.agg #[(V B46 (n) l)]))],dQ ([(B46,n)])] w:=d.pE 3 I
      refine ⟨[(vS b),(vS a),(.iface 246 (.agg #[(V B46 (n) l)]))],[(B46,n)],_,_,LO _ _,(d.pick [0,3] I I),m,⟨I,xA I I I⟩,λp m=>⟨PV.mk b a (.list B46 l n),I,LP m,λq hq=>hq⟩⟩
     .have aq:¬ z=2:=oE P
      refine Nc<|lk (F8 z)<|G I ?_
      refine qi I (λQ=>?_) λQ=>?_
      .have hk:z=3:=oU Q
       refine Nc<|G rfl<|R<|jO [0] (λw d A=>Gn X br t 16384 w A U) λB53 f g ai T=>?_
       have ab:=Rd.oJ t 16384; rw [T] at ab; dsimp only at ab
       refine G I<|Nv<|G rfl<|R<|jO [0] (λw d A=>Gn X br ai 16384 w A U) λB56 c k ad W=>?_
       have af:=Rd.oJ ai 16384; rw [W] at af; dsimp only at af
       refine lk (.agg #[(V B53 (g) f),(V B56 (k) c)])<|lk (.iface 249 (.agg #[(V B53 (g) f),(V B56 (k) c)]))<|lk (Z F 2)<|R<|pS 2 I<|Nk<|aT<|dN _ 8 J (κ [0,2,3,4] I I)<|aV 0 _ I (zr 1 I)<|aC 1 (Z F 2) I<|al 2 1 ?_
       refine aC 3 (Z F 0) I<|aV 4 _ rfl (rA 1 (F6 b a))<|aA 5 rfl<|bV (λw d=>Vq B53 f g B56 c k b a w (d.aR (j:=3) I (λ_ h=>aI.bM h)) (d.aR (j:=4) I (λ_ h=>aI.bM h)) U U) ?_
       refine xd ?_
       refine aQ _ η (κ [0,2,3,4] I I)<|aA 6 I<|zu 1 I<|aQ _ η (κ [0,2,3,4] I I)<|aa 7 ?_
       refine cG J<|aJ<|gW<|dL [(.agg #[(vS b),(vS a),(.iface 249 (.agg #[(V B53 (g) f),(V B56 (k) c)]))]),(.bool (fN g b a && fN k b a))] rfl ⟨rz 1 rfl,rfl,trivial⟩ (λw d=>?_)
       have m:r.part=(if (fN g b a && fN k b a) then some (PV.mk b a (.ans B53 f g B56 c k)).abs else none,ad):=ae.trans (Rd.acR y hk T W)
       replace d:Mm _ _ [bH X br (ad),aD b2 240 [(vS b),(vS a),(.iface 249 (.agg #[(V B53 (g) f),(V B56 (k) c)]))],aD F 240 [(vS b),(vS a),(.iface 249 (.agg #[(V B53 (g) f),(V B56 (k) c)]))],dQ ([(B53,g)]),cS B56 (k) c] w:=d.pE 3 I
       replace d:Mm _ _ [bH X br (ad),aD b2 240 [(vS b),(vS a),(.iface 249 (.agg #[(V B53 (g) f),(V B56 (k) c)]))],aD F 240 [(vS b),(vS a),(.iface 249 (.agg #[(V B53 (g) f),(V B56 (k) c)]))],dQ ([(B53,g)]),dQ ([(B56,k)])] w:=d.pE 4 I
       refine ⟨[(vS b),(vS a),(.iface 249 (.agg #[(V B53 (g) f),(V B56 (k) c)]))],[(B53,g),(B56,k)],_,_,LO _ _,Mm.join (cs:=[_]) (L:=[(B53,g)]) (M:=[(B56,k)]) ((d.pick [0,3,4] I I)),m,⟨I,xA I I I⟩,λp m=>⟨PV.mk b a (.ans B53 f g B56 c k),I,LP m,λq hq=>hq⟩⟩
      .have ar:¬ z=3:=oE Q
       refine Nc<|lk G4<|R<|zu 1 rfl<|G rfl<|Nd<|eL<|cJ<|dL [G4,bF] rfl ⟨rz 1 rfl,rfl,trivial⟩ (λw d=>?_)
       have m:r.part=(none,t):=ae.trans (Rd.acS y ap aq ar)
       exact ⟨I9,[],none,t,I,Mm.tK ((d.pick [0] I I)),m,⟨I,xA I I I⟩,λp m=>by cases m⟩
theorem Da(A c xs n w)(d:cC [cB A xs c] w)(j:n < 18446744073709551616)(l:xs.length<=4294960000):
  Θ 107 #[(V A xs c),(.int .u64 ((n:Nat):Int))] w λe f=>∃ (A2:Δ) (b:Nat),e = .returned (V A2 (xs++aE n) b)/\aN [cB A xs c] w [cB A2 (xs++aE n) b] f:=by
 have k:w.ownsRow 0 5 1 (.slice A xs.length c) xs.length (B8 xs):=d.at (i:=0) I
 refine (Kj 0 n (.slice A xs.length c) xs w j (by omega) (G6 _) k).mono ?_
 rintro e f ⟨m,rfl,a⟩
 obtain ⟨A',g,rfl,h⟩:=d.Iu 0 I a.own a.gr a.blk
 exact ⟨A',g,I,h⟩
theorem Db(w):
  Θ 63 #[] w λe g=>∃ (a:Nat),e = .returned (Z a 0)/\aN [] w [aD a 175 [nS,(C 0)]] g:= (Kk w).mono λ_ _ ⟨d,f,b⟩=>⟨_,d,(B3 w).push (c:=aD w.heap.size 175 [.slice none 0 0,Value.int .i64 0]) f b (by simp [aD]) (by simp [aD])⟩
abbrev L6(a:Nat):Value:=.int .u64 ((a:Nat):Int)
abbrev J8(a b c d):=[aD a 175 [(V b (c) d),S1],cB b (c) d]
abbrev L7:Value:=.bool true
theorem zD(a A c xs n w)(d:cC [aD a 175 [(V A (xs) c),(C 0)],cB A (xs) c] w)(j:n < 18446744073709551616)(k:xs.length<=4294960000):
  Θ 112 #[(Z a 0),(.int .u64 ((n:Nat):Int))] w λe i=>∃ (A2:Δ) (g:Nat),e = .returned (.tuple #[])/\aN [aD a 175 [(V A (xs) c),(C 0)],cB A (xs) c] w [aD a 175 [(V A2 (xs++aE n) g),(C 0)],cB A2 (xs++aE n) g] i:= by
 refine wG (args:=[(Z a 0),(L6 n)]) (yD (J8 a A xs c)) Tryz.func112 I 18 I [(0,(Z a 0)),(1,(L6 n))] ⟨I,I,trivial⟩ (J8 a A xs c) (d) ?_
 refine aT (aF ?_)
 refine lm ?_
 refine lc (Z a 0) ?_
 refine lc (Z a 1) ?_
 refine lv (v:=S1) (bW 0 I I (by kernel_rfl) I I) ?_
 refine lc L7 ?_
 refine aO (aJ (nR I (aF ?_)))
 refine lm ?_
 refine lm ?_
 refine lc (Z a 0) ?_
 refine lc (Z a 0) ?_
 refine lv (v:=(V A (xs) c)) (bW 0 I I (by kernel_rfl) I I) ?_
 refine lm ?_
 refine li I ?_
 refine fT [1] [cB A (xs) c] (λw f d=>(Da A c xs n w d (by omega) (by omega)).mono ?_)
 rintro e i ⟨A215,b,rfl,h⟩
 refine ⟨_,[cB A215 (xs++aE n) b],_,I,h,I,?_⟩; clear h f d
 refine lc (Z a 0) ?_
 refine lc (Z a 0) ?_
 refine li I ?_
 refine hZ 0 I I (by kernel_rfl) I I I (by kernel_rfl) I (by simp) ?_
 refine aO ?_
 refine nF [] I trivial (λw f=>?_)
 exact ⟨A215,b,I,f⟩
theorem AW(a A c xs n w)(d:cC [aD a 175 [(V A (xs) c),(C 0)],cB A (xs) c] w)(j:n<=4294967296)(k:xs.length<=4294960000):
  Θ 136 #[(Z a 0),(Y n)] w λe i=>∃ (A2:Δ) (g:Nat),e = .returned (.tuple #[])/\aN [aD a 175 [(V A (xs) c),(C 0)],cB A (xs) c] w [aD a 175 [(V A2 (xs++aE n) g),(C 0)],cB A2 (xs++aE n) g] i:= by
 refine wG (args:=[(Z a 0),(Y n)]) (yD (J8 a A xs c)) Tryz.func136 I 18 I [(0,(Z a 0)),(1,(Y n))] ⟨I,I,trivial⟩ (J8 a A xs c) (d) ?_
 refine aT (aT (aF ?_))
 refine lm ?_
 refine lc (Z a 0) ?_
 refine lc (Z a 1) ?_
 refine lv (v:=S1) (bW 0 I I (by kernel_rfl) I I) ?_
 refine lc L9 ?_
 refine aO (aJ (oO I (gL (aJ (aT (aT (aF ?_)))))))
 refine lm ?_
 refine lc (.bool (decide (((n:Nat):Int) < 0))) ?_
 refine aO (aJ ?_)
 refine fD I (by simp) ?_
 refine gL (aJ (aF ?_))
 refine lm ?_
 refine lm ?_
 refine lv (v:=(L6 n)) (iQ _ (λ_=>by kernel_rfl) I I (kV (by omega) (by omega))) ?_
 refine li I ?_
 refine fT [0,1] [aD a 175 [(V A (xs) c),S1],cB A (xs) c] (λw f d=>(zD a A c xs n w d (by omega) (by omega)).mono ?_)
 rintro e i ⟨A217,b,rfl,h⟩
 refine ⟨_,[aD a 175 [(V A217 (xs++aE n) b),S1],cB A217 (xs++aE n) b],_,I,h,I,?_⟩; clear h f d
 refine aO ?_
 refine nF [] I trivial (λw f=>?_)
 exact ⟨A217,b,I,f⟩
theorem LS(a A c)(xs t:Γ)(w)(d:cC [aD a 175 [(V A (xs) c),(C 0)],cB A (xs) c] w)(j:t.length<=1000)(k:xs.length<=4294960000):
  Θ 191 #[(Z a 0),(vS t)] w λe i=>∃ (A2:Δ) (f:Nat),e = .returned (.tuple #[])/\aN [aD a 175 [(V A (xs) c),(C 0)],cB A (xs) c] w [aD a 175 [(V A2 (xs++aE t.length++t) f),(C 0)],cB A2 (xs++aE t.length++t) f] i:=by
 refine bS Tryz.func191 22 (d) rfl<|Nc<|G rfl<|M (Z a 0)<|M (Z a 1)<|lL 0 rfl<|lT<|Nt<|aF<|G rfl<|M (Z a 0)<|M (Z a 0)<|lL 0 rfl<|G rfl<|lw (Y ((t).length)) (yI rfl rfl J)<|lw (vU t.length) (iQ _ (λ_=>J) I I (kV U U))<|R<|iI [1] (λw h d=>Da A c xs t.length w d U U) λA217 g=>G I<|R<|wJ 1 rfl rfl J J J J rfl rfl rfl (by have:=eY t.length U; grind) (((xs++aE t.length)++t).length) dV (B8 ((xs++aE t.length)++t)) (by simp [B8]) (λA19 b=>M (Z a 0)<|M (Z a 0)<|R ?_)
 exact pS 0 I<|aO<|nF [] rfl trivial (λw h=>⟨A19,b,I,h⟩)
theorem AZ(a A c)(xs t:Γ)(w)(g:cC [aD a 175 [(V A (xs) c),(C 0)],cB A (xs) c] w)(i:t.length=32)(j:xs.length<=4294960000):
  Θ 114 #[(Z a 0),(vS t)] w λe h=>∃ (A2:Δ) (d:Nat),e = .returned (.tuple #[])/\aN [aD a 175 [(V A (xs) c),(C 0)],cB A (xs) c] w [aD a 175 [(V A2 (xs++t) d),(C 0)],cB A2 (xs++t) d] h:=by
 refine bS Tryz.func114 24 (g) I<|Ny<|G rfl<|M (Z a 0)<|M (Z a 1)<|lL 0 rfl<|lF<|Nn<|Nc<|G rfl<|lw (Y ((t).length)) (yI rfl rfl J)<|M (.bool (((((t).length:Nat):Int):Int) != 32))<|Na<|fD rfl (by grind)<|gL<|aJ<|aF<|G rfl<|M (Z a 0)<|M (Z a 0)<|lL 0 rfl<|G rfl<|R<|wJ 1 rfl rfl J J J J rfl rfl rfl U (((xs)++t).length) dV (B8 ((xs)++t)) (by simp [B8]) (λA21 b=>?_)
 exact M (Z a 0)<|M (Z a 0)<|R<|pS 0 rfl<|aO<|nF [] rfl trivial (λw f=>⟨A21,b,I,f⟩)
theorem Dc(a A c xs w)(h:cC [aD a 175 [(V A (xs) c),(C 0)],cB A (xs) c] w)(k:xs.length<=1048576):
  Θ 66 #[(Z a 0)] w λe j=>∃ (A2:Δ) (f:Nat),e = .returned (.tuple #[(V A2 xs f),(C 0)])/\aN [aD a 175 [(V A (xs) c),(C 0)],cB A (xs) c] w [aD a 175 [(V A (xs) c),(C 0)],cB A (xs) c,cB A2 xs f] j:=by
 refine eO Tryz.func66 25 (h) rfl<|Nc<|G rfl<|Ne<|G rfl<|M (Z a 0)<|M (Z a 1)<|lL 0 rfl<|lF<|Nn<|Nc<|G rfl<|M (Z a 0)<|M (Z a 0)<|lL 0 rfl<|M (Y ((xs).length))<|M (.bool (decide ((((xs).length:Nat):Int) > 1048576)))<|Na<|fD rfl (by grind)<|Ni<|R<|pN 0 5 [] λg=>G I<|M (Z a 0) ?_
 exact M (Z a 0)<|lL 0 rfl<|R<|oP (λw d=>d.tJ 2 I 1)<|cL gS 2 (B8 (xs)) rfl rfl J rfl rfl rfl (by simp [B8]) (λw d=>eN.gJ (fM (i:=1) I w d)) ((iP _)) U ((xs).length) dV (B8 (xs)) (by grind) (λA24 b=>G I<|Nd<|sN [(V A24 (xs) b),(C 0)] λw d=>⟨A24,b,I,d⟩)
section
def nB(b:Nat)(xs:List UInt8):Ch where
 fp:=[b]
 holds w:=jP w b xs
 ok w w' hb h:=by
  obtain ⟨buf,h1,h2,h3⟩:=h
  exact ⟨buf,h1,h2,(hb b (by simp)).trans h3⟩
 lt w h c hc:=by
  rw [List.mem_singleton] at hc
  subst hc
  exact h.lt
theorem Vt(h:Ro S w (λw=>aI w A (B8 bs)))(h0:0 < bs.length){o:Nat}(hA:A=some ⟨g,o,none⟩):g∉S:=λhg=>by
 have hf:Fr S w { w with heap:=w.heap.setIfInBounds g (.map #[] 0) }:=⟨rfl,rfl,rfl,by simp,λk _ hn=>by simp only; rw [ADg (by intro e; subst e; exact hn hg)]⟩
 obtain ⟨b',o',hA',hlt,hc⟩:=h _ hf 0 _ (uN bs 0 _ (E1 h0))
 rw [hA] at hA'
 injection hA' with hA'
 injection hA' with e1 e2
 subst e1
 simp only [World.cell?] at hc
 rw [AB3 (by simpa using hlt)] at hc
 simp at hc
theorem Vu(h:Ro S w eG):0∉S/\1∉S:=by
 have key:∀ g,g < 2->g∉S:=λg hg2 hg=>by
  have hf:Fr S w { w with heap:=w.heap.setIfInBounds g (.map #[] 0) }:=⟨rfl,rfl,rfl,by simp,λk _ hn=>by simp only; rw [ADg (by intro e; subst e; exact hn hg)]⟩
  have hv:=h _ hf
  have hlt:=hv.lt
  have hlt':g < w.heap.size:=by simp at hlt; omega
  have e:(w.heap.setIfInBounds g (.map #[] 0))[g]?=some (.map #[] 0):=by rw [AB3 hlt']
  rcases W4 g 1 with h1 | h1
  .obtain rfl:g=0:=by omega
   have:=hv.init 0 _ I
   simp [World.cell?,e] at this
  .obtain rfl:g=1:=by omega
   have:=hv.cons 0 _ I
   simp [World.cell?,e] at this
 exact ⟨key 0 (by omega),key 1 (by omega)⟩
theorem Vv(w)(g:Rf [] w (eG)):
  Θ 104 #[] w λe a=>∃ (b:Nat),e = .returned (Z b 0)/\aN [] w [nB b []] a:=by
 refine (JC w g.here).mono ?_
 rintro e a ⟨rfl,d,f⟩
 exact ⟨w.heap.size,I,(B3 w).push (c:=nB w.heap.size []) d f (by simp [nB]) (by simp [nB])⟩
theorem Vw(b xs A c bs w)(j:cC [nB b xs] w)(m:Rf [nB b xs] w (eG))(n:Rf [nB b xs] w (λw=>aI w A (B8 bs)))(a:bs.length<=c)(l:xs.length+bs.length<=549755813888):
  Θ 105 #[(Z b 0),(V A bs c)] w λe p=>e = .returned (.tuple #[])/\aN [nB b xs] w [nB b (xs++bs)] p:=by
 have y:eG w:=m.here
 have x:jP w b xs:=j.at (i:=0) I
 have d:aI w A (B8 bs):=n.here
 have r:2<=b:=by
  rcases W4 b 2 with h | h
  .exfalso
   have:=Vu m
   simp [nB] at this
   omega
  .exact h
 refine (JG b xs bs A c w y r x d a (λq g o s=>?_) (by omega)).mono ?_
 .have:=Vt n q s
  simpa [nB] using this
 .rintro e p ⟨rfl,t,f⟩
  exact ⟨I,j.swap 0 I (c':=nB b (xs++bs)) t f (λk u=>.inl u) (by simp [nB])⟩
theorem Vx(b xs w)(c:cC [nB b xs] w)(h:Rf [nB b xs] w (eG))(a:xs.length<=549755813888):
  Θ 106 #[(Z b 0)] w λe d=>e = .returned (vS (fP xs))/\aN [nB b xs] w [nB b xs] d:=by
 have g:jP w b xs:=c.at (i:=0) I
 refine (JI b xs w h.here g a).mono ?_
 rintro e d ⟨rfl,f⟩
 exact ⟨I,c.eW f⟩
section
variable {P:Program}{Q:Exit -> Act -> World -> Prop}{n:Nat}{w0:World}{F:List Nat}{E:eH}{cs:List Ch}{K:Act -> World -> Prop}{o:Oper}{d:Nat}
theorem LU(p:o.op = .convert src dst x)(k:o.dst=some d)(q:P.underlying src=some .string)(r:P.underlying dst=some (.slice e))(l:P.underlying e=some (.int .u8))(m:dH n E o=true)(s:bA E x=some (vS bs))(h:∀ b c,bs.length<=c->St n w0 F ((d,ql b bs.length c)::E) (cs++[pK b e (B8 bs)]) K):eK P Q n w0 F E cs o K :=
 pH k m λw i=>by
  have g:=AB9 (P:=P) w src dst e (bL bs) q r l
  rw [yH] at g
  refine ⟨_,_,_,by unfold execOp; simp only [p,cU s,Sem.run_bind,g]; rfl,i.push (c:=pK w.heap.size e (B8 bs)) (((Fr.refl _ _).drew).alloc _) ⟨_,_,heap_alloc_new w.drew _,λj v f=>?_⟩ (by simp [pK]) (by simp [pK]),h _ _ (grownCap_ge _ _ _ _)⟩
  have a:=(C4.1 f).1
  rw [eX] at a
  unfold bytesRow
  rw [AAa (by simp [bL]; exact a)]
  simpa [bL,B8] using f
theorem Vy{a:Nat}(b:o.op = .binOp .shl ty x y u)(c:bA E x=some (.int .u16 (a:Int)))(f:bA E y=some (.int .u64 8))(g:a < 256):eD P w0 F cs E o (.int .u16 ((a*256:Nat):Int)):=λw _=>by
 unfold execOp
 simp only [b,cU c,cU f,P5,pY,J3,binOp,Op.shift]
 rw [P4 (by omega)]
 simp only [T9,J3]
 have e:IntKind.u16.wrap ((a:Int)*2 ^ (min (8:Int).toNat IntKind.u16.bits))=((a*256:Nat):Int):=by
  rw [AGa,show ((2:Int) ^ (min (8:Int).toNat IntKind.u16.bits))=256 from I]
  omega
 rw [e]
theorem Vz{a b:Nat}(f:o.op = .binOp .or ty x y u)(g:bA E x=some (.int .u16 ((a*256:Nat):Int)))(j:bA E y=some (.int .u16 (b:Int)))(k:a < 256)(e:b < 256):eD P w0 F cs E o (.int .u16 ((a*256+b:Nat):Int)):=uU .or si _ f g j (by
 have c:a*256 ||| b=a*256+b:=by
  have h:=Nat.shiftLeft_add_eq_or_of_lt (i:=8) e a
  grind [Nat.shiftLeft_eq]
 rw [<- c]
 exact u16_or_nat _ b U U)
end
theorem Gp(x)(h:k < 32):(fP x)[k]?=some ((fP x).getD k 0):=by
 grind [uO]
theorem LV(t n s):sV t (BT.new n s)=kH t n s:=by
 unfold sV kH
 rw [zB]
 rfl
theorem VA(A c bs w)(d:Rf [] w (eG))(i:Rf [] w (λw=>aI w A (B8 bs)))(g:bs.length<=c)(h:bs.length<=549755813888):
  Θ 109 #[(V A bs c)] w λe j=>e = .returned (vS (fP bs))/\aN [] w [] j:=by
 refine eO Tryz.func109 10 (B3 w) rfl<|Nc<|G rfl<|Nb<|R<|gT (λw a=>Vv  w (d.aX a)) λf=>G I<|Nb<|G rfl<|R<|eF [0] (λw a b=>Vw f [] A c bs w b (d.bJ a [0]) (i.bJ a [0]) U (by grind))<|Nb<|G rfl<|R<|eF [0] (λw a b=>Vx f ([]++bs) w b (d.bJ a [0]) (by grind))<|G rfl<|Nd<|sN [(vS (fP ([]++bs)))] λw a=>?_
 exact ⟨I,(a.pick [] I I)⟩
theorem VB(v w)(c:v < 65536):
  Θ 110 #[(.int .u16 ((v:Nat):Int))] w λe a=>e = .returned (Y (16 - Lib.bitLen v))/\aN [] w [] a:=by
 have h:=Tryz.bits_LeadingZeros16 ((v:Nat):Int) w (by omega) (by omega)
 refine h.mono ?_
 rintro e a ⟨rfl,rfl⟩
 have b:=Lib.bitLen_le v 16 (by omega) (by omega)
 refine ⟨?_,Mm.start _ []⟩
 show Ending.returned (.int .i64 _)=Ending.returned (.int .i64 _)
 rw [k6,Int.ofNat_sub b]
 rfl
theorem VC(x:Γ)(w)(i:Rf [] w (eG))(n:x.length<=1000):
  Θ 61 #[(vS x)] w λe l=>e = .returned (Y (iW x))/\aN [] w [] l:=by
 refine eO Tryz.func61 19 (B3 w) I<|Nc<|G rfl<|Nb<|G rfl<|R<|LU (e:=5) rfl rfl J J J J rfl (λm f d=>R<|bV (λw a=>VA _ f x w (i.aX a) (a.aR (j:=0) I (λ_ h=>EJ h)) U U)<|G I<|Nf ?_)
 have b:=V1 ((fP x).getD 0 0)
 have c:=V1 ((fP x).getD 1 0)
 have g:=Gg x
 refine dN _ 9 J η ?_
 refine am 0 ?_
 refine aV 1 _ I (BY I J I I (Gp x (k:=0) (by decide)))<|aV 2 _ rfl (iQ _ (λ_=>J) I I (by rw [AGa]; omega))<|aV 3 _ I (Vy I I I b)<|am 4 ?_
 refine aV 5 _ I (BY I J I I (Gp x (k:=1) (by decide)))<|aV 6 _ rfl (iQ _ (λ_=>J) I I (by rw [AGa]; omega))<|aV 7 (.int .u16 (((sZ x):Nat))) I (Vz I I I b c)<|aa 8 ?_
 exact cG J<|aJ<|Nc<|G rfl<|R<|bV (λw a=>VB _ w U)<|lw _ (Ce rfl rfl rfl)<|G rfl<|Nd<|sN [_] λw a=>⟨I,(a.pick [] I I)⟩
theorem LW(a A c xs A1 i t w)(f:cC [aD a 175 [(V A (xs) c),(C 0)],cB A (xs) c] w)(j:Rf [aD a 175 [(V A (xs) c),(C 0)],cB A (xs) c] w (λw=>aI w A1 (B8 t)))(l:t.length<=1000000)(m:xs.length<=4293800000):
  Θ 64 #[(Z a 0),(V A1 t i)] w λe k=>∃ (A2:Δ) (g:Nat),e = .returned (.tuple #[])/\aN [aD a 175 [(V A (xs) c),(C 0)],cB A (xs) c] w [aD a 175 [(V A2 (xs++aE t.length++t) g),(C 0)],cB A2 (xs++aE t.length++t) g] k:=by
 refine bS Tryz.func64 22 (f) rfl<|Nc<|G rfl<|M (Z a 0)<|M (Z a 1)<|lL 0 rfl<|lT<|Nt<|aF<|G rfl<|M (Z a 0)<|M (Z a 0)<|lL 0 rfl<|G rfl<|M (B4 t)<|lw (vU t.length) (iQ _ (λ_=>J) I I (kV U U))<|R<|iI [1] (λw b f=>Da A c xs t.length w f U U) λA217 h=>G I<|R<|cL gS 1 (B8 t) rfl rfl J rfl rfl rfl (by simp [B8]) (λw b=>eN.gJ (j.now b)) ((iP _)) (by have:=eY t.length U; grind) ((xs++aE t.length++t).length) dV (B8 (xs++aE t.length++t)) (by simp [B8]) (λA19 d=>M (Z a 0)<|M (Z a 0)<|R ?_)
 exact pS 0 I<|aO<|nF [] rfl trivial (λw b=>⟨A19,d,I,b⟩)
theorem Gq(A c xs n w)(i:Rf [] w (λw=>aI w A (B8 xs)))(k:n < 18446744073709551616)(l:xs.length<=4294900000):
  Θ 59 #[(V A xs c),(.int .u64 ((n:Nat):Int))] w λe j=>∃ (A2:Δ) (f:Nat),e = .returned (V A2 (xs++aE n) f)/\aN [] w [cB A2 (xs++aE n) f] j:=by
 have _u0:=i
 have _u1:=k
 have _u2:=l
 clear _u0 _u1 _u2
 refine wG (args:=[(V A xs c),(L6 n)]) (yD []) Tryz.func59 I 13 I [(0,(V A xs c)),(1,(L6 n))] ⟨I,I,trivial⟩ [] (B3 w) ?_
 refine aT (aF ?_)
 refine la ?_
 refine aO (aJ (aT (aF ?_)))
 refine lm ?_
 refine lc (B4 xs) ?_
 refine lv (v:=(Y (xs.length+10))) (pZ _ I I I (by omega) (by omega) (by omega)) ?_
 refine li I ?_
 refine CR gS (xs.length+10) (by omega) I I (by kernel_rfl) I I (λm=>?_) (by omega)
 refine lm ?_
 refine li I ?_
 refine cL gS 0 (B8 xs) I I (by kernel_rfl) I I I (by simp [B8]) (λw d=>eN.gJ (i.now d)) ((iP _)) (by omega) ((xs).length) (by first | exact (C3 ..).symm | (simp; done) | (simp; omega)) (B8 (xs)) (by simp [B8]) (λA10 b=>?_)
 refine lm ?_
 refine li I ?_
 refine fT [0] [cB A10 (xs) b] (λw d g=>(Da A10 b xs n w g (by omega) (by omega)).mono ?_)
 rintro e j ⟨A212,a,rfl,h⟩
 refine ⟨_,[cB A212 (xs++aE n) a],_,I,h,I,?_⟩; clear h d g
 refine la ?_
 refine aO (aJ (gW ?_))
 refine dL [(V A212 (xs++aE n) a)] I ⟨I,trivial⟩ (λw d=>?_)
 exact ⟨A212,a,I,d⟩
theorem LZ(A c l w)(a:cC [cS A (l) c] w)(h:l.length<=3072):
  Θ 142 #[(V A l c)] w λe f=>e = .returned (.tuple #[])/\aN [cS A (l) c] w [bI A (SS (dG l))] f:=by
 have j:w.ownsRow 0 9 1 (.slice A l.length c) l.length (l.map aZ):=a.at (i:=0) I
 refine (Au j I h).mono ?_
 rintro e f ⟨rfl,g,k⟩
 exact ⟨I,a.swap 0 I (c':=bI A (SS (dG l))) (by cases A <;> exact g) k (λb d=>.inl (by simp only [bI] at d; split at d <;> simp_all [bD])) (by simp only [bI]; split <;> simp [uT])⟩
theorem Gr(A c l)(n:Nat)(w)(q:Rf [] w (eG))(r:Rf [] w (λw=>aI w A (SS l)))(y:fI (n:Int)=true)(h:∀ x∈l,x.length=32)(u:l.length<=68719476736):
  Θ 132 #[(V A l c),(Y n)] w λe s=>∃ (X:TX),e = .returned (.tuple #[(Z X.bt 0),(C 0)])/\aN [] w [cT X (fZ l n)] s:=by
 refine bS Tryz.func132 29 (Mm.start w []) rfl<|Nc<|G rfl<|Nb<|G rfl<|R<|gT (λw b=>CD n 0 w ag (by unfold dA; decide)) λX12=>G I<|Ne<|G rfl<|lF<|Nn<|Nc<|G rfl<|M (Y l.length)<|G rfl<|Ng<|sL (λi=>i<=l.length) (λi=>l.length - i) (λi=>[(4,qp),(5,(C 0)),(6,(Z X12.bt 0)),(18,(V A l c)),(19,(Y l.length)),(20,(Y i))]) (λi=>[cT X12 (fZ (l.take i) n)]) 0 (Nat.zero_le _) η ?_
 intro i t
 show St _ _ _ [(4,qp),(5,(C 0)),(6,(Z X12.bt 0)),(18,(V A l c)),(19,(Y l.length)),(20,(Y i))] [cT X12 (fZ (l.take i) n)] _
 refine Nc<|M (G0 i l) ?_
 refine χ I (λg=>?_) λg=>?_
 .have p:i < l.length:=U
  refine Nm<|aF ?_
  obtain ⟨m,a⟩:=gk l i U
  refine St.fC (λw b=>r.now b) (fR a) (λj k d f=>lw (Z j (k+i)) (rR 9 d)<|lW (rW f)<|G rfl<|Nv<|G rfl<|R<|eF [0] (λw b o=>TD X12 (fZ (l.take i) n) m w o (q.bJ b [0]) (h _ (F0 a)))<|Nk<|aF<|lw (Y (i+1)) bN<|G I<|Na ?_)
  rw [show (fZ (l.take i) n).change m 1=fZ (l.take (i+1)) n from by rw [V9,a]; exact (Gi _ _ _).symm]
  exact sA (i+1) oz oz η
 .obtain rfl:i=l.length:=U
  rw [R0]
  exact Nj<|aF<|G rfl<|Nd<|sN [(Z X12.bt 0),(C 0)] λw b=>⟨X12,I,b⟩
theorem VD(X t)(n s:Nat)(w)(c:Rf [] w (λw=>(cT X t).holds w))(g:fI (n:Int)=true)(f:dA s)(b:kH t n s=true):
  Θ 101 #[(Z X.bt 0),(Y n),(.int .u64 (s:Int))] w λe d=>e = .returned bT/\aN [] w [] d:=by
 exact kN Tryz.func101 25 (B3 w) rfl<|Nc<|G rfl<|Nb<|G rfl<|R<|gT (λw a=>CD n s w ag ag) λX12=>G I<|Ne<|G rfl<|lF<|Nn<|aF<|G rfl<|R<|gT (λw a=>CE X t X12 _ w (c.aX a) (a.aR (j:=0) I η) (by rw [LV]; exact b)) λZ20=>G I<|Nb<|G rfl<|lT<|G rfl<|Nd<|sN [bT] λw a=>⟨I,(a.pick [] I I)⟩
theorem VE(X t)(n s:Nat)(w)(c:Rf [] w (λw=>(cT X t).holds w))(g:fI (n:Int)=true)(f:dA s)(b:kH t n s=false):
  Θ 101 #[(Z X.bt 0),(Y n),(.int .u64 (s:Int))] w λe d=>e = .returned bF/\aN [] w [] d:=by
 exact kN Tryz.func101 25 (B3 w) rfl<|Nc<|G rfl<|Nb<|G rfl<|R<|gT (λw a=>CD n s w ag ag) λX12=>G I<|Ne<|G rfl<|lF<|Nn<|aF<|G rfl<|R<|bV (λw a=>TF X t X12 _ w (c.aX a) (a.aR (j:=0) I η) (by rw [LV]; exact b))<|G rfl<|Nb<|G rfl<|lF<|G rfl<|Nd<|sN [bF] λw a=>⟨I,(a.pick [] I I)⟩
theorem Dd(X t)(n s:Nat)(w)(d:Rf [] w (λw=>(cT X t).holds w))(c:fI (n:Int)=true)(b:dA s):
  Θ 101 #[(Z X.bt 0),(Y n),(.int .u64 (s:Int))] w λe a=>e = .returned (.bool (kH t n s))/\aN [] w [] a:=by
 grind [kH,VD,VE]
abbrev C8(a:Nat):Value:=.bool (decide (((a:Nat):Int) < 0))
abbrev K9(a:Nat):Value:=.bool (decide (((a:Nat):Int) > 500))
theorem VF(k n w)(c:500 < k):
  Θ 17 #[(Y k),(Y n)] w λe b=>e = .returned (.tuple #[(C 2),(C 0),(C 0)])/\aN [] w [] b:=by
 exact bS Tryz.func17 20 (B3 w) I<|Nc<|G rfl<|Ne<|G rfl<|M (C8 k)<|G rfl<|St.known 9 (b':=false) rfl si<|G rfl<|lg (C8 n)<|M (C8 n)<|Na<|fD rfl si<|Nl<|Nc<|G rfl<|M (K9 k)<|Na<|lG rfl (by simp; omega)<|Nc<|G rfl<|Nh<|sN [_,_,_] λw a=>⟨I,a⟩
theorem Ma(k n w)(c:k<=500):
  Θ 17 #[(Y k),(Y n)] w λe b=>e = .returned (.tuple #[(C 1),(.int .i64 (kW ((k+k / 2:Nat):Int))),(C 0)])/\aN [] w [] b:=by
 refine bS Tryz.func17 20 (B3 w) I<|Nc<|G I<|Ne<|G I<|M (C8 k)<|G I<|St.known 9 (b':=false) I si<|G I<|lg (C8 n)<|M (C8 n)<|Na<|fD I si<|Nl<|Nc<|G I<|M (K9 k)<|Na<|fD I (by simp; omega)<|Ni<|G I<|lw (Y (k / 2)) (vJ I I I U U)<|lw (Y (k+(k / 2))) bN<|R ?_
 exact bV (λw a=>TE ((k+(k / 2):Nat)) w )<|G rfl<|Nd<|sN [_,_,_] λw a=>⟨I,a⟩
end
section
section
variable {P:Program}{w0:World}{F:List Nat}{E:eH}{cs:List Ch}{o:Oper}
theorem VG{i:Operand}{k:IntKind}{l:Ξ}{j m:Nat}{v:Ω}(d:o.op = .index ty x i)(g:P.underlying ty=some (.array m e))(f:sF P e=true)(a:iL P e=some 1)(n:bA E x=some (.agg l.toArray))(hi:bA E i=some (.int k (j:Int)))(p:j < m)(h:l[j]?=some v):eD P w0 F cs E o v:=λw _=>by
 have b:(sizeOf e).run P w = .ok 1 w:=by
  unfold iL at a
  cases c:P.info? e with
  | none=>grind
  | some t =>
    rw [c] at a
    simp only [k9,V4] at a
    simp only [sizeOf,typeInfo]
    simp [c,a]
 unfold execOp
 simp only [d,cU n,cU hi,Instr.index,asIntOf,P5,T9,J3,X3 g]
 rw [P1 U]
 simp [b,part,Je f w,h,si]
end
abbrev tA:Value:=.pointer none
def eA(Xs:List TX):List Value:=Xs.map λX=>Z X.bt 0
theorem iY(Xs):(eA Xs).length=Xs.length:=by simp [eA]
theorem Mb{X:TX}(h:Xs[k]?=some X):(eA Xs)[k]?=some (Z X.bt 0):=by simp [eA,h]
theorem Gs{X:TX}(h:Xs[k]?=some X):(eA Xs)[0+k]?=some (Z X.bt 0):=by rw [K7]; exact Mb h
theorem xB(Xs):∀ v∈eA Xs,v.oneCell'=true:=by
 intro v a
 obtain ⟨X,_,rfl⟩:=Y9.1 a
 rfl
theorem Mc(X:TX)(a:Xs.length=i)(hi:i < 12):(eA Xs++List.replicate (12 - i) tA).set (0+i) (Z X.bt 0)=eA (Xs++[X])++List.replicate (12 - (i+1)) tA:=by
 subst a
 rw [K7,V3 _ _ (by rw [iY]; exact J7 _),iY,W6,show 12 - Xs.length=(12 - (Xs.length+1))+1 by omega,AA8,Z7]
 simp [eA]
abbrev vO(Xs:List TX):List Nat:=Xs.flatMap λX=>[X.bt,X.bc]
theorem VH(Xs):vO Xs=(Xs.map λX=>cT X (BT.new 0 0)).flatMap Ch.fp:=by
 induction Xs with
 | nil=>rfl
 | cons X Xs a=>simp only [vO,V5,X4] at a ⊢; rw [a]; rfl
def iG(Xs:List TX)(ts:List BT):Ch where
 fp:=vO Xs
 holds w:=Xs.length=ts.length /\ (∀ (k:Nat) (X:TX) (t:BT),Xs[k]?=some X -> ts[k]?=some t -> (cT X t).holds w) /\ (vO Xs).Nodup
 ok w w' hb h:=⟨h.1,λk X t hX ht=>(cT X t).ok w w' (λb hbc=>hb b (List.mem_flatMap.2 ⟨X,List.mem_of_getElem? hX,hbc⟩)) (h.2.1 k X t hX ht),h.2.2⟩
 lt w h b hb:=by
  obtain ⟨X,hX,hbc⟩:=List.mem_flatMap.1 hb
  obtain ⟨k,hk⟩:=List.mem_iff_getElem?.1 hX
  have hlt:=(List.getElem?_eq_some_iff.1 hk).1
  exact (cT X (ts[k]'(by rw [<- h.1]; exact hlt))).lt w (h.2.1 k X _ hk (List.getElem?_eq_getElem _)) b hbc
theorem De{ts:List BT}(h:(iG Xs ts).holds w){X:TX}{t:BT}(a:Xs[k]?=some X)(b:ts[k]?=some t):(cT X t).holds w:=h.2.1 k X t a b
section
variable {w0 w:World}{S:List Nat}{cs:List Ch}{Xs:List TX}{ts:List BT}{X:TX}{t:BT}
theorem Mm.Qh(h:Mm w0 S cs w):Mm w0 S (cs++[iG [] []]) w :=
 h.push (c:=iG [] []) (Fr.refl _ _) ⟨I,si,by simp [vO]⟩ (by simp [iG,vO]) (by simp [iG,vO])
theorem Mm.Qi(h:Mm w0 S (cs++[iG Xs ts,cT X t]) w):Mm w0 S (cs++[iG (Xs++[X]) (ts++[t])]) w:=by
 have e:(cs++[iG (Xs++[X]) (ts++[t])]).flatMap Ch.fp=(cs++[iG Xs ts,cT X t]).flatMap Ch.fp:=by
  simp [iG,vO,mL]
 have i:=h.hold (iG Xs ts) si
 have n:=h.hold (cT X t) si
 refine ⟨h.fr,λc f=>?_,by rw [e]; exact h.nodup,λb o=>h.own b (by rw [<- e]; exact o)⟩
 rcases P7.1 f with f | f
 .exact h.hold c (by simp [f])
 .rw [G2] at f
  subst f
  refine ⟨by simp [i.1],λk a u d g=>?_,?_⟩
  .rcases W4 k Xs.length with j | j
   .rw [R1 j] at d
    rw [R1 (by rw [<- i.1]; exact j)] at g
    exact i.2.1 k a u d g
   .rw [T8 j] at d
    rw [T8 (by rw [<- i.1]; exact j)] at g
    have l:k - Xs.length=0:=by
     have:=(C4.1 d).1
     simp at this
     omega
    rw [l] at d
    rw [<- i.1,l] at g
    simp at d g
    subst d g
    exact n
  .have m:=h.nodup
   rw [<- e,R3,X9] at m
   simpa [iG] using m.2.1
theorem cC.acW{k:Nat}{z:BT}(p:cC [iG Xs ts] w)(q:Xs[k]?=some X)(_:ts[k]?=some t)(s:Fr [X.bc] w w')(o:gF w' X.bt X.bc X.cap X.rest z):aN [iG Xs ts] w [iG Xs (ts.set k z)] w':=by
 have m:(iG Xs ts).holds w:=p.at (i:=0) I
 refine p.swap 0 I (s.mono λb g=>.inl ?_) ⟨by rw [a6]; exact m.1,λj a u r l=>?_,m.2.2⟩ (λb g=>.inl g) m.2.2
 .simp only [G2] at g
  subst g
  exact T5.2 ⟨X,F0 q,si⟩
 .by_cases h:k=j
  .subst h
   have e:a=X:=by grind
   subst e
   have n:k < ts.length:=by grind
   rw [X7 n] at l
   injection l with l
   subst l
   exact o
  .rw [List.getElem?_set_ne h] at l
   have f:=m.2.1 j a u r l
   refine (cT a u).ok w w' (λb g=>s.block b ((cT a u).lt w f b g) λx=>?_) f
   simp only [G2] at x
   subst x
   have y:=m.2.2
   rw [VH] at y
   exact Cd y (c:=cT X (BT.new 0 0)) (d:=cT a (BT.new 0 0)) (by simp [q]) (by simp [r]) h X.bc (by simp [mL]) g
end
def Df(i:Nat):List BT:=(List.range i).map λk=>BT.new 12 (k+1)
theorem VI(i):Df (i+1)=Df i++[BT.new 12 (i+1)]:=by simp [Df,AAi]
end
section
section
variable {P:Program}{w0:World}{F:List Nat}{E:eH}{cs:List Ch}{o:Oper}
theorem Md{a k:Nat}(f:o.op = .binOp .shl ty x y u)(g:bA E x=some (Y a))(i:bA E y=some (Y k))(j:k<=60)(h:a*2 ^ k < 9223372036854775808):eD P w0 F cs E o (Y (a*2 ^ k)):=λw _=>by
 unfold execOp
 have c:((k:Int).toNat)=k:=k6 k
 have d:min k IntKind.i64.bits=k:=Y0 (by show k<=64; omega)
 have e:IntKind.i64.wrap (a*2 ^ k)=((a*2 ^ k:Nat)):=by
  have b:(a:Int)*2 ^ k=((a*2 ^ k:Nat)):=by grind
  rw [b]
  exact qV U U
 simp only [f,cU g,cU i,P5,pY,J3,binOp,Op.shift]
 rw [P4 U,c,d]
 simp only [T9,J3,e]
end
theorem Rd.qS(r:Rd)(most):(r.text most).1.length<=r.D.length:=by
 grind [Rd.text]
theorem VJ{ts e:List BT}(f:oF ts)(g:oF e){t u:BT}(h:ts[k]?=some t)(i:e[k]?=some u):sV t u=true:=by
 obtain ⟨_,a,b⟩:=f k t h
 obtain ⟨_,c,d⟩:=g k u i
 simp [sV,a,b,c,d]
theorem Gt{ts:List BT}{r:Rd}(h:jI (Rd.mk D 0 0 0) 12=(some ts,r)):eS D=if r.end_=0 then some ts else none:=by
 unfold eS
 rw [h]
theorem Me(hi:i<=12)(h:(jI (Rd.mk D 0 0 0) i).1=none):eS D=none:=by
 have c:=LI h (12 - i)
 rw [show i+(12 - i)=12 by omega] at c
 unfold eS
 cases d:jI (Rd.mk D 0 0 0) 12 with
 | mk a b=>rw [d] at c; simp only at c; subst c; rfl
theorem zE{v:Ω}{a:Bool}(h:a=b):Ending.returned (tQ [v,.bool a]) = .returned (.tuple #[v,.bool b]):=by rw [h]; rfl
theorem xC{l:List α}(h:k < l.length):∃ x,l[k]?=some x:=⟨_,E1 h⟩
theorem VK(Xs ts k X t)(key:Γ)(w)(b:cC [iG Xs ts] w)(m:Rf [iG Xs ts] w (eG))(c:Xs[k]?=some X)(d:ts[k]?=some t)(l:key.length=32):
  Θ 62 #[(Z X.bt 0),(vS key)] w λe f=>e = .returned (C 0)/\aN [iG Xs ts] w [iG Xs (ts.set k (t.change key 1))] f:=by
 have g:(iG Xs ts).holds w:=b.at (i:=0) I
 refine (JV X.bt X.bc _ _ t key w m.here (De g c d) l).mono λe f h=>?_
 obtain ⟨rfl,j,a⟩:=h
 exact ⟨I,cC.acW b c d j a⟩
abbrev G8(a:Nat):Value:=.bool (decide (((a:Nat):Int) < 12))
theorem Dg(A c l w)(z:Rf [] w (eG))(H:Rf [] w (λw=>aI w A (SS l)))(s:∀ x∈l,x.length=32)(L:l.length<=68719476736):
  Θ 27 #[(V A l c)] w λe K=>∃ (Xs:List TX),e = .returned (.agg (eA Xs).toArray)/\aN [] w [iG Xs (bO l)] K/\(Xs.length=12):=by
 refine eO Tryz.func27 34 (Mm.start w []) rfl<|Nc<|R<|pA _ λg=>Nb<|R<|pA _ λd=>Ne<|G rfl<|Ng<|St.mem (λw a=>a.Qh)<|sL (λ(i,Xs)=>i<=12/\Xs.length=i) (λ(i,Xs)=>12 - i) (λ(i,Xs)=>[(0,(V A l c)),(2,(Z g 0)),(3,(Z d 0)),(7,(Y i))]) (λ(i,Xs)=>[aD g 73 [(.pointer none),(.pointer none),(.pointer none),(.pointer none),(.pointer none),(.pointer none),(.pointer none),(.pointer none),(.pointer none),(.pointer none),(.pointer none),(.pointer none)],aD d 73 (eA Xs++List.replicate (12 - i) tA),iG Xs (Df i)]) (0,[]) ⟨U,I⟩ η ?_
 rintro ⟨i,Xs⟩ ⟨D,b⟩
 dsimp only
 refine Nc<|M (G8 i) ?_
 refine aO (aJ (aT (aY I (λf=>?_) (λf=>?_))))
 .have t:=D4 f
  refine Nm<|aF<|G rfl<|Nv<|G rfl<|lw (Y _) bN<|lw (vU (i+1)) (iQ _ (λ_=>J) I I (kV U U))<|R<|gT (λw a=>CD 12 (i+1) w (by decide) (by unfold dA; omega)) λX15=>G I<|lw (Z d _) (nU (e:=71) (m:=12) I J J I I U)<|R<|hZ 1 I I J I I I J I (by simp [eA]; omega) ?_
  dsimp only [aU,List.set,List.cons_append,List.nil_append]
  rw [show (eA Xs++List.replicate _ tA).set _ _=eA _++List.replicate _ tA from Mc X15 b U]
  exact Nk<|aF<|lw (Y (i+1)) bN<|G rfl<|aO (aJ (sA (i+1,Xs++[X15]) (⟨U,by grind⟩) oz (λw a=>by have h:=Mm.Qi (cs:=[_,_]) a; rw [<- VI] at h; grind)))
 .have t:=C7 f
  obtain rfl:i=12:=U
  refine St.mem (λw a=>by rw [X5]; rw [W6,List.replicate_zero,O4] at a; exact a)<|Nj<|Nc<|G rfl<|M (Y l.length)<|G rfl<|Ng<|sL (λi=>i<=l.length) (λi=>l.length - i) (λi=>[(2,(Z g 0)),(3,(Z d 0)),(20,(V A l c)),(21,(Y l.length)),(22,(Y i))]) (λi=>[aD g 73 [qp,qp,qp,qp,qp,qp,qp,qp,qp,qp,qp,qp],aD d 73 (eA Xs),iG Xs (bO (l.take i))]) 0 (G6 _) η ?_
  intro i D
  show St _ _ _ [(2,(Z g 0)),(3,(Z d 0)),(20,(V A l c)),(21,(Y l.length)),(22,(Y i))] [aD g 73 [qp,qp,qp,qp,qp,qp,qp,qp,qp,qp,qp,qp],aD d 73 (eA Xs),iG Xs (bO (l.take i))] _
  refine Nc<|M (G0 i l) ?_
  refine χ I (λp=>?_) λp=>?_
  .have E:i < l.length:=U
   refine Nm<|aF ?_
   obtain ⟨r,q⟩:=gk l i U
   refine St.fC (λw a=>H.now a) (fR q) (λy F j o=>lw (Z y _) (rR 9 j)<|lW (rW o)<|G rfl<|Nv<|G rfl<|R<|bV (λw a=>VC r w (z.aX a) (by grind)) ?_)
   have u:=Gh r
   obtain ⟨XX,n⟩:=xC (l:=Xs) (k:=iW r) U
   refine lw (Z d _) (nU (e:=71) I J J I I U)<|lw _ (bW 1 rfl rfl J rfl (Gs n))<|G rfl<|R<|eF [2] (λw a B=>VK Xs _ _ XX _ r w B (z.bJ a [2]) (n) (wZ u) (s _ (F0 q)))<|Nk ?_
   rw [show (bO _).set _ _=bO (l.take (i+1)) from by grind [List.take_add_one,UP]]
   exact aF<|lw (Y (i+1)) bN<|G I<|aO (aJ (sA _ oz oz η))
  .obtain rfl:i=l.length:=U
   rw [R0]
   refine Nj<|aF<|lw _ (gI _ I I J (by rw [iY,b]; kernel_rfl) (cW (i:=1) I yy))<|R<|dE 0 (eA Xs) I I J I I I (by rw [iY,b]; kernel_rfl) I (by rw [iY,b]; decide) (xB Xs) (by rw [X5,U6,iY,b]; simp) ?_
   exact Nd<|dL [_] rfl ⟨⟨_,rfl,λw a=>dU J (by rw [iY,b]; kernel_rfl) (cW (i:=0) I yy w a)⟩,trivial⟩ (λw a=>⟨Xs,I,(a.pick [2] I I),b⟩)
abbrev S7(a:List TX):Value:=.agg (eA a).toArray
theorem Mf(Xs ts w)(H:Rf [] w (λw=>(iG Xs ts).holds w))(g:oF ts)(O:ts.length=12)(Xl:Xs.length=12):
  Θ 28 #[(.agg (eA Xs).toArray)] w λe L=>∃ (A:Δ) (c:Nat),e = .returned (V A (cH ts) c)/\aN [] w [cB A (cH ts) c] L:=by
 refine eO Tryz.func28 24 (B3 w) rfl<|Nc<|R<|pB _ λz=>G I<|Nb<|R<|gT (λw d=>Db  w ) λb=>G I<|Nf<|aT<|St.mem (λw d=>d.gB 5 1) ?_
 dsimp only [aU,List.set,List.cons_append,List.nil_append]
 refine aF<|lw _ (gI _ rfl rfl J (by rw [iY,Xl]; kernel_rfl) (cW (i:=0) rfl (λj v D=>by rw [K7]; exact D)))<|G rfl<|Ng<|sL (λ(i,AX,m)=>i<=12) (λ(i,AX,m)=>12 - i) (λ(i,AX,m)=>[(2,nS),(3,(Z b 0)),(9,(S7 Xs)),(10,(Y i))]) (λ(i,AX,m)=>[aD z 73 (eA Xs),aD b 175 [(V AX (cH (ts.take i)) m),(C 0)],cB AX (cH (ts.take i)) m]) (0,none,0) (G6 _) η ?_
 rintro ⟨i,AX,m⟩ (N:i<=12)
 dsimp only
 refine Nc<|M (G8 i) ?_
 refine aO (aJ (aT (aY I (λa=>?_) (λa=>?_))))
 .have p:=D4 a
  have u:i < 12:=U
  obtain ⟨XX,o⟩:=xC (l:=Xs) (k:=i) U
  obtain ⟨q,f⟩:=xC (l:=ts) (k:=i) U
  have K:=H.imp (λ_ h=>De h o f)
  have x:=rJ (ts:=ts.take i) (λt E=>g.all t (l9 E))
  have F:(ts.take i).length<=12:=by grind
  have B:=CY (g i q f).1 (g i q f).2.1
  refine Nm<|aF<|lw _ (VG (e:=71) rfl J J J rfl rfl u (Mb o))<|G rfl<|Nv<|G rfl<|R<|dC (λw d=>KR XX q w (K.aX d)) λA15 r=>R<|iT [1,2] (λw d s=>LW b AX m _ A15 r _ w s (d.fX [1,2] (j:=3) I (λ_ h=>aI.bM h)) U U) λA216 n=>Nk ?_
  rw [show (cH _)++aE _++q.enc=cH (ts.take _) from by rw [V9,f,Option.toList_some,CZ,D1]; rfl]
  exact aF<|lw (Y (i+1)) bN<|G I<|aO (aJ (sA (i+1,A216,n) oz oz (κ [0,1,2] I I)))
 .have p:=C7 a
  obtain rfl:i=12:=U
  rw [show ts.take 12=ts from by grind]
  have x:=rJ g.all
  exact Nj<|aF<|G rfl<|R<|iT [1,2] (λw d s=>Dc b AX m _ w s U) λA220 y=>G I<|Nb<|G rfl<|Nd<|sN [_] λw d=>⟨_,_,I,(d.pick [3] I I)⟩
abbrev R7:Value:=.agg #[qp,qp,qp,qp,qp,qp,qp,qp,qp,qp,qp,qp]
abbrev C6:Value:=.pointer none
abbrev N5:List Value:=[C6,C6,C6,C6,C6,C6,C6,C6,C6,C6,C6,C6]
abbrev E6:=[qp,qp,qp,qp,qp,qp,qp,qp,qp,qp,qp,qp]
abbrev T3(a:Rd):Value:=.bool ((a.end_:Int) == 0)
theorem Ba(A c D w)(r0:Rf [] w (λw=>aI w A (B8 D)))(hD:D.length<=4294967296):
  Θ 54 #[(V A D c)] w λe w'=>∃ (cl:Ξ) (Xs:List TX) (ts:List BT),e = .returned (.tuple #[(.agg (cl).toArray),(.bool (eS D).isSome)])/\aN [] w [iG Xs ts] w'/\(∀ us,eS D=some us->us=ts/\cl=eA Xs/\Xs.length=12)/\(cl.length=12/\∀ v∈cl,v.oneCell'=true):=by
 refine eO Tryz.func54 47 (B3 w) rfl<|Nc<|R<|pA _ λb2=>G rfl<|Nb<|R<|pA _ λb4=>Nb<|G rfl<|R<|dC (λw hM=>qK A c D w (r0.aX hM) (hD)) λX12 br12=>G rfl<|Ne<|G rfl<|Ng<|St.mem (λw hM=>hM.Qh)<|sL (λ(i,Xs,ts,r1)=>i<=12/\Xs.length=i/\jI (Rd.mk D 0 0 0) i=(some ts,r1)) (λ(i,Xs,ts,r1)=>12 - i) (λ(i,Xs,ts,r1)=>[(2,(Z b2 0)),(3,bF),(4,(Z b4 0)),(5,(Z br12 0)),(13,(Y i))]) (λ(i,Xs,ts,r1)=>[aD b2 73 [(.pointer none),(.pointer none),(.pointer none),(.pointer none),(.pointer none),(.pointer none),(.pointer none),(.pointer none),(.pointer none),(.pointer none),(.pointer none),(.pointer none)],aD b4 73 (eA Xs++List.replicate (12 - i) tA),bH X12 br12 (r1),iG Xs ts]) (0,[],[],(Rd.mk D 0 0 0)) ⟨U,rfl,rfl⟩ η ?_
 rintro ⟨i,Xs,ts,r1⟩ ⟨hi,hXl,hrd⟩
 dsimp only
 refine Nc<|M (G8 i) ?_
 refine aO (aJ (aT (aY rfl (λhc14=>?_) (λhc14=>?_))))
 .have hd14:=D4 hc14
  have hlt:i < 12:=U
  refine St.fact (λw hM=>(hM.at (i:=2) rfl).2.len) (λhrl=>Nm<|aF<|G rfl<|Nf ?_)
  cases hdc:eZ r1.rest.1 with
  | none =>
    refine aF<|G rfl<|R<|eF [2] (λw hM hO=>oD X12 br12 r1 w hO)<|R<|iI [2] (λw hM hO=>qL X12 br12 r1 (r1.D.length - r1.off) w hO U) λB20 cb20=>?_
    rw [show r1.text _=r1.rest from rfl]
    refine R<|bV (λw hM=>KU B20 cb20 r1.rest.1 w (hM.aR (j:=4) rfl (λ_ h=>aI.bM h)) (by have h9:=r1.qS (r1.D.length - r1.off); unfold Rd.rest; omega) ag)<|G rfl<|Ne<|G rfl<|lT<|G rfl<|lT<|No<|M R7<|R<|pT 0 N5 rfl<|G rfl<|Nq<|cJ ?_
    have hn:eS D=none:=Me U (LH hrd (.inl hdc))
    exact dL [_,bF] rfl ⟨rz 0 rfl,rfl,trivial⟩ (λw hM=>⟨_,Xs,ts,zE (by grind),(hM.pick [3] rfl rfl),λus h=>by grind,⟨rfl,by simp [Value.oneCell']⟩⟩)
  | some t =>
    refine aF<|G rfl<|R<|eF [2] (λw hM hO=>oD X12 br12 r1 w hO)<|R<|iI [2] (λw hM hO=>qL X12 br12 r1 (r1.D.length - r1.off) w hO U) λB20 cb20=>?_
    rw [show r1.text _=r1.rest from rfl]
    refine R<|gT (λw hM=>CF B20 cb20 _ t w (hM.aR (j:=4) rfl (λ_ h=>aI.bM h)) (by have h9:=r1.qS (r1.D.length - r1.off); unfold Rd.rest; omega) ag) λX21=>G rfl<|Ne<|G rfl<|lF<|G rfl<|lu (Y (i+1)) (pZ _ rfl rfl rfl U U U)<|lu (vU (i+1)) (iQ _ (λ_=>J) rfl rfl (kV U U))<|dP rfl rfl<|bV (λw hM=>Dd X21 t 12 (i+1) w (hM.aR (j:=5) rfl η) (by decide) (by unfold dA; omega))<|lg (.bool (!(kH t 12 (i+1))))<|M (.bool (!(kH t 12 (i+1)))) ?_
    refine qi rfl (λhc33=>?_) λhc33=>?_
    .refine aT ?_
     refine xd ?_
     refine aF<|M R7<|R<|zu 0 rfl<|G rfl<|Nq<|cJ ?_
     have hn:eS D=none:=Me U (LH hrd (.inr ⟨t,hdc,by grind⟩))
     exact dL [_,bF] rfl ⟨rz 0 rfl,rfl,trivial⟩ (λw hM=>⟨_,Xs,ts,zE (by grind),(hM.pick [3] rfl rfl),λus h=>by grind,⟨rfl,by simp [Value.oneCell']⟩⟩)
    .refine gL<|aJ<|aF<|G rfl<|lw (Z b4 _) (nU (e:=71) rfl J J rfl rfl U)<|R<|qs 1 rfl (by simp [eA]; omega) ?_
     refine xd ?_
     rw [show (eA Xs++List.replicate _ tA).set _ _=eA _++List.replicate _ tA from Mc X21 hXl U]
     exact Nk<|aF<|lw (Y (i+1)) bN<|G rfl<|aO (aJ (sA (i+1,Xs++[X21],ts++[t],r1.rest.2) (⟨U,by grind,LG hrd hdc (su hc33)⟩) oz (λw hM=>Mm.Qi (cs:=[_,_,_]) (hM.pick [0,1,2,3,5] rfl rfl))))
 .have hd14:=C7 hc14
  obtain rfl:i=12:=U
  refine St.mem (cs':=[aD b2 73 E6,aD b4 73 _,bH X12 br12 (r1),iG Xs ts]) (λw hM=>by grind)<|Nj<|aF<|G rfl<|R<|eF [2] (λw hM hO=>mO X12 br12 r1 w hO)<|G rfl<|Nb<|lw _ (gI _ rfl rfl J (by rw [iY,hXl]; kernel_rfl) (cW (i:=1) rfl yy))<|G rfl<|M (T3 r1)<|R<|dE 0 (eA Xs) rfl rfl J rfl rfl rfl (by rw [iY,hXl]; kernel_rfl) rfl (by rw [iY,hXl]; decide) (xB Xs) (by rw [X5,U6,iY,hXl]; simp) ?_
  exact G rfl<|Nd<|dL [_,_] rfl ⟨⟨_,rfl,λw hM=>dU J (by rw [iY,hXl]; kernel_rfl) (cW (i:=0) rfl yy w hM)⟩,rfl,trivial⟩ (λw hM=>⟨_,Xs,ts,zE (by grind [Gt]),(hM.pick [3] rfl rfl),λus h=>by (rw [Gt hrd] at h; grind),⟨by rw [iY,hXl],xB Xs⟩⟩)
theorem Gu(Xs ts Ys us w)(r0:Rf [] w (eG))(r1:Rf [] w (λw=>(iG Xs ts).holds w))(r2:Rf [] w (λw=>(iG Ys us).holds w))(okt:oF ts)(tl:ts.length=12)(Xl:Xs.length=12)(oku:oF us)(ul:us.length=12)(Yl:Ys.length=12):
  Θ 55 #[(.agg (eA Xs).toArray),(.agg (eA Ys).toArray)] w λe w'=>e = .returned (Y (iA ts us))/\aN [] w [] w':=by
 refine wG (yD []) Tryz.func55 rfl 53 rfl [(0,(.agg _)),(1,(.agg _))] ⟨rfl,rfl,trivial⟩ [] (B3 w)<|Nc<|R<|Ez _ rfl rfl J rfl rfl (λb2=>?_)
 refine R<|Ez _ rfl rfl J rfl rfl (λb3=>?_)
 refine G I<|Nb<|G rfl<|Ne<|G rfl<|Ng<|yB (ι:=Nat × Int × Nat) (λ(p,z,s)=>p<=12/\z=p - 1/\rK ts us p s=iA ts us/\s<=(12 - p)*24) (λ(p,z,s)=>p) (λ(p,z,s)=>[(2,(Z b2 0)),(3,(Z b3 0)),(4,(C 0)),(5,(Y s)),(6,(C z))]) (λ(p,z,s)=>[aD b2 73 (eA Xs),aD b3 73 (eA Ys)]) (12,11,0) ⟨U,I,I,U⟩ ⟨I,I,I,I,I,trivial⟩ (λw hM=>by grind) ?_
 rintro ⟨p,z,s⟩ ⟨hp,hz,hes,hsb⟩
 show St _ _ _ [(2,(Z b2 0)),(3,(Z b3 0)),(4,(C 0)),(5,(Y s)),(6,(C z))] [aD b2 73 (eA Xs),aD b3 73 (eA Ys)] _
 refine Ny<|G I<|M (.bool (decide ((z:Int)>=0))) ?_
 refine ζ I (λhd12=>?_) λhd12=>?_
 .obtain ⟨q,rfl⟩:∃ q,p=q+1:=⟨p - 1,U⟩
  obtain rfl:z=q:=U
  obtain ⟨XX,hXX⟩:=xC (l:=Xs) (k:=q) U
  obtain ⟨tt,htt⟩:=xC (l:=ts) (k:=q) U
  have rtXX:=r1.imp (λ_ h=>De h hXX htt)
  obtain ⟨YY,hYY⟩:=xC (l:=Ys) (k:=q) U
  obtain ⟨uu,huu⟩:=xC (l:=us) (k:=q) U
  have rtYY:=r2.imp (λ_ h=>De h hYY huu)
  have hpw:2 ^ (q+1)<=2 ^ 12:=Y2 U U
  have hml:(s+1)*2 ^ (q+1)<=289*2 ^ 12:=Z9 U hpw
  have hul:uu.cells.length=tt.cells.length:=by rw [(okt q tt htt).2.1,(oku q uu huu).2.1]
  refine Nm<|dN _ 12 J η<|am 0 ?_
  refine aV 1 (Z b2 _) I (nU (e:=71) (m:=12) I J J I I U)<|aV 2 _ I (bW 0 I I J I (Gs hXX))<|am 3 ?_
  refine aV 4 (Z b3 _) I (nU (e:=71) (m:=12) I J J I I U)<|aV 5 _ rfl (bW 1 rfl rfl J rfl (Gs hYY))<|aA 6 rfl<|gT (λw hM=>CE XX tt YY uu w (rtXX.aX hM) (rtYY.aX hM) (VJ okt oku htt huu)) λZ22=>aQ [_,_,_] (κ [0,1] I I) η<|am 7 ?_
  refine aC 8 (Z Z22.bt 0) I<|aC 9 (C 0) I<|aa 10 ?_
  refine aa 11 ?_
  refine cG J<|aJ<|Ny<|G I<|lF<|Nn<|St.to [aD b2 73 (eA Xs),aD b3 73 (eA Ys),cT Z22 (tt.sub uu)] J ?_
  cases hk:(tt.sub uu).keys with
  | none =>
    refine aF<|G rfl<|R<|bV (λw hM=>KT Z22 _ w (r0.aX hM) (hM.aR (j:=2) I η) ag)<|G rfl<|Ne<|G rfl<|lT<|No<|G rfl<|lw (Y (s+1)) (pZ _ rfl rfl rfl U U U)<|G rfl<|lw (Y (q+1)) (pZ _ rfl rfl rfl U U U)<|lw _ (Md rfl rfl rfl U U)<|G rfl<|Nq<|cJ<|dL [(Y _)] rfl ⟨rfl,trivial⟩ (λw hM=>?_)
    rw [<- LM htt huu hk,hes]
    exact ⟨I,(hM.pick [] I I)⟩
  | some p =>
    obtain ⟨kl,km⟩:=p
    have hkl:=vN hk
    rw [mM hul,(okt q tt htt).2.1] at hkl
    have hes2:rK ts us q (s+kl.length+km.length)=iA ts us:=by rw [<- LN htt huu hk]; exact hes
    refine aF<|G rfl<|R<|qZ (λw hM=>FB Z22 _ kl km w (r0.aX hM) (hM.aR (j:=2) I η) ag) λA134 c134 A234 c234=>G I<|Ne<|G I<|lF<|Nu<|gL<|aJ<|aF<|G I<|M (Y kl.length)<|G I<|M (Y km.length)<|lw (Y (kl.length+km.length)) (pZ _ I I I U U U)<|lw (Y (s+kl.length+km.length)) (pZ _ I I I U U U)<|G I<|Nk<|aF<|G I<|lw (.int .i64 _) (jT _ I I I I U U)<|G I ?_
    exact Na<|yC (q,((q:Nat)) - 1,s+kl.length+km.length) (⟨U,rfl,hes2,by omega⟩) oz ⟨rfl,rfl,rfl,rfl,rfl,trivial⟩ (λw hM=>(hM.pick [0,1] I I))
 .obtain rfl:p=0:=U
  have hes0:s=iA ts us:=hes
  refine Nj<|aF<|G rfl<|Nd<|sN [(Y s)] λw hM=>?_
  rw [hes0]
  exact ⟨I,(hM.pick [] I I)⟩
end
theorem VL(A c l w)(i:Rf [] w (eG))(k:Rf [] w (λw=>aI w A (SS l)))(p:l.length<=9223372036854775807)(n:eM l=0)(m:l.length<=1000):
  Θ 20 #[(V A l c)] w λe o=>∃ (A2:Δ) (h:Nat),e = .returned (.tuple #[(V A2 (cH (bO l)) h),(C 0)])/\aN [] w [cB A2 (cH (bO l)) h] o:=by
 refine eO Tryz.func20 17 (B3 w) rfl<|Nc<|G rfl<|Ne<|G rfl<|R<|bV (λw a=>zA A c l w (i.aX a) (k.aX a) U ag U)<|G I<|Nb<|G I<|lF<|Nn ?_
 have f:=(uB n).2
 have g:=f.1
 exact aF<|G rfl<|R<|Ci (λw a=>Dg A c l w (i.aX a) (k.aX a) ag U) λXs15 d=>R<|dC (λw a=>Mf Xs15 (bO l) w (a.aR (j:=0) I η) (nA g) (mA l) (d)) λA16 b=>G I<|Nd<|sN [(V A16 (cH (bO l)) b),(C 0)] λw a=>⟨A16,b,I,(a.pick [1] I I)⟩
theorem VM(A c D A2 q D2 ts n w)(y:Rf [] w (eG))(z:Rf [] w (λw=>aI w A (B8 D)))(B:Rf [] w (λw=>aI w A2 (B8 D2)))(K:D.length<=4294967296)(x:D2.length<=4294967296)(l:eS D=some ts)(m:eS D2=some n):
  Θ 21 #[(V A D c),(V A2 D2 q)] w λe E=>e = .returned (.tuple #[(Y (iA ts n)),(C 0)])/\aN [] w [] E:=by
 refine bS Tryz.func21 26 (B3 w) rfl<|Nc<|G rfl<|Nb<|G rfl<|R<|uX (λw d=>Ba A c D w (z.aX d) U) λr Xs11 t h o=>?_
 obtain ⟨rfl,rfl,a⟩:=h _ l
 have f:(eS D).isSome=true:=by rw [l]; rfl
 refine G I<|R<|pA E6 λF=>R<|dE 1 (eA Xs11) (vs:=(eA Xs11)) I I J I I I (by rw [iY,a]; kernel_rfl) I (by rw [iY,a]; decide) (xB _) (by rw [X5,U6,iY,a]; simp) ?_
 refine G I<|Ne<|G rfl<|M (.bool (!(eS D).isSome))<|Na<|fD rfl (by rw [f]; rfl)<|Ni<|G rfl<|R<|uX (λw d=>Ba A2 q D2 w (B.aX d) U) λs Xs18 u k p=>?_
 obtain ⟨rfl,rfl,b⟩:=k _ m
 have g:(eS D2).isSome=true:=by rw [m]; rfl
 refine G I<|R<|pA E6 λH=>R<|dE 3 (eA Xs18) (vs:=(eA Xs18)) I I J I I I (by rw [iY,b]; kernel_rfl) I (by rw [iY,b]; decide) (xB _) (by rw [X5,U6,iY,b]; simp) ?_
 refine xd ?_
 exact G I<|Ne<|G rfl<|M (.bool (!(eS D2).isSome))<|Na<|fD rfl (by rw [g]; rfl)<|Ni<|lw (S7 Xs11) (gI (eA Xs11) rfl rfl J (by rw [iY,a]; kernel_rfl) (cW (i:=1) rfl yy))<|lw (S7 Xs18) (gI (eA Xs18) rfl rfl J (by rw [iY,b]; kernel_rfl) (cW (i:=3) rfl yy))<|R<|bV (λw d=>Gu Xs11 ts Xs18 n w (y.aX d) (d.aR (j:=0) I η) (d.aR (j:=2) I η) ((oV l).2) ((oV l).1) (a) ((oV m).2) ((oV m).1) (b))<|G rfl<|Nd<|sN [(Y (iA ts n)),(C 0)] λw d=>⟨I,(d.pick [] I I)⟩
theorem VN(bs A c its fan leaf S U A1 u l A2 x m j a N p f O k d w)(hO:cC [aD j 234 [a,(V N (f) p),(V O (d) k)],cS N (f) p,cS O (d) k] w)(r0:Rf [aD j 234 [a,(V N (f) p),(V O (d) k)],cS N (f) p,cS O (d) k] w (jM bs A c its fan leaf S U))(r1:Rf [aD j 234 [a,(V N (f) p),(V O (d) k)],cS N (f) p,cS O (d) k] w (λw=>aI w A1 (SS l)))(r2:Rf [aD j 234 [a,(V N (f) p),(V O (d) k)],cS N (f) p,cS O (d) k] w (λw=>aI w A2 (SS m)))(hs:dD its)(hn:its.length<=1000)(hl:l.length<=4294967296)(hm:m.length<=4294967296)(af:f.length<=68719476736)(ah:d.length<=68719476736)(_:a.oneCell'=true):
  Θ 169 #[(Z bs 0),(.agg #[(V A1 l u),(V A2 m x)]),(Z j 0)] w λe w'=>∃ (N2:Δ) (H:Nat) (O2:Δ) (K:Nat),e = .returned (.tuple #[])/\aN [aD j 234 [a,(V N (f) p),(V O (d) k)],cS N (f) p,cS O (d) k] w [aD j 234 [a,(V N2 (f++aL l its) H),(V O2 (d++fA m its) K)],cS N2 (f++aL l its) H,cS O2 (d++fA m its) K] w':=by
 refine kN Tryz.func169 53 (hO) rfl<|Nc<|R<|pB [(V A1 l u),(V A2 m x)] λt=>Ne<|M (Z t 0)<|lL 3 rfl<|M (Y l.length)<|G rfl<|Ng<|sL (λ(i,N28,b)=>i<=l.length) (λ(i,N28,b)=>l.length - i) (λ(i,N28,b)=>[(0,(Z bs 0)),(2,(Z j 0)),(4,(Z t 0)),(11,(V A1 l u)),(12,(Y l.length)),(13,(Y i))]) (λ(i,N28,b)=>[aD j 234 [a,(V N28 (f++aL (l.take i) its) b),(V O (d) k)],cS N28 (f++aL (l.take i) its) b,cS O (d) k,aD t 249 [(V A1 l u),(V A2 m x)]]) (0,N,p) (G6 _) (λw q=>by show Mm _ _ [aD j 234 [a,(V N (f++aL (l.take 0) its) p),(V O (d) k)],cS N (f++aL (l.take 0) its) p,cS O (d) k,aD t 249 [(V A1 l u),(V A2 m x)]] w; grind [aL]) ?_
 rintro ⟨i,N28,b⟩ (Q:i<=l.length)
 dsimp only
 refine Nc<|M (G0 i l) ?_
 refine χ I (λE=>?_) λE=>?_
 .refine Nm<|aF ?_
  obtain ⟨n,o⟩:=gk l i (by omega)
  refine St.fC (λw q=>r1.now q) (fR o) (λT X y B=>lw (Z T (X+i)) (rR 9 y)<|lW (rW B)<|G rfl<|Nb<|G rfl<|R<|bV (λw q=>FN bs A c its fan leaf S U n w (r0.aX q) ag ag)<|M (.bool (!(its.contains n))) ?_)
  refine qi I (λs=>?_) λs=>?_
  .refine aF<|G rfl<|M (Z j 0)<|M (Z j 1)<|lL 0 rfl<|G rfl<|R<|pN 1 9 [(vS n)] λad=>R<|cL gD 1 ([(vS n)]) rfl rfl J rfl rfl rfl (rfl) (fE (i:=4) rfl yy) (by simp [Value.oneCell']) (by grind [iN]) ((f++aL (l.take i) its++[n]).length) dV (SS (f++aL (l.take i) its++[n])) (by grind) (λA28 L=>M (Z j 0)<|M (Z j 1)<|R<|pS 0 I<|Nk ?_)
   refine xd ?_
   refine aF<|lw (Y (i+1)) bN<|G I<|Na ?_
   rw [show f++aL (l.take i) its++[n]=f++aL (l.take (i+1)) its from by grind [yU]]
   exact sA (i+1,A28,L) oz oz (κ [0,1,2,3] I I)
  .refine Nw<|aF<|lw (Y (i+1)) bN<|G I<|Na ?_
   rw [show f++aL (l.take i) its=f++aL (l.take (i+1)) its from by rw [yV o (su s)]]
   exact sA (i+1,N28,b) oz oz η
 .obtain rfl:i=l.length:=by omega
  rw [R0]
  refine Nj<|aF<|M (Z t 1)<|lL 3 rfl<|M (Y m.length)<|G rfl<|Ng<|sL (λ(i,N49,g)=>i<=m.length) (λ(i,N49,g)=>m.length - i) (λ(i,N49,g)=>[(0,(Z bs 0)),(2,(Z j 0)),(33,(V A2 m x)),(34,(Y m.length)),(35,(Y i))]) (λ(i,N49,g)=>[aD j 234 [a,(V N28 (f++aL l its) b),(V N49 (d++fA (m.take i) its) g)],cS N28 (f++aL l its) b,cS N49 (d++fA (m.take i) its) g,aD t 249 [(V A1 l u),(V A2 m x)]]) (0,O,k) (G6 _) (λw q=>by show Mm _ _ [aD j 234 [a,(V N28 (f++aL l its) b),(V O (d++fA (m.take 0) its) k)],cS N28 (f++aL l its) b,cS O (d++fA (m.take 0) its) k,aD t 249 [(V A1 l u),(V A2 m x)]] w; rw [show d++fA (m.take 0) its=d from O4 _]; exact q) ?_
  rintro ⟨i,N49,g⟩ (Q:i<=m.length)
  dsimp only
  refine Nc<|M (G0 i m) ?_
  refine χ I (λF=>?_) λF=>?_
  .refine Nm<|aF ?_
   obtain ⟨n,o⟩:=gk m i (by omega)
   refine St.fC (λw q=>r2.now q) (fR o) (λW ab z D=>lw (Z W (ab+i)) (rR 9 z)<|lW (rW D)<|G rfl<|Nb<|G rfl<|R<|bV (λw q=>FN bs A c its fan leaf S U n w (r0.aX q) ag ag) ?_)
   refine qi I (λr=>?_) λr=>?_
   .refine aF<|G rfl<|M (Z j 0)<|M (Z j 2)<|lL 0 rfl<|G rfl<|R<|pN 1 9 [(vS n)] λae=>R<|cL gD 2 ([(vS n)]) rfl rfl J rfl rfl rfl (rfl) (fE (i:=4) rfl yy) (by simp [Value.oneCell']) (by have h:=FI (m.take i) its; simp only [C3,I8] at *; omega) ((d++fA (m.take i) its++[n]).length) dV (SS (d++fA (m.take i) its++[n])) (by simp [SS]) (λA49 P=>M (Z j 0)<|M (Z j 2)<|R<|pS 0 I<|Nk ?_)
    refine xd ?_
    refine aF<|lw (Y (i+1)) bN<|G I<|Na ?_
    rw [show d++fA (m.take i) its++[n]=d++fA (m.take (i+1)) its from by rw [D1,Ld o r]]
    exact sA (i+1,A49,P) oz oz (κ [0,1,2,3] I I)
   .refine Nw<|aF<|lw (Y (i+1)) bN<|G I<|Na ?_
    rw [show d++fA (m.take i) its=d++fA (m.take (i+1)) its from by rw [Le o r]]
    exact sA (i+1,N49,g) oz oz η
  .obtain rfl:i=m.length:=by omega
   rw [R0]
   exact Nr<|kL<|nF [] rfl trivial (λw q=>⟨N28,b,N49,g,I,(q.pick [0,1,2] I I)⟩)
abbrev dY:List Bs:=[]
theorem Gv:Ro S w (λw=>aI w A (B8 bG)):=λ_ _ j v a=>by simp [B8,bG] at a
theorem Mg:Ro S w (λw=>aI w A (SS dY)):=λ_ _ j v a=>by simp [dY] at a
def bB(k:Nat)(D:Bs):Bs:=aE k++(aE D.length++D)
theorem VO(l m):(fA l m).length<=l.length:=k8 _ _
theorem VP(x w):
  Θ 178 #[(vS x)] w λe b=>e = .returned bF/\aN [] w [] b:= by
 refine wG (args:=[(vS x)]) (yD []) Tryz.func178 I 6 I [(0,(vS x))] ⟨I,trivial⟩ [] (B3 w) ?_
 refine aT (aF ?_)
 refine la ?_
 refine aO (aJ (aT (aF ?_)))
 refine lm ?_
 refine lm ?_
 refine lv (v:=L9) (gY (qC I I I) (by simp)) ?_
 refine la ?_
 refine aO (aJ (gW ?_))
 refine dL [L9] I ⟨I,trivial⟩ (λw a=>?_)
 exact ⟨I,a⟩
theorem VQ(x w):
  Θ 145 #[(vS x)] w λe b=>e = .returned bF/\aN [] w [] b:= by
 refine wG (args:=[(vS x)]) (yD []) Tryz.func145 I 6 I [(0,(vS x))] ⟨I,trivial⟩ [] (B3 w) ?_
 refine aT (aF ?_)
 refine la ?_
 refine aO (aJ (aT (aF ?_)))
 refine lm ?_
 refine lm ?_
 refine lv (v:=L9) (gY (qC I I I) (by simp)) ?_
 refine la ?_
 refine aO (aJ (gW ?_))
 refine dL [L9] I ⟨I,trivial⟩ (λw a=>?_)
 exact ⟨I,a⟩
theorem VR(x y w):
  Θ 144 #[(vS x),(vS y)] w λe c=>e = .returned (.bool (decide (x < y)))/\aN [] w [] c:= by
 refine wG (args:=[(vS x),(vS y)]) (yD []) Tryz.func144 I 17 I [(0,(vS x)),(1,(vS y))] ⟨I,I,trivial⟩ [] (B3 w) ?_
 refine aT (aF ?_)
 refine la ?_
 refine aO (aJ (aT (aF ?_)))
 refine lm ?_
 refine li I ?_
 refine iR (λw a=>(VP x w ).mono ?_)
 rintro e c ⟨rfl,b⟩
 refine ⟨_,_,I,b,?_⟩; clear b a
 refine lm ?_
 refine lnF ?_
 refine lnF ?_
 refine lnF ?_
 refine lc L9 ?_
 refine lm ?_
 refine uW ?_
 refine uW ?_
 refine Jo (v:=(.bool (decide (x < y)))) (wL I I I) ?_
 refine lc (.bool (decide (x < y))) ?_
 refine la ?_
 refine aO (aJ (gW ?_))
 refine dL [(.bool (decide (x < y)))] I ⟨I,trivial⟩ (λw a=>?_)
 exact ⟨I,a⟩
theorem Dh(A c l x w)(B:Rf [] w (λw=>aI w A (SS l)))(u:l.Pairwise (· < ·))(S:l.length<=68719476736):
  Θ 97 #[(V A l c),(vS x)] w λe O=>e = .returned (.tuple #[(Y (bX l x)),(.bool (l.contains x))])/\aN [] w [] O:=by
 refine bS Tryz.func97 54 (B3 w) rfl<|Nc<|G rfl<|Nb<|G rfl<|M (Y l.length)<|G rfl<|Nb<|G rfl<|Nf<|fY<|sL (λ(i,j)=>i<=j/\j<=l.length/\mZ (rF l x) i j=mZ (rF l x) 0 l.length) (λ(i,j)=>j - i) (λ(i,j)=>[(0,(V A l c)),(1,(vS x)),(4,(C 0)),(5,bF),(6,(Y l.length)),(7,(Y i)),(8,(Y j))]) (λ(i,j)=>[]) (0,l.length) ⟨G6 _,J7 _,I⟩ η ?_
 rintro ⟨i,j⟩ ⟨P,Q,E⟩
 dsimp only
 refine Ny<|G I<|M (qb i j) ?_
 refine ζ I (λp=>?_) λp=>?_
 .have F:i < j:=U
  refine gL<|aJ<|fY<|Nc<|G rfl<|lw (Y _) bN<|lw (vU (i+j)) (iQ _ (λ_=>J) I I (kV U U))<|lw (vU _) (Jr rfl rfl rfl)<|lw (Y _) (iQ _ (λ_=>J) I I (qV U U))<|G I<|Nb<|G I ?_
  obtain ⟨D,d⟩:=gk l ((i+j) / 2) U
  refine St.fC (λw b=>B.now b) (fR d) (λy K g m=>lw (Z y _) (rR 9 g)<|lW (rW m)<|G rfl<|R<|bV (λw b=>VR D x w ) ?_)
  refine ζ I (λq=>?_) λq=>?_
  .refine aF<|G I<|lw (Y (((i+j) / 2)+1)) bN<|G I<|Nk<|sA (((i+j) / 2)+1,j) (by refine ⟨U,U,?_⟩; grind [uD,AI]) (by omega) η
  .refine aF<|G I<|Nk<|sA (i,((i+j) / 2)) (by refine ⟨U,U,?_⟩; grind [AH,uD]) (by show ((i+j) / 2) - i < j - i; omega) η
 .have t:i=bX l x:=by rw [<- CJ u,<- E,CI U]
  subst t
  refine Nj<|aF<|G I<|M (.bool (decide ((((bX l x):Nat):Int) < ((l.length:Nat):Int))))<|lm ?_
  refine St.dec 35 I (λf=>?_) (λf=>?_)
  .have r:=D4 f
   refine G I ?_
   obtain ⟨D,d⟩:=gk l (bX l x) U
   refine St.fC (λw b=>B.now b) (fR d) (λz L h n=>lu (Z z _) (qF (e:=9) I J J I I h U)<|lu _ (gN I I J n)<|G I<|lu _ (lQ I I I)<|uW ?_)
   refine St.dec 42 I (λa=>?_) (λa=>?_)
   .have s:=D4 a
    refine G I<|lR ?_
    refine lR ?_
    exact G I<|lg bT<|lT<|G rfl<|Nd<|sN [_,bT] λw b=>⟨zE (by rw [AL u,d]; simpa using a),b⟩
   .have s:=C7 a
    exact G I<|St.fC (λw b=>B.now b) (fR d) (λH N k o=>lu _ (qF (e:=9) I J J I I k U)<|lu _ (gN rfl rfl J o)<|dP rfl rfl<|bV (λw b=>VQ D w )<|G rfl<|lg bF<|lg bF<|lF<|G rfl<|Nd<|sN [_,bF] λw b=>⟨zE (by rw [AL u,d]; simpa using a),b⟩)
  .have r:=C7 f
   refine G I<|lR ?_
   iterate 8 refine lR ?_
   refine G I<|lF<|G rfl<|Nd<|sN [_,bF] λw b=>⟨zE (by rw [AL u,Y7 U]; rfl),b⟩
theorem VS(A c l g)(caps:Ξ)(p w)(x:Rf [] w (λw=>aI w A (SS l)))(D:l.length<=68719476736)(s:∀ args w,(callFunc g args).run Tryz.prog w = .ok (.enter g args) w)(t:∀ y∈l,∀ b,Fr [] w b->Θ g (#[.string (bL y)]++caps.toArray) b λe q=>e = .returned (.bool (p y))/\Fr [] b q):
  Θ 194 #[(V A l c),(.func (.func g) #[] caps.toArray)] w λe b=>∃ (z:Int),e = .returned (C z)/\aN [] w [] b/\(decide (z>=0)=l.any p):=by
 refine bS Tryz.func194 19 (Mm.start w []) rfl<|Nc<|G rfl<|Ne<|G rfl<|M (Y l.length)<|G rfl<|Ng<|sL (λi=>i<=l.length/\(l.take i).any p=false) (λi=>l.length - i) (λi=>[(0,(V A l c)),(1,(.func (.func g) #[] caps.toArray)),(4,(C 0)),(7,(Y l.length)),(8,(Y i))]) (λi=>[]) 0 ⟨G6 _,I⟩ η ?_
 rintro i ⟨E,u⟩
 show St _ _ _ [(0,(V A l c)),(1,(.func (.func g) #[] caps.toArray)),(4,(C 0)),(7,(Y l.length)),(8,(Y i))] [] _
 refine Nc<|M (G0 i l) ?_
 refine χ I (λm=>?_) λm=>?_
 .refine Nm<|aF<|G I<|Nb<|G I ?_
  obtain ⟨B,k⟩:=gk l i U
  refine St.fC (λw a=>x.now a) (fR k) (λn o d h=>lw (Z n (o+i)) (rR 9 d)<|lW (rW h)<|R<|EK (f:=g) (caps:=caps.toArray) rfl rfl rfl s (λw a=>(t B (F0 k) w a.fr).mono ?_))
  rintro e b ⟨rfl,r⟩
  refine ⟨_,[],I,Mm.rT r,?_⟩; clear r a
  refine qi I (λj=>?_) λj=>?_
  .exact Nc<|G rfl<|Nd<|eL<|cJ<|cJ<|eL<|cJ<|sN [(Y i)] λw a=>⟨_,I,a,by grind⟩
  .exact Nw<|aF<|lw (Y (i+1)) bN<|G I<|aO (aJ (sA (i+1) (⟨U,by grind [List.take_add_one]⟩) oz η))
 .refine Nj<|aF<|G rfl<|Nd<|sN [(C (-1))] λw a=>?_
  obtain rfl:i=l.length:=U
  rw [R0] at u
  exact ⟨_,I,a,by grind⟩
theorem Mh(A c l g)(caps:Ξ)(p w)(r0:Rf [] w (λw=>aI w A (SS l)))(hl:l.length<=68719476736)(eg:∀ args w,(callFunc g args).run Tryz.prog w = .ok (.enter g args) w)(hc:∀ y∈l,∀ w',Fr [] w w'->Θ g (#[.string (bL y)]++caps.toArray) w' λe w''=>e = .returned (.bool (p y))/\Fr [] w' w''):
  Θ 173 #[(V A l c),(.func (.func g) #[] caps.toArray)] w λe w'=>e = .returned (.bool (l.any p))/\aN [] w [] w':=by
 exact bS Tryz.func173 9 (B3 w) rfl<|Nc<|G rfl<|Nb<|G rfl<|R<|Ci (λw hM=>VS A c l g caps p w (r0.aX hM) U (eg) (λy hy w' hf=>hc y hy w' (hM.fr.trans hf))) λz7 heq7=>M (.bool (decide ((z7:Int)>=0)))<|G rfl<|Nd<|sN [_] λw hM=>⟨by rw [<- heq7]; rfl,hM⟩
theorem Mi(x d bs A c its i j k l m n o p q b w)(f:Rf [] w (λw=>At w d 26 [(Z bs 0)]))(g:Rf [] w (λw=>At w bs 68 [(V A its c),i,j,k,l,m,n,o,p,q,b]))(h:Rf [] w (λw=>aI w A (SS its)))(t:its.Pairwise (· < ·))(s:its.length<=68719476736):
  Θ 172 #[(vS x),(Z d 0)] w λe r=>e = .returned (.bool (its.contains x))/\aN [] w [] r:=by
 exact bS Tryz.func172 16 (B3 w) rfl<|Nc<|G rfl<|Nb<|lW (rW (λw a=>At.cell (f.now a) 0))<|M (Z bs 0)<|M (Z bs 0)<|lW (rW (λw a=>At.cell (g.now a) 0))<|G rfl<|R<|bV (λw a=>Dh A c its x w (h.aX a) ag U)<|G rfl<|Nb<|G rfl<|Nd<|sN [_] λw a=>⟨I,a⟩
theorem VT(x g d bs A c its i j k l m n o p q b w)(u:Rf [] w (λw=>At w g 211 [(.func (.func 172) #[] #[(Z d 0)])]))(y:Rf [] w (λw=>At w d 26 [(Z bs 0)]))(z:Rf [] w (λw=>At w bs 68 [(V A its c),i,j,k,l,m,n,o,p,q,b]))(B:Rf [] w (λw=>aI w A (SS its)))(t:its.Pairwise (· < ·))(s:its.length<=68719476736):
  Θ 174 #[(vS x),(Z g 0)] w λe r=>e = .returned (.bool (!its.contains x))/\aN [] w [] r:=by
 refine bS Tryz.func174 8 (B3 w) rfl<|Nc<|G rfl<|Nb<|lW (rW (λw a=>At.cell (u.now a) 0))<|G rfl<|R<|EK (f:=172) rfl rfl rfl (wM Tryz.func172 J rfl) (λw a=>(Mi x d bs A c its i j k l m n o p q b w (y.aX a) (z.aX a) (B.aX a) t s).mono ?_)
 rintro e r ⟨rfl,h⟩
 refine ⟨_,_,I,h,?_⟩; clear h a
 exact M (.bool (!(its.contains x)))<|G rfl<|Nd<|sN [_] λw a=>⟨I,a⟩
theorem Di(bs A c its l m n o p q r s t d An x needs Ao z offs w)(E:Rf [] w (λw=>At w bs 68 [(V A its c),l,m,n,o,p,q,r,s,t,d]))(F:Rf [] w (λw=>aI w A (SS its)))(N:Rf [] w (λw=>aI w An (SS needs)))(O:Rf [] w (λw=>aI w Ao (SS offs)))(D:its.Pairwise (· < ·))(B:its.length<=68719476736)(H:needs.length<=68719476736)(K:offs.length<=68719476736):
  Θ 140 #[(Z bs 0),(V An needs x),(V Ao offs z)] w λe h=>e = .returned (.bool (iX its needs offs))/\aN [] w [] h:=by
 refine kN Tryz.func140 19 (B3 w) rfl<|Nc<|R<|pB _ λi=>G I<|Nb<|M (.func (.func 172) #[] (M8 i))<|R<|pA [.nilFunc] λk=>R<|pS 1 rfl<|Nb<|G rfl<|lL 1 rfl<|R<|bV (λw a=>Mh An x needs 172 [Z i 0] (λy=>its.contains y) w (N.aX a) U (wM Tryz.func172 J rfl) (λy L h b=>(Mi y i bs A c its l m n o p q r s t d h ((a.aR (j:=0) I η).step b si) ((E.aX a).step b si) ((F.aX a).step b si) D B).mono λe u g=>⟨g.1,g.2.fr⟩))<|M (.bool (!(needs.any (λy=>its.contains y))))<|lm ?_
 refine St.dec 13 I (λf=>?_) (λf=>?_)
 .exact G I<|lg (.func (.func 174) #[] (M8 k))<|dP rfl rfl<|bV (λw a=>Mh Ao z offs 174 [Z k 0] _ w (O.aX a) U (wM Tryz.func174 J rfl) (λy L h b=>(VT y k i bs A c its l m n o p q r s t d h ((a.aR (j:=1) I η).step b si) ((a.aR (j:=0) I η).step b si) ((E.aX a).step b si) ((F.aX a).step b si) D B).mono λe u g=>⟨g.1,g.2.fr⟩))<|lg (.bool (!(offs.any (λy=>!its.contains y))))<|M (.bool (!(offs.any (λy=>!its.contains y))))<|G rfl<|Nd<|sN [(.bool (!(offs.any (λy=>!its.contains y))))] λw a=>⟨gK (by grind [iX]),(a.pick [] I I)⟩
 .exact G I<|lF<|G rfl<|Nd<|sN [bF] λw a=>⟨gK (by grind [iX]),(a.pick [] I I)⟩
theorem Dj(A c l A2 n m w)(x:Rf [] w (λw=>aI w A (SS l)))(y:Rf [] w (λw=>aI w A2 (SS m)))(E:l.length<=68719476736)(t:m.Pairwise (· < ·))(r:m.length<=68719476736):
  Θ 53 #[(V A l c),(V A2 m n)] w λe z=>∃ (B:Δ) (cb:Nat),e = .returned (V B (fA l m) cb)/\aN [] w [cS B (fA l m) cb] z:=by
 refine bS Tryz.func53 29 (B3 w) rfl<|Nc<|G rfl<|Nb<|G rfl<|Ne<|G rfl<|M (Y l.length)<|G rfl<|Ng<|St.mem (λw d=>d.gB 9 1)<|sL (λ(i,B,cb)=>i<=l.length) (λ(i,B,cb)=>l.length - i) (λ(i,B,cb)=>[(1,(V A2 m n)),(4,nS),(10,(V A l c)),(11,(Y l.length)),(5,(V B (fA (l.take i) m) cb)),(12,(Y i))]) (λ(i,B,cb)=>[cS B (fA (l.take i) m) cb]) (0,none,0) (G6 _) η ?_
 rintro ⟨i,B,cb⟩ (s:i<=l.length)
 dsimp only
 refine Nc<|M (C5 i l) ?_
 refine aO (aJ (aT (aY I (λa=>?_) (λa=>?_))))
 .have j:=D4 a
  refine Nm<|aF ?_
  obtain ⟨k,f⟩:∃ D,(l)[i]?=some D:=⟨_,E1 U⟩
  refine St.fC (λw d=>x.now d) (fR f) (λp u g h=>lw (Z p _) (rR 9 g)<|lW (rW h)<|G rfl<|Nb<|G rfl<|R<|bV (λw d=>Dh A2 n m k w (y.aX d) ag U)<|G I<|Nb<|G I ?_)
  refine qi I (λb=>?_) λb=>?_
  .refine aF<|G rfl<|R<|pN 1 9 [(vS k)] λq=>R<|cL gD 0 _ rfl rfl J rfl rfl rfl (rfl) (fE (i:=1) rfl yy) (by simp [Value.oneCell']) (by grind [VO]) ((fA (l.take i) m++[k]).length) dV (SS (fA (l.take i) m++[k])) (by grind) (λA26 o=>G I<|Nk<|aF<|lw (Y (i+1)) bN<|G I<|Na ?_)
   rw [show fA _ m++[k]=fA _ m from Ld f (su b)]
   exact sA (i+1,A26,o) oz oz (κ [0] I I)
  .refine Nw<|aF<|lw (Y (i+1)) bN<|G I<|Na ?_
   rw [show fA _ m=fA _ m from Le f (by simpa using b)]
   exact sA (i+1,B,cb) (by show _<=_; omega) (by show l.length - (i+1) < l.length - i; omega) η
 .have j:=C7 a
  obtain rfl:i=l.length:=U
  rw [R0]
  exact Nj<|aF<|G rfl<|Nd<|sN [_] λw d=>⟨B,cb,I,d⟩
theorem zF(bs b c l m n d f g h i a k A2 n2 j w)(p:cC [aD bs 68 [b,c,l,m,n,d,f,g,h,i,a]] w):
  Θ 25 #[(Z bs 0),(Y k),(.slice A2 (n2) (j))] w λe q=>e = .returned (.tuple #[])/\aN [aD bs 68 [b,c,l,m,n,d,f,g,h,i,a]] w [aD bs 68 [b,c,(C 1),(Y k),(.slice A2 (n2) (j)),d,f,g,h,i,a]] q:=by
 exact kN Tryz.func25 17 (p) rfl<|aF<|G rfl<|M (Z bs 0)<|M (Z bs 2)<|R<|pS 0 rfl<|M (Z bs 0)<|M (Z bs 3)<|R<|pS 0 rfl<|M (Z bs 0)<|M (Z bs 4)<|R<|pS 0 rfl<|aO<|nF [] rfl trivial (λw o=>⟨I,o⟩)
theorem Mj(bs b c d f g h m i n o a A2 n2 j A3 l k w)(q:cC [aD bs 68 [b,c,d,f,g,h,m,i,n,o,a]] w):
  Θ 137 #[(Z bs 0),(.slice A2 (n2) (j)),(.slice A3 (l) (k))] w λe r=>e = .returned (.tuple #[])/\aN [aD bs 68 [b,c,d,f,g,h,m,i,n,o,a]] w [aD bs 68 [b,c,d,f,g,h,bT,i,bT,(.slice A2 (n2) (j)),(.slice A3 (l) (k))]] r:=by
 exact kN Tryz.func137 20 (q) rfl<|aF<|G rfl<|M (Z bs 0)<|M (Z bs 6)<|R<|pS 0 rfl<|M (Z bs 0)<|M (Z bs 8)<|R<|pS 0 rfl<|M (Z bs 0)<|M (Z bs 9)<|R<|pS 0 rfl<|M (Z bs 0)<|M (Z bs 10)<|R<|pS 0 rfl<|aO<|nF [] rfl trivial (λw p=>⟨I,p⟩)
theorem Gw(k A c D w)(m:Rf [] w (λw=>aI w A (B8 D)))(p:k<=100)(o:D.length<=4294000000):
  Θ 26 #[(Y k),(V A D c)] w λe n=>∃ (A2:Δ) (f:Nat),e = .returned (V A2 (bB k D) f)/\aN [] w [cB A2 (bB k D) f] n:=by
 refine bS Tryz.func26 17 (B3 w) rfl<|Nc<|G rfl<|Nb<|G rfl<|lw (vU k) (iQ _ (λ_=>J) I I (kV U U))<|R<|dC (λw a=>Gq none 0 bG k w Gv U (by decide)) λA28 d=>G I<|Nf ?_
 have l:=eY k U
 refine aF<|G rfl<|M (B4 D)<|lw (vU D.length) (iQ _ (λ_=>J) I I (kV U U))<|R<|dC (λw a=>Gq A28 d (bG++aE k) D.length w (a.aR (j:=0) I (λ_ h=>aI.bM h)) U (by grind)) λA213 g=>G I<|Nf ?_
 have i:=eY D.length U
 refine aF<|G rfl<|R<|cL gS 1 (B8 D) rfl rfl J rfl rfl rfl (by simp [B8]) (λw a=>eN.gJ (m.now a)) ((iP _)) (by grind) (((bG++aE k)++aE D.length++D).length) dV (B8 ((bG++aE k)++aE D.length++D)) (by simp [B8]) (λA16 b=>?_)
 rw [show (bG++aE k)++aE D.length++D=bB k D from by simp [bB,bG]]
 exact G I<|Nd<|sN [(V A16 (bB k D) b)] λw a=>⟨A16,b,I,(a.pick [1] I I)⟩
theorem Dk{M:List (Δ × List Bs)}(h:∀ p∈pvs,∀ q∈p.c.rows,q∈L)(k:∀ q∈pv.c.rows,q∈M):∀ p∈pvs++[pv],∀ q∈p.c.rows,q∈L++M:=by
 grind
abbrev M3(a:List UInt8):Value:=.bool (decide (((a.length:Nat):Int) > 1048576))
abbrev I6(a:Nat):Value:=.bool ((((a:Nat):Int):Int) == 0)
abbrev O8(a b c):=Z a (b+(c - 1)*3)
abbrev E8(a:PV):=[(vS a.lo),(vS a.hi),a.c.val]
theorem VU(A c D w)(r0:Rf [] w (λw=>aI w A (B8 D)))(hD:D.length<=1048576)(hd:iO D=none):
  Θ 166 #[(V A D c)] w λe w'=>e = .returned (.tuple #[nS,(C 3)])/\aN [] w [] w':=by
 refine eO Tryz.func166 74 (B3 w) rfl<|Nc<|G rfl<|Ne<|G rfl<|lk (B4 D)<|lk (M3 D)<|Na<|fD rfl (by grind)<|Ni<|G rfl<|R<|dC (λw b=>qK A c D w (r0.aX b) U) λX16 d=>G I<|Nb<|G rfl<|lk (B4 D)<|R<|iS [0] (λw b hO=>Gm X16 d (Rd.mk D 0 0 0) D.length w hO U) λk x K=>?_
 have ax:k<=D.length:=by have h:=(Rd.mk D 0 0 0).xP D.length; grind
 refine G I<|Ne<|G I<|lk (I6 k) ?_
 refine qi I (λE=>?_) λE=>?_
 .exact Nc<|G rfl<|Nh<|sN [nS,(C 3)] λw b=>⟨I,(b.pick [] I I)⟩
 .have ar:¬ k=0:=oE E
  refine Ni<|G rfl<|Ne<|G rfl<|Ng<|St.mem (λw b=>b.gB 240 3)<|St.mem (λw b=>Mm.tK b)<|sL (λ(i,RX,m,a,z,LX)=>i<=k/\x.parts i=(some (a.map PV.abs),z)/\∀ p∈a,∀ q∈p.c.rows,q∈LX) (λ(i,RX,m,a,z,LX)=>k - i) (λ(i,RX,m,a,z,LX)=>[(2,nS),(3,(C 0)),(4,(Z d 0)),(23,(Y k)),(6,(V RX (a) m)),(24,(Y i))]) (λ(i,RX,m,a,z,LX)=>[bH X16 d (z),cP RX (a) m,dQ (LX)]) (0,none,0,[],x,[]) ⟨G6 _,I,λp hp=>by grind⟩ (λw b=>by show Mm _ _ [bH X16 d (x),bD 240 3 none (([]).length) (0) (PS ([])),dQ ([])] w; exact b) ?_
  rintro ⟨i,RX,m,a,z,LX⟩ ⟨hi,y,u⟩
  dsimp only
  refine Nc<|lk (qb i k) ?_
  refine χ I (λai=>?_) λai=>?_
  .have aw:a.length=i:=by have h:=Rd.DZ y; simpa using h
   refine Nm<|aF<|G rfl<|Nb<|G rfl<|R<|fT [0] _ (λw b hO=>(LR X16 d z w hO).mono ?_)
   rintro e w' ⟨B,L29,Q,g,rfl,hP,t,j,O⟩
   refine ⟨_,[_],_,I,hP,I,?_⟩; clear hP b hO
   refine G I<|R<|pA I9 λb8=>R<|dE 4 (B) (vs:=B) I I J I I I (by rw [j.1]; kernel_rfl) I (by rw [j.1]; decide) j.2 (by rw [j.1]; simp) ?_
   refine G I<|Nf<|aT ?_
   cases an:Q.isSome with
   | true =>
     obtain ⟨S,rfl⟩:=AA7.1 an
     obtain ⟨f,rfl,H,ao⟩:=O S I
     refine xd ?_
     refine dN _ 29 J η<|am 0 ?_
     refine aC 1 bF I<|am 2 ?_
     refine fQ 3 ?_
     refine aG 4 (D0 i) I ?_
     refine fQ 5 ?_
     refine Any.dec 37 I (λr=>?_) (λr=>?_)
     .have aj:=D4 r
      refine fQ 6 ?_
      refine fQ 7 ?_
      refine aW 8 (Q6 i) I (jT _ I I I U U U) ?_
      obtain ⟨o,P⟩:=gk a (i - 1) U
      refine Any.xO (λw b=>oT (i:=1) I w b) P (λT X ad af=>aW 9 (O8 T X i) I (wV (e:=240) I J J I I ad U)<|aG 10 (O8 T X i) I ?_)
      refine aG 11 (Z T (X+(i - 1)*3+1)) I<|aW 12 (vS o.hi) rfl (gN rfl rfl J (λw b=>af w b 1 _ I)) ?_
      refine aW 13 (.bool (decide (o.hi=[]))) I (lQ I I I) ?_
      refine fQ 14 ?_
      refine Any.dec 46 I (λn=>?_) (λn=>?_)
      .have ak:=D4 n
       refine eQ 15 ?_
       refine eQ 16 ?_
       refine eQ 17 ?_
       refine eQ 18 ?_
       refine eQ 19 ?_
       refine eQ 20 ?_
       refine eQ 21 ?_
       refine eQ 22 ?_
       refine eQ 23 ?_
       refine eQ 24 ?_
       refine eQ 25 ?_
       exact aG 26 bT I<|aG 27 bT rfl<|aC 28 bT rfl<|cG J<|aJ<|nR rfl<|Nc<|G rfl<|Nq<|cJ<|sN [nS,(C 3)] λw b=>⟨I,(b.pick [] I I)⟩
      .have ak:=C7 n
       refine fQ 15 ?_
       refine fQ 16 ?_
       refine aW 17 (Q6 i) I (jT _ I I I U U U)<|Any.xO (λw b=>oT (i:=1) I w b) P (λW ab ae ah=>aW 18 (O8 W ab i) I (wV (e:=240) I J J I I ae U)<|aG 19 (O8 W ab i) rfl<|aG 20 (Z W (ab+(i - 1)*3+1)) rfl<|aW 21 (vS o.hi) rfl (gN rfl rfl J (λw b=>ah w b 1 _ I))<|aG 22 (Z b8 0) I<|aG 23 (Z b8 0) I<|aW 24 (vS f.lo) I (bW 4 I I J I I)<|aW 25 (.bool (!(decide (o.hi < f.lo) || decide (o.hi=f.lo)))) I (Cb I I I)<|aG 26 (.bool (!(decide (o.hi < f.lo) || decide (o.hi=f.lo)))) I<|aG 27 (.bool (!(decide (o.hi < f.lo) || decide (o.hi=f.lo)))) I<|aC 28 (.bool (!(decide (o.hi < f.lo) || decide (o.hi=f.lo)))) I<|cG J ?_)
       refine aJ (aY I (λs=>?_) (λs=>?_))
       .exact Nc<|G rfl<|Nq<|cJ<|sN [nS,(C 3)] λw b=>⟨I,(b.pick [] I I)⟩
       .have N:follows (a.map PV.abs) S=true:=by rw [(CT (i:=i - 1) (q:=o.abs) (by rw [U8,P]; rfl) (by rw [K0]; omega))]; rw [wY] at s; rw [<- H]; have e:=C7 n; have e2:=C7 s; simp [PV.abs,e,e2]
        exact gL<|aJ<|aF<|G rfl<|lW (zr 4 rfl)<|R<|pN 1 240 (E8 f) λap=>R<|cL vH 1 ((E8 f)) rfl rfl J rfl rfl rfl (rfl) (fE (i:=5) rfl yy) (PV.one f) U ((a++[f]).length) dV (PS (a++[f])) ((vG _ ([f])).symm) (λA64 l=>G I<|Nk<|aF<|lw (Y (i+1)) bN<|G rfl<|aO (aJ (sA (i+1,A64,l,a++[f],g,LX++L29) (⟨U,by rw [Rd.BL y t N,<- H,U1]; rfl,Dk u ao⟩) oz (λw b=>by show Mm _ _ [bH X16 d (g),cP A64 (a++[f]) l,dQ (LX++L29)] w; exact Mm.join (cs:=[bH X16 d (g),cP A64 (a++[f]) l]) (L:=LX) (M:=L29) ((b.pick [0,1,2,3] I I))))))
     .have aj:=C7 r
      have aq:i=0:=U
      have N:follows (a.map PV.abs) S=true:=by rw [L1 (aw.trans aq)]; rfl
      refine bR 6 ?_
      refine bR 7 ?_
      refine bR 8 ?_
      refine bR 9 ?_
      refine bR 10 ?_
      refine bR 11 ?_
      refine bR 12 ?_
      refine bR 13 ?_
      refine bR 14 ?_
      refine dB 15 ?_
      refine dB 16 ?_
      refine dB 17 ?_
      refine dB 18 ?_
      refine dB 19 ?_
      refine dB 20 ?_
      refine dB 21 ?_
      refine dB 22 ?_
      refine dB 23 ?_
      refine dB 24 ?_
      refine dB 25 ?_
      refine bR 26 ?_
      refine aG 27 bF I<|aC 28 bF rfl<|cG J<|aJ<|oO rfl<|gL<|aJ<|aF<|G rfl<|lW (zr 4 rfl)<|R<|pN 1 240 (E8 f) λap=>R<|cL vH 1 ((E8 f)) rfl rfl J rfl rfl rfl (rfl) (fE (i:=5) rfl yy) (PV.one f) U ((a++[f]).length) dV (PS (a++[f])) ((vG _ ([f])).symm) (λA64 l=>G I<|Nk ?_)
      refine xd ?_
      exact aF<|lw (Y (i+1)) bN<|G rfl<|aO (aJ (sA (i+1,A64,l,a++[f],g,LX++L29) (⟨U,by rw [Rd.BL y t N,<- H,U1]; rfl,Dk u ao⟩) oz (λw b=>by show Mm _ _ [bH X16 d (g),cP A64 (a++[f]) l,dQ (LX++L29)] w; exact Mm.join (cs:=[bH X16 d (g),cP A64 (a++[f]) l]) (L:=LX) (M:=L29) ((b.pick [0,1,2,3] I I)))))
   | false =>
     obtain rfl:Q=none:=by cases Q with | none=>rfl | some _=>cases an
     refine dN _ 29 J η ?_
     refine am 0 ?_
     refine aC 1 bT I ?_
     refine am 2 ?_
     refine eQ 3 ?_
     refine eQ 4 ?_
     refine eQ 5 ?_
     refine dB 6 ?_
     refine dB 7 ?_
     refine dB 8 ?_
     refine dB 9 ?_
     refine dB 10 ?_
     refine dB 11 ?_
     refine dB 12 ?_
     refine dB 13 ?_
     refine dB 14 ?_
     refine dB 15 ?_
     refine dB 16 ?_
     refine dB 17 ?_
     refine dB 18 ?_
     refine dB 19 ?_
     refine dB 20 ?_
     refine dB 21 ?_
     refine dB 22 ?_
     refine dB 23 ?_
     refine dB 24 ?_
     refine dB 25 ?_
     refine dB 26 ?_
     refine eQ 27 ?_
     exact aC 28 bT I<|cG J<|aJ<|nR rfl<|Nc<|G rfl<|Nq<|cJ<|sN [nS,(C 3)] λw b=>⟨I,(b.pick [] I I)⟩
  .obtain rfl:i=k:=U
   refine Nj<|Nc<|G rfl<|R<|eF [0] (λw b hO=>mO X16 d z w hO)<|G I<|Nb<|G I<|lk (.bool ((z.end_:Int) != 0)) ?_
   refine qi I (λF=>?_) λF=>?_
   .exact Nc<|G rfl<|Nh<|sN [nS,(C 3)] λw b=>⟨I,(b.pick [] I I)⟩
   .have au:iO D=some (a.map PV.abs):=Ls K ar y (su F)
    exact Ni<|G rfl<|Nd<|sN [(V RX (a) m),(C 0)] λw b=>absurd (au.symm.trans hd) si
theorem VV(A c D ps w)(r0:Rf [] w (λw=>aI w A (B8 D)))(hD:D.length<=1048576)(hd:iO D=some ps):
  Θ 166 #[(V A D c)] w λe w'=>∃ (a:Δ) (rc:Nat) (b:List PV) (L:List (Δ × List Γ)),e = .returned (.tuple #[(V a (b) rc),(C 0)])/\aN [] w [cP a (b) rc,dQ (L)] w'/\(b.map PV.abs=ps)/\(∀ p∈b,∀ q∈p.c.rows,q∈L):=by
 refine eO Tryz.func166 74 (B3 w) rfl<|Nc<|G rfl<|Ne<|G rfl<|lk (B4 D)<|lk (M3 D)<|Na<|fD rfl (by grind)<|Ni<|G rfl<|R<|dC (λw f=>qK A c D w (r0.aX f) U) λX16 d=>G I<|Nb<|G rfl<|lk (B4 D)<|R<|iS [0] (λw f hO=>Gm X16 d (Rd.mk D 0 0 0) D.length w hO U) λn H g=>?_
 have az:n<=D.length:=by have h:=(Rd.mk D 0 0 0).xP D.length; grind
 refine G I<|Ne<|G I<|lk (I6 n) ?_
 refine qi I (λz=>?_) λz=>?_
 .exact Nc<|G rfl<|Nh<|sN [nS,(C 3)] λw f=>absurd ((Uy g (oU z)).symm.trans hd) si
 .have aw:¬ n=0:=oE z
  refine Ni<|G rfl<|Ne<|G rfl<|Ng<|St.mem (λw f=>f.gB 240 3)<|St.mem (λw f=>Mm.tK f)<|sL (λ(i,RX,t,b,N,LX)=>i<=n/\H.parts i=(some (b.map PV.abs),N)/\∀ p∈b,∀ q∈p.c.rows,q∈LX) (λ(i,RX,t,b,N,LX)=>n - i) (λ(i,RX,t,b,N,LX)=>[(2,nS),(3,(C 0)),(4,(Z d 0)),(23,(Y n)),(6,(V RX (b) t)),(24,(Y i))]) (λ(i,RX,t,b,N,LX)=>[bH X16 d (N),cP RX (b) t,dQ (LX)]) (0,none,0,[],H,[]) ⟨G6 _,I,λp hp=>by grind⟩ (λw f=>by show Mm _ _ [bH X16 d (H),bD 240 3 none (([]).length) (0) (PS ([])),dQ ([])] w; exact f) ?_
  rintro ⟨i,RX,t,b,N,LX⟩ ⟨hi,s,x⟩
  dsimp only
  refine Nc<|lk (qb i n) ?_
  refine χ I (λak=>?_) λak=>?_
  .have S:i < n:=U
   have ay:b.length=i:=by have h:=Rd.DZ s; simpa using h
   refine Nm<|aF<|G rfl<|Nb<|G rfl<|R<|fT [0] _ (λw f hO=>(LR X16 d N w hO).mono ?_)
   rintro e w' ⟨O,L29,T,l,rfl,hP,k,m,Q⟩
   refine ⟨_,[_],_,I,hP,I,?_⟩; clear hP f hO
   refine G I<|R<|pA I9 λb8=>R<|dE 4 (O) (vs:=O) I I J I I I (by rw [m.1]; kernel_rfl) I (by rw [m.1]; decide) m.2 (by rw [m.1]; simp) ?_
   refine G I<|Nf<|aT ?_
   cases ap:T.isSome with
   | true =>
     obtain ⟨W,rfl⟩:=AA7.1 ap
     obtain ⟨j,rfl,K,aq⟩:=Q W I
     refine xd ?_
     refine dN _ 29 J η<|am 0 ?_
     refine aC 1 bF I<|am 2 ?_
     refine fQ 3 ?_
     refine aG 4 (D0 i) I ?_
     refine fQ 5 ?_
     refine Any.dec 37 I (λB=>?_) (λB=>?_)
     .have an:=D4 B
      refine fQ 6 ?_
      refine fQ 7 ?_
      refine aW 8 (Q6 i) I (jT _ I I I U U U) ?_
      obtain ⟨y,F⟩:=gk b (i - 1) U
      refine Any.xO (λw f=>oT (i:=1) I w f) F (λX ad af ai=>aW 9 (O8 X ad i) I (wV (e:=240) I J J I I af U)<|aG 10 (O8 X ad i) I ?_)
      refine aG 11 (Z X (ad+(i - 1)*3+1)) I<|aW 12 (vS y.hi) rfl (gN rfl rfl J (λw f=>ai w f 1 _ I)) ?_
      refine aW 13 (.bool (decide (y.hi=[]))) I (lQ I I I) ?_
      refine fQ 14 ?_
      refine Any.dec 46 I (λo=>?_) (λo=>?_)
      .have ao:=D4 o
       refine eQ 15 ?_
       refine eQ 16 ?_
       refine eQ 17 ?_
       refine eQ 18 ?_
       refine eQ 19 ?_
       refine eQ 20 ?_
       refine eQ 21 ?_
       refine eQ 22 ?_
       refine eQ 23 ?_
       refine eQ 24 ?_
       refine eQ 25 ?_
       refine aG 26 bT I<|aG 27 bT rfl<|aC 28 bT rfl<|cG J<|aJ<|nR rfl<|Nc<|G rfl<|Nq<|cJ<|sN [nS,(C 3)] λw f=>absurd ((FU g (i:=i+1) S (Rd.Qf s k (by rw [(CT (i:=i - 1) (q:=y.abs) (by rw [U8,F]; rfl) (by rw [K0]; omega))]; have e:=D4 o; simp [PV.abs,e]))).symm.trans hd) si
      .have ao:=C7 o
       refine fQ 15 ?_
       refine fQ 16 ?_
       refine aW 17 (Q6 i) I (jT _ I I I U U U)<|Any.xO (λw f=>oT (i:=1) I w f) F (λab ae ah aj=>aW 18 (O8 ab ae i) I (wV (e:=240) I J J I I ah U)<|aG 19 (O8 ab ae i) rfl<|aG 20 (Z ab (ae+(i - 1)*3+1)) rfl<|aW 21 (vS y.hi) rfl (gN rfl rfl J (λw f=>aj w f 1 _ I))<|aG 22 (Z b8 0) I<|aG 23 (Z b8 0) I<|aW 24 (vS j.lo) I (bW 4 I I J I I)<|aW 25 (.bool (!(decide (y.hi < j.lo) || decide (y.hi=j.lo)))) I (Cb I I I)<|aG 26 (.bool (!(decide (y.hi < j.lo) || decide (y.hi=j.lo)))) I<|aG 27 (.bool (!(decide (y.hi < j.lo) || decide (y.hi=j.lo)))) I<|aC 28 (.bool (!(decide (y.hi < j.lo) || decide (y.hi=j.lo)))) I<|cG J ?_)
       refine aJ (aY I (λr=>?_) (λr=>?_))
       .refine Nc<|G rfl<|Nq<|cJ<|sN [nS,(C 3)] λw f=>absurd ((FU g (i:=i+1) S (Rd.Qf s k (by rw [(CT (i:=i - 1) (q:=y.abs) (by rw [U8,F]; rfl) (by rw [K0]; omega))]; rw [wY] at r; rw [<- K]; have e:=D4 r; simp [PV.abs,e]))).symm.trans hd) si
       .have P:follows (b.map PV.abs) W=true:=by rw [(CT (i:=i - 1) (q:=y.abs) (by rw [U8,F]; rfl) (by rw [K0]; omega))]; rw [wY] at r; rw [<- K]; have e:=C7 o; have e2:=C7 r; simp [PV.abs,e,e2]
        exact gL<|aJ<|aF<|G rfl<|lW (zr 4 rfl)<|R<|pN 1 240 (E8 j) λar=>R<|cL vH 1 ((E8 j)) rfl rfl J rfl rfl rfl (rfl) (fE (i:=5) rfl yy) (PV.one j) U ((b++[j]).length) dV (PS (b++[j])) ((vG _ ([j])).symm) (λA64 u=>G I<|Nk<|aF<|lw (Y (i+1)) bN<|G rfl<|aO (aJ (sA (i+1,A64,u,b++[j],l,LX++L29) (⟨U,by rw [Rd.BL s k P,<- K,U1]; rfl,Dk x aq⟩) oz (λw f=>by show Mm _ _ [bH X16 d (l),cP A64 (b++[j]) u,dQ (LX++L29)] w; exact Mm.join (cs:=[bH X16 d (l),cP A64 (b++[j]) u]) (L:=LX) (M:=L29) ((f.pick [0,1,2,3] I I))))))
     .have an:=C7 B
      have au:i=0:=U
      have P:follows (b.map PV.abs) W=true:=by rw [L1 (ay.trans au)]; rfl
      refine bR 6 ?_
      refine bR 7 ?_
      refine bR 8 ?_
      refine bR 9 ?_
      refine bR 10 ?_
      refine bR 11 ?_
      refine bR 12 ?_
      refine bR 13 ?_
      refine bR 14 ?_
      refine dB 15 ?_
      refine dB 16 ?_
      refine dB 17 ?_
      refine dB 18 ?_
      refine dB 19 ?_
      refine dB 20 ?_
      refine dB 21 ?_
      refine dB 22 ?_
      refine dB 23 ?_
      refine dB 24 ?_
      refine dB 25 ?_
      refine bR 26 ?_
      refine aG 27 bF I<|aC 28 bF rfl<|cG J<|aJ<|oO rfl<|gL<|aJ<|aF<|G rfl<|lW (zr 4 rfl)<|R<|pN 1 240 (E8 j) λar=>R<|cL vH 1 ((E8 j)) rfl rfl J rfl rfl rfl (rfl) (fE (i:=5) rfl yy) (PV.one j) U ((b++[j]).length) dV (PS (b++[j])) ((vG _ ([j])).symm) (λA64 u=>G I<|Nk ?_)
      refine xd ?_
      exact aF<|lw (Y (i+1)) bN<|G rfl<|aO (aJ (sA (i+1,A64,u,b++[j],l,LX++L29) (⟨U,by rw [Rd.BL s k P,<- K,U1]; rfl,Dk x aq⟩) oz (λw f=>by show Mm _ _ [bH X16 d (l),cP A64 (b++[j]) u,dQ (LX++L29)] w; exact Mm.join (cs:=[bH X16 d (l),cP A64 (b++[j]) u]) (L:=LX) (M:=L29) ((f.pick [0,1,2,3] I I)))))
   | false =>
     obtain rfl:T=none:=by cases T with | none=>rfl | some _=>cases ap
     refine dN _ 29 J η ?_
     refine am 0 ?_
     refine aC 1 bT I ?_
     refine am 2 ?_
     refine eQ 3 ?_
     refine eQ 4 ?_
     refine eQ 5 ?_
     refine dB 6 ?_
     refine dB 7 ?_
     refine dB 8 ?_
     refine dB 9 ?_
     refine dB 10 ?_
     refine dB 11 ?_
     refine dB 12 ?_
     refine dB 13 ?_
     refine dB 14 ?_
     refine dB 15 ?_
     refine dB 16 ?_
     refine dB 17 ?_
     refine dB 18 ?_
     refine dB 19 ?_
     refine dB 20 ?_
     refine dB 21 ?_
     refine dB 22 ?_
     refine dB 23 ?_
     refine dB 24 ?_
     refine dB 25 ?_
     refine dB 26 ?_
     refine eQ 27 ?_
     exact aC 28 bT I<|cG J<|aJ<|nR rfl<|Nc<|G rfl<|Nq<|cJ<|sN [nS,(C 3)] λw f=>absurd ((FU g (i:=i+1) S (Rd.acT s k)).symm.trans hd) si
  .obtain rfl:i=n:=U
   refine Nj<|Nc<|G rfl<|R<|eF [0] (λw f hO=>mO X16 d N w hO)<|G I<|Nb<|G I<|lk (.bool ((N.end_:Int) != 0)) ?_
   refine qi I (λE=>?_) λE=>?_
   .exact Nc<|G rfl<|Nh<|sN [nS,(C 3)] λw f=>absurd ((Uz g s (su E)).symm.trans hd) si
   .have ax:iO D=some (b.map PV.abs):=Ls g aw s (su E)
    exact Ni<|G rfl<|Nd<|sN [(V RX (b) t),(C 0)] λw f=>⟨RX,t,b,LX,I,(f.pick [1,2] I I),Z0 (ax.symm.trans hd),x⟩
abbrev N0(a b c d e):=[PV.mk a b (.list c d (inL e a b))]
abbrev T6(a b:Nat):Value:=.bool (decide ((((a+1):Nat):Int) < ((b:Nat):Int)))
abbrev N6(a b c d e):=vS ((dZ a (inL a b c) d b e).1)
abbrev E0(a b c d e f):=#[(Y ((inL a ((dZ a (inL a b c) d b e).1) f).length)),(vS (eI (inL a ((dZ a (inL a b c) d b e).1) f)))]
abbrev R5(a b c d e f):=[oC a (dZ a (inL a b c) d b e).1 f]
abbrev N1(a b c d):=vS ((dZ a (inL a b c) d b (d - 1)).1)
abbrev C9(a:List (List UInt8))(b c:List UInt8)(d:Nat):Value:=.iface 242 (.agg #[(Y ((inL a ((dZ a (inL a b c) d b (d - 1)).1) c).length)),(vS (eI (inL a ((dZ a (inL a b c) d b (d - 1)).1) c)))])
abbrev L4(a b c d):=[oC a (dZ a (inL a b c) d b (d - 1)).1 c]
theorem VW(bs A c its fan leaf H U lo hi n f g a rc ps N O w)(hO:cC [aD g 234 [(V a (ps) rc),N,O],cP a (ps) rc] w)(r0:Rf [aD g 234 [(V a (ps) rc),N,O],cP a (ps) rc] w (eG))(z:Rf [aD g 234 [(V a (ps) rc),N,O],cP a (ps) rc] w (jM bs A c its fan leaf H U))(hs:dD its)(hn:its.length<=1000)(ae:its.length<=c)(hf:2<=fan)(ak:fan<=16)(an:1<=leaf)(ao:leaf<=64)(au:ps.length<=4294967296):
  Θ 167 #[(Z bs 0),(.agg #[(vS lo),(vS hi)]),(.agg #[(Y n),(vS f)]),(Z g 0)] w λe w'=>∃ (R2:Δ) (K:Nat) (ps2:List PV),e = .returned (.tuple #[])/\aN [aD g 234 [(V a (ps) rc),N,O],cP a (ps) rc] w [aD g 234 [(V R2 (ps++ps2) K),N,O],cP R2 (ps++ps2) K] w'/\(ps2.map PV.abs=mN its fan leaf lo hi n f)/\(jV [] A its ps2):=by
 have ra:=z.imp (λ_ h=>h.1)
 have rb:=z.imp (λ_ h=>h.2)
 refine Ju Tryz.func167 110 (hO) rfl<|Nc<|R<|pB (F6 lo hi) λB=>R<|pB [(Y n),(vS f)] λb6=>Nf<|aT<|dN _ 5 J η<|am 0 ?_
 refine aV 1 _ I (zr 2 I)<|aV 3 _ rfl (zr 3 rfl)<|aA 2 rfl<|bV (λw d=>CN bs A c its fan leaf H U lo hi w (r0.aX d) (z.aX d) ag ag ag)<|aQ _ η η<|aV 4 (.bool (decide ((inL its lo hi).length=n/\eI (inL its lo hi)=f))) I (Uc I I I)<|cG J ?_
 refine aJ (aY I (λo=>?_) (λo=>?_))
 .have j:=D4 o
  exact gW<|cJ<|dL [] rfl trivial (λw d=>⟨a,rc,[],I,by rw [O4]; exact (d.pick [0,1] I I),by simp [mN,j],jV.nil⟩)
 .have j:=C7 o
  have j:=C7 o
  refine Nl ?_
  refine xd ?_
  refine aF<|G rfl<|lW (zr 2 rfl)<|R<|EM (λw d=>FM bs A c its fan leaf H U lo hi w (z.aX d) ag ag ag) λB22 b t=>?_
  have P:=Ro.imp (Ψ:=λw=>aI w B22 (SS (inL its lo hi))) rb t
  refine G I<|Nb<|G rfl<|M (J2 its lo hi)<|G rfl<|Ne<|G rfl<|M (Z bs 0)<|M (Z bs 1)<|M (Z bs 2)<|lW (rW (λw d=>At.cell (ra.now d) 2))<|M (.bool (decide ((((inL its lo hi).length:Nat):Int)<=((leaf:Nat):Int)))) ?_
  refine ζ I (λs=>?_) λs=>?_
  .refine aT<|dN _ 14 J (κ [0,2,3] I I)<|am 0 ?_
   refine am 1 ?_
   refine aC 2 (Z g 0) I<|aC 3 (Z g 0) I<|al 4 0 ?_
   refine aV 5 _ I (zr 1 I)<|am 6 ?_
   refine aC 7 (.agg #[(V B22 (inL its lo hi) b)]) I<|aC 8 (.iface 246 (.agg #[(V B22 (inL its lo hi) b)])) rfl<|aC 9 (.agg #[(vS lo),(vS hi),(.iface 246 (.agg #[(V B22 (inL its lo hi) b)]))]) rfl<|aA 10 rfl<|pN 1 240 [(vS lo),(vS hi),(.iface 246 (.agg #[(V B22 (inL its lo hi) b)]))] λai=>aQ _ (κ [0,1,2] I I) (κ [0,2,3,4] I I)<|aA 11 rfl<|cL vH 1 ([(vS lo),(vS hi),(.iface 246 (.agg #[(V B22 (inL its lo hi) b)]))]) rfl rfl (by kernel_rfl) rfl rfl rfl (rfl) (fE (i:=4) rfl yy) (CO (ps:=(N0 lo hi B22 b its))) (by omega) ((ps++(N0 lo hi B22 b its)).length) (by first | exact (C3 ..).symm | (simp; done) | (simp; omega)) (PS (ps++(N0 lo hi B22 b its))) ((vG _ ((N0 lo hi B22 b its))).symm) (λA43 Q=>?_)
   refine xd ?_
   exact aQ _ η (κ [0,2,3,4] I I)<|aC 12 (Z g 0) rfl<|aC 13 (Z g 0) rfl<|aA 14 rfl<|pS 0 rfl<|lH J rfl<|aJ<|gW<|cJ<|dL [] rfl trivial (λw d=>⟨A43,Q,(N0 lo hi B22 b its),I,(d.pick [0,1] I I),by rw [mN,P4 j,P1 (by have:=s; omega)]; rfl,λp T r hr=>.inr (by rw [G2.1 T] at hr; rw [G2.1 hr]; exact t)⟩)
  .refine Ni<|M (Z B 0)<|lL 2 I<|G I<|Ne<|G I<|Ng ?_
   have h2:=k8 (inR lo hi) its; change (inL its lo hi).length<=its.length at h2
   refine sL (λ(k,RX,l)=>k+1<=fan) (λ(k,RX,l)=>fan - k) (λ(k,RX,l)=>[(0,(Z bs 0)),(3,(Z g 0)),(5,(Z B 0)),(8,(V B22 (inL its lo hi) b)),(9,(Y ((inL its lo hi).length))),(10,(vS ((dZ its (inL its lo hi) fan lo k).1))),(11,(Y (k+1)))]) (λ(k,RX,l)=>[aD g 234 [(V RX (ps++(dZ its (inL its lo hi) fan lo k).2) l),N,O],cP RX (ps++(dZ its (inL its lo hi) fan lo k).2) l,aD B 236 [(vS lo),(vS hi)],aD b6 242 [(Y n),(vS f)]]) (0,a,rc) oz (λw d=>by show Mm _ _ [aD g 234 [(V a (ps++(dZ its (inL its lo hi) fan lo 0).2) rc),N,O],cP a (ps++(dZ its (inL its lo hi) fan lo 0).2) rc,aD B 236 [(vS lo),(vS hi)],aD b6 242 [(Y n),(vS f)]] w; rw [show ps++(dZ its (inL its lo hi) fan lo 0).2=ps from O4 _]; exact d) ?_
   rintro ⟨k,RX,l⟩ (ar:k+1<=fan)
   dsimp only
   refine Ny<|G rfl<|M (Z bs 0)<|M (Z bs 1)<|M (Z bs 1)<|lW (rW (λw d=>At.cell (ra.now d) 1))<|M (T6 k fan) ?_
   refine ζ I (λx=>?_) λx=>?_
   .have hk:k+1 < fan:=by have:=x; omega
    refine Nm ?_
    have ap:(k+1)*(inL its lo hi).length<=16*1000:=Z9 (by omega) (by omega)
    have aq:(k+1)*(inL its lo hi).length / fan < (inL its lo hi).length:=by
     rw [ADi (by omega),AEe]
     exact AE9 hk (by have:=s; omega)
    refine aF<|G I<|lv (v:=(Y ((k+1)*(inL its lo hi).length))) (EC _ I I I (by omega) (by omega) (by omega)) ?_
    refine G I<|M (Z bs 0)<|M (Z bs 1)<|M (Z bs 1)<|lW (rW (λw d=>At.cell (ra.now d) 1))<|lv (v:=(Y ((k+1)*(inL its lo hi).length / fan))) (vJ I I I (by omega) (by omega)) ?_
    obtain ⟨m,y⟩:=gk (inL its lo hi) ((k+1)*(inL its lo hi).length / fan) (by omega)
    refine St.fC (λw d=>P.now d) (fR y) (λX ab E F=>lw (Z X (ab+((k+1)*(inL its lo hi).length / fan))) (rR 9 E)<|lW (rW F)<|G I<|Nb<|G I<|lw (.bool (!decide (m=(dZ its (inL its lo hi) fan lo k).1))) (qC I I I) ?_)
    refine qi I (λq=>?_) λq=>?_
    .refine Nc<|G rfl<|M (.agg #[(N6 its lo hi fan k),(vS m)])<|R<|pA [qe,qe] λaf=>R<|zu 4 I<|Nf<|dN _ 15 J (κ [0,2,3,4] I I)<|am 0 ?_
     refine am 1 ?_
     refine aC 2 (Z g 0) I<|aC 3 (Z g 0) I<|al 4 0 ?_
     refine aV 5 _ I (zr 3 I)<|am 6 ?_
     refine aV 7 _ I (zr 3 I)<|aA 8 rfl<|bV (λw d=>CN bs A c its fan leaf H U ((dZ its (inL its lo hi) fan lo k).1) m w (r0.aX d) (z.aX d) ag ag ag) ?_
     refine xd ?_
     refine aQ _ η (κ [0,2,3,4] I I)<|aC 9 (.iface 242 (.agg (E0 its lo hi fan k m))) rfl<|aC 10 (.agg #[(N6 its lo hi fan k),(vS m),(.iface 242 (.agg (E0 its lo hi fan k m)))]) rfl<|aA 11 rfl<|pN 1 240 [(N6 its lo hi fan k),(vS m),(.iface 242 (.agg (E0 its lo hi fan k m)))] λaj=>aQ _ (κ [0,1,2,3] I I) (κ [0,2,3,4,5] I I)<|aA 12 rfl<|cL vH 1 ([(N6 its lo hi fan k),(vS m),(.iface 242 (.agg (E0 its lo hi fan k m)))]) rfl rfl J rfl rfl rfl (rfl) (fE (i:=5) rfl yy) (by intro u W; exact CO (ps:=[oC its _ _]) u W) (by have:=FQ its (inL its lo hi) fan lo k; simp only [C3] at *; omega) ((ps++(dZ its (inL its lo hi) fan lo k).2++(R5 its lo hi fan k m)).length) dV (PS (ps++(dZ its (inL its lo hi) fan lo k).2++(R5 its lo hi fan k m))) ((vG _ ((R5 its lo hi fan k m))).symm) (λA87 S=>aQ _ η (κ [0,2,3,4,5] I I)<|aC 13 (Z g 0) I<|aC 14 (Z g 0) I<|aA 15 I<|pS 0 I<|lH J I<|aJ<|aF<|G I<|Nk<|aF<|G I<|lw (Y ((k+1)+1)) bN<|G I<|Na ?_)
     rw [show ps++(dZ its (inL its lo hi) fan lo k).2++(R5 its lo hi fan k m)=ps++(dZ its (inL its lo hi) fan lo (k+1)).2 from by rw [Lk y q,<- D1]]
     rw [show m=(dZ its (inL its lo hi) fan lo (k+1)).1 from by rw [Lk y q]]
     exact sA (k+1,A87,S) oz oz (κ [0,1,2,3] I I)
    .refine Nw<|aF<|G I<|lw (Y ((k+1)+1)) bN<|G I<|Na ?_
     rw [show dZ its (inL its lo hi) fan lo k=dZ its (inL its lo hi) fan lo (k+1) from (TZ y q).symm]
     exact sA (k+1,RX,l) oz oz η
   .obtain rfl:k=fan - 1:=by have:=x; omega
    refine Nj<|aF<|G rfl<|M (Z B 1)<|lL 2 rfl<|M (.agg #[(N1 its lo hi fan),(vS hi)])<|R<|pA [qe,qe] λah=>R<|zu 4 I<|Na ?_
    refine xd ?_
    refine dN _ 15 J (κ [0,2,3,4] I I)<|am 0 ?_
    refine am 1 ?_
    refine aC 2 (Z g 0) I<|aC 3 (Z g 0) I<|al 4 0 ?_
    refine aV 5 _ I (zr 3 I)<|am 6 ?_
    refine aV 7 _ I (zr 3 I)<|aA 8 rfl<|bV (λw d=>CN bs A c its fan leaf H U ((dZ its (inL its lo hi) fan lo (fan - 1)).1) hi w (r0.aX d) (z.aX d) ag ag ag)<|aQ _ η (κ [0,2,3,4] rfl rfl)<|aC 9 (C9 its lo hi fan) rfl<|aC 10 (.agg #[(N1 its lo hi fan),(vS hi),(C9 its lo hi fan)]) rfl<|aA 11 rfl<|pN 1 240 [(N1 its lo hi fan),(vS hi),(C9 its lo hi fan)] λad=>?_
    refine xd ?_
    refine aQ _ (κ [0,1,2,3] I I) (κ [0,2,3,4,5] I I)<|aA 12 rfl<|cL vH 1 ([(N1 its lo hi fan),(vS hi),(C9 its lo hi fan)]) rfl rfl J rfl rfl rfl (rfl) (fE (i:=5) rfl yy) (by intro u W; exact CO (ps:=[oC its _ _]) u W) (by have:=FQ its (inL its lo hi) fan lo (fan - 1); simp only [C3] at *; omega) ((ps++(dZ its (inL its lo hi) fan lo (fan - 1)).2++(L4 its lo hi fan)).length) dV (PS (ps++(dZ its (inL its lo hi) fan lo (fan - 1)).2++(L4 its lo hi fan))) ((vG _ ((L4 its lo hi fan))).symm) (λA107 D=>aQ _ η (κ [0,2,3,4,5] I I)<|aC 13 (Z g 0) rfl<|aC 14 (Z g 0) rfl<|aA 15 rfl<|pS 0 rfl<|lH J rfl<|nF [] rfl trivial (λw d=>?_))
    refine ⟨A107,D,(dZ its (inL its lo hi) fan lo (fan - 1)).2++(L4 its lo hi fan),I,?_,?_,?_⟩
    .rw [<- D1]; exact (d.pick [0,1] I I)
    .rw [mN,P4 j,P4 (by have:=s; omega),U1,(FP its (inL its lo hi) fan lo (fan - 1)).2,<- (FP its (inL its lo hi) fan lo (fan - 1)).1]; rfl
    .exact jV.append (L:=[]) (jV.Qc (FR _ _ _ _ _)) (jV.Qc (by intro p T; rw [G2.1 T]; rfl))
abbrev F5(a b c d e f g h):=[(vS a),(vS b),(.iface 249 (.agg #[(V c (aL (inL d a b) e) f),(V g (aL e d) h)]))]
abbrev M0:=[0,1,2,3,4,5,6,7,8]
abbrev D9(a b c d e f g h):=[PV.mk a b (.ans c d (aL (inL e a b) f) g h (aL f e))]
abbrev O9(a b c d e f g h):=[(V a (aL (inL b c d) e) f),(V g (aL e b) h)]
theorem VX(bs A c its fan leaf nm U lo hi A1 z xs k a rc ps N t g O y j w)(hO:cC [aD k 234 [(V a (ps) rc),(V N (g) t),(V O (j) y)],cP a (ps) rc,cS N (g) t,cS O (j) y] w)(r0:Rf [aD k 234 [(V a (ps) rc),(V N (g) t),(V O (j) y)],cP a (ps) rc,cS N (g) t,cS O (j) y] w (jM bs A c its fan leaf nm U))(r1:Rf [aD k 234 [(V a (ps) rc),(V N (g) t),(V O (j) y)],cP a (ps) rc,cS N (g) t,cS O (j) y] w (λw=>aI w A1 (SS xs)))(hs:dD its)(hn:its.length<=1000)(ax:its.length<=c)(a3:ps.length<=4294967296)(a8:xs.length<=4294967296)(a9:∀ x∈xs,x.length<=1000)(a0:g.length<=68719476736)(a2:j.length<=68719476736):
  Θ 168 #[(Z bs 0),(.agg #[(vS lo),(vS hi)]),(.agg #[(V A1 xs z)]),(Z k 0)] w λe w'=>∃ (R2:Δ) (ai:Nat) (ps2:List PV) (N2:Δ) (af:Nat) (O2:Δ) (ah:Nat) (L2:List (Δ × List Γ)),e = .returned (.tuple #[])/\aN [aD k 234 [(V a (ps) rc),(V N (g) t),(V O (j) y)],cP a (ps) rc,cS N (g) t,cS O (j) y] w [aD k 234 [(V R2 (ps++ps2) ai),(V N2 (g++aL xs its) af),(V O2 (j++aL (inL its lo hi) xs) ah)],cP R2 (ps++ps2) ai,cS N2 (g++aL xs its) af,cS O2 (j++aL (inL its lo hi) xs) ah,dQ (L2)] w'/\(ps2.map PV.abs=oB its lo hi xs)/\(jV L2 A its ps2):=by
 have rb:=r0.imp (λ_ h=>h.2)
 refine Ju Tryz.func168 95 (hO) rfl<|Nc<|R<|pB (F6 lo hi) λF=>R<|pB [(V A1 xs z)] λH=>Nb<|R<|rC rfl rfl J (λn=>G I<|Nb<|R<|pA [nS,nS] λq=>Nf<|aT ?_)
 refine xd ?_
 refine St.mem (λw f=>f.gB 9 1)<|St.mem (λw f=>f.gB 9 1)<|aF<|lk (Z H 0)<|lL 5 rfl<|lk (Y xs.length)<|G rfl<|Ng<|sL (λ(i,N32,b)=>i<=xs.length) (λ(i,N32,b)=>xs.length - i) (λ(i,N32,b)=>[(0,(Z bs 0)),(3,(Z k 0)),(5,(Z F 0)),(8,(.map (some n))),(9,(Z q 0)),(16,(V A1 xs z)),(17,(Y xs.length)),(18,(Y i))]) (λ(i,N32,b)=>[aD k 234 [(V a (ps) rc),(V N (g) t),(V O (j) y)],cP a (ps) rc,cS N (g) t,cS O (j) y,aD F 236 [(vS lo),(vS hi)],aD H 246 [(V A1 xs z)],aP n (xs.take i),aD q 249 [nS,(V N32 (aL (xs.take i) its) b)],bD 9 1 none (0) (0) ([]),cS N32 (aL (xs.take i) its) b]) (0,none,0) (G6 _) (λw f=>by show Mm _ _ [aD k 234 [(V a (ps) rc),(V N (g) t),(V O (j) y)],cP a (ps) rc,cS N (g) t,cS O (j) y,aD F 236 [(vS lo),(vS hi)],aD H 246 [(V A1 xs z)],aP n (xs.take 0),aD q 249 [nS,(V none (aL (xs.take 0) its) 0)],bD 9 1 none (0) (0) ([]),cS none (aL (xs.take 0) its) 0] w; exact f) ?_
 rintro ⟨i,N32,b⟩ (ap:i<=xs.length)
 dsimp only
 refine Nc<|lk (G0 i xs) ?_
 refine χ I (λad=>?_) λad=>?_
 .refine Nm<|aF ?_
  obtain ⟨s,o⟩:=gk xs i (by omega)
  refine St.fC (λw f=>r1.now f) (fR o) (λaq au T X=>lw (Z aq (au+i)) (rR 9 T)<|lW (rW X)<|G rfl<|Nb<|G rfl<|R<|Fl 6 rfl rfl J rfl rfl rfl rfl (by grind) (by grind)<|Nb<|G rfl<|R<|bV (λw f=>FN bs A c its fan leaf nm U s w (r0.aX f) ag ag)<|lk (.bool (!(its.contains s))) ?_)
  refine qi I (λP=>?_) λP=>?_
  .refine aF<|lk (Z q 1)<|lL 7 rfl<|G rfl<|R<|pN 1 9 [(vS s)] λay=>R<|cL gD 9 ([(vS s)]) rfl rfl J rfl rfl rfl (rfl) (fE (i:=10) rfl yy) (by simp [Value.oneCell']) (by grind [iN]) ((aL (xs.take i) its++[s]).length) dV (SS (aL (xs.take i) its++[s])) (by grind) (λA32 ak=>lk (Z q 1)<|R<|pS 7 I<|Nk ?_)
   refine xd ?_
   refine aF<|lw (Y (i+1)) bN<|G I<|Na ?_
   rw [show xs.take i++[s]=xs.take (i+1) from yX o]
   rw [show aL (xs.take i) its++[s]=aL (xs.take (i+1)) its from by grind [yU]]
   exact sA (i+1,A32,ak) oz oz (κ [0,1,2,3,4,5,6,7,8,9] I I)
  .refine Nw<|aF<|lw (Y (i+1)) bN<|G I<|Na ?_
   rw [show xs.take i++[s]=xs.take (i+1) from yX o]
   rw [show aL (xs.take i) its=aL (xs.take (i+1)) its from by rw [yV o (su P)]]
   exact sA (i+1,N32,b) oz oz η
 .obtain rfl:i=xs.length:=by omega
  rw [R0]
  refine Nj<|Nc<|G rfl<|lW (zr 4 rfl)<|R<|EM (λw f=>FM bs A c its fan leaf nm U lo hi w (r0.aX f) ag ag ag) λB37 S K=>?_
  have aj:=Ro.imp (Ψ:=λw=>aI w B37 (SS (inL its lo hi))) rb K
  have ao:=k8 (inR lo hi) its; change (inL its lo hi).length<=its.length at ao
  refine lk (Y ((inL its lo hi).length))<|G rfl<|Ng<|sL (λ(i,N51,d)=>i<=(inL its lo hi).length) (λ(i,N51,d)=>(inL its lo hi).length - i) (λ(i,N51,d)=>[(3,(Z k 0)),(5,(Z F 0)),(8,(.map (some n))),(9,(Z q 0)),(37,(V B37 (inL its lo hi) S)),(38,(Y ((inL its lo hi).length))),(39,(Y i))]) (λ(i,N51,d)=>[aD k 234 [(V a (ps) rc),(V N (g) t),(V O (j) y)],cP a (ps) rc,cS N (g) t,cS O (j) y,aD F 236 [(vS lo),(vS hi)],aD H 246 [(V A1 xs z)],aP n (xs),aD q 249 [(V N51 (aL ((inL its lo hi).take i) xs) d),(V N32 (aL xs its) b)],cS N51 (aL ((inL its lo hi).take i) xs) d,cS N32 (aL xs its) b]) (0,none,0) (G6 _) (λw f=>by show Mm _ _ [aD k 234 [(V a (ps) rc),(V N (g) t),(V O (j) y)],cP a (ps) rc,cS N (g) t,cS O (j) y,aD F 236 [(vS lo),(vS hi)],aD H 246 [(V A1 xs z)],aP n (xs),aD q 249 [(V none (aL ((inL its lo hi).take 0) xs) 0),(V N32 (aL xs its) b)],cS none (aL ((inL its lo hi).take 0) xs) 0,cS N32 (aL xs its) b] w; exact f) ?_
  rintro ⟨i,N51,d⟩ (ap:i<=(inL its lo hi).length)
  dsimp only
  refine Nc<|lk (.bool (decide ((i:Int) < (((inL its lo hi).length:Nat):Int)))) ?_
  refine χ I (λae=>?_) λae=>?_
  .refine Nm<|aF ?_
   obtain ⟨s,o⟩:=gk (inL its lo hi) i (by omega)
   refine St.fC (λw f=>aj.now f) (fR o) (λar aw W ab=>lw (Z ar (aw+i)) (rR 9 W)<|lW (rW ab)<|G I<|Nb<|G I<|lw (.bool (xs.contains s)) (Sb 6 I I I I (by have:=(hs.1 _ (AEa.1 (F0 o)).1); omega))<|lk (.bool (!(xs.contains s))) ?_)
   refine qi I (λD=>?_) λD=>?_
   .refine aF<|lk (Z q 0)<|lL 7 rfl<|G rfl<|R<|pN 1 9 [(vS s)] λaz=>R<|cL gD 8 ([(vS s)]) rfl rfl J rfl rfl rfl (rfl) (fE (i:=10) rfl yy) (by simp [Value.oneCell']) (by have h:=iN ((inL its lo hi).take i) xs; simp only [I8] at h; omega) ((aL ((inL its lo hi).take i) xs++[s]).length) dV (SS (aL ((inL its lo hi).take i) xs++[s])) (by simp [SS]) (λA51 an=>lk (Z q 0)<|R<|pS 7 I<|Nk<|aF<|lw (Y (i+1)) bN<|G I<|Na ?_)
    rw [show aL ((inL its lo hi).take i) xs++[s]=aL ((inL its lo hi).take (i+1)) xs from by rw [yU o (su D)]]
    exact sA (i+1,A51,an) oz oz (κ [0,1,2,3,4,5,6,7,8,9] I I)
   .refine Nw<|aF<|lw (Y (i+1)) bN<|G I<|Na ?_
    rw [show aL ((inL its lo hi).take i) xs=aL ((inL its lo hi).take (i+1)) xs from by rw [yV o (su D)]]
    exact sA (i+1,N51,d) oz oz η
  .obtain rfl:i=(inL its lo hi).length:=by omega
   rw [R0]
   refine Nj ?_
   have a4:=iN xs its; have a5:=iN (inL its lo hi) xs
   refine dN _ 10 J (κ [0,1,3,4,5,6,7,8,9] I I)<|am 0 ?_
   refine am 1 ?_
   refine aC 2 (Z k 0) I<|aC 3 (Z k 1) I<|al 4 0 ?_
   refine aC 5 (Z q 1) I<|al 6 6 ?_
   refine aA 7 I ?_
   refine cL gD 2 (SS (aL xs its)) I I (by kernel_rfl) I I I (by simp) (λw f=>eN.gJ (fM (i:=9) I w f)) (mJ) (by omega) ((g++(aL xs its)).length) (by first | exact (C3 ..).symm | (simp; done) | (simp; omega)) (SS (g++(aL xs its))) (by simp [SS]) (λA61 l=>?_)
   refine xd ?_
   refine aQ _ η (κ [0,1,3,4,5,6,7,8,9] I I)<|aC 8 (Z k 0) I<|aC 9 (Z k 1) I<|aA 10 I<|pS 0 I<|lH J I<|aJ<|aT<|dN _ 10 J (κ [0,1,2,4,5,6,7,8,9] I I)<|am 0 ?_
   refine am 1 ?_
   refine aC 2 (Z k 0) I<|aC 3 (Z k 2) I<|al 4 0 ?_
   refine aC 5 (Z q 0) I<|al 6 6 ?_
   refine aA 7 I ?_
   refine cL gD 3 (SS (aL (inL its lo hi) xs)) I I (by kernel_rfl) I I I (by simp) (λw f=>eN.gJ (fM (i:=8) I w f)) (mJ) (by omega) ((j++(aL (inL its lo hi) xs)).length) (by first | exact (C3 ..).symm | (simp; done) | (simp; omega)) (SS (j++(aL (inL its lo hi) xs))) (by simp [SS]) (λA71 m=>?_)
   refine aQ _ η (κ [0,1,2,4,5,6,7,8,9] I I)<|aC 8 (Z k 0) I<|aC 9 (Z k 2) I ?_
   refine aA 10 I<|pS 0 I<|lH J I<|aJ<|aT ?_
   refine xd ?_
   refine aF<|lk (Z q 0)<|lL 7 I<|lk (Y ((aL (inL its lo hi) xs).length))<|lk (Z q 1)<|lL 7 I<|lk (Y ((aL xs its).length))<|lw (Y ((aL (inL its lo hi) xs).length+(aL xs its).length)) bN<|lk (.bool (decide ((((aL (inL its lo hi) xs).length+(aL xs its).length:Nat):Int) > 0))) ?_
   refine ζ I (λE=>?_) λE=>?_
   .refine dN _ 13 J (κ [0,2,3,4,5,6,7,8,9] I I)<|am 0 ?_
    refine am 1 ?_
    refine aC 2 (Z k 0) I<|aC 3 (Z k 0) I<|al 4 0 ?_
    refine aV 5 _ I (zr 3 I)<|aV 6 _ rfl (zr 6 rfl)<|aC 7 (.iface 249 (.agg #[(V N51 (aL (inL its lo hi) xs) d),(V N32 (aL xs its) b)])) rfl<|aC 8 (.agg #[(vS lo),(vS hi),(.iface 249 (.agg #[(V N51 (aL (inL its lo hi) xs) d),(V N32 (aL xs its) b)]))]) rfl<|aA 9 rfl<|pN 1 240 (F5 lo hi N51 its xs d N32 b) λQ=>aQ _ (κ M0 I I) (κ [0,2,3,4,5,6,7,8,9,10] I I) ?_
    refine aA 10 I ?_
    refine cL vH 1 ((F5 lo hi N51 its xs d N32 b)) I I (by kernel_rfl) I I I (I) (fE (i:=10) I yy) (by intro u hu; exact CO (ps:=(D9 lo hi N51 d its xs N32 b)) u hu) (by omega) ((ps++(D9 lo hi N51 d its xs N32 b)).length) (by first | exact (C3 ..).symm | (simp; done) | (simp; omega)) (PS (ps++(D9 lo hi N51 d its xs N32 b))) ((vG _ ((D9 lo hi N51 d its xs N32 b))).symm) (λA92 B=>?_)
    refine aQ _ η (κ [0,2,3,4,5,6,7,8,9,10] I I) ?_
    refine aC 11 (Z k 0) I<|aC 12 (Z k 0) I<|aA 13 I<|pS 0 I ?_
    refine xd ?_
    refine lH J I<|nF [] rfl trivial (λw f=>?_)
    replace f:Mm _ _ [aD k 234 [(V A92 (ps++(D9 lo hi N51 d its xs N32 b)) B),(V A61 (g++(aL xs its)) l),(V A71 (j++(aL (inL its lo hi) xs)) m)],cP A92 (ps++(D9 lo hi N51 d its xs N32 b)) B,cS A61 (g++(aL xs its)) l,cS A71 (j++(aL (inL its lo hi) xs)) m,aD F 236 (F6 lo hi),aD H 246 [(V A1 xs z)],aP n (xs),aD q 249 (O9 N51 its lo hi xs d N32 b),dQ ([(N51,aL (inL its lo hi) xs)]),cS N32 (aL xs its) b,aD Q 240 (F5 lo hi N51 its xs d N32 b)] w:=f.pE 8 I
    replace f:Mm _ _ [aD k 234 [(V A92 (ps++(D9 lo hi N51 d its xs N32 b)) B),(V A61 (g++(aL xs its)) l),(V A71 (j++(aL (inL its lo hi) xs)) m)],cP A92 (ps++(D9 lo hi N51 d its xs N32 b)) B,cS A61 (g++(aL xs its)) l,cS A71 (j++(aL (inL its lo hi) xs)) m,aD F 236 (F6 lo hi),aD H 246 [(V A1 xs z)],aP n (xs),aD q 249 (O9 N51 its lo hi xs d N32 b),dQ ([(N51,aL (inL its lo hi) xs)]),dQ ([(N32,aL xs its)]),aD Q 240 (F5 lo hi N51 its xs d N32 b)] w:=f.pE 9 I
    refine ⟨A92,B,(D9 lo hi N51 d its xs N32 b),A61,l,A71,m,[(N51,aL (inL its lo hi) xs),(N32,aL xs its)],I,Mm.join (cs:=[_,_,_,_]) (L:=[(N51,aL (inL its lo hi) xs)]) (M:=[(N32,aL xs its)]) ?_,?_,?_⟩
    .exact (f.pick [0,1,2,3,8,9] I I)
    .rw [oB,P1 (by have:=E; omega)]; rfl
    .intro p hp r hr; rw [G2.1 hp] at hr; exact .inl hr
   .refine gL<|nF [] rfl trivial (λw f=>?_)
    replace f:Mm _ _ [aD k 234 [(V a (ps) rc),(V A61 (g++(aL xs its)) l),(V A71 (j++(aL (inL its lo hi) xs)) m)],cP a (ps) rc,cS A61 (g++(aL xs its)) l,cS A71 (j++(aL (inL its lo hi) xs)) m,aD F 236 (F6 lo hi),aD H 246 [(V A1 xs z)],aP n (xs),aD q 249 (O9 N51 its lo hi xs d N32 b),dQ ([(N51,aL (inL its lo hi) xs)]),cS N32 (aL xs its) b] w:=f.pE 8 I
    replace f:Mm _ _ [aD k 234 [(V a (ps) rc),(V A61 (g++(aL xs its)) l),(V A71 (j++(aL (inL its lo hi) xs)) m)],cP a (ps) rc,cS A61 (g++(aL xs its)) l,cS A71 (j++(aL (inL its lo hi) xs)) m,aD F 236 (F6 lo hi),aD H 246 [(V A1 xs z)],aP n (xs),aD q 249 (O9 N51 its lo hi xs d N32 b),dQ ([(N51,aL (inL its lo hi) xs)]),dQ ([(N32,aL xs its)])] w:=f.pE 9 I
    refine ⟨a,rc,[],A61,l,A71,m,[(N51,aL (inL its lo hi) xs),(N32,aL xs its)],I,Mm.join (cs:=[_,_,_,_]) (L:=[(N51,aL (inL its lo hi) xs)]) (M:=[(N32,aL xs its)]) ?_,?_,?_⟩
    .rw [O4]; exact (f.pick [0,1,2,3,8,9] I I)
    .rw [oB,P4 (by have:=E; omega)]; rfl
    .exact jV.nil
theorem Gx(a A c xs A1 r l w)(k:cC [aD a 175 [(V A (xs) c),(C 0)],cB A (xs) c] w)(D:Rf [aD a 175 [(V A (xs) c),(C 0)],cB A (xs) c] w (λw=>aI w A1 (SS l)))(F:l.length<=16384)(h:∀ x∈l,x.length=32)(t:xs.length<=4294400000):
  Θ 244 #[(Z a 0),(V A1 l r)] w λe E=>∃ (A2:Δ) (s:Nat),e = .returned (.tuple #[])/\aN [aD a 175 [(V A (xs) c),(C 0)],cB A (xs) c] w [aD a 175 [(V A2 (xs++(aE l.length++l.flatten)) s),(C 0)],cB A2 (xs++(aE l.length++l.flatten)) s] E:=by
 refine bS Tryz.func244 20 (k) rfl<|Nc<|G rfl<|M (Y l.length)<|R<|iT [0,1] (λw d k=>AW a A c xs l.length w k U U) λA29 o=>Nb<|G rfl<|M (Y l.length)<|G rfl<|Ng<|sL (λ(i,AX,b)=>i<=l.length) (λ(i,AX,b)=>l.length - i) (λ(i,AX,b)=>[(0,(Z a 0)),(10,(V A1 l r)),(11,(Y l.length)),(12,(Y i))]) (λ(i,AX,b)=>[aD a 175 [(V AX (xs++aE l.length++(l.take i).flatten) b),(C 0)],cB AX (xs++aE l.length++(l.take i).flatten) b]) (0,A29,o) (G6 _) (λw d=>by show Mm _ _ [_,_] w; rw [show xs++aE _++(l.take 0).flatten=xs++aE _ from O4 _]; exact d) ?_
 rintro ⟨i,AX,b⟩ (z:i<=l.length)
 dsimp only
 refine Nc<|M (G0 i l) ?_
 refine χ I (λn=>?_) λn=>?_
 .have p:=CL (l.take i) (λx t=>h x (l9 t)); rw [I8] at p; have y:=eY l.length U
  refine Nm<|aF ?_
  obtain ⟨u,f⟩:=gk l i U
  refine St.fC (λw d=>D.now d) (fR f) (λq B j m=>lw (Z q _) (rR 9 j)<|lW (rW m)<|G rfl<|Nv<|G rfl<|R<|iT [0,1] (λw d k=>AZ a AX b (xs++aE l.length++(l.take i).flatten) u w k (h _ (F0 f)) (by simp only [C3]; omega)) λA218 g=>Nk<|aF<|lw (Y (i+1)) bN<|G I<|Na ?_)
  rw [show (xs++aE _++(l.take i).flatten)++u=xs++aE _++(l.take _).flatten from by rw [D1,AG f]]
  exact sA (i+1,A218,g) oz oz η
 .obtain rfl:i=l.length:=U
  rw [R0]
  refine Nr<|kL<|nF [] rfl trivial (λw d=>⟨AX,b,I,?_⟩)
  rw [<- D1]
  exact d
theorem VY(a A c xs n)(f:Γ)(w)(b:cC [aD a 175 [(V A (xs) c),(C 0)],cB A (xs) c] w)(q:n<=16384)(p:f.length=32)(r:xs.length<=4293800000):
  Θ 240 #[(.agg #[(Y n),(vS f)]),(Z a 0)] w λe o=>∃ (A2:Δ) (k:Nat),e = .returned (.tuple #[])/\aN [aD a 175 [(V A (xs) c),(C 0)],cB A (xs) c] w [aD a 175 [(V A2 (xs++((aE 1++aE n)++f)) k),(C 0)],cB A2 (xs++((aE 1++aE n)++f)) k] o:=by
 refine bS Tryz.func240 14 (b) rfl<|Nc<|R<|pB [(Y n),(vS f)] λj=>Nb<|G rfl<|R<|iT [0,1] (λw g b=>zD a A c xs 1 w b U U) λA25 h=>?_
 have l:=eY 1 U; have m:=eY n U
 refine Nb<|G rfl<|M (Z j 0)<|lL 2 rfl<|R<|iT [0,1] (λw g b=>AW a A25 h (xs++aE 1) n w b U (by grind)) λA29 i=>Nv<|G rfl<|M (Z j 1)<|lL 2 rfl<|R<|iT [0,1] (λw g b=>AZ a A29 i ((xs++aE 1)++aE n) f w b ag (by grind)) λA213 d=>aO<|nF [] rfl trivial (λw g=>⟨A213,d,I,?_⟩)
 simp only [<- D1] at g ⊢
 exact (g.pick [0,1] I I)
theorem VZ(a A c xs A1 f l w)(d:cC [aD a 175 [(V A (xs) c),(C 0)],cB A (xs) c] w)(n:Rf [aD a 175 [(V A (xs) c),(C 0)],cB A (xs) c] w (λw=>aI w A1 (SS l)))(p:l.length<=16384)(k:∀ x∈l,x.length=32)(q:xs.length<=4293800000):
  Θ 242 #[(.agg #[(V A1 l f)]),(Z a 0)] w λe o=>∃ (A2:Δ) (i:Nat),e = .returned (.tuple #[])/\aN [aD a 175 [(V A (xs) c),(C 0)],cB A (xs) c] w [aD a 175 [(V A2 (xs++(aE 2++(aE l.length++l.flatten))) i),(C 0)],cB A2 (xs++(aE 2++(aE l.length++l.flatten))) i] o:=by
 refine bS Tryz.func242 10 (d) rfl<|Nc<|R<|pB [(V A1 l f)] λj=>Nb<|G rfl<|R<|iT [0,1] (λw b d=>zD a A c xs 2 w d U U) λA25 g=>?_
 have m:=eY 2 U
 refine Nv<|G rfl<|M (Z j 0)<|lL 2 rfl<|R<|iT [0,1] (λw b d=>Gx a A25 g (xs++aE 2) A1 f l w d (n.bJ b [0,1]) U ag (by grind)) λA29 h=>aO<|nF [] rfl trivial (λw b=>⟨A29,h,I,?_⟩)
 simp only [<- D1] at b ⊢
 exact (b.pick [0,1] I I)
theorem Wa(a A c xs A1 g l A3 j m w)(d:cC [aD a 175 [(V A (xs) c),(C 0)],cB A (xs) c] w)(t:Rf [aD a 175 [(V A (xs) c),(C 0)],cB A (xs) c] w (λw=>aI w A1 (SS l)))(u:Rf [aD a 175 [(V A (xs) c),(C 0)],cB A (xs) c] w (λw=>aI w A3 (SS m)))(z:l.length<=16384)(k:∀ x∈l,x.length=32)(B:m.length<=16384)(p:∀ x∈m,x.length=32)(D:xs.length<=4293800000):
  Θ 247 #[(.agg #[(V A1 l g),(V A3 m j)]),(Z a 0)] w λe y=>∃ (A2:Δ) (o:Nat),e = .returned (.tuple #[])/\aN [aD a 175 [(V A (xs) c),(C 0)],cB A (xs) c] w [aD a 175 [(V A2 (xs++((aE 3++(aE l.length++l.flatten))++(aE m.length++m.flatten))) o),(C 0)],cB A2 (xs++((aE 3++(aE l.length++l.flatten))++(aE m.length++m.flatten))) o] y:=by
 refine bS Tryz.func247 14 (d) rfl<|Nc<|R<|pB [(V A1 l g),(V A3 m j)] λn=>Nb<|G rfl<|R<|iT [0,1] (λw b d=>zD a A c xs 3 w d U U) λA25 h=>?_
 have r:=eY 3 U; have s:=eY l.length U; have q:=CL l k
 refine Nb<|G rfl<|M (Z n 0)<|lL 2 rfl<|R<|iT [0,1] (λw b d=>Gx a A25 h (xs++aE 3) A1 g l w d (t.bJ b [0,1]) U ag (by grind)) λA29 i=>Nv<|G rfl<|M (Z n 1)<|lL 2 rfl<|R<|iT [0,1] (λw b d=>Gx a A29 i ((xs++aE 3)++(aE l.length++l.flatten)) A3 j m w d (u.bJ b [0,1]) U ag (by grind)) λA213 f=>aO<|nF [] rfl trivial (λw b=>⟨A213,f,I,?_⟩)
 simp only [<- D1] at b ⊢
 exact (b.pick [0,1] I I)
theorem Wb(v:CV)(a:v.abs.fit)(b A c xs w)(g:cC [aD b 175 [(V A (xs) c),(C 0)],cB A (xs) c] w)(r:Rf [aD b 175 [(V A (xs) c),(C 0)],cB A (xs) c] w (λw=>∀ q∈v.rows,aI w q.1 (SS q.2)))(i:xs.length<=4293800000):
  Θ v.Qe #[v.Qd,Z b 0] w λe o=>∃ (A2:Δ) (j:Nat),e = .returned (.tuple #[])/\aN [aD b 175 [(V A (xs) c),(C 0)],cB A (xs) c] w [aD b 175 [(V A2 (xs++v.abs.enc) j),(C 0)],cB A2 (xs++v.abs.enc) j] o:=by
 cases v with
 | sum n f=>exact VY b A c xs n f w g a.1 a.2 i
 | list A1 d l=>exact VZ b A c xs A1 d l w g (r.imp λ_ h=>h (A1,l) (by simp [CV.rows])) a.1 a.2 i
 | ans A1 d l A3 k m=>exact Wa b A c xs A1 d l A3 k m w g (r.imp λ_ h=>h (A1,l) (by simp [CV.rows])) (r.imp λ_ h=>h (A3,m) (by simp [CV.rows])) a.1.1 a.1.2 a.2.1 a.2.2 i
theorem Wc(A1 a)(ps:List PV)(w)(b:ps.length=0):
  Θ 170 #[(V A1 ps a)] w λe d=>e = .returned (.tuple #[nS,(C 0)])/\aN [] w [] d:=by
 exact eO Tryz.func170 40 (B3 w) I<|Nc<|G rfl<|Ne<|G rfl<|M (Y ps.length)<|M (.bool ((ps.length:Int) == 0))<|Na<|lG rfl (by simp [b])<|Nc<|G rfl<|Nh<|sN [nS,(C 0)] λw c=>⟨I,c⟩
theorem Wd(A1 E ps w)(r0:Rf [] w (λw=>aI w A1 (PS ps)))(r1:Rf [] w (CP ps))(t:∀ p∈ps.map PV.abs,p.fit)(u:ps.length≠0)(X:(bK (ps.map PV.abs)).length<=1048576):
  Θ 170 #[(V A1 ps E)] w λe K=>∃ (B:Δ) (cb:Nat),e = .returned (.tuple #[(V B (bK (ps.map PV.abs)) cb),(C 0)])/\aN [] w [cB B (bK (ps.map PV.abs)) cb] K:=by
 refine eO Tryz.func170 40 (Mm.start w []) I<|Nc<|G rfl<|Ne<|G rfl<|M (Y ps.length)<|M (.bool ((((ps.length:Nat):Int):Int) == 0))<|Na<|fD rfl (su u)<|Ni<|R<|gT (λw c=>Db  w ) λa=>G I<|Nf ?_
 have s:bK (ps.map PV.abs)=aE ps.length++(ps.map PV.abs).flatMap AP.enc:=by rw [bK,P4 (su u),K0]
 have L:(aE ps.length).length+((ps.map PV.abs).flatMap AP.enc).length<=4293800000:=by grind
 have W:ps.length<=((ps.map PV.abs).flatMap AP.enc).length:=by grind [List.length_map,CM]
 have Q:bG.length=0:=I
 refine St.mem (λw c=>c.gB 5 1)<|aF<|G rfl<|M (Y ps.length)<|R<|iT [0,1] (λw c d=>AW a none 0 bG ps.length w d U U) λA214 l=>Ne<|G rfl<|M (Y ps.length)<|G rfl<|Ng<|sL (λ(i,AX,g)=>i<=ps.length) (λ(i,AX,g)=>ps.length - i) (λ(i,AX,g)=>[(2,nS),(3,(C 0)),(4,(Z a 0)),(15,(V A1 ps E)),(16,(Y ps.length)),(17,(Y i))]) (λ(i,AX,g)=>[aD a 175 [(V AX (bG++aE ps.length++((ps.map PV.abs).take i).flatMap AP.enc) g),(C 0)],cB AX (bG++aE ps.length++((ps.map PV.abs).take i).flatMap AP.enc) g]) (0,A214,l) (G6 _) (λw c=>by show Mm _ _ [_,_] w; rw [show bG++aE _++((ps.map _).take 0).flatMap _=bG++aE _ from O4 _]; exact c) ?_
 rintro ⟨i,AX,g⟩ (S:i<=ps.length)
 dsimp only
 refine Nc<|M (qb i ps.length) ?_
 refine χ I (λr=>?_) λr=>?_
 .refine Nm<|aF ?_
  obtain ⟨b,f⟩:=gk ps i U
  refine St.xO (λw c=>r0.now c) f (λA D o q=>lw (Z A (D+i*3)) (wV (e:=240) I J J I I o U)<|lw _ (gI (E8 b) rfl rfl J J (q))<|R<|pA I9 λk=>R<|zv 2 I (PV.one b) ?_)
  refine Nf ?_
  have j:=t _ (ACb (F0 f))
  have x:(ps.map PV.abs)[i]?=some b.abs:=by rw [U8,f]; rfl
  have P:=Lf x
  have T:b.abs.enc.length=(aE b.lo.length).length+b.lo.length+((aE b.hi.length).length+b.hi.length)+b.c.abs.enc.length:=by simp only [AP.enc,PV.abs,C3]
  have N:b.lo.length<=32:=j.1
  have O:b.hi.length<=32:=j.2.1
  refine aF<|G rfl<|M (Z k 0)<|M (Z k 0)<|lL 2 rfl<|R<|iT [0,1] (λw c d=>LS a AX g (bG++aE ps.length++((ps.map PV.abs).take i).flatMap AP.enc) b.lo w d U (by simp only [C3]; omega)) λA225 m=>Nb<|G rfl<|M (Z k 0)<|M (Z k 1)<|lL 2 rfl<|R<|iT [0,1] (λw c d=>LS a A225 m ((bG++aE ps.length++((ps.map PV.abs).take i).flatMap AP.enc)++aE b.lo.length++b.lo) b.hi w d U (by simp only [C3]; omega)) λA230 n=>Na ?_
  refine xd ?_
  refine aF<|M (Z k 2)<|lL 2 rfl<|G rfl<|R<|fT [0,1] _ (λw c d=>(Wb b.c j.2.2 a A230 n (((bG++aE _++((ps.map _).take i).flatMap AP.enc)++aE _++b.lo)++aE _++b.hi) w d ((r1.bJ c [0,1]).imp λ_ h=>h b (F0 f)) (by simp only [C3]; omega)).mono ?_) I I I J (Ud I I I)
  rintro e K ⟨A34,y,rfl,H⟩
  refine ⟨_,[_,_],_,I,H,I,?_⟩; clear H c d
  refine Nk<|aF<|lw (Y (i+1)) bN<|G I<|Na ?_
  rw [show (((bG++aE _++((ps.map _).take i).flatMap _)++aE _++b.lo)++aE _++b.hi)++b.c.abs.enc=bG++aE ps.length++((ps.map _).take _).flatMap _ from by rw [<- AQ x]; simp only [AP.enc,PV.abs,D1]]
  exact sA (i+1,A34,y) oz oz (κ [0,1] I I)
 .obtain rfl:i=ps.length:=U
  rw [show (ps.map _).take _=ps.map _ from by rw [<- K0,R0]]
  refine Nj ?_
  have z:bG++aE ps.length++(ps.map PV.abs).flatMap AP.enc=bK (ps.map PV.abs):=by rw [s]; rfl
  rw [z]
  exact aF<|G rfl<|R<|iT [0,1] (λw c d=>Dc a AX g _ w d ag) λA237 F=>G I<|Nd<|sN [_,_] λw c=>⟨_,_,I,(c.pick [2] I I)⟩
end Go.Proofs.YtkjnecaieiaijaaGreatDoor
