/- Part 3 of a proof: what its row uses. -/
import Derived.Test.YtdflaaiondmjdaaGreatDoorQk02
set_option maxRecDepth 100000
set_option maxHeartbeats 1000000
namespace Go.Proofs.YtdflaaiondmjdaaGreatDoor
open Go.RowKit
section
variable {X : Option Addr × Nat}
theorem Mm.one {w:World} {b:Nat} {t:TypeId} {l:List Value} (h:At w b t l):Mm w [b] [aD b t l] w :=
 ⟨Fr.refl _ _,fun c hc=>by rw [List.mem_singleton] at hc; subst hc; exact h,by simp [aD],fun x hx=>.inl (by simpa [aD] using hx)⟩
theorem jZ {w:World} {base:Nat} {e t:TypeId} {sz n:Nat} {v:Value} {xs l:List Value} {b:Nat} (h:w.ownsRow base e sz v n xs) (ha:At w b t l) (hne:e≠t):some b≠v.ownBlock:=by
 intro hb
 rcases h.2 with ⟨rfl,_⟩ | ⟨g,cap,cur,rfl,_,hg,_⟩
 ·simp [Value.ownBlock] at hb
 ·have:some b=some g:=hb
  injection this with this
  subst this
  unfold At at ha
  rw [hg] at ha
  simp only [Option.some.injEq,Obj.cells.injEq] at ha
  exact hne ha.2.1
theorem ownCap {w:World} {base:Nat} {e:TypeId} {sz:Nat} {A:Option Addr} {m c:Nat} {xs:List Value} (ho:w.ownsRow base e sz (.slice A m c) m xs):m≤c:=by
 rcases ho.2 with ⟨hv,h0⟩ | ⟨g,cap,cur,hv,_,_,hnc,_⟩
 ·omega
 ·simp only [Value.slice.injEq] at hv
  omega
theorem Cq {w:World} {A:Option Addr} {xs:List UInt8} {c k N:Nat} (h:aH w A (B8 xs)) (hc:(B8 xs).length≤c):aH w (if c=k then A else A.map (·.add (k*1))) (B8 ((xs.drop k).take N)):=by
 intro j u hu
 have hj:(B8 xs)[k+j]?=some u:=by
  simp only [B8,List.getElem?_map,List.getElem?_take,List.getElem?_drop] at hu ⊢
  split at hu
  ·exact hu
  ·cases hu
 have hlt:=(List.getElem?_eq_some_iff.1 hj).1
 obtain ⟨b,o,hA,hb,hcell⟩:=h _ _ hj
 refine ⟨b,o+k,?_,hb,by rw [Nat.add_assoc]; exact hcell⟩
 rw [if_neg om,hA]
 show some ((⟨b,o,none⟩:Addr).add (k*1))=_
 rw [iK,Nat.mul_one]
theorem Gl (br:Nat) (D:List UInt8) (off last N:Nat) (err:Int) (w:World) (A:Option Addr) (c:Nat) (ha:At w br 187 [.slice A D.length c,vi (off:Int),vi (last:Int),vi err]) (_hl:D.length≤4294967296) (ho:off≤D.length) (hN:N≤4294967296) (_hc:D.length≤c) (hf:D.length < off+N) :
  Calls Tryz.prog 165 #[vP br 0,vi (N:Int)] w fun e w'=>e = .returned (.tuple #[nS,vi 3])∧Fr [br] w w'∧At w' br 187 [.slice A D.length c,vi (off:Int),vi (last:Int),vi err]:=by
 have HA:=Lib.hid ha
 clear ha
 refine bK Tryz.func165 43 (Mm.one HA.out) rfl<|Nc<|lx rfl<|Nf<|aS<|cQ _ 12 kr (fun _ h=>h)<|am 0 ?_
 refine am 1 ?_
 refine aC 2 (vP br 0) rfl<|aC 3 (vP br 0) rfl<|al 4 0 ?_
 refine aC 5 (vI D.length) rfl ?_
 refine am 6 ?_
 refine aC 7 (vP br 0) rfl<|aC 8 (vP br 1) rfl<|al 9 0 ?_
 exact aV 10 (.int .i64 (((D.length:Nat):Int) - ((off:Nat):Int))) rfl (kX _ rfl rfl rfl rfl om om)<|aC 11 (.bool (decide (((N:Nat):Int) > (((D.length:Nat):Int) - ((off:Nat):Int))))) rfl<|cF kr<|aI<|lN rfl (by simp; omega)<|Nc<|lx rfl<|Nh<|sN [nS,(vi 3)] fun w hM=>⟨rfl,hM.fr,hM.at (i:=0) rfl⟩
theorem Gm (br:Nat) (D:List UInt8) (off last N:Nat) (err:Int) (w:World) (A:Option Addr) (c:Nat) (ha:At w br 187 [.slice A D.length c,vi (off:Int),vi (last:Int),vi err]) (hl:D.length≤4294967296) (ho:off≤D.length) (hN:N≤4294967296) (hc:D.length≤c) (hf:off+N≤D.length) :
  Calls Tryz.prog 165 #[vP br 0,vi (N:Int)] w fun e w'=>e = .returned (.tuple #[.slice (if c=off then A else A.map (·.add (off*1))) N (c - off),vi 0])∧Fr [br] w w'∧At w' br 187 [.slice A D.length c,vI (off+N),vi (last:Int),vi err]:=by
 have HA:=Lib.hid ha
 clear ha
 refine bK Tryz.func165 43 (Mm.one HA.out) rfl<|Nc<|lx rfl<|Nf<|aS<|cQ _ 12 kr (fun _ h=>h)<|am 0 ?_
 refine am 1 ?_
 refine aC 2 (vP br 0) rfl<|aC 3 (vP br 0) rfl<|al 4 0 ?_
 refine aC 5 (vI D.length) rfl ?_
 refine am 6 ?_
 refine aC 7 (vP br 0) rfl<|aC 8 (vP br 1) rfl<|al 9 0 ?_
 refine aV 10 (.int .i64 (((D.length:Nat):Int) - ((off:Nat):Int))) rfl (kX _ rfl rfl rfl rfl om om)<|aC 11 (.bool (decide (((N:Nat):Int) > (((D.length:Nat):Int) - ((off:Nat):Int))))) rfl<|cF kr<|aI<|eP rfl (by simp; omega)<|Nl<|cQ _ 16 kr (fun _ h=>h)<|am 0 ?_
 refine aC 1 (vP br 0) rfl<|aC 2 (vP br 0) rfl<|al 3 0 ?_
 refine am 4 ?_
 refine aC 5 (vP br 0) rfl<|aC 6 (vP br 1) rfl<|al 7 0 ?_
 refine am 8 ?_
 refine aC 9 (vP br 0) rfl<|aC 10 (vP br 1) rfl<|al 11 0 ?_
 refine am 12 ?_
 refine aV 13 (vI (off+N)) rfl bO<|aV 14 (.slice (if c=off then A else A.map (·.add (off*1))) (off+N - off) (c - off)) rfl (Bx (e:=5) (sz:=1) rfl kr kr rfl rfl rfl om om)<|aa 15 ?_
 exact cF kr<|aI<|Nc<|lx rfl<|lk (vP br 0)<|lk (vP br 1)<|lL 0 rfl<|lx rfl<|lw (vI (off+N)) bO<|lk (vP br 0)<|lk (vP br 1)<|Nx<|pS 0 rfl<|Nb<|lx rfl<|Nd<|sN [(.slice (if c=off then A else A.map (·.add (off*1))) (off+N - off) (c - off)),(vi 0)] fun w hM=>⟨by rw [show off+N - off=N by omega]; rfl,hM.fr,hM.at (i:=0) rfl⟩
theorem NB (bx br:Nat) (D:List UInt8) (off last:Nat) (err:Int) (w:World) (hx0:At w bx 124 [vP br 0]) (hr:aX X w br D off last err) (hl:D.length≤4294967296) (ho:off≤D.length) (hf:off+32≤D.length) :
  Calls Tryz.prog 164 #[vP bx 0] w fun e w'=>e = .returned (.tuple #[.string (aT ((D.drop off).take 32)),vi 0])∧Fr [br] w w'∧aX X w' br D (off+32) last err:=by
 obtain ⟨A,c,hX,ha,hown⟩:=hr
 have hx:w.cell? ⟨bx,0,none⟩=some (Value.pointer (some ⟨br,0,none⟩)):=by rw [hx0.cell]; rfl
 have hxb:bx≠br:=hx0.ne ha (by decide)
 have HA:=Lib.hid ha
 have HO:=Lib.hid hown
 have HR:Hid (aH w A (B8 D)):=aH.cN hown
 have hc:D.length≤c:=ownCap hown
 have HNB:Hid (∀ g,(Value.slice A D.length c).ownBlock=some g→g∉[br]):=fun g hg=>by
  have h1:=jZ hown ha (by decide)
  simp only [List.mem_singleton]
  rintro rfl
  exact h1 hg.symm
 have HNE:Hid (∀ b o,A=some ⟨b,o,none⟩→b∉[br]):=fun b o hA=>HNB.out b (by rw [hA]; rfl)
 clear ha hown hx0
 refine dI Tryz.func164 13 (Mm.one HA.out) rfl<|Nc<|lx rfl<|Nb<|lW (rW (fun w hM=>hM.dX hx (by simpa using hxb)))<|Nx<|cU 165 #[(vP br 0),(vi 32)] rfl kr (fun _=>kr) (fun w hM=>(Gm br D off last 32 err w A c (hM.at (i:=0) rfl) hl ho om hc hf).mono ?_)
 rintro e w' ⟨rfl,hf2,ha2⟩
 have hM':=hM.swap 0 (c':=aD br 187 [(.slice A (D.length) (c)),(vI (off+32)),(vI last),(vi err)]) rfl hf2 ha2 (fun b hb=>.inl hb) (by simp [aD])
 refine ⟨_,_,rfl,hM',?_⟩
 clear hM hM' hf2 ha2
 exact lx rfl<|Nb<|lx rfl<|lw (vS ((D.drop off).take 32)) (kW (e:=5) ((D.drop off).take 32) rfl kr kr kr rfl (by rw [List.length_take,List.length_drop]; omega) (fun w hM=>Cq (HR.out.fr hM.fr HNE.out) (by rw [dL]; exact hc)))<|lx rfl<|Nd<|sN [(vS ((D.drop off).take 32)),(vi 0)] fun w hM=>⟨rfl,hM.fr,A,c,hX,hM.at (i:=0) rfl,dY HO.out hM.fr HNB.out⟩
theorem NC (bx br:Nat) (D:List UInt8) (off last:Nat) (err:Int) (w:World) (hx0:At w bx 124 [vP br 0]) (hr:aX X w br D off last err) (hl:D.length≤4294967296) (ho:off≤D.length) (hf:D.length < off+32) :
  Calls Tryz.prog 164 #[vP bx 0] w fun e w'=>e = .returned (.tuple #[.string (aT []),vi 3])∧Fr [br] w w'∧aX X w' br D off last err:=by
 obtain ⟨A,c,hX,ha,hown⟩:=hr
 have hx:w.cell? ⟨bx,0,none⟩=some (Value.pointer (some ⟨br,0,none⟩)):=by rw [hx0.cell]; rfl
 have hxb:bx≠br:=hx0.ne ha (by decide)
 have HA:=Lib.hid ha
 have HO:=Lib.hid hown
 have HR:Hid (aH w A (B8 D)):=aH.cN hown
 have hc:D.length≤c:=ownCap hown
 have HNB:Hid (∀ g,(Value.slice A D.length c).ownBlock=some g→g∉[br]):=fun g hg=>by
  have h1:=jZ hown ha (by decide)
  simp only [List.mem_singleton]
  rintro rfl
  exact h1 hg.symm
 have HNE:Hid (∀ b o,A=some ⟨b,o,none⟩→b∉[br]):=fun b o hA=>HNB.out b (by rw [hA]; rfl)
 clear ha hown hx0
 refine dI Tryz.func164 13 (Mm.one HA.out) rfl<|Nc<|lx rfl<|Nb<|lW (rW (fun w hM=>hM.dX hx (by simpa using hxb)))<|Nx<|cU 165 #[(vP br 0),(vi 32)] rfl kr (fun _=>kr) (fun w hM=>(Gl br D off last 32 err w A c (hM.at (i:=0) rfl) hl ho om hc hf).mono ?_)
 rintro e w' ⟨rfl,hf2,ha2⟩
 have hM':=hM.swap 0 (c':=aD br 187 [(.slice A (D.length) (c)),(vI off),(vI last),(vi err)]) rfl hf2 ha2 (fun b hb=>.inl hb) (by simp [aD])
 refine ⟨_,_,rfl,hM',?_⟩
 clear hM hM' hf2 ha2
 exact lx rfl<|Nb<|lx rfl<|lw (vS ([])) (kW (e:=5) [] rfl kr kr kr rfl rfl (fun w hM j v hj=>by simp [B8] at hj))<|lx rfl<|Nd<|sN [(vS ([])),(vi 3)] fun w hM=>⟨rfl,hM.fr,A,c,hX,hM.at (i:=0) rfl,dY HO.out hM.fr HNB.out⟩
theorem ND (b0 b1 b2 br:Nat) (A:Option Addr) (n c:Nat) (off last start:Int) (w:World) (h0:At w b0 3 [vi start]) (h1:At w b1 124 [vP br 0]) (hr:At w br 187 [.slice A n c,vi off,vi last,vi 0]) :
  CallsD Tryz.prog 189 #[vP b0 0,vP b1 0,vP b2 0] .returning w fun e u' w'=>u' = .returning∧e = .returned (.tuple #[])∧w'=w.setCell ⟨br,2,none⟩ (vi start):=by
 have c0:w.cell? ⟨b0,0,none⟩=some (Value.int .i64 start):=by rw [h0.cell]; rfl
 have c1:w.cell? ⟨b1,0,none⟩=some (Value.pointer (some ⟨br,0,none⟩)):=by rw [h1.cell]; rfl
 have c2:w.cell? ⟨br,2,none⟩=some (Value.int .i64 last):=by rw [hr.cell]; rfl
 have c3:w.cell? ⟨br,3,none⟩=some (vi 0):=by rw [hr.cell]; rfl
 have z2:=hr.frozen 2
 have hne:b1≠br:=h1.ne hr (by decide)
 clear h0 h1 hr
 go_enter_d Tryz.func189,Tryz.ntmps189
 go_wp2_with fail
 go_end0
 exact ⟨rfl,rfl⟩
theorem NF (b0 b1 b2 br:Nat) (A:Option Addr) (n c:Nat) (off last start err:Int) (v:Value) (w:World) (h0:At w b0 3 [vi start]) (h1:At w b1 124 [vP br 0]) (h2:At w b2 9 [v]) (hr:At w br 187 [.slice A n c,vi off,vi last,vi err]) (he:err≠0) (hb:b2≠b0∧b2≠br) :
  CallsD Tryz.prog 189 #[vP b0 0,vP b1 0,vP b2 0] .returning w fun e u' w'=>u' = .returning∧e = .returned (.tuple #[])∧w'=((w.setCell ⟨br,2,none⟩ (vi start)).setCell ⟨br,1,none⟩ (vi start)).setCell ⟨b2,0,none⟩ (.string ⟨#[]⟩):=by
 have c0:w.cell? ⟨b0,0,none⟩=some (Value.int .i64 start):=by rw [h0.cell]; rfl
 have c1:w.cell? ⟨b1,0,none⟩=some (Value.pointer (some ⟨br,0,none⟩)):=by rw [h1.cell]; rfl
 have cr1:w.cell? ⟨br,1,none⟩=some (Value.int .i64 off):=by rw [hr.cell]; rfl
 have c2:w.cell? ⟨br,2,none⟩=some (Value.int .i64 last):=by rw [hr.cell]; rfl
 have c3:w.cell? ⟨br,3,none⟩=some (Value.int .i64 err):=by rw [hr.cell]; rfl
 have c4:w.cell? ⟨b2,0,none⟩=some v:=by rw [h2.cell]; rfl
 have z2:=hr.frozen 2
 have z1:=hr.frozen 1
 have z4:=h2.frozen 0
 have hne:b1≠br:=h1.ne hr (by decide)
 have hne2:b2≠br:=hb.2
 have hne0:b0≠br:=h0.ne hr (by decide)
 have heb:(err != 0)=true:=by simpa using he
 clear h0 h1 hr h2 he hb
 go_enter_d Tryz.func189,Tryz.ntmps189
 go_wp2_with fail
 go_end0
 exact ⟨rfl,rfl⟩
set_option maxHeartbeats 4000000 in
theorem NG (br:Nat) (D:List UInt8) (off last m:Nat) (x:List UInt8) (bx:Nat) (w:World) (hr:aX X w br D off last 0)
  (hdec:∀ W,Fr [] w W→aX X W br D off last 0→Calls Tryz.prog 164 #[vP bx 0] W fun e w'=>e = .returned (.tuple #[.string (aT x),vi 0])∧Fr [br] W w'∧aX X w' br D m last 0) :
  Calls Tryz.prog 163 #[vP br 0,.func (.func 164) #[] #[vP bx 0]] w fun e w'=>e = .returned (vS x)∧Fr [br] w w'∧aX X w' br D m off 0:=by
 obtain ⟨A,c,hX,ha,hrow⟩:=hr
 have c1:w.cell? ⟨br,1,none⟩=some (Value.int .i64 (off:Int)):=by rw [ha.cell]; rfl
 have c3:w.cell? ⟨br,3,none⟩=some (vi 0):=by rw [ha.cell]; rfl
 have hlt:=ha.lt
 have HR:=Lib.hid (And.intro ha hrow)
 have HD:=Lib.hid hdec
 clear ha hrow hdec
 have hmf:∀ (fn:Fn) (first cap:Array Value) (w:World),(Instr.makeFunc fn first cap).run Tryz.prog w = .ok (.func fn first cap) w:=fun _ _ _ _=>rfl
 go_enter_defers Tryz.func163,Tryz.ntmps163
 go_wp2_with fail
 obtain ⟨W,hW⟩:∃ W,W=((w.alloc (Obj.cells #[vP br 0] 124)).alloc (Obj.cells #[Value.string ⟨#[]⟩] 9)).alloc (Obj.cells #[vi (off:Int)] 3):=⟨_,rfl⟩
 rw [← hW]
 have HW:Hid (At W w.heap.size 124 [vP br 0]∧At W (w.heap.size+1) 9 [Value.string ⟨#[]⟩]∧At W (w.heap.size+1+1) 3 [vi (off:Int)]∧Fr [] w W∧aX X W br D off last 0):=by
  rw [hW]
  refine ⟨((At.new w 124 [vP br 0]).alloc _).alloc _,?_,?_,(((Fr.refl _ _).alloc _).alloc _).alloc _,A,c,hX,((HR.out.1.alloc _).alloc _).alloc _,((HR.out.2.alloc _).alloc _).alloc _⟩
  ·have:=(At.new (w.alloc (Obj.cells #[vP br 0] 124)) 9 [Value.string ⟨#[]⟩]).alloc (Obj.cells #[vi (off:Int)] 3)
   simpa using this
  ·have:=At.new ((w.alloc (Obj.cells #[vP br 0] 124)).alloc (Obj.cells #[Value.string ⟨#[]⟩] 9)) 3 [vi (off:Int)]
   simpa using this
 clear hW c1 c3
 have d0:W.cell? ⟨w.heap.size,0,none⟩=some (Value.pointer (some ⟨br,0,none⟩)):=by rw [HW.out.1.cell]; rfl
 have nb1:w.heap.size≠br:=om
 have nb2:br≠w.heap.size:=om
 go_region_held3 (fun w'=>w'.cell? ⟨w.heap.size,0,none⟩=some (Value.pointer (some ⟨br,0,none⟩))) (go_keep) (first | (go_at_call 164; refine (HD.out W.drew (by exact HW.out.2.2.2.1.drew) (by exact HW.out.2.2.2.2)).mono ?_; rintro e w1 ⟨rfl,hf1,hr1⟩; obtain ⟨e0,e1,z1,e3,z3⟩:=oM (W:=W) HW.out.1 HW.out.2.1 HW.out.2.2.2.2 hf1 hr1; have H1:=Lib.hid (And.intro hf1 hr1); clear hf1 hr1))
 go_wp2_with fail
 obtain ⟨k0,k1,k2,k3,kf⟩:=oN HW.out.1 HW.out.2.1 HW.out.2.2.1 HW.out.2.2.2.2 H1.out.1 H1.out.2 (Value.string (aT x)) (vi 0) om (by decide)
 refine leaves_cons (f:=189) (args:=#[Value.pointer (some ⟨w.heap.size+1+1,0,none⟩),Value.pointer (some ⟨w.heap.size,0,none⟩),Value.pointer (some ⟨w.heap.size+1,0,none⟩)]) si (by simp [go_sem]) ?_
 obtain ⟨A',c',hX',k3'⟩:=k3
 refine (ND _ _ _ br A' _ c' _ _ _ _ k2 k0 k3'.1).mono ?_
 rintro e u' w'' ⟨rfl,rfl,rfl⟩
 obtain ⟨g1,g2,g3⟩:=wJ (off:=off) HW.out.2.2.2.1 kf om k1 (by decide) k3'.1 k3'.2 hX'
 exact ⟨Value.string (aT x),by simp [results,Tryz.results163,go_sem,g1],rfl,g2,g3⟩
set_option maxHeartbeats 4000000 in
theorem NH (br:Nat) (D:List UInt8) (off last:Nat) (er:Int) (x:List UInt8) (bx:Nat) (w:World) (hr:aX X w br D off last 0) (he:er≠0)
  (hdec:∀ W,Fr [] w W→aX X W br D off last 0→Calls Tryz.prog 164 #[vP bx 0] W fun e w'=>e = .returned (.tuple #[.string (aT x),vi er])∧Fr [br] W w'∧∃ off':Nat,aX X w' br D off' last 0) :
  Calls Tryz.prog 163 #[vP br 0,.func (.func 164) #[] #[vP bx 0]] w fun e w'=>e = .returned (.string ⟨#[]⟩)∧Fr [br] w w'∧aX X w' br D off off er:=by
 have HE:=Lib.hid he
 clear he
 obtain ⟨A,c,hX,ha,hrow⟩:=hr
 have c1:w.cell? ⟨br,1,none⟩=some (Value.int .i64 (off:Int)):=by rw [ha.cell]; rfl
 have c3:w.cell? ⟨br,3,none⟩=some (vi 0):=by rw [ha.cell]; rfl
 have hlt:=ha.lt
 have HR:=Lib.hid (And.intro ha hrow)
 have HD:=Lib.hid hdec
 clear ha hrow hdec
 have hmf:∀ (fn:Fn) (first cap:Array Value) (w:World),(Instr.makeFunc fn first cap).run Tryz.prog w = .ok (.func fn first cap) w:=fun _ _ _ _=>rfl
 go_enter_defers Tryz.func163,Tryz.ntmps163
 go_wp2_with fail
 obtain ⟨W,hW⟩:∃ W,W=((w.alloc (Obj.cells #[vP br 0] 124)).alloc (Obj.cells #[Value.string ⟨#[]⟩] 9)).alloc (Obj.cells #[vi (off:Int)] 3):=⟨_,rfl⟩
 rw [← hW]
 have HW:Hid (At W w.heap.size 124 [vP br 0]∧At W (w.heap.size+1) 9 [Value.string ⟨#[]⟩]∧At W (w.heap.size+1+1) 3 [vi (off:Int)]∧Fr [] w W∧aX X W br D off last 0):=by
  rw [hW]
  refine ⟨((At.new w 124 [vP br 0]).alloc _).alloc _,?_,?_,(((Fr.refl _ _).alloc _).alloc _).alloc _,A,c,hX,((HR.out.1.alloc _).alloc _).alloc _,((HR.out.2.alloc _).alloc _).alloc _⟩
  ·have:=(At.new (w.alloc (Obj.cells #[vP br 0] 124)) 9 [Value.string ⟨#[]⟩]).alloc (Obj.cells #[vi (off:Int)] 3)
   simpa using this
  ·have:=At.new ((w.alloc (Obj.cells #[vP br 0] 124)).alloc (Obj.cells #[Value.string ⟨#[]⟩] 9)) 3 [vi (off:Int)]
   simpa using this
 clear hW c1 c3
 have d0:W.cell? ⟨w.heap.size,0,none⟩=some (Value.pointer (some ⟨br,0,none⟩)):=by rw [HW.out.1.cell]; rfl
 have nb1:w.heap.size≠br:=om
 have nb2:br≠w.heap.size:=om
 go_region_held3 (fun w'=>w'.cell? ⟨w.heap.size,0,none⟩=some (Value.pointer (some ⟨br,0,none⟩))) (go_keep) (first | (go_at_call 164; refine (HD.out W.drew (by exact HW.out.2.2.2.1.drew) (by exact HW.out.2.2.2.2)).mono ?_; rintro e w1 ⟨rfl,hf1,off',hr1⟩; obtain ⟨e0,e1,z1,e3,z3⟩:=oM (W:=W) HW.out.1 HW.out.2.1 HW.out.2.2.2.2 hf1 hr1; have H1:=Lib.hid (And.intro hf1 hr1); clear hf1 hr1))
 go_wp2_with fail
 obtain ⟨k0,k1,k2,k3,kf⟩:=oN HW.out.1 HW.out.2.1 HW.out.2.2.1 HW.out.2.2.2.2 H1.out.1 H1.out.2 (Value.string (aT x)) (Value.int .i64 er) om (by decide)
 refine leaves_cons (f:=189) (args:=#[Value.pointer (some ⟨w.heap.size+1+1,0,none⟩),Value.pointer (some ⟨w.heap.size,0,none⟩),Value.pointer (some ⟨w.heap.size+1,0,none⟩)]) si (by simp [go_sem]) ?_
 obtain ⟨A',c',hX',k3'⟩:=k3
 refine (NF _ _ _ br A' _ c' _ _ _ er (Value.string (aT x)) _ k2 k0 k1 k3'.1 HE.out om).mono ?_
 rintro e u' w'' ⟨rfl,rfl,rfl⟩
 obtain ⟨g1,g2,g3⟩:=wK (off:=off) (z:=Value.string ⟨#[]⟩) HW.out.2.2.2.1 kf om k1 (by decide) (by decide) k3'.1 k3'.2 hX'
 exact ⟨Value.string ⟨#[]⟩,by simp [results,Tryz.results163,go_sem,g1],rfl,g2,g3⟩
theorem NI (br:Nat) (r:Rd) (fv:Value) (w:World) (hr:bA X w br r) (h0:r.err≠0) :
  Calls Tryz.prog 163 #[vP br 0,fv] w fun e w'=>e = .returned (.string ⟨#[]⟩)∧Fr [] w w'∧bA X w' br r:=by
 have hr0:=hr
 obtain ⟨A,c,hX,ha,hrow⟩:=hr
 have c3:w.cell? ⟨br,3,none⟩=some (Value.int .i64 r.err):=by rw [ha.cell]; rfl
 have hb:(r.err != 0)=true:=by simpa using h0
 have hlt:=ha.lt
 have HR:=Lib.hid hr0
 clear ha hrow hr0 h0
 go_enter_defers Tryz.func163,Tryz.ntmps163
 go_wp2_with fail
 have hf:Fr [] w ((w.alloc (Obj.cells #[vP br 0] 124)).alloc (Obj.cells #[Value.string ⟨#[]⟩] 9)):=((Fr.refl _ _).alloc _).alloc _
 exact ⟨Value.string ⟨#[]⟩,by simp [results,Tryz.results163,go_sem],rfl,hf,aX.fr HR.out hf⟩
def Rd.sum (r : Rd) : List UInt8 × Rd := if r.err = 0 then (if r.off + 32 ≤ r.D.length then ((r.D.drop r.off).take 32, r.done (r.off + 32)) else ([], r.fail 3)) else ([], r)
theorem NJ (br:Nat) (r:Rd) (w:World) (hr:bA X w br r) (hk:r.Ok) (h0:r.err≠0) :
  Calls Tryz.prog 122 #[vP br 0] w fun e w'=>e = .returned (vS r.sum.1)∧Fr [br] w w'∧bA X w' br r.sum.2:=by
 have HR:=Lib.hid hr
 have HK:=Lib.hid hk
 clear hr hk
 refine dI Tryz.func122 6 (Mm.start w []) rfl<|Nc<|Nx<|pB [(vP br 0)] fun b1=>lx rfl<|Nb<|lL 0 rfl<|lk (.func (.func 164) #[] #[(vP b1 0)])<|Nx<|mF 163 #[(vP br 0),(.func (.func 164) #[] #[(vP b1 0)])] rfl kr (fun _=>kr) (fun w1 hM=>?_)
 have HR1:Hid (bA X w1 br r):=aX.fr HR.out hM.fr
 have HB1:Hid (At w1 b1 124 [vP br 0]):=hM.at (i:=0) rfl
 have HF1:=Lib.hid hM.fr
 refine (NI br r _ w1 HR1.out h0).mono ?_
 rintro e w2 ⟨rfl,hf,hr2⟩
 refine ⟨_,w2,[],[],rfl,Mm.start w2 [],?_⟩
 clear hM
 exact lx rfl<|Nd<|sN [(.string ⟨#[]⟩)] fun w hM=>⟨by unfold Rd.sum; rw [if_neg h0]; rfl,((HF1.out.trans hf).trans hM.fr).mono si,by unfold Rd.sum; rw [if_neg h0]; exact aX.fr hr2 hM.fr⟩
theorem NK (br:Nat) (r:Rd) (w:World) (hr:bA X w br r) (hk:r.Ok) (h0:r.err=0) (hf32:r.off+32≤r.D.length) :
  Calls Tryz.prog 122 #[vP br 0] w fun e w'=>e = .returned (vS r.sum.1)∧Fr [br] w w'∧bA X w' br r.sum.2:=by
 have HR:=Lib.hid hr
 have HK:=Lib.hid hk
 clear hr hk
 refine dI Tryz.func122 6 (Mm.start w []) rfl<|Nc<|Nx<|pB [(vP br 0)] fun b1=>lx rfl<|Nb<|lL 0 rfl<|lk (.func (.func 164) #[] #[(vP b1 0)])<|Nx<|mF 163 #[(vP br 0),(.func (.func 164) #[] #[(vP b1 0)])] rfl kr (fun _=>kr) (fun w1 hM=>?_)
 have HR1:Hid (bA X w1 br r):=aX.fr HR.out hM.fr
 have HB1:Hid (At w1 b1 124 [vP br 0]):=hM.at (i:=0) rfl
 have HF1:=Lib.hid hM.fr
 refine (NG br r.D r.off r.last (r.off+32) ((r.D.drop r.off).take 32) b1 w1 (by have h:=HR1.out; unfold bA at h; rw [h0] at h; exact h) (fun W hf hr=>(NB b1 br r.D r.off r.last 0 W (HB1.out.fr hf si) hr HK.out.len HK.out.off hf32))).mono ?_
 rintro e w2 ⟨rfl,hf,hr2⟩
 refine ⟨_,w2,[],[],rfl,Mm.start w2 [],?_⟩
 clear hM
 exact lx rfl<|Nd<|sN [(vS ((r.D.drop r.off).take 32))] fun w hM=>⟨by unfold Rd.sum; rw [if_pos h0,if_pos hf32]; rfl,((HF1.out.mono si).trans hf).trans (hM.fr.mono si),by unfold Rd.sum Rd.done bA; rw [if_pos h0,if_pos hf32]; have h:=aX.fr hr2 hM.fr; rw [← h0] at h; exact h⟩
theorem NL (br:Nat) (r:Rd) (w:World) (hr:bA X w br r) (hk:r.Ok) (h0:r.err=0) (hf32:¬ r.off+32≤r.D.length) :
  Calls Tryz.prog 122 #[vP br 0] w fun e w'=>e = .returned (vS r.sum.1)∧Fr [br] w w'∧bA X w' br r.sum.2:=by
 have HR:=Lib.hid hr
 have HK:=Lib.hid hk
 clear hr hk
 refine dI Tryz.func122 6 (Mm.start w []) rfl<|Nc<|Nx<|pB [(vP br 0)] fun b1=>lx rfl<|Nb<|lL 0 rfl<|lk (.func (.func 164) #[] #[(vP b1 0)])<|Nx<|mF 163 #[(vP br 0),(.func (.func 164) #[] #[(vP b1 0)])] rfl kr (fun _=>kr) (fun w1 hM=>?_)
 have HR1:Hid (bA X w1 br r):=aX.fr HR.out hM.fr
 have HB1:Hid (At w1 b1 124 [vP br 0]):=hM.at (i:=0) rfl
 have HF1:=Lib.hid hM.fr
 refine (NH br r.D r.off r.last 3 [] b1 w1 (by have h:=HR1.out; unfold bA at h; rw [h0] at h; exact h) (by decide) (fun W hf hr=>((NC b1 br r.D r.off r.last 0 W (HB1.out.fr hf si) hr HK.out.len HK.out.off om).mono (fun e w' h=>⟨h.1,h.2.1,r.off,h.2.2⟩)))).mono ?_
 rintro e w2 ⟨rfl,hf,hr2⟩
 refine ⟨_,w2,[],[],rfl,Mm.start w2 [],?_⟩
 clear hM
 exact lx rfl<|Nd<|sN [(.string ⟨#[]⟩)] fun w hM=>⟨by unfold Rd.sum; rw [if_pos h0,if_neg hf32]; rfl,((HF1.out.mono si).trans hf).trans (hM.fr.mono si),by unfold Rd.sum Rd.fail bA; rw [if_pos h0,if_neg hf32]; exact aX.fr hr2 hM.fr⟩
theorem Gn (br:Nat) (r:Rd) (w:World) (hr:bA X w br r) (hk:r.Ok):Calls Tryz.prog 122 #[vP br 0] w fun e w'=>e = .returned (vS r.sum.1)∧Fr [br] w w'∧bA X w' br r.sum.2:=by
 by_cases h0:r.err=0
 ·by_cases hf:r.off+32≤r.D.length
  ·exact NK br r w hr hk h0 hf
  ·exact NL br r w hr hk h0 hf
 ·exact NJ br r w hr hk h0
end
theorem uE (n:Nat):0 < (aE n).length:=by
 by_cases h:n < 128
 ·rw [mO n h]; simp
 ·rw [nR n h]; simp
theorem Gp (n:Nat):∀ l:List UInt8,dM (aE n++l) (aE n).length=n:=by
 induction n using Nat.strongRecOn with
 | _ n ih =>
   intro l
   by_cases hn:n < 128
   ·rw [mO n hn]
    simp [dM]
    omega
   ·rw [nR n hn]
    have h:=ih (n / 128) (Nat.div_lt_self om om) l
    rw [List.length_cons,List.cons_append,dM,h,Bg _ om]
    omega
theorem Gq (n:Nat):eG (eZ n)=n:=by
 unfold eG eZ
 by_cases h:n % 2=1
 ·rw [if_pos h,if_pos om]; omega
 ·rw [if_neg h,if_neg om]; omega
theorem Gr:∀ (l:List UInt8) (j:Nat) (b:UInt8),j < ahead l→l[j]?=some b→128≤b.toNat
 | [],j,b,h,_=>by simp [ahead] at h
 | c::l,j,b,h,hb=>by
   rw [ahead] at h
   split at h
   ·omega
   ·cases j with
    | zero =>
      simp at hb
      subst hb
      omega
    | succ j=>exact Gr l j b om (by simpa using hb)
theorem Gs:∀ (l:List UInt8) (b:UInt8),l[ahead l]?=some b→b.toNat < 128
 | [],b,h=>by simp at h
 | c::l,b,h=>by
   rw [ahead] at h
   split at h
   ·rename_i hc
    simp at h
    subst h
    exact hc
   ·exact Gs l b (by simpa using h)
theorem zE (D:List UInt8) (off n m:Nat) (h:dE D off=some (n,m)):D.drop off=aE n++D.drop m:=by
 unfold dE at h
 split at h
 ·cases h
 ·rename_i b hb
  split at h
  ·rename_i hc
   simp only [Option.some.injEq,Prod.mk.injEq] at h
   obtain ⟨rfl,rfl⟩:=h
   have:=(EE (ahead (D.drop off)) (D.drop off) (fun j c hj hcj=>Gr _ j c hj hcj) ⟨b,hb,Gs _ b hb,hc.2.1⟩).1
   rw [List.drop_drop] at this
   rw [show off+ahead (D.drop off)+1=off+(ahead (D.drop off)+1) by omega]
   exact this
  ·cases h
theorem zF (D:List UInt8) (off n:Nat) (rest:List UInt8) (h:D.drop off=aE n++rest) (hn:bI n):dE D off=some (n,off+(aE n).length):=by
 have hp:=uE n
 have hl:=fG n hn
 obtain ⟨k,hk⟩:∃ k,(aE n).length=k+1:=⟨(aE n).length - 1,om⟩
 have hget:∀ j,j < k+1→D[off+j]?=(aE n)[j]?:=by
  intro j hj
  rw [← List.getElem?_drop,h,List.getElem?_append_left om]
 have hx:=List.getElem?_eq_getElem (l:=aE n) (i:=k) om
 generalize (aE n)[k]=x at hx
 have hx':D[off+k]?=some x:=by rw [hget k om]; exact hx
 obtain ⟨_,g2⟩:=EF n k x hx
 obtain ⟨g3,g4⟩:=g2 om
 rw [rG D off k x (fun j b hj hb=>(EF n j b (by rw [← hget j om]; exact hb)).1 om) hx' g3,if_pos,hk]
 ·have ea:=Gp n rest
  rw [hk] at ea
  rw [h,ea]
  rfl
 ·refine ⟨om,fun hh=>g4 hh.1 hh.2,fun hh=>?_⟩
  have ea:=Gp n rest
  rw [hk,← h] at ea
  have es:=qC k (D.drop off) x (by rw [List.getElem?_drop]; exact hx')
  rw [ea,hh.1] at es
  unfold bI at hn
  have:x.toNat % 128=x.toNat:=Nat.mod_eq_of_lt g3
  rw [this] at es
  have h9:(128:Nat) ^ 9=9223372036854775808:=by decide
  rw [h9] at es
  have:=hh.2
  omega
structure iS (r r' : Rd) (bs : List UInt8) : Prop where
 err : r.err = 0
 D : r'.D = r.D
 bytes : r.D.drop r.off = bs ++ r.D.drop r'.off
theorem iS.trans {a b c:Rd} {x y:List UInt8} (h:iS a b x) (k:iS b c y):iS a c (x++y) :=
 ⟨h.err,k.D.trans h.D,by rw [h.bytes,List.append_assoc]; congr 1; have:=k.bytes; rwa [h.D] at this⟩
theorem rY (r:Rd) (h:r.uint.2.err=0):iS r r.uint.2 (aE r.uint.1):=by
 unfold Rd.uint at h ⊢
 by_cases he:r.err=0
 ·rw [if_pos he] at h ⊢
  cases hd:dE r.D r.off with
  | none=>rw [hd] at h; cases h
  | some p=>exact ⟨he,rfl,zE _ _ _ _ hd⟩
 ·rw [if_neg he] at h
  exact absurd h he
theorem NM (r:Rd) (h:r.int.2.err=0):iS r r.int.2 (aE (eG r.int.1)):=by
 have:=rY r h
 have e:eG r.int.1=r.uint.1:=Gq _
 rw [e]
 exact this
structure cR (r : Rd) (bs : List UInt8) : Prop where
 err : r.err = 0
 bytes : r.D.drop r.off = bs
theorem cR.uint {r:Rd} {n:Nat} {rest:List UInt8} (h:cR r (aE n++rest)) (hn:bI n):r.uint.1=n∧cR r.uint.2 rest:=by
 have hd:=zF r.D r.off n rest h.bytes hn
 unfold Rd.uint
 rw [if_pos h.err,hd]
 refine ⟨rfl,h.err,?_⟩
 show r.D.drop (r.off+(aE n).length)=rest
 rw [← List.drop_drop,h.bytes,List.drop_left]
theorem cR.int {r:Rd} {v:Int} {rest:List UInt8} (h:cR r (aE (eG v)++rest)) (hv:mP v):r.int.1=v∧cR r.int.2 rest:=by
 obtain ⟨h1,h2⟩:=h.uint (tJ v hv.1 hv.2)
 exact ⟨by show eZ r.uint.1=v; rw [h1,MX],h2⟩
theorem zG (r:Rd) (h:r.sum.2.err=0):iS r r.sum.2 r.sum.1∧r.sum.1.length=32:=by
 unfold Rd.sum at h ⊢
 by_cases he:r.err=0
 ·rw [if_pos he] at h ⊢
  by_cases hf:r.off+32≤r.D.length
  ·rw [if_pos hf]
   refine ⟨⟨he,rfl,?_⟩,by simp; omega⟩
   show r.D.drop r.off=(r.D.drop r.off).take 32++r.D.drop (r.off+32)
   rw [← List.drop_drop,List.take_append_drop]
  ·rw [if_neg hf] at h
   cases h
 ·rw [if_neg he] at h
  exact absurd h he
theorem cR.sum {r:Rd} {k rest:List UInt8} (h:cR r (k++rest)) (hk:k.length=32):r.sum.1=k∧cR r.sum.2 rest:=by
 have hl:=congrArg List.length h.bytes
 rw [List.length_drop,List.length_append] at hl
 unfold Rd.sum
 rw [if_pos h.err,if_pos om]
 refine ⟨?_,h.err,?_⟩
 ·show (r.D.drop r.off).take 32=k
  rw [h.bytes,← hk,List.take_left]
 ·show r.D.drop (r.off+32)=rest
  rw [← List.drop_drop,h.bytes,← hk,List.drop_left]
theorem Rd.Ok.uint' {r:Rd} (h:r.Ok):r.uint.2.Ok:=h.uint fun n m hd=>(pP _ _ n m hd).2.1
theorem Rd.Ok.int {r:Rd} (h:r.Ok):r.int.2.Ok:=h.uint'
theorem Rd.Ei (r:Rd):mP r.int.1:=Cp _ r.AU
theorem Rd.Ok.sum {r:Rd} (h:r.Ok):r.sum.2.Ok:=by
 unfold Rd.sum
 by_cases he:r.err=0
 ·rw [if_pos he]
  by_cases hf:r.off+32≤r.D.length
  ·rw [if_pos hf]; exact ⟨hf,h.len⟩
  ·rw [if_neg hf]; exact ⟨h.off,h.len⟩
 ·rw [if_neg he]; exact h
theorem Rd.xV (r:Rd):r.sum.1.length≤32:=by
 unfold Rd.sum
 split
 ·split
  ·simp; omega
  ·simp
 ·simp
theorem iS.end_ {r r':Rd} {bs:List UInt8} (h:iS r r' bs) (he:r'.end_=0):r.D.drop r.off=bs:=by
 unfold Rd.end_ at he
 have hoff:r'.D.length≤r'.off:=by
  split at he
  ·rename_i h1; exact absurd he h1
  ·split at he
   ·cases he
   ·omega
 rw [h.bytes,List.drop_eq_nil_of_le (by rw [← h.D]; exact hoff),List.append_nil]
theorem Rd.KH {r:Rd} (h:r.end_=0):r.err=0:=by
 unfold Rd.end_ at h
 split at h
 ·exact h
 ·rename_i h1; omega
theorem cR.end_ {r:Rd} (h:cR r []):r.end_=0:=by
 have hl:=congrArg List.length h.bytes
 rw [List.length_drop,List.length_nil] at hl
 unfold Rd.end_
 rw [if_neg (by rw [h.err]; simp),if_neg om]
def jO (x : List UInt8) : List UInt8 := x ++ List.replicate (32 - x.length) 0
def Rd.cell (r : Rd) : BC × Rd := (⟨r.int.1, jO r.int.2.sum.1, r.int.2.sum.2.uint.1⟩, r.int.2.sum.2.uint.2)
def iY (r : Rd) : Nat → Rd
 | 0 => r
 | i + 1 => (iY r i).cell.2
def lQ (r : Rd) (i : Nat) : List BC := (List.range i).map fun j => (iY r j).cell.1
def jE (r : Rd) (n i : Nat) : List BC := lQ r i ++ List.replicate (n - i) BC.zero
def hF (D : List UInt8) : Rd := ⟨D, 0, 0, 0⟩
def kN (D : List UInt8) : Nat := (hF D).uint.1
def rZ (D : List UInt8) : Rd := (hF D).uint.2.uint.2
def qO (D : List UInt8) : BT := ⟨lQ (rZ D) (kN D), (hF D).uint.2.uint.1⟩
def oO (D : List UInt8) : Rd := iY (rZ D) (kN D)
theorem Gt {x:List UInt8} (h:x.length≤32):(jO x).length=32:=by simp [jO]; omega
theorem Rd.Ok.cell {r:Rd} (h:r.Ok):r.cell.2.Ok:=h.int.sum.uint'
theorem Rd.Uy (r:Rd):r.cell.1.Ok:=⟨r.Ei,Gt (Rd.xV _),Rd.AU _⟩
theorem Cr {r:Rd} (h:r.Ok):∀ i,(iY r i).Ok
 | 0=>h
 | i+1=>(Cr h i).cell
theorem uF {D:List UInt8} (h:D.length≤4294967296):(hF D).Ok:=⟨Nat.zero_le _,h⟩
theorem uG (r:Rd) (i:Nat):(lQ r i).length=i:=by simp [lQ]
theorem Cs (r:Rd) (i:Nat):lQ r (i+1)=lQ r i++[(iY r i).cell.1]:=by simp [lQ,List.range_succ]
theorem Gu (r:Rd) (i:Nat):∀ c∈lQ r i,c.Ok:=by
 intro c hc
 unfold lQ at hc
 obtain ⟨j,_,rfl⟩:=List.mem_map.1 hc
 exact Rd.Uy _
theorem NN {r:Rd} {n i:Nat} (h:i≤n):(jE r n i).length=n:=by simp [jE,uG]; omega
theorem NO (r:Rd) (n i:Nat):gE (jE r n i):=by
 intro c hc
 rcases List.mem_append.1 hc with hc | hc
 ·exact Gu r i c hc
 ·rw [List.eq_of_mem_replicate hc]; exact BC.Ok.zero
theorem NP (r:Rd) (n:Nat):jE r n 0=List.replicate n BC.zero:=by simp [jE,lQ]
theorem NQ (r:Rd) (n:Nat):jE r n n=lQ r n:=by simp [jE]
theorem NR {r:Rd} {n i:Nat} (h:i < n):(jE r n i)[i]?=some BC.zero:=by
 unfold jE
 rw [List.getElem?_append_right (by rw [uG]; exact Nat.le_refl _),uG,Nat.sub_self,List.getElem?_replicate,if_pos om]
theorem NS {r:Rd} {n i:Nat} (h:i < n):(jE r n i).set i (iY r i).cell.1=jE r n (i+1):=by
 unfold jE
 rw [List.set_append_right _ _ (by rw [uG]; exact Nat.le_refl _),uG,Nat.sub_self,Cs,List.append_assoc]
 congr 1
 rw [show n - i=(n - (i+1))+1 by omega,List.replicate_succ]
 rfl
theorem Ct (D:List UInt8):(qO D).Ok:=⟨Gu _ _,Rd.AU _⟩
theorem Cu (D:List UInt8):(qO D).cells.length=kN D:=uG _ _
theorem Gv (r:Rd) (h:r.cell.2.err=0):iS r r.cell.2 r.cell.1.enc:=by
 have h3:=rY _ h
 have h2:=zG r.int.2 h3.err
 have h1:=NM r h2.1.err
 have e:jO r.int.2.sum.1=r.int.2.sum.1:=by simp [jO,h2.2]
 have:=(h1.trans h2.1).trans h3
 unfold BC.enc
 show iS r _ (aE (eG r.int.1)++jO r.int.2.sum.1++aE r.int.2.sum.2.uint.1)
 rw [e]
 exact this
theorem NT (r:Rd) (i:Nat) (h:(iY r (i+1)).err=0):(iY r i).err=0:=(Gv _ h).err
theorem Gw (r:Rd):∀ i,(iY r i).err=0→iS r (iY r i) ((lQ r i).flatMap BC.enc)
 | 0,h=>⟨h,rfl,rfl⟩
 | i+1,h=>by
   rw [Cs,List.flatMap_append]
   have:=(Gw r i (NT r i h)).trans (Gv _ h)
   rw [List.flatMap_singleton]
   exact this
theorem NU {D:List UInt8} (h:(oO D).end_=0):(qO D).enc=D:=by
 have h3:=Gw (rZ D) (kN D) (Rd.KH h)
 have h2:=rY (hF D).uint.2 h3.err
 have h1:=rY (hF D) h2.err
 have:=((h1.trans h2).trans h3).end_ h
 unfold BT.enc eA
 rw [List.take_length,Cu]
 exact this.symm
/-! ### An encoding is decoded -/
theorem cR.cell {r : Rd} {c : BC} {rest : List UInt8} (h : cR r (c.enc ++ rest)) (hc : c.Ok) : r.cell.1 = c ∧ cR r.cell.2 rest := by
 unfold BC.enc at h
 rw [List.append_assoc, List.append_assoc] at h
 obtain ⟨a1, a2⟩ := h.int hc.count
 obtain ⟨b1, b2⟩ := a2.sum hc.keys
 obtain ⟨c1, c2⟩ := b2.uint hc.checks
 refine ⟨?_, c2⟩
 unfold Rd.cell
 rw [a1, b1, c1]
 have e : jO c.keys = c.keys := by simp [jO, hc.keys]
 rw [e]
theorem Gx {r:Rd} (l:List BC) (hl:∀ c∈l,c.Ok) (h:cR r (l.flatMap BC.enc)):∀ i,i≤l.length→lQ r i=l.take i∧cR (iY r i) ((l.drop i).flatMap BC.enc)
 | 0,_=>⟨by simp [lQ],h⟩
 | i+1,hi=>by
   obtain ⟨h1,h2⟩:=Gx l hl h i om
   have hlt:i < l.length:=om
   rw [List.drop_eq_getElem_cons hlt,List.flatMap_cons] at h2
   obtain ⟨h3,h4⟩:=h2.cell (hl _ (List.getElem_mem _))
   refine ⟨?_,h4⟩
   rw [Cs,h1,h3,List.take_succ_eq_append_getElem hlt]
theorem NV {t:BT} (h:t.Ok) (hn:t.cells.length≤3072):kN t.enc=t.cells.length∧qO t.enc=t∧(oO t.enc).end_=0:=by
 have h0:cR (hF t.enc) (aE t.cells.length++(aE t.seed++t.cells.flatMap BC.enc)):=⟨rfl,by show t.enc=_; unfold BT.enc eA; rw [List.take_length,List.append_assoc]⟩
 obtain ⟨a1,a2⟩:=h0.uint (by unfold bI; omega)
 obtain ⟨b1,b2⟩:=a2.uint h.seed
 obtain ⟨c1,c2⟩:=Gx t.cells h.cells b2 t.cells.length (Nat.le_refl _)
 have e:kN t.enc=t.cells.length:=a1
 refine ⟨e,?_,?_⟩
 ·unfold qO
  rw [e]
  unfold rZ
  rw [c1,b1,List.take_length]
 ·unfold oO
  rw [e]
  rw [List.drop_length] at c2
  exact c2.end_
theorem NW (n:Int) (w:World):Calls Tryz.prog 84 #[vi n] w fun e w'=>e = .returned (.bool (dQ n))∧w=w':=by
 unfold dQ
 by_cases h1:3≤n
 ·by_cases h2:n≤3072
  ·by_cases h3:n % 3=0
   ·have q:(n % 3 == 0)=true:=by simpa using h3
    have e:(decide (3≤n) && decide (n≤3072) && decide (n % 3=0))=true:=by simp [h1,h2,h3]
    rw [e]
    clear e h3
    go_enter Tryz.func84,Tryz.ntmps84
    go_wp2_with fail
    go_ret
    exact ⟨rfl,rfl⟩
   ·have q:(n % 3 == 0)=false:=by simpa using h3
    have e:(decide (3≤n) && decide (n≤3072) && decide (n % 3=0))=false:=by simp [h3]
    rw [e]
    clear e h3
    go_enter Tryz.func84,Tryz.ntmps84
    go_wp2_with fail
    go_ret
    exact ⟨rfl,rfl⟩
  ·have e:(decide (3≤n) && decide (n≤3072) && decide (n % 3=0))=false:=by simp [h2]
   rw [e]
   have d:decide (n≤3072)=false:=by simpa using h2
   clear e
   go_enter Tryz.func84,Tryz.ntmps84
   go_wp2_with fail
   go_ret
   exact ⟨rfl,rfl⟩
 ·have e:(decide (3≤n) && decide (n≤3072) && decide (n % 3=0))=false:=by simp [h1]
  rw [e]
  have d:decide (3≤n)=false:=by simpa using h1
  clear e
  go_enter Tryz.func84,Tryz.ntmps84
  go_wp2_with fail
  go_ret
  exact ⟨rfl,rfl⟩
theorem Cv (n k:Int) (hk:2*n+12≤k) (hk2:k≤(2*n+14) / 3*3) (h3:k % 3=0):k=(2*n+14) / 3*3:=om
theorem NY (n:Int) (w:World):Calls Tryz.prog 39 #[vi n] w fun e w'=>e = .returned (vi (jC n))∧w=w':=by
 obtain ⟨m,hm0,hm1,hm⟩:∃ m:Int,0≤m∧m≤2000∧m=(if n < 0 then 0 else if 2000 < n then 2000 else n):=⟨_,by split <;> (try split) <;> omega,by split <;> (try split) <;> omega,rfl⟩
 have hres:jC n=if 3072 < (2*m+14) / 3*3 then 3072 else (2*m+14) / 3*3:=by
  unfold jC
  split at hm
  ·subst hm
   rw [if_neg om,if_pos om]
   rfl
  ·split at hm
   ·subst hm
    rw [if_pos om]
    rfl
   ·subst hm
    by_cases h:1536 < m
    ·rw [if_pos h,if_pos om]
    ·rw [if_neg h,if_neg om]
     split <;> omega
 rw [hres]
 have HM:=Lib.hid hm
 clear hm hres
 by_cases c1:n < 0
 ·have hmm:m=0:=by have:=HM.out; rw [if_pos c1] at this; exact this
  obtain ⟨m,hmm2⟩:∃ m':Int,m'=m:=⟨m,rfl⟩
  rw [← hmm2] at hmm hm0 hm1 ⊢
  clear hmm2 HM
  have HMM:=Lib.hid hmm
  clear hmm
  go_enter Tryz.func39,Tryz.ntmps39
  go_wp2_with fail
  go_loop [3] (fun v=>∃ k:Int,2*m+12≤k∧k≤(2*m+14) / 3*3∧v=Value.int .i64 k) (fun v=>((2*m+14) / 3*3 - intOf v).toNat)
  case atStart=>exact ⟨2*m+12,by omega,by omega,by rw [HMM.out]; rfl⟩
  case round =>
   obtain ⟨k,k1,k2,rfl⟩:=hrel
   by_cases h3:k % 3=0
   ·have q1:(k % 3 != 0)=false:=by simpa using h3
    have q2:(k % 3 == 0)=true:=by simpa using h3
    have HK:=Lib.hid (Cv m k k1 k2 h3)
    clear h3
    by_cases h4:3072 < k
    ·go_wp2_with fail
     go_ret
     exact ⟨rfl,rfl⟩
    ·go_wp2_with fail
     go_ret
     exact ⟨gG HK.out,rfl⟩
   ·have q1:(k % 3 != 0)=true:=by simpa using h3
    have q2:(k % 3 == 0)=false:=by simpa using h3
    have k3:k+1≤(2*m+14) / 3*3:=om
    go_wp2_with fail
    go_round
    case rel=>exact ⟨k+1,by omega,k3,rfl⟩
    case measure=>simp [intOf] <;> omega
 ·by_cases c2:2000 < n
  ·have hmm:m=2000:=by have:=HM.out; rw [if_neg c1,if_pos c2] at this; exact this
   have HMM:=Lib.hid hmm
   clear hmm HM
   go_enter Tryz.func39,Tryz.ntmps39
   go_wp2_with fail
   go_loop [3] (fun v=>∃ k:Int,2*m+12≤k∧k≤(2*m+14) / 3*3∧v=Value.int .i64 k) (fun v=>((2*m+14) / 3*3 - intOf v).toNat)
   case atStart=>exact ⟨2*m+12,by omega,by omega,by rw [HMM.out]; rfl⟩
   case round =>
    obtain ⟨k,k1,k2,rfl⟩:=hrel
    by_cases h3:k % 3=0
    ·have q1:(k % 3 != 0)=false:=by simpa using h3
     have q2:(k % 3 == 0)=true:=by simpa using h3
     have HK:=Lib.hid (Cv m k k1 k2 h3)
     clear h3
     by_cases h4:3072 < k
     ·go_wp2_with fail
      go_ret
      exact ⟨rfl,rfl⟩
     ·go_wp2_with fail
      go_ret
      exact ⟨gG HK.out,rfl⟩
    ·have q1:(k % 3 != 0)=true:=by simpa using h3
     have q2:(k % 3 == 0)=false:=by simpa using h3
     have k3:k+1≤(2*m+14) / 3*3:=om
     go_wp2_with fail
     go_round
     case rel=>exact ⟨k+1,by omega,k3,rfl⟩
     case measure=>simp [intOf] <;> omega
  ·obtain rfl:m=n:=by have:=HM.out; rw [if_neg c1,if_neg c2] at this; exact this
   clear HM
   go_enter Tryz.func39,Tryz.ntmps39
   go_wp2_with fail
   go_loop [3] (fun v=>∃ k:Int,2*m+12≤k∧k≤(2*m+14) / 3*3∧v=Value.int .i64 k) (fun v=>((2*m+14) / 3*3 - intOf v).toNat)
   case atStart=>exact ⟨2*m+12,by omega,by omega,rfl⟩
   case round =>
    obtain ⟨k,k1,k2,rfl⟩:=hrel
    by_cases h3:k % 3=0
    ·have q1:(k % 3 != 0)=false:=by simpa using h3
     have q2:(k % 3 == 0)=true:=by simpa using h3
     have HK:=Lib.hid (Cv m k k1 k2 h3)
     clear h3
     by_cases h4:3072 < k
     ·go_wp2_with fail
      go_ret
      exact ⟨rfl,rfl⟩
     ·go_wp2_with fail
      go_ret
      exact ⟨gG HK.out,rfl⟩
    ·have q1:(k % 3 != 0)=true:=by simpa using h3
     have q2:(k % 3 == 0)=false:=by simpa using h3
     have k3:k+1≤(2*m+14) / 3*3:=om
     go_wp2_with fail
     go_round
     case rel=>exact ⟨k+1,by omega,k3,rfl⟩
     case measure=>simp [intOf] <;> omega
theorem Gy (p:List UInt8):(aT p).size=p.length:=by simp [aT,ByteArray.size]
theorem NZ (p:List UInt8):Lib.strCells (aT p)=B8 p:=by
 simp [Lib.strCells,aT,B8]
theorem zH (seed i:Nat) (key:List UInt8) (w:World) (hi:i≤3) (hk:key.length≤34359738368) :
  Calls Tryz.prog 133 #[.int .u64 (seed:Int),vi (i:Int),.string (aT key)] w fun e w'=>e = .returned (.int .u64 (gL seed i key:Int))∧Fr [] w w':=by
 obtain ⟨i0,hi0,hz0,hz1,hz2⟩:=info_parts (show (Tryz.prog.info? 5).map (fun i=>(i.zero,i.size,i.bytes))=some (some (.int .u8 0),1,1) by kernel_rfl)
 have HINF:=Lib.hid (And.intro hi0 (And.intro hz0 (And.intro hz1 hz2)))
 clear hi0 hz0 hz1 hz2
 obtain ⟨ks,HKS⟩:∃ ks,Hid (ks=aT key):=⟨_,rfl⟩
 have hks:ks.size≤34359738368:=by rw [HKS.out,Gy]; exact hk
 rw [← HKS.out]
 clear hk
 go_enter Tryz.func133,Tryz.ntmps133
 go_wp2_with fail
 go_loopw [7,8] (fun v s wx=>∃ (j:Nat) (t:Int) (A':Option Addr) (c':Nat) (ds:List UInt8),j≤8∧s=Value.int .i64 t∧t+(j:Int)≤7∧7≤t+(j:Int)∧v = .slice A' ds.length c'∧ds.length≤j∧Hid (ds=(List.range j).map fun q=>dU seed (7 - q))∧Hid (BR w wx v ds)) (fun _ s _=>(intOf s+1).toNat)
 case atStart=>exact ⟨0,7,_,_,[],by omega,rfl,by omega,by omega,rfl,by simp,rfl,(Fr.refl _ _).alloc _,World.ownsRow_made _ #[] 0 (Nat.le_refl _) (Nat.zero_le _) rfl⟩
 case round =>
  obtain ⟨j,t,A1,c1,ds,hj,rfl,ht1,ht2,rfl,hdl,HD,HB1⟩:=hrel
  have hsz1:=HB1.out.size
  by_cases hlt2:j < 8
  ·obtain ⟨sh,rfl⟩:∃ sh:Nat,t=(sh:Int):=⟨t.toNat,om⟩
   obtain ⟨y,HY⟩:∃ y:UInt8,Hid (y=dU seed (7 - j)):=⟨_,rfl⟩
   have hsh:sh≤7:=om
   obtain ⟨s8,hs8⟩:∃ s8:Nat,s8=8*sh:=⟨_,rfl⟩
   have e8:(8:Int)*(sh:Int)=(s8:Int):=om
   have hy:IntKind.u8.wrap ((seed:Int) / 2 ^ s8)=(y.toNat:Int):=by
    rw [HY.out,hs8,show sh=7 - j by omega]
    exact mV seed (7 - j)
   have hs8b:s8≤56:=om
   clear hs8
   go_wp2_with (at_builtin; refine lK fH rfl (.tmp 17) (.tmp 23) rfl w.heap.size _ _ (B8 ds) (.int .u8 (y.toNat:Int)) rfl HB1.out.own rfl rfl (by omega) (by omega) 5 ?_; intro v2 w2 hown2 hg2 hb2; obtain ⟨A3,c3,cs3,HC3,hc3,rfl,HB3⟩:=BR.push (xs:=[y]) HB1.out hown2 hg2; clear hown2 hg2 hb2)
   have h3:cs3.length=ds.length+1:=by rw [HC3.out]; simp
   have HC4:Hid (cs3=(List.range (j+1)).map fun q=>dU seed (7 - q)):=by
    show cs3=_
    rw [HC3.out,HD.out,List.range_succ,List.map_append,HY.out]
    rfl
   go_roundw
   case rel=>exact ⟨j+1,(sh:Int) - 1,A3,c3,cs3,by omega,by go_num,by omega,by omega,rfl,by omega,HC4,HB3⟩
   case measure=>simp [intOf] <;> omega
  ·obtain rfl:j=8:=om
   obtain rfl:t = -1:=om
   have HDS:Hid (ds=qM seed):=HD.out
   obtain ⟨yi,hyi,HYI⟩:∃ yi:UInt8,IntKind.u8.wrap (i:Int)=(yi.toNat:Int)∧Hid (yi=UInt8.ofNat i):=by
    refine ⟨_,?_,rfl⟩
    rw [IntKind.wrap_u8]
    have:(UInt8.ofNat i).toNat=i:=by simp; omega
    rw [this]
    omega
   go_wp2_with (first
    | (at_builtin; refine lK fH rfl (.tmp 25) (.tmp 28) rfl w.heap.size _ _ (B8 ds) (.int .u8 (yi.toNat:Int)) rfl HB1.out.own rfl rfl (by omega) (by omega) 5 ?_; intro v2 w2 hown2 hg2 hb2; obtain ⟨A3,c3,cs3,HC3,hc3,rfl,HB3⟩:=BR.push (xs:=[yi]) HB1.out hown2 hg2; have hsz3:=HB3.out.size; have hc3':cs3.length≤ds.length+1:=hc3; clear hown2 hg2 hb2 hc3)
    | (at_builtin; refine Lib.wpList_append_own_string _ rfl (.tmp 29) (.tmp 30) 23 9 rfl w.heap.size 5 i0 Tryz.underlying23 Tryz.underlying9 HINF.out.1 HINF.out.2.1 HINF.out.2.2.1 HINF.out.2.2.2 _ _ (B8 cs3) rfl HB3.out.own ks rfl (by unfold maxLen; omega) (by omega) (by omega) ?_; intro v4 w4 hown4 hg4 hb4))
   obtain ⟨A4,c4,rfl⟩:=iT hown4
   obtain ⟨msg,HMSG⟩:∃ msg,Hid (msg=cs3++key):=⟨_,rfl⟩
   have HRW:Hid (Fr [] w w4∧aH w4 A4 (B8 msg)∧msg.length=cs3.length+ks.size):=by
    refine ⟨tP HB3.out.fr HB3.out.own hg4,?_,by rw [HMSG.out,List.length_append,HKS.out,Gy]⟩
    have h1:=hown4
    rw [HKS.out,NZ,← mC,← HMSG.out] at h1
    exact aH.cN h1
   clear hown4 hg4 hb4
   have HSU:=Lib.hid (FE A4 c4 msg w4 HRW.out.2.1 (by rw [HRW.out.2.2]; omega))
   rw [HRW.out.2.2] at HSU
   go_wp2_with fail
   refine HSU.out.mono ?_
   rintro e w5 ⟨rfl,hf5⟩
   obtain ⟨sm,HSM⟩:∃ sm,Hid (sm=dO msg):=⟨_,rfl⟩
   rw [← HSM.out]
   have HF:Hid (Fr [] w w5):=HRW.out.1.trans hf5
   have HS32:Hid (sm.length=32):=by show sm.length=32; rw [HSM.out]; exact rF _
   clear hf5 HSU hyi
   go_wp2_with fail
   go_loop [10,11] (fun v s=>∃ k m:Nat,k≤8∧s = .int .i64 k∧v = .int .u64 (m:Int)∧Hid (m=nG sm k)) (fun _ s=>8 - (intOf s).toNat)
   case atStart=>exact ⟨0,0,by omega,rfl,rfl,rfl⟩
   case round =>
    obtain ⟨k,m,hk,rfl,rfl,HM⟩:=hrel
    by_cases hlt:k < 8
    ·obtain ⟨y,hy⟩:∃ y,sm[k]?=some y:=⟨_,List.getElem?_eq_getElem (by rw [HS32.out]; omega)⟩
     have hix:=Cc sm k y hy
     have hyb:=UInt8.toNat_lt y
     have hmb:m*256+256≤18446744073709551616:=by
      rw [HM.out]
      have h1:=yU sm k
      have h2:256 ^ k≤256 ^ 7:=Nat.pow_le_pow_right (by decide) om
      omega
     obtain ⟨m8,q1,HM8⟩:∃ m8:Nat,IntKind.u64.wrap ((m:Int)*256)=(m8:Int)∧Hid (m8=m*256):=⟨m*256,by rw [IntKind.wrap_u64]; omega,rfl⟩
     have qy:IntKind.u64.wrap (y.toNat:Int)=(y.toNat:Int):=by rw [IntKind.wrap_u64]; omega
     obtain ⟨mn,q2,HMN⟩:∃ mn:Nat,IntKind.u64.wrap ((m8:Int)+(y.toNat:Int))=(mn:Int)∧Hid (mn=nG sm (k+1)):=by
      refine ⟨m*256+y.toNat,by rw [HM8.out,IntKind.wrap_u64]; omega,?_⟩
      show _=nG sm k*256+(sm.getD k 0).toNat
      rw [← HM.out,List.getD_eq_getElem?_getD,hy]
      rfl
     have hkI:(k:Int) < 8:=om
     clear hy hmb hyb
     go_wp2_with fail
     go_round
     case rel=>exact ⟨k+1,mn,by omega,by go_num,rfl,HMN⟩
     case measure=>simp [intOf] <;> omega
    ·obtain rfl:k=8:=om
     go_wp2_with fail
     go_ret
     refine ⟨gG ?_,HF.out⟩
     rw [HM.out,HSM.out,HMSG.out,HC3.out,HDS.out,HYI.out]
     simp [gL]
theorem Oa:jX Tryz.prog 198 3 (vi 0) 1 8:=⟨Tryz.underlying198,kr,rfl,om,om⟩
def jF (n seed : Nat) (key : List UInt8) : List Int := [(eL n seed key 0 : Int), (eL n seed key 1 : Int), (eL n seed key 2 : Int)]
theorem Ob (n seed:Nat) (key:List UInt8) (k:Nat) (h:k < 3):(jF n seed key).take (k+1)=(jF n seed key).take k++[(eL n seed key k:Int)]:=by
 match k,h with
 | 0,_=>rfl
 | 1,_=>rfl
 | 2,_=>rfl
theorem Oc (n seed:Nat) (key:List UInt8) (w:World) (hn:dQ (n:Int)=true) (hk:key.length≤34359738368) :
  Calls Tryz.prog 134 #[vi (n:Int),.int .u64 (seed:Int),.string (aT key)] w fun e w'=>∃ g c,e = .returned (.slice (some ⟨g,0,none⟩) 3 c)∧Fr [] w w'∧aH w' (some ⟨g,0,none⟩) ((jF n seed key).map (.int .i64))∧w.heap.size≤g:=by
 obtain ⟨n3,n4,n5⟩:=gV hn
 obtain ⟨th,rfl⟩:∃ th,n=3*th:=⟨n / 3,om⟩
 have th1:1≤th:=om
 have th2:th≤1024:=om
 have HK:=Lib.hid hk
 clear hn n5 hk
 obtain ⟨n,HN⟩:∃ n,Hid (n=3*th):=⟨_,rfl⟩
 have hn3:n≤3072:=by rw [HN.out]; omega
 rw [← HN.out]
 have eth:(n:Int) / 3=(th:Int):=by have:=HN.out; omega
 have qth:IntKind.u64.wrap (th:Int)=(th:Int):=by rw [IntKind.wrap_u64]; omega
 have thB:((th:Int) == 0)=false:=by simp; omega
 have thI:(th:Int)≠0:=om
 go_enter Tryz.func134,Tryz.ntmps134
 go_wp2_with fail
 go_loopw [7,8] (fun v s wx=>∃ (k:Nat) (A':Option Addr) (c':Nat),k≤3∧s = .int .i64 k∧v = .slice A' k c'∧Hid (Fr [] w wx∧wx.ownsRow w.heap.size 3 1 v k (((jF n seed key).take k).map (Value.int .i64)))) (fun _ s _=>3 - (intOf s).toNat)
 case atStart=>exact ⟨0,_,_,by omega,rfl,rfl,(Fr.refl _ _).alloc _,World.ownsRow_made _ #[] 0 (Nat.le_refl _) (Nat.zero_le _) rfl⟩
 case round =>
  obtain ⟨k,A',c',hk,rfl,rfl,HR⟩:=hrel
  by_cases hlt:k < 3
  ·obtain ⟨hv,HHV⟩:∃ hv,Hid (hv=gL seed k key):=⟨_,rfl⟩
   have HC:=Lib.hid (zH seed k key wr om HK.out)
   rw [← HHV.out] at HC
   have hkt:k*th≤2*1024:=Nat.mul_le_mul om th2
   have hkn:k*n≤2*3072:=Nat.mul_le_mul om hn3
   obtain ⟨kn,q0,HKN⟩:∃ kn:Nat,IntKind.i64.wrap ((k:Int)*(n:Int))=(kn:Int)∧Hid (kn=k*n):=⟨k*n,by rw [← Int.natCast_mul,IntKind.wrap_i64]; omega,rfl⟩
   obtain ⟨kt,q1,HKT⟩:∃ kt:Nat,(kn:Int) / 3=(kt:Int)∧Hid (kt=k*th):=⟨k*th,by
    rw [HKN.out,HN.out]
    have:k*(3*th)=3*(k*th):=by rw [Nat.mul_left_comm]
    rw [this]
    omega,rfl⟩
   have hknb:kn≤6144:=by rw [HKN.out]; exact hkn
   have hktb:kt≤2048:=by rw [HKT.out]; exact hkt
   obtain ⟨hm,q2,q3,HHM⟩:∃ hm:Nat,(hv:Int) % (th:Int)=(hm:Int)∧(hv:Int).tmod (th:Int)=(hm:Int)∧Hid (hm=hv % th):=⟨hv % th,by rw [Int.natCast_emod],by rw [Int.ofNat_tmod],rfl⟩
   have hmb:hm < th:=by rw [HHM.out]; exact Nat.mod_lt _ om
   have qi:IntKind.i64.wrap (hm:Int)=(hm:Int):=by rw [IntKind.wrap_i64]; omega
   obtain ⟨p,q4,HP⟩:∃ p:Nat,(kt:Int)+(hm:Int)=(p:Int)∧Hid (p=eL n seed key k):=⟨kt+hm,om,by
    show _=_
    unfold eL
    rw [show n / 3=th by have:=HN.out; omega,← HHV.out,← HHM.out,← HKT.out]⟩
   have hkI:(k:Int) < 3:=om
   clear hkt hkn
   go_wp2_with fail
   refine HC.out.mono ?_
   rintro e w1 ⟨rfl,hf1⟩
   have HR1:Hid (Fr [] w w1∧w1.ownsRow w.heap.size 3 1 (.slice A' k c') k (((jF n seed key).take k).map (Value.int .i64))):=⟨HR.out.1.trans hf1,dY HR.out.2 hf1 si⟩
   have hsz1:=HR1.out.1.size
   clear hf1 HC
   go_wp2_with (at_builtin; refine lK Oa rfl (.tmp 14) (.tmp 29) rfl w.heap.size _ _ (((jF n seed key).take k).map (Value.int .i64)) (Value.int .i64 (p:Int)) rfl HR1.out.2 rfl rfl (by omega) (by omega) 3 ?_; intro v2 w2 hown2 hg2 hb2)
   obtain ⟨A2,c2,rfl⟩:=iT hown2
   have HN2:Hid (Fr [] w w2∧w2.ownsRow w.heap.size 3 1 (.slice A2 (k+1) c2) (k+1) (((jF n seed key).take (k+1)).map (Value.int .i64))):=by
    refine ⟨tP HR1.out.1 HR1.out.2 hg2,?_⟩
    rw [Ob n seed key k hlt,List.map_append,← HP.out]
    exact hown2
   clear hown2 hg2 hb2 q0 q1 q2 q3 q4
   go_roundw
   case rel =>
    first
     | exact ⟨k+1,A2,c2,by omega,by go_num,rfl,HN2⟩
     | ((repeat apply Exists.intro); exact ⟨⟨k+1,A2,c2,by omega,by go_num,rfl,HN2⟩,rfl⟩)
   case measure=>simp [intOf] <;> omega
  ·obtain rfl:k=3:=om
   go_wp2_with fail
   go_ret
   have h1:=HR.out.1
   have h2:=HR.out.2
   rcases h2.2 with ⟨_,h0⟩ | ⟨g,cap,cur,he,hb,_⟩
   ·omega
   ·injection he with e1 e2 e3
    subst e1
    exact ⟨g,c',rfl,h1,aH.cN h2,hb⟩
structure gW (w : World) (g c : Nat) (rest : List Value) (t : BT) : Prop where
 cells : At w g 136 (aU t.cells ++ rest)
 ok : t.Ok
 size : dQ (t.cells.length : Int) = true
 cap : t.cells.length ≤ c
theorem gW.fr {w w':World} {g c:Nat} {rest:List Value} {t:BT} {S:List Nat} (h:gW w g c rest t) (hf:Fr S w w') (hg:g∉S):gW w' g c rest t:=⟨h.cells.fr hf hg,h.ok,h.size,h.cap⟩
theorem Od (n:Nat) (hn:n≤3072) (w:World):(Instr.makeSlice 81 (vi (n:Int)) (vi (n:Int))).run Tryz.prog w = .ok (.slice (some ⟨w.heap.size,0,none⟩) n n) (w.alloc (.cells (aU (List.replicate n BC.zero)).toArray 136)):=by
 have hinfo:(Tryz.prog.info? 136).map (fun i=>(i.zero,i.size,i.bytes))=some (some (.agg BC.zero.cells.toArray),34,48):=by kernel_rfl
 obtain ⟨i,hi,hz,hsz,hby⟩:=info_parts hinfo
 have:=run_make (P:=Tryz.prog) w 81 136 i _ Tryz.underlying81 hi hz .i64 .i64 (n:Int) (n:Int) om om (by rw [hby]; omega) om
 rw [hsz,Int.toNat_natCast] at this
 rw [this,← Cf]
 rfl
theorem Gz (n seed:Nat) (w:World) (h:dQ (n:Int)=true) (hs:bI seed):Calls Tryz.prog 85 #[vi (n:Int),.int .u64 (seed:Int)] w fun e w'=>∃ g,e = .returned (.agg #[.int .u64 (seed:Int),.slice (some ⟨g,0,none⟩) n n])∧w.heap.size≤g∧Fr [] w w'∧gW w' g n [] (BT.new n seed):=by
 obtain ⟨n3,n4,n5⟩:=gV h
 have hmk:=Od n n4
 have HH:=Lib.hid (And.intro h hs)
 clear h hs n5
 go_enter Tryz.func85,Tryz.ntmps85
 go_wp2_with (refine tH rfl 83 (.tmp 4) (.tmp 8) rfl w.heap.size 0 rfl 83 [.int .u64 0,.slice none 0 0] [.int .u64 (seed:Int),.slice (some ⟨w.heap.size+1,0,none⟩) n n] rfl ((At.new w 83 [.int .u64 0,.slice none 0 0]).alloc _) (by simp) (by kernel_rfl) (by simp [Value.oneCell']) [.int .u64 (seed:Int),.slice (some ⟨w.heap.size+1,0,none⟩) n n] rfl ?_; intro w2 hf2 ha2)
 refine bodyPost_ret (yT (t:=83) rfl _ _ w.heap.size [.int .u64 (seed:Int),.slice (some ⟨w.heap.size+1,0,none⟩) n n] _ rfl ha2 Tryz.underlying83 rfl kr) rfl ⟨w.heap.size+1,rfl,om,(((Fr.refl [] w).alloc _).alloc _).trans' hf2 si,?_⟩
 have e:(BT.new n seed).cells.length=n:=by simp [BT.new]
 refine ⟨?_,BT.Ok.new n seed HH.out.2,by rw [e]; exact HH.out.1,by rw [e]; exact Nat.le_refl _⟩
 have h1:=At.new (w.alloc (.cells #[.int .u64 0,nS] 83)) 136 (aU (List.replicate n BC.zero))
 have e2:(w.alloc (.cells #[.int .u64 0,nS] 83)).heap.size=w.heap.size+1:=by simp
 rw [e2] at h1
 rw [List.append_nil]
 exact h1.fr hf2 si
theorem zI {l:List BC} (h:gE l) (rest:List Value) (p:Nat) (c:BC) (hp:l[p]?=some c) (c':BC):(aU l++rest).take (p*34)++c'.cells++(aU l++rest).drop (p*34+34)=aU (l.set p c')++rest:=by
 obtain ⟨h1,e1⟩:=List.getElem?_eq_some_iff.1 hp
 obtain ⟨A,B,rfl,hA⟩:∃ A B,l=A++c::B∧A.length=p:=⟨l.take p,l.drop (p+1),by rw [← e1,← List.drop_eq_getElem_cons h1,List.take_append_drop],by rw [List.length_take]; omega⟩
 have hAl:(aU A).length=p*34:=by rw [kM (fun x hx=>h x (by simp [hx])),hA]
 have hcl:c.cells.length=34:=BC.cells_len (h c si)
 have hACl:(aU A++c.cells).length=p*34+34:=by rw [List.length_append,hAl,hcl]
 have e2:aU (A++c::B)++rest=(aU A++c.cells)++(aU B++rest):=by rw [FF,pM]; simp [List.append_assoc]
 have e3:aU (A++c::B)++rest=aU A++(c.cells++(aU B++rest)):=by rw [e2,List.append_assoc]
 have e4:(A++c::B).set p c'=A++c'::B:=by rw [List.set_append_right _ _ om,hA,Nat.sub_self,List.set_cons_zero]
 have t1:(aU (A++c::B)++rest).take (p*34)=aU A:=by rw [e3]; exact List.take_left' hAl
 have t2:(aU (A++c::B)++rest).drop (p*34+34)=aU B++rest:=by rw [e2]; exact List.drop_left' hACl
 rw [t1,t2,e4,FF,pM]
 simp [List.append_assoc]
theorem Cw:jX Tryz.prog 81 136 (.agg BC.zero.cells.toArray) 34 48:=⟨Tryz.underlying81,kr,rfl,om,om⟩
theorem Oe (m:Nat):((m:Int) % 128+128)=((UInt8.ofNat (m % 128+128)).toNat:Int):=by
 rw [Bg _ om]
 omega
set_option maxHeartbeats 2000000 in
theorem wM (n:Nat) (w:World) (hn:bI n):Calls Tryz.prog 81 #[.int .u64 (n:Int)] w (tO (aE n) w):=by
 have hnl:=fG n hn
 have HN:=Lib.hid hn
 clear hn
 go_enter Tryz.func81,Tryz.ntmps81
 go_wp2_with fail
 go_loopw [0,3] (fun i b wr=>∃ (m:Nat) (cs:List UInt8),bI m∧i = .int .u64 (m:Int)∧aE n=cs++aE m∧Fr [] w wr∧wr.ownsRow w.heap.size 5 1 b cs.length (B8 cs)) (fun i _ _=>(intOf i).toNat)
 case atStart=>exact ⟨n,[],HN.out,rfl,rfl,(Fr.refl _ _).alloc _,World.ownsRow_made _ #[] 0 (Nat.le_refl _) (Nat.zero_le _) rfl⟩
 case round =>
  obtain ⟨m,cs,hm,rfl,he,hf,hown⟩:=hrel
  have hsz:=hf.size
  have HC:Hid (cs.length+1≤137438953472):=by have h1:=congrArg List.length he; rw [List.length_append] at h1; show _≤_; omega
  have HG:=Lib.hid (And.intro hf hown)
  have HE:=Lib.hid he
  have HM:=Lib.hid hm
  have hmI:(m:Int)≤18446744073709551615:=by unfold bI at hm; omega
  clear hf hown he hm
  obtain ⟨A,c,rfl⟩:=iT HG.out.2
  by_cases hlt:m < 128
  ·go_wp2_with (at_builtin; refine lK fH rfl (.tmp 16) (.tmp 19) rfl w.heap.size _ _ _ (.int .u8 (m:Int)) rfl HG.out.2 rfl rfl HC.out (by omega) 5 ?_; intro v' w1 hown1 hg1 hb1)
   go_ret
   have hf1:Fr [] w w1:=tP HG.out.1 HG.out.2 hg1
   obtain ⟨A1,c1,rfl⟩:=iT hown1
   rw [Ew m om] at hown1
   refine EG (cs++[UInt8.ofNat m]) ?_ ⟨A1,c1,si,hf1,?_⟩
   ·rw [HE.out,mO m hlt]
   ·rw [mC,List.length_append]; exact hown1
  ·have hor:=Oe m
   obtain ⟨y,hy⟩:∃ y:UInt8,y=UInt8.ofNat (m % 128+128):=⟨_,rfl⟩
   rw [← hy] at hor
   have hyb:=UInt8.toNat_lt y
   have HY:=Lib.hid hy
   clear hy
   have hge:(127:Int) < (m:Int):=om
   go_wp2_with (at_builtin; refine lK fH rfl (.tmp 7) (.tmp 12) rfl w.heap.size _ _ _ (.int .u8 (y.toNat:Int)) rfl HG.out.2 rfl rfl HC.out (by omega) 5 ?_; intro v' w1 hown1 hg1 hb1)
   go_roundw
   case rel =>
    refine ⟨m / 128,cs++[y],?_,by go_num,?_,tP HG.out.1 HG.out.2 hg1,?_⟩
    ·have:=HM.out; unfold bI at this ⊢; omega
    ·rw [HE.out,nR m hlt,List.append_assoc,HY.out]; rfl
    ·rw [mC,List.length_append]; exact hown1
   case measure=>simp [intOf]; omega
theorem Of (n:Int) (w:World) (h:mP n):Calls Tryz.prog 82 #[vi n] w fun e w'=>e = .returned (.int .u64 (eG n:Int))∧w=w':=by
 have h0:=h.1
 have h1:=h.2
 clear h
 by_cases hn:n < 0
 ·go_enter Tryz.func82,Tryz.ntmps82
  go_wp2_with fail
  go_ret
  refine ⟨gG ?_,rfl⟩
  unfold eG
  rw [if_pos hn]
  omega
 ·replace hn:=Int.not_lt.1 hn
  go_enter Tryz.func82,Tryz.ntmps82
  go_wp2_with fail
  go_ret
  refine ⟨gG ?_,rfl⟩
  unfold eG
  rw [if_neg om]
  omega
theorem Og (n:Nat) (w:World) (h:bI n):Calls Tryz.prog 86 #[.int .u64 (n:Int)] w fun e w'=>e = .returned (vi (eZ n))∧w=w':=by
 have hI:(n:Int)≤18446744073709551615:=by unfold bI at h; omega
 have hI0:(0:Int)≤(n:Int):=om
 clear h
 by_cases h1:n % 2=1
 ·have hb:((n:Int) % 2 == 0)=false:=by simp; omega
  go_enter Tryz.func86,Tryz.ntmps86
  go_wp2_with fail
  go_ret
  refine ⟨gG ?_,rfl⟩
  unfold eZ
  rw [if_pos h1]
  omega
 ·have hb:((n:Int) % 2 == 0)=true:=by simp; omega
  go_enter Tryz.func86,Tryz.ntmps86
  go_wp2_with fail
  go_ret
  refine ⟨gG ?_,rfl⟩
  unfold eZ
  rw [if_neg h1]
  omega
theorem Mm.newRow {w0 w w':World} {F:List Nat} {cs:List Ch} {bs:List UInt8} {e:Ending} (h:Mm w0 F cs w) (hn:tO bs w e w'):∃ A c,e = .returned (.slice A bs.length c)∧Mm w0 F (cs++[aR 5 1 A bs.length c (B8 bs)]) w':=by
 obtain ⟨A,c,rfl,hf,ho⟩:=hn
 obtain ⟨A',c',e1,h1⟩:=h.Kt hf ho
 injection e1 with e1 e2 e3
 subst e1 e3
 exact ⟨A,c,rfl,h1⟩
theorem Mm.Uz {w0 w:World} {cs:List Ch} (h:Mm w0 [] cs w) {i:Nat} {e:TypeId} {sz:Nat} {A:Option Addr} {m c:Nat} {xs:List Value} (hi:cs[i]?=some (aR e sz A m c xs)):w.ownsRow w0.heap.size e sz (.slice A m c) m xs:=by
 have ho:w.ownsRow 0 e sz (.slice A m c) m xs:=h.at hi
 refine ⟨ho.1,?_⟩
 rcases ho.2 with hn | ⟨g,cap,cur,hv,_,rest⟩
 ·exact .inl hn
 ·refine .inr ⟨g,cap,cur,hv,?_,rest⟩
  simp only [Value.slice.injEq] at hv
  obtain ⟨rfl,_,_⟩:=hv
  exact h.lo hi (by simp [aR,cZ])
theorem sB {w:World} {g c:Nat} {rest:List Value} {t:BT} (h:gW w g c rest t) {i:Nat} {cc:BC} (hc:t.cells[i]?=some cc) (j:Nat) (v:Value) (hj:cc.cells[j]?=some v):w.cell? ⟨g,i*34+j,none⟩=some v:=by
 have hj34:=(List.getElem?_eq_some_iff.1 hj).1
 rw [BC.cells_len (h.ok.cells cc (List.mem_of_getElem? hc))] at hj34
 rw [h.cells.cell,jY h.ok.cells rest i cc hc j hj34]
 exact hj
theorem BC.mB (c:BC):∀ u∈c.cells,u.oneCell'=true:=fun v hv=>tY (l:=[c]) v (by simpa [aU] using hv)
theorem wN {c:BC} {j:Nat} {v:Value} (h:(B8 c.keys)[j]?=some v):c.cells[1+j]?=some v:=by
 have hl:=(List.getElem?_eq_some_iff.1 h).1
 rw [Nat.add_comm,BC.cells,List.getElem?_cons_succ,List.getElem?_append_left hl]
 exact h
theorem Oh (g cap:Nat) (rest:List Value) (t:BT) (w:World) (ht:gW w g cap rest t) :
  Calls Tryz.prog 38 #[.agg #[.int .u64 (t.seed:Int),.slice (some ⟨g,0,none⟩) t.cells.length cap]] w (tO t.enc w):=by
 obtain ⟨n,HN⟩:∃ n,Hid (n=t.cells.length):=⟨_,rfl⟩
 obtain ⟨seed,HS⟩:∃ seed,Hid (seed=t.seed):=⟨_,rfl⟩
 have n4:n≤3072:=by rw [HN.out]; exact (gV ht.size).2.1
 rw [← HN.out,← HS.out]
 have HU:Hid (bI seed):=by show bI seed; rw [HS.out]; exact ht.ok.seed
 have HEL:Hid (∀ i,(eA t i).length≤200000):=fun i=>uC ht.ok (by rw [← HN.out]; exact n4) i
 have HE0:Hid (eA t 0=aE n++aE seed):=by show _=_; unfold eA; rw [← HN.out,← HS.out]; simp
 have HENC:Hid (t.enc=eA t n):=by show _=_; rw [HN.out]; rfl
 have HL0:Hid ((aE n).length+(aE seed).length≤200000):=by
  show _≤_
  have:=HEL.out 0
  rw [HE0.out,List.length_append] at this
  exact this
 have HT:=Lib.hid ht
 clear ht
 refine dI Tryz.func38 41 (Mm.start w []) rfl<|Nc<|Nx<|pB [(vU seed),(.slice (some ⟨g,0,none⟩) (n) (cap))] fun b1=>lx rfl<|Nf<|cQ _ 10 kr (fun _ h=>h)<|aC 0 (vP b1 1) rfl<|al 1 0 ?_
 refine aC 2 (vI n) rfl<|aV 3 (vU n) rfl (iC _ (fun _=>kr) rfl rfl (kK om om))<|aC 5 (vP b1 0) rfl<|al 6 0 ?_
 refine bU (i:=4) kr rfl rfl<|cU 81 #[(vU n)] rfl kr (fun _=>kr) (fun w hM=>(wM (n) w (by unfold bI; omega)).mono ?_)
 rintro e w' hN
 obtain ⟨A10,c10,rfl,hM'⟩:=hM.newRow hN
 refine ⟨_,_,rfl,hM',?_⟩
 clear hM hN hM'
 refine aP _ (fun _ h=>h) (fun _ h=>h.sub (.cons_cons _ (.cons _ .slnil)))<|bU (i:=7) kr rfl rfl<|cU 81 #[(vU seed)] rfl kr (fun _=>kr) (fun w hM=>(wM (seed) w HU.out).mono ?_)
 rintro e w' hN
 obtain ⟨A13,c13,rfl,hM'⟩:=hM.newRow hN
 refine ⟨_,_,rfl,hM',?_⟩
 clear hM hN hM'
 refine aP _ (fun _ h=>h.sub (.cons_cons _ (.cons _ .slnil))) (fun _ h=>h.sub (.cons_cons _ (.cons _ (.cons_cons _ .slnil))))<|bU (i:=8) kr rfl rfl ?_
 refine cY fH 1 (B8 (aE seed)) rfl rfl kr rfl rfl rfl (by rw [dL,Nat.mul_one]) (Bv (i:=2) rfl) (gS _) (by have:=HL0.out; omega) ((eA t 0).length) (by rw [HE0.out,List.length_append]) (B8 (eA t 0)) (by rw [HE0.out,mC]) (fun A14 c14=>?_)
 refine aP _ (fun _ h=>h.sub (.cons_cons _ (.cons _ (.cons_cons _ .slnil)))) (fun _ h=>h) ?_
 refine aa 9 ?_
 refine cF kr<|aI<|Ny<|lx rfl<|Ng<|sL (fun (i,A,c)=>i≤n) (fun (i,A,c)=>n - i) (fun (i,A,c)=>[(1,(vP b1 0)),(3,(.slice A ((eA t i).length) (c))),(4,(vI i))]) (fun (i,A,c)=>[aD b1 83 [(vU seed),(.slice (some ⟨g,0,none⟩) (n) (cap))],aR 5 1 A ((eA t i).length) (c) (B8 (eA t i))]) (0,A14,c14) (Nat.zero_le _) (fun _ h=>h.sub (.cons_cons _ (.cons_cons _ (.cons _ .slnil)))) ?_
 rintro ⟨i,A,c⟩ (hok:i≤n)
 dsimp only
 refine Ny<|lx rfl<|lk (vP b1 1)<|lL 0 rfl<|lk (vI n)<|lk (.bool (decide (((i:Nat):Int) < ((n:Nat):Int)))) ?_
 refine aO (aI (bD rfl (fun hc19=>?_) (fun hc19=>?_)))
 ·have hd19:=of_decide_eq_true hc19
  obtain ⟨cc,hc⟩:∃ cc,t.cells[i]?=some cc:=⟨_,List.getElem?_eq_getElem (by rw [← HN.out]; omega)⟩
  have hlt:i < n:=om
  have hcok:=HT.out.ok.cells cc (List.mem_of_getElem? hc)
  have hclen:=BC.cells_len hcok
  have HSU:=Gf hc
  have hel:=HEL.out i
  have hel1:=HEL.out (i+1)
  rw [HSU] at hel1
  simp only [List.length_append] at hel1
  refine Nm<|aF<|lk (vP b1 1)<|lL 0 rfl<|lx rfl<|lw (.pointer (some ⟨g,0+i*34,none⟩)) (jN (e:=136) (sz:=34) rfl kr kr rfl rfl om)<|lw (.agg (cc.cells).toArray) (gC cc.cells rfl rfl kr (by rw [hclen]; kernel_rfl) (fun w hM j v hj=>by rw [Nat.zero_add]; exact hM.dX (sB HT.out hc j v hj) si))<|Nx<|pA [(vi 0),(.int .u8 0),(.int .u8 0),(.int .u8 0),(.int .u8 0),(.int .u8 0),(.int .u8 0),(.int .u8 0),(.int .u8 0),(.int .u8 0),(.int .u8 0),(.int .u8 0),(.int .u8 0),(.int .u8 0),(.int .u8 0),(.int .u8 0),(.int .u8 0),(.int .u8 0),(.int .u8 0),(.int .u8 0),(.int .u8 0),(.int .u8 0),(.int .u8 0),(.int .u8 0),(.int .u8 0),(.int .u8 0),(.int .u8 0),(.int .u8 0),(.int .u8 0),(.int .u8 0),(.int .u8 0),(.int .u8 0),(.int .u8 0),(.int .u64 0)] fun b5=>Nx<|gI 2 cc.cells (vs:=cc.cells) rfl rfl kr rfl rfl rfl (by rw [hclen]; kernel_rfl) rfl (by rw [hclen]; decide) (BC.mB cc) (oD (by rw [hclen]; rfl)) ?_
  refine Na ?_
  refine cQ _ 12 kr (fun _ h=>h.sub (.cons_cons _ (.cons _ (.cons_cons _ .slnil)))) ?_
  refine am 0 ?_
  refine aC 1 (vP b5 0) rfl<|aV 2 (.int .i64 cc.count) rfl (cW 1 rfl rfl kr rfl (jB cc))<|aC 6 (vP b5 1) rfl<|aC 7 (.slice (some ⟨b5,1,none⟩) (32) (32)) rfl<|aC 9 (vP b5 33) rfl<|aV 10 (vU cc.checks) rfl (cW 1 rfl rfl kr rfl (mW hcok.keys))<|bU (i:=3) kr rfl rfl<|cU 82 #[(.int .i64 cc.count)] rfl kr (fun _=>kr) (fun w hM=>(Of cc.count w hcok.count).mono ?_)
  rintro e w' ⟨rfl,rfl⟩
  refine ⟨_,_,rfl,hM,?_⟩
  clear hM
  refine aP _ (fun _ h=>h) (fun _ h=>h.sub (.cons_cons _ (.cons _ (.cons_cons _ .slnil))))<|bU (i:=4) kr rfl rfl<|cU 81 #[(vU (eG cc.count))] rfl kr (fun _=>kr) (fun w hM=>(wM (eG cc.count) w (tJ cc.count hcok.count.1 hcok.count.2)).mono ?_)
  rintro e w' hN
  obtain ⟨A31,c31,rfl,hM'⟩:=hM.newRow hN
  refine ⟨_,_,rfl,hM',?_⟩
  clear hM hN hM'
  refine aP _ (fun _ h=>h.sub (.cons_cons _ (.cons_cons _ (.cons _ .slnil)))) (fun _ h=>h.sub (.cons_cons _ (.cons _ (.cons_cons _ (.cons_cons _ .slnil)))))<|bU (i:=5) kr rfl rfl<|cY fH 1 (B8 (aE (eG cc.count))) rfl rfl kr rfl rfl rfl (by rw [dL,Nat.mul_one]) (Bv (i:=3) rfl) (gS _) om ((eA t i++aE (eG cc.count)).length) (by rw [List.length_append]) (B8 (eA t i++aE (eG cc.count))) (by rw [mC]) (fun A32 c32=>aP _ (fun _ h=>h) (fun _ h=>h.sub (.cons_cons _ (.cons _ (.cons_cons _ (.cons_cons _ .slnil)))))<|bU (i:=8) kr rfl rfl<|cY fH 1 (B8 cc.keys) rfl rfl kr rfl rfl rfl (by rw [dL,hcok.keys]) (fQ (i:=2) (off:=1) rfl (fun j v hj=>wN hj)) (gS _) (by simp only [List.length_append]; omega) ((eA t i++aE (eG cc.count)++cc.keys).length) (by rw [List.length_append (bs:=cc.keys),hcok.keys]) (B8 (eA t i++aE (eG cc.count)++cc.keys)) (by rw [mC _ cc.keys]) (fun A35 c35=>aP _ (fun _ h=>h) (fun _ h=>h.sub (.cons_cons _ (.cons _ (.cons_cons _ (.cons_cons _ .slnil)))))<|bU (i:=11) kr rfl rfl<|cU 81 #[(vU cc.checks)] rfl kr (fun _=>kr) (fun w hM=>(wM (cc.checks) w hcok.checks).mono ?_)))
  rintro e w' hN
  obtain ⟨A38,c38,rfl,hM'⟩:=hM.newRow hN
  refine ⟨_,_,rfl,hM',?_⟩
  clear hM hN hM'
  refine aP _ (fun _ h=>h.sub (.cons_cons _ (.cons_cons _ (.cons_cons _ (.cons _ .slnil))))) (fun _ h=>h.sub (.cons_cons _ (.cons _ (.cons_cons _ (.cons_cons _ (.cons_cons _ .slnil))))))<|bU (i:=12) kr rfl rfl<|cY fH 1 (B8 (aE cc.checks)) rfl rfl kr rfl rfl rfl (by rw [dL,Nat.mul_one]) (Bv (i:=4) rfl) (gS _) (by simp only [List.length_append]; omega) ((eA t (i+1)).length) (by rw [HSU,List.length_append (bs:=aE cc.checks)]) (B8 (eA t (i+1))) (by rw [HSU,mC _ (aE cc.checks)]) (fun A39 c39=>Lr [aD b1 83 [(vU seed),(.slice (some ⟨g,0,none⟩) (n) (cap))],aD b5 136 (cc.cells),aR 5 1 A31 ((aE (eG cc.count)).length) (c31) (B8 (aE (eG cc.count))),aR 5 1 A38 ((aE (cc.checks)).length) (c38) (B8 (aE (cc.checks)))] 14 rfl (fun _ h=>h.sub (.cons_cons _ (.cons _ (.cons_cons _ (.cons_cons _ (.cons_cons _ .slnil))))))<|aa 13 ?_)
  refine cF kr<|nY<|aI<|aF<|lx rfl<|lw (vI (i+1)) bO<|lx rfl ?_
  refine aO (aI (vN (i+1,A39,c39) (by show _≤_; omega) (by show n - (i+1) < n - i; omega) ⟨rfl,rfl,rfl,trivial⟩ (fun _ h=>h.sub (.cons_cons _ (.cons_cons _ (.cons _ (.cons _ (.cons _ .slnil))))))))
 ·have hd19:=of_decide_eq_false hc19
  obtain rfl:i=n:=om
  refine Nj<|aF<|lx rfl<|Nd<|sN [(.slice A ((eA t i).length) (c))] fun w hM=>⟨A,c,by show _=Ending.returned (.slice A t.enc.length c); rw [HENC.out]; rfl,hM.fr,?_⟩
  rw [HENC.out]
  exact hM.Uz (i:=1) rfl
def lR (b : Nat) (xs : List Value) : Ch where
 fp := [b]
 holds w := b < w.heap.size ∧ ∀ i u, xs[i]? = some u → w.cell? ⟨b, i, none⟩ = some u
 ok w w' hb h := by
  have e := hb b (by simp)
  refine ⟨?_, fun i u hu => by rw [World.cell?_of_block (w := w) e]; exact h.2 i u hu⟩
  rw [Array.getElem?_eq_getElem h.1] at e
  exact (Array.getElem?_eq_some_iff.1 e).1
 lt w h b' hb := by rw [List.mem_singleton] at hb; subst hb; exact h.1
theorem Oi {w:World} {b:Nat} {xs:List Value} (h:aH w (some ⟨b,0,none⟩) xs) (hne:0 < xs.length):(lR b xs).holds w:=by
 refine ⟨?_,fun i u hu=>?_⟩
 ·obtain ⟨b',o',e,hlt,_⟩:=h 0 xs[0] (List.getElem?_eq_getElem hne)
  injection e with e
  injection e with e1 e2
  omega
 ·obtain ⟨b',o',e,_,hc⟩:=h i u hu
  injection e with e
  injection e with e1 e2
  subst e1 e2
  rwa [Nat.zero_add] at hc
theorem Oj (n seed:Nat) (key:List UInt8):((jF n seed key).map (Value.int .i64)).length=3:=rfl
theorem wO (g0 c0:Nat) (rest0:List Value) (t:BT) (key:List UInt8) (aE:Int) (w:World) (ht:gW w g0 c0 rest0 t) (hk:key.length=32) :
  Calls Tryz.prog 89 #[.agg #[.int .u64 (t.seed:Int),.slice (some ⟨g0,0,none⟩) t.cells.length c0],.string (aT key),vi aE] w fun e w'=>∃ g c rest,e = .returned (.agg #[.int .u64 (t.seed:Int),.slice (some ⟨g,0,none⟩) t.cells.length c])∧w.heap.size≤g∧Fr [] w w'∧gW w' g c rest (t.change key aE):=by
 obtain ⟨n,HN⟩:∃ n,Hid (n=t.cells.length):=⟨_,rfl⟩
 obtain ⟨seed,HS⟩:∃ seed,Hid (seed=t.seed):=⟨_,rfl⟩
 rw [← HN.out,← HS.out]
 have hb:=gV ht.size
 have n3:3≤n:=by rw [HN.out]; exact hb.1
 have n4:n≤3072:=by rw [HN.out]; exact hb.2.1
 obtain ⟨C,HC⟩:∃ C,Hid (C=aU t.cells):=⟨_,rfl⟩
 have HCL:Hid (C.length=n*34∧(∀ v∈C,v.oneCell'=true)):=by
  show _∧_
  rw [HC.out,kM ht.ok.cells,HN.out]
  exact ⟨rfl,tY⟩
 have HCA:Hid (∀ W,Fr [] w W→dV W (some ⟨g0,0,none⟩) C):=fun W hW j v hv=>⟨_,rfl,by
  rw [iK,Nat.zero_add,hW.cell (p:=⟨g0,j,none⟩) ht.cells.lt si,ht.cells.cell,List.getElem?_append_left (by rw [← HC.out]; exact (List.getElem?_eq_some_iff.1 hv).1),← HC.out]
  exact hv⟩
 have H:=Lib.hid (And.intro ht hk)
 clear ht hk hb
 refine mI Tryz.func89 75 (Mm.start w []) rfl<|Nc<|Nx<|pB [(vU seed),(.slice (some ⟨g0,0,none⟩) (n) (c0))] fun b3=>Nx<|pA [(.int .u64 0),nS] fun b6=>?_
 refine aO (aI (nX (ι:=Nat × Option Addr × Nat × Nat) (fun _=>True) (fun (b14,A17,c17,b7)=>[(0,(.agg #[(vU seed),(.slice (some ⟨g0,0,none⟩) (n) (c0))])),(1,(vS key)),(2,(vi aE)),(3,(vP b3 0)),(6,(vP b6 0)),(12,(vP b3 0)),(13,(vU seed)),(15,(vP b3 1)),(16,(.slice (some ⟨g0,0,none⟩) (n) (c0))),(14,(.slice (some ⟨b14,0,none⟩) (0) (0))),(17,(.slice A17 (n) (c17))),(18,(.agg #[(vU seed),(.slice A17 (n) (c17))])),(7,(vP b7 0))]) (fun (b14,A17,c17,b7)=>[aD b3 83 [(vU seed),(.slice (some ⟨g0,0,none⟩) (n) (c0))],aD b6 83 [(.int .u64 0),nS],aR 136 34 A17 (n) (c17) (C),aD b7 83 [(vU seed),(.slice A17 (n) (c17))]]) ?_ ?_))
 ·refine cQ _ 9 kr (fun _ h=>h)<|aC 0 (vP b3 0) rfl<|al 1 0 ?_
  refine aC 3 (vP b3 1) rfl<|al 4 0 ?_
  refine kT (i:=2) (j:=7) kr rfl rfl rfl rfl ?_ ?_
  ·refine pN 0 136 [] fun b14=>aP _ (fun _ h=>h) (fun _ h=>h.sub (.cons_cons _ (.cons_cons _ (.cons _ .slnil)))) ?_
   refine kT (i:=5) (j:=7) kr rfl rfl rfl rfl ?_ ?_
   ·exact kV Cw 2 C rfl rfl kr rfl rfl rfl (by rw [HCL.out.1]) (fun w hM=>HCA.out w hM.fr) HCL.out.2 om n om C rfl (fun A17 c17=>aP _ (fun _ h=>h.sub (.cons_cons _ (.cons_cons _ (.cons _ .slnil)))) (fun _ h=>h)<|aC 6 (.agg #[(vU seed),(.slice A17 (n) (c17))]) rfl<|bU (i:=7) kr rfl rfl<|pA [(.int .u64 0),nS] fun b7=>aP _ (fun _ h=>h) (fun _ h=>h.sub (.cons_cons _ (.cons_cons _ (.cons_cons _ (.cons _ .slnil)))))<|bU (i:=8) kr rfl rfl<|pT 3 [(vU seed),(.slice A17 (n) (c17))] rfl<|aP _ (fun _ h=>h.sub (.cons_cons _ (.cons_cons _ (.cons_cons _ (.cons _ .slnil))))) (fun _ h=>h)<|cF kr<|aI (sM (b14,A17,c17,b7) trivial (fun _ h=>h)))
   ·exact pA [(.int .u64 0),nS] fun b7=>aP _ (fun _ h=>h) (fun _ h=>h.sub (.cons_cons _ (.cons_cons _ (.cons _ (.cons _ .slnil)))))<|bU (i:=5) kr rfl rfl<|kV Cw 2 C rfl rfl kr rfl rfl rfl (by rw [HCL.out.1]) (fun w hM=>HCA.out w hM.fr) HCL.out.2 om n om C rfl (fun A17 c17=>aP _ (fun _ h=>h.sub (.cons_cons _ (.cons_cons _ (.cons _ .slnil)))) (fun _ h=>h.sub (.cons_cons _ (.cons_cons _ (.cons_cons _ (.cons _ .slnil)))))<|aC 6 (.agg #[(vU seed),(.slice A17 (n) (c17))]) rfl<|bU (i:=8) kr rfl rfl<|pT 3 [(vU seed),(.slice A17 (n) (c17))] rfl<|aP _ (fun _ h=>h.sub (.cons_cons _ (.cons_cons _ (.cons_cons _ (.cons _ .slnil))))) (fun _ h=>h)<|cF kr<|aI (sM (b14,A17,c17,b7) trivial (fun _ h=>h)))
  ·exact pA [(.int .u64 0),nS] fun b7=>aP _ (fun _ h=>h) (fun _ h=>h.sub (.cons_cons _ (.cons_cons _ (.cons _ .slnil))))<|bU (i:=2) kr rfl rfl<|pN 0 136 [] fun b14=>aP _ (fun _ h=>h) (fun _ h=>h.sub (.cons_cons _ (.cons_cons _ (.cons _ (.cons _ .slnil)))))<|bU (i:=5) kr rfl rfl<|kV Cw 3 C rfl rfl kr rfl rfl rfl (by rw [HCL.out.1]) (fun w hM=>HCA.out w hM.fr) HCL.out.2 om n om C rfl (fun A17 c17=>aP _ (fun _ h=>h.sub (.cons_cons _ (.cons_cons _ (.cons _ .slnil)))) (fun _ h=>h.sub (.cons_cons _ (.cons_cons _ (.cons _ (.cons_cons _ .slnil)))))<|aC 6 (.agg #[(vU seed),(.slice A17 (n) (c17))]) rfl<|bU (i:=8) kr rfl rfl<|pT 2 [(vU seed),(.slice A17 (n) (c17))] rfl<|aP _ (fun _ h=>h.sub (.cons_cons _ (.cons_cons _ (.cons _ (.cons_cons _ .slnil))))) (fun _ h=>h)<|cF kr<|aI (sM (b14,A17,c17,b7) trivial (fun _ h=>h.perm (.cons _ (.cons _ (.swap _ _ _))))))
 ·rintro ⟨b14,A17,c17,b7⟩ -
  dsimp only
  refine aS<|St.Uo 2 rfl om (fun g rest hAA17 hleA17=>?_)
  subst hAA17
  rw [HC.out]
  show St _ _ _ _ [aD b3 83 [(vU seed),(.slice (some ⟨g0,0,none⟩) (n) (c0))],aD b6 83 [(.int .u64 0),nS],aD g 136 (aU (t.fC key aE 0).cells++rest),aD b7 83 [(vU seed),(.slice (some ⟨g,0,none⟩) (n) (c17))]] _
  refine aF<|lk (vP b3 1)<|lL 0 rfl<|lk (vI n)<|lk (vP b3 0)<|lL 0 rfl<|lx rfl<|Nx<|cU 134 #[(vI n),(vU seed),(vS key)] rfl kr (fun _=>kr) (fun w hM=>(Oc n seed key w (by rw [HN.out]; exact H.out.1.size) (by rw [H.out.2]; omega)).mono ?_)
  rintro e w' ⟨a8,c8,rfl,hf,hr,hg⟩
  have hM':=hM.push (c:=lR a8 ((jF n seed key).map (Value.int .i64))) hf (Oi hr (by rw [Oj]; omega)) (by simpa [lR] using hg) (by simp [lR])
  refine ⟨_,_,rfl,hM',?_⟩
  clear hM hM' hf hr hg
  refine lx rfl<|Ne<|lx rfl<|Ng<|sL (fun k=>k≤3) (fun k=>3 - k) (fun k=>[(1,(vS key)),(2,(vi aE)),(3,(vP b3 0)),(6,(vP b6 0)),(7,(vP b7 0)),(8,(.slice (some ⟨a8,0,none⟩) (3) (c8))),(9,(vI k))]) (fun k=>[aD b3 83 [(vU seed),(.slice (some ⟨g0,0,none⟩) (n) (c0))],aD b6 83 [(.int .u64 0),nS],aD g 136 (aU (t.fC key aE k).cells++rest),aD b7 83 [(vU seed),(.slice (some ⟨g,0,none⟩) (n) (c17))],lR a8 ((jF n seed key).map (Value.int .i64))]) 0 om (fun _ h=>h) ?_
  intro k (hk:k≤3)
  show St _ _ _ [(1,(vS key)),(2,(vi aE)),(3,(vP b3 0)),(6,(vP b6 0)),(7,(vP b7 0)),(8,(.slice (some ⟨a8,0,none⟩) (3) (c8))),(9,(vI k))] [aD b3 83 [(vU seed),(.slice (some ⟨g0,0,none⟩) (n) (c0))],aD b6 83 [(.int .u64 0),nS],aD g 136 (aU (t.fC key aE k).cells++rest),aD b7 83 [(vU seed),(.slice (some ⟨g,0,none⟩) (n) (c17))],lR a8 ((jF n seed key).map (Value.int .i64))] _
  refine Ny<|lx rfl<|lk (.bool (decide (((k:Nat):Int) < 3))) ?_
  refine aO (aI (bD rfl (fun hc27=>?_) (fun hc27=>?_)))
  ·have hd27:=of_decide_eq_true hc27
   have hlt:k < 3:=om
   obtain ⟨p,HP⟩:∃ p,Hid (p=eL n seed key k):=⟨_,rfl⟩
   have hpn:p < n:=by rw [HP.out]; exact yW n seed key k n3 hlt
   obtain ⟨cl,HCL2⟩:∃ cl,Hid (cl=(t.fC key aE k).cells):=⟨_,rfl⟩
   have hlen:cl.length=n:=by rw [HCL2.out,BT.nP,HN.out]
   have hok:gE cl:=by rw [HCL2.out]; exact (BT.Ok.fC H.out.1.ok H.out.2 aE k).cells
   obtain ⟨cc,hc⟩:∃ cc,cl[p]?=some cc:=⟨_,List.getElem?_eq_getElem (by rw [hlen]; exact hpn)⟩
   have hcok:cc.Ok:=hok cc (List.mem_of_getElem? hc)
   have hclen:=BC.cells_len hcok
   rw [← HCL2.out]
   refine Nm<|cQ _ 10 kr (fun _ h=>h)<|aC 0 (vP b7 1) rfl<|al 1 3 ?_
   refine am 2 ?_
   refine am 3 ?_
   refine aV 4 (.pointer (some ⟨a8,0+k,none⟩)) rfl (pJ (e:=3) rfl kr kr rfl rfl om)<|yE (i:=5) (vI p) rfl rfl rfl kr kr (fun _ _ _ h=>h) (gH rfl rfl kr (fun w hM=>by have h:(lR a8 ((jF n seed key).map (Value.int .i64))).holds w:=hM.at (i:=4) rfl; rw [HP.out,Nat.zero_add]; exact h.2 k _ (wF n seed key k hlt)))<|aV 6 (.pointer (some ⟨g,0+p*34,none⟩)) rfl (jN (e:=136) (sz:=34) rfl kr kr rfl rfl om) ?_
   refine av 7 (.agg (cc.cells).toArray) rfl (gC cc.cells rfl rfl kr (by rw [hclen]; kernel_rfl) (eQ (i:=2) rfl (fun j v hj=>by rw [Nat.zero_add,jY hok rest p cc hc j (by have:=(List.getElem?_eq_some_iff.1 hj).1; omega)]; exact hj))) ?_
   refine bU (i:=8) kr rfl rfl<|pA [(vi 0),(.int .u8 0),(.int .u8 0),(.int .u8 0),(.int .u8 0),(.int .u8 0),(.int .u8 0),(.int .u8 0),(.int .u8 0),(.int .u8 0),(.int .u8 0),(.int .u8 0),(.int .u8 0),(.int .u8 0),(.int .u8 0),(.int .u8 0),(.int .u8 0),(.int .u8 0),(.int .u8 0),(.int .u8 0),(.int .u8 0),(.int .u8 0),(.int .u8 0),(.int .u8 0),(.int .u8 0),(.int .u8 0),(.int .u8 0),(.int .u8 0),(.int .u8 0),(.int .u8 0),(.int .u8 0),(.int .u8 0),(.int .u8 0),(.int .u64 0)] fun b10=>aP _ (fun _ h=>h) (fun _ h=>h.sub (.cons_cons _ (.cons_cons _ (.cons_cons _ (.cons_cons _ (.cons_cons _ (.cons _ .slnil)))))))<|bU (i:=9) kr rfl rfl<|gI 5 cc.cells (vs:=cc.cells) rfl rfl kr rfl rfl rfl (by rw [hclen]; kernel_rfl) rfl (by rw [hclen]; decide) (BC.mB cc) (oD (by rw [hclen]; rfl)) ?_
   refine aP _ (fun _ h=>h.sub (.cons_cons _ (.cons_cons _ (.cons_cons _ (.cons_cons _ (.cons_cons _ (.cons _ .slnil))))))) (fun _ h=>h)<|cF kr<|aI<|Nc<|lk (vP b10 0)<|lw (.int .i64 cc.count) (cW 5 rfl rfl kr rfl (jB cc))<|lx rfl<|lk (vi (IntKind.i64.wrap (cc.count+aE)))<|lk (vP b10 0)<|Nx<|kJ 5 rfl rfl kr rfl rfl rfl kr rfl (by rw [hclen]; decide) ?_
   refine Nf<|aS<|St.mem (cs':=[aD b3 83 [(vU seed),(.slice (some ⟨g0,0,none⟩) (n) (c0))],aD b6 83 [(.int .u64 0),nS],aD g 136 (aU cl++rest),aD b7 83 [(vU seed),(.slice (some ⟨g,0,none⟩) (n) (c17))],lR a8 ((jF n seed key).map (Value.int .i64)),aD b10 136 ((cc.part key aE 0 0).cells)]) (fun w hM=>by rw [BU,Nat.xor_zero,yX cc]; exact hM)<|aF<|lx rfl<|Ng<|sL (fun i=>i≤32) (fun i=>32 - i) (fun i=>[(1,(vS key)),(2,(vi aE)),(3,(vP b3 0)),(6,(vP b6 0)),(7,(vP b7 0)),(8,(.slice (some ⟨a8,0,none⟩) (3) (c8))),(9,(vI k)),(10,(vP b10 0)),(11,(vI i))]) (fun i=>[aD b3 83 [(vU seed),(.slice (some ⟨g0,0,none⟩) (n) (c0))],aD b6 83 [(.int .u64 0),nS],aD g 136 (aU cl++rest),aD b7 83 [(vU seed),(.slice (some ⟨g,0,none⟩) (n) (c17))],lR a8 ((jF n seed key).map (Value.int .i64)),aD b10 136 ((cc.part key aE 0 i).cells)]) 0 om (fun _ h=>h) ?_
   intro i (hi:i≤32)
   show St _ _ _ [(1,(vS key)),(2,(vi aE)),(3,(vP b3 0)),(6,(vP b6 0)),(7,(vP b7 0)),(8,(.slice (some ⟨a8,0,none⟩) (3) (c8))),(9,(vI k)),(10,(vP b10 0)),(11,(vI i))] [aD b3 83 [(vU seed),(.slice (some ⟨g0,0,none⟩) (n) (c0))],aD b6 83 [(.int .u64 0),nS],aD g 136 (aU cl++rest),aD b7 83 [(vU seed),(.slice (some ⟨g,0,none⟩) (n) (c17))],lR a8 ((jF n seed key).map (Value.int .i64)),aD b10 136 ((cc.part key aE 0 i).cells)] _
   refine Ny<|lx rfl<|lk (.bool (decide (((i:Nat):Int) < 32))) ?_
   refine aO (aI (bD rfl (fun hc44=>?_) (fun hc44=>?_)))
   ·have hd44:=of_decide_eq_true hc44
    have hlt2:i < 32:=om
    obtain ⟨x,hx⟩:∃ x,cc.keys[i]?=some x:=⟨_,List.getElem?_eq_getElem (by rw [hcok.keys]; exact hlt2)⟩
    obtain ⟨y,hy⟩:∃ y,key[i]?=some y:=⟨_,List.getElem?_eq_getElem (by rw [H.out.2]; exact hlt2)⟩
    have hpl:(cc.part key aE 0 i).cells.length=34:=BC.cells_len (tZ hcok H.out.2 aE (by unfold bI; omega) i)
    refine Nl<|fO ?_
    refine cQ _ 11 kr (fun _ h=>h) ?_
    refine am 0 ?_
    refine am 1 ?_
    refine aC 2 (vP b10 1) rfl<|aV 3 (.pointer (some ⟨b10,1+i,none⟩)) rfl (kU (e:=5) (m:=32) rfl kr kr rfl rfl om)<|aV 4 (.int .u8 ((x.toNat:Nat):Int)) rfl (cW 5 rfl rfl kr rfl (uA i x (BV key aE 0 i x hx H.out.2 hcok.keys)))<|am 5 ?_
    refine am 6 ?_
    refine aV 7 (.int .u8 ((y.toNat:Nat):Int)) rfl (yF rfl kr rfl rfl hy)<|aV 8 (.int .u8 (((x ^^^ y).toNat:Nat):Int)) rfl (qH .xor si _ rfl rfl rfl (yY x y))<|aC 9 (vP b10 1) rfl<|aV 10 (.pointer (some ⟨b10,1+i,none⟩)) rfl (kU (e:=5) (m:=32) rfl kr kr rfl rfl om)<|bU (i:=11) kr rfl rfl<|kJ 5 rfl rfl kr rfl rfl rfl kr rfl (by rw [hpl]; omega) ?_
    exact lO kr rfl<|nY<|aI<|St.mem (cs':=[aD b3 83 [(vU seed),(.slice (some ⟨g0,0,none⟩) (n) (c0))],aD b6 83 [(.int .u64 0),nS],aD g 136 (aU cl++rest),aD b7 83 [(vU seed),(.slice (some ⟨g,0,none⟩) (n) (c17))],lR a8 ((jF n seed key).map (Value.int .i64)),aD b10 136 ((cc.part key aE 0 (i+1)).cells)]) (fun w hM=>by rw [BW key aE 0 i x y hx hy hcok.keys H.out.2]; exact hM)<|aF<|lx rfl<|lw (vI (i+1)) bO<|lx rfl<|aO (aI (sA (i+1) (by show _≤_; omega) (by show 32 - (i+1) < 32 - i; omega) (fun _ h=>h)))
   ·have hd44:=of_decide_eq_false hc44
    obtain rfl:i=32:=om
    obtain ⟨hh,HHH⟩:∃ hh,Hid (hh=gL seed 3 key):=⟨_,rfl⟩
    have hhu:bI hh:=by rw [HHH.out]; exact yV _ _ _
    have hpk:=(tZ hcok H.out.2 aE (chk:=0) (by unfold bI; omega) 32)
    have hpl:=BC.cells_len hpk
    have hpc:(cc.part key aE 0 32).checks=cc.checks:=Nat.xor_zero _
    refine Nj<|cQ _ 8 kr (fun _ h=>h)<|aC 0 (vP b10 33) rfl<|aV 1 (vU cc.checks) rfl (cW 5 rfl rfl kr rfl (by rw [← hpc]; exact mW hpk.keys))<|aC 2 (vP b3 0) rfl<|al 3 0 ?_
    refine am 4 ?_
    refine bU (i:=5) kr rfl rfl<|cU 133 #[(vU seed),(vi 3),(vS key)] rfl kr (fun _=>kr) (fun w hM=>(zH seed 3 key w om (by rw [H.out.2]; omega)).mono ?_)
    rintro e w' ⟨rfl,hf⟩
    have hM':=hM.dD hf
    refine ⟨(vU (gL seed 3 key)),_,rfl,hM',?_⟩
    clear hM hM' hf
    refine aP _ (fun _ h=>h) (fun _ h=>h)<|aV 6 (vU (cc.checks ^^^ gL seed 3 key)) rfl (qH .xor si _ rfl rfl rfl (u64_xor_nat _ _ hcok.checks (by rw [← HHH.out]; exact hhu)))<|aC 7 (vP b10 33) rfl<|bU (i:=8) kr rfl rfl<|kJ 5 rfl rfl kr rfl rfl rfl kr rfl (by rw [hpl]; omega) ?_
    refine lO kr rfl<|aI ?_
    have hadd:(cc.add key aE hh).cells=(cc.part key aE 0 32).cells.set 33 (vU (cc.checks ^^^ gL seed 3 key)):=by
     rw [wE cc key aE 0 hcok.keys H.out.2,HHH.out,← uB (by rw [← wE cc key aE 0 hcok.keys H.out.2]; exact hpk.keys)]
     rfl
    have hal:(cc.add key aE hh).cells.length=34:=by rw [hadd,List.length_set]; exact hpl
    refine St.mem (cs':=[aD b3 83 [(vU seed),(.slice (some ⟨g0,0,none⟩) (n) (c0))],aD b6 83 [(.int .u64 0),nS],aD g 136 (aU cl++rest),aD b7 83 [(vU seed),(.slice (some ⟨g,0,none⟩) (n) (c17))],lR a8 ((jF n seed key).map (Value.int .i64)),aD b10 136 ((cc.add key aE hh).cells)]) (fun w hM=>by rw [hadd]; exact hM)<|cQ _ 8 kr (fun _ h=>h)<|aC 0 (vP b7 1) rfl<|al 1 3 ?_
    refine am 2 ?_
    refine am 3 ?_
    refine aV 4 (.pointer (some ⟨a8,0+k,none⟩)) rfl (pJ (e:=3) rfl kr kr rfl rfl om)<|yE (i:=5) (vI p) rfl rfl rfl kr kr (fun _ _ _ h=>h) (gH rfl rfl kr (fun w hM=>by have h:(lR a8 ((jF n seed key).map (Value.int .i64))).holds w:=hM.at (i:=4) rfl; rw [HP.out,Nat.zero_add]; exact h.2 k _ (wF n seed key k hlt)))<|aV 6 (.agg ((cc.add key aE hh).cells).toArray) rfl (gC (cc.add key aE hh).cells rfl rfl kr (by rw [hal]; kernel_rfl) (eQ (i:=5) rfl (fun j v hj=>by rw [Nat.zero_add]; exact hj)))<|aV 7 (.pointer (some ⟨g,0+p*34,none⟩)) rfl (jN (e:=136) (sz:=34) rfl kr kr rfl rfl om)<|bU (i:=8) kr rfl rfl<|gI 2 (aU (cl.set p (cc.add key aE hh))++rest) (vs:=(cc.add key aE hh).cells) rfl rfl kr rfl rfl rfl (by rw [hal]; kernel_rfl) rfl (by rw [hal,List.length_append,kM hok,hlen]; omega) (BC.mB _) (by rw [hal,Nat.zero_add]; exact (zI hok rest p cc hc _).symm) ?_
    refine lO kr rfl<|nY<|aI ?_
    have hplace:p=eL (t.fC key aE k).cells.length (t.fC key aE k).seed key k:=by rw [HP.out,BT.nP,BT.nC,HN.out,HS.out]
    have hcells:(t.fC key aE (k+1)).cells=cl.set p (cc.add key aE hh):=by
     show ((t.fC key aE k).kO key aE k).cells=_
     rw [BT.Kx _ key aE k cc (by rw [← hplace,← HCL2.out]; exact hc),← hplace,← HCL2.out,BT.nC,HHH.out,HS.out]
    exact St.mem (cs':=[aD b3 83 [(vU seed),(.slice (some ⟨g0,0,none⟩) (n) (c0))],aD b6 83 [(.int .u64 0),nS],aD g 136 (aU (t.fC key aE (k+1)).cells++rest),aD b7 83 [(vU seed),(.slice (some ⟨g,0,none⟩) (n) (c17))],lR a8 ((jF n seed key).map (Value.int .i64)),aD b10 136 ((cc.add key aE hh).cells)]) (fun w hM=>by rw [hcells]; exact hM)<|aF<|lx rfl<|lw (vI (k+1)) bO<|lx rfl<|aO (aI (sA (k+1) (by show _≤_; omega) (by show 3 - (k+1) < 3 - k; omega) (fun _ h=>h.sub (.cons_cons _ (.cons_cons _ (.cons_cons _ (.cons_cons _ (.cons_cons _ (.cons _ .slnil)))))))))
  ·have hd27:=of_decide_eq_false hc27
   obtain rfl:k=3:=om
   refine Nj<|aF<|lW (rA 3 [(vU seed),(.slice (some ⟨g,0,none⟩) (n) (c17))])<|Nx<|pT 1 [(vU seed),(.slice (some ⟨g,0,none⟩) (n) (c17))] rfl<|Nd<|fP [(.agg #[(vU seed),(.slice (some ⟨g,0,none⟩) (n) (c17))])] rfl ⟨⟨_,rfl,fun w hM=>gZ kr kr (eQ (i:=1) (off:=0) rfl (by intro j v hj; rw [Nat.zero_add]; exact hj) w hM)⟩,trivial⟩ (fun w hM=>?_)
   refine ⟨g,c17,rest,rfl,hM.lo (i:=2) rfl (by simp [aD]),hM.fr,⟨hM.at (i:=2) rfl,BT.Ok.fC H.out.1.ok H.out.2 aE 3,?_,?_⟩⟩
   ·rw [← BT.xT,BT.nP]; exact H.out.1.size
   ·rw [← BT.xT,BT.nP,← HN.out]; exact hleA17
section
section
variable {w0 w w' : World} {F : List Nat} {cs cs' : List Ch}
theorem Mm.lift (h:Mm w0 F cs w) (h':Mm w [] cs' w'):Mm w0 F (cs++cs') w':=by
 have h0:=h.dD h'.fr
 have hsz:=h.fr.size
 have lo:∀ b∈cs'.flatMap Ch.fp,w.heap.size≤b:=fun b hb=>(h'.own b hb).elim (fun x=>by cases x) id
 refine ⟨h0.fr,?_,?_,?_⟩
 ·intro x hx
  rcases List.mem_append.1 hx with hx | hx
  ·exact h0.hold x hx
  ·exact h'.hold x hx
 ·rw [List.flatMap_append,List.nodup_append]
  refine ⟨h.nodup,h'.nodup,fun a ha b hb e=>?_⟩
  subst e
  have h1:=h.Ec ha
  have h2:=lo a hb
  omega
 ·intro b hb
  rw [List.flatMap_append] at hb
  rcases List.mem_append.1 hb with hb | hb
  ·exact h.own b hb
  ·exact .inr (by have:=lo b hb; omega)
end
def jP (bt bc cap : Nat) (rest : List Value) (t : BT) : Ch where
 fp := [bt, bc]
 holds w := eD w bt bc cap rest t
 ok w w' hb h := ⟨(hb bt (by simp)).trans h.tab, (hb bc (by simp)).trans h.cells, h.ok, h.size, h.cap⟩
 lt w h b hb := by
  rcases List.mem_cons.1 hb with rfl | hb
  ·exact h.tab.lt
  ·rw [List.mem_singleton] at hb
   subst hb
   exact h.cells.lt
theorem GA {w:World} {bt bc cap:Nat} {rest:List Value} {t:BT} (h:eD w bt bc cap rest t):(jP bt bc cap rest t).fp.Nodup:=by
 have:=h.tab.ne h.cells (by decide)
 simpa [jP] using this
def mJ (g c : Nat) (rest : List Value) (t : BT) : Ch where
 fp := [g]
 holds w := gW w g c rest t
 ok w w' hb h := ⟨(hb g (by simp)).trans h.cells, h.ok, h.size, h.cap⟩
 lt w h b hb := by
  rw [List.mem_singleton] at hb
  subst hb
  exact h.cells.lt
section
variable {w0 w w' : World} {F : List Nat} {cs : List Ch}
theorem Mm.UA (h:Mm w0 F cs w) (i:Nat) {bt bc cap:Nat} {rest:List Value} {t t':BT} (hi:cs[i]?=some (jP bt bc cap rest t)) (hf:Fr [bc] w w') (ht:eD w' bt bc cap rest t'):Mm w0 F (cs.set i (jP bt bc cap rest t')) w' :=
 h.swap i hi (c':=jP bt bc cap rest t') (hf.mono fun x hx=>.inl (by simp [jP] at hx ⊢; exact .inr hx)) ht (fun b hb=>.inl hb) (GA ht)
theorem Mm.UB (h:Mm w0 F cs w) {bt bc cap:Nat} {rest:List Value} {t:BT} (hf:Fr [] w w') (ht:eD w' bt bc cap rest t) (h1:w.heap.size≤bt) (h2:w.heap.size≤bc):Mm w0 F (cs++[jP bt bc cap rest t]) w' :=
 h.push (c:=jP bt bc cap rest t) hf ht (fun b hb=>by simp [jP] at hb; omega) (GA ht)
theorem Mm.tC (h:Mm w0 F cs w) {g c:Nat} {rest:List Value} {t:BT} (hf:Fr [] w w') (ht:gW w' g c rest t) (h1:w.heap.size≤g):Mm w0 F (cs++[mJ g c rest t]) w' :=
 h.push (c:=mJ g c rest t) hf ht (fun b hb=>by simp [mJ] at hb; omega) (by simp [mJ])
end
end
theorem change_len (t:BT) (key:List UInt8) (aE:Int):(t.change key aE).cells.length=t.cells.length:=by rw [← BT.xT,BT.nP]
theorem change_seed (t:BT) (key:List UInt8) (aE:Int):(t.change key aE).seed=t.seed:=by rw [← BT.xT,BT.nC]
theorem Ol {t:BT} (h:t.Ok) (i:Nat):(t.cellAt i).Ok:=by
 unfold BT.cellAt
 rw [List.getD_eq_getElem?_getD]
 cases hq:t.cells[i]? with
 | none=>exact BC.Ok.zero
 | some c=>exact h.cells c (List.mem_of_getElem? hq)
def BC.sub (c d : BC) : BC := c.add d.keys (-d.count) d.checks
def BT.sub (t u : BT) : BT := ⟨List.zipWith BC.sub t.cells u.cells, t.seed⟩
def gQ (t u : BT) (l : List BC) (i : Nat) : List BC := (t.sub u).cells.take i ++ l.drop i
theorem BC.Ok.sub {c d:BC} (h1:c.Ok) (h2:d.Ok):(c.sub d).Ok:=by
 have:=tZ h1 h2.keys (-d.count) h2.checks 32
 rwa [wE c d.keys (-d.count) d.checks h1.keys h2.keys] at this
theorem nI {t u:BT} (h:u.cells.length=t.cells.length):(t.sub u).cells.length=t.cells.length:=by simp [BT.sub,h]
theorem zJ {t u:BT} (h1:t.Ok) (h2:u.Ok):(t.sub u).Ok:=by
 refine ⟨fun c hc=>?_,h1.seed⟩
 obtain ⟨i,hi,rfl⟩:=List.mem_iff_getElem.1 hc
 simp only [BT.sub,List.length_zipWith] at hi
 simp only [BT.sub,List.getElem_zipWith]
 exact BC.Ok.sub (h1.cells _ (List.getElem_mem _)) (h2.cells _ (List.getElem_mem _))
theorem GB {t u:BT} {i:Nat} {c d:BC} (hc:t.cells[i]?=some c) (hd:u.cells[i]?=some d):(t.sub u).cells[i]?=some (c.sub d):=by
 simp [BT.sub,List.getElem?_zipWith,hc,hd]
theorem GC (t u:BT) (l:List BC):gQ t u l 0=l:=by simp [gQ]
theorem GD {t u:BT} {l:List BC} (h:u.cells.length=t.cells.length) (hl:l.length=t.cells.length):gQ t u l t.cells.length=(t.sub u).cells:=by
 unfold gQ
 rw [List.take_of_length_le (by rw [nI h]; exact Nat.le_refl _),List.drop_of_length_le om,List.append_nil]
theorem GF {t u:BT} {l:List BC} (h:u.cells.length=t.cells.length) (hl:l.length=t.cells.length) (i:Nat) (hi:i≤t.cells.length):(gQ t u l i).length=t.cells.length:=by
 unfold gQ
 rw [List.length_append,List.length_take,List.length_drop,nI h,hl]
 omega
theorem Om {t u:BT} {l:List BC} (h:u.cells.length=t.cells.length) (i:Nat) (hi:i < t.cells.length):(gQ t u l i)[i]?=l[i]?:=by
 unfold gQ
 have h1:((t.sub u).cells.take i).length=i:=by rw [List.length_take,nI h]; omega
 rw [List.getElem?_append_right om,h1,List.getElem?_drop]
 simp
theorem GG {t u:BT} {l:List BC} (h:u.cells.length=t.cells.length) (hl:l.length=t.cells.length) {i:Nat} {x:BC} (hi:i < t.cells.length) (hx:(t.sub u).cells[i]?=some x):(gQ t u l i).set i x=gQ t u l (i+1):=by
 unfold gQ
 have h1:((t.sub u).cells.take i).length=i:=by rw [List.length_take,nI h]; omega
 obtain ⟨h2,h3⟩:=List.getElem?_eq_some_iff.1 hx
 rw [List.set_append_right _ _ om,h1,Nat.sub_self,List.take_succ_eq_append_getElem h2,h3,List.drop_eq_getElem_cons om,List.set_cons_zero]
 simp
theorem GH {t u:BT} {l:List BC} (h1:t.Ok) (h2:u.Ok) (hl:gE l) (i:Nat):gE (gQ t u l i):=by
 intro c hc
 rcases List.mem_append.1 hc with hc | hc
 ·exact (zJ h1 h2).cells c (List.mem_of_mem_take hc)
 ·exact hl c (List.mem_of_mem_drop hc)
theorem gE.set {l:List BC} (h:gE l) (i:Nat) {c:BC} (hc:c.Ok):gE (l.set i c):=by
 intro x hx
 rcases List.mem_or_eq_of_mem_set hx with hx | rfl
 ·exact h x hx
 ·exact hc
def kA (a b : List UInt8) (j : Nat) : List UInt8 := a.take j ++ b.drop j
theorem On {a b:List UInt8} (h:a.length=b.length) (j:Nat):(kA a b j).length=b.length:=by
 unfold kA
 rw [List.length_append,List.length_take,List.length_drop]
 omega
theorem Oo {a b:List UInt8} (h:a.length=b.length) {j:Nat} {v:UInt8} (hv:a[j]?=some v):(kA a b j).set j v=kA a b (j+1):=by
 obtain ⟨h1,h2⟩:=List.getElem?_eq_some_iff.1 hv
 unfold kA
 have h3:(a.take j).length=j:=by rw [List.length_take]; omega
 rw [List.set_append_right _ _ om,h3,Nat.sub_self,List.take_succ_eq_append_getElem h1,h2,List.drop_eq_getElem_cons om,List.set_cons_zero]
 simp
theorem Cx {n:Int} {ks:List UInt8} {x j:Nat} {v:UInt8} (h:j < ks.length):(⟨n,ks,x⟩:BC).cells.set (1+j) (.int .u8 ((v.toNat:Nat):Int))=(⟨n,ks.set j v,x⟩:BC).cells:=by
 simp only [BC.cells]
 rw [Nat.add_comm,List.set_cons_succ,List.set_append_left _ _ (by rw [dL]; exact h)]
 simp [B8,List.map_set]
theorem Cy {w:World} {bt bc c:Nat} {rest:List Value} {t:BT} (h:eD w bt bc c rest t) {i:Nat} {cc:BC} (hc:t.cells[i]?=some cc) (j:Nat) (v:Value) (hj:cc.cells[j]?=some v):w.cell? ⟨bc,i*34+j,none⟩=some v:=by
 have hj34:=(List.getElem?_eq_some_iff.1 hj).1
 rw [BC.cells_len (h.ok.cells cc (List.mem_of_getElem? hc))] at hj34
 rw [h.cells.cell,jY h.ok.cells rest i cc hc j hj34]
 exact hj
theorem Mm.UC {w0 w w':World} {F:List Nat} {cs:List Ch} {b b':Nat} {t t':TypeId} {l l':List Value} (h:Mm w0 F cs w) (hf:Fr [] w w') (h1:At w' b t l) (h2:At w' b' t' l') (g1:w.heap.size≤b) (g2:w.heap.size≤b') (hne:b≠b'):Mm w0 F (cs++[aD b t l,aD b' t' l']) w':=by
 refine h.lift (cs':=[aD b t l,aD b' t' l']) ⟨hf,?_,?_,?_⟩
 ·intro c hc
  rcases List.mem_cons.1 hc with rfl | hc
  ·exact h1
  ·rw [List.mem_singleton] at hc; subst hc; exact h2
 ·simp [aD]; exact hne
 ·intro x hx
  simp [aD] at hx
  right
  omega
theorem Mm.KI {w0 w:World} {b b' n cap seed:Nat} {rest:List Value} {t:BT} {l:List BC} (h:Mm w0 [] [aD b 174 [.slice (some ⟨b',0,none⟩) n cap,.int .u64 (seed:Int)],aD b' 183 (aU l++rest)] w) (hn:t.cells.length=n) (hs:t.seed=seed) (hl:l=t.cells) (hok:t.Ok) (hz:dQ (n:Int)=true) (hc:n≤cap):Mm w0 [] [jP b b' cap rest t] w:=by
 subst hn hs hl
 refine ⟨h.fr,?_,?_,?_⟩
 ·intro c hc'
  rw [List.mem_singleton] at hc'
  subst hc'
  exact ⟨h.at (i:=0) rfl,h.at (i:=1) rfl,hok,hz,hc⟩
 ·have:=h.nodup
  simpa [jP,aD] using this
 ·intro x hx
  exact h.own x (by simpa [jP,aD] using hx)
theorem Oq (bt1 bc1 cap1 bt2 bc2 cap2:Nat) (rest1 rest2:List Value) (t u:BT) (w:World) (ht:eD w bt1 bc1 cap1 rest1 t) (hu:eD w bt2 bc2 cap2 rest2 u) (hne:t.cells.length≠u.cells.length) :
  Calls Tryz.prog 78 #[vP bt1 0,vP bt2 0] w fun e w'=>e = .returned (.tuple #[.pointer none,vi 1])∧Fr [] w w':=by
 have h1c:w.cell? ⟨bt1,0,none⟩=some (.slice (some ⟨bc1,0,none⟩) t.cells.length cap1):=by rw [ht.tab.cell]; rfl
 have h1s:w.cell? ⟨bt1,1,none⟩=some (.int .u64 (t.seed:Int)):=by rw [ht.tab.cell]; rfl
 have h2c:w.cell? ⟨bt2,0,none⟩=some (.slice (some ⟨bc2,0,none⟩) u.cells.length cap2):=by rw [hu.tab.cell]; rfl
 have h2s:w.cell? ⟨bt2,1,none⟩=some (.int .u64 (u.seed:Int)):=by rw [hu.tab.cell]; rfl
 obtain ⟨n,HN⟩:∃ n,Hid (n=t.cells.length):=⟨_,rfl⟩
 obtain ⟨seed,HS⟩:∃ seed,Hid (seed=t.seed):=⟨_,rfl⟩
 rw [← HN.out] at h1c
 rw [← HS.out] at h1s
 obtain ⟨n2,HN2⟩:∃ n,Hid (n=u.cells.length):=⟨_,rfl⟩
 obtain ⟨seed2,HS2⟩:∃ seed,Hid (seed=u.seed):=⟨_,rfl⟩
 rw [← HN2.out] at h2c
 rw [← HS2.out] at h2s
 have hnn:n≠n2:=by rw [HN.out,HN2.out]; exact hne
 clear hne
 refine bK Tryz.func78 99 (Mm.start w []) rfl<|Nc<|lx rfl<|Nf<|aS<|cQ [] 22 kr (fun _ h=>h)<|am 0 ?_
 refine aC 1 (vP bt1 0) rfl<|aC 2 (vP bt1 0) rfl<|aV 3 _ rfl (rW (fun w hM=>hM.dX (h1c) si))<|aC 4 (vI n) rfl<|am 5 ?_
 refine aC 6 (vP bt2 0) rfl<|aC 7 (vP bt2 0) rfl<|aV 8 _ rfl (rW (fun w hM=>hM.dX (h2c) si)) ?_
 refine aC 9 (vI n2) rfl ?_
 refine aC 10 (.bool ((((n:Nat):Int):Int) != ((n2:Nat):Int))) rfl ?_
 refine am 11 ?_
 exact Any.known 22 (b':=true) rfl (by simp; omega)<|iQ (i:=12) (b:=true) rfl rfl rfl rfl kr kr (fun _ _ _ h=>h)<|iQ (i:=13) (b:=true) rfl rfl rfl rfl kr kr (fun _ _ _ h=>h)<|iQ (i:=14) (b:=true) rfl rfl rfl rfl kr kr (fun _ _ _ h=>h)<|iQ (i:=15) (b:=true) rfl rfl rfl rfl kr kr (fun _ _ _ h=>h)<|iQ (i:=16) (b:=true) rfl rfl rfl rfl kr kr (fun _ _ _ h=>h)<|iQ (i:=17) (b:=true) rfl rfl rfl rfl kr kr (fun _ _ _ h=>h)<|iQ (i:=18) (b:=true) rfl rfl rfl rfl kr kr (fun _ _ _ h=>h)<|iQ (i:=19) (b:=true) rfl rfl rfl rfl kr kr (fun _ _ _ h=>h)<|iQ (i:=20) (b:=true) rfl rfl rfl rfl kr kr (fun _ _ _ h=>h)<|aC 21 bT rfl<|cF kr<|aI<|rJ rfl<|Nc<|lx rfl<|Nh<|sN [(.pointer none),(vi 1)] fun w hM=>⟨rfl,hM.fr⟩
theorem Ot (bt1 bc1 cap1 bt2 bc2 cap2:Nat) (rest1 rest2:List Value) (t u:BT) (w:World) (ht:eD w bt1 bc1 cap1 rest1 t) (hu:eD w bt2 bc2 cap2 rest2 u) (heq:t.cells.length=u.cells.length) (hne:t.seed≠u.seed) :
  Calls Tryz.prog 78 #[vP bt1 0,vP bt2 0] w fun e w'=>e = .returned (.tuple #[.pointer none,vi 1])∧Fr [] w w':=by
 have h1c:w.cell? ⟨bt1,0,none⟩=some (.slice (some ⟨bc1,0,none⟩) t.cells.length cap1):=by rw [ht.tab.cell]; rfl
 have h1s:w.cell? ⟨bt1,1,none⟩=some (.int .u64 (t.seed:Int)):=by rw [ht.tab.cell]; rfl
 have h2c:w.cell? ⟨bt2,0,none⟩=some (.slice (some ⟨bc2,0,none⟩) u.cells.length cap2):=by rw [hu.tab.cell]; rfl
 have h2s:w.cell? ⟨bt2,1,none⟩=some (.int .u64 (u.seed:Int)):=by rw [hu.tab.cell]; rfl
 obtain ⟨n,HN⟩:∃ n,Hid (n=t.cells.length):=⟨_,rfl⟩
 obtain ⟨seed,HS⟩:∃ seed,Hid (seed=t.seed):=⟨_,rfl⟩
 rw [← HN.out] at h1c
 rw [← HS.out] at h1s
 obtain ⟨seed2,HS2⟩:∃ seed,Hid (seed=u.seed):=⟨_,rfl⟩
 rw [← heq,← HN.out] at h2c
 rw [← HS2.out] at h2s
 have hnn:seed≠seed2:=by rw [HS.out,HS2.out]; exact hne
 clear hne
 refine bK Tryz.func78 99 (Mm.start w []) rfl<|Nc<|lx rfl<|Nf<|aS<|cQ [] 22 kr (fun _ h=>h)<|am 0 ?_
 refine aC 1 (vP bt1 0) rfl<|aC 2 (vP bt1 0) rfl<|aV 3 _ rfl (rW (fun w hM=>hM.dX (h1c) si))<|aC 4 (vI n) rfl<|am 5 ?_
 refine aC 6 (vP bt2 0) rfl<|aC 7 (vP bt2 0) rfl<|aV 8 _ rfl (rW (fun w hM=>hM.dX (h2c) si)) ?_
 refine aC 9 (vI n) rfl ?_
 refine aV 10 bF rfl (iB (v:=.bool ((((n:Nat):Int):Int) != ((n:Nat):Int))) (fL fun _=>by kernel_rfl) si) ?_
 refine am 11 ?_
 exact eJ (i:=12) (vP bt1 0) rfl rfl rfl rfl kr kr (fun _ _ _ h=>h) (fZ rfl rfl)<|eJ (i:=13) (vP bt1 0) rfl rfl rfl rfl kr kr (fun _ _ _ h=>h) (fL fun _=>by kernel_rfl)<|eJ (i:=14) (vP bt1 1) rfl rfl rfl rfl kr kr (fun _ _ _ h=>h) (fL fun _=>by kernel_rfl)<|eJ (i:=15) (vU seed) rfl rfl rfl rfl kr kr (fun _ _ _ h=>h) (gH rfl rfl kr (fun w hM=>hM.dX (h1s) si))<|eJ (i:=16) (vP bt2 0) rfl rfl rfl rfl kr kr (fun _ _ _ h=>h) (fZ rfl rfl)<|eJ (i:=17) (vP bt2 0) rfl rfl rfl rfl kr kr (fun _ _ _ h=>h) (fL fun _=>by kernel_rfl)<|eJ (i:=18) (vP bt2 1) rfl rfl rfl rfl kr kr (fun _ _ _ h=>h) (fL fun _=>by kernel_rfl)<|eJ (i:=19) (vU seed2) rfl rfl rfl rfl kr kr (fun _ _ _ h=>h) (gH rfl rfl kr (fun w hM=>hM.dX (h2s) si))<|eJ (i:=20) (.bool (((seed:Nat):Int) != ((seed2:Nat):Int))) rfl rfl rfl rfl kr kr (fun _ _ _ h=>h) (fL fun _=>by kernel_rfl)<|aV 21 bT rfl (iB (v:=.bool (((seed:Nat):Int) != ((seed2:Nat):Int))) (fL fun _=>by kernel_rfl) (by simp; omega))<|cF kr<|aI<|rJ rfl<|Nc<|lx rfl<|Nh<|sN [(.pointer none),(vi 1)] fun w hM=>⟨rfl,hM.fr⟩
theorem Ou (bt1 bc1 cap1 bt2 bc2 cap2:Nat) (rest1 rest2:List Value) (t u:BT) (w:World) (ht:eD w bt1 bc1 cap1 rest1 t) (hu:eD w bt2 bc2 cap2 rest2 u) (heq:t.cells.length=u.cells.length) (hse:t.seed=u.seed) :
  Calls Tryz.prog 78 #[vP bt1 0,vP bt2 0] w fun e w'=>∃ btr bcr capr restr,e = .returned (.tuple #[vP btr 0,vi 0])∧Mm w [] [jP btr bcr capr restr (t.sub u)] w':=by
 have h1c:w.cell? ⟨bt1,0,none⟩=some (.slice (some ⟨bc1,0,none⟩) t.cells.length cap1):=by rw [ht.tab.cell]; rfl
 have h1s:w.cell? ⟨bt1,1,none⟩=some (.int .u64 (t.seed:Int)):=by rw [ht.tab.cell]; rfl
 have h2c:w.cell? ⟨bt2,0,none⟩=some (.slice (some ⟨bc2,0,none⟩) u.cells.length cap2):=by rw [hu.tab.cell]; rfl
 have h2s:w.cell? ⟨bt2,1,none⟩=some (.int .u64 (u.seed:Int)):=by rw [hu.tab.cell]; rfl
 obtain ⟨n,HN⟩:∃ n,Hid (n=t.cells.length):=⟨_,rfl⟩
 obtain ⟨seed,HS⟩:∃ seed,Hid (seed=t.seed):=⟨_,rfl⟩
 rw [← HN.out] at h1c
 rw [← HS.out] at h1s
 rw [← heq,← HN.out] at h2c
 rw [← hse,← HS.out] at h2s
 have n4:n≤3072:=by rw [HN.out]; exact (gV ht.size).2.1
 have HT:=Lib.hid ht
 have HU:=Lib.hid hu
 have HUL:Hid (u.cells.length=n):=by show _=_; rw [HN.out]; exact heq.symm
 clear ht hu heq hse
 refine bK Tryz.func78 99 (Mm.start w []) rfl<|Nc<|lx rfl<|Nf<|aS<|cQ [] 22 kr (fun _ h=>h)<|am 0 ?_
 refine aC 1 (vP bt1 0) rfl<|aC 2 (vP bt1 0) rfl<|aV 3 _ rfl (rW (fun w hM=>hM.dX (h1c) si))<|aC 4 (vI n) rfl<|am 5 ?_
 refine aC 6 (vP bt2 0) rfl<|aC 7 (vP bt2 0) rfl<|aV 8 _ rfl (rW (fun w hM=>hM.dX (h2c) si)) ?_
 refine aC 9 (vI n) rfl ?_
 refine aV 10 bF rfl (iB (v:=.bool ((((n:Nat):Int):Int) != ((n:Nat):Int))) (fL fun _=>by kernel_rfl) si) ?_
 refine am 11 ?_
 refine eJ (i:=12) (vP bt1 0) rfl rfl rfl rfl kr kr (fun _ _ _ h=>h) (fZ rfl rfl)<|eJ (i:=13) (vP bt1 0) rfl rfl rfl rfl kr kr (fun _ _ _ h=>h) (fL fun _=>by kernel_rfl)<|eJ (i:=14) (vP bt1 1) rfl rfl rfl rfl kr kr (fun _ _ _ h=>h) (fL fun _=>by kernel_rfl)<|eJ (i:=15) (vU seed) rfl rfl rfl rfl kr kr (fun _ _ _ h=>h) (gH rfl rfl kr (fun w hM=>hM.dX (h1s) si))<|eJ (i:=16) (vP bt2 0) rfl rfl rfl rfl kr kr (fun _ _ _ h=>h) (fZ rfl rfl)<|eJ (i:=17) (vP bt2 0) rfl rfl rfl rfl kr kr (fun _ _ _ h=>h) (fL fun _=>by kernel_rfl)<|eJ (i:=18) (vP bt2 1) rfl rfl rfl rfl kr kr (fun _ _ _ h=>h) (fL fun _=>by kernel_rfl)<|eJ (i:=19) (vU seed) rfl rfl rfl rfl kr kr (fun _ _ _ h=>h) (gH rfl rfl kr (fun w hM=>hM.dX (h2s) si))<|eJ (i:=20) bF rfl rfl rfl rfl kr kr (fun _ _ _ h=>h) (iB (v:=.bool ((((seed:Nat):Int):Int) != ((seed:Nat):Int))) (fL fun _=>by kernel_rfl) si)<|aC 21 bF rfl<|cF kr<|aI<|qF rfl<|Ni<|lx rfl<|Nx<|cU 126 #[(vP bt1 0)] rfl kr (fun _=>kr) (fun w hM=>(FR bt1 bc1 cap1 rest1 t w (HT.out.fr hM.fr si si)).mono ?_)
 rintro e w' ⟨btr,bcr,capr,restr,rfl,hg1,hg2,hf,ht⟩
 have hM':=hM.UC hf (by show At _ _ _ _; rw [HN.out,HS.out]; exact ht.tab:At w' btr 174 [.slice (some ⟨bcr,0,none⟩) n capr,.int .u64 (seed:Int)]) (by rw [GC]; exact ht.cells:At w' bcr 183 (aU (gQ t u t.cells 0)++restr)) hg1 hg2 ht.ne
 have hcap:=ht.cap
 rw [← HN.out] at hcap
 refine ⟨_,_,rfl,hM',?_⟩
 clear hM hM' hf ht hg1 hg2
 refine lx rfl<|Ne<|lx rfl<|lk (vP btr 0)<|lk (vP btr 0)<|lL 0 rfl<|lk (vI n)<|lx rfl<|Ng<|sL (fun i=>i≤n) (fun i=>n - i) (fun i=>[(1,(vP bt2 0)),(6,(vP btr 0)),(39,(vI n)),(40,(vI i))]) (fun i=>[aD btr 174 [(.slice (some ⟨bcr,0,none⟩) (n) (capr)),(vU seed)],aD bcr 183 (aU (gQ t u t.cells i)++restr)]) 0 (Nat.zero_le _) (fun _ h=>h) ?_
 intro i (hi:i≤n)
 show St _ _ _ [(1,(vP bt2 0)),(6,(vP btr 0)),(39,(vI n)),(40,(vI i))] [aD btr 174 [(.slice (some ⟨bcr,0,none⟩) (n) (capr)),(vU seed)],aD bcr 183 (aU (gQ t u t.cells i)++restr)] _
 refine Nc<|lk (.bool (decide (((i:Nat):Int) < ((n:Nat):Int)))) ?_
 refine aO (aI (aS (bD rfl (fun hc41=>?_) (fun hc41=>?_))))
 ·have hd41:=of_decide_eq_true hc41
  have hlt:i < n:=om
  obtain ⟨cc,hc⟩:∃ cc,t.cells[i]?=some cc:=⟨_,List.getElem?_eq_getElem (by rw [← HN.out]; exact hlt)⟩
  obtain ⟨dd,hd⟩:∃ dd,u.cells[i]?=some dd:=⟨_,List.getElem?_eq_getElem (by rw [HUL.out]; exact hlt)⟩
  have hcok:=HT.out.ok.cells cc (List.mem_of_getElem? hc)
  have hdok:=HU.out.ok.cells dd (List.mem_of_getElem? hd)
  obtain ⟨cl,HCL⟩:∃ cl,Hid (cl=gQ t u t.cells i):=⟨_,rfl⟩
  have hcll:cl.length=n:=by rw [HCL.out,GF (by rw [HUL.out,HN.out]) rfl i (by rw [← HN.out]; omega),HN.out]
  have hok:gE cl:=by rw [HCL.out]; exact GH HT.out.ok HU.out.ok HT.out.ok.cells i
  have hci:cl[i]?=some cc:=by rw [HCL.out,Om (by rw [HUL.out,HN.out]) i (by rw [← HN.out]; exact hlt)]; exact hc
  have HSU:Hid (gQ t u t.cells (i+1)=cl.set i (cc.sub dd)):=by show _=_; rw [HCL.out,GG (by rw [HUL.out,HN.out]) rfl (by rw [← HN.out]; exact hlt) (GB hc hd)]
  have hlen1:(aU cl++restr).length=n*34+restr.length:=by rw [List.length_append,kM hok,hcll]
  rw [← HCL.out]
  refine Nm<|aF<|lx rfl<|Nf<|cQ _ 14 kr (fun _ h=>h)<|am 0 ?_
  refine aC 1 (vP btr 0) rfl<|aC 2 (vP btr 0) rfl<|al 3 0 ?_
  refine am 4 ?_
  refine aV 5 (.pointer (some ⟨bcr,0+i*34,none⟩)) rfl (jN (e:=183) (sz:=34) rfl kr kr rfl rfl om) ?_
  refine am 6 ?_
  refine aC 7 (vP bt2 0) rfl<|aC 8 (vP bt2 0) rfl<|aV 9 _ rfl (rW (fun w hM=>hM.dX (h2c) si))<|am 10 ?_
  refine aV 11 (.pointer (some ⟨bc2,0+i*34,none⟩)) rfl (jN (e:=183) (sz:=34) rfl kr kr rfl rfl om) ?_
  refine aa 12 ?_
  refine aa 13 ?_
  refine cF kr<|aI<|aS<|cQ _ 11 kr (fun _ h=>h)<|am 0 ?_
  refine aC 1 (.pointer (some ⟨bcr,0+i*34,none⟩)) rfl<|aC 2 (.pointer (some ⟨bcr,0+i*34,none⟩)) rfl<|aV 3 (.int .i64 cc.count) rfl (cW 1 rfl rfl kr rfl (by rw [Nat.zero_add]; exact (jY hok restr i cc hci 0 om).trans (jB cc)))<|am 4 ?_
  refine aC 5 (.pointer (some ⟨bc2,0+i*34,none⟩)) rfl<|aC 6 (.pointer (some ⟨bc2,0+i*34,none⟩)) rfl<|aV 7 (.int .i64 dd.count) rfl (gH rfl rfl kr (fun w hM=>hM.dX (by rw [Nat.zero_add]; exact Cy HU.out hd 0 _ (jB dd)) si))<|aV 8 (vi (IntKind.i64.wrap (cc.count + -dd.count))) rfl (iB (v:=.int .i64 (IntKind.i64.wrap (cc.count - dd.count))) (fL fun _=>by kernel_rfl) (by rw [Int.sub_eq_add_neg]))<|aC 9 (.pointer (some ⟨bcr,0+i*34,none⟩)) rfl<|aC 10 (.pointer (some ⟨bcr,0+i*34,none⟩)) rfl<|bU (i:=11) kr rfl rfl<|kJ 1 rfl rfl kr rfl rfl rfl kr rfl (by rw [hlen1]; omega) ?_
  refine lO kr rfl<|aI<|aS ?_
  obtain ⟨cc1,HC1⟩:∃ cc1:BC,Hid (cc1=(⟨IntKind.i64.wrap (cc.count + -dd.count),cc.keys,cc.checks⟩:BC)):=⟨_,rfl⟩
  have hc1ok:cc1.Ok:=by rw [HC1.out]; exact ⟨(tZ hcok hdok.keys (-dd.count) hdok.checks 0).count,hcok.keys,hcok.checks⟩
  have hok1:gE (cl.set i cc1):=hok.set i hc1ok
  have hci1:(cl.set i cc1)[i]?=some cc1:=List.getElem?_set_self om
  have hlen2:(aU (cl.set i cc1)++restr).length=n*34+restr.length:=by rw [List.length_append,kM hok1,List.length_set,hcll]
  refine St.mem (cs':=[aD btr 174 [(.slice (some ⟨bcr,0,none⟩) (n) (capr)),(vU seed)],aD bcr 183 (aU (cl.set i cc1)++restr)]) (fun w hM=>by rw [← pO hok restr i cc hci 0 om _ cc1 (by rw [HC1.out]; exact yX cc _)]; rw [Nat.zero_add] at hM; exact hM) ?_
  refine cQ _ 11 kr (fun _ h=>h) ?_
  refine am 0 ?_
  refine aC 1 (.pointer (some ⟨bcr,0+i*34,none⟩)) rfl<|aC 2 (.pointer (some ⟨bcr,0+i*34+33,none⟩)) rfl ?_
  refine aV 3 (vU cc.checks) rfl (cW 1 rfl rfl kr rfl (by rw [Nat.zero_add]; exact (jY hok1 restr i cc1 hci1 33 om).trans (by rw [mW hc1ok.keys,HC1.out]))) ?_
  refine am 4 ?_
  refine aC 5 (.pointer (some ⟨bc2,0+i*34,none⟩)) rfl<|aC 6 (.pointer (some ⟨bc2,0+i*34+33,none⟩)) rfl<|aV 7 (vU dd.checks) rfl (gH rfl rfl kr (fun w hM=>hM.dX (by rw [Nat.zero_add]; exact Cy HU.out hd 33 _ (mW hdok.keys)) si))<|aV 8 (vU (cc.checks ^^^ dd.checks)) rfl (qH .xor si _ rfl rfl rfl (u64_xor_nat _ _ hcok.checks hdok.checks))<|aC 9 (.pointer (some ⟨bcr,0+i*34,none⟩)) rfl<|aC 10 (.pointer (some ⟨bcr,0+i*34+33,none⟩)) rfl<|bU (i:=11) kr rfl rfl<|kJ 1 rfl rfl kr rfl rfl rfl kr rfl (by rw [hlen2]; omega) ?_
  refine lO kr rfl<|aI<|aS ?_
  have hp0:(cl.set i cc1).set i (cc.part dd.keys (-dd.count) dd.checks 0)=cl.set i (cc.part dd.keys (-dd.count) dd.checks 0):=by rw [List.set_set]
  refine St.mem (cs':=[aD btr 174 [(.slice (some ⟨bcr,0,none⟩) (n) (capr)),(vU seed)],aD bcr 183 (aU (cl.set i (cc.part dd.keys (-dd.count) dd.checks 0))++restr)]) (fun w hM=>by rw [← hp0,← pO hok1 restr i cc1 hci1 33 om (vU (cc.checks ^^^ dd.checks)) (cc.part dd.keys (-dd.count) dd.checks 0) (by rw [BU,← uB hc1ok.keys,HC1.out])]; rw [Nat.zero_add] at hM; exact hM)<|aF<|lx rfl<|Ng<|sL (fun j=>j≤32) (fun j=>32 - j) (fun j=>[(1,(vP bt2 0)),(6,(vP btr 0)),(8,(.pointer (some ⟨bcr,0+i*34,none⟩))),(9,(.pointer (some ⟨bc2,0+i*34,none⟩))),(39,(vI n)),(40,(vI i)),(77,(vI j))]) (fun j=>[aD btr 174 [(.slice (some ⟨bcr,0,none⟩) (n) (capr)),(vU seed)],aD bcr 183 (aU (cl.set i (cc.part dd.keys (-dd.count) dd.checks j))++restr)]) 0 (Nat.zero_le _) (fun _ h=>h) ?_
  intro j (hj:j≤32)
  show St _ _ _ [(1,(vP bt2 0)),(6,(vP btr 0)),(8,(.pointer (some ⟨bcr,0+i*34,none⟩))),(9,(.pointer (some ⟨bc2,0+i*34,none⟩))),(39,(vI n)),(40,(vI i)),(77,(vI j))] [aD btr 174 [(.slice (some ⟨bcr,0,none⟩) (n) (capr)),(vU seed)],aD bcr 183 (aU (cl.set i (cc.part dd.keys (-dd.count) dd.checks j))++restr)] _
  refine Nc<|lk (.bool (decide (((j:Nat):Int) < 32))) ?_
  refine aO (aI (aS (bD rfl (fun hc78=>?_) (fun hc78=>?_))))
  ·have hd78:=of_decide_eq_true hc78
   have hj2:j < 32:=om
   obtain ⟨x,hx⟩:∃ x,cc.keys[j]?=some x:=⟨_,List.getElem?_eq_getElem (by rw [hcok.keys]; exact hj2)⟩
   obtain ⟨y,hy⟩:∃ y,dd.keys[j]?=some y:=⟨_,List.getElem?_eq_getElem (by rw [hdok.keys]; exact hj2)⟩
   have hpok:=tZ hcok hdok.keys (-dd.count) hdok.checks j
   obtain ⟨pc,HPC⟩:∃ pc,Hid (pc=(cc.part dd.keys (-dd.count) dd.checks j)):=⟨_,rfl⟩
   rw [← HPC.out] at hpok ⊢
   have hokp:gE (cl.set i pc):=hok.set i hpok
   have hcip:(cl.set i pc)[i]?=some pc:=List.getElem?_set_self om
   have hlen3:(aU (cl.set i pc)++restr).length=n*34+restr.length:=by rw [List.length_append,kM hokp,List.length_set,hcll]
   refine Nm<|aF<|lx rfl<|Na<|cQ _ 16 kr (fun _ h=>h)<|am 0 ?_
   refine am 1 ?_
   refine aC 2 (.pointer (some ⟨bcr,0+i*34,none⟩)) rfl<|aC 3 (.pointer (some ⟨bcr,0+i*34+1,none⟩)) rfl<|aV 4 (.pointer (some ⟨bcr,0+i*34+1+j,none⟩)) rfl (kU (e:=5) (m:=32) rfl kr kr rfl rfl om)<|aV 5 (.int .u8 ((x.toNat:Nat):Int)) rfl (cW 1 rfl rfl kr rfl (by rw [Nat.zero_add,Nat.add_assoc]; exact (jY hokp restr i pc hcip (1+j) om).trans (by rw [HPC.out]; exact uA j x (BV dd.keys (-dd.count) dd.checks j x hx hdok.keys hcok.keys))))<|am 6 ?_
   refine am 7 ?_
   refine aC 8 (.pointer (some ⟨bc2,0+i*34,none⟩)) rfl<|aC 9 (.pointer (some ⟨bc2,0+i*34+1,none⟩)) rfl<|aV 10 (.pointer (some ⟨bc2,0+i*34+1+j,none⟩)) rfl (kU (e:=5) (m:=32) rfl kr kr rfl rfl om)<|aV 11 (.int .u8 ((y.toNat:Nat):Int)) rfl (gH rfl rfl kr (fun w hM=>hM.dX (by rw [Nat.zero_add,Nat.add_assoc]; exact Cy HU.out hd (1+j) _ (uA j y hy)) si))<|aV 12 (.int .u8 (((x ^^^ y).toNat:Nat):Int)) rfl (qH .xor si _ rfl rfl rfl (yY x y))<|aC 13 (.pointer (some ⟨bcr,0+i*34,none⟩)) rfl<|aC 14 (.pointer (some ⟨bcr,0+i*34+1,none⟩)) rfl<|aV 15 (.pointer (some ⟨bcr,0+i*34+1+j,none⟩)) rfl (kU (e:=5) (m:=32) rfl kr kr rfl rfl om)<|bU (i:=16) kr rfl rfl<|kJ 1 rfl rfl kr rfl rfl rfl kr rfl (by rw [hlen3]; omega) ?_
   refine lO kr rfl<|nY<|aI ?_
   have hpj:(cl.set i pc).set i (cc.part dd.keys (-dd.count) dd.checks (j+1))=cl.set i (cc.part dd.keys (-dd.count) dd.checks (j+1)):=by rw [List.set_set]
   exact St.mem (cs':=[aD btr 174 [(.slice (some ⟨bcr,0,none⟩) (n) (capr)),(vU seed)],aD bcr 183 (aU (cl.set i (cc.part dd.keys (-dd.count) dd.checks (j+1)))++restr)]) (fun w hM=>by rw [← hpj,← pO hokp restr i pc hcip (1+j) om (.int .u8 (((x ^^^ y).toNat:Nat):Int)) (cc.part dd.keys (-dd.count) dd.checks (j+1)) (by rw [HPC.out,BW dd.keys (-dd.count) dd.checks j x y hx hy hcok.keys hdok.keys])]; rw [Nat.zero_add,Nat.add_assoc] at hM; exact hM)<|aF<|lw (vI (j+1)) bO<|lx rfl<|aO (aI (sA (j+1) (by show _≤_; omega) (by show 32 - (j+1) < 32 - j; omega) (fun _ h=>h)))
  ·have hd78:=of_decide_eq_false hc78
   obtain rfl:j=32:=om
   exact St.mem (cs':=[aD btr 174 [(.slice (some ⟨bcr,0,none⟩) (n) (capr)),(vU seed)],aD bcr 183 (aU (gQ t u t.cells (i+1))++restr)]) (fun w hM=>by rw [HSU.out]; rw [wE cc dd.keys (-dd.count) dd.checks hcok.keys hdok.keys] at hM; exact hM)<|Nr<|mQ<|nY<|aI<|aF<|lw (vI (i+1)) bO<|lx rfl<|aO (aI (sA (i+1) (by show _≤_; omega) (by show n - (i+1) < n - i; omega) (fun _ h=>h)))
 ·have hd41:=of_decide_eq_false hc41
  obtain rfl:i=n:=om
  exact Nj<|aF<|lx rfl<|Nd<|sN [(vP btr 0),(vi 0)] fun w hM=>⟨btr,bcr,capr,restr,rfl,hM.KI (by rw [nI (by rw [HUL.out,HN.out]),HN.out]) (by exact HS.out.symm) (by have e:=GD (t:=t) (u:=u) (l:=t.cells) (by rw [HUL.out,HN.out]) rfl; rw [← HN.out] at e; exact e) (zJ HT.out.ok HU.out.ok) (by rw [HN.out]; exact HT.out.size) hcap⟩
section
def lB (br : Nat) (X : Option Addr × Nat) (r : Rd) : Ch where
 fp := br :: cZ X.1
 holds w := bA X w br r
 ok w w' hb h := by
  obtain ⟨A, c, rfl, h1, h2⟩ := h
  exact ⟨A, c, rfl, (hb br (by simp)).trans h1, (aR 5 1 A r.D.length c (B8 r.D)).ok w w' (fun b hb' => hb b (by simp [aR] at hb'; simp [hb'])) h2⟩
 lt w h b hb := by
  obtain ⟨A, c, rfl, h1, h2⟩ := h
  rcases List.mem_cons.1 hb with rfl | hb
  ·exact h1.lt
  ·exact (rM h2).2 b hb
theorem GI {w:World} {br:Nat} {X:Option Addr × Nat} {r:Rd} (h:bA X w br r):(lB br X r).fp.Nodup:=by
 obtain ⟨A,c,rfl,h1,h2⟩:=h
 have hne:=jZ h2 h1 (by decide)
 cases A with
 | none=>simp [lB,cZ]
 | some a =>
   have e:=(rM h2).1
   rw [e] at hne
   simp [cZ] at hne
   simp [lB,cZ,hne]
section
variable {w0 w w' : World} {F : List Nat} {cs : List Ch} {X : Option Addr × Nat} {r r' : Rd} {br : Nat}
theorem Mm.rE (h:Mm w0 F cs w) (i:Nat) (hi:cs[i]?=some (lB br X r)) (hf:Fr [br] w w') (hr:bA X w' br r'):Mm w0 F (cs.set i (lB br X r')) w' :=
 h.swap i hi (c':=lB br X r') (hf.mono fun x hx=>.inl (by simp [lB] at hx ⊢; exact .inl hx)) hr (fun b hb=>.inl hb) (GI hr)
theorem Mm.Ej {A2:Option Addr} {c2:Nat} (h:Mm w0 F cs w) (hf:Fr [] w w') (hr:bA (A2,c2) w' br r) (h1:w.heap.size≤br) (ho:w'.ownsRow w.heap.size 5 1 (.slice A2 r.D.length c2) r.D.length (B8 r.D)):Mm w0 F (cs++[lB br (A2,c2) r]) w':=by
 refine h.push (c:=lB br (A2,c2) r) hf hr (fun b hb=>?_) (GI hr)
 rcases List.mem_cons.1 hb with rfl | hb
 ·exact h1
 ·rcases ho.2 with ⟨hv,_⟩ | ⟨g,cap,cur,hv,hg,_⟩
  ·simp only [Value.slice.injEq] at hv
   obtain ⟨rfl,_⟩:=hv
   simp [cZ] at hb
  ·simp only [Value.slice.injEq] at hv
   obtain ⟨rfl,_⟩:=hv
   simp [cZ] at hb
   omega
end
theorem GJ (n:Nat) (h:n≤4294967296):IntKind.i64.wrap (n:Int)=(n:Int):=by
 exact pK om om
theorem Ov (n:Nat) (hn:n≤3072) (w:World):(Instr.makeSlice 172 (.int .u64 (n:Int)) (.int .u64 (n:Int))).run Tryz.prog w = .ok (.slice (some ⟨w.heap.size,0,none⟩) n n) (w.alloc (.cells (aU (List.replicate n BC.zero)).toArray 183)):=by
 have hinfo:(Tryz.prog.info? 183).map (fun i=>(i.zero,i.size,i.bytes))=some (some (.agg BC.zero.cells.toArray),34,48):=by kernel_rfl
 obtain ⟨i,hi,hz,hsz,hby⟩:=info_parts hinfo
 have:=run_make (P:=Tryz.prog) w 172 183 i _ Tryz.underlying172 hi hz .u64 .u64 (n:Int) (n:Int) om om (by rw [hby]; omega) om
 rw [hsz,Int.toNat_natCast] at this
 rw [this,← Cf]
 rfl
theorem GK {Q:Exit→Act→World→Prop} {nt:Nat} {w0:World} {F:List Nat} {E:cH} {cs:List Ch} {o:Oper} {d:Tmp} {K:Act→World→Prop} {x y:Operand} (n:Nat) (hn:n≤3072) (ho:o.op = .makeSlice 172 x y) (hd:o.dst=some d) (hk:bN nt E o=true) (hx:aM E x=some (.int .u64 (n:Int))) (hy:aM E y=some (.int .u64 (n:Int)))
  (h:∀ b,St nt w0 F ((d,.slice (some ⟨b,0,none⟩) n n)::E) (cs++[aD b 183 (aU (List.replicate n BC.zero))]) K):cL Tryz.prog Q nt w0 F E cs o K :=
 ET (v:=fun b=>.slice (some ⟨b,0,none⟩) n n) _ _ hd hk (fun w=>by
  have hr:=Ov n hn w
  unfold execOp
  simp only [ho,bG hx,bG hy,Sem.run_bind,hr]
  rfl) h
theorem Ow {P:Program} {Q:Exit→Act→World→Prop} {nt:Nat} {w0:World} {F:List Nat} {E:cH} {cs:List Ch} {o:Oper} {d:Tmp} {K:Act→World→Prop} {dT sT elem t:TypeId} {x y:Operand} {g off dLen dCap:Nat} {l:List Value} {bs:List UInt8} (i:Nat) (l':List Value) (ho:o.op = .call { callee:=.builtin .copy,args:=#[x,y],argTypes:=#[dT,sT] }) (hd:o.dst=some d) (hu:P.underlying dT=some (.slice elem)) (hs:(P.info? elem).map (·.size)=some 1) (hk:bN nt E o=true)
  (hx:aM E x=some (.slice (some ⟨g,off,none⟩) dLen dCap)) (hy:aM E y=some (vS bs)) (hi:cs[i]?=some (aD g t l)) (hle:bs.length≤dLen) (hfit:off+bs.length≤l.length) (hl':l.take off++B8 bs++l.drop (off+bs.length)=l') (h:St nt w0 F ((d,.int .i64 ((bs.length:Nat):Int))::E) (cs.set i (aD g t l')) K):cL P Q nt w0 F E cs o K :=
 nW hd hk fun w hM=>by
  subst hl'
  have hat:At w g t l:=hM.at hi
  have hsz:(aT bs).size=bs.length:=by simp [aT,ByteArray.size]
  have hr:=Lib.run_copy_row_string (P:=P) w dT sT o.type elem g off dLen dCap (aT bs) l.toArray t hu hs hat (by rw [hsz]; exact hle) (by rw [hsz]; simpa using hfit)
  refine ⟨_,w.setRow g (l.take off++B8 bs++l.drop (off+bs.length)).toArray,_,?_,hM.swap i hi (c':=aD g t (l.take off++B8 bs++l.drop (off+bs.length))) (Fr.setRow _ _ _) ?_ (fun c hc=>.inl hc) (by simp [aD]),h⟩
  ·unfold execOp
   simp only [ho,resolve,invoke,builtin,Sem.run_bind,Sem.run_pure,Result.andThen_ok,List.map_toArray,List.map_cons,List.map_nil,bG hx,bG hy,hr,hsz]
   rfl
  ·have:=hat.setRow (l.take off++B8 bs++l.drop (off+bs.length))
   exact this
theorem Ox {x:List UInt8}:x++(List.replicate 32 (0:UInt8)).drop x.length=jO x:=by
 unfold jO
 rw [List.drop_replicate]
theorem Oy {l:List BC} (hok:gE l) {i:Nat} {c:BC} (hc:l[i]?=some c) {x:List UInt8} (hx:x.length≤32) :
  (aU l).take (i*34+1)++B8 x++(aU l).drop (i*34+1+x.length)=aU (l.set i ⟨c.count,x++c.keys.drop x.length,c.checks⟩):=by
 obtain ⟨hlt,he⟩:=List.getElem?_eq_some_iff.1 hc
 have hl1:(aU (l.take i)).length=i*34:=by rw [kM (fun a ha=>hok a (List.mem_of_mem_take ha)),List.length_take,Nat.min_eq_left om]
 have hs:l=l.take i++c::l.drop (i+1):=by rw [← he,List.getElem_cons_drop,List.take_append_drop]
 have hk:=(hok c (List.mem_of_getElem? hc)).keys
 have e1:aU l=aU (l.take i)++(c.cells++aU (l.drop (i+1))):=by
  conv=>lhs; rw [hs]
  simp [aU]
 have e2:l.set i ⟨c.count,x++c.keys.drop x.length,c.checks⟩=l.take i++⟨c.count,x++c.keys.drop x.length,c.checks⟩::l.drop (i+1):=by
  rw [List.set_eq_take_append_cons_drop,if_pos hlt]
 have e3:aU (l.set i ⟨c.count,x++c.keys.drop x.length,c.checks⟩)=aU (l.take i)++((⟨c.count,x++c.keys.drop x.length,c.checks⟩:BC).cells++aU (l.drop (i+1))):=by
  rw [e2]
  simp [aU]
 rw [e1,e3,← hl1,List.take_length_add_append,Nat.add_assoc,List.drop_length_add_append]
 simp only [List.append_assoc,BC.cells,List.cons_append,List.take_succ_cons,List.take_zero,List.nil_append,mC]
 rw [Nat.add_comm 1,List.drop_succ_cons,List.drop_append_of_le_length (by rw [dL]; omega)]
 simp [B8,List.map_drop]
theorem Oz (A:Option Addr) (c:Nat) (D:List UInt8) (w:World) (hD:D.length≤4294967296) (hrow:aH w A (B8 D)) (hn:3072 < kN D) :
  Calls Tryz.prog 73 #[.slice A D.length c] w fun e w'=>e = .returned (.tuple #[.pointer none,vi 3])∧Fr [] w w':=by
 have HR:=Lib.hid hrow
 clear hrow
 obtain ⟨n,HN⟩:∃ n,Hid (n=kN D):=⟨_,rfl⟩
 have hn':3072 < n:=by rw [HN.out]; exact hn
 clear hn
 refine dI Tryz.func73 69 (Mm.start w []) rfl<|Nc<|lx rfl<|Nb<|lx rfl<|Nx<|cU 72 #[(.slice A (D.length) (c))] rfl kr (fun _=>kr) (fun w hM=>(zD A c D w hD (HR.out.dD hM.fr)).mono ?_)
 rintro e w' ⟨br,A2,c2,rfl,hb,hf,hr,ho⟩
 have hM':=hM.Ej hf hr hb ho
 refine ⟨_,_,rfl,hM',?_⟩
 clear hM hM' hf hr hb ho
 refine lx rfl<|Nb<|lx rfl<|Nx<|cU 102 #[(vP br 0)] rfl kr (fun _=>kr) (fun w hM=>(by have h:=qN br (hF D) w (hM.at (i:=0) rfl) (uF hD); rw [show (hF D).uint.1=n from HN.out.symm] at h; exact h:Calls _ _ _ w fun e w'=>e = .returned (vU n)∧Fr [br] w w'∧bA (A2,c2) w' br ((hF D).uint.2)).mono ?_)
 rintro e w' ⟨rfl,hf,hr⟩
 have hM':=hM.rE 0 rfl hf hr
 refine ⟨_,_,rfl,hM',?_⟩
 clear hM hM' hf hr
 refine lx rfl<|Ne<|lx rfl<|lk (.bool (decide (((n:Nat):Int) > 3072)))<|lm ?_
 exact St.known 17 (b':=true) rfl (by simp; omega)<|fK (b:=true) rfl rfl kr rfl<|fK (b:=true) rfl rfl kr rfl<|fK (b:=true) rfl rfl kr rfl<|fK (b:=true) rfl rfl kr rfl<|lT<|No<|lx rfl<|Nh<|sN [(.pointer none),(vi 3)] fun w hM=>⟨rfl,hM.fr⟩
theorem OA (A:Option Addr) (c:Nat) (D:List UInt8) (w:World) (hD:D.length≤4294967296) (hrow:aH w A (B8 D)) (hn:kN D≤3072) (hz0:dQ (kN D:Int)=false) :
  Calls Tryz.prog 73 #[.slice A D.length c] w fun e w'=>e = .returned (.tuple #[.pointer none,vi 3])∧Fr [] w w':=by
 have HR:=Lib.hid hrow
 clear hrow
 obtain ⟨n,HN⟩:∃ n,Hid (n=kN D):=⟨_,rfl⟩
 have hn':n≤3072:=by rw [HN.out]; exact hn
 have hz:dQ (n:Int)=false:=by rw [HN.out]; exact hz0
 clear hn hz0
 refine dI Tryz.func73 69 (Mm.start w []) rfl<|Nc<|lx rfl<|Nb<|lx rfl<|Nx<|cU 72 #[(.slice A (D.length) (c))] rfl kr (fun _=>kr) (fun w hM=>(zD A c D w hD (HR.out.dD hM.fr)).mono ?_)
 rintro e w' ⟨br,A2,c2,rfl,hb,hf,hr,ho⟩
 have hM':=hM.Ej hf hr hb ho
 refine ⟨_,_,rfl,hM',?_⟩
 clear hM hM' hf hr hb ho
 refine lx rfl<|Nb<|lx rfl<|Nx<|cU 102 #[(vP br 0)] rfl kr (fun _=>kr) (fun w hM=>(by have h:=qN br (hF D) w (hM.at (i:=0) rfl) (uF hD); rw [show (hF D).uint.1=n from HN.out.symm] at h; exact h:Calls _ _ _ w fun e w'=>e = .returned (vU n)∧Fr [br] w w'∧bA (A2,c2) w' br ((hF D).uint.2)).mono ?_)
 rintro e w' ⟨rfl,hf,hr⟩
 have hM':=hM.rE 0 rfl hf hr
 refine ⟨_,_,rfl,hM',?_⟩
 clear hM hM' hf hr
 refine lx rfl<|Ne<|lx rfl<|lk (.bool (decide (((n:Nat):Int) > 3072)))<|lm ?_
 refine St.known 17 (b':=false) rfl (by simp; omega)<|cO rfl rfl<|dP (vU n) rfl kr (fZ rfl rfl)<|cO rfl rfl<|dP (vI n) rfl kr (iC _ (fun _=>kr) rfl rfl (GJ n om))<|cO rfl rfl<|cU 113 #[(vI n)] rfl kr (fun _=>kr) (fun w hM=>((by rw [← hz]; exact Cb (n:Int) w:Calls _ _ _ w fun e w'=>e = .returned (.bool false)∧w=w')).mono ?_)
 rintro e w' ⟨rfl,rfl⟩
 refine ⟨bF,_,rfl,hM,?_⟩
 clear hM
 exact cO rfl rfl<|dP bT rfl kr (fL fun _=>by kernel_rfl)<|lT<|No<|lx rfl<|Nh<|sN [(.pointer none),(vi 3)] fun w hM=>⟨rfl,hM.fr⟩
theorem GL (A:Option Addr) (c:Nat) (D:List UInt8) (w:World) (hD:D.length≤4294967296) (hrow:aH w A (B8 D)) (hz0:dQ (kN D:Int)=true) :
  Calls Tryz.prog 73 #[.slice A D.length c] w fun e w'=>if (oO D).end_=0 then ∃ bt bc cap rest,e = .returned (.tuple #[vP bt 0,vi 0])∧Mm w [] [jP bt bc cap rest (qO D)] w' else e = .returned (.tuple #[.pointer none,vi 3])∧Fr [] w w':=by
 have HR:=Lib.hid hrow
 clear hrow
 obtain ⟨n,HN⟩:∃ n,Hid (n=kN D):=⟨_,rfl⟩
 have hz:dQ (n:Int)=true:=by rw [HN.out]; exact hz0
 have hn':n≤3072:=(gV hz).2.1
 clear hz0
 obtain ⟨seed,HS⟩:∃ s,Hid (s=(hF D).uint.2.uint.1):=⟨_,rfl⟩
 obtain ⟨r2,HR2⟩:∃ r,Hid (r=(hF D).uint.2.uint.2):=⟨_,rfl⟩
 have HOK:Hid r2.Ok:=by show r2.Ok; rw [HR2.out]; exact (uF hD).uint'.uint'
 refine dI Tryz.func73 69 (Mm.start w []) rfl<|Nc<|lx rfl<|Nb<|lx rfl<|Nx<|cU 72 #[(.slice A (D.length) (c))] rfl kr (fun _=>kr) (fun w hM=>(zD A c D w hD (HR.out.dD hM.fr)).mono ?_)
 rintro e w' ⟨br,A2,c2,rfl,hb,hf,hr,ho⟩
 have hM':=hM.Ej hf hr hb ho
 refine ⟨_,_,rfl,hM',?_⟩
 clear hM hM' hf hr hb ho
 refine lx rfl<|Nb<|lx rfl<|Nx<|cU 102 #[(vP br 0)] rfl kr (fun _=>kr) (fun w hM=>(by have h:=qN br (hF D) w (hM.at (i:=0) rfl) (uF hD); rw [show (hF D).uint.1=n from HN.out.symm] at h; exact h:Calls _ _ _ w fun e w'=>e = .returned (vU n)∧Fr [br] w w'∧bA (A2,c2) w' br ((hF D).uint.2)).mono ?_)
 rintro e w' ⟨rfl,hf,hr⟩
 have hM':=hM.rE 0 rfl hf hr
 refine ⟨_,_,rfl,hM',?_⟩
 clear hM hM' hf hr
 refine lx rfl<|Ne<|lx rfl<|lk (.bool (decide (((n:Nat):Int) > 3072)))<|lm ?_
 refine St.known 17 (b':=false) rfl (by simp; omega)<|cO rfl rfl<|dP (vU n) rfl kr (fZ rfl rfl)<|cO rfl rfl<|dP (vI n) rfl kr (iC _ (fun _=>kr) rfl rfl (GJ n om))<|cO rfl rfl<|cU 113 #[(vI n)] rfl kr (fun _=>kr) (fun w hM=>((by rw [← hz]; exact Cb (n:Int) w:Calls _ _ _ w fun e w'=>e = .returned (.bool true)∧w=w')).mono ?_)
 rintro e w' ⟨rfl,rfl⟩
 refine ⟨bT,_,rfl,hM,?_⟩
 clear hM
 refine cO rfl rfl<|dP bF rfl kr (fL fun _=>by kernel_rfl)<|lF<|Nu ?_
 refine fI (aI (nX (ι:=Nat × Nat) (fun _=>True) (fun (bc,b28)=>[(0,(.slice A (D.length) (c))),(2,(.pointer none)),(3,(vi 0)),(11,(.slice A (D.length) (c))),(12,(vP br 0)),(4,(vP br 0)),(13,(vP br 0)),(14,(vU n)),(5,(vU n)),(15,(vU n)),(16,(.bool (decide (((n:Nat):Int) > 3072)))),(17,bF),(18,(vU n)),(19,(vI n)),(20,bT),(21,bF),(22,bF),(23,(vU n)),(25,(vP br 0)),(24,(.slice (some ⟨bc,0,none⟩) (n) (n))),(26,(vU seed)),(27,(.agg #[(.slice (some ⟨bc,0,none⟩) (n) (n)),(vU seed)])),(28,(vP b28 0)),(6,(vP b28 0))]) (fun (bc,b28)=>[lB br (A2,c2) (r2),aD bc 183 (aU (List.replicate n BC.zero)),aD b28 174 [(.slice (some ⟨bc,0,none⟩) (n) (n)),(vU seed)]]) ?_ ?_))
 ·refine cQ [] 7 kr (fun _ h=>h.sub (.cons _ .slnil))<|am 0 ?_
  refine am 2 ?_
  refine kT (i:=1) (j:=3) kr rfl rfl rfl rfl ?_ ?_
  ·refine GK n om rfl rfl kr rfl rfl (fun bc=>aP _ (fun _ h=>h.sub (.cons _ .slnil)) (fun _ h=>h.sub (.cons _ (.cons_cons _ .slnil)))<|bU (i:=3) kr rfl rfl<|cU 102 #[(vP br 0)] rfl kr (fun _=>kr) (fun w hM=>(by have h:=qN br ((hF D).uint.2) w (hM.at (i:=0) rfl) ((uF hD).uint'); rw [show (hF D).uint.2.uint.1=seed from HS.out.symm,show (hF D).uint.2.uint.2=r2 from HR2.out.symm] at h; exact h:Calls _ _ _ w fun e w'=>e = .returned (vU seed)∧Fr [br] w w'∧bA (A2,c2) w' br (r2)).mono ?_))
   rintro e w' ⟨rfl,hf,hr⟩
   have hM':=hM.rE 0 rfl hf hr
   refine ⟨_,_,rfl,hM',?_⟩
   clear hM hM' hf hr
   refine aP _ (fun _ h=>h) (fun _ h=>h.sub (.cons _ (.cons_cons _ .slnil)))<|aC 4 (.agg #[(.slice (some ⟨bc,0,none⟩) (n) (n)),(vU seed)]) rfl<|bU (i:=5) kr rfl rfl<|pB [(.slice (some ⟨bc,0,none⟩) (n) (n)),(vU seed)] fun b28=>aP _ (fun _ h=>h.sub (.cons_cons _ (.cons _ .slnil))) (fun _ h=>h.sub (.cons _ (.cons_cons _ (.cons_cons _ .slnil))))<|aa 6 ?_
   exact cF kr<|aI (sM (bc,b28) trivial (fun _ h=>h))
  ·refine cU 102 #[(vP br 0)] rfl kr (fun _=>kr) (fun w hM=>(by have h:=qN br ((hF D).uint.2) w (hM.at (i:=0) rfl) ((uF hD).uint'); rw [show (hF D).uint.2.uint.1=seed from HS.out.symm,show (hF D).uint.2.uint.2=r2 from HR2.out.symm] at h; exact h:Calls _ _ _ w fun e w'=>e = .returned (vU seed)∧Fr [br] w w'∧bA (A2,c2) w' br (r2)).mono ?_)
   rintro e w' ⟨rfl,hf,hr⟩
   have hM':=hM.rE 0 rfl hf hr
   refine ⟨_,_,rfl,hM',?_⟩
   clear hM hM' hf hr
   refine aP _ (fun _ h=>h) (fun _ h=>h.sub (.cons _ .slnil))<|bU (i:=1) kr rfl rfl<|GK n om rfl rfl kr rfl rfl (fun bc=>aP _ (fun _ h=>h.sub (.cons _ .slnil)) (fun _ h=>h.sub (.cons _ (.cons_cons _ .slnil)))<|aC 4 (.agg #[(.slice (some ⟨bc,0,none⟩) (n) (n)),(vU seed)]) rfl<|bU (i:=5) kr rfl rfl<|pB [(.slice (some ⟨bc,0,none⟩) (n) (n)),(vU seed)] fun b28=>aP _ (fun _ h=>h.sub (.cons_cons _ (.cons _ .slnil))) (fun _ h=>h.sub (.cons _ (.cons_cons _ (.cons_cons _ .slnil))))<|aa 6 ?_)
   exact cF kr<|aI (sM (bc,b28) trivial (fun _ h=>h))
 ·rintro ⟨bc,b28⟩ -
  dsimp only
  refine aS<|aS<|St.mem (cs':=[lB br (A2,c2) (r2),aD bc 183 (aU (jE r2 n 0)),aD b28 174 [(.slice (some ⟨bc,0,none⟩) (n) (n)),(vU seed)]]) (fun w hM=>by rw [NP]; exact hM)<|aF<|lx rfl<|lk (vP b28 0)<|lk (vP b28 0)<|lL 2 rfl<|lk (vI n)<|lx rfl<|Ng<|sL (fun i=>i≤n) (fun i=>n - i) (fun i=>[(4,(vP br 0)),(6,(vP b28 0)),(33,(vI n)),(34,(vI i))]) (fun i=>[lB br (A2,c2) (iY r2 i),aD bc 183 (aU (jE r2 n i)),aD b28 174 [(.slice (some ⟨bc,0,none⟩) (n) (n)),(vU seed)]]) 0 (Nat.zero_le _) (fun _ h=>h) ?_
  intro i (hi:i≤n)
  show St _ _ _ [(4,(vP br 0)),(6,(vP b28 0)),(33,(vI n)),(34,(vI i))] [lB br (A2,c2) (iY r2 i),aD bc 183 (aU (jE r2 n i)),aD b28 174 [(.slice (some ⟨bc,0,none⟩) (n) (n)),(vU seed)]] _
  refine Nc<|lk (.bool (decide (((i:Nat):Int) < ((n:Nat):Int)))) ?_
  refine aO (aI (aS (bD rfl (fun hc35=>?_) (fun hc35=>?_))))
  ·have hd35:=of_decide_eq_true hc35
   have hlt:i < n:=om
   obtain ⟨r,HRI⟩:∃ r,Hid (r=iY r2 i):=⟨_,rfl⟩
   have hrok:r.Ok:=by rw [HRI.out]; exact Cr HOK.out i
   obtain ⟨cl,HCL⟩:∃ cl,Hid (cl=jE r2 n i):=⟨_,rfl⟩
   have hcll:cl.length=n:=by rw [HCL.out,NN hi]
   have hok:gE cl:=by rw [HCL.out]; exact NO _ _ _
   have hci:cl[i]?=some BC.zero:=by rw [HCL.out]; exact NR hlt
   have HSU:Hid (jE r2 n (i+1)=cl.set i r.cell.1):=by show _=_; rw [HCL.out,HRI.out,NS hlt]
   have HRS:Hid (iY r2 (i+1)=r.cell.2):=by show _=_; rw [HRI.out]; rfl
   have hlen:(aU cl).length=n*34:=by rw [kM hok,hcll]
   rw [← HCL.out,← HRI.out]
   refine Nm<|aF<|lx rfl<|Nb<|lx rfl<|lk (vP b28 0)<|lk (vP b28 0)<|lL 2 rfl<|lx rfl<|lw (.pointer (some ⟨bc,0+i*34,none⟩)) (jN (e:=183) (sz:=34) rfl kr kr rfl rfl om)<|lx rfl<|Nb<|lx rfl<|Nx<|cU 121 #[(vP br 0)] rfl kr (fun _=>kr) (fun w hM=>(by have h:=MZ br (r) w (hM.at (i:=0) rfl) (hrok); skip; exact h:Calls _ _ _ w fun e w'=>e = .returned (.int .i64 r.int.1)∧Fr [br] w w'∧bA (A2,c2) w' br (r.int.2)).mono ?_)
   rintro e w' ⟨rfl,hf,hr⟩
   have hM':=hM.rE 0 rfl hf hr
   refine ⟨_,_,rfl,hM',?_⟩
   clear hM hM' hf hr
   refine lk (.pointer (some ⟨bc,0+i*34,none⟩))<|lk (.pointer (some ⟨bc,0+i*34,none⟩))<|Nx<|kJ 1 rfl rfl kr rfl rfl rfl kr rfl (by rw [hlen]; omega) ?_
   refine Nf ?_
   have hc1ok:(⟨r.int.1,List.replicate 32 0,0⟩:BC).Ok:=⟨r.Ei,si,by show 0 < 18446744073709551616; decide⟩
   have hok1:gE (cl.set i (⟨r.int.1,List.replicate 32 0,0⟩:BC)):=hok.set i hc1ok
   have hci1:(cl.set i (⟨r.int.1,List.replicate 32 0,0⟩:BC))[i]?=some (⟨r.int.1,List.replicate 32 0,0⟩:BC):=List.getElem?_set_self om
   have hlen1:(aU (cl.set i (⟨r.int.1,List.replicate 32 0,0⟩:BC))).length=n*34:=by rw [kM hok1,List.length_set,hcll]
   refine St.mem (cs':=[lB br (A2,c2) (r.int.2),aD bc 183 (aU (cl.set i (⟨r.int.1,List.replicate 32 0,0⟩:BC))),aD b28 174 [(.slice (some ⟨bc,0,none⟩) (n) (n)),(vU seed)]]) (fun w hM=>by have e:=pO hok [] i BC.zero hci 0 om (Value.int .i64 r.int.1) (⟨r.int.1,List.replicate 32 0,0⟩:BC) (yX BC.zero _); rw [List.append_nil,List.append_nil] at e; rw [← e]; rw [Nat.zero_add] at hM; exact hM)<|cQ _ 6 kr (fun _ h=>h.sub (.cons _ (.cons_cons _ (.cons_cons _ .slnil))))<|am 0 ?_
   refine aC 1 (.pointer (some ⟨bc,0+i*34,none⟩)) rfl<|aC 2 (.pointer (some ⟨bc,0+i*34+1,none⟩)) rfl<|aC 3 (.slice (some ⟨bc,0+i*34+1,none⟩) (32) (32)) rfl<|am 4 ?_
   refine bU (i:=5) kr rfl rfl<|cU 122 #[(vP br 0)] rfl kr (fun _=>kr) (fun w hM=>(by have h:=Gn br (r.int.2) w (hM.at (i:=0) rfl) (hrok.int); skip; exact h:Calls _ _ _ w fun e w'=>e = .returned (vS r.int.2.sum.1)∧Fr [br] w w'∧bA (A2,c2) w' br (r.int.2.sum.2)).mono ?_)
   rintro e w' ⟨rfl,hf,hr⟩
   have hM':=hM.rE 0 rfl hf hr
   refine ⟨_,_,rfl,hM',?_⟩
   clear hM hM' hf hr
   refine aP _ (fun _ h=>h) (fun _ h=>h.sub (.cons _ (.cons_cons _ (.cons_cons _ .slnil))))<|bU (i:=6) kr rfl rfl<|Ow (elem:=5) (bs:=r.int.2.sum.1) 1 (aU (cl.set i (⟨r.int.1,jO r.int.2.sum.1,0⟩:BC))) rfl rfl kr kr kr rfl rfl rfl (Rd.xV _) (by rw [hlen1]; have:=Rd.xV r.int.2; omega) (by rw [Nat.zero_add,Oy hok1 hci1 (Rd.xV _),List.set_set,Ox])<|lO kr rfl<|aI ?_
   have hc2ok:(⟨r.int.1,jO r.int.2.sum.1,0⟩:BC).Ok:=⟨r.Ei,Gt (Rd.xV _),by show 0 < 18446744073709551616; decide⟩
   have hok2:gE (cl.set i (⟨r.int.1,jO r.int.2.sum.1,0⟩:BC)):=hok.set i hc2ok
   have hci2:(cl.set i (⟨r.int.1,jO r.int.2.sum.1,0⟩:BC))[i]?=some (⟨r.int.1,jO r.int.2.sum.1,0⟩:BC):=List.getElem?_set_self om
   have hlen2:(aU (cl.set i (⟨r.int.1,jO r.int.2.sum.1,0⟩:BC))).length=n*34:=by rw [kM hok2,List.length_set,hcll]
   refine aF<|lx rfl<|Nx<|cU 102 #[(vP br 0)] rfl kr (fun _=>kr) (fun w hM=>(by have h:=qN br (r.int.2.sum.2) w (hM.at (i:=0) rfl) (hrok.int.sum); skip; exact h:Calls _ _ _ w fun e w'=>e = .returned (vU r.int.2.sum.2.uint.1)∧Fr [br] w w'∧bA (A2,c2) w' br (r.cell.2)).mono ?_)
   rintro e w' ⟨rfl,hf,hr⟩
   have hM':=hM.rE 0 rfl hf hr
   refine ⟨_,_,rfl,hM',?_⟩
   clear hM hM' hf hr
   refine lk (.pointer (some ⟨bc,0+i*34,none⟩))<|lk (.pointer (some ⟨bc,0+i*34+33,none⟩))<|Nx<|kJ 1 rfl rfl kr rfl rfl rfl kr rfl (by rw [hlen2]; omega) ?_
   exact Nk<|St.mem (cs':=[lB br (A2,c2) (iY r2 (i+1)),aD bc 183 (aU (jE r2 n (i+1))),aD b28 174 [(.slice (some ⟨bc,0,none⟩) (n) (n)),(vU seed)]]) (fun w hM=>by have e:=pO hok2 [] i (⟨r.int.1,jO r.int.2.sum.1,0⟩:BC) hci2 33 om (vU r.int.2.sum.2.uint.1) r.cell.1 (uB (c:=(⟨r.int.1,jO r.int.2.sum.1,0⟩:BC)) hc2ok.keys _); rw [List.append_nil,List.append_nil,List.set_set] at e; rw [HSU.out,HRS.out,← e]; rw [Nat.zero_add] at hM; exact hM)<|aF<|lw (vI (i+1)) bO<|lx rfl<|aO (aI (sA (i+1) (by show _≤_; omega) (by show n - (i+1) < n - i; omega) (fun _ h=>h)))
  ·have hd35:=of_decide_eq_false hc35
   obtain rfl:n=i:=om
   refine Nj<|Nc<|lx rfl<|Nx<|cU 77 #[(vP br 0)] rfl kr (fun _=>kr) (fun w hM=>(Gk br (iY r2 n) w (hM.at (i:=0) rfl) (Cr HOK.out n)).mono ?_)
   rintro e w' ⟨rfl,hf⟩
   have hM':=hM.dD hf
   refine ⟨_,_,rfl,hM',?_⟩
   clear hM hM' hf
   refine lx rfl<|Nb<|lx rfl<|lk (.bool (((iY r2 n).end_:Int) != 0)) ?_
   refine aO (aI (bD rfl (fun hc67=>?_) (fun hc67=>?_)))
   ·refine Nc<|lx rfl<|Nh<|sN [(.pointer none),(vi 3)] fun w hM=>?_
    have hz0:(iY r2 n).end_≠0:=by simpa using hc67
    have he0:(oO D).end_≠0:=by unfold oO rZ; rw [← HN.out,← HR2.out]; exact hz0
    rw [if_neg he0]
    exact ⟨rfl,hM.fr⟩
   ·refine Ni<|lx rfl<|Nd<|sN [(vP b28 0),(vi 0)] fun w hM=>?_
    have hz0:(iY r2 n).end_=0:=by simpa using hc67
    have he0:(oO D).end_=0:=by unfold oO rZ; rw [← HN.out,← HR2.out]; exact hz0
    rw [if_pos he0]
    have hM2:=(fun (w:World) (h:Mm _ _ _ w)=>Mm.perm h (.swap _ _ _)) w ((fun (w:World) (h:Mm _ _ _ w)=>Mm.sub h (.cons _ (.cons_cons _ (.cons_cons _ .slnil)))) w hM)
    rw [← List.append_nil (aU (jE r2 n n))] at hM2
    exact ⟨b28,bc,n,[],rfl,hM2.KI (by rw [Cu,HN.out]) (by exact HS.out.symm) (by rw [NQ]; unfold qO rZ; rw [← HN.out,← HR2.out]) (Ct D) (by exact hz) (Nat.le_refl _)⟩
end
def eB (D : List UInt8) : Option BT := if dQ (kN D : Int) = true ∧ (oO D).end_ = 0 then some (qO D) else none
theorem uH {D:List UInt8} {T:BT} (h:eB D=some T):T.enc=D∧dQ (T.cells.length:Int)=true:=by
 unfold eB at h
 split at h
 ·rename_i h1
  injection h with h
  subst h
  exact ⟨NU h1.2,by rw [Cu]; exact h1.1⟩
 ·cases h
theorem zK {T:BT} (h:T.Ok) (hs:dQ (T.cells.length:Int)=true):eB T.enc=some T:=by
 obtain ⟨h1,h2,h3⟩:=NV h (gV hs).2.1
 unfold eB
 rw [if_pos ⟨by rw [h1]; exact hs,h3⟩,h2]
theorem OB (A:Option Addr) (c:Nat) (D:List UInt8) (w:World) (hD:D.length≤4294967296) (hrow:aH w A (B8 D)) (h:eB D=none) :
  Calls Tryz.prog 73 #[.slice A D.length c] w fun e w'=>e = .returned (.tuple #[.pointer none,vi 3])∧Fr [] w w':=by
 rcases Nat.lt_or_ge 3072 (kN D) with hb | hb
 ·exact Oz A c D w hD hrow hb
 ·cases hs:dQ (kN D:Int) with
  | false=>exact OA A c D w hD hrow hb hs
  | true =>
    refine (GL A c D w hD hrow hs).mono fun e w' he=>?_
    have hn:(oO D).end_≠0:=fun h0=>by
     unfold eB at h
     rw [if_pos ⟨hs,h0⟩] at h
     cases h
    rwa [if_neg hn] at he
theorem OC (A:Option Addr) (c:Nat) (D:List UInt8) (U:BT) (w:World) (hD:D.length≤4294967296) (hrow:aH w A (B8 D)) (h:eB D=some U) :
  Calls Tryz.prog 73 #[.slice A D.length c] w fun e w'=>∃ bt bc cap rest,e = .returned (.tuple #[vP bt 0,vi 0])∧Mm w [] [jP bt bc cap rest U] w':=by
 unfold eB at h
 split at h
 ·rename_i h1
  injection h with h
  subst h
  refine (GL A c D w hD hrow h1.1).mono fun e w' he=>?_
  rwa [if_pos h1.2] at he
 ·cases h
theorem OD (n seed seed2 g1 c1 g2 c2:Nat) (rest1 rest2:List Value) (t u:BT) (w:World) (ht:gW w g1 c1 rest1 t) (hu:gW w g2 c2 rest2 u) (hn:n=t.cells.length) (hn2:u.cells.length=n) (hs:seed=t.seed) :
  Calls Tryz.prog 43 #[(.agg #[(.int .u64 ((seed:Nat):Int)),(.slice (some ⟨g1,0,none⟩) (n) (c1))]),(.agg #[(.int .u64 ((seed2:Nat):Int)),(.slice (some ⟨g2,0,none⟩) (n) (c2))])] w fun e w'=>∃ g c rest,e = .returned (.agg #[.int .u64 (seed:Int),.slice (some ⟨g,0,none⟩) n c])∧w.heap.size≤g∧Fr [] w w'∧gW w' g c rest (t.sub u):=by
 have HN:=Lib.hid hn
 have HS:=Lib.hid hs
 have HUL:=Lib.hid hn2
 have HT:=Lib.hid ht
 have HU:=Lib.hid hu
 have n4:n≤3072:=by rw [HN.out]; exact (gV ht.size).2.1
 clear hn hs hn2 ht hu
 refine bK Tryz.func43 67 (Mm.start w []) rfl<|Nc<|Nx<|pB [(vU seed),(.slice (some ⟨g1,0,none⟩) (n) (c1))] fun b2=>Nx<|pB [(vU seed2),(.slice (some ⟨g2,0,none⟩) (n) (c2))] fun b3=>Nx<|pA [(.int .u64 0),nS] fun b4=>Nb<|lk (vP b2 1)<|lL 0 rfl<|lk (vI n)<|lk (vP b2 0)<|lL 0 rfl<|Nx<|cU 85 #[(vI n),(vU seed)] rfl kr (fun _=>kr) (fun w hM=>(Gz n seed w (by rw [HN.out]; exact HT.out.size) (by rw [HS.out]; exact HT.out.ok.seed)).mono ?_)
 rintro e w' ⟨g,rfl,hg,hf,ht⟩
 have hM':=hM.push (c:=aD g 136 (aU (gQ t u (List.replicate n BC.zero) 0)++[])) hf (by show At _ _ _ _; rw [GC]; exact ht.cells) (by simpa [aD] using hg) (by simp [aD])
 refine ⟨_,_,rfl,hM',?_⟩
 clear hM hM' hf ht hg
 refine Nx<|pA [(.int .u64 0),nS] fun b5=>Nx<|pT 4 [(vU seed),(.slice (some ⟨g,0,none⟩) (n) (n))] rfl<|Ne<|lx rfl<|Ng<|sL (fun i=>i≤n) (fun i=>n - i) (fun i=>[(2,(vP b2 0)),(3,(vP b3 0)),(4,(vP b4 0)),(5,(vP b5 0)),(6,(vI i))]) (fun i=>[aD b2 83 [(vU seed),(.slice (some ⟨g1,0,none⟩) (n) (c1))],aD b3 83 [(vU seed2),(.slice (some ⟨g2,0,none⟩) (n) (c2))],aD b4 83 [(.int .u64 0),nS],aD g 136 (aU (gQ t u (List.replicate n BC.zero) i)++[]),aD b5 83 [(vU seed),(.slice (some ⟨g,0,none⟩) (n) (n))]]) 0 (Nat.zero_le _) (fun _ h=>h) ?_
 intro i (hi:i≤n)
 show St _ _ _ [(2,(vP b2 0)),(3,(vP b3 0)),(4,(vP b4 0)),(5,(vP b5 0)),(6,(vI i))] [aD b2 83 [(vU seed),(.slice (some ⟨g1,0,none⟩) (n) (c1))],aD b3 83 [(vU seed2),(.slice (some ⟨g2,0,none⟩) (n) (c2))],aD b4 83 [(.int .u64 0),nS],aD g 136 (aU (gQ t u (List.replicate n BC.zero) i)++[]),aD b5 83 [(vU seed),(.slice (some ⟨g,0,none⟩) (n) (n))]] _
 refine Ny<|lx rfl<|lk (vP b2 1)<|lL 0 rfl<|lk (vI n)<|lk (.bool (decide (((i:Nat):Int) < ((n:Nat):Int)))) ?_
 refine aO (aI (bD rfl (fun hc21=>?_) (fun hc21=>?_)))
 ·have hd21:=of_decide_eq_true hc21
  have hlt:i < n:=om
  obtain ⟨cc,hc⟩:∃ cc,t.cells[i]?=some cc:=⟨_,List.getElem?_eq_getElem (by rw [← HN.out]; exact hlt)⟩
  obtain ⟨dd,hd⟩:∃ dd,u.cells[i]?=some dd:=⟨_,List.getElem?_eq_getElem (by rw [HUL.out]; exact hlt)⟩
  have hcok:=HT.out.ok.cells cc (List.mem_of_getElem? hc)
  have hdok:=HU.out.ok.cells dd (List.mem_of_getElem? hd)
  have hclen:=BC.cells_len hcok
  have hdlen:=BC.cells_len hdok
  obtain ⟨cl,HCL⟩:∃ cl,Hid (cl=gQ t u (List.replicate n BC.zero) i):=⟨_,rfl⟩
  have hzl:(List.replicate n BC.zero).length=t.cells.length:=by rw [List.length_replicate,HN.out]
  have hcll:cl.length=n:=by rw [HCL.out,GF (by rw [HUL.out,HN.out]) hzl i (by rw [← HN.out]; omega),HN.out]
  have hok:gE cl:=by rw [HCL.out]; exact GH HT.out.ok HU.out.ok (fun c hc=>by rw [List.eq_of_mem_replicate hc]; exact BC.Ok.zero) i
  obtain ⟨c0,hc0⟩:∃ c0,cl[i]?=some c0:=⟨_,List.getElem?_eq_getElem om⟩
  have HSU:Hid (gQ t u (List.replicate n BC.zero) (i+1)=cl.set i (cc.sub dd)):=by show _=_; rw [HCL.out,GG (by rw [HUL.out,HN.out]) hzl (by rw [← HN.out]; exact hlt) (GB hc hd)]
  obtain ⟨kx,HKX⟩:∃ kx,Hid (kx=iF cc.keys dd.keys):=⟨_,rfl⟩
  have hkx:kx.length=(List.replicate 32 (0:UInt8)).length:=by rw [HKX.out]; simp [iF,hcok.keys,hdok.keys]
  rw [← HCL.out]
  refine fI (aI (aS (fO (nX (ι:=Nat × Nat) (fun _=>True) (fun (b7,b8)=>[(2,(vP b2 0)),(3,(vP b3 0)),(4,(vP b4 0)),(5,(vP b5 0)),(6,(vI i)),(17,(vI i)),(18,(vP b2 1)),(19,(.slice (some ⟨g1,0,none⟩) (n) (c1))),(20,(vI n)),(21,(.bool (decide (((i:Nat):Int) < ((n:Nat):Int))))),(24,(vP b2 1)),(25,(.slice (some ⟨g1,0,none⟩) (n) (c1))),(26,(vI i)),(27,(.pointer (some ⟨g1,0+i*34,none⟩))),(28,(.agg (cc.cells).toArray)),(29,(vP b3 1)),(30,(.slice (some ⟨g2,0,none⟩) (n) (c2))),(31,(vI i)),(32,(.pointer (some ⟨g2,0+i*34,none⟩))),(33,(.agg (dd.cells).toArray)),(7,(vP b7 0)),(8,(vP b8 0))]) (fun (b7,b8)=>[aD b2 83 [(vU seed),(.slice (some ⟨g1,0,none⟩) (n) (c1))],aD b3 83 [(vU seed2),(.slice (some ⟨g2,0,none⟩) (n) (c2))],aD b4 83 [(.int .u64 0),nS],aD g 136 (aU cl++[]),aD b5 83 [(vU seed),(.slice (some ⟨g,0,none⟩) (n) (n))],aD b7 136 (cc.cells),aD b8 136 (dd.cells)]) ?_ ?_))))
  ·refine cQ _ 14 kr (fun _ h=>h)<|aC 0 (vP b2 1) rfl<|al 1 0 ?_
   refine am 2 ?_
   refine aV 3 (.pointer (some ⟨g1,0+i*34,none⟩)) rfl (jN (e:=136) (sz:=34) rfl kr kr rfl rfl om)<|aV 4 (.agg (cc.cells).toArray) rfl (gC cc.cells rfl rfl kr (by rw [hclen]; kernel_rfl) (fun w hM j v hj=>by rw [Nat.zero_add]; exact hM.dX (sB HT.out hc j v hj) si))<|aC 5 (vP b3 1) rfl<|al 6 1 ?_
   refine am 7 ?_
   refine aV 8 (.pointer (some ⟨g2,0+i*34,none⟩)) rfl (jN (e:=136) (sz:=34) rfl kr kr rfl rfl om)<|aV 9 (.agg (dd.cells).toArray) rfl (gC dd.cells rfl rfl kr (by rw [hdlen]; kernel_rfl) (fun w hM j v hj=>by rw [Nat.zero_add]; exact hM.dX (sB HU.out hd j v hj) si)) ?_
   refine kT (i:=10) (j:=11) kr rfl rfl rfl rfl ?_ ?_
   ·refine pA [(vi 0),(.int .u8 0),(.int .u8 0),(.int .u8 0),(.int .u8 0),(.int .u8 0),(.int .u8 0),(.int .u8 0),(.int .u8 0),(.int .u8 0),(.int .u8 0),(.int .u8 0),(.int .u8 0),(.int .u8 0),(.int .u8 0),(.int .u8 0),(.int .u8 0),(.int .u8 0),(.int .u8 0),(.int .u8 0),(.int .u8 0),(.int .u8 0),(.int .u8 0),(.int .u8 0),(.int .u8 0),(.int .u8 0),(.int .u8 0),(.int .u8 0),(.int .u8 0),(.int .u8 0),(.int .u8 0),(.int .u8 0),(.int .u8 0),(.int .u64 0)] fun b7=>aP _ (fun _ h=>h) (fun _ h=>h.sub (.cons_cons _ (.cons_cons _ (.cons_cons _ (.cons_cons _ (.cons_cons _ (.cons _ .slnil)))))))<|bU (i:=11) kr rfl rfl<|pA [(vi 0),(.int .u8 0),(.int .u8 0),(.int .u8 0),(.int .u8 0),(.int .u8 0),(.int .u8 0),(.int .u8 0),(.int .u8 0),(.int .u8 0),(.int .u8 0),(.int .u8 0),(.int .u8 0),(.int .u8 0),(.int .u8 0),(.int .u8 0),(.int .u8 0),(.int .u8 0),(.int .u8 0),(.int .u8 0),(.int .u8 0),(.int .u8 0),(.int .u8 0),(.int .u8 0),(.int .u8 0),(.int .u8 0),(.int .u8 0),(.int .u8 0),(.int .u8 0),(.int .u8 0),(.int .u8 0),(.int .u8 0),(.int .u8 0),(.int .u64 0)] fun b8=>aP _ (fun _ h=>h) (fun _ h=>h.sub (.cons_cons _ (.cons_cons _ (.cons_cons _ (.cons_cons _ (.cons_cons _ (.cons _ (.cons _ .slnil))))))))<|bU (i:=12) kr rfl rfl<|gI 5 cc.cells (vs:=cc.cells) rfl rfl kr rfl rfl rfl (by rw [hclen]; kernel_rfl) rfl (by rw [hclen]; decide) (BC.mB _) (oD (by rw [hclen]; rfl)) ?_
    refine aP _ (fun _ h=>h.sub (.cons_cons _ (.cons_cons _ (.cons_cons _ (.cons_cons _ (.cons_cons _ (.cons _ .slnil))))))) (fun _ h=>h.sub (.cons_cons _ (.cons_cons _ (.cons_cons _ (.cons_cons _ (.cons_cons _ (.cons_cons _ (.cons _ .slnil))))))))<|bU (i:=13) kr rfl rfl<|gI 6 dd.cells (vs:=dd.cells) rfl rfl kr rfl rfl rfl (by rw [hdlen]; kernel_rfl) rfl (by rw [hdlen]; decide) (BC.mB _) (oD (by rw [hdlen]; rfl)) ?_
    exact aP _ (fun _ h=>h.sub (.cons_cons _ (.cons_cons _ (.cons_cons _ (.cons_cons _ (.cons_cons _ (.cons_cons _ (.cons _ .slnil)))))))) (fun _ h=>h)<|cF kr<|aI (sM (b7,b8) trivial (fun _ h=>h))
   ·refine pA [(vi 0),(.int .u8 0),(.int .u8 0),(.int .u8 0),(.int .u8 0),(.int .u8 0),(.int .u8 0),(.int .u8 0),(.int .u8 0),(.int .u8 0),(.int .u8 0),(.int .u8 0),(.int .u8 0),(.int .u8 0),(.int .u8 0),(.int .u8 0),(.int .u8 0),(.int .u8 0),(.int .u8 0),(.int .u8 0),(.int .u8 0),(.int .u8 0),(.int .u8 0),(.int .u8 0),(.int .u8 0),(.int .u8 0),(.int .u8 0),(.int .u8 0),(.int .u8 0),(.int .u8 0),(.int .u8 0),(.int .u8 0),(.int .u8 0),(.int .u64 0)] fun b8=>aP _ (fun _ h=>h) (fun _ h=>h.sub (.cons_cons _ (.cons_cons _ (.cons_cons _ (.cons_cons _ (.cons_cons _ (.cons _ .slnil)))))))<|bU (i:=10) kr rfl rfl<|pA [(vi 0),(.int .u8 0),(.int .u8 0),(.int .u8 0),(.int .u8 0),(.int .u8 0),(.int .u8 0),(.int .u8 0),(.int .u8 0),(.int .u8 0),(.int .u8 0),(.int .u8 0),(.int .u8 0),(.int .u8 0),(.int .u8 0),(.int .u8 0),(.int .u8 0),(.int .u8 0),(.int .u8 0),(.int .u8 0),(.int .u8 0),(.int .u8 0),(.int .u8 0),(.int .u8 0),(.int .u8 0),(.int .u8 0),(.int .u8 0),(.int .u8 0),(.int .u8 0),(.int .u8 0),(.int .u8 0),(.int .u8 0),(.int .u8 0),(.int .u64 0)] fun b7=>aP _ (fun _ h=>h) (fun _ h=>h.sub (.cons_cons _ (.cons_cons _ (.cons_cons _ (.cons_cons _ (.cons_cons _ (.cons _ (.cons _ .slnil))))))))<|bU (i:=12) kr rfl rfl<|gI 6 cc.cells (vs:=cc.cells) rfl rfl kr rfl rfl rfl (by rw [hclen]; kernel_rfl) rfl (by rw [hclen]; decide) (BC.mB _) (oD (by rw [hclen]; rfl)) ?_
    refine aP _ (fun _ h=>h.sub (.cons_cons _ (.cons_cons _ (.cons_cons _ (.cons_cons _ (.cons_cons _ (.cons _ .slnil))))))) (fun _ h=>h.sub (.cons_cons _ (.cons_cons _ (.cons_cons _ (.cons_cons _ (.cons_cons _ (.cons _ (.cons_cons _ .slnil))))))))<|bU (i:=13) kr rfl rfl<|gI 5 dd.cells (vs:=dd.cells) rfl rfl kr rfl rfl rfl (by rw [hdlen]; kernel_rfl) rfl (by rw [hdlen]; decide) (BC.mB _) (oD (by rw [hdlen]; rfl)) ?_
    exact aP _ (fun _ h=>h.sub (.cons_cons _ (.cons_cons _ (.cons_cons _ (.cons_cons _ (.cons_cons _ (.cons _ (.cons_cons _ .slnil)))))))) (fun _ h=>h)<|cF kr<|aI (sM (b7,b8) trivial (fun _ h=>h.perm (.cons _ (.cons _ (.cons _ (.cons _ (.cons _ (.swap _ _ _))))))))
  ·rintro ⟨b7,b8⟩ -
   dsimp only
   refine aS ?_
   have hk0:((⟨IntKind.i64.wrap (cc.count + -dd.count),kA kx (List.replicate 32 0) 0,cc.checks ^^^ dd.checks⟩:BC).cells).length=34:=rfl
   refine aF<|lk (vP b7 0)<|lw (.int .i64 cc.count) (cW 5 rfl rfl kr rfl (jB cc))<|lk (vP b8 0)<|lw (.int .i64 dd.count) (cW 6 rfl rfl kr rfl (jB dd))<|lw (vi (IntKind.i64.wrap (cc.count + -dd.count))) (iB (v:=.int .i64 (IntKind.i64.wrap (cc.count - dd.count))) (fL fun _=>by kernel_rfl) (by rw [Int.sub_eq_add_neg]))<|lk (vP b7 33)<|lw (vU cc.checks) (cW 5 rfl rfl kr rfl (mW hcok.keys))<|lk (vP b8 33)<|lw (vU dd.checks) (cW 6 rfl rfl kr rfl (mW hdok.keys))<|lw (vU (cc.checks ^^^ dd.checks)) (qH .xor si _ rfl rfl rfl (u64_xor_nat _ _ hcok.checks hdok.checks))<|lk (.agg ((⟨IntKind.i64.wrap (cc.count + -dd.count),kA kx (List.replicate 32 0) 0,cc.checks ^^^ dd.checks⟩:BC).cells).toArray)<|Nx<|pA [(vi 0),(.int .u8 0),(.int .u8 0),(.int .u8 0),(.int .u8 0),(.int .u8 0),(.int .u8 0),(.int .u8 0),(.int .u8 0),(.int .u8 0),(.int .u8 0),(.int .u8 0),(.int .u8 0),(.int .u8 0),(.int .u8 0),(.int .u8 0),(.int .u8 0),(.int .u8 0),(.int .u8 0),(.int .u8 0),(.int .u8 0),(.int .u8 0),(.int .u8 0),(.int .u8 0),(.int .u8 0),(.int .u8 0),(.int .u8 0),(.int .u8 0),(.int .u8 0),(.int .u8 0),(.int .u8 0),(.int .u8 0),(.int .u8 0),(.int .u64 0)] fun b9=>Nx<|gI 7 (⟨IntKind.i64.wrap (cc.count + -dd.count),kA kx (List.replicate 32 0) 0,cc.checks ^^^ dd.checks⟩:BC).cells (vs:=(⟨IntKind.i64.wrap (cc.count + -dd.count),kA kx (List.replicate 32 0) 0,cc.checks ^^^ dd.checks⟩:BC).cells) rfl rfl kr rfl rfl rfl (by rw [hk0]; kernel_rfl) rfl (by rw [hk0]; decide) (BC.mB _) (oD (by rw [hk0]; rfl)) ?_
   refine Ne<|lx rfl<|Ng<|sL (fun j=>j≤32) (fun j=>32 - j) (fun j=>[(2,(vP b2 0)),(3,(vP b3 0)),(4,(vP b4 0)),(5,(vP b5 0)),(6,(vI i)),(7,(vP b7 0)),(8,(vP b8 0)),(9,(vP b9 0)),(10,(vI j))]) (fun j=>[aD b2 83 [(vU seed),(.slice (some ⟨g1,0,none⟩) (n) (c1))],aD b3 83 [(vU seed2),(.slice (some ⟨g2,0,none⟩) (n) (c2))],aD b4 83 [(.int .u64 0),nS],aD g 136 (aU cl++[]),aD b5 83 [(vU seed),(.slice (some ⟨g,0,none⟩) (n) (n))],aD b7 136 (cc.cells),aD b8 136 (dd.cells),aD b9 136 ((⟨IntKind.i64.wrap (cc.count + -dd.count),kA kx (List.replicate 32 0) j,cc.checks ^^^ dd.checks⟩:BC).cells)]) 0 (Nat.zero_le _) (fun _ h=>h) ?_
   intro j (hj:j≤32)
   show St _ _ _ [(2,(vP b2 0)),(3,(vP b3 0)),(4,(vP b4 0)),(5,(vP b5 0)),(6,(vI i)),(7,(vP b7 0)),(8,(vP b8 0)),(9,(vP b9 0)),(10,(vI j))] [aD b2 83 [(vU seed),(.slice (some ⟨g1,0,none⟩) (n) (c1))],aD b3 83 [(vU seed2),(.slice (some ⟨g2,0,none⟩) (n) (c2))],aD b4 83 [(.int .u64 0),nS],aD g 136 (aU cl++[]),aD b5 83 [(vU seed),(.slice (some ⟨g,0,none⟩) (n) (n))],aD b7 136 (cc.cells),aD b8 136 (dd.cells),aD b9 136 ((⟨IntKind.i64.wrap (cc.count + -dd.count),kA kx (List.replicate 32 0) j,cc.checks ^^^ dd.checks⟩:BC).cells)] _
   refine Ny<|lx rfl<|lk (.bool (decide (((j:Nat):Int) < 32))) ?_
   refine aO (aI (bD rfl (fun hc46=>?_) (fun hc46=>?_)))
   ·have hd46:=of_decide_eq_true hc46
    have hj2:j < 32:=om
    obtain ⟨x,hx⟩:∃ x,cc.keys[j]?=some x:=⟨_,List.getElem?_eq_getElem (by rw [hcok.keys]; exact hj2)⟩
    obtain ⟨y,hy⟩:∃ y,dd.keys[j]?=some y:=⟨_,List.getElem?_eq_getElem (by rw [hdok.keys]; exact hj2)⟩
    have hkj:kx[j]?=some (x ^^^ y):=by rw [HKX.out]; exact FG _ _ j x y hx hy
    have hktl:(kA kx (List.replicate 32 0) j).length=32:=by rw [On hkx]; rfl
    have hckl:((⟨IntKind.i64.wrap (cc.count + -dd.count),kA kx (List.replicate 32 0) j,cc.checks ^^^ dd.checks⟩:BC).cells).length=34:=by simp only [BC.cells,List.length_cons,List.length_append,dL,hktl,List.length_nil]
    refine Nl<|fO ?_
    refine cQ _ 12 kr (fun _ h=>h) ?_
    refine am 0 ?_
    refine am 1 ?_
    refine aC 2 (vP b7 1) rfl<|aV 3 (.pointer (some ⟨b7,1+j,none⟩)) rfl (kU (e:=5) (m:=32) rfl kr kr rfl rfl om)<|aV 4 (.int .u8 ((x.toNat:Nat):Int)) rfl (cW 5 rfl rfl kr rfl (uA j x hx))<|am 5 ?_
    refine aC 6 (vP b8 1) rfl<|aV 7 (.pointer (some ⟨b8,1+j,none⟩)) rfl (kU (e:=5) (m:=32) rfl kr kr rfl rfl om)<|aV 8 (.int .u8 ((y.toNat:Nat):Int)) rfl (cW 6 rfl rfl kr rfl (uA j y hy))<|aV 9 (.int .u8 (((x ^^^ y).toNat:Nat):Int)) rfl (qH .xor si _ rfl rfl rfl (yY x y))<|aC 10 (vP b9 1) rfl<|aV 11 (.pointer (some ⟨b9,1+j,none⟩)) rfl (kU (e:=5) (m:=32) rfl kr kr rfl rfl om)<|bU (i:=12) kr rfl rfl<|kJ 7 rfl rfl kr rfl rfl rfl kr rfl (by rw [hckl]; omega) ?_
    exact lO kr rfl<|nY<|aI<|St.mem (cs':=[aD b2 83 [(vU seed),(.slice (some ⟨g1,0,none⟩) (n) (c1))],aD b3 83 [(vU seed2),(.slice (some ⟨g2,0,none⟩) (n) (c2))],aD b4 83 [(.int .u64 0),nS],aD g 136 (aU cl++[]),aD b5 83 [(vU seed),(.slice (some ⟨g,0,none⟩) (n) (n))],aD b7 136 (cc.cells),aD b8 136 (dd.cells),aD b9 136 ((⟨IntKind.i64.wrap (cc.count + -dd.count),kA kx (List.replicate 32 0) (j+1),cc.checks ^^^ dd.checks⟩:BC).cells)]) (fun w hM=>by rw [← Oo hkx hkj,← Cx (by rw [hktl]; omega)]; exact hM)<|aF<|lx rfl<|lw (vI (j+1)) bO<|lx rfl<|aO (aI (sA (j+1) (by show _≤_; omega) (by show 32 - (j+1) < 32 - j; omega) (fun _ h=>h)))
   ·have hd46:=of_decide_eq_false hc46
    obtain rfl:j=32:=om
    have hfin:(⟨IntKind.i64.wrap (cc.count + -dd.count),kA kx (List.replicate 32 0) 32,cc.checks ^^^ dd.checks⟩:BC).cells=(cc.sub dd).cells:=by
     have e:kA kx (List.replicate 32 0) 32=iF cc.keys dd.keys:=by
      unfold kA
      rw [List.take_of_length_le (by rw [hkx]; simp),List.drop_of_length_le si,List.append_nil,HKX.out]
     rw [e]
     rfl
    have hsl:(cc.sub dd).cells.length=34:=BC.cells_len (BC.Ok.sub hcok hdok)
    refine St.mem (cs':=[aD b2 83 [(vU seed),(.slice (some ⟨g1,0,none⟩) (n) (c1))],aD b3 83 [(vU seed2),(.slice (some ⟨g2,0,none⟩) (n) (c2))],aD b4 83 [(.int .u64 0),nS],aD g 136 (aU cl++[]),aD b5 83 [(vU seed),(.slice (some ⟨g,0,none⟩) (n) (n))],aD b7 136 (cc.cells),aD b8 136 (dd.cells),aD b9 136 ((cc.sub dd).cells)]) (fun w hM=>by rw [← hfin]; exact hM)<|Nr<|mQ<|aI<|aF<|lk (vP b5 1)<|lL 4 rfl<|lx rfl<|lw (.agg ((cc.sub dd).cells).toArray) (gC (cc.sub dd).cells rfl rfl kr (by rw [hsl]; kernel_rfl) (eQ (i:=7) rfl (fun j v hj=>by rw [Nat.zero_add]; exact hj)))<|lw (.pointer (some ⟨g,0+i*34,none⟩)) (jN (e:=136) (sz:=34) rfl kr kr rfl rfl om)<|Nx<|gI 3 (aU (cl.set i (cc.sub dd))++[]) (vs:=(cc.sub dd).cells) rfl rfl kr rfl rfl rfl (by rw [hsl]; kernel_rfl) rfl (by rw [hsl,List.length_append,kM hok,hcll]; omega) (BC.mB _) (by rw [hsl,Nat.zero_add]; exact (zI hok [] i c0 hc0 _).symm) ?_
    exact Nk<|St.mem (cs':=[aD b2 83 [(vU seed),(.slice (some ⟨g1,0,none⟩) (n) (c1))],aD b3 83 [(vU seed2),(.slice (some ⟨g2,0,none⟩) (n) (c2))],aD b4 83 [(.int .u64 0),nS],aD g 136 (aU (gQ t u (List.replicate n BC.zero) (i+1))++[]),aD b5 83 [(vU seed),(.slice (some ⟨g,0,none⟩) (n) (n))],aD b7 136 (cc.cells),aD b8 136 (dd.cells),aD b9 136 ((cc.sub dd).cells)]) (fun w hM=>by rw [HSU.out]; exact hM)<|aF<|lx rfl<|lw (vI (i+1)) bO<|lx rfl<|aO (aI (sA (i+1) (by show _≤_; omega) (by show n - (i+1) < n - i; omega) (fun _ h=>h.sub (.cons_cons _ (.cons_cons _ (.cons_cons _ (.cons_cons _ (.cons_cons _ (.cons _ (.cons _ (.cons _ .slnil)))))))))))
 ·have hd21:=of_decide_eq_false hc21
  obtain rfl:n=i:=om
  refine Nj<|aF<|lW (rA 4 [(vU seed),(.slice (some ⟨g,0,none⟩) (n) (n))])<|Nx<|pT 2 [(vU seed),(.slice (some ⟨g,0,none⟩) (n) (n))] rfl<|Nd<|fP [(.agg #[(vU seed),(.slice (some ⟨g,0,none⟩) (n) (n))])] rfl ⟨⟨_,rfl,fun w hM=>gZ kr kr (eQ (i:=2) (off:=0) rfl (by intro j v hj; rw [Nat.zero_add]; exact hj) w hM)⟩,trivial⟩ (fun w hM=>⟨g,n,[],rfl,hM.lo (i:=3) rfl (by simp [aD]),hM.fr,?_⟩)
  have e:=GD (t:=t) (u:=u) (l:=(List.replicate n BC.zero)) (by rw [HUL.out,HN.out]) (by rw [List.length_replicate,HN.out])
  have el:(t.sub u).cells.length=n:=by rw [nI (by rw [HUL.out,HN.out]),HN.out]
  have ha:At w g 136 (aU (gQ t u (List.replicate n BC.zero) n)++[]):=hM.at (i:=3) rfl
  rw [show gQ t u (List.replicate n BC.zero) n=(t.sub u).cells by rw [← e,HN.out]] at ha
  exact ⟨ha,zJ HT.out.ok HU.out.ok,by rw [el,HN.out]; exact HT.out.size,by rw [el]; exact Nat.le_refl _⟩
section
/-! ### Several pieces as one -/
def uI (l : List Ch) (p : Prop) : Ch where
 fp := l.flatMap Ch.fp
 holds w := (∀ c ∈ l, c.holds w) ∧ (l.flatMap Ch.fp).Nodup ∧ p
 ok w w' hb h := ⟨fun c hc => c.ok w w' (fun b hbc => hb b (List.mem_flatMap.2 ⟨c, hc, hbc⟩)) (h.1 c hc), h.2⟩
 lt w h b hb := by
  obtain ⟨c, hc, hbc⟩ := List.mem_flatMap.1 hb
  exact c.lt w (h.1 c hc) b hbc
section
variable {w0 w : World} {F : List Nat} {A B l : List Ch} {p : Prop}
theorem zL (A B l:List Ch) (p:Prop):(A++uI l p::B).flatMap Ch.fp=(A++l++B).flatMap Ch.fp:=by
 simp [List.flatMap_append,List.flatMap_cons,uI]
theorem Mm.unpack (h:Mm w0 F (A++uI l p::B) w):Mm w0 F (A++l++B) w∧p:=by
 have hh:=h.hold (uI l p) si
 refine ⟨⟨h.fr,fun c hc=>?_,by rw [← zL A B l p]; exact h.nodup,fun b hb=>h.own b (by rw [zL]; exact hb)⟩,hh.2.2⟩
 rcases List.mem_append.1 hc with hc | hc
 ·rcases List.mem_append.1 hc with hc | hc
  ·exact h.hold c (by simp [hc])
  ·exact hh.1 c hc
 ·exact h.hold c (by simp [hc])
theorem Mm.pack (h:Mm w0 F (A++l++B) w) (hp:p):Mm w0 F (A++uI l p::B) w:=by
 refine ⟨h.fr,fun c hc=>?_,by rw [zL]; exact h.nodup,fun b hb=>h.own b (by rw [← zL A B l p]; exact hb)⟩
 rcases List.mem_append.1 hc with hc | hc
 ·exact h.hold c (by simp [hc])
 ·rcases List.mem_cons.1 hc with rfl | hc
  ·refine ⟨fun c hc=>h.hold c (by simp [hc]),?_,hp⟩
   have hn:=h.nodup
   rw [List.flatMap_append,List.flatMap_append,List.nodup_append,List.nodup_append] at hn
   exact hn.1.2.1
  ·exact h.hold c (by simp [hc])
end
def mK (A : Option Addr) (xs : List Value) : Ch where
 fp := if xs.isEmpty then [] else cZ A
 holds w := aH w A xs
 ok w w' hb h := by
  intro j v hj
  obtain ⟨b, o, hA, hlt, hc⟩ := h j v hj
  have hne : xs.isEmpty = false := by cases xs with | nil => simp at hj | cons x l => rfl
  have hbb := hb b (by rw [hne, hA]; simp [cZ])
  refine ⟨b, o, hA, ?_, ?_⟩
  ·rcases Nat.lt_or_ge b w'.heap.size with h1 | h1
   ·exact h1
   ·rw [Array.getElem?_eq_none h1, Array.getElem?_eq_getElem hlt] at hbb
    cases hbb
  ·simp only [World.cell?, hbb] at hc ⊢
   exact hc
 lt w h b hb := by
  split at hb
  ·simp at hb
  ·rename_i hne
   cases xs with
   | nil => simp at hne
   | cons x l =>
     obtain ⟨b', o, hA, hlt, _⟩ := h 0 x rfl
     subst hA
     simp [cZ] at hb
     subst hb
     exact hlt
theorem uJ {w:World} {A:Option Addr} {xs:List Value} (h:(mK A xs).holds w):aH w A xs:=h
end
structure TX where
 bt : Nat
 bc : Nat
 cap : Nat
 rest : List Value
abbrev cT (X : TX) (t : BT) : Ch := jP X.bt X.bc X.cap X.rest t
structure RX where
 g : Nat
 c : Nat
 rest : List Value
abbrev fT (X : RX) (t : BT) : Ch := mJ X.g X.c X.rest t
def pQ (t u : BT) : Bool := decide (t.cells.length = u.cells.length) && decide (t.seed = u.seed)
theorem Fr.back {w w':World} (h:Fr [] w w'):aJ [] w [] w':=⟨h,si,si,si⟩
theorem cE.tab {w w':World} {X:TX} {t t':BT} (hO:cE [cT X t] w) (hf:Fr [X.bc] w w') (h:eD w' X.bt X.bc X.cap X.rest t'):aJ [cT X t] w [cT X t'] w':=Mm.UA hO 0 rfl hf h
theorem zC.back {w w':World} {bs:List UInt8} {v:Value} (h:zC bs w v w'):∃ A c,v = .slice A bs.length c∧aJ [] w [aR 5 1 A bs.length c (B8 bs)] w':=by
 obtain ⟨A,c,h1,h2⟩:=(Mm.start w []).Kt h.fr h.own
 exact ⟨A,c,h1,h2⟩
theorem OE {w w':World} {A1 A2:Option Addr} {xs ys:List Value} (hf:Fr [] w w') (h1:aH w' A1 xs) (h2:aH w' A2 ys) (h:wH w A1 A2):aJ [] w [mK A1 xs,mK A2 ys] w':=by
 obtain ⟨f1,f2,f3⟩:=h
 refine ⟨hf,?_,?_,?_⟩
 ·intro c hc
  rcases List.mem_cons.1 hc with rfl | hc
  ·exact h1
  ·rw [List.mem_singleton] at hc
   subst hc
   exact h2
 ·simp only [List.flatMap_cons,List.flatMap_nil,List.append_nil,mK]
  cases A1 with
  | none=>cases A2 <;> (split <;> split <;> simp [cZ])
  | some a=>cases A2 with
    | none=>split <;> split <;> simp [cZ]
    | some b=>split <;> split <;> simp [cZ,f3 a b rfl rfl]
 ·intro b hb
  refine .inr ?_
  simp only [List.flatMap_cons,List.flatMap_nil,List.append_nil,mK] at hb
  rcases List.mem_append.1 hb with hb | hb
  ·split at hb
   ·simp at hb
   ·cases A1 with
    | none=>simp [cZ] at hb
    | some a=>simp [cZ] at hb; rw [hb]; exact f1 a rfl
  ·split at hb
   ·simp at hb
   ·cases A2 with
    | none=>simp [cZ] at hb
    | some a=>simp [cZ] at hb; rw [hb]; exact f2 a rfl
theorem zM (n seed:Nat) (w:World) (hz:dQ (n:Int)=true) (hu:bI seed) :
  Calls Tryz.prog 65 #[(vI n),(.int .u64 ((seed:Nat):Int))] w fun e w'=>∃ (X:TX),e = .returned (.tuple #[(vP X.bt 0),(vi 0)])∧aJ [] w [cT X (BT.new n seed)] w':=by
 refine (Mo n seed w hz hu).mono fun e w' h=>?_
 obtain ⟨rfl,hf,ht⟩:=h
 exact ⟨⟨w.heap.size+1,w.heap.size,n,[]⟩,rfl,(Mm.start w []).UB hf ht (Nat.le_succ _) (Nat.le_refl _)⟩
theorem OF (X:TX) (t:BT) (key:List UInt8) (w:World) (hO:cE [cT X t] w) (r0:Rf [cT X t] w (cI)) (hk:key.length=32) :
  Calls Tryz.prog 67 #[(vP X.bt 0),(vS key)] w fun e w'=>e = .returned (vi 0)∧aJ [cT X t] w [cT X (t.change key 1)] w':=by
 refine (FO X.bt X.bc X.cap X.rest t key w r0.here (hO.at (i:=0) rfl) hk).mono fun e w' h=>?_
 obtain ⟨rfl,hf,ht⟩:=h
 exact ⟨rfl,cE.tab hO hf ht⟩
theorem GM (X:TX) (t:BT) (w:World) (r0:Rf [] w (fun w=>(cT X t).holds w)) :
  Calls Tryz.prog 148 #[(vP X.bt 0)] w fun e w'=>e = .returned (vI t.cells.length)∧aJ [] w [] w':=by
 refine (Mw X.bt X.bc X.cap X.rest t w r0.here).mono fun e w' h=>?_
 obtain ⟨rfl,rfl⟩:=h
 exact ⟨rfl,Mm.start w []⟩
theorem OG (n:Int) (w:World) :
  Calls Tryz.prog 35 #[(vi n)] w fun e w'=>e = .returned (vi (jC n))∧aJ [] w [] w':=by
 refine (Mx n w).mono fun e w' h=>?_
 obtain ⟨rfl,rfl⟩:=h
 exact ⟨rfl,Mm.start w []⟩
theorem GN (X:TX) (t:BT) (w:World) (r0:Rf [] w (fun w=>(cT X t).holds w)) :
  Calls Tryz.prog 70 #[(vP X.bt 0)] w fun e w'=>∃ (A:Option Addr) (c:Nat),e = .returned (vL A (t.enc) c)∧aJ [] w [cB A (t.enc) c] w':=by
 refine (MN X.bt X.bc X.cap X.rest t w r0.here).mono fun e w' h=>?_
 obtain ⟨v,rfl,hN⟩:=h
 obtain ⟨A,c,rfl,hB⟩:=hN.back
 exact ⟨A,c,rfl,hB⟩
theorem GO (X:TX) (t:BT) (w:World) (r0:Rf [] w (cI)) (r1:Rf [] w (fun w=>(cT X t).holds w)) (hk:t.keys=none) :
  Calls Tryz.prog 79 #[(vP X.bt 0)] w fun e w'=>e = .returned (.tuple #[nS,nS,(vi 10)])∧aJ [] w [] w':=by
 refine (Gb X.bt X.bc X.cap X.rest t w r0.here r1.here).mono fun e w' h=>?_
 obtain ⟨hf,h⟩:=h
 rw [hk] at h
 exact ⟨h,hf.back⟩
theorem GP (X:TX) (t:BT) (l m:List (List UInt8)) (w:World) (r0:Rf [] w (cI)) (r1:Rf [] w (fun w=>(cT X t).holds w)) (hk:t.keys=some (l,m)) :
  Calls Tryz.prog 79 #[(vP X.bt 0)] w fun e w'=>∃ (A1:Option Addr) (c1:Nat) (A2:Option Addr) (c2:Nat),e = .returned (.tuple #[(vL A1 l c1),(vL A2 m c2),(vi 0)])∧aJ [] w [mK A1 (SS l),mK A2 (SS m)] w':=by
 refine (Gb X.bt X.bc X.cap X.rest t w r0.here r1.here).mono fun e w' h=>?_
 obtain ⟨hf,h⟩:=h
 rw [hk] at h
 obtain ⟨A1,c1,A2,c2,rfl,h1,h2,h3⟩:=h
 exact ⟨A1,c1,A2,c2,rfl,OE hf h1 h2 h3⟩
theorem OH (X:TX) (t:BT) (Y:TX) (u:BT) (w:World) (r0:Rf [] w (fun w=>(cT X t).holds w)) (r1:Rf [] w (fun w=>(cT Y u).holds w)) (hs:pQ t u=false) :
  Calls Tryz.prog 78 #[(vP X.bt 0),(vP Y.bt 0)] w fun e w'=>e = .returned (.tuple #[(.pointer none),(vi 1)])∧aJ [] w [] w':=by
 by_cases h1:t.cells.length=u.cells.length
 ·have h2:t.seed≠u.seed:=fun h2=>by simp [pQ,h1,h2] at hs
  refine (Ot X.bt X.bc X.cap Y.bt Y.bc Y.cap X.rest Y.rest t u w r0.here r1.here h1 h2).mono fun e w' h=>?_
  obtain ⟨rfl,hf⟩:=h
  exact ⟨rfl,hf.back⟩
 ·refine (Oq X.bt X.bc X.cap Y.bt Y.bc Y.cap X.rest Y.rest t u w r0.here r1.here h1).mono fun e w' h=>?_
  obtain ⟨rfl,hf⟩:=h
  exact ⟨rfl,hf.back⟩
theorem Cz (X:TX) (t:BT) (Y:TX) (u:BT) (w:World) (r0:Rf [] w (fun w=>(cT X t).holds w)) (r1:Rf [] w (fun w=>(cT Y u).holds w)) (hs:pQ t u=true) :
  Calls Tryz.prog 78 #[(vP X.bt 0),(vP Y.bt 0)] w fun e w'=>∃ (Z:TX),e = .returned (.tuple #[(vP Z.bt 0),(vi 0)])∧aJ [] w [cT Z (t.sub u)] w':=by
 simp only [pQ,Bool.and_eq_true,decide_eq_true_eq] at hs
 refine (Ou X.bt X.bc X.cap Y.bt Y.bc Y.cap X.rest Y.rest t u w r0.here r1.here hs.1 hs.2).mono fun e w' h=>?_
 obtain ⟨bt,bc,cap,rest,rfl,hB⟩:=h
 exact ⟨⟨bt,bc,cap,rest⟩,rfl,hB⟩
theorem OI (A:Option Addr) (c:Nat) (D:List UInt8) (w:World) (r0:Rf [] w (fun w=>aH w A (B8 D))) (hD:D.length≤4294967296) (hd:eB D=none) :
  Calls Tryz.prog 73 #[(vL A D c)] w fun e w'=>e = .returned (.tuple #[(.pointer none),(vi 3)])∧aJ [] w [] w':=by
 refine (OB A c D w hD r0.here hd).mono fun e w' h=>?_
 obtain ⟨rfl,hf⟩:=h
 exact ⟨rfl,hf.back⟩
theorem GQ (A:Option Addr) (c:Nat) (D:List UInt8) (u:BT) (w:World) (r0:Rf [] w (fun w=>aH w A (B8 D))) (hD:D.length≤4294967296) (hd:eB D=some u) :
  Calls Tryz.prog 73 #[(vL A D c)] w fun e w'=>∃ (X:TX),e = .returned (.tuple #[(vP X.bt 0),(vi 0)])∧aJ [] w [cT X u] w':=by
 refine (OC A c D u w hD r0.here hd).mono fun e w' h=>?_
 obtain ⟨bt,bc,cap,rest,rfl,hB⟩:=h
 exact ⟨⟨bt,bc,cap,rest⟩,rfl,hB⟩
abbrev Bs := List UInt8
/-! ### Parameters and sets -/
def pR (fan leaf : Int) : Bool := decide (2 ≤ fan) && decide (fan ≤ 16) && decide (1 ≤ leaf) && decide (leaf ≤ 64)
def cJ (l : List Bs) : Prop := (∀ x ∈ l, x.length = 32) ∧ l.Pairwise (· < ·)
instance (l : List Bs) : Decidable (cJ l) := by unfold cJ; infer_instance
def dR (l : List Bs) : Int := if 16384 < l.length then 2 else if cJ l then 0 else 1
theorem oP {a b c:Bs} (h1:a < b) (h2:b < c):a < c:=List.lt_trans h1 h2
theorem lS {a:Bs}:¬ a < a:=List.lt_irrefl a
theorem qP {a b:Bs} (h:¬ a < b) (hne:a≠b):b < a:=by
 rcases List.le_total a b with h1 | h1
 ·exact (hne (List.le_antisymm h1 h)).elim
 ·by_cases h2:b < a
  ·exact h2
  ·exact (hne (List.le_antisymm h2 h)).elim
theorem GR {l:List Bs} (h:16384 < l.length):dR l=2:=by simp [dR,h]
theorem sC {l:List Bs} (h:l.length≤16384) (hs:cJ l):dR l=0:=by unfold dR; rw [if_neg om,if_pos hs]
theorem zN {l:List Bs} (h:l.length≤16384) (hs:¬ cJ l):dR l=1:=by unfold dR; rw [if_neg om,if_neg hs]
theorem GS {l:List Bs}:cJ (l.take 0):=by simp [cJ]
theorem zO {l:List Bs} (i:Nat) (h:cJ l):cJ (l.take i):=⟨fun x hx=>h.1 x (List.mem_of_mem_take hx),h.2.sublist (List.take_sublist _ _)⟩
theorem qQ {l:List Bs} {i:Nat} {x:Bs} (hx:l[i]?=some x):cJ (l.take (i+1))↔cJ (l.take i)∧x.length=32∧∀ j y,i=j+1→l[j]?=some y→y < x:=by
 obtain ⟨hlt,he⟩:=List.getElem?_eq_some_iff.1 hx
 rw [List.take_succ_eq_append_getElem hlt,he]
 unfold cJ
 rw [List.pairwise_append]
 constructor
 ·rintro ⟨h1,h2,_,h3⟩
  refine ⟨⟨fun y hy=>h1 y (List.mem_append_left _ hy),h2⟩,h1 x si,fun j y hj hy=>h3 y (List.mem_of_getElem? (i:=j) (by rw [List.getElem?_take_of_lt om]; exact hy)) x si⟩
 ·rintro ⟨⟨h1,h2⟩,h3,h4⟩
  refine ⟨fun y hy=>?_,h2,si,fun a ha b hb=>?_⟩
  ·rcases List.mem_append.1 hy with hy | hy
   ·exact h1 y hy
   ·rw [List.mem_singleton.1 hy]; exact h3
  ·rw [List.mem_singleton.1 hb]
   obtain ⟨k,hk⟩:=List.getElem?_of_mem ha
   have hki:k < i:=by
    have:=(List.getElem?_eq_some_iff.1 hk).1
    rw [List.length_take] at this
    omega
   obtain ⟨j,rfl⟩:∃ j,i=j+1:=⟨i - 1,om⟩
   have hj:j < l.length:=om
   have hlast:=h4 j l[j] rfl (List.getElem?_eq_getElem hj)
   by_cases hkj:k=j
   ·subst hkj
    rw [List.getElem?_take_of_lt om,List.getElem?_eq_getElem hj] at hk
    injection hk with hk
    rw [← hk]
    exact hlast
   ·refine oP ?_ hlast
    rw [List.pairwise_iff_getElem] at h2
    obtain ⟨hk1,hk2⟩:=List.getElem?_eq_some_iff.1 hk
    have h5:j < (l.take (j+1)).length:=by rw [List.length_take]; omega
    have:=h2 k j hk1 h5 om
    rw [hk2,List.getElem_take] at this
    exact this
def inR (lo hi x : Bs) : Bool := (decide (lo < x) || decide (lo = x)) && (decide (hi = []) || decide (x < hi))
def inL (l : List Bs) (lo hi : Bs) : List Bs := l.filter (inR lo hi)
theorem GU {α:Type} {p:α→Bool} {l:List α} {i:Nat} {x:α} (hx:l[i]?=some x) (h:p x=true):(l.take i).filter p++[x]=(l.take (i+1)).filter p:=by
 obtain ⟨hlt,he⟩:=List.getElem?_eq_some_iff.1 hx
 rw [List.take_succ_eq_append_getElem hlt,he,List.filter_append]
 simp [h]
theorem GV {α:Type} {p:α→Bool} {l:List α} {i:Nat} {x:α} (hx:l[i]?=some x) (h:p x=false):(l.take i).filter p=(l.take (i+1)).filter p:=by
 obtain ⟨hlt,he⟩:=List.getElem?_eq_some_iff.1 hx
 rw [List.take_succ_eq_append_getElem hlt,he,List.filter_append]
 simp [h]
theorem mY (l:List Bs) (lo hi:Bs):(inL l lo hi).length≤l.length:=List.length_filter_le _ _
def aK (l m : List Bs) : List Bs := l.filter fun x => !m.contains x
theorem zP {l m:List Bs} {i:Nat} {x:Bs} (hx:l[i]?=some x) (h:m.contains x=false):aK (l.take i) m++[x]=aK (l.take (i+1)) m:=GU hx (by simpa using h)
theorem zQ {l m:List Bs} {i:Nat} {x:Bs} (hx:l[i]?=some x) (h:m.contains x=true):aK (l.take i) m=aK (l.take (i+1)) m:=GV hx (by simpa using h)
theorem lU (l m:List Bs):(aK l m).length≤l.length:=List.length_filter_le _ _
theorem OJ {l m:List Bs} {i:Nat} {x y:Bs} (hx:l[i]?=some x) (hy:m[i]?=some y) (h:l.take i=m.take i) (he:x=y):l.take (i+1)=m.take (i+1):=by
 obtain ⟨h1,e1⟩:=List.getElem?_eq_some_iff.1 hx
 obtain ⟨h2,e2⟩:=List.getElem?_eq_some_iff.1 hy
 rw [List.take_succ_eq_append_getElem h1,List.take_succ_eq_append_getElem h2,h,e1,e2,he]
def wP (n : Nat) : Bool := decide (40 < n) && decide (n ≤ 16384)
def lV (lo hi : Bs) : Bool := decide (hi = []) || decide (lo < hi)
def iH (x : Bs) : Bool := decide (x = []) || decide (x.length = 32)
def eF (l : List Bs) (lo hi : Bs) : Bool := l.all (inR lo hi) && decide (l.Pairwise (· < ·))
theorem OK {l:List Bs} {i:Nat} {x:Bs} (hx:l[i]?=some x):(l.take (i+1)).Pairwise (· < ·)↔(l.take i).Pairwise (· < ·)∧∀ j y,i=j+1→l[j]?=some y→y < x:=by
 obtain ⟨hlt,he⟩:=List.getElem?_eq_some_iff.1 hx
 rw [List.take_succ_eq_append_getElem hlt,he,List.pairwise_append]
 constructor
 ·rintro ⟨h2,_,h3⟩
  refine ⟨h2,fun j y hj hy=>h3 y (List.mem_of_getElem? (i:=j) (by rw [List.getElem?_take_of_lt om]; exact hy)) x si⟩
 ·rintro ⟨h2,h4⟩
  refine ⟨h2,si,fun a ha b hb=>?_⟩
  rw [List.mem_singleton.1 hb]
  obtain ⟨k,hk⟩:=List.getElem?_of_mem ha
  have hki:k < i:=by
   have:=(List.getElem?_eq_some_iff.1 hk).1
   rw [List.length_take] at this
   omega
  obtain ⟨j,rfl⟩:∃ j,i=j+1:=⟨i - 1,om⟩
  have hj:j < l.length:=om
  have hlast:=h4 j l[j] rfl (List.getElem?_eq_getElem hj)
  by_cases hkj:k=j
  ·subst hkj
   rw [List.getElem?_take_of_lt om,List.getElem?_eq_getElem hj] at hk
   injection hk with hk
   rw [← hk]
   exact hlast
  ·refine oP ?_ hlast
   rw [List.pairwise_iff_getElem] at h2
   obtain ⟨hk1,hk2⟩:=List.getElem?_eq_some_iff.1 hk
   have h5:j < (l.take (j+1)).length:=by rw [List.length_take]; omega
   have:=h2 k j hk1 h5 om
   rw [hk2,List.getElem_take] at this
   exact this
theorem CA {l:List Bs} {i:Nat} {x lo hi:Bs} (hx:l[i]?=some x):eF (l.take (i+1)) lo hi=true↔eF (l.take i) lo hi=true∧inR lo hi x=true∧∀ j y,i=j+1→l[j]?=some y→y < x:=by
 unfold eF
 rw [Bool.and_eq_true,Bool.and_eq_true,decide_eq_true_eq,decide_eq_true_eq,OK hx]
 obtain ⟨hlt,he⟩:=List.getElem?_eq_some_iff.1 hx
 rw [List.take_succ_eq_append_getElem hlt,he,List.all_append]
 simp
 constructor
 ·rintro ⟨⟨h1,h2⟩,h3,h4⟩; exact ⟨⟨h1,h3⟩,h2,h4⟩
 ·rintro ⟨⟨h1,h3⟩,h2,h4⟩; exact ⟨⟨h1,h2⟩,h3,h4⟩
theorem GW {l:List Bs} {i:Nat} {x lo hi:Bs} (hx:l[i]?=some x) (h:¬ (inR lo hi x=true∧∀ j y,i=j+1→l[j]?=some y→y < x)):eF l lo hi=false:=by
 cases ho:eF l lo hi with
 | false=>rfl
 | true =>
   unfold eF at ho
   rw [Bool.and_eq_true,decide_eq_true_eq] at ho
   have:eF (l.take (i+1)) lo hi=true:=by
    unfold eF
    rw [Bool.and_eq_true,decide_eq_true_eq]
    refine ⟨?_,ho.2.sublist (List.take_sublist _ _)⟩
    rw [List.all_eq_true] at ho ⊢
    exact fun y hy=>ho.1 y (List.mem_of_mem_take hy)
   exact (h ((CA hx).1 this).2).elim
theorem wQ {l:List Bs} (h:dR l=0):l.length≤16384∧cJ l:=by
 unfold dR at h
 split at h
 ·cases h
 ·split at h
  ·exact ⟨om,ag⟩
  ·cases h
theorem OL {l:List Bs} (h:l.length≤16384∧cJ l):l.flatten.length≤l.length*32:=by
 have key:∀ l:List Bs,(∀ x∈l,x.length=32)→l.flatten.length=l.length*32:=by
  intro l
  induction l with
  | nil=>intro _; rfl
  | cons x l ih =>
    intro hx
    rw [List.flatten_cons,List.length_append,ih fun y hy=>hx y (by simp [hy]),hx x si,List.length_cons]
    omega
 exact Nat.le_of_eq (key l h.2.1)
def GX (y : UInt8) : Bs := List.replicate 32 y
theorem OM {l:List Bs} {i:Nat} {x:Bs} (hx:l[i]?=some x):(l.take i).flatten++x=(l.take (i+1)).flatten:=by
 obtain ⟨hlt,he⟩:=List.getElem?_eq_some_iff.1 hx
 rw [List.take_succ_eq_append_getElem hlt,he]
 simp
/-! ### A list with further items -/
def aY (l : List Bs) (x : Bs) : Nat := (l.takeWhile fun y => decide (y < x)).length
def oQ (l : List Bs) (x : Bs) : List Bs := if l.contains x then l else (l.take (aY l x) ++ [x]) ++ l.drop (aY l x)
def dK (l m : List Bs) : List Bs := m.foldl oQ l
theorem oR (l:List Bs) (x:Bs):aY l x≤l.length:=List.Sublist.length_le (List.takeWhile_sublist _)
theorem GY (l:List Bs) (s:Bs):l.take (aY l s)=l.takeWhile fun x=>decide (x < s):=by
 unfold aY
 conv=>lhs; arg 2; rw [← List.takeWhile_append_dropWhile (p:=fun x=>decide (x < s)) (l:=l)]
 exact List.take_left
theorem ON (l:List Bs) (s:Bs):l.drop (aY l s)=l.dropWhile fun x=>decide (x < s):=by
 unfold aY
 conv=>lhs; arg 2; rw [← List.takeWhile_append_dropWhile (p:=fun x=>decide (x < s)) (l:=l)]
 exact List.drop_left
theorem sD {l:List Bs} {s:Bs} {k:Nat} {x:Bs} (hk:k≤aY l s) (hx:l[k]?=some x):(x < s↔k < aY l s):=by
 constructor
 ·intro h
  rcases Nat.lt_or_ge k (aY l s) with h1 | h1
  ·exact h1
  ·exfalso
   have hke:k=aY l s:=om
   subst hke
   have h0:(l.drop (aY l s))[0]?=some x:=by rw [List.getElem?_drop]; simpa using hx
   rw [ON] at h0
   have hne:l.dropWhile (fun x=>decide (x < s))≠[]:=by intro e; rw [e] at h0; cases h0
   have:=List.head_dropWhile_not (fun x=>decide (x < s)) hne
   rw [List.head_eq_getElem] at this
   rw [List.getElem?_eq_getElem (List.length_pos_iff.2 hne)] at h0
   injection h0 with h0
   rw [h0] at this
   simp [h] at this
 ·intro h
  have h1:(l.take (aY l s))[k]?=some x:=by rw [List.getElem?_take_of_lt h]; exact hx
  rw [GY] at h1
  have h2:=List.all_takeWhile (p:=fun x=>decide (x < s)) (l:=l)
  rw [List.all_eq_true] at h2
  simpa using h2 x (List.mem_of_getElem? h1)
theorem OO (l:List Bs) (x:Bs):(oQ l x).length≤l.length+1:=by
 unfold oQ
 split
 ·omega
 ·simp only [List.length_append,List.length_take,List.length_drop,List.length_cons,List.length_nil]
  have:=oR l x
  omega
theorem zR (m:List Bs):∀ l:List Bs,(dK l m).length≤l.length+m.length:=by
 induction m with
 | nil=>intro l; exact Nat.le_refl _
 | cons x m ih =>
   intro l
   have h1:=ih (oQ l x)
   have h2:=OO l x
   show (dK (oQ l x) m).length≤_
   rw [List.length_cons]
   omega
/-! ### Search by halves -/
def kB (p : Nat → Bool) (i j : Nat) : Nat := if h : i < j then (if p ((i + j) / 2) then kB p i ((i + j) / 2) else kB p ((i + j) / 2 + 1) j) else i
termination_by j - i
decreasing_by all_goals omega
theorem wR {p:Nat→Bool} {i j:Nat} (h:i < j) (hp:p ((i+j) / 2)=true):kB p i j=kB p i ((i+j) / 2):=by rw [kB,dif_pos h,if_pos hp]
theorem wS {p:Nat→Bool} {i j:Nat} (h:i < j) (hp:p ((i+j) / 2)=false):kB p i j=kB p ((i+j) / 2+1) j:=by rw [kB,dif_pos h,if_neg (by rw [hp]; decide)]
theorem zS {p:Nat→Bool} {i j:Nat} (h:¬ i < j):kB p i j=i:=by rw [kB,dif_neg h]
theorem CB {p:Nat→Bool} {k n:Nat} (h0:∀ i,i < k→p i=false) (h1:∀ i,k≤i→i < n→p i=true):∀ (m i j:Nat),j - i≤m→i≤k→k≤j→j≤n→kB p i j=k
 | 0,i,j,hm,hi,hj,_=>by rw [zS om]; omega
 | m+1,i,j,hm,hi,hj,hn=>by
   by_cases h:i < j
   ·cases hp:p ((i+j) / 2) with
    | true =>
      rw [wR h hp]
      have:k≤(i+j) / 2:=by
       rcases Nat.lt_or_ge ((i+j) / 2) k with h2 | h2
       ·rw [h0 _ h2] at hp; cases hp
       ·exact h2
      exact CB h0 h1 m i _ om hi this om
    | false =>
      rw [wS h hp]
      have:(i+j) / 2 < k:=by
       rcases Nat.lt_or_ge ((i+j) / 2) k with h2 | h2
       ·exact h2
       ·rw [h1 _ h2 om] at hp; cases hp
      exact CB h0 h1 m _ j om om hj hn
   ·rw [zS h]; omega
def nJ (l : List Bs) (x : Bs) (i : Nat) : Bool := !decide (l.getD i [] < x)
theorem pU {l:List Bs} {i:Nat} {y x:Bs} (h:l[i]?=some y):nJ l x i = !decide (y < x):=by simp [nJ,List.getD_eq_getElem?_getD,h]
theorem zT {l:List Bs} (hs:l.Pairwise (· < ·)) (x:Bs):kB (nJ l x) 0 l.length=aY l x:=by
 refine CB (k:=aY l x) (n:=l.length) (fun i hi=>?_) (fun i hi hn=>?_) l.length 0 l.length om (Nat.zero_le _) (oR l x) (Nat.le_refl _)
 ·have hlt:i < l.length:=Nat.lt_of_lt_of_le hi (oR l x)
  rw [pU (List.getElem?_eq_getElem hlt)]
  simp [(sD (Nat.le_of_lt hi) (List.getElem?_eq_getElem hlt)).2 hi]
 ·rw [pU (List.getElem?_eq_getElem hn)]
  have hp:aY l x < l.length:=om
  have h1:¬ l[aY l x] < x:=fun h=>by
   have:=(sD (Nat.le_refl _) (List.getElem?_eq_getElem hp)).1 h
   omega
  have h2:¬ l[i] < x:=fun h=>by
   rcases Nat.lt_or_ge (aY l x) i with h3 | h3
   ·have:=(List.pairwise_iff_getElem.1 hs) (aY l x) i hp hn h3
    exact h1 (oP this h)
   ·have:i=aY l x:=om
    subst this
    exact h1 h
  simp [h2]
theorem wT {l:List Bs} {x y:Bs} (h:y∈l.take (aY l x)):y < x:=by
 rw [GY] at h
 have h2:=List.all_takeWhile (p:=fun z=>decide (z < x)) (l:=l)
 rw [List.all_eq_true] at h2
 simpa using h2 y h
theorem zU {l:List Bs} (hs:l.Pairwise (· < ·)) {x y:Bs} (h:y∈l.drop (aY l x)):¬ y < x:=by
 obtain ⟨j,hj⟩:=List.getElem?_of_mem h
 rw [List.getElem?_drop] at hj
 intro hlt
 have hjl:=(List.getElem?_eq_some_iff.1 hj).1
 have hp:aY l x < l.length:=om
 have h1:¬ l[aY l x] < x:=fun h=>by
  have:=(sD (Nat.le_refl _) (List.getElem?_eq_getElem hp)).1 h
  omega
 rcases Nat.eq_zero_or_pos j with h0 | h0
 ·subst h0
  rw [Nat.add_zero,List.getElem?_eq_getElem hp] at hj
  injection hj with hj
  exact h1 (hj▸hlt)
 ·have h3:=(List.pairwise_iff_getElem.1 hs) (aY l x) (aY l x+j) hp hjl om
  rw [(List.getElem?_eq_some_iff.1 hj).2] at h3
  exact h1 (oP h3 hlt)
theorem wU {l:List Bs} (hs:l.Pairwise (· < ·)) (lo hi:Bs):(l.take (max (aY l lo) (if hi=[] then l.length else aY l hi))).drop (aY l lo)=inL l lo hi:=by
 have hb:inR lo hi=fun x=>!decide (x < lo) && (decide (hi=[]) || decide (x < hi)):=by
  funext x
  unfold inR
  by_cases h1:lo < x
  ·have:¬ x < lo:=fun h=>lS (oP h1 h)
   simp [h1,this]
  ·by_cases h2:lo=x
   ·subst h2; simp [lS]
   ·have:x < lo:=qP h1 h2
    simp [h1,h2,this]
 have hsplit:l=l.take (aY l lo)++l.drop (aY l lo):=(List.take_append_drop _ _).symm
 have hD:∀ y,y∈l.drop (aY l lo)→¬ y < lo:=fun y h=>zU hs h
 have hsD:(l.drop (aY l lo)).Pairwise (· < ·):=hs.sublist (List.drop_sublist _ _)
 have e1:inL l lo hi=(l.drop (aY l lo)).filter fun x=>decide (hi=[]) || decide (x < hi):=by
  unfold inL
  rw [hb]
  conv=>lhs; rw [hsplit]
  rw [List.filter_append]
  have z1:(l.take (aY l lo)).filter (fun x=>!decide (x < lo) && (decide (hi=[]) || decide (x < hi)))=[]:=by
   rw [List.filter_eq_nil_iff]
   intro x hx
   simp [wT hx]
  rw [z1,List.nil_append]
  apply List.filter_congr
  intro x hx
  simp [hD x hx]
 rw [e1,List.drop_take]
 by_cases hh:hi=[]
 ·subst hh
  have hle:=oR l lo
  rw [if_pos rfl,Nat.max_eq_right hle]
  have:(l.drop (aY l lo)).filter (fun x=>decide (([]:Bs)=[]) || decide (x < []))=l.drop (aY l lo):=by simp
  rw [this,List.take_of_length_le (by rw [List.length_drop]; omega)]
 ·rw [if_neg hh]
  have e2:(l.drop (aY l lo)).filter (fun x=>decide (hi=[]) || decide (x < hi))=(l.drop (aY l lo)).filter fun x=>decide (x < hi):=by
   apply List.filter_congr
   intro x _
   simp [hh]
  rw [e2]
  rcases Nat.lt_or_ge (aY l lo) (aY l hi) with h1 | h1
  ·rw [Nat.max_eq_right (Nat.le_of_lt h1)]
   have hs2:l.drop (aY l lo)=(l.drop (aY l lo)).take (aY l hi - aY l lo)++l.drop (aY l hi):=by
    have:=(List.take_append_drop (aY l hi - aY l lo) (l.drop (aY l lo))).symm
    rwa [List.drop_drop,show aY l lo+(aY l hi - aY l lo)=aY l hi by omega] at this
   conv=>rhs; rw [hs2]
   rw [List.filter_append]
   have z1:((l.drop (aY l lo)).take (aY l hi - aY l lo)).filter (fun x=>decide (x < hi))=(l.drop (aY l lo)).take (aY l hi - aY l lo):=by
    rw [List.filter_eq_self]
    intro x hx
    have:x∈l.take (aY l hi):=by
     rw [← List.drop_take] at hx
     exact List.mem_of_mem_drop hx
    simpa using wT this
   have z2:(l.drop (aY l hi)).filter (fun x=>decide (x < hi))=[]:=by
    rw [List.filter_eq_nil_iff]
    intro x hx
    simpa using zU hs hx
   rw [z1,z2,List.append_nil]
  ·rw [Nat.max_eq_left h1,Nat.sub_self,List.take_zero]
   symm
   rw [List.filter_eq_nil_iff]
   intro x hx
   have:x∈l.drop (aY l hi):=by
    have e:l.drop (aY l lo)=(l.drop (aY l hi)).drop (aY l lo - aY l hi):=by rw [List.drop_drop]; congr 1; omega
    rw [e] at hx
    exact List.mem_of_mem_drop hx
   simpa using zU hs this
theorem wV {l:List Bs} (hs:l.Pairwise (· < ·)) (x:Bs):l.contains x=decide (l[aY l x]?=some x):=by
 rw [Bool.eq_iff_iff,decide_eq_true_eq,List.contains_iff_mem]
 constructor
 ·intro h
  have hm:x∈l.take (aY l x)++l.drop (aY l x):=by rw [List.take_append_drop]; exact h
  rcases List.mem_append.1 hm with h1 | h1
  ·exact (lS (wT h1)).elim
  ·obtain ⟨j,hj⟩:=List.getElem?_of_mem h1
   rw [List.getElem?_drop] at hj
   have hjl:=(List.getElem?_eq_some_iff.1 hj).1
   rcases Nat.eq_zero_or_pos j with h0 | h0
   ·subst h0; exact hj
   ·have hp:aY l x < l.length:=om
    have h3:=(List.pairwise_iff_getElem.1 hs) (aY l x) (aY l x+j) hp hjl om
    rw [(List.getElem?_eq_some_iff.1 hj).2] at h3
    have:=(sD (Nat.le_refl _) (List.getElem?_eq_getElem hp)).1 h3
    omega
 ·intro h
  exact List.mem_of_getElem? h
theorem OP {l:List Bs} (h:cJ l) (p:Bs→Bool):cJ (l.filter p):=⟨fun x hx=>h.1 x (List.mem_filter.1 hx).1,h.2.sublist List.filter_sublist⟩
theorem zV:∀ l:List Bs,(∀ x∈l,x.length=32)→l.flatten.length=l.length*32
 | [],_=>rfl
 | x::l,hx=>by
   rw [List.flatten_cons,List.length_append,zV l fun y hy=>hx y (by simp [hy]),hx x si,List.length_cons]
   omega
theorem OQ {l:List Bs} (h:cJ l) (lo hi:Bs):(inL l lo hi).flatten.length≤l.length*32:=by
 have e:(inL l lo hi).flatten.length=(inL l lo hi).length*32:=zV _ (OP h (inR lo hi)).1
 rw [e]
 exact Nat.mul_le_mul_right _ (mY l lo hi)
def dJ (l m : List Bs) : List Bs := l.filter fun x => m.contains x
theorem GZ {l m:List Bs} {i:Nat} {x:Bs} (hx:l[i]?=some x) (h:m.contains x=true):dJ (l.take i) m++[x]=dJ (l.take (i+1)) m:=GU hx h
theorem Ha {l m:List Bs} {i:Nat} {x:Bs} (hx:l[i]?=some x) (h:m.contains x=false):dJ (l.take i) m=dJ (l.take (i+1)) m:=GV hx h
theorem Hb (l m:List Bs):(dJ l m).length≤l.length:=List.length_filter_le _ _
def eV (l : List Bs) : Bs := dO l.flatten
/-! ### Plain -/
inductive AC where
 | sum (n : Nat) (f : Bs) | list (xs : List Bs) | ans (xs ms : List Bs)
 deriving DecidableEq
structure AP where
 (lo hi : Bs) (c : AC)
 deriving DecidableEq
def dS (its : List Bs) (lo hi : Bs) : AP := ⟨lo, hi, .sum (inL its lo hi).length (eV (inL its lo hi))⟩
def jQ (its own : List Bs) (fan : Nat) (lo : Bs) : Nat → Bs × List AP
 | 0 => (lo, [])
 | k + 1 => if own.getD ((k + 1) * own.length / fan) [] = (jQ its own fan lo k).1 then jQ its own fan lo k else (own.getD ((k + 1) * own.length / fan) [], (jQ its own fan lo k).2 ++ [dS its (jQ its own fan lo k).1 (own.getD ((k + 1) * own.length / fan) [])])
def oS (its : List Bs) (fan leaf : Nat) (lo hi : Bs) (n : Nat) (f : Bs) : List AP :=
 if (inL its lo hi).length = n ∧ eV (inL its lo hi) = f then []
 else if (inL its lo hi).length ≤ leaf then [⟨lo, hi, .list (inL its lo hi)⟩]
 else (jQ its (inL its lo hi) fan lo (fan - 1)).2 ++ [dS its (jQ its (inL its lo hi) fan lo (fan - 1)).1 hi]
def pV (its : List Bs) (lo hi : Bs) (xs : List Bs) : List AP :=
 if 0 < (aK (inL its lo hi) xs).length + (aK xs its).length then [⟨lo, hi, .ans (aK (inL its lo hi) xs) (aK xs its)⟩] else []
theorem uK {α:Type} {l:List α} {i:Nat} {x:α} (hx:l[i]?=some x):l.take i++[x]=l.take (i+1):=by rw [List.take_add_one,hx]; rfl
/-! ### Encoding -/
abbrev eW : Bs := []
def AC.enc : AC → Bs
 | .sum n f => (aE 1 ++ aE n) ++ f
 | .list xs => aE 2 ++ (aE xs.length ++ xs.flatten)
 | .ans xs ms => (aE 3 ++ (aE xs.length ++ xs.flatten)) ++ (aE ms.length ++ ms.flatten)
def AP.enc (p : AP) : Bs := ((aE p.lo.length ++ p.lo) ++ (aE p.hi.length ++ p.hi)) ++ p.c.enc
def bX (ps : List AP) : Bs := if ps.length = 0 then [] else aE ps.length ++ ps.flatMap AP.enc
def AC.fit : AC → Prop
 | .sum n f => n ≤ 16384 ∧ f.length = 32
 | .list xs => xs.length ≤ 16384 ∧ ∀ x ∈ xs, x.length = 32
 | .ans xs ms => (xs.length ≤ 16384 ∧ ∀ x ∈ xs, x.length = 32) ∧ ms.length ≤ 16384 ∧ ∀ x ∈ ms, x.length = 32
def AP.fit (p : AP) : Prop := p.lo.length ≤ 32 ∧ p.hi.length ≤ 32 ∧ p.c.fit
theorem Hc {ps:List AP} {i:Nat} {p:AP} (h:ps[i]?=some p):(ps.take i).flatMap AP.enc++p.enc=(ps.take (i+1)).flatMap AP.enc:=by
 rw [← uK h,List.flatMap_append]
 simp
theorem OR {ps:List AP} {i:Nat} {p:AP} (h:ps[i]?=some p):((ps.take i).flatMap AP.enc).length+p.enc.length≤(ps.flatMap AP.enc).length:=by
 have e:=Hc h
 have e2:ps.flatMap AP.enc=(ps.take (i+1)).flatMap AP.enc++(ps.drop (i+1)).flatMap AP.enc:=by rw [← List.flatMap_append,List.take_append_drop]
 rw [e2,← e]
 simp only [List.length_append]
 omega
theorem wW (n:Nat):0 < (aE n).length:=by
 unfold aE
 split <;> simp
theorem CC:∀ ps:List AP,ps.length≤(ps.flatMap AP.enc).length
 | []=>Nat.zero_le _
 | p::ps=>by
   have h:=CC ps
   have h2:=wW p.lo.length
   simp only [List.flatMap_cons,List.length_append,List.length_cons,AP.enc]
   omega
theorem OS (fan leaf:Int) (w:World) :
  Calls Tryz.prog 91 #[(.agg #[(vi fan),(vi leaf)])] w fun e w'=>e = .returned (.bool (pR fan leaf))∧aJ [] w [] w':=by
 refine dI Tryz.func91 21 (Mm.start w []) rfl<|Nc<|Nx<|pB [(vi fan),(vi leaf)] fun b1=>lx rfl<|Nb<|lk (vP b1 0)<|lL 0 rfl<|lk (.bool (decide ((fan:Int)≥2)))<|lm ?_
 refine St.dec 6 rfl (fun hc6=>?_) (fun hc6=>?_)
 ·have hd6:=of_decide_eq_true hc6
  refine lg (vP b1 0)<|lu (vi fan) (cW 0 rfl rfl kr rfl rfl)<|lg (.bool (decide ((fan:Int)≤16)))<|lk (.bool (decide ((fan:Int)≤16)))<|lm ?_
  refine St.dec 11 rfl (fun hc11=>?_) (fun hc11=>?_)
  ·have hd11:=of_decide_eq_true hc11
   refine lg (vP b1 1)<|lu (vi leaf) (cW 0 rfl rfl kr rfl rfl)<|lg (.bool (decide ((leaf:Int)≥1)))<|lk (.bool (decide ((leaf:Int)≥1)))<|lm ?_
   refine St.dec 16 rfl (fun hc16=>?_) (fun hc16=>?_)
   ·have hd16:=of_decide_eq_true hc16
    exact lg (vP b1 1)<|lu (vi leaf) (cW 0 rfl rfl kr rfl rfl)<|lg (.bool (decide ((leaf:Int)≤64)))<|lk (.bool (decide ((leaf:Int)≤64)))<|lx rfl<|Nd<|sN [(.bool (decide ((leaf:Int)≤64)))] fun w hM=>⟨fF (by unfold pR; simp; omega),(hM.pick [] rfl rfl)⟩
   ·have hd16:=of_decide_eq_false hc16
    exact lx rfl<|lF<|lx rfl<|Nd<|sN [bF] fun w hM=>⟨fF (by unfold pR; simp; omega),(hM.pick [] rfl rfl)⟩
  ·have hd11:=of_decide_eq_false hc11
   exact lx rfl<|lF<|lx rfl<|lF<|lx rfl<|Nd<|sN [bF] fun w hM=>⟨fF (by unfold pR; simp; omega),(hM.pick [] rfl rfl)⟩
 ·have hd6:=of_decide_eq_false hc6
  exact lx rfl<|lF<|lx rfl<|lF<|lx rfl<|lF<|lx rfl<|Nd<|sN [bF] fun w hM=>⟨fF (by unfold pR; simp; omega),(hM.pick [] rfl rfl)⟩
theorem OT (A:Option Addr) (c:Nat) (l:List (List UInt8)) (w:World) (r0:Rf [] w (fun w=>aH w A (SS l))) (hl:l.length≤9223372036854775807) :
  Calls Tryz.prog 11 #[(vL A l c)] w fun e w'=>e = .returned (vi (dR l))∧aJ [] w [] w':=by
 have hl':=hl
 refine dI Tryz.func11 32 (Mm.start w []) rfl<|Nc<|lx rfl<|Ne<|lx rfl<|lk (vI l.length)<|lk (.bool (decide (((l.length:Nat):Int) > 16384))) ?_
 refine aO (aI (bD rfl (fun hc7=>?_) (fun hc7=>?_)))
 ·have hd7:=of_decide_eq_true hc7
  exact Nc<|lx rfl<|Nh<|sN [(vi 2)] fun w hM=>⟨gG (GR om).symm,hM⟩
 ·have hd7:=of_decide_eq_false hc7
  refine Nl<|Nc<|lx rfl<|lk (vI l.length)<|lx rfl<|Ng<|sL (fun i=>i≤l.length∧cJ (l.take i)) (fun i=>l.length - i) (fun i=>[(0,(vL A l c)),(2,(vi 0)),(8,(vL A l c)),(9,(vI l.length)),(10,(vI i))]) (fun i=>[]) 0 ⟨Nat.zero_le _,GS⟩ (fun _ h=>h) ?_
  intro i hok
  show St _ _ _ [(0,(vL A l c)),(2,(vi 0)),(8,(vL A l c)),(9,(vI l.length)),(10,(vI i))] [] _
  refine Nc<|lk (.bool (decide (((i:Nat):Int) < ((l.length:Nat):Int)))) ?_
  refine aO (aI (aS (bD rfl (fun hc11=>?_) (fun hc11=>?_))))
  ·have hd11:=of_decide_eq_true hc11
   refine Nm<|aF<|lx rfl ?_
   obtain ⟨x0,hx0⟩:∃ ξ,(l)[i]?=some ξ:=⟨_,List.getElem?_eq_getElem om⟩
   refine St.eY (fun w hM=>r0.now hM) (fR hx0) (fun p13 q13 hA13 hc13=>lw (vP p13 (q13+i)) (rR 9 hA13)<|lW (rW hc13)<|lx rfl<|Nb<|lx rfl<|lw (vI ((x0).length)) (vW rfl rfl kr)<|lk (.bool (((((x0).length:Nat):Int):Int) != 32))<|lm ?_)
   refine St.dec 18 rfl (fun hc18=>?_) (fun hc18=>?_)
   ·refine lx rfl<|mU ?_
    iterate 6 refine mU ?_
    exact lx rfl<|lT<|No<|lx rfl<|Nd<|fY<|dC<|dC<|fY<|dC<|sN [(vi 1)] fun w hM=>⟨gG (zN om (fun h=>by have h2:=zO (i+1) h; have h3:=((qQ hx0).1 h2).2; simp [h3.1] at hc18)).symm,hM⟩
   ·refine lx rfl<|lg (.bool (decide (((i:Nat):Int) > 0)))<|vX ?_
    refine St.dec 21 rfl (fun hc21=>?_) (fun hc21=>?_)
    ·have hd21:=of_decide_eq_true hc21
     refine lx rfl<|lu (vI (i - 1)) (kX _ rfl rfl rfl om om om) ?_
     obtain ⟨x1,hx1⟩:∃ ξ,(l)[i - 1]?=some ξ:=⟨_,List.getElem?_eq_getElem om⟩
     refine St.eY (fun w hM=>r0.now hM) (fR hx1) (fun p25 q25 hA25 hc25=>lu (vP p25 (q25+(i - 1))) (rQ (e:=9) rfl kr kr rfl rfl hA25 om)<|lu (vS x1) (gH rfl rfl kr hc25)<|lx rfl<|lu (.bool (!decide (x1 < x0))) (tR rfl rfl rfl)<|lg (.bool (!decide (x1 < x0)))<|lk (.bool (!decide (x1 < x0))) ?_)
     refine aO (aI (bD rfl (fun hc30=>?_) (fun hc30=>?_)))
     ·exact Nc<|lx rfl<|Nd<|fY<|dC<|dC<|fY<|dC<|sN [(vi 1)] fun w hM=>⟨gG (zN om (fun h=>by have h2:=zO (i+1) h; have h3:=((qQ hx0).1 h2).2; have h4:=h3.2 (i - 1) x1 om hx1; simp [h4] at hc30)).symm,hM⟩
     ·have hlast:∀ j x,i=j+1→l[j]?=some x→x < x0:=fun j x hj hx=>by obtain rfl:i - 1=j:=om; rw [hx1] at hx; cases hx; simpa using hc30
      exact Nw<|aF<|lw (vI (i+1)) bO<|lx rfl<|aO (aI (sA (i+1) (⟨om,(qQ hx0).2 ⟨hok.2,by simp at hc18; omega,hlast⟩⟩) (by show l.length - (i+1) < l.length - i; omega) (fun w hM=>hM)))
    ·have hd21:=of_decide_eq_false hc21
     have hlast:∀ j x,i=j+1→l[j]?=some x→x < x0:=fun j x hj _=>by omega
     exact lx rfl<|lg bF<|lF<|Nu<|Nw<|aF<|lw (vI (i+1)) bO<|lx rfl<|aO (aI (sA (i+1) (⟨om,(qQ hx0).2 ⟨hok.2,by simp at hc18; omega,hlast⟩⟩) (by show l.length - (i+1) < l.length - i; omega) (fun w hM=>hM)))
  ·have hd11:=of_decide_eq_false hc11
   exact Nj<|aF<|lx rfl<|Nd<|sN [(vi 0)] fun w hM=>⟨gG (sC om (by have h:=hok.2; rwa [List.take_of_length_le om] at h)).symm,hM⟩
theorem CD (A:Option Addr) (c:Nat) (l:List (List UInt8)) (w:World) (r0:Rf [] w (fun w=>aH w A (SS l))) (hl:l.length≤9223372036854775807) :
  Calls Tryz.prog 63 #[(vL A l c)] w fun e w'=>e = .returned (vi (dR l))∧aJ [] w [] w':=by
 have hl':=hl
 refine dI Tryz.func63 32 (Mm.start w []) rfl<|Nc<|lx rfl<|Ne<|lx rfl<|lk (vI l.length)<|lk (.bool (decide (((l.length:Nat):Int) > 16384))) ?_
 refine aO (aI (bD rfl (fun hc7=>?_) (fun hc7=>?_)))
 ·have hd7:=of_decide_eq_true hc7
  exact Nc<|lx rfl<|Nh<|sN [(vi 2)] fun w hM=>⟨gG (GR om).symm,hM⟩
 ·have hd7:=of_decide_eq_false hc7
  refine Nl<|Nc<|lx rfl<|lk (vI l.length)<|lx rfl<|Ng<|sL (fun i=>i≤l.length∧cJ (l.take i)) (fun i=>l.length - i) (fun i=>[(0,(vL A l c)),(2,(vi 0)),(8,(vL A l c)),(9,(vI l.length)),(10,(vI i))]) (fun i=>[]) 0 ⟨Nat.zero_le _,GS⟩ (fun _ h=>h) ?_
  intro i hok
  show St _ _ _ [(0,(vL A l c)),(2,(vi 0)),(8,(vL A l c)),(9,(vI l.length)),(10,(vI i))] [] _
  refine Nc<|lk (.bool (decide (((i:Nat):Int) < ((l.length:Nat):Int)))) ?_
  refine aO (aI (aS (bD rfl (fun hc11=>?_) (fun hc11=>?_))))
  ·have hd11:=of_decide_eq_true hc11
   refine Nm<|aF<|lx rfl ?_
   obtain ⟨x0,hx0⟩:∃ ξ,(l)[i]?=some ξ:=⟨_,List.getElem?_eq_getElem om⟩
   refine St.eY (fun w hM=>r0.now hM) (fR hx0) (fun p13 q13 hA13 hc13=>lw (vP p13 (q13+i)) (rR 9 hA13)<|lW (rW hc13)<|lx rfl<|Nb<|lx rfl<|lw (vI ((x0).length)) (vW rfl rfl kr)<|lk (.bool (((((x0).length:Nat):Int):Int) != 32))<|lm ?_)
   refine St.dec 18 rfl (fun hc18=>?_) (fun hc18=>?_)
   ·refine lx rfl<|mU ?_
    iterate 6 refine mU ?_
    exact lx rfl<|lT<|No<|lx rfl<|Nd<|fY<|dC<|dC<|fY<|dC<|sN [(vi 1)] fun w hM=>⟨gG (zN om (fun h=>by have h2:=zO (i+1) h; have h3:=((qQ hx0).1 h2).2; simp [h3.1] at hc18)).symm,hM⟩
   ·refine lx rfl<|lg (.bool (decide (((i:Nat):Int) > 0)))<|vX ?_
    refine St.dec 21 rfl (fun hc21=>?_) (fun hc21=>?_)
    ·have hd21:=of_decide_eq_true hc21
     refine lx rfl<|lu (vI (i - 1)) (kX _ rfl rfl rfl om om om) ?_
     obtain ⟨x1,hx1⟩:∃ ξ,(l)[i - 1]?=some ξ:=⟨_,List.getElem?_eq_getElem om⟩
     refine St.eY (fun w hM=>r0.now hM) (fR hx1) (fun p25 q25 hA25 hc25=>lu (vP p25 (q25+(i - 1))) (rQ (e:=9) rfl kr kr rfl rfl hA25 om)<|lu (vS x1) (gH rfl rfl kr hc25)<|lx rfl<|lu (.bool (!decide (x1 < x0))) (tR rfl rfl rfl)<|lg (.bool (!decide (x1 < x0)))<|lk (.bool (!decide (x1 < x0))) ?_)
     refine aO (aI (bD rfl (fun hc30=>?_) (fun hc30=>?_)))
     ·exact Nc<|lx rfl<|Nd<|fY<|dC<|dC<|fY<|dC<|sN [(vi 1)] fun w hM=>⟨gG (zN om (fun h=>by have h2:=zO (i+1) h; have h3:=((qQ hx0).1 h2).2; have h4:=h3.2 (i - 1) x1 om hx1; simp [h4] at hc30)).symm,hM⟩
     ·have hlast:∀ j x,i=j+1→l[j]?=some x→x < x0:=fun j x hj hx=>by obtain rfl:i - 1=j:=om; rw [hx1] at hx; cases hx; simpa using hc30
      exact Nw<|aF<|lw (vI (i+1)) bO<|lx rfl<|aO (aI (sA (i+1) (⟨om,(qQ hx0).2 ⟨hok.2,by simp at hc18; omega,hlast⟩⟩) (by show l.length - (i+1) < l.length - i; omega) (fun w hM=>hM)))
    ·have hd21:=of_decide_eq_false hc21
     have hlast:∀ j x,i=j+1→l[j]?=some x→x < x0:=fun j x hj _=>by omega
     exact lx rfl<|lg bF<|lF<|Nu<|Nw<|aF<|lw (vI (i+1)) bO<|lx rfl<|aO (aI (sA (i+1) (⟨om,(qQ hx0).2 ⟨hok.2,by simp at hc18; omega,hlast⟩⟩) (by show l.length - (i+1) < l.length - i; omega) (fun w hM=>hM)))
  ·have hd11:=of_decide_eq_false hc11
   exact Nj<|aF<|lx rfl<|Nd<|sN [(vi 0)] fun w hM=>⟨gG (sC om (by have h:=hok.2; rwa [List.take_of_length_le om] at h)).symm,hM⟩
theorem OU (A:Option Addr) (c:Nat) (l:List (List UInt8)) (A2:Option Addr) (c2:Nat) (m:List (List UInt8)) (w:World) (r0:Rf [] w (fun w=>aH w A (SS l))) (r1:Rf [] w (fun w=>aH w A2 (SS m))) (hl:l.length≤68719476736) (hl2:m.length≤68719476736) :
  Calls Tryz.prog 59 #[(vL A l c),(vL A2 m c2)] w fun e w'=>e = .returned (.bool (decide (l=m)))∧aJ [] w [] w':=by
 refine bK Tryz.func59 26 (Mm.start w []) rfl<|Nc<|lx rfl<|Ne<|lx rfl<|lk (vI l.length)<|lx rfl<|lk (vI m.length)<|lk (.bool ((((l.length:Nat):Int):Int) != ((m.length:Nat):Int))) ?_
 refine aO (aI (bD rfl (fun hc10=>?_) (fun hc10=>?_)))
 ·exact Nc<|lx rfl<|Nh<|sN [bF] fun w hM=>⟨fF (by have hne:l≠m:=(fun h=>by subst h; simp at hc10); exact (decide_eq_false hne).symm),hM⟩
 ·have hlen:l.length=m.length:=by simp at hc10; omega
  refine Nl<|Nc<|lx rfl<|lk (vI l.length)<|lx rfl<|Ng<|sL (fun i=>i≤l.length∧l.take i=m.take i) (fun i=>l.length - i) (fun i=>[(0,(vL A l c)),(1,(vL A2 m c2)),(4,bF),(12,(vI l.length)),(13,(vI i))]) (fun i=>[]) 0 ⟨Nat.zero_le _,rfl⟩ (fun _ h=>h) ?_
  intro i hok
  show St _ _ _ [(0,(vL A l c)),(1,(vL A2 m c2)),(4,bF),(12,(vI l.length)),(13,(vI i))] [] _
  refine Nc<|lk (.bool (decide (((i:Nat):Int) < ((l.length:Nat):Int)))) ?_
  refine aO (aI (aS (bD rfl (fun hc14=>?_) (fun hc14=>?_))))
  ·have hd14:=of_decide_eq_true hc14
   refine Nm<|aF<|lx rfl<|Nf<|cQ [] 9 kr (fun _ h=>h)<|am 0 ?_
   refine am 1 ?_
   obtain ⟨x0,hx0⟩:∃ ξ,(l)[i]?=some ξ:=⟨_,List.getElem?_eq_getElem om⟩
   refine Any.eY (fun w hM=>r0.now hM) (fR hx0) (fun p18 q18 hA18 hc18=>aV 2 (vP p18 (q18+i)) rfl (rR 9 hA18)<|aV 3 _ rfl (rW hc18)<|am 4 ?_)
   refine am 5 ?_
   obtain ⟨x1,hx1⟩:∃ ξ,(m)[i]?=some ξ:=⟨_,List.getElem?_eq_getElem om⟩
   refine Any.eY (fun w hM=>r1.now hM) (fR hx1) (fun p22 q22 hA22 hc22=>aV 6 (vP p22 (q22+i)) rfl (rR 9 hA22)<|aV 7 _ rfl (rW hc22)<|aV 8 (.bool (!decide (x0=x1))) rfl (rP rfl rfl rfl)<|cF kr ?_)
   refine aI (bD rfl (fun hc24=>?_) (fun hc24=>?_))
   ·exact Nc<|lx rfl<|Nd<|fY<|dC<|dC<|fY<|dC<|sN [bF] fun w hM=>⟨fF (by have hne:l≠m:=(fun h=>by subst h; rw [hx0] at hx1; cases hx1; simp at hc24); exact (decide_eq_false hne).symm),hM⟩
   ·exact Nw<|aF<|lw (vI (i+1)) bO<|lx rfl<|aO (aI (sA (i+1) (⟨om,OJ hx0 hx1 hok.2 (by simpa using hc24)⟩) (by show l.length - (i+1) < l.length - i; omega) (fun w hM=>hM)))
  ·have hd14:=of_decide_eq_false hc14
   exact Nj<|aF<|lx rfl<|Nd<|sN [bT] fun w hM=>⟨fF (by have h:=hok.2; rw [List.take_of_length_le om,List.take_of_length_le om] at h; exact (decide_eq_true h).symm),hM⟩
theorem OV (lo hi:List UInt8) (w:World) :
  Calls Tryz.prog 215 #[(.agg #[(vS lo),(vS hi)])] w fun e w'=>e = .returned (.bool (lV lo hi))∧aJ [] w [] w':=by
 refine dI Tryz.func215 13 (Mm.start w []) rfl<|Nc<|Nx<|pB [(vS lo),(vS hi)] fun b1=>lx rfl<|Nb<|lk (vP b1 1)<|lL 0 rfl<|lw (.bool (decide (hi=[]))) (nE rfl rfl rfl)<|lm ?_
 refine St.dec 6 rfl (fun hc6=>?_) (fun hc6=>?_)
 ·have hd6:=of_decide_eq_true hc6
  exact lx rfl<|lT<|lx rfl<|Nd<|sN [bT] fun w hM=>⟨fF (by unfold lV; simp_all),(hM.pick [] rfl rfl)⟩
 ·have hd6:=of_decide_eq_false hc6
  exact lg (vP b1 0)<|lu (vS lo) (cW 0 rfl rfl kr rfl rfl)<|lg (vP b1 1)<|lu (vS hi) (cW 0 rfl rfl kr rfl rfl)<|lu (.bool (decide (lo < hi))) (vT rfl rfl rfl)<|lk (.bool (decide (lo < hi)))<|lx rfl<|Nd<|sN [(.bool (decide (lo < hi)))] fun w hM=>⟨fF (by unfold lV; simp_all),(hM.pick [] rfl rfl)⟩
theorem OW (lo hi x:List UInt8) (w:World) :
  Calls Tryz.prog 248 #[(.agg #[(vS lo),(vS hi)]),(vS x)] w fun e w'=>e = .returned (.bool (inR lo hi x))∧aJ [] w [] w':=by
 refine bK Tryz.func248 20 (Mm.start w []) rfl<|Nc<|Nx<|pB [(vS lo),(vS hi)] fun b2=>lx rfl<|Nb<|lk (vP b2 0)<|lL 0 rfl<|lx rfl<|lw (.bool (decide (lo < x) || decide (lo=x))) (Lx rfl rfl rfl)<|lm ?_
 refine St.dec 9 rfl (fun hc9=>?_) (fun hc9=>?_)
 ·refine lg (vP b2 1)<|lu (vS hi) (cW 0 rfl rfl kr rfl rfl)<|lu (.bool (decide (hi=[]))) (nE rfl rfl rfl)<|vX ?_
  refine St.dec 13 rfl (fun hc13=>?_) (fun hc13=>?_)
  ·have hd13:=of_decide_eq_true hc13
   exact lx rfl<|lg bT<|lT<|lx rfl<|Nd<|sN [bT] fun w hM=>⟨fF (by unfold inR; first | (rw [hc9,hc13]; rfl) | (rw [hc9]; rfl)),(hM.pick [] rfl rfl)⟩
  ·have hd13:=of_decide_eq_false hc13
   exact lx rfl<|lg (vP b2 1)<|lu (vS hi) (cW 0 rfl rfl kr rfl rfl)<|lu (.bool (decide (x < hi))) (vT rfl rfl rfl)<|lg (.bool (decide (x < hi)))<|lk (.bool (decide (x < hi)))<|lx rfl<|Nd<|sN [(.bool (decide (x < hi)))] fun w hM=>⟨fF (by unfold inR; first | (rw [hc9,hc13]; rfl) | (rw [hc9]; rfl)),(hM.pick [] rfl rfl)⟩
 ·refine lx rfl<|mU ?_
  iterate 3 refine mU ?_
  exact lx rfl<|lF<|lx rfl<|Nd<|sN [bF] fun w hM=>⟨fF (by unfold inR; first | (rw [hc9,hc13]; rfl) | (rw [hc9]; rfl)),(hM.pick [] rfl rfl)⟩
theorem Hd (x:List UInt8) (w:World) :
  Calls Tryz.prog 214 #[(vS x)] w fun e w'=>e = .returned (.bool (iH x))∧aJ [] w [] w':=by
 refine dI Tryz.func214 10 (Mm.start w []) rfl<|Nc<|lx rfl<|Nb<|lx rfl<|lw (.bool (decide (x=[]))) (nE rfl rfl rfl)<|lm ?_
 refine St.dec 5 rfl (fun hc5=>?_) (fun hc5=>?_)
 ·have hd5:=of_decide_eq_true hc5
  exact lx rfl<|lT<|lx rfl<|Nd<|sN [bT] fun w hM=>⟨fF (by unfold iH; first | (rw [hc5]; rfl) | (rw [hc5,Bool.false_or,Bool.eq_iff_iff]; simp; omega)),hM⟩
 ·have hd5:=of_decide_eq_false hc5
  exact lx rfl<|lu (vI ((x).length)) (vW rfl rfl kr)<|lg (.bool (((((x).length:Nat):Int):Int) == 32))<|lk (.bool (((((x).length:Nat):Int):Int) == 32))<|lx rfl<|Nd<|sN [(.bool (((((x).length:Nat):Int):Int) == 32))] fun w hM=>⟨fF (by unfold iH; first | (rw [hc5]; rfl) | (rw [hc5,Bool.false_or,Bool.eq_iff_iff]; simp; omega)),hM⟩
theorem CE (A:Option Addr) (c:Nat) (l:List (List UInt8)) (lo hi:List UInt8) (w:World) (r0:Rf [] w (fun w=>aH w A (SS l))) (hl:l.length≤68719476736) :
  Calls Tryz.prog 246 #[(vL A l c),(.agg #[(vS lo),(vS hi)])] w fun e w'=>e = .returned (.bool (eF l lo hi))∧aJ [] w [] w':=by
 refine bK Tryz.func246 32 (Mm.start w []) rfl<|Nc<|Nx<|pB [(vS lo),(vS hi)] fun b3=>lx rfl<|Ne<|lx rfl<|lk (vI l.length)<|lx rfl<|Ng<|sL (fun i=>i≤l.length∧eF (l.take i) lo hi=true) (fun i=>l.length - i) (fun i=>[(0,(vL A l c)),(3,(vP b3 0)),(4,bF),(7,(vL A l c)),(8,(vI l.length)),(9,(vI i))]) (fun i=>[aD b3 242 [(vS lo),(vS hi)]]) 0 ⟨Nat.zero_le _,rfl⟩ (fun _ h=>h) ?_
 intro i hok
 show St _ _ _ [(0,(vL A l c)),(3,(vP b3 0)),(4,bF),(7,(vL A l c)),(8,(vI l.length)),(9,(vI i))] [aD b3 242 [(vS lo),(vS hi)]] _
 refine Nc<|lk (.bool (decide (((i:Nat):Int) < ((l.length:Nat):Int)))) ?_
 refine aO (aI (aS (bD rfl (fun hc10=>?_) (fun hc10=>?_))))
 ·have hd10:=of_decide_eq_true hc10
  refine Nm<|aF<|lx rfl ?_
  obtain ⟨x0,hx0⟩:∃ ξ,(l)[i]?=some ξ:=⟨_,List.getElem?_eq_getElem om⟩
  refine St.eY (fun w hM=>r0.now hM) (fR hx0) (fun p12 q12 hA12 hc12=>lw (vP p12 (q12+i)) (rR 9 hA12)<|lW (rW hc12)<|lx rfl<|Nb<|lW (rA 0 [(vS lo),(vS hi)])<|lx rfl<|Nx<|bP (fun w hM=>OW lo hi x0 w )<|lk (.bool (!(inR lo hi x0)))<|lm ?_)
  refine St.dec 18 rfl (fun hc18=>?_) (fun hc18=>?_)
  ·refine lx rfl<|mU ?_
   iterate 6 refine mU ?_
   exact lx rfl<|lT<|No<|lx rfl<|Nd<|fY<|dC<|dC<|fY<|dC<|sN [bF] fun w hM=>⟨fF (by have hn:eF l lo hi=false:=GW hx0 (fun h=>by simp [h.1] at hc18); exact hn.symm),(hM.pick [] rfl rfl)⟩
  ·refine lx rfl<|lg (.bool (decide (((i:Nat):Int) > 0)))<|vX ?_
   refine St.dec 21 rfl (fun hc21=>?_) (fun hc21=>?_)
   ·have hd21:=of_decide_eq_true hc21
    refine lx rfl<|lu (vI (i - 1)) (kX _ rfl rfl rfl om om om) ?_
    obtain ⟨x1,hx1⟩:∃ ξ,(l)[i - 1]?=some ξ:=⟨_,List.getElem?_eq_getElem om⟩
    refine St.eY (fun w hM=>r0.now hM) (fR hx1) (fun p25 q25 hA25 hc25=>lu (vP p25 (q25+(i - 1))) (rQ (e:=9) rfl kr kr rfl rfl hA25 om)<|lu (vS x1) (gH rfl rfl kr hc25)<|lx rfl<|lu (.bool (!decide (x1 < x0))) (tR rfl rfl rfl)<|lg (.bool (!decide (x1 < x0)))<|lk (.bool (!decide (x1 < x0))) ?_)
    refine aO (aI (bD rfl (fun hc30=>?_) (fun hc30=>?_)))
    ·exact Nc<|lx rfl<|Nd<|fY<|dC<|dC<|fY<|dC<|sN [bF] fun w hM=>⟨fF (by have hn:eF l lo hi=false:=GW hx0 (fun h=>by have h4:=h.2 (i - 1) x1 om hx1; simp [h4] at hc30); exact hn.symm),(hM.pick [] rfl rfl)⟩
    ·have hlast:∀ j x,i=j+1→l[j]?=some x→x < x0:=fun j x hj hx=>by obtain rfl:i - 1=j:=om; rw [hx1] at hx; cases hx; simpa using hc30
     exact Nw<|aF<|lw (vI (i+1)) bO<|lx rfl<|aO (aI (sA (i+1) (⟨om,(CA hx0).2 ⟨hok.2,by simpa using hc18,hlast⟩⟩) (by show l.length - (i+1) < l.length - i; omega) (fun w hM=>hM)))
   ·have hd21:=of_decide_eq_false hc21
    have hlast:∀ j x,i=j+1→l[j]?=some x→x < x0:=fun j x hj _=>by omega
    exact lx rfl<|lg bF<|lF<|Nu<|Nw<|aF<|lw (vI (i+1)) bO<|lx rfl<|aO (aI (sA (i+1) (⟨om,(CA hx0).2 ⟨hok.2,by simpa using hc18,hlast⟩⟩) (by show l.length - (i+1) < l.length - i; omega) (fun w hM=>hM)))
 ·have hd10:=of_decide_eq_false hc10
  exact Nj<|aF<|lx rfl<|Nd<|sN [bT] fun w hM=>⟨fF (by have h:=hok.2; rw [List.take_of_length_le om] at h; exact h.symm),(hM.pick [] rfl rfl)⟩
theorem He (A:Option Addr) (c:Nat) (l:List (List UInt8)) (w:World) (r0:Rf [] w (cI)) (r1:Rf [] w (fun w=>aH w A (SS l))) (hj:l.flatten.length≤549755813888) (hn:l.length≤1000) :
  Calls Tryz.prog 64 #[(vL A l c)] w fun e w'=>e = .returned (vS (dO l.flatten))∧aJ [] w [] w':=(FB A c l w r0.here r1.here hj hn).mono fun _ _ ⟨he,hf⟩=>⟨he,Mm.pD hf⟩
theorem Hf (A:Option Addr) (c:Nat) (l:List (List UInt8)) (w:World) (r0:Rf [] w (fun w=>aH w A (SS l))) (hl:l.length≤9223372036854775807) (he:dR l≠0) :
  Calls Tryz.prog 30 #[(vL A l c)] w fun e w'=>e = .returned (.tuple #[(vS []),(vi (dR l))])∧aJ [] w [] w':=by
 exact dI Tryz.func30 12 (Mm.start w []) rfl<|Nc<|lx rfl<|Ne<|lx rfl<|Nx<|bP (fun w hM=>CD A c l w (r0.aQ hM) om)<|lx rfl<|Nb<|lx rfl<|lk (.bool (((dR l):Int) != 0))<|Na<|lN rfl (by simpa using he)<|Nc<|lx rfl<|Nh<|sN [(.string ⟨#[]⟩),(vi (dR l))] fun w hM=>⟨rfl,hM⟩
theorem wX (A:Option Addr) (c:Nat) (l:List (List UInt8)) (w:World) (r0:Rf [] w (cI)) (r1:Rf [] w (fun w=>aH w A (SS l))) (hl:l.length≤9223372036854775807) (he:dR l=0) (h40:l.length≤1000) :
  Calls Tryz.prog 30 #[(vL A l c)] w fun e w'=>e = .returned (.tuple #[(vS (eV l)),(vi 0)])∧aJ [] w [] w':=by
 exact dI Tryz.func30 12 (Mm.start w []) rfl<|Nc<|lx rfl<|Ne<|lx rfl<|Nx<|bP (fun w hM=>CD A c l w (r1.aQ hM) om)<|lx rfl<|Nb<|lx rfl<|lk (.bool (((dR l):Int) != 0))<|Na<|eP rfl (by simp [he])<|Ni<|lx rfl<|Nx<|bP (fun w hM=>He A c l w (r0.aQ hM) (r1.aQ hM) (by have:=OL (wQ he); omega) om)<|lx rfl<|Nd<|sN [(vS (dO l.flatten)),(vi 0)] fun w hM=>⟨rfl,hM⟩
def iM (bs : Nat) (A : Option Addr) (c : Nat) (its : List (List UInt8)) (fan leaf nm om : Nat) (w : World) : Prop := At w bs 149 [(vL A its c), (vI fan), (vI leaf), (.map (some nm)), (.map (some om))] ∧ aH w A (SS its)
theorem CF (n:Nat) (g:FuncId) (caps:List Value) (p:Nat→Bool) (w:World) (hn:n≤68719476736) (eg:∀ args w,(callFunc g args).run Tryz.prog w = .ok (.enter g args) w) (hc:∀ i,i < n→∀ w',Fr [] w w'→Calls Tryz.prog g (#[vI i]++caps.toArray) w' fun e w''=>e = .returned (.bool (p i))∧Fr [] w' w'') :
  Calls Tryz.prog 217 #[(vI n),(.func (.func g) #[] caps.toArray)] w fun e w'=>e = .returned (vI (kB p 0 n))∧aJ [] w [] w':=by
 refine bK Tryz.func217 26 (Mm.start w []) rfl<|Nc<|lx rfl<|Nb<|lx rfl<|Nf<|fO<|sL (fun (i,j)=>i≤j∧j≤n∧kB p i j=kB p 0 n) (fun (i,j)=>j - i) (fun (i,j)=>[(1,(.func (.func g) #[] caps.toArray)),(4,(vi 0)),(5,(vI i)),(6,(vI j))]) (fun (i,j)=>[]) (0,n) ⟨Nat.zero_le _,Nat.le_refl _,rfl⟩ (fun _ h=>h) ?_
 rintro ⟨i,j⟩ ⟨h1,h2,h3⟩
 dsimp only
 refine Ny<|lx rfl<|lk (.bool (decide (((i:Nat):Int) < ((j:Nat):Int)))) ?_
 refine aO (aI (bD rfl (fun hc11=>?_) (fun hc11=>?_)))
 ·have hd11:=of_decide_eq_true hc11
  have hij:i < j:=om
  refine fI<|aI<|fO<|Nc<|lx rfl<|lw (vI (i+j)) bO<|lw (vU (i+j)) (iC _ (fun _=>kr) rfl rfl (kK om om))<|lw (vU ((i+j) / 2)) (Fh rfl rfl rfl)<|lw (vI ((i+j) / 2)) (iC _ (fun _=>kr) rfl rfl (pK om om))<|lx rfl<|Nb<|lx rfl<|Nx<|BH (f:=g) (caps:=caps.toArray) rfl rfl rfl eg (fun w hM=>(hc ((i+j) / 2) om w hM.fr).mono ?_)
  rintro e w' ⟨rfl,hf⟩
  refine ⟨_,[],rfl,Mm.pD hf,?_⟩; clear hf hM
  refine lk (.bool (!(p ((i+j) / 2)))) ?_
  refine aO (aI (bD rfl (fun hc21=>?_) (fun hc21=>?_)))
  ·refine aF<|lx rfl<|lw (vI (((i+j) / 2)+1)) bO<|lx rfl<|Nk<|sA (((i+j) / 2)+1,j) (by refine ⟨om,om,?_⟩; rw [← h3]; first | exact (wR hij (by simpa using hc21)).symm | exact (wS hij (by simpa using hc21)).symm) (by dsimp only; omega) (fun w hM=>hM)
  ·refine aF<|lx rfl<|Nk<|sA (i,((i+j) / 2)) (by refine ⟨om,om,?_⟩; rw [← h3]; first | exact (wR hij (by simpa using hc21)).symm | exact (wS hij (by simpa using hc21)).symm) (by dsimp only; omega) (fun w hM=>hM)
 ·have hd11:=of_decide_eq_false hc11
  exact Nj<|aF<|lx rfl<|Nd<|sN [(vI i)] fun w hM=>⟨by rw [← h3,zS om]; rfl,hM⟩
theorem OY (i b2:Nat) (b3 bs:Nat) (A:Option Addr) (c:Nat) (its:List (List UInt8)) (fan leaf:Nat) (nm om:Nat) (lo hi:List UInt8) (w:World) (r0:Rf [] w (iM bs A c its fan leaf nm om)) (r1:Rf [] w (fun w=>At w b2 94 [(vP bs 0)])) (r2:Rf [] w (fun w=>At w b3 242 [(vS lo),(vS hi)])) (hi':i < its.length) :
  Calls Tryz.prog 218 #[(vI i),(vP b2 0),(vP b3 0)] w fun e w'=>e = .returned (.bool (nJ its lo i))∧aJ [] w [] w':=by
 have ra:=r0.imp (fun _ h=>h.1)
 have rb:=r0.imp (fun _ h=>h.2)
 refine mI Tryz.func218 15 (Mm.start w []) rfl<|Nc<|lx rfl<|Nf<|cQ [] 11 kr (fun _ h=>h)<|aV 0 _ rfl (rW (fun w hM=>At.cell (r1.now hM) 0))<|aC 1 (vP bs 0) rfl<|aC 2 (vP bs 0) rfl<|aV 3 _ rfl (rW (fun w hM=>At.cell (ra.now hM) 0))<|am 4 ?_
 obtain ⟨x0,hx0⟩:∃ ξ,(its)[i]?=some ξ:=⟨_,List.getElem?_eq_getElem (by omega)⟩
 refine Any.eY (fun w hM=>rb.now hM) (fR hx0) (fun p10 q10 hA10 hc10=>aV 5 (vP p10 (q10+i)) rfl (rR 9 hA10)<|aV 6 _ rfl (rW hc10)<|aC 7 (vP b3 0) rfl<|aV 8 _ rfl (rW (fun w hM=>At.cell (r2.now hM) 0))<|aV 9 (.bool (!decide (x0 < lo))) rfl (tR rfl rfl rfl)<|aa 10 ?_)
 exact cF kr<|aI<|fX<|sN [(.bool (!decide (x0 < lo)))] fun w hM=>⟨fF (pU hx0).symm,hM⟩
theorem OZ (i b2:Nat) (b3 bs:Nat) (A:Option Addr) (c:Nat) (its:List (List UInt8)) (fan leaf:Nat) (nm om:Nat) (lo hi:List UInt8) (w:World) (r0:Rf [] w (iM bs A c its fan leaf nm om)) (r1:Rf [] w (fun w=>At w b2 94 [(vP bs 0)])) (r2:Rf [] w (fun w=>At w b3 242 [(vS lo),(vS hi)])) (hi':i < its.length) :
  Calls Tryz.prog 219 #[(vI i),(vP b2 0),(vP b3 0)] w fun e w'=>e = .returned (.bool (nJ its hi i))∧aJ [] w [] w':=by
 have ra:=r0.imp (fun _ h=>h.1)
 have rb:=r0.imp (fun _ h=>h.2)
 refine mI Tryz.func219 15 (Mm.start w []) rfl<|Nc<|lx rfl<|Nf<|cQ [] 11 kr (fun _ h=>h)<|aV 0 _ rfl (rW (fun w hM=>At.cell (r1.now hM) 0))<|aC 1 (vP bs 0) rfl<|aC 2 (vP bs 0) rfl<|aV 3 _ rfl (rW (fun w hM=>At.cell (ra.now hM) 0))<|am 4 ?_
 obtain ⟨x0,hx0⟩:∃ ξ,(its)[i]?=some ξ:=⟨_,List.getElem?_eq_getElem (by omega)⟩
 refine Any.eY (fun w hM=>rb.now hM) (fR hx0) (fun p10 q10 hA10 hc10=>aV 5 (vP p10 (q10+i)) rfl (rR 9 hA10)<|aV 6 _ rfl (rW hc10)<|aC 7 (vP b3 1) rfl<|aV 8 _ rfl (rW (fun w hM=>At.cell (r2.now hM) 1))<|aV 9 (.bool (!decide (x0 < hi))) rfl (tR rfl rfl rfl)<|aa 10 ?_)
 exact cF kr<|aI<|fX<|sN [(.bool (!decide (x0 < hi)))] fun w hM=>⟨fF (pU hx0).symm,hM⟩
theorem Pa (i b2:Nat) (b3 bs:Nat) (A:Option Addr) (c:Nat) (its:List (List UInt8)) (fan leaf:Nat) (nm om:Nat) (x:List UInt8) (w:World) (r0:Rf [] w (iM bs A c its fan leaf nm om)) (r1:Rf [] w (fun w=>At w b2 94 [(vP bs 0)])) (r2:Rf [] w (fun w=>At w b3 9 [(vS x)])) (hi':i < its.length) :
  Calls Tryz.prog 220 #[(vI i),(vP b2 0),(vP b3 0)] w fun e w'=>e = .returned (.bool (nJ its x i))∧aJ [] w [] w':=by
 have ra:=r0.imp (fun _ h=>h.1)
 have rb:=r0.imp (fun _ h=>h.2)
 refine mI Tryz.func220 14 (Mm.start w []) rfl<|Nc<|lx rfl<|Nf<|cQ [] 10 kr (fun _ h=>h)<|aV 0 _ rfl (rW (fun w hM=>At.cell (r1.now hM) 0))<|aC 1 (vP bs 0) rfl<|aC 2 (vP bs 0) rfl<|aV 3 _ rfl (rW (fun w hM=>At.cell (ra.now hM) 0))<|am 4 ?_
 obtain ⟨x0,hx0⟩:∃ ξ,(its)[i]?=some ξ:=⟨_,List.getElem?_eq_getElem (by omega)⟩
 refine Any.eY (fun w hM=>rb.now hM) (fR hx0) (fun p10 q10 hA10 hc10=>aV 5 (vP p10 (q10+i)) rfl (rR 9 hA10)<|aV 6 _ rfl (rW hc10)<|aV 7 _ rfl (rW (fun w hM=>At.cell (r2.now hM) 0))<|aV 8 (.bool (!decide (x0 < x))) rfl (tR rfl rfl rfl)<|aa 9 ?_)
 exact cF kr<|aI<|fX<|sN [(.bool (!decide (x0 < x)))] fun w hM=>⟨fF (pU hx0).symm,hM⟩
theorem CG (bs:Nat) (A:Option Addr) (c:Nat) (its:List (List UInt8)) (fan leaf:Nat) (nm om:Nat) (lo hi:List UInt8) (w:World) (r0:Rf [] w (iM bs A c its fan leaf nm om)) (hs:cJ its) (hn:its.length≤1000) (hcap:its.length≤c) :
  Calls Tryz.prog 202 #[(vP bs 0),(.agg #[(vS lo),(vS hi)])] w fun e w'=>∃ (B:Option Addr) (cb:Nat),e = .returned (vL B (inL its lo hi) cb)∧aJ [] w [] w'∧(∀ w,aH w A (SS its)→aH w B (SS (inL its lo hi))):=by
 have ra:=r0.imp (fun _ h=>h.1)
 have rb:=r0.imp (fun _ h=>h.2)
 refine bK Tryz.func202 38 (Mm.start w []) rfl<|Nc<|Nx<|pB [(vP bs 0)] fun b2=>Nx<|pB [(vS lo),(vS hi)] fun b3=>lx rfl<|Nb ?_
 refine lL 0 rfl<|lk (vP bs 0)<|lk (vP bs 0)<|lW (rW (fun w hM=>At.cell (ra.now hM) 0)) ?_
 refine lk (vI its.length)<|lk (.func (.func 218) #[] #[(vP b2 0),(vP b3 0)]) ?_
 refine Nx ?_
 refine gU (fun w hM=>(CF (its.length) 218 [(vP b2 0),(vP b3 0)] (nJ its lo) w (by omega) (nF Tryz.func218 (by kernel_rfl) rfl) (fun i hlt w' hf=>(OY i _ _ bs A c its fan leaf nm om lo hi w' (((r0.aQ hM).step hf (by simp))) (((hM.bB (j:=0) rfl (fun _ h=>h)).step hf (by simp))) (((hM.bB (j:=1) rfl (fun _ h=>h)).step hf (by simp))) hlt).mono fun e w'' he=>⟨he.1,he.2.fr⟩)).mono ?_)
 rintro e w' ⟨rfl,hP⟩
 refine ⟨_,_,rfl,hP,?_⟩; clear hP hM
 rw [zT hs.2 lo]
 refine lx rfl<|Nb<|lL 0 rfl<|lk (vP bs 0)<|lk (vP bs 0)<|lW (rW (fun w hM=>At.cell (ra.now hM) 0))<|lk (vI its.length)<|lx rfl<|Ne<|lk (vP b3 1)<|lL 1 rfl<|lw (.bool (!decide (hi=[]))) (rP rfl rfl rfl) ?_
 refine aO (aI (bD rfl (fun hc21=>?_) (fun hc21=>?_)))
 ·refine aF<|lL 0 rfl<|lk (vP bs 0)<|lk (vP bs 0) ?_
  refine lW (rW (fun w hM=>At.cell (ra.now hM) 0))<|lk (vI its.length) ?_
  refine lk (.func (.func 219) #[] #[(vP b2 0),(vP b3 0)]) ?_
  refine Nx ?_
  refine gU (fun w hM=>(CF (its.length) 219 [(vP b2 0),(vP b3 0)] (nJ its hi) w (by omega) (nF Tryz.func219 (by kernel_rfl) rfl) (fun i hlt w' hf=>(OZ i _ _ bs A c its fan leaf nm om lo hi w' (((r0.aQ hM).step hf (by simp))) (((hM.bB (j:=0) rfl (fun _ h=>h)).step hf (by simp))) (((hM.bB (j:=1) rfl (fun _ h=>h)).step hf (by simp))) hlt).mono fun e w'' he=>⟨he.1,he.2.fr⟩)).mono ?_)
  rintro e w' ⟨rfl,hP⟩
  refine ⟨_,_,rfl,hP,?_⟩; clear hP hM
  rw [zT hs.2 hi]
  refine lx rfl<|Nf ?_
  dsimp only [bE,List.set,List.cons_append,List.nil_append]
  refine aF<|lL 0 rfl<|lk (vP bs 0)<|lk (vP bs 0)<|lW (rW (fun w hM=>At.cell (ra.now hM) 0))<|lx rfl<|lw (vI (max (aY its lo) (aY its hi))) (Fa rfl rfl rfl) ?_
  have hp:=wU hs.2 lo hi
  rw [if_neg (by simpa using hc21)] at hp
  have h1:=oR its lo
  have h2:=oR its hi
  refine lv (v:=(vL (if c=aY its lo then A else A.map (·.add (aY its lo*1))) (inL its lo hi) (c - aY its lo))) (iB (Bx (e:=9) (sz:=1) rfl (by kernel_rfl) (by kernel_rfl) rfl rfl rfl (by omega) (by omega)) (by show Value.slice _ _ _=Value.slice _ _ _; rw [← hp,List.length_drop,List.length_take,Nat.min_eq_left (by omega)])) ?_
  exact lx rfl<|Nd<|sN [(vL (if c=aY its lo then A else A.map (·.add (aY its lo*1))) (inL its lo hi) (c - aY its lo))] fun w hM=>⟨_,_,rfl,(hM.pick [] rfl rfl),fun w h=>by rw [← hp]; exact Fg _ _ h hcap⟩
 ·refine Ni<|lL 0 rfl<|lk (vP bs 0)<|lk (vP bs 0)<|lW (rW (fun w hM=>At.cell (ra.now hM) 0))<|lx rfl<|lw (vI (max (aY its lo) its.length)) (Fa rfl rfl rfl) ?_
  have hp:=wU hs.2 lo hi
  rw [if_pos (by simpa using hc21)] at hp
  have h1:=oR its lo
  have h2:=oR its hi
  refine lv (v:=(vL (if c=aY its lo then A else A.map (·.add (aY its lo*1))) (inL its lo hi) (c - aY its lo))) (iB (Bx (e:=9) (sz:=1) rfl (by kernel_rfl) (by kernel_rfl) rfl rfl rfl (by omega) (by omega)) (by show Value.slice _ _ _=Value.slice _ _ _; rw [← hp,List.length_drop,List.length_take,Nat.min_eq_left (by omega)])) ?_
  exact lx rfl<|Nd<|sN [(vL (if c=aY its lo then A else A.map (·.add (aY its lo*1))) (inL its lo hi) (c - aY its lo))] fun w hM=>⟨_,_,rfl,(hM.pick [] rfl rfl),fun w h=>by rw [← hp]; exact Fg _ _ h hcap⟩
theorem CH (bs:Nat) (A:Option Addr) (c:Nat) (its:List (List UInt8)) (fan leaf:Nat) (nm om:Nat) (x:List UInt8) (w:World) (r0:Rf [] w (iM bs A c its fan leaf nm om)) (hs:cJ its) (hn:its.length≤1000) :
  Calls Tryz.prog 203 #[(vP bs 0),(vS x)] w fun e w'=>e = .returned (.bool (its.contains x))∧aJ [] w [] w':=by
 have ra:=r0.imp (fun _ h=>h.1)
 have rb:=r0.imp (fun _ h=>h.2)
 refine bK Tryz.func203 31 (Mm.start w []) rfl<|Nc<|Nx<|pB [(vP bs 0)] fun b2=>Nx<|pB [(vS x)] fun b3=>lx rfl<|Nb ?_
 refine lL 0 rfl<|lk (vP bs 0)<|lk (vP bs 0)<|lW (rW (fun w hM=>At.cell (ra.now hM) 0)) ?_
 refine lk (vI its.length)<|lk (.func (.func 220) #[] #[(vP b2 0),(vP b3 0)]) ?_
 refine Nx ?_
 refine gU (fun w hM=>(CF (its.length) 220 [(vP b2 0),(vP b3 0)] (nJ its x) w (by omega) (nF Tryz.func220 (by kernel_rfl) rfl) (fun i hlt w' hf=>(Pa i _ _ bs A c its fan leaf nm om x w' (((r0.aQ hM).step hf (by simp))) (((hM.bB (j:=0) rfl (fun _ h=>h)).step hf (by simp))) (((hM.bB (j:=1) rfl (fun _ h=>h)).step hf (by simp))) hlt).mono fun e w'' he=>⟨he.1,he.2.fr⟩)).mono ?_)
 rintro e w' ⟨rfl,hP⟩
 refine ⟨_,_,rfl,hP,?_⟩; clear hP hM
 rw [zT hs.2 x]
 refine lx rfl<|Nf<|cQ _ 19 kr (fun _ h=>h)<|am 0 ?_
 refine al 1 0 ?_
 refine aC 2 (vP bs 0) rfl<|aC 3 (vP bs 0) rfl<|aV 4 _ rfl (rW (fun w hM=>At.cell (ra.now hM) 0))<|aC 5 (vI its.length) rfl<|aC 6 (.bool (decide ((((aY its x):Nat):Int) < ((its.length:Nat):Int)))) rfl<|am 7 ?_
 refine Any.dec 20 rfl (fun hc20=>?_) (fun hc20=>?_)
 ·have hd20:=of_decide_eq_true hc20
  refine aW 8 (vP bs 0) rfl (cW 0 rfl rfl kr rfl rfl)<|aG 9 (vP bs 0) rfl<|aG 10 (vP bs 0) rfl<|aW 11 (vL A its c) rfl (gH rfl rfl kr (fun w hM=>At.cell (ra.now hM) 0))<|iL 12 ?_
  obtain ⟨x0,hx0⟩:∃ ξ,(its)[aY its x]?=some ξ:=⟨_,List.getElem?_eq_getElem (by omega)⟩
  refine Any.eY (fun w hM=>rb.now hM) (fR hx0) (fun p26 q26 hA26 hc26=>Ff 13 (vP p26 (q26+(aY its x))) rfl (rQ (e:=9) rfl (by kernel_rfl) (by kernel_rfl) rfl rfl hA26 (by omega)) ?_)
  refine aW 14 (vS x0) rfl (gH rfl rfl kr hc26)<|aW 15 (vS x) rfl (cW 1 rfl rfl kr rfl rfl)<|aW 16 (.bool (decide (x0=x))) rfl (nE rfl rfl rfl)<|aC 17 (.bool (decide (x0=x))) rfl<|aa 18 ?_
  exact cF kr<|aI<|fX<|sN [(.bool (decide (x0=x)))] fun w hM=>⟨fF (by rw [wV hs.2,hx0]; simp),(hM.pick [] rfl rfl)⟩
 ·have hd20:=of_decide_eq_false hc20
  refine dF 8 ?_
  refine dF 9 ?_
  refine dF 10 ?_
  refine dF 11 ?_
  refine dF 12 ?_
  refine dF 13 ?_
  refine dF 14 ?_
  refine dF 15 ?_
  refine dF 16 ?_
  refine aC 17 bF rfl<|aa 18 ?_
  refine cF kr<|aI<|fX<|sN [bF] fun w hM=>⟨fF (by rw [wV hs.2,List.getElem?_eq_none (l:=its) (i:=aY its x) (by omega)]; simp),(hM.pick [] rfl rfl)⟩
theorem zW (bs:Nat) (A:Option Addr) (c:Nat) (its:List (List UInt8)) (fan leaf:Nat) (nm om:Nat) (lo hi:List UInt8) (w:World) (r0:Rf [] w (cI)) (r1:Rf [] w (iM bs A c its fan leaf nm om)) (hs:cJ its) (hn:its.length≤1000) (hcap:its.length≤c) :
  Calls Tryz.prog 200 #[(vP bs 0),(.agg #[(vS lo),(vS hi)])] w fun e w'=>e = .returned (.agg #[(vI ((inL its lo hi).length)),(vS (eV (inL its lo hi)))])∧aJ [] w [] w':=by
 have ra:=r1.imp (fun _ h=>h.1)
 have rb:=r1.imp (fun _ h=>h.2)
 refine bK Tryz.func200 14 (Mm.start w []) rfl<|Nc<|Nx<|pB [(vS lo),(vS hi)] fun b3=>Nx<|pA [(vi 0),(.string ⟨#[]⟩)] fun b4=>Nb<|lx rfl<|lW (rA 0 [(vS lo),(vS hi)])<|Nx<|BK (fun w hM=>CG bs A c its fan leaf nm om lo hi w (r1.aQ hM) ag ag ag) fun B8 cb8 hsub8=>?_
 have rs8:=Ro.imp (Ψ:=fun w=>aH w B8 (SS (inL its lo hi))) rb hsub8
 exact lx rfl<|Nb<|lx rfl<|lk (vI ((inL its lo hi).length))<|lx rfl<|Nx<|bP (fun w hM=>He B8 cb8 (inL its lo hi) w (r0.aQ hM) (rs8.aQ hM) (by have:=OQ hs lo hi; omega) (by have:=mY its lo hi; omega))<|lk (.agg #[(vI ((inL its lo hi).length)),(vS (dO (inL its lo hi).flatten))])<|Nx<|pT 1 [(vI ((inL its lo hi).length)),(vS (dO (inL its lo hi).flatten))] rfl<|Nd<|fP [(.agg #[(vI ((inL its lo hi).length)),(vS (dO (inL its lo hi).flatten))])] rfl ⟨⟨_,rfl,fun w hM=>gZ kr kr (eQ (i:=1) (off:=0) rfl (by intro j v hj; rw [Nat.zero_add]; exact hj) w hM)⟩,trivial⟩ (fun w hM=>⟨rfl,(hM.pick [] rfl rfl)⟩)
section
/-! ### In memory -/
inductive CV where
 | sum (n : Nat) (f : Bs) | list (A : Option Addr) (c : Nat) (xs : List Bs) | ans (A : Option Addr) (c : Nat) (xs : List Bs) (B : Option Addr) (d : Nat) (ms : List Bs)
structure PV where
 (lo hi : Bs) (c : CV)
def CV.val : CV → Value
 | .sum n f => .iface 248 (.agg #[.int .i64 ((n : Nat) : Int), .string (aT f)])
 | .list A c xs => .iface 252 (.agg #[.slice A xs.length c])
 | .ans A c xs B d ms => .iface 255 (.agg #[.slice A xs.length c, .slice B ms.length d])
def CV.abs : CV → AC
 | .sum n f => .sum n f
 | .list _ _ xs => .list xs
 | .ans _ _ xs _ _ ms => .ans xs ms
def PV.abs (p : PV) : AP := ⟨p.lo, p.hi, p.c.abs⟩
def CV.rows : CV → List (Option Addr × List Bs)
 | .sum _ _ => []
 | .list A _ xs => [(A, xs)]
 | .ans A _ xs B _ ms => [(A, xs), (B, ms)]
def PV.cells (p : PV) : List Value := [.string (aT p.lo), .string (aT p.hi), p.c.val]
def PS (ps : List PV) : List Value := ps.flatMap PV.cells
abbrev cP (A : Option Addr) (l : List PV) (c : Nat) : Ch := aR 246 3 A l.length c (PS l)
theorem uL (a b:List PV):PS (a++b)=PS a++PS b:=List.flatMap_append
theorem CV.one (c:CV):c.val.oneCell'=true:=by cases c <;> rfl
theorem PV.one (p:PV):∀ u∈p.cells,u.oneCell'=true:=by
 intro u hu
 simp only [PV.cells,List.mem_cons,List.not_mem_nil,or_false] at hu
 rcases hu with rfl | rfl | rfl
 ·rfl
 ·rfl
 ·exact CV.one _
theorem zX {ps:List PV}:∀ u∈PS ps,u.oneCell'=true:=by
 intro u hu
 obtain ⟨p,_,hp⟩:=List.mem_flatMap.1 hu
 simp only [PV.cells,List.mem_cons,List.not_mem_nil,or_false] at hp
 rcases hp with rfl | rfl | rfl
 ·rfl
 ·rfl
 ·exact CV.one _
theorem CI {ps:List PV} {i:Nat} {p:PV} (h:ps[i]?=some p) (k:Nat) (v:Value) (hk:p.cells[k]?=some v):(PS ps)[i*3+k]?=some v:=by
 induction ps generalizing i with
 | nil=>simp at h
 | cons q ps ih =>
   show (q.cells++PS ps)[i*3+k]?=some v
   cases i with
   | zero =>
     simp only [List.getElem?_cons_zero,Option.some.injEq] at h
     subst h
     rw [Nat.zero_mul,Nat.zero_add,List.getElem?_append_left (List.getElem?_eq_some_iff.1 hk).1]
     exact hk
   | succ i =>
     rw [List.getElem?_append_right (by show 3≤_; omega),show (i+1)*3+k - q.cells.length=i*3+k by show _ - 3=_; omega]
     exact ih (by simpa using h)
def lC (its : List Bs) (lo hi : Bs) : PV := ⟨lo, hi, .sum (inL its lo hi).length (eV (inL its lo hi))⟩
def bY (its own : List Bs) (fan : Nat) (lo : Bs) : Nat → Bs × List PV
 | 0 => (lo, [])
 | k + 1 => if own.getD ((k + 1) * own.length / fan) [] = (bY its own fan lo k).1 then bY its own fan lo k else (own.getD ((k + 1) * own.length / fan) [], (bY its own fan lo k).2 ++ [lC its (bY its own fan lo k).1 (own.getD ((k + 1) * own.length / fan) [])])
theorem CJ (its own:List Bs) (fan:Nat) (lo:Bs):∀ k,(bY its own fan lo k).1=(jQ its own fan lo k).1∧(bY its own fan lo k).2.map PV.abs=(jQ its own fan lo k).2
 | 0=>⟨rfl,rfl⟩
 | k+1=>by
   obtain ⟨h1,h2⟩:=CJ its own fan lo k
   unfold bY jQ
   rw [h1]
   split
   ·exact ⟨h1,h2⟩
   ·refine ⟨rfl,?_⟩
    rw [List.map_append,h2]
    rfl
theorem Pb {its own:List Bs} {fan k:Nat} {lo x:Bs} (hx:own[(k+1)*own.length / fan]?=some x) (h:(!decide (x=(bY its own fan lo k).1))=false):bY its own fan lo (k+1)=bY its own fan lo k:=by
 have e:own.getD ((k+1)*own.length / fan) []=x:=by rw [List.getD_eq_getElem?_getD,hx]; rfl
 rw [bY,e,if_pos (by simpa using h)]
theorem Hg {its own:List Bs} {fan k:Nat} {lo x:Bs} (hx:own[(k+1)*own.length / fan]?=some x) (h:(!decide (x=(bY its own fan lo k).1))=true):bY its own fan lo (k+1)=(x,(bY its own fan lo k).2++[lC its (bY its own fan lo k).1 x]):=by
 have e:own.getD ((k+1)*own.length / fan) []=x:=by rw [List.getD_eq_getElem?_getD,hx]; rfl
 rw [bY,e,if_neg (by simpa using h)]
theorem CK (its own:List Bs) (fan:Nat) (lo:Bs):∀ k,(bY its own fan lo k).2.length≤k
 | 0=>Nat.le_refl _
 | k+1=>by
   have:=CK its own fan lo k
   unfold bY
   split
   ·omega
   ·simp only [List.length_append,List.length_cons,List.length_nil]; omega
theorem CL (its own:List Bs) (fan:Nat) (lo:Bs):∀ k,∀ p∈(bY its own fan lo k).2,p.c.rows=[]
 | 0=>by simp [bY]
 | k+1=>by
   unfold bY
   split
   ·exact CL its own fan lo k
   ·intro p hp
    rcases List.mem_append.1 hp with hp | hp
    ·exact CL its own fan lo k p hp
    ·rw [List.mem_singleton.1 hp]; rfl
/-! ### Rows as one piece -/
def dG (L : List (Option Addr × List Bs)) : Ch where
 fp := L.flatMap fun r => cZ r.1
 holds w := ∀ r ∈ L, aH w r.1 (SS r.2) ∧ ∀ b ∈ cZ r.1, b < w.heap.size
 ok w w' hb h := fun r hr => by
  obtain ⟨h1, h2⟩ := h r hr
  have hb' : ∀ b ∈ cZ r.1, w'.heap[b]? = w.heap[b]? := fun b hb1 => hb b (List.mem_flatMap.2 ⟨r, hr, hb1⟩)
  refine ⟨fun j v hj => ?_, fun b hb1 => ?_⟩
  ·obtain ⟨b, o, hA, hlt, hc⟩ := h1 j v hj
   have e := hb' b (by rw [hA]; simp [cZ])
   refine ⟨b, o, hA, ?_, ?_⟩
   ·by_cases hlt' : b < w'.heap.size
    ·exact hlt'
    ·rw [Array.getElem?_eq_none (by omega), Array.getElem?_eq_getElem hlt] at e
     cases e
   ·rw [← hc]
    simp only [World.cell?, e]
  ·have e := hb' b hb1
   by_cases hlt' : b < w'.heap.size
   ·exact hlt'
   ·rw [Array.getElem?_eq_none (by omega), Array.getElem?_eq_getElem (h2 b hb1)] at e
    cases e
 lt w h b hb := by
  obtain ⟨r, hr, hb1⟩ := List.mem_flatMap.1 hb
  exact (h r hr).2 b hb1
section
variable {w0 w w' : World} {F : List Nat} {cs : List Ch}
theorem Pc {A:Option Addr} {xs:List Bs}:(dG [(A,xs)]).fp=cZ A:=by simp [dG]
theorem Mm.tD (h:Mm w0 F cs w) (i:Nat) {e:TypeId} {A:Option Addr} {n c:Nat} {xs:List Bs} (hi:cs[i]?=some (aR e 1 A n c (SS xs))):Mm w0 F (cs.set i (dG [(A,xs)])) w :=
 h.swap i hi (Fr.refl _ _) (fun r hr=>by
  rw [List.mem_singleton.1 hr]
  have ho:=h.at hi
  refine ⟨?_,?_⟩
  ·have ho':w.ownsRow 0 e 1 (.slice A n c) n (SS xs):=ho
   exact aH.cN ho'
  ·intro b hb
   exact (aR e 1 A n c (SS xs)).lt w ho b hb) (fun b hb=>.inl (by rw [Pc] at hb; exact hb)) (by simpa [dG] using rN A)
theorem Pd (L M:List (Option Addr × List Bs)):(dG (L++M)).fp=(dG L).fp++(dG M).fp:=List.flatMap_append
theorem Mm.join {L M:List (Option Addr × List Bs)} (h:Mm w0 F (cs++[dG L,dG M]) w):Mm w0 F (cs++[dG (L++M)]) w:=by
 have e:(cs++[dG (L++M)]).flatMap Ch.fp=(cs++[dG L,dG M]).flatMap Ch.fp:=by
  simp only [List.flatMap_append,List.flatMap_cons,List.flatMap_nil,Pd,List.append_nil]
 refine ⟨h.fr,?_,?_,?_⟩
 ·intro c hc
  rcases List.mem_append.1 hc with hc | hc
  ·exact h.hold c (List.mem_append_left _ hc)
  ·rw [List.mem_singleton.1 hc]
   intro r hr
   rcases List.mem_append.1 hr with hr | hr
   ·exact h.hold (dG L) (List.mem_append_right _ si) r hr
   ·exact h.hold (dG M) (List.mem_append_right _ si) r hr
 ·rw [e]; exact h.nodup
 ·rw [e]; exact h.own
theorem Mm.tE (h:Mm w0 F cs w):Mm w0 F (cs++[dG []]) w:=h.push (c:=dG []) (Fr.refl _ _) (by intro r hr; cases hr) (by simp [dG]) (by simp [dG])
end
def gX (L : List (Option Addr × List Bs)) (A : Option Addr) (its : List Bs) (ps : List PV) : Prop := ∀ p ∈ ps, ∀ r ∈ p.c.rows, r ∈ L ∨ ∀ w, aH w A (SS its) → aH w r.1 (SS r.2)
def zY (ps : List PV) (w : World) : Prop := ∀ p ∈ ps, ∀ r ∈ p.c.rows, aH w r.1 (SS r.2)
theorem gX.nil {L:List (Option Addr × List Bs)} {A:Option Addr} {its:List Bs}:gX L A its []:=by intro p hp; cases hp
theorem gX.append {L M:List (Option Addr × List Bs)} {A:Option Addr} {its:List Bs} {a b:List PV} (h:gX L A its a) (k:gX M A its b):gX (L++M) A its (a++b):=by
 intro p hp r hr
 rcases List.mem_append.1 hp with hp | hp
 ·exact (h p hp r hr).imp (List.mem_append_left _) id
 ·exact (k p hp r hr).imp (List.mem_append_right _) id
theorem gX.ok {L:List (Option Addr × List Bs)} {A:Option Addr} {its:List Bs} {ps:List PV} {w:World} (h:gX L A its ps) (hL:(dG L).holds w) (hr:aH w A (SS its)):zY ps w:=fun p hp r hp'=>(h p hp r hp').elim (fun hm=>(hL r hm).1) (fun hf=>hf w hr)
theorem gX.KJ {L:List (Option Addr × List Bs)} {A:Option Addr} {its:List Bs} {ps:List PV} (h:∀ p∈ps,p.c.rows=[]):gX L A its ps:=fun p hp r hr=>by rw [h p hp] at hr; cases hr
theorem uM:jX Tryz.prog 236 246 (.agg #[.string ⟨#[]⟩,.string ⟨#[]⟩,.nilIface]) 3 48:=⟨Tryz.underlying236,kr,rfl,om,om⟩
section
variable {P : Program} {Q : Exit → Act → World → Prop} {n : Nat} {w0 : World} {F : List Nat} {E : cH} {cs : List Ch} {X K : Act → World → Prop} {ops : Array Oper} {o oi : Oper} {rest : List Oper} {d : Nat}
theorem wY {ty u:TypeId} {x y:Operand} {a b:Nat} (ho:o.op = .binOp .quo ty x y u) (hx:aM E x=some (vi ((a:Nat):Int))) (hy:aM E y=some (vi ((b:Nat):Int))) (hb:0 < b) (ha:a≤9223372036854775807):cC P w0 F cs E o (vi ((a / b:Nat):Int)):=by
 have h:=Nat.div_le_self a b
 exact Lw _ ho hx hy om (by rw [Int.natCast_ediv,Int.tdiv_eq_ediv_of_nonneg om]) (Int.le_trans (by decide) (Int.natCast_nonneg _)) (Int.ofNat_le.2 (Nat.le_trans h ha))
end
section
variable {w0 : World} {F : List Nat} {E : cH} {cs : List Ch} {o : Oper}
theorem Pe {u : TypeId} {x y : Operand} {a b : Nat} {p q : Bs} (ho : o.op = .binOp .eql 248 x y u) (hx : aM E x = some (.agg #[.int .i64 ((a : Nat) : Int), .string (aT p)])) (hy : aM E y = some (.agg #[.int .i64 ((b : Nat) : Int), .string (aT q)])) : cC Tryz.prog w0 F cs E o (.bool (decide (a = b ∧ p = q))) := fun w _ => by
 have hg : Tryz.prog.eqGuardType Tryz.prog.depth 248 = false := by kernel_rfl
 have hs : Tryz.prog.stoodInHeld 248 = false := by kernel_rfl
 have hm : (Tryz.prog.fieldsOf 248).toList.map (fun f => (f.name == "_", f.type, f.offset)) = [(false, 3, 0), (false, 9, 1)] := by kernel_rfl
 have he : (Op.equal 248 (.agg #[.int .i64 ((a : Nat) : Int), .string (aT p)]) (.agg #[.int .i64 ((b : Nat) : Int), .string (aT q)])).run Tryz.prog w = .ok (decide (a = b ∧ p = q)) w:=by
  refine (run_equalIn_struct w 9999 _ _ _ kr hs).trans ?_
  generalize (Tryz.prog.fieldsOf 248).toList=l at hm
  have hl:l.length=2:=by simpa using congrArg List.length hm
  match l,hl with
  | [g1,g2],_ =>
    simp only [List.map_cons,List.map_nil,List.cons.injEq,Prod.mk.injEq,and_true,beq_eq_false_iff_ne] at hm
    obtain ⟨⟨h1,t1,o1⟩,h2,t2,o2⟩:=hm
    have e1:=run_part_plain w (P:=Tryz.prog) (e:=3) (xs:=#[vI a,.string (aT p)]) (off:=0) (v:=.int .i64 ((a:Nat):Int)) kr rfl
    have e2:=run_part_plain w (P:=Tryz.prog) (e:=3) (xs:=#[vI b,.string (aT q)]) (off:=0) (v:=.int .i64 ((b:Nat):Int)) kr rfl
    have e3:=run_part_plain w (P:=Tryz.prog) (e:=9) (xs:=#[vI a,.string (aT p)]) (off:=1) (v:=.string (aT p)) kr rfl
    have e4:=run_part_plain w (P:=Tryz.prog) (e:=9) (xs:=#[vI b,.string (aT q)]) (off:=1) (v:=.string (aT q)) kr rfl
    simp only [Op.eqFields,h1,h2,ne_eq,not_false_eq_true,if_true,Sem.run_bind,Sem.run_ite,Sem.run_pure,t1,t2,o1,o2,e1,e2,e3,e4,Result.andThen_ok,run_equalIn_int w 9998 _ .i64 _ _ _ Tryz.underlying3,run_equalIn_string w 9998 _ _ _ Tryz.underlying9,rO]
    by_cases ha:a=b
    ·subst ha
     by_cases hp:p=q
     ·subst hp; simp
     ·simp [hp]
    ·have ha':¬ ((a:Nat):Int)=((b:Nat):Int):=fun h=>ha (Int.ofNat.inj h)
     simp [ha,ha']
 unfold execOp
 simp only [ho,bG hx,bG hy,Sem.run_bind,run_eqGuard_agg w _ _ _ _ _ _ hg,binOp,Result.andThen_ok,he,Sem.run_pure]
end
section
variable {P : Program} {Q : Exit → Act → World → Prop} {n : Nat} {w0 : World} {F : List Nat} {E : cH} {cs : List Ch} {X K : Act → World → Prop} {ops : Array Oper} {o oi : Oper} {rest : List Oper} {d : Nat}
theorem wZ {e:TypeId} {i sz:Nat} {A:Option Addr} {m c:Nat} {xs:List Value} (hi:cs[i]?=some (aR e sz A m c xs)):∀ w,Mm w0 F cs w→aH w A xs:=by
 intro w hM j u hu
 have h:w.ownsRow 0 e sz (.slice A m c) m xs:=hM.at hi
 rcases h.2 with ⟨_,h0⟩ | ⟨g,cap,cur,hv,_,hg,_,_,_,hc⟩
 ·have:=h.1
  rw [h0,Nat.zero_mul] at this
  rw [List.eq_nil_of_length_eq_zero this] at hu
  simp at hu
 ·simp only [Value.slice.injEq] at hv
  obtain ⟨rfl,_,_⟩:=hv
  refine ⟨g,0,rfl,(Array.getElem?_eq_some_iff.1 hg).1,?_⟩
  have hlt:=(List.getElem?_eq_some_iff.1 hu).1
  rw [h.1] at hlt
  have:cur.toList[j]?=some u:=by rw [← List.getElem?_take_of_lt hlt,hc]; exact hu
  rw [Nat.zero_add]
  simpa [World.cell?,hg] using this
theorem Pf {e:TypeId} {sz:Nat} {A:Option Addr} {m c:Nat} {xs:List Value} {w:World} (h:(aR e sz A m c xs).holds w):aH w A xs:=by
 have hM:Mm w (cZ A) [aR e sz A m c xs] w:=⟨Fr.refl _ _,by intro d hd; rw [List.mem_singleton.1 hd]; exact h,by simpa [aR] using rN A,by intro b hb; exact .inl (by simpa [aR] using hb)⟩
 exact wZ (i:=0) rfl w hM
theorem Hh {w:World} {A:Option Addr} {ps:List PV} {i:Nat} {p:PV} (h:aH w A (PS ps)) (hp:ps[i]?=some p) {b q:Nat} (hA:A=some ⟨b,q,none⟩):∀ j v,p.cells[j]?=some v→w.cell? ⟨b,q+i*3+j,none⟩=some v:=fun j v hj=>by
 rw [Nat.add_assoc]
 exact yM h (CI hp j v hj) hA
theorem St.xW {A:Option Addr} {ps:List PV} {i:Nat} {p:PV} (h:∀ w,Mm w0 F cs w→aH w A (PS ps)) (hp:ps[i]?=some p) (k:∀ b q,A=some ⟨b,q,none⟩→(∀ w,Mm w0 F cs w→∀ j v,p.cells[j]?=some v→w.cell? ⟨b,q+i*3+j,none⟩=some v)→St n w0 F E cs X):St n w0 F E cs X:=fun a w ha hM=>by
 obtain ⟨b,q,hA⟩:=tU (h w hM) (CI hp 0 _ rfl)
 exact k b q hA (fun w' hM'=>Hh (h w' hM') hp hA) a w ha hM
theorem Any.xW {css:List Ch} {z fuel:Nat} {listed:Array Bool} {A:Option Addr} {ps:List PV} {i:Nat} {p:PV} (h:∀ w,Mm w0 F css w→aH w A (PS ps)) (hp:ps[i]?=some p) (k:∀ b q,A=some ⟨b,q,none⟩→(∀ w,Mm w0 F css w→∀ j v,p.cells[j]?=some v→w.cell? ⟨b,q+i*3+j,none⟩=some v)→Any P ops Q n w0 F E cs css z fuel listed):Any P ops Q n w0 F E cs css z fuel listed:=fun a w ha hM hS hc=>by
 obtain ⟨b,q,hA⟩:=tU (h w hS) (CI hp 0 _ rfl)
 exact k b q hA (fun w' hM'=>Hh (h w' hM') hp hA) a w ha hM hS hc
theorem zZ {ty e:TypeId} {x i:Operand} {A:Option Addr} {b off len cap j:Nat} {k:IntKind} (ho:o.op = .indexAddr ty x i) (hu:P.underlying ty=some (.slice e)) (hsz:fM P e=some 3) (hx:aM E x=some (.slice A len cap)) (hi:aM E i=some (.int k (j:Int))) (hA:A=some ⟨b,off,none⟩) (hlt:j < len):cC P w0 F cs E o (.pointer (some ⟨b,off+j*3,none⟩)):=by
 subst hA
 exact jN ho hu hsz hx hi hlt
def CV.KK : CV → Value
 | .sum n f => .agg #[.int .i64 ((n : Nat) : Int), .string (aT f)]
 | .list A c xs => .agg #[.slice A xs.length c]
 | .ans A c xs B d ms => .agg #[.slice A xs.length c, .slice B ms.length d]
def CV.KL : CV → FuncId
 | .sum _ _ => 243
 | .list _ _ _ => 245
 | .ans _ _ _ _ _ _ => 250
theorem Pg {x y : Operand} {t : Array TypeId} {c : CV} {wv : Value} (ho : o.op = .call { callee := .invoke x "kinkeep/rangesum.write", args := #[y], argTypes := t }) (hx : aM E x = some c.val) (hy : aM E y = some wv) : ∀ w, (execOp (evE E) o).run Tryz.prog w = .ok (.enter c.KL #[c.KK, wv]) w:=by
 intro w
 unfold execOp
 simp only [ho,resolve,bG hx,bG hy,Sem.run_bind,Sem.run_pure,Result.andThen_ok,List.map_toArray,List.map_cons,List.map_nil]
 cases c <;> kernel_rfl
end
end
section
variable {X : Option Addr × Nat}
theorem Hi (br:Nat) (D:List UInt8) (off last most:Nat) (w:World) (A:Option Addr) (c:Nat) (ha:At w br 187 [.slice A D.length c,vI off,vi (last:Int),vi 0]) (hown:w.ownsRow 0 5 1 (.slice A D.length c) D.length (B8 D)) (hl:D.length≤4294967296) (ho:off≤D.length) (hm:most≤4294967296) (n m:Nat) (hd:dE D off=some (n,m)) (hn:n≤most) (hf:m+n≤D.length) :
  Calls Tryz.prog 125 #[vP br 0,vi (most:Int)] w fun e w'=>e = .returned (.tuple #[.slice (if c=m then A else A.map (·.add (m*1))) n (c - m),vi 0])∧Fr [br] w w'∧At w' br 187 [.slice A D.length c,vI (m+n),vi (last:Int),vi 0]:=by
 have HA:=Lib.hid ha
 have HO:=Lib.hid hown
 have hc:D.length≤c:=ownCap hown
 have HNB:Hid (∀ g,(Value.slice A D.length c).ownBlock=some g→g∉[br]):=fun g hg=>by
  have h1:=jZ hown ha (by decide)
  simp only [List.mem_singleton]
  rintro rfl
  exact h1 hg.symm
 clear ha hown
 have hmD:=(pP _ _ _ _ hd).2.1
 refine bK Tryz.func125 22 (Mm.one HA.out) rfl<|Nc<|lx rfl<|Nb<|lx rfl<|Nx<|cU 167 #[(vP br 0),(vI most)] rfl kr (fun _=>kr) (fun w hM=>(wL (X:=(A,c)) br D off last (most:Int) w ⟨A,c,rfl,hM.at (i:=0) rfl,dY HO.out hM.fr HNB.out⟩ ho hl ⟨om,om⟩).mono ?_)
 intro e w' h
 unfold lP at h; rw [hd] at h; dsimp only at h
 rw [if_neg om] at h
 obtain ⟨hf2,rfl,A',c',hX',ha2,_⟩:=h
 obtain ⟨rfl,rfl⟩:A=A'∧c=c':=by simpa using hX'
 have hM':=hM.swap 0 (c':=aD br 187 [(.slice A (D.length) (c)),(vI m),(vI last),(vi 0)]) rfl hf2 ha2 (fun b hb=>.inl hb) (by simp [aD])
 refine ⟨_,_,rfl,hM',lx rfl<|Ne<|lx rfl<|lF<|Nn<|aF<|lx rfl<|Nx<|cU 165 #[(vP br 0),(vI n)] rfl kr (fun _=>kr) (fun w hM=>(Gm br D m last n 0 w A c (hM.at (i:=0) rfl) hl om om hc hf).mono ?_)⟩
 rintro e w' ⟨rfl,hf2,ha2⟩
 have hM':=hM.swap 0 (c':=aD br 187 [(.slice A (D.length) (c)),(vI (m+n)),(vI last),(vi 0)]) rfl hf2 ha2 (fun b hb=>.inl hb) (by simp [aD])
 exact ⟨_,_,rfl,hM',lx rfl<|Nd<|sN [(.slice (if c=m then A else A.map (·.add (m*1))) (n) (c - m)),(vi 0)] fun w hM=>⟨rfl,hM.fr,hM.at (i:=0) rfl⟩⟩
theorem Hj (br:Nat) (D:List UInt8) (off last most:Nat) (w:World) (A:Option Addr) (c:Nat) (ha:At w br 187 [.slice A D.length c,vI off,vi (last:Int),vi 0]) (hown:w.ownsRow 0 5 1 (.slice A D.length c) D.length (B8 D)) (hl:D.length≤4294967296) (ho:off≤D.length) (hm:most≤4294967296) (n m:Nat) (hd:dE D off=some (n,m)) (hn:n≤most) (hf:D.length < m+n) :
  Calls Tryz.prog 125 #[vP br 0,vi (most:Int)] w fun e w'=>e = .returned (.tuple #[nS,vi 3])∧Fr [br] w w'∧∃ off':Nat,At w' br 187 [.slice A D.length c,vI off',vi (last:Int),vi 0]:=by
 have HA:=Lib.hid ha
 have HO:=Lib.hid hown
 have hc:D.length≤c:=ownCap hown
 have HNB:Hid (∀ g,(Value.slice A D.length c).ownBlock=some g→g∉[br]):=fun g hg=>by
  have h1:=jZ hown ha (by decide)
  simp only [List.mem_singleton]
  rintro rfl
  exact h1 hg.symm
 clear ha hown
 have hmD:=(pP _ _ _ _ hd).2.1
 refine bK Tryz.func125 22 (Mm.one HA.out) rfl<|Nc<|lx rfl<|Nb<|lx rfl<|Nx<|cU 167 #[(vP br 0),(vI most)] rfl kr (fun _=>kr) (fun w hM=>(wL (X:=(A,c)) br D off last (most:Int) w ⟨A,c,rfl,hM.at (i:=0) rfl,dY HO.out hM.fr HNB.out⟩ ho hl ⟨om,om⟩).mono ?_)
 intro e w' h
 unfold lP at h; rw [hd] at h; dsimp only at h
 rw [if_neg om] at h
 obtain ⟨hf2,rfl,A',c',hX',ha2,_⟩:=h
 obtain ⟨rfl,rfl⟩:A=A'∧c=c':=by simpa using hX'
 have hM':=hM.swap 0 (c':=aD br 187 [(.slice A (D.length) (c)),(vI m),(vI last),(vi 0)]) rfl hf2 ha2 (fun b hb=>.inl hb) (by simp [aD])
 refine ⟨_,_,rfl,hM',lx rfl<|Ne<|lx rfl<|lF<|Nn<|aF<|lx rfl<|Nx<|cU 165 #[(vP br 0),(vI n)] rfl kr (fun _=>kr) (fun w hM=>(Gl br D m last n 0 w A c (hM.at (i:=0) rfl) hl om om hc hf).mono ?_)⟩
 rintro e w' ⟨rfl,hf2,ha2⟩
 have hM':=hM.swap 0 (c':=aD br 187 [(.slice A (D.length) (c)),(vI m),(vI last),(vi 0)]) rfl hf2 ha2 (fun b hb=>.inl hb) (by simp [aD])
 exact ⟨_,_,rfl,hM',lx rfl<|Nd<|sN [nS,(vi 3)] fun w hM=>⟨rfl,hM.fr,⟨_,hM.at (i:=0) rfl⟩⟩⟩
theorem Hk (br:Nat) (D:List UInt8) (off last most:Nat) (w:World) (A:Option Addr) (c:Nat) (ha:At w br 187 [.slice A D.length c,vI off,vi (last:Int),vi 0]) (hown:w.ownsRow 0 5 1 (.slice A D.length c) D.length (B8 D)) (hl:D.length≤4294967296) (ho:off≤D.length) (hm:most≤4294967296) (n m:Nat) (hd:dE D off=some (n,m)) (hn:most < n) :
  Calls Tryz.prog 125 #[vP br 0,vi (most:Int)] w fun e w'=>e = .returned (.tuple #[nS,vi 2])∧Fr [br] w w'∧∃ off':Nat,At w' br 187 [.slice A D.length c,vI off',vi (last:Int),vi 0]:=by
 have HA:=Lib.hid ha
 have HO:=Lib.hid hown
 have hc:D.length≤c:=ownCap hown
 have HNB:Hid (∀ g,(Value.slice A D.length c).ownBlock=some g→g∉[br]):=fun g hg=>by
  have h1:=jZ hown ha (by decide)
  simp only [List.mem_singleton]
  rintro rfl
  exact h1 hg.symm
 clear ha hown
 refine bK Tryz.func125 22 (Mm.one HA.out) rfl<|Nc<|lx rfl<|Nb<|lx rfl<|Nx<|cU 167 #[(vP br 0),(vI most)] rfl kr (fun _=>kr) (fun w hM=>(wL (X:=(A,c)) br D off last (most:Int) w ⟨A,c,rfl,hM.at (i:=0) rfl,dY HO.out hM.fr HNB.out⟩ ho hl ⟨om,om⟩).mono ?_)
 intro e w' h
 unfold lP at h; rw [hd] at h; dsimp only at h
 rw [if_pos om] at h
 obtain ⟨hf2,rfl,off',A',c',hX',ha2,_⟩:=h
 obtain ⟨rfl,rfl⟩:A=A'∧c=c':=by simpa using hX'
 have hM':=hM.swap 0 (c':=aD br 187 [(.slice A (D.length) (c)),(vI off'),(vI last),(vi 0)]) rfl hf2 ha2 (fun b hb=>.inl hb) (by simp [aD])
 exact ⟨_,_,rfl,hM',lx rfl<|Ne<|lx rfl<|lT<|No<|lx rfl<|Nh<|sN [nS,(vi 2)] fun w hM=>⟨rfl,hM.fr,⟨_,hM.at (i:=0) rfl⟩⟩⟩
theorem Hl (br:Nat) (D:List UInt8) (off last most:Nat) (w:World) (A:Option Addr) (c:Nat) (ha:At w br 187 [.slice A D.length c,vI off,vi (last:Int),vi 0]) (hown:w.ownsRow 0 5 1 (.slice A D.length c) D.length (B8 D)) (hl:D.length≤4294967296) (ho:off≤D.length) (hm:most≤4294967296) (hd:dE D off=none) :
  Calls Tryz.prog 125 #[vP br 0,vi (most:Int)] w fun e w'=>e = .returned (.tuple #[nS,vi 3])∧Fr [br] w w'∧∃ off':Nat,At w' br 187 [.slice A D.length c,vI off',vi (last:Int),vi 0]:=by
 have HA:=Lib.hid ha
 have HO:=Lib.hid hown
 have hc:D.length≤c:=ownCap hown
 have HNB:Hid (∀ g,(Value.slice A D.length c).ownBlock=some g→g∉[br]):=fun g hg=>by
  have h1:=jZ hown ha (by decide)
  simp only [List.mem_singleton]
  rintro rfl
  exact h1 hg.symm
 clear ha hown
 refine bK Tryz.func125 22 (Mm.one HA.out) rfl<|Nc<|lx rfl<|Nb<|lx rfl<|Nx<|cU 167 #[(vP br 0),(vI most)] rfl kr (fun _=>kr) (fun w hM=>(wL (X:=(A,c)) br D off last (most:Int) w ⟨A,c,rfl,hM.at (i:=0) rfl,dY HO.out hM.fr HNB.out⟩ ho hl ⟨om,om⟩).mono ?_)
 intro e w' h
 unfold lP at h; rw [hd] at h; dsimp only at h
 obtain ⟨hf2,rfl,off',A',c',hX',ha2,_⟩:=h
 obtain ⟨rfl,rfl⟩:A=A'∧c=c':=by simpa using hX'
 have hM':=hM.swap 0 (c':=aD br 187 [(.slice A (D.length) (c)),(vI off'),(vI last),(vi 0)]) rfl hf2 ha2 (fun b hb=>.inl hb) (by simp [aD])
 exact ⟨_,_,rfl,hM',lx rfl<|Ne<|lx rfl<|lT<|No<|lx rfl<|Nh<|sN [nS,(vi 3)] fun w hM=>⟨rfl,hM.fr,⟨_,hM.at (i:=0) rfl⟩⟩⟩
theorem Ph (bx by_ br:Nat) (D:List UInt8) (off last most:Nat) (w:World) (hx0:At w bx 124 [vP br 0]) (hy0:At w by_ 3 [vi (most:Int)]) (hr:aX X w br D off last 0) (hl:D.length≤4294967296) (ho:off≤D.length) (hm:most≤4294967296) (n m:Nat) (hd:dE D off=some (n,m)) (hn:n≤most) (hf:m+n≤D.length) :
  Calls Tryz.prog 223 #[vP bx 0,vP by_ 0] w fun e w'=>e = .returned (.tuple #[.string (aT ((D.drop m).take n)),vi 0])∧Fr [br] w w'∧aX X w' br D (m+n) last 0:=by
 obtain ⟨A,c,hX,ha,hown⟩:=hr
 have hx:w.cell? ⟨bx,0,none⟩=some (Value.pointer (some ⟨br,0,none⟩)):=by rw [hx0.cell]; rfl
 have hxb:bx≠br:=hx0.ne ha (by decide)
 have hy:w.cell? ⟨by_,0,none⟩=some (Value.int .i64 (most:Int)):=by rw [hy0.cell]; rfl
 have hyb:by_≠br:=hy0.ne ha (by decide)
 have HA:=Lib.hid ha
 have HO:=Lib.hid hown
 have HR:Hid (aH w A (B8 D)):=aH.cN hown
 have hc:D.length≤c:=ownCap hown
 have HNB:Hid (∀ g,(Value.slice A D.length c).ownBlock=some g→g∉[br]):=fun g hg=>by
  have h1:=jZ hown ha (by decide)
  simp only [List.mem_singleton]
  rintro rfl
  exact h1 hg.symm
 have HNE:Hid (∀ b o,A=some ⟨b,o,none⟩→b∉[br]):=fun b o hA=>HNB.out b (by rw [hA]; rfl)
 clear ha hown hx0 hy0
 refine bK Tryz.func223 15 (Mm.one HA.out) rfl<|Nc<|lx rfl<|Nb<|lW (rW (fun w hM=>hM.dX hx (by simpa using hxb)))<|lW (rW (fun w hM=>hM.dX hy (by simpa using hyb)))<|Nx<|cU 125 #[(vP br 0),(vI most)] rfl kr (fun _=>kr) (fun w hM=>(Hi br D off last most w A c (hM.at (i:=0) rfl) (dY HO.out hM.fr HNB.out) hl ho hm n m hd hn hf).mono ?_)
 rintro e w' ⟨rfl,hf2,ha2⟩
 have hM':=hM.swap 0 (c':=aD br 187 [(.slice A (D.length) (c)),(vI (m+n)),(vI last),(vi 0)]) rfl hf2 ha2 (fun b hb=>.inl hb) (by simp [aD])
 exact ⟨_,_,rfl,hM',lx rfl<|Nb<|lx rfl<|lw (vS ((D.drop m).take n)) (kW (e:=5) ((D.drop m).take n) rfl kr kr kr rfl (by rw [List.length_take,List.length_drop,Nat.min_eq_left om]) (fun w hM=>Cq (HR.out.fr hM.fr HNE.out) (by rw [dL]; exact hc)))<|lx rfl<|Nd<|sN [(vS ((D.drop m).take n)),(vi 0)] fun w hM=>⟨rfl,hM.fr,A,c,hX,hM.at (i:=0) rfl,dY HO.out hM.fr HNB.out⟩⟩
theorem Pj (bx by_ br:Nat) (D:List UInt8) (off last most:Nat) (w:World) (hx0:At w bx 124 [vP br 0]) (hy0:At w by_ 3 [vi (most:Int)]) (hr:aX X w br D off last 0) (hl:D.length≤4294967296) (ho:off≤D.length) (hm:most≤4294967296) (n m:Nat) (hd:dE D off=some (n,m)) (hn:n≤most) (hf:D.length < m+n) :
  Calls Tryz.prog 223 #[vP bx 0,vP by_ 0] w fun e w'=>e = .returned (.tuple #[.string (aT []),vi 3])∧Fr [br] w w'∧∃ off':Nat,aX X w' br D off' last 0:=by
 obtain ⟨A,c,hX,ha,hown⟩:=hr
 have hx:w.cell? ⟨bx,0,none⟩=some (Value.pointer (some ⟨br,0,none⟩)):=by rw [hx0.cell]; rfl
 have hxb:bx≠br:=hx0.ne ha (by decide)
 have hy:w.cell? ⟨by_,0,none⟩=some (Value.int .i64 (most:Int)):=by rw [hy0.cell]; rfl
 have hyb:by_≠br:=hy0.ne ha (by decide)
 have HA:=Lib.hid ha
 have HO:=Lib.hid hown
 have HR:Hid (aH w A (B8 D)):=aH.cN hown
 have hc:D.length≤c:=ownCap hown
 have HNB:Hid (∀ g,(Value.slice A D.length c).ownBlock=some g→g∉[br]):=fun g hg=>by
  have h1:=jZ hown ha (by decide)
  simp only [List.mem_singleton]
  rintro rfl
  exact h1 hg.symm
 have HNE:Hid (∀ b o,A=some ⟨b,o,none⟩→b∉[br]):=fun b o hA=>HNB.out b (by rw [hA]; rfl)
 clear ha hown hx0 hy0
 refine bK Tryz.func223 15 (Mm.one HA.out) rfl<|Nc<|lx rfl<|Nb<|lW (rW (fun w hM=>hM.dX hx (by simpa using hxb)))<|lW (rW (fun w hM=>hM.dX hy (by simpa using hyb)))<|Nx<|cU 125 #[(vP br 0),(vI most)] rfl kr (fun _=>kr) (fun w hM=>(Hj br D off last most w A c (hM.at (i:=0) rfl) (dY HO.out hM.fr HNB.out) hl ho hm n m hd hn hf).mono ?_)
 rintro e w' ⟨rfl,hf2,off',ha2⟩
 have hM':=hM.swap 0 (c':=aD br 187 [(.slice A (D.length) (c)),(vI off'),(vI last),(vi 0)]) rfl hf2 ha2 (fun b hb=>.inl hb) (by simp [aD])
 exact ⟨_,_,rfl,hM',lx rfl<|Nb<|lx rfl<|lw (vS ([])) (kW (e:=5) [] rfl kr kr kr rfl rfl (fun w hM j v hj=>by simp [B8] at hj))<|lx rfl<|Nd<|sN [(vS ([])),(vi 3)] fun w hM=>⟨rfl,hM.fr,_,A,c,hX,hM.at (i:=0) rfl,dY HO.out hM.fr HNB.out⟩⟩
theorem Pk (bx by_ br:Nat) (D:List UInt8) (off last most:Nat) (w:World) (hx0:At w bx 124 [vP br 0]) (hy0:At w by_ 3 [vi (most:Int)]) (hr:aX X w br D off last 0) (hl:D.length≤4294967296) (ho:off≤D.length) (hm:most≤4294967296) (n m:Nat) (hd:dE D off=some (n,m)) (hn:most < n) :
  Calls Tryz.prog 223 #[vP bx 0,vP by_ 0] w fun e w'=>e = .returned (.tuple #[.string (aT []),vi 2])∧Fr [br] w w'∧∃ off':Nat,aX X w' br D off' last 0:=by
 obtain ⟨A,c,hX,ha,hown⟩:=hr
 have hx:w.cell? ⟨bx,0,none⟩=some (Value.pointer (some ⟨br,0,none⟩)):=by rw [hx0.cell]; rfl
 have hxb:bx≠br:=hx0.ne ha (by decide)
 have hy:w.cell? ⟨by_,0,none⟩=some (Value.int .i64 (most:Int)):=by rw [hy0.cell]; rfl
 have hyb:by_≠br:=hy0.ne ha (by decide)
 have HA:=Lib.hid ha
 have HO:=Lib.hid hown
 have HR:Hid (aH w A (B8 D)):=aH.cN hown
 have hc:D.length≤c:=ownCap hown
 have HNB:Hid (∀ g,(Value.slice A D.length c).ownBlock=some g→g∉[br]):=fun g hg=>by
  have h1:=jZ hown ha (by decide)
  simp only [List.mem_singleton]
  rintro rfl
  exact h1 hg.symm
 have HNE:Hid (∀ b o,A=some ⟨b,o,none⟩→b∉[br]):=fun b o hA=>HNB.out b (by rw [hA]; rfl)
 clear ha hown hx0 hy0
 refine bK Tryz.func223 15 (Mm.one HA.out) rfl<|Nc<|lx rfl<|Nb<|lW (rW (fun w hM=>hM.dX hx (by simpa using hxb)))<|lW (rW (fun w hM=>hM.dX hy (by simpa using hyb)))<|Nx<|cU 125 #[(vP br 0),(vI most)] rfl kr (fun _=>kr) (fun w hM=>(Hk br D off last most w A c (hM.at (i:=0) rfl) (dY HO.out hM.fr HNB.out) hl ho hm n m hd hn).mono ?_)
 rintro e w' ⟨rfl,hf2,off',ha2⟩
 have hM':=hM.swap 0 (c':=aD br 187 [(.slice A (D.length) (c)),(vI off'),(vI last),(vi 0)]) rfl hf2 ha2 (fun b hb=>.inl hb) (by simp [aD])
 exact ⟨_,_,rfl,hM',lx rfl<|Nb<|lx rfl<|lw (vS ([])) (kW (e:=5) [] rfl kr kr kr rfl rfl (fun w hM j v hj=>by simp [B8] at hj))<|lx rfl<|Nd<|sN [(vS ([])),(vi 2)] fun w hM=>⟨rfl,hM.fr,_,A,c,hX,hM.at (i:=0) rfl,dY HO.out hM.fr HNB.out⟩⟩
theorem Pm (bx by_ br:Nat) (D:List UInt8) (off last most:Nat) (w:World) (hx0:At w bx 124 [vP br 0]) (hy0:At w by_ 3 [vi (most:Int)]) (hr:aX X w br D off last 0) (hl:D.length≤4294967296) (ho:off≤D.length) (hm:most≤4294967296) (hd:dE D off=none) :
  Calls Tryz.prog 223 #[vP bx 0,vP by_ 0] w fun e w'=>e = .returned (.tuple #[.string (aT []),vi 3])∧Fr [br] w w'∧∃ off':Nat,aX X w' br D off' last 0:=by
 obtain ⟨A,c,hX,ha,hown⟩:=hr
 have hx:w.cell? ⟨bx,0,none⟩=some (Value.pointer (some ⟨br,0,none⟩)):=by rw [hx0.cell]; rfl
 have hxb:bx≠br:=hx0.ne ha (by decide)
 have hy:w.cell? ⟨by_,0,none⟩=some (Value.int .i64 (most:Int)):=by rw [hy0.cell]; rfl
 have hyb:by_≠br:=hy0.ne ha (by decide)
 have HA:=Lib.hid ha
 have HO:=Lib.hid hown
 have HR:Hid (aH w A (B8 D)):=aH.cN hown
 have hc:D.length≤c:=ownCap hown
 have HNB:Hid (∀ g,(Value.slice A D.length c).ownBlock=some g→g∉[br]):=fun g hg=>by
  have h1:=jZ hown ha (by decide)
  simp only [List.mem_singleton]
  rintro rfl
  exact h1 hg.symm
 have HNE:Hid (∀ b o,A=some ⟨b,o,none⟩→b∉[br]):=fun b o hA=>HNB.out b (by rw [hA]; rfl)
 clear ha hown hx0 hy0
 refine bK Tryz.func223 15 (Mm.one HA.out) rfl<|Nc<|lx rfl<|Nb<|lW (rW (fun w hM=>hM.dX hx (by simpa using hxb)))<|lW (rW (fun w hM=>hM.dX hy (by simpa using hyb)))<|Nx<|cU 125 #[(vP br 0),(vI most)] rfl kr (fun _=>kr) (fun w hM=>(Hl br D off last most w A c (hM.at (i:=0) rfl) (dY HO.out hM.fr HNB.out) hl ho hm hd).mono ?_)
 rintro e w' ⟨rfl,hf2,off',ha2⟩
 have hM':=hM.swap 0 (c':=aD br 187 [(.slice A (D.length) (c)),(vI off'),(vI last),(vi 0)]) rfl hf2 ha2 (fun b hb=>.inl hb) (by simp [aD])
 exact ⟨_,_,rfl,hM',lx rfl<|Nb<|lx rfl<|lw (vS ([])) (kW (e:=5) [] rfl kr kr kr rfl rfl (fun w hM j v hj=>by simp [B8] at hj))<|lx rfl<|Nd<|sN [(vS ([])),(vi 3)] fun w hM=>⟨rfl,hM.fr,_,A,c,hX,hM.at (i:=0) rfl,dY HO.out hM.fr HNB.out⟩⟩
theorem Pn (b0 b1 b2 br:Nat) (A:Option Addr) (n c:Nat) (off last start:Int) (w:World) (h0:At w b0 3 [vi start]) (h1:At w b1 124 [vP br 0]) (hr:At w br 187 [.slice A n c,vi off,vi last,vi 0]) :
  CallsD Tryz.prog 189 #[vP b0 0,vP b1 0,vP b2 0] .returning w fun e u' w'=>u' = .returning∧e = .returned (.tuple #[])∧w'=w.setCell ⟨br,2,none⟩ (vi start):=by
 have c0:w.cell? ⟨b0,0,none⟩=some (Value.int .i64 start):=by rw [h0.cell]; rfl
 have c1:w.cell? ⟨b1,0,none⟩=some (Value.pointer (some ⟨br,0,none⟩)):=by rw [h1.cell]; rfl
 have c2:w.cell? ⟨br,2,none⟩=some (Value.int .i64 last):=by rw [hr.cell]; rfl
 have c3:w.cell? ⟨br,3,none⟩=some (vi 0):=by rw [hr.cell]; rfl
 have z2:=hr.frozen 2
 have hne:b1≠br:=h1.ne hr (by decide)
 clear h0 h1 hr
 go_enter_d Tryz.func189,Tryz.ntmps189
 go_wp2_with fail
 go_end0
 exact ⟨rfl,rfl⟩
theorem Po (b0 b1 b2 br:Nat) (A:Option Addr) (n c:Nat) (off last start err:Int) (v:Value) (w:World) (h0:At w b0 3 [vi start]) (h1:At w b1 124 [vP br 0]) (h2:At w b2 9 [v]) (hr:At w br 187 [.slice A n c,vi off,vi last,vi err]) (he:err≠0) (hb:b2≠b0∧b2≠br) :
  CallsD Tryz.prog 189 #[vP b0 0,vP b1 0,vP b2 0] .returning w fun e u' w'=>u' = .returning∧e = .returned (.tuple #[])∧w'=((w.setCell ⟨br,2,none⟩ (vi start)).setCell ⟨br,1,none⟩ (vi start)).setCell ⟨b2,0,none⟩ (.string ⟨#[]⟩):=by
 have c0:w.cell? ⟨b0,0,none⟩=some (Value.int .i64 start):=by rw [h0.cell]; rfl
 have c1:w.cell? ⟨b1,0,none⟩=some (Value.pointer (some ⟨br,0,none⟩)):=by rw [h1.cell]; rfl
 have cr1:w.cell? ⟨br,1,none⟩=some (Value.int .i64 off):=by rw [hr.cell]; rfl
 have c2:w.cell? ⟨br,2,none⟩=some (Value.int .i64 last):=by rw [hr.cell]; rfl
 have c3:w.cell? ⟨br,3,none⟩=some (Value.int .i64 err):=by rw [hr.cell]; rfl
 have c4:w.cell? ⟨b2,0,none⟩=some v:=by rw [h2.cell]; rfl
 have z2:=hr.frozen 2
 have z1:=hr.frozen 1
 have z4:=h2.frozen 0
 have hne:b1≠br:=h1.ne hr (by decide)
 have hne2:b2≠br:=hb.2
 have hne0:b0≠br:=h0.ne hr (by decide)
 have heb:(err != 0)=true:=by simpa using he
 clear h0 h1 hr h2 he hb
 go_enter_d Tryz.func189,Tryz.ntmps189
 go_wp2_with fail
 go_end0
 exact ⟨rfl,rfl⟩
set_option maxHeartbeats 4000000 in
theorem Pp (br:Nat) (D:List UInt8) (off last m:Nat) (x:List UInt8) (bx by_:Nat) (w:World) (hr:aX X w br D off last 0)
  (hdec:∀ W,Fr [] w W→aX X W br D off last 0→Calls Tryz.prog 223 #[vP bx 0,vP by_ 0] W fun e w'=>e = .returned (.tuple #[.string (aT x),vi 0])∧Fr [br] W w'∧aX X w' br D m last 0) :
  Calls Tryz.prog 163 #[vP br 0,.func (.func 223) #[] #[vP bx 0,vP by_ 0]] w fun e w'=>e = .returned (vS x)∧Fr [br] w w'∧aX X w' br D m off 0:=by
 obtain ⟨A,c,hX,ha,hrow⟩:=hr
 have c1:w.cell? ⟨br,1,none⟩=some (Value.int .i64 (off:Int)):=by rw [ha.cell]; rfl
 have c3:w.cell? ⟨br,3,none⟩=some (vi 0):=by rw [ha.cell]; rfl
 have hlt:=ha.lt
 have HR:=Lib.hid (And.intro ha hrow)
 have HD:=Lib.hid hdec
 clear ha hrow hdec
 have hmf:∀ (fn:Fn) (first cap:Array Value) (w:World),(Instr.makeFunc fn first cap).run Tryz.prog w = .ok (.func fn first cap) w:=fun _ _ _ _=>rfl
 go_enter_defers Tryz.func163,Tryz.ntmps163
 go_wp2_with fail
 obtain ⟨W,hW⟩:∃ W,W=((w.alloc (Obj.cells #[vP br 0] 124)).alloc (Obj.cells #[Value.string ⟨#[]⟩] 9)).alloc (Obj.cells #[vi (off:Int)] 3):=⟨_,rfl⟩
 rw [← hW]
 have HW:Hid (At W w.heap.size 124 [vP br 0]∧At W (w.heap.size+1) 9 [Value.string ⟨#[]⟩]∧At W (w.heap.size+1+1) 3 [vi (off:Int)]∧Fr [] w W∧aX X W br D off last 0):=by
  rw [hW]
  refine ⟨((At.new w 124 [vP br 0]).alloc _).alloc _,?_,?_,(((Fr.refl _ _).alloc _).alloc _).alloc _,A,c,hX,((HR.out.1.alloc _).alloc _).alloc _,((HR.out.2.alloc _).alloc _).alloc _⟩
  ·have:=(At.new (w.alloc (Obj.cells #[vP br 0] 124)) 9 [Value.string ⟨#[]⟩]).alloc (Obj.cells #[vi (off:Int)] 3)
   simpa using this
  ·have:=At.new ((w.alloc (Obj.cells #[vP br 0] 124)).alloc (Obj.cells #[Value.string ⟨#[]⟩] 9)) 3 [vi (off:Int)]
   simpa using this
 clear hW c1 c3
 have d0:W.cell? ⟨w.heap.size,0,none⟩=some (Value.pointer (some ⟨br,0,none⟩)):=by rw [HW.out.1.cell]; rfl
 have nb1:w.heap.size≠br:=om
 have nb2:br≠w.heap.size:=om
 go_region_held3 (fun w'=>w'.cell? ⟨w.heap.size,0,none⟩=some (Value.pointer (some ⟨br,0,none⟩))) (go_keep) (first | (go_at_call 223; refine (HD.out W.drew (by exact HW.out.2.2.2.1.drew) (by exact HW.out.2.2.2.2)).mono ?_; rintro e w1 ⟨rfl,hf1,hr1⟩; obtain ⟨e0,e1,z1,e3,z3⟩:=oM (W:=W) HW.out.1 HW.out.2.1 HW.out.2.2.2.2 hf1 hr1; have H1:=Lib.hid (And.intro hf1 hr1); clear hf1 hr1))
 go_wp2_with fail
 obtain ⟨k0,k1,k2,k3,kf⟩:=oN HW.out.1 HW.out.2.1 HW.out.2.2.1 HW.out.2.2.2.2 H1.out.1 H1.out.2 (Value.string (aT x)) (vi 0) om (by decide)
 refine leaves_cons (f:=189) (args:=#[Value.pointer (some ⟨w.heap.size+1+1,0,none⟩),Value.pointer (some ⟨w.heap.size,0,none⟩),Value.pointer (some ⟨w.heap.size+1,0,none⟩)]) si (by simp [go_sem]) ?_
 obtain ⟨A',c',hX',k3'⟩:=k3
 refine (Pn _ _ _ br A' _ c' _ _ _ _ k2 k0 k3'.1).mono ?_
 rintro e u' w'' ⟨rfl,rfl,rfl⟩
 obtain ⟨g1,g2,g3⟩:=wJ (off:=off) HW.out.2.2.2.1 kf om k1 (by decide) k3'.1 k3'.2 hX'
 exact ⟨Value.string (aT x),by simp [results,Tryz.results163,go_sem,g1],rfl,g2,g3⟩
set_option maxHeartbeats 4000000 in
theorem CM (br:Nat) (D:List UInt8) (off last:Nat) (er:Int) (x:List UInt8) (bx by_:Nat) (w:World) (hr:aX X w br D off last 0) (he:er≠0)
  (hdec:∀ W,Fr [] w W→aX X W br D off last 0→Calls Tryz.prog 223 #[vP bx 0,vP by_ 0] W fun e w'=>e = .returned (.tuple #[.string (aT x),vi er])∧Fr [br] W w'∧∃ off':Nat,aX X w' br D off' last 0) :
  Calls Tryz.prog 163 #[vP br 0,.func (.func 223) #[] #[vP bx 0,vP by_ 0]] w fun e w'=>e = .returned (.string ⟨#[]⟩)∧Fr [br] w w'∧aX X w' br D off off er:=by
 have HE:=Lib.hid he
 clear he
 obtain ⟨A,c,hX,ha,hrow⟩:=hr
 have c1:w.cell? ⟨br,1,none⟩=some (Value.int .i64 (off:Int)):=by rw [ha.cell]; rfl
 have c3:w.cell? ⟨br,3,none⟩=some (vi 0):=by rw [ha.cell]; rfl
 have hlt:=ha.lt
 have HR:=Lib.hid (And.intro ha hrow)
 have HD:=Lib.hid hdec
 clear ha hrow hdec
 have hmf:∀ (fn:Fn) (first cap:Array Value) (w:World),(Instr.makeFunc fn first cap).run Tryz.prog w = .ok (.func fn first cap) w:=fun _ _ _ _=>rfl
 go_enter_defers Tryz.func163,Tryz.ntmps163
 go_wp2_with fail
 obtain ⟨W,hW⟩:∃ W,W=((w.alloc (Obj.cells #[vP br 0] 124)).alloc (Obj.cells #[Value.string ⟨#[]⟩] 9)).alloc (Obj.cells #[vi (off:Int)] 3):=⟨_,rfl⟩
 rw [← hW]
 have HW:Hid (At W w.heap.size 124 [vP br 0]∧At W (w.heap.size+1) 9 [Value.string ⟨#[]⟩]∧At W (w.heap.size+1+1) 3 [vi (off:Int)]∧Fr [] w W∧aX X W br D off last 0):=by
  rw [hW]
  refine ⟨((At.new w 124 [vP br 0]).alloc _).alloc _,?_,?_,(((Fr.refl _ _).alloc _).alloc _).alloc _,A,c,hX,((HR.out.1.alloc _).alloc _).alloc _,((HR.out.2.alloc _).alloc _).alloc _⟩
  ·have:=(At.new (w.alloc (Obj.cells #[vP br 0] 124)) 9 [Value.string ⟨#[]⟩]).alloc (Obj.cells #[vi (off:Int)] 3)
   simpa using this
  ·have:=At.new ((w.alloc (Obj.cells #[vP br 0] 124)).alloc (Obj.cells #[Value.string ⟨#[]⟩] 9)) 3 [vi (off:Int)]
   simpa using this
 clear hW c1 c3
 have d0:W.cell? ⟨w.heap.size,0,none⟩=some (Value.pointer (some ⟨br,0,none⟩)):=by rw [HW.out.1.cell]; rfl
 have nb1:w.heap.size≠br:=om
 have nb2:br≠w.heap.size:=om
 go_region_held3 (fun w'=>w'.cell? ⟨w.heap.size,0,none⟩=some (Value.pointer (some ⟨br,0,none⟩))) (go_keep) (first | (go_at_call 223; refine (HD.out W.drew (by exact HW.out.2.2.2.1.drew) (by exact HW.out.2.2.2.2)).mono ?_; rintro e w1 ⟨rfl,hf1,off',hr1⟩; obtain ⟨e0,e1,z1,e3,z3⟩:=oM (W:=W) HW.out.1 HW.out.2.1 HW.out.2.2.2.2 hf1 hr1; have H1:=Lib.hid (And.intro hf1 hr1); clear hf1 hr1))
 go_wp2_with fail
 obtain ⟨k0,k1,k2,k3,kf⟩:=oN HW.out.1 HW.out.2.1 HW.out.2.2.1 HW.out.2.2.2.2 H1.out.1 H1.out.2 (Value.string (aT x)) (Value.int .i64 er) om (by decide)
 refine leaves_cons (f:=189) (args:=#[Value.pointer (some ⟨w.heap.size+1+1,0,none⟩),Value.pointer (some ⟨w.heap.size,0,none⟩),Value.pointer (some ⟨w.heap.size+1,0,none⟩)]) si (by simp [go_sem]) ?_
 obtain ⟨A',c',hX',k3'⟩:=k3
 refine (Po _ _ _ br A' _ c' _ _ _ er (Value.string (aT x)) _ k2 k0 k1 k3'.1 HE.out om).mono ?_
 rintro e u' w'' ⟨rfl,rfl,rfl⟩
 obtain ⟨g1,g2,g3⟩:=wK (off:=off) (z:=Value.string ⟨#[]⟩) HW.out.2.2.2.1 kf om k1 (by decide) (by decide) k3'.1 k3'.2 hX'
 exact ⟨Value.string ⟨#[]⟩,by simp [results,Tryz.results163,go_sem,g1],rfl,g2,g3⟩
theorem Pq (br:Nat) (r:Rd) (fv:Value) (w:World) (hr:bA X w br r) (h0:r.err≠0) :
  Calls Tryz.prog 163 #[vP br 0,fv] w fun e w'=>e = .returned (.string ⟨#[]⟩)∧Fr [] w w'∧bA X w' br r:=by
 have hr0:=hr
 obtain ⟨A,c,hX,ha,hrow⟩:=hr
 have c3:w.cell? ⟨br,3,none⟩=some (Value.int .i64 r.err):=by rw [ha.cell]; rfl
 have hb:(r.err != 0)=true:=by simpa using h0
 have hlt:=ha.lt
 have HR:=Lib.hid hr0
 clear ha hrow hr0 h0
 go_enter_defers Tryz.func163,Tryz.ntmps163
 go_wp2_with fail
 have hf:Fr [] w ((w.alloc (Obj.cells #[vP br 0] 124)).alloc (Obj.cells #[Value.string ⟨#[]⟩] 9)):=((Fr.refl _ _).alloc _).alloc _
 exact ⟨Value.string ⟨#[]⟩,by simp [results,Tryz.results163,go_sem],rfl,hf,aX.fr HR.out hf⟩
def Rd.text (r : Rd) (most : Nat) : List UInt8 × Rd := if r.err = 0 then (match dE r.D r.off with
 | none => ([], r.fail 3)
 | some (n, m) => if most < n then ([], r.fail 2) else if m + n ≤ r.D.length then ((r.D.drop m).take n, r.done (m + n)) else ([], r.fail 3)) else ([], r)
theorem Pr (br:Nat) (r:Rd) (most:Nat) (w:World) (hr:bA X w br r) (_hk:r.Ok) (_hm:most≤4294967296) (h0:r.err≠0) :
  Calls Tryz.prog 213 #[vP br 0,vi (most:Int)] w fun e w'=>e = .returned (vS ((r.text most).1))∧Fr [br] w w'∧bA X w' br (r.text most).2:=by
 have HR:=Lib.hid hr
 clear hr
 refine bK Tryz.func213 8 (Mm.start w []) rfl<|Nc<|Nx<|pB [(vP br 0)] fun b2=>Nx<|pB [(vI most)] fun b3=>lx rfl<|Nb<|lL 0 rfl<|lk (.func (.func 223) #[] #[(vP b2 0),(vP b3 0)])<|Nx<|mF 163 #[(vP br 0),(.func (.func 223) #[] #[(vP b2 0),(vP b3 0)])] rfl kr (fun _=>kr) (fun w1 hM=>?_)
 have HR1:Hid (bA X w1 br r):=aX.fr HR.out hM.fr
 have HB1:Hid (At w1 b2 124 [vP br 0]):=hM.at (i:=0) rfl
 have HB2:Hid (At w1 b3 3 [vi (most:Int)]):=hM.at (i:=1) rfl
 have HF1:=Lib.hid hM.fr
 refine (Pq br r _ w1 HR1.out h0).mono ?_
 rintro e w2 ⟨rfl,hf,hr2⟩
 refine ⟨_,w2,[],[],rfl,Mm.start w2 [],?_⟩
 clear hM
 exact lx rfl<|Nd<|sN [(.string ⟨#[]⟩)] fun w hM=>⟨by unfold Rd.text; rw [if_neg h0]; rfl,((HF1.out.trans hf).trans hM.fr).mono si,by unfold Rd.text; rw [if_neg h0]; exact aX.fr hr2 hM.fr⟩
theorem Ps (br:Nat) (r:Rd) (most:Nat) (w:World) (hr:bA X w br r) (hk:r.Ok) (hm:most≤4294967296) (h0:r.err=0) (n m:Nat) (hd:dE r.D r.off=some (n,m)) (hn:n≤most) (hf':m+n≤r.D.length) :
  Calls Tryz.prog 213 #[vP br 0,vi (most:Int)] w fun e w'=>e = .returned (vS ((r.text most).1))∧Fr [br] w w'∧bA X w' br (r.text most).2:=by
 have HR:=Lib.hid hr
 clear hr
 refine bK Tryz.func213 8 (Mm.start w []) rfl<|Nc<|Nx<|pB [(vP br 0)] fun b2=>Nx<|pB [(vI most)] fun b3=>lx rfl<|Nb<|lL 0 rfl<|lk (.func (.func 223) #[] #[(vP b2 0),(vP b3 0)])<|Nx<|mF 163 #[(vP br 0),(.func (.func 223) #[] #[(vP b2 0),(vP b3 0)])] rfl kr (fun _=>kr) (fun w1 hM=>?_)
 have HR1:Hid (bA X w1 br r):=aX.fr HR.out hM.fr
 have HB1:Hid (At w1 b2 124 [vP br 0]):=hM.at (i:=0) rfl
 have HB2:Hid (At w1 b3 3 [vi (most:Int)]):=hM.at (i:=1) rfl
 have HF1:=Lib.hid hM.fr
 refine (Pp br r.D r.off r.last (m+n) ((r.D.drop m).take n) b2 b3 w1 (by have h:=HR1.out; unfold bA at h; rw [h0] at h; exact h) (fun W hf hr=>Ph b2 b3 br r.D r.off r.last most W (HB1.out.fr hf si) (HB2.out.fr hf si) hr hk.len hk.off hm n m hd hn hf')).mono ?_
 rintro e w2 ⟨rfl,hf,hr2⟩
 refine ⟨_,w2,[],[],rfl,Mm.start w2 [],?_⟩
 clear hM
 exact lx rfl<|Nd<|sN [(vS ((r.D.drop m).take n))] fun w hM=>⟨by unfold Rd.text; rw [if_pos h0,hd]; dsimp only; rw [if_neg om,if_pos hf']; rfl,((HF1.out.mono si).trans hf).trans (hM.fr.mono si),by unfold Rd.text; rw [if_pos h0,hd]; dsimp only; rw [if_neg om,if_pos hf']; unfold Rd.done bA; have h:=aX.fr hr2 hM.fr; rw [← h0] at h; exact h⟩
theorem Pt (br:Nat) (r:Rd) (most:Nat) (w:World) (hr:bA X w br r) (hk:r.Ok) (hm:most≤4294967296) (h0:r.err=0) (n m:Nat) (hd:dE r.D r.off=some (n,m)) (hn:n≤most) (hf':r.D.length < m+n) :
  Calls Tryz.prog 213 #[vP br 0,vi (most:Int)] w fun e w'=>e = .returned (vS ((r.text most).1))∧Fr [br] w w'∧bA X w' br (r.text most).2:=by
 have HR:=Lib.hid hr
 clear hr
 refine bK Tryz.func213 8 (Mm.start w []) rfl<|Nc<|Nx<|pB [(vP br 0)] fun b2=>Nx<|pB [(vI most)] fun b3=>lx rfl<|Nb<|lL 0 rfl<|lk (.func (.func 223) #[] #[(vP b2 0),(vP b3 0)])<|Nx<|mF 163 #[(vP br 0),(.func (.func 223) #[] #[(vP b2 0),(vP b3 0)])] rfl kr (fun _=>kr) (fun w1 hM=>?_)
 have HR1:Hid (bA X w1 br r):=aX.fr HR.out hM.fr
 have HB1:Hid (At w1 b2 124 [vP br 0]):=hM.at (i:=0) rfl
 have HB2:Hid (At w1 b3 3 [vi (most:Int)]):=hM.at (i:=1) rfl
 have HF1:=Lib.hid hM.fr
 refine (CM br r.D r.off r.last 3 [] b2 b3 w1 (by have h:=HR1.out; unfold bA at h; rw [h0] at h; exact h) (by decide) (fun W hf hr=>Pj b2 b3 br r.D r.off r.last most W (HB1.out.fr hf si) (HB2.out.fr hf si) hr hk.len hk.off hm n m hd hn hf')).mono ?_
 rintro e w2 ⟨rfl,hf,hr2⟩
 refine ⟨_,w2,[],[],rfl,Mm.start w2 [],?_⟩
 clear hM
 exact lx rfl<|Nd<|sN [(.string ⟨#[]⟩)] fun w hM=>⟨by unfold Rd.text; rw [if_pos h0,hd]; dsimp only; rw [if_neg om,if_neg om]; rfl,((HF1.out.mono si).trans hf).trans (hM.fr.mono si),by unfold Rd.text; rw [if_pos h0,hd]; dsimp only; rw [if_neg om,if_neg om]; unfold Rd.fail bA; exact aX.fr hr2 hM.fr⟩
theorem Pu (br:Nat) (r:Rd) (most:Nat) (w:World) (hr:bA X w br r) (hk:r.Ok) (hm:most≤4294967296) (h0:r.err=0) (n m:Nat) (hd:dE r.D r.off=some (n,m)) (hn:most < n) :
  Calls Tryz.prog 213 #[vP br 0,vi (most:Int)] w fun e w'=>e = .returned (vS ((r.text most).1))∧Fr [br] w w'∧bA X w' br (r.text most).2:=by
 have HR:=Lib.hid hr
 clear hr
 refine bK Tryz.func213 8 (Mm.start w []) rfl<|Nc<|Nx<|pB [(vP br 0)] fun b2=>Nx<|pB [(vI most)] fun b3=>lx rfl<|Nb<|lL 0 rfl<|lk (.func (.func 223) #[] #[(vP b2 0),(vP b3 0)])<|Nx<|mF 163 #[(vP br 0),(.func (.func 223) #[] #[(vP b2 0),(vP b3 0)])] rfl kr (fun _=>kr) (fun w1 hM=>?_)
 have HR1:Hid (bA X w1 br r):=aX.fr HR.out hM.fr
 have HB1:Hid (At w1 b2 124 [vP br 0]):=hM.at (i:=0) rfl
 have HB2:Hid (At w1 b3 3 [vi (most:Int)]):=hM.at (i:=1) rfl
 have HF1:=Lib.hid hM.fr
 refine (CM br r.D r.off r.last 2 [] b2 b3 w1 (by have h:=HR1.out; unfold bA at h; rw [h0] at h; exact h) (by decide) (fun W hf hr=>Pk b2 b3 br r.D r.off r.last most W (HB1.out.fr hf si) (HB2.out.fr hf si) hr hk.len hk.off hm n m hd hn)).mono ?_
 rintro e w2 ⟨rfl,hf,hr2⟩
 refine ⟨_,w2,[],[],rfl,Mm.start w2 [],?_⟩
 clear hM
 exact lx rfl<|Nd<|sN [(.string ⟨#[]⟩)] fun w hM=>⟨by unfold Rd.text; rw [if_pos h0,hd]; dsimp only; rw [if_pos hn]; rfl,((HF1.out.mono si).trans hf).trans (hM.fr.mono si),by unfold Rd.text; rw [if_pos h0,hd]; dsimp only; rw [if_pos hn]; unfold Rd.fail bA; exact aX.fr hr2 hM.fr⟩
theorem Pv (br:Nat) (r:Rd) (most:Nat) (w:World) (hr:bA X w br r) (hk:r.Ok) (hm:most≤4294967296) (h0:r.err=0) (hd:dE r.D r.off=none) :
  Calls Tryz.prog 213 #[vP br 0,vi (most:Int)] w fun e w'=>e = .returned (vS ((r.text most).1))∧Fr [br] w w'∧bA X w' br (r.text most).2:=by
 have HR:=Lib.hid hr
 clear hr
 refine bK Tryz.func213 8 (Mm.start w []) rfl<|Nc<|Nx<|pB [(vP br 0)] fun b2=>Nx<|pB [(vI most)] fun b3=>lx rfl<|Nb<|lL 0 rfl<|lk (.func (.func 223) #[] #[(vP b2 0),(vP b3 0)])<|Nx<|mF 163 #[(vP br 0),(.func (.func 223) #[] #[(vP b2 0),(vP b3 0)])] rfl kr (fun _=>kr) (fun w1 hM=>?_)
 have HR1:Hid (bA X w1 br r):=aX.fr HR.out hM.fr
 have HB1:Hid (At w1 b2 124 [vP br 0]):=hM.at (i:=0) rfl
 have HB2:Hid (At w1 b3 3 [vi (most:Int)]):=hM.at (i:=1) rfl
 have HF1:=Lib.hid hM.fr
 refine (CM br r.D r.off r.last 3 [] b2 b3 w1 (by have h:=HR1.out; unfold bA at h; rw [h0] at h; exact h) (by decide) (fun W hf hr=>Pm b2 b3 br r.D r.off r.last most W (HB1.out.fr hf si) (HB2.out.fr hf si) hr hk.len hk.off hm hd)).mono ?_
 rintro e w2 ⟨rfl,hf,hr2⟩
 refine ⟨_,w2,[],[],rfl,Mm.start w2 [],?_⟩
 clear hM
 exact lx rfl<|Nd<|sN [(.string ⟨#[]⟩)] fun w hM=>⟨by unfold Rd.text; rw [if_pos h0,hd]; dsimp only; rfl,((HF1.out.mono si).trans hf).trans (hM.fr.mono si),by unfold Rd.text; rw [if_pos h0,hd]; dsimp only; unfold Rd.fail bA; exact aX.fr hr2 hM.fr⟩
theorem Pw (br:Nat) (r:Rd) (most:Nat) (w:World) (hr:bA X w br r) (hk:r.Ok) (hm:most≤4294967296):Calls Tryz.prog 213 #[vP br 0,vi (most:Int)] w fun e w'=>e = .returned (vS ((r.text most).1))∧Fr [br] w w'∧bA X w' br (r.text most).2:=by
 by_cases h0:r.err=0
 ·cases hd:dE r.D r.off with
  | none=>exact Pv br r most w hr hk hm h0 hd
  | some p =>
    obtain ⟨n,m⟩:=p
    by_cases hn:n≤most
    ·by_cases hf:m+n≤r.D.length
     ·exact Ps br r most w hr hk hm h0 n m hd hn hf
     ·exact Pt br r most w hr hk hm h0 n m hd hn om
    ·exact Pu br r most w hr hk hm h0 n m hd om
 ·exact Pr br r most w hr hk hm h0
end
def bH (X : Option Addr × Nat) (br : Nat) (r : Rd) : Ch where
 fp := br :: cZ X.1
 holds w := bA X w br r ∧ r.Ok
 ok w w' hb h := by
  obtain ⟨⟨A, c, hX, h1, h2⟩, hk⟩ := h
  subst hX
  refine ⟨⟨A, c, rfl, ?_, ?_⟩, hk⟩
  ·exact (aD br 187 _).ok w w' (fun b hb1 => hb b (by rw [show b = br from List.mem_singleton.1 hb1]; exact List.mem_cons_self)) h1
  ·exact (aR 5 1 A r.D.length c (B8 r.D)).ok w w' (fun b hb1 => hb b (List.mem_cons_of_mem _ hb1)) h2
 lt w h b hb := by
  obtain ⟨⟨A, c, hX, h1, h2⟩, hk⟩ := h
  subst hX
  rcases List.mem_cons.1 hb with rfl | hb
  ·exact h1.lt
  ·exact (aR 5 1 A r.D.length c (B8 r.D)).lt w h2 b hb
theorem Hm {X:Option Addr × Nat} {w:World} {br:Nat} {r:Rd} (h:bA X w br r):(br::cZ X.1).Nodup:=by
 obtain ⟨A,c,hX,h1,h2⟩:=h
 subst hX
 refine List.nodup_cons.2 ⟨fun hb=>?_,rN A⟩
 have h3:=jZ h2 h1 (by decide)
 cases A with
 | none=>simp [cZ] at hb
 | some a =>
   have:br=a.block:=by simpa [cZ] using hb
   exact h3 (by rw [this]; rfl)
theorem sE {X:Option Addr × Nat} {w w':World} {br:Nat} {r r':Rd} (hO:cE [bH X br r] w) (hf:Fr [br] w w') (hr:bA X w' br r') (hk:r'.Ok):aJ [bH X br r] w [bH X br r'] w' :=
 hO.swap 0 (c':=bH X br r') rfl (hf.mono (S':=br::cZ X.1) si) ⟨hr,hk⟩ (fun b hb=>.inl hb) (Hm hr)
theorem Px {w w':World} {br:Nat} {A:Option Addr} {c:Nat} {r:Rd} (hf:Fr [] w w') (hr:bA (A,c) w' br r) (hk:r.Ok) (hb:w.heap.size≤br) (ho:w'.ownsRow w.heap.size 5 1 (.slice A r.D.length c) r.D.length (B8 r.D)):aJ [] w [bH (A,c) br r] w' :=
 (Mm.start w []).push (c:=bH (A,c) br r) hf ⟨hr,hk⟩ (fun b hb1=>by
  rcases List.mem_cons.1 hb1 with rfl | hb1
  ·exact hb
  ·rcases ho.2 with ⟨hv,_⟩ | ⟨g,cap,cur,hv,hge,_⟩
   ·simp only [Value.slice.injEq] at hv
    obtain ⟨rfl,_,rfl⟩:=hv
    simp [cZ] at hb1
   ·simp only [Value.slice.injEq] at hv
    obtain ⟨rfl,_,rfl⟩:=hv
    have:b=g:=by simpa [cZ] using hb1
    rw [this]
    exact hge) (Hm hr)
def Rd.cnt (r : Rd) (m : Nat) : Nat × Rd := r.count (m : Int)
theorem Rd.Ok.cnt {r:Rd} (h:r.Ok) (most:Nat):(r.cnt most).2.Ok:=by
 unfold Rd.cnt Rd.count
 split
 ·cases hd:dE r.D r.off with
  | none=>exact ⟨h.off,h.len⟩
  | some p =>
    simp only
    split
    ·exact ⟨h.off,h.len⟩
    ·exact ⟨(pP _ _ p.1 p.2 hd).2.1,h.len⟩
 ·exact h
theorem Rd.Ok.text {r:Rd} (h:r.Ok) (most:Nat):(r.text most).2.Ok:=by
 unfold Rd.text
 split
 ·cases hd:dE r.D r.off with
  | none=>exact ⟨h.off,h.len⟩
  | some p =>
    obtain ⟨n,m⟩:=p
    dsimp only
    split
    ·exact ⟨h.off,h.len⟩
    ·split
     ·exact ⟨ag,h.len⟩
     ·exact ⟨h.off,h.len⟩
 ·exact h
theorem uN (X:Option Addr × Nat) (br:Nat) (r:Rd) (w:World) (hO:cE [bH X br (r)] w) :
  Calls Tryz.prog 102 #[(vP br 0)] w fun e w'=>e = .returned (.int .u64 ((r.uint.1:Nat):Int))∧aJ [bH X br (r)] w [bH X br (r.uint.2)] w':=by
 have h:=hO.at (i:=0) rfl; obtain ⟨hr,hk⟩:bA X w br r∧r.Ok:=h
 refine (qN br r w hr hk).mono ?_
 rintro e w' ⟨rfl,hf,hr2⟩
 exact ⟨rfl,sE hO hf hr2 hk.uint'⟩
theorem Hn (X:Option Addr × Nat) (br:Nat) (r:Rd) (most:Nat) (w:World) (hO:cE [bH X br (r)] w) (hm:most≤4294967296) :
  Calls Tryz.prog 182 #[(vP br 0),(vI most)] w fun e w'=>e = .returned (vI ((r.cnt most).1))∧aJ [bH X br (r)] w [bH X br ((r.cnt most).2)] w':=by
 have h:=hO.at (i:=0) rfl; obtain ⟨hr,hk⟩:bA X w br r∧r.Ok:=h
 refine (NA br r (most:Int) w hr hk ⟨om,om⟩).mono ?_
 rintro e w' ⟨rfl,hf,hr2⟩
 exact ⟨rfl,sE hO hf hr2 (hk.cnt most)⟩
theorem Py (X:Option Addr × Nat) (br:Nat) (r:Rd) (most:Nat) (w:World) (hO:cE [bH X br (r)] w) (hm:most≤4294967296) :
  Calls Tryz.prog 213 #[(vP br 0),(vI most)] w fun e w'=>e = .returned (vS ((r.text most).1))∧aJ [bH X br (r)] w [bH X br ((r.text most).2)] w':=by
 have h:=hO.at (i:=0) rfl; obtain ⟨hr,hk⟩:bA X w br r∧r.Ok:=h
 refine (Pw br r most w hr hk hm).mono ?_
 rintro e w' ⟨rfl,hf,hr2⟩
 exact ⟨rfl,sE hO hf hr2 (hk.text most)⟩
theorem CN (X:Option Addr × Nat) (br:Nat) (r:Rd) (w:World) (hO:cE [bH X br (r)] w) :
  Calls Tryz.prog 122 #[(vP br 0)] w fun e w'=>e = .returned (vS r.sum.1)∧aJ [bH X br (r)] w [bH X br (r.sum.2)] w':=by
 have h:=hO.at (i:=0) rfl; obtain ⟨hr,hk⟩:bA X w br r∧r.Ok:=h
 refine (Gn br r w hr hk).mono ?_
 rintro e w' ⟨rfl,hf,hr2⟩
 exact ⟨rfl,sE hO hf hr2 hk.sum⟩
theorem sF (X:Option Addr × Nat) (br:Nat) (r:Rd) (w:World) (hO:cE [bH X br (r)] w) :
  Calls Tryz.prog 77 #[(vP br 0)] w fun e w'=>e = .returned (.tuple #[(vI r.off),(.int .i64 r.end_)])∧aJ [bH X br (r)] w [bH X br (r)] w':=by
 have h:=hO.at (i:=0) rfl; obtain ⟨hr,hk⟩:bA X w br r∧r.Ok:=h
 refine (Gk br r w hr hk).mono ?_
 rintro e w' ⟨rfl,hf⟩
 exact ⟨rfl,sE hO (hf.mono si) (aX.fr hr hf) hk⟩
theorem sG (A:Option Addr) (c:Nat) (D:List UInt8) (w:World) (r0:Rf [] w (fun w=>aH w A (B8 D))) (hD:D.length≤4294967296) :
  Calls Tryz.prog 72 #[(vL A D c)] w fun e w'=>∃ (X:Option Addr × Nat) (br:Nat),e = .returned (vP br 0)∧aJ [] w [bH X br (Rd.mk D 0 0 0)] w':=by
 refine (zD A c D w hD r0.here).mono ?_
 rintro e w' ⟨br,A2,c2,rfl,hb,hf,hr,ho⟩
 exact ⟨(A2,c2),br,rfl,Px hf hr ⟨Nat.zero_le _,hD⟩ hb ho⟩
theorem sH (X:Option Addr × Nat) (br:Nat) (r:Rd) (w:World) (hO:cE [bH X br (r)] w) :
  Calls Tryz.prog 75 #[(vP br 0)] w fun e w'=>e = .returned (vI (r.D.length - r.off))∧aJ [bH X br (r)] w [bH X br (r)] w':=by
 have h:=hO.at (i:=0) rfl; obtain ⟨hr,hk⟩:bA X w br r∧r.Ok:=h
 obtain ⟨A,c,hX,ha,hown⟩:=hr
 have hkl:=hk.len; have hko:=hk.off
 have hnb:∀ g,(Value.slice A r.D.length c).ownBlock=some g→g∉[br]:=fun g hg=>by
  have h1:=jZ hown ha (by decide)
  simp only [List.mem_singleton]
  rintro rfl
  exact h1 hg.symm
 refine dI Tryz.func75 13 (Mm.one ha) rfl<|Nc<|lx rfl<|Nf<|cQ _ 11 kr (fun _ h=>h)<|am 0 ?_
 refine aC 1 (vP br 0) rfl<|aC 2 (vP br 0) rfl<|al 3 0 ?_
 refine aC 4 (vI r.D.length) rfl ?_
 refine am 5 ?_
 refine aC 6 (vP br 0) rfl<|aC 7 (vP br 1) rfl<|al 8 0 ?_
 refine aV 9 (vI (r.D.length - r.off)) rfl (iB (kX _ rfl rfl rfl rfl om om) (by show Value.int _ _=Value.int _ _; rw [Int.ofNat_sub hk.off]))<|aa 10 ?_
 exact cF kr<|aI<|fX<|sN [(vI (r.D.length - r.off))] fun w hM=>⟨rfl,sE hO (hM.fr.mono si) ⟨A,c,hX,hM.at (i:=0) rfl,dY hown hM.fr hnb⟩ hk⟩
end Go.Proofs.YtdflaaiondmjdaaGreatDoor
