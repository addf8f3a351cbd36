/- Part 3 of a proof: what its row uses. -/
import Derived.Test.YtignomkdngnmgaaGreatDoorTk02
set_option maxRecDepth 100000
set_option maxHeartbeats 1000000
namespace Go.Proofs.YtignomkdngnmgaaGreatDoor
open Go.RowKit
theorem De {w:World} {bt bc c:Nat} {rest:List Value} {t:BT} (h:dU w bt bc c rest t) {i:Nat} {cc:BC} (hc:t.cells[i]?=some cc) (j:Nat) (v:Value) (hj:cc.cells[j]?=some v):w.cell? ⟨bc,i*34+j,none⟩=some v:=by
 have hj34:=(List.getElem?_eq_some_iff.1 hj).1
 rw [BC.mY (h.ok.cells cc (List.mem_of_getElem? hc))] at hj34
 rw [h.cells.cell,kR h.ok.cells rest i cc hc j hj34]
 exact hj
theorem Mm.XQ {w0 w w':World} {F:List Nat} {cs:List Ch} {b b':Nat} {t t':TypeId} {l l':List Value} (h:Mm w0 F cs w) (hf:Fr [] w w') (h1:At w' b t l) (h2:At w' b' t' l') (g1:w.heap.size≤b) (g2:w.heap.size≤b') (hne:b≠b'):Mm w0 F (cs++[aB b t l,aB b' t' l']) w':=by
 refine h.lift (cs':=[aB b t l,aB b' t' l']) ⟨hf,?_,?_,?_⟩
 ·intro c hc
  rcases List.mem_cons.1 hc with rfl | hc
  ·exact h1
  ·rw [List.mem_singleton] at hc; subst hc; exact h2
 ·simp [aB]; exact hne
 ·intro x hx
  simp [aB] at hx
  right
  omega
theorem Mm.Mx {w0 w:World} {b b' n cap seed:Nat} {rest:List Value} {t:BT} {l:List BC} (h:Mm w0 [] [aB b 73 [.slice (some ⟨b',0,none⟩) n cap,.int .u64 (seed:Int)],aB b' 79 (cO l++rest)] w) (hn:t.cells.length=n) (hs:t.seed=seed) (hl:l=t.cells) (hok:t.Ok) (hz:eW (n:Int)=true) (hc:n≤cap):Mm w0 [] [iW b b' cap rest t] w:=by
 subst hn hs hl
 refine ⟨h.fr,?_,?_,?_⟩
 ·intro c hc'
  rw [List.mem_singleton] at hc'
  subst hc'
  exact ⟨h.at (i:=0) rfl,h.at (i:=1) rfl,hok,hz,hc⟩
 ·have:=h.nodup
  simpa [iW,aB] using this
 ·intro x hx
  exact h.own x (by simpa [iW,aB] using hx)
theorem Qy (bt1 bc1 cap1 bt2 bc2 cap2:Nat) (rest1 rest2:List Value) (t u:BT) (w:World) (ht:dU w bt1 bc1 cap1 rest1 t) (hu:dU w bt2 bc2 cap2 rest2 u) (hne:t.cells.length≠u.cells.length) :
  Calls Tryz.prog 14 #[vP bt1 0,vP bt2 0] w fun e w'=>e = .returned (.tuple #[.pointer none,vi 1])∧Fr [] w w':=by
 have h1c:w.cell? ⟨bt1,0,none⟩=some (.slice (some ⟨bc1,0,none⟩) t.cells.length cap1):=by rw [ht.tab.cell]; rfl
 have h1s:w.cell? ⟨bt1,1,none⟩=some (.int .u64 (t.seed:Int)):=by rw [ht.tab.cell]; rfl
 have h2c:w.cell? ⟨bt2,0,none⟩=some (.slice (some ⟨bc2,0,none⟩) u.cells.length cap2):=by rw [hu.tab.cell]; rfl
 have h2s:w.cell? ⟨bt2,1,none⟩=some (.int .u64 (u.seed:Int)):=by rw [hu.tab.cell]; rfl
 obtain ⟨n,HN⟩:∃ n,Hid (n=t.cells.length):=⟨_,rfl⟩
 obtain ⟨seed,HS⟩:∃ seed,Hid (seed=t.seed):=⟨_,rfl⟩
 rw [← HN.out] at h1c
 rw [← HS.out] at h1s
 obtain ⟨n2,HN2⟩:∃ n,Hid (n=u.cells.length):=⟨_,rfl⟩
 obtain ⟨seed2,HS2⟩:∃ seed,Hid (seed=u.seed):=⟨_,rfl⟩
 rw [← HN2.out] at h2c
 rw [← HS2.out] at h2s
 have hnn:n≠n2:=by rw [HN.out,HN2.out]; exact hne
 clear hne
 refine bG Tryz.func14 99 (Mm.start w []) rfl<|Nc<|lx rfl<|Nf<|aQ<|dN [] 22 kr (fun _ h=>h)<|am 0 ?_
 refine aC 1 (vP bt1 0) rfl<|aC 2 (vP bt1 0) rfl<|aV 3 _ rfl (rW (fun w hM=>hM.eZ (h1c) si))<|aC 4 (vI n) rfl<|am 5 ?_
 refine aC 6 (vP bt2 0) rfl<|aC 7 (vP bt2 0) rfl<|aV 8 _ rfl (rW (fun w hM=>hM.eZ (h2c) si)) ?_
 refine aC 9 (vI n2) rfl ?_
 refine aC 10 (.bool ((((n:Nat):Int):Int) != ((n2:Nat):Int))) rfl ?_
 refine am 11 ?_
 exact Any.known 22 (b':=true) rfl (by simp; omega)<|pL (i:=12) (b:=true) rfl rfl rfl rfl kr kr (fun _ _ _ h=>h)<|pL (i:=13) (b:=true) rfl rfl rfl rfl kr kr (fun _ _ _ h=>h)<|pL (i:=14) (b:=true) rfl rfl rfl rfl kr kr (fun _ _ _ h=>h)<|pL (i:=15) (b:=true) rfl rfl rfl rfl kr kr (fun _ _ _ h=>h)<|pL (i:=16) (b:=true) rfl rfl rfl rfl kr kr (fun _ _ _ h=>h)<|pL (i:=17) (b:=true) rfl rfl rfl rfl kr kr (fun _ _ _ h=>h)<|pL (i:=18) (b:=true) rfl rfl rfl rfl kr kr (fun _ _ _ h=>h)<|pL (i:=19) (b:=true) rfl rfl rfl rfl kr kr (fun _ _ _ h=>h)<|pL (i:=20) (b:=true) rfl rfl rfl rfl kr kr (fun _ _ _ h=>h)<|aC 21 bT rfl<|dO kr<|aJ<|pJ rfl<|Nc<|lx rfl<|Nh<|sN [(.pointer none),(vi 1)] fun w hM=>⟨rfl,hM.fr⟩
theorem Qz (bt1 bc1 cap1 bt2 bc2 cap2:Nat) (rest1 rest2:List Value) (t u:BT) (w:World) (ht:dU w bt1 bc1 cap1 rest1 t) (hu:dU w bt2 bc2 cap2 rest2 u) (heq:t.cells.length=u.cells.length) (hne:t.seed≠u.seed) :
  Calls Tryz.prog 14 #[vP bt1 0,vP bt2 0] w fun e w'=>e = .returned (.tuple #[.pointer none,vi 1])∧Fr [] w w':=by
 have h1c:w.cell? ⟨bt1,0,none⟩=some (.slice (some ⟨bc1,0,none⟩) t.cells.length cap1):=by rw [ht.tab.cell]; rfl
 have h1s:w.cell? ⟨bt1,1,none⟩=some (.int .u64 (t.seed:Int)):=by rw [ht.tab.cell]; rfl
 have h2c:w.cell? ⟨bt2,0,none⟩=some (.slice (some ⟨bc2,0,none⟩) u.cells.length cap2):=by rw [hu.tab.cell]; rfl
 have h2s:w.cell? ⟨bt2,1,none⟩=some (.int .u64 (u.seed:Int)):=by rw [hu.tab.cell]; rfl
 obtain ⟨n,HN⟩:∃ n,Hid (n=t.cells.length):=⟨_,rfl⟩
 obtain ⟨seed,HS⟩:∃ seed,Hid (seed=t.seed):=⟨_,rfl⟩
 rw [← HN.out] at h1c
 rw [← HS.out] at h1s
 obtain ⟨seed2,HS2⟩:∃ seed,Hid (seed=u.seed):=⟨_,rfl⟩
 rw [← heq,← HN.out] at h2c
 rw [← HS2.out] at h2s
 have hnn:seed≠seed2:=by rw [HS.out,HS2.out]; exact hne
 clear hne
 refine bG Tryz.func14 99 (Mm.start w []) rfl<|Nc<|lx rfl<|Nf<|aQ<|dN [] 22 kr (fun _ h=>h)<|am 0 ?_
 refine aC 1 (vP bt1 0) rfl<|aC 2 (vP bt1 0) rfl<|aV 3 _ rfl (rW (fun w hM=>hM.eZ (h1c) si))<|aC 4 (vI n) rfl<|am 5 ?_
 refine aC 6 (vP bt2 0) rfl<|aC 7 (vP bt2 0) rfl<|aV 8 _ rfl (rW (fun w hM=>hM.eZ (h2c) si)) ?_
 refine aC 9 (vI n) rfl ?_
 refine aV 10 bF rfl (gC (v:=.bool ((((n:Nat):Int):Int) != ((n:Nat):Int))) (jG fun _=>by kernel_rfl) si) ?_
 refine am 11 ?_
 exact iK (i:=12) (vP bt1 0) rfl rfl rfl rfl kr kr (fun _ _ _ h=>h) (nH rfl rfl)<|iK (i:=13) (vP bt1 0) rfl rfl rfl rfl kr kr (fun _ _ _ h=>h) (jG fun _=>by kernel_rfl)<|iK (i:=14) (vP bt1 1) rfl rfl rfl rfl kr kr (fun _ _ _ h=>h) (jG fun _=>by kernel_rfl)<|iK (i:=15) (vU seed) rfl rfl rfl rfl kr kr (fun _ _ _ h=>h) (hJ rfl rfl kr (fun w hM=>hM.eZ (h1s) si))<|iK (i:=16) (vP bt2 0) rfl rfl rfl rfl kr kr (fun _ _ _ h=>h) (nH rfl rfl)<|iK (i:=17) (vP bt2 0) rfl rfl rfl rfl kr kr (fun _ _ _ h=>h) (jG fun _=>by kernel_rfl)<|iK (i:=18) (vP bt2 1) rfl rfl rfl rfl kr kr (fun _ _ _ h=>h) (jG fun _=>by kernel_rfl)<|iK (i:=19) (vU seed2) rfl rfl rfl rfl kr kr (fun _ _ _ h=>h) (hJ rfl rfl kr (fun w hM=>hM.eZ (h2s) si))<|iK (i:=20) (.bool (((seed:Nat):Int) != ((seed2:Nat):Int))) rfl rfl rfl rfl kr kr (fun _ _ _ h=>h) (jG fun _=>by kernel_rfl)<|aV 21 bT rfl (gC (v:=.bool (((seed:Nat):Int) != ((seed2:Nat):Int))) (jG fun _=>by kernel_rfl) (by simp; omega))<|dO kr<|aJ<|pJ rfl<|Nc<|lx rfl<|Nh<|sN [(.pointer none),(vi 1)] fun w hM=>⟨rfl,hM.fr⟩
theorem QA (bt1 bc1 cap1 bt2 bc2 cap2:Nat) (rest1 rest2:List Value) (t u:BT) (w:World) (ht:dU w bt1 bc1 cap1 rest1 t) (hu:dU w bt2 bc2 cap2 rest2 u) (heq:t.cells.length=u.cells.length) (hse:t.seed=u.seed) :
  Calls Tryz.prog 14 #[vP bt1 0,vP bt2 0] w fun e w'=>∃ btr bcr capr restr,e = .returned (.tuple #[vP btr 0,vi 0])∧Mm w [] [iW btr bcr capr restr (t.sub u)] w':=by
 have h1c:w.cell? ⟨bt1,0,none⟩=some (.slice (some ⟨bc1,0,none⟩) t.cells.length cap1):=by rw [ht.tab.cell]; rfl
 have h1s:w.cell? ⟨bt1,1,none⟩=some (.int .u64 (t.seed:Int)):=by rw [ht.tab.cell]; rfl
 have h2c:w.cell? ⟨bt2,0,none⟩=some (.slice (some ⟨bc2,0,none⟩) u.cells.length cap2):=by rw [hu.tab.cell]; rfl
 have h2s:w.cell? ⟨bt2,1,none⟩=some (.int .u64 (u.seed:Int)):=by rw [hu.tab.cell]; rfl
 obtain ⟨n,HN⟩:∃ n,Hid (n=t.cells.length):=⟨_,rfl⟩
 obtain ⟨seed,HS⟩:∃ seed,Hid (seed=t.seed):=⟨_,rfl⟩
 rw [← HN.out] at h1c
 rw [← HS.out] at h1s
 rw [← heq,← HN.out] at h2c
 rw [← hse,← HS.out] at h2s
 have n4:n≤3072:=by rw [HN.out]; exact (kE ht.size).2.1
 have HT:=Lib.hid ht
 have HU:=Lib.hid hu
 have HUL:Hid (u.cells.length=n):=by show _=_; rw [HN.out]; exact heq.symm
 clear ht hu heq hse
 refine bG Tryz.func14 99 (Mm.start w []) rfl<|Nc<|lx rfl<|Nf<|aQ<|dN [] 22 kr (fun _ h=>h)<|am 0 ?_
 refine aC 1 (vP bt1 0) rfl<|aC 2 (vP bt1 0) rfl<|aV 3 _ rfl (rW (fun w hM=>hM.eZ (h1c) si))<|aC 4 (vI n) rfl<|am 5 ?_
 refine aC 6 (vP bt2 0) rfl<|aC 7 (vP bt2 0) rfl<|aV 8 _ rfl (rW (fun w hM=>hM.eZ (h2c) si)) ?_
 refine aC 9 (vI n) rfl ?_
 refine aV 10 bF rfl (gC (v:=.bool ((((n:Nat):Int):Int) != ((n:Nat):Int))) (jG fun _=>by kernel_rfl) si) ?_
 refine am 11 ?_
 refine iK (i:=12) (vP bt1 0) rfl rfl rfl rfl kr kr (fun _ _ _ h=>h) (nH rfl rfl)<|iK (i:=13) (vP bt1 0) rfl rfl rfl rfl kr kr (fun _ _ _ h=>h) (jG fun _=>by kernel_rfl)<|iK (i:=14) (vP bt1 1) rfl rfl rfl rfl kr kr (fun _ _ _ h=>h) (jG fun _=>by kernel_rfl)<|iK (i:=15) (vU seed) rfl rfl rfl rfl kr kr (fun _ _ _ h=>h) (hJ rfl rfl kr (fun w hM=>hM.eZ (h1s) si))<|iK (i:=16) (vP bt2 0) rfl rfl rfl rfl kr kr (fun _ _ _ h=>h) (nH rfl rfl)<|iK (i:=17) (vP bt2 0) rfl rfl rfl rfl kr kr (fun _ _ _ h=>h) (jG fun _=>by kernel_rfl)<|iK (i:=18) (vP bt2 1) rfl rfl rfl rfl kr kr (fun _ _ _ h=>h) (jG fun _=>by kernel_rfl)<|iK (i:=19) (vU seed) rfl rfl rfl rfl kr kr (fun _ _ _ h=>h) (hJ rfl rfl kr (fun w hM=>hM.eZ (h2s) si))<|iK (i:=20) bF rfl rfl rfl rfl kr kr (fun _ _ _ h=>h) (gC (v:=.bool ((((seed:Nat):Int):Int) != ((seed:Nat):Int))) (jG fun _=>by kernel_rfl) si)<|aC 21 bF rfl<|dO kr<|aJ<|qL rfl<|Ni<|lx rfl<|Nx<|eN 36 #[(vP bt1 0)] rfl kr (fun _=>kr) (fun w hM=>(GZ bt1 bc1 cap1 rest1 t w (HT.out.fr hM.fr si si)).mono ?_)
 rintro e w' ⟨btr,bcr,capr,restr,rfl,hg1,hg2,hf,ht⟩
 have hM':=hM.XQ hf (by show At _ _ _ _; rw [HN.out,HS.out]; exact ht.tab:At w' btr 73 [.slice (some ⟨bcr,0,none⟩) n capr,.int .u64 (seed:Int)]) (by rw [Qr]; exact ht.cells:At w' bcr 79 (cO (iX t u t.cells 0)++restr)) hg1 hg2 ht.ne
 have hcap:=ht.cap
 rw [← HN.out] at hcap
 refine ⟨_,_,rfl,hM',?_⟩
 clear hM hM' hf ht hg1 hg2
 refine lx rfl<|Ne<|lx rfl<|lk (vP btr 0)<|lk (vP btr 0)<|lL 0 rfl<|lk (vI n)<|lx rfl<|Ng<|sL (fun i=>i≤n) (fun i=>n - i) (fun i=>[(1,(vP bt2 0)),(6,(vP btr 0)),(39,(vI n)),(40,(vI i))]) (fun i=>[aB btr 73 [(.slice (some ⟨bcr,0,none⟩) (n) (capr)),(vU seed)],aB bcr 79 (cO (iX t u t.cells i)++restr)]) 0 (Nat.zero_le _) (fun _ h=>h) ?_
 intro i (hi:i≤n)
 show St _ _ _ [(1,(vP bt2 0)),(6,(vP btr 0)),(39,(vI n)),(40,(vI i))] [aB btr 73 [(.slice (some ⟨bcr,0,none⟩) (n) (capr)),(vU seed)],aB bcr 79 (cO (iX t u t.cells i)++restr)] _
 refine Nc<|lk (.bool (decide (((i:Nat):Int) < ((n:Nat):Int)))) ?_
 refine aS (aJ (aQ (bR rfl (fun hc41=>?_) (fun hc41=>?_))))
 ·have hd41:=of_decide_eq_true hc41
  have hlt:i < n:=om
  obtain ⟨cc,hc⟩:∃ cc,t.cells[i]?=some cc:=⟨_,List.getElem?_eq_getElem (by rw [← HN.out]; exact hlt)⟩
  obtain ⟨dd,hd⟩:∃ dd,u.cells[i]?=some dd:=⟨_,List.getElem?_eq_getElem (by rw [HUL.out]; exact hlt)⟩
  have hcok:=HT.out.ok.cells cc (List.mem_of_getElem? hc)
  have hdok:=HU.out.ok.cells dd (List.mem_of_getElem? hd)
  obtain ⟨cl,HCL⟩:∃ cl,Hid (cl=iX t u t.cells i):=⟨_,rfl⟩
  have hcll:cl.length=n:=by rw [HCL.out,Qu (by rw [HUL.out,HN.out]) rfl i (by rw [← HN.out]; omega),HN.out]
  have hok:fV cl:=by rw [HCL.out]; exact Qx HT.out.ok HU.out.ok HT.out.ok.cells i
  have hci:cl[i]?=some cc:=by rw [HCL.out,Qv (by rw [HUL.out,HN.out]) i (by rw [← HN.out]; exact hlt)]; exact hc
  have HSU:Hid (iX t u t.cells (i+1)=cl.set i (cc.sub dd)):=by show _=_; rw [HCL.out,Qw (by rw [HUL.out,HN.out]) rfl (by rw [← HN.out]; exact hlt) (Qq hc hd)]
  have hlen1:(cO cl++restr).length=n*34+restr.length:=by rw [List.length_append,oJ hok,hcll]
  rw [← HCL.out]
  refine Nm<|aE<|lx rfl<|Nf<|dN _ 14 kr (fun _ h=>h)<|am 0 ?_
  refine aC 1 (vP btr 0) rfl<|aC 2 (vP btr 0) rfl<|al 3 0 ?_
  refine am 4 ?_
  refine aV 5 (.pointer (some ⟨bcr,0+i*34,none⟩)) rfl (wN (e:=79) (sz:=34) rfl kr kr rfl rfl om) ?_
  refine am 6 ?_
  refine aC 7 (vP bt2 0) rfl<|aC 8 (vP bt2 0) rfl<|aV 9 _ rfl (rW (fun w hM=>hM.eZ (h2c) si))<|am 10 ?_
  refine aV 11 (.pointer (some ⟨bc2,0+i*34,none⟩)) rfl (wN (e:=79) (sz:=34) rfl kr kr rfl rfl om) ?_
  refine aa 12 ?_
  refine aa 13 ?_
  refine dO kr<|aJ<|aQ<|dN _ 11 kr (fun _ h=>h)<|am 0 ?_
  refine aC 1 (.pointer (some ⟨bcr,0+i*34,none⟩)) rfl<|aC 2 (.pointer (some ⟨bcr,0+i*34,none⟩)) rfl<|aV 3 (.int .i64 cc.count) rfl (eT 1 rfl rfl kr rfl (by rw [Nat.zero_add]; exact (kR hok restr i cc hci 0 om).trans (sG cc)))<|am 4 ?_
  refine aC 5 (.pointer (some ⟨bc2,0+i*34,none⟩)) rfl<|aC 6 (.pointer (some ⟨bc2,0+i*34,none⟩)) rfl<|aV 7 (.int .i64 dd.count) rfl (hJ rfl rfl kr (fun w hM=>hM.eZ (by rw [Nat.zero_add]; exact De HU.out hd 0 _ (sG dd)) si))<|aV 8 (vi (IntKind.i64.wrap (cc.count + -dd.count))) rfl (gC (v:=.int .i64 (IntKind.i64.wrap (cc.count - dd.count))) (jG fun _=>by kernel_rfl) (by rw [Int.sub_eq_add_neg]))<|aC 9 (.pointer (some ⟨bcr,0+i*34,none⟩)) rfl<|aC 10 (.pointer (some ⟨bcr,0+i*34,none⟩)) rfl<|oB (i:=11) kr rfl rfl<|nJ 1 rfl rfl kr rfl rfl rfl kr rfl (by rw [hlen1]; omega) ?_
  refine oC kr rfl<|aJ<|aQ ?_
  obtain ⟨cc1,HC1⟩:∃ cc1:BC,Hid (cc1=(⟨IntKind.i64.wrap (cc.count + -dd.count),cc.keys,cc.checks⟩:BC)):=⟨_,rfl⟩
  have hc1ok:cc1.Ok:=by rw [HC1.out]; exact ⟨(Ad hcok hdok.keys (-dd.count) hdok.checks 0).count,hcok.keys,hcok.checks⟩
  have hok1:fV (cl.set i cc1):=hok.set i hc1ok
  have hci1:(cl.set i cc1)[i]?=some cc1:=List.getElem?_set_self om
  have hlen2:(cO (cl.set i cc1)++restr).length=n*34+restr.length:=by rw [List.length_append,oJ hok1,List.length_set,hcll]
  refine St.mem (cs':=[aB btr 73 [(.slice (some ⟨bcr,0,none⟩) (n) (capr)),(vU seed)],aB bcr 79 (cO (cl.set i cc1)++restr)]) (fun w hM=>by rw [← pQ hok restr i cc hci 0 om _ cc1 (by rw [HC1.out]; exact CG cc _)]; rw [Nat.zero_add] at hM; exact hM) ?_
  refine dN _ 11 kr (fun _ h=>h) ?_
  refine am 0 ?_
  refine aC 1 (.pointer (some ⟨bcr,0+i*34,none⟩)) rfl<|aC 2 (.pointer (some ⟨bcr,0+i*34+33,none⟩)) rfl ?_
  refine aV 3 (vU cc.checks) rfl (eT 1 rfl rfl kr rfl (by rw [Nat.zero_add]; exact (kR hok1 restr i cc1 hci1 33 om).trans (by rw [uM hc1ok.keys,HC1.out]))) ?_
  refine am 4 ?_
  refine aC 5 (.pointer (some ⟨bc2,0+i*34,none⟩)) rfl<|aC 6 (.pointer (some ⟨bc2,0+i*34+33,none⟩)) rfl<|aV 7 (vU dd.checks) rfl (hJ rfl rfl kr (fun w hM=>hM.eZ (by rw [Nat.zero_add]; exact De HU.out hd 33 _ (uM hdok.keys)) si))<|aV 8 (vU (cc.checks ^^^ dd.checks)) rfl (Cm .xor si _ rfl rfl rfl (u64_xor_nat _ _ hcok.checks hdok.checks))<|aC 9 (.pointer (some ⟨bcr,0+i*34,none⟩)) rfl<|aC 10 (.pointer (some ⟨bcr,0+i*34+33,none⟩)) rfl<|oB (i:=11) kr rfl rfl<|nJ 1 rfl rfl kr rfl rfl rfl kr rfl (by rw [hlen2]; omega) ?_
  refine oC kr rfl<|aJ<|aQ ?_
  have hp0:(cl.set i cc1).set i (cc.part dd.keys (-dd.count) dd.checks 0)=cl.set i (cc.part dd.keys (-dd.count) dd.checks 0):=by rw [List.set_set]
  refine St.mem (cs':=[aB btr 73 [(.slice (some ⟨bcr,0,none⟩) (n) (capr)),(vU seed)],aB bcr 79 (cO (cl.set i (cc.part dd.keys (-dd.count) dd.checks 0))++restr)]) (fun w hM=>by rw [← hp0,← pQ hok1 restr i cc1 hci1 33 om (vU (cc.checks ^^^ dd.checks)) (cc.part dd.keys (-dd.count) dd.checks 0) (by rw [GJ,← CH hc1ok.keys,HC1.out])]; rw [Nat.zero_add] at hM; exact hM)<|aE<|lx rfl<|Ng<|sL (fun j=>j≤32) (fun j=>32 - j) (fun j=>[(1,(vP bt2 0)),(6,(vP btr 0)),(8,(.pointer (some ⟨bcr,0+i*34,none⟩))),(9,(.pointer (some ⟨bc2,0+i*34,none⟩))),(39,(vI n)),(40,(vI i)),(77,(vI j))]) (fun j=>[aB btr 73 [(.slice (some ⟨bcr,0,none⟩) (n) (capr)),(vU seed)],aB bcr 79 (cO (cl.set i (cc.part dd.keys (-dd.count) dd.checks j))++restr)]) 0 (Nat.zero_le _) (fun _ h=>h) ?_
  intro j (hj:j≤32)
  show St _ _ _ [(1,(vP bt2 0)),(6,(vP btr 0)),(8,(.pointer (some ⟨bcr,0+i*34,none⟩))),(9,(.pointer (some ⟨bc2,0+i*34,none⟩))),(39,(vI n)),(40,(vI i)),(77,(vI j))] [aB btr 73 [(.slice (some ⟨bcr,0,none⟩) (n) (capr)),(vU seed)],aB bcr 79 (cO (cl.set i (cc.part dd.keys (-dd.count) dd.checks j))++restr)] _
  refine Nc<|lk (.bool (decide (((j:Nat):Int) < 32))) ?_
  refine aS (aJ (aQ (bR rfl (fun hc78=>?_) (fun hc78=>?_))))
  ·have hd78:=of_decide_eq_true hc78
   have hj2:j < 32:=om
   obtain ⟨x,hx⟩:∃ x,cc.keys[j]?=some x:=⟨_,List.getElem?_eq_getElem (by rw [hcok.keys]; exact hj2)⟩
   obtain ⟨y,hy⟩:∃ y,dd.keys[j]?=some y:=⟨_,List.getElem?_eq_getElem (by rw [hdok.keys]; exact hj2)⟩
   have hpok:=Ad hcok hdok.keys (-dd.count) hdok.checks j
   obtain ⟨pc,HPC⟩:∃ pc,Hid (pc=(cc.part dd.keys (-dd.count) dd.checks j)):=⟨_,rfl⟩
   rw [← HPC.out] at hpok ⊢
   have hokp:fV (cl.set i pc):=hok.set i hpok
   have hcip:(cl.set i pc)[i]?=some pc:=List.getElem?_set_self om
   have hlen3:(cO (cl.set i pc)++restr).length=n*34+restr.length:=by rw [List.length_append,oJ hokp,List.length_set,hcll]
   refine Nm<|aE<|lx rfl<|Na<|dN _ 16 kr (fun _ h=>h)<|am 0 ?_
   refine am 1 ?_
   refine aC 2 (.pointer (some ⟨bcr,0+i*34,none⟩)) rfl<|aC 3 (.pointer (some ⟨bcr,0+i*34+1,none⟩)) rfl<|aV 4 (.pointer (some ⟨bcr,0+i*34+1+j,none⟩)) rfl (oF (e:=5) (m:=32) rfl kr kr rfl rfl om)<|aV 5 (.int .u8 ((x.toNat:Nat):Int)) rfl (eT 1 rfl rfl kr rfl (by rw [Nat.zero_add,Nat.add_assoc]; exact (kR hokp restr i pc hcip (1+j) om).trans (by rw [HPC.out]; exact CF j x (GK dd.keys (-dd.count) dd.checks j x hx hdok.keys hcok.keys))))<|am 6 ?_
   refine am 7 ?_
   refine aC 8 (.pointer (some ⟨bc2,0+i*34,none⟩)) rfl<|aC 9 (.pointer (some ⟨bc2,0+i*34+1,none⟩)) rfl<|aV 10 (.pointer (some ⟨bc2,0+i*34+1+j,none⟩)) rfl (oF (e:=5) (m:=32) rfl kr kr rfl rfl om)<|aV 11 (.int .u8 ((y.toNat:Nat):Int)) rfl (hJ rfl rfl kr (fun w hM=>hM.eZ (by rw [Nat.zero_add,Nat.add_assoc]; exact De HU.out hd (1+j) _ (CF j y hy)) si))<|aV 12 (.int .u8 (((x ^^^ y).toNat:Nat):Int)) rfl (Cm .xor si _ rfl rfl rfl (GM x y))<|aC 13 (.pointer (some ⟨bcr,0+i*34,none⟩)) rfl<|aC 14 (.pointer (some ⟨bcr,0+i*34+1,none⟩)) rfl<|aV 15 (.pointer (some ⟨bcr,0+i*34+1+j,none⟩)) rfl (oF (e:=5) (m:=32) rfl kr kr rfl rfl om)<|oB (i:=16) kr rfl rfl<|nJ 1 rfl rfl kr rfl rfl rfl kr rfl (by rw [hlen3]; omega) ?_
   refine oC kr rfl<|nF<|aJ ?_
   have hpj:(cl.set i pc).set i (cc.part dd.keys (-dd.count) dd.checks (j+1))=cl.set i (cc.part dd.keys (-dd.count) dd.checks (j+1)):=by rw [List.set_set]
   exact St.mem (cs':=[aB btr 73 [(.slice (some ⟨bcr,0,none⟩) (n) (capr)),(vU seed)],aB bcr 79 (cO (cl.set i (cc.part dd.keys (-dd.count) dd.checks (j+1)))++restr)]) (fun w hM=>by rw [← hpj,← pQ hokp restr i pc hcip (1+j) om (.int .u8 (((x ^^^ y).toNat:Nat):Int)) (cc.part dd.keys (-dd.count) dd.checks (j+1)) (by rw [HPC.out,GL dd.keys (-dd.count) dd.checks j x y hx hy hcok.keys hdok.keys])]; rw [Nat.zero_add,Nat.add_assoc] at hM; exact hM)<|aE<|lw (vI (j+1)) bJ<|lx rfl<|aS (aJ (sA (j+1) (by show _≤_; omega) (by show 32 - (j+1) < 32 - j; omega) (fun _ h=>h)))
  ·have hd78:=of_decide_eq_false hc78
   obtain rfl:j=32:=om
   exact St.mem (cs':=[aB btr 73 [(.slice (some ⟨bcr,0,none⟩) (n) (capr)),(vU seed)],aB bcr 79 (cO (iX t u t.cells (i+1))++restr)]) (fun w hM=>by rw [HSU.out]; rw [CE cc dd.keys (-dd.count) dd.checks hcok.keys hdok.keys] at hM; exact hM)<|Nr<|lN<|nF<|aJ<|aE<|lw (vI (i+1)) bJ<|lx rfl<|aS (aJ (sA (i+1) (by show _≤_; omega) (by show n - (i+1) < n - i; omega) (fun _ h=>h)))
 ·have hd41:=of_decide_eq_false hc41
  obtain rfl:i=n:=om
  exact Nj<|aE<|lx rfl<|Nd<|sN [(vP btr 0),(vi 0)] fun w hM=>⟨btr,bcr,capr,restr,rfl,hM.Mx (by rw [nM (by rw [HUL.out,HN.out]),HN.out]) (by exact HS.out.symm) (by have e:=Qt (t:=t) (u:=u) (l:=t.cells) (by rw [HUL.out,HN.out]) rfl; rw [← HN.out] at e; exact e) (Dd HT.out.ok HU.out.ok) (by rw [HN.out]; exact HT.out.size) hcap⟩
section
def kU (br : Nat) (X : Option Addr × Nat) (r : Rd) : Ch where
 fp := br :: dD X.1
 holds w := bB X w br r
 ok w w' hb h := by
  obtain ⟨A, c, rfl, h1, h2⟩ := h
  exact ⟨A, c, rfl, (hb br (by simp)).trans h1, (dA 5 1 A r.D.length c (B8 r.D)).ok w w' (fun b hb' => hb b (by simp [dA] at hb'; simp [hb'])) h2⟩
 lt w h b hb := by
  obtain ⟨A, c, rfl, h1, h2⟩ := h
  rcases List.mem_cons.1 hb with rfl | hb
  ·exact h1.lt
  ·exact (sC h2).2 b hb
theorem Im {w:World} {br:Nat} {X:Option Addr × Nat} {r:Rd} (h:bB X w br r):(kU br X r).fp.Nodup:=by
 obtain ⟨A,c,rfl,h1,h2⟩:=h
 have hne:=jJ h2 h1 (by decide)
 cases A with
 | none=>simp [kU,dD]
 | some a =>
   have e:=(sC h2).1
   rw [e] at hne
   simp [dD] at hne
   simp [kU,dD,hne]
section
variable {w0 w w' : World} {F : List Nat} {cs : List Ch} {X : Option Addr × Nat} {r r' : Rd} {br : Nat}
theorem Mm.rP (h:Mm w0 F cs w) (i:Nat) (hi:cs[i]?=some (kU br X r)) (hf:Fr [br] w w') (hr:bB X w' br r'):Mm w0 F (cs.set i (kU br X r')) w' :=
 h.swap i hi (c':=kU br X r') (hf.mono fun x hx=>.inl (by simp [kU] at hx ⊢; exact .inl hx)) hr (fun b hb=>.inl hb) (Im hr)
theorem Mm.Fv {A2:Option Addr} {c2:Nat} (h:Mm w0 F cs w) (hf:Fr [] w w') (hr:bB (A2,c2) w' br r) (h1:w.heap.size≤br) (ho:w'.ownsRow w.heap.size 5 1 (.slice A2 r.D.length c2) r.D.length (B8 r.D)):Mm w0 F (cs++[kU br (A2,c2) r]) w':=by
 refine h.push (c:=kU br (A2,c2) r) hf hr (fun b hb=>?_) (Im hr)
 rcases List.mem_cons.1 hb with rfl | hb
 ·exact h1
 ·rcases ho.2 with ⟨hv,_⟩ | ⟨g,cap,cur,hv,hg,_⟩
  ·simp only [Value.slice.injEq] at hv
   obtain ⟨rfl,_⟩:=hv
   simp [dD] at hb
  ·simp only [Value.slice.injEq] at hv
   obtain ⟨rfl,_⟩:=hv
   simp [dD] at hb
   omega
end
theorem Io (n:Nat) (h:n≤4294967296):IntKind.i64.wrap (n:Int)=(n:Int):=by
 exact qM om om
theorem QB (n:Nat) (hn:n≤3072) (w:World):(Instr.makeSlice 71 (.int .u64 (n:Int)) (.int .u64 (n:Int))).run Tryz.prog w = .ok (.slice (some ⟨w.heap.size,0,none⟩) n n) (w.alloc (.cells (cO (List.replicate n BC.zero)).toArray 79)):=by
 have hinfo:(Tryz.prog.info? 79).map (fun i=>(i.zero,i.size,i.bytes))=some (some (.agg BC.zero.cells.toArray),34,48):=by kernel_rfl
 obtain ⟨i,hi,hz,hsz,hby⟩:=info_parts hinfo
 have:=run_make (P:=Tryz.prog) w 71 79 i _ Tryz.underlying71 hi hz .u64 .u64 (n:Int) (n:Int) om om (by rw [hby]; omega) om
 rw [hsz,Int.toNat_natCast] at this
 rw [this,← GV]
 rfl
theorem Ip {Q:Exit→Act→World→Prop} {nt:Nat} {w0:World} {F:List Nat} {E:cH} {cs:List Ch} {o:Oper} {d:Tmp} {K:Act→World→Prop} {x y:Operand} (n:Nat) (hn:n≤3072) (ho:o.op = .makeSlice 71 x y) (hd:o.dst=some d) (hk:bK nt E o=true) (hx:aN E x=some (.int .u64 (n:Int))) (hy:aN E y=some (.int .u64 (n:Int)))
  (h:∀ b,St nt w0 F ((d,.slice (some ⟨b,0,none⟩) n n)::E) (cs++[aB b 79 (cO (List.replicate n BC.zero))]) K):cM Tryz.prog Q nt w0 F E cs o K :=
 Ge (v:=fun b=>.slice (some ⟨b,0,none⟩) n n) _ _ hd hk (fun w=>by
  have hr:=QB n hn w
  unfold execOp
  simp only [ho,bL hx,bL hy,Sem.run_bind,hr]
  rfl) h
theorem QC {P:Program} {Q:Exit→Act→World→Prop} {nt:Nat} {w0:World} {F:List Nat} {E:cH} {cs:List Ch} {o:Oper} {d:Tmp} {K:Act→World→Prop} {dT sT elem t:TypeId} {x y:Operand} {g off dLen dCap:Nat} {l:List Value} {bs:List UInt8} (i:Nat) (l':List Value) (ho:o.op = .call { callee:=.builtin .copy,args:=#[x,y],argTypes:=#[dT,sT] }) (hd:o.dst=some d) (hu:P.underlying dT=some (.slice elem)) (hs:(P.info? elem).map (·.size)=some 1) (hk:bK nt E o=true)
  (hx:aN E x=some (.slice (some ⟨g,off,none⟩) dLen dCap)) (hy:aN E y=some (vS bs)) (hi:cs[i]?=some (aB g t l)) (hle:bs.length≤dLen) (hfit:off+bs.length≤l.length) (hl':l.take off++B8 bs++l.drop (off+bs.length)=l') (h:St nt w0 F ((d,.int .i64 ((bs.length:Nat):Int))::E) (cs.set i (aB g t l')) K):cM P Q nt w0 F E cs o K :=
 nE hd hk fun w hM=>by
  subst hl'
  have hat:At w g t l:=hM.at hi
  have hsz:(bD bs).size=bs.length:=by simp [bD,ByteArray.size]
  have hr:=Lib.run_copy_row_string (P:=P) w dT sT o.type elem g off dLen dCap (bD bs) l.toArray t hu hs hat (by rw [hsz]; exact hle) (by rw [hsz]; simpa using hfit)
  refine ⟨_,w.setRow g (l.take off++B8 bs++l.drop (off+bs.length)).toArray,_,?_,hM.swap i hi (c':=aB g t (l.take off++B8 bs++l.drop (off+bs.length))) (Fr.setRow _ _ _) ?_ (fun c hc=>.inl hc) (by simp [aB]),h⟩
  ·unfold execOp
   simp only [ho,resolve,invoke,builtin,Sem.run_bind,Sem.run_pure,Result.andThen_ok,List.map_toArray,List.map_cons,List.map_nil,bL hx,bL hy,hr,hsz]
   rfl
  ·have:=hat.setRow (l.take off++B8 bs++l.drop (off+bs.length))
   exact this
theorem QD {x:List UInt8}:x++(List.replicate 32 (0:UInt8)).drop x.length=iV x:=by
 unfold iV
 rw [List.drop_replicate]
theorem QE {l:List BC} (hok:fV l) {i:Nat} {c:BC} (hc:l[i]?=some c) {x:List UInt8} (hx:x.length≤32) :
  (cO l).take (i*34+1)++B8 x++(cO l).drop (i*34+1+x.length)=cO (l.set i ⟨c.count,x++c.keys.drop x.length,c.checks⟩):=by
 obtain ⟨hlt,he⟩:=List.getElem?_eq_some_iff.1 hc
 have hl1:(cO (l.take i)).length=i*34:=by rw [oJ (fun a ha=>hok a (List.mem_of_mem_take ha)),List.length_take,Nat.min_eq_left om]
 have hs:l=l.take i++c::l.drop (i+1):=by rw [← he,List.getElem_cons_drop,List.take_append_drop]
 have hk:=(hok c (List.mem_of_getElem? hc)).keys
 have e1:cO l=cO (l.take i)++(c.cells++cO (l.drop (i+1))):=by
  conv=>lhs; rw [hs]
  simp [cO]
 have e2:l.set i ⟨c.count,x++c.keys.drop x.length,c.checks⟩=l.take i++⟨c.count,x++c.keys.drop x.length,c.checks⟩::l.drop (i+1):=by
  rw [List.set_eq_take_append_cons_drop,if_pos hlt]
 have e3:cO (l.set i ⟨c.count,x++c.keys.drop x.length,c.checks⟩)=cO (l.take i)++((⟨c.count,x++c.keys.drop x.length,c.checks⟩:BC).cells++cO (l.drop (i+1))):=by
  rw [e2]
  simp [cO]
 rw [e1,e3,← hl1,List.take_length_add_append,Nat.add_assoc,List.drop_length_add_append]
 simp only [List.append_assoc,BC.cells,List.cons_append,List.take_succ_cons,List.take_zero,List.nil_append,tU]
 rw [Nat.add_comm 1,List.drop_succ_cons,List.drop_append_of_le_length (by rw [dW]; omega)]
 simp [B8,List.map_drop]
theorem QF (A:Option Addr) (c:Nat) (D:List UInt8) (w:World) (hD:D.length≤4294967296) (hrow:aF w A (B8 D)) (hn:3072 < kF D) :
  Calls Tryz.prog 118 #[.slice A D.length c] w fun e w'=>e = .returned (.tuple #[.pointer none,vi 3])∧Fr [] w w':=by
 have HR:=Lib.hid hrow
 clear hrow
 obtain ⟨n,HN⟩:∃ n,Hid (n=kF D):=⟨_,rfl⟩
 have hn':3072 < n:=by rw [HN.out]; exact hn
 clear hn
 refine eH Tryz.func118 69 (Mm.start w []) rfl<|Nc<|lx rfl<|Nb<|lx rfl<|Nx<|eN 79 #[(.slice A (D.length) (c))] rfl kr (fun _=>kr) (fun w hM=>(Aj A c D w hD (HR.out.iH hM.fr)).mono ?_)
 rintro e w' ⟨br,A2,c2,rfl,hb,hf,hr,ho⟩
 have hM':=hM.Fv hf hr hb ho
 refine ⟨_,_,rfl,hM',?_⟩
 clear hM hM' hf hr hb ho
 refine lx rfl<|Nb<|lx rfl<|Nx<|eN 80 #[(vP br 0)] rfl kr (fun _=>kr) (fun w hM=>(by have h:=qS br (gD D) w (hM.at (i:=0) rfl) (uP hD); rw [show (gD D).uint.1=n from HN.out.symm] at h; exact h:Calls _ _ _ w fun e w'=>e = .returned (vU n)∧Fr [br] w w'∧bB (A2,c2) w' br ((gD D).uint.2)).mono ?_)
 rintro e w' ⟨rfl,hf,hr⟩
 have hM':=hM.rP 0 rfl hf hr
 refine ⟨_,_,rfl,hM',?_⟩
 clear hM hM' hf hr
 refine lx rfl<|Ne<|lx rfl<|lk (.bool (decide (((n:Nat):Int) > 3072)))<|lm ?_
 exact St.known 17 (b':=true) rfl (by simp; omega)<|rT (b:=true) rfl rfl kr rfl<|rT (b:=true) rfl rfl kr rfl<|rT (b:=true) rfl rfl kr rfl<|rT (b:=true) rfl rfl kr rfl<|lT<|No<|lx rfl<|Nh<|sN [(.pointer none),(vi 3)] fun w hM=>⟨rfl,hM.fr⟩
theorem QG (A:Option Addr) (c:Nat) (D:List UInt8) (w:World) (hD:D.length≤4294967296) (hrow:aF w A (B8 D)) (hn:kF D≤3072) (hz0:eW (kF D:Int)=false) :
  Calls Tryz.prog 118 #[.slice A D.length c] w fun e w'=>e = .returned (.tuple #[.pointer none,vi 3])∧Fr [] w w':=by
 have HR:=Lib.hid hrow
 clear hrow
 obtain ⟨n,HN⟩:∃ n,Hid (n=kF D):=⟨_,rfl⟩
 have hn':n≤3072:=by rw [HN.out]; exact hn
 have hz:eW (n:Int)=false:=by rw [HN.out]; exact hz0
 clear hn hz0
 refine eH Tryz.func118 69 (Mm.start w []) rfl<|Nc<|lx rfl<|Nb<|lx rfl<|Nx<|eN 79 #[(.slice A (D.length) (c))] rfl kr (fun _=>kr) (fun w hM=>(Aj A c D w hD (HR.out.iH hM.fr)).mono ?_)
 rintro e w' ⟨br,A2,c2,rfl,hb,hf,hr,ho⟩
 have hM':=hM.Fv hf hr hb ho
 refine ⟨_,_,rfl,hM',?_⟩
 clear hM hM' hf hr hb ho
 refine lx rfl<|Nb<|lx rfl<|Nx<|eN 80 #[(vP br 0)] rfl kr (fun _=>kr) (fun w hM=>(by have h:=qS br (gD D) w (hM.at (i:=0) rfl) (uP hD); rw [show (gD D).uint.1=n from HN.out.symm] at h; exact h:Calls _ _ _ w fun e w'=>e = .returned (vU n)∧Fr [br] w w'∧bB (A2,c2) w' br ((gD D).uint.2)).mono ?_)
 rintro e w' ⟨rfl,hf,hr⟩
 have hM':=hM.rP 0 rfl hf hr
 refine ⟨_,_,rfl,hM',?_⟩
 clear hM hM' hf hr
 refine lx rfl<|Ne<|lx rfl<|lk (.bool (decide (((n:Nat):Int) > 3072)))<|lm ?_
 refine St.known 17 (b':=false) rfl (by simp; omega)<|fI rfl rfl<|mR (vU n) rfl kr (nH rfl rfl)<|fI rfl rfl<|mR (vI n) rfl kr (jH _ (fun _=>kr) rfl rfl (Io n om))<|fI rfl rfl<|eN 34 #[(vI n)] rfl kr (fun _=>kr) (fun w hM=>((by rw [← hz]; exact CI (n:Int) w:Calls _ _ _ w fun e w'=>e = .returned (.bool false)∧w=w')).mono ?_)
 rintro e w' ⟨rfl,rfl⟩
 refine ⟨bF,_,rfl,hM,?_⟩
 clear hM
 exact fI rfl rfl<|mR bT rfl kr (jG fun _=>by kernel_rfl)<|lT<|No<|lx rfl<|Nh<|sN [(.pointer none),(vi 3)] fun w hM=>⟨rfl,hM.fr⟩
theorem Iq (A:Option Addr) (c:Nat) (D:List UInt8) (w:World) (hD:D.length≤4294967296) (hrow:aF w A (B8 D)) (hz0:eW (kF D:Int)=true) :
  Calls Tryz.prog 118 #[.slice A D.length c] w fun e w'=>if (oO D).end_=0 then ∃ bt bc cap rest,e = .returned (.tuple #[vP bt 0,vi 0])∧Mm w [] [iW bt bc cap rest (qT D)] w' else e = .returned (.tuple #[.pointer none,vi 3])∧Fr [] w w':=by
 have HR:=Lib.hid hrow
 clear hrow
 obtain ⟨n,HN⟩:∃ n,Hid (n=kF D):=⟨_,rfl⟩
 have hz:eW (n:Int)=true:=by rw [HN.out]; exact hz0
 have hn':n≤3072:=(kE hz).2.1
 clear hz0
 obtain ⟨seed,HS⟩:∃ s,Hid (s=(gD D).uint.2.uint.1):=⟨_,rfl⟩
 obtain ⟨r2,HR2⟩:∃ r,Hid (r=(gD D).uint.2.uint.2):=⟨_,rfl⟩
 have HOK:Hid r2.Ok:=by show r2.Ok; rw [HR2.out]; exact (uP hD).uint'.uint'
 refine eH Tryz.func118 69 (Mm.start w []) rfl<|Nc<|lx rfl<|Nb<|lx rfl<|Nx<|eN 79 #[(.slice A (D.length) (c))] rfl kr (fun _=>kr) (fun w hM=>(Aj A c D w hD (HR.out.iH hM.fr)).mono ?_)
 rintro e w' ⟨br,A2,c2,rfl,hb,hf,hr,ho⟩
 have hM':=hM.Fv hf hr hb ho
 refine ⟨_,_,rfl,hM',?_⟩
 clear hM hM' hf hr hb ho
 refine lx rfl<|Nb<|lx rfl<|Nx<|eN 80 #[(vP br 0)] rfl kr (fun _=>kr) (fun w hM=>(by have h:=qS br (gD D) w (hM.at (i:=0) rfl) (uP hD); rw [show (gD D).uint.1=n from HN.out.symm] at h; exact h:Calls _ _ _ w fun e w'=>e = .returned (vU n)∧Fr [br] w w'∧bB (A2,c2) w' br ((gD D).uint.2)).mono ?_)
 rintro e w' ⟨rfl,hf,hr⟩
 have hM':=hM.rP 0 rfl hf hr
 refine ⟨_,_,rfl,hM',?_⟩
 clear hM hM' hf hr
 refine lx rfl<|Ne<|lx rfl<|lk (.bool (decide (((n:Nat):Int) > 3072)))<|lm ?_
 refine St.known 17 (b':=false) rfl (by simp; omega)<|fI rfl rfl<|mR (vU n) rfl kr (nH rfl rfl)<|fI rfl rfl<|mR (vI n) rfl kr (jH _ (fun _=>kr) rfl rfl (Io n om))<|fI rfl rfl<|eN 34 #[(vI n)] rfl kr (fun _=>kr) (fun w hM=>((by rw [← hz]; exact CI (n:Int) w:Calls _ _ _ w fun e w'=>e = .returned (.bool true)∧w=w')).mono ?_)
 rintro e w' ⟨rfl,rfl⟩
 refine ⟨bT,_,rfl,hM,?_⟩
 clear hM
 refine fI rfl rfl<|mR bF rfl kr (jG fun _=>by kernel_rfl)<|lF<|Nu ?_
 refine jF (aJ (FT (ι:=Nat × Nat) (fun _=>True) (fun (bc,b28)=>[(0,(.slice A (D.length) (c))),(2,(.pointer none)),(3,(vi 0)),(11,(.slice A (D.length) (c))),(12,(vP br 0)),(4,(vP br 0)),(13,(vP br 0)),(14,(vU n)),(5,(vU n)),(15,(vU n)),(16,(.bool (decide (((n:Nat):Int) > 3072)))),(17,bF),(18,(vU n)),(19,(vI n)),(20,bT),(21,bF),(22,bF),(23,(vU n)),(25,(vP br 0)),(24,(.slice (some ⟨bc,0,none⟩) (n) (n))),(26,(vU seed)),(27,(.agg #[(.slice (some ⟨bc,0,none⟩) (n) (n)),(vU seed)])),(28,(vP b28 0)),(6,(vP b28 0))]) (fun (bc,b28)=>[kU br (A2,c2) (r2),aB bc 79 (cO (List.replicate n BC.zero)),aB b28 73 [(.slice (some ⟨bc,0,none⟩) (n) (n)),(vU seed)]]) ?_ ?_))
 ·refine dN [] 7 kr (fun _ h=>h.sub (.cons _ .slnil))<|am 0 ?_
  refine am 2 ?_
  refine zM (i:=1) (j:=3) kr rfl rfl rfl rfl ?_ ?_
  ·refine Ip n om rfl rfl kr rfl rfl (fun bc=>cN _ (fun _ h=>h.sub (.cons _ .slnil)) (fun _ h=>h.sub (.cons _ (.cons_cons _ .slnil)))<|oB (i:=3) kr rfl rfl<|eN 80 #[(vP br 0)] rfl kr (fun _=>kr) (fun w hM=>(by have h:=qS br ((gD D).uint.2) w (hM.at (i:=0) rfl) ((uP hD).uint'); rw [show (gD D).uint.2.uint.1=seed from HS.out.symm,show (gD D).uint.2.uint.2=r2 from HR2.out.symm] at h; exact h:Calls _ _ _ w fun e w'=>e = .returned (vU seed)∧Fr [br] w w'∧bB (A2,c2) w' br (r2)).mono ?_))
   rintro e w' ⟨rfl,hf,hr⟩
   have hM':=hM.rP 0 rfl hf hr
   refine ⟨_,_,rfl,hM',?_⟩
   clear hM hM' hf hr
   refine cN _ (fun _ h=>h) (fun _ h=>h.sub (.cons _ (.cons_cons _ .slnil)))<|aC 4 (.agg #[(.slice (some ⟨bc,0,none⟩) (n) (n)),(vU seed)]) rfl<|oB (i:=5) kr rfl rfl<|pB [(.slice (some ⟨bc,0,none⟩) (n) (n)),(vU seed)] fun b28=>cN _ (fun _ h=>h.sub (.cons_cons _ (.cons _ .slnil))) (fun _ h=>h.sub (.cons _ (.cons_cons _ (.cons_cons _ .slnil))))<|aa 6 ?_
   exact dO kr<|aJ (sM (bc,b28) trivial (fun _ h=>h))
  ·refine eN 80 #[(vP br 0)] rfl kr (fun _=>kr) (fun w hM=>(by have h:=qS br ((gD D).uint.2) w (hM.at (i:=0) rfl) ((uP hD).uint'); rw [show (gD D).uint.2.uint.1=seed from HS.out.symm,show (gD D).uint.2.uint.2=r2 from HR2.out.symm] at h; exact h:Calls _ _ _ w fun e w'=>e = .returned (vU seed)∧Fr [br] w w'∧bB (A2,c2) w' br (r2)).mono ?_)
   rintro e w' ⟨rfl,hf,hr⟩
   have hM':=hM.rP 0 rfl hf hr
   refine ⟨_,_,rfl,hM',?_⟩
   clear hM hM' hf hr
   refine cN _ (fun _ h=>h) (fun _ h=>h.sub (.cons _ .slnil))<|oB (i:=1) kr rfl rfl<|Ip n om rfl rfl kr rfl rfl (fun bc=>cN _ (fun _ h=>h.sub (.cons _ .slnil)) (fun _ h=>h.sub (.cons _ (.cons_cons _ .slnil)))<|aC 4 (.agg #[(.slice (some ⟨bc,0,none⟩) (n) (n)),(vU seed)]) rfl<|oB (i:=5) kr rfl rfl<|pB [(.slice (some ⟨bc,0,none⟩) (n) (n)),(vU seed)] fun b28=>cN _ (fun _ h=>h.sub (.cons_cons _ (.cons _ .slnil))) (fun _ h=>h.sub (.cons _ (.cons_cons _ (.cons_cons _ .slnil))))<|aa 6 ?_)
   exact dO kr<|aJ (sM (bc,b28) trivial (fun _ h=>h))
 ·rintro ⟨bc,b28⟩ -
  dsimp only
  refine aQ<|aQ<|St.mem (cs':=[kU br (A2,c2) (r2),aB bc 79 (cO (iO r2 n 0)),aB b28 73 [(.slice (some ⟨bc,0,none⟩) (n) (n)),(vU seed)]]) (fun w hM=>by rw [Qa]; exact hM)<|aE<|lx rfl<|lk (vP b28 0)<|lk (vP b28 0)<|lL 2 rfl<|lk (vI n)<|lx rfl<|Ng<|sL (fun i=>i≤n) (fun i=>n - i) (fun i=>[(4,(vP br 0)),(6,(vP b28 0)),(33,(vI n)),(34,(vI i))]) (fun i=>[kU br (A2,c2) (iA r2 i),aB bc 79 (cO (iO r2 n i)),aB b28 73 [(.slice (some ⟨bc,0,none⟩) (n) (n)),(vU seed)]]) 0 (Nat.zero_le _) (fun _ h=>h) ?_
  intro i (hi:i≤n)
  show St _ _ _ [(4,(vP br 0)),(6,(vP b28 0)),(33,(vI n)),(34,(vI i))] [kU br (A2,c2) (iA r2 i),aB bc 79 (cO (iO r2 n i)),aB b28 73 [(.slice (some ⟨bc,0,none⟩) (n) (n)),(vU seed)]] _
  refine Nc<|lk (.bool (decide (((i:Nat):Int) < ((n:Nat):Int)))) ?_
  refine aS (aJ (aQ (bR rfl (fun hc35=>?_) (fun hc35=>?_))))
  ·have hd35:=of_decide_eq_true hc35
   have hlt:i < n:=om
   obtain ⟨r,HRI⟩:∃ r,Hid (r=iA r2 i):=⟨_,rfl⟩
   have hrok:r.Ok:=by rw [HRI.out]; exact CZ HOK.out i
   obtain ⟨cl,HCL⟩:∃ cl,Hid (cl=iO r2 n i):=⟨_,rfl⟩
   have hcll:cl.length=n:=by rw [HCL.out,PY hi]
   have hok:fV cl:=by rw [HCL.out]; exact PZ _ _ _
   have hci:cl[i]?=some BC.zero:=by rw [HCL.out]; exact Qc hlt
   have HSU:Hid (iO r2 n (i+1)=cl.set i r.cell.1):=by show _=_; rw [HCL.out,HRI.out,Qd hlt]
   have HRS:Hid (iA r2 (i+1)=r.cell.2):=by show _=_; rw [HRI.out]; rfl
   have hlen:(cO cl).length=n*34:=by rw [oJ hok,hcll]
   rw [← HCL.out,← HRI.out]
   refine Nm<|aE<|lx rfl<|Nb<|lx rfl<|lk (vP b28 0)<|lk (vP b28 0)<|lL 2 rfl<|lx rfl<|lw (.pointer (some ⟨bc,0+i*34,none⟩)) (wN (e:=79) (sz:=34) rfl kr kr rfl rfl om)<|lx rfl<|Nb<|lx rfl<|Nx<|eN 151 #[(vP br 0)] rfl kr (fun _=>kr) (fun w hM=>(by have h:=PE br (r) w (hM.at (i:=0) rfl) (hrok); skip; exact h:Calls _ _ _ w fun e w'=>e = .returned (.int .i64 r.int.1)∧Fr [br] w w'∧bB (A2,c2) w' br (r.int.2)).mono ?_)
   rintro e w' ⟨rfl,hf,hr⟩
   have hM':=hM.rP 0 rfl hf hr
   refine ⟨_,_,rfl,hM',?_⟩
   clear hM hM' hf hr
   refine lk (.pointer (some ⟨bc,0+i*34,none⟩))<|lk (.pointer (some ⟨bc,0+i*34,none⟩))<|Nx<|nJ 1 rfl rfl kr rfl rfl rfl kr rfl (by rw [hlen]; omega) ?_
   refine Nf ?_
   have hc1ok:(⟨r.int.1,List.replicate 32 0,0⟩:BC).Ok:=⟨r.Fo,si,by show 0 < 18446744073709551616; decide⟩
   have hok1:fV (cl.set i (⟨r.int.1,List.replicate 32 0,0⟩:BC)):=hok.set i hc1ok
   have hci1:(cl.set i (⟨r.int.1,List.replicate 32 0,0⟩:BC))[i]?=some (⟨r.int.1,List.replicate 32 0,0⟩:BC):=List.getElem?_set_self om
   have hlen1:(cO (cl.set i (⟨r.int.1,List.replicate 32 0,0⟩:BC))).length=n*34:=by rw [oJ hok1,List.length_set,hcll]
   refine St.mem (cs':=[kU br (A2,c2) (r.int.2),aB bc 79 (cO (cl.set i (⟨r.int.1,List.replicate 32 0,0⟩:BC))),aB b28 73 [(.slice (some ⟨bc,0,none⟩) (n) (n)),(vU seed)]]) (fun w hM=>by have e:=pQ hok [] i BC.zero hci 0 om (Value.int .i64 r.int.1) (⟨r.int.1,List.replicate 32 0,0⟩:BC) (CG BC.zero _); rw [List.append_nil,List.append_nil] at e; rw [← e]; rw [Nat.zero_add] at hM; exact hM)<|dN _ 6 kr (fun _ h=>h.sub (.cons _ (.cons_cons _ (.cons_cons _ .slnil))))<|am 0 ?_
   refine aC 1 (.pointer (some ⟨bc,0+i*34,none⟩)) rfl<|aC 2 (.pointer (some ⟨bc,0+i*34+1,none⟩)) rfl<|aC 3 (.slice (some ⟨bc,0+i*34+1,none⟩) (32) (32)) rfl<|am 4 ?_
   refine oB (i:=5) kr rfl rfl<|eN 117 #[(vP br 0)] rfl kr (fun _=>kr) (fun w hM=>(by have h:=Hu br (r.int.2) w (hM.at (i:=0) rfl) (hrok.int); skip; exact h:Calls _ _ _ w fun e w'=>e = .returned (vS r.int.2.sum.1)∧Fr [br] w w'∧bB (A2,c2) w' br (r.int.2.sum.2)).mono ?_)
   rintro e w' ⟨rfl,hf,hr⟩
   have hM':=hM.rP 0 rfl hf hr
   refine ⟨_,_,rfl,hM',?_⟩
   clear hM hM' hf hr
   refine cN _ (fun _ h=>h) (fun _ h=>h.sub (.cons _ (.cons_cons _ (.cons_cons _ .slnil))))<|oB (i:=6) kr rfl rfl<|QC (elem:=5) (bs:=r.int.2.sum.1) 1 (cO (cl.set i (⟨r.int.1,iV r.int.2.sum.1,0⟩:BC))) rfl rfl kr kr kr rfl rfl rfl (Rd.zC _) (by rw [hlen1]; have:=Rd.zC r.int.2; omega) (by rw [Nat.zero_add,QE hok1 hci1 (Rd.zC _),List.set_set,QD])<|oC kr rfl<|aJ ?_
   have hc2ok:(⟨r.int.1,iV r.int.2.sum.1,0⟩:BC).Ok:=⟨r.Fo,Hy (Rd.zC _),by show 0 < 18446744073709551616; decide⟩
   have hok2:fV (cl.set i (⟨r.int.1,iV r.int.2.sum.1,0⟩:BC)):=hok.set i hc2ok
   have hci2:(cl.set i (⟨r.int.1,iV r.int.2.sum.1,0⟩:BC))[i]?=some (⟨r.int.1,iV r.int.2.sum.1,0⟩:BC):=List.getElem?_set_self om
   have hlen2:(cO (cl.set i (⟨r.int.1,iV r.int.2.sum.1,0⟩:BC))).length=n*34:=by rw [oJ hok2,List.length_set,hcll]
   refine aE<|lx rfl<|Nx<|eN 80 #[(vP br 0)] rfl kr (fun _=>kr) (fun w hM=>(by have h:=qS br (r.int.2.sum.2) w (hM.at (i:=0) rfl) (hrok.int.sum); skip; exact h:Calls _ _ _ w fun e w'=>e = .returned (vU r.int.2.sum.2.uint.1)∧Fr [br] w w'∧bB (A2,c2) w' br (r.cell.2)).mono ?_)
   rintro e w' ⟨rfl,hf,hr⟩
   have hM':=hM.rP 0 rfl hf hr
   refine ⟨_,_,rfl,hM',?_⟩
   clear hM hM' hf hr
   refine lk (.pointer (some ⟨bc,0+i*34,none⟩))<|lk (.pointer (some ⟨bc,0+i*34+33,none⟩))<|Nx<|nJ 1 rfl rfl kr rfl rfl rfl kr rfl (by rw [hlen2]; omega) ?_
   exact Nk<|St.mem (cs':=[kU br (A2,c2) (iA r2 (i+1)),aB bc 79 (cO (iO r2 n (i+1))),aB b28 73 [(.slice (some ⟨bc,0,none⟩) (n) (n)),(vU seed)]]) (fun w hM=>by have e:=pQ hok2 [] i (⟨r.int.1,iV r.int.2.sum.1,0⟩:BC) hci2 33 om (vU r.int.2.sum.2.uint.1) r.cell.1 (CH (c:=(⟨r.int.1,iV r.int.2.sum.1,0⟩:BC)) hc2ok.keys _); rw [List.append_nil,List.append_nil,List.set_set] at e; rw [HSU.out,HRS.out,← e]; rw [Nat.zero_add] at hM; exact hM)<|aE<|lw (vI (i+1)) bJ<|lx rfl<|aS (aJ (sA (i+1) (by show _≤_; omega) (by show n - (i+1) < n - i; omega) (fun _ h=>h)))
  ·have hd35:=of_decide_eq_false hc35
   obtain rfl:n=i:=om
   refine Nj<|Nc<|lx rfl<|Nx<|eN 85 #[(vP br 0)] rfl kr (fun _=>kr) (fun w hM=>(Hr br (iA r2 n) w (hM.at (i:=0) rfl) (CZ HOK.out n)).mono ?_)
   rintro e w' ⟨rfl,hf⟩
   have hM':=hM.iH hf
   refine ⟨_,_,rfl,hM',?_⟩
   clear hM hM' hf
   refine lx rfl<|Nb<|lx rfl<|lk (.bool (((iA r2 n).end_:Int) != 0)) ?_
   refine aS (aJ (bR rfl (fun hc67=>?_) (fun hc67=>?_)))
   ·refine Nc<|lx rfl<|Nh<|sN [(.pointer none),(vi 3)] fun w hM=>?_
    have hz0:(iA r2 n).end_≠0:=by simpa using hc67
    have he0:(oO D).end_≠0:=by unfold oO sK; rw [← HN.out,← HR2.out]; exact hz0
    rw [if_neg he0]
    exact ⟨rfl,hM.fr⟩
   ·refine Ni<|lx rfl<|Nd<|sN [(vP b28 0),(vi 0)] fun w hM=>?_
    have hz0:(iA r2 n).end_=0:=by simpa using hc67
    have he0:(oO D).end_=0:=by unfold oO sK; rw [← HN.out,← HR2.out]; exact hz0
    rw [if_pos he0]
    have hM2:=(fun (w:World) (h:Mm _ _ _ w)=>Mm.perm h (.swap _ _ _)) w ((fun (w:World) (h:Mm _ _ _ w)=>Mm.sub h (.cons _ (.cons_cons _ (.cons_cons _ .slnil)))) w hM)
    rw [← List.append_nil (cO (iO r2 n n))] at hM2
    exact ⟨b28,bc,n,[],rfl,hM2.Mx (by rw [Db,HN.out]) (by exact HS.out.symm) (by rw [Qb]; unfold qT sK; rw [← HN.out,← HR2.out]) (Ia D) (by exact hz) (Nat.le_refl _)⟩
end
def fW (D : List UInt8) : Option BT := if eW (kF D : Int) = true ∧ (oO D).end_ = 0 then some (qT D) else none
theorem Ir {D:List UInt8} {T:BT} (h:fW D=some T):T.enc=D∧eW (T.cells.length:Int)=true:=by
 unfold fW at h
 split at h
 ·rename_i h1
  injection h with h
  subst h
  exact ⟨Qf h1.2,by rw [Db]; exact h1.1⟩
 ·cases h
theorem Is {T:BT} (h:T.Ok) (hs:eW (T.cells.length:Int)=true):fW T.enc=some T:=by
 obtain ⟨h1,h2,h3⟩:=Qg h (kE hs).2.1
 unfold fW
 rw [if_pos ⟨by rw [h1]; exact hs,h3⟩,h2]
theorem QH (A:Option Addr) (c:Nat) (D:List UInt8) (w:World) (hD:D.length≤4294967296) (hrow:aF w A (B8 D)) (h:fW D=none) :
  Calls Tryz.prog 118 #[.slice A D.length c] w fun e w'=>e = .returned (.tuple #[.pointer none,vi 3])∧Fr [] w w':=by
 rcases Nat.lt_or_ge 3072 (kF D) with hb | hb
 ·exact QF A c D w hD hrow hb
 ·cases hs:eW (kF D:Int) with
  | false=>exact QG A c D w hD hrow hb hs
  | true =>
    refine (Iq A c D w hD hrow hs).mono fun e w' he=>?_
    have hn:(oO D).end_≠0:=fun h0=>by
     unfold fW at h
     rw [if_pos ⟨hs,h0⟩] at h
     cases h
    rwa [if_neg hn] at he
theorem QI (A:Option Addr) (c:Nat) (D:List UInt8) (U:BT) (w:World) (hD:D.length≤4294967296) (hrow:aF w A (B8 D)) (h:fW D=some U) :
  Calls Tryz.prog 118 #[.slice A D.length c] w fun e w'=>∃ bt bc cap rest,e = .returned (.tuple #[vP bt 0,vi 0])∧Mm w [] [iW bt bc cap rest U] w':=by
 unfold fW at h
 split at h
 ·rename_i h1
  injection h with h
  subst h
  refine (Iq A c D w hD hrow h1.1).mono fun e w' he=>?_
  rwa [if_pos h1.2] at he
 ·cases h
def dJ (A : Option Addr) (xs : List Value) : Ch where
 fp := if xs.isEmpty then [] else dD A
 holds w := aF w A xs
 ok w w' hb h := by
  intro j v hj
  obtain ⟨b, o, hA, hlt, hc⟩ := h j v hj
  have hne : xs.isEmpty = false := by cases xs with | nil => simp at hj | cons x l => rfl
  have hbb := hb b (by rw [hne, hA]; simp [dD])
  refine ⟨b, o, hA, ?_, ?_⟩
  ·rcases Nat.lt_or_ge b w'.heap.size with h1 | h1
   ·exact h1
   ·rw [Array.getElem?_eq_none h1, Array.getElem?_eq_getElem hlt] at hbb
    cases hbb
  ·simp only [World.cell?, hbb] at hc ⊢
   exact hc
 lt w h b hb := by
  split at hb
  ·simp at hb
  ·rename_i hne
   cases xs with
   | nil => simp at hne
   | cons x l =>
     obtain ⟨b', o, hA, hlt, _⟩ := h 0 x rfl
     subst hA
     simp [dD] at hb
     subst hb
     exact hlt
theorem kV {w:World} {A:Option Addr} {xs:List Value} (h:(dJ A xs).holds w):aF w A xs:=h
structure TX where
 bt : Nat
 bc : Nat
 cap : Nat
 rest : List Value
abbrev cT (X : TX) (t : BT) : Ch := iW X.bt X.bc X.cap X.rest t
def nN (t u : BT) : Bool := decide (t.cells.length = u.cells.length) && decide (t.seed = u.seed)
theorem Fr.back {w w':World} (h:Fr [] w w'):aK [] w [] w':=⟨h,si,si,si⟩
theorem bO.tab {w w':World} {X:TX} {t t':BT} (hO:bO [cT X t] w) (hf:Fr [X.bc] w w') (h:dU w' X.bt X.bc X.cap X.rest t'):aK [cT X t] w [cT X t'] w':=Mm.XN hO 0 rfl hf h
theorem Ai.back {w w':World} {bs:List UInt8} {v:Value} (h:Ai bs w v w'):∃ A c,v = .slice A bs.length c∧aK [] w [dA 5 1 A bs.length c (B8 bs)] w':=by
 obtain ⟨A,c,h1,h2⟩:=(Mm.start w []).Xz h.fr h.own
 exact ⟨A,c,h1,h2⟩
theorem QJ {w w':World} {A1 A2:Option Addr} {xs ys:List Value} (hf:Fr [] w w') (h1:aF w' A1 xs) (h2:aF w' A2 ys) (h:xA w A1 A2):aK [] w [dJ A1 xs,dJ A2 ys] w':=by
 obtain ⟨f1,f2,f3⟩:=h
 refine ⟨hf,?_,?_,?_⟩
 ·intro c hc
  rcases List.mem_cons.1 hc with rfl | hc
  ·exact h1
  ·rw [List.mem_singleton] at hc
   subst hc
   exact h2
 ·simp only [List.flatMap_cons,List.flatMap_nil,List.append_nil,dJ]
  cases A1 with
  | none=>cases A2 <;> (split <;> split <;> simp [dD])
  | some a=>cases A2 with
    | none=>split <;> split <;> simp [dD]
    | some b=>split <;> split <;> simp [dD,f3 a b rfl rfl]
 ·intro b hb
  refine .inr ?_
  simp only [List.flatMap_cons,List.flatMap_nil,List.append_nil,dJ] at hb
  rcases List.mem_append.1 hb with hb | hb
  ·split at hb
   ·simp at hb
   ·cases A1 with
    | none=>simp [dD] at hb
    | some a=>simp [dD] at hb; rw [hb]; exact f1 a rfl
  ·split at hb
   ·simp at hb
   ·cases A2 with
    | none=>simp [dD] at hb
    | some a=>simp [dD] at hb; rw [hb]; exact f2 a rfl
theorem qV (n seed:Nat) (w:World) (hz:eW (n:Int)=true) (hu:cG seed) :
  Calls Tryz.prog 11 #[(vI n),(.int .u64 ((seed:Nat):Int))] w fun e w'=>∃ (X:TX),e = .returned (.tuple #[(vP X.bt 0),(vi 0)])∧aK [] w [cT X (BT.new n seed)] w':=by
 refine (OM n seed w hz hu).mono fun e w' h=>?_
 obtain ⟨rfl,hf,ht⟩:=h
 exact ⟨⟨w.heap.size+1,w.heap.size,n,[]⟩,rfl,(Mm.start w []).XO hf ht (Nat.le_succ _) (Nat.le_refl _)⟩
theorem xG (X:TX) (t:BT) (key:List UInt8) (w:World) (hO:bO [cT X t] w) (r0:Rf [cT X t] w (bW)) (hk:key.length=32) :
  Calls Tryz.prog 13 #[(vP X.bt 0),(vS key)] w fun e w'=>e = .returned (vi 0)∧aK [cT X t] w [cT X (t.change key 1)] w':=by
 refine (GX X.bt X.bc X.cap X.rest t key w r0.here (hO.at (i:=0) rfl) hk).mono fun e w' h=>?_
 obtain ⟨rfl,hf,ht⟩:=h
 exact ⟨rfl,bO.tab hO hf ht⟩
theorem uR (X:TX) (t:BT) (w:World) (r0:Rf [] w (fun w=>(cT X t).holds w)) :
  Calls Tryz.prog 16 #[(vP X.bt 0)] w fun e w'=>e = .returned (vI t.cells.length)∧aK [] w [] w':=by
 refine (OW X.bt X.bc X.cap X.rest t w r0.here).mono fun e w' h=>?_
 obtain ⟨rfl,rfl⟩:=h
 exact ⟨rfl,Mm.start w []⟩
theorem Df (n:Int) (w:World) :
  Calls Tryz.prog 12 #[(vi n)] w fun e w'=>e = .returned (vi (iM n))∧aK [] w [] w':=by
 refine (OY n w).mono fun e w' h=>?_
 obtain ⟨rfl,rfl⟩:=h
 exact ⟨rfl,Mm.start w []⟩
theorem uS (X:TX) (t:BT) (w:World) (r0:Rf [] w (fun w=>(cT X t).holds w)) :
  Calls Tryz.prog 18 #[(vP X.bt 0)] w fun e w'=>∃ (A:Option Addr) (c:Nat),e = .returned (vL A (t.enc) c)∧aK [] w [cB A (t.enc) c] w':=by
 refine (Pq X.bt X.bc X.cap X.rest t w r0.here).mono fun e w' h=>?_
 obtain ⟨v,rfl,hN⟩:=h
 obtain ⟨A,c,rfl,hB⟩:=hN.back
 exact ⟨A,c,rfl,hB⟩
theorem Dg (X:TX) (t:BT) (w:World) (r0:Rf [] w (bW)) (r1:Rf [] w (fun w=>(cT X t).holds w)) (hk:t.keys=none) :
  Calls Tryz.prog 15 #[(vP X.bt 0)] w fun e w'=>e = .returned (.tuple #[nS,nS,(vi 10)])∧aK [] w [] w':=by
 refine (Hj X.bt X.bc X.cap X.rest t w r0.here r1.here).mono fun e w' h=>?_
 obtain ⟨hf,h⟩:=h
 rw [hk] at h
 exact ⟨h,hf.back⟩
theorem Dh (X:TX) (t:BT) (l m:List (List UInt8)) (w:World) (r0:Rf [] w (bW)) (r1:Rf [] w (fun w=>(cT X t).holds w)) (hk:t.keys=some (l,m)) :
  Calls Tryz.prog 15 #[(vP X.bt 0)] w fun e w'=>∃ (A1:Option Addr) (c1:Nat) (A2:Option Addr) (c2:Nat),e = .returned (.tuple #[(vL A1 l c1),(vL A2 m c2),(vi 0)])∧aK [] w [dJ A1 (SS l),dJ A2 (SS m)] w':=by
 refine (Hj X.bt X.bc X.cap X.rest t w r0.here r1.here).mono fun e w' h=>?_
 obtain ⟨hf,h⟩:=h
 rw [hk] at h
 obtain ⟨A1,c1,A2,c2,rfl,h1,h2,h3⟩:=h
 exact ⟨A1,c1,A2,c2,rfl,QJ hf h1 h2 h3⟩
theorem QK (X:TX) (t:BT) (Y:TX) (u:BT) (w:World) (r0:Rf [] w (fun w=>(cT X t).holds w)) (r1:Rf [] w (fun w=>(cT Y u).holds w)) (hs:nN t u=false) :
  Calls Tryz.prog 14 #[(vP X.bt 0),(vP Y.bt 0)] w fun e w'=>e = .returned (.tuple #[(.pointer none),(vi 1)])∧aK [] w [] w':=by
 by_cases h1:t.cells.length=u.cells.length
 ·have h2:t.seed≠u.seed:=fun h2=>by simp [nN,h1,h2] at hs
  refine (Qz X.bt X.bc X.cap Y.bt Y.bc Y.cap X.rest Y.rest t u w r0.here r1.here h1 h2).mono fun e w' h=>?_
  obtain ⟨rfl,hf⟩:=h
  exact ⟨rfl,hf.back⟩
 ·refine (Qy X.bt X.bc X.cap Y.bt Y.bc Y.cap X.rest Y.rest t u w r0.here r1.here h1).mono fun e w' h=>?_
  obtain ⟨rfl,hf⟩:=h
  exact ⟨rfl,hf.back⟩
theorem xH (X:TX) (t:BT) (Y:TX) (u:BT) (w:World) (r0:Rf [] w (fun w=>(cT X t).holds w)) (r1:Rf [] w (fun w=>(cT Y u).holds w)) (hs:nN t u=true) :
  Calls Tryz.prog 14 #[(vP X.bt 0),(vP Y.bt 0)] w fun e w'=>∃ (Z:TX),e = .returned (.tuple #[(vP Z.bt 0),(vi 0)])∧aK [] w [cT Z (t.sub u)] w':=by
 simp only [nN,Bool.and_eq_true,decide_eq_true_eq] at hs
 refine (QA X.bt X.bc X.cap Y.bt Y.bc Y.cap X.rest Y.rest t u w r0.here r1.here hs.1 hs.2).mono fun e w' h=>?_
 obtain ⟨bt,bc,cap,rest,rfl,hB⟩:=h
 exact ⟨⟨bt,bc,cap,rest⟩,rfl,hB⟩
theorem QL (A:Option Addr) (c:Nat) (D:List UInt8) (w:World) (r0:Rf [] w (fun w=>aF w A (B8 D))) (hD:D.length≤4294967296) (hd:fW D=none) :
  Calls Tryz.prog 118 #[(vL A D c)] w fun e w'=>e = .returned (.tuple #[(.pointer none),(vi 3)])∧aK [] w [] w':=by
 refine (QH A c D w hD r0.here hd).mono fun e w' h=>?_
 obtain ⟨rfl,hf⟩:=h
 exact ⟨rfl,hf.back⟩
theorem Di (A:Option Addr) (c:Nat) (D:List UInt8) (u:BT) (w:World) (r0:Rf [] w (fun w=>aF w A (B8 D))) (hD:D.length≤4294967296) (hd:fW D=some u) :
  Calls Tryz.prog 118 #[(vL A D c)] w fun e w'=>∃ (X:TX),e = .returned (.tuple #[(vP X.bt 0),(vi 0)])∧aK [] w [cT X u] w':=by
 refine (QI A c D u w hD r0.here hd).mono fun e w' h=>?_
 obtain ⟨bt,bc,cap,rest,rfl,hB⟩:=h
 exact ⟨⟨bt,bc,cap,rest⟩,rfl,hB⟩
abbrev Bs := List UInt8
/-! ### Parameters and sets -/
def oP (fan leaf : Int) : Bool := decide (2 ≤ fan) && decide (fan ≤ 16) && decide (1 ≤ leaf) && decide (leaf ≤ 64)
def bH (l : List Bs) : Prop := (∀ x ∈ l, x.length = 32) ∧ l.Pairwise (· < ·)
instance (l : List Bs) : Decidable (bH l) := by unfold bH; infer_instance
def fC (l : List Bs) : Int := if 16384 < l.length then 2 else if bH l then 0 else 1
theorem nO {a b c:Bs} (h1:a < b) (h2:b < c):a < c:=List.lt_trans h1 h2
theorem iY {a:Bs}:¬ a < a:=List.lt_irrefl a
theorem qW {a b:Bs} (h:¬ a < b) (hne:a≠b):b < a:=by
 rcases List.le_total a b with h1 | h1
 ·exact (hne (List.le_antisymm h1 h)).elim
 ·by_cases h2:b < a
  ·exact h2
  ·exact (hne (List.le_antisymm h2 h)).elim
theorem QM {l:List Bs} (h:16384 < l.length):fC l=2:=by simp [fC,h]
theorem lS {l:List Bs} (h:l.length≤16384) (hs:bH l):fC l=0:=by unfold fC; rw [if_neg om,if_pos hs]
theorem It {l:List Bs} (h:l.length≤16384) (hs:¬ bH l):fC l=1:=by unfold fC; rw [if_neg om,if_neg hs]
theorem QN {l:List Bs}:bH (l.take 0):=by simp [bH]
theorem Iu {l:List Bs} (i:Nat) (h:bH l):bH (l.take i):=⟨fun x hx=>h.1 x (List.mem_of_mem_take hx),h.2.sublist (List.take_sublist _ _)⟩
theorem Ap {l:List Bs} {i:Nat} {x:Bs} (hx:l[i]?=some x):bH (l.take (i+1))↔bH (l.take i)∧x.length=32∧∀ j y,i=j+1→l[j]?=some y→y < x:=by
 obtain ⟨hlt,he⟩:=List.getElem?_eq_some_iff.1 hx
 rw [List.take_succ_eq_append_getElem hlt,he]
 unfold bH
 rw [List.pairwise_append]
 constructor
 ·rintro ⟨h1,h2,_,h3⟩
  refine ⟨⟨fun y hy=>h1 y (List.mem_append_left _ hy),h2⟩,h1 x si,fun j y hj hy=>h3 y (List.mem_of_getElem? (i:=j) (by rw [List.getElem?_take_of_lt om]; exact hy)) x si⟩
 ·rintro ⟨⟨h1,h2⟩,h3,h4⟩
  refine ⟨fun y hy=>?_,h2,si,fun a ha b hb=>?_⟩
  ·rcases List.mem_append.1 hy with hy | hy
   ·exact h1 y hy
   ·rw [List.mem_singleton.1 hy]; exact h3
  ·rw [List.mem_singleton.1 hb]
   obtain ⟨k,hk⟩:=List.getElem?_of_mem ha
   have hki:k < i:=by
    have:=(List.getElem?_eq_some_iff.1 hk).1
    rw [List.length_take] at this
    omega
   obtain ⟨j,rfl⟩:∃ j,i=j+1:=⟨i - 1,om⟩
   have hj:j < l.length:=om
   have hlast:=h4 j l[j] rfl (List.getElem?_eq_getElem hj)
   by_cases hkj:k=j
   ·subst hkj
    rw [List.getElem?_take_of_lt om,List.getElem?_eq_getElem hj] at hk
    injection hk with hk
    rw [← hk]
    exact hlast
   ·refine nO ?_ hlast
    rw [List.pairwise_iff_getElem] at h2
    obtain ⟨hk1,hk2⟩:=List.getElem?_eq_some_iff.1 hk
    have h5:j < (l.take (j+1)).length:=by rw [List.length_take]; omega
    have:=h2 k j hk1 h5 om
    rw [hk2,List.getElem_take] at this
    exact this
def inR (lo hi x : Bs) : Bool := (decide (lo < x) || decide (lo = x)) && (decide (hi = []) || decide (x < hi))
def inL (l : List Bs) (lo hi : Bs) : List Bs := l.filter (inR lo hi)
theorem Iv {α:Type} {p:α→Bool} {l:List α} {i:Nat} {x:α} (hx:l[i]?=some x) (h:p x=true):(l.take i).filter p++[x]=(l.take (i+1)).filter p:=by
 obtain ⟨hlt,he⟩:=List.getElem?_eq_some_iff.1 hx
 rw [List.take_succ_eq_append_getElem hlt,he,List.filter_append]
 simp [h]
theorem Iw {α:Type} {p:α→Bool} {l:List α} {i:Nat} {x:α} (hx:l[i]?=some x) (h:p x=false):(l.take i).filter p=(l.take (i+1)).filter p:=by
 obtain ⟨hlt,he⟩:=List.getElem?_eq_some_iff.1 hx
 rw [List.take_succ_eq_append_getElem hlt,he,List.filter_append]
 simp [h]
theorem mJ (l:List Bs) (lo hi:Bs):(inL l lo hi).length≤l.length:=List.length_filter_le _ _
def aH (l m : List Bs) : List Bs := l.filter fun x => !m.contains x
theorem xI {l m:List Bs} {i:Nat} {x:Bs} (hx:l[i]?=some x) (h:m.contains x=false):aH (l.take i) m++[x]=aH (l.take (i+1)) m:=Iv hx (by simpa using h)
theorem xJ {l m:List Bs} {i:Nat} {x:Bs} (hx:l[i]?=some x) (h:m.contains x=true):aH (l.take i) m=aH (l.take (i+1)) m:=Iw hx (by simpa using h)
theorem jL (l m:List Bs):(aH l m).length≤l.length:=List.length_filter_le _ _
theorem QO {l m:List Bs} {i:Nat} {x y:Bs} (hx:l[i]?=some x) (hy:m[i]?=some y) (h:l.take i=m.take i) (he:x=y):l.take (i+1)=m.take (i+1):=by
 obtain ⟨h1,e1⟩:=List.getElem?_eq_some_iff.1 hx
 obtain ⟨h2,e2⟩:=List.getElem?_eq_some_iff.1 hy
 rw [List.take_succ_eq_append_getElem h1,List.take_succ_eq_append_getElem h2,h,e1,e2,he]
def lU (lo hi : Bs) : Bool := decide (hi = []) || decide (lo < hi)
def gL (x : Bs) : Bool := decide (x = []) || decide (x.length = 32)
def eD (l : List Bs) (lo hi : Bs) : Bool := l.all (inR lo hi) && decide (l.Pairwise (· < ·))
theorem QP {l:List Bs} {i:Nat} {x:Bs} (hx:l[i]?=some x):(l.take (i+1)).Pairwise (· < ·)↔(l.take i).Pairwise (· < ·)∧∀ j y,i=j+1→l[j]?=some y→y < x:=by
 obtain ⟨hlt,he⟩:=List.getElem?_eq_some_iff.1 hx
 rw [List.take_succ_eq_append_getElem hlt,he,List.pairwise_append]
 constructor
 ·rintro ⟨h2,_,h3⟩
  refine ⟨h2,fun j y hj hy=>h3 y (List.mem_of_getElem? (i:=j) (by rw [List.getElem?_take_of_lt om]; exact hy)) x si⟩
 ·rintro ⟨h2,h4⟩
  refine ⟨h2,si,fun a ha b hb=>?_⟩
  rw [List.mem_singleton.1 hb]
  obtain ⟨k,hk⟩:=List.getElem?_of_mem ha
  have hki:k < i:=by
   have:=(List.getElem?_eq_some_iff.1 hk).1
   rw [List.length_take] at this
   omega
  obtain ⟨j,rfl⟩:∃ j,i=j+1:=⟨i - 1,om⟩
  have hj:j < l.length:=om
  have hlast:=h4 j l[j] rfl (List.getElem?_eq_getElem hj)
  by_cases hkj:k=j
  ·subst hkj
   rw [List.getElem?_take_of_lt om,List.getElem?_eq_getElem hj] at hk
   injection hk with hk
   rw [← hk]
   exact hlast
  ·refine nO ?_ hlast
   rw [List.pairwise_iff_getElem] at h2
   obtain ⟨hk1,hk2⟩:=List.getElem?_eq_some_iff.1 hk
   have h5:j < (l.take (j+1)).length:=by rw [List.length_take]; omega
   have:=h2 k j hk1 h5 om
   rw [hk2,List.getElem_take] at this
   exact this
theorem Dj {l:List Bs} {i:Nat} {x lo hi:Bs} (hx:l[i]?=some x):eD (l.take (i+1)) lo hi=true↔eD (l.take i) lo hi=true∧inR lo hi x=true∧∀ j y,i=j+1→l[j]?=some y→y < x:=by
 unfold eD
 rw [Bool.and_eq_true,Bool.and_eq_true,decide_eq_true_eq,decide_eq_true_eq,QP hx]
 obtain ⟨hlt,he⟩:=List.getElem?_eq_some_iff.1 hx
 rw [List.take_succ_eq_append_getElem hlt,he,List.all_append]
 simp
 constructor
 ·rintro ⟨⟨h1,h2⟩,h3,h4⟩; exact ⟨⟨h1,h3⟩,h2,h4⟩
 ·rintro ⟨⟨h1,h3⟩,h2,h4⟩; exact ⟨⟨h1,h2⟩,h3,h4⟩
theorem Ix {l:List Bs} {i:Nat} {x lo hi:Bs} (hx:l[i]?=some x) (h:¬ (inR lo hi x=true∧∀ j y,i=j+1→l[j]?=some y→y < x)):eD l lo hi=false:=by
 cases ho:eD l lo hi with
 | false=>rfl
 | true =>
   unfold eD at ho
   rw [Bool.and_eq_true,decide_eq_true_eq] at ho
   have:eD (l.take (i+1)) lo hi=true:=by
    unfold eD
    rw [Bool.and_eq_true,decide_eq_true_eq]
    refine ⟨?_,ho.2.sublist (List.take_sublist _ _)⟩
    rw [List.all_eq_true] at ho ⊢
    exact fun y hy=>ho.1 y (List.mem_of_mem_take hy)
   exact (h ((Dj hx).1 this).2).elim
theorem Dk {l:List Bs} (h:fC l=0):l.length≤16384∧bH l:=by
 unfold fC at h
 split at h
 ·cases h
 ·split at h
  ·exact ⟨om,ag⟩
  ·cases h
theorem QQ {l:List Bs} (h:l.length≤16384∧bH l):l.flatten.length≤l.length*32:=by
 have key:∀ l:List Bs,(∀ x∈l,x.length=32)→l.flatten.length=l.length*32:=by
  intro l
  induction l with
  | nil=>intro _; rfl
  | cons x l ih =>
    intro hx
    rw [List.flatten_cons,List.length_append,ih fun y hy=>hx y (by simp [hy]),hx x si,List.length_cons]
    omega
 exact Nat.le_of_eq (key l h.2.1)
theorem QR {l:List Bs} {i:Nat} {x:Bs} (hx:l[i]?=some x):(l.take i).flatten++x=(l.take (i+1)).flatten:=by
 obtain ⟨hlt,he⟩:=List.getElem?_eq_some_iff.1 hx
 rw [List.take_succ_eq_append_getElem hlt,he]
 simp
/-! ### Bounds -/
theorem Iy {fan m : Nat} (hf : 2 ≤ fan) (hm : 2 ≤ m) : (m + fan - 1) / fan < m := by
 rw [Nat.div_lt_iff_lt_mul (by omega)]
 have : m * 2 ≤ m * fan := Nat.mul_le_mul_left _ hf
 have h2 : 2 * fan ≤ m * fan := Nat.mul_le_mul_right _ hm
 obtain ⟨a, rfl⟩ : ∃ a, m = a + 2 := ⟨m - 2, by omega⟩
 obtain ⟨b, rfl⟩ : ∃ b, fan = b + 2 := ⟨fan - 2, by omega⟩
 have e : (a + 2) * (b + 2) = a * b + 2 * a + 2 * b + 4 := by rw [Nat.add_mul, Nat.mul_add]; omega
 omega
def iP (fan leaf n : Nat) : Nat := if h : leaf < n ∧ 1 ≤ leaf ∧ 2 ≤ fan then iP fan leaf ((n + fan - 1) / fan) + 1 else 0
termination_by n
decreasing_by exact Iy h.2.2 (by omega)
theorem sP {fan leaf n:Nat} (hf:2≤fan) (hl:1≤leaf) (h:leaf < n):iP fan leaf n=iP fan leaf ((n+fan - 1) / fan)+1:=by
 rw [iP,dif_pos ⟨h,hl,hf⟩]
theorem Aq {fan leaf n:Nat} (h:n≤leaf):iP fan leaf n=0:=by
 rw [iP,dif_neg om]
/-! ### A list with further items -/
def aZ (l : List Bs) (x : Bs) : Nat := (l.takeWhile fun y => decide (y < x)).length
def uT (l : List Bs) (x : Bs) : List Bs := if l.contains x then l else (l.take (aZ l x) ++ [x]) ++ l.drop (aZ l x)
def bA (l m : List Bs) : List Bs := m.foldl uT l
theorem nP (l:List Bs) (x:Bs):aZ l x≤l.length:=List.Sublist.length_le (List.takeWhile_sublist _)
theorem Iz (l:List Bs) (s:Bs):l.take (aZ l s)=l.takeWhile fun x=>decide (x < s):=by
 unfold aZ
 conv=>lhs; arg 2; rw [← List.takeWhile_append_dropWhile (p:=fun x=>decide (x < s)) (l:=l)]
 exact List.take_left
theorem QS (l:List Bs) (s:Bs):l.drop (aZ l s)=l.dropWhile fun x=>decide (x < s):=by
 unfold aZ
 conv=>lhs; arg 2; rw [← List.takeWhile_append_dropWhile (p:=fun x=>decide (x < s)) (l:=l)]
 exact List.drop_left
theorem sQ {l:List Bs} {s:Bs} {k:Nat} {x:Bs} (hk:k≤aZ l s) (hx:l[k]?=some x):(x < s↔k < aZ l s):=by
 constructor
 ·intro h
  rcases Nat.lt_or_ge k (aZ l s) with h1 | h1
  ·exact h1
  ·exfalso
   have hke:k=aZ l s:=om
   subst hke
   have h0:(l.drop (aZ l s))[0]?=some x:=by rw [List.getElem?_drop]; simpa using hx
   rw [QS] at h0
   have hne:l.dropWhile (fun x=>decide (x < s))≠[]:=by intro e; rw [e] at h0; cases h0
   have:=List.head_dropWhile_not (fun x=>decide (x < s)) hne
   rw [List.head_eq_getElem] at this
   rw [List.getElem?_eq_getElem (List.length_pos_iff.2 hne)] at h0
   injection h0 with h0
   rw [h0] at this
   simp [h] at this
 ·intro h
  have h1:(l.take (aZ l s))[k]?=some x:=by rw [List.getElem?_take_of_lt h]; exact hx
  rw [Iz] at h1
  have h2:=List.all_takeWhile (p:=fun x=>decide (x < s)) (l:=l)
  rw [List.all_eq_true] at h2
  simpa using h2 x (List.mem_of_getElem? h1)
/-! ### Search by halves -/
def jM (p : Nat → Bool) (i j : Nat) : Nat := if h : i < j then (if p ((i + j) / 2) then jM p i ((i + j) / 2) else jM p ((i + j) / 2 + 1) j) else i
termination_by j - i
decreasing_by all_goals omega
theorem xK {p:Nat→Bool} {i j:Nat} (h:i < j) (hp:p ((i+j) / 2)=true):jM p i j=jM p i ((i+j) / 2):=by rw [jM,dif_pos h,if_pos hp]
theorem xL {p:Nat→Bool} {i j:Nat} (h:i < j) (hp:p ((i+j) / 2)=false):jM p i j=jM p ((i+j) / 2+1) j:=by rw [jM,dif_pos h,if_neg (by rw [hp]; decide)]
theorem Ar {p:Nat→Bool} {i j:Nat} (h:¬ i < j):jM p i j=i:=by rw [jM,dif_neg h]
theorem Dl {p:Nat→Bool} {k n:Nat} (h0:∀ i,i < k→p i=false) (h1:∀ i,k≤i→i < n→p i=true):∀ (m i j:Nat),j - i≤m→i≤k→k≤j→j≤n→jM p i j=k
 | 0,i,j,hm,hi,hj,_=>by rw [Ar om]; omega
 | m+1,i,j,hm,hi,hj,hn=>by
   by_cases h:i < j
   ·cases hp:p ((i+j) / 2) with
    | true =>
      rw [xK h hp]
      have:k≤(i+j) / 2:=by
       rcases Nat.lt_or_ge ((i+j) / 2) k with h2 | h2
       ·rw [h0 _ h2] at hp; cases hp
       ·exact h2
      exact Dl h0 h1 m i _ om hi this om
    | false =>
      rw [xL h hp]
      have:(i+j) / 2 < k:=by
       rcases Nat.lt_or_ge ((i+j) / 2) k with h2 | h2
       ·exact h2
       ·rw [h1 _ h2 om] at hp; cases hp
      exact Dl h0 h1 m _ j om om hj hn
   ·rw [Ar h]; omega
def nQ (l : List Bs) (x : Bs) (i : Nat) : Bool := !decide (l.getD i [] < x)
theorem pR {l:List Bs} {i:Nat} {y x:Bs} (h:l[i]?=some y):nQ l x i = !decide (y < x):=by simp [nQ,List.getD_eq_getElem?_getD,h]
theorem As {l:List Bs} (hs:l.Pairwise (· < ·)) (x:Bs):jM (nQ l x) 0 l.length=aZ l x:=by
 refine Dl (k:=aZ l x) (n:=l.length) (fun i hi=>?_) (fun i hi hn=>?_) l.length 0 l.length om (Nat.zero_le _) (nP l x) (Nat.le_refl _)
 ·have hlt:i < l.length:=Nat.lt_of_lt_of_le hi (nP l x)
  rw [pR (List.getElem?_eq_getElem hlt)]
  simp [(sQ (Nat.le_of_lt hi) (List.getElem?_eq_getElem hlt)).2 hi]
 ·rw [pR (List.getElem?_eq_getElem hn)]
  have hp:aZ l x < l.length:=om
  have h1:¬ l[aZ l x] < x:=fun h=>by
   have:=(sQ (Nat.le_refl _) (List.getElem?_eq_getElem hp)).1 h
   omega
  have h2:¬ l[i] < x:=fun h=>by
   rcases Nat.lt_or_ge (aZ l x) i with h3 | h3
   ·have:=(List.pairwise_iff_getElem.1 hs) (aZ l x) i hp hn h3
    exact h1 (nO this h)
   ·have:i=aZ l x:=om
    subst this
    exact h1 h
  simp [h2]
theorem xM {l:List Bs} {x y:Bs} (h:y∈l.take (aZ l x)):y < x:=by
 rw [Iz] at h
 have h2:=List.all_takeWhile (p:=fun z=>decide (z < x)) (l:=l)
 rw [List.all_eq_true] at h2
 simpa using h2 y h
theorem Au {l:List Bs} (hs:l.Pairwise (· < ·)) {x y:Bs} (h:y∈l.drop (aZ l x)):¬ y < x:=by
 obtain ⟨j,hj⟩:=List.getElem?_of_mem h
 rw [List.getElem?_drop] at hj
 intro hlt
 have hjl:=(List.getElem?_eq_some_iff.1 hj).1
 have hp:aZ l x < l.length:=om
 have h1:¬ l[aZ l x] < x:=fun h=>by
  have:=(sQ (Nat.le_refl _) (List.getElem?_eq_getElem hp)).1 h
  omega
 rcases Nat.eq_zero_or_pos j with h0 | h0
 ·subst h0
  rw [Nat.add_zero,List.getElem?_eq_getElem hp] at hj
  injection hj with hj
  exact h1 (hj▸hlt)
 ·have h3:=(List.pairwise_iff_getElem.1 hs) (aZ l x) (aZ l x+j) hp hjl om
  rw [(List.getElem?_eq_some_iff.1 hj).2] at h3
  exact h1 (nO h3 hlt)
theorem sR {l:List Bs} (hs:l.Pairwise (· < ·)) (lo hi:Bs):(l.take (max (aZ l lo) (if hi=[] then l.length else aZ l hi))).drop (aZ l lo)=inL l lo hi:=by
 have hb:inR lo hi=fun x=>!decide (x < lo) && (decide (hi=[]) || decide (x < hi)):=by
  funext x
  unfold inR
  by_cases h1:lo < x
  ·have:¬ x < lo:=fun h=>iY (nO h1 h)
   simp [h1,this]
  ·by_cases h2:lo=x
   ·subst h2; simp [iY]
   ·have:x < lo:=qW h1 h2
    simp [h1,h2,this]
 have hsplit:l=l.take (aZ l lo)++l.drop (aZ l lo):=(List.take_append_drop _ _).symm
 have hD:∀ y,y∈l.drop (aZ l lo)→¬ y < lo:=fun y h=>Au hs h
 have hsD:(l.drop (aZ l lo)).Pairwise (· < ·):=hs.sublist (List.drop_sublist _ _)
 have e1:inL l lo hi=(l.drop (aZ l lo)).filter fun x=>decide (hi=[]) || decide (x < hi):=by
  unfold inL
  rw [hb]
  conv=>lhs; rw [hsplit]
  rw [List.filter_append]
  have z1:(l.take (aZ l lo)).filter (fun x=>!decide (x < lo) && (decide (hi=[]) || decide (x < hi)))=[]:=by
   rw [List.filter_eq_nil_iff]
   intro x hx
   simp [xM hx]
  rw [z1,List.nil_append]
  apply List.filter_congr
  intro x hx
  simp [hD x hx]
 rw [e1,List.drop_take]
 by_cases hh:hi=[]
 ·subst hh
  have hle:=nP l lo
  rw [if_pos rfl,Nat.max_eq_right hle]
  have:(l.drop (aZ l lo)).filter (fun x=>decide (([]:Bs)=[]) || decide (x < []))=l.drop (aZ l lo):=by simp
  rw [this,List.take_of_length_le (by rw [List.length_drop]; omega)]
 ·rw [if_neg hh]
  have e2:(l.drop (aZ l lo)).filter (fun x=>decide (hi=[]) || decide (x < hi))=(l.drop (aZ l lo)).filter fun x=>decide (x < hi):=by
   apply List.filter_congr
   intro x _
   simp [hh]
  rw [e2]
  rcases Nat.lt_or_ge (aZ l lo) (aZ l hi) with h1 | h1
  ·rw [Nat.max_eq_right (Nat.le_of_lt h1)]
   have hs2:l.drop (aZ l lo)=(l.drop (aZ l lo)).take (aZ l hi - aZ l lo)++l.drop (aZ l hi):=by
    have:=(List.take_append_drop (aZ l hi - aZ l lo) (l.drop (aZ l lo))).symm
    rwa [List.drop_drop,show aZ l lo+(aZ l hi - aZ l lo)=aZ l hi by omega] at this
   conv=>rhs; rw [hs2]
   rw [List.filter_append]
   have z1:((l.drop (aZ l lo)).take (aZ l hi - aZ l lo)).filter (fun x=>decide (x < hi))=(l.drop (aZ l lo)).take (aZ l hi - aZ l lo):=by
    rw [List.filter_eq_self]
    intro x hx
    have:x∈l.take (aZ l hi):=by
     rw [← List.drop_take] at hx
     exact List.mem_of_mem_drop hx
    simpa using xM this
   have z2:(l.drop (aZ l hi)).filter (fun x=>decide (x < hi))=[]:=by
    rw [List.filter_eq_nil_iff]
    intro x hx
    simpa using Au hs hx
   rw [z1,z2,List.append_nil]
  ·rw [Nat.max_eq_left h1,Nat.sub_self,List.take_zero]
   symm
   rw [List.filter_eq_nil_iff]
   intro x hx
   have:x∈l.drop (aZ l hi):=by
    have e:l.drop (aZ l lo)=(l.drop (aZ l hi)).drop (aZ l lo - aZ l hi):=by rw [List.drop_drop]; congr 1; omega
    rw [e] at hx
    exact List.mem_of_mem_drop hx
   simpa using Au hs this
theorem xN {l:List Bs} (hs:l.Pairwise (· < ·)) (x:Bs):l.contains x=decide (l[aZ l x]?=some x):=by
 rw [Bool.eq_iff_iff,decide_eq_true_eq,List.contains_iff_mem]
 constructor
 ·intro h
  have hm:x∈l.take (aZ l x)++l.drop (aZ l x):=by rw [List.take_append_drop]; exact h
  rcases List.mem_append.1 hm with h1 | h1
  ·exact (iY (xM h1)).elim
  ·obtain ⟨j,hj⟩:=List.getElem?_of_mem h1
   rw [List.getElem?_drop] at hj
   have hjl:=(List.getElem?_eq_some_iff.1 hj).1
   rcases Nat.eq_zero_or_pos j with h0 | h0
   ·subst h0; exact hj
   ·have hp:aZ l x < l.length:=om
    have h3:=(List.pairwise_iff_getElem.1 hs) (aZ l x) (aZ l x+j) hp hjl om
    rw [(List.getElem?_eq_some_iff.1 hj).2] at h3
    have:=(sQ (Nat.le_refl _) (List.getElem?_eq_getElem hp)).1 h3
    omega
 ·intro h
  exact List.mem_of_getElem? h
theorem QT {l:List Bs} (h:bH l) (p:Bs→Bool):bH (l.filter p):=⟨fun x hx=>h.1 x (List.mem_filter.1 hx).1,h.2.sublist List.filter_sublist⟩
theorem Av:∀ l:List Bs,(∀ x∈l,x.length=32)→l.flatten.length=l.length*32
 | [],_=>rfl
 | x::l,hx=>by
   rw [List.flatten_cons,List.length_append,Av l fun y hy=>hx y (by simp [hy]),hx x si,List.length_cons]
   omega
theorem QU {l:List Bs} (h:bH l) (lo hi:Bs):(inL l lo hi).flatten.length≤l.length*32:=by
 have e:(inL l lo hi).flatten.length=(inL l lo hi).length*32:=Av _ (QT h (inR lo hi)).1
 rw [e]
 exact Nat.mul_le_mul_right _ (mJ l lo hi)
def cK (l m : List Bs) : List Bs := l.filter fun x => m.contains x
theorem IA {l m:List Bs} {i:Nat} {x:Bs} (hx:l[i]?=some x) (h:m.contains x=true):cK (l.take i) m++[x]=cK (l.take (i+1)) m:=Iv hx h
theorem IB {l m:List Bs} {i:Nat} {x:Bs} (hx:l[i]?=some x) (h:m.contains x=false):cK (l.take i) m=cK (l.take (i+1)) m:=Iw hx h
theorem IC (l m:List Bs):(cK l m).length≤l.length:=List.length_filter_le _ _
def cQ (l : List Bs) : Bs := dM l.flatten
/-! ### Plain -/
inductive AC where
 | sum (n : Nat) (f : Bs) | list (xs : List Bs) | ans (xs ms : List Bs)
 deriving DecidableEq
structure AP where
 (lo hi : Bs) (c : AC)
 deriving DecidableEq
def dG (its : List Bs) (lo hi : Bs) : AP := ⟨lo, hi, .sum (inL its lo hi).length (cQ (inL its lo hi))⟩
def iZ (its own : List Bs) (fan : Nat) (lo : Bs) : Nat → Bs × List AP
 | 0 => (lo, [])
 | k + 1 => if own.getD ((k + 1) * own.length / fan) [] = (iZ its own fan lo k).1 then iZ its own fan lo k else (own.getD ((k + 1) * own.length / fan) [], (iZ its own fan lo k).2 ++ [dG its (iZ its own fan lo k).1 (own.getD ((k + 1) * own.length / fan) [])])
def iQ (its : List Bs) (fan leaf : Nat) (lo hi : Bs) (n : Nat) (f : Bs) : List AP :=
 if (inL its lo hi).length = n ∧ cQ (inL its lo hi) = f then []
 else if (inL its lo hi).length ≤ leaf then [⟨lo, hi, .list (inL its lo hi)⟩]
 else (iZ its (inL its lo hi) fan lo (fan - 1)).2 ++ [dG its (iZ its (inL its lo hi) fan lo (fan - 1)).1 hi]
def gW (its : List Bs) (lo hi : Bs) (xs : List Bs) : List AP :=
 if 0 < (aH (inL its lo hi) xs).length + (aH xs its).length then [⟨lo, hi, .ans (aH (inL its lo hi) xs) (aH xs its)⟩] else []
theorem uU {α:Type} {l:List α} {i:Nat} {x:α} (hx:l[i]?=some x):l.take i++[x]=l.take (i+1):=by rw [List.take_add_one,hx]; rfl
/-! ### Encoding -/
abbrev cW : Bs := []
def AC.enc : AC → Bs
 | .sum n f => (aD 1 ++ aD n) ++ f
 | .list xs => aD 2 ++ (aD xs.length ++ xs.flatten)
 | .ans xs ms => (aD 3 ++ (aD xs.length ++ xs.flatten)) ++ (aD ms.length ++ ms.flatten)
def AP.enc (p : AP) : Bs := ((aD p.lo.length ++ p.lo) ++ (aD p.hi.length ++ p.hi)) ++ p.c.enc
def bS (ps : List AP) : Bs := if ps.length = 0 then [] else aD ps.length ++ ps.flatMap AP.enc
def AC.fit : AC → Prop
 | .sum n f => n ≤ 16384 ∧ f.length = 32
 | .list xs => xs.length ≤ 16384 ∧ ∀ x ∈ xs, x.length = 32
 | .ans xs ms => (xs.length ≤ 16384 ∧ ∀ x ∈ xs, x.length = 32) ∧ ms.length ≤ 16384 ∧ ∀ x ∈ ms, x.length = 32
def AP.fit (p : AP) : Prop := p.lo.length ≤ 32 ∧ p.hi.length ≤ 32 ∧ p.c.fit
theorem ID {ps:List AP} {i:Nat} {p:AP} (h:ps[i]?=some p):(ps.take i).flatMap AP.enc++p.enc=(ps.take (i+1)).flatMap AP.enc:=by
 rw [← uU h,List.flatMap_append]
 simp
theorem QV {ps:List AP} {i:Nat} {p:AP} (h:ps[i]?=some p):((ps.take i).flatMap AP.enc).length+p.enc.length≤(ps.flatMap AP.enc).length:=by
 have e:=ID h
 have e2:ps.flatMap AP.enc=(ps.take (i+1)).flatMap AP.enc++(ps.drop (i+1)).flatMap AP.enc:=by rw [← List.flatMap_append,List.take_append_drop]
 rw [e2,← e]
 simp only [List.length_append]
 omega
theorem xO (n:Nat):0 < (aD n).length:=by
 unfold aD
 split <;> simp
theorem Dn:∀ ps:List AP,ps.length≤(ps.flatMap AP.enc).length
 | []=>Nat.zero_le _
 | p::ps=>by
   have h:=Dn ps
   have h2:=xO p.lo.length
   simp only [List.flatMap_cons,List.length_append,List.length_cons,AP.enc]
   omega
theorem QW (fan leaf:Int) (w:World) :
  Calls Tryz.prog 57 #[(.agg #[(vi fan),(vi leaf)])] w fun e w'=>e = .returned (.bool (oP fan leaf))∧aK [] w [] w':=by
 refine eH Tryz.func57 21 (Mm.start w []) rfl<|Nc<|Nx<|pB [(vi fan),(vi leaf)] fun b1=>lx rfl<|Nb<|lk (vP b1 0)<|lL 0 rfl<|lk (.bool (decide ((fan:Int)≥2)))<|lm ?_
 refine St.dec 6 rfl (fun hc6=>?_) (fun hc6=>?_)
 ·have hd6:=of_decide_eq_true hc6
  refine lg (vP b1 0)<|lu (vi fan) (eT 0 rfl rfl kr rfl rfl)<|lg (.bool (decide ((fan:Int)≤16)))<|lk (.bool (decide ((fan:Int)≤16)))<|lm ?_
  refine St.dec 11 rfl (fun hc11=>?_) (fun hc11=>?_)
  ·have hd11:=of_decide_eq_true hc11
   refine lg (vP b1 1)<|lu (vi leaf) (eT 0 rfl rfl kr rfl rfl)<|lg (.bool (decide ((leaf:Int)≥1)))<|lk (.bool (decide ((leaf:Int)≥1)))<|lm ?_
   refine St.dec 16 rfl (fun hc16=>?_) (fun hc16=>?_)
   ·have hd16:=of_decide_eq_true hc16
    exact lg (vP b1 1)<|lu (vi leaf) (eT 0 rfl rfl kr rfl rfl)<|lg (.bool (decide ((leaf:Int)≤64)))<|lk (.bool (decide ((leaf:Int)≤64)))<|lx rfl<|Nd<|sN [(.bool (decide ((leaf:Int)≤64)))] fun w hM=>⟨eM (by unfold oP; simp; omega),(hM.pick [] rfl rfl)⟩
   ·have hd16:=of_decide_eq_false hc16
    exact lx rfl<|lF<|lx rfl<|Nd<|sN [bF] fun w hM=>⟨eM (by unfold oP; simp; omega),(hM.pick [] rfl rfl)⟩
  ·have hd11:=of_decide_eq_false hc11
   exact lx rfl<|lF<|lx rfl<|lF<|lx rfl<|Nd<|sN [bF] fun w hM=>⟨eM (by unfold oP; simp; omega),(hM.pick [] rfl rfl)⟩
 ·have hd6:=of_decide_eq_false hc6
  exact lx rfl<|lF<|lx rfl<|lF<|lx rfl<|lF<|lx rfl<|Nd<|sN [bF] fun w hM=>⟨eM (by unfold oP; simp; omega),(hM.pick [] rfl rfl)⟩
theorem IE (A:Option Addr) (c:Nat) (l:List (List UInt8)) (w:World) (r0:Rf [] w (fun w=>aF w A (SS l))) (hl:l.length≤9223372036854775807) :
  Calls Tryz.prog 48 #[(vL A l c)] w fun e w'=>e = .returned (vi (fC l))∧aK [] w [] w':=by
 have hl':=hl
 refine eH Tryz.func48 32 (Mm.start w []) rfl<|Nc<|lx rfl<|Ne<|lx rfl<|lk (vI l.length)<|lk (.bool (decide (((l.length:Nat):Int) > 16384))) ?_
 refine aS (aJ (bR rfl (fun hc7=>?_) (fun hc7=>?_)))
 ·have hd7:=of_decide_eq_true hc7
  exact Nc<|lx rfl<|Nh<|sN [(vi 2)] fun w hM=>⟨lI (QM om).symm,hM⟩
 ·have hd7:=of_decide_eq_false hc7
  refine Nl<|Nc<|lx rfl<|lk (vI l.length)<|lx rfl<|Ng<|sL (fun i=>i≤l.length∧bH (l.take i)) (fun i=>l.length - i) (fun i=>[(0,(vL A l c)),(2,(vi 0)),(8,(vL A l c)),(9,(vI l.length)),(10,(vI i))]) (fun i=>[]) 0 ⟨Nat.zero_le _,QN⟩ (fun _ h=>h) ?_
  intro i hok
  show St _ _ _ [(0,(vL A l c)),(2,(vi 0)),(8,(vL A l c)),(9,(vI l.length)),(10,(vI i))] [] _
  refine Nc<|lk (.bool (decide (((i:Nat):Int) < ((l.length:Nat):Int)))) ?_
  refine aS (aJ (aQ (bR rfl (fun hc11=>?_) (fun hc11=>?_))))
  ·have hd11:=of_decide_eq_true hc11
   refine Nm<|aE<|lx rfl ?_
   obtain ⟨x0,hx0⟩:∃ ξ,(l)[i]?=some ξ:=⟨_,List.getElem?_eq_getElem om⟩
   refine St.eE (fun w hM=>r0.now hM) (eG hx0) (fun p13 q13 hA13 hc13=>lw (vP p13 (q13+i)) (rR 9 hA13)<|lW (rW hc13)<|lx rfl<|Nb<|lx rfl<|lw (vI ((x0).length)) (wQ rfl rfl kr)<|lk (.bool (((((x0).length:Nat):Int):Int) != 32))<|lm ?_)
   refine St.dec 18 rfl (fun hc18=>?_) (fun hc18=>?_)
   ·refine lx rfl<|mI ?_
    iterate 6 refine mI ?_
    exact lx rfl<|lT<|No<|lx rfl<|Nd<|gB<|eA<|eA<|gB<|eA<|sN [(vi 1)] fun w hM=>⟨lI (It om (fun h=>by have h2:=Iu (i+1) h; have h3:=((Ap hx0).1 h2).2; simp [h3.1] at hc18)).symm,hM⟩
   ·refine lx rfl<|lg (.bool (decide (((i:Nat):Int) > 0)))<|wS ?_
    refine St.dec 21 rfl (fun hc21=>?_) (fun hc21=>?_)
    ·have hd21:=of_decide_eq_true hc21
     refine lx rfl<|lu (vI (i - 1)) (mH _ rfl rfl rfl om om om) ?_
     obtain ⟨x1,hx1⟩:∃ ξ,(l)[i - 1]?=some ξ:=⟨_,List.getElem?_eq_getElem om⟩
     refine St.eE (fun w hM=>r0.now hM) (eG hx1) (fun p25 q25 hA25 hc25=>lu (vP p25 (q25+(i - 1))) (qO (e:=9) rfl kr kr rfl rfl hA25 om)<|lu (vS x1) (hJ rfl rfl kr hc25)<|lx rfl<|lu (.bool (!decide (x1 < x0))) (uG rfl rfl rfl)<|lg (.bool (!decide (x1 < x0)))<|lk (.bool (!decide (x1 < x0))) ?_)
     refine aS (aJ (bR rfl (fun hc30=>?_) (fun hc30=>?_)))
     ·exact Nc<|lx rfl<|Nd<|gB<|eA<|eA<|gB<|eA<|sN [(vi 1)] fun w hM=>⟨lI (It om (fun h=>by have h2:=Iu (i+1) h; have h3:=((Ap hx0).1 h2).2; have h4:=h3.2 (i - 1) x1 om hx1; simp [h4] at hc30)).symm,hM⟩
     ·have hlast:∀ j x,i=j+1→l[j]?=some x→x < x0:=fun j x hj hx=>by obtain rfl:i - 1=j:=om; rw [hx1] at hx; cases hx; simpa using hc30
      exact Nw<|aE<|lw (vI (i+1)) bJ<|lx rfl<|aS (aJ (sA (i+1) (⟨om,(Ap hx0).2 ⟨hok.2,by simp at hc18; omega,hlast⟩⟩) (by show l.length - (i+1) < l.length - i; omega) (fun w hM=>hM)))
    ·have hd21:=of_decide_eq_false hc21
     have hlast:∀ j x,i=j+1→l[j]?=some x→x < x0:=fun j x hj _=>by omega
     exact lx rfl<|lg bF<|lF<|Nu<|Nw<|aE<|lw (vI (i+1)) bJ<|lx rfl<|aS (aJ (sA (i+1) (⟨om,(Ap hx0).2 ⟨hok.2,by simp at hc18; omega,hlast⟩⟩) (by show l.length - (i+1) < l.length - i; omega) (fun w hM=>hM)))
  ·have hd11:=of_decide_eq_false hc11
   exact Nj<|aE<|lx rfl<|Nd<|sN [(vi 0)] fun w hM=>⟨lI (lS om (by have h:=hok.2; rwa [List.take_of_length_le om] at h)).symm,hM⟩
theorem QX (lo hi:List UInt8) (w:World) :
  Calls Tryz.prog 133 #[(.agg #[(vS lo),(vS hi)])] w fun e w'=>e = .returned (.bool (lU lo hi))∧aK [] w [] w':=by
 refine eH Tryz.func133 13 (Mm.start w []) rfl<|Nc<|Nx<|pB [(vS lo),(vS hi)] fun b1=>lx rfl<|Nb<|lk (vP b1 1)<|lL 0 rfl<|lw (.bool (decide (hi=[]))) (oG rfl rfl rfl)<|lm ?_
 refine St.dec 6 rfl (fun hc6=>?_) (fun hc6=>?_)
 ·have hd6:=of_decide_eq_true hc6
  exact lx rfl<|lT<|lx rfl<|Nd<|sN [bT] fun w hM=>⟨eM (by unfold lU; simp_all),(hM.pick [] rfl rfl)⟩
 ·have hd6:=of_decide_eq_false hc6
  exact lg (vP b1 0)<|lu (vS lo) (eT 0 rfl rfl kr rfl rfl)<|lg (vP b1 1)<|lu (vS hi) (eT 0 rfl rfl kr rfl rfl)<|lu (.bool (decide (lo < hi))) (Cn rfl rfl rfl)<|lk (.bool (decide (lo < hi)))<|lx rfl<|Nd<|sN [(.bool (decide (lo < hi)))] fun w hM=>⟨eM (by unfold lU; simp_all),(hM.pick [] rfl rfl)⟩
theorem QY (lo hi x:List UInt8) (w:World) :
  Calls Tryz.prog 184 #[(.agg #[(vS lo),(vS hi)]),(vS x)] w fun e w'=>e = .returned (.bool (inR lo hi x))∧aK [] w [] w':=by
 refine bG Tryz.func184 20 (Mm.start w []) rfl<|Nc<|Nx<|pB [(vS lo),(vS hi)] fun b2=>lx rfl<|Nb<|lk (vP b2 0)<|lL 0 rfl<|lx rfl<|lw (.bool (decide (lo < x) || decide (lo=x))) (NN rfl rfl rfl)<|lm ?_
 refine St.dec 9 rfl (fun hc9=>?_) (fun hc9=>?_)
 ·refine lg (vP b2 1)<|lu (vS hi) (eT 0 rfl rfl kr rfl rfl)<|lu (.bool (decide (hi=[]))) (oG rfl rfl rfl)<|wS ?_
  refine St.dec 13 rfl (fun hc13=>?_) (fun hc13=>?_)
  ·have hd13:=of_decide_eq_true hc13
   exact lx rfl<|lg bT<|lT<|lx rfl<|Nd<|sN [bT] fun w hM=>⟨eM (by unfold inR; first | (rw [hc9,hc13]; rfl) | (rw [hc9]; rfl)),(hM.pick [] rfl rfl)⟩
  ·have hd13:=of_decide_eq_false hc13
   exact lx rfl<|lg (vP b2 1)<|lu (vS hi) (eT 0 rfl rfl kr rfl rfl)<|lu (.bool (decide (x < hi))) (Cn rfl rfl rfl)<|lg (.bool (decide (x < hi)))<|lk (.bool (decide (x < hi)))<|lx rfl<|Nd<|sN [(.bool (decide (x < hi)))] fun w hM=>⟨eM (by unfold inR; first | (rw [hc9,hc13]; rfl) | (rw [hc9]; rfl)),(hM.pick [] rfl rfl)⟩
 ·refine lx rfl<|mI ?_
  iterate 3 refine mI ?_
  exact lx rfl<|lF<|lx rfl<|Nd<|sN [bF] fun w hM=>⟨eM (by unfold inR; first | (rw [hc9,hc13]; rfl) | (rw [hc9]; rfl)),(hM.pick [] rfl rfl)⟩
theorem IF (x:List UInt8) (w:World) :
  Calls Tryz.prog 132 #[(vS x)] w fun e w'=>e = .returned (.bool (gL x))∧aK [] w [] w':=by
 refine eH Tryz.func132 10 (Mm.start w []) rfl<|Nc<|lx rfl<|Nb<|lx rfl<|lw (.bool (decide (x=[]))) (oG rfl rfl rfl)<|lm ?_
 refine St.dec 5 rfl (fun hc5=>?_) (fun hc5=>?_)
 ·have hd5:=of_decide_eq_true hc5
  exact lx rfl<|lT<|lx rfl<|Nd<|sN [bT] fun w hM=>⟨eM (by unfold gL; first | (rw [hc5]; rfl) | (rw [hc5,Bool.false_or,Bool.eq_iff_iff]; simp; omega)),hM⟩
 ·have hd5:=of_decide_eq_false hc5
  exact lx rfl<|lu (vI ((x).length)) (wQ rfl rfl kr)<|lg (.bool (((((x).length:Nat):Int):Int) == 32))<|lk (.bool (((((x).length:Nat):Int):Int) == 32))<|lx rfl<|Nd<|sN [(.bool (((((x).length:Nat):Int):Int) == 32))] fun w hM=>⟨eM (by unfold gL; first | (rw [hc5]; rfl) | (rw [hc5,Bool.false_or,Bool.eq_iff_iff]; simp; omega)),hM⟩
theorem Dp (A:Option Addr) (c:Nat) (l:List (List UInt8)) (lo hi:List UInt8) (w:World) (r0:Rf [] w (fun w=>aF w A (SS l))) (hl:l.length≤68719476736) :
  Calls Tryz.prog 182 #[(vL A l c),(.agg #[(vS lo),(vS hi)])] w fun e w'=>e = .returned (.bool (eD l lo hi))∧aK [] w [] w':=by
 refine bG Tryz.func182 32 (Mm.start w []) rfl<|Nc<|Nx<|pB [(vS lo),(vS hi)] fun b3=>lx rfl<|Ne<|lx rfl<|lk (vI l.length)<|lx rfl<|Ng<|sL (fun i=>i≤l.length∧eD (l.take i) lo hi=true) (fun i=>l.length - i) (fun i=>[(0,(vL A l c)),(3,(vP b3 0)),(4,bF),(7,(vL A l c)),(8,(vI l.length)),(9,(vI i))]) (fun i=>[aB b3 108 [(vS lo),(vS hi)]]) 0 ⟨Nat.zero_le _,rfl⟩ (fun _ h=>h) ?_
 intro i hok
 show St _ _ _ [(0,(vL A l c)),(3,(vP b3 0)),(4,bF),(7,(vL A l c)),(8,(vI l.length)),(9,(vI i))] [aB b3 108 [(vS lo),(vS hi)]] _
 refine Nc<|lk (.bool (decide (((i:Nat):Int) < ((l.length:Nat):Int)))) ?_
 refine aS (aJ (aQ (bR rfl (fun hc10=>?_) (fun hc10=>?_))))
 ·have hd10:=of_decide_eq_true hc10
  refine Nm<|aE<|lx rfl ?_
  obtain ⟨x0,hx0⟩:∃ ξ,(l)[i]?=some ξ:=⟨_,List.getElem?_eq_getElem om⟩
  refine St.eE (fun w hM=>r0.now hM) (eG hx0) (fun p12 q12 hA12 hc12=>lw (vP p12 (q12+i)) (rR 9 hA12)<|lW (rW hc12)<|lx rfl<|Nb<|lW (rA 0 [(vS lo),(vS hi)])<|lx rfl<|Nx<|bN (fun w hM=>QY lo hi x0 w )<|lk (.bool (!(inR lo hi x0)))<|lm ?_)
  refine St.dec 18 rfl (fun hc18=>?_) (fun hc18=>?_)
  ·refine lx rfl<|mI ?_
   iterate 6 refine mI ?_
   exact lx rfl<|lT<|No<|lx rfl<|Nd<|gB<|eA<|eA<|gB<|eA<|sN [bF] fun w hM=>⟨eM (by have hn:eD l lo hi=false:=Ix hx0 (fun h=>by simp [h.1] at hc18); exact hn.symm),(hM.pick [] rfl rfl)⟩
  ·refine lx rfl<|lg (.bool (decide (((i:Nat):Int) > 0)))<|wS ?_
   refine St.dec 21 rfl (fun hc21=>?_) (fun hc21=>?_)
   ·have hd21:=of_decide_eq_true hc21
    refine lx rfl<|lu (vI (i - 1)) (mH _ rfl rfl rfl om om om) ?_
    obtain ⟨x1,hx1⟩:∃ ξ,(l)[i - 1]?=some ξ:=⟨_,List.getElem?_eq_getElem om⟩
    refine St.eE (fun w hM=>r0.now hM) (eG hx1) (fun p25 q25 hA25 hc25=>lu (vP p25 (q25+(i - 1))) (qO (e:=9) rfl kr kr rfl rfl hA25 om)<|lu (vS x1) (hJ rfl rfl kr hc25)<|lx rfl<|lu (.bool (!decide (x1 < x0))) (uG rfl rfl rfl)<|lg (.bool (!decide (x1 < x0)))<|lk (.bool (!decide (x1 < x0))) ?_)
    refine aS (aJ (bR rfl (fun hc30=>?_) (fun hc30=>?_)))
    ·exact Nc<|lx rfl<|Nd<|gB<|eA<|eA<|gB<|eA<|sN [bF] fun w hM=>⟨eM (by have hn:eD l lo hi=false:=Ix hx0 (fun h=>by have h4:=h.2 (i - 1) x1 om hx1; simp [h4] at hc30); exact hn.symm),(hM.pick [] rfl rfl)⟩
    ·have hlast:∀ j x,i=j+1→l[j]?=some x→x < x0:=fun j x hj hx=>by obtain rfl:i - 1=j:=om; rw [hx1] at hx; cases hx; simpa using hc30
     exact Nw<|aE<|lw (vI (i+1)) bJ<|lx rfl<|aS (aJ (sA (i+1) (⟨om,(Dj hx0).2 ⟨hok.2,by simpa using hc18,hlast⟩⟩) (by show l.length - (i+1) < l.length - i; omega) (fun w hM=>hM)))
   ·have hd21:=of_decide_eq_false hc21
    have hlast:∀ j x,i=j+1→l[j]?=some x→x < x0:=fun j x hj _=>by omega
    exact lx rfl<|lg bF<|lF<|Nu<|Nw<|aE<|lw (vI (i+1)) bJ<|lx rfl<|aS (aJ (sA (i+1) (⟨om,(Dj hx0).2 ⟨hok.2,by simpa using hc18,hlast⟩⟩) (by show l.length - (i+1) < l.length - i; omega) (fun w hM=>hM)))
 ·have hd10:=of_decide_eq_false hc10
  exact Nj<|aE<|lx rfl<|Nd<|sN [bT] fun w hM=>⟨eM (by have h:=hok.2; rw [List.take_of_length_le om] at h; exact h.symm),(hM.pick [] rfl rfl)⟩
theorem IG (A:Option Addr) (c:Nat) (l:List (List UInt8)) (w:World) (r0:Rf [] w (bW)) (r1:Rf [] w (fun w=>aF w A (SS l))) (hj:l.flatten.length≤549755813888) (hn:l.length≤1000) :
  Calls Tryz.prog 49 #[(vL A l c)] w fun e w'=>e = .returned (vS (dM l.flatten))∧aK [] w [] w':=(GG A c l w r0.here r1.here hj hn).mono fun _ _ ⟨he,hf⟩=>⟨he,Mm.Fj hf⟩
theorem sS (A:Option Addr) (c:Nat) (l:List (List UInt8)) (w:World) (r0:Rf [] w (bW)) (r1:Rf [] w (fun w=>aF w A (SS l))) (hl:l.length≤9223372036854775807) (he:fC l=0) (h40:l.length≤1000) :
  Calls Tryz.prog 20 #[(vL A l c)] w fun e w'=>e = .returned (.tuple #[(vS (cQ l)),(vi 0)])∧aK [] w [] w':=by
 exact eH Tryz.func20 12 (Mm.start w []) rfl<|Nc<|lx rfl<|Ne<|lx rfl<|Nx<|bN (fun w hM=>IE A c l w (r1.aO hM) om)<|lx rfl<|Nb<|lx rfl<|lk (.bool (((fC l):Int) != 0))<|Na<|eF rfl (by simp [he])<|Ni<|lx rfl<|Nx<|bN (fun w hM=>IG A c l w (r0.aO hM) (r1.aO hM) (by have:=QQ (Dk he); omega) om)<|lx rfl<|Nd<|sN [(vS (dM l.flatten)),(vi 0)] fun w hM=>⟨rfl,hM⟩
def fX (bs : Nat) (A : Option Addr) (c : Nat) (its : List (List UInt8)) (fan leaf nm om : Nat) (w : World) : Prop := At w bs 105 [(vL A its c), (vI fan), (vI leaf), (.map (some nm)), (.map (some om))] ∧ aF w A (SS its)
theorem Dq (n:Nat) (g:FuncId) (caps:List Value) (p:Nat→Bool) (w:World) (hn:n≤68719476736) (eg:∀ args w,(callFunc g args).run Tryz.prog w = .ok (.enter g args) w) (hc:∀ i,i < n→∀ w',Fr [] w w'→Calls Tryz.prog g (#[vI i]++caps.toArray) w' fun e w''=>e = .returned (.bool (p i))∧Fr [] w' w'') :
  Calls Tryz.prog 125 #[(vI n),(.func (.func g) #[] caps.toArray)] w fun e w'=>e = .returned (vI (jM p 0 n))∧aK [] w [] w':=by
 refine bG Tryz.func125 26 (Mm.start w []) rfl<|Nc<|lx rfl<|Nb<|lx rfl<|Nf<|eS<|sL (fun (i,j)=>i≤j∧j≤n∧jM p i j=jM p 0 n) (fun (i,j)=>j - i) (fun (i,j)=>[(1,(.func (.func g) #[] caps.toArray)),(4,(vi 0)),(5,(vI i)),(6,(vI j))]) (fun (i,j)=>[]) (0,n) ⟨Nat.zero_le _,Nat.le_refl _,rfl⟩ (fun _ h=>h) ?_
 rintro ⟨i,j⟩ ⟨h1,h2,h3⟩
 dsimp only
 refine Ny<|lx rfl<|lk (.bool (decide (((i:Nat):Int) < ((j:Nat):Int)))) ?_
 refine aS (aJ (bR rfl (fun hc11=>?_) (fun hc11=>?_)))
 ·have hd11:=of_decide_eq_true hc11
  have hij:i < j:=om
  refine jF<|aJ<|eS<|Nc<|lx rfl<|lw (vI (i+j)) bJ<|lw (vU (i+j)) (jH _ (fun _=>kr) rfl rfl (pM om om))<|lw (vU ((i+j) / 2)) (Gt rfl rfl rfl)<|lw (vI ((i+j) / 2)) (jH _ (fun _=>kr) rfl rfl (qM om om))<|lx rfl<|Nb<|lx rfl<|Nx<|Cu (f:=g) (caps:=caps.toArray) rfl rfl rfl eg (fun w hM=>(hc ((i+j) / 2) om w hM.fr).mono ?_)
  rintro e w' ⟨rfl,hf⟩
  refine ⟨_,[],rfl,Mm.Fj hf,?_⟩; clear hf hM
  refine lk (.bool (!(p ((i+j) / 2)))) ?_
  refine aS (aJ (bR rfl (fun hc21=>?_) (fun hc21=>?_)))
  ·refine aE<|lx rfl<|lw (vI (((i+j) / 2)+1)) bJ<|lx rfl<|Nk<|sA (((i+j) / 2)+1,j) (by refine ⟨om,om,?_⟩; rw [← h3]; first | exact (xK hij (by simpa using hc21)).symm | exact (xL hij (by simpa using hc21)).symm) (by dsimp only; omega) (fun w hM=>hM)
  ·refine aE<|lx rfl<|Nk<|sA (i,((i+j) / 2)) (by refine ⟨om,om,?_⟩; rw [← h3]; first | exact (xK hij (by simpa using hc21)).symm | exact (xL hij (by simpa using hc21)).symm) (by dsimp only; omega) (fun w hM=>hM)
 ·have hd11:=of_decide_eq_false hc11
  exact Nj<|aE<|lx rfl<|Nd<|sN [(vI i)] fun w hM=>⟨by rw [← h3,Ar om]; rfl,hM⟩
theorem QZ (i b2:Nat) (b3 bs:Nat) (A:Option Addr) (c:Nat) (its:List (List UInt8)) (fan leaf:Nat) (nm om:Nat) (lo hi:List UInt8) (w:World) (r0:Rf [] w (fX bs A c its fan leaf nm om)) (r1:Rf [] w (fun w=>At w b2 63 [(vP bs 0)])) (r2:Rf [] w (fun w=>At w b3 108 [(vS lo),(vS hi)])) (hi':i < its.length) :
  Calls Tryz.prog 126 #[(vI i),(vP b2 0),(vP b3 0)] w fun e w'=>e = .returned (.bool (nQ its lo i))∧aK [] w [] w':=by
 have ra:=r0.imp (fun _ h=>h.1)
 have rb:=r0.imp (fun _ h=>h.2)
 refine kQ Tryz.func126 15 (Mm.start w []) rfl<|Nc<|lx rfl<|Nf<|dN [] 11 kr (fun _ h=>h)<|aV 0 _ rfl (rW (fun w hM=>At.cell (r1.now hM) 0))<|aC 1 (vP bs 0) rfl<|aC 2 (vP bs 0) rfl<|aV 3 _ rfl (rW (fun w hM=>At.cell (ra.now hM) 0))<|am 4 ?_
 obtain ⟨x0,hx0⟩:∃ ξ,(its)[i]?=some ξ:=⟨_,List.getElem?_eq_getElem (by omega)⟩
 refine Any.eE (fun w hM=>rb.now hM) (eG hx0) (fun p10 q10 hA10 hc10=>aV 5 (vP p10 (q10+i)) rfl (rR 9 hA10)<|aV 6 _ rfl (rW hc10)<|aC 7 (vP b3 0) rfl<|aV 8 _ rfl (rW (fun w hM=>At.cell (r2.now hM) 0))<|aV 9 (.bool (!decide (x0 < lo))) rfl (uG rfl rfl rfl)<|aa 10 ?_)
 exact dO kr<|aJ<|gQ<|sN [(.bool (!decide (x0 < lo)))] fun w hM=>⟨eM (pR hx0).symm,hM⟩
theorem Ra (i b2:Nat) (b3 bs:Nat) (A:Option Addr) (c:Nat) (its:List (List UInt8)) (fan leaf:Nat) (nm om:Nat) (lo hi:List UInt8) (w:World) (r0:Rf [] w (fX bs A c its fan leaf nm om)) (r1:Rf [] w (fun w=>At w b2 63 [(vP bs 0)])) (r2:Rf [] w (fun w=>At w b3 108 [(vS lo),(vS hi)])) (hi':i < its.length) :
  Calls Tryz.prog 127 #[(vI i),(vP b2 0),(vP b3 0)] w fun e w'=>e = .returned (.bool (nQ its hi i))∧aK [] w [] w':=by
 have ra:=r0.imp (fun _ h=>h.1)
 have rb:=r0.imp (fun _ h=>h.2)
 refine kQ Tryz.func127 15 (Mm.start w []) rfl<|Nc<|lx rfl<|Nf<|dN [] 11 kr (fun _ h=>h)<|aV 0 _ rfl (rW (fun w hM=>At.cell (r1.now hM) 0))<|aC 1 (vP bs 0) rfl<|aC 2 (vP bs 0) rfl<|aV 3 _ rfl (rW (fun w hM=>At.cell (ra.now hM) 0))<|am 4 ?_
 obtain ⟨x0,hx0⟩:∃ ξ,(its)[i]?=some ξ:=⟨_,List.getElem?_eq_getElem (by omega)⟩
 refine Any.eE (fun w hM=>rb.now hM) (eG hx0) (fun p10 q10 hA10 hc10=>aV 5 (vP p10 (q10+i)) rfl (rR 9 hA10)<|aV 6 _ rfl (rW hc10)<|aC 7 (vP b3 1) rfl<|aV 8 _ rfl (rW (fun w hM=>At.cell (r2.now hM) 1))<|aV 9 (.bool (!decide (x0 < hi))) rfl (uG rfl rfl rfl)<|aa 10 ?_)
 exact dO kr<|aJ<|gQ<|sN [(.bool (!decide (x0 < hi)))] fun w hM=>⟨eM (pR hx0).symm,hM⟩
theorem Rb (i b2:Nat) (b3 bs:Nat) (A:Option Addr) (c:Nat) (its:List (List UInt8)) (fan leaf:Nat) (nm om:Nat) (x:List UInt8) (w:World) (r0:Rf [] w (fX bs A c its fan leaf nm om)) (r1:Rf [] w (fun w=>At w b2 63 [(vP bs 0)])) (r2:Rf [] w (fun w=>At w b3 9 [(vS x)])) (hi':i < its.length) :
  Calls Tryz.prog 135 #[(vI i),(vP b2 0),(vP b3 0)] w fun e w'=>e = .returned (.bool (nQ its x i))∧aK [] w [] w':=by
 have ra:=r0.imp (fun _ h=>h.1)
 have rb:=r0.imp (fun _ h=>h.2)
 refine kQ Tryz.func135 14 (Mm.start w []) rfl<|Nc<|lx rfl<|Nf<|dN [] 10 kr (fun _ h=>h)<|aV 0 _ rfl (rW (fun w hM=>At.cell (r1.now hM) 0))<|aC 1 (vP bs 0) rfl<|aC 2 (vP bs 0) rfl<|aV 3 _ rfl (rW (fun w hM=>At.cell (ra.now hM) 0))<|am 4 ?_
 obtain ⟨x0,hx0⟩:∃ ξ,(its)[i]?=some ξ:=⟨_,List.getElem?_eq_getElem (by omega)⟩
 refine Any.eE (fun w hM=>rb.now hM) (eG hx0) (fun p10 q10 hA10 hc10=>aV 5 (vP p10 (q10+i)) rfl (rR 9 hA10)<|aV 6 _ rfl (rW hc10)<|aV 7 _ rfl (rW (fun w hM=>At.cell (r2.now hM) 0))<|aV 8 (.bool (!decide (x0 < x))) rfl (uG rfl rfl rfl)<|aa 9 ?_)
 exact dO kr<|aJ<|gQ<|sN [(.bool (!decide (x0 < x)))] fun w hM=>⟨eM (pR hx0).symm,hM⟩
theorem Dr (bs:Nat) (A:Option Addr) (c:Nat) (its:List (List UInt8)) (fan leaf:Nat) (nm om:Nat) (lo hi:List UInt8) (w:World) (r0:Rf [] w (fX bs A c its fan leaf nm om)) (hs:bH its) (hn:its.length≤1000) (hcap:its.length≤c) :
  Calls Tryz.prog 90 #[(vP bs 0),(.agg #[(vS lo),(vS hi)])] w fun e w'=>∃ (B:Option Addr) (cb:Nat),e = .returned (vL B (inL its lo hi) cb)∧aK [] w [] w'∧(∀ w,aF w A (SS its)→aF w B (SS (inL its lo hi))):=by
 have ra:=r0.imp (fun _ h=>h.1)
 have rb:=r0.imp (fun _ h=>h.2)
 refine bG Tryz.func90 38 (Mm.start w []) rfl<|Nc<|Nx<|pB [(vP bs 0)] fun b2=>Nx<|pB [(vS lo),(vS hi)] fun b3=>lx rfl<|Nb ?_
 refine lL 0 rfl<|lk (vP bs 0)<|lk (vP bs 0)<|lW (rW (fun w hM=>At.cell (ra.now hM) 0)) ?_
 refine lk (vI its.length)<|lk (.func (.func 126) #[] #[(vP b2 0),(vP b3 0)]) ?_
 refine Nx ?_
 refine fM (fun w hM=>(Dq (its.length) 126 [(vP b2 0),(vP b3 0)] (nQ its lo) w (by omega) (lO Tryz.func126 (by kernel_rfl) rfl) (fun i hlt w' hf=>(QZ i _ _ bs A c its fan leaf nm om lo hi w' (((r0.aO hM).step hf (by simp))) (((hM.aL (j:=0) rfl (fun _ h=>h)).step hf (by simp))) (((hM.aL (j:=1) rfl (fun _ h=>h)).step hf (by simp))) hlt).mono fun e w'' he=>⟨he.1,he.2.fr⟩)).mono ?_)
 rintro e w' ⟨rfl,hP⟩
 refine ⟨_,_,rfl,hP,?_⟩; clear hP hM
 rw [As hs.2 lo]
 refine lx rfl<|Nb<|lL 0 rfl<|lk (vP bs 0)<|lk (vP bs 0)<|lW (rW (fun w hM=>At.cell (ra.now hM) 0))<|lk (vI its.length)<|lx rfl<|Ne<|lk (vP b3 1)<|lL 1 rfl<|lw (.bool (!decide (hi=[]))) (wO rfl rfl rfl) ?_
 refine aS (aJ (bR rfl (fun hc21=>?_) (fun hc21=>?_)))
 ·refine aE<|lL 0 rfl<|lk (vP bs 0)<|lk (vP bs 0) ?_
  refine lW (rW (fun w hM=>At.cell (ra.now hM) 0))<|lk (vI its.length) ?_
  refine lk (.func (.func 127) #[] #[(vP b2 0),(vP b3 0)]) ?_
  refine Nx ?_
  refine fM (fun w hM=>(Dq (its.length) 127 [(vP b2 0),(vP b3 0)] (nQ its hi) w (by omega) (lO Tryz.func127 (by kernel_rfl) rfl) (fun i hlt w' hf=>(Ra i _ _ bs A c its fan leaf nm om lo hi w' (((r0.aO hM).step hf (by simp))) (((hM.aL (j:=0) rfl (fun _ h=>h)).step hf (by simp))) (((hM.aL (j:=1) rfl (fun _ h=>h)).step hf (by simp))) hlt).mono fun e w'' he=>⟨he.1,he.2.fr⟩)).mono ?_)
  rintro e w' ⟨rfl,hP⟩
  refine ⟨_,_,rfl,hP,?_⟩; clear hP hM
  rw [As hs.2 hi]
  refine lx rfl<|Nf ?_
  dsimp only [bC,List.set,List.cons_append,List.nil_append]
  refine aE<|lL 0 rfl<|lk (vP bs 0)<|lk (vP bs 0)<|lW (rW (fun w hM=>At.cell (ra.now hM) 0))<|lx rfl<|lw (vI (max (aZ its lo) (aZ its hi))) (zS rfl rfl rfl) ?_
  have hp:=sR hs.2 lo hi
  rw [if_neg (by simpa using hc21)] at hp
  have h1:=nP its lo
  have h2:=nP its hi
  refine lv (v:=(vL (if c=aZ its lo then A else A.map (·.add (aZ its lo*1))) (inL its lo hi) (c - aZ its lo))) (gC (wP (e:=9) (sz:=1) rfl (by kernel_rfl) (by kernel_rfl) rfl rfl rfl (by omega) (by omega)) (by show Value.slice _ _ _=Value.slice _ _ _; rw [← hp,List.length_drop,List.length_take,Nat.min_eq_left (by omega)])) ?_
  exact lx rfl<|Nd<|sN [(vL (if c=aZ its lo then A else A.map (·.add (aZ its lo*1))) (inL its lo hi) (c - aZ its lo))] fun w hM=>⟨_,_,rfl,(hM.pick [] rfl rfl),fun w h=>by rw [← hp]; exact zT _ _ h hcap⟩
 ·refine Ni<|lL 0 rfl<|lk (vP bs 0)<|lk (vP bs 0)<|lW (rW (fun w hM=>At.cell (ra.now hM) 0))<|lx rfl<|lw (vI (max (aZ its lo) its.length)) (zS rfl rfl rfl) ?_
  have hp:=sR hs.2 lo hi
  rw [if_pos (by simpa using hc21)] at hp
  have h1:=nP its lo
  have h2:=nP its hi
  refine lv (v:=(vL (if c=aZ its lo then A else A.map (·.add (aZ its lo*1))) (inL its lo hi) (c - aZ its lo))) (gC (wP (e:=9) (sz:=1) rfl (by kernel_rfl) (by kernel_rfl) rfl rfl rfl (by omega) (by omega)) (by show Value.slice _ _ _=Value.slice _ _ _; rw [← hp,List.length_drop,List.length_take,Nat.min_eq_left (by omega)])) ?_
  exact lx rfl<|Nd<|sN [(vL (if c=aZ its lo then A else A.map (·.add (aZ its lo*1))) (inL its lo hi) (c - aZ its lo))] fun w hM=>⟨_,_,rfl,(hM.pick [] rfl rfl),fun w h=>by rw [← hp]; exact zT _ _ h hcap⟩
theorem Ds (bs:Nat) (A:Option Addr) (c:Nat) (its:List (List UInt8)) (fan leaf:Nat) (nm om:Nat) (x:List UInt8) (w:World) (r0:Rf [] w (fX bs A c its fan leaf nm om)) (hs:bH its) (hn:its.length≤1000) :
  Calls Tryz.prog 93 #[(vP bs 0),(vS x)] w fun e w'=>e = .returned (.bool (its.contains x))∧aK [] w [] w':=by
 have ra:=r0.imp (fun _ h=>h.1)
 have rb:=r0.imp (fun _ h=>h.2)
 refine bG Tryz.func93 31 (Mm.start w []) rfl<|Nc<|Nx<|pB [(vP bs 0)] fun b2=>Nx<|pB [(vS x)] fun b3=>lx rfl<|Nb ?_
 refine lL 0 rfl<|lk (vP bs 0)<|lk (vP bs 0)<|lW (rW (fun w hM=>At.cell (ra.now hM) 0)) ?_
 refine lk (vI its.length)<|lk (.func (.func 135) #[] #[(vP b2 0),(vP b3 0)]) ?_
 refine Nx ?_
 refine fM (fun w hM=>(Dq (its.length) 135 [(vP b2 0),(vP b3 0)] (nQ its x) w (by omega) (lO Tryz.func135 (by kernel_rfl) rfl) (fun i hlt w' hf=>(Rb i _ _ bs A c its fan leaf nm om x w' (((r0.aO hM).step hf (by simp))) (((hM.aL (j:=0) rfl (fun _ h=>h)).step hf (by simp))) (((hM.aL (j:=1) rfl (fun _ h=>h)).step hf (by simp))) hlt).mono fun e w'' he=>⟨he.1,he.2.fr⟩)).mono ?_)
 rintro e w' ⟨rfl,hP⟩
 refine ⟨_,_,rfl,hP,?_⟩; clear hP hM
 rw [As hs.2 x]
 refine lx rfl<|Nf<|dN _ 19 kr (fun _ h=>h)<|am 0 ?_
 refine al 1 0 ?_
 refine aC 2 (vP bs 0) rfl<|aC 3 (vP bs 0) rfl<|aV 4 _ rfl (rW (fun w hM=>At.cell (ra.now hM) 0))<|aC 5 (vI its.length) rfl<|aC 6 (.bool (decide ((((aZ its x):Nat):Int) < ((its.length:Nat):Int)))) rfl<|am 7 ?_
 refine Any.dec 20 rfl (fun hc20=>?_) (fun hc20=>?_)
 ·have hd20:=of_decide_eq_true hc20
  refine aW 8 (vP bs 0) rfl (eT 0 rfl rfl kr rfl rfl)<|aG 9 (vP bs 0) rfl<|aG 10 (vP bs 0) rfl<|aW 11 (vL A its c) rfl (hJ rfl rfl kr (fun w hM=>At.cell (ra.now hM) 0))<|jI 12 ?_
  obtain ⟨x0,hx0⟩:∃ ξ,(its)[aZ its x]?=some ξ:=⟨_,List.getElem?_eq_getElem (by omega)⟩
  refine Any.eE (fun w hM=>rb.now hM) (eG hx0) (fun p26 q26 hA26 hc26=>Gs 13 (vP p26 (q26+(aZ its x))) rfl (qO (e:=9) rfl (by kernel_rfl) (by kernel_rfl) rfl rfl hA26 (by omega)) ?_)
  refine aW 14 (vS x0) rfl (hJ rfl rfl kr hc26)<|aW 15 (vS x) rfl (eT 1 rfl rfl kr rfl rfl)<|aW 16 (.bool (decide (x0=x))) rfl (oG rfl rfl rfl)<|aC 17 (.bool (decide (x0=x))) rfl<|aa 18 ?_
  exact dO kr<|aJ<|gQ<|sN [(.bool (decide (x0=x)))] fun w hM=>⟨eM (by rw [xN hs.2,hx0]; simp),(hM.pick [] rfl rfl)⟩
 ·have hd20:=of_decide_eq_false hc20
  refine fF 8 ?_
  refine fF 9 ?_
  refine fF 10 ?_
  refine fF 11 ?_
  refine fF 12 ?_
  refine fF 13 ?_
  refine fF 14 ?_
  refine fF 15 ?_
  refine fF 16 ?_
  refine aC 17 bF rfl<|aa 18 ?_
  refine dO kr<|aJ<|gQ<|sN [bF] fun w hM=>⟨eM (by rw [xN hs.2,List.getElem?_eq_none (l:=its) (i:=aZ its x) (by omega)]; simp),(hM.pick [] rfl rfl)⟩
theorem Aw (bs:Nat) (A:Option Addr) (c:Nat) (its:List (List UInt8)) (fan leaf:Nat) (nm om:Nat) (lo hi:List UInt8) (w:World) (r0:Rf [] w (bW)) (r1:Rf [] w (fX bs A c its fan leaf nm om)) (hs:bH its) (hn:its.length≤1000) (hcap:its.length≤c) :
  Calls Tryz.prog 59 #[(vP bs 0),(.agg #[(vS lo),(vS hi)])] w fun e w'=>e = .returned (.agg #[(vI ((inL its lo hi).length)),(vS (cQ (inL its lo hi)))])∧aK [] w [] w':=by
 have ra:=r1.imp (fun _ h=>h.1)
 have rb:=r1.imp (fun _ h=>h.2)
 refine bG Tryz.func59 14 (Mm.start w []) rfl<|Nc<|Nx<|pB [(vS lo),(vS hi)] fun b3=>Nx<|pA [(vi 0),(.string ⟨#[]⟩)] fun b4=>Nb<|lx rfl<|lW (rA 0 [(vS lo),(vS hi)])<|Nx<|Cy (fun w hM=>Dr bs A c its fan leaf nm om lo hi w (r1.aO hM) ag ag ag) fun B8 cb8 hsub8=>?_
 have rs8:=Ro.imp (Ψ:=fun w=>aF w B8 (SS (inL its lo hi))) rb hsub8
 exact lx rfl<|Nb<|lx rfl<|lk (vI ((inL its lo hi).length))<|lx rfl<|Nx<|bN (fun w hM=>IG B8 cb8 (inL its lo hi) w (r0.aO hM) (rs8.aO hM) (by have:=QU hs lo hi; omega) (by have:=mJ its lo hi; omega))<|lk (.agg #[(vI ((inL its lo hi).length)),(vS (dM (inL its lo hi).flatten))])<|Nx<|pT 1 [(vI ((inL its lo hi).length)),(vS (dM (inL its lo hi).flatten))] rfl<|Nd<|iJ [(.agg #[(vI ((inL its lo hi).length)),(vS (dM (inL its lo hi).flatten))])] rfl ⟨⟨_,rfl,fun w hM=>mF kr kr (hU (i:=1) (off:=0) rfl (by intro j v hj; rw [Nat.zero_add]; exact hj) w hM)⟩,trivial⟩ (fun w hM=>⟨rfl,(hM.pick [] rfl rfl)⟩)
section
/-! ### In memory -/
inductive CV where
 | sum (n : Nat) (f : Bs) | list (A : Option Addr) (c : Nat) (xs : List Bs) | ans (A : Option Addr) (c : Nat) (xs : List Bs) (B : Option Addr) (d : Nat) (ms : List Bs)
structure PV where
 (lo hi : Bs) (c : CV)
def CV.val : CV → Value
 | .sum n f => .iface 110 (.agg #[.int .i64 ((n : Nat) : Int), .string (bD f)])
 | .list A c xs => .iface 124 (.agg #[.slice A xs.length c])
 | .ans A c xs B d ms => .iface 127 (.agg #[.slice A xs.length c, .slice B ms.length d])
def CV.abs : CV → AC
 | .sum n f => .sum n f
 | .list _ _ xs => .list xs
 | .ans _ _ xs _ _ ms => .ans xs ms
def PV.abs (p : PV) : AP := ⟨p.lo, p.hi, p.c.abs⟩
def CV.rows : CV → List (Option Addr × List Bs)
 | .sum _ _ => []
 | .list A _ xs => [(A, xs)]
 | .ans A _ xs B _ ms => [(A, xs), (B, ms)]
def PV.cells (p : PV) : List Value := [.string (bD p.lo), .string (bD p.hi), p.c.val]
def PS (ps : List PV) : List Value := ps.flatMap PV.cells
abbrev cP (A : Option Addr) (l : List PV) (c : Nat) : Ch := dA 115 3 A l.length c (PS l)
theorem uV (a b:List PV):PS (a++b)=PS a++PS b:=List.flatMap_append
theorem CV.one (c:CV):c.val.oneCell'=true:=by cases c <;> rfl
theorem PV.one (p:PV):∀ u∈p.cells,u.oneCell'=true:=by
 intro u hu
 simp only [PV.cells,List.mem_cons,List.not_mem_nil,or_false] at hu
 rcases hu with rfl | rfl | rfl
 ·rfl
 ·rfl
 ·exact CV.one _
theorem Ax {ps:List PV}:∀ u∈PS ps,u.oneCell'=true:=by
 intro u hu
 obtain ⟨p,_,hp⟩:=List.mem_flatMap.1 hu
 simp only [PV.cells,List.mem_cons,List.not_mem_nil,or_false] at hp
 rcases hp with rfl | rfl | rfl
 ·rfl
 ·rfl
 ·exact CV.one _
theorem Dt {ps:List PV} {i:Nat} {p:PV} (h:ps[i]?=some p) (k:Nat) (v:Value) (hk:p.cells[k]?=some v):(PS ps)[i*3+k]?=some v:=by
 induction ps generalizing i with
 | nil=>simp at h
 | cons q ps ih =>
   show (q.cells++PS ps)[i*3+k]?=some v
   cases i with
   | zero =>
     simp only [List.getElem?_cons_zero,Option.some.injEq] at h
     subst h
     rw [Nat.zero_mul,Nat.zero_add,List.getElem?_append_left (List.getElem?_eq_some_iff.1 hk).1]
     exact hk
   | succ i =>
     rw [List.getElem?_append_right (by show 3≤_; omega),show (i+1)*3+k - q.cells.length=i*3+k by show _ - 3=_; omega]
     exact ih (by simpa using h)
def kW (its : List Bs) (lo hi : Bs) : PV := ⟨lo, hi, .sum (inL its lo hi).length (cQ (inL its lo hi))⟩
def bV (its own : List Bs) (fan : Nat) (lo : Bs) : Nat → Bs × List PV
 | 0 => (lo, [])
 | k + 1 => if own.getD ((k + 1) * own.length / fan) [] = (bV its own fan lo k).1 then bV its own fan lo k else (own.getD ((k + 1) * own.length / fan) [], (bV its own fan lo k).2 ++ [kW its (bV its own fan lo k).1 (own.getD ((k + 1) * own.length / fan) [])])
theorem Du (its own:List Bs) (fan:Nat) (lo:Bs):∀ k,(bV its own fan lo k).1=(iZ its own fan lo k).1∧(bV its own fan lo k).2.map PV.abs=(iZ its own fan lo k).2
 | 0=>⟨rfl,rfl⟩
 | k+1=>by
   obtain ⟨h1,h2⟩:=Du its own fan lo k
   unfold bV iZ
   rw [h1]
   split
   ·exact ⟨h1,h2⟩
   ·refine ⟨rfl,?_⟩
    rw [List.map_append,h2]
    rfl
theorem Rc {its own:List Bs} {fan k:Nat} {lo x:Bs} (hx:own[(k+1)*own.length / fan]?=some x) (h:(!decide (x=(bV its own fan lo k).1))=false):bV its own fan lo (k+1)=bV its own fan lo k:=by
 have e:own.getD ((k+1)*own.length / fan) []=x:=by rw [List.getD_eq_getElem?_getD,hx]; rfl
 rw [bV,e,if_pos (by simpa using h)]
theorem II {its own:List Bs} {fan k:Nat} {lo x:Bs} (hx:own[(k+1)*own.length / fan]?=some x) (h:(!decide (x=(bV its own fan lo k).1))=true):bV its own fan lo (k+1)=(x,(bV its own fan lo k).2++[kW its (bV its own fan lo k).1 x]):=by
 have e:own.getD ((k+1)*own.length / fan) []=x:=by rw [List.getD_eq_getElem?_getD,hx]; rfl
 rw [bV,e,if_neg (by simpa using h)]
theorem Dv (its own:List Bs) (fan:Nat) (lo:Bs):∀ k,(bV its own fan lo k).2.length≤k
 | 0=>Nat.le_refl _
 | k+1=>by
   have:=Dv its own fan lo k
   unfold bV
   split
   ·omega
   ·simp only [List.length_append,List.length_cons,List.length_nil]; omega
theorem Dw (its own:List Bs) (fan:Nat) (lo:Bs):∀ k,∀ p∈(bV its own fan lo k).2,p.c.rows=[]
 | 0=>by simp [bV]
 | k+1=>by
   unfold bV
   split
   ·exact Dw its own fan lo k
   ·intro p hp
    rcases List.mem_append.1 hp with hp | hp
    ·exact Dw its own fan lo k p hp
    ·rw [List.mem_singleton.1 hp]; rfl
/-! ### Rows as one piece -/
def dF (L : List (Option Addr × List Bs)) : Ch where
 fp := L.flatMap fun r => dD r.1
 holds w := ∀ r ∈ L, aF w r.1 (SS r.2) ∧ ∀ b ∈ dD r.1, b < w.heap.size
 ok w w' hb h := fun r hr => by
  obtain ⟨h1, h2⟩ := h r hr
  have hb' : ∀ b ∈ dD r.1, w'.heap[b]? = w.heap[b]? := fun b hb1 => hb b (List.mem_flatMap.2 ⟨r, hr, hb1⟩)
  refine ⟨fun j v hj => ?_, fun b hb1 => ?_⟩
  ·obtain ⟨b, o, hA, hlt, hc⟩ := h1 j v hj
   have e := hb' b (by rw [hA]; simp [dD])
   refine ⟨b, o, hA, ?_, ?_⟩
   ·by_cases hlt' : b < w'.heap.size
    ·exact hlt'
    ·rw [Array.getElem?_eq_none (by omega), Array.getElem?_eq_getElem hlt] at e
     cases e
   ·rw [← hc]
    simp only [World.cell?, e]
  ·have e := hb' b hb1
   by_cases hlt' : b < w'.heap.size
   ·exact hlt'
   ·rw [Array.getElem?_eq_none (by omega), Array.getElem?_eq_getElem (h2 b hb1)] at e
    cases e
 lt w h b hb := by
  obtain ⟨r, hr, hb1⟩ := List.mem_flatMap.1 hb
  exact (h r hr).2 b hb1
section
variable {w0 w w' : World} {F : List Nat} {cs : List Ch}
theorem Re {A:Option Addr} {xs:List Bs}:(dF [(A,xs)]).fp=dD A:=by simp [dF]
theorem Mm.tQ (h:Mm w0 F cs w) (i:Nat) {e:TypeId} {A:Option Addr} {n c:Nat} {xs:List Bs} (hi:cs[i]?=some (dA e 1 A n c (SS xs))):Mm w0 F (cs.set i (dF [(A,xs)])) w :=
 h.swap i hi (Fr.refl _ _) (fun r hr=>by
  rw [List.mem_singleton.1 hr]
  have ho:=h.at hi
  refine ⟨?_,?_⟩
  ·have ho':w.ownsRow 0 e 1 (.slice A n c) n (SS xs):=ho
   exact aF.aR ho'
  ·intro b hb
   exact (dA e 1 A n c (SS xs)).lt w ho b hb) (fun b hb=>.inl (by rw [Re] at hb; exact hb)) (by simpa [dF] using sD A)
theorem Rg (L M:List (Option Addr × List Bs)):(dF (L++M)).fp=(dF L).fp++(dF M).fp:=List.flatMap_append
theorem Mm.join {L M:List (Option Addr × List Bs)} (h:Mm w0 F (cs++[dF L,dF M]) w):Mm w0 F (cs++[dF (L++M)]) w:=by
 have e:(cs++[dF (L++M)]).flatMap Ch.fp=(cs++[dF L,dF M]).flatMap Ch.fp:=by
  simp only [List.flatMap_append,List.flatMap_cons,List.flatMap_nil,Rg,List.append_nil]
 refine ⟨h.fr,?_,?_,?_⟩
 ·intro c hc
  rcases List.mem_append.1 hc with hc | hc
  ·exact h.hold c (List.mem_append_left _ hc)
  ·rw [List.mem_singleton.1 hc]
   intro r hr
   rcases List.mem_append.1 hr with hr | hr
   ·exact h.hold (dF L) (List.mem_append_right _ si) r hr
   ·exact h.hold (dF M) (List.mem_append_right _ si) r hr
 ·rw [e]; exact h.nodup
 ·rw [e]; exact h.own
theorem Mm.tR (h:Mm w0 F cs w):Mm w0 F (cs++[dF []]) w:=h.push (c:=dF []) (Fr.refl _ _) (by intro r hr; cases hr) (by simp [dF]) (by simp [dF])
end
def fY (L : List (Option Addr × List Bs)) (A : Option Addr) (its : List Bs) (ps : List PV) : Prop := ∀ p ∈ ps, ∀ r ∈ p.c.rows, r ∈ L ∨ ∀ w, aF w A (SS its) → aF w r.1 (SS r.2)
def Ay (ps : List PV) (w : World) : Prop := ∀ p ∈ ps, ∀ r ∈ p.c.rows, aF w r.1 (SS r.2)
theorem fY.nil {L:List (Option Addr × List Bs)} {A:Option Addr} {its:List Bs}:fY L A its []:=by intro p hp; cases hp
theorem fY.append {L M:List (Option Addr × List Bs)} {A:Option Addr} {its:List Bs} {a b:List PV} (h:fY L A its a) (k:fY M A its b):fY (L++M) A its (a++b):=by
 intro p hp r hr
 rcases List.mem_append.1 hp with hp | hp
 ·exact (h p hp r hr).imp (List.mem_append_left _) id
 ·exact (k p hp r hr).imp (List.mem_append_right _) id
theorem fY.ok {L:List (Option Addr × List Bs)} {A:Option Addr} {its:List Bs} {ps:List PV} {w:World} (h:fY L A its ps) (hL:(dF L).holds w) (hr:aF w A (SS its)):Ay ps w:=fun p hp r hp'=>(h p hp r hp').elim (fun hm=>(hL r hm).1) (fun hf=>hf w hr)
theorem fY.My {L:List (Option Addr × List Bs)} {A:Option Addr} {its:List Bs} {ps:List PV} (h:∀ p∈ps,p.c.rows=[]):fY L A its ps:=fun p hp r hr=>by rw [h p hp] at hr; cases hr
theorem uW:mD Tryz.prog 116 115 (.agg #[.string ⟨#[]⟩,.string ⟨#[]⟩,.nilIface]) 3 48:=⟨Tryz.underlying116,kr,rfl,om,om⟩
section
variable {P : Program} {Q : Exit → Act → World → Prop} {n : Nat} {w0 : World} {F : List Nat} {E : cH} {cs : List Ch} {X K : Act → World → Prop} {ops : Array Oper} {o oi : Oper} {rest : List Oper} {d : Nat}
theorem Az {ty u:TypeId} {x y:Operand} {a b:Nat} (ho:o.op = .binOp .quo ty x y u) (hx:aN E x=some (vi ((a:Nat):Int))) (hy:aN E y=some (vi ((b:Nat):Int))) (hb:0 < b) (ha:a≤9223372036854775807):cJ P w0 F cs E o (vi ((a / b:Nat):Int)):=by
 have h:=Nat.div_le_self a b
 exact NM _ ho hx hy om (by rw [Int.natCast_ediv,Int.tdiv_eq_ediv_of_nonneg om]) (Int.le_trans (by decide) (Int.natCast_nonneg _)) (Int.ofNat_le.2 (Nat.le_trans h ha))
end
section
variable {w0 : World} {F : List Nat} {E : cH} {cs : List Ch} {o : Oper}
theorem Rh {u : TypeId} {x y : Operand} {a b : Nat} {p q : Bs} (ho : o.op = .binOp .eql 110 x y u) (hx : aN E x = some (.agg #[.int .i64 ((a : Nat) : Int), .string (bD p)])) (hy : aN E y = some (.agg #[.int .i64 ((b : Nat) : Int), .string (bD q)])) : cJ Tryz.prog w0 F cs E o (.bool (decide (a = b ∧ p = q))) := fun w _ => by
 have hg : Tryz.prog.eqGuardType Tryz.prog.depth 110 = false := by kernel_rfl
 have hs : Tryz.prog.stoodInHeld 110 = false := by kernel_rfl
 have hm : (Tryz.prog.fieldsOf 110).toList.map (fun f => (f.name == "_", f.type, f.offset)) = [(false, 3, 0), (false, 9, 1)] := by kernel_rfl
 have he : (Op.equal 110 (.agg #[.int .i64 ((a : Nat) : Int), .string (bD p)]) (.agg #[.int .i64 ((b : Nat) : Int), .string (bD q)])).run Tryz.prog w = .ok (decide (a = b ∧ p = q)) w:=by
  refine (run_equalIn_struct w 9999 _ _ _ kr hs).trans ?_
  generalize (Tryz.prog.fieldsOf 110).toList=l at hm
  have hl:l.length=2:=by simpa using congrArg List.length hm
  match l,hl with
  | [g1,g2],_ =>
    simp only [List.map_cons,List.map_nil,List.cons.injEq,Prod.mk.injEq,and_true,beq_eq_false_iff_ne] at hm
    obtain ⟨⟨h1,t1,o1⟩,h2,t2,o2⟩:=hm
    have e1:=run_part_plain w (P:=Tryz.prog) (e:=3) (xs:=#[vI a,.string (bD p)]) (off:=0) (v:=.int .i64 ((a:Nat):Int)) kr rfl
    have e2:=run_part_plain w (P:=Tryz.prog) (e:=3) (xs:=#[vI b,.string (bD q)]) (off:=0) (v:=.int .i64 ((b:Nat):Int)) kr rfl
    have e3:=run_part_plain w (P:=Tryz.prog) (e:=9) (xs:=#[vI a,.string (bD p)]) (off:=1) (v:=.string (bD p)) kr rfl
    have e4:=run_part_plain w (P:=Tryz.prog) (e:=9) (xs:=#[vI b,.string (bD q)]) (off:=1) (v:=.string (bD q)) kr rfl
    simp only [Op.eqFields,h1,h2,ne_eq,not_false_eq_true,if_true,Sem.run_bind,Sem.run_ite,Sem.run_pure,t1,t2,o1,o2,e1,e2,e3,e4,Result.andThen_ok,run_equalIn_int w 9998 _ .i64 _ _ _ Tryz.underlying3,run_equalIn_string w 9998 _ _ _ Tryz.underlying9,sE]
    by_cases ha:a=b
    ·subst ha
     by_cases hp:p=q
     ·subst hp; simp
     ·simp [hp]
    ·have ha':¬ ((a:Nat):Int)=((b:Nat):Int):=fun h=>ha (Int.ofNat.inj h)
     simp [ha,ha']
 unfold execOp
 simp only [ho,bL hx,bL hy,Sem.run_bind,run_eqGuard_agg w _ _ _ _ _ _ hg,binOp,Result.andThen_ok,he,Sem.run_pure]
end
section
variable {P : Program} {Q : Exit → Act → World → Prop} {n : Nat} {w0 : World} {F : List Nat} {E : cH} {cs : List Ch} {X K : Act → World → Prop} {ops : Array Oper} {o oi : Oper} {rest : List Oper} {d : Nat}
theorem AA {e:TypeId} {i sz:Nat} {A:Option Addr} {m c:Nat} {xs:List Value} (hi:cs[i]?=some (dA e sz A m c xs)):∀ w,Mm w0 F cs w→aF w A xs:=by
 intro w hM j u hu
 have h:w.ownsRow 0 e sz (.slice A m c) m xs:=hM.at hi
 rcases h.2 with ⟨_,h0⟩ | ⟨g,cap,cur,hv,_,hg,_,_,_,hc⟩
 ·have:=h.1
  rw [h0,Nat.zero_mul] at this
  rw [List.eq_nil_of_length_eq_zero this] at hu
  simp at hu
 ·simp only [Value.slice.injEq] at hv
  obtain ⟨rfl,_,_⟩:=hv
  refine ⟨g,0,rfl,(Array.getElem?_eq_some_iff.1 hg).1,?_⟩
  have hlt:=(List.getElem?_eq_some_iff.1 hu).1
  rw [h.1] at hlt
  have:cur.toList[j]?=some u:=by rw [← List.getElem?_take_of_lt hlt,hc]; exact hu
  rw [Nat.zero_add]
  simpa [World.cell?,hg] using this
theorem Ri {e:TypeId} {sz:Nat} {A:Option Addr} {m c:Nat} {xs:List Value} {w:World} (h:(dA e sz A m c xs).holds w):aF w A xs:=by
 have hM:Mm w (dD A) [dA e sz A m c xs] w:=⟨Fr.refl _ _,by intro d hd; rw [List.mem_singleton.1 hd]; exact h,by simpa [dA] using sD A,by intro b hb; exact .inl (by simpa [dA] using hb)⟩
 exact AA (i:=0) rfl w hM
theorem IJ {w:World} {A:Option Addr} {ps:List PV} {i:Nat} {p:PV} (h:aF w A (PS ps)) (hp:ps[i]?=some p) {b q:Nat} (hA:A=some ⟨b,q,none⟩):∀ j v,p.cells[j]?=some v→w.cell? ⟨b,q+i*3+j,none⟩=some v:=fun j v hj=>by
 rw [Nat.add_assoc]
 exact Cs h (Dt hp j v hj) hA
theorem St.zD {A:Option Addr} {ps:List PV} {i:Nat} {p:PV} (h:∀ w,Mm w0 F cs w→aF w A (PS ps)) (hp:ps[i]?=some p) (k:∀ b q,A=some ⟨b,q,none⟩→(∀ w,Mm w0 F cs w→∀ j v,p.cells[j]?=some v→w.cell? ⟨b,q+i*3+j,none⟩=some v)→St n w0 F E cs X):St n w0 F E cs X:=fun a w ha hM=>by
 obtain ⟨b,q,hA⟩:=zR (h w hM) (Dt hp 0 _ rfl)
 exact k b q hA (fun w' hM'=>IJ (h w' hM') hp hA) a w ha hM
theorem Any.zD {css:List Ch} {z fuel:Nat} {listed:Array Bool} {A:Option Addr} {ps:List PV} {i:Nat} {p:PV} (h:∀ w,Mm w0 F css w→aF w A (PS ps)) (hp:ps[i]?=some p) (k:∀ b q,A=some ⟨b,q,none⟩→(∀ w,Mm w0 F css w→∀ j v,p.cells[j]?=some v→w.cell? ⟨b,q+i*3+j,none⟩=some v)→Any P ops Q n w0 F E cs css z fuel listed):Any P ops Q n w0 F E cs css z fuel listed:=fun a w ha hM hS hc=>by
 obtain ⟨b,q,hA⟩:=zR (h w hS) (Dt hp 0 _ rfl)
 exact k b q hA (fun w' hM'=>IJ (h w' hM') hp hA) a w ha hM hS hc
theorem AB {ty e:TypeId} {x i:Operand} {A:Option Addr} {b off len cap j:Nat} {k:IntKind} (ho:o.op = .indexAddr ty x i) (hu:P.underlying ty=some (.slice e)) (hsz:fO P e=some 3) (hx:aN E x=some (.slice A len cap)) (hi:aN E i=some (.int k (j:Int))) (hA:A=some ⟨b,off,none⟩) (hlt:j < len):cJ P w0 F cs E o (.pointer (some ⟨b,off+j*3,none⟩)):=by
 subst hA
 exact wN ho hu hsz hx hi hlt
def CV.Mz : CV → Value
 | .sum n f => .agg #[.int .i64 ((n : Nat) : Int), .string (bD f)]
 | .list A c xs => .agg #[.slice A xs.length c]
 | .ans A c xs B d ms => .agg #[.slice A xs.length c, .slice B ms.length d]
def CV.MA : CV → FuncId
 | .sum _ _ => 179
 | .list _ _ _ => 181
 | .ans _ _ _ _ _ _ => 186
theorem Rj {x y : Operand} {t : Array TypeId} {c : CV} {wv : Value} (ho : o.op = .call { callee := .invoke x "kinkeep/rangesum.write", args := #[y], argTypes := t }) (hx : aN E x = some c.val) (hy : aN E y = some wv) : ∀ w, (execOp (evE E) o).run Tryz.prog w = .ok (.enter c.MA #[c.Mz, wv]) w:=by
 intro w
 unfold execOp
 simp only [ho,resolve,bL hx,bL hy,Sem.run_bind,Sem.run_pure,Result.andThen_ok,List.map_toArray,List.map_cons,List.map_nil]
 cases c <;> kernel_rfl
end
end
section
variable {X : Option Addr × Nat}
theorem IK (br:Nat) (D:List UInt8) (off last most:Nat) (w:World) (A:Option Addr) (c:Nat) (ha:At w br 179 [.slice A D.length c,vI off,vi (last:Int),vi 0]) (hown:w.ownsRow 0 5 1 (.slice A D.length c) D.length (B8 D)) (hl:D.length≤4294967296) (ho:off≤D.length) (hm:most≤4294967296) (n m:Nat) (hd:dI D off=some (n,m)) (hn:n≤most) (hf:m+n≤D.length) :
  Calls Tryz.prog 147 #[vP br 0,vi (most:Int)] w fun e w'=>e = .returned (.tuple #[.slice (if c=m then A else A.map (·.add (m*1))) n (c - m),vi 0])∧Fr [br] w w'∧At w' br 179 [.slice A D.length c,vI (m+n),vi (last:Int),vi 0]:=by
 have HA:=Lib.hid ha
 have HO:=Lib.hid hown
 have hc:D.length≤c:=lQ hown
 have HNB:Hid (∀ g,(Value.slice A D.length c).ownBlock=some g→g∉[br]):=fun g hg=>by
  have h1:=jJ hown ha (by decide)
  simp only [List.mem_singleton]
  rintro rfl
  exact h1 hg.symm
 clear ha hown
 have hmD:=(uO _ _ _ _ hd).2.1
 refine bG Tryz.func147 22 (Mm.one HA.out) rfl<|Nc<|lx rfl<|Nb<|lx rfl<|Nx<|eN 130 #[(vP br 0),(vI most)] rfl kr (fun _=>kr) (fun w hM=>(xF (X:=(A,c)) br D off last (most:Int) w ⟨A,c,rfl,hM.at (i:=0) rfl,dZ HO.out hM.fr HNB.out⟩ ho hl ⟨om,om⟩).mono ?_)
 intro e w' h
 unfold lP at h; rw [hd] at h; dsimp only at h
 rw [if_neg om] at h
 obtain ⟨hf2,rfl,A',c',hX',ha2,_⟩:=h
 obtain ⟨rfl,rfl⟩:A=A'∧c=c':=by simpa using hX'
 have hM':=hM.swap 0 (c':=aB br 179 [(.slice A (D.length) (c)),(vI m),(vI last),(vi 0)]) rfl hf2 ha2 (fun b hb=>.inl hb) (by simp [aB])
 refine ⟨_,_,rfl,hM',lx rfl<|Ne<|lx rfl<|lF<|Nn<|aE<|lx rfl<|Nx<|eN 150 #[(vP br 0),(vI n)] rfl kr (fun _=>kr) (fun w hM=>(Ht br D m last n 0 w A c (hM.at (i:=0) rfl) hl om om hc hf).mono ?_)⟩
 rintro e w' ⟨rfl,hf2,ha2⟩
 have hM':=hM.swap 0 (c':=aB br 179 [(.slice A (D.length) (c)),(vI (m+n)),(vI last),(vi 0)]) rfl hf2 ha2 (fun b hb=>.inl hb) (by simp [aB])
 exact ⟨_,_,rfl,hM',lx rfl<|Nd<|sN [(.slice (if c=m then A else A.map (·.add (m*1))) (n) (c - m)),(vi 0)] fun w hM=>⟨rfl,hM.fr,hM.at (i:=0) rfl⟩⟩
theorem IL (br:Nat) (D:List UInt8) (off last most:Nat) (w:World) (A:Option Addr) (c:Nat) (ha:At w br 179 [.slice A D.length c,vI off,vi (last:Int),vi 0]) (hown:w.ownsRow 0 5 1 (.slice A D.length c) D.length (B8 D)) (hl:D.length≤4294967296) (ho:off≤D.length) (hm:most≤4294967296) (n m:Nat) (hd:dI D off=some (n,m)) (hn:n≤most) (hf:D.length < m+n) :
  Calls Tryz.prog 147 #[vP br 0,vi (most:Int)] w fun e w'=>e = .returned (.tuple #[nS,vi 3])∧Fr [br] w w'∧∃ off':Nat,At w' br 179 [.slice A D.length c,vI off',vi (last:Int),vi 0]:=by
 have HA:=Lib.hid ha
 have HO:=Lib.hid hown
 have hc:D.length≤c:=lQ hown
 have HNB:Hid (∀ g,(Value.slice A D.length c).ownBlock=some g→g∉[br]):=fun g hg=>by
  have h1:=jJ hown ha (by decide)
  simp only [List.mem_singleton]
  rintro rfl
  exact h1 hg.symm
 clear ha hown
 have hmD:=(uO _ _ _ _ hd).2.1
 refine bG Tryz.func147 22 (Mm.one HA.out) rfl<|Nc<|lx rfl<|Nb<|lx rfl<|Nx<|eN 130 #[(vP br 0),(vI most)] rfl kr (fun _=>kr) (fun w hM=>(xF (X:=(A,c)) br D off last (most:Int) w ⟨A,c,rfl,hM.at (i:=0) rfl,dZ HO.out hM.fr HNB.out⟩ ho hl ⟨om,om⟩).mono ?_)
 intro e w' h
 unfold lP at h; rw [hd] at h; dsimp only at h
 rw [if_neg om] at h
 obtain ⟨hf2,rfl,A',c',hX',ha2,_⟩:=h
 obtain ⟨rfl,rfl⟩:A=A'∧c=c':=by simpa using hX'
 have hM':=hM.swap 0 (c':=aB br 179 [(.slice A (D.length) (c)),(vI m),(vI last),(vi 0)]) rfl hf2 ha2 (fun b hb=>.inl hb) (by simp [aB])
 refine ⟨_,_,rfl,hM',lx rfl<|Ne<|lx rfl<|lF<|Nn<|aE<|lx rfl<|Nx<|eN 150 #[(vP br 0),(vI n)] rfl kr (fun _=>kr) (fun w hM=>(Hs br D m last n 0 w A c (hM.at (i:=0) rfl) hl om om hc hf).mono ?_)⟩
 rintro e w' ⟨rfl,hf2,ha2⟩
 have hM':=hM.swap 0 (c':=aB br 179 [(.slice A (D.length) (c)),(vI m),(vI last),(vi 0)]) rfl hf2 ha2 (fun b hb=>.inl hb) (by simp [aB])
 exact ⟨_,_,rfl,hM',lx rfl<|Nd<|sN [nS,(vi 3)] fun w hM=>⟨rfl,hM.fr,⟨_,hM.at (i:=0) rfl⟩⟩⟩
theorem IM (br:Nat) (D:List UInt8) (off last most:Nat) (w:World) (A:Option Addr) (c:Nat) (ha:At w br 179 [.slice A D.length c,vI off,vi (last:Int),vi 0]) (hown:w.ownsRow 0 5 1 (.slice A D.length c) D.length (B8 D)) (hl:D.length≤4294967296) (ho:off≤D.length) (hm:most≤4294967296) (n m:Nat) (hd:dI D off=some (n,m)) (hn:most < n) :
  Calls Tryz.prog 147 #[vP br 0,vi (most:Int)] w fun e w'=>e = .returned (.tuple #[nS,vi 2])∧Fr [br] w w'∧∃ off':Nat,At w' br 179 [.slice A D.length c,vI off',vi (last:Int),vi 0]:=by
 have HA:=Lib.hid ha
 have HO:=Lib.hid hown
 have hc:D.length≤c:=lQ hown
 have HNB:Hid (∀ g,(Value.slice A D.length c).ownBlock=some g→g∉[br]):=fun g hg=>by
  have h1:=jJ hown ha (by decide)
  simp only [List.mem_singleton]
  rintro rfl
  exact h1 hg.symm
 clear ha hown
 refine bG Tryz.func147 22 (Mm.one HA.out) rfl<|Nc<|lx rfl<|Nb<|lx rfl<|Nx<|eN 130 #[(vP br 0),(vI most)] rfl kr (fun _=>kr) (fun w hM=>(xF (X:=(A,c)) br D off last (most:Int) w ⟨A,c,rfl,hM.at (i:=0) rfl,dZ HO.out hM.fr HNB.out⟩ ho hl ⟨om,om⟩).mono ?_)
 intro e w' h
 unfold lP at h; rw [hd] at h; dsimp only at h
 rw [if_pos om] at h
 obtain ⟨hf2,rfl,off',A',c',hX',ha2,_⟩:=h
 obtain ⟨rfl,rfl⟩:A=A'∧c=c':=by simpa using hX'
 have hM':=hM.swap 0 (c':=aB br 179 [(.slice A (D.length) (c)),(vI off'),(vI last),(vi 0)]) rfl hf2 ha2 (fun b hb=>.inl hb) (by simp [aB])
 exact ⟨_,_,rfl,hM',lx rfl<|Ne<|lx rfl<|lT<|No<|lx rfl<|Nh<|sN [nS,(vi 2)] fun w hM=>⟨rfl,hM.fr,⟨_,hM.at (i:=0) rfl⟩⟩⟩
theorem IN (br:Nat) (D:List UInt8) (off last most:Nat) (w:World) (A:Option Addr) (c:Nat) (ha:At w br 179 [.slice A D.length c,vI off,vi (last:Int),vi 0]) (hown:w.ownsRow 0 5 1 (.slice A D.length c) D.length (B8 D)) (hl:D.length≤4294967296) (ho:off≤D.length) (hm:most≤4294967296) (hd:dI D off=none) :
  Calls Tryz.prog 147 #[vP br 0,vi (most:Int)] w fun e w'=>e = .returned (.tuple #[nS,vi 3])∧Fr [br] w w'∧∃ off':Nat,At w' br 179 [.slice A D.length c,vI off',vi (last:Int),vi 0]:=by
 have HA:=Lib.hid ha
 have HO:=Lib.hid hown
 have hc:D.length≤c:=lQ hown
 have HNB:Hid (∀ g,(Value.slice A D.length c).ownBlock=some g→g∉[br]):=fun g hg=>by
  have h1:=jJ hown ha (by decide)
  simp only [List.mem_singleton]
  rintro rfl
  exact h1 hg.symm
 clear ha hown
 refine bG Tryz.func147 22 (Mm.one HA.out) rfl<|Nc<|lx rfl<|Nb<|lx rfl<|Nx<|eN 130 #[(vP br 0),(vI most)] rfl kr (fun _=>kr) (fun w hM=>(xF (X:=(A,c)) br D off last (most:Int) w ⟨A,c,rfl,hM.at (i:=0) rfl,dZ HO.out hM.fr HNB.out⟩ ho hl ⟨om,om⟩).mono ?_)
 intro e w' h
 unfold lP at h; rw [hd] at h; dsimp only at h
 obtain ⟨hf2,rfl,off',A',c',hX',ha2,_⟩:=h
 obtain ⟨rfl,rfl⟩:A=A'∧c=c':=by simpa using hX'
 have hM':=hM.swap 0 (c':=aB br 179 [(.slice A (D.length) (c)),(vI off'),(vI last),(vi 0)]) rfl hf2 ha2 (fun b hb=>.inl hb) (by simp [aB])
 exact ⟨_,_,rfl,hM',lx rfl<|Ne<|lx rfl<|lT<|No<|lx rfl<|Nh<|sN [nS,(vi 3)] fun w hM=>⟨rfl,hM.fr,⟨_,hM.at (i:=0) rfl⟩⟩⟩
theorem Rk (bx by_ br:Nat) (D:List UInt8) (off last most:Nat) (w:World) (hx0:At w bx 148 [vP br 0]) (hy0:At w by_ 3 [vi (most:Int)]) (hr:aY X w br D off last 0) (hl:D.length≤4294967296) (ho:off≤D.length) (hm:most≤4294967296) (n m:Nat) (hd:dI D off=some (n,m)) (hn:n≤most) (hf:m+n≤D.length) :
  Calls Tryz.prog 156 #[vP bx 0,vP by_ 0] w fun e w'=>e = .returned (.tuple #[.string (bD ((D.drop m).take n)),vi 0])∧Fr [br] w w'∧aY X w' br D (m+n) last 0:=by
 obtain ⟨A,c,hX,ha,hown⟩:=hr
 have hx:w.cell? ⟨bx,0,none⟩=some (Value.pointer (some ⟨br,0,none⟩)):=by rw [hx0.cell]; rfl
 have hxb:bx≠br:=hx0.ne ha (by decide)
 have hy:w.cell? ⟨by_,0,none⟩=some (Value.int .i64 (most:Int)):=by rw [hy0.cell]; rfl
 have hyb:by_≠br:=hy0.ne ha (by decide)
 have HA:=Lib.hid ha
 have HO:=Lib.hid hown
 have HR:Hid (aF w A (B8 D)):=aF.aR hown
 have hc:D.length≤c:=lQ hown
 have HNB:Hid (∀ g,(Value.slice A D.length c).ownBlock=some g→g∉[br]):=fun g hg=>by
  have h1:=jJ hown ha (by decide)
  simp only [List.mem_singleton]
  rintro rfl
  exact h1 hg.symm
 have HNE:Hid (∀ b o,A=some ⟨b,o,none⟩→b∉[br]):=fun b o hA=>HNB.out b (by rw [hA]; rfl)
 clear ha hown hx0 hy0
 refine bG Tryz.func156 15 (Mm.one HA.out) rfl<|Nc<|lx rfl<|Nb<|lW (rW (fun w hM=>hM.eZ hx (by simpa using hxb)))<|lW (rW (fun w hM=>hM.eZ hy (by simpa using hyb)))<|Nx<|eN 147 #[(vP br 0),(vI most)] rfl kr (fun _=>kr) (fun w hM=>(IK br D off last most w A c (hM.at (i:=0) rfl) (dZ HO.out hM.fr HNB.out) hl ho hm n m hd hn hf).mono ?_)
 rintro e w' ⟨rfl,hf2,ha2⟩
 have hM':=hM.swap 0 (c':=aB br 179 [(.slice A (D.length) (c)),(vI (m+n)),(vI last),(vi 0)]) rfl hf2 ha2 (fun b hb=>.inl hb) (by simp [aB])
 exact ⟨_,_,rfl,hM',lx rfl<|Nb<|lx rfl<|lw (vS ((D.drop m).take n)) (nK (e:=5) ((D.drop m).take n) rfl kr kr kr rfl (by rw [List.length_take,List.length_drop,Nat.min_eq_left om]) (fun w hM=>CU (HR.out.fr hM.fr HNE.out) (by rw [dW]; exact hc)))<|lx rfl<|Nd<|sN [(vS ((D.drop m).take n)),(vi 0)] fun w hM=>⟨rfl,hM.fr,A,c,hX,hM.at (i:=0) rfl,dZ HO.out hM.fr HNB.out⟩⟩
theorem Rl (bx by_ br:Nat) (D:List UInt8) (off last most:Nat) (w:World) (hx0:At w bx 148 [vP br 0]) (hy0:At w by_ 3 [vi (most:Int)]) (hr:aY X w br D off last 0) (hl:D.length≤4294967296) (ho:off≤D.length) (hm:most≤4294967296) (n m:Nat) (hd:dI D off=some (n,m)) (hn:n≤most) (hf:D.length < m+n) :
  Calls Tryz.prog 156 #[vP bx 0,vP by_ 0] w fun e w'=>e = .returned (.tuple #[.string (bD []),vi 3])∧Fr [br] w w'∧∃ off':Nat,aY X w' br D off' last 0:=by
 obtain ⟨A,c,hX,ha,hown⟩:=hr
 have hx:w.cell? ⟨bx,0,none⟩=some (Value.pointer (some ⟨br,0,none⟩)):=by rw [hx0.cell]; rfl
 have hxb:bx≠br:=hx0.ne ha (by decide)
 have hy:w.cell? ⟨by_,0,none⟩=some (Value.int .i64 (most:Int)):=by rw [hy0.cell]; rfl
 have hyb:by_≠br:=hy0.ne ha (by decide)
 have HA:=Lib.hid ha
 have HO:=Lib.hid hown
 have HR:Hid (aF w A (B8 D)):=aF.aR hown
 have hc:D.length≤c:=lQ hown
 have HNB:Hid (∀ g,(Value.slice A D.length c).ownBlock=some g→g∉[br]):=fun g hg=>by
  have h1:=jJ hown ha (by decide)
  simp only [List.mem_singleton]
  rintro rfl
  exact h1 hg.symm
 have HNE:Hid (∀ b o,A=some ⟨b,o,none⟩→b∉[br]):=fun b o hA=>HNB.out b (by rw [hA]; rfl)
 clear ha hown hx0 hy0
 refine bG Tryz.func156 15 (Mm.one HA.out) rfl<|Nc<|lx rfl<|Nb<|lW (rW (fun w hM=>hM.eZ hx (by simpa using hxb)))<|lW (rW (fun w hM=>hM.eZ hy (by simpa using hyb)))<|Nx<|eN 147 #[(vP br 0),(vI most)] rfl kr (fun _=>kr) (fun w hM=>(IL br D off last most w A c (hM.at (i:=0) rfl) (dZ HO.out hM.fr HNB.out) hl ho hm n m hd hn hf).mono ?_)
 rintro e w' ⟨rfl,hf2,off',ha2⟩
 have hM':=hM.swap 0 (c':=aB br 179 [(.slice A (D.length) (c)),(vI off'),(vI last),(vi 0)]) rfl hf2 ha2 (fun b hb=>.inl hb) (by simp [aB])
 exact ⟨_,_,rfl,hM',lx rfl<|Nb<|lx rfl<|lw (vS ([])) (nK (e:=5) [] rfl kr kr kr rfl rfl (fun w hM j v hj=>by simp [B8] at hj))<|lx rfl<|Nd<|sN [(vS ([])),(vi 3)] fun w hM=>⟨rfl,hM.fr,_,A,c,hX,hM.at (i:=0) rfl,dZ HO.out hM.fr HNB.out⟩⟩
theorem Rm (bx by_ br:Nat) (D:List UInt8) (off last most:Nat) (w:World) (hx0:At w bx 148 [vP br 0]) (hy0:At w by_ 3 [vi (most:Int)]) (hr:aY X w br D off last 0) (hl:D.length≤4294967296) (ho:off≤D.length) (hm:most≤4294967296) (n m:Nat) (hd:dI D off=some (n,m)) (hn:most < n) :
  Calls Tryz.prog 156 #[vP bx 0,vP by_ 0] w fun e w'=>e = .returned (.tuple #[.string (bD []),vi 2])∧Fr [br] w w'∧∃ off':Nat,aY X w' br D off' last 0:=by
 obtain ⟨A,c,hX,ha,hown⟩:=hr
 have hx:w.cell? ⟨bx,0,none⟩=some (Value.pointer (some ⟨br,0,none⟩)):=by rw [hx0.cell]; rfl
 have hxb:bx≠br:=hx0.ne ha (by decide)
 have hy:w.cell? ⟨by_,0,none⟩=some (Value.int .i64 (most:Int)):=by rw [hy0.cell]; rfl
 have hyb:by_≠br:=hy0.ne ha (by decide)
 have HA:=Lib.hid ha
 have HO:=Lib.hid hown
 have HR:Hid (aF w A (B8 D)):=aF.aR hown
 have hc:D.length≤c:=lQ hown
 have HNB:Hid (∀ g,(Value.slice A D.length c).ownBlock=some g→g∉[br]):=fun g hg=>by
  have h1:=jJ hown ha (by decide)
  simp only [List.mem_singleton]
  rintro rfl
  exact h1 hg.symm
 have HNE:Hid (∀ b o,A=some ⟨b,o,none⟩→b∉[br]):=fun b o hA=>HNB.out b (by rw [hA]; rfl)
 clear ha hown hx0 hy0
 refine bG Tryz.func156 15 (Mm.one HA.out) rfl<|Nc<|lx rfl<|Nb<|lW (rW (fun w hM=>hM.eZ hx (by simpa using hxb)))<|lW (rW (fun w hM=>hM.eZ hy (by simpa using hyb)))<|Nx<|eN 147 #[(vP br 0),(vI most)] rfl kr (fun _=>kr) (fun w hM=>(IM br D off last most w A c (hM.at (i:=0) rfl) (dZ HO.out hM.fr HNB.out) hl ho hm n m hd hn).mono ?_)
 rintro e w' ⟨rfl,hf2,off',ha2⟩
 have hM':=hM.swap 0 (c':=aB br 179 [(.slice A (D.length) (c)),(vI off'),(vI last),(vi 0)]) rfl hf2 ha2 (fun b hb=>.inl hb) (by simp [aB])
 exact ⟨_,_,rfl,hM',lx rfl<|Nb<|lx rfl<|lw (vS ([])) (nK (e:=5) [] rfl kr kr kr rfl rfl (fun w hM j v hj=>by simp [B8] at hj))<|lx rfl<|Nd<|sN [(vS ([])),(vi 2)] fun w hM=>⟨rfl,hM.fr,_,A,c,hX,hM.at (i:=0) rfl,dZ HO.out hM.fr HNB.out⟩⟩
theorem Rn (bx by_ br:Nat) (D:List UInt8) (off last most:Nat) (w:World) (hx0:At w bx 148 [vP br 0]) (hy0:At w by_ 3 [vi (most:Int)]) (hr:aY X w br D off last 0) (hl:D.length≤4294967296) (ho:off≤D.length) (hm:most≤4294967296) (hd:dI D off=none) :
  Calls Tryz.prog 156 #[vP bx 0,vP by_ 0] w fun e w'=>e = .returned (.tuple #[.string (bD []),vi 3])∧Fr [br] w w'∧∃ off':Nat,aY X w' br D off' last 0:=by
 obtain ⟨A,c,hX,ha,hown⟩:=hr
 have hx:w.cell? ⟨bx,0,none⟩=some (Value.pointer (some ⟨br,0,none⟩)):=by rw [hx0.cell]; rfl
 have hxb:bx≠br:=hx0.ne ha (by decide)
 have hy:w.cell? ⟨by_,0,none⟩=some (Value.int .i64 (most:Int)):=by rw [hy0.cell]; rfl
 have hyb:by_≠br:=hy0.ne ha (by decide)
 have HA:=Lib.hid ha
 have HO:=Lib.hid hown
 have HR:Hid (aF w A (B8 D)):=aF.aR hown
 have hc:D.length≤c:=lQ hown
 have HNB:Hid (∀ g,(Value.slice A D.length c).ownBlock=some g→g∉[br]):=fun g hg=>by
  have h1:=jJ hown ha (by decide)
  simp only [List.mem_singleton]
  rintro rfl
  exact h1 hg.symm
 have HNE:Hid (∀ b o,A=some ⟨b,o,none⟩→b∉[br]):=fun b o hA=>HNB.out b (by rw [hA]; rfl)
 clear ha hown hx0 hy0
 refine bG Tryz.func156 15 (Mm.one HA.out) rfl<|Nc<|lx rfl<|Nb<|lW (rW (fun w hM=>hM.eZ hx (by simpa using hxb)))<|lW (rW (fun w hM=>hM.eZ hy (by simpa using hyb)))<|Nx<|eN 147 #[(vP br 0),(vI most)] rfl kr (fun _=>kr) (fun w hM=>(IN br D off last most w A c (hM.at (i:=0) rfl) (dZ HO.out hM.fr HNB.out) hl ho hm hd).mono ?_)
 rintro e w' ⟨rfl,hf2,off',ha2⟩
 have hM':=hM.swap 0 (c':=aB br 179 [(.slice A (D.length) (c)),(vI off'),(vI last),(vi 0)]) rfl hf2 ha2 (fun b hb=>.inl hb) (by simp [aB])
 exact ⟨_,_,rfl,hM',lx rfl<|Nb<|lx rfl<|lw (vS ([])) (nK (e:=5) [] rfl kr kr kr rfl rfl (fun w hM j v hj=>by simp [B8] at hj))<|lx rfl<|Nd<|sN [(vS ([])),(vi 3)] fun w hM=>⟨rfl,hM.fr,_,A,c,hX,hM.at (i:=0) rfl,dZ HO.out hM.fr HNB.out⟩⟩
theorem Rp (b0 b1 b2 br:Nat) (A:Option Addr) (n c:Nat) (off last start:Int) (w:World) (h0:At w b0 3 [vi start]) (h1:At w b1 148 [vP br 0]) (hr:At w br 179 [.slice A n c,vi off,vi last,vi 0]) :
  CallsD Tryz.prog 159 #[vP b0 0,vP b1 0,vP b2 0] .returning w fun e u' w'=>u' = .returning∧e = .returned (.tuple #[])∧w'=w.setCell ⟨br,2,none⟩ (vi start):=by
 have c0:w.cell? ⟨b0,0,none⟩=some (Value.int .i64 start):=by rw [h0.cell]; rfl
 have c1:w.cell? ⟨b1,0,none⟩=some (Value.pointer (some ⟨br,0,none⟩)):=by rw [h1.cell]; rfl
 have c2:w.cell? ⟨br,2,none⟩=some (Value.int .i64 last):=by rw [hr.cell]; rfl
 have c3:w.cell? ⟨br,3,none⟩=some (vi 0):=by rw [hr.cell]; rfl
 have z2:=hr.frozen 2
 have hne:b1≠br:=h1.ne hr (by decide)
 clear h0 h1 hr
 go_enter_d Tryz.func159,Tryz.ntmps159
 go_wp2_with fail
 go_end0
 exact ⟨rfl,rfl⟩
theorem Rq (b0 b1 b2 br:Nat) (A:Option Addr) (n c:Nat) (off last start err:Int) (v:Value) (w:World) (h0:At w b0 3 [vi start]) (h1:At w b1 148 [vP br 0]) (h2:At w b2 9 [v]) (hr:At w br 179 [.slice A n c,vi off,vi last,vi err]) (he:err≠0) (hb:b2≠b0∧b2≠br) :
  CallsD Tryz.prog 159 #[vP b0 0,vP b1 0,vP b2 0] .returning w fun e u' w'=>u' = .returning∧e = .returned (.tuple #[])∧w'=((w.setCell ⟨br,2,none⟩ (vi start)).setCell ⟨br,1,none⟩ (vi start)).setCell ⟨b2,0,none⟩ (.string ⟨#[]⟩):=by
 have c0:w.cell? ⟨b0,0,none⟩=some (Value.int .i64 start):=by rw [h0.cell]; rfl
 have c1:w.cell? ⟨b1,0,none⟩=some (Value.pointer (some ⟨br,0,none⟩)):=by rw [h1.cell]; rfl
 have cr1:w.cell? ⟨br,1,none⟩=some (Value.int .i64 off):=by rw [hr.cell]; rfl
 have c2:w.cell? ⟨br,2,none⟩=some (Value.int .i64 last):=by rw [hr.cell]; rfl
 have c3:w.cell? ⟨br,3,none⟩=some (Value.int .i64 err):=by rw [hr.cell]; rfl
 have c4:w.cell? ⟨b2,0,none⟩=some v:=by rw [h2.cell]; rfl
 have z2:=hr.frozen 2
 have z1:=hr.frozen 1
 have z4:=h2.frozen 0
 have hne:b1≠br:=h1.ne hr (by decide)
 have hne2:b2≠br:=hb.2
 have hne0:b0≠br:=h0.ne hr (by decide)
 have heb:(err != 0)=true:=by simpa using he
 clear h0 h1 hr h2 he hb
 go_enter_d Tryz.func159,Tryz.ntmps159
 go_wp2_with fail
 go_end0
 exact ⟨rfl,rfl⟩
set_option maxHeartbeats 4000000 in
theorem Rr (br:Nat) (D:List UInt8) (off last m:Nat) (x:List UInt8) (bx by_:Nat) (w:World) (hr:aY X w br D off last 0)
  (hdec:∀ W,Fr [] w W→aY X W br D off last 0→Calls Tryz.prog 156 #[vP bx 0,vP by_ 0] W fun e w'=>e = .returned (.tuple #[.string (bD x),vi 0])∧Fr [br] W w'∧aY X w' br D m last 0) :
  Calls Tryz.prog 148 #[vP br 0,.func (.func 156) #[] #[vP bx 0,vP by_ 0]] w fun e w'=>e = .returned (vS x)∧Fr [br] w w'∧aY X w' br D m off 0:=by
 obtain ⟨A,c,hX,ha,hrow⟩:=hr
 have c1:w.cell? ⟨br,1,none⟩=some (Value.int .i64 (off:Int)):=by rw [ha.cell]; rfl
 have c3:w.cell? ⟨br,3,none⟩=some (vi 0):=by rw [ha.cell]; rfl
 have hlt:=ha.lt
 have HR:=Lib.hid (And.intro ha hrow)
 have HD:=Lib.hid hdec
 clear ha hrow hdec
 have hmf:∀ (fn:Fn) (first cap:Array Value) (w:World),(Instr.makeFunc fn first cap).run Tryz.prog w = .ok (.func fn first cap) w:=fun _ _ _ _=>rfl
 go_enter_defers Tryz.func148,Tryz.ntmps148
 go_wp2_with fail
 obtain ⟨W,hW⟩:∃ W,W=((w.alloc (Obj.cells #[vP br 0] 148)).alloc (Obj.cells #[Value.string ⟨#[]⟩] 9)).alloc (Obj.cells #[vi (off:Int)] 3):=⟨_,rfl⟩
 rw [← hW]
 have HW:Hid (At W w.heap.size 148 [vP br 0]∧At W (w.heap.size+1) 9 [Value.string ⟨#[]⟩]∧At W (w.heap.size+1+1) 3 [vi (off:Int)]∧Fr [] w W∧aY X W br D off last 0):=by
  rw [hW]
  refine ⟨((At.new w 148 [vP br 0]).alloc _).alloc _,?_,?_,(((Fr.refl _ _).alloc _).alloc _).alloc _,A,c,hX,((HR.out.1.alloc _).alloc _).alloc _,((HR.out.2.alloc _).alloc _).alloc _⟩
  ·have:=(At.new (w.alloc (Obj.cells #[vP br 0] 148)) 9 [Value.string ⟨#[]⟩]).alloc (Obj.cells #[vi (off:Int)] 3)
   simpa using this
  ·have:=At.new ((w.alloc (Obj.cells #[vP br 0] 148)).alloc (Obj.cells #[Value.string ⟨#[]⟩] 9)) 3 [vi (off:Int)]
   simpa using this
 clear hW c1 c3
 have d0:W.cell? ⟨w.heap.size,0,none⟩=some (Value.pointer (some ⟨br,0,none⟩)):=by rw [HW.out.1.cell]; rfl
 have nb1:w.heap.size≠br:=om
 have nb2:br≠w.heap.size:=om
 go_region_held3 (fun w'=>w'.cell? ⟨w.heap.size,0,none⟩=some (Value.pointer (some ⟨br,0,none⟩))) (go_keep) (first | (go_at_call 156; refine (HD.out W.drew (by exact HW.out.2.2.2.1.drew) (by exact HW.out.2.2.2.2)).mono ?_; rintro e w1 ⟨rfl,hf1,hr1⟩; obtain ⟨e0,e1,z1,e3,z3⟩:=oM (W:=W) HW.out.1 HW.out.2.1 HW.out.2.2.2.2 hf1 hr1; have H1:=Lib.hid (And.intro hf1 hr1); clear hf1 hr1))
 go_wp2_with fail
 obtain ⟨k0,k1,k2,k3,kf⟩:=oN HW.out.1 HW.out.2.1 HW.out.2.2.1 HW.out.2.2.2.2 H1.out.1 H1.out.2 (Value.string (bD x)) (vi 0) om (by decide)
 refine leaves_cons (f:=159) (args:=#[Value.pointer (some ⟨w.heap.size+1+1,0,none⟩),Value.pointer (some ⟨w.heap.size,0,none⟩),Value.pointer (some ⟨w.heap.size+1,0,none⟩)]) si (by simp [go_sem]) ?_
 obtain ⟨A',c',hX',k3'⟩:=k3
 refine (Rp _ _ _ br A' _ c' _ _ _ _ k2 k0 k3'.1).mono ?_
 rintro e u' w'' ⟨rfl,rfl,rfl⟩
 obtain ⟨g1,g2,g3⟩:=xD (off:=off) HW.out.2.2.2.1 kf om k1 (by decide) k3'.1 k3'.2 hX'
 exact ⟨Value.string (bD x),by simp [results,Tryz.results148,go_sem,g1],rfl,g2,g3⟩
set_option maxHeartbeats 4000000 in
theorem Dx (br:Nat) (D:List UInt8) (off last:Nat) (er:Int) (x:List UInt8) (bx by_:Nat) (w:World) (hr:aY X w br D off last 0) (he:er≠0)
  (hdec:∀ W,Fr [] w W→aY X W br D off last 0→Calls Tryz.prog 156 #[vP bx 0,vP by_ 0] W fun e w'=>e = .returned (.tuple #[.string (bD x),vi er])∧Fr [br] W w'∧∃ off':Nat,aY X w' br D off' last 0) :
  Calls Tryz.prog 148 #[vP br 0,.func (.func 156) #[] #[vP bx 0,vP by_ 0]] w fun e w'=>e = .returned (.string ⟨#[]⟩)∧Fr [br] w w'∧aY X w' br D off off er:=by
 have HE:=Lib.hid he
 clear he
 obtain ⟨A,c,hX,ha,hrow⟩:=hr
 have c1:w.cell? ⟨br,1,none⟩=some (Value.int .i64 (off:Int)):=by rw [ha.cell]; rfl
 have c3:w.cell? ⟨br,3,none⟩=some (vi 0):=by rw [ha.cell]; rfl
 have hlt:=ha.lt
 have HR:=Lib.hid (And.intro ha hrow)
 have HD:=Lib.hid hdec
 clear ha hrow hdec
 have hmf:∀ (fn:Fn) (first cap:Array Value) (w:World),(Instr.makeFunc fn first cap).run Tryz.prog w = .ok (.func fn first cap) w:=fun _ _ _ _=>rfl
 go_enter_defers Tryz.func148,Tryz.ntmps148
 go_wp2_with fail
 obtain ⟨W,hW⟩:∃ W,W=((w.alloc (Obj.cells #[vP br 0] 148)).alloc (Obj.cells #[Value.string ⟨#[]⟩] 9)).alloc (Obj.cells #[vi (off:Int)] 3):=⟨_,rfl⟩
 rw [← hW]
 have HW:Hid (At W w.heap.size 148 [vP br 0]∧At W (w.heap.size+1) 9 [Value.string ⟨#[]⟩]∧At W (w.heap.size+1+1) 3 [vi (off:Int)]∧Fr [] w W∧aY X W br D off last 0):=by
  rw [hW]
  refine ⟨((At.new w 148 [vP br 0]).alloc _).alloc _,?_,?_,(((Fr.refl _ _).alloc _).alloc _).alloc _,A,c,hX,((HR.out.1.alloc _).alloc _).alloc _,((HR.out.2.alloc _).alloc _).alloc _⟩
  ·have:=(At.new (w.alloc (Obj.cells #[vP br 0] 148)) 9 [Value.string ⟨#[]⟩]).alloc (Obj.cells #[vi (off:Int)] 3)
   simpa using this
  ·have:=At.new ((w.alloc (Obj.cells #[vP br 0] 148)).alloc (Obj.cells #[Value.string ⟨#[]⟩] 9)) 3 [vi (off:Int)]
   simpa using this
 clear hW c1 c3
 have d0:W.cell? ⟨w.heap.size,0,none⟩=some (Value.pointer (some ⟨br,0,none⟩)):=by rw [HW.out.1.cell]; rfl
 have nb1:w.heap.size≠br:=om
 have nb2:br≠w.heap.size:=om
 go_region_held3 (fun w'=>w'.cell? ⟨w.heap.size,0,none⟩=some (Value.pointer (some ⟨br,0,none⟩))) (go_keep) (first | (go_at_call 156; refine (HD.out W.drew (by exact HW.out.2.2.2.1.drew) (by exact HW.out.2.2.2.2)).mono ?_; rintro e w1 ⟨rfl,hf1,off',hr1⟩; obtain ⟨e0,e1,z1,e3,z3⟩:=oM (W:=W) HW.out.1 HW.out.2.1 HW.out.2.2.2.2 hf1 hr1; have H1:=Lib.hid (And.intro hf1 hr1); clear hf1 hr1))
 go_wp2_with fail
 obtain ⟨k0,k1,k2,k3,kf⟩:=oN HW.out.1 HW.out.2.1 HW.out.2.2.1 HW.out.2.2.2.2 H1.out.1 H1.out.2 (Value.string (bD x)) (Value.int .i64 er) om (by decide)
 refine leaves_cons (f:=159) (args:=#[Value.pointer (some ⟨w.heap.size+1+1,0,none⟩),Value.pointer (some ⟨w.heap.size,0,none⟩),Value.pointer (some ⟨w.heap.size+1,0,none⟩)]) si (by simp [go_sem]) ?_
 obtain ⟨A',c',hX',k3'⟩:=k3
 refine (Rq _ _ _ br A' _ c' _ _ _ er (Value.string (bD x)) _ k2 k0 k1 k3'.1 HE.out om).mono ?_
 rintro e u' w'' ⟨rfl,rfl,rfl⟩
 obtain ⟨g1,g2,g3⟩:=xE (off:=off) (z:=Value.string ⟨#[]⟩) HW.out.2.2.2.1 kf om k1 (by decide) (by decide) k3'.1 k3'.2 hX'
 exact ⟨Value.string ⟨#[]⟩,by simp [results,Tryz.results148,go_sem,g1],rfl,g2,g3⟩
theorem Rs (br:Nat) (r:Rd) (fv:Value) (w:World) (hr:bB X w br r) (h0:r.err≠0) :
  Calls Tryz.prog 148 #[vP br 0,fv] w fun e w'=>e = .returned (.string ⟨#[]⟩)∧Fr [] w w'∧bB X w' br r:=by
 have hr0:=hr
 obtain ⟨A,c,hX,ha,hrow⟩:=hr
 have c3:w.cell? ⟨br,3,none⟩=some (Value.int .i64 r.err):=by rw [ha.cell]; rfl
 have hb:(r.err != 0)=true:=by simpa using h0
 have hlt:=ha.lt
 have HR:=Lib.hid hr0
 clear ha hrow hr0 h0
 go_enter_defers Tryz.func148,Tryz.ntmps148
 go_wp2_with fail
 have hf:Fr [] w ((w.alloc (Obj.cells #[vP br 0] 148)).alloc (Obj.cells #[Value.string ⟨#[]⟩] 9)):=((Fr.refl _ _).alloc _).alloc _
 exact ⟨Value.string ⟨#[]⟩,by simp [results,Tryz.results148,go_sem],rfl,hf,aY.fr HR.out hf⟩
def Rd.text (r : Rd) (most : Nat) : List UInt8 × Rd := if r.err = 0 then (match dI r.D r.off with
 | none => ([], r.fail 3)
 | some (n, m) => if most < n then ([], r.fail 2) else if m + n ≤ r.D.length then ((r.D.drop m).take n, r.done (m + n)) else ([], r.fail 3)) else ([], r)
theorem Rt (br:Nat) (r:Rd) (most:Nat) (w:World) (hr:bB X w br r) (_hk:r.Ok) (_hm:most≤4294967296) (h0:r.err≠0) :
  Calls Tryz.prog 131 #[vP br 0,vi (most:Int)] w fun e w'=>e = .returned (vS ((r.text most).1))∧Fr [br] w w'∧bB X w' br (r.text most).2:=by
 have HR:=Lib.hid hr
 clear hr
 refine bG Tryz.func131 8 (Mm.start w []) rfl<|Nc<|Nx<|pB [(vP br 0)] fun b2=>Nx<|pB [(vI most)] fun b3=>lx rfl<|Nb<|lL 0 rfl<|lk (.func (.func 156) #[] #[(vP b2 0),(vP b3 0)])<|Nx<|mE 148 #[(vP br 0),(.func (.func 156) #[] #[(vP b2 0),(vP b3 0)])] rfl kr (fun _=>kr) (fun w1 hM=>?_)
 have HR1:Hid (bB X w1 br r):=aY.fr HR.out hM.fr
 have HB1:Hid (At w1 b2 148 [vP br 0]):=hM.at (i:=0) rfl
 have HB2:Hid (At w1 b3 3 [vi (most:Int)]):=hM.at (i:=1) rfl
 have HF1:=Lib.hid hM.fr
 refine (Rs br r _ w1 HR1.out h0).mono ?_
 rintro e w2 ⟨rfl,hf,hr2⟩
 refine ⟨_,w2,[],[],rfl,Mm.start w2 [],?_⟩
 clear hM
 exact lx rfl<|Nd<|sN [(.string ⟨#[]⟩)] fun w hM=>⟨by unfold Rd.text; rw [if_neg h0]; rfl,((HF1.out.trans hf).trans hM.fr).mono si,by unfold Rd.text; rw [if_neg h0]; exact aY.fr hr2 hM.fr⟩
theorem Ru (br:Nat) (r:Rd) (most:Nat) (w:World) (hr:bB X w br r) (hk:r.Ok) (hm:most≤4294967296) (h0:r.err=0) (n m:Nat) (hd:dI r.D r.off=some (n,m)) (hn:n≤most) (hf':m+n≤r.D.length) :
  Calls Tryz.prog 131 #[vP br 0,vi (most:Int)] w fun e w'=>e = .returned (vS ((r.text most).1))∧Fr [br] w w'∧bB X w' br (r.text most).2:=by
 have HR:=Lib.hid hr
 clear hr
 refine bG Tryz.func131 8 (Mm.start w []) rfl<|Nc<|Nx<|pB [(vP br 0)] fun b2=>Nx<|pB [(vI most)] fun b3=>lx rfl<|Nb<|lL 0 rfl<|lk (.func (.func 156) #[] #[(vP b2 0),(vP b3 0)])<|Nx<|mE 148 #[(vP br 0),(.func (.func 156) #[] #[(vP b2 0),(vP b3 0)])] rfl kr (fun _=>kr) (fun w1 hM=>?_)
 have HR1:Hid (bB X w1 br r):=aY.fr HR.out hM.fr
 have HB1:Hid (At w1 b2 148 [vP br 0]):=hM.at (i:=0) rfl
 have HB2:Hid (At w1 b3 3 [vi (most:Int)]):=hM.at (i:=1) rfl
 have HF1:=Lib.hid hM.fr
 refine (Rr br r.D r.off r.last (m+n) ((r.D.drop m).take n) b2 b3 w1 (by have h:=HR1.out; unfold bB at h; rw [h0] at h; exact h) (fun W hf hr=>Rk b2 b3 br r.D r.off r.last most W (HB1.out.fr hf si) (HB2.out.fr hf si) hr hk.len hk.off hm n m hd hn hf')).mono ?_
 rintro e w2 ⟨rfl,hf,hr2⟩
 refine ⟨_,w2,[],[],rfl,Mm.start w2 [],?_⟩
 clear hM
 exact lx rfl<|Nd<|sN [(vS ((r.D.drop m).take n))] fun w hM=>⟨by unfold Rd.text; rw [if_pos h0,hd]; dsimp only; rw [if_neg om,if_pos hf']; rfl,((HF1.out.mono si).trans hf).trans (hM.fr.mono si),by unfold Rd.text; rw [if_pos h0,hd]; dsimp only; rw [if_neg om,if_pos hf']; unfold Rd.done bB; have h:=aY.fr hr2 hM.fr; rw [← h0] at h; exact h⟩
theorem Rv (br:Nat) (r:Rd) (most:Nat) (w:World) (hr:bB X w br r) (hk:r.Ok) (hm:most≤4294967296) (h0:r.err=0) (n m:Nat) (hd:dI r.D r.off=some (n,m)) (hn:n≤most) (hf':r.D.length < m+n) :
  Calls Tryz.prog 131 #[vP br 0,vi (most:Int)] w fun e w'=>e = .returned (vS ((r.text most).1))∧Fr [br] w w'∧bB X w' br (r.text most).2:=by
 have HR:=Lib.hid hr
 clear hr
 refine bG Tryz.func131 8 (Mm.start w []) rfl<|Nc<|Nx<|pB [(vP br 0)] fun b2=>Nx<|pB [(vI most)] fun b3=>lx rfl<|Nb<|lL 0 rfl<|lk (.func (.func 156) #[] #[(vP b2 0),(vP b3 0)])<|Nx<|mE 148 #[(vP br 0),(.func (.func 156) #[] #[(vP b2 0),(vP b3 0)])] rfl kr (fun _=>kr) (fun w1 hM=>?_)
 have HR1:Hid (bB X w1 br r):=aY.fr HR.out hM.fr
 have HB1:Hid (At w1 b2 148 [vP br 0]):=hM.at (i:=0) rfl
 have HB2:Hid (At w1 b3 3 [vi (most:Int)]):=hM.at (i:=1) rfl
 have HF1:=Lib.hid hM.fr
 refine (Dx br r.D r.off r.last 3 [] b2 b3 w1 (by have h:=HR1.out; unfold bB at h; rw [h0] at h; exact h) (by decide) (fun W hf hr=>Rl b2 b3 br r.D r.off r.last most W (HB1.out.fr hf si) (HB2.out.fr hf si) hr hk.len hk.off hm n m hd hn hf')).mono ?_
 rintro e w2 ⟨rfl,hf,hr2⟩
 refine ⟨_,w2,[],[],rfl,Mm.start w2 [],?_⟩
 clear hM
 exact lx rfl<|Nd<|sN [(.string ⟨#[]⟩)] fun w hM=>⟨by unfold Rd.text; rw [if_pos h0,hd]; dsimp only; rw [if_neg om,if_neg om]; rfl,((HF1.out.mono si).trans hf).trans (hM.fr.mono si),by unfold Rd.text; rw [if_pos h0,hd]; dsimp only; rw [if_neg om,if_neg om]; unfold Rd.fail bB; exact aY.fr hr2 hM.fr⟩
theorem Rw (br:Nat) (r:Rd) (most:Nat) (w:World) (hr:bB X w br r) (hk:r.Ok) (hm:most≤4294967296) (h0:r.err=0) (n m:Nat) (hd:dI r.D r.off=some (n,m)) (hn:most < n) :
  Calls Tryz.prog 131 #[vP br 0,vi (most:Int)] w fun e w'=>e = .returned (vS ((r.text most).1))∧Fr [br] w w'∧bB X w' br (r.text most).2:=by
 have HR:=Lib.hid hr
 clear hr
 refine bG Tryz.func131 8 (Mm.start w []) rfl<|Nc<|Nx<|pB [(vP br 0)] fun b2=>Nx<|pB [(vI most)] fun b3=>lx rfl<|Nb<|lL 0 rfl<|lk (.func (.func 156) #[] #[(vP b2 0),(vP b3 0)])<|Nx<|mE 148 #[(vP br 0),(.func (.func 156) #[] #[(vP b2 0),(vP b3 0)])] rfl kr (fun _=>kr) (fun w1 hM=>?_)
 have HR1:Hid (bB X w1 br r):=aY.fr HR.out hM.fr
 have HB1:Hid (At w1 b2 148 [vP br 0]):=hM.at (i:=0) rfl
 have HB2:Hid (At w1 b3 3 [vi (most:Int)]):=hM.at (i:=1) rfl
 have HF1:=Lib.hid hM.fr
 refine (Dx br r.D r.off r.last 2 [] b2 b3 w1 (by have h:=HR1.out; unfold bB at h; rw [h0] at h; exact h) (by decide) (fun W hf hr=>Rm b2 b3 br r.D r.off r.last most W (HB1.out.fr hf si) (HB2.out.fr hf si) hr hk.len hk.off hm n m hd hn)).mono ?_
 rintro e w2 ⟨rfl,hf,hr2⟩
 refine ⟨_,w2,[],[],rfl,Mm.start w2 [],?_⟩
 clear hM
 exact lx rfl<|Nd<|sN [(.string ⟨#[]⟩)] fun w hM=>⟨by unfold Rd.text; rw [if_pos h0,hd]; dsimp only; rw [if_pos hn]; rfl,((HF1.out.mono si).trans hf).trans (hM.fr.mono si),by unfold Rd.text; rw [if_pos h0,hd]; dsimp only; rw [if_pos hn]; unfold Rd.fail bB; exact aY.fr hr2 hM.fr⟩
theorem Rx (br:Nat) (r:Rd) (most:Nat) (w:World) (hr:bB X w br r) (hk:r.Ok) (hm:most≤4294967296) (h0:r.err=0) (hd:dI r.D r.off=none) :
  Calls Tryz.prog 131 #[vP br 0,vi (most:Int)] w fun e w'=>e = .returned (vS ((r.text most).1))∧Fr [br] w w'∧bB X w' br (r.text most).2:=by
 have HR:=Lib.hid hr
 clear hr
 refine bG Tryz.func131 8 (Mm.start w []) rfl<|Nc<|Nx<|pB [(vP br 0)] fun b2=>Nx<|pB [(vI most)] fun b3=>lx rfl<|Nb<|lL 0 rfl<|lk (.func (.func 156) #[] #[(vP b2 0),(vP b3 0)])<|Nx<|mE 148 #[(vP br 0),(.func (.func 156) #[] #[(vP b2 0),(vP b3 0)])] rfl kr (fun _=>kr) (fun w1 hM=>?_)
 have HR1:Hid (bB X w1 br r):=aY.fr HR.out hM.fr
 have HB1:Hid (At w1 b2 148 [vP br 0]):=hM.at (i:=0) rfl
 have HB2:Hid (At w1 b3 3 [vi (most:Int)]):=hM.at (i:=1) rfl
 have HF1:=Lib.hid hM.fr
 refine (Dx br r.D r.off r.last 3 [] b2 b3 w1 (by have h:=HR1.out; unfold bB at h; rw [h0] at h; exact h) (by decide) (fun W hf hr=>Rn b2 b3 br r.D r.off r.last most W (HB1.out.fr hf si) (HB2.out.fr hf si) hr hk.len hk.off hm hd)).mono ?_
 rintro e w2 ⟨rfl,hf,hr2⟩
 refine ⟨_,w2,[],[],rfl,Mm.start w2 [],?_⟩
 clear hM
 exact lx rfl<|Nd<|sN [(.string ⟨#[]⟩)] fun w hM=>⟨by unfold Rd.text; rw [if_pos h0,hd]; dsimp only; rfl,((HF1.out.mono si).trans hf).trans (hM.fr.mono si),by unfold Rd.text; rw [if_pos h0,hd]; dsimp only; unfold Rd.fail bB; exact aY.fr hr2 hM.fr⟩
theorem Ry (br:Nat) (r:Rd) (most:Nat) (w:World) (hr:bB X w br r) (hk:r.Ok) (hm:most≤4294967296):Calls Tryz.prog 131 #[vP br 0,vi (most:Int)] w fun e w'=>e = .returned (vS ((r.text most).1))∧Fr [br] w w'∧bB X w' br (r.text most).2:=by
 by_cases h0:r.err=0
 ·cases hd:dI r.D r.off with
  | none=>exact Rx br r most w hr hk hm h0 hd
  | some p =>
    obtain ⟨n,m⟩:=p
    by_cases hn:n≤most
    ·by_cases hf:m+n≤r.D.length
     ·exact Ru br r most w hr hk hm h0 n m hd hn hf
     ·exact Rv br r most w hr hk hm h0 n m hd hn om
    ·exact Rw br r most w hr hk hm h0 n m hd om
 ·exact Rt br r most w hr hk hm h0
end
def aU (X : Option Addr × Nat) (br : Nat) (r : Rd) : Ch where
 fp := br :: dD X.1
 holds w := bB X w br r ∧ r.Ok
 ok w w' hb h := by
  obtain ⟨⟨A, c, hX, h1, h2⟩, hk⟩ := h
  subst hX
  refine ⟨⟨A, c, rfl, ?_, ?_⟩, hk⟩
  ·exact (aB br 179 _).ok w w' (fun b hb1 => hb b (by rw [show b = br from List.mem_singleton.1 hb1]; exact List.mem_cons_self)) h1
  ·exact (dA 5 1 A r.D.length c (B8 r.D)).ok w w' (fun b hb1 => hb b (List.mem_cons_of_mem _ hb1)) h2
 lt w h b hb := by
  obtain ⟨⟨A, c, hX, h1, h2⟩, hk⟩ := h
  subst hX
  rcases List.mem_cons.1 hb with rfl | hb
  ·exact h1.lt
  ·exact (dA 5 1 A r.D.length c (B8 r.D)).lt w h2 b hb
theorem IP {X:Option Addr × Nat} {w:World} {br:Nat} {r:Rd} (h:bB X w br r):(br::dD X.1).Nodup:=by
 obtain ⟨A,c,hX,h1,h2⟩:=h
 subst hX
 refine List.nodup_cons.2 ⟨fun hb=>?_,sD A⟩
 have h3:=jJ h2 h1 (by decide)
 cases A with
 | none=>simp [dD] at hb
 | some a =>
   have:br=a.block:=by simpa [dD] using hb
   exact h3 (by rw [this]; rfl)
theorem sU {X:Option Addr × Nat} {w w':World} {br:Nat} {r r':Rd} (hO:bO [aU X br r] w) (hf:Fr [br] w w') (hr:bB X w' br r') (hk:r'.Ok):aK [aU X br r] w [aU X br r'] w' :=
 hO.swap 0 (c':=aU X br r') rfl (hf.mono (S':=br::dD X.1) si) ⟨hr,hk⟩ (fun b hb=>.inl hb) (IP hr)
theorem Rz {w w':World} {br:Nat} {A:Option Addr} {c:Nat} {r:Rd} (hf:Fr [] w w') (hr:bB (A,c) w' br r) (hk:r.Ok) (hb:w.heap.size≤br) (ho:w'.ownsRow w.heap.size 5 1 (.slice A r.D.length c) r.D.length (B8 r.D)):aK [] w [aU (A,c) br r] w' :=
 (Mm.start w []).push (c:=aU (A,c) br r) hf ⟨hr,hk⟩ (fun b hb1=>by
  rcases List.mem_cons.1 hb1 with rfl | hb1
  ·exact hb
  ·rcases ho.2 with ⟨hv,_⟩ | ⟨g,cap,cur,hv,hge,_⟩
   ·simp only [Value.slice.injEq] at hv
    obtain ⟨rfl,_,rfl⟩:=hv
    simp [dD] at hb1
   ·simp only [Value.slice.injEq] at hv
    obtain ⟨rfl,_,rfl⟩:=hv
    have:b=g:=by simpa [dD] using hb1
    rw [this]
    exact hge) (IP hr)
def Rd.cnt (r : Rd) (m : Nat) : Nat × Rd := r.count (m : Int)
theorem Rd.Ok.cnt {r:Rd} (h:r.Ok) (most:Nat):(r.cnt most).2.Ok:=by
 unfold Rd.cnt Rd.count
 split
 ·cases hd:dI r.D r.off with
  | none=>exact ⟨h.off,h.len⟩
  | some p =>
    simp only
    split
    ·exact ⟨h.off,h.len⟩
    ·exact ⟨(uO _ _ p.1 p.2 hd).2.1,h.len⟩
 ·exact h
theorem Rd.Ok.text {r:Rd} (h:r.Ok) (most:Nat):(r.text most).2.Ok:=by
 unfold Rd.text
 split
 ·cases hd:dI r.D r.off with
  | none=>exact ⟨h.off,h.len⟩
  | some p =>
    obtain ⟨n,m⟩:=p
    dsimp only
    split
    ·exact ⟨h.off,h.len⟩
    ·split
     ·exact ⟨ag,h.len⟩
     ·exact ⟨h.off,h.len⟩
 ·exact h
theorem pU (X:Option Addr × Nat) (br:Nat) (r:Rd) (w:World) (hO:bO [aU X br (r)] w) :
  Calls Tryz.prog 80 #[(vP br 0)] w fun e w'=>e = .returned (.int .u64 ((r.uint.1:Nat):Int))∧aK [aU X br (r)] w [aU X br (r.uint.2)] w':=by
 have h:=hO.at (i:=0) rfl; obtain ⟨hr,hk⟩:bB X w br r∧r.Ok:=h
 refine (qS br r w hr hk).mono ?_
 rintro e w' ⟨rfl,hf,hr2⟩
 exact ⟨rfl,sU hO hf hr2 hk.uint'⟩
theorem Dy (X:Option Addr × Nat) (br:Nat) (r:Rd) (most:Nat) (w:World) (hO:bO [aU X br (r)] w) (hm:most≤4294967296) :
  Calls Tryz.prog 91 #[(vP br 0),(vI most)] w fun e w'=>e = .returned (vI ((r.cnt most).1))∧aK [aU X br (r)] w [aU X br ((r.cnt most).2)] w':=by
 have h:=hO.at (i:=0) rfl; obtain ⟨hr,hk⟩:bB X w br r∧r.Ok:=h
 refine (PG br r (most:Int) w hr hk ⟨om,om⟩).mono ?_
 rintro e w' ⟨rfl,hf,hr2⟩
 exact ⟨rfl,sU hO hf hr2 (hk.cnt most)⟩
theorem RA (X:Option Addr × Nat) (br:Nat) (r:Rd) (most:Nat) (w:World) (hO:bO [aU X br (r)] w) (hm:most≤4294967296) :
  Calls Tryz.prog 131 #[(vP br 0),(vI most)] w fun e w'=>e = .returned (vS ((r.text most).1))∧aK [aU X br (r)] w [aU X br ((r.text most).2)] w':=by
 have h:=hO.at (i:=0) rfl; obtain ⟨hr,hk⟩:bB X w br r∧r.Ok:=h
 refine (Ry br r most w hr hk hm).mono ?_
 rintro e w' ⟨rfl,hf,hr2⟩
 exact ⟨rfl,sU hO hf hr2 (hk.text most)⟩
theorem xP (X:Option Addr × Nat) (br:Nat) (r:Rd) (w:World) (hO:bO [aU X br (r)] w) :
  Calls Tryz.prog 117 #[(vP br 0)] w fun e w'=>e = .returned (vS r.sum.1)∧aK [aU X br (r)] w [aU X br (r.sum.2)] w':=by
 have h:=hO.at (i:=0) rfl; obtain ⟨hr,hk⟩:bB X w br r∧r.Ok:=h
 refine (Hu br r w hr hk).mono ?_
 rintro e w' ⟨rfl,hf,hr2⟩
 exact ⟨rfl,sU hO hf hr2 hk.sum⟩
theorem oQ (X:Option Addr × Nat) (br:Nat) (r:Rd) (w:World) (hO:bO [aU X br (r)] w) :
  Calls Tryz.prog 85 #[(vP br 0)] w fun e w'=>e = .returned (.tuple #[(vI r.off),(.int .i64 r.end_)])∧aK [aU X br (r)] w [aU X br (r)] w':=by
 have h:=hO.at (i:=0) rfl; obtain ⟨hr,hk⟩:bB X w br r∧r.Ok:=h
 refine (Hr br r w hr hk).mono ?_
 rintro e w' ⟨rfl,hf⟩
 exact ⟨rfl,sU hO (hf.mono si) (aY.fr hr hf) hk⟩
theorem oR (A:Option Addr) (c:Nat) (D:List UInt8) (w:World) (r0:Rf [] w (fun w=>aF w A (B8 D))) (hD:D.length≤4294967296) :
  Calls Tryz.prog 79 #[(vL A D c)] w fun e w'=>∃ (X:Option Addr × Nat) (br:Nat),e = .returned (vP br 0)∧aK [] w [aU X br (Rd.mk D 0 0 0)] w':=by
 refine (Aj A c D w hD r0.here).mono ?_
 rintro e w' ⟨br,A2,c2,rfl,hb,hf,hr,ho⟩
 exact ⟨(A2,c2),br,rfl,Rz hf hr ⟨Nat.zero_le _,hD⟩ hb ho⟩
theorem oS (X:Option Addr × Nat) (br:Nat) (r:Rd) (w:World) (hO:bO [aU X br (r)] w) :
  Calls Tryz.prog 113 #[(vP br 0)] w fun e w'=>e = .returned (vI (r.D.length - r.off))∧aK [aU X br (r)] w [aU X br (r)] w':=by
 have h:=hO.at (i:=0) rfl; obtain ⟨hr,hk⟩:bB X w br r∧r.Ok:=h
 obtain ⟨A,c,hX,ha,hown⟩:=hr
 have hkl:=hk.len; have hko:=hk.off
 have hnb:∀ g,(Value.slice A r.D.length c).ownBlock=some g→g∉[br]:=fun g hg=>by
  have h1:=jJ hown ha (by decide)
  simp only [List.mem_singleton]
  rintro rfl
  exact h1 hg.symm
 refine eH Tryz.func113 13 (Mm.one ha) rfl<|Nc<|lx rfl<|Nf<|dN _ 11 kr (fun _ h=>h)<|am 0 ?_
 refine aC 1 (vP br 0) rfl<|aC 2 (vP br 0) rfl<|al 3 0 ?_
 refine aC 4 (vI r.D.length) rfl ?_
 refine am 5 ?_
 refine aC 6 (vP br 0) rfl<|aC 7 (vP br 1) rfl<|al 8 0 ?_
 refine aV 9 (vI (r.D.length - r.off)) rfl (gC (mH _ rfl rfl rfl rfl om om) (by show Value.int _ _=Value.int _ _; rw [Int.ofNat_sub hk.off]))<|aa 10 ?_
 exact dO kr<|aJ<|gQ<|sN [(vI (r.D.length - r.off))] fun w hM=>⟨rfl,sU hO (hM.fr.mono si) ⟨A,c,hX,hM.at (i:=0) rfl,dZ hown hM.fr hnb⟩ hk⟩
theorem Dz {P:Program} {Q:Exit→Act→World→Prop} {nt:Nat} {w0:World} {F:List Nat} {E:cH} {cs:List Ch} {K:Act→World→Prop} {o:Oper} {d:Nat} {t e:TypeId} {z:Value} {sz bt:Nat} (El:mD P t e z sz bt) {x y:Operand} (n:Nat) (hn:n≤4294967296) (ho:o.op = .makeSlice t x y) (hd:o.dst=some d) (hk:bK nt E o=true) (hx:aN E x=some (vi 0)) (hy:aN E y=some (vI n))
  (h:∀ b,St nt w0 F ((d,.slice (some ⟨b,0,none⟩) 0 n)::E) (cs++[dA e sz (some ⟨b,0,none⟩) 0 n []]) K) (hbt:bt≤1024):cM P Q nt w0 F E cs o K :=
 nE hd hk fun w hM=>by
  obtain ⟨i,hi,hz,hsz,hby⟩:=info_parts El.hi
  have hm:bt*n≤1024*4294967296:=Nat.mul_le_mul hbt hn
  have hr:=run_make (P:=P) w t e i z El.ht hi hz .i64 .i64 0 ((n:Nat):Int) om om (by rw [hby,← Int.natCast_mul]; omega) om
  have h1:=hM.push (c:=aB w.heap.size e (madeCells z.cells (n*sz)).toList) ((Fr.refl _ _).alloc _) (At.new w e _) (by simp [aB]) (by simp [aB])
  have h2:=h1.Ml cs.length (by rw [List.getElem?_append_right (Nat.le_refl _),Nat.sub_self]; rfl) sz 0 n (by rw [Array.length_toList,size_madeCells]) (Nat.zero_le _) (by unfold maxLen; omega)
  rw [Nat.zero_mul,List.take_zero,List.set_append_right _ _ (Nat.le_refl _),Nat.sub_self,List.set_cons_zero] at h2
  refine ⟨_,_,_,?_,h2,h w.heap.size⟩
  unfold execOp
  rw [hsz,Int.toNat_natCast] at hr
  simp only [ho,bL hx,bL hy,Sem.run_bind,hr]
  rfl
def Rd.cR (r : Rd) : Nat → List Bs × Rd
 | 0 => ([], r)
 | n + 1 => ((r.cR n).1 ++ [(r.cR n).2.sum.1], (r.cR n).2.sum.2)
def Rd.bM (r : Rd) (most : Nat) : Nat := min most ((r.D.length - r.off) / 32)
def Rd.items (r : Rd) (most : Nat) : List Bs × Rd := (r.cnt (r.bM most)).2.cR (r.cnt (r.bM most)).1
theorem Rd.zE (r:Rd) (most:Nat):(r.cnt most).1≤most:=by
 unfold Rd.cnt Rd.count
 split
 ·cases hd:dI r.D r.off with
  | none=>exact Nat.zero_le _
  | some p =>
    simp only
    split
    ·exact Nat.zero_le _
    ·show p.1≤most; omega
 ·exact Nat.zero_le _
theorem Rd.wE (r:Rd):∀ n,(r.cR n).1.length=n
 | 0=>rfl
 | n+1=>by
   show ((r.cR n).1++[_]).length=_
   rw [List.length_append,r.wE n]
   rfl
theorem Rd.rQ (r:Rd) (most:Nat):(r.items most).1.length≤most:=by
 unfold Rd.items
 rw [Rd.wE]
 exact Nat.le_trans (r.zE _) (Nat.min_le_left _ _)
def Rd.body (r : Rd) (lo hi : Bs) : Option AP × Rd :=
 if r.uint.1 = 1 then (some ⟨lo, hi, .sum (r.uint.2.cnt 16384).1 (r.uint.2.cnt 16384).2.sum.1⟩, (r.uint.2.cnt 16384).2.sum.2)
 else if r.uint.1 = 2 then (if eD (r.uint.2.items 64).1 lo hi then some ⟨lo, hi, .list (r.uint.2.items 64).1⟩ else none, (r.uint.2.items 64).2)
 else if r.uint.1 = 3 then (if eD (r.uint.2.items 16384).1 lo hi && eD ((r.uint.2.items 16384).2.items 16384).1 lo hi then some ⟨lo, hi, .ans (r.uint.2.items 16384).1 ((r.uint.2.items 16384).2.items 16384).1⟩ else none, ((r.uint.2.items 16384).2.items 16384).2)
 else (none, r.uint.2)
def Rd.part (r : Rd) : Option AP × Rd :=
 if gL (r.text 32).1 && gL ((r.text 32).2.text 32).1 && lU (r.text 32).1 ((r.text 32).2.text 32).1 then ((r.text 32).2.text 32).2.body (r.text 32).1 ((r.text 32).2.text 32).1
 else (none, ((r.text 32).2.text 32).2)
theorem Rd.Fw {r r1 r2:Rd} {a b:Bs} (h1:r.text 32=(a,r1)) (h2:r1.text 32=(b,r2)) (h:(gL a && gL b && lU a b)=false):r.part=(none,r2):=by
 unfold Rd.part; rw [h1]; dsimp only; rw [h2]; dsimp only; rw [h]; rfl
theorem Rd.part_go {r r1 r2:Rd} {a b:Bs} (h1:r.text 32=(a,r1)) (h2:r1.text 32=(b,r2)) (h:(gL a && gL b && lU a b)=true):r.part=r2.body a b:=by
 unfold Rd.part; rw [h1]; dsimp only; rw [h2]; dsimp only; rw [h]; rfl
theorem Rd.XR {r r1 r2 r3:Rd} {k n:Nat} {f lo hi:Bs} (h1:r.uint=(k,r1)) (hk:k=1) (h2:r1.cnt 16384=(n,r2)) (h3:r2.sum=(f,r3)):r.body lo hi=(some ⟨lo,hi,.sum n f⟩,r3):=by
 unfold Rd.body; rw [h1]; dsimp only; rw [if_pos hk,h2]; dsimp only; rw [h3]
theorem Rd.XS {r r1 r2:Rd} {k:Nat} {l:List Bs} {lo hi:Bs} (h1:r.uint=(k,r1)) (hk:k=2) (h2:r1.items 64=(l,r2)):r.body lo hi=(if eD l lo hi then some ⟨lo,hi,.list l⟩ else none,r2):=by
 unfold Rd.body; rw [h1]; dsimp only; rw [if_neg om,if_pos hk,h2]
theorem Rd.XT {r r1 r2 r3:Rd} {k:Nat} {l m:List Bs} {lo hi:Bs} (h1:r.uint=(k,r1)) (hk:k=3) (h2:r1.items 16384=(l,r2)) (h3:r2.items 16384=(m,r3)):r.body lo hi=(if eD l lo hi && eD m lo hi then some ⟨lo,hi,.ans l m⟩ else none,r3):=by
 unfold Rd.body; rw [h1]; dsimp only; rw [if_neg om,if_neg om,if_pos hk,h2]; dsimp only; rw [h3]
theorem Rd.XU {r r1:Rd} {k:Nat} {lo hi:Bs} (h1:r.uint=(k,r1)) (hk1:¬ k=1) (hk2:¬ k=2) (hk3:¬ k=3):r.body lo hi=(none,r1):=by
 unfold Rd.body; rw [h1]; dsimp only; rw [if_neg hk1,if_neg hk2,if_neg hk3]
theorem RB {a b c:Bool} (h:(!a)=true):(a && b && c)=false:=by revert h; revert a b c; decide
theorem RC {a b c:Bool} (h:(!b)=true):(a && b && c)=false:=by revert h; revert a b c; decide
theorem RD {a b c:Bool} (h:(!c)=true):(a && b && c)=false:=by revert h; revert a b c; decide
theorem RE {a b c:Bool} (h:(!a)=false) (k:(!b)=false) (l:(!c)=false):(a && b && c)=true:=by revert h k l; revert a b c; decide
theorem AE {a n:Nat} (h:(((a:Nat):Int) == ((n:Nat):Int))=true):a=n:=Int.ofNat.inj (by simpa using h)
theorem AF {a n:Nat} (h:(((a:Nat):Int) == ((n:Nat):Int))=false):¬ a=n:=fun e=>by rw [e] at h; simp at h
/-! ### The decoder -/
def follows (ps : List AP) (p : AP) : Bool := match ps.getLast? with | none => true | some q => !(decide (q.hi = []) || decide (p.lo < q.hi))
def Rd.parts (r : Rd) : Nat → Option (List AP) × Rd
 | 0 => (some [], r)
 | k + 1 =>
   match r.parts k with
   | (none, r1) => (none, r1)
   | (some ps, r1) =>
     match r1.part with
     | (none, r2) => (none, r2)
     | (some p, r2) => if follows ps p then (some (ps ++ [p]), r2) else (none, r2)
def jN (D : Bs) : Option (List AP) :=
 if ((Rd.mk D 0 0 0).cnt D.length).1 = 0 then none
 else match ((Rd.mk D 0 0 0).cnt D.length).2.parts ((Rd.mk D 0 0 0).cnt D.length).1 with
  | (none, _) => none
  | (some ps, r2) => if r2.end_ = 0 then some ps else none
theorem Rd.Fx {r r1 r2:Rd} {k:Nat} {ps:List AP} {p:AP} (h:r.parts k=(some ps,r1)) (hp:r1.part=(some p,r2)) (hf:follows ps p=true):r.parts (k+1)=(some (ps++[p]),r2):=by
 rw [Rd.parts,h]; dsimp only; rw [hp]; dsimp only; rw [if_pos hf]
theorem Rd.MB {r r1 r2:Rd} {k:Nat} {ps:List AP} {p:AP} (h:r.parts k=(some ps,r1)) (hp:r1.part=(some p,r2)) (hf:follows ps p=false):(r.parts (k+1)).1=none:=by
 rw [Rd.parts,h]; dsimp only; rw [hp]; dsimp only; rw [if_neg (by simp [hf])]
theorem Rd.XV {r r1 r2:Rd} {k:Nat} {ps:List AP} (h:r.parts k=(some ps,r1)) (hp:r1.part=(none,r2)):(r.parts (k+1)).1=none:=by
 rw [Rd.parts,h]; dsimp only; rw [hp]
theorem Rd.MC {r:Rd} {k:Nat} (h:(r.parts k).1=none):∀ j,(r.parts (k+j)).1=none
 | 0=>h
 | j+1=>by
   have ih:=Rd.MC h j
   show (r.parts (k+j+1)).1=none
   rw [Rd.parts]
   generalize r.parts (k+j)=z at ih ⊢
   obtain ⟨o,r1⟩:=z
   dsimp only at ih ⊢
   subst ih
   rfl
theorem Rd.Fy {r:Rd}:∀ {k:Nat} {ps:List AP} {r1:Rd},r.parts k=(some ps,r1)→ps.length=k
 | 0,ps,r1,h=>by rw [Rd.parts] at h; injection h with h1 h2; injection h1 with h1; rw [← h1]; rfl
 | k+1,ps,r1,h=>by
   rw [Rd.parts] at h
   generalize hz:r.parts k=z at h
   obtain ⟨o,r2⟩:=z
   cases o with
   | none=>dsimp only at h; cases h
   | some qs =>
     dsimp only at h
     have ih:=Rd.Fy hz
     generalize r2.part=y at h
     obtain ⟨q,r3⟩:=y
     cases q with
     | none=>dsimp only at h; cases h
     | some p =>
       dsimp only at h
       split at h
       ·injection h with h1 h2; injection h1 with h1; rw [← h1,List.length_append,ih]; rfl
       ·cases h
theorem RF {D:Bs} {n:Nat} {r1:Rd} (hc:(Rd.mk D 0 0 0).cnt D.length=(n,r1)) (hn:n=0):jN D=none:=by
 unfold jN; rw [hc]; exact if_pos hn
theorem DA {D:Bs} {n i:Nat} {r1:Rd} (hc:(Rd.mk D 0 0 0).cnt D.length=(n,r1)) (hi:i≤n) (h:(r1.parts i).1=none):jN D=none:=by
 unfold jN; rw [hc]
 dsimp only
 split
 ·rfl
 ·have:=Rd.MC h (n - i)
  rw [show i+(n - i)=n by omega] at this
  generalize r1.parts n=z at this ⊢
  obtain ⟨o,r2⟩:=z
  dsimp only at this
  subst this
  rfl
theorem RG {D:Bs} {n:Nat} {r1 r2:Rd} {ps:List AP} (hc:(Rd.mk D 0 0 0).cnt D.length=(n,r1)) (h:r1.parts n=(some ps,r2)) (he:¬ r2.end_=0):jN D=none:=by
 unfold jN; rw [hc]
 dsimp only
 split
 ·rfl
 ·rw [h]; exact if_neg he
theorem RH {D:Bs} {n:Nat} {r1 r2:Rd} {ps:List AP} (hc:(Rd.mk D 0 0 0).cnt D.length=(n,r1)) (hn:¬ n=0) (h:r1.parts n=(some ps,r2)) (he:r2.end_=0):jN D=some ps:=by
 unfold jN; rw [hc]
 dsimp only
 rw [if_neg hn,h]; exact if_pos he
theorem DB {ps:List AP} {i:Nat} {q p:AP} (h:ps[i]?=some q) (hl:ps.length=i+1):follows ps p = !(decide (q.hi=[]) || decide (p.lo < q.hi)):=by
 unfold follows
 rw [List.getLast?_eq_getElem?,hl,Nat.add_sub_cancel,h]
theorem IQ {a b:Bs}:(!(decide (a < b) || decide (a=b)))=decide (b < a):=by
 by_cases h1:a < b
 ·have:¬ b < a:=fun h=>iY (nO h h1)
  simp [h1,this]
 ·by_cases h2:a=b
  ·subst h2; simp [iY]
  ·simp [h1,h2,qW h1 h2]
/-! ### What messages are -/
def gS (l : List Bs) : Prop := ∀ x ∈ l, x.length = 32
def AC.ok (lo hi : Bs) : AC → Prop
 | .sum n f => n ≤ 16384 ∧ f.length = 32
 | .list xs => xs.length ≤ 64 ∧ gS xs ∧ eD xs lo hi = true
 | .ans xs ms => (xs.length ≤ 16384 ∧ gS xs ∧ eD xs lo hi = true) ∧ ms.length ≤ 16384 ∧ gS ms ∧ eD ms lo hi = true
def AP.ok (p : AP) : Prop := (gL p.lo = true ∧ gL p.hi = true ∧ lU p.lo p.hi = true) ∧ p.c.ok p.lo p.hi
def uX (ps : List AP) : Prop := ∀ k p, ps[k]? = some p → follows (ps.take k) p = true
def DC (ps : List AP) : Prop := ps ≠ [] ∧ (∀ p ∈ ps, p.ok) ∧ uX ps
theorem qX {x:Bs} (h:gL x=true):x.length≤32:=by
 unfold gL at h
 rw [Bool.or_eq_true,decide_eq_true_eq,decide_eq_true_eq] at h
 rcases h with rfl | h
 ·simp
 ·omega
theorem RI {ps:List AP} {p:AP} (h:uX ps) (hf:follows ps p=true):uX (ps++[p]):=by
 intro k q hq
 by_cases hk:k < ps.length
 ·rw [List.getElem?_append_left hk] at hq
  rw [List.take_append_of_le_length om]
  exact h k q hq
 ·rw [List.getElem?_append_right om] at hq
  have hk':k - ps.length=0:=by
   have:=(List.getElem?_eq_some_iff.1 hq).1
   simp at this
   omega
  rw [hk'] at hq
  simp at hq
  subst hq
  rw [show k=ps.length by omega,List.take_left]
  exact hf
/-! ### What is decoded is an encoding -/
theorem IS (r : Rd) (most : Nat) (h : (r.text most).2.err = 0) : hZ r (r.text most).2 (aD (r.text most).1.length ++ (r.text most).1) ∧ (r.text most).1.length ≤ most := by
 unfold Rd.text at h ⊢
 by_cases he : r.err = 0
 ·rw [if_pos he] at h ⊢
  cases hd : dI r.D r.off with
  | none => rw [hd] at h; cases h
  | some p =>
    obtain ⟨n, m⟩ := p
    rw [hd] at h
    dsimp only at h ⊢
    by_cases h1 : most < n
    ·rw [if_pos h1] at h; cases h
    ·rw [if_neg h1] at h ⊢
     by_cases h2 : m + n ≤ r.D.length
     ·rw [if_pos h2] at h ⊢
      have hl : ((r.D.drop m).take n).length = n := by rw [List.length_take, List.length_drop]; omega
      refine ⟨⟨he, rfl, ?_⟩, by dsimp only; omega⟩
      dsimp only
      rw [hl, CX _ _ _ _ hd, List.append_assoc]
      congr 1
      show _ = _ ++ r.D.drop (m + n)
      rw [← List.drop_drop, List.take_append_drop]
     ·rw [if_neg h2] at h; cases h
 ·rw [if_neg he] at h
  exact absurd h he
theorem DD (r:Rd) (most:Nat) (h:(r.cnt most).2.err=0):hZ r (r.cnt most).2 (aD (r.cnt most).1)∧(r.cnt most).1≤most:=by
 refine ⟨?_,r.zE most⟩
 unfold Rd.cnt Rd.count at h ⊢
 by_cases he:r.err=0
 ·rw [if_pos he] at h ⊢
  cases hd:dI r.D r.off with
  | none=>rw [hd] at h; cases h
  | some p =>
    rw [hd] at h
    dsimp only at h ⊢
    split at h
    ·cases h
    ·rename_i h1
     rw [if_neg h1]
     exact ⟨he,rfl,CX _ _ _ _ hd⟩
 ·rw [if_neg he] at h
  exact absurd h he
theorem IT (r:Rd):∀ n,(r.cR n).2.err=0→r.err=0→hZ r (r.cR n).2 (r.cR n).1.flatten∧gS (r.cR n).1
 | 0,_,he=>⟨⟨he,rfl,rfl⟩,by intro x hx; cases hx⟩
 | n+1,h,he=>by
   obtain ⟨h1,h2⟩:=Ak (r.cR n).2 h
   obtain ⟨h3,h4⟩:=IT r n h1.err he
   refine ⟨?_,?_⟩
   ·have:=h3.trans h1
    show hZ r (r.cR n).2.sum.2 ((r.cR n).1++[(r.cR n).2.sum.1]).flatten
    rw [List.flatten_append]
    simpa using this
   ·intro x hx
    rcases List.mem_append.1 hx with hx | hx
    ·exact h4 x hx
    ·rw [List.mem_singleton.1 hx]; exact h2
theorem IU (r:Rd):∀ n,(r.cR n).2.err=0→r.err=0
 | 0,h=>h
 | n+1,h=>IU r n (Ak (r.cR n).2 h).1.err
theorem DE (r:Rd) (most:Nat) (h:(r.items most).2.err=0):hZ r (r.items most).2 (aD (r.items most).1.length++(r.items most).1.flatten)∧gS (r.items most).1:=by
 have h0:(r.cnt (r.bM most)).2.err=0:=IU _ _ h
 obtain ⟨h1,_⟩:=DD r (r.bM most) h0
 obtain ⟨h2,h3⟩:=IT _ _ h h0
 refine ⟨?_,h3⟩
 rw [show (r.items most).1.length=(r.cnt (r.bM most)).1 from Rd.wE _ _]
 exact h1.trans h2
theorem RJ (r:Rd) (lo hi:Bs) (p:AP) (h:(r.body lo hi).2.err=0) (hp:(r.body lo hi).1=some p) (hok:gL lo=true∧gL hi=true∧lU lo hi=true):hZ r (r.body lo hi).2 p.c.enc∧p.ok∧p.lo=lo∧p.hi=hi:=by
 unfold Rd.body at h hp ⊢
 by_cases h1:r.uint.1=1
 ·rw [if_pos h1] at h hp ⊢
  dsimp only at h hp ⊢
  obtain ⟨a1,a2⟩:=Ak _ h
  obtain ⟨b1,b2⟩:=DD _ _ a1.err
  have c1:=sJ r b1.err
  rw [h1] at c1
  injection hp with hp
  subst hp
  exact ⟨(c1.trans b1).trans a1,⟨hok,b2,a2⟩,rfl,rfl⟩
 ·rw [if_neg h1] at h hp ⊢
  by_cases h2:r.uint.1=2
  ·rw [if_pos h2] at h hp ⊢
   dsimp only at h hp ⊢
   split at hp
   ·rename_i ho
    injection hp with hp
    obtain ⟨a1,a2⟩:=DE _ _ h
    have c1:=sJ r a1.err
    rw [h2] at c1
    subst hp
    exact ⟨c1.trans a1,⟨hok,Rd.rQ _ _,a2,ho⟩,rfl,rfl⟩
   ·cases hp
  ·rw [if_neg h2] at h hp ⊢
   by_cases h3:r.uint.1=3
   ·rw [if_pos h3] at h hp ⊢
    dsimp only at h hp ⊢
    split at hp
    ·rename_i ho
     rw [Bool.and_eq_true] at ho
     injection hp with hp
     obtain ⟨a1,a2⟩:=DE _ _ h
     obtain ⟨b1,b2⟩:=DE _ _ a1.err
     have c1:=sJ r b1.err
     rw [h3] at c1
     subst hp
     exact ⟨(c1.trans b1).trans a1,⟨hok,⟨Rd.rQ _ _,b2,ho.1⟩,Rd.rQ _ _,a2,ho.2⟩,rfl,rfl⟩
    ·cases hp
   ·rw [if_neg h3] at hp
    cases hp
theorem RK (r:Rd) (p:AP) (h:r.part.2.err=0) (hp:r.part.1=some p):hZ r r.part.2 p.enc∧p.ok:=by
 unfold Rd.part at h hp ⊢
 split at hp
 ·rename_i hok
  rw [if_pos hok] at h ⊢
  rw [Bool.and_eq_true,Bool.and_eq_true] at hok
  obtain ⟨a1,a2,a3,a4⟩:=RJ _ _ _ p h hp ⟨hok.1.1,hok.1.2,hok.2⟩
  obtain ⟨b1,_⟩:=IS _ _ a1.err
  obtain ⟨c1,_⟩:=IS _ _ b1.err
  refine ⟨?_,a2⟩
  have:=(c1.trans b1).trans a1
  unfold AP.enc
  rw [a3,a4]
  exact this
 ·cases hp
theorem IV (r:Rd) (he:r.err=0):∀ (k:Nat) (ps:List AP) (r1:Rd),r.parts k=(some ps,r1)→r1.err=0→hZ r r1 (ps.flatMap AP.enc)∧(∀ p∈ps,p.ok)∧uX ps
 | 0,ps,r1,h,_=>by
   rw [Rd.parts] at h
   injection h with h1 h2
   injection h1 with h1
   subst h1 h2
   exact ⟨⟨he,rfl,rfl⟩,(fun p hp=>by cases hp),(fun k p hp=>by simp at hp)⟩
 | k+1,ps,r1,h,h0=>by
   rw [Rd.parts] at h
   generalize hz:r.parts k=z at h
   obtain ⟨o,r2⟩:=z
   cases o with
   | none=>dsimp only at h; cases h
   | some qs =>
     dsimp only at h
     generalize hy:r2.part=y at h
     obtain ⟨q,r3⟩:=y
     cases q with
     | none=>dsimp only at h; cases h
     | some p =>
       dsimp only at h
       split at h
       ·rename_i hf
        injection h with h1 h2
        injection h1 with h1
        subst h1 h2
        have e1:r2.part.1=some p:=by rw [hy]
        have e2:r2.part.2=r3:=by rw [hy]
        obtain ⟨a1,a2⟩:=RK r2 p (by rw [e2]; exact h0) e1
        rw [e2] at a1
        obtain ⟨b1,b2,b3⟩:=IV r he k qs r2 hz a1.err
        refine ⟨?_,?_,RI b3 hf⟩
        ·rw [List.flatMap_append]
         simpa using b1.trans a1
        ·intro x hx
         rcases List.mem_append.1 hx with hx | hx
         ·exact b2 x hx
         ·rw [List.mem_singleton.1 hx]; exact a2
       ·cases h
theorem IW {D:Bs} {ps:List AP} (h:jN D=some ps):D=bS ps∧DC ps∧ps.length≤D.length:=by
 unfold jN at h
 split at h
 ·cases h
 ·rename_i hn
  generalize hz:((Rd.mk D 0 0 0).cnt D.length).2.parts ((Rd.mk D 0 0 0).cnt D.length).1=z at h
  obtain ⟨o,r2⟩:=z
  cases o with
  | none=>cases h
  | some qs =>
    dsimp only at h
    split at h
    ·rename_i he
     injection h with h
     subst h
     have e0:=Rd.Mw he
     have hl:=Rd.Fy hz
     have h1:((Rd.mk D 0 0 0).cnt D.length).2.err=0:=by
      by_cases h0:((Rd.mk D 0 0 0).cnt D.length).2.err=0
      ·exact h0
      ·exfalso
       apply hn
       unfold Rd.cnt Rd.count at h0 ⊢
       rw [if_pos rfl] at h0 ⊢
       cases hd:dI D 0 with
       | none=>rfl
       | some p =>
         rw [hd] at h0
         dsimp only at h0 ⊢
         split at h0
         ·rename_i h5; rw [if_pos h5]
         ·exact absurd rfl h0
     obtain ⟨c1,c2⟩:=DD _ _ h1
     obtain ⟨b1,b2,b3⟩:=IV _ h1 _ _ _ hz e0
     have hD:=(c1.trans b1).end_ he
     have hne:qs.length≠0:=by rw [hl]; exact hn
     refine ⟨?_,⟨fun e=>hne (by rw [e]; rfl),b2,b3⟩,by rw [hl]; exact c2⟩
     rw [bS,if_neg hne,hl]
     exact hD
    ·cases h
/-! ### Encodings are decoded -/
theorem IX {α : Type} {P : List α → Prop} (h0 : P []) (h1 : ∀ l a, P l → P (l ++ [a])) (l : List α) : P l := by
 have key : ∀ m : List α, P m.reverse := by
  intro m
  induction m with
  | nil => exact h0
  | cons a m ih => rw [List.reverse_cons]; exact h1 _ _ ih
 have := key l.reverse
 rwa [List.reverse_reverse] at this
theorem cI.text {r:Rd} {t rest:Bs} {most:Nat} (h:cI r ((aD t.length++t)++rest)) (ht:t.length≤most) (hm:cG t.length):(r.text most).1=t∧cI (r.text most).2 rest:=by
 have hb:=h.bytes
 rw [List.append_assoc] at hb
 have hd:=CY r.D r.off t.length (t++rest) hb hm
 have hl:=congrArg List.length hb
 rw [List.length_drop,List.length_append,List.length_append] at hl
 have e1:r.D.drop (r.off+(aD t.length).length)=t++rest:=by rw [← List.drop_drop,hb,List.drop_left]
 unfold Rd.text
 rw [if_pos h.err,hd]
 dsimp only
 rw [if_neg om,if_pos (by have:=CW t.length; omega)]
 refine ⟨?_,h.err,?_⟩
 ·dsimp only
  rw [e1,List.take_left]
 ·show r.D.drop (r.off+(aD t.length).length+t.length)=rest
  rw [← List.drop_drop,e1,List.drop_left]
theorem cI.cnt {r:Rd} {n most:Nat} {rest:Bs} (h:cI r (aD n++rest)) (hn:n≤most) (hu:cG n):(r.cnt most).1=n∧cI (r.cnt most).2 rest:=by
 have hd:=CY r.D r.off n rest h.bytes hu
 unfold Rd.cnt Rd.count
 rw [if_pos h.err,hd]
 dsimp only
 rw [if_neg om]
 refine ⟨rfl,h.err,?_⟩
 show r.D.drop (r.off+(aD n).length)=rest
 rw [← List.drop_drop,h.bytes,List.drop_left]
theorem cI.cR {r:Rd}:∀ (xs:List Bs) (rest:Bs),cI r (xs.flatten++rest)→gS xs→(r.cR xs.length).1=xs∧cI (r.cR xs.length).2 rest:=by
 refine IX ?_ ?_
 ·intro rest h _; exact ⟨rfl,h⟩
 ·intro xs x ih rest h ha
  obtain ⟨h1,h2⟩:=ih (x++rest) (by simpa using h) (fun y hy=>ha y (by simp [hy]))
  obtain ⟨h3,h4⟩:=h2.sum (ha x si)
  rw [List.length_append,List.length_singleton]
  exact ⟨by show (r.cR xs.length).1++[(r.cR xs.length).2.sum.1]=_; rw [h1,h3],h4⟩
theorem qY:∀ {xs:List Bs},gS xs→xs.flatten.length=32*xs.length
 | [],_=>rfl
 | x::xs,h=>by
   rw [List.flatten_cons,List.length_append,qY (fun y hy=>h y (by simp [hy])),h x si,List.length_cons]
   omega
theorem kX {n:Nat} (h:n≤4294967296):cG n:=by unfold cG; omega
theorem cI.items {r:Rd} {xs:List Bs} {most:Nat} {rest:Bs} (h:cI r ((aD xs.length++xs.flatten)++rest)) (ha:gS xs) (hl:xs.length≤most) (hm:most≤65536):(r.items most).1=xs∧cI (r.items most).2 rest:=by
 have hb:=congrArg List.length h.bytes
 rw [List.length_drop,List.length_append,List.length_append,qY ha] at hb
 have hq:xs.length≤r.bM most:=by
  unfold Rd.bM
  exact Nat.le_min.2 ⟨hl,(Nat.le_div_iff_mul_le om).2 om⟩
 obtain ⟨h1,h2⟩:=cI.cnt (n:=xs.length) (rest:=xs.flatten++rest) (by rw [← List.append_assoc]; exact h) hq (kX om)
 unfold Rd.items
 rw [h1]
 exact cI.cR xs rest h2 ha
theorem cI.part {r:Rd} {p:AP} {rest:Bs} (h:cI r (p.enc++rest)) (hp:p.ok):r.part.1=some p∧cI r.part.2 rest:=by
 obtain ⟨⟨h1,h2,h3⟩,h4⟩:=hp
 have hl1:=qX h1
 have hl2:=qX h2
 unfold AP.enc at h
 rw [List.append_assoc,List.append_assoc] at h
 obtain ⟨a1,a2⟩:=cI.text h hl1 (kX om)
 obtain ⟨b1,b2⟩:=cI.text a2 hl2 (kX om)
 unfold Rd.part
 rw [a1,b1,h1,h2,h3]
 simp only [Bool.and_self,if_true]
 obtain ⟨lo,hi,c⟩:=p
 dsimp only at b2 h4 ⊢
 unfold Rd.body
 cases c with
 | sum n f =>
   unfold AC.enc at b2
   rw [List.append_assoc,List.append_assoc] at b2
   obtain ⟨c1,c2⟩:=b2.uint (kX om)
   obtain ⟨d1,d2⟩:=c2.cnt h4.1 (kX (Nat.le_trans h4.1 om))
   obtain ⟨e1,e2⟩:=d2.sum h4.2
   rw [if_pos c1,d1,e1]
   exact ⟨rfl,e2⟩
 | list xs =>
   unfold AC.enc at b2
   rw [List.append_assoc] at b2
   obtain ⟨c1,c2⟩:=b2.uint (kX om)
   obtain ⟨d1,d2⟩:=c2.items h4.2.1 h4.1 om
   rw [if_neg om,if_pos c1,d1,if_pos h4.2.2]
   exact ⟨rfl,d2⟩
 | ans xs ms =>
   unfold AC.enc at b2
   rw [List.append_assoc,List.append_assoc] at b2
   obtain ⟨c1,c2⟩:=b2.uint (kX om)
   obtain ⟨d1,d2⟩:=c2.items h4.1.2.1 h4.1.1 om
   obtain ⟨e1,e2⟩:=d2.items h4.2.2.1 h4.2.1 om
   rw [if_neg om,if_neg om,if_pos c1,d1,e1,if_pos (by rw [h4.1.2.2,h4.2.2.2]; rfl)]
   exact ⟨rfl,e2⟩
theorem cI.parts {r:Rd}:∀ (ps:List AP) (rest:Bs),cI r (ps.flatMap AP.enc++rest)→(∀ p∈ps,p.ok)→uX ps→∃ r1,r.parts ps.length=(some ps,r1)∧cI r1 rest:=by
 refine IX ?_ ?_
 ·intro rest h _ _; exact ⟨r,rfl,by simpa using h⟩
 ·intro ps p ih rest h ha hc
  obtain ⟨r1,h1,h2⟩:=ih (p.enc++rest) (by simpa using h) (fun y hy=>ha y (by simp [hy])) (fun k q hq=>by
   have hk:=(List.getElem?_eq_some_iff.1 hq).1
   have:=hc k q (by rw [List.getElem?_append_left hk]; exact hq)
   rwa [List.take_append_of_le_length om] at this)
  obtain ⟨h3,h4⟩:=cI.part h2 (ha p si)
  have hf:=hc ps.length p si
  rw [List.take_left] at hf
  rw [List.length_append,List.length_singleton]
  exact ⟨r1.part.2,Rd.Fx h1 (Prod.ext h3 rfl) hf,h4⟩
theorem IY {ps:List AP} (h:DC ps) (hl:(bS ps).length≤4294967296):jN (bS ps)=some ps:=by
 obtain ⟨h1,h2,h3⟩:=h
 have hne:ps.length≠0:=fun e=>h1 (List.eq_nil_of_length_eq_zero e)
 have hD:bS ps=aD ps.length++ps.flatMap AP.enc:=by rw [bS,if_neg hne]
 have hpl:=Dn ps
 have hle:ps.length≤(bS ps).length:=by rw [hD,List.length_append]; omega
 have h0:cI (Rd.mk (bS ps) 0 0 0) (aD ps.length++ps.flatMap AP.enc):=⟨rfl,by show (bS ps).drop 0=_; rw [List.drop_zero,hD]⟩
 obtain ⟨a1,a2⟩:=h0.cnt hle (kX om)
 obtain ⟨r1,b1,b2⟩:=cI.parts ps [] (by simpa using a2) h2 h3
 unfold jN
 rw [a1,if_neg hne,b1]
 dsimp only
 rw [if_pos b2.end_]
abbrev pV := List UInt8
theorem RL {a b c:pV} (h1:a≤b) (h2:b≤c):a≤c:=List.le_trans h1 h2
theorem RM (a b:pV):a≤b∨b≤a:=List.le_total a b
theorem IZ {a b:pV} (h1:a≤b) (h2:b≤a):a=b:=List.le_antisymm h1 h2
theorem RN {a b:pV}:¬ a < b↔b≤a:=Iff.rfl
theorem RO {a b:pV} (h:a < b):a≤b:=List.le_of_lt h
theorem qZ (l:List pV):(gR l).Pairwise (·≤·):=by
 have:=List.pairwise_mergeSort (le:=fun x y:pV=>decide (x≤y)) (fun a b c h1 h2=>by simp only [decide_eq_true_eq] at *; exact RL h1 h2) (fun a b=>by simp only [Bool.or_eq_true,decide_eq_true_eq]; exact RM a b) l
 simpa [gR] using this
theorem nR (l:List pV):(gR l).Perm l:=List.mergeSort_perm _ _
theorem AG {l r:List pV} (h:l.Perm r) (h1:l.Pairwise (·≤·)) (h2:r.Pairwise (·≤·)):l=r:=List.Perm.eq_of_pairwise (fun _ _ _ _=>IZ) h1 h2 h
/-! ### Levels -/
def lz (v : Nat) : Nat := min (16 - Lib.bitLen v) 11
theorem RP (v:Nat):lz v≤11:=Nat.min_le_right _ _
def pW (x : Bs) : Nat := ((dM x).getD 0 0).toNat * 256 + ((dM x).getD 1 0).toNat
theorem RQ (x:Bs):pW x < 65536:=by
 have h1:=UInt8.toNat_lt ((dM x).getD 0 0)
 have h2:=UInt8.toNat_lt ((dM x).getD 1 0)
 unfold pW
 omega
def fH (x : Bs) : Nat := lz (pW x)
theorem DF (x:Bs):fH x < 12:=by have:=RP (pW x); unfold fH; omega
/-! ### Tables of items -/
def bI (t : BT) (l : List Bs) : BT := l.foldl (fun t x => t.change x 1) t
def dE (l : List Bs) (n : Nat) : BT := bI (BT.new n 0) l
theorem uY (t:BT) (l:List Bs) (x:Bs):bI t (l++[x])=(bI t l).change x 1:=by simp [bI]
theorem BT.change_seed (t:BT) (key:Bs) (n:Int):(t.change key n).seed=t.seed:=rfl
theorem uZ (t:BT):∀ l:List Bs,(bI t l).cells.length=t.cells.length:=by
 intro l
 induction l generalizing t with
 | nil=>rfl
 | cons x l ih=>show (bI (t.change x 1) l).cells.length=_; rw [ih,BT.change_len]
theorem AH (t:BT):∀ l:List Bs,(bI t l).seed=t.seed:=by
 intro l
 induction l generalizing t with
 | nil=>rfl
 | cons x l ih=>show (bI (t.change x 1) l).seed=_; rw [ih,BT.change_seed]
theorem AI {t:BT} (h:t.Ok):∀ {l:List Bs},(∀ x∈l,x.length=32)→(bI t l).Ok:=by
 intro l
 induction l generalizing t with
 | nil=>intro _; exact h
 | cons x l ih=>intro hl; exact ih (h.change (hl x (by simp)) 1) fun y hy=>hl y (by simp [hy])
theorem vA (n s:Nat):(BT.new n s).cells.length=n:=by simp [BT.new]
theorem kZ (l:List Bs) (n:Nat):(dE l n).cells.length=n:=by rw [dE,uZ,vA]
theorem xQ (l:List Bs) (n:Nat):(dE l n).seed=0:=by rw [dE,AH]; rfl
theorem vB {l:List Bs} (h:∀ x∈l,x.length=32) (n:Nat):(dE l n).Ok:=AI (BT.Ok.new n 0 (by unfold cG; decide)) h
/-! ### Strata -/
def jO (l : List Bs) (k : Nat) : BT := bI (BT.new 12 (k + 1)) (l.filter fun x => fH x == k)
def bQ (l : List Bs) : List BT := (List.range 12).map (jO l)
theorem RR (l:List Bs) (x:Bs) (k:Nat):jO (l++[x]) k=if fH x=k then (jO l k).change x 1 else jO l k:=by
 unfold jO
 rw [List.filter_append]
 by_cases h:fH x=k
 ·rw [if_pos h,List.filter_cons_of_pos (by simpa using h),List.filter_nil,uY]
 ·rw [if_neg h,List.filter_cons_of_neg (by simpa using h),List.filter_nil,List.append_nil]
theorem lA (l:List Bs):(bQ l).length=12:=by simp [bQ]
theorem vC {l:List Bs} {k:Nat} (h:k < 12):(bQ l)[k]?=some (jO l k):=by simp [bQ,h]
theorem RS (l:List Bs) (x:Bs):bQ (l++[x])=(bQ l).set (fH x) ((jO l (fH x)).change x 1):=by
 apply List.ext_getElem?
 intro i
 have hx:=DF x
 by_cases hi:i < 12
 ·rw [vC hi,RR,List.getElem?_set]
  by_cases h:fH x=i
  ·subst h
   simp [lA,hx]
  ·rw [if_neg h,if_neg h,vC hi]
 ·rw [List.getElem?_eq_none (by rw [lA]; omega),List.getElem?_eq_none (by rw [List.length_set,lA]; omega)]
theorem RT {l:List Bs} (h:∀ x∈l,x.length=32) {k:Nat} (hk:k < 12):(jO l k).Ok :=
 AI (BT.Ok.new 12 (k+1) (by unfold cG; omega)) fun x hx=>h x (List.mem_filter.1 hx).1
theorem RU (l:List Bs) (k:Nat):(jO l k).cells.length=12:=by rw [jO,uZ,vA]
theorem RV (l:List Bs) (k:Nat):(jO l k).seed=k+1:=by rw [jO,AH]; rfl
def mV (ts : List BT) : Prop := ∀ i t, ts[i]? = some t → t.Ok ∧ t.cells.length = 12 ∧ t.seed = i + 1
theorem nT {l:List Bs} (h:∀ x∈l,x.length=32):mV (bQ l):=fun i t ht=>by
 have hi:i < 12:=by have:=(List.getElem?_eq_some_iff.1 ht).1; rwa [lA] at this
 rw [vC hi] at ht
 injection ht with ht
 subst ht
 exact ⟨RT h hi,RU _ _,RV _ _⟩
/-! ### Sketches -/
def oT (t : BT) : Bs := aD t.enc.length ++ t.enc
def cZ (ts : List BT) : Bs := ts.flatMap oT
theorem DG {t:BT} (h:t.Ok) (hn:t.cells.length=12):t.enc.length≤644:=by
 unfold BT.enc gJ
 rw [List.take_of_length_le (Nat.le_refl _),List.length_append,List.length_append,hn]
 have h1:=eJ 12 om
 have h2:=eJ t.seed h.seed
 have h3:=Hn h.cells
 omega
theorem RW {t:BT} (h:t.Ok) (hn:t.cells.length=12):(oT t).length≤654:=by
 have h1:=DG h hn
 have h2:=eJ t.enc.length om
 unfold oT
 rw [List.length_append]
 omega
theorem RY (ts:List BT) (t:BT):cZ (ts++[t])=cZ ts++oT t:=by simp [cZ]
theorem rB:∀ {ts:List BT},(∀ t∈ts,t.Ok∧t.cells.length=12)→(cZ ts).length≤ts.length*654
 | [],_=>by simp [cZ]
 | t::ts,h=>by
   have h1:=RW (h t si).1 (h t si).2
   have h2:=rB (ts:=ts) fun t ht=>h t (by simp [ht])
   show (oT t++cZ ts).length≤_
   rw [List.length_append,List.length_cons]
   omega
theorem mV.all {ts:List BT} (h:mV ts):∀ t∈ts,t.Ok∧t.cells.length=12:=fun t ht=>by
 obtain ⟨i,hi⟩:=List.mem_iff_getElem?.1 ht
 exact ⟨(h i t hi).1,(h i t hi).2.1⟩
def Rd.rest (r : Rd) : Bs × Rd := r.text (r.D.length - r.off)
def iR (t : BT) (n s : Nat) : Bool := decide (t.cells.length = n) && decide (t.seed = s)
def gM (r : Rd) : Nat → Option (List BT) × Rd
 | 0 => (some [], r)
 | i + 1 => match gM r i with
   | (none, r1) => (none, r1)
   | (some ts, r1) => match fW r1.rest.1 with
     | some t => if iR t 12 (i + 1) then (some (ts ++ [t]), r1.rest.2) else (none, r1.rest.2)
     | none => (none, r1.rest.2)
theorem Ja {r r1:Rd} {i:Nat} {ts:List BT} {t:BT} (h:gM r i=(some ts,r1)) (hd:fW r1.rest.1=some t) (ht:iR t 12 (i+1)=true):gM r (i+1)=(some (ts++[t]),r1.rest.2):=by
 rw [gM,h]
 simp only [hd,ht,if_true]
theorem Jb {r r1:Rd} {i:Nat} {ts:List BT} (h:gM r i=(some ts,r1)) (hd:fW r1.rest.1=none∨∃ t,fW r1.rest.1=some t∧iR t 12 (i+1)=false):(gM r (i+1)).1=none:=by
 rw [gM,h]
 rcases hd with hd | ⟨t,hd,ht⟩
 ·simp only [hd]
 ·simp only [hd,ht]
  rfl
theorem Jc {r:Rd} {i:Nat} (h:(gM r i).1=none):∀ j,(gM r (i+j)).1=none
 | 0=>h
 | j+1=>by
   have ih:=Jc h j
   show (gM r (i+j+1)).1=none
   rw [gM]
   cases hh:gM r (i+j) with
   | mk a b=>rw [hh] at ih; simp only at ih; subst ih; rfl
def gN (D : Bs) : Option (List BT) := match gM (Rd.mk D 0 0 0) 12 with
 | (some ts, r) => if r.end_ = 0 then some ts else none
 | (none, _) => none
theorem Jd {r:Rd}:∀ {i:Nat} {ts:List BT} {r1:Rd},gM r i=(some ts,r1)→ts.length=i∧mV ts
 | 0,ts,r1,h=>by
   rw [gM] at h
   simp only [Prod.mk.injEq,Option.some.injEq] at h
   rw [← h.1]
   exact ⟨rfl,fun i t ht=>by simp at ht⟩
 | i+1,ts,r1,h=>by
   rw [gM] at h
   cases hh:gM r i with
   | mk a b =>
     rw [hh] at h
     cases a with
     | none=>simp at h
     | some us =>
       obtain ⟨h1,h2⟩:=Jd hh
       simp only at h
       cases hd:fW b.rest.1 with
       | none=>rw [hd] at h; simp at h
       | some t =>
         rw [hd] at h
         simp only at h
         split at h
         ·rename_i ht
          simp only [Prod.mk.injEq,Option.some.injEq] at h
          rw [← h.1]
          refine ⟨by simp [h1],fun j u hu=>?_⟩
          rcases Nat.lt_or_ge j us.length with hj | hj
          ·rw [List.getElem?_append_left hj] at hu
           exact h2 j u hu
          ·rw [List.getElem?_append_right hj] at hu
           have hj0:j - us.length=0:=by
            have:=(List.getElem?_eq_some_iff.1 hu).1
            simp at this
            omega
           rw [hj0] at hu
           simp at hu
           subst hu
           unfold iR at ht
           simp only [Bool.and_eq_true,decide_eq_true_eq] at ht
           refine ⟨?_,ht.1,by rw [ht.2,← h1]; omega⟩
           unfold fW at hd
           split at hd
           ·injection hd with hd
            subst hd
            exact Ia _
           ·cases hd
         ·simp at h
theorem AJ {D:Bs} {ts:List BT} (h:gN D=some ts):ts.length=12∧mV ts:=by
 unfold gN at h
 cases hh:gM (Rd.mk D 0 0 0) 12 with
 | mk a b =>
   rw [hh] at h
   cases a with
   | none=>simp at h
   | some us =>
     simp only at h
     split at h
     ·injection h with h
      subst h
      exact Jd hh
     ·cases h
/-! ### Estimates -/
theorem Je : ∀ (n : Nat) {s s' : fG}, eL n s = some s' → s'.added.length ≤ s.added.length + n ∧ s'.removed.length ≤ s.removed.length + n
 | 0, s, s', e => by cases e; exact ⟨Nat.le_refl _, Nat.le_refl _⟩
 | n + 1, s, s', e => by
   unfold eL at e
   cases hf : s.t.first with
   | none => rw [hf] at e; cases e; exact ⟨by omega, by omega⟩
   | some i =>
     rw [hf] at e
     simp only at e
     split at e
     ·cases e
     ·have := Je n e
      unfold fG.take at this
      simp only at this
      constructor
      ·have h := this.1; split at h <;> (try simp only [List.length_append, List.length_cons, List.length_nil] at h) <;> omega
      ·have h := this.2; split at h <;> (try simp only [List.length_append, List.length_cons, List.length_nil] at h) <;> omega
theorem RZ {t:BT} {p:List Bs × List Bs} (hk:t.raw=some p):p.1.length≤t.cells.length∧p.2.length≤t.cells.length:=by
 unfold BT.raw at hk
 cases hp:eL t.cells.length ⟨t,[],[],[]⟩ with
 | none=>rw [hp] at hk; simp at hk
 | some s =>
   rw [hp] at hk
   have hl:=Je _ hp
   cases he:s.t.empty with
   | false=>simp [he] at hk
   | true =>
     simp only [he,if_true,Option.some.injEq] at hk
     rw [← hk]
     simpa using hl
theorem AK {t:BT} {l m:List Bs} (h:t.keys=some (l,m)):∃ p,t.raw=some p∧l=gR p.1∧m=gR p.2:=by
 unfold BT.keys at h
 cases hr:t.raw with
 | none=>rw [hr] at h; simp at h
 | some p =>
   rw [hr] at h
   simp only [Option.map_some,Option.some.injEq,Prod.mk.injEq] at h
   exact ⟨p,rfl,h.1.symm,h.2.symm⟩
theorem Sa {t:BT} (h:t.keys=none):t.raw=none:=by
 unfold BT.keys at h
 cases hr:t.raw with
 | none=>rfl
 | some p=>rw [hr] at h; simp at h
theorem vD (l:List Bs):(gR l).length=l.length:=(nR l).length_eq
theorem AL {t:BT} {l m:List Bs} (h:t.keys=some (l,m)):l.length≤t.cells.length∧m.length≤t.cells.length:=by
 obtain ⟨p,hp,rfl,rfl⟩:=AK h
 have:=RZ hp
 rw [vD,vD]
 exact this
def nU (a b : List BT) : Nat → Nat → Nat
 | 0, s => s
 | i + 1, s => match ((a.getD i (BT.new 0 0)).sub (b.getD i (BT.new 0 0))).raw with
   | none => (s + 1) * 2 ^ (i + 1)
   | some p => nU a b i (s + p.1.length + p.2.length)
def gX (a b : List BT) : Nat := nU a b 12 0
theorem Sb {a b:List BT} {i s:Nat} {t u:BT} (ha:a[i]?=some t) (hb:b[i]?=some u) (h:(t.sub u).keys=none):nU a b (i+1) s=(s+1)*2 ^ (i+1):=by
 rw [nU,List.getD_eq_getElem?_getD,List.getD_eq_getElem?_getD,ha,hb]
 simp only [Option.getD_some]
 rw [Sa h]
theorem Sc {a b:List BT} {i s:Nat} {t u:BT} {l m:List Bs} (ha:a[i]?=some t) (hb:b[i]?=some u) (h:(t.sub u).keys=some (l,m)):nU a b (i+1) s=nU a b i (s+l.length+m.length):=by
 obtain ⟨p,hp,rfl,rfl⟩:=AK h
 rw [nU,List.getD_eq_getElem?_getD,List.getD_eq_getElem?_getD,ha,hb]
 simp only [Option.getD_some]
 rw [hp,vD,vD]
/-! ### What a table tells -/
/-- The items that only this side has, those that only the other side has: out of its table and its fingerprint. -/
def lV (its offs needs : List Bs) : List Bs := gR ((its.filter fun x => !offs.contains x) ++ needs)
def kG (its needs offs : List Bs) : Bool := (!needs.any fun x => its.contains x) && !offs.any fun x => !its.contains x
def mW (its : List Bs) (t : BT) (print : Bs) : Option (List Bs × List Bs) := match ((dE its t.cells.length).sub t).keys with
 | none => none
 | some (offs, needs) => if kG its needs offs && decide (fC (lV its offs needs) = 0) && decide (cQ (lV its offs needs) = print) then some (offs, needs) else none
section
theorem Sd {w W w1 wf:World} {v:Value} {n br b2:Nat} {xs:List Value} (ho:w1.ownsRow W.drew.heap.size 5 1 v n xs) (hf:Fr [br,b2] w1 wf) (hbr:br < W.drew.heap.size) (hb2:b2 < W.drew.heap.size) (hw:w.heap.size≤W.drew.heap.size):wf.ownsRow w.heap.size 5 1 v n xs:=by
 refine tT (dZ ho hf ?_) hw
 intro g hg hm
 have:=(ho.lt g hg).1
 simp only [List.mem_cons,List.not_mem_nil,or_false] at hm
 omega
theorem Se {w0 w:World} {br:Nat} {cs:List Ch} {t:TypeId} {l:List Value} {A:Option Addr} {m c i:Nat} {xs:List Value} (hM:Mm w0 [br] cs w) (h0:cs[0]?=some (aB br t l)) (hi:cs[i]?=some (dA 5 1 A m c xs)) (hne:i≠0):w.ownsRow w0.heap.size 5 1 (.slice A m c) m xs:=by
 have ho:w.ownsRow 0 5 1 (.slice A m c) m xs:=hM.at hi
 obtain ⟨hl,h⟩:=ho
 refine ⟨hl,?_⟩
 rcases h with h | ⟨g,cap,cur,hv,hge,h1⟩
 ·exact .inl h
 ·refine .inr ⟨g,cap,cur,hv,?_,h1⟩
  simp only [Value.slice.injEq] at hv
  have hb:g∈(dA 5 1 A m c xs).fp:=by rw [show A=some ⟨g,0,none⟩ from hv.1]; simp [dA,dD]
  rcases hM.own g (List.mem_flatMap.2 ⟨_,List.mem_of_getElem? hi,hb⟩) with h2 | h2
  ·exfalso
   have e:g=br:=by simpa using h2
   exact zP hM.nodup h0 hi (fun e=>hne e.symm) br (by simp [aB]) (e▸hb)
  ·exact h2
theorem Sf {w:World} {base:Nat} {e:TypeId}:w.ownsRow base e 1 nS 0 []:=⟨rfl,.inl ⟨rfl,rfl⟩⟩
theorem Mm.XW {w0 w':World} {F:List Nat} {cs:List Ch} {k:Nat} {e:TypeId} {A:Option Addr} {n c:Nat} {xs:List Value} (h:Mm w0 F cs w') (hlt:∀ b∈cs.flatMap Ch.fp,b < k) (hk:w0.heap.size≤k) (ho:w'.ownsRow k e 1 (.slice A n c) n xs):Mm w0 F (cs++[dA e 1 A n c xs]) w':=by
 have hg:∀ b∈(dA e 1 A n c xs).fp,k≤b:=by
  intro b hb
  rcases ho.2 with ⟨hv,_⟩ | ⟨g,cap,cur,hv,h1,_⟩
  ·simp only [Value.slice.injEq] at hv
   obtain ⟨rfl,_,_⟩:=hv
   simp [dA,dD] at hb
  ·simp only [Value.slice.injEq] at hv
   obtain ⟨rfl,_,_⟩:=hv
   simp [dA,dD] at hb
   omega
 refine ⟨h.fr,?_,?_,?_⟩
 ·intro x hx
  rcases List.mem_append.1 hx with hx | hx
  ·exact h.hold x hx
  ·rw [List.mem_singleton] at hx
   subst hx
   exact tT ho (Nat.zero_le _)
 ·rw [List.flatMap_append,List.nodup_append]
  refine ⟨h.nodup,by simpa [dA] using sD A,fun a ha b hb e=>?_⟩
  subst e
  have h1:=hlt a ha
  have h2:=hg a (by simpa using hb)
  omega
 ·intro b hb
  rw [List.flatMap_append] at hb
  rcases List.mem_append.1 hb with hb | hb
  ·exact h.own b hb
  ·exact .inr (by have:=hg b (by simpa using hb); omega)
section
variable {X : Option Addr × Nat}
theorem Sg (bx by_ br:Nat) (D:List UInt8) (off last most:Nat) (w:World) (hx0:At w bx 148 [vP br 0]) (hy0:At w by_ 3 [vi (most:Int)]) (hr:aY X w br D off last 0) (hl:D.length≤4294967296) (ho:off≤D.length) (hm:most≤4294967296) (n m:Nat) (hd:dI D off=some (n,m)) (hn:n≤most) (hf:m+n≤D.length) :
  Calls Tryz.prog 146 #[vP bx 0,vP by_ 0] w fun e w'=>∃ A c,e = .returned (.tuple #[.slice A ((D.drop m).take n).length c,vi 0])∧Fr [br] w w'∧aY X w' br D (m+n) last 0∧w'.ownsRow w.heap.size 5 1 (.slice A ((D.drop m).take n).length c) ((D.drop m).take n).length (B8 ((D.drop m).take n)):=by
 obtain ⟨A,c,hX,ha,hown⟩:=hr
 have hx:w.cell? ⟨bx,0,none⟩=some (Value.pointer (some ⟨br,0,none⟩)):=by rw [hx0.cell]; rfl
 have hxb:bx≠br:=hx0.ne ha (by decide)
 have hy:w.cell? ⟨by_,0,none⟩=some (Value.int .i64 (most:Int)):=by rw [hy0.cell]; rfl
 have hyb:by_≠br:=hy0.ne ha (by decide)
 have HA:=Lib.hid ha
 have HO:=Lib.hid hown
 have HR:Hid (aF w A (B8 D)):=aF.aR hown
 have hc:D.length≤c:=lQ hown
 have HNB:Hid (∀ g,(Value.slice A D.length c).ownBlock=some g→g∉[br]):=fun g hg=>by
  have h1:=jJ hown ha (by decide)
  simp only [List.mem_singleton]
  rintro rfl
  exact h1 hg.symm
 have HNE:Hid (∀ b o,A=some ⟨b,o,none⟩→b∉[br]):=fun b o hA=>HNB.out b (by rw [hA]; rfl)
 clear ha hown hx0 hy0
 have rp:Ro [br] w (fun w=>aF w (if c=m then A else A.map (·.add (m*1))) (B8 ((D.drop m).take n))):=fun w' hf=>CU (HR.out.fr hf HNE.out) (by rw [dW]; exact hc)
 refine bG Tryz.func146 15 (Mm.one HA.out) rfl<|Nc<|lx rfl<|Nb<|lW (rW (fun w hM=>hM.eZ hx (by simpa using hxb)))<|lW (rW (fun w hM=>hM.eZ hy (by simpa using hyb)))<|Nx<|eN 147 #[(vP br 0),(vI most)] rfl kr (fun _=>kr) (fun w hM=>(IK br D off last most w A c (hM.at (i:=0) rfl) (dZ HO.out hM.fr HNB.out) hl ho hm n m hd hn hf).mono ?_)
 rintro e w' ⟨rfl,hf2,ha2⟩
 have hM':=hM.swap 0 (c':=aB br 179 [(vL A D c),(vI (m+n)),(vI last),(vi 0)]) rfl hf2 ha2 (fun b hb=>.inl hb) (by simp [aB])
 exact ⟨_,_,rfl,hM',lx rfl<|Nb<|lx rfl<|Nx<|uI (fun w hM=>hM.jD 5 1)<|fJ jE 1 (B8 ((D.drop m).take n)) rfl rfl kr rfl rfl rfl (by rw [dW,List.length_take,List.length_drop,Nat.min_eq_left om,Nat.mul_one]) (fun w hM=>eQ.mC (rp.now hM)) ((jU _)) (by have:=List.length_take_le n (D.drop m); omega) (((D.drop m).take n).length) fN (B8 ((D.drop m).take n)) (by simp [B8]) (fun A13 c13=>lx rfl<|Nd<|sN [(vL A13 ((D.drop m).take n) c13),(vi 0)] fun w hM=>⟨A13,c13,rfl,hM.fr,⟨A,c,hX,hM.at (i:=0) rfl,dZ HO.out hM.fr HNB.out⟩,Se hM (i:=1) rfl rfl (by decide)⟩)⟩
theorem Sh (bx by_ br:Nat) (D:List UInt8) (off last most:Nat) (w:World) (hx0:At w bx 148 [vP br 0]) (hy0:At w by_ 3 [vi (most:Int)]) (hr:aY X w br D off last 0) (hl:D.length≤4294967296) (ho:off≤D.length) (hm:most≤4294967296) (n m:Nat) (hd:dI D off=some (n,m)) (hn:n≤most) (hf:D.length < m+n) :
  Calls Tryz.prog 146 #[vP bx 0,vP by_ 0] w fun e w'=>∃ A n c,e = .returned (.tuple #[.slice A n c,vi 3])∧Fr [br] w w'∧∃ off':Nat,aY X w' br D off' last 0:=by
 obtain ⟨A,c,hX,ha,hown⟩:=hr
 have hx:w.cell? ⟨bx,0,none⟩=some (Value.pointer (some ⟨br,0,none⟩)):=by rw [hx0.cell]; rfl
 have hxb:bx≠br:=hx0.ne ha (by decide)
 have hy:w.cell? ⟨by_,0,none⟩=some (Value.int .i64 (most:Int)):=by rw [hy0.cell]; rfl
 have hyb:by_≠br:=hy0.ne ha (by decide)
 have HA:=Lib.hid ha
 have HO:=Lib.hid hown
 have HR:Hid (aF w A (B8 D)):=aF.aR hown
 have hc:D.length≤c:=lQ hown
 have HNB:Hid (∀ g,(Value.slice A D.length c).ownBlock=some g→g∉[br]):=fun g hg=>by
  have h1:=jJ hown ha (by decide)
  simp only [List.mem_singleton]
  rintro rfl
  exact h1 hg.symm
 have HNE:Hid (∀ b o,A=some ⟨b,o,none⟩→b∉[br]):=fun b o hA=>HNB.out b (by rw [hA]; rfl)
 clear ha hown hx0 hy0
 refine bG Tryz.func146 15 (Mm.one HA.out) rfl<|Nc<|lx rfl<|Nb<|lW (rW (fun w hM=>hM.eZ hx (by simpa using hxb)))<|lW (rW (fun w hM=>hM.eZ hy (by simpa using hyb)))<|Nx<|eN 147 #[(vP br 0),(vI most)] rfl kr (fun _=>kr) (fun w hM=>(IL br D off last most w A c (hM.at (i:=0) rfl) (dZ HO.out hM.fr HNB.out) hl ho hm n m hd hn hf).mono ?_)
 rintro e w' ⟨rfl,hf2,off',ha2⟩
 have hM':=hM.swap 0 (c':=aB br 179 [(vL A D c),(vI off'),(vI last),(vi 0)]) rfl hf2 ha2 (fun b hb=>.inl hb) (by simp [aB])
 exact ⟨_,_,rfl,hM',lx rfl<|Nb<|lx rfl<|Nx<|uI (fun w hM=>hM.jD 5 1)<|fJ jE 1 (B8 ([]:List UInt8)) rfl rfl kr rfl rfl rfl (rfl) (Cl) ((jU _)) si (([]:List UInt8).length) fN (B8 ([]:List UInt8)) (by simp [B8]) (fun A13 c13=>lx rfl<|Nd<|sN [(vL A13 ([]:List UInt8) c13),(vi 3)] fun w hM=>⟨_,_,_,rfl,hM.fr,_,A,c,hX,hM.at (i:=0) rfl,dZ HO.out hM.fr HNB.out⟩)⟩
theorem Si (bx by_ br:Nat) (D:List UInt8) (off last most:Nat) (w:World) (hx0:At w bx 148 [vP br 0]) (hy0:At w by_ 3 [vi (most:Int)]) (hr:aY X w br D off last 0) (hl:D.length≤4294967296) (ho:off≤D.length) (hm:most≤4294967296) (n m:Nat) (hd:dI D off=some (n,m)) (hn:most < n) :
  Calls Tryz.prog 146 #[vP bx 0,vP by_ 0] w fun e w'=>∃ A n c,e = .returned (.tuple #[.slice A n c,vi 2])∧Fr [br] w w'∧∃ off':Nat,aY X w' br D off' last 0:=by
 obtain ⟨A,c,hX,ha,hown⟩:=hr
 have hx:w.cell? ⟨bx,0,none⟩=some (Value.pointer (some ⟨br,0,none⟩)):=by rw [hx0.cell]; rfl
 have hxb:bx≠br:=hx0.ne ha (by decide)
 have hy:w.cell? ⟨by_,0,none⟩=some (Value.int .i64 (most:Int)):=by rw [hy0.cell]; rfl
 have hyb:by_≠br:=hy0.ne ha (by decide)
 have HA:=Lib.hid ha
 have HO:=Lib.hid hown
 have HR:Hid (aF w A (B8 D)):=aF.aR hown
 have hc:D.length≤c:=lQ hown
 have HNB:Hid (∀ g,(Value.slice A D.length c).ownBlock=some g→g∉[br]):=fun g hg=>by
  have h1:=jJ hown ha (by decide)
  simp only [List.mem_singleton]
  rintro rfl
  exact h1 hg.symm
 have HNE:Hid (∀ b o,A=some ⟨b,o,none⟩→b∉[br]):=fun b o hA=>HNB.out b (by rw [hA]; rfl)
 clear ha hown hx0 hy0
 refine bG Tryz.func146 15 (Mm.one HA.out) rfl<|Nc<|lx rfl<|Nb<|lW (rW (fun w hM=>hM.eZ hx (by simpa using hxb)))<|lW (rW (fun w hM=>hM.eZ hy (by simpa using hyb)))<|Nx<|eN 147 #[(vP br 0),(vI most)] rfl kr (fun _=>kr) (fun w hM=>(IM br D off last most w A c (hM.at (i:=0) rfl) (dZ HO.out hM.fr HNB.out) hl ho hm n m hd hn).mono ?_)
 rintro e w' ⟨rfl,hf2,off',ha2⟩
 have hM':=hM.swap 0 (c':=aB br 179 [(vL A D c),(vI off'),(vI last),(vi 0)]) rfl hf2 ha2 (fun b hb=>.inl hb) (by simp [aB])
 exact ⟨_,_,rfl,hM',lx rfl<|Nb<|lx rfl<|Nx<|uI (fun w hM=>hM.jD 5 1)<|fJ jE 1 (B8 ([]:List UInt8)) rfl rfl kr rfl rfl rfl (rfl) (Cl) ((jU _)) si (([]:List UInt8).length) fN (B8 ([]:List UInt8)) (by simp [B8]) (fun A13 c13=>lx rfl<|Nd<|sN [(vL A13 ([]:List UInt8) c13),(vi 2)] fun w hM=>⟨_,_,_,rfl,hM.fr,_,A,c,hX,hM.at (i:=0) rfl,dZ HO.out hM.fr HNB.out⟩)⟩
theorem Sj (bx by_ br:Nat) (D:List UInt8) (off last most:Nat) (w:World) (hx0:At w bx 148 [vP br 0]) (hy0:At w by_ 3 [vi (most:Int)]) (hr:aY X w br D off last 0) (hl:D.length≤4294967296) (ho:off≤D.length) (hm:most≤4294967296) (hd:dI D off=none) :
  Calls Tryz.prog 146 #[vP bx 0,vP by_ 0] w fun e w'=>∃ A n c,e = .returned (.tuple #[.slice A n c,vi 3])∧Fr [br] w w'∧∃ off':Nat,aY X w' br D off' last 0:=by
 obtain ⟨A,c,hX,ha,hown⟩:=hr
 have hx:w.cell? ⟨bx,0,none⟩=some (Value.pointer (some ⟨br,0,none⟩)):=by rw [hx0.cell]; rfl
 have hxb:bx≠br:=hx0.ne ha (by decide)
 have hy:w.cell? ⟨by_,0,none⟩=some (Value.int .i64 (most:Int)):=by rw [hy0.cell]; rfl
 have hyb:by_≠br:=hy0.ne ha (by decide)
 have HA:=Lib.hid ha
 have HO:=Lib.hid hown
 have HR:Hid (aF w A (B8 D)):=aF.aR hown
 have hc:D.length≤c:=lQ hown
 have HNB:Hid (∀ g,(Value.slice A D.length c).ownBlock=some g→g∉[br]):=fun g hg=>by
  have h1:=jJ hown ha (by decide)
  simp only [List.mem_singleton]
  rintro rfl
  exact h1 hg.symm
 have HNE:Hid (∀ b o,A=some ⟨b,o,none⟩→b∉[br]):=fun b o hA=>HNB.out b (by rw [hA]; rfl)
 clear ha hown hx0 hy0
 refine bG Tryz.func146 15 (Mm.one HA.out) rfl<|Nc<|lx rfl<|Nb<|lW (rW (fun w hM=>hM.eZ hx (by simpa using hxb)))<|lW (rW (fun w hM=>hM.eZ hy (by simpa using hyb)))<|Nx<|eN 147 #[(vP br 0),(vI most)] rfl kr (fun _=>kr) (fun w hM=>(IN br D off last most w A c (hM.at (i:=0) rfl) (dZ HO.out hM.fr HNB.out) hl ho hm hd).mono ?_)
 rintro e w' ⟨rfl,hf2,off',ha2⟩
 have hM':=hM.swap 0 (c':=aB br 179 [(vL A D c),(vI off'),(vI last),(vi 0)]) rfl hf2 ha2 (fun b hb=>.inl hb) (by simp [aB])
 exact ⟨_,_,rfl,hM',lx rfl<|Nb<|lx rfl<|Nx<|uI (fun w hM=>hM.jD 5 1)<|fJ jE 1 (B8 ([]:List UInt8)) rfl rfl kr rfl rfl rfl (rfl) (Cl) ((jU _)) si (([]:List UInt8).length) fN (B8 ([]:List UInt8)) (by simp [B8]) (fun A13 c13=>lx rfl<|Nd<|sN [(vL A13 ([]:List UInt8) c13),(vi 3)] fun w hM=>⟨_,_,_,rfl,hM.fr,_,A,c,hX,hM.at (i:=0) rfl,dZ HO.out hM.fr HNB.out⟩)⟩
theorem Sk (b0 b1 b2 br:Nat) (A:Option Addr) (n c:Nat) (off last start:Int) (w:World) (h0:At w b0 3 [vi start]) (h1:At w b1 148 [vP br 0]) (hr:At w br 179 [.slice A n c,vi off,vi last,vi 0]) :
  CallsD Tryz.prog 158 #[vP b0 0,vP b1 0,vP b2 0] .returning w fun e u' w'=>u' = .returning∧e = .returned (.tuple #[])∧w'=w.setCell ⟨br,2,none⟩ (vi start):=by
 have c0:w.cell? ⟨b0,0,none⟩=some (Value.int .i64 start):=by rw [h0.cell]; rfl
 have c1:w.cell? ⟨b1,0,none⟩=some (Value.pointer (some ⟨br,0,none⟩)):=by rw [h1.cell]; rfl
 have c2:w.cell? ⟨br,2,none⟩=some (Value.int .i64 last):=by rw [hr.cell]; rfl
 have c3:w.cell? ⟨br,3,none⟩=some (vi 0):=by rw [hr.cell]; rfl
 have z2:=hr.frozen 2
 have hne:b1≠br:=h1.ne hr (by decide)
 clear h0 h1 hr
 go_enter_d Tryz.func158,Tryz.ntmps158
 go_wp2_with fail
 go_end0
 exact ⟨rfl,rfl⟩
theorem Sl (b0 b1 b2 br:Nat) (A:Option Addr) (n c:Nat) (off last start err:Int) (v:Value) (w:World) (h0:At w b0 3 [vi start]) (h1:At w b1 148 [vP br 0]) (h2:At w b2 22 [v]) (hr:At w br 179 [.slice A n c,vi off,vi last,vi err]) (he:err≠0) (hb:b2≠b0∧b2≠br) :
  CallsD Tryz.prog 158 #[vP b0 0,vP b1 0,vP b2 0] .returning w fun e u' w'=>u' = .returning∧e = .returned (.tuple #[])∧w'=((w.setCell ⟨br,2,none⟩ (vi start)).setCell ⟨br,1,none⟩ (vi start)).setCell ⟨b2,0,none⟩ nS:=by
 have c0:w.cell? ⟨b0,0,none⟩=some (Value.int .i64 start):=by rw [h0.cell]; rfl
 have c1:w.cell? ⟨b1,0,none⟩=some (Value.pointer (some ⟨br,0,none⟩)):=by rw [h1.cell]; rfl
 have cr1:w.cell? ⟨br,1,none⟩=some (Value.int .i64 off):=by rw [hr.cell]; rfl
 have c2:w.cell? ⟨br,2,none⟩=some (Value.int .i64 last):=by rw [hr.cell]; rfl
 have c3:w.cell? ⟨br,3,none⟩=some (Value.int .i64 err):=by rw [hr.cell]; rfl
 have c4:w.cell? ⟨b2,0,none⟩=some v:=by rw [h2.cell]; rfl
 have z2:=hr.frozen 2
 have z1:=hr.frozen 1
 have z4:=h2.frozen 0
 have hne:b1≠br:=h1.ne hr (by decide)
 have hne2:b2≠br:=hb.2
 have hne0:b0≠br:=h0.ne hr (by decide)
 have heb:(err != 0)=true:=by simpa using he
 clear h0 h1 hr h2 he hb
 go_enter_d Tryz.func158,Tryz.ntmps158
 go_wp2_with fail
 go_end0
 exact ⟨rfl,rfl⟩
set_option maxHeartbeats 4000000 in
theorem Sm (br:Nat) (D:List UInt8) (off last m:Nat) (xs:List UInt8) (bx by_:Nat) (w:World) (hr:aY X w br D off last 0)
  (hdec:∀ W,Fr [] w W→aY X W br D off last 0→Calls Tryz.prog 146 #[vP bx 0,vP by_ 0] W fun e w'=>∃ A c,e = .returned (.tuple #[.slice A xs.length c,vi 0])∧Fr [br] W w'∧aY X w' br D m last 0∧w'.ownsRow W.heap.size 5 1 (.slice A xs.length c) xs.length (B8 xs)) :
  Calls Tryz.prog 145 #[vP br 0,.func (.func 146) #[] #[vP bx 0,vP by_ 0]] w fun e w'=>∃ A c,e = .returned (.slice A xs.length c)∧Fr [br] w w'∧aY X w' br D m off 0∧w'.ownsRow w.heap.size 5 1 (.slice A xs.length c) xs.length (B8 xs):=by
 obtain ⟨A,c,hX,ha,hrow⟩:=hr
 have c1:w.cell? ⟨br,1,none⟩=some (Value.int .i64 (off:Int)):=by rw [ha.cell]; rfl
 have c3:w.cell? ⟨br,3,none⟩=some (vi 0):=by rw [ha.cell]; rfl
 have hlt:=ha.lt
 have HR:=Lib.hid (And.intro ha hrow)
 have HD:=Lib.hid hdec
 clear ha hrow hdec
 have hmf:∀ (fn:Fn) (first cap:Array Value) (w:World),(Instr.makeFunc fn first cap).run Tryz.prog w = .ok (.func fn first cap) w:=fun _ _ _ _=>rfl
 go_enter_defers Tryz.func145,Tryz.ntmps145
 go_wp2_with fail
 obtain ⟨W,hW⟩:∃ W,W=((w.alloc (Obj.cells #[vP br 0] 148)).alloc (Obj.cells #[nS] 22)).alloc (Obj.cells #[vi (off:Int)] 3):=⟨_,rfl⟩
 rw [← hW]
 have HW:Hid (At W w.heap.size 148 [vP br 0]∧At W (w.heap.size+1) 22 [nS]∧At W (w.heap.size+1+1) 3 [vi (off:Int)]∧Fr [] w W∧aY X W br D off last 0):=by
  rw [hW]
  refine ⟨((At.new w 148 [vP br 0]).alloc _).alloc _,?_,?_,(((Fr.refl _ _).alloc _).alloc _).alloc _,A,c,hX,((HR.out.1.alloc _).alloc _).alloc _,((HR.out.2.alloc _).alloc _).alloc _⟩
  ·have:=(At.new (w.alloc (Obj.cells #[vP br 0] 148)) 22 [nS]).alloc (Obj.cells #[vi (off:Int)] 3)
   simpa using this
  ·have:=At.new ((w.alloc (Obj.cells #[vP br 0] 148)).alloc (Obj.cells #[nS] 22)) 3 [vi (off:Int)]
   simpa using this
 clear hW c1 c3
 have d0:W.cell? ⟨w.heap.size,0,none⟩=some (Value.pointer (some ⟨br,0,none⟩)):=by rw [HW.out.1.cell]; rfl
 have nb1:w.heap.size≠br:=om
 have nb2:br≠w.heap.size:=om
 go_region_held3 (fun w'=>w'.cell? ⟨w.heap.size,0,none⟩=some (Value.pointer (some ⟨br,0,none⟩))) (go_keep) (first | (go_at_call 146; refine (HD.out W.drew (by exact HW.out.2.2.2.1.drew) (by exact HW.out.2.2.2.2)).mono ?_; rintro e w1 ⟨AV,cV,rfl,hf1,hr1,ho1⟩; obtain ⟨e0,e1,z1,e3,z3⟩:=oM (W:=W) HW.out.1 HW.out.2.1 HW.out.2.2.2.2 hf1 hr1; have H1:=Lib.hid (And.intro hf1 hr1); have HO1:=Lib.hid ho1; clear hf1 hr1 ho1))
 go_wp2_with fail
 obtain ⟨k0,k1,k2,k3,kf⟩:=oN HW.out.1 HW.out.2.1 HW.out.2.2.1 HW.out.2.2.2.2 H1.out.1 H1.out.2 (.slice AV xs.length cV) (vi 0) om (by decide)
 refine leaves_cons (f:=158) (args:=#[Value.pointer (some ⟨w.heap.size+1+1,0,none⟩),Value.pointer (some ⟨w.heap.size,0,none⟩),Value.pointer (some ⟨w.heap.size+1,0,none⟩)]) si (by simp [go_sem]) ?_
 obtain ⟨A',c',hX',k3'⟩:=k3
 refine (Sk _ _ _ br A' _ c' _ _ _ _ k2 k0 k3'.1).mono ?_
 rintro e u' w'' ⟨rfl,rfl,rfl⟩
 have hsz:w.heap.size+1+1 < W.drew.heap.size:=(At.drew HW.out.2.2.1).lt
 obtain ⟨g1,g2,g3⟩:=xD (off:=off) HW.out.2.2.2.1 kf om k1 (by decide) k3'.1 k3'.2 hX'
 exact ⟨.slice AV xs.length cV,by simp [results,Tryz.results145,go_sem,g1],AV,cV,rfl,g2,g3,Sd HO1.out (b2:=w.heap.size+1) (br:=br) (((((Fr.refl _ _).setCell (.inl si) _).setCell (.inl si) _).setCell (.inl si) _).setCell (.inl si) _) om om om⟩
set_option maxHeartbeats 4000000 in
theorem DH (br:Nat) (D:List UInt8) (off last:Nat) (er:Int)  (bx by_:Nat) (w:World) (hr:aY X w br D off last 0) (he:er≠0)
  (hdec:∀ W,Fr [] w W→aY X W br D off last 0→Calls Tryz.prog 146 #[vP bx 0,vP by_ 0] W fun e w'=>∃ A n c,e = .returned (.tuple #[.slice A n c,vi er])∧Fr [br] W w'∧∃ off':Nat,aY X w' br D off' last 0) :
  Calls Tryz.prog 145 #[vP br 0,.func (.func 146) #[] #[vP bx 0,vP by_ 0]] w fun e w'=>e = .returned nS∧Fr [br] w w'∧aY X w' br D off off er:=by
 have HE:=Lib.hid he
 clear he
 obtain ⟨A,c,hX,ha,hrow⟩:=hr
 have c1:w.cell? ⟨br,1,none⟩=some (Value.int .i64 (off:Int)):=by rw [ha.cell]; rfl
 have c3:w.cell? ⟨br,3,none⟩=some (vi 0):=by rw [ha.cell]; rfl
 have hlt:=ha.lt
 have HR:=Lib.hid (And.intro ha hrow)
 have HD:=Lib.hid hdec
 clear ha hrow hdec
 have hmf:∀ (fn:Fn) (first cap:Array Value) (w:World),(Instr.makeFunc fn first cap).run Tryz.prog w = .ok (.func fn first cap) w:=fun _ _ _ _=>rfl
 go_enter_defers Tryz.func145,Tryz.ntmps145
 go_wp2_with fail
 obtain ⟨W,hW⟩:∃ W,W=((w.alloc (Obj.cells #[vP br 0] 148)).alloc (Obj.cells #[nS] 22)).alloc (Obj.cells #[vi (off:Int)] 3):=⟨_,rfl⟩
 rw [← hW]
 have HW:Hid (At W w.heap.size 148 [vP br 0]∧At W (w.heap.size+1) 22 [nS]∧At W (w.heap.size+1+1) 3 [vi (off:Int)]∧Fr [] w W∧aY X W br D off last 0):=by
  rw [hW]
  refine ⟨((At.new w 148 [vP br 0]).alloc _).alloc _,?_,?_,(((Fr.refl _ _).alloc _).alloc _).alloc _,A,c,hX,((HR.out.1.alloc _).alloc _).alloc _,((HR.out.2.alloc _).alloc _).alloc _⟩
  ·have:=(At.new (w.alloc (Obj.cells #[vP br 0] 148)) 22 [nS]).alloc (Obj.cells #[vi (off:Int)] 3)
   simpa using this
  ·have:=At.new ((w.alloc (Obj.cells #[vP br 0] 148)).alloc (Obj.cells #[nS] 22)) 3 [vi (off:Int)]
   simpa using this
 clear hW c1 c3
 have d0:W.cell? ⟨w.heap.size,0,none⟩=some (Value.pointer (some ⟨br,0,none⟩)):=by rw [HW.out.1.cell]; rfl
 have nb1:w.heap.size≠br:=om
 have nb2:br≠w.heap.size:=om
 go_region_held3 (fun w'=>w'.cell? ⟨w.heap.size,0,none⟩=some (Value.pointer (some ⟨br,0,none⟩))) (go_keep) (first | (go_at_call 146; refine (HD.out W.drew (by exact HW.out.2.2.2.1.drew) (by exact HW.out.2.2.2.2)).mono ?_; rintro e w1 ⟨AV,nV,cV,rfl,hf1,off',hr1⟩; obtain ⟨e0,e1,z1,e3,z3⟩:=oM (W:=W) HW.out.1 HW.out.2.1 HW.out.2.2.2.2 hf1 hr1; have H1:=Lib.hid (And.intro hf1 hr1); clear hf1 hr1))
 go_wp2_with fail
 obtain ⟨k0,k1,k2,k3,kf⟩:=oN HW.out.1 HW.out.2.1 HW.out.2.2.1 HW.out.2.2.2.2 H1.out.1 H1.out.2 (.slice AV nV cV) (Value.int .i64 er) om (by decide)
 refine leaves_cons (f:=158) (args:=#[Value.pointer (some ⟨w.heap.size+1+1,0,none⟩),Value.pointer (some ⟨w.heap.size,0,none⟩),Value.pointer (some ⟨w.heap.size+1,0,none⟩)]) si (by simp [go_sem]) ?_
 obtain ⟨A',c',hX',k3'⟩:=k3
 refine (Sl _ _ _ br A' _ c' _ _ _ er (.slice AV nV cV) _ k2 k0 k1 k3'.1 HE.out om).mono ?_
 rintro e u' w'' ⟨rfl,rfl,rfl⟩
 obtain ⟨g1,g2,g3⟩:=xE (off:=off) (z:=Value.slice none 0 0) HW.out.2.2.2.1 kf om k1 (by decide) (by decide) k3'.1 k3'.2 hX'
 exact ⟨Value.slice none 0 0,by simp [results,Tryz.results145,go_sem,g1],rfl,g2,g3⟩
theorem Sn (br:Nat) (r:Rd) (fv:Value) (w:World) (hr:bB X w br r) (h0:r.err≠0) :
  Calls Tryz.prog 145 #[vP br 0,fv] w fun e w'=>e = .returned nS∧Fr [] w w'∧bB X w' br r:=by
 have hr0:=hr
 obtain ⟨A,c,hX,ha,hrow⟩:=hr
 have c3:w.cell? ⟨br,3,none⟩=some (Value.int .i64 r.err):=by rw [ha.cell]; rfl
 have hb:(r.err != 0)=true:=by simpa using h0
 have hlt:=ha.lt
 have HR:=Lib.hid hr0
 clear ha hrow hr0 h0
 go_enter_defers Tryz.func145,Tryz.ntmps145
 go_wp2_with fail
 have hf:Fr [] w ((w.alloc (Obj.cells #[vP br 0] 148)).alloc (Obj.cells #[nS] 22)):=((Fr.refl _ _).alloc _).alloc _
 exact ⟨Value.slice none 0 0,by simp [results,Tryz.results145,go_sem],rfl,hf,aY.fr HR.out hf⟩
theorem Sp (br:Nat) (r:Rd) (most:Nat) (w:World) (hr:bB X w br r) (_hk:r.Ok) (_hm:most≤4294967296) (h0:r.err≠0) :
  Calls Tryz.prog 112 #[vP br 0,vi (most:Int)] w fun e w'=>e = .returned nS∧(r.text most).1=[]∧Fr [br] w w'∧bB X w' br (r.text most).2:=by
 have HR:=Lib.hid hr
 clear hr
 refine bG Tryz.func112 8 (Mm.start w []) rfl<|Nc<|Nx<|pB [(vP br 0)] fun b2=>Nx<|pB [(vI most)] fun b3=>lx rfl<|Nb<|lL 0 rfl<|lk (.func (.func 146) #[] #[(vP b2 0),(vP b3 0)])<|Nx<|mE 145 #[(vP br 0),(.func (.func 146) #[] #[(vP b2 0),(vP b3 0)])] rfl kr (fun _=>kr) (fun w1 hM=>?_)
 have HR1:Hid (bB X w1 br r):=aY.fr HR.out hM.fr
 have HB1:Hid (At w1 b2 148 [vP br 0]):=hM.at (i:=0) rfl
 have HB2:Hid (At w1 b3 3 [vi (most:Int)]):=hM.at (i:=1) rfl
 have HF1:=Lib.hid hM.fr
 refine (Sn br r _ w1 HR1.out h0).mono ?_
 rintro e w2 ⟨rfl,hf,hr2⟩
 refine ⟨_,w2,[],[],rfl,Mm.start w2 [],?_⟩
 clear hM
 exact lx rfl<|Nd<|sN [nS] fun w hM=>⟨rfl,by unfold Rd.text; rw [if_neg h0],((HF1.out.trans hf).trans hM.fr).mono si,by unfold Rd.text; rw [if_neg h0]; exact aY.fr hr2 hM.fr⟩
theorem Sq (br:Nat) (r:Rd) (most:Nat) (w:World) (hr:bB X w br r) (hk:r.Ok) (hm:most≤4294967296) (h0:r.err=0) (n m:Nat) (hd:dI r.D r.off=some (n,m)) (hn:n≤most) (hf':m+n≤r.D.length) :
  Calls Tryz.prog 112 #[vP br 0,vi (most:Int)] w fun e w'=>∃ A c,e = .returned (.slice A ((r.D.drop m).take n).length c)∧Fr [br] w w'∧bB X w' br (r.text most).2∧w'.ownsRow w.heap.size 5 1 (.slice A ((r.D.drop m).take n).length c) ((r.D.drop m).take n).length (B8 ((r.D.drop m).take n)):=by
 have HR:=Lib.hid hr
 clear hr
 refine bG Tryz.func112 8 (Mm.start w []) rfl<|Nc<|Nx<|pB [(vP br 0)] fun b2=>Nx<|pB [(vI most)] fun b3=>lx rfl<|Nb<|lL 0 rfl<|lk (.func (.func 146) #[] #[(vP b2 0),(vP b3 0)])<|Nx<|mE 145 #[(vP br 0),(.func (.func 146) #[] #[(vP b2 0),(vP b3 0)])] rfl kr (fun _=>kr) (fun w1 hM=>?_)
 have HR1:Hid (bB X w1 br r):=aY.fr HR.out hM.fr
 have HB1:Hid (At w1 b2 148 [vP br 0]):=hM.at (i:=0) rfl
 have HB2:Hid (At w1 b3 3 [vi (most:Int)]):=hM.at (i:=1) rfl
 have HF1:=Lib.hid hM.fr
 refine (Sm br r.D r.off r.last (m+n) ((r.D.drop m).take n) b2 b3 w1 (by have h:=HR1.out; unfold bB at h; rw [h0] at h; exact h) (fun W hf hr=>Sg b2 b3 br r.D r.off r.last most W (HB1.out.fr hf si) (HB2.out.fr hf si) hr hk.len hk.off hm n m hd hn hf')).mono ?_
 rintro e w2 ⟨AV,cV,rfl,hf,hr2,ho2⟩
 refine ⟨_,w2,[],[],rfl,Mm.start w2 [],?_⟩
 clear hM
 exact lx rfl<|Nd<|sN [(vL AV ((r.D.drop m).take n) cV)] fun w hM=>⟨AV,cV,rfl,((HF1.out.mono si).trans hf).trans (hM.fr.mono si),by unfold Rd.text; rw [if_pos h0,hd]; dsimp only; rw [if_neg om,if_pos hf']; unfold Rd.done bB; have h:=aY.fr hr2 hM.fr; rw [← h0] at h; exact h,tT (dZ ho2 hM.fr si) (by have:=HF1.out.size; omega)⟩
theorem Sr (br:Nat) (r:Rd) (most:Nat) (w:World) (hr:bB X w br r) (hk:r.Ok) (hm:most≤4294967296) (h0:r.err=0) (n m:Nat) (hd:dI r.D r.off=some (n,m)) (hn:n≤most) (hf':r.D.length < m+n) :
  Calls Tryz.prog 112 #[vP br 0,vi (most:Int)] w fun e w'=>e = .returned nS∧(r.text most).1=[]∧Fr [br] w w'∧bB X w' br (r.text most).2:=by
 have HR:=Lib.hid hr
 clear hr
 refine bG Tryz.func112 8 (Mm.start w []) rfl<|Nc<|Nx<|pB [(vP br 0)] fun b2=>Nx<|pB [(vI most)] fun b3=>lx rfl<|Nb<|lL 0 rfl<|lk (.func (.func 146) #[] #[(vP b2 0),(vP b3 0)])<|Nx<|mE 145 #[(vP br 0),(.func (.func 146) #[] #[(vP b2 0),(vP b3 0)])] rfl kr (fun _=>kr) (fun w1 hM=>?_)
 have HR1:Hid (bB X w1 br r):=aY.fr HR.out hM.fr
 have HB1:Hid (At w1 b2 148 [vP br 0]):=hM.at (i:=0) rfl
 have HB2:Hid (At w1 b3 3 [vi (most:Int)]):=hM.at (i:=1) rfl
 have HF1:=Lib.hid hM.fr
 refine (DH br r.D r.off r.last 3 b2 b3 w1 (by have h:=HR1.out; unfold bB at h; rw [h0] at h; exact h) (by decide) (fun W hf hr=>Sh b2 b3 br r.D r.off r.last most W (HB1.out.fr hf si) (HB2.out.fr hf si) hr hk.len hk.off hm n m hd hn hf')).mono ?_
 rintro e w2 ⟨rfl,hf,hr2⟩
 refine ⟨_,w2,[],[],rfl,Mm.start w2 [],?_⟩
 clear hM
 exact lx rfl<|Nd<|sN [nS] fun w hM=>⟨rfl,by unfold Rd.text; rw [if_pos h0,hd]; dsimp only; rw [if_neg om,if_neg om],((HF1.out.mono si).trans hf).trans (hM.fr.mono si),by unfold Rd.text; rw [if_pos h0,hd]; dsimp only; rw [if_neg om,if_neg om]; unfold Rd.fail bB; exact aY.fr hr2 hM.fr⟩
theorem Ss (br:Nat) (r:Rd) (most:Nat) (w:World) (hr:bB X w br r) (hk:r.Ok) (hm:most≤4294967296) (h0:r.err=0) (n m:Nat) (hd:dI r.D r.off=some (n,m)) (hn:most < n) :
  Calls Tryz.prog 112 #[vP br 0,vi (most:Int)] w fun e w'=>e = .returned nS∧(r.text most).1=[]∧Fr [br] w w'∧bB X w' br (r.text most).2:=by
 have HR:=Lib.hid hr
 clear hr
 refine bG Tryz.func112 8 (Mm.start w []) rfl<|Nc<|Nx<|pB [(vP br 0)] fun b2=>Nx<|pB [(vI most)] fun b3=>lx rfl<|Nb<|lL 0 rfl<|lk (.func (.func 146) #[] #[(vP b2 0),(vP b3 0)])<|Nx<|mE 145 #[(vP br 0),(.func (.func 146) #[] #[(vP b2 0),(vP b3 0)])] rfl kr (fun _=>kr) (fun w1 hM=>?_)
 have HR1:Hid (bB X w1 br r):=aY.fr HR.out hM.fr
 have HB1:Hid (At w1 b2 148 [vP br 0]):=hM.at (i:=0) rfl
 have HB2:Hid (At w1 b3 3 [vi (most:Int)]):=hM.at (i:=1) rfl
 have HF1:=Lib.hid hM.fr
 refine (DH br r.D r.off r.last 2 b2 b3 w1 (by have h:=HR1.out; unfold bB at h; rw [h0] at h; exact h) (by decide) (fun W hf hr=>Si b2 b3 br r.D r.off r.last most W (HB1.out.fr hf si) (HB2.out.fr hf si) hr hk.len hk.off hm n m hd hn)).mono ?_
 rintro e w2 ⟨rfl,hf,hr2⟩
 refine ⟨_,w2,[],[],rfl,Mm.start w2 [],?_⟩
 clear hM
 exact lx rfl<|Nd<|sN [nS] fun w hM=>⟨rfl,by unfold Rd.text; rw [if_pos h0,hd]; dsimp only; rw [if_pos hn],((HF1.out.mono si).trans hf).trans (hM.fr.mono si),by unfold Rd.text; rw [if_pos h0,hd]; dsimp only; rw [if_pos hn]; unfold Rd.fail bB; exact aY.fr hr2 hM.fr⟩
theorem Su (br:Nat) (r:Rd) (most:Nat) (w:World) (hr:bB X w br r) (hk:r.Ok) (hm:most≤4294967296) (h0:r.err=0) (hd:dI r.D r.off=none) :
  Calls Tryz.prog 112 #[vP br 0,vi (most:Int)] w fun e w'=>e = .returned nS∧(r.text most).1=[]∧Fr [br] w w'∧bB X w' br (r.text most).2:=by
 have HR:=Lib.hid hr
 clear hr
 refine bG Tryz.func112 8 (Mm.start w []) rfl<|Nc<|Nx<|pB [(vP br 0)] fun b2=>Nx<|pB [(vI most)] fun b3=>lx rfl<|Nb<|lL 0 rfl<|lk (.func (.func 146) #[] #[(vP b2 0),(vP b3 0)])<|Nx<|mE 145 #[(vP br 0),(.func (.func 146) #[] #[(vP b2 0),(vP b3 0)])] rfl kr (fun _=>kr) (fun w1 hM=>?_)
 have HR1:Hid (bB X w1 br r):=aY.fr HR.out hM.fr
 have HB1:Hid (At w1 b2 148 [vP br 0]):=hM.at (i:=0) rfl
 have HB2:Hid (At w1 b3 3 [vi (most:Int)]):=hM.at (i:=1) rfl
 have HF1:=Lib.hid hM.fr
 refine (DH br r.D r.off r.last 3 b2 b3 w1 (by have h:=HR1.out; unfold bB at h; rw [h0] at h; exact h) (by decide) (fun W hf hr=>Sj b2 b3 br r.D r.off r.last most W (HB1.out.fr hf si) (HB2.out.fr hf si) hr hk.len hk.off hm hd)).mono ?_
 rintro e w2 ⟨rfl,hf,hr2⟩
 refine ⟨_,w2,[],[],rfl,Mm.start w2 [],?_⟩
 clear hM
 exact lx rfl<|Nd<|sN [nS] fun w hM=>⟨rfl,by unfold Rd.text; rw [if_pos h0,hd],((HF1.out.mono si).trans hf).trans (hM.fr.mono si),by unfold Rd.text; rw [if_pos h0,hd]; dsimp only; unfold Rd.fail bB; exact aY.fr hr2 hM.fr⟩
theorem Sw (br:Nat) (r:Rd) (most:Nat) (w:World) (hr:bB X w br r) (hk:r.Ok) (hm:most≤4294967296):Calls Tryz.prog 112 #[vP br 0,vi (most:Int)] w fun e w'=>∃ A c,e = .returned (.slice A (r.text most).1.length c)∧Fr [br] w w'∧bB X w' br (r.text most).2∧w'.ownsRow w.heap.size 5 1 (.slice A (r.text most).1.length c) (r.text most).1.length (B8 (r.text most).1):=by
 have nil:∀ {e:Ending} {w':World},(e = .returned nS∧(r.text most).1=[]∧Fr [br] w w'∧bB X w' br (r.text most).2)→∃ A c,e = .returned (.slice A (r.text most).1.length c)∧Fr [br] w w'∧bB X w' br (r.text most).2∧w'.ownsRow w.heap.size 5 1 (.slice A (r.text most).1.length c) (r.text most).1.length (B8 (r.text most).1):=by
  rintro e w' ⟨rfl,h1,h2,h3⟩
  rw [h1]
  exact ⟨none,0,rfl,h2,h3,Sf⟩
 by_cases h0:r.err=0
 ·cases hd:dI r.D r.off with
  | none=>exact (Su br r most w hr hk hm h0 hd).mono fun e w' h=>nil h
  | some p =>
    obtain ⟨n,m⟩:=p
    by_cases hn:n≤most
    ·by_cases hf:m+n≤r.D.length
     ·have ht:(r.text most).1=(r.D.drop m).take n:=by unfold Rd.text; rw [if_pos h0,hd]; dsimp only; rw [if_neg om,if_pos hf]
      rw [ht]
      exact Sq br r most w hr hk hm h0 n m hd hn hf
     ·exact (Sr br r most w hr hk hm h0 n m hd hn om).mono fun e w' h=>nil h
    ·exact (Ss br r most w hr hk hm h0 n m hd om).mono fun e w' h=>nil h
 ·exact (Sp br r most w hr hk hm h0).mono fun e w' h=>nil h
end
theorem Sx {X:Option Addr × Nat} {br:Nat} {r r':Rd} {w w':World} {A:Option Addr} {c n:Nat} {xs:List Value} (hO:bO [aU X br r] w) (hf:Fr [br] w w') (hr:bB X w' br r') (hk:r'.Ok) (ho:w'.ownsRow w.heap.size 5 1 (.slice A n c) n xs):aK [aU X br r] w [aU X br r',dA 5 1 A n c xs] w':=by
 exact (sU hO hf hr hk).XW (fun b hb=>hO.Fh hb) (Nat.le_refl _) ho
theorem rC (X:Option Addr × Nat) (br:Nat) (r:Rd) (most:Nat) (w:World) (hO:bO [aU X br (r)] w) (hm:most≤4294967296) :
  Calls Tryz.prog 112 #[(vP br 0),(vI most)] w fun e w'=>∃ (B:Option Addr) (cb:Nat),e = .returned (vL B ((r.text most).1) cb)∧aK [aU X br (r)] w [aU X br ((r.text most).2),cB B ((r.text most).1) cb] w':=by
 have h:=hO.at (i:=0) rfl; obtain ⟨hr,hk⟩:bB X w br r∧r.Ok:=h
 refine (Sw br r most w hr hk hm).mono ?_
 rintro e w' ⟨A,c,rfl,hf,hr2,ho⟩
 exact ⟨A,c,rfl,Sx hO hf hr2 (hk.text most) ho⟩
end
theorem Sy (X:Option Addr × Nat) (br:Nat) (r:Rd) (most:Nat) (w:World) (hO:bO [aU X br (r)] w) (hm:most≤65536) :
  Calls Tryz.prog 134 #[(vP br 0),(vI most)] w fun e w'=>∃ (B:Option Addr) (cb:Nat),e = .returned (vL B ((r.items most).1) cb)∧aK [aU X br (r)] w [aU X br ((r.items most).2),cS B ((r.items most).1) cb] w':=by
 refine bG Tryz.func134 26 (hO) rfl<|Nc<|lx rfl<|Nf<|St.fact (fun w hM=>(hM.at (i:=0) (c:=aU X br r) rfl).2.len) (fun hrl=>aE<|lx rfl<|Nx<|bZ [0] (fun w hM hO=>oS X br r w hO)<|lw (vI ((r.D.length - r.off) / 32)) (Az rfl rfl rfl om om)<|lw (vI (r.bM most)) (Ct rfl rfl rfl) ?_)
 have hml:r.bM most≤most:=Nat.min_le_left _ _
 refine Nx<|bZ [0] (fun w hM hO=>Dy X br r (r.bM most) w hO om) ?_
 have hcl:=r.zE (r.bM most)
 refine lx rfl<|Nb<|lx rfl<|Nx<|Dz kB ((r.cnt (r.bM most)).1) om rfl rfl kr rfl rfl (fun b15=>lx rfl<|Ne<|lx rfl<|Ng<|sL (fun (i,AX,cX)=>i≤(r.cnt (r.bM most)).1) (fun (i,AX,cX)=>(r.cnt (r.bM most)).1 - i) (fun (i,AX,cX)=>[(0,(vP br 0)),(4,nS),(16,(vI ((r.cnt (r.bM most)).1))),(6,(vL AX (((r.cnt (r.bM most)).2.cR i).1) cX)),(17,(vI i))]) (fun (i,AX,cX)=>[aU X br (((r.cnt (r.bM most)).2.cR i).2),cS AX (((r.cnt (r.bM most)).2.cR i).1) cX]) (0,(some ⟨b15,0,none⟩),((r.cnt (r.bM most)).1)) (Nat.zero_le _) (fun w hM=>by show Mm _ _ [aU X br (((r.cnt (r.bM most)).2.cR 0).2),cS (some ⟨b15,0,none⟩) (((r.cnt (r.bM most)).2.cR 0).1) (((r.cnt (r.bM most)).1))] w; exact hM) ?_) om
 rintro ⟨i,AX,cX⟩ (hok:i≤(r.cnt (r.bM most)).1)
 dsimp only
 refine Nc<|lk (.bool (decide (((i:Nat):Int) < (((r.cnt (r.bM most)).1:Nat):Int)))) ?_
 refine aS (aJ (aQ (bR rfl (fun hc18=>?_) (fun hc18=>?_))))
 ·have hd18:=of_decide_eq_true hc18
  exact Nl<|eS<|aE<|lx rfl<|Nx<|bZ [0] (fun w hM hO=>xP X br (((r.cnt (r.bM most)).2.cR i).2) w hO)<|Nx<|pN 1 9 [(vS ((((r.cnt (r.bM most)).2.cR i).2).sum.1))] fun b22=>Nx<|fJ kB 1 ([(vS ((((r.cnt (r.bM most)).2.cR i).2).sum.1))]) rfl rfl kr rfl rfl rfl (rfl) (kA (i:=2) rfl (fun j v h=>by rw [Nat.zero_add]; exact h)) (by simp [Value.oneCell']) (by rw [Rd.wE]; omega) ((((r.cnt (r.bM most)).2.cR i).1++[(((r.cnt (r.bM most)).2.cR i).2).sum.1]).length) fN (SS (((r.cnt (r.bM most)).2.cR i).1++[(((r.cnt (r.bM most)).2.cR i).2).sum.1])) (by simp [SS]) (fun A23 c23=>lx rfl<|Nk<|aE<|lw (vI (i+1)) bJ<|lx rfl<|aS (aJ (sA (i+1,A23,c23) (by show _≤_; omega) (by show (r.cnt (r.bM most)).1 - (i+1) < (r.cnt (r.bM most)).1 - i; omega) (fun w hM=>by show Mm _ _ [aU X br (((r.cnt (r.bM most)).2.cR (i+1)).2),cS A23 (((r.cnt (r.bM most)).2.cR (i+1)).1) c23] w; exact (hM.pick [0,1] rfl rfl)))))
 ·have hd18:=of_decide_eq_false hc18
  obtain rfl:i=(r.cnt (r.bM most)).1:=om
  exact Nj<|aE<|lx rfl<|Nd<|sN [(vL AX (((r.cnt (r.bM most)).2.cR (r.cnt (r.bM most)).1).1) cX)] fun w hM=>⟨AX,cX,rfl,hM⟩
theorem Sz (n:Nat) (f lo hi:List UInt8) (w:World) :
  Calls Tryz.prog 178 #[(.agg #[(vI n),(vS f)]),(.agg #[(vS lo),(vS hi)])] w fun e w'=>e = .returned bT∧aK [] w [] w':=by
 exact bG Tryz.func178 5 (Mm.start w []) rfl<|Nc<|Nx<|pB [(vI n),(vS f)] fun b2=>Nx<|pB [(vS lo),(vS hi)] fun b3=>lx rfl<|Nb<|lx rfl<|Nd<|sN [bT] fun w hM=>⟨rfl,(hM.pick [] rfl rfl)⟩
theorem SA (A:Option Addr) (c:Nat) (l:List (List UInt8)) (lo hi:List UInt8) (w:World) (r0:Rf [] w (fun w=>aF w A (SS l))) (hl:l.length≤68719476736) :
  Calls Tryz.prog 180 #[(.agg #[(vL A l c)]),(.agg #[(vS lo),(vS hi)])] w fun e w'=>e = .returned (.bool (eD l lo hi))∧aK [] w [] w':=by
 exact bG Tryz.func180 9 (Mm.start w []) rfl<|Nc<|Nx<|pB [(vL A l c)] fun b2=>Nx<|pB [(vS lo),(vS hi)] fun b3=>lx rfl<|Nb<|lk (vP b2 0)<|lL 0 rfl<|lW (rA 1 [(vS lo),(vS hi)])<|Nx<|bN (fun w hM=>Dp A c l lo hi w (r0.aO hM) om)<|lx rfl<|Nd<|sN [(.bool (eD l lo hi))] fun w hM=>⟨rfl,(hM.pick [] rfl rfl)⟩
theorem SB (A:Option Addr) (c:Nat) (l:List (List UInt8)) (A2:Option Addr) (c2:Nat) (m:List (List UInt8)) (lo hi:List UInt8) (w:World) (r0:Rf [] w (fun w=>aF w A (SS l))) (r1:Rf [] w (fun w=>aF w A2 (SS m))) (hl:l.length≤68719476736) (hl2:m.length≤68719476736) :
  Calls Tryz.prog 185 #[(.agg #[(vL A l c),(vL A2 m c2)]),(.agg #[(vS lo),(vS hi)])] w fun e w'=>e = .returned (.bool (eD l lo hi && eD m lo hi))∧aK [] w [] w':=by
 refine bG Tryz.func185 15 (Mm.start w []) rfl<|Nc<|Nx<|pB [(vL A l c),(vL A2 m c2)] fun b2=>Nx<|pB [(vS lo),(vS hi)] fun b3=>lx rfl<|Nb<|lk (vP b2 0)<|lL 0 rfl<|lW (rA 1 [(vS lo),(vS hi)])<|Nx<|bN (fun w hM=>Dp A c l lo hi w (r0.aO hM) om)<|lm ?_
 refine St.dec 9 rfl (fun hc9=>?_) (fun hc9=>?_)
 ·exact lg (vP b2 1)<|lu (vL A2 m c2) (eT 0 rfl rfl kr rfl rfl)<|lu (.agg #[(vS lo),(vS hi)]) (oD [(vS lo),(vS hi)] rfl rfl kr kr (hU (i:=1) rfl (by intro j v hj; first | (rw [Nat.zero_add]; exact hj) | (match j,hj with | 0,h=>exact h | 1,h=>exact h))))<|fI rfl rfl<|bN (fun w hM=>Dp A2 c2 m lo hi w (r1.aO hM) om)<|lk (.bool (eD m lo hi))<|lx rfl<|Nd<|sN [(.bool (eD m lo hi))] fun w hM=>⟨eM (by simp_all),(hM.pick [] rfl rfl)⟩
 ·exact lx rfl<|lF<|lx rfl<|Nd<|sN [bF] fun w hM=>⟨eM (by simp_all),(hM.pick [] rfl rfl)⟩
theorem Jf (v:Value) (b:Bool) {p:AP}:(Ending.returned (.tuple #[v,.bool b])) = .returned (.tuple #[v,.bool (if b=true then some p else none).isSome]):=by cases b <;> rfl
theorem sV {a b c:Value} (h1:a.oneCell'=true) (h2:b.oneCell'=true) (h3:c.oneCell'=true):∀ u∈[a,b,c],u.oneCell'=true:=by
 intro u hu
 simp only [List.mem_cons,List.not_mem_nil,or_false] at hu
 rcases hu with rfl | rfl | rfl <;> assumption
theorem Jg {b:Bool} {p q:AP} (h:(if b=true then some q else none)=some p):q=p:=by
 cases b
 ·cases h
 ·exact Option.some.inj h
theorem SC (X:Option Addr × Nat) (br:Nat) (r:Rd) (w:World) (hO:bO [aU X br (r)] w) :
  Calls Tryz.prog 80 #[(vP br 0)] w fun e w'=>∃ (n:Nat) (r2:Rd),e = .returned (.int .u64 ((n:Nat):Int))∧aK [aU X br (r)] w [aU X br (r2)] w'∧(r.uint=(n,r2)) :=
 (pU X br r w hO).mono fun e w' h=>by
  obtain ⟨rfl,hB⟩:=h
  exact ⟨_,_,rfl,hB,rfl⟩
theorem Jh (X:Option Addr × Nat) (br:Nat) (r:Rd) (most:Nat) (w:World) (hO:bO [aU X br (r)] w) (hm:most≤4294967296) :
  Calls Tryz.prog 91 #[(vP br 0),(vI most)] w fun e w'=>∃ (n:Nat) (r2:Rd),e = .returned (vI n)∧aK [aU X br (r)] w [aU X br (r2)] w'∧(r.cnt most=(n,r2)) :=
 (Dy X br r most w hO hm).mono fun e w' h=>by
  obtain ⟨rfl,hB⟩:=h
  exact ⟨_,_,rfl,hB,rfl⟩
theorem Ji (X:Option Addr × Nat) (br:Nat) (r:Rd) (most:Nat) (w:World) (hO:bO [aU X br (r)] w) (hm:most≤4294967296) :
  Calls Tryz.prog 131 #[(vP br 0),(vI most)] w fun e w'=>∃ (t:List UInt8) (r2:Rd),e = .returned (vS t)∧aK [aU X br (r)] w [aU X br (r2)] w'∧(r.text most=(t,r2)) :=
 (RA X br r most w hO hm).mono fun e w' h=>by
  obtain ⟨rfl,hB⟩:=h
  exact ⟨_,_,rfl,hB,rfl⟩
theorem SD (X:Option Addr × Nat) (br:Nat) (r:Rd) (w:World) (hO:bO [aU X br (r)] w) :
  Calls Tryz.prog 117 #[(vP br 0)] w fun e w'=>∃ (t:List UInt8) (r2:Rd),e = .returned (vS t)∧aK [aU X br (r)] w [aU X br (r2)] w'∧(r.sum=(t,r2)) :=
 (xP X br r w hO).mono fun e w' h=>by
  obtain ⟨rfl,hB⟩:=h
  exact ⟨_,_,rfl,hB,rfl⟩
theorem DI (X:Option Addr × Nat) (br:Nat) (r:Rd) (most:Nat) (w:World) (hO:bO [aU X br (r)] w) (hm:most≤65536) :
  Calls Tryz.prog 134 #[(vP br 0),(vI most)] w fun e w'=>∃ (B:Option Addr) (cb:Nat) (l:List (List UInt8)) (r2:Rd),e = .returned (vL B (l) cb)∧aK [aU X br (r)] w [aU X br (r2),cS B (l) cb] w'∧(r.items most=(l,r2)) :=
 (Sy X br r most w hO hm).mono fun e w' h=>by
  obtain ⟨B,cb,rfl,hB⟩:=h
  exact ⟨B,cb,_,_,rfl,hB,rfl⟩
theorem SE (X:Option Addr × Nat) (br:Nat) (r:Rd) (w:World) (hO:bO [aU X br (r)] w) :
  Calls Tryz.prog 92 #[(vP br 0)] w fun e w'=>∃ (cl:List Value) (L:List (Option Addr × List (List UInt8))) (o:Option AP) (r2:Rd),e = .returned (.tuple #[(.agg (cl).toArray),(.bool o.isSome)])∧aK [aU X br (r)] w [aU X br (r2),dF (L)] w'∧(r.part=(o,r2))∧(cl.length=3∧∀ u∈cl,u.oneCell'=true)∧(∀ p,o=some p→∃ pv:PV,cl=pv.cells∧pv.abs=p∧∀ q∈pv.c.rows,q∈L):=by
 refine eH Tryz.func92 66 (hO) rfl<|Nc<|Nx<|pA [(.string ⟨#[]⟩),(.string ⟨#[]⟩),.nilIface] fun b2=>lx rfl<|Nb<|lx rfl<|Nx<|uJ [0] (fun w hM hO=>Ji X br r 32 w hO om) fun t9 r29 heq9=>lx rfl<|Nx<|uJ [0] (fun w hM hO=>Ji X br r29 32 w hO om) fun t11 r211 heq11=>lx rfl<|Nb<|lx rfl<|lk (.agg #[(vS t9),(vS t11)])<|lk (.agg #[(vS t9),(vS t11),.nilIface])<|Nx<|pA [(.string ⟨#[]⟩),(.string ⟨#[]⟩),.nilIface] fun b6=>Nx<|pT 2 [(vS t9),(vS t11),.nilIface] rfl<|Nf<|aQ ?_
 dsimp only [bC,List.set,List.cons_append,List.nil_append]
 refine aE<|lx rfl<|Nx<|bN (fun w hM=>IF t9 w )<|lk (.bool (!(gL t9)))<|lm ?_
 refine St.dec 19 rfl (fun hc19=>?_) (fun hc19=>?_)
 ·refine lx rfl<|lT<|lx rfl<|lT<|No<|lk (.agg #[(.string ⟨#[]⟩),(.string ⟨#[]⟩),.nilIface])<|Nx<|pT 1 [(.string ⟨#[]⟩),(.string ⟨#[]⟩),.nilIface] rfl<|lx rfl<|Nh<|iJ [(.agg #[(.string ⟨#[]⟩),(.string ⟨#[]⟩),.nilIface]),bF] rfl ⟨⟨_,rfl,fun w hM=>mF kr kr (hU (i:=1) (off:=0) rfl (by intro j v hj; rw [Nat.zero_add]; exact hj) w hM)⟩,rfl,trivial⟩ (fun w hM=>?_)
  have hp:r.part=(none,r211):=Rd.Fw heq9 heq11 (RB hc19)
  exact ⟨[(.string ⟨#[]⟩),(.string ⟨#[]⟩),.nilIface],[],none,r211,rfl,Mm.tR ((hM.pick [0] rfl rfl)),hp,⟨rfl,sV rfl rfl rfl⟩,fun p hp=>by cases hp⟩
 ·refine lx rfl<|fI rfl rfl<|bN (fun w hM=>IF t11 w )<|lg (.bool (!(gL t11)))<|lk (.bool (!(gL t11)))<|lm ?_
  refine St.dec 24 rfl (fun hc24=>?_) (fun hc24=>?_)
  ·refine lx rfl<|lT<|No<|lk (.agg #[(.string ⟨#[]⟩),(.string ⟨#[]⟩),.nilIface])<|Nx<|pT 1 [(.string ⟨#[]⟩),(.string ⟨#[]⟩),.nilIface] rfl<|lx rfl<|Nh<|iJ [(.agg #[(.string ⟨#[]⟩),(.string ⟨#[]⟩),.nilIface]),bF] rfl ⟨⟨_,rfl,fun w hM=>mF kr kr (hU (i:=1) (off:=0) rfl (by intro j v hj; rw [Nat.zero_add]; exact hj) w hM)⟩,rfl,trivial⟩ (fun w hM=>?_)
   have hp:r.part=(none,r211):=Rd.Fw heq9 heq11 (RC hc24)
   exact ⟨[(.string ⟨#[]⟩),(.string ⟨#[]⟩),.nilIface],[],none,r211,rfl,Mm.tR ((hM.pick [0] rfl rfl)),hp,⟨rfl,sV rfl rfl rfl⟩,fun p hp=>by cases hp⟩
  ·refine lg (vP b6 0)<|lu (.agg #[(vS t9),(vS t11)]) (oD [(vS t9),(vS t11)] rfl rfl kr kr (hU (i:=2) rfl (by intro j v hj; first | (rw [Nat.zero_add]; exact hj) | (match j,hj with | 0,h=>exact h | 1,h=>exact h))))<|fI rfl rfl<|bN (fun w hM=>QX t9 t11 w )<|lg (.bool (!(lU t9 t11)))<|lk (.bool (!(lU t9 t11))) ?_
   refine aS (aJ (bR rfl (fun hc29=>?_) (fun hc29=>?_)))
   ·refine aQ ?_
    dsimp only [bC,List.set,List.cons_append,List.nil_append]
    refine aE<|lk (.agg #[(.string ⟨#[]⟩),(.string ⟨#[]⟩),.nilIface])<|Nx<|pT 1 [(.string ⟨#[]⟩),(.string ⟨#[]⟩),.nilIface] rfl<|lx rfl<|Nh<|iJ [(.agg #[(.string ⟨#[]⟩),(.string ⟨#[]⟩),.nilIface]),bF] rfl ⟨⟨_,rfl,fun w hM=>mF kr kr (hU (i:=1) (off:=0) rfl (by intro j v hj; rw [Nat.zero_add]; exact hj) w hM)⟩,rfl,trivial⟩ (fun w hM=>?_)
    have hp:r.part=(none,r211):=Rd.Fw heq9 heq11 (RD hc29)
    exact ⟨[(.string ⟨#[]⟩),(.string ⟨#[]⟩),.nilIface],[],none,r211,rfl,Mm.tR ((hM.pick [0] rfl rfl)),hp,⟨rfl,sV rfl rfl rfl⟩,fun p hp=>by cases hp⟩
   ·refine Nl<|aQ ?_
    have hp0:r.part=r211.body t9 t11:=Rd.part_go heq9 heq11 (RE hc19 hc24 hc29)
    refine aE<|lx rfl<|Nx<|uJ [0] (fun w hM hO=>SC X br r211 w hO) fun n32 r232 heq32=>Ng<|Nc<|lk (.bool ((((n32:Nat):Int):Int) == 1))<|lx rfl ?_
    refine aS (aJ (bR rfl (fun hc34=>?_) (fun hc34=>?_)))
    ·have hk:n32=1:=AE hc34
     refine aE<|lx rfl<|Nx<|uJ [0] (fun w hM hO=>Jh X br r232 16384 w hO om) fun n37 r237 heq37=>lx rfl<|Nx<|uJ [0] (fun w hM hO=>SD X br r237 w hO) fun t39 r239 heq39=>lk (.agg #[(vI n37),(vS t39)])<|lk (.iface 110 (.agg #[(vI n37),(vS t39)]))<|lk (vP b6 2)<|Nx<|pS 2 rfl<|Nk<|aQ ?_
     dsimp only [bC,List.set,List.cons_append,List.nil_append]
     refine dN _ 8 kr (fun _ h=>h.pick [0,2] rfl rfl)<|aV 0 _ rfl (rA 1 [(vS t9),(vS t11),(.iface 110 (.agg #[(vI n37),(vS t39)]))])<|aC 1 (vP b6 2) rfl<|al 2 1 ?_
     refine aC 3 (vP b6 0) rfl<|aV 4 _ rfl (rA 1 [(vS t9),(vS t11)])<|aA 5 rfl<|bN (fun w hM=>Sz n37 t39 t9 t11 w )<|cN _ (fun _ h=>h) (fun _ h=>h.pick [0,2] rfl rfl)<|aA 6 rfl<|pT 1 [(vS t9),(vS t11),(.iface 110 (.agg #[(vI n37),(vS t39)]))] rfl<|cN _ (fun _ h=>h) (fun _ h=>h.pick [0,2] rfl rfl)<|aa 7 ?_
     refine dO kr<|aJ<|gQ<|iJ [(.agg #[(vS t9),(vS t11),(.iface 110 (.agg #[(vI n37),(vS t39)]))]),bT] rfl ⟨⟨_,rfl,fun w hM=>mF kr kr (hU (i:=1) (off:=0) rfl (by intro j v hj; rw [Nat.zero_add]; exact hj) w hM)⟩,rfl,trivial⟩ (fun w hM=>?_)
     have hp:r.part=(some (PV.mk t9 t11 (.sum n37 t39)).abs,r239):=hp0.trans (Rd.XR heq32 hk heq37 heq39)
     exact ⟨[(vS t9),(vS t11),(.iface 110 (.agg #[(vI n37),(vS t39)]))],[],_,_,rfl,Mm.tR ((hM.pick [0] rfl rfl)),hp,⟨rfl,sV rfl rfl rfl⟩,fun p hp=>⟨PV.mk t9 t11 (.sum n37 t39),rfl,Option.some.inj hp,fun q hq=>by cases hq⟩⟩
    ·have hn1:¬ n32=1:=AF hc34
     refine aQ ?_
     dsimp only [bC,List.set,List.cons_append,List.nil_append]
     refine aE<|lk (.bool ((((n32:Nat):Int):Int) == 2))<|lx rfl ?_
     refine aS (aJ (bR rfl (fun hc43=>?_) (fun hc43=>?_)))
     ·have hk:n32=2:=AE hc43
      refine aE<|lx rfl<|Nx<|CA [0] (fun w hM hO=>DI X br r232 64 w hO om) fun B46 cb46 l46 r246 heq46=>?_
      have hil:=Rd.rQ r232 64; rw [heq46] at hil; dsimp only at hil
      refine lk (.agg #[(vL B46 (l46) cb46)])<|lk (.iface 124 (.agg #[(vL B46 (l46) cb46)]))<|lk (vP b6 2)<|Nx<|pS 2 rfl<|Nk<|aQ<|dN _ 8 kr (fun _ h=>h.pick [0,2,3] rfl rfl)<|aV 0 _ rfl (rA 1 [(vS t9),(vS t11),(.iface 124 (.agg #[(vL B46 (l46) cb46)]))])<|aC 1 (vP b6 2) rfl<|al 2 1 ?_
      refine aC 3 (vP b6 0) rfl<|aV 4 _ rfl (rA 1 [(vS t9),(vS t11)])<|aA 5 rfl<|bN (fun w hM=>SA B46 cb46 l46 t9 t11 w (hM.aL (j:=3) rfl (fun _ h=>aF.aR h)) om)<|cN _ (fun _ h=>h) (fun _ h=>h.pick [0,2,3] rfl rfl)<|aA 6 rfl<|pT 1 [(vS t9),(vS t11),(.iface 124 (.agg #[(vL B46 (l46) cb46)]))] rfl ?_
      dsimp only [bC,List.set,List.cons_append,List.nil_append]
      refine cN _ (fun _ h=>h) (fun _ h=>h.pick [0,2,3] rfl rfl)<|aa 7 ?_
      refine dO kr<|aJ<|gQ<|iJ [(.agg #[(vS t9),(vS t11),(.iface 124 (.agg #[(vL B46 (l46) cb46)]))]),(.bool (eD l46 t9 t11))] rfl ⟨⟨_,rfl,fun w hM=>mF kr kr (hU (i:=1) (off:=0) rfl (by intro j v hj; rw [Nat.zero_add]; exact hj) w hM)⟩,rfl,trivial⟩ (fun w hM=>?_)
      have hp:r.part=(if eD l46 t9 t11 then some (PV.mk t9 t11 (.list B46 cb46 l46)).abs else none,r246):=hp0.trans (Rd.XS heq32 hk heq46)
      replace hM:Mm _ _ [aU X br (r246),aB b2 115 [(vS t9),(vS t11),(.iface 124 (.agg #[(vL B46 (l46) cb46)]))],aB b6 115 [(vS t9),(vS t11),(.iface 124 (.agg #[(vL B46 (l46) cb46)]))],dF ([(B46,l46)])] w:=hM.tQ 3 rfl
      refine ⟨[(vS t9),(vS t11),(.iface 124 (.agg #[(vL B46 (l46) cb46)]))],[(B46,l46)],_,_,Jf _ _,(hM.pick [0,3] rfl rfl),hp,⟨rfl,sV rfl rfl rfl⟩,fun p hp=>⟨PV.mk t9 t11 (.list B46 cb46 l46),rfl,Jg hp,fun q hq=>hq⟩⟩
     ·have hn2:¬ n32=2:=AF hc43
      refine Nc<|lk (.bool ((((n32:Nat):Int):Int) == 3))<|lx rfl ?_
      refine aS (aJ (bR rfl (fun hc50=>?_) (fun hc50=>?_)))
      ·have hk:n32=3:=AE hc50
       refine Nc<|lx rfl<|Nx<|CA [0] (fun w hM hO=>DI X br r232 16384 w hO om) fun B53 cb53 l53 r253 heq53=>?_
       have hil:=Rd.rQ r232 16384; rw [heq53] at hil; dsimp only at hil
       refine lx rfl<|Nv<|lx rfl<|Nx<|CA [0] (fun w hM hO=>DI X br r253 16384 w hO om) fun B56 cb56 l56 r256 heq56=>?_
       have hil2:=Rd.rQ r253 16384; rw [heq56] at hil2; dsimp only at hil2
       refine lk (.agg #[(vL B53 (l53) cb53),(vL B56 (l56) cb56)])<|lk (.iface 127 (.agg #[(vL B53 (l53) cb53),(vL B56 (l56) cb56)]))<|lk (vP b6 2)<|Nx<|pS 2 rfl<|Nk<|aQ<|dN _ 8 kr (fun _ h=>h.pick [0,2,3,4] rfl rfl)<|aV 0 _ rfl (rA 1 [(vS t9),(vS t11),(.iface 127 (.agg #[(vL B53 (l53) cb53),(vL B56 (l56) cb56)]))])<|aC 1 (vP b6 2) rfl<|al 2 1 ?_
       refine aC 3 (vP b6 0) rfl<|aV 4 _ rfl (rA 1 [(vS t9),(vS t11)])<|aA 5 rfl<|bN (fun w hM=>SB B53 cb53 l53 B56 cb56 l56 t9 t11 w (hM.aL (j:=3) rfl (fun _ h=>aF.aR h)) (hM.aL (j:=4) rfl (fun _ h=>aF.aR h)) om om) ?_
       dsimp only [bC,List.set,List.cons_append,List.nil_append]
       refine cN _ (fun _ h=>h) (fun _ h=>h.pick [0,2,3,4] rfl rfl)<|aA 6 rfl<|pT 1 [(vS t9),(vS t11),(.iface 127 (.agg #[(vL B53 (l53) cb53),(vL B56 (l56) cb56)]))] rfl<|cN _ (fun _ h=>h) (fun _ h=>h.pick [0,2,3,4] rfl rfl)<|aa 7 ?_
       refine dO kr<|aJ<|gQ<|iJ [(.agg #[(vS t9),(vS t11),(.iface 127 (.agg #[(vL B53 (l53) cb53),(vL B56 (l56) cb56)]))]),(.bool (eD l53 t9 t11 && eD l56 t9 t11))] rfl ⟨⟨_,rfl,fun w hM=>mF kr kr (hU (i:=1) (off:=0) rfl (by intro j v hj; rw [Nat.zero_add]; exact hj) w hM)⟩,rfl,trivial⟩ (fun w hM=>?_)
       have hp:r.part=(if (eD l53 t9 t11 && eD l56 t9 t11) then some (PV.mk t9 t11 (.ans B53 cb53 l53 B56 cb56 l56)).abs else none,r256):=hp0.trans (Rd.XT heq32 hk heq53 heq56)
       replace hM:Mm _ _ [aU X br (r256),aB b2 115 [(vS t9),(vS t11),(.iface 127 (.agg #[(vL B53 (l53) cb53),(vL B56 (l56) cb56)]))],aB b6 115 [(vS t9),(vS t11),(.iface 127 (.agg #[(vL B53 (l53) cb53),(vL B56 (l56) cb56)]))],dF ([(B53,l53)]),cS B56 (l56) cb56] w:=hM.tQ 3 rfl
       replace hM:Mm _ _ [aU X br (r256),aB b2 115 [(vS t9),(vS t11),(.iface 127 (.agg #[(vL B53 (l53) cb53),(vL B56 (l56) cb56)]))],aB b6 115 [(vS t9),(vS t11),(.iface 127 (.agg #[(vL B53 (l53) cb53),(vL B56 (l56) cb56)]))],dF ([(B53,l53)]),dF ([(B56,l56)])] w:=hM.tQ 4 rfl
       refine ⟨[(vS t9),(vS t11),(.iface 127 (.agg #[(vL B53 (l53) cb53),(vL B56 (l56) cb56)]))],[(B53,l53),(B56,l56)],_,_,Jf _ _,Mm.join (cs:=[_]) (L:=[(B53,l53)]) (M:=[(B56,l56)]) ((hM.pick [0,3,4] rfl rfl)),hp,⟨rfl,sV rfl rfl rfl⟩,fun p hp=>⟨PV.mk t9 t11 (.ans B53 cb53 l53 B56 cb56 l56),rfl,Jg hp,fun q hq=>hq⟩⟩
      ·have hn3:¬ n32=3:=AF hc50
       refine Nc<|lk (.agg #[(.string ⟨#[]⟩),(.string ⟨#[]⟩),.nilIface])<|Nx<|pT 1 [(.string ⟨#[]⟩),(.string ⟨#[]⟩),.nilIface] rfl<|lx rfl<|Nd<|gB<|eA<|iJ [(.agg #[(.string ⟨#[]⟩),(.string ⟨#[]⟩),.nilIface]),bF] rfl ⟨⟨_,rfl,fun w hM=>mF kr kr (hU (i:=1) (off:=0) rfl (by intro j v hj; rw [Nat.zero_add]; exact hj) w hM)⟩,rfl,trivial⟩ (fun w hM=>?_)
       have hp:r.part=(none,r232):=hp0.trans (Rd.XU heq32 hn1 hn2 hn3)
       exact ⟨[(.string ⟨#[]⟩),(.string ⟨#[]⟩),.nilIface],[],none,r232,rfl,Mm.tR ((hM.pick [0] rfl rfl)),hp,⟨rfl,sV rfl rfl rfl⟩,fun p hp=>by cases hp⟩
theorem AM (A:Option Addr) (c:Nat) (xs:List UInt8) (n:Nat) (w:World) (hO:bO [cB A xs c] w) (hn:n < 18446744073709551616) (hx:xs.length≤4294960000) :
  Calls Tryz.prog 71 #[(vL A xs c),(.int .u64 ((n:Nat):Int))] w fun e w'=>∃ (A2:Option Addr) (c2:Nat),e = .returned (vL A2 (xs++aD n) c2)∧aK [cB A xs c] w [cB A2 (xs++aD n) c2] w':=by
 have ho:w.ownsRow 0 5 1 (.slice A xs.length c) xs.length (B8 xs):=hO.at (i:=0) rfl
 refine (Hk 0 n (.slice A xs.length c) xs w hn om (Nat.zero_le _) ho).mono ?_
 rintro e w' ⟨v',rfl,hG⟩
 obtain ⟨A',c',rfl,hM⟩:=hO.Fi 0 rfl hG.own hG.gr hG.blk
 exact ⟨A',c',rfl,hM⟩
theorem AN (w:World) :
  Calls Tryz.prog 43 #[] w fun e w'=>∃ (bw:Nat),e = .returned (vP bw 0)∧aK [] w [aB bw 140 [nS,(vi 0)]] w':=(Hl w).mono fun _ _ ⟨he,hf,ha⟩=>⟨_,he,(Mm.start w []).push (c:=aB w.heap.size 140 [nS,vi 0]) hf ha (by simp [aB]) (by simp [aB])⟩
theorem vE (bw:Nat) (A:Option Addr) (c:Nat) (xs:List UInt8) (n:Nat) (w:World) (hO:bO [aB bw 140 [(vL A (xs) c),(vi 0)],cB A (xs) c] w) (hn:n < 18446744073709551616) (hx:xs.length≤4294960000) :
  Calls Tryz.prog 44 #[(vP bw 0),(.int .u64 ((n:Nat):Int))] w fun e w'=>∃ (A2:Option Addr) (c2:Nat),e = .returned (.tuple #[])∧aK [aB bw 140 [(vL A (xs) c),(vi 0)],cB A (xs) c] w [aB bw 140 [(vL A2 (xs++aD n) c2),(vi 0)],cB A2 (xs++aD n) c2] w':=by
 exact bG Tryz.func44 18 (hO) rfl<|Nc<|lx rfl<|lk (vP bw 0)<|lk (vP bw 1)<|lL 0 rfl<|lT<|Nt<|aE<|lx rfl<|lk (vP bw 0)<|lk (vP bw 0)<|lL 0 rfl<|lx rfl<|Nx<|kC [1] (fun w hM hO=>AM A c xs n w hO om om) fun A215 c215=>lk (vP bw 0)<|lk (vP bw 0)<|Nx<|pS 0 rfl<|aS<|jY [] rfl trivial (fun w hM=>⟨A215,c215,rfl,hM⟩)
theorem xR (bw:Nat) (A:Option Addr) (c:Nat) (xs:List UInt8) (n:Nat) (w:World) (hO:bO [aB bw 140 [(vL A (xs) c),(vi 0)],cB A (xs) c] w) (hn:n≤4294967296) (hx:xs.length≤4294960000) :
  Calls Tryz.prog 88 #[(vP bw 0),(vI n)] w fun e w'=>∃ (A2:Option Addr) (c2:Nat),e = .returned (.tuple #[])∧aK [aB bw 140 [(vL A (xs) c),(vi 0)],cB A (xs) c] w [aB bw 140 [(vL A2 (xs++aD n) c2),(vi 0)],cB A2 (xs++aD n) c2] w':=by
 exact bG Tryz.func88 18 (hO) rfl<|Ny<|lx rfl<|lk (vP bw 0)<|lk (vP bw 1)<|lL 0 rfl<|lF<|Nn<|Nc<|lx rfl<|lk (.bool (decide (((n:Nat):Int) < 0)))<|Na<|eF rfl si<|jF<|aJ<|aE<|lx rfl<|lw (vU n) (jH _ (fun _=>kr) rfl rfl (pM om om))<|Nx<|eV [0,1] (fun w hM hO=>vE bw A c xs n w hO om om) fun A217 c217=>aS<|jY [] rfl trivial (fun w hM=>⟨A217,c217,rfl,hM⟩)
theorem Jj (bw:Nat) (A:Option Addr) (c:Nat) (xs t:List UInt8) (w:World) (hO:bO [aB bw 140 [(vL A (xs) c),(vi 0)],cB A (xs) c] w) (ht:t.length≤1000) (hx:xs.length≤4294960000) :
  Calls Tryz.prog 89 #[(vP bw 0),(vS t)] w fun e w'=>∃ (A2:Option Addr) (c2:Nat),e = .returned (.tuple #[])∧aK [aB bw 140 [(vL A (xs) c),(vi 0)],cB A (xs) c] w [aB bw 140 [(vL A2 (xs++aD t.length++t) c2),(vi 0)],cB A2 (xs++aD t.length++t) c2] w':=by
 refine bG Tryz.func89 22 (hO) rfl<|Nc<|lx rfl<|lk (vP bw 0)<|lk (vP bw 1)<|lL 0 rfl<|lT<|Nt<|aE<|lx rfl<|lk (vP bw 0)<|lk (vP bw 0)<|lL 0 rfl<|lx rfl<|lw (vI ((t).length)) (wQ rfl rfl kr)<|lw (vU t.length) (jH _ (fun _=>kr) rfl rfl (pM om om))<|Nx<|kC [1] (fun w hM hO=>AM A c xs t.length w hO om om) fun A217 c217=>lx rfl<|Nx<|Gf 1 rfl rfl kr kr kr kr rfl rfl rfl (by have:=eJ t.length om; rw [List.length_append]; omega) (((xs++aD t.length)++t).length) fN (B8 ((xs++aD t.length)++t)) (by simp [B8]) (fun A19 c19=>lk (vP bw 0)<|lk (vP bw 0)<|Nx ?_)
 exact pS 0 rfl<|aS<|jY [] rfl trivial (fun w hM=>⟨A19,c19,rfl,hM⟩)
theorem xS (bw:Nat) (A:Option Addr) (c:Nat) (xs t:List UInt8) (w:World) (hO:bO [aB bw 140 [(vL A (xs) c),(vi 0)],cB A (xs) c] w) (ht:t.length=32) (hx:xs.length≤4294960000) :
  Calls Tryz.prog 46 #[(vP bw 0),(vS t)] w fun e w'=>∃ (A2:Option Addr) (c2:Nat),e = .returned (.tuple #[])∧aK [aB bw 140 [(vL A (xs) c),(vi 0)],cB A (xs) c] w [aB bw 140 [(vL A2 (xs++t) c2),(vi 0)],cB A2 (xs++t) c2] w':=by
 refine bG Tryz.func46 24 (hO) rfl<|Ny<|lx rfl<|lk (vP bw 0)<|lk (vP bw 1)<|lL 0 rfl<|lF<|Nn<|Nc<|lx rfl<|lw (vI ((t).length)) (wQ rfl rfl kr)<|lk (.bool (((((t).length:Nat):Int):Int) != 32))<|Na<|eF rfl (by simp [ht])<|jF<|aJ<|aE<|lx rfl<|lk (vP bw 0)<|lk (vP bw 0)<|lL 0 rfl<|lx rfl<|Nx<|Gf 1 rfl rfl kr kr kr kr rfl rfl rfl om (((xs)++t).length) fN (B8 ((xs)++t)) (by simp [B8]) (fun A21 c21=>?_)
 exact lk (vP bw 0)<|lk (vP bw 0)<|Nx<|pS 0 rfl<|aS<|jY [] rfl trivial (fun w hM=>⟨A21,c21,rfl,hM⟩)
theorem AO (bw:Nat) (A:Option Addr) (c:Nat) (xs:List UInt8) (w:World) (hO:bO [aB bw 140 [(vL A (xs) c),(vi 0)],cB A (xs) c] w) (hb:xs.length≤1048576) :
  Calls Tryz.prog 47 #[(vP bw 0)] w fun e w'=>∃ (A2:Option Addr) (c2:Nat),e = .returned (.tuple #[(vL A2 xs c2),(vi 0)])∧aK [aB bw 140 [(vL A (xs) c),(vi 0)],cB A (xs) c] w [aB bw 140 [(vL A (xs) c),(vi 0)],cB A (xs) c,cB A2 xs c2] w':=by
 refine eH Tryz.func47 25 (hO) rfl<|Nc<|lx rfl<|Ne<|lx rfl<|lk (vP bw 0)<|lk (vP bw 1)<|lL 0 rfl<|lF<|Nn<|Nc<|lx rfl<|lk (vP bw 0)<|lk (vP bw 0)<|lL 0 rfl<|lk (vI ((xs).length))<|lk (.bool (decide ((((xs).length:Nat):Int) > 1048576)))<|Na<|eF rfl (by simp; omega)<|Ni<|Nx<|pN 0 5 [] fun b19=>lx rfl<|lk (vP bw 0) ?_
 exact lk (vP bw 0)<|lL 0 rfl<|Nx<|uI (fun w hM=>hM.BQ 2 rfl 1)<|fJ jE 2 (B8 (xs)) rfl rfl kr rfl rfl rfl (by simp [B8]) (fun w hM=>eQ.mC (mG (i:=1) rfl w hM)) ((jU _)) om ((xs).length) fN (B8 (xs)) (by simp [B8]) (fun A24 c24=>lx rfl<|Nd<|sN [(vL A24 (xs) c24),(vi 0)] fun w hM=>⟨A24,c24,rfl,hM⟩)
section
def jP (b : Nat) (xs : List UInt8) : Ch where
 fp := [b]
 holds w := fQ w b xs
 ok w w' hb h := by
  obtain ⟨buf, h1, h2, h3⟩ := h
  exact ⟨buf, h1, h2, (hb b (by simp)).trans h3⟩
 lt w h c hc := by
  rw [List.mem_singleton] at hc
  subst hc
  exact h.lt
theorem SF {S:List Nat} {w:World} {A:Option Addr} {bs:List UInt8} (h:Ro S w (fun w=>aF w A (B8 bs))) (h0:0 < bs.length) {g o:Nat} (hA:A=some ⟨g,o,none⟩):g∉S:=fun hg=>by
 have hf:Fr S w { w with heap:=w.heap.setIfInBounds g (.map #[] 0) }:=⟨rfl,rfl,rfl,si,fun k _ hn=>by simp only; rw [Array.getElem?_setIfInBounds_ne (by intro e; subst e; exact hn hg)]⟩
 obtain ⟨b',o',hA',hlt,hc⟩:=h _ hf 0 _ (rS bs 0 _ (List.getElem?_eq_getElem h0))
 rw [hA] at hA'
 injection hA' with hA'
 injection hA' with e1 e2
 subst e1
 simp only [World.cell?] at hc
 rw [Array.getElem?_setIfInBounds_self_of_lt (by simpa using hlt)] at hc
 simp at hc
theorem SG {S:List Nat} {w:World} (h:Ro S w bW):0∉S∧1∉S:=by
 have key:∀ g,g < 2→g∉S:=fun g hg2 hg=>by
  have hf:Fr S w { w with heap:=w.heap.setIfInBounds g (.map #[] 0) }:=⟨rfl,rfl,rfl,si,fun k _ hn=>by simp only; rw [Array.getElem?_setIfInBounds_ne (by intro e; subst e; exact hn hg)]⟩
  have hv:=h _ hf
  have hlt:=hv.lt
  have hlt':g < w.heap.size:=by simp at hlt; omega
  have e:(w.heap.setIfInBounds g (.map #[] 0))[g]?=some (.map #[] 0):=by rw [Array.getElem?_setIfInBounds_self_of_lt hlt']
  rcases Nat.lt_or_ge g 1 with h1 | h1
  ·obtain rfl:g=0:=om
   have:=hv.init 0 _ rfl
   simp [World.cell?,e] at this
  ·obtain rfl:g=1:=om
   have:=hv.cons 0 _ rfl
   simp [World.cell?,e] at this
 exact ⟨key 0 om,key 1 om⟩
theorem SH (w:World) (r0:Rf [] w (bW)) :
  Calls Tryz.prog 73 #[] w fun e w'=>∃ (b:Nat),e = .returned (vP b 0)∧aK [] w [jP b []] w':=by
 refine (Gy w r0.here).mono ?_
 rintro e w' ⟨rfl,hf,hs⟩
 exact ⟨w.heap.size,rfl,(Mm.start w []).push (c:=jP w.heap.size []) hf hs (by simp [jP]) (by simp [jP])⟩
theorem SJ (b:Nat) (xs:List UInt8) (A:Option Addr) (c:Nat) (bs:List UInt8) (w:World) (hO:bO [jP b xs] w) (r0:Rf [jP b xs] w (bW)) (r1:Rf [jP b xs] w (fun w=>aF w A (B8 bs))) (hcap:bs.length≤c) (hlen:xs.length+bs.length≤549755813888) :
  Calls Tryz.prog 74 #[(vP b 0),(vL A bs c)] w fun e w'=>e = .returned (.tuple #[])∧aK [jP b xs] w [jP b (xs++bs)] w':=by
 have hv:bW w:=r0.here
 have hs:fQ w b xs:=hO.at (i:=0) rfl
 have hrow:aF w A (B8 bs):=r1.here
 have h2:2≤b:=by
  rcases Nat.lt_or_ge b 2 with h | h
  ·exfalso
   have:=SG r0
   simp [jP] at this
   omega
  ·exact h
 refine (GC b xs bs A c w hv h2 hs hrow hcap (fun h0 g o hA=>?_) om).mono ?_
 ·have:=SF r1 h0 hA
  simpa [jP] using this
 ·rintro e w' ⟨rfl,hf,hs'⟩
  exact ⟨rfl,hO.swap 0 rfl (c':=jP b (xs++bs)) hf hs' (fun k hk=>.inl hk) (by simp [jP])⟩
theorem SK (b:Nat) (xs:List UInt8) (w:World) (hO:bO [jP b xs] w) (r0:Rf [jP b xs] w (bW)) (hlen:xs.length≤549755813888) :
  Calls Tryz.prog 75 #[(vP b 0)] w fun e w'=>e = .returned (vS (dM xs))∧aK [jP b xs] w [jP b xs] w':=by
 have hs:fQ w b xs:=hO.at (i:=0) rfl
 refine (GF b xs w r0.here hs hlen).mono ?_
 rintro e w' ⟨rfl,hf⟩
 exact ⟨rfl,hO.iH hf⟩
section
variable {P : Program} {Q : Exit → Act → World → Prop} {n : Nat} {w0 : World} {F : List Nat} {E : cH} {cs : List Ch} {K : Act → World → Prop} {o : Oper} {d : Nat}
theorem SL {src dst e:TypeId} {x:Operand} {bs:List UInt8} (ho:o.op = .convert src dst x) (hd:o.dst=some d) (hs:P.underlying src=some .string) (ht:P.underlying dst=some (.slice e)) (he:P.underlying e=some (.int .u8)) (hk:bK n E o=true) (hx:aN E x=some (vS bs))
  (h:∀ b c,bs.length≤c→St n w0 F ((d,.slice (some ⟨b,0,none⟩) bs.length c)::E) (cs++[wR b e (B8 bs)]) K):cM P Q n w0 F E cs o K :=
 nE hd hk fun w hM=>by
  have hr:=run_bytes_of_string (P:=P) w src dst e (bD bs) hs ht he
  rw [Gq] at hr
  refine ⟨_,_,_,by unfold execOp; simp only [ho,bL hx,Sem.run_bind,hr]; rfl,hM.push (c:=wR w.heap.size e (B8 bs)) (((Fr.refl _ _).drew).alloc _) ⟨_,_,heap_alloc_new w.drew _,fun j v hj=>?_⟩ (by simp [wR]) (by simp [wR]),h _ _ (grownCap_ge _ _ _ _)⟩
  have hlt:=(List.getElem?_eq_some_iff.1 hj).1
  rw [dW] at hlt
  unfold bytesRow
  rw [Array.getElem?_append_left (by simp [bD]; exact hlt)]
  simpa [bD,B8] using hj
theorem SM {ty u:TypeId} {x y:Operand} {a:Nat} (ho:o.op = .binOp .shl ty x y u) (hx:aN E x=some (.int .u16 (a:Int))) (hy:aN E y=some (.int .u64 8)) (ha:a < 256):cJ P w0 F cs E o (.int .u16 ((a*256:Nat):Int)):=fun w _=>by
 unfold execOp
 simp only [ho,bL hx,bL hy,Sem.run_bind,pO,Result.andThen_ok,binOp,Op.shift]
 rw [if_neg om]
 simp only [Sem.run_pure,Result.andThen_ok]
 have e:IntKind.u16.wrap ((a:Int)*2 ^ (min (8:Int).toNat IntKind.u16.bits))=((a*256:Nat):Int):=by
  rw [IntKind.wrap_u16,show ((2:Int) ^ (min (8:Int).toNat IntKind.u16.bits))=256 from rfl]
  omega
 rw [e]
theorem SN {ty u:TypeId} {x y:Operand} {a b:Nat} (ho:o.op = .binOp .or ty x y u) (hx:aN E x=some (.int .u16 ((a*256:Nat):Int))) (hy:aN E y=some (.int .u16 ((b:Nat):Int))) (ha:a < 256) (hb:b < 256):cJ P w0 F cs E o (.int .u16 ((a*256+b:Nat):Int)):=Cm .or si _ ho hx hy (by
 have h1:a*256 ||| b=a*256+b:=by
  have h:=Nat.shiftLeft_add_eq_or_of_lt (b:=b) (i:=8) hb a
  rw [Nat.shiftLeft_eq] at h
  exact h.symm
 rw [← h1]
 exact u16_or_nat (a*256) b om om)
end
theorem Jk (x:List UInt8) {k:Nat} (h:k < 32):(dM x)[k]?=some ((dM x).getD k 0):=by
 rw [List.getD_eq_getElem?_getD,List.getElem?_eq_getElem (by rw [tX]; exact h)]
 rfl
theorem Jl (t:BT) (n s:Nat):nN t (BT.new n s)=iR t n s:=by
 unfold nN iR
 rw [vA]
 rfl
theorem SO (A:Option Addr) (c:Nat) (bs:List UInt8) (w:World) (r0:Rf [] w (bW)) (r1:Rf [] w (fun w=>aF w A (B8 bs))) (hcap:bs.length≤c) (hlen:bs.length≤549755813888) :
  Calls Tryz.prog 107 #[(vL A bs c)] w fun e w'=>e = .returned (vS (dM bs))∧aK [] w [] w':=by
 refine eH Tryz.func107 10 (Mm.start w []) rfl<|Nc<|lx rfl<|Nb<|Nx<|fP (fun w hM=>SH  w (r0.aO hM)) fun b4=>lx rfl<|Nb<|lx rfl<|Nx<|bZ [0] (fun w hM hO=>SJ b4 [] A c bs w hO (r0.bP hM [0]) (r1.bP hM [0]) om (by simp; omega))<|Nb<|lx rfl<|Nx<|bZ [0] (fun w hM hO=>SK b4 ([]++bs) w hO (r0.bP hM [0]) (by simp; omega))<|lx rfl<|Nd<|sN [(vS (dM ([]++bs)))] fun w hM=>?_
 -- ret: (vS (sha bs)) / [(vS (sha ([]++bs)))]
 exact ⟨rfl,(hM.pick [] rfl rfl)⟩
theorem SP (v:Nat) (w:World) (hv:v < 65536) :
  Calls Tryz.prog 108 #[(.int .u16 ((v:Nat):Int))] w fun e w'=>e = .returned (vI (16 - Lib.bitLen v))∧aK [] w [] w':=by
 have h:=Tryz.bits_LeadingZeros16 ((v:Nat):Int) w om om
 refine h.mono ?_
 rintro e w' ⟨rfl,rfl⟩
 have hb:=Lib.bitLen_le v 16 om om
 refine ⟨?_,Mm.start _ []⟩
 show Ending.returned (vi _)=Ending.returned (vi _)
 rw [Int.toNat_natCast,Int.ofNat_sub hb]
 rfl
theorem SQ (x:List UInt8) (w:World) (r0:Rf [] w (bW)) (hl:x.length≤1000) :
  Calls Tryz.prog 77 #[(vS x)] w fun e w'=>e = .returned (vI (fH x))∧aK [] w [] w':=by
 refine eH Tryz.func77 19 (Mm.start w []) rfl<|Nc<|lx rfl<|Nb<|lx rfl<|Nx<|SL (e:=5) (bs:=x) rfl rfl kr kr kr kr rfl (fun b6 c6 hcap6=>Nx<|bN (fun w hM=>SO (some ⟨b6,0,none⟩) c6 x w (r0.aO hM) (hM.aL (j:=0) rfl (fun _ h=>NU h)) om om)<|lx rfl<|Nf ?_)
 have hb0:=UInt8.toNat_lt ((dM x).getD 0 0)
 have hb1:=UInt8.toNat_lt ((dM x).getD 1 0)
 have hlv:=RQ x
 refine dN _ 9 kr (fun _ h=>h) ?_
 refine am 0 ?_
 refine aV 1 (.int .u8 ((((dM x).getD 0 0).toNat:Nat):Int)) rfl (Gg rfl kr rfl rfl (Jk x (k:=0) (by decide)))<|aV 2 (.int .u16 ((((dM x).getD 0 0).toNat:Nat):Int)) rfl (jH _ (fun _=>kr) rfl rfl (by rw [IntKind.wrap_u16]; omega))<|aV 3 (.int .u16 ((((dM x).getD 0 0).toNat*256:Nat):Int)) rfl (SM rfl rfl rfl hb0)<|am 4 ?_
 refine aV 5 (.int .u8 ((((dM x).getD 1 0).toNat:Nat):Int)) rfl (Gg rfl kr rfl rfl (Jk x (k:=1) (by decide)))<|aV 6 (.int .u16 ((((dM x).getD 1 0).toNat:Nat):Int)) rfl (jH _ (fun _=>kr) rfl rfl (by rw [IntKind.wrap_u16]; omega))<|aV 7 (.int .u16 (((pW x):Nat):Int)) rfl (SN rfl rfl rfl hb0 hb1)<|aa 8 ?_
 exact dO kr<|aJ<|Nc<|lx rfl<|Nx<|bN (fun w hM=>SP (pW x) w om)<|lw (vI (min (16 - Lib.bitLen (pW x)) 11)) (Ct rfl rfl rfl)<|lx rfl<|Nd<|sN [(vI (min (16 - Lib.bitLen (pW x)) 11))] fun w hM=>⟨rfl,(hM.pick [] rfl rfl)⟩
theorem Jm (bw:Nat) (A:Option Addr) (c:Nat) (xs:List UInt8) (A1:Option Addr) (c1:Nat) (t:List UInt8) (w:World) (hO:bO [aB bw 140 [(vL A (xs) c),(vi 0)],cB A (xs) c] w) (r0:Rf [aB bw 140 [(vL A (xs) c),(vi 0)],cB A (xs) c] w (fun w=>aF w A1 (B8 t))) (ht:t.length≤1000000) (hx:xs.length≤4293800000) :
  Calls Tryz.prog 78 #[(vP bw 0),(vL A1 t c1)] w fun e w'=>∃ (A2:Option Addr) (c2:Nat),e = .returned (.tuple #[])∧aK [aB bw 140 [(vL A (xs) c),(vi 0)],cB A (xs) c] w [aB bw 140 [(vL A2 (xs++aD t.length++t) c2),(vi 0)],cB A2 (xs++aD t.length++t) c2] w':=by
 refine bG Tryz.func78 22 (hO) rfl<|Nc<|lx rfl<|lk (vP bw 0)<|lk (vP bw 1)<|lL 0 rfl<|lT<|Nt<|aE<|lx rfl<|lk (vP bw 0)<|lk (vP bw 0)<|lL 0 rfl<|lx rfl<|lk (vI t.length)<|lw (vU t.length) (jH _ (fun _=>kr) rfl rfl (pM om om))<|Nx<|kC [1] (fun w hM hO=>AM A c xs t.length w hO om om) fun A217 c217=>lx rfl<|Nx<|fJ jE 1 (B8 t) rfl rfl kr rfl rfl rfl (by simp [B8]) (fun w hM=>eQ.mC (r0.now hM)) ((jU _)) (by have:=eJ t.length om; rw [List.length_append]; omega) ((xs++aD t.length++t).length) fN (B8 (xs++aD t.length++t)) (by simp [B8]) (fun A19 c19=>lk (vP bw 0)<|lk (vP bw 0)<|Nx ?_)
 exact pS 0 rfl<|aS<|jY [] rfl trivial (fun w hM=>⟨A19,c19,rfl,hM⟩)
theorem DJ (A:Option Addr) (c:Nat) (xs:List UInt8) (n:Nat) (w:World) (r0:Rf [] w (fun w=>aF w A (B8 xs))) (hn:n < 18446744073709551616) (hx:xs.length≤4294900000) :
  Calls Tryz.prog 76 #[(vL A xs c),(.int .u64 ((n:Nat):Int))] w fun e w'=>∃ (A2:Option Addr) (c2:Nat),e = .returned (vL A2 (xs++aD n) c2)∧aK [] w [cB A2 (xs++aD n) c2] w':=by
 exact bG Tryz.func76 13 (Mm.start w []) rfl<|Nc<|lx rfl<|Nb<|lx rfl<|lk (vI xs.length)<|lw (vI (xs.length+10)) bJ<|Nx<|Dz jE (xs.length+10) om rfl rfl kr rfl rfl (fun b8=>lx rfl<|Nx<|fJ jE 0 (B8 xs) rfl rfl kr rfl rfl rfl (by simp [B8]) (fun w hM=>eQ.mC (r0.now hM)) ((jU _)) om ((xs).length) fN (B8 (xs)) (by simp [B8]) (fun A10 c10=>lx rfl<|Nx<|kC [0] (fun w hM hO=>AM A10 c10 xs n w hO om om) fun A212 c212=>lx rfl<|Nd<|sN [(vL A212 (xs++aD n) c212)] fun w hM=>⟨A212,c212,rfl,hM⟩)) om
theorem SR (A:Option Addr) (c:Nat) (l:List (List UInt8)) (w:World) (hO:bO [cS A (l) c] w) (hl:l.length≤3072) :
  Calls Tryz.prog 42 #[(vL A l c)] w fun e w'=>e = .returned (.tuple #[])∧aK [cS A (l) c] w [dJ A (SS (gR l))] w':=by
 have ho:w.ownsRow 0 9 1 (.slice A l.length c) l.length (l.map eI):=hO.at (i:=0) rfl
 refine (xB ho rfl hl).mono ?_
 rintro e w' ⟨rfl,hf,hr⟩
 exact ⟨rfl,hO.swap 0 rfl (c':=dJ A (SS (gR l))) (by cases A <;> exact hf) hr (fun b hb=>.inl (by simp only [dJ] at hb; split at hb <;> simp_all [dA])) (by simp only [dJ]; split <;> simp [sD])⟩
theorem DK (A:Option Addr) (c:Nat) (l:List (List UInt8)) (n:Nat) (w:World) (r0:Rf [] w (bW)) (r1:Rf [] w (fun w=>aF w A (SS l))) (hz:eW (n:Int)=true) (h32:∀ x∈l,x.length=32) (hl:l.length≤68719476736) :
  Calls Tryz.prog 116 #[(vL A l c),(vI n)] w fun e w'=>∃ (X:TX),e = .returned (.tuple #[(vP X.bt 0),(vi 0)])∧aK [] w [cT X (dE l n)] w':=by
 refine bG Tryz.func116 29 (Mm.start w []) rfl<|Nc<|lx rfl<|Nb<|lx rfl<|Nx<|fP (fun w hM=>qV n 0 w ag (by unfold cG; decide)) fun X12=>lx rfl<|Ne<|lx rfl<|lF<|Nn<|Nc<|lx rfl<|lk (vI l.length)<|lx rfl<|Ng<|sL (fun i=>i≤l.length) (fun i=>l.length - i) (fun i=>[(4,(.pointer none)),(5,(vi 0)),(6,(vP X12.bt 0)),(18,(vL A l c)),(19,(vI l.length)),(20,(vI i))]) (fun i=>[cT X12 (dE (l.take i) n)]) 0 (Nat.zero_le _) (fun _ h=>h) ?_
 intro i hi
 show St _ _ _ [(4,(.pointer none)),(5,(vi 0)),(6,(vP X12.bt 0)),(18,(vL A l c)),(19,(vI l.length)),(20,(vI i))] [cT X12 (dE (l.take i) n)] _
 refine Nc<|lk (.bool (decide (((i:Nat):Int) < ((l.length:Nat):Int)))) ?_
 refine aS (aJ (aQ (bR rfl (fun hc21=>?_) (fun hc21=>?_))))
 ·have hd21:=of_decide_eq_true hc21
  have hlt:i < l.length:=om
  refine Nm<|aE ?_
  obtain ⟨x0,hx0⟩:∃ ξ,(l)[i]?=some ξ:=⟨_,List.getElem?_eq_getElem om⟩
  refine St.eE (fun w hM=>r1.now hM) (eG hx0) (fun p22 q22 hA22 hc22=>lw (vP p22 (q22+i)) (rR 9 hA22)<|lW (rW hc22)<|lx rfl<|Nv<|lx rfl<|Nx<|bZ [0] (fun w hM hO=>xG X12 (dE (l.take i) n) x0 w hO (r0.bP hM [0]) (h32 _ (List.mem_of_getElem? hx0)))<|Nk<|aE<|lw (vI (i+1)) bJ<|lx rfl<|Na ?_)
  rw [show (dE (l.take i) n).change x0 1=dE (l.take (i+1)) n from by rw [List.take_add_one,hx0]; exact (uY _ _ _).symm]
  exact sA (i+1) (by show _≤_; omega) (by show l.length - (i+1) < l.length - i; omega) (fun w hM=>hM)
 ·have hd21:=of_decide_eq_false hc21
  obtain rfl:i=l.length:=om
  rw [List.take_length]
  exact Nj<|aE<|lx rfl<|Nd<|sN [(vP X12.bt 0),(vi 0)] fun w hM=>⟨X12,rfl,hM⟩
theorem SU (X:TX) (t:BT) (n s:Nat) (w:World) (r0:Rf [] w (fun w=>(cT X t).holds w)) (hz:eW (n:Int)=true) (hu:cG s) (ht:iR t n s=true) :
  Calls Tryz.prog 119 #[(vP X.bt 0),(vI n),(.int .u64 ((s:Nat):Int))] w fun e w'=>e = .returned bT∧aK [] w [] w':=by
 exact kQ Tryz.func119 25 (Mm.start w []) rfl<|Nc<|lx rfl<|Nb<|lx rfl<|Nx<|fP (fun w hM=>qV n s w ag ag) fun X12=>lx rfl<|Ne<|lx rfl<|lF<|Nn<|aE<|lx rfl<|Nx<|fP (fun w hM=>xH X t X12 (BT.new n s) w (r0.aO hM) (hM.aL (j:=0) rfl (fun _ h=>h)) (by rw [Jl]; exact ht)) fun Z20=>lx rfl<|Nb<|lx rfl<|lT<|lx rfl<|Nd<|sN [bT] fun w hM=>⟨rfl,(hM.pick [] rfl rfl)⟩
theorem SV (X:TX) (t:BT) (n s:Nat) (w:World) (r0:Rf [] w (fun w=>(cT X t).holds w)) (hz:eW (n:Int)=true) (hu:cG s) (ht:iR t n s=false) :
  Calls Tryz.prog 119 #[(vP X.bt 0),(vI n),(.int .u64 ((s:Nat):Int))] w fun e w'=>e = .returned bF∧aK [] w [] w':=by
 exact kQ Tryz.func119 25 (Mm.start w []) rfl<|Nc<|lx rfl<|Nb<|lx rfl<|Nx<|fP (fun w hM=>qV n s w ag ag) fun X12=>lx rfl<|Ne<|lx rfl<|lF<|Nn<|aE<|lx rfl<|Nx<|bN (fun w hM=>QK X t X12 (BT.new n s) w (r0.aO hM) (hM.aL (j:=0) rfl (fun _ h=>h)) (by rw [Jl]; exact ht))<|lx rfl<|Nb<|lx rfl<|lF<|lx rfl<|Nd<|sN [bF] fun w hM=>⟨rfl,(hM.pick [] rfl rfl)⟩
theorem DL (X:TX) (t:BT) (n s:Nat) (w:World) (r0:Rf [] w (fun w=>(cT X t).holds w)) (hz:eW (n:Int)=true) (hu:cG s) :
  Calls Tryz.prog 119 #[(vP X.bt 0),(vI n),(.int .u64 ((s:Nat):Int))] w fun e w'=>e = .returned (.bool (iR t n s))∧aK [] w [] w':=by
 cases h:iR t n s with
 | true=>exact SU X t n s w r0 hz hu h
 | false=>exact SV X t n s w r0 hz hu h
theorem SW (k n:Nat) (w:World) (h0:500 < k) :
  Calls Tryz.prog 19 #[(vI k),(vI n)] w fun e w'=>e = .returned (.tuple #[(vi 2),(vi 0),(vi 0)])∧aK [] w [] w':=by
 exact bG Tryz.func19 20 (Mm.start w []) rfl<|Nc<|lx rfl<|Ne<|lx rfl<|lk (.bool (decide (((k:Nat):Int) < 0)))<|lx rfl<|St.known 9 (b':=false) rfl si<|lx rfl<|lg (.bool (decide (((n:Nat):Int) < 0)))<|lk (.bool (decide (((n:Nat):Int) < 0)))<|Na<|eF rfl si<|Nl<|Nc<|lx rfl<|lk (.bool (decide (((k:Nat):Int) > 500)))<|Na<|rV rfl (by simp; omega)<|Nc<|lx rfl<|Nh<|sN [(vi 2),(vi 0),(vi 0)] fun w hM=>⟨rfl,hM⟩
theorem Jn (k n:Nat) (w:World) (h0:k≤500) :
  Calls Tryz.prog 19 #[(vI k),(vI n)] w fun e w'=>e = .returned (.tuple #[(vi 1),(.int .i64 (iM ((k+k / 2:Nat):Int))),(vi 0)])∧aK [] w [] w':=by
 refine bG Tryz.func19 20 (Mm.start w []) rfl<|Nc<|lx rfl<|Ne<|lx rfl<|lk (.bool (decide (((k:Nat):Int) < 0)))<|lx rfl<|St.known 9 (b':=false) rfl si<|lx rfl<|lg (.bool (decide (((n:Nat):Int) < 0)))<|lk (.bool (decide (((n:Nat):Int) < 0)))<|Na<|eF rfl si<|Nl<|Nc<|lx rfl<|lk (.bool (decide (((k:Nat):Int) > 500)))<|Na<|eF rfl (by simp; omega)<|Ni<|lx rfl<|lw (vI (k / 2)) (Az rfl rfl rfl om om)<|lw (vI (k+(k / 2))) bJ<|Nx ?_
 exact bN (fun w hM=>Df ((k+(k / 2):Nat):Int) w )<|lx rfl<|Nd<|sN [(vi 1),(.int .i64 (iM ((k+(k / 2):Nat):Int))),(vi 0)] fun w hM=>⟨rfl,hM⟩
end
section
section
variable {P : Program} {w0 : World} {F : List Nat} {E : cH} {cs : List Ch} {o : Oper}
theorem SX {ty e:TypeId} {x i:Operand} {k:IntKind} {l:List Value} {j m:Nat} {v:Value} (ho:o.op = .index ty x i) (hu:P.underlying ty=some (.array m e)) (hs:nI P e=true) (h1:fO P e=some 1) (hx:aN E x=some (.agg l.toArray)) (hi:aN E i=some (.int k (j:Int))) (hj:j < m) (hv:l[j]?=some v):cJ P w0 F cs E o v:=fun w _=>by
 have hsz:(sizeOf e).run P w = .ok 1 w:=by
  unfold fO at h1
  cases hI:P.info? e with
  | none=>rw [hI] at h1; cases h1
  | some t =>
    rw [hI] at h1
    simp only [Option.map_some,Option.some.injEq] at h1
    simp only [sizeOf,typeInfo,Sem.run_bind,Sem.run_pure]
    simp [hI,h1]
 unfold execOp
 simp only [ho,bL hx,bL hi,Instr.index,asIntOf,Sem.run_bind,Sem.run_pure,Result.andThen_ok,run_underlying hu]
 rw [if_pos om]
 simp [hsz,part,Gb hs w,hv,Sem.run_bind]
end
abbrev oU : Value := .pointer none
def cA (Xs : List TX) : List Value := Xs.map fun X => vP X.bt 0
theorem gT (Xs:List TX):(cA Xs).length=Xs.length:=by simp [cA]
theorem Jo {Xs:List TX} {k:Nat} {X:TX} (h:Xs[k]?=some X):(cA Xs)[k]?=some (vP X.bt 0):=by simp [cA,h]
theorem DM {Xs:List TX} {k:Nat} {X:TX} (h:Xs[k]?=some X):(cA Xs)[0+k]?=some (vP X.bt 0):=by rw [Nat.zero_add]; exact Jo h
theorem xT (Xs:List TX):∀ v∈cA Xs,v.oneCell'=true:=by
 intro v hv
 obtain ⟨X,_,rfl⟩:=List.mem_map.1 hv
 rfl
theorem Jp {Xs:List TX} {i:Nat} (X:TX) (hl:Xs.length=i) (hi:i < 12):(cA Xs++List.replicate (12 - i) oU).set (0+i) (vP X.bt 0)=cA (Xs++[X])++List.replicate (12 - (i+1)) oU:=by
 subst hl
 rw [Nat.zero_add,List.set_append_right _ _ (by rw [gT]; exact Nat.le_refl _),gT,Nat.sub_self,show 12 - Xs.length=(12 - (Xs.length+1))+1 by omega,List.replicate_succ,List.set_cons_zero]
 simp [cA]
abbrev rD (Xs : List TX) : List Nat := Xs.flatMap fun X => [X.bt, X.bc]
theorem SY (Xs:List TX):rD Xs=(Xs.map fun X=>cT X (BT.new 0 0)).flatMap Ch.fp:=by
 induction Xs with
 | nil=>rfl
 | cons X Xs ih=>simp only [rD,List.flatMap_cons,List.map_cons] at ih ⊢; rw [ih]; rfl
def eP (Xs : List TX) (ts : List BT) : Ch where
 fp := rD Xs
 holds w := Xs.length = ts.length ∧ (∀ (k : Nat) (X : TX) (t : BT), Xs[k]? = some X → ts[k]? = some t → (cT X t).holds w) ∧ (rD Xs).Nodup
 ok w w' hb h := ⟨h.1, fun k X t hX ht => (cT X t).ok w w' (fun b hbc => hb b (List.mem_flatMap.2 ⟨X, List.mem_of_getElem? hX, hbc⟩)) (h.2.1 k X t hX ht), h.2.2⟩
 lt w h b hb := by
  obtain ⟨X, hX, hbc⟩ := List.mem_flatMap.1 hb
  obtain ⟨k, hk⟩ := List.mem_iff_getElem?.1 hX
  have hlt := (List.getElem?_eq_some_iff.1 hk).1
  exact (cT X (ts[k]'(by rw [← h.1]; exact hlt))).lt w (h.2.1 k X _ hk (List.getElem?_eq_getElem _)) b hbc
theorem AQ {w:World} {Xs:List TX} {ts:List BT} (h:(eP Xs ts).holds w) {k:Nat} {X:TX} {t:BT} (hX:Xs[k]?=some X) (ht:ts[k]?=some t):(cT X t).holds w:=h.2.1 k X t hX ht
section
variable {w0 w : World} {S : List Nat} {cs : List Ch} {Xs : List TX} {ts : List BT} {X : TX} {t : BT}
theorem Mm.MD (h:Mm w0 S cs w):Mm w0 S (cs++[eP [] []]) w :=
 h.push (c:=eP [] []) (Fr.refl _ _) ⟨rfl,si,by simp [rD]⟩ (by simp [eP,rD]) (by simp [eP,rD])
theorem Mm.ME (h:Mm w0 S (cs++[eP Xs ts,cT X t]) w):Mm w0 S (cs++[eP (Xs++[X]) (ts++[t])]) w:=by
 have hfp:(cs++[eP (Xs++[X]) (ts++[t])]).flatMap Ch.fp=(cs++[eP Xs ts,cT X t]).flatMap Ch.fp:=by
  simp [List.flatMap_append,eP,rD,iW]
 have h1:=h.hold (eP Xs ts) si
 have h2:=h.hold (cT X t) si
 refine ⟨h.fr,fun c hc=>?_,by rw [hfp]; exact h.nodup,fun b hb=>h.own b (by rw [← hfp]; exact hb)⟩
 rcases List.mem_append.1 hc with hc | hc
 ·exact h.hold c (by simp [hc])
 ·rw [List.mem_singleton] at hc
  subst hc
  refine ⟨by simp [h1.1],fun k Y u hY hu=>?_,?_⟩
  ·rcases Nat.lt_or_ge k Xs.length with hk | hk
   ·rw [List.getElem?_append_left hk] at hY
    rw [List.getElem?_append_left (by rw [← h1.1]; exact hk)] at hu
    exact h1.2.1 k Y u hY hu
   ·rw [List.getElem?_append_right hk] at hY
    rw [List.getElem?_append_right (by rw [← h1.1]; exact hk)] at hu
    have h0:k - Xs.length=0:=by
     have:=(List.getElem?_eq_some_iff.1 hY).1
     simp at this
     omega
    rw [h0] at hY
    rw [← h1.1,h0] at hu
    simp at hY hu
    subst hY hu
    exact h2
  ·have hn:=h.nodup
   rw [← hfp,List.flatMap_append,List.nodup_append] at hn
   simpa [eP] using hn.2.1
theorem bO.XY {w':World} {k:Nat} {t':BT} (hO:bO [eP Xs ts] w) (hX:Xs[k]?=some X) (_:ts[k]?=some t) (hf:Fr [X.bc] w w') (ht':dU w' X.bt X.bc X.cap X.rest t'):aK [eP Xs ts] w [eP Xs (ts.set k t')] w':=by
 have h0:(eP Xs ts).holds w:=hO.at (i:=0) rfl
 refine hO.swap 0 rfl (c':=eP Xs (ts.set k t')) (hf.mono fun b hb=>.inl ?_) ⟨by rw [List.length_set]; exact h0.1,fun j Y u hY hu=>?_,h0.2.2⟩ (fun b hb=>.inl hb) h0.2.2
 ·simp only [List.mem_singleton] at hb
  subst hb
  exact List.mem_flatMap.2 ⟨X,List.mem_of_getElem? hX,si⟩
 ·by_cases hjk:k=j
  ·subst hjk
   have e:Y=X:=by rw [hX] at hY; exact (Option.some.inj hY).symm
   subst e
   have hlt:k < ts.length:=by rw [← h0.1]; exact (List.getElem?_eq_some_iff.1 hX).1
   rw [List.getElem?_set_self hlt] at hu
   injection hu with hu
   subst hu
   exact ht'
  ·rw [List.getElem?_set_ne hjk] at hu
   have hold:=h0.2.1 j Y u hY hu
   refine (cT Y u).ok w w' (fun b hb=>hf.block b ((cT Y u).lt w hold b hb) fun hm=>?_) hold
   simp only [List.mem_singleton] at hm
   subst hm
   have hn:=h0.2.2
   rw [SY] at hn
   exact zP hn (i:=k) (j:=j) (c:=cT X (BT.new 0 0)) (d:=cT Y (BT.new 0 0)) (by simp [hX]) (by simp [hY]) hjk X.bc (by simp [iW]) hb
end
def AR (i : Nat) : List BT := (List.range i).map fun k => BT.new 12 (k + 1)
theorem SZ (i:Nat):AR (i+1)=AR i++[BT.new 12 (i+1)]:=by simp [AR,List.range_succ]
end
end Go.Proofs.YtignomkdngnmgaaGreatDoor
