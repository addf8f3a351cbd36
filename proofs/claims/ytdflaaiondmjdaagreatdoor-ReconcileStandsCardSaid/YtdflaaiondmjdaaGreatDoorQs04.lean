/- Part 4 of a proof: what its row uses. -/
import Derived.Test.YtdflaaiondmjdaaGreatDoorQs03
set_option maxRecDepth 100000
set_option maxHeartbeats 1000000
namespace Go.Proofs.YtdflaaiondmjdaaGreatDoor
open Go.RowKit
section
def cSha (b : Nat) (xs : List UInt8) : Ch where
 fp := [b]
 holds w := ShaAt w b xs
 ok w w' hb h := by
  obtain ⟨buf, h1, h2, h3⟩ := h
  exact ⟨buf, h1, h2, (hb b (by simp)).trans h3⟩
 lt w h c hc := by
  rw [List.mem_singleton] at hc
  subst hc
  exact h.lt
theorem row_far {S:List Nat} {w:World} {A:Option Addr} {bs:List UInt8} (h:Ro S w (fun w=>RowIn w A (B8 bs))) (h0:0 < bs.length) {g o:Nat} (hA:A=some ⟨g,o,none⟩):g∉S:=fun hg=>by
 have hf:Fr S w { w with heap:=w.heap.setIfInBounds g (.map #[] 0) }:=⟨rfl,rfl,rfl,by simp,fun k _ hn=>by simp only; rw [Array.getElem?_setIfInBounds_ne (by intro e; subst e; exact hn hg)]⟩
 obtain ⟨b',o',hA',hlt,hc⟩:=h _ hf 0 _ (B8_get bs 0 _ (List.getElem?_eq_getElem h0))
 rw [hA] at hA'
 injection hA' with hA'
 injection hA' with e1 e2
 subst e1
 simp only [World.cell?] at hc
 rw [Array.getElem?_setIfInBounds_self_of_lt (by simpa using hlt)] at hc
 simp at hc
theorem vars_far {S:List Nat} {w:World} (h:Ro S w Vars):0∉S∧1∉S:=by
 have key:∀ g,g < 2→g∉S:=fun g hg2 hg=>by
  have hf:Fr S w { w with heap:=w.heap.setIfInBounds g (.map #[] 0) }:=⟨rfl,rfl,rfl,by simp,fun k _ hn=>by simp only; rw [Array.getElem?_setIfInBounds_ne (by intro e; subst e; exact hn hg)]⟩
  have hv:=h _ hf
  have hlt:=hv.lt
  have hlt':g < w.heap.size:=by simp at hlt; omega
  have e:(w.heap.setIfInBounds g (.map #[] 0))[g]?=some (.map #[] 0):=by rw [Array.getElem?_setIfInBounds_self_of_lt hlt']
  rcases Nat.lt_or_ge g 1 with h1 | h1
  ·obtain rfl:g=0:=by omega
   have:=hv.init 0 _ rfl
   simp [World.cell?,e] at this
  ·obtain rfl:g=1:=by omega
   have:=hv.cons 0 _ rfl
   simp [World.cell?,e] at this
 exact ⟨key 0 (by omega),key 1 (by omega)⟩
theorem cShaNew_any (w:World) (r0:Rf [] w (Vars)) :
  Calls Tryz.prog 110 #[] w fun e w'=>∃ (b:Nat),e = .returned (vP b 0)∧Back [] w [cSha b []] w':=by
 refine (shaNew_any w r0.here).mono ?_
 rintro e w' ⟨rfl,hf,hs⟩
 exact ⟨w.heap.size,rfl,(Mm.start w []).push (c:=cSha w.heap.size []) hf hs (by simp [cSha]) (by simp [cSha])⟩
theorem cShaWr_any (b:Nat) (xs:List UInt8) (A:Option Addr) (c:Nat) (bs:List UInt8) (w:World) (hO:Own [cSha b xs] w) (r0:Rf [cSha b xs] w (Vars)) (r1:Rf [cSha b xs] w (fun w=>RowIn w A (B8 bs))) (hcap:bs.length≤c) (hlen:xs.length+bs.length≤549755813888) :
  Calls Tryz.prog 111 #[(vP b 0),(vL A bs c)] w fun e w'=>e = .returned (.tuple #[])∧Back [cSha b xs] w [cSha b (xs++bs)] w':=by
 have hv:Vars w:=r0.here
 have hs:ShaAt w b xs:=hO.at (i:=0) rfl
 have hrow:RowIn w A (B8 bs):=r1.here
 have h2:2≤b:=by
  rcases Nat.lt_or_ge b 2 with h | h
  ·exfalso
   have:=vars_far r0
   simp [cSha] at this
   omega
  ·exact h
 refine (shaWrite_far b xs bs A c w hv h2 hs hrow hcap (fun h0 g o hA=>?_) (by omega)).mono ?_
 ·have:=row_far r1 h0 hA
  simpa [cSha] using this
 ·rintro e w' ⟨rfl,hf,hs'⟩
  exact ⟨rfl,hO.swap 0 rfl (c':=cSha b (xs++bs)) hf hs' (fun k hk=>.inl hk) (by simp [cSha])⟩
theorem cShaSum_any (b:Nat) (xs:List UInt8) (w:World) (hO:Own [cSha b xs] w) (r0:Rf [cSha b xs] w (Vars)) (hlen:xs.length≤549755813888) :
  Calls Tryz.prog 112 #[(vP b 0)] w fun e w'=>e = .returned (vS (sha xs))∧Back [cSha b xs] w [cSha b xs] w':=by
 have hs:ShaAt w b xs:=hO.at (i:=0) rfl
 refine (shaSum_any b xs w r0.here hs hlen).mono ?_
 rintro e w' ⟨rfl,hf⟩
 exact ⟨rfl,hO.fr0 hf⟩
section
variable {P : Program} {Q : Exit → Act → World → Prop} {n : Nat} {w0 : World} {F : List Nat} {E : Env} {cs : List Ch} {K : Act → World → Prop} {o : Oper} {d : Nat}
theorem opBytesC {src dst e:TypeId} {x:Operand} {bs:List UInt8} (ho:o.op = .convert src dst x) (hd:o.dst=some d) (hs:P.underlying src=some .string) (ht:P.underlying dst=some (.slice e)) (he:P.underlying e=some (.int .u8)) (hk:opOk n E o=true) (hx:evO E x=some (vS bs))
  (h:∀ b c,bs.length≤c→St n w0 F ((d,.slice (some ⟨b,0,none⟩) bs.length c)::E) (cs++[cBlk b e (B8 bs)]) K):OpW P Q n w0 F E cs o K :=
 opEff hd hk fun w hM=>by
  have hr:=run_bytes_of_string (P:=P) w src dst e (strOf bs) hs ht he
  rw [strOf_sz] at hr
  refine ⟨_,_,_,by unfold execOp; simp only [ho,evE_of hx,Sem.run_bind,hr]; rfl,hM.push (c:=cBlk w.heap.size e (B8 bs)) (((Fr.refl _ _).drew).alloc _) ⟨_,_,heap_alloc_new w.drew _,fun j v hj=>?_⟩ (by simp [cBlk]) (by simp [cBlk]),h _ _ (grownCap_ge _ _ _ _)⟩
  have hlt:=(List.getElem?_eq_some_iff.1 hj).1
  rw [B8_length] at hlt
  unfold bytesRow
  rw [Array.getElem?_append_left (by simp [strOf]; exact hlt)]
  simpa [strOf,B8] using hj
theorem rShl8 {ty u:TypeId} {x y:Operand} {a:Nat} (ho:o.op = .binOp .shl ty x y u) (hx:evO E x=some (.int .u16 (a:Int))) (hy:evO E y=some (.int .u64 8)) (ha:a < 256):RunV P w0 F cs E o (.int .u16 ((a*256:Nat):Int)):=fun w _=>by
 unfold execOp
 simp only [ho,evE_of hx,evE_of hy,Sem.run_bind,run_eqGuard_int,Result.andThen_ok,binOp,Op.shift]
 rw [if_neg (by omega)]
 simp only [Sem.run_pure,Result.andThen_ok]
 have e:IntKind.u16.wrap ((a:Int)*2 ^ (min (8:Int).toNat IntKind.u16.bits))=((a*256:Nat):Int):=by
  rw [IntKind.wrap_u16,show ((2:Int) ^ (min (8:Int).toNat IntKind.u16.bits))=256 from rfl]
  omega
 rw [e]
theorem rOr16 {ty u:TypeId} {x y:Operand} {a b:Nat} (ho:o.op = .binOp .or ty x y u) (hx:evO E x=some (.int .u16 ((a*256:Nat):Int))) (hy:evO E y=some (.int .u16 ((b:Nat):Int))) (ha:a < 256) (hb:b < 256):RunV P w0 F cs E o (.int .u16 ((a*256+b:Nat):Int)):=rBits .or (by simp) _ ho hx hy (by
 have h1:a*256 ||| b=a*256+b:=by
  have h:=Nat.shiftLeft_add_eq_or_of_lt (b:=b) (i:=8) hb a
  rw [Nat.shiftLeft_eq] at h
  exact h.symm
 rw [← h1]
 exact u16_or_nat (a*256) b (by omega) (by omega))
end
theorem sha_at (x:List UInt8) {k:Nat} (h:k < 32):(sha x)[k]?=some ((sha x).getD k 0):=by
 rw [List.getD_eq_getElem?_getD,List.getElem?_eq_getElem (by rw [sha_len]; exact h)]
 rfl
theorem tsame_new (t:BT) (n s:Nat):tsame t (BT.new n s)=isT t n s:=by
 unfold tsame isT
 rw [new_len]
 rfl
theorem cSum_any (A:Option Addr) (c:Nat) (bs:List UInt8) (w:World) (r0:Rf [] w (Vars)) (r1:Rf [] w (fun w=>RowIn w A (B8 bs))) (hcap:bs.length≤c) (hlen:bs.length≤549755813888) :
  Calls Tryz.prog 114 #[(vL A bs c)] w fun e w'=>e = .returned (vS (sha bs))∧Back [] w [] w':=by
 refine sE1 Tryz.func114 10 (Mm.start w []) ?_
 refine stSeq (reg (la ?_))
 refine liNil (qThen (stSeq (reg (li rfl (opK0 (fun w hM=>(cShaNew_any  w (r0.go0 hM)).mono ?_))))))
 rintro e w' ⟨b4,rfl,hP⟩
 refine ⟨_,_,rfl,hP,?_⟩; clear hP hM
 refine la ?_
 refine liNil (qThen (stSeq (reg (lm ?_))))
 refine lm ?_
 refine li rfl (opK [0] _ (fun w hM hO=>(cShaWr_any b4 [] A c bs w hO (r0.goS hM [0]) (r1.goS hM [0]) (by omega) (by simp; omega)).mono ?_))
 rintro e w' ⟨rfl,hP⟩
 refine ⟨_,[_],_,rfl,hP,rfl,?_⟩; clear hP hM hO
 refine liNil (qThen (stSeq (reg (lm ?_))))
 refine li rfl (opK [0] _ (fun w hM hO=>(cShaSum_any b4 ([]++bs) w hO (r0.goS hM [0]) (by simp; omega)).mono ?_))
 rintro e w' ⟨rfl,hP⟩
 refine ⟨_,[_],_,rfl,hP,rfl,?_⟩; clear hP hM hO
 refine la ?_
 refine liNil (qThen (stRet (sN [(vS (sha ([]++bs)))] fun w hM=>?_)))
 -- ret: (vS (sha bs)) / [(vS (sha ([]++bs)))]
 exact ⟨rfl,(hM.pick [] rfl rfl)⟩
theorem qLz16 (v:Nat) (w:World) (hv:v < 65536) :
  Calls Tryz.prog 115 #[(.int .u16 ((v:Nat):Int))] w fun e w'=>e = .returned (vI (16 - Lib.bitLen v))∧Back [] w [] w':=by
 have h:=Tryz.bits_LeadingZeros16 ((v:Nat):Int) w (by omega) (by omega)
 refine h.mono ?_
 rintro e w' ⟨rfl,rfl⟩
 have hb:=Lib.bitLen_le v 16 (by omega) (by omega)
 refine ⟨?_,Mm.start _ []⟩
 show Ending.returned (.int .i64 _)=Ending.returned (.int .i64 _)
 rw [Int.toNat_natCast,Int.ofNat_sub hb]
 rfl
theorem qLevel (x:List UInt8) (w:World) (r0:Rf [] w (Vars)) (hl:x.length≤1000) :
  Calls Tryz.prog 66 #[(vS x)] w fun e w'=>e = .returned (vI (lvl x))∧Back [] w [] w':=by
 refine sE1 Tryz.func66 19 (Mm.start w []) ?_
 refine stSeq (reg (la ?_))
 refine liNil (qThen (stSeq (reg (lm ?_))))
 refine li rfl (opBytesC (e:=5) (bs:=x) rfl rfl (by kernel_rfl) (by kernel_rfl) (by kernel_rfl) (by kernel_rfl) rfl (fun b6 c6 hcap6=>?_))
 refine li rfl (opK0 (fun w hM=>(cSum_any (some ⟨b6,0,none⟩) c6 x w (r0.go0 hM) (hM.keep0 (j:=0) rfl (fun _ h=>cBlk_row h)) (by omega) (by omega)).mono ?_))
 rintro e w' ⟨rfl,hP⟩
 refine ⟨_,_,rfl,hP,?_⟩; clear hP hM
 refine la ?_
 refine liNil (qThen (stSeq ?_))
 have hb0:=UInt8.toNat_lt ((sha x).getD 0 0)
 have hb1:=UInt8.toNat_lt ((sha x).getD 1 0)
 have hlv:=lvV_lt x
 refine anyBegin _ 9 (by kernel_rfl) (fun _ h=>h) ?_
 refine am 0 ?_
 refine av 1 (.int .u8 ((((sha x).getD 0 0).toNat:Nat):Int)) rfl (rIndexS rfl (by kernel_rfl) rfl rfl (sha_at x (k:=0) (by decide))) ?_
 refine av 2 (.int .u16 ((((sha x).getD 0 0).toNat:Nat):Int)) rfl (rIntC _ (fun _=>by kernel_rfl) rfl rfl (by rw [IntKind.wrap_u16]; omega)) ?_
 refine av 3 (.int .u16 ((((sha x).getD 0 0).toNat*256:Nat):Int)) rfl (rShl8 rfl rfl rfl hb0) ?_
 refine am 4 ?_
 refine av 5 (.int .u8 ((((sha x).getD 1 0).toNat:Nat):Int)) rfl (rIndexS rfl (by kernel_rfl) rfl rfl (sha_at x (k:=1) (by decide))) ?_
 refine av 6 (.int .u16 ((((sha x).getD 1 0).toNat:Nat):Int)) rfl (rIntC _ (fun _=>by kernel_rfl) rfl rfl (by rw [IntKind.wrap_u16]; omega)) ?_
 refine av 7 (.int .u16 (((lvV x):Nat):Int)) rfl (rOr16 rfl rfl rfl hb0 hb1) ?_
 refine aa 8 ?_
 refine anyDone (by kernel_rfl) ?_
 refine qThen (stSeq (reg (lm ?_)))
 refine li rfl (opK0 (fun w hM=>(qLz16 (lvV x) w (by omega)).mono ?_))
 rintro e w' ⟨rfl,hP⟩
 refine ⟨_,_,rfl,hP,?_⟩; clear hP hM
 refine lv (v:=(vI (min (16 - Lib.bitLen (lvV x)) 11))) (rMinN rfl rfl rfl) ?_
 refine la ?_
 refine liNil (qThen (stRet (sN [(vI (min (16 - Lib.bitLen (lvV x)) 11))] fun w hM=>?_)))
 exact ⟨rfl,(hM.pick [] rfl rfl)⟩
theorem qWBytes (bw:Nat) (A:Option Addr) (c:Nat) (xs:List UInt8) (A1:Option Addr) (c1:Nat) (t:List UInt8) (w:World) (hO:Own [cAt bw 180 [(vL A (xs) c),(.int .i64 0)],cB A (xs) c] w) (r0:Rf [cAt bw 180 [(vL A (xs) c),(.int .i64 0)],cB A (xs) c] w (fun w=>RowIn w A1 (B8 t))) (ht:t.length≤1000000) (hx:xs.length≤4293800000) :
  Calls Tryz.prog 69 #[(vP bw 0),(vL A1 t c1)] w fun e w'=>∃ (A2:Option Addr) (c2:Nat),e = .returned (.tuple #[])∧Back [cAt bw 180 [(vL A (xs) c),(.int .i64 0)],cB A (xs) c] w [cAt bw 180 [(vL A2 (xs++num t.length++t) c2),(.int .i64 0)],cB A2 (xs++num t.length++t) c2] w':=by
 refine sE2 Tryz.func69 22 (hO) ?_
 refine stSeq (reg (lm ?_))
 refine lc (vP bw 0) ?_
 refine lc (vP bw 1) ?_
 refine ll 0 ?_
 refine lc (.bool true) ?_
 refine liNil (qThen (stTrue rfl (reg ?_)))
 refine lm ?_
 refine lm ?_
 refine lc (vP bw 0) ?_
 refine lc (vP bw 0) ?_
 refine ll 0 ?_
 refine lm ?_
 refine lc (vI t.length) ?_
 refine lv (v:=(vU t.length)) (rIntC _ (fun _=>by kernel_rfl) rfl rfl (wrapU64_id (by omega) (by omega))) ?_
 refine li rfl (opK [1] _ (fun w hM hO=>(rsExtend_any A c xs t.length w hO (by omega) (by omega)).mono ?_))
 rintro e w' ⟨A217,c217,rfl,hP⟩
 refine ⟨_,[_],_,rfl,hP,rfl,?_⟩; clear hP hM hO
 refine lm ?_
 refine li rfl (opAppend el_u8 1 (B8 t) rfl rfl (by kernel_rfl) rfl rfl rfl (by simp [B8]) (fun w hM=>CellsAt.of_row (r0.now hM)) ((B8_one _)) (by have:=num_length t.length (by omega); rw [List.length_append]; omega) ((xs++num t.length++t).length) (by first | exact (List.length_append ..).symm | (simp; done) | (simp; omega)) (B8 (xs++num t.length++t)) (by simp [B8]) (fun A19 c19=>?_))
 refine lc (vP bw 0) ?_
 refine lc (vP bw 0) ?_
 refine li rfl (oS1 0 ?_)
 refine liNil (stEndN [] rfl trivial (fun w hM=>?_))
 exact ⟨A19,c19,rfl,hM⟩
theorem qAppU (A:Option Addr) (c:Nat) (xs:List UInt8) (n:Nat) (w:World) (r0:Rf [] w (fun w=>RowIn w A (B8 xs))) (hn:n < 18446744073709551616) (hx:xs.length≤4294900000) :
  Calls Tryz.prog 92 #[(vL A xs c),(.int .u64 ((n:Nat):Int))] w fun e w'=>∃ (A2:Option Addr) (c2:Nat),e = .returned (vL A2 (xs++num n) c2)∧Back [] w [cB A2 (xs++num n) c2] w':=by
 refine sE2 Tryz.func92 13 (Mm.start w []) ?_
 refine stSeq (reg (la ?_))
 refine liNil (qThen (stSeq (reg (lm ?_))))
 refine lc (vI xs.length) ?_
 refine lv (v:=(vI (xs.length+10))) rAd ?_
 refine li rfl (opMk0 el_u8 (xs.length+10) (by omega) rfl rfl (by kernel_rfl) rfl rfl (fun b8=>?_) (by omega))
 refine lm ?_
 refine li rfl (opAppend el_u8 0 (B8 xs) rfl rfl (by kernel_rfl) rfl rfl rfl (by simp [B8]) (fun w hM=>CellsAt.of_row (r0.now hM)) ((B8_one _)) (by omega) ((xs).length) (by first | exact (List.length_append ..).symm | (simp; done) | (simp; omega)) (B8 (xs)) (by simp [B8]) (fun A10 c10=>?_))
 refine lm ?_
 refine li rfl (opK [0] _ (fun w hM hO=>(rsExtend_any A10 c10 xs n w hO (by omega) (by omega)).mono ?_))
 rintro e w' ⟨A212,c212,rfl,hP⟩
 refine ⟨_,[_],_,rfl,hP,rfl,?_⟩; clear hP hM hO
 refine la ?_
 refine liNil (qThen (stRet (sN [(vL A212 (xs++num n) c212)] fun w hM=>?_)))
 exact ⟨A212,c212,rfl,hM⟩
theorem qSort (A:Option Addr) (c:Nat) (l:List (List UInt8)) (w:World) (hO:Own [cS A (l) c] w) (hl:l.length≤3072) :
  Calls Tryz.prog 132 #[(vL A l c)] w fun e w'=>e = .returned (.tuple #[])∧Back [cS A (l) c] w [cRw A (SS (sortS l))] w':=by
 have ho:w.ownsRow 0 9 1 (.slice A l.length c) l.length (l.map S8v):=hO.at (i:=0) rfl
 refine (sortOwn ho rfl hl).mono ?_
 rintro e w' ⟨rfl,hf,hr⟩
 exact ⟨rfl,hO.swap 0 rfl (c':=cRw A (SS (sortS l))) (by cases A <;> exact hf) hr (fun b hb=>.inl (by simp only [cRw] at hb; split at hb <;> simp_all [cOwn])) (by simp only [cRw]; split <;> simp [ownFp_nodup])⟩
theorem qTableOf (A:Option Addr) (c:Nat) (l:List (List UInt8)) (n:Nat) (w:World) (r0:Rf [] w (Vars)) (r1:Rf [] w (fun w=>RowIn w A (SS l))) (hz:isSz (n:Int)=true) (h32:∀ x∈l,x.length=32) (hl:l.length≤68719476736) :
  Calls Tryz.prog 147 #[(vL A l c),(vI n)] w fun e w'=>∃ (X:TX),e = .returned (.tuple #[(vP X.bt 0),(.int .i64 0)])∧Back [] w [cT X (tabT l n)] w':=by
 refine sE2 Tryz.func147 29 (Mm.start w []) ?_
 refine stSeq (reg (la ?_))
 refine la ?_
 refine liNil (qThen (stSeq (reg (lm ?_))))
 refine li rfl (opK0 (fun w hM=>(qNew_ok n 0 w (by assumption) (by unfold U64; decide)).mono ?_))
 rintro e w' ⟨X12,rfl,hP⟩
 refine ⟨_,_,rfl,hP,?_⟩; clear hP hM
 refine lm ?_
 refine lc (vP X12.bt 0) ?_
 refine lc (.int .i64 0) ?_
 refine la ?_
 refine la ?_
 refine liNil (qThen (stSeq (stSeq (reg (lm ?_)))))
 refine lc (.bool false) ?_
 refine liNil (qThen (stFalse rfl (stSkip (qThen (stSeq (stSeq (reg ?_)))))))
 refine lm ?_
 refine lc (vI l.length) ?_
 refine lm ?_
 refine liNil (qThen (stBlock (sL (fun i=>i≤l.length) (fun i=>l.length - i) (fun i=>[(4,(.pointer none)),(5,(.int .i64 0)),(6,(vP X12.bt 0)),(18,(vL A l c)),(19,(vI l.length)),(20,(vI i))]) (fun i=>[cT X12 (tabT (l.take i) n)]) 0 (Nat.zero_le _) (fun _ h=>h) ?_)))
 intro i hi
 show St _ _ _ [(4,(.pointer none)),(5,(.int .i64 0)),(6,(vP X12.bt 0)),(18,(vL A l c)),(19,(vI l.length)),(20,(vI i))] [cT X12 (tabT (l.take i) n)] _
 refine stSeq (reg (lc (.bool (decide (((i:Nat):Int) < ((l.length:Nat):Int)))) ?_))
 refine liNil (qThen (stSeq (stCond rfl (fun hc21=>?_) (fun hc21=>?_))))
 ·have hd21:=of_decide_eq_true hc21
  have hlt:i < l.length:=by omega
  refine stSkip (qThen (stSeq (stBlock (stSeq (reg ?_)))))
  obtain ⟨x0,hx0⟩:∃ ξ,(l)[i]?=some ξ:=⟨_,List.getElem?_eq_getElem (by omega)⟩
  refine St.rowPtr (fun w hM=>r1.now hM) (SS_at hx0) (fun p22 q22 hA22 hc22=>?_)
  refine lv (v:=(vP p22 (q22+i))) (rR 9 hA22) ?_
  refine lv (rW hc22) ?_
  refine la ?_
  refine liNil (qThen (reg (lm ?_)))
  refine lm ?_
  refine li rfl (opK [0] _ (fun w hM hO=>(qInsert X12 (tabT (l.take i) n) x0 w hO (r0.goS hM [0]) (h32 _ (List.mem_of_getElem? hx0))).mono ?_))
  rintro e w' ⟨rfl,hP⟩
  refine ⟨_,[_],_,rfl,hP,rfl,?_⟩; clear hP hM hO
  refine liNil (qBlock (qThen (reg ?_)))
  refine lv (v:=(vI (i+1))) rAd ?_
  refine lm ?_
  refine liNil (qThen ?_)
  rw [show (tabT (l.take i) n).change x0 1=tabT (l.take (i+1)) n from by rw [List.take_add_one,hx0]; exact (insT_snoc _ _ _).symm]
  exact sA (i+1) (by show _≤_; omega) (by show l.length - (i+1) < l.length - i; omega) (fun w hM=>hM)
 ·have hd21:=of_decide_eq_false hc21
  obtain rfl:i=l.length:=by omega
  rw [List.take_length]
  refine stExit (qThenX (qThenX (qBlockX (qThen (stSeq (reg ?_))))))
  refine lm ?_
  refine la ?_
  refine la ?_
  refine liNil (qThen (stRet (sN [(vP X12.bt 0),(.int .i64 0)] fun w hM=>?_)))
  exact ⟨X12,rfl,hM⟩
theorem qIsT_yes (X:TX) (t:BT) (n s:Nat) (w:World) (r0:Rf [] w (fun w=>(cT X t).holds w)) (hz:isSz (n:Int)=true) (hu:U64 s) (ht:isT t n s=true) :
  Calls Tryz.prog 76 #[(vP X.bt 0),(vI n),(.int .u64 ((s:Nat):Int))] w fun e w'=>e = .returned (.bool true)∧Back [] w [] w':=by
 refine sE3 Tryz.func76 25 (Mm.start w []) ?_
 refine stSeq (reg (la ?_))
 refine liNil (qThen (stSeq (reg (lm ?_))))
 refine lm ?_
 refine li rfl (opK0 (fun w hM=>(qNew_ok n s w (by assumption) (by assumption)).mono ?_))
 rintro e w' ⟨X12,rfl,hP⟩
 refine ⟨_,_,rfl,hP,?_⟩; clear hP hM
 refine lm ?_
 refine lc (vP X12.bt 0) ?_
 refine lc (.int .i64 0) ?_
 refine la ?_
 refine la ?_
 refine liNil (qThen (stSeq (stSeq (reg (lm ?_)))))
 refine lc (.bool false) ?_
 refine liNil (qThen (stFalse rfl (stSkip (qThen (stSeq (reg ?_))))))
 refine lm ?_
 refine lm ?_
 refine li rfl (opK0 (fun w hM=>(qSub_ok X t X12 (BT.new n s) w (r0.go0 hM) (hM.keep0 (j:=0) rfl (fun _ h=>h)) (by rw [tsame_new]; exact ht)).mono ?_))
 rintro e w' ⟨Z20,rfl,hP⟩
 refine ⟨_,_,rfl,hP,?_⟩; clear hP hM
 refine lm ?_
 refine lc (vP Z20.bt 0) ?_
 refine lc (.int .i64 0) ?_
 refine la ?_
 refine liNil (qThen (stSeq (reg (lm ?_))))
 refine lc (.bool true) ?_
 refine la ?_
 refine liNil (qThen (stRet (sN [(.bool true)] fun w hM=>?_)))
 exact ⟨rfl,(hM.pick [] rfl rfl)⟩
theorem qIsT_no (X:TX) (t:BT) (n s:Nat) (w:World) (r0:Rf [] w (fun w=>(cT X t).holds w)) (hz:isSz (n:Int)=true) (hu:U64 s) (ht:isT t n s=false) :
  Calls Tryz.prog 76 #[(vP X.bt 0),(vI n),(.int .u64 ((s:Nat):Int))] w fun e w'=>e = .returned (.bool false)∧Back [] w [] w':=by
 refine sE3 Tryz.func76 25 (Mm.start w []) ?_
 refine stSeq (reg (la ?_))
 refine liNil (qThen (stSeq (reg (lm ?_))))
 refine lm ?_
 refine li rfl (opK0 (fun w hM=>(qNew_ok n s w (by assumption) (by assumption)).mono ?_))
 rintro e w' ⟨X12,rfl,hP⟩
 refine ⟨_,_,rfl,hP,?_⟩; clear hP hM
 refine lm ?_
 refine lc (vP X12.bt 0) ?_
 refine lc (.int .i64 0) ?_
 refine la ?_
 refine la ?_
 refine liNil (qThen (stSeq (stSeq (reg (lm ?_)))))
 refine lc (.bool false) ?_
 refine liNil (qThen (stFalse rfl (stSkip (qThen (stSeq (reg ?_))))))
 refine lm ?_
 refine lm ?_
 refine li rfl (opK0 (fun w hM=>(qSub_bad X t X12 (BT.new n s) w (r0.go0 hM) (hM.keep0 (j:=0) rfl (fun _ h=>h)) (by rw [tsame_new]; exact ht)).mono ?_))
 rintro e w' ⟨rfl,hP⟩
 refine ⟨_,_,rfl,hP,?_⟩; clear hP hM
 refine lm ?_
 refine lc (.pointer none) ?_
 refine lc (.int .i64 1) ?_
 refine la ?_
 refine liNil (qThen (stSeq (reg (lm ?_))))
 refine lc (.bool false) ?_
 refine la ?_
 refine liNil (qThen (stRet (sN [(.bool false)] fun w hM=>?_)))
 exact ⟨rfl,(hM.pick [] rfl rfl)⟩
theorem qIsT (X:TX) (t:BT) (n s:Nat) (w:World) (r0:Rf [] w (fun w=>(cT X t).holds w)) (hz:isSz (n:Int)=true) (hu:U64 s) :
  Calls Tryz.prog 76 #[(vP X.bt 0),(vI n),(.int .u64 ((s:Nat):Int))] w fun e w'=>e = .returned (.bool (isT t n s))∧Back [] w [] w':=by
 cases h:isT t n s with
 | true=>exact qIsT_yes X t n s w r0 hz hu h
 | false=>exact qIsT_no X t n s w r0 hz hu h
theorem qChoose_range (k n:Nat) (w:World) (h0:500 < k) :
  Calls Tryz.prog 10 #[(vI k),(vI n)] w fun e w'=>e = .returned (.tuple #[(.int .i64 2),(.int .i64 0),(.int .i64 0)])∧Back [] w [] w':=by
 refine sE2 Tryz.func10 20 (Mm.start w []) ?_
 refine stSeq (reg (la ?_))
 refine la ?_
 refine la ?_
 refine liNil (qThen (stSeq (stSeq (reg (lm ?_)))))
 refine lc (.bool (decide (((k:Nat):Int) < 0))) ?_
 refine lm ?_
 refine St.known 9 (b':=false) rfl (by simp) ?_
 refine lgm ?_
 refine lgc (.bool (decide (((n:Nat):Int) < 0))) ?_
 refine lc (.bool (decide (((n:Nat):Int) < 0))) ?_
 refine liNil (qThen (stFalseK rfl (by simp) ?_))
 refine stSkip (qThen (stSeq (stSeq (reg (lm ?_)))))
 refine lc (.bool (decide (((k:Nat):Int) > 500))) ?_
 refine liNil (qThen (stTrueK rfl (by simp; omega) ?_))
 refine stSeq (reg (la ?_))
 refine la ?_
 refine la ?_
 refine liNil (qThen (stRet (qThenR (sN [(.int .i64 2),(.int .i64 0),(.int .i64 0)] fun w hM=>?_))))
 exact ⟨rfl,hM⟩
theorem qChoose_table (k n:Nat) (w:World) (h0:k≤500) :
  Calls Tryz.prog 10 #[(vI k),(vI n)] w fun e w'=>e = .returned (.tuple #[(.int .i64 1),(.int .i64 (blSize ((k+k / 2:Nat):Int))),(.int .i64 0)])∧Back [] w [] w':=by
 refine sE2 Tryz.func10 20 (Mm.start w []) ?_
 refine stSeq (reg (la ?_))
 refine la ?_
 refine la ?_
 refine liNil (qThen (stSeq (stSeq (reg (lm ?_)))))
 refine lc (.bool (decide (((k:Nat):Int) < 0))) ?_
 refine lm ?_
 refine St.known 9 (b':=false) rfl (by simp) ?_
 refine lgm ?_
 refine lgc (.bool (decide (((n:Nat):Int) < 0))) ?_
 refine lc (.bool (decide (((n:Nat):Int) < 0))) ?_
 refine liNil (qThen (stFalseK rfl (by simp) ?_))
 refine stSkip (qThen (stSeq (stSeq (reg (lm ?_)))))
 refine lc (.bool (decide (((k:Nat):Int) > 500))) ?_
 refine liNil (qThen (stFalseK rfl (by simp; omega) ?_))
 refine stSkip (qThen (stSeq (reg (lm ?_))))
 refine lm ?_
 refine lv (v:=(vI (k / 2))) (rQuoN rfl rfl rfl (by omega) (by omega)) ?_
 refine lv (v:=(vI (k+(k / 2)))) rAd ?_
 refine li rfl (opK0 (fun w hM=>(qSize ((k+(k / 2):Nat):Int) w ).mono ?_))
 rintro e w' ⟨rfl,hP⟩
 refine ⟨_,_,rfl,hP,?_⟩; clear hP hM
 iterate 3 refine la ?_
 refine liNil (qThen (stRet (sN [(.int .i64 1),(.int .i64 (blSize ((k+(k / 2):Nat):Int))),(.int .i64 0)] fun w hM=>?_)))
 exact ⟨rfl,hM⟩
end
section
section
variable {P : Program} {w0 : World} {F : List Nat} {E : Env} {cs : List Ch} {o : Oper}
theorem rIndexAgg {ty e:TypeId} {x i:Operand} {k:IntKind} {l:List Value} {j m:Nat} {v:Value} (ho:o.op = .index ty x i) (hu:P.underlying ty=some (.array m e)) (hs:isScalar P e=true) (h1:sizeT P e=some 1) (hx:evO E x=some (.agg l.toArray)) (hi:evO E i=some (.int k (j:Int))) (hj:j < m) (hv:l[j]?=some v):RunV P w0 F cs E o v:=fun w _=>by
 have hsz:(sizeOf e).run P w = .ok 1 w:=by
  unfold sizeT at h1
  cases hI:P.info? e with
  | none=>rw [hI] at h1; cases h1
  | some t =>
    rw [hI] at h1
    simp only [Option.map_some,Option.some.injEq] at h1
    simp only [sizeOf,typeInfo,Sem.run_bind,Sem.run_pure]
    simp [hI,h1]
 unfold execOp
 simp only [ho,evE_of hx,evE_of hi,Instr.index,asIntOf,Sem.run_bind,Sem.run_pure,Result.andThen_ok,run_underlying hu]
 rw [if_pos (by omega)]
 simp [hsz,part,scalar_agg hs w,hv,Sem.run_bind]
end
abbrev nilP : Value := .pointer none
def pcs (Xs : List TX) : List Value := Xs.map fun X => vP X.bt 0
theorem pcs_len (Xs:List TX):(pcs Xs).length=Xs.length:=by simp [pcs]
theorem pcs_get {Xs:List TX} {k:Nat} {X:TX} (h:Xs[k]?=some X):(pcs Xs)[k]?=some (vP X.bt 0):=by simp [pcs,h]
theorem pcs_get0 {Xs:List TX} {k:Nat} {X:TX} (h:Xs[k]?=some X):(pcs Xs)[0+k]?=some (vP X.bt 0):=by rw [Nat.zero_add]; exact pcs_get h
theorem pcs_one (Xs:List TX):∀ v∈pcs Xs,v.oneCell'=true:=by
 intro v hv
 obtain ⟨X,_,rfl⟩:=List.mem_map.1 hv
 rfl
theorem pcs_set {Xs:List TX} {i:Nat} (X:TX) (hl:Xs.length=i) (hi:i < 12):(pcs Xs++List.replicate (12 - i) nilP).set (0+i) (vP X.bt 0)=pcs (Xs++[X])++List.replicate (12 - (i+1)) nilP:=by
 subst hl
 rw [Nat.zero_add,List.set_append_right _ _ (by rw [pcs_len]; exact Nat.le_refl _),pcs_len,Nat.sub_self,show 12 - Xs.length=(12 - (Xs.length+1))+1 by omega,List.replicate_succ,List.set_cons_zero]
 simp [pcs]
abbrev tfp (Xs : List TX) : List Nat := Xs.flatMap fun X => [X.bt, X.bc]
theorem tfp_map (Xs:List TX):tfp Xs=(Xs.map fun X=>cT X (BT.new 0 0)).flatMap Ch.fp:=by
 induction Xs with
 | nil=>rfl
 | cons X Xs ih=>simp only [tfp,List.flatMap_cons,List.map_cons] at ih ⊢; rw [ih]; rfl
def cTabs (Xs : List TX) (ts : List BT) : Ch where
 fp := tfp Xs
 holds w := Xs.length = ts.length ∧ (∀ (k : Nat) (X : TX) (t : BT), Xs[k]? = some X → ts[k]? = some t → (cT X t).holds w) ∧ (tfp Xs).Nodup
 ok w w' hb h := ⟨h.1, fun k X t hX ht => (cT X t).ok w w' (fun b hbc => hb b (List.mem_flatMap.2 ⟨X, List.mem_of_getElem? hX, hbc⟩)) (h.2.1 k X t hX ht), h.2.2⟩
 lt w h b hb := by
  obtain ⟨X, hX, hbc⟩ := List.mem_flatMap.1 hb
  obtain ⟨k, hk⟩ := List.mem_iff_getElem?.1 hX
  have hlt := (List.getElem?_eq_some_iff.1 hk).1
  exact (cT X (ts[k]'(by rw [← h.1]; exact hlt))).lt w (h.2.1 k X _ hk (List.getElem?_eq_getElem _)) b hbc
theorem tabs_at {w:World} {Xs:List TX} {ts:List BT} (h:(cTabs Xs ts).holds w) {k:Nat} {X:TX} {t:BT} (hX:Xs[k]?=some X) (ht:ts[k]?=some t):(cT X t).holds w:=h.2.1 k X t hX ht
section
variable {w0 w : World} {S : List Nat} {cs : List Ch} {Xs : List TX} {ts : List BT} {X : TX} {t : BT}
theorem Mm.newTabs (h:Mm w0 S cs w):Mm w0 S (cs++[cTabs [] []]) w :=
 h.push (c:=cTabs [] []) (Fr.refl _ _) ⟨rfl,by simp,by simp [tfp]⟩ (by simp [cTabs,tfp]) (by simp [cTabs,tfp])
theorem Mm.addTab (h:Mm w0 S (cs++[cTabs Xs ts,cT X t]) w):Mm w0 S (cs++[cTabs (Xs++[X]) (ts++[t])]) w:=by
 have hfp:(cs++[cTabs (Xs++[X]) (ts++[t])]).flatMap Ch.fp=(cs++[cTabs Xs ts,cT X t]).flatMap Ch.fp:=by
  simp [List.flatMap_append,cTabs,tfp,cTab]
 have h1:=h.hold (cTabs Xs ts) (by simp)
 have h2:=h.hold (cT X t) (by simp)
 refine ⟨h.fr,fun c hc=>?_,by rw [hfp]; exact h.nodup,fun b hb=>h.own b (by rw [← hfp]; exact hb)⟩
 rcases List.mem_append.1 hc with hc | hc
 ·exact h.hold c (by simp [hc])
 ·rw [List.mem_singleton] at hc
  subst hc
  refine ⟨by simp [h1.1],fun k Y u hY hu=>?_,?_⟩
  ·rcases Nat.lt_or_ge k Xs.length with hk | hk
   ·rw [List.getElem?_append_left hk] at hY
    rw [List.getElem?_append_left (by rw [← h1.1]; exact hk)] at hu
    exact h1.2.1 k Y u hY hu
   ·rw [List.getElem?_append_right hk] at hY
    rw [List.getElem?_append_right (by rw [← h1.1]; exact hk)] at hu
    have h0:k - Xs.length=0:=by
     have:=(List.getElem?_eq_some_iff.1 hY).1
     simp at this
     omega
    rw [h0] at hY
    rw [← h1.1,h0] at hu
    simp at hY hu
    subst hY hu
    exact h2
  ·have hn:=h.nodup
   rw [← hfp,List.flatMap_append,List.nodup_append] at hn
   simpa [cTabs] using hn.2.1
theorem Own.tabsSet {w':World} {k:Nat} {t':BT} (hO:Own [cTabs Xs ts] w) (hX:Xs[k]?=some X) (_:ts[k]?=some t) (hf:Fr [X.bc] w w') (ht':TabAt w' X.bt X.bc X.cap X.rest t'):Back [cTabs Xs ts] w [cTabs Xs (ts.set k t')] w':=by
 have h0:(cTabs Xs ts).holds w:=hO.at (i:=0) rfl
 refine hO.swap 0 rfl (c':=cTabs Xs (ts.set k t')) (hf.mono fun b hb=>.inl ?_) ⟨by rw [List.length_set]; exact h0.1,fun j Y u hY hu=>?_,h0.2.2⟩ (fun b hb=>.inl hb) h0.2.2
 ·simp only [List.mem_singleton] at hb
  subst hb
  exact List.mem_flatMap.2 ⟨X,List.mem_of_getElem? hX,by simp⟩
 ·by_cases hjk:k=j
  ·subst hjk
   have e:Y=X:=by rw [hX] at hY; exact (Option.some.inj hY).symm
   subst e
   have hlt:k < ts.length:=by rw [← h0.1]; exact (List.getElem?_eq_some_iff.1 hX).1
   rw [List.getElem?_set_self hlt] at hu
   injection hu with hu
   subst hu
   exact ht'
  ·rw [List.getElem?_set_ne hjk] at hu
   have hold:=h0.2.1 j Y u hY hu
   refine (cT Y u).ok w w' (fun b hb=>hf.block b ((cT Y u).lt w hold b hb) fun hm=>?_) hold
   simp only [List.mem_singleton] at hm
   subst hm
   have hn:=h0.2.2
   rw [tfp_map] at hn
   exact nodup_flat_ne hn (i:=k) (j:=j) (c:=cT X (BT.new 0 0)) (d:=cT Y (BT.new 0 0)) (by simp [hX]) (by simp [hY]) hjk X.bc (by simp [cTab]) hb
end
def newN (i : Nat) : List BT := (List.range i).map fun k => BT.new 12 (k + 1)
theorem newN_succ (i:Nat):newN (i+1)=newN i++[BT.new 12 (i+1)]:=by simp [newN,List.range_succ]
end
section
section
variable {P : Program} {w0 : World} {F : List Nat} {E : Env} {cs : List Ch} {o : Oper}
theorem rShlN {ty u:TypeId} {x y:Operand} {a k:Nat} (ho:o.op = .binOp .shl ty x y u) (hx:evO E x=some (vI a)) (hy:evO E y=some (vI k)) (hk:k≤60) (h:a*2 ^ k < 9223372036854775808):RunV P w0 F cs E o (vI (a*2 ^ k)):=fun w _=>by
 unfold execOp
 have h8:(((k:Nat):Int).toNat)=k:=Int.toNat_natCast k
 have hb:min k IntKind.i64.bits=k:=Nat.min_eq_left (by show k≤64; omega)
 have e:IntKind.i64.wrap ((a:Int)*2 ^ k)=((a*2 ^ k:Nat):Int):=by
  have e1:(a:Int)*2 ^ k=((a*2 ^ k:Nat):Int):=by push_cast; rfl
  rw [e1]
  exact wrap64_id (by omega) (by omega)
 simp only [ho,evE_of hx,evE_of hy,Sem.run_bind,run_eqGuard_int,Result.andThen_ok,binOp,Op.shift]
 rw [if_neg (by omega),h8,hb]
 simp only [Sem.run_pure,Result.andThen_ok,e]
end
theorem Rd.text_le (r:Rd) (most:Nat):(r.text most).1.length≤r.D.length:=by
 unfold Rd.text
 split
 ·split
  ·simp
  ·split
   ·simp
   ·split
    ·simp only [List.length_take,List.length_drop]; omega
    ·simp
 ·simp
theorem tsame_ok {ts us:List BT} (h1:okStr ts) (h2:okStr us) {k:Nat} {t u:BT} (ht:ts[k]?=some t) (hu:us[k]?=some u):tsame t u=true:=by
 obtain ⟨_,a,b⟩:=h1 k t ht
 obtain ⟨_,c,d⟩:=h2 k u hu
 simp [tsame,a,b,c,d]
theorem rdSk_end {D:Bs} {ts:List BT} {r:Rd} (h:rdStr (Rd.mk D 0 0 0) 12=(some ts,r)):rdSk D=if r.end_=0 then some ts else none:=by
 unfold rdSk
 rw [h]
theorem rdSk_bad {D:Bs} {i:Nat} (hi:i≤12) (h:(rdStr (Rd.mk D 0 0 0) i).1=none):rdSk D=none:=by
 have h1:=rdStr_stop h (12 - i)
 rw [show i+(12 - i)=12 by omega] at h1
 unfold rdSk
 cases hh:rdStr (Rd.mk D 0 0 0) 12 with
 | mk a b=>rw [hh] at h1; simp only at h1; subst h1; rfl
theorem bool_ret {v:Value} {a b:Bool} (h:a=b):Ending.returned (tupleOf [v,.bool a]) = .returned (.tuple #[v,.bool b]):=by rw [h]; rfl
theorem list_ext_get {α:Type} {l:List α} {k:Nat} (h:k < l.length):∃ x,l[k]?=some x:=⟨_,List.getElem?_eq_getElem h⟩
theorem qInsertF (Xs:List TX) (ts:List BT) (k:Nat) (X:TX) (t:BT) (key:List UInt8) (w:World) (hO:Own [cTabs Xs ts] w) (r0:Rf [cTabs Xs ts] w (Vars)) (hX:Xs[k]?=some X) (ht:ts[k]?=some t) (hk:key.length=32) :
  Calls Tryz.prog 67 #[(vP X.bt 0),(vS key)] w fun e w'=>e = .returned (.int .i64 0)∧Back [cTabs Xs ts] w [cTabs Xs (ts.set k (t.change key 1))] w':=by
 have h0:(cTabs Xs ts).holds w:=hO.at (i:=0) rfl
 refine (insert_any X.bt X.bc X.cap X.rest t key w r0.here (tabs_at h0 hX ht) hk).mono fun e w' h=>?_
 obtain ⟨rfl,hf,ht'⟩:=h
 exact ⟨rfl,Own.tabsSet hO hX ht hf ht'⟩
theorem qStrataOf (A:Option Addr) (c:Nat) (l:List (List UInt8)) (w:World) (r0:Rf [] w (Vars)) (r1:Rf [] w (fun w=>RowIn w A (SS l))) (h32:∀ x∈l,x.length=32) (hl:l.length≤68719476736) :
  Calls Tryz.prog 31 #[(vL A l c)] w fun e w'=>∃ (Xs:List TX),e = .returned (.agg (pcs Xs).toArray)∧Back [] w [cTabs Xs (strata l)] w'∧(Xs.length=12):=by
 refine sE1 Tryz.func31 34 (Mm.start w []) ?_
 refine stSeq (reg (li rfl (oAl [(.pointer none),(.pointer none),(.pointer none),(.pointer none),(.pointer none),(.pointer none),(.pointer none),(.pointer none),(.pointer none),(.pointer none),(.pointer none),(.pointer none)] fun b2=>?_)))
 refine liNil (qThen (stSeq (reg (li rfl (oAl [(.pointer none),(.pointer none),(.pointer none),(.pointer none),(.pointer none),(.pointer none),(.pointer none),(.pointer none),(.pointer none),(.pointer none),(.pointer none),(.pointer none)] fun b3=>?_)))))
 refine liNil (qThen (stSeq (stSeq (reg (lm ?_)))))
 refine liNil (qThen (stBlock (St.mem (fun w hM=>hM.newTabs) ?_)))
 refine sL (fun (i,Xs)=>i≤12∧Xs.length=i) (fun (i,Xs)=>12 - i) (fun (i,Xs)=>[(0,(vL A l c)),(2,(vP b2 0)),(3,(vP b3 0)),(7,(vI i))]) (fun (i,Xs)=>[cAt b2 72 [(.pointer none),(.pointer none),(.pointer none),(.pointer none),(.pointer none),(.pointer none),(.pointer none),(.pointer none),(.pointer none),(.pointer none),(.pointer none),(.pointer none)],cAt b3 72 (pcs Xs++List.replicate (12 - i) nilP),cTabs Xs (newN i)]) (0,[]) ⟨by omega,rfl⟩ (fun _ h=>h) ?_
 rintro ⟨i,Xs⟩ ⟨hi,hXl⟩
 dsimp only
 refine stSeq (reg (lc (.bool (decide (((i:Nat):Int) < 12))) ?_))
 refine liNil (qThen (stSeq (stCond rfl (fun hc8=>?_) (fun hc8=>?_))))
 ·have hd8:=of_decide_eq_true hc8
  refine stSkip (qThen (stSeq (stBlock (stSeq (reg (lm ?_))))))
  refine la ?_
  refine liNil (qThen (reg (lm ?_)))
  refine lm ?_
  refine lv (v:=(vI (i+1))) rAd ?_
  refine lv (v:=(vU (i+1))) (rIntC _ (fun _=>by kernel_rfl) rfl rfl (wrapU64_id (by omega) (by omega))) ?_
  refine li rfl (opK0 (fun w hM=>(qNew_ok 12 (i+1) w (by decide) (by unfold U64; omega)).mono ?_))
  rintro e w' ⟨X15,rfl,hP⟩
  refine ⟨_,_,rfl,hP,?_⟩; clear hP hM
  refine lm ?_
  refine lc (vP X15.bt 0) ?_
  refine lc (.int .i64 0) ?_
  refine lv (v:=(vP b3 (0+i))) (rIndexArr1 (e:=70) (m:=12) rfl (by kernel_rfl) (by kernel_rfl) rfl rfl (by omega)) ?_
  refine li rfl (opStore1 1 rfl rfl (by kernel_rfl) rfl rfl rfl (by kernel_rfl) rfl (by simp [pcs]; omega) ?_)
  dsimp only [setAll,List.set,List.cons_append,List.nil_append]
  rw [show (pcs Xs++List.replicate (12 - i) nilP).set (0+i) (vP X15.bt 0)=pcs (Xs++[X15])++List.replicate (12 - (i+1)) nilP from pcs_set X15 hXl (by omega)]
  refine liNil (qBlock (qThen (reg ?_)))
  refine lv (v:=(vI (i+1))) rAd ?_
  refine lm ?_
  exact liNil (qThen (sA (i+1,Xs++[X15]) (⟨by omega,by simp [hXl]⟩) (by show 12 - (i+1) < 12 - i; omega) (fun w hM=>by have h:=Mm.addTab (cs:=[cAt b2 72 [(.pointer none),(.pointer none),(.pointer none),(.pointer none),(.pointer none),(.pointer none),(.pointer none),(.pointer none),(.pointer none),(.pointer none),(.pointer none),(.pointer none)],cAt b3 72 ((pcs (Xs++[X15])++List.replicate (12 - (i+1)) nilP))]) hM; rw [← newN_succ] at h; exact h)))
 ·have hd8:=of_decide_eq_false hc8
  obtain rfl:i=12:=by omega
  refine St.mem (cs':=[cAt b2 72 [(.pointer none),(.pointer none),(.pointer none),(.pointer none),(.pointer none),(.pointer none),(.pointer none),(.pointer none),(.pointer none),(.pointer none),(.pointer none),(.pointer none)],cAt b3 72 (pcs Xs),cTabs Xs (strata (l.take 0))]) (fun w hM=>by rw [List.take_zero]; rw [Nat.sub_self,List.replicate_zero,List.append_nil] at hM; exact hM) ?_
  refine stExit (qThenX (qThenX (qBlockX (qThen (stSeq (stSeq (reg ?_)))))))
  refine lm ?_
  refine lc (vI l.length) ?_
  refine lm ?_
  refine liNil (qThen (stBlock (sL (fun i=>i≤l.length) (fun i=>l.length - i) (fun i=>[(2,(vP b2 0)),(3,(vP b3 0)),(20,(vL A l c)),(21,(vI l.length)),(22,(vI i))]) (fun i=>[cAt b2 72 [(.pointer none),(.pointer none),(.pointer none),(.pointer none),(.pointer none),(.pointer none),(.pointer none),(.pointer none),(.pointer none),(.pointer none),(.pointer none),(.pointer none)],cAt b3 72 (pcs Xs),cTabs Xs (strata (l.take i))]) 0 (Nat.zero_le _) (fun _ h=>h) ?_)))
  intro i hi
  show St _ _ _ [(2,(vP b2 0)),(3,(vP b3 0)),(20,(vL A l c)),(21,(vI l.length)),(22,(vI i))] [cAt b2 72 [(.pointer none),(.pointer none),(.pointer none),(.pointer none),(.pointer none),(.pointer none),(.pointer none),(.pointer none),(.pointer none),(.pointer none),(.pointer none),(.pointer none)],cAt b3 72 (pcs Xs),cTabs Xs (strata (l.take i))] _
  refine stSeq (reg (lc (.bool (decide (((i:Nat):Int) < ((l.length:Nat):Int)))) ?_))
  refine liNil (qThen (stSeq (stCond rfl (fun hc23=>?_) (fun hc23=>?_))))
  ·have hd23:=of_decide_eq_true hc23
   have hlt:i < l.length:=by omega
   refine stSkip (qThen (stSeq (stBlock (stSeq (reg ?_)))))
   obtain ⟨x0,hx0⟩:∃ ξ,(l)[i]?=some ξ:=⟨_,List.getElem?_eq_getElem (by omega)⟩
   refine St.rowPtr (fun w hM=>r1.now hM) (SS_at hx0) (fun p24 q24 hA24 hc24=>?_)
   refine lv (v:=(vP p24 (q24+i))) (rR 9 hA24) ?_
   refine lv (rW hc24) ?_
   refine la ?_
   refine liNil (qThen (reg (lm ?_)))
   refine li rfl (opK0 (fun w hM=>(qLevel x0 w (r0.go0 hM) (by have:=h32 _ (List.mem_of_getElem? hx0); omega)).mono ?_))
   rintro e w' ⟨rfl,hP⟩
   refine ⟨_,_,rfl,hP,?_⟩; clear hP hM
   have hlv:=lvl_lt x0
   obtain ⟨XX,hXX⟩:=list_ext_get (l:=Xs) (k:=lvl x0) (by omega)
   refine lv (v:=(vP b3 (0+(lvl x0)))) (rIndexArr1 (e:=70) (m:=12) rfl (by kernel_rfl) (by kernel_rfl) rfl rfl (by omega)) ?_
   refine lv (v:=(vP XX.bt 0)) (rLoad 1 rfl rfl (by kernel_rfl) rfl (pcs_get0 hXX)) ?_
   refine lm ?_
   refine li rfl (opK [2] _ (fun w hM hO=>(qInsertF Xs (strata (l.take i)) (lvl x0) XX (strT (l.take i) (lvl x0)) x0 w hO (r0.goS hM [2]) (hXX) (strata_get hlv) (h32 _ (List.mem_of_getElem? hx0))).mono ?_))
   rintro e w' ⟨rfl,hP⟩
   refine ⟨_,[_],_,rfl,hP,rfl,?_⟩; clear hP hM hO
   refine liNil (qBlock (qThen ?_))
   rw [show (strata (l.take i)).set (lvl x0) ((strT (l.take i) (lvl x0)).change x0 1)=strata (l.take (i+1)) from by rw [List.take_add_one,hx0]; exact (strata_snoc _ _).symm]
   refine reg (lv (v:=(vI (i+1))) rAd ?_)
   refine lm ?_
   exact liNil (qThen (sA (i+1) (by show _≤_; omega) (by show l.length - (i+1) < l.length - i; omega) (fun w hM=>hM)))
  ·have hd23:=of_decide_eq_false hc23
   obtain rfl:i=l.length:=by omega
   rw [List.take_length]
   refine stExit (qThenX (qThenX (qBlockX (qThen (stSeq (reg ?_))))))
   refine lv (v:=(.agg (pcs Xs).toArray)) (rLoadA (pcs Xs) rfl rfl (by kernel_rfl) (by rw [pcs_len,hXl]; kernel_rfl) (segAt (i:=1) rfl (fun j v hj=>by rw [Nat.zero_add]; exact hj))) ?_
   refine li rfl (opStoreN 0 (pcs Xs) (vs:=pcs Xs) rfl rfl (by kernel_rfl) rfl rfl rfl (by rw [pcs_len,hXl]; kernel_rfl) rfl (by rw [pcs_len,hXl]; decide) (pcs_one Xs) (by rw [List.take_zero,List.nil_append,pcs_len,hXl]; simp) ?_)
   refine liNil (qThen (stRet (stEnd [(.agg (pcs Xs).toArray)] rfl ⟨⟨_,rfl,fun w hM=>run_loadVarA (by kernel_rfl) (by rw [pcs_len,hXl]; kernel_rfl) (segAt (i:=0) (off:=0) rfl (by intro j v hj; rw [Nat.zero_add]; exact hj) w hM)⟩,trivial⟩ (fun w hM=>?_))))
   exact ⟨Xs,rfl,(hM.pick [2] rfl rfl),hXl⟩
theorem qSketch1 (Xs:List TX) (ts:List BT) (w:World) (r0:Rf [] w (fun w=>(cTabs Xs ts).holds w)) (okt:okStr ts) (tl:ts.length=12) (Xl:Xs.length=12) :
  Calls Tryz.prog 32 #[(.agg (pcs Xs).toArray)] w fun e w'=>∃ (A:Option Addr) (c:Nat),e = .returned (vL A (skB ts) c)∧Back [] w [cB A (skB ts) c] w':=by
 refine sE1 Tryz.func32 24 (Mm.start w []) ?_
 refine stSeq (reg (li rfl (oBx (pcs Xs) fun b1=>?_)))
 refine la ?_
 refine liNil (qThen (stSeq (reg (li rfl (opK0 (fun w hM=>(rsNewW_any  w ).mono ?_))))))
 rintro e w' ⟨bw8,rfl,hP⟩
 refine ⟨_,_,rfl,hP,?_⟩; clear hP hM
 refine la ?_
 refine liNil (qThen (stSeq (stSeq (St.mem (fun w hM=>hM.nilOwn 5 1) ?_))))
 dsimp only [setAll,List.set,List.cons_append,List.nil_append]
 refine reg (lv (v:=(.agg (pcs Xs).toArray)) (rLoadA (pcs Xs) rfl rfl (by kernel_rfl) (by rw [pcs_len,Xl]; kernel_rfl) (segAt (i:=0) rfl (fun j v hj=>by rw [Nat.zero_add]; exact hj))) ?_)
 refine lm ?_
 refine liNil (qThen (stBlock (sL (fun (i,AX,cX)=>i≤12) (fun (i,AX,cX)=>12 - i) (fun (i,AX,cX)=>[(2,(.slice none 0 0)),(3,(vP bw8 0)),(9,(.agg (pcs Xs).toArray)),(10,(vI i))]) (fun (i,AX,cX)=>[cAt b1 72 (pcs Xs),cAt bw8 180 [(vL AX (skB (ts.take i)) cX),(.int .i64 0)],cB AX (skB (ts.take i)) cX]) (0,none,0) (Nat.zero_le _) (fun _ h=>h) ?_)))
 rintro ⟨i,AX,cX⟩ (hi:i≤12)
 dsimp only
 refine stSeq (reg (lc (.bool (decide (((i:Nat):Int) < 12))) ?_))
 refine liNil (qThen (stSeq (stCond rfl (fun hc11=>?_) (fun hc11=>?_))))
 ·have hd11:=of_decide_eq_true hc11
  have hlt:i < 12:=by omega
  obtain ⟨XX,hXX⟩:=list_ext_get (l:=Xs) (k:=i) (by omega)
  obtain ⟨tt,htt⟩:=list_ext_get (l:=ts) (k:=i) (by omega)
  have rt:=r0.imp (fun _ h=>tabs_at h hXX htt)
  have hsk:=skB_len (ts:=ts.take i) (fun t ht=>okt.all t (List.mem_of_mem_take ht))
  have htk:(ts.take i).length≤12:=by rw [List.length_take]; omega
  have hen:=enc12_len (okt i tt htt).1 (okt i tt htt).2.1
  refine stSkip (qThen (stSeq (stBlock (stSeq (reg (lv (v:=(vP XX.bt 0)) (rIndexAgg (e:=70) rfl (by kernel_rfl) (by kernel_rfl) (by kernel_rfl) rfl rfl hlt (pcs_get hXX)) ?_))))))
  refine la ?_
  refine liNil (qThen (reg (lm ?_)))
  refine lm ?_
  refine li rfl (opK0 (fun w hM=>(qEncode XX tt w (rt.go0 hM)).mono ?_))
  rintro e w' ⟨A15,c15,rfl,hP⟩
  refine ⟨_,_,rfl,hP,?_⟩; clear hP hM
  refine li rfl (opK [1,2] _ (fun w hM hO=>(qWBytes bw8 AX cX (skB (ts.take i)) A15 c15 tt.enc w hO (hM.keepS [1,2] (j:=3) rfl (fun _ h=>RowIn.of_own h)) (by omega) (by omega)).mono ?_))
  rintro e w' ⟨A216,c216,rfl,hP⟩
  refine ⟨_,[_,_],_,rfl,hP,rfl,?_⟩; clear hP hM hO
  refine liNil (qBlock (qThen ?_))
  rw [show (skB (ts.take i))++num tt.enc.length++tt.enc=skB (ts.take (i+1)) from by rw [List.take_add_one,htt,Option.toList_some,skB_snoc,List.append_assoc]; rfl]
  refine reg (lv (v:=(vI (i+1))) rAd ?_)
  refine lm ?_
  exact liNil (qThen (sA (i+1,A216,c216) (by show _≤_; omega) (by show 12 - (i+1) < 12 - i; omega) (fun w hM=>(hM.pick [0,1,2] rfl rfl))))
 ·have hd11:=of_decide_eq_false hc11
  obtain rfl:i=12:=by omega
  rw [show ts.take 12=ts from by rw [← tl,List.take_length]]
  have hsk:=skB_len (ts:=ts) okt.all
  refine stExit (qThenX (qThenX (qBlockX (qThen (stSeq (reg ?_))))))
  refine lm ?_
  refine li rfl (opK [1,2] _ (fun w hM hO=>(rsDone_ok bw8 AX cX (skB ts) w hO (by omega)).mono ?_))
  rintro e w' ⟨A220,c220,rfl,hP⟩
  refine ⟨_,[_,_],_,rfl,hP,rfl,?_⟩; clear hP hM hO
  refine lm ?_
  refine lc (vL A220 (skB ts) c220) ?_
  refine lc (.int .i64 0) ?_
  refine la ?_
  refine la ?_
  refine liNil (qThen (stSeq (reg (lm ?_))))
  refine la ?_
  refine liNil (qThen (stRet (sN [(vL A220 (skB ts) c220)] fun w hM=>?_)))
  exact ⟨A220,c220,rfl,(hM.pick [3] rfl rfl)⟩
theorem qRead (A:Option Addr) (c:Nat) (D:List UInt8) (w:World) (r0:Rf [] w (fun w=>RowIn w A (B8 D))) (hD:D.length≤4294967296) :
  Calls Tryz.prog 33 #[(vL A D c)] w fun e w'=>∃ (cl:List Value) (Xs:List TX) (ts:List BT),e = .returned (.tuple #[(.agg (cl).toArray),(.bool (rdSk D).isSome)])∧Back [] w [cTabs Xs ts] w'∧(∀ us,rdSk D=some us→us=ts∧cl=pcs Xs∧Xs.length=12)∧(cl.length=12∧∀ v∈cl,v.oneCell'=true):=by
 refine sE1 Tryz.func33 47 (Mm.start w []) ?_
 refine stSeq (reg (li rfl (oAl [(.pointer none),(.pointer none),(.pointer none),(.pointer none),(.pointer none),(.pointer none),(.pointer none),(.pointer none),(.pointer none),(.pointer none),(.pointer none),(.pointer none)] fun b2=>?_)))
 refine la ?_
 refine liNil (qThen (stSeq (reg (li rfl (oAl [(.pointer none),(.pointer none),(.pointer none),(.pointer none),(.pointer none),(.pointer none),(.pointer none),(.pointer none),(.pointer none),(.pointer none),(.pointer none),(.pointer none)] fun b4=>?_)))))
 refine liNil (qThen (stSeq (reg (lm ?_))))
 refine li rfl (opK0 (fun w hM=>(rsRNew_any A c D w (r0.go0 hM) (hD)).mono ?_))
 rintro e w' ⟨X12,br12,rfl,hP⟩
 refine ⟨_,_,rfl,hP,?_⟩; clear hP hM
 refine la ?_
 refine liNil (qThen (stSeq (stSeq (reg (lm ?_)))))
 refine liNil (qThen (stBlock (St.mem (fun w hM=>hM.newTabs) ?_)))
 refine sL (fun (i,Xs,ts,r1)=>i≤12∧Xs.length=i∧rdStr (Rd.mk D 0 0 0) i=(some ts,r1)) (fun (i,Xs,ts,r1)=>12 - i) (fun (i,Xs,ts,r1)=>[(2,(vP b2 0)),(3,(.bool false)),(4,(vP b4 0)),(5,(vP br12 0)),(13,(vI i))]) (fun (i,Xs,ts,r1)=>[cAt b2 72 [(.pointer none),(.pointer none),(.pointer none),(.pointer none),(.pointer none),(.pointer none),(.pointer none),(.pointer none),(.pointer none),(.pointer none),(.pointer none),(.pointer none)],cAt b4 72 (pcs Xs++List.replicate (12 - i) nilP),cRd X12 br12 (r1),cTabs Xs ts]) (0,[],[],(Rd.mk D 0 0 0)) ⟨by omega,rfl,rfl⟩ (fun _ h=>h) ?_
 rintro ⟨i,Xs,ts,r1⟩ ⟨hi,hXl,hrd⟩
 dsimp only
 refine stSeq (reg (lc (.bool (decide (((i:Nat):Int) < 12))) ?_))
 refine liNil (qThen (stSeq (stCond rfl (fun hc14=>?_) (fun hc14=>?_))))
 ·have hd14:=of_decide_eq_true hc14
  have hlt:i < 12:=by omega
  refine St.fact (fun w hM=>(hM.at (i:=2) (c:=cRd X12 br12 (r1)) rfl).2.len) (fun hrl=>?_)
  refine stSkip (qThen (stSeq (stBlock (stSeq (reg (lm ?_))))))
  refine la ?_
  refine liNil (qThen (stSeq ?_))
  cases hdc:decd r1.rest.1 with
  | none =>
    refine reg (lm ?_)
    refine lm ?_
    refine li rfl (opK [2] _ (fun w hM hO=>(rsRLeft_any X12 br12 r1 w hO).mono ?_))
    rintro e w' ⟨rfl,hP⟩
    refine ⟨_,[_],_,rfl,hP,rfl,?_⟩; clear hP hM hO
    refine li rfl (opK [2] _ (fun w hM hO=>(rsRBytes_any X12 br12 r1 (r1.D.length - r1.off) w hO (by omega)).mono ?_))
    rintro e w' ⟨B20,cb20,rfl,hP⟩
    refine ⟨_,[_],_,rfl,hP,rfl,?_⟩; clear hP hM hO
    rw [show r1.text (r1.D.length - r1.off)=r1.rest from rfl]
    refine li rfl (opK0 (fun w hM=>(qDec_none B20 cb20 r1.rest.1 w (hM.keep0 (j:=4) rfl (fun _ h=>RowIn.of_own h)) (by have h9:=r1.text_le (r1.D.length - r1.off); unfold Rd.rest; omega) (by assumption)).mono ?_))
    rintro e w' ⟨rfl,hP⟩
    refine ⟨_,_,rfl,hP,?_⟩; clear hP hM
    refine lm ?_
    refine lc (.pointer none) ?_
    refine lc (.int .i64 3) ?_
    refine la ?_
    refine la ?_
    refine liNil (qThen (stSeq (stSeq (reg (lm ?_)))))
    refine lc (.bool true) ?_
    refine lm ?_
    iterate 6 refine lnT ?_
    refine lc (.bool true) ?_
    refine liNil (qThen (stTrue rfl (stSeq (reg ?_))))
    refine lc (.agg #[(.pointer none),(.pointer none),(.pointer none),(.pointer none),(.pointer none),(.pointer none),(.pointer none),(.pointer none),(.pointer none),(.pointer none),(.pointer none),(.pointer none)]) ?_
    refine li rfl (oSN 0 [(.pointer none),(.pointer none),(.pointer none),(.pointer none),(.pointer none),(.pointer none),(.pointer none),(.pointer none),(.pointer none),(.pointer none),(.pointer none),(.pointer none)] ?_)
    refine la ?_
    refine liNil (qThen (stRet (qThenR (qBlockR (qThenR (qThenR (qBlockR (qThenR ?_))))))))
    have hn:rdSk D=none:=rdSk_bad (i:=i+1) (by omega) (rdStr_bad hrd (.inl hdc))
    refine stEnd [(.agg ([(.pointer none),(.pointer none),(.pointer none),(.pointer none),(.pointer none),(.pointer none),(.pointer none),(.pointer none),(.pointer none),(.pointer none),(.pointer none),(.pointer none)]).toArray),(.bool false)] rfl ⟨⟨_,rfl,fun w hM=>run_loadVarA (by kernel_rfl) (by kernel_rfl) (segAt (i:=0) (off:=0) rfl (by intro j v hj; rw [Nat.zero_add]; exact hj) w hM)⟩,rfl,trivial⟩ (fun w hM=>?_)
    exact ⟨[(.pointer none),(.pointer none),(.pointer none),(.pointer none),(.pointer none),(.pointer none),(.pointer none),(.pointer none),(.pointer none),(.pointer none),(.pointer none),(.pointer none)],Xs,ts,bool_ret (by rw [hn]; rfl),(hM.pick [3] rfl rfl),fun us h=>by (rw [hn] at h; cases h),⟨rfl,by simp [Value.oneCell']⟩⟩
  | some t =>
    refine reg (lm ?_)
    refine lm ?_
    refine li rfl (opK [2] _ (fun w hM hO=>(rsRLeft_any X12 br12 r1 w hO).mono ?_))
    rintro e w' ⟨rfl,hP⟩
    refine ⟨_,[_],_,rfl,hP,rfl,?_⟩; clear hP hM hO
    refine li rfl (opK [2] _ (fun w hM hO=>(rsRBytes_any X12 br12 r1 (r1.D.length - r1.off) w hO (by omega)).mono ?_))
    rintro e w' ⟨B20,cb20,rfl,hP⟩
    refine ⟨_,[_],_,rfl,hP,rfl,?_⟩; clear hP hM hO
    rw [show r1.text (r1.D.length - r1.off)=r1.rest from rfl]
    refine li rfl (opK0 (fun w hM=>(qDec_some B20 cb20 r1.rest.1 t w (hM.keep0 (j:=4) rfl (fun _ h=>RowIn.of_own h)) (by have h9:=r1.text_le (r1.D.length - r1.off); unfold Rd.rest; omega) (by assumption)).mono ?_))
    rintro e w' ⟨X21,rfl,hP⟩
    refine ⟨_,_,rfl,hP,?_⟩; clear hP hM
    refine lm ?_
    refine lc (vP X21.bt 0) ?_
    refine lc (.int .i64 0) ?_
    refine la ?_
    refine la ?_
    refine liNil (qThen (stSeq (stSeq (reg (lm ?_)))))
    refine lc (.bool false) ?_
    refine lm ?_
    refine lgm ?_
    refine lgm ?_
    refine lgv (v:=(vI (i+1))) (rAdd _ rfl rfl rfl (by omega) (by omega) (by omega)) ?_
    refine lgv (v:=(vU (i+1))) (rIntC _ (fun _=>by kernel_rfl) rfl rfl (wrapU64_id (by omega) (by omega))) ?_
    refine liGo rfl rfl ?_
    refine opK0 (fun w hM=>(qIsT X21 t 12 (i+1) w (hM.keep0 (j:=5) rfl (fun _ h=>h)) (by decide) (by unfold U64; omega)).mono ?_)
    rintro e w' ⟨rfl,hP⟩
    refine ⟨_,_,rfl,hP,?_⟩; clear hP hM
    refine lgc (.bool (!(isT t 12 (i+1)))) ?_
    refine lc (.bool (!(isT t 12 (i+1)))) ?_
    refine liNil (qThen (stCond rfl (fun hc33=>?_) (fun hc33=>?_)))
    ·refine stSeq ?_
     dsimp only [setAll,List.set,List.cons_append,List.nil_append]
     refine reg (lc (.agg #[(.pointer none),(.pointer none),(.pointer none),(.pointer none),(.pointer none),(.pointer none),(.pointer none),(.pointer none),(.pointer none),(.pointer none),(.pointer none),(.pointer none)]) ?_)
     refine li rfl (oSN 0 [(.pointer none),(.pointer none),(.pointer none),(.pointer none),(.pointer none),(.pointer none),(.pointer none),(.pointer none),(.pointer none),(.pointer none),(.pointer none),(.pointer none)] ?_)
     refine la ?_
     refine liNil (qThen (stRet (qThenR (qBlockR (qThenR (qThenR (qBlockR (qThenR ?_))))))))
     have hn:rdSk D=none:=rdSk_bad (i:=i+1) (by omega) (rdStr_bad hrd (.inr ⟨t,hdc,by simpa using hc33⟩))
     refine stEnd [(.agg ([(.pointer none),(.pointer none),(.pointer none),(.pointer none),(.pointer none),(.pointer none),(.pointer none),(.pointer none),(.pointer none),(.pointer none),(.pointer none),(.pointer none)]).toArray),(.bool false)] rfl ⟨⟨_,rfl,fun w hM=>run_loadVarA (by kernel_rfl) (by kernel_rfl) (segAt (i:=0) (off:=0) rfl (by intro j v hj; rw [Nat.zero_add]; exact hj) w hM)⟩,rfl,trivial⟩ (fun w hM=>?_)
     exact ⟨[(.pointer none),(.pointer none),(.pointer none),(.pointer none),(.pointer none),(.pointer none),(.pointer none),(.pointer none),(.pointer none),(.pointer none),(.pointer none),(.pointer none)],Xs,ts,bool_ret (by rw [hn]; rfl),(hM.pick [3] rfl rfl),fun us h=>by (rw [hn] at h; cases h),⟨rfl,by simp [Value.oneCell']⟩⟩
    ·refine stSkip (qThen (reg (lm ?_)))
     refine lm ?_
     refine lv (v:=(vP b4 (0+i))) (rIndexArr1 (e:=70) (m:=12) rfl (by kernel_rfl) (by kernel_rfl) rfl rfl (by omega)) ?_
     refine li rfl (opStore1 1 rfl rfl (by kernel_rfl) rfl rfl rfl (by kernel_rfl) rfl (by simp [pcs]; omega) ?_)
     dsimp only [setAll,List.set,List.cons_append,List.nil_append]
     rw [show (pcs Xs++List.replicate (12 - i) nilP).set (0+i) (vP X21.bt 0)=pcs (Xs++[X21])++List.replicate (12 - (i+1)) nilP from pcs_set X21 hXl (by omega)]
     refine liNil (qBlock (qThen (reg ?_)))
     refine lv (v:=(vI (i+1))) rAd ?_
     refine lm ?_
     exact liNil (qThen (sA (i+1,Xs++[X21],ts++[t],r1.rest.2) (⟨by omega,by simp [hXl],rdStr_go hrd hdc (by simpa using hc33)⟩) (by show 12 - (i+1) < 12 - i; omega) (fun w hM=>Mm.addTab (cs:=[cAt b2 72 [(.pointer none),(.pointer none),(.pointer none),(.pointer none),(.pointer none),(.pointer none),(.pointer none),(.pointer none),(.pointer none),(.pointer none),(.pointer none),(.pointer none)],cAt b4 72 ((pcs (Xs++[X21])++List.replicate (12 - (i+1)) nilP)),cRd X12 br12 (r1.rest.2)]) (hM.pick [0,1,2,3,5] rfl rfl))))
 ·have hd14:=of_decide_eq_false hc14
  obtain rfl:i=12:=by omega
  refine St.mem (cs':=[cAt b2 72 [(.pointer none),(.pointer none),(.pointer none),(.pointer none),(.pointer none),(.pointer none),(.pointer none),(.pointer none),(.pointer none),(.pointer none),(.pointer none),(.pointer none)],cAt b4 72 (pcs Xs),cRd X12 br12 (r1),cTabs Xs ts]) (fun w hM=>by rw [Nat.sub_self,List.replicate_zero,List.append_nil] at hM; exact hM) ?_
  refine stExit (qThenX (qThenX (qBlockX (qThen (stSeq (reg ?_))))))
  refine lm ?_
  refine li rfl (opK [2] _ (fun w hM hO=>(rsREnd_any X12 br12 r1 w hO).mono ?_))
  rintro e w' ⟨rfl,hP⟩
  refine ⟨_,[_],_,rfl,hP,rfl,?_⟩; clear hP hM hO
  refine lm ?_
  refine lc (vI r1.off) ?_
  refine lc (.int .i64 r1.end_) ?_
  refine la ?_
  refine la ?_
  refine liNil (qThen (stSeq (reg (lv (v:=(.agg (pcs Xs).toArray)) (rLoadA (pcs Xs) rfl rfl (by kernel_rfl) (by rw [pcs_len,hXl]; kernel_rfl) (segAt (i:=1) rfl (fun j v hj=>by rw [Nat.zero_add]; exact hj))) ?_))))
  refine lm ?_
  refine lc (.bool ((r1.end_:Int) == 0)) ?_
  refine li rfl (opStoreN 0 (pcs Xs) (vs:=pcs Xs) rfl rfl (by kernel_rfl) rfl rfl rfl (by rw [pcs_len,hXl]; kernel_rfl) rfl (by rw [pcs_len,hXl]; decide) (pcs_one Xs) (by rw [List.take_zero,List.nil_append,pcs_len,hXl]; simp) ?_)
  refine la ?_
  refine liNil (qThen (stRet (stEnd [(.agg (pcs Xs).toArray),(.bool (decide (r1.end_=0)))] rfl ⟨⟨_,rfl,fun w hM=>run_loadVarA (by kernel_rfl) (by rw [pcs_len,hXl]; kernel_rfl) (segAt (i:=0) (off:=0) rfl (by intro j v hj; rw [Nat.zero_add]; exact hj) w hM)⟩,rfl,trivial⟩ (fun w hM=>?_))))
  exact ⟨pcs Xs,Xs,ts,bool_ret (by rw [rdSk_end hrd]; by_cases h:r1.end_=0 <;> simp [h]),(hM.pick [3] rfl rfl),fun us h=>by (rw [rdSk_end hrd] at h; split at h <;> simp at h; exact ⟨h.symm,rfl,hXl⟩),⟨by rw [pcs_len,hXl],pcs_one Xs⟩⟩
theorem qEst (Xs:List TX) (ts:List BT) (Ys:List TX) (us:List BT) (w:World) (r0:Rf [] w (Vars)) (r1:Rf [] w (fun w=>(cTabs Xs ts).holds w)) (r2:Rf [] w (fun w=>(cTabs Ys us).holds w)) (okt:okStr ts) (tl:ts.length=12) (Xl:Xs.length=12) (oku:okStr us) (ul:us.length=12) (Yl:Ys.length=12) :
  Calls Tryz.prog 34 #[(.agg (pcs Xs).toArray),(.agg (pcs Ys).toArray)] w fun e w'=>e = .returned (vI (est ts us))∧Back [] w [] w':=by
 refine stEnter (args:=[(.agg (pcs Xs).toArray),(.agg (pcs Ys).toArray)]) (fps []) Tryz.func34 rfl 53 rfl [(0,(.agg (pcs Xs).toArray)),(1,(.agg (pcs Ys).toArray))] ⟨rfl,rfl,trivial⟩ [] (Mm.start w []) ?_
 refine stSeq (reg (li rfl (opBox (pcs Xs) rfl rfl (by kernel_rfl) rfl rfl (fun b2=>?_))))
 refine li rfl (opBox (pcs Ys) rfl rfl (by kernel_rfl) rfl rfl (fun b3=>?_))
 refine la ?_
 refine liNil (qThen (stSeq (reg (la ?_))))
 refine liNil (qThen (stSeq (stSeq (reg (la ?_)))))
 refine liNil (qThen (stBlock ?_))
 refine stLoop (ι:=Nat × Int × Nat) (fun (p,z,s)=>p≤12∧z=(p:Int) - 1∧estL ts us p s=est ts us∧s≤(12 - p)*24) (fun (p,z,s)=>p) (fun (p,z,s)=>[(2,(vP b2 0)),(3,(vP b3 0)),(4,(.int .i64 0)),(5,(vI s)),(6,(.int .i64 z))]) (fun (p,z,s)=>[cAt b2 72 (pcs Xs),cAt b3 72 (pcs Ys)]) (12,11,0) ⟨by omega,rfl,rfl,by omega⟩ ⟨rfl,rfl,rfl,rfl,rfl,trivial⟩ (fun w hM=>by show Mm _ _ [cAt b2 72 (pcs Xs),cAt b3 72 (pcs Ys)] w; exact hM) ?_
 rintro ⟨p,z,s⟩ ⟨hp,hz,hes,hsb⟩
 show St _ _ _ [(2,(vP b2 0)),(3,(vP b3 0)),(4,(.int .i64 0)),(5,(vI s)),(6,(.int .i64 z))] [cAt b2 72 (pcs Xs),cAt b3 72 (pcs Ys)] _
 refine stSeq (stSeq (reg (lm ?_)))
 refine lc (.bool (decide ((z:Int)≥0))) ?_
 refine liNil (qThen (stCond rfl (fun hc12=>?_) (fun hc12=>?_)))
 ·have hd12:=of_decide_eq_true hc12
  obtain ⟨q,rfl⟩:∃ q,p=q+1:=⟨p - 1,by omega⟩
  obtain rfl:z=(q:Int):=by omega
  obtain ⟨XX,hXX⟩:=list_ext_get (l:=Xs) (k:=q) (by omega)
  obtain ⟨tt,htt⟩:=list_ext_get (l:=ts) (k:=q) (by omega)
  have rtXX:=r1.imp (fun _ h=>tabs_at h hXX htt)
  obtain ⟨YY,hYY⟩:=list_ext_get (l:=Ys) (k:=q) (by omega)
  obtain ⟨uu,huu⟩:=list_ext_get (l:=us) (k:=q) (by omega)
  have rtYY:=r2.imp (fun _ h=>tabs_at h hYY huu)
  have hpw:2 ^ (q+1)≤2 ^ 12:=Nat.pow_le_pow_right (by omega) (by omega)
  have hml:(s+1)*2 ^ (q+1)≤289*2 ^ 12:=Nat.mul_le_mul (by omega) hpw
  have hul:uu.cells.length=tt.cells.length:=by rw [(okt q tt htt).2.1,(oku q uu huu).2.1]
  refine stSkip (qThen (stSeq (stBlock (stSeq (anyBegin [cAt b2 72 (pcs Xs),cAt b3 72 (pcs Ys)] 12 (by kernel_rfl) (fun _ h=>h) ?_)))))
  refine am 0 ?_
  refine av 1 (vP b2 (0+q)) rfl (rIndexArr1 (e:=70) (m:=12) rfl (by kernel_rfl) (by kernel_rfl) rfl rfl (by omega)) ?_
  refine av 2 (vP XX.bt 0) rfl (rLoad 0 rfl rfl (by kernel_rfl) rfl (pcs_get0 hXX)) ?_
  refine am 3 ?_
  refine av 4 (vP b3 (0+q)) rfl (rIndexArr1 (e:=70) (m:=12) rfl (by kernel_rfl) (by kernel_rfl) rfl rfl (by omega)) ?_
  refine av 5 (vP YY.bt 0) rfl (rLoad 1 rfl rfl (by kernel_rfl) rfl (pcs_get0 hYY)) ?_
  refine a1 6 ?_
  refine opK0 (fun w hM=>(qSub_ok XX tt YY uu w (rtXX.go0 hM) (rtYY.go0 hM) (tsame_ok okt oku htt huu)).mono ?_)
  rintro e w' ⟨Z22,rfl,hP⟩
  refine ⟨_,_,rfl,hP,?_⟩; clear hP hM
  refine anyNext [cAt b2 72 (pcs Xs),cAt b3 72 (pcs Ys),cT Z22 (tt.sub uu)] (fun _ h=>h.pick [0,1] rfl rfl) (fun _ h=>h) ?_
  refine am 7 ?_
  refine ac 8 (vP Z22.bt 0) ?_
  refine ac 9 (.int .i64 0) ?_
  refine aa 10 ?_
  refine aa 11 ?_
  refine anyDone (by kernel_rfl) ?_
  refine qThen (stSeq (stSeq (reg (lm ?_))))
  refine lc (.bool false) ?_
  refine liNil (qThen (stFalse rfl (stSkip (qThen (stSeq ?_)))))
  refine St.to [cAt b2 72 (pcs Xs),cAt b3 72 (pcs Ys),cT Z22 (tt.sub uu)] (by kernel_rfl) ?_
  cases hk:(tt.sub uu).keys with
  | none =>
    refine reg (lm ?_)
    refine li rfl (opK0 (fun w hM=>(qKeys_none Z22 (tt.sub uu) w (r0.go0 hM) (hM.keep0 (j:=2) rfl (fun _ h=>h)) (by assumption)).mono ?_))
    rintro e w' ⟨rfl,hP⟩
    refine ⟨_,_,rfl,hP,?_⟩; clear hP hM
    refine lm ?_
    refine lc (.slice none 0 0) ?_
    refine lc (.slice none 0 0) ?_
    refine lc (.int .i64 10) ?_
    iterate 3 refine la ?_
    refine liNil (qThen (stSeq (stSeq (reg (lm ?_)))))
    refine lc (.bool true) ?_
    refine liNil (qThen (stTrue rfl (stSeq (reg ?_))))
    refine lm ?_
    refine lv (v:=(vI (s+1))) (rAdd _ rfl rfl rfl (by omega) (by omega) (by omega)) ?_
    refine lm ?_
    refine lv (v:=(vI (q+1))) (rAdd _ rfl rfl rfl (by omega) (by omega) (by omega)) ?_
    refine lv (v:=(vI ((s+1)*2 ^ (q+1)))) (rShlN rfl rfl rfl (by omega) (by omega)) ?_
    refine la ?_
    refine liNil (qThen (stRet (qThenR (qBlockR (qThenR (qThenR (qBlockR (qThenR ?_))))))))
    refine stEnd [(vI ((s+1)*2 ^ (q+1)))] rfl ⟨rfl,trivial⟩ (fun w hM=>?_)
    rw [← estL_none htt huu hk,hes]
    exact ⟨rfl,(hM.pick [] rfl rfl)⟩
  | some p =>
    obtain ⟨kl,km⟩:=p
    have hkl:=keys_le hk
    rw [sub_len hul,(okt q tt htt).2.1] at hkl
    have hes2:estL ts us q (s+kl.length+km.length)=est ts us:=by rw [← estL_some htt huu hk]; exact hes
    refine reg (lm ?_)
    refine li rfl (opK0 (fun w hM=>(qKeys_some Z22 (tt.sub uu) kl km w (r0.go0 hM) (hM.keep0 (j:=2) rfl (fun _ h=>h)) (by assumption)).mono ?_))
    rintro e w' ⟨A134,c134,A234,c234,rfl,hP⟩
    refine ⟨_,_,rfl,hP,?_⟩; clear hP hM
    refine lm ?_
    refine lc (vL A134 kl c134) ?_
    refine lc (vL A234 km c234) ?_
    refine lc (.int .i64 0) ?_
    iterate 3 refine la ?_
    refine liNil (qThen (stSeq (stSeq (reg (lm ?_)))))
    refine lc (.bool false) ?_
    refine liNil (qThen (stFalse rfl (stSkip (qThen (reg ?_)))))
    refine lm ?_
    refine lm ?_
    refine lc (vI kl.length) ?_
    refine lm ?_
    refine lc (vI km.length) ?_
    refine lv (v:=(vI (kl.length+km.length))) (rAdd _ rfl rfl rfl (by omega) (by omega) (by omega)) ?_
    refine lv (v:=(vI (s+kl.length+km.length))) (rAdd _ rfl rfl rfl (by omega) (by omega) (by omega)) ?_
    refine la ?_
    refine liNil (qBlock (qThen (reg ?_)))
    refine lm ?_
    refine lv (v:=(.int .i64 (((q:Nat):Int) - 1))) (rSub _ rfl rfl rfl rfl (by omega) (by omega)) ?_
    refine la ?_
    refine liNil (qThen ?_)
    exact stAgain (q, ((q : Nat) : Int) - 1, s + kl.length + km.length) (⟨by omega, rfl, hes2, by omega⟩) (by show q < q + 1; omega) ⟨rfl, rfl, rfl, rfl, rfl, trivial⟩ (fun w hM => (hM.pick [0, 1] rfl rfl))
 ·have hd12:=of_decide_eq_false hc12
  obtain rfl:p=0:=by omega
  have hes0:s=est ts us:=hes
  refine stExit (qThenX (qThenX (qBlockX (qThen (stSeq (reg ?_))))))
  refine lm ?_
  refine la ?_
  refine liNil (qThen (stRet (sN [(vI s)] fun w hM=>?_)))
  rw [hes0]
  exact ⟨rfl,(hM.pick [] rfl rfl)⟩
end
theorem qSketch_ok (A:Option Addr) (c:Nat) (l:List (List UInt8)) (w:World) (r0:Rf [] w (Vars)) (r1:Rf [] w (fun w=>RowIn w A (SS l))) (hl:l.length≤9223372036854775807) (he:setE l=0) (h40:l.length≤1000) :
  Calls Tryz.prog 8 #[(vL A l c)] w fun e w'=>∃ (A2:Option Addr) (c2:Nat),e = .returned (.tuple #[(vL A2 (skB (strata l)) c2),(.int .i64 0)])∧Back [] w [cB A2 (skB (strata l)) c2] w':=by
 refine sE1 Tryz.func8 17 (Mm.start w []) ?_
 refine stSeq (reg (la ?_))
 refine la ?_
 refine liNil (qThen (stSeq (stSeq (reg (lm ?_)))))
 refine li rfl (opK0 (fun w hM=>(rsFp_ok A c l w (r0.go0 hM) (r1.go0 hM) (by omega) (by assumption) (by omega)).mono ?_))
 rintro e w' ⟨rfl,hP⟩
 refine ⟨_,_,rfl,hP,?_⟩; clear hP hM
 refine lm ?_
 refine lc (vS (fpB l)) ?_
 refine lc (.int .i64 0) ?_
 refine la ?_
 refine la ?_
 refine liNil (qThen (stSeq (reg (lm ?_))))
 refine lc (.bool false) ?_
 refine liNil (qThen (stFalse rfl (stSkip (qThen (stSeq ?_)))))
 have hset:=(setE_zero he).2
 have h32:=hset.1
 refine reg (lm ?_)
 refine li rfl (opK0 (fun w hM=>(qStrataOf A c l w (r0.go0 hM) (r1.go0 hM) (by assumption) (by omega)).mono ?_))
 rintro e w' ⟨Xs15,rfl,hP,hn15⟩
 refine ⟨_,_,rfl,hP,?_⟩; clear hP hM
 refine li rfl (opK0 (fun w hM=>(qSketch1 Xs15 (strata l) w (hM.keep0 (j:=0) rfl (fun _ h=>h)) (strata_ok h32) (strata_len l) (hn15)).mono ?_))
 rintro e w' ⟨A16,c16,rfl,hP⟩
 refine ⟨_,_,rfl,hP,?_⟩; clear hP hM
 refine la ?_
 refine la ?_
 refine liNil (qThen (stRet (sN [(vL A16 (skB (strata l)) c16),(.int .i64 0)] fun w hM=>?_)))
 exact ⟨A16,c16,rfl,(hM.pick [1] rfl rfl)⟩
theorem qEst_ok (A:Option Addr) (c:Nat) (D:List UInt8) (A2:Option Addr) (c2:Nat) (D2:List UInt8) (ts us:List BT) (w:World) (r0:Rf [] w (Vars)) (r1:Rf [] w (fun w=>RowIn w A (B8 D))) (r2:Rf [] w (fun w=>RowIn w A2 (B8 D2))) (hD:D.length≤4294967296) (hD2:D2.length≤4294967296) (h1:rdSk D=some ts) (h2:rdSk D2=some us) :
  Calls Tryz.prog 9 #[(vL A D c),(vL A2 D2 c2)] w fun e w'=>e = .returned (.tuple #[(vI (est ts us)),(.int .i64 0)])∧Back [] w [] w':=by
 refine sE2 Tryz.func9 26 (Mm.start w []) ?_
 refine stSeq (reg (la ?_))
 refine la ?_
 refine liNil (qThen (stSeq (reg (lm ?_))))
 refine li rfl (opK0 (fun w hM=>(qRead A c D w (r1.go0 hM) (by omega)).mono ?_))
 rintro e w' ⟨cl11,Xs11,ts11,rfl,hP,hs11,hcl11⟩
 refine ⟨_,_,rfl,hP,?_⟩; clear hP hM
 obtain ⟨rfl,rfl,hXl11⟩:=hs11 _ h1
 have hB11:(rdSk D).isSome=true:=by rw [h1]; rfl
 refine lm ?_
 refine lc (.agg ((pcs Xs11)).toArray) ?_
 refine lc (.bool (rdSk D).isSome) ?_
 refine li rfl (oAl [(.pointer none),(.pointer none),(.pointer none),(.pointer none),(.pointer none),(.pointer none),(.pointer none),(.pointer none),(.pointer none),(.pointer none),(.pointer none),(.pointer none)] fun b6=>?_)
 refine li rfl (opStoreN 1 (pcs Xs11) (vs:=(pcs Xs11)) rfl rfl (by kernel_rfl) rfl rfl rfl (by rw [pcs_len,hXl11]; kernel_rfl) rfl (by rw [pcs_len,hXl11]; decide) (pcs_one _) (by rw [List.take_zero,List.nil_append,pcs_len,hXl11]; simp) ?_)
 refine la ?_
 refine liNil (qThen (stSeq (stSeq (reg (lm ?_)))))
 refine lc (.bool (!(rdSk D).isSome)) ?_
 refine liNil (qThen (stFalseK rfl (by rw [hB11]; rfl) ?_))
 refine stSkip (qThen (stSeq (reg (lm ?_))))
 refine li rfl (opK0 (fun w hM=>(qRead A2 c2 D2 w (r2.go0 hM) (by omega)).mono ?_))
 rintro e w' ⟨cl18,Xs18,ts18,rfl,hP,hs18,hcl18⟩
 refine ⟨_,_,rfl,hP,?_⟩; clear hP hM
 obtain ⟨rfl,rfl,hXl18⟩:=hs18 _ h2
 have hB18:(rdSk D2).isSome=true:=by rw [h2]; rfl
 refine lm ?_
 refine lc (.agg ((pcs Xs18)).toArray) ?_
 refine lc (.bool (rdSk D2).isSome) ?_
 refine li rfl (oAl [(.pointer none),(.pointer none),(.pointer none),(.pointer none),(.pointer none),(.pointer none),(.pointer none),(.pointer none),(.pointer none),(.pointer none),(.pointer none),(.pointer none)] fun b8=>?_)
 refine li rfl (opStoreN 3 (pcs Xs18) (vs:=(pcs Xs18)) rfl rfl (by kernel_rfl) rfl rfl rfl (by rw [pcs_len,hXl18]; kernel_rfl) rfl (by rw [pcs_len,hXl18]; decide) (pcs_one _) (by rw [List.take_zero,List.nil_append,pcs_len,hXl18]; simp) ?_)
 dsimp only [setAll,List.set,List.cons_append,List.nil_append]
 refine la ?_
 refine liNil (qThen (stSeq (stSeq (reg (lm ?_)))))
 refine lc (.bool (!(rdSk D2).isSome)) ?_
 refine liNil (qThen (stFalseK rfl (by rw [hB18]; rfl) ?_))
 refine stSkip (qThen (stSeq (reg (lv (v:=(.agg (pcs Xs11).toArray)) (rLoadA (pcs Xs11) rfl rfl (by kernel_rfl) (by rw [pcs_len,hXl11]; kernel_rfl) (segAt (i:=1) rfl (fun j v hj=>by rw [Nat.zero_add]; exact hj))) ?_))))
 refine lv (v:=(.agg (pcs Xs18).toArray)) (rLoadA (pcs Xs18) rfl rfl (by kernel_rfl) (by rw [pcs_len,hXl18]; kernel_rfl) (segAt (i:=3) rfl (fun j v hj=>by rw [Nat.zero_add]; exact hj))) ?_
 refine li rfl (opK0 (fun w hM=>(qEst Xs11 ts Xs18 us w (r0.go0 hM) (hM.keep0 (j:=0) rfl (fun _ h=>h)) (hM.keep0 (j:=2) rfl (fun _ h=>h)) ((rdSk_ok h1).2) ((rdSk_ok h1).1) (hXl11) ((rdSk_ok h2).2) ((rdSk_ok h2).1) (hXl18)).mono ?_))
 rintro e w' ⟨rfl,hP⟩
 refine ⟨_,_,rfl,hP,?_⟩; clear hP hM
 refine la ?_
 refine la ?_
 refine liNil (qThen (stRet (sN [(vI (est ts us)),(.int .i64 0)] fun w hM=>?_)))
 exact ⟨rfl,(hM.pick [] rfl rfl)⟩
theorem rsLearn_any (bs:Nat) (A:Option Addr) (c:Nat) (its:List (List UInt8)) (fan leaf:Nat) (nm om:Nat) (A1:Option Addr) (c1:Nat) (l:List (List UInt8)) (A2:Option Addr) (c2:Nat) (m:List (List UInt8)) (bo:Nat) (R:Value) (N:Option Addr) (nc:Nat) (nl:List (List UInt8)) (O:Option Addr) (oc:Nat) (ol:List (List UInt8)) (w:World) (hO:Own [cAt bo 240 [R,(vL N (nl) nc),(vL O (ol) oc)],cS N (nl) nc,cS O (ol) oc] w) (r0:Rf [cAt bo 240 [R,(vL N (nl) nc),(vL O (ol) oc)],cS N (nl) nc,cS O (ol) oc] w (SessAt bs A c its fan leaf nm om)) (r1:Rf [cAt bo 240 [R,(vL N (nl) nc),(vL O (ol) oc)],cS N (nl) nc,cS O (ol) oc] w (fun w=>RowIn w A1 (SS l))) (r2:Rf [cAt bo 240 [R,(vL N (nl) nc),(vL O (ol) oc)],cS N (nl) nc,cS O (ol) oc] w (fun w=>RowIn w A2 (SS m))) (hs:okSet its) (hn:its.length≤1000) (hl:l.length≤4294967296) (hm:m.length≤4294967296) (hnl:nl.length≤68719476736) (hol:ol.length≤68719476736) (hR:R.oneCell'=true) :
  Calls Tryz.prog 180 #[(vP bs 0),(.agg #[(vL A1 l c1),(vL A2 m c2)]),(vP bo 0)] w fun e w'=>∃ (N2:Option Addr) (nc2:Nat) (O2:Option Addr) (oc2:Nat),e = .returned (.tuple #[])∧Back [cAt bo 240 [R,(vL N (nl) nc),(vL O (ol) oc)],cS N (nl) nc,cS O (ol) oc] w [cAt bo 240 [R,(vL N2 (nl++without l its) nc2),(vL O2 (ol++keepIn m its) oc2)],cS N2 (nl++without l its) nc2,cS O2 (ol++keepIn m its) oc2] w':=by
 have ra:=r0.imp (fun _ h=>h.1)
 have rb:=r0.imp (fun _ h=>h.2)
 refine sE3 Tryz.func180 53 (hO) ?_
 refine stSeq (reg (li rfl (oBx [(vL A1 l c1),(vL A2 m c2)] fun b4=>?_)))
 refine liNil (qThen (stSeq (stSeq (reg (lc (vP b4 0) ?_)))))
 refine ll 3 ?_
 refine lc (vI l.length) ?_
 refine lm ?_
 refine liNil (qThen (stBlock (sL (fun (i,N28,nc28)=>i≤l.length) (fun (i,N28,nc28)=>l.length - i) (fun (i,N28,nc28)=>[(0,(vP bs 0)),(2,(vP bo 0)),(4,(vP b4 0)),(11,(vL A1 l c1)),(12,(vI l.length)),(13,(vI i))]) (fun (i,N28,nc28)=>[cAt bo 240 [R,(vL N28 (nl++without (l.take i) its) nc28),(vL O (ol) oc)],cS N28 (nl++without (l.take i) its) nc28,cS O (ol) oc,cAt b4 255 [(vL A1 l c1),(vL A2 m c2)]]) (0,N,nc) (Nat.zero_le _) (fun w hM=>by show Mm _ _ [cAt bo 240 [R,(vL N (nl++without (l.take 0) its) nc),(vL O (ol) oc)],cS N (nl++without (l.take 0) its) nc,cS O (ol) oc,cAt b4 255 [(vL A1 l c1),(vL A2 m c2)]] w; rw [show nl++without (l.take 0) its=nl from List.append_nil _]; exact hM) ?_)))
 rintro ⟨i,N28,nc28⟩ (hok:i≤l.length)
 dsimp only
 refine stSeq (reg (lc (.bool (decide (((i:Nat):Int) < ((l.length:Nat):Int)))) ?_))
 refine liNil (qThen (stSeq (stCond rfl (fun hc14=>?_) (fun hc14=>?_))))
 ·have hd14:=of_decide_eq_true hc14
  refine stSkip (qThen (stSeq (stBlock (stSeq (reg ?_)))))
  obtain ⟨x0,hx0⟩:∃ ξ,(l)[i]?=some ξ:=⟨_,List.getElem?_eq_getElem (by omega)⟩
  refine St.rowPtr (fun w hM=>r1.now hM) (SS_at hx0) (fun p15 q15 hA15 hc15=>?_)
  refine lv (v:=(vP p15 (q15+i))) (rR 9 hA15) ?_
  refine lv (rW hc15) ?_
  refine la ?_
  refine liNil (qThen (stSeq (reg (lm ?_))))
  refine lm ?_
  refine li rfl (opK0 (fun w hM=>(rsSHas_any bs A c its fan leaf nm om x0 w (r0.go0 hM) (by assumption) (by assumption)).mono ?_))
  rintro e w' ⟨rfl,hP⟩
  refine ⟨_,_,rfl,hP,?_⟩; clear hP hM
  refine lc (.bool (!(its.contains x0))) ?_
  refine liNil (qThen (stCond rfl (fun hc20=>?_) (fun hc20=>?_)))
  ·refine reg (lm ?_)
   refine lm ?_
   refine lc (vP bo 0) ?_
   refine lc (vP bo 1) ?_
   refine ll 0 ?_
   refine lm ?_
   refine li rfl (oNw 1 9 [(vS x0)] fun b27=>?_)
   refine li rfl (opAppend el_strC 1 ([(vS x0)]) rfl rfl (by kernel_rfl) rfl rfl rfl (rfl) (srcAt (i:=4) rfl (fun j v h=>by rw [Nat.zero_add]; exact h)) (by simp [Value.oneCell']) (by have h:=without_len (l.take i) its; simp only [List.length_append,List.length_take] at *; omega) ((nl++without (l.take i) its++[x0]).length) (by first | exact (List.length_append ..).symm | (simp; done) | (simp; omega)) (SS (nl++without (l.take i) its++[x0])) (by simp [SS]) (fun A28 c28=>?_))
   refine lc (vP bo 0) ?_
   refine lc (vP bo 1) ?_
   refine li rfl (oS1 0 ?_)
   refine liNil (qBlock (qThen ?_))
   dsimp only [setAll,List.set,List.cons_append,List.nil_append]
   refine reg (lv (v:=(vI (i+1))) rAd ?_)
   refine lm ?_
   refine liNil (qThen ?_)
   rw [show nl++without (l.take i) its++[x0]=nl++without (l.take (i+1)) its from by rw [List.append_assoc,without_yes hx0 (by simpa using hc20)]]
   exact sA (i+1,A28,c28) (by show _≤_; omega) (by show l.length - (i+1) < l.length - i; omega) (fun w hM=>(hM.pick [0,1,2,3] rfl rfl))
  ·refine stSkip (qBlock (qThen (reg ?_)))
   refine lv (v:=(vI (i+1))) rAd ?_
   refine lm ?_
   refine liNil (qThen ?_)
   rw [show nl++without (l.take i) its=nl++without (l.take (i+1)) its from by rw [without_no hx0 (by simpa using hc20)]]
   exact sA (i+1,N28,nc28) (by show _≤_; omega) (by show l.length - (i+1) < l.length - i; omega) (fun w hM=>hM)
 ·have hd14:=of_decide_eq_false hc14
  obtain rfl:i=l.length:=by omega
  rw [List.take_length]
  refine stExit (qThenX (qThenX (qBlockX (qThen (stSeq (reg ?_))))))
  refine lc (vP b4 1) ?_
  refine ll 3 ?_
  refine lc (vI m.length) ?_
  refine lm ?_
  refine liNil (qThen (stBlock (sL (fun (i,N49,nc49)=>i≤m.length) (fun (i,N49,nc49)=>m.length - i) (fun (i,N49,nc49)=>[(0,(vP bs 0)),(2,(vP bo 0)),(33,(vL A2 m c2)),(34,(vI m.length)),(35,(vI i))]) (fun (i,N49,nc49)=>[cAt bo 240 [R,(vL N28 (nl++without l its) nc28),(vL N49 (ol++keepIn (m.take i) its) nc49)],cS N28 (nl++without l its) nc28,cS N49 (ol++keepIn (m.take i) its) nc49,cAt b4 255 [(vL A1 l c1),(vL A2 m c2)]]) (0,O,oc) (Nat.zero_le _) (fun w hM=>by show Mm _ _ [cAt bo 240 [R,(vL N28 (nl++without l its) nc28),(vL O (ol++keepIn (m.take 0) its) oc)],cS N28 (nl++without l its) nc28,cS O (ol++keepIn (m.take 0) its) oc,cAt b4 255 [(vL A1 l c1),(vL A2 m c2)]] w; rw [show ol++keepIn (m.take 0) its=ol from List.append_nil _]; exact hM) ?_)))
  rintro ⟨i,N49,nc49⟩ (hok:i≤m.length)
  dsimp only
  refine stSeq (reg (lc (.bool (decide (((i:Nat):Int) < ((m.length:Nat):Int)))) ?_))
  refine liNil (qThen (stSeq (stCond rfl (fun hc36=>?_) (fun hc36=>?_))))
  ·have hd36:=of_decide_eq_true hc36
   refine stSkip (qThen (stSeq (stBlock (stSeq (reg ?_)))))
   obtain ⟨x0,hx0⟩:∃ ξ,(m)[i]?=some ξ:=⟨_,List.getElem?_eq_getElem (by omega)⟩
   refine St.rowPtr (fun w hM=>r2.now hM) (SS_at hx0) (fun p37 q37 hA37 hc37=>?_)
   refine lv (v:=(vP p37 (q37+i))) (rR 9 hA37) ?_
   refine lv (rW hc37) ?_
   refine la ?_
   refine liNil (qThen (stSeq (reg (lm ?_))))
   refine lm ?_
   refine li rfl (opK0 (fun w hM=>(rsSHas_any bs A c its fan leaf nm om x0 w (r0.go0 hM) (by assumption) (by assumption)).mono ?_))
   rintro e w' ⟨rfl,hP⟩
   refine ⟨_,_,rfl,hP,?_⟩; clear hP hM
   refine liNil (qThen (stCond rfl (fun hc41=>?_) (fun hc41=>?_)))
   ·refine reg (lm ?_)
    refine lm ?_
    refine lc (vP bo 0) ?_
    refine lc (vP bo 2) ?_
    refine ll 0 ?_
    refine lm ?_
    refine li rfl (oNw 1 9 [(vS x0)] fun b48=>?_)
    refine li rfl (opAppend el_strC 2 ([(vS x0)]) rfl rfl (by kernel_rfl) rfl rfl rfl (rfl) (srcAt (i:=4) rfl (fun j v h=>by rw [Nat.zero_add]; exact h)) (by simp [Value.oneCell']) (by have h:=keepIn_len (m.take i) its; simp only [List.length_append,List.length_take] at *; omega) ((ol++keepIn (m.take i) its++[x0]).length) (by first | exact (List.length_append ..).symm | (simp; done) | (simp; omega)) (SS (ol++keepIn (m.take i) its++[x0])) (by simp [SS]) (fun A49 c49=>?_))
    refine lc (vP bo 0) ?_
    refine lc (vP bo 2) ?_
    refine li rfl (oS1 0 ?_)
    refine liNil (qBlock (qThen ?_))
    dsimp only [setAll,List.set,List.cons_append,List.nil_append]
    refine reg (lv (v:=(vI (i+1))) rAd ?_)
    refine lm ?_
    refine liNil (qThen ?_)
    rw [show ol++keepIn (m.take i) its++[x0]=ol++keepIn (m.take (i+1)) its from by rw [List.append_assoc,keepIn_yes hx0 hc41]]
    exact sA (i+1,A49,c49) (by show _≤_; omega) (by show m.length - (i+1) < m.length - i; omega) (fun w hM=>(hM.pick [0,1,2,3] rfl rfl))
   ·refine stSkip (qBlock (qThen (reg ?_)))
    refine lv (v:=(vI (i+1))) rAd ?_
    refine lm ?_
    refine liNil (qThen ?_)
    rw [show ol++keepIn (m.take i) its=ol++keepIn (m.take (i+1)) its from by rw [keepIn_no hx0 hc41]]
    exact sA (i+1,N49,nc49) (by show _≤_; omega) (by show m.length - (i+1) < m.length - i; omega) (fun w hM=>hM)
  ·have hd36:=of_decide_eq_false hc36
   obtain rfl:i=m.length:=by omega
   rw [List.take_length]
   refine stExit (qThenX (qThenX (qBlockX ?_)))
   refine stEndN [] rfl trivial (fun w hM=>?_)
   exact ⟨N28,nc28,N49,nc49,rfl,(hM.pick [0,1,2] rfl rfl)⟩
abbrev noS : List Bs := []
theorem ro_nilB {S:List Nat} {w:World} {A:Option Addr}:Ro S w (fun w=>RowIn w A (B8 noB)):=fun _ _ j v hj=>by simp [B8,noB] at hj
theorem ro_nilS {S:List Nat} {w:World} {A:Option Addr}:Ro S w (fun w=>RowIn w A (SS noS)):=fun _ _ j v hj=>by simp [noS] at hj
def withB (k : Nat) (D : Bs) : Bs := num k ++ (num D.length ++ D)
theorem keepIn_le (l m:List Bs):(keepIn l m).length≤l.length:=List.length_filter_le _ _
theorem qCNan (x:List UInt8) (w:World) :
  Calls Tryz.prog 187 #[(vS x)] w fun e w'=>e = .returned (.bool false)∧Back [] w [] w':=by
 refine sE1 Tryz.func187 6 (Mm.start w []) ?_
 refine stSeq (reg (la ?_))
 refine liNil (qThen (stSeq (reg (lm ?_))))
 refine lm ?_
 refine lv (v:=(.bool false)) (rConv (rStrNe rfl rfl rfl) (by simp)) ?_
 refine la ?_
 refine liNil (qThen (stRet (sN [(.bool false)] fun w hM=>?_)))
 exact ⟨rfl,hM⟩
theorem qSNan (x:List UInt8) (w:World) :
  Calls Tryz.prog 158 #[(vS x)] w fun e w'=>e = .returned (.bool false)∧Back [] w [] w':=by
 refine sE1 Tryz.func158 6 (Mm.start w []) ?_
 refine stSeq (reg (la ?_))
 refine liNil (qThen (stSeq (reg (lm ?_))))
 refine lm ?_
 refine lv (v:=(.bool false)) (rConv (rStrNe rfl rfl rfl) (by simp)) ?_
 refine la ?_
 refine liNil (qThen (stRet (sN [(.bool false)] fun w hM=>?_)))
 exact ⟨rfl,hM⟩
theorem qLess (x y:List UInt8) (w:World) :
  Calls Tryz.prog 157 #[(vS x),(vS y)] w fun e w'=>e = .returned (.bool (decide (x < y)))∧Back [] w [] w':=by
 refine sE2 Tryz.func157 17 (Mm.start w []) ?_
 refine stSeq (reg (la ?_))
 refine liNil (qThen (stSeq (reg (lm ?_))))
 refine li rfl (opK0 (fun w hM=>(qCNan x w ).mono ?_))
 rintro e w' ⟨rfl,hP⟩
 refine ⟨_,_,rfl,hP,?_⟩; clear hP hM
 refine lm ?_
 iterate 3 refine lnF ?_
 refine lc (.bool false) ?_
 refine lm ?_
 refine lgm ?_
 refine lgm ?_
 refine lgv (v:=(.bool (decide (x < y)))) (rStrLt rfl rfl rfl) ?_
 refine lc (.bool (decide (x < y))) ?_
 refine la ?_
 refine liNil (qThen (stRet (sN [(.bool (decide (x < y)))] fun w hM=>?_)))
 exact ⟨rfl,hM⟩
theorem qBSearch (A:Option Addr) (c:Nat) (l:List (List UInt8)) (x:List UInt8) (w:World) (r0:Rf [] w (fun w=>RowIn w A (SS l))) (hs:l.Pairwise (· < ·)) (hl:l.length≤68719476736) :
  Calls Tryz.prog 109 #[(vL A l c),(vS x)] w fun e w'=>e = .returned (.tuple #[(vI (posB l x)),(.bool (l.contains x))])∧Back [] w [] w':=by
 refine sE2 Tryz.func109 54 (Mm.start w []) ?_
 refine stSeq (reg (la ?_))
 refine la ?_
 refine liNil (qThen (stSeq (reg (lm ?_))))
 refine lc (vI l.length) ?_
 refine la ?_
 refine liNil (qThen (stSeq (reg (lm ?_))))
 refine la ?_
 refine la ?_
 refine liNil (qThen (stSeq (stBlock (sL (fun (i,j)=>i≤j∧j≤l.length∧bsr (geP l x) i j=bsr (geP l x) 0 l.length) (fun (i,j)=>j - i) (fun (i,j)=>[(0,(vL A l c)),(1,(vS x)),(4,(.int .i64 0)),(5,(.bool false)),(6,(vI l.length)),(7,(vI i)),(8,(vI j))]) (fun (i,j)=>[]) (0,l.length) ⟨Nat.zero_le _,Nat.le_refl _,rfl⟩ (fun _ h=>h) ?_))))
 rintro ⟨i,j⟩ ⟨h1,h2,h3⟩
 dsimp only
 refine stSeq (stSeq (reg (lm ?_)))
 refine lm ?_
 refine lc (.bool (decide (((i:Nat):Int) < ((j:Nat):Int)))) ?_
 refine liNil (qThen (stCond rfl (fun hc15=>?_) (fun hc15=>?_)))
 ·have hd15:=of_decide_eq_true hc15
  have hij:i < j:=by omega
  refine stSkip (qThen (stBlock (stSeq (reg (lm ?_)))))
  refine lm ?_
  refine lv (v:=(vI (i+j))) rAd ?_
  refine lv (v:=(vU (i+j))) (rIntC _ (fun _=>by kernel_rfl) rfl rfl (wrapU64_id (by omega) (by omega))) ?_
  refine lv (v:=(vU ((i+j) / 2))) (rShr1 rfl rfl rfl) ?_
  refine lv (v:=(vI ((i+j) / 2))) (rIntC _ (fun _=>by kernel_rfl) rfl rfl (wrap64_id (by omega) (by omega))) ?_
  refine la ?_
  refine liNil (qThen (stSeq (reg (lm ?_))))
  refine lm ?_
  obtain ⟨x0,hx0⟩:∃ ξ,(l)[(i+j) / 2]?=some ξ:=⟨_,List.getElem?_eq_getElem (by omega)⟩
  refine St.rowPtr (fun w hM=>r0.now hM) (SS_at hx0) (fun p24 q24 hA24 hc24=>?_)
  refine lv (v:=(vP p24 (q24+((i+j) / 2)))) (rR 9 hA24) ?_
  refine lv (rW hc24) ?_
  refine lm ?_
  refine li rfl (opK0 (fun w hM=>(qLess x0 x w ).mono ?_))
  rintro e w' ⟨rfl,hP⟩
  refine ⟨_,_,rfl,hP,?_⟩; clear hP hM
  refine liNil (qThen (stCond rfl (fun hc27=>?_) (fun hc27=>?_)))
  ·have hd27:=of_decide_eq_true hc27
   refine reg (lm ?_)
   refine lv (v:=(vI (((i+j) / 2)+1))) rAd ?_
   refine la ?_
   refine liNil (qBlock (qThen ?_))
   exact sA (((i+j) / 2)+1,j) (by refine ⟨by omega,by omega,?_⟩; rw [← h3]; first | exact (bsr_lo hij (by rw [geP_at hx0,hc27]; rfl)).symm | exact (bsr_hi hij (by rw [geP_at hx0,hc27]; rfl)).symm) (by show j - (((i+j) / 2)+1) < j - i; omega) (fun w hM=>hM)
  ·have hd27:=of_decide_eq_false hc27
   refine reg (lm ?_)
   refine la ?_
   refine liNil (qBlock (qThen ?_))
   exact sA (i,((i+j) / 2)) (by refine ⟨by omega,by omega,?_⟩; rw [← h3]; first | exact (bsr_lo hij (by rw [geP_at hx0,hc27]; rfl)).symm | exact (bsr_hi hij (by rw [geP_at hx0,hc27]; rfl)).symm) (by show ((i+j) / 2) - i < j - i; omega) (fun w hM=>hM)
 ·have hd15:=of_decide_eq_false hc15
  have hpos:i=posB l x:=by rw [← search_pos hs,← h3,bsr_end (by omega)]
  subst hpos
  refine stExit (qThenX (qThenX (qBlockX (qThen (stSeq (reg ?_))))))
  iterate 3 refine lm ?_
  refine lc (.bool (decide ((((posB l x):Nat):Int) < ((l.length:Nat):Int)))) ?_
  refine lm ?_
  refine St.dec 35 rfl (fun hc35=>?_) (fun hc35=>?_)
  ·have hd35:=of_decide_eq_true hc35
   refine lgm ?_
   refine lgm ?_
   obtain ⟨x0,hx0⟩:∃ ξ,(l)[posB l x]?=some ξ:=⟨_,List.getElem?_eq_getElem (by omega)⟩
   refine St.rowPtr (fun w hM=>r0.now hM) (SS_at hx0) (fun p38 q38 hA38 hc38=>?_)
   refine lgv (v:=(vP p38 (q38+(posB l x)))) (rIndexRow (e:=9) rfl (by kernel_rfl) (by kernel_rfl) rfl rfl hA38 (by omega)) ?_
   refine lgv (v:=(vS x0)) (rLoadW rfl rfl (by kernel_rfl) hc38) ?_
   refine lgm ?_
   refine lgv (v:=(.bool (decide (x0=x)))) (rStrEq rfl rfl rfl) ?_
   refine lgm ?_
   refine St.dec 42 rfl (fun hc42=>?_) (fun hc42=>?_)
   ·have hd42:=of_decide_eq_true hc42
    iterate 6 refine lnT ?_
    refine lnU ?_
    refine lnU ?_
    refine lnT ?_
    refine lgc (.bool true) ?_
    refine lc (.bool true) ?_
    refine la ?_
    refine la ?_
    refine liNil (qThen (stRet (sN [(vI (posB l x)),(.bool true)] fun w hM=>?_)))
    exact ⟨bool_ret (by rw [has_pos hs,hx0]; simpa using hc42),hM⟩
   ·have hd42:=of_decide_eq_false hc42
    refine lgm ?_
    refine lgm ?_
    refine St.rowPtr (fun w hM=>r0.now hM) (SS_at hx0) (fun p45 q45 hA45 hc45=>?_)
    refine lgv (v:=(vP p45 (q45+(posB l x)))) (rIndexRow (e:=9) rfl (by kernel_rfl) (by kernel_rfl) rfl rfl hA45 (by omega)) ?_
    refine lgv (v:=(vS x0)) (rLoadW rfl rfl (by kernel_rfl) hc45) ?_
    refine liGo rfl rfl ?_
    refine opK0 (fun w hM=>(qSNan x0 w ).mono ?_)
    rintro e w' ⟨rfl,hP⟩
    refine ⟨_,_,rfl,hP,?_⟩; clear hP hM
    refine lgm ?_
    refine lnF ?_
    refine lnF ?_
    refine lgc (.bool false) ?_
    refine lgc (.bool false) ?_
    refine lc (.bool false) ?_
    refine la ?_
    refine la ?_
    refine liNil (qThen (stRet (sN [(vI (posB l x)),(.bool false)] fun w hM=>?_)))
    exact ⟨bool_ret (by rw [has_pos hs,hx0]; simpa using hc42),hM⟩
  ·have hd35:=of_decide_eq_false hc35
   iterate 7 refine lnF ?_
   iterate 9 refine lnU ?_
   refine lnF ?_
   refine lc (.bool false) ?_
   refine la ?_
   refine la ?_
   refine liNil (qThen (stRet (sN [(vI (posB l x)),(.bool false)] fun w hM=>?_)))
   exact ⟨bool_ret (by rw [has_pos hs,List.getElem?_eq_none (l:=l) (i:=posB l x) (by omega)]; rfl),hM⟩
theorem qIdxF (A:Option Addr) (c:Nat) (l:List (List UInt8)) (g:FuncId) (caps:List Value) (p:List UInt8→Bool) (w:World) (r0:Rf [] w (fun w=>RowIn w A (SS l))) (hl:l.length≤68719476736) (eg:∀ args w,(callFunc g args).run Tryz.prog w = .ok (.enter g args) w) (hc:∀ y∈l,∀ w',Fr [] w w'→Calls Tryz.prog g (#[.string (strOf y)]++caps.toArray) w' fun e w''=>e = .returned (.bool (p y))∧Fr [] w' w'') :
  Calls Tryz.prog 207 #[(vL A l c),(.func (.func g) #[] caps.toArray)] w fun e w'=>∃ (z:Int),e = .returned (.int .i64 z)∧Back [] w [] w'∧(decide (z≥0)=l.any p):=by
 refine sE2 Tryz.func207 19 (Mm.start w []) ?_
 refine stSeq (reg (la ?_))
 refine liNil (qThen (stSeq (stSeq (reg (lm ?_)))))
 refine lc (vI l.length) ?_
 refine lm ?_
 refine liNil (qThen (stBlock (sL (fun i=>i≤l.length∧(l.take i).any p=false) (fun i=>l.length - i) (fun i=>[(0,(vL A l c)),(1,(.func (.func g) #[] caps.toArray)),(4,(.int .i64 0)),(7,(vI l.length)),(8,(vI i))]) (fun i=>[]) 0 ⟨Nat.zero_le _,rfl⟩ (fun _ h=>h) ?_)))
 rintro i ⟨o1,o2⟩
 show St _ _ _ [(0,(vL A l c)),(1,(.func (.func g) #[] caps.toArray)),(4,(.int .i64 0)),(7,(vI l.length)),(8,(vI i))] [] _
 refine stSeq (reg (lc (.bool (decide (((i:Nat):Int) < ((l.length:Nat):Int)))) ?_))
 refine liNil (qThen (stSeq (stCond rfl (fun hc9=>?_) (fun hc9=>?_))))
 ·have hd9:=of_decide_eq_true hc9
  refine stSkip (qThen (stSeq (stBlock (stSeq (reg (lm ?_))))))
  refine la ?_
  refine liNil (qThen (stSeq (reg (lm ?_))))
  refine lm ?_
  refine lm ?_
  obtain ⟨x0,hx0⟩:∃ ξ,(l)[i]?=some ξ:=⟨_,List.getElem?_eq_getElem (by omega)⟩
  refine St.rowPtr (fun w hM=>r0.now hM) (SS_at hx0) (fun p14 q14 hA14 hc14=>?_)
  refine lv (v:=(vP p14 (q14+i))) (rR 9 hA14) ?_
  refine lv (rW hc14) ?_
  refine li rfl (opKF (f:=g) (caps:=caps.toArray) rfl rfl rfl eg (fun w hM=>(hc x0 (List.mem_of_getElem? hx0) w hM.fr).mono ?_))
  rintro e w' ⟨rfl,hf⟩
  refine ⟨_,[],rfl,Mm.of_fr hf,?_⟩; clear hf hM
  refine liNil (qThen (stCond rfl (fun hc16=>?_) (fun hc16=>?_)))
  ·refine stSeq (reg (lm ?_))
   refine la ?_
   refine liNil (qThen (stRet (qBlockR (qThenR (qThenR (qBlockR (qThenR ?_)))))))
   refine sN [(vI i)] fun w hM=>?_
   exact ⟨_,rfl,hM,by rw [List.any_eq_true.2 ⟨x0,List.mem_of_getElem? hx0,hc16⟩]; simp⟩
  ·refine stSkip (qBlock (qThen (reg ?_)))
   refine lv (v:=(vI (i+1))) rAd ?_
   refine lm ?_
   exact liNil (qThen (sA (i+1) (⟨by omega,by rw [List.take_add_one,hx0,Option.toList_some,List.any_append,o2]; simpa using hc16⟩) (by show l.length - (i+1) < l.length - i; omega) (fun w hM=>hM)))
 ·have hd9:=of_decide_eq_false hc9
  refine stExit (qThenX (qThenX (qBlockX (qThen (stSeq (reg ?_))))))
  refine la ?_
  refine liNil (qThen (stRet (sN [(.int .i64 (-1))] fun w hM=>?_)))
  obtain rfl:i=l.length:=by omega
  rw [List.take_length] at o2
  exact ⟨_,rfl,hM,by rw [o2]; rfl⟩
theorem qContF (A:Option Addr) (c:Nat) (l:List (List UInt8)) (g:FuncId) (caps:List Value) (p:List UInt8→Bool) (w:World) (r0:Rf [] w (fun w=>RowIn w A (SS l))) (hl:l.length≤68719476736) (eg:∀ args w,(callFunc g args).run Tryz.prog w = .ok (.enter g args) w) (hc:∀ y∈l,∀ w',Fr [] w w'→Calls Tryz.prog g (#[.string (strOf y)]++caps.toArray) w' fun e w''=>e = .returned (.bool (p y))∧Fr [] w' w'') :
  Calls Tryz.prog 184 #[(vL A l c),(.func (.func g) #[] caps.toArray)] w fun e w'=>e = .returned (.bool (l.any p))∧Back [] w [] w':=by
 refine sE2 Tryz.func184 9 (Mm.start w []) ?_
 refine stSeq (reg (la ?_))
 refine liNil (qThen (stSeq (reg (lm ?_))))
 refine lm ?_
 refine li rfl (opK0 (fun w hM=>(qIdxF A c l g caps p w (r0.go0 hM) (by omega) (eg) (fun y hy w' hf=>hc y hy w' (hM.fr.trans hf))).mono ?_))
 rintro e w' ⟨z7,rfl,hP,heq7⟩
 refine ⟨_,_,rfl,hP,?_⟩; clear hP hM
 refine lc (.bool (decide ((z7:Int)≥0))) ?_
 refine la ?_
 refine liNil (qThen (stRet (sN [(.bool (decide ((z7:Int)≥0)))] fun w hM=>?_)))
 exact ⟨by rw [← heq7]; rfl,hM⟩
theorem qCloA1 (x:List UInt8) (b3 bs:Nat) (A:Option Addr) (c:Nat) (its:List (List UInt8)) (v1 v2:Value) (v3 v4:Value) (v5 v6:Value) (v7 v8:Value) (v9 v10:Value) (w:World) (r0:Rf [] w (fun w=>At w b3 43 [(vP bs 0)])) (r1:Rf [] w (fun w=>At w bs 101 [(vL A its c),v1,v2,v3,v4,v5,v6,v7,v8,v9,v10])) (r2:Rf [] w (fun w=>RowIn w A (SS its))) (hs:its.Pairwise (· < ·)) (hn:its.length≤68719476736) :
  Calls Tryz.prog 183 #[(vS x),(vP b3 0)] w fun e w'=>e = .returned (.bool (its.contains x))∧Back [] w [] w':=by
 refine sE2 Tryz.func183 16 (Mm.start w []) ?_
 refine stSeq (reg (la ?_))
 refine liNil (qThen (stSeq (reg (lv (rW (fun w hM=>At.cell (r0.now hM) 0)) ?_))))
 refine lc (vP bs 0) ?_
 refine lc (vP bs 0) ?_
 refine lv (rW (fun w hM=>At.cell (r1.now hM) 0)) ?_
 refine lm ?_
 refine li rfl (opK0 (fun w hM=>(qBSearch A c its x w (r2.go0 hM) (by assumption) (by omega)).mono ?_))
 rintro e w' ⟨rfl,hP⟩
 refine ⟨_,_,rfl,hP,?_⟩; clear hP hM
 refine lm ?_
 refine lc (vI (posB its x)) ?_
 refine lc (.bool (its.contains x)) ?_
 refine la ?_
 refine la ?_
 refine liNil (qThen (stSeq (reg (lm ?_))))
 refine la ?_
 refine liNil (qThen (stRet (sN [(.bool (its.contains x))] fun w hM=>?_)))
 exact ⟨rfl,hM⟩
theorem qCloA2 (x:List UInt8) (b7 b3 bs:Nat) (A:Option Addr) (c:Nat) (its:List (List UInt8)) (v1 v2:Value) (v3 v4:Value) (v5 v6:Value) (v7 v8:Value) (v9 v10:Value) (w:World) (r0:Rf [] w (fun w=>At w b7 220 [(.func (.func 183) #[] #[(vP b3 0)])])) (r1:Rf [] w (fun w=>At w b3 43 [(vP bs 0)])) (r2:Rf [] w (fun w=>At w bs 101 [(vL A its c),v1,v2,v3,v4,v5,v6,v7,v8,v9,v10])) (r3:Rf [] w (fun w=>RowIn w A (SS its))) (hs:its.Pairwise (· < ·)) (hn:its.length≤68719476736) :
  Calls Tryz.prog 185 #[(vS x),(vP b7 0)] w fun e w'=>e = .returned (.bool (!its.contains x))∧Back [] w [] w':=by
 refine sE2 Tryz.func185 8 (Mm.start w []) ?_
 refine stSeq (reg (la ?_))
 refine liNil (qThen (stSeq (reg (lv (rW (fun w hM=>At.cell (r0.now hM) 0)) ?_))))
 refine lm ?_
 refine li rfl (opKF (f:=183) (caps:=#[vP b3 0]) rfl rfl rfl (enters Tryz.func183 (by kernel_rfl) rfl) (fun w hM=>(qCloA1 x b3 bs A c its v1 v2 v3 v4 v5 v6 v7 v8 v9 v10 w (r1.go0 hM) (r2.go0 hM) (r3.go0 hM) hs hn).mono ?_))
 rintro e w' ⟨rfl,hP⟩
 refine ⟨_,_,rfl,hP,?_⟩; clear hP hM
 refine lc (.bool (!(its.contains x))) ?_
 refine la ?_
 refine liNil (qThen (stRet (sN [(.bool (!(its.contains x)))] fun w hM=>?_)))
 exact ⟨rfl,hM⟩
theorem qAgrees (bs:Nat) (A:Option Addr) (c:Nat) (its:List (List UInt8)) (v1 v2:Value) (v3 v4:Value) (v5 v6:Value) (v7 v8:Value) (v9 v10:Value) (An:Option Addr) (cn:Nat) (needs:List (List UInt8)) (Ao:Option Addr) (co:Nat) (offs:List (List UInt8)) (w:World) (r0:Rf [] w (fun w=>At w bs 101 [(vL A its c),v1,v2,v3,v4,v5,v6,v7,v8,v9,v10])) (r1:Rf [] w (fun w=>RowIn w A (SS its))) (r2:Rf [] w (fun w=>RowIn w An (SS needs))) (r3:Rf [] w (fun w=>RowIn w Ao (SS offs))) (hs:its.Pairwise (· < ·)) (hn:its.length≤68719476736) (hl1:needs.length≤68719476736) (hl2:offs.length≤68719476736) :
  Calls Tryz.prog 154 #[(vP bs 0),(vL An needs cn),(vL Ao offs co)] w fun e w'=>e = .returned (.bool (agreesB its needs offs))∧Back [] w [] w':=by
 refine sE3 Tryz.func154 19 (Mm.start w []) ?_
 refine stSeq (reg (li rfl (oBx [(vP bs 0)] fun b3=>?_)))
 refine la ?_
 refine liNil (qThen (stSeq (reg (lc (.func (.func 183) #[] #[(vP b3 0)]) ?_))))
 refine li rfl (oAl [.nilFunc] fun b7=>?_)
 refine li rfl (oS1 1 ?_)
 refine liNil (qThen (stSeq (reg (lm ?_))))
 refine ll 1 ?_
 refine li rfl (opK0 (fun w hM=>(qContF An cn needs 183 [vP b3 0] (fun y=>its.contains y) w (r2.go0 hM) (by omega) (enters Tryz.func183 (by kernel_rfl) rfl) (fun y hy w' hf=>(qCloA1 y b3 bs A c its v1 v2 v3 v4 v5 v6 v7 v8 v9 v10 w' ((hM.keep0 (j:=0) rfl (fun _ h=>h)).step hf (by simp)) ((r0.go0 hM).step hf (by simp)) ((r1.go0 hM).step hf (by simp)) hs hn).mono fun e w'' he=>⟨he.1,he.2.fr⟩)).mono ?_))
 rintro e w' ⟨rfl,hP⟩
 refine ⟨_,_,rfl,hP,?_⟩; clear hP hM
 refine lc (.bool (!(needs.any (fun y=>its.contains y)))) ?_
 refine lm ?_
 refine St.dec 13 rfl (fun hc13=>?_) (fun hc13=>?_)
 ·refine lgm ?_
  refine lgc (.func (.func 185) #[] #[(vP b7 0)]) ?_
  refine liGo rfl rfl ?_
  refine opK0 (fun w hM=>(qContF Ao co offs 185 [vP b7 0] (fun y=>!its.contains y) w (r3.go0 hM) (by omega) (enters Tryz.func185 (by kernel_rfl) rfl) (fun y hy w' hf=>(qCloA2 y b7 b3 bs A c its v1 v2 v3 v4 v5 v6 v7 v8 v9 v10 w' ((hM.keep0 (j:=1) rfl (fun _ h=>h)).step hf (by simp)) ((hM.keep0 (j:=0) rfl (fun _ h=>h)).step hf (by simp)) ((r0.go0 hM).step hf (by simp)) ((r1.go0 hM).step hf (by simp)) hs hn).mono fun e w'' he=>⟨he.1,he.2.fr⟩)).mono ?_)
  rintro e w' ⟨rfl,hP⟩
  refine ⟨_,_,rfl,hP,?_⟩; clear hP hM
  refine lgc (.bool (!(offs.any (fun y=>!its.contains y)))) ?_
  refine lc (.bool (!(offs.any (fun y=>!its.contains y)))) ?_
  refine la ?_
  refine liNil (qThen (stRet (sN [(.bool (!(offs.any (fun y=>!its.contains y))))] fun w hM=>?_)))
  exact ⟨ret_bool (by unfold agreesB; rw [hc13]; simp),(hM.pick [] rfl rfl)⟩
 ·refine lnF ?_
  iterate 3 refine lnF ?_
  refine lc (.bool false) ?_
  refine la ?_
  refine liNil (qThen (stRet (sN [(.bool false)] fun w hM=>?_)))
  exact ⟨ret_bool (by unfold agreesB; rw [hc13]; simp),(hM.pick [] rfl rfl)⟩
theorem qCommon (A:Option Addr) (c:Nat) (l:List (List UInt8)) (A2:Option Addr) (c2:Nat) (m:List (List UInt8)) (w:World) (r0:Rf [] w (fun w=>RowIn w A (SS l))) (r1:Rf [] w (fun w=>RowIn w A2 (SS m))) (hl:l.length≤68719476736) (hs2:m.Pairwise (· < ·)) (hl2:m.length≤68719476736) :
  Calls Tryz.prog 62 #[(vL A l c),(vL A2 m c2)] w fun e w'=>∃ (B:Option Addr) (cb:Nat),e = .returned (vL B (keepIn l m) cb)∧Back [] w [cS B (keepIn l m) cb] w':=by
 refine sE2 Tryz.func62 29 (Mm.start w []) ?_
 refine stSeq (reg (la ?_))
 refine liNil (qThen (stSeq (reg (la ?_))))
 refine liNil (qThen (stSeq (stSeq (reg (lm ?_)))))
 refine lc (vI l.length) ?_
 refine lm ?_
 refine liNil (qThen (stBlock (St.mem (fun w hM=>hM.nilOwn 9 1) ?_)))
 refine sL (fun (i,B,cb)=>i≤l.length) (fun (i,B,cb)=>l.length - i) (fun (i,B,cb)=>[(1,(vL A2 m c2)),(4,(.slice none 0 0)),(10,(vL A l c)),(11,(vI l.length)),(5,(vL B (keepIn (l.take i) m) cb)),(12,(vI i))]) (fun (i,B,cb)=>[cS B (keepIn (l.take i) m) cb]) (0,none,0) (Nat.zero_le _) (fun _ h=>h) ?_
 rintro ⟨i,B,cb⟩ (hok:i≤l.length)
 dsimp only
 refine stSeq (reg (lc (.bool (decide (((i:Nat):Int) < ((l.length:Nat):Int)))) ?_))
 refine liNil (qThen (stSeq (stCond rfl (fun hc13=>?_) (fun hc13=>?_))))
 ·have hd13:=of_decide_eq_true hc13
  refine stSkip (qThen (stSeq (stBlock (stSeq (reg ?_)))))
  obtain ⟨x0,hx0⟩:∃ ξ,(l)[i]?=some ξ:=⟨_,List.getElem?_eq_getElem (by omega)⟩
  refine St.rowPtr (fun w hM=>r0.now hM) (SS_at hx0) (fun p14 q14 hA14 hc14=>?_)
  refine lv (v:=(vP p14 (q14+i))) (rR 9 hA14) ?_
  refine lv (rW hc14) ?_
  refine la ?_
  refine liNil (qThen (stSeq (reg (lm ?_))))
  refine lm ?_
  refine li rfl (opK0 (fun w hM=>(qBSearch A2 c2 m x0 w (r1.go0 hM) (by assumption) (by omega)).mono ?_))
  rintro e w' ⟨rfl,hP⟩
  refine ⟨_,_,rfl,hP,?_⟩; clear hP hM
  refine lm ?_
  refine lc (vI (posB m x0)) ?_
  refine lc (.bool (m.contains x0)) ?_
  refine la ?_
  refine la ?_
  refine liNil (qThen (stSeq (reg (lm ?_))))
  refine liNil (qThen (stCond rfl (fun hc22=>?_) (fun hc22=>?_)))
  ·refine reg (lm ?_)
   refine lm ?_
   refine li rfl (oNw 1 9 [(vS x0)] fun b25=>?_)
   refine li rfl (opAppend el_strC 0 ([(vS x0)]) rfl rfl (by kernel_rfl) rfl rfl rfl (rfl) (srcAt (i:=1) rfl (fun j v h=>by rw [Nat.zero_add]; exact h)) (by simp [Value.oneCell']) (by have h:=keepIn_le (l.take i) m; simp only [List.length_take] at h; omega) ((keepIn (l.take i) m++[x0]).length) (by first | exact (List.length_append ..).symm | (simp; done) | (simp; omega)) (SS (keepIn (l.take i) m++[x0])) (by simp [SS]) (fun A26 c26=>?_))
   refine la ?_
   refine liNil (qBlock (qThen (reg ?_)))
   refine lv (v:=(vI (i+1))) rAd ?_
   refine lm ?_
   refine liNil (qThen ?_)
   rw [show keepIn (l.take i) m++[x0]=keepIn (l.take (i+1)) m from keepIn_yes hx0 (by simpa using hc22)]
   exact sA (i+1,A26,c26) (by show _≤_; omega) (by show l.length - (i+1) < l.length - i; omega) (fun w hM=>(hM.pick [0] rfl rfl))
  ·refine stSkip (qBlock (qThen (reg ?_)))
   refine lv (v:=(vI (i+1))) rAd ?_
   refine lm ?_
   refine liNil (qThen ?_)
   rw [show keepIn (l.take i) m=keepIn (l.take (i+1)) m from keepIn_no hx0 (by simpa using hc22)]
   exact sA (i+1,B,cb) (by show _≤_; omega) (by show l.length - (i+1) < l.length - i; omega) (fun w hM=>hM)
 ·have hd13:=of_decide_eq_false hc13
  obtain rfl:i=l.length:=by omega
  rw [List.take_length]
  refine stExit (qThenX (qThenX (qBlockX (qThen (stSeq (reg ?_))))))
  refine lm ?_
  refine la ?_
  refine liNil (qThen (stRet (sN [(vL B (keepIn l m) cb)] fun w hM=>?_)))
  exact ⟨B,cb,rfl,hM⟩
theorem qSend (bs:Nat) (v0 v1:Value) (v2 v3:Value) (v4 v5:Value) (v6 v7:Value) (v8 v9 v10:Value) (k:Nat) (A2:Option Addr) (n2 c2:Nat) (w:World) (hO:Own [cAt bs 101 [v0,v1,v2,v3,v4,v5,v6,v7,v8,v9,v10]] w) :
  Calls Tryz.prog 46 #[(vP bs 0),(vI k),(.slice A2 (n2) (c2))] w fun e w'=>e = .returned (.tuple #[])∧Back [cAt bs 101 [v0,v1,v2,v3,v4,v5,v6,v7,v8,v9,v10]] w [cAt bs 101 [v0,v1,(.int .i64 1),(vI k),(.slice A2 (n2) (c2)),v5,v6,v7,v8,v9,v10]] w':=by
 refine sE3 Tryz.func46 17 (hO) ?_
 refine reg (lm ?_)
 iterate 4 refine lm ?_
 refine lc (vP bs 0) ?_
 refine lc (vP bs 2) ?_
 refine li rfl (oS1 0 ?_)
 refine lc (vP bs 0) ?_
 refine lc (vP bs 3) ?_
 refine li rfl (oS1 0 ?_)
 refine lc (vP bs 0) ?_
 refine lc (vP bs 4) ?_
 refine li rfl (oS1 0 ?_)
 refine liNil (stEndN [] rfl trivial (fun w hM=>?_))
 exact ⟨rfl,hM⟩
theorem qSettle (bs:Nat) (v0 v1:Value) (v2 v3:Value) (v4 v5:Value) (v6 v7:Value) (v8 v9 v10:Value) (A2:Option Addr) (n2 c2:Nat) (A3:Option Addr) (n3 c3:Nat) (w:World) (hO:Own [cAt bs 101 [v0,v1,v2,v3,v4,v5,v6,v7,v8,v9,v10]] w) :
  Calls Tryz.prog 151 #[(vP bs 0),(.slice A2 (n2) (c2)),(.slice A3 (n3) (c3))] w fun e w'=>e = .returned (.tuple #[])∧Back [cAt bs 101 [v0,v1,v2,v3,v4,v5,v6,v7,v8,v9,v10]] w [cAt bs 101 [v0,v1,v2,v3,v4,v5,(.bool true),v7,(.bool true),(.slice A2 (n2) (c2)),(.slice A3 (n3) (c3))]] w':=by
 refine sE3 Tryz.func151 20 (hO) ?_
 refine reg (lm ?_)
 iterate 5 refine lm ?_
 refine lc (vP bs 0) ?_
 refine lc (vP bs 6) ?_
 refine li rfl (oS1 0 ?_)
 refine lc (vP bs 0) ?_
 refine lc (vP bs 8) ?_
 refine li rfl (oS1 0 ?_)
 refine lc (vP bs 0) ?_
 refine lc (vP bs 9) ?_
 refine li rfl (oS1 0 ?_)
 refine lc (vP bs 0) ?_
 refine lc (vP bs 10) ?_
 refine li rfl (oS1 0 ?_)
 refine liNil (stEndN [] rfl trivial (fun w hM=>?_))
 exact ⟨rfl,hM⟩
theorem qWithB (k:Nat) (A:Option Addr) (c:Nat) (D:List UInt8) (w:World) (r0:Rf [] w (fun w=>RowIn w A (B8 D))) (hk:k≤100) (hD:D.length≤4294000000) :
  Calls Tryz.prog 47 #[(vI k),(vL A D c)] w fun e w'=>∃ (A2:Option Addr) (c2:Nat),e = .returned (vL A2 (withB k D) c2)∧Back [] w [cB A2 (withB k D) c2] w':=by
 refine sE2 Tryz.func47 17 (Mm.start w []) ?_
 refine stSeq (reg (la ?_))
 refine liNil (qThen (stSeq (reg (lm ?_))))
 refine lv (v:=(vU k)) (rIntC _ (fun _=>by kernel_rfl) rfl rfl (wrapU64_id (by omega) (by omega))) ?_
 refine li rfl (opK0 (fun w hM=>(qAppU none 0 noB k w ro_nilB (by omega) (by decide)).mono ?_))
 rintro e w' ⟨A28,c28,rfl,hP⟩
 refine ⟨_,_,rfl,hP,?_⟩; clear hP hM
 refine la ?_
 refine liNil (qThen (stSeq ?_))
 have hnk:=num_length k (by omega)
 refine reg (lm ?_)
 refine lm ?_
 refine lc (vI D.length) ?_
 refine lv (v:=(vU D.length)) (rIntC _ (fun _=>by kernel_rfl) rfl rfl (wrapU64_id (by omega) (by omega))) ?_
 refine li rfl (opK0 (fun w hM=>(qAppU A28 c28 (noB++num k) D.length w (hM.keep0 (j:=0) rfl (fun _ h=>RowIn.of_own h)) (by omega) (by simp only [List.length_append,List.length_nil,noB] at *; omega)).mono ?_))
 rintro e w' ⟨A213,c213,rfl,hP⟩
 refine ⟨_,_,rfl,hP,?_⟩; clear hP hM
 refine la ?_
 refine liNil (qThen (stSeq ?_))
 have hnd:=num_length D.length (by omega)
 refine reg (lm ?_)
 refine lm ?_
 refine li rfl (opAppend el_u8 1 (B8 D) rfl rfl (by kernel_rfl) rfl rfl rfl (by simp [B8]) (fun w hM=>CellsAt.of_row (r0.now hM)) ((B8_one _)) (by simp only [List.length_append,List.length_nil,noB] at *; omega) (((noB++num k)++num D.length++D).length) (by first | exact (List.length_append ..).symm | (simp; done) | (simp; omega)) (B8 ((noB++num k)++num D.length++D)) (by simp [B8]) (fun A16 c16=>?_))
 rw [show (noB++num k)++num D.length++D=withB k D from by simp [withB,noB]]
 refine la ?_
 refine liNil (qThen (stRet (sN [(vL A16 (withB k D) c16)] fun w hM=>?_)))
 exact ⟨A16,c16,rfl,(hM.pick [1] rfl rfl)⟩
theorem rows_snoc {pvs:List PV} {pv:PV} {L M:List (Option Addr × List Bs)} (h:∀ p∈pvs,∀ q∈p.c.rows,q∈L) (k:∀ q∈pv.c.rows,q∈M):∀ p∈pvs++[pv],∀ q∈p.c.rows,q∈L++M:=by
 intro p hp q hq
 rcases List.mem_append.1 hp with hp | hp
 ·exact List.mem_append_left _ (h p hp q hq)
 ·rw [List.mem_singleton.1 hp] at hq
  exact List.mem_append_right _ (k q hq)
theorem rsDecode_bad (A:Option Addr) (c:Nat) (D:List UInt8) (w:World) (r0:Rf [] w (fun w=>RowIn w A (B8 D))) (hD:D.length≤1048576) (hd:decA D=none) :
  Calls Tryz.prog 177 #[(vL A D c)] w fun e w'=>e = .returned (.tuple #[(.slice none 0 0),(.int .i64 3)])∧Back [] w [] w':=by
 refine sE1 Tryz.func177 74 (Mm.start w []) ?_
 refine stSeq (reg (la ?_))
 refine la ?_
 refine liNil (qThen (stSeq (stSeq (reg (lm ?_)))))
 refine lc (vI D.length) ?_
 refine lc (.bool (decide (((D.length:Nat):Int) > 1048576))) ?_
 refine liNil (qThen (stFalseK rfl (by have:=hD; simp; omega) ?_))
 refine stSkip (qThen (stSeq (reg (lm ?_))))
 refine li rfl (opK0 (fun w hM=>(rsRNew_any A c D w (r0.go0 hM) (by omega)).mono ?_))
 rintro e w' ⟨X16,br16,rfl,hP⟩
 refine ⟨_,_,rfl,hP,?_⟩; clear hP hM
 refine la ?_
 refine liNil (qThen (stSeq (reg (lm ?_))))
 refine lm ?_
 refine lc (vI D.length) ?_
 refine li rfl (opK [0] _ (fun w hM hO=>(rsRCount_v X16 br16 (Rd.mk D 0 0 0) D.length w hO (by omega)).mono ?_))
 rintro e w' ⟨n20,r220,rfl,hP,heq20⟩
 refine ⟨_,[_],_,rfl,hP,rfl,?_⟩; clear hP hM hO
 have hnl:n20≤D.length:=by have h:=(Rd.mk D 0 0 0).cnt_le D.length; rw [heq20] at h; exact h
 refine la ?_
 refine liNil (qThen (stSeq (stSeq (reg (lm ?_)))))
 refine lc (.bool ((((n20:Nat):Int):Int) == 0)) ?_
 refine liNil (qThen (stCond rfl (fun hc22=>?_) (fun hc22=>?_)))
 ·refine stSeq (reg (la ?_))
  refine la ?_
  refine liNil (qThen (stRet (qThenR (sN [(.slice none 0 0),(.int .i64 3)] fun w hM=>?_))))
  exact ⟨rfl,(hM.pick [] rfl rfl)⟩
 ·have hn0:¬ n20=0:=eqb_no hc22
  refine stSkip (qThen (stSeq (reg (la ?_))))
  refine liNil (qThen (stSeq (stSeq (reg (lm ?_)))))
  refine lm ?_
  refine liNil (qThen (stBlock (St.mem (fun w hM=>hM.nilOwn 246 3) ?_)))
  refine St.mem (fun w hM=>Mm.noBag hM) ?_
  refine sL (fun (i,RX,rcX,pvs,rX,LX)=>i≤n20∧r220.parts i=(some (pvs.map PV.abs),rX)∧∀ p∈pvs,∀ q∈p.c.rows,q∈LX) (fun (i,RX,rcX,pvs,rX,LX)=>n20 - i) (fun (i,RX,rcX,pvs,rX,LX)=>[(2,(.slice none 0 0)),(3,(.int .i64 0)),(4,(vP br16 0)),(23,(vI n20)),(6,(vL RX (pvs) rcX)),(24,(vI i))]) (fun (i,RX,rcX,pvs,rX,LX)=>[cRd X16 br16 (rX),cP RX (pvs) rcX,cBag (LX)]) (0,none,0,[],r220,[]) ⟨Nat.zero_le _,rfl,fun p hp=>by cases hp⟩ (fun w hM=>by show Mm _ _ [cRd X16 br16 (r220),cOwn 246 3 none (([]).length) (0) (PS ([])),cBag ([])] w; exact hM) ?_
  rintro ⟨i,RX,rcX,pvs,rX,LX⟩ ⟨hi,hpt,hrows⟩
  dsimp only
  refine stSeq (reg (lc (.bool (decide (((i:Nat):Int) < ((n20:Nat):Int)))) ?_))
  refine liNil (qThen (stSeq (stCond rfl (fun hc25=>?_) (fun hc25=>?_))))
  ·have hd25:=of_decide_eq_true hc25
   have hlt:i < n20:=by omega
   have hpl:pvs.length=i:=by have h:=Rd.parts_len hpt; simpa using h
   refine stSkip (qThen (stSeq (stBlock (stSeq (reg (lm ?_))))))
   refine la ?_
   refine liNil (qThen (stSeq (reg (lm ?_))))
   refine li rfl (opK [0] _ (fun w hM hO=>(rsRPart_any X16 br16 rX w hO).mono ?_))
   rintro e w' ⟨cl29,L29,o29,r229,rfl,hP,heq29,hhl29,hhv29⟩
   refine ⟨_,[_],_,rfl,hP,rfl,?_⟩; clear hP hM hO
   refine lm ?_
   refine lc (.agg (cl29).toArray) ?_
   refine lc (.bool o29.isSome) ?_
   refine li rfl (oAl [(.string ⟨#[]⟩),(.string ⟨#[]⟩),.nilIface] fun b8=>?_)
   refine li rfl (opStoreN 4 (cl29) (vs:=cl29) rfl rfl (by kernel_rfl) rfl rfl rfl (by rw [hhl29.1]; kernel_rfl) rfl (by rw [hhl29.1]; decide) hhl29.2 (by rw [hhl29.1]; simp) ?_)
   refine la ?_
   refine liNil (qThen (stSeq (stSeq ?_)))
   cases hfk:o29.isSome with
   | true =>
     obtain ⟨p29,rfl⟩:=Option.isSome_iff_exists.1 hfk
     obtain ⟨pv,rfl,hab,hrw⟩:=hhv29 p29 rfl
     dsimp only [setAll,List.set,List.cons_append,List.nil_append]
     refine anyBegin _ 29 (by kernel_rfl) (fun _ h=>h) ?_
     refine am 0 ?_
     refine ac 1 (.bool false) ?_
     refine am 2 ?_
     refine agm 3 ?_
     refine agc 4 (.bool (decide (((i:Nat):Int) > 0))) ?_
     refine agm 5 ?_
     refine Any.dec 37 rfl (fun hc37=>?_) (fun hc37=>?_)
     ·have hd37:=of_decide_eq_true hc37
      have hip:0 < i:=by omega
      refine agm 6 ?_
      refine agm 7 ?_
      refine agv 8 (vI (i - 1)) rfl (rSub _ rfl rfl rfl (by omega) (by omega) (by omega)) ?_
      obtain ⟨x0,hx0⟩:∃ ξ,(pvs)[i - 1]?=some ξ:=⟨_,List.getElem?_eq_getElem (by omega)⟩
      refine Any.partPtr (fun w hM=>rowOwn3 (i:=1) rfl w hM) hx0 (fun p41 q41 hA41 hc41=>?_)
      refine agv 9 (vP p41 (q41+(i - 1)*3)) rfl (rIndexRow3 (e:=246) rfl (by kernel_rfl) (by kernel_rfl) rfl rfl hA41 (by omega)) ?_
      refine agc 10 (vP p41 (q41+(i - 1)*3)) ?_
      refine agc 11 (vP p41 (q41+(i - 1)*3+1)) ?_
      refine agv 12 (vS x0.hi) rfl (rLoadW rfl rfl (by kernel_rfl) (fun w hM=>hc41 w hM 1 _ rfl)) ?_
      refine agv 13 (.bool (decide (x0.hi=[]))) rfl (rStrEq rfl rfl rfl) ?_
      refine agm 14 ?_
      refine Any.dec 46 rfl (fun hc46=>?_) (fun hc46=>?_)
      ·have hd46:=of_decide_eq_true hc46
       refine anT 15 ?_
       refine anT 16 ?_
       refine anT 17 ?_
       refine anT 18 ?_
       refine anT 19 ?_
       refine anT 20 ?_
       refine anT 21 ?_
       refine anT 22 ?_
       refine anT 23 ?_
       refine anT 24 ?_
       refine anT 25 ?_
       refine agc 26 (.bool true) ?_
       refine agc 27 (.bool true) ?_
       refine ac 28 (.bool true) ?_
       refine anyDone (by kernel_rfl) ?_
       refine qThen (stTrue rfl (stSeq (reg ?_)))
       refine la ?_
       refine la ?_
       refine liNil (qThen (stRet (qThenR (qBlockR (qThenR (qThenR (qBlockR (qThenR ?_))))))))
       refine sN [(.slice none 0 0),(.int .i64 3)] fun w hM=>?_
       exact ⟨rfl,(hM.pick [] rfl rfl)⟩
      ·have hd46:=of_decide_eq_false hc46
       refine agm 15 ?_
       refine agm 16 ?_
       refine agv 17 (vI (i - 1)) rfl (rSub _ rfl rfl rfl (by omega) (by omega) (by omega)) ?_
       refine Any.partPtr (fun w hM=>rowOwn3 (i:=1) rfl w hM) hx0 (fun p50 q50 hA50 hc50=>?_)
       refine agv 18 (vP p50 (q50+(i - 1)*3)) rfl (rIndexRow3 (e:=246) rfl (by kernel_rfl) (by kernel_rfl) rfl rfl hA50 (by omega)) ?_
       refine agc 19 (vP p50 (q50+(i - 1)*3)) ?_
       refine agc 20 (vP p50 (q50+(i - 1)*3+1)) ?_
       refine agv 21 (vS x0.hi) rfl (rLoadW rfl rfl (by kernel_rfl) (fun w hM=>hc50 w hM 1 _ rfl)) ?_
       refine agc 22 (vP b8 0) ?_
       refine agc 23 (vP b8 0) ?_
       refine agv 24 (vS pv.lo) rfl (rLoad 4 rfl rfl (by kernel_rfl) rfl rfl) ?_
       refine agv 25 (.bool (!(decide (x0.hi < pv.lo) || decide (x0.hi=pv.lo)))) rfl (rStrGt rfl rfl rfl) ?_
       refine agc 26 (.bool (!(decide (x0.hi < pv.lo) || decide (x0.hi=pv.lo)))) ?_
       refine agc 27 (.bool (!(decide (x0.hi < pv.lo) || decide (x0.hi=pv.lo)))) ?_
       refine ac 28 (.bool (!(decide (x0.hi < pv.lo) || decide (x0.hi=pv.lo)))) ?_
       refine anyDone (by kernel_rfl) ?_
       refine qThen (stCond rfl (fun hc60=>?_) (fun hc60=>?_))
       ·refine stSeq (reg (la ?_))
        refine la ?_
        refine liNil (qThen (stRet (qThenR (qBlockR (qThenR (qThenR (qBlockR (qThenR ?_))))))))
        refine sN [(.slice none 0 0),(.int .i64 3)] fun w hM=>?_
        exact ⟨rfl,(hM.pick [] rfl rfl)⟩
       ·have hfo:follows (pvs.map PV.abs) p29=true:=by rw [(follows_at (i:=i - 1) (q:=x0.abs) (by rw [List.getElem?_map,hx0]; rfl) (by rw [List.length_map]; omega))]; rw [gtr_iff] at hc60; rw [← hab]; have e:=of_decide_eq_false hc46; have e2:=of_decide_eq_false hc60; simp [PV.abs,e,e2]
        refine stSkip (qThen (reg (lm ?_)))
        refine lv (rA 4 [(vS pv.lo),(vS pv.hi),pv.c.val]) ?_
        refine li rfl (oNw 1 246 [(vS pv.lo),(vS pv.hi),pv.c.val] fun b63=>?_)
        refine li rfl (opAppend el_part 1 ([(vS pv.lo),(vS pv.hi),pv.c.val]) rfl rfl (by kernel_rfl) rfl rfl rfl (rfl) (srcAt (i:=5) rfl (fun j v h=>by rw [Nat.zero_add]; exact h)) (PV.one pv) (by omega) ((pvs++[pv]).length) (by first | exact (List.length_append ..).symm | (simp; done) | (simp; omega)) (PS (pvs++[pv])) ((PS_append _ ([pv])).symm) (fun A64 c64=>?_))
        refine la ?_
        refine liNil (qBlock (qThen (reg ?_)))
        refine lv (v:=(vI (i+1))) rAd ?_
        refine lm ?_
        exact liNil (qThen (sA (i+1,A64,c64,pvs++[pv],r229,LX++L29) (⟨by omega,by rw [Rd.parts_some hpt heq29 hfo,← hab,List.map_append]; rfl,rows_snoc hrows hrw⟩) (by show n20 - (i+1) < n20 - i; omega) (fun w hM=>by show Mm _ _ [cRd X16 br16 (r229),cP A64 (pvs++[pv]) c64,cBag (LX++L29)] w; exact Mm.join (cs:=[cRd X16 br16 (r229),cP A64 (pvs++[pv]) c64]) (L:=LX) (M:=L29) ((hM.pick [0,1,2,3] rfl rfl)))))
     ·have hd37:=of_decide_eq_false hc37
      have hi0:i=0:=by omega
      have hfo:follows (pvs.map PV.abs) p29=true:=by rw [List.eq_nil_of_length_eq_zero (hpl.trans hi0)]; rfl
      refine anF 6 ?_
      refine anF 7 ?_
      refine anF 8 ?_
      refine anF 9 ?_
      refine anF 10 ?_
      refine anF 11 ?_
      refine anF 12 ?_
      refine anF 13 ?_
      refine anF 14 ?_
      refine anU 15 ?_
      refine anU 16 ?_
      refine anU 17 ?_
      refine anU 18 ?_
      refine anU 19 ?_
      refine anU 20 ?_
      refine anU 21 ?_
      refine anU 22 ?_
      refine anU 23 ?_
      refine anU 24 ?_
      refine anU 25 ?_
      refine anF 26 ?_
      refine agc 27 (.bool false) ?_
      refine ac 28 (.bool false) ?_
      refine anyDone (by kernel_rfl) ?_
      refine qThen (stFalse rfl (stSkip (qThen (reg ?_))))
      refine lm ?_
      refine lv (rA 4 [(vS pv.lo),(vS pv.hi),pv.c.val]) ?_
      refine li rfl (oNw 1 246 [(vS pv.lo),(vS pv.hi),pv.c.val] fun b63=>?_)
      refine li rfl (opAppend el_part 1 ([(vS pv.lo),(vS pv.hi),pv.c.val]) rfl rfl (by kernel_rfl) rfl rfl rfl (rfl) (srcAt (i:=5) rfl (fun j v h=>by rw [Nat.zero_add]; exact h)) (PV.one pv) (by omega) ((pvs++[pv]).length) (by first | exact (List.length_append ..).symm | (simp; done) | (simp; omega)) (PS (pvs++[pv])) ((PS_append _ ([pv])).symm) (fun A64 c64=>?_))
      refine la ?_
      refine liNil (qBlock (qThen ?_))
      dsimp only [setAll,List.set,List.cons_append,List.nil_append]
      refine reg (lv (v:=(vI (i+1))) rAd ?_)
      refine lm ?_
      exact liNil (qThen (sA (i+1,A64,c64,pvs++[pv],r229,LX++L29) (⟨by omega,by rw [Rd.parts_some hpt heq29 hfo,← hab,List.map_append]; rfl,rows_snoc hrows hrw⟩) (by show n20 - (i+1) < n20 - i; omega) (fun w hM=>by show Mm _ _ [cRd X16 br16 (r229),cP A64 (pvs++[pv]) c64,cBag (LX++L29)] w; exact Mm.join (cs:=[cRd X16 br16 (r229),cP A64 (pvs++[pv]) c64]) (L:=LX) (M:=L29) ((hM.pick [0,1,2,3] rfl rfl)))))
   | false =>
     obtain rfl:o29=none:=by cases o29 with | none=>rfl | some _=>cases hfk
     refine anyBegin _ 29 (by kernel_rfl) (fun _ h=>h) ?_
     refine am 0 ?_
     refine ac 1 (.bool true) ?_
     refine am 2 ?_
     refine anT 3 ?_
     refine anT 4 ?_
     refine anT 5 ?_
     refine anU 6 ?_
     refine anU 7 ?_
     refine anU 8 ?_
     refine anU 9 ?_
     refine anU 10 ?_
     refine anU 11 ?_
     refine anU 12 ?_
     refine anU 13 ?_
     refine anU 14 ?_
     refine anU 15 ?_
     refine anU 16 ?_
     refine anU 17 ?_
     refine anU 18 ?_
     refine anU 19 ?_
     refine anU 20 ?_
     refine anU 21 ?_
     refine anU 22 ?_
     refine anU 23 ?_
     refine anU 24 ?_
     refine anU 25 ?_
     refine anU 26 ?_
     refine anT 27 ?_
     refine ac 28 (.bool true) ?_
     refine anyDone (by kernel_rfl) ?_
     refine qThen (stTrue rfl (stSeq (reg ?_)))
     refine la ?_
     refine la ?_
     refine liNil (qThen (stRet (qThenR (qBlockR (qThenR (qThenR (qBlockR (qThenR ?_))))))))
     refine sN [(.slice none 0 0),(.int .i64 3)] fun w hM=>?_
     exact ⟨rfl,(hM.pick [] rfl rfl)⟩
  ·have hd25:=of_decide_eq_false hc25
   obtain rfl:i=n20:=by omega
   refine stExit (qThenX (qThenX (qBlockX (qThen (stSeq (stSeq (reg ?_)))))))
   refine lm ?_
   refine li rfl (opK [0] _ (fun w hM hO=>(rsREnd_any X16 br16 rX w hO).mono ?_))
   rintro e w' ⟨rfl,hP⟩
   refine ⟨_,[_],_,rfl,hP,rfl,?_⟩; clear hP hM hO
   refine lm ?_
   refine lc (vI rX.off) ?_
   refine lc (.int .i64 rX.end_) ?_
   refine la ?_
   refine la ?_
   refine liNil (qThen (stSeq (reg (lm ?_))))
   refine lc (.bool ((rX.end_:Int) != 0)) ?_
   refine liNil (qThen (stCond rfl (fun hc72=>?_) (fun hc72=>?_)))
   ·refine stSeq (reg (la ?_))
    refine la ?_
    refine liNil (qThen (stRet (qThenR (sN [(.slice none 0 0),(.int .i64 3)] fun w hM=>?_))))
    exact ⟨rfl,(hM.pick [] rfl rfl)⟩
   ·have hok:decA D=some (pvs.map PV.abs):=decA_ok heq20 hn0 hpt (by simpa using hc72)
    refine stSkip (qThen (stSeq (reg (lm ?_))))
    refine la ?_
    refine la ?_
    refine liNil (qThen (stRet (sN [(vL RX (pvs) rcX),(.int .i64 0)] fun w hM=>?_)))
    exact absurd (hok.symm.trans hd) (by simp)
theorem rsDecode_ok (A:Option Addr) (c:Nat) (D:List UInt8) (ps:List AP) (w:World) (r0:Rf [] w (fun w=>RowIn w A (B8 D))) (hD:D.length≤1048576) (hd:decA D=some ps) :
  Calls Tryz.prog 177 #[(vL A D c)] w fun e w'=>∃ (R:Option Addr) (rc:Nat) (pvs:List PV) (L:List (Option Addr × List (List UInt8))),e = .returned (.tuple #[(vL R (pvs) rc),(.int .i64 0)])∧Back [] w [cP R (pvs) rc,cBag (L)] w'∧(pvs.map PV.abs=ps)∧(∀ p∈pvs,∀ q∈p.c.rows,q∈L):=by
 refine sE1 Tryz.func177 74 (Mm.start w []) ?_
 refine stSeq (reg (la ?_))
 refine la ?_
 refine liNil (qThen (stSeq (stSeq (reg (lm ?_)))))
 refine lc (vI D.length) ?_
 refine lc (.bool (decide (((D.length:Nat):Int) > 1048576))) ?_
 refine liNil (qThen (stFalseK rfl (by have:=hD; simp; omega) ?_))
 refine stSkip (qThen (stSeq (reg (lm ?_))))
 refine li rfl (opK0 (fun w hM=>(rsRNew_any A c D w (r0.go0 hM) (by omega)).mono ?_))
 rintro e w' ⟨X16,br16,rfl,hP⟩
 refine ⟨_,_,rfl,hP,?_⟩; clear hP hM
 refine la ?_
 refine liNil (qThen (stSeq (reg (lm ?_))))
 refine lm ?_
 refine lc (vI D.length) ?_
 refine li rfl (opK [0] _ (fun w hM hO=>(rsRCount_v X16 br16 (Rd.mk D 0 0 0) D.length w hO (by omega)).mono ?_))
 rintro e w' ⟨n20,r220,rfl,hP,heq20⟩
 refine ⟨_,[_],_,rfl,hP,rfl,?_⟩; clear hP hM hO
 have hnl:n20≤D.length:=by have h:=(Rd.mk D 0 0 0).cnt_le D.length; rw [heq20] at h; exact h
 refine la ?_
 refine liNil (qThen (stSeq (stSeq (reg (lm ?_)))))
 refine lc (.bool ((((n20:Nat):Int):Int) == 0)) ?_
 refine liNil (qThen (stCond rfl (fun hc22=>?_) (fun hc22=>?_)))
 ·refine stSeq (reg (la ?_))
  refine la ?_
  refine liNil (qThen (stRet (qThenR (sN [(.slice none 0 0),(.int .i64 3)] fun w hM=>?_))))
  exact absurd ((decA_zero heq20 (eqb_yes hc22)).symm.trans hd) (by simp)
 ·have hn0:¬ n20=0:=eqb_no hc22
  refine stSkip (qThen (stSeq (reg (la ?_))))
  refine liNil (qThen (stSeq (stSeq (reg (lm ?_)))))
  refine lm ?_
  refine liNil (qThen (stBlock (St.mem (fun w hM=>hM.nilOwn 246 3) ?_)))
  refine St.mem (fun w hM=>Mm.noBag hM) ?_
  refine sL (fun (i,RX,rcX,pvs,rX,LX)=>i≤n20∧r220.parts i=(some (pvs.map PV.abs),rX)∧∀ p∈pvs,∀ q∈p.c.rows,q∈LX) (fun (i,RX,rcX,pvs,rX,LX)=>n20 - i) (fun (i,RX,rcX,pvs,rX,LX)=>[(2,(.slice none 0 0)),(3,(.int .i64 0)),(4,(vP br16 0)),(23,(vI n20)),(6,(vL RX (pvs) rcX)),(24,(vI i))]) (fun (i,RX,rcX,pvs,rX,LX)=>[cRd X16 br16 (rX),cP RX (pvs) rcX,cBag (LX)]) (0,none,0,[],r220,[]) ⟨Nat.zero_le _,rfl,fun p hp=>by cases hp⟩ (fun w hM=>by show Mm _ _ [cRd X16 br16 (r220),cOwn 246 3 none (([]).length) (0) (PS ([])),cBag ([])] w; exact hM) ?_
  rintro ⟨i,RX,rcX,pvs,rX,LX⟩ ⟨hi,hpt,hrows⟩
  dsimp only
  refine stSeq (reg (lc (.bool (decide (((i:Nat):Int) < ((n20:Nat):Int)))) ?_))
  refine liNil (qThen (stSeq (stCond rfl (fun hc25=>?_) (fun hc25=>?_))))
  ·have hd25:=of_decide_eq_true hc25
   have hlt:i < n20:=by omega
   have hpl:pvs.length=i:=by have h:=Rd.parts_len hpt; simpa using h
   refine stSkip (qThen (stSeq (stBlock (stSeq (reg (lm ?_))))))
   refine la ?_
   refine liNil (qThen (stSeq (reg (lm ?_))))
   refine li rfl (opK [0] _ (fun w hM hO=>(rsRPart_any X16 br16 rX w hO).mono ?_))
   rintro e w' ⟨cl29,L29,o29,r229,rfl,hP,heq29,hhl29,hhv29⟩
   refine ⟨_,[_],_,rfl,hP,rfl,?_⟩; clear hP hM hO
   refine lm ?_
   refine lc (.agg (cl29).toArray) ?_
   refine lc (.bool o29.isSome) ?_
   refine li rfl (oAl [(.string ⟨#[]⟩),(.string ⟨#[]⟩),.nilIface] fun b8=>?_)
   refine li rfl (opStoreN 4 (cl29) (vs:=cl29) rfl rfl (by kernel_rfl) rfl rfl rfl (by rw [hhl29.1]; kernel_rfl) rfl (by rw [hhl29.1]; decide) hhl29.2 (by rw [hhl29.1]; simp) ?_)
   refine la ?_
   refine liNil (qThen (stSeq (stSeq ?_)))
   cases hfk:o29.isSome with
   | true =>
     obtain ⟨p29,rfl⟩:=Option.isSome_iff_exists.1 hfk
     obtain ⟨pv,rfl,hab,hrw⟩:=hhv29 p29 rfl
     dsimp only [setAll,List.set,List.cons_append,List.nil_append]
     refine anyBegin _ 29 (by kernel_rfl) (fun _ h=>h) ?_
     refine am 0 ?_
     refine ac 1 (.bool false) ?_
     refine am 2 ?_
     refine agm 3 ?_
     refine agc 4 (.bool (decide (((i:Nat):Int) > 0))) ?_
     refine agm 5 ?_
     refine Any.dec 37 rfl (fun hc37=>?_) (fun hc37=>?_)
     ·have hd37:=of_decide_eq_true hc37
      have hip:0 < i:=by omega
      refine agm 6 ?_
      refine agm 7 ?_
      refine agv 8 (vI (i - 1)) rfl (rSub _ rfl rfl rfl (by omega) (by omega) (by omega)) ?_
      obtain ⟨x0,hx0⟩:∃ ξ,(pvs)[i - 1]?=some ξ:=⟨_,List.getElem?_eq_getElem (by omega)⟩
      refine Any.partPtr (fun w hM=>rowOwn3 (i:=1) rfl w hM) hx0 (fun p41 q41 hA41 hc41=>?_)
      refine agv 9 (vP p41 (q41+(i - 1)*3)) rfl (rIndexRow3 (e:=246) rfl (by kernel_rfl) (by kernel_rfl) rfl rfl hA41 (by omega)) ?_
      refine agc 10 (vP p41 (q41+(i - 1)*3)) ?_
      refine agc 11 (vP p41 (q41+(i - 1)*3+1)) ?_
      refine agv 12 (vS x0.hi) rfl (rLoadW rfl rfl (by kernel_rfl) (fun w hM=>hc41 w hM 1 _ rfl)) ?_
      refine agv 13 (.bool (decide (x0.hi=[]))) rfl (rStrEq rfl rfl rfl) ?_
      refine agm 14 ?_
      refine Any.dec 46 rfl (fun hc46=>?_) (fun hc46=>?_)
      ·have hd46:=of_decide_eq_true hc46
       refine anT 15 ?_
       refine anT 16 ?_
       refine anT 17 ?_
       refine anT 18 ?_
       refine anT 19 ?_
       refine anT 20 ?_
       refine anT 21 ?_
       refine anT 22 ?_
       refine anT 23 ?_
       refine anT 24 ?_
       refine anT 25 ?_
       refine agc 26 (.bool true) ?_
       refine agc 27 (.bool true) ?_
       refine ac 28 (.bool true) ?_
       refine anyDone (by kernel_rfl) ?_
       refine qThen (stTrue rfl (stSeq (reg ?_)))
       refine la ?_
       refine la ?_
       refine liNil (qThen (stRet (qThenR (qBlockR (qThenR (qThenR (qBlockR (qThenR ?_))))))))
       refine sN [(.slice none 0 0),(.int .i64 3)] fun w hM=>?_
       exact absurd ((decA_stop heq20 (i:=i+1) hlt (Rd.parts_gap hpt heq29 (by rw [(follows_at (i:=i - 1) (q:=x0.abs) (by rw [List.getElem?_map,hx0]; rfl) (by rw [List.length_map]; omega))]; have e:=of_decide_eq_true hc46; simp [PV.abs,e]))).symm.trans hd) (by simp)
      ·have hd46:=of_decide_eq_false hc46
       refine agm 15 ?_
       refine agm 16 ?_
       refine agv 17 (vI (i - 1)) rfl (rSub _ rfl rfl rfl (by omega) (by omega) (by omega)) ?_
       refine Any.partPtr (fun w hM=>rowOwn3 (i:=1) rfl w hM) hx0 (fun p50 q50 hA50 hc50=>?_)
       refine agv 18 (vP p50 (q50+(i - 1)*3)) rfl (rIndexRow3 (e:=246) rfl (by kernel_rfl) (by kernel_rfl) rfl rfl hA50 (by omega)) ?_
       refine agc 19 (vP p50 (q50+(i - 1)*3)) ?_
       refine agc 20 (vP p50 (q50+(i - 1)*3+1)) ?_
       refine agv 21 (vS x0.hi) rfl (rLoadW rfl rfl (by kernel_rfl) (fun w hM=>hc50 w hM 1 _ rfl)) ?_
       refine agc 22 (vP b8 0) ?_
       refine agc 23 (vP b8 0) ?_
       refine agv 24 (vS pv.lo) rfl (rLoad 4 rfl rfl (by kernel_rfl) rfl rfl) ?_
       refine agv 25 (.bool (!(decide (x0.hi < pv.lo) || decide (x0.hi=pv.lo)))) rfl (rStrGt rfl rfl rfl) ?_
       refine agc 26 (.bool (!(decide (x0.hi < pv.lo) || decide (x0.hi=pv.lo)))) ?_
       refine agc 27 (.bool (!(decide (x0.hi < pv.lo) || decide (x0.hi=pv.lo)))) ?_
       refine ac 28 (.bool (!(decide (x0.hi < pv.lo) || decide (x0.hi=pv.lo)))) ?_
       refine anyDone (by kernel_rfl) ?_
       refine qThen (stCond rfl (fun hc60=>?_) (fun hc60=>?_))
       ·refine stSeq (reg (la ?_))
        refine la ?_
        refine liNil (qThen (stRet (qThenR (qBlockR (qThenR (qThenR (qBlockR (qThenR ?_))))))))
        refine sN [(.slice none 0 0),(.int .i64 3)] fun w hM=>?_
        exact absurd ((decA_stop heq20 (i:=i+1) hlt (Rd.parts_gap hpt heq29 (by rw [(follows_at (i:=i - 1) (q:=x0.abs) (by rw [List.getElem?_map,hx0]; rfl) (by rw [List.length_map]; omega))]; rw [gtr_iff] at hc60; rw [← hab]; have e:=of_decide_eq_true hc60; simp [PV.abs,e]))).symm.trans hd) (by simp)
       ·have hfo:follows (pvs.map PV.abs) p29=true:=by rw [(follows_at (i:=i - 1) (q:=x0.abs) (by rw [List.getElem?_map,hx0]; rfl) (by rw [List.length_map]; omega))]; rw [gtr_iff] at hc60; rw [← hab]; have e:=of_decide_eq_false hc46; have e2:=of_decide_eq_false hc60; simp [PV.abs,e,e2]
        refine stSkip (qThen (reg (lm ?_)))
        refine lv (rA 4 [(vS pv.lo),(vS pv.hi),pv.c.val]) ?_
        refine li rfl (oNw 1 246 [(vS pv.lo),(vS pv.hi),pv.c.val] fun b63=>?_)
        refine li rfl (opAppend el_part 1 ([(vS pv.lo),(vS pv.hi),pv.c.val]) rfl rfl (by kernel_rfl) rfl rfl rfl (rfl) (srcAt (i:=5) rfl (fun j v h=>by rw [Nat.zero_add]; exact h)) (PV.one pv) (by omega) ((pvs++[pv]).length) (by first | exact (List.length_append ..).symm | (simp; done) | (simp; omega)) (PS (pvs++[pv])) ((PS_append _ ([pv])).symm) (fun A64 c64=>?_))
        refine la ?_
        refine liNil (qBlock (qThen (reg ?_)))
        refine lv (v:=(vI (i+1))) rAd ?_
        refine lm ?_
        exact liNil (qThen (sA (i+1,A64,c64,pvs++[pv],r229,LX++L29) (⟨by omega,by rw [Rd.parts_some hpt heq29 hfo,← hab,List.map_append]; rfl,rows_snoc hrows hrw⟩) (by show n20 - (i+1) < n20 - i; omega) (fun w hM=>by show Mm _ _ [cRd X16 br16 (r229),cP A64 (pvs++[pv]) c64,cBag (LX++L29)] w; exact Mm.join (cs:=[cRd X16 br16 (r229),cP A64 (pvs++[pv]) c64]) (L:=LX) (M:=L29) ((hM.pick [0,1,2,3] rfl rfl)))))
     ·have hd37:=of_decide_eq_false hc37
      have hi0:i=0:=by omega
      have hfo:follows (pvs.map PV.abs) p29=true:=by rw [List.eq_nil_of_length_eq_zero (hpl.trans hi0)]; rfl
      refine anF 6 ?_
      refine anF 7 ?_
      refine anF 8 ?_
      refine anF 9 ?_
      refine anF 10 ?_
      refine anF 11 ?_
      refine anF 12 ?_
      refine anF 13 ?_
      refine anF 14 ?_
      refine anU 15 ?_
      refine anU 16 ?_
      refine anU 17 ?_
      refine anU 18 ?_
      refine anU 19 ?_
      refine anU 20 ?_
      refine anU 21 ?_
      refine anU 22 ?_
      refine anU 23 ?_
      refine anU 24 ?_
      refine anU 25 ?_
      refine anF 26 ?_
      refine agc 27 (.bool false) ?_
      refine ac 28 (.bool false) ?_
      refine anyDone (by kernel_rfl) ?_
      refine qThen (stFalse rfl (stSkip (qThen (reg ?_))))
      refine lm ?_
      refine lv (rA 4 [(vS pv.lo),(vS pv.hi),pv.c.val]) ?_
      refine li rfl (oNw 1 246 [(vS pv.lo),(vS pv.hi),pv.c.val] fun b63=>?_)
      refine li rfl (opAppend el_part 1 ([(vS pv.lo),(vS pv.hi),pv.c.val]) rfl rfl (by kernel_rfl) rfl rfl rfl (rfl) (srcAt (i:=5) rfl (fun j v h=>by rw [Nat.zero_add]; exact h)) (PV.one pv) (by omega) ((pvs++[pv]).length) (by first | exact (List.length_append ..).symm | (simp; done) | (simp; omega)) (PS (pvs++[pv])) ((PS_append _ ([pv])).symm) (fun A64 c64=>?_))
      refine la ?_
      refine liNil (qBlock (qThen ?_))
      dsimp only [setAll,List.set,List.cons_append,List.nil_append]
      refine reg (lv (v:=(vI (i+1))) rAd ?_)
      refine lm ?_
      exact liNil (qThen (sA (i+1,A64,c64,pvs++[pv],r229,LX++L29) (⟨by omega,by rw [Rd.parts_some hpt heq29 hfo,← hab,List.map_append]; rfl,rows_snoc hrows hrw⟩) (by show n20 - (i+1) < n20 - i; omega) (fun w hM=>by show Mm _ _ [cRd X16 br16 (r229),cP A64 (pvs++[pv]) c64,cBag (LX++L29)] w; exact Mm.join (cs:=[cRd X16 br16 (r229),cP A64 (pvs++[pv]) c64]) (L:=LX) (M:=L29) ((hM.pick [0,1,2,3] rfl rfl)))))
   | false =>
     obtain rfl:o29=none:=by cases o29 with | none=>rfl | some _=>cases hfk
     refine anyBegin _ 29 (by kernel_rfl) (fun _ h=>h) ?_
     refine am 0 ?_
     refine ac 1 (.bool true) ?_
     refine am 2 ?_
     refine anT 3 ?_
     refine anT 4 ?_
     refine anT 5 ?_
     refine anU 6 ?_
     refine anU 7 ?_
     refine anU 8 ?_
     refine anU 9 ?_
     refine anU 10 ?_
     refine anU 11 ?_
     refine anU 12 ?_
     refine anU 13 ?_
     refine anU 14 ?_
     refine anU 15 ?_
     refine anU 16 ?_
     refine anU 17 ?_
     refine anU 18 ?_
     refine anU 19 ?_
     refine anU 20 ?_
     refine anU 21 ?_
     refine anU 22 ?_
     refine anU 23 ?_
     refine anU 24 ?_
     refine anU 25 ?_
     refine anU 26 ?_
     refine anT 27 ?_
     refine ac 28 (.bool true) ?_
     refine anyDone (by kernel_rfl) ?_
     refine qThen (stTrue rfl (stSeq (reg ?_)))
     refine la ?_
     refine la ?_
     refine liNil (qThen (stRet (qThenR (qBlockR (qThenR (qThenR (qBlockR (qThenR ?_))))))))
     refine sN [(.slice none 0 0),(.int .i64 3)] fun w hM=>?_
     exact absurd ((decA_stop heq20 (i:=i+1) hlt (Rd.parts_none hpt heq29)).symm.trans hd) (by simp)
  ·have hd25:=of_decide_eq_false hc25
   obtain rfl:i=n20:=by omega
   refine stExit (qThenX (qThenX (qBlockX (qThen (stSeq (stSeq (reg ?_)))))))
   refine lm ?_
   refine li rfl (opK [0] _ (fun w hM hO=>(rsREnd_any X16 br16 rX w hO).mono ?_))
   rintro e w' ⟨rfl,hP⟩
   refine ⟨_,[_],_,rfl,hP,rfl,?_⟩; clear hP hM hO
   refine lm ?_
   refine lc (vI rX.off) ?_
   refine lc (.int .i64 rX.end_) ?_
   refine la ?_
   refine la ?_
   refine liNil (qThen (stSeq (reg (lm ?_))))
   refine lc (.bool ((rX.end_:Int) != 0)) ?_
   refine liNil (qThen (stCond rfl (fun hc72=>?_) (fun hc72=>?_)))
   ·refine stSeq (reg (la ?_))
    refine la ?_
    refine liNil (qThen (stRet (qThenR (sN [(.slice none 0 0),(.int .i64 3)] fun w hM=>?_))))
    exact absurd ((decA_end heq20 hpt (by simpa using hc72)).symm.trans hd) (by simp)
   ·have hok:decA D=some (pvs.map PV.abs):=decA_ok heq20 hn0 hpt (by simpa using hc72)
    refine stSkip (qThen (stSeq (reg (lm ?_))))
    refine la ?_
    refine la ?_
    refine liNil (qThen (stRet (sN [(vL RX (pvs) rcX),(.int .i64 0)] fun w hM=>?_)))
    exact ⟨RX,rcX,pvs,LX,rfl,(hM.pick [1,2] rfl rfl),Option.some.inj (hok.symm.trans hd),hrows⟩
theorem rsCompare_any (bs:Nat) (A:Option Addr) (c:Nat) (its:List (List UInt8)) (fan leaf:Nat) (nm om:Nat) (lo hi:List UInt8) (n:Nat) (f:List UInt8) (bo:Nat) (R:Option Addr) (rc:Nat) (ps:List PV) (N O:Value) (w:World) (hO:Own [cAt bo 240 [(vL R (ps) rc),N,O],cP R (ps) rc] w) (r0:Rf [cAt bo 240 [(vL R (ps) rc),N,O],cP R (ps) rc] w (Vars)) (r1:Rf [cAt bo 240 [(vL R (ps) rc),N,O],cP R (ps) rc] w (SessAt bs A c its fan leaf nm om)) (hs:okSet its) (hn:its.length≤1000) (hcap:its.length≤c) (hf:2≤fan) (hf2:fan≤16) (hl1:1≤leaf) (hl2:leaf≤64) (hps:ps.length≤4294967296) :
  Calls Tryz.prog 178 #[(vP bs 0),(.agg #[(vS lo),(vS hi)]),(.agg #[(vI n),(vS f)]),(vP bo 0)] w fun e w'=>∃ (R2:Option Addr) (rc2:Nat) (ps2:List PV),e = .returned (.tuple #[])∧Back [cAt bo 240 [(vL R (ps) rc),N,O],cP R (ps) rc] w [cAt bo 240 [(vL R2 (ps++ps2) rc2),N,O],cP R2 (ps++ps2) rc2] w'∧(ps2.map PV.abs=cmpA its fan leaf lo hi n f)∧(SrcOk [] A its ps2):=by
 have ra:=r1.imp (fun _ h=>h.1)
 have rb:=r1.imp (fun _ h=>h.2)
 refine sE4 Tryz.func178 110 (hO) ?_
 refine stSeq (reg (li rfl (oBx [(vS lo),(vS hi)] fun b5=>?_)))
 refine li rfl (oBx [(vI n),(vS f)] fun b6=>?_)
 refine liNil (qThen (stSeq (stSeq (anyBegin _ 5 (by kernel_rfl) (fun _ h=>h) ?_))))
 refine am 0 ?_
 refine av 1 _ rfl (rA 2 [(vS lo),(vS hi)]) ?_
 refine av 3 _ rfl (rA 3 [(vI n),(vS f)]) ?_
 refine a1 2 ?_
 refine opK0 (fun w hM=>(rsSum_any bs A c its fan leaf nm om lo hi w (r0.go0 hM) (r1.go0 hM) (by assumption) (by assumption) (by assumption)).mono ?_)
 rintro e w' ⟨rfl,hP⟩
 refine ⟨_,_,rfl,hP,?_⟩; clear hP hM
 refine anyNext _ (fun _ h=>h) (fun _ h=>h) ?_
 refine av 4 (.bool (decide ((inL its lo hi).length=n∧fpB (inL its lo hi)=f))) rfl (rEqSummed rfl rfl rfl) ?_
 refine anyDone (by kernel_rfl) ?_
 refine qThen (stCond rfl (fun hc19=>?_) (fun hc19=>?_))
 ·have hd19:=of_decide_eq_true hc19
  have hd19:=of_decide_eq_true hc19
  refine stRet (qThenR (stEnd [] rfl trivial (fun w hM=>?_)))
  exact ⟨R,rc,[],rfl,by rw [List.append_nil]; exact (hM.pick [0,1] rfl rfl),by simp [cmpA,hd19],SrcOk.nil⟩
 ·have hd19:=of_decide_eq_false hc19
  have hd19:=of_decide_eq_false hc19
  refine stSkip (qThen (stSeq ?_))
  dsimp only [setAll,List.set,List.cons_append,List.nil_append]
  refine reg (lm ?_)
  refine lv (rA 2 [(vS lo),(vS hi)]) ?_
  refine li rfl (opK0 (fun w hM=>(rsWithin_any bs A c its fan leaf nm om lo hi w (r1.go0 hM) (by assumption) (by assumption) (by assumption)).mono ?_))
  rintro e w' ⟨B22,cb22,rfl,hP,hsub22⟩
  refine ⟨_,_,rfl,hP,?_⟩; clear hP hM
  have rs22:=Ro.imp (Ψ:=fun w=>RowIn w B22 (SS (inL its lo hi))) rb hsub22
  refine la ?_
  refine liNil (qThen (stSeq (reg (lm ?_))))
  refine lc (vI ((inL its lo hi).length)) ?_
  refine la ?_
  refine liNil (qThen (stSeq (stSeq (reg (lm ?_)))))
  refine lm ?_
  refine lc (vP bs 0) ?_
  refine lc (vP bs 1) ?_
  refine lc (vP bs 2) ?_
  refine lv (rW (fun w hM=>At.cell (ra.now hM) 2)) ?_
  refine lc (.bool (decide ((((inL its lo hi).length:Nat):Int)≤((leaf:Nat):Int)))) ?_
  refine liNil (qThen (stCond rfl (fun hc31=>?_) (fun hc31=>?_)))
  ·have hd31:=of_decide_eq_true hc31
   refine stSeq (anyBegin _ 14 (by kernel_rfl) (fun _ h=>h.pick [0,2,3] rfl rfl) ?_)
   refine am 0 ?_
   refine am 1 ?_
   refine ac 2 (vP bo 0) ?_
   refine ac 3 (vP bo 0) ?_
   refine al 4 0 ?_
   refine av 5 _ rfl (rA 1 [(vS lo),(vS hi)]) ?_
   refine am 6 ?_
   refine ac 7 (.agg #[(vL B22 (inL its lo hi) cb22)]) ?_
   refine ac 8 (.iface 252 (.agg #[(vL B22 (inL its lo hi) cb22)])) ?_
   refine ac 9 (.agg #[(vS lo),(vS hi),(.iface 252 (.agg #[(vL B22 (inL its lo hi) cb22)]))]) ?_
   refine a1 10 ?_
   refine oNw 1 246 [(vS lo),(vS hi),(.iface 252 (.agg #[(vL B22 (inL its lo hi) cb22)]))] fun b42=>?_
   refine anyNext _ (fun _ h=>h.pick [0,1,2] rfl rfl) (fun _ h=>h.pick [0,2,3,4] rfl rfl) ?_
   refine a1 11 ?_
   refine opAppend el_part 1 ([(vS lo),(vS hi),(.iface 252 (.agg #[(vL B22 (inL its lo hi) cb22)]))]) rfl rfl (by kernel_rfl) rfl rfl rfl (rfl) (srcAt (i:=4) rfl (fun j v h=>by rw [Nat.zero_add]; exact h)) (PS_one (ps:=[PV.mk lo hi (.list B22 cb22 (inL its lo hi))])) (by omega) ((ps++[PV.mk lo hi (.list B22 cb22 (inL its lo hi))]).length) (by first | exact (List.length_append ..).symm | (simp; done) | (simp; omega)) (PS (ps++[PV.mk lo hi (.list B22 cb22 (inL its lo hi))])) ((PS_append _ ([PV.mk lo hi (.list B22 cb22 (inL its lo hi))])).symm) (fun A43 c43=>?_)
   dsimp only [setAll,List.set,List.cons_append,List.nil_append]
   refine anyNext _ (fun _ h=>h) (fun _ h=>h.pick [0,2,3,4] rfl rfl) ?_
   refine ac 12 (vP bo 0) ?_
   refine ac 13 (vP bo 0) ?_
   refine a1 14 ?_
   refine oS1 0 ?_
   refine anyLast (by kernel_rfl) rfl ?_
   refine qThen (stRet (qThenR (stEnd [] rfl trivial (fun w hM=>?_))))
   exact ⟨A43,c43,[PV.mk lo hi (.list B22 cb22 (inL its lo hi))],rfl,(hM.pick [0,1] rfl rfl),by rw [cmpA,if_neg hd19,if_pos (by have:=of_decide_eq_true hc31; omega)]; rfl,fun p hp r hr=>.inr (by rw [List.mem_singleton.1 hp] at hr; rw [List.mem_singleton.1 hr]; exact hsub22)⟩
  ·have hd31:=of_decide_eq_false hc31
   refine stSkip (qThen (stSeq (reg (lc (vP b5 0) ?_))))
   refine ll 2 ?_
   refine la ?_
   refine liNil (qThen (stSeq (stSeq (reg (la ?_)))))
   refine liNil (qThen (stBlock ?_))
   have h2:=List.length_filter_le (inR lo hi) its; change (inL its lo hi).length≤its.length at h2
   refine sL (fun (k,RX,rcX)=>k+1≤fan) (fun (k,RX,rcX)=>fan - k) (fun (k,RX,rcX)=>[(0,(vP bs 0)),(3,(vP bo 0)),(5,(vP b5 0)),(8,(vL B22 (inL its lo hi) cb22)),(9,(vI ((inL its lo hi).length))),(10,(vS ((divP its (inL its lo hi) fan lo k).1))),(11,(vI (k+1)))]) (fun (k,RX,rcX)=>[cAt bo 240 [(vL RX (ps++(divP its (inL its lo hi) fan lo k).2) rcX),N,O],cP RX (ps++(divP its (inL its lo hi) fan lo k).2) rcX,cAt b5 242 [(vS lo),(vS hi)],cAt b6 248 [(vI n),(vS f)]]) (0,R,rc) (by show 0+1≤fan; omega) (fun w hM=>by show Mm _ _ [cAt bo 240 [(vL R (ps++(divP its (inL its lo hi) fan lo 0).2) rc),N,O],cP R (ps++(divP its (inL its lo hi) fan lo 0).2) rc,cAt b5 242 [(vS lo),(vS hi)],cAt b6 248 [(vI n),(vS f)]] w; rw [show ps++(divP its (inL its lo hi) fan lo 0).2=ps from List.append_nil _]; exact hM) ?_
   rintro ⟨k,RX,rcX⟩ (hok:k+1≤fan)
   dsimp only
   refine stSeq (stSeq (reg (lm ?_)))
   refine lm ?_
   refine lc (vP bs 0) ?_
   refine lc (vP bs 1) ?_
   refine lc (vP bs 1) ?_
   refine lv (rW (fun w hM=>At.cell (ra.now hM) 1)) ?_
   refine lc (.bool (decide ((((k+1):Nat):Int) < ((fan:Nat):Int)))) ?_
   refine liNil (qThen (stCond rfl (fun hc54=>?_) (fun hc54=>?_)))
   ·have hd54:=of_decide_eq_true hc54
    have hk:k+1 < fan:=by have:=of_decide_eq_true hc54; omega
    refine stSkip (qThen (stSeq (stBlock (stSeq ?_))))
    have hm1:(k+1)*(inL its lo hi).length≤16*1000:=Nat.mul_le_mul (by omega) (by omega)
    have hm2:(k+1)*(inL its lo hi).length / fan < (inL its lo hi).length:=by
     rw [Nat.div_lt_iff_lt_mul (by omega),Nat.mul_comm]
     exact Nat.mul_lt_mul_of_pos_left hk (by have:=of_decide_eq_false hc31; omega)
    refine reg (lm ?_)
    refine lm ?_
    refine lm ?_
    refine lv (v:=(vI ((k+1)*(inL its lo hi).length))) (rMul _ rfl rfl rfl (by omega) (by omega) (by omega)) ?_
    refine lm ?_
    refine lc (vP bs 0) ?_
    refine lc (vP bs 1) ?_
    refine lc (vP bs 1) ?_
    refine lv (rW (fun w hM=>At.cell (ra.now hM) 1)) ?_
    refine lv (v:=(vI ((k+1)*(inL its lo hi).length / fan))) (rQuoN rfl rfl rfl (by omega) (by omega)) ?_
    obtain ⟨x0,hx0⟩:∃ ξ,(inL its lo hi)[(k+1)*(inL its lo hi).length / fan]?=some ξ:=⟨_,List.getElem?_eq_getElem (by omega)⟩
    refine St.rowPtr (fun w hM=>rs22.now hM) (SS_at hx0) (fun p67 q67 hA67 hc67=>?_)
    refine lv (v:=(vP p67 (q67+((k+1)*(inL its lo hi).length / fan)))) (rR 9 hA67) ?_
    refine lv (rW hc67) ?_
    refine la ?_
    refine liNil (qThen (stSeq (reg (lm ?_))))
    refine lm ?_
    refine lv (v:=(.bool (!decide (x0=(divP its (inL its lo hi) fan lo k).1)))) (rStrNe rfl rfl rfl) ?_
    refine liNil (qThen (stCond rfl (fun hc71=>?_) (fun hc71=>?_)))
    ·refine stSeq (reg (lm ?_))
     refine lm ?_
     refine lc (.agg #[(vS ((divP its (inL its lo hi) fan lo k).1)),(vS x0)]) ?_
     refine li rfl (oAl [(.string ⟨#[]⟩),(.string ⟨#[]⟩)] fun b13=>?_)
     refine li rfl (oSN 4 [(vS ((divP its (inL its lo hi) fan lo k).1)),(vS x0)] ?_)
     refine liNil (qThen (stSeq (anyBegin _ 15 (by kernel_rfl) (fun _ h=>h.pick [0,2,3,4] rfl rfl) ?_)))
     refine am 0 ?_
     refine am 1 ?_
     refine ac 2 (vP bo 0) ?_
     refine ac 3 (vP bo 0) ?_
     refine al 4 0 ?_
     refine av 5 _ rfl (rA 3 [(vS ((divP its (inL its lo hi) fan lo k).1)),(vS x0)]) ?_
     refine am 6 ?_
     refine av 7 _ rfl (rA 3 [(vS ((divP its (inL its lo hi) fan lo k).1)),(vS x0)]) ?_
     refine a1 8 ?_
     refine opK0 (fun w hM=>(rsSum_any bs A c its fan leaf nm om ((divP its (inL its lo hi) fan lo k).1) x0 w (r0.go0 hM) (r1.go0 hM) (by assumption) (by assumption) (by assumption)).mono ?_)
     rintro e w' ⟨rfl,hP⟩
     refine ⟨_,_,rfl,hP,?_⟩; clear hP hM
     dsimp only [setAll,List.set,List.cons_append,List.nil_append]
     refine anyNext _ (fun _ h=>h) (fun _ h=>h.pick [0,2,3,4] rfl rfl) ?_
     refine ac 9 (.iface 248 (.agg #[(vI ((inL its ((divP its (inL its lo hi) fan lo k).1) x0).length)),(vS (fpB (inL its ((divP its (inL its lo hi) fan lo k).1) x0)))])) ?_
     refine ac 10 (.agg #[(vS ((divP its (inL its lo hi) fan lo k).1)),(vS x0),(.iface 248 (.agg #[(vI ((inL its ((divP its (inL its lo hi) fan lo k).1) x0).length)),(vS (fpB (inL its ((divP its (inL its lo hi) fan lo k).1) x0)))]))]) ?_
     refine a1 11 ?_
     refine oNw 1 246 [(vS ((divP its (inL its lo hi) fan lo k).1)),(vS x0),(.iface 248 (.agg #[(vI ((inL its ((divP its (inL its lo hi) fan lo k).1) x0).length)),(vS (fpB (inL its ((divP its (inL its lo hi) fan lo k).1) x0)))]))] fun b86=>?_
     refine anyNext _ (fun _ h=>h.pick [0,1,2,3] rfl rfl) (fun _ h=>h.pick [0,2,3,4,5] rfl rfl) ?_
     refine a1 12 ?_
     refine opAppend el_part 1 ([(vS ((divP its (inL its lo hi) fan lo k).1)),(vS x0),(.iface 248 (.agg #[(vI ((inL its ((divP its (inL its lo hi) fan lo k).1) x0).length)),(vS (fpB (inL its ((divP its (inL its lo hi) fan lo k).1) x0)))]))]) rfl rfl (by kernel_rfl) rfl rfl rfl (rfl) (srcAt (i:=5) rfl (fun j v h=>by rw [Nat.zero_add]; exact h)) (by intro u hu; exact PS_one (ps:=[sumP its _ _]) u hu) (by have:=divP_len its (inL its lo hi) fan lo k; simp only [List.length_append] at *; omega) ((ps++(divP its (inL its lo hi) fan lo k).2++[sumP its (divP its (inL its lo hi) fan lo k).1 x0]).length) (by first | exact (List.length_append ..).symm | (simp; done) | (simp; omega)) (PS (ps++(divP its (inL its lo hi) fan lo k).2++[sumP its (divP its (inL its lo hi) fan lo k).1 x0])) ((PS_append _ ([sumP its (divP its (inL its lo hi) fan lo k).1 x0])).symm) (fun A87 c87=>?_)
     refine anyNext _ (fun _ h=>h) (fun _ h=>h.pick [0,2,3,4,5] rfl rfl) ?_
     refine ac 13 (vP bo 0) ?_
     refine ac 14 (vP bo 0) ?_
     refine a1 15 ?_
     refine oS1 0 ?_
     refine anyLast (by kernel_rfl) rfl ?_
     refine qThen (reg (lm ?_))
     refine la ?_
     refine liNil (qBlock (qThen (reg ?_)))
     refine lm ?_
     refine lv (v:=(vI ((k+1)+1))) rAd ?_
     refine la ?_
     refine liNil (qThen ?_)
     rw [show ps++(divP its (inL its lo hi) fan lo k).2++[sumP its (divP its (inL its lo hi) fan lo k).1 x0]=ps++(divP its (inL its lo hi) fan lo (k+1)).2 from by rw [divP_yes hx0 hc71,← List.append_assoc]]
     rw [show x0=(divP its (inL its lo hi) fan lo (k+1)).1 from by rw [divP_yes hx0 hc71]]
     exact sA (k+1,A87,c87) (by show _≤_; omega) (by show fan - (k+1) < fan - k; omega) (fun w hM=>(hM.pick [0,1,2,3] rfl rfl))
    ·refine stSkip (qBlock (qThen (reg ?_)))
     refine lm ?_
     refine lv (v:=(vI ((k+1)+1))) rAd ?_
     refine la ?_
     refine liNil (qThen ?_)
     rw [show divP its (inL its lo hi) fan lo k=divP its (inL its lo hi) fan lo (k+1) from (divP_no hx0 hc71).symm]
     exact sA (k+1,RX,rcX) (by show _≤_; omega) (by show fan - (k+1) < fan - k; omega) (fun w hM=>hM)
   ·have hd54:=of_decide_eq_false hc54
    obtain rfl:k=fan - 1:=by have:=of_decide_eq_false hc54; omega
    refine stExit (qThenX (qThenX (qBlockX (qThen (stSeq (reg ?_))))))
    refine lm ?_
    refine lc (vP b5 1) ?_
    refine ll 2 ?_
    refine lc (.agg #[(vS ((divP its (inL its lo hi) fan lo (fan - 1)).1)),(vS hi)]) ?_
    refine li rfl (oAl [(.string ⟨#[]⟩),(.string ⟨#[]⟩)] fun b14=>?_)
    refine li rfl (oSN 4 [(vS ((divP its (inL its lo hi) fan lo (fan - 1)).1)),(vS hi)] ?_)
    refine liNil (qThen ?_)
    dsimp only [setAll,List.set,List.cons_append,List.nil_append]
    refine anyBegin _ 15 (by kernel_rfl) (fun _ h=>h.pick [0,2,3,4] rfl rfl) ?_
    refine am 0 ?_
    refine am 1 ?_
    refine ac 2 (vP bo 0) ?_
    refine ac 3 (vP bo 0) ?_
    refine al 4 0 ?_
    refine av 5 _ rfl (rA 3 [(vS ((divP its (inL its lo hi) fan lo (fan - 1)).1)),(vS hi)]) ?_
    refine am 6 ?_
    refine av 7 _ rfl (rA 3 [(vS ((divP its (inL its lo hi) fan lo (fan - 1)).1)),(vS hi)]) ?_
    refine a1 8 ?_
    refine opK0 (fun w hM=>(rsSum_any bs A c its fan leaf nm om ((divP its (inL its lo hi) fan lo (fan - 1)).1) hi w (r0.go0 hM) (r1.go0 hM) (by assumption) (by assumption) (by assumption)).mono ?_)
    rintro e w' ⟨rfl,hP⟩
    refine ⟨_,_,rfl,hP,?_⟩; clear hP hM
    refine anyNext _ (fun _ h=>h) (fun _ h=>h.pick [0,2,3,4] rfl rfl) ?_
    refine ac 9 (.iface 248 (.agg #[(vI ((inL its ((divP its (inL its lo hi) fan lo (fan - 1)).1) hi).length)),(vS (fpB (inL its ((divP its (inL its lo hi) fan lo (fan - 1)).1) hi)))])) ?_
    refine ac 10 (.agg #[(vS ((divP its (inL its lo hi) fan lo (fan - 1)).1)),(vS hi),(.iface 248 (.agg #[(vI ((inL its ((divP its (inL its lo hi) fan lo (fan - 1)).1) hi).length)),(vS (fpB (inL its ((divP its (inL its lo hi) fan lo (fan - 1)).1) hi)))]))]) ?_
    refine a1 11 ?_
    refine oNw 1 246 [(vS ((divP its (inL its lo hi) fan lo (fan - 1)).1)),(vS hi),(.iface 248 (.agg #[(vI ((inL its ((divP its (inL its lo hi) fan lo (fan - 1)).1) hi).length)),(vS (fpB (inL its ((divP its (inL its lo hi) fan lo (fan - 1)).1) hi)))]))] fun b106=>?_
    dsimp only [setAll,List.set,List.cons_append,List.nil_append]
    refine anyNext _ (fun _ h=>h.pick [0,1,2,3] rfl rfl) (fun _ h=>h.pick [0,2,3,4,5] rfl rfl) ?_
    refine a1 12 ?_
    refine opAppend el_part 1 ([(vS ((divP its (inL its lo hi) fan lo (fan - 1)).1)),(vS hi),(.iface 248 (.agg #[(vI ((inL its ((divP its (inL its lo hi) fan lo (fan - 1)).1) hi).length)),(vS (fpB (inL its ((divP its (inL its lo hi) fan lo (fan - 1)).1) hi)))]))]) rfl rfl (by kernel_rfl) rfl rfl rfl (rfl) (srcAt (i:=5) rfl (fun j v h=>by rw [Nat.zero_add]; exact h)) (by intro u hu; exact PS_one (ps:=[sumP its _ _]) u hu) (by have:=divP_len its (inL its lo hi) fan lo (fan - 1); simp only [List.length_append] at *; omega) ((ps++(divP its (inL its lo hi) fan lo (fan - 1)).2++[sumP its (divP its (inL its lo hi) fan lo (fan - 1)).1 hi]).length) (by first | exact (List.length_append ..).symm | (simp; done) | (simp; omega)) (PS (ps++(divP its (inL its lo hi) fan lo (fan - 1)).2++[sumP its (divP its (inL its lo hi) fan lo (fan - 1)).1 hi])) ((PS_append _ ([sumP its (divP its (inL its lo hi) fan lo (fan - 1)).1 hi])).symm) (fun A107 c107=>?_)
    refine anyNext _ (fun _ h=>h) (fun _ h=>h.pick [0,2,3,4,5] rfl rfl) ?_
    refine ac 13 (vP bo 0) ?_
    refine ac 14 (vP bo 0) ?_
    refine a1 15 ?_
    refine oS1 0 ?_
    refine anyLast (by kernel_rfl) rfl ?_
    refine stEndN [] rfl trivial (fun w hM=>?_)
    refine ⟨A107,c107,(divP its (inL its lo hi) fan lo (fan - 1)).2++[sumP its (divP its (inL its lo hi) fan lo (fan - 1)).1 hi],rfl,?_,?_,?_⟩
    ·rw [← List.append_assoc]; exact (hM.pick [0,1] rfl rfl)
    ·rw [cmpA,if_neg hd19,if_neg (by have:=of_decide_eq_false hc31; omega),List.map_append,(divP_abs its (inL its lo hi) fan lo (fan - 1)).2,← (divP_abs its (inL its lo hi) fan lo (fan - 1)).1]; rfl
    ·exact SrcOk.append (L:=[]) (SrcOk.noRows (divP_sum _ _ _ _ _)) (SrcOk.noRows (by intro p hp; rw [List.mem_singleton.1 hp]; rfl))
theorem rsAnswer_any (bs:Nat) (A:Option Addr) (c:Nat) (its:List (List UInt8)) (fan leaf:Nat) (nm om:Nat) (lo hi:List UInt8) (A1:Option Addr) (c1:Nat) (xs:List (List UInt8)) (bo:Nat) (R:Option Addr) (rc:Nat) (ps:List PV) (N:Option Addr) (nc:Nat) (nl:List (List UInt8)) (O:Option Addr) (oc:Nat) (ol:List (List UInt8)) (w:World) (hO:Own [cAt bo 240 [(vL R (ps) rc),(vL N (nl) nc),(vL O (ol) oc)],cP R (ps) rc,cS N (nl) nc,cS O (ol) oc] w) (r0:Rf [cAt bo 240 [(vL R (ps) rc),(vL N (nl) nc),(vL O (ol) oc)],cP R (ps) rc,cS N (nl) nc,cS O (ol) oc] w (SessAt bs A c its fan leaf nm om)) (r1:Rf [cAt bo 240 [(vL R (ps) rc),(vL N (nl) nc),(vL O (ol) oc)],cP R (ps) rc,cS N (nl) nc,cS O (ol) oc] w (fun w=>RowIn w A1 (SS xs))) (hs:okSet its) (hn:its.length≤1000) (hcap:its.length≤c) (hps:ps.length≤4294967296) (hxl:xs.length≤4294967296) (hxs:∀ x∈xs,x.length≤1000) (hnl:nl.length≤68719476736) (hol:ol.length≤68719476736) :
  Calls Tryz.prog 179 #[(vP bs 0),(.agg #[(vS lo),(vS hi)]),(.agg #[(vL A1 xs c1)]),(vP bo 0)] w fun e w'=>∃ (R2:Option Addr) (rc2:Nat) (ps2:List PV) (N2:Option Addr) (nc2:Nat) (O2:Option Addr) (oc2:Nat) (L2:List (Option Addr × List (List UInt8))),e = .returned (.tuple #[])∧Back [cAt bo 240 [(vL R (ps) rc),(vL N (nl) nc),(vL O (ol) oc)],cP R (ps) rc,cS N (nl) nc,cS O (ol) oc] w [cAt bo 240 [(vL R2 (ps++ps2) rc2),(vL N2 (nl++without xs its) nc2),(vL O2 (ol++without (inL its lo hi) xs) oc2)],cP R2 (ps++ps2) rc2,cS N2 (nl++without xs its) nc2,cS O2 (ol++without (inL its lo hi) xs) oc2,cBag (L2)] w'∧(ps2.map PV.abs=ansA its lo hi xs)∧(SrcOk L2 A its ps2):=by
 have ra:=r0.imp (fun _ h=>h.1)
 have rb:=r0.imp (fun _ h=>h.2)
 refine sE4 Tryz.func179 95 (hO) ?_
 refine stSeq (reg (li rfl (oBx [(vS lo),(vS hi)] fun b5=>?_)))
 refine li rfl (oBx [(vL A1 xs c1)] fun b6=>?_)
 refine liNil (qThen (stSeq (reg (li rfl (opMakeSet rfl rfl (by kernel_rfl) (fun m14=>?_))))))
 refine la ?_
 refine liNil (qThen (stSeq (reg (li rfl (oAl [(.slice none 0 0),(.slice none 0 0)] fun b9=>?_)))))
 refine liNil (qThen (stSeq (stSeq ?_)))
 dsimp only [setAll,List.set,List.cons_append,List.nil_append]
 refine St.mem (fun w hM=>hM.nilOwn 9 1) ?_
 refine St.mem (fun w hM=>hM.nilOwn 9 1) ?_
 refine reg (lc (vP b6 0) ?_)
 refine ll 5 ?_
 refine lc (vI xs.length) ?_
 refine lm ?_
 refine liNil (qThen (stBlock (sL (fun (i,N32,nc32)=>i≤xs.length) (fun (i,N32,nc32)=>xs.length - i) (fun (i,N32,nc32)=>[(0,(vP bs 0)),(3,(vP bo 0)),(5,(vP b5 0)),(8,(.map (some m14))),(9,(vP b9 0)),(16,(vL A1 xs c1)),(17,(vI xs.length)),(18,(vI i))]) (fun (i,N32,nc32)=>[cAt bo 240 [(vL R (ps) rc),(vL N (nl) nc),(vL O (ol) oc)],cP R (ps) rc,cS N (nl) nc,cS O (ol) oc,cAt b5 242 [(vS lo),(vS hi)],cAt b6 252 [(vL A1 xs c1)],cSet m14 (xs.take i),cAt b9 255 [(.slice none 0 0),(vL N32 (without (xs.take i) its) nc32)],cOwn 9 1 none (0) (0) ([]),cS N32 (without (xs.take i) its) nc32]) (0,none,0) (Nat.zero_le _) (fun w hM=>by show Mm _ _ [cAt bo 240 [(vL R (ps) rc),(vL N (nl) nc),(vL O (ol) oc)],cP R (ps) rc,cS N (nl) nc,cS O (ol) oc,cAt b5 242 [(vS lo),(vS hi)],cAt b6 252 [(vL A1 xs c1)],cSet m14 (xs.take 0),cAt b9 255 [(.slice none 0 0),(vL none (without (xs.take 0) its) 0)],cOwn 9 1 none (0) (0) ([]),cS none (without (xs.take 0) its) 0] w; exact hM) ?_)))
 rintro ⟨i,N32,nc32⟩ (hok:i≤xs.length)
 dsimp only
 refine stSeq (reg (lc (.bool (decide (((i:Nat):Int) < ((xs.length:Nat):Int)))) ?_))
 refine liNil (qThen (stSeq (stCond rfl (fun hc19=>?_) (fun hc19=>?_))))
 ·have hd19:=of_decide_eq_true hc19
  refine stSkip (qThen (stSeq (stBlock (stSeq (reg ?_)))))
  obtain ⟨x0,hx0⟩:∃ ξ,(xs)[i]?=some ξ:=⟨_,List.getElem?_eq_getElem (by omega)⟩
  refine St.rowPtr (fun w hM=>r1.now hM) (SS_at hx0) (fun p20 q20 hA20 hc20=>?_)
  refine lv (v:=(vP p20 (q20+i))) (rR 9 hA20) ?_
  refine lv (rW hc20) ?_
  refine la ?_
  refine liNil (qThen (stSeq (reg (lm ?_))))
  refine lm ?_
  refine li rfl (opSetPut 6 rfl rfl (by kernel_rfl) rfl rfl rfl rfl (by have:=hxs _ (List.mem_of_getElem? hx0); omega) (by rw [List.length_take]; omega) ?_)
  refine liNil (qThen (stSeq (reg (lm ?_))))
  refine lm ?_
  refine li rfl (opK0 (fun w hM=>(rsSHas_any bs A c its fan leaf nm om x0 w (r0.go0 hM) (by assumption) (by assumption)).mono ?_))
  rintro e w' ⟨rfl,hP⟩
  refine ⟨_,_,rfl,hP,?_⟩; clear hP hM
  refine lc (.bool (!(its.contains x0))) ?_
  refine liNil (qThen (stCond rfl (fun hc27=>?_) (fun hc27=>?_)))
  ·refine reg (lc (vP b9 1) ?_)
   refine ll 7 ?_
   refine lm ?_
   refine li rfl (oNw 1 9 [(vS x0)] fun b31=>?_)
   refine li rfl (opAppend el_strC 9 ([(vS x0)]) rfl rfl (by kernel_rfl) rfl rfl rfl (rfl) (srcAt (i:=10) rfl (fun j v h=>by rw [Nat.zero_add]; exact h)) (by simp [Value.oneCell']) (by have h:=without_len (xs.take i) its; simp only [List.length_take] at h; omega) ((without (xs.take i) its++[x0]).length) (by first | exact (List.length_append ..).symm | (simp; done) | (simp; omega)) (SS (without (xs.take i) its++[x0])) (by simp [SS]) (fun A32 c32=>?_))
   refine lc (vP b9 1) ?_
   refine li rfl (oS1 7 ?_)
   refine liNil (qBlock (qThen ?_))
   dsimp only [setAll,List.set,List.cons_append,List.nil_append]
   refine reg (lv (v:=(vI (i+1))) rAd ?_)
   refine lm ?_
   refine liNil (qThen ?_)
   rw [show xs.take i++[x0]=xs.take (i+1) from take_snoc hx0]
   rw [show without (xs.take i) its++[x0]=without (xs.take (i+1)) its from by rw [without_yes hx0 (by simpa using hc27)]]
   exact sA (i+1,A32,c32) (by show _≤_; omega) (by show xs.length - (i+1) < xs.length - i; omega) (fun w hM=>(hM.pick [0,1,2,3,4,5,6,7,8,9] rfl rfl))
  ·refine stSkip (qBlock (qThen (reg ?_)))
   refine lv (v:=(vI (i+1))) rAd ?_
   refine lm ?_
   refine liNil (qThen ?_)
   rw [show xs.take i++[x0]=xs.take (i+1) from take_snoc hx0]
   rw [show without (xs.take i) its=without (xs.take (i+1)) its from by rw [without_no hx0 (by simpa using hc27)]]
   exact sA (i+1,N32,nc32) (by show _≤_; omega) (by show xs.length - (i+1) < xs.length - i; omega) (fun w hM=>hM)
 ·have hd19:=of_decide_eq_false hc19
  obtain rfl:i=xs.length:=by omega
  rw [List.take_length]
  refine stExit (qThenX (qThenX (qBlockX (qThen (stSeq (stSeq (reg ?_)))))))
  refine lm ?_
  refine lv (rA 4 [(vS lo),(vS hi)]) ?_
  refine li rfl (opK0 (fun w hM=>(rsWithin_any bs A c its fan leaf nm om lo hi w (r0.go0 hM) (by assumption) (by assumption) (by assumption)).mono ?_))
  rintro e w' ⟨B37,cb37,rfl,hP,hsub37⟩
  refine ⟨_,_,rfl,hP,?_⟩; clear hP hM
  have rs37:=Ro.imp (Ψ:=fun w=>RowIn w B37 (SS (inL its lo hi))) rb hsub37
  have hl2:=List.length_filter_le (inR lo hi) its; change (inL its lo hi).length≤its.length at hl2
  refine lc (vI ((inL its lo hi).length)) ?_
  refine lm ?_
  refine liNil (qThen (stBlock (sL (fun (i,N51,nc51)=>i≤(inL its lo hi).length) (fun (i,N51,nc51)=>(inL its lo hi).length - i) (fun (i,N51,nc51)=>[(3,(vP bo 0)),(5,(vP b5 0)),(8,(.map (some m14))),(9,(vP b9 0)),(37,(vL B37 (inL its lo hi) cb37)),(38,(vI ((inL its lo hi).length))),(39,(vI i))]) (fun (i,N51,nc51)=>[cAt bo 240 [(vL R (ps) rc),(vL N (nl) nc),(vL O (ol) oc)],cP R (ps) rc,cS N (nl) nc,cS O (ol) oc,cAt b5 242 [(vS lo),(vS hi)],cAt b6 252 [(vL A1 xs c1)],cSet m14 (xs),cAt b9 255 [(vL N51 (without ((inL its lo hi).take i) xs) nc51),(vL N32 (without xs its) nc32)],cS N51 (without ((inL its lo hi).take i) xs) nc51,cS N32 (without xs its) nc32]) (0,none,0) (Nat.zero_le _) (fun w hM=>by show Mm _ _ [cAt bo 240 [(vL R (ps) rc),(vL N (nl) nc),(vL O (ol) oc)],cP R (ps) rc,cS N (nl) nc,cS O (ol) oc,cAt b5 242 [(vS lo),(vS hi)],cAt b6 252 [(vL A1 xs c1)],cSet m14 (xs),cAt b9 255 [(vL none (without ((inL its lo hi).take 0) xs) 0),(vL N32 (without xs its) nc32)],cS none (without ((inL its lo hi).take 0) xs) 0,cS N32 (without xs its) nc32] w; exact hM) ?_)))
  rintro ⟨i,N51,nc51⟩ (hok:i≤(inL its lo hi).length)
  dsimp only
  refine stSeq (reg (lc (.bool (decide (((i:Nat):Int) < (((inL its lo hi).length:Nat):Int)))) ?_))
  refine liNil (qThen (stSeq (stCond rfl (fun hc40=>?_) (fun hc40=>?_))))
  ·have hd40:=of_decide_eq_true hc40
   refine stSkip (qThen (stSeq (stBlock (stSeq (reg ?_)))))
   obtain ⟨x0,hx0⟩:∃ ξ,(inL its lo hi)[i]?=some ξ:=⟨_,List.getElem?_eq_getElem (by omega)⟩
   refine St.rowPtr (fun w hM=>rs37.now hM) (SS_at hx0) (fun p41 q41 hA41 hc41=>?_)
   refine lv (v:=(vP p41 (q41+i))) (rR 9 hA41) ?_
   refine lv (rW hc41) ?_
   refine la ?_
   refine liNil (qThen (stSeq (reg (lm ?_))))
   refine lm ?_
   refine lv (v:=(.bool (xs.contains x0))) (rSetGet 6 rfl rfl rfl rfl (by have:=(hs.1 _ (List.mem_filter.1 (List.mem_of_getElem? hx0)).1); omega)) ?_
   refine lc (.bool (!(xs.contains x0))) ?_
   refine liNil (qThen (stCond rfl (fun hc46=>?_) (fun hc46=>?_)))
   ·refine reg (lc (vP b9 0) ?_)
    refine ll 7 ?_
    refine lm ?_
    refine li rfl (oNw 1 9 [(vS x0)] fun b50=>?_)
    refine li rfl (opAppend el_strC 8 ([(vS x0)]) rfl rfl (by kernel_rfl) rfl rfl rfl (rfl) (srcAt (i:=10) rfl (fun j v h=>by rw [Nat.zero_add]; exact h)) (by simp [Value.oneCell']) (by have h:=without_len ((inL its lo hi).take i) xs; simp only [List.length_take] at h; omega) ((without ((inL its lo hi).take i) xs++[x0]).length) (by first | exact (List.length_append ..).symm | (simp; done) | (simp; omega)) (SS (without ((inL its lo hi).take i) xs++[x0])) (by simp [SS]) (fun A51 c51=>?_))
    refine lc (vP b9 0) ?_
    refine li rfl (oS1 7 ?_)
    refine liNil (qBlock (qThen (reg ?_)))
    refine lv (v:=(vI (i+1))) rAd ?_
    refine lm ?_
    refine liNil (qThen ?_)
    rw [show without ((inL its lo hi).take i) xs++[x0]=without ((inL its lo hi).take (i+1)) xs from by rw [without_yes hx0 (by simpa using hc46)]]
    exact sA (i+1,A51,c51) (by show _≤_; omega) (by show (inL its lo hi).length - (i+1) < (inL its lo hi).length - i; omega) (fun w hM=>(hM.pick [0,1,2,3,4,5,6,7,8,9] rfl rfl))
   ·refine stSkip (qBlock (qThen (reg ?_)))
    refine lv (v:=(vI (i+1))) rAd ?_
    refine lm ?_
    refine liNil (qThen ?_)
    rw [show without ((inL its lo hi).take i) xs=without ((inL its lo hi).take (i+1)) xs from by rw [without_no hx0 (by simpa using hc46)]]
    exact sA (i+1,N51,nc51) (by show _≤_; omega) (by show (inL its lo hi).length - (i+1) < (inL its lo hi).length - i; omega) (fun w hM=>hM)
  ·have hd40:=of_decide_eq_false hc40
   obtain rfl:i=(inL its lo hi).length:=by omega
   rw [List.take_length]
   refine stExit (qThenX (qThenX (qBlockX (qThen (stSeq ?_)))))
   have hw1:=without_len xs its; have hw2:=without_len (inL its lo hi) xs
   refine anyBegin _ 10 (by kernel_rfl) (fun _ h=>h.pick [0,1,3,4,5,6,7,8,9] rfl rfl) ?_
   refine am 0 ?_
   refine am 1 ?_
   refine ac 2 (vP bo 0) ?_
   refine ac 3 (vP bo 1) ?_
   refine al 4 0 ?_
   refine ac 5 (vP b9 1) ?_
   refine al 6 6 ?_
   refine a1 7 ?_
   refine opAppend el_strC 2 (SS (without xs its)) rfl rfl (by kernel_rfl) rfl rfl rfl (by simp) (fun w hM=>CellsAt.of_row (rowOwn (i:=9) rfl w hM)) (SS_one) (by omega) ((nl++(without xs its)).length) (by first | exact (List.length_append ..).symm | (simp; done) | (simp; omega)) (SS (nl++(without xs its))) (by simp [SS]) (fun A61 c61=>?_)
   dsimp only [setAll,List.set,List.cons_append,List.nil_append]
   refine anyNext _ (fun _ h=>h) (fun _ h=>h.pick [0,1,3,4,5,6,7,8,9] rfl rfl) ?_
   refine ac 8 (vP bo 0) ?_
   refine ac 9 (vP bo 1) ?_
   refine a1 10 ?_
   refine oS1 0 ?_
   refine anyLast (by kernel_rfl) rfl ?_
   refine qThen (stSeq (anyBegin _ 10 (by kernel_rfl) (fun _ h=>h.pick [0,1,2,4,5,6,7,8,9] rfl rfl) ?_))
   refine am 0 ?_
   refine am 1 ?_
   refine ac 2 (vP bo 0) ?_
   refine ac 3 (vP bo 2) ?_
   refine al 4 0 ?_
   refine ac 5 (vP b9 0) ?_
   refine al 6 6 ?_
   refine a1 7 ?_
   refine opAppend el_strC 3 (SS (without (inL its lo hi) xs)) rfl rfl (by kernel_rfl) rfl rfl rfl (by simp) (fun w hM=>CellsAt.of_row (rowOwn (i:=8) rfl w hM)) (SS_one) (by omega) ((ol++(without (inL its lo hi) xs)).length) (by first | exact (List.length_append ..).symm | (simp; done) | (simp; omega)) (SS (ol++(without (inL its lo hi) xs))) (by simp [SS]) (fun A71 c71=>?_)
   refine anyNext _ (fun _ h=>h) (fun _ h=>h.pick [0,1,2,4,5,6,7,8,9] rfl rfl) ?_
   refine ac 8 (vP bo 0) ?_
   refine ac 9 (vP bo 2) ?_
   refine a1 10 ?_
   refine oS1 0 ?_
   refine anyLast (by kernel_rfl) rfl ?_
   refine qThen (stSeq ?_)
   dsimp only [setAll,List.set,List.cons_append,List.nil_append]
   refine reg (lc (vP b9 0) ?_)
   refine ll 7 ?_
   refine lc (vI ((without (inL its lo hi) xs).length)) ?_
   refine lc (vP b9 1) ?_
   refine ll 7 ?_
   refine lc (vI ((without xs its).length)) ?_
   refine lv (v:=(vI ((without (inL its lo hi) xs).length+(without xs its).length))) rAd ?_
   refine lc (.bool (decide ((((without (inL its lo hi) xs).length+(without xs its).length:Nat):Int) > 0))) ?_
   refine liNil (qThen (stCond rfl (fun hc81=>?_) (fun hc81=>?_)))
   ·have hd81:=of_decide_eq_true hc81
    refine anyBegin _ 13 (by kernel_rfl) (fun _ h=>h.pick [0,2,3,4,5,6,7,8,9] rfl rfl) ?_
    refine am 0 ?_
    refine am 1 ?_
    refine ac 2 (vP bo 0) ?_
    refine ac 3 (vP bo 0) ?_
    refine al 4 0 ?_
    refine av 5 _ rfl (rA 3 [(vS lo),(vS hi)]) ?_
    refine av 6 _ rfl (rA 6 [(vL N51 (without (inL its lo hi) xs) nc51),(vL N32 (without xs its) nc32)]) ?_
    refine ac 7 (.iface 255 (.agg #[(vL N51 (without (inL its lo hi) xs) nc51),(vL N32 (without xs its) nc32)])) ?_
    refine ac 8 (.agg #[(vS lo),(vS hi),(.iface 255 (.agg #[(vL N51 (without (inL its lo hi) xs) nc51),(vL N32 (without xs its) nc32)]))]) ?_
    refine a1 9 ?_
    refine oNw 1 246 [(vS lo),(vS hi),(.iface 255 (.agg #[(vL N51 (without (inL its lo hi) xs) nc51),(vL N32 (without xs its) nc32)]))] fun b91=>?_
    refine anyNext _ (fun _ h=>h.pick [0,1,2,3,4,5,6,7,8] rfl rfl) (fun _ h=>h.pick [0,2,3,4,5,6,7,8,9,10] rfl rfl) ?_
    refine a1 10 ?_
    refine opAppend el_part 1 ([(vS lo),(vS hi),(.iface 255 (.agg #[(vL N51 (without (inL its lo hi) xs) nc51),(vL N32 (without xs its) nc32)]))]) rfl rfl (by kernel_rfl) rfl rfl rfl (rfl) (srcAt (i:=10) rfl (fun j v h=>by rw [Nat.zero_add]; exact h)) (by intro u hu; exact PS_one (ps:=[PV.mk lo hi (.ans N51 nc51 (without (inL its lo hi) xs) N32 nc32 (without xs its))]) u hu) (by omega) ((ps++[PV.mk lo hi (.ans N51 nc51 (without (inL its lo hi) xs) N32 nc32 (without xs its))]).length) (by first | exact (List.length_append ..).symm | (simp; done) | (simp; omega)) (PS (ps++[PV.mk lo hi (.ans N51 nc51 (without (inL its lo hi) xs) N32 nc32 (without xs its))])) ((PS_append _ ([PV.mk lo hi (.ans N51 nc51 (without (inL its lo hi) xs) N32 nc32 (without xs its))])).symm) (fun A92 c92=>?_)
    refine anyNext _ (fun _ h=>h) (fun _ h=>h.pick [0,2,3,4,5,6,7,8,9,10] rfl rfl) ?_
    refine ac 11 (vP bo 0) ?_
    refine ac 12 (vP bo 0) ?_
    refine a1 13 ?_
    refine oS1 0 ?_
    dsimp only [setAll,List.set,List.cons_append,List.nil_append]
    refine anyLast (by kernel_rfl) rfl ?_
    refine stEndN [] rfl trivial (fun w hM=>?_)
    replace hM:Mm _ _ [cAt bo 240 [(vL A92 (ps++[PV.mk lo hi (.ans N51 nc51 (without (inL its lo hi) xs) N32 nc32 (without xs its))]) c92),(vL A61 (nl++(without xs its)) c61),(vL A71 (ol++(without (inL its lo hi) xs)) c71)],cP A92 (ps++[PV.mk lo hi (.ans N51 nc51 (without (inL its lo hi) xs) N32 nc32 (without xs its))]) c92,cS A61 (nl++(without xs its)) c61,cS A71 (ol++(without (inL its lo hi) xs)) c71,cAt b5 242 [(vS lo),(vS hi)],cAt b6 252 [(vL A1 xs c1)],cSet m14 (xs),cAt b9 255 [(vL N51 (without (inL its lo hi) xs) nc51),(vL N32 (without xs its) nc32)],cBag ([(N51,without (inL its lo hi) xs)]),cS N32 (without xs its) nc32,cAt b91 246 [(vS lo),(vS hi),(.iface 255 (.agg #[(vL N51 (without (inL its lo hi) xs) nc51),(vL N32 (without xs its) nc32)]))]] w:=hM.toBag 8 rfl
    replace hM:Mm _ _ [cAt bo 240 [(vL A92 (ps++[PV.mk lo hi (.ans N51 nc51 (without (inL its lo hi) xs) N32 nc32 (without xs its))]) c92),(vL A61 (nl++(without xs its)) c61),(vL A71 (ol++(without (inL its lo hi) xs)) c71)],cP A92 (ps++[PV.mk lo hi (.ans N51 nc51 (without (inL its lo hi) xs) N32 nc32 (without xs its))]) c92,cS A61 (nl++(without xs its)) c61,cS A71 (ol++(without (inL its lo hi) xs)) c71,cAt b5 242 [(vS lo),(vS hi)],cAt b6 252 [(vL A1 xs c1)],cSet m14 (xs),cAt b9 255 [(vL N51 (without (inL its lo hi) xs) nc51),(vL N32 (without xs its) nc32)],cBag ([(N51,without (inL its lo hi) xs)]),cBag ([(N32,without xs its)]),cAt b91 246 [(vS lo),(vS hi),(.iface 255 (.agg #[(vL N51 (without (inL its lo hi) xs) nc51),(vL N32 (without xs its) nc32)]))]] w:=hM.toBag 9 rfl
    refine ⟨A92,c92,[PV.mk lo hi (.ans N51 nc51 (without (inL its lo hi) xs) N32 nc32 (without xs its))],A61,c61,A71,c71,[(N51,without (inL its lo hi) xs),(N32,without xs its)],rfl,Mm.join (cs:=[_,_,_,_]) (L:=[(N51,without (inL its lo hi) xs)]) (M:=[(N32,without xs its)]) ?_,?_,?_⟩
    ·exact (hM.pick [0,1,2,3,8,9] rfl rfl)
    ·rw [ansA,if_pos (by have:=of_decide_eq_true hc81; omega)]; rfl
    ·intro p hp r hr; rw [List.mem_singleton.1 hp] at hr; exact .inl hr
   ·have hd81:=of_decide_eq_false hc81
    refine stSkip (stEndN [] rfl trivial (fun w hM=>?_))
    replace hM:Mm _ _ [cAt bo 240 [(vL R (ps) rc),(vL A61 (nl++(without xs its)) c61),(vL A71 (ol++(without (inL its lo hi) xs)) c71)],cP R (ps) rc,cS A61 (nl++(without xs its)) c61,cS A71 (ol++(without (inL its lo hi) xs)) c71,cAt b5 242 [(vS lo),(vS hi)],cAt b6 252 [(vL A1 xs c1)],cSet m14 (xs),cAt b9 255 [(vL N51 (without (inL its lo hi) xs) nc51),(vL N32 (without xs its) nc32)],cBag ([(N51,without (inL its lo hi) xs)]),cS N32 (without xs its) nc32] w:=hM.toBag 8 rfl
    replace hM:Mm _ _ [cAt bo 240 [(vL R (ps) rc),(vL A61 (nl++(without xs its)) c61),(vL A71 (ol++(without (inL its lo hi) xs)) c71)],cP R (ps) rc,cS A61 (nl++(without xs its)) c61,cS A71 (ol++(without (inL its lo hi) xs)) c71,cAt b5 242 [(vS lo),(vS hi)],cAt b6 252 [(vL A1 xs c1)],cSet m14 (xs),cAt b9 255 [(vL N51 (without (inL its lo hi) xs) nc51),(vL N32 (without xs its) nc32)],cBag ([(N51,without (inL its lo hi) xs)]),cBag ([(N32,without xs its)])] w:=hM.toBag 9 rfl
    refine ⟨R,rc,[],A61,c61,A71,c71,[(N51,without (inL its lo hi) xs),(N32,without xs its)],rfl,Mm.join (cs:=[_,_,_,_]) (L:=[(N51,without (inL its lo hi) xs)]) (M:=[(N32,without xs its)]) ?_,?_,?_⟩
    ·rw [List.append_nil]; exact (hM.pick [0,1,2,3,8,9] rfl rfl)
    ·rw [ansA,if_neg (by have:=of_decide_eq_false hc81; omega)]; rfl
    ·exact SrcOk.nil
theorem rsWItems_any (bw:Nat) (A:Option Addr) (c:Nat) (xs:List UInt8) (A1:Option Addr) (c1:Nat) (l:List (List UInt8)) (w:World) (hO:Own [cAt bw 180 [(vL A (xs) c),(.int .i64 0)],cB A (xs) c] w) (r0:Rf [cAt bw 180 [(vL A (xs) c),(.int .i64 0)],cB A (xs) c] w (fun w=>RowIn w A1 (SS l))) (hl:l.length≤16384) (h32:∀ x∈l,x.length=32) (hx:xs.length≤4294400000) :
  Calls Tryz.prog 247 #[(vP bw 0),(vL A1 l c1)] w fun e w'=>∃ (A2:Option Addr) (c2:Nat),e = .returned (.tuple #[])∧Back [cAt bw 180 [(vL A (xs) c),(.int .i64 0)],cB A (xs) c] w [cAt bw 180 [(vL A2 (xs++(num l.length++l.flatten)) c2),(.int .i64 0)],cB A2 (xs++(num l.length++l.flatten)) c2] w':=by
 refine sE2 Tryz.func247 20 (hO) ?_
 refine stSeq (reg (lm ?_))
 refine lm ?_
 refine lc (vI l.length) ?_
 refine li rfl (opK [0,1] _ (fun w hM hO=>(rsWCount_any bw A c xs l.length w hO (by omega) (by omega)).mono ?_))
 rintro e w' ⟨A29,c29,rfl,hP⟩
 refine ⟨_,[_,_],_,rfl,hP,rfl,?_⟩; clear hP hM hO
 refine liNil (qThen (stSeq (reg (lm ?_))))
 refine lc (vI l.length) ?_
 refine lm ?_
 refine liNil (qThen (stBlock (sL (fun (i,AX,cX)=>i≤l.length) (fun (i,AX,cX)=>l.length - i) (fun (i,AX,cX)=>[(0,(vP bw 0)),(10,(vL A1 l c1)),(11,(vI l.length)),(12,(vI i))]) (fun (i,AX,cX)=>[cAt bw 180 [(vL AX (xs++num l.length++(l.take i).flatten) cX),(.int .i64 0)],cB AX (xs++num l.length++(l.take i).flatten) cX]) (0,A29,c29) (Nat.zero_le _) (fun w hM=>by show Mm _ _ [cAt bw 180 [(vL A29 (xs++num l.length++(l.take 0).flatten) c29),(.int .i64 0)],cB A29 (xs++num l.length++(l.take 0).flatten) c29] w; rw [show xs++num l.length++(l.take 0).flatten=xs++num l.length from List.append_nil _]; exact hM) ?_)))
 rintro ⟨i,AX,cX⟩ (hok:i≤l.length)
 dsimp only
 refine stSeq (reg (lc (.bool (decide (((i:Nat):Int) < ((l.length:Nat):Int)))) ?_))
 refine liNil (qThen (stSeq (stCond rfl (fun hc13=>?_) (fun hc13=>?_))))
 ·have hd13:=of_decide_eq_true hc13
  have hfl:=flat32 (l.take i) (fun x hx=>h32 x (List.mem_of_mem_take hx)); rw [List.length_take] at hfl; have hnl:=num_length l.length (by omega)
  refine stSkip (qThen (stSeq (stBlock (stSeq (reg ?_)))))
  obtain ⟨x0,hx0⟩:∃ ξ,(l)[i]?=some ξ:=⟨_,List.getElem?_eq_getElem (by omega)⟩
  refine St.rowPtr (fun w hM=>r0.now hM) (SS_at hx0) (fun p14 q14 hA14 hc14=>?_)
  refine lv (v:=(vP p14 (q14+i))) (rR 9 hA14) ?_
  refine lv (rW hc14) ?_
  refine la ?_
  refine liNil (qThen (reg (lm ?_)))
  refine lm ?_
  refine li rfl (opK [0,1] _ (fun w hM hO=>(rsWSum_any bw AX cX (xs++num l.length++(l.take i).flatten) x0 w hO (h32 _ (List.mem_of_getElem? hx0)) (by simp only [List.length_append]; omega)).mono ?_))
  rintro e w' ⟨A218,c218,rfl,hP⟩
  refine ⟨_,[_,_],_,rfl,hP,rfl,?_⟩; clear hP hM hO
  refine liNil (qBlock (qThen (reg ?_)))
  refine lv (v:=(vI (i+1))) rAd ?_
  refine lm ?_
  refine liNil (qThen ?_)
  rw [show (xs++num l.length++(l.take i).flatten)++x0=xs++num l.length++(l.take (i+1)).flatten from by rw [List.append_assoc,flatten_take hx0]]
  exact sA (i+1,A218,c218) (by show _≤_; omega) (by show l.length - (i+1) < l.length - i; omega) (fun w hM=>hM)
 ·have hd13:=of_decide_eq_false hc13
  obtain rfl:i=l.length:=by omega
  rw [List.take_length]
  refine stExit (qThenX (qThenX (qBlockX ?_)))
  refine stEndN [] rfl trivial (fun w hM=>?_)
  refine ⟨AX,cX,rfl,?_⟩
  rw [← List.append_assoc]
  exact hM
theorem rsSWrite_any (bw:Nat) (A:Option Addr) (c:Nat) (xs:List UInt8) (n:Nat) (f:List UInt8) (w:World) (hO:Own [cAt bw 180 [(vL A (xs) c),(.int .i64 0)],cB A (xs) c] w) (hn:n≤16384) (hf:f.length=32) (hx:xs.length≤4293800000) :
  Calls Tryz.prog 243 #[(.agg #[(vI n),(vS f)]),(vP bw 0)] w fun e w'=>∃ (A2:Option Addr) (c2:Nat),e = .returned (.tuple #[])∧Back [cAt bw 180 [(vL A (xs) c),(.int .i64 0)],cB A (xs) c] w [cAt bw 180 [(vL A2 (xs++((num 1++num n)++f)) c2),(.int .i64 0)],cB A2 (xs++((num 1++num n)++f)) c2] w':=by
 refine sE2 Tryz.func243 14 (hO) ?_
 refine stSeq (reg (li rfl (oBx [(vI n),(vS f)] fun b2=>?_)))
 refine liNil (qThen (stSeq (reg (lm ?_))))
 refine li rfl (opK [0,1] _ (fun w hM hO=>(rsWUint_any bw A c xs 1 w hO (by omega) (by omega)).mono ?_))
 rintro e w' ⟨A25,c25,rfl,hP⟩
 refine ⟨_,[_,_],_,rfl,hP,rfl,?_⟩; clear hP hM hO
 have hn1:=num_length 1 (by omega); have hn2:=num_length n (by omega)
 refine liNil (qThen (stSeq (reg (lm ?_))))
 refine lc (vP b2 0) ?_
 refine ll 2 ?_
 refine li rfl (opK [0,1] _ (fun w hM hO=>(rsWCount_any bw A25 c25 (xs++num 1) n w hO (by omega) (by simp only [List.length_append]; omega)).mono ?_))
 rintro e w' ⟨A29,c29,rfl,hP⟩
 refine ⟨_,[_,_],_,rfl,hP,rfl,?_⟩; clear hP hM hO
 refine liNil (qThen (reg (lm ?_)))
 refine lc (vP b2 1) ?_
 refine ll 2 ?_
 refine li rfl (opK [0,1] _ (fun w hM hO=>(rsWSum_any bw A29 c29 ((xs++num 1)++num n) f w hO (by assumption) (by simp only [List.length_append]; omega)).mono ?_))
 rintro e w' ⟨A213,c213,rfl,hP⟩
 refine ⟨_,[_,_],_,rfl,hP,rfl,?_⟩; clear hP hM hO
 refine liNil (stEndN [] rfl trivial (fun w hM=>?_))
 refine ⟨A213,c213,rfl,?_⟩
 simp only [← List.append_assoc] at hM ⊢
 exact (hM.pick [0,1] rfl rfl)
theorem rsLWrite_any (bw:Nat) (A:Option Addr) (c:Nat) (xs:List UInt8) (A1:Option Addr) (c1:Nat) (l:List (List UInt8)) (w:World) (hO:Own [cAt bw 180 [(vL A (xs) c),(.int .i64 0)],cB A (xs) c] w) (r0:Rf [cAt bw 180 [(vL A (xs) c),(.int .i64 0)],cB A (xs) c] w (fun w=>RowIn w A1 (SS l))) (hl:l.length≤16384) (h32:∀ x∈l,x.length=32) (hx:xs.length≤4293800000) :
  Calls Tryz.prog 245 #[(.agg #[(vL A1 l c1)]),(vP bw 0)] w fun e w'=>∃ (A2:Option Addr) (c2:Nat),e = .returned (.tuple #[])∧Back [cAt bw 180 [(vL A (xs) c),(.int .i64 0)],cB A (xs) c] w [cAt bw 180 [(vL A2 (xs++(num 2++(num l.length++l.flatten))) c2),(.int .i64 0)],cB A2 (xs++(num 2++(num l.length++l.flatten))) c2] w':=by
 refine sE2 Tryz.func245 10 (hO) ?_
 refine stSeq (reg (li rfl (oBx [(vL A1 l c1)] fun b2=>?_)))
 refine liNil (qThen (stSeq (reg (lm ?_))))
 refine li rfl (opK [0,1] _ (fun w hM hO=>(rsWUint_any bw A c xs 2 w hO (by omega) (by omega)).mono ?_))
 rintro e w' ⟨A25,c25,rfl,hP⟩
 refine ⟨_,[_,_],_,rfl,hP,rfl,?_⟩; clear hP hM hO
 have hn1:=num_length 2 (by omega)
 refine liNil (qThen (reg (lm ?_)))
 refine lc (vP b2 0) ?_
 refine ll 2 ?_
 refine li rfl (opK [0,1] _ (fun w hM hO=>(rsWItems_any bw A25 c25 (xs++num 2) A1 c1 l w hO (r0.goS hM [0,1]) (by omega) (by assumption) (by simp only [List.length_append]; omega)).mono ?_))
 rintro e w' ⟨A29,c29,rfl,hP⟩
 refine ⟨_,[_,_],_,rfl,hP,rfl,?_⟩; clear hP hM hO
 refine liNil (stEndN [] rfl trivial (fun w hM=>?_))
 refine ⟨A29,c29,rfl,?_⟩
 simp only [← List.append_assoc] at hM ⊢
 exact (hM.pick [0,1] rfl rfl)
theorem rsAWrite_any (bw:Nat) (A:Option Addr) (c:Nat) (xs:List UInt8) (A1:Option Addr) (c1:Nat) (l:List (List UInt8)) (A3:Option Addr) (c3:Nat) (m:List (List UInt8)) (w:World) (hO:Own [cAt bw 180 [(vL A (xs) c),(.int .i64 0)],cB A (xs) c] w) (r0:Rf [cAt bw 180 [(vL A (xs) c),(.int .i64 0)],cB A (xs) c] w (fun w=>RowIn w A1 (SS l))) (r1:Rf [cAt bw 180 [(vL A (xs) c),(.int .i64 0)],cB A (xs) c] w (fun w=>RowIn w A3 (SS m))) (hl:l.length≤16384) (h32:∀ x∈l,x.length=32) (hm:m.length≤16384) (hm32:∀ x∈m,x.length=32) (hx:xs.length≤4293800000) :
  Calls Tryz.prog 250 #[(.agg #[(vL A1 l c1),(vL A3 m c3)]),(vP bw 0)] w fun e w'=>∃ (A2:Option Addr) (c2:Nat),e = .returned (.tuple #[])∧Back [cAt bw 180 [(vL A (xs) c),(.int .i64 0)],cB A (xs) c] w [cAt bw 180 [(vL A2 (xs++((num 3++(num l.length++l.flatten))++(num m.length++m.flatten))) c2),(.int .i64 0)],cB A2 (xs++((num 3++(num l.length++l.flatten))++(num m.length++m.flatten))) c2] w':=by
 refine sE2 Tryz.func250 14 (hO) ?_
 refine stSeq (reg (li rfl (oBx [(vL A1 l c1),(vL A3 m c3)] fun b2=>?_)))
 refine liNil (qThen (stSeq (reg (lm ?_))))
 refine li rfl (opK [0,1] _ (fun w hM hO=>(rsWUint_any bw A c xs 3 w hO (by omega) (by omega)).mono ?_))
 rintro e w' ⟨A25,c25,rfl,hP⟩
 refine ⟨_,[_,_],_,rfl,hP,rfl,?_⟩; clear hP hM hO
 have hn1:=num_length 3 (by omega); have hn2:=num_length l.length (by omega); have hfl:=flat32 l h32
 refine liNil (qThen (stSeq (reg (lm ?_))))
 refine lc (vP b2 0) ?_
 refine ll 2 ?_
 refine li rfl (opK [0,1] _ (fun w hM hO=>(rsWItems_any bw A25 c25 (xs++num 3) A1 c1 l w hO (r0.goS hM [0,1]) (by omega) (by assumption) (by simp only [List.length_append]; omega)).mono ?_))
 rintro e w' ⟨A29,c29,rfl,hP⟩
 refine ⟨_,[_,_],_,rfl,hP,rfl,?_⟩; clear hP hM hO
 refine liNil (qThen (reg (lm ?_)))
 refine lc (vP b2 1) ?_
 refine ll 2 ?_
 refine li rfl (opK [0,1] _ (fun w hM hO=>(rsWItems_any bw A29 c29 ((xs++num 3)++(num l.length++l.flatten)) A3 c3 m w hO (r1.goS hM [0,1]) (by omega) (by assumption) (by simp only [List.length_append]; omega)).mono ?_))
 rintro e w' ⟨A213,c213,rfl,hP⟩
 refine ⟨_,[_,_],_,rfl,hP,rfl,?_⟩; clear hP hM hO
 refine liNil (stEndN [] rfl trivial (fun w hM=>?_))
 refine ⟨A213,c213,rfl,?_⟩
 simp only [← List.append_assoc] at hM ⊢
 exact (hM.pick [0,1] rfl rfl)
theorem rsPWrite_any (v:CV) (hfit:v.abs.fit) (bw:Nat) (A:Option Addr) (c:Nat) (xs:List UInt8) (w:World) (hO:Own [cAt bw 180 [(vL A (xs) c),(.int .i64 0)],cB A (xs) c] w) (r:Rf [cAt bw 180 [(vL A (xs) c),(.int .i64 0)],cB A (xs) c] w (fun w=>∀ q∈v.rows,RowIn w q.1 (SS q.2))) (hx:xs.length≤4293800000) :
  Calls Tryz.prog v.wfn #[v.pay,.pointer (some ⟨bw,0,none⟩)] w fun e w'=>∃ (A2:Option Addr) (c2:Nat),e = .returned (.tuple #[])∧Back [cAt bw 180 [(vL A (xs) c),(.int .i64 0)],cB A (xs) c] w [cAt bw 180 [(vL A2 (xs++v.abs.enc) c2),(.int .i64 0)],cB A2 (xs++v.abs.enc) c2] w':=by
 cases v with
 | sum n f=>exact rsSWrite_any bw A c xs n f w hO hfit.1 hfit.2 hx
 | list A1 c1 l=>exact rsLWrite_any bw A c xs A1 c1 l w hO (r.imp fun _ h=>h (A1,l) (by simp [CV.rows])) hfit.1 hfit.2 hx
 | ans A1 c1 l A3 c3 m=>exact rsAWrite_any bw A c xs A1 c1 l A3 c3 m w hO (r.imp fun _ h=>h (A1,l) (by simp [CV.rows])) (r.imp fun _ h=>h (A3,m) (by simp [CV.rows])) hfit.1.1 hfit.1.2 hfit.2.1 hfit.2.2 hx
theorem rsEncode_nil (A1:Option Addr) (c1:Nat) (ps:List PV) (w:World) (h0:ps.length=0) :
  Calls Tryz.prog 181 #[(vL A1 ps c1)] w fun e w'=>e = .returned (.tuple #[(.slice none 0 0),(.int .i64 0)])∧Back [] w [] w':=by
 refine sE1 Tryz.func181 40 (Mm.start w []) ?_
 refine stSeq (reg (la ?_))
 refine la ?_
 refine liNil (qThen (stSeq (stSeq (reg (lm ?_)))))
 refine lc (vI ps.length) ?_
 refine lc (.bool ((((ps.length:Nat):Int):Int) == 0)) ?_
 refine liNil (qThen (stTrueK rfl (by simp [h0]) ?_))
 refine stSeq (reg (la ?_))
 refine la ?_
 refine liNil (qThen (stRet (qThenR (sN [(.slice none 0 0),(.int .i64 0)] fun w hM=>?_))))
 exact ⟨rfl,hM⟩
theorem rsEncode_big (A1:Option Addr) (c1:Nat) (ps:List PV) (w:World) (r0:Rf [] w (fun w=>RowIn w A1 (PS ps))) (r1:Rf [] w (PsOk ps)) (hfit:∀ p∈ps.map PV.abs,p.fit) (hne:ps.length≠0) (hsz:1048576 < (encA (ps.map PV.abs)).length) (hsz2:(encA (ps.map PV.abs)).length≤4293800000) :
  Calls Tryz.prog 181 #[(vL A1 ps c1)] w fun e w'=>e = .returned (.tuple #[(.slice none 0 0),(.int .i64 2)])∧Back [] w [] w':=by
 refine sE1 Tryz.func181 40 (Mm.start w []) ?_
 refine stSeq (reg (la ?_))
 refine la ?_
 refine liNil (qThen (stSeq (stSeq (reg (lm ?_)))))
 refine lc (vI ps.length) ?_
 refine lc (.bool ((((ps.length:Nat):Int):Int) == 0)) ?_
 refine liNil (qThen (stFalseK rfl (by simpa using hne) ?_))
 refine stSkip (qThen (stSeq (reg (li rfl (opK0 (fun w hM=>(rsNewW_any  w ).mono ?_))))))
 rintro e w' ⟨bw10,rfl,hP⟩
 refine ⟨_,_,rfl,hP,?_⟩; clear hP hM
 refine la ?_
 refine liNil (qThen (stSeq ?_))
 have henc:encA (ps.map PV.abs)=num ps.length++(ps.map PV.abs).flatMap AP.enc:=by rw [encA,if_neg (by simpa using hne),List.length_map]
 have hel:(num ps.length).length+((ps.map PV.abs).flatMap AP.enc).length≤4293800000:=by have e:=congrArg List.length henc; rw [List.length_append] at e; omega
 have hpl:ps.length≤((ps.map PV.abs).flatMap AP.enc).length:=by rw [← List.length_map (f:=PV.abs)]; exact enc_ge _
 have hnb:noB.length=0:=rfl
 refine St.mem (fun w hM=>hM.nilOwn 5 1) ?_
 refine reg (lm ?_)
 refine lm ?_
 refine lc (vI ps.length) ?_
 refine li rfl (opK [0,1] _ (fun w hM hO=>(rsWCount_any bw10 none 0 noB ps.length w hO (by omega) (by omega)).mono ?_))
 rintro e w' ⟨A214,c214,rfl,hP⟩
 refine ⟨_,[_,_],_,rfl,hP,rfl,?_⟩; clear hP hM hO
 refine liNil (qThen (stSeq (stSeq (reg (lm ?_)))))
 refine lc (vI ps.length) ?_
 refine lm ?_
 refine liNil (qThen (stBlock (sL (fun (i,AX,cX)=>i≤ps.length) (fun (i,AX,cX)=>ps.length - i) (fun (i,AX,cX)=>[(2,(.slice none 0 0)),(3,(.int .i64 0)),(4,(vP bw10 0)),(15,(vL A1 ps c1)),(16,(vI ps.length)),(17,(vI i))]) (fun (i,AX,cX)=>[cAt bw10 180 [(vL AX (noB++num ps.length++((ps.map PV.abs).take i).flatMap AP.enc) cX),(.int .i64 0)],cB AX (noB++num ps.length++((ps.map PV.abs).take i).flatMap AP.enc) cX]) (0,A214,c214) (Nat.zero_le _) (fun w hM=>by show Mm _ _ [cAt bw10 180 [(vL A214 (noB++num ps.length++((ps.map PV.abs).take 0).flatMap AP.enc) c214),(.int .i64 0)],cB A214 (noB++num ps.length++((ps.map PV.abs).take 0).flatMap AP.enc) c214] w; rw [show noB++num ps.length++((ps.map PV.abs).take 0).flatMap AP.enc=noB++num ps.length from List.append_nil _]; exact hM) ?_)))
 rintro ⟨i,AX,cX⟩ (hok:i≤ps.length)
 dsimp only
 refine stSeq (reg (lc (.bool (decide (((i:Nat):Int) < ((ps.length:Nat):Int)))) ?_))
 refine liNil (qThen (stSeq (stCond rfl (fun hc18=>?_) (fun hc18=>?_))))
 ·have hd18:=of_decide_eq_true hc18
  refine stSkip (qThen (stSeq (stBlock (stSeq (reg ?_)))))
  obtain ⟨x0,hx0⟩:∃ ξ,(ps)[i]?=some ξ:=⟨_,List.getElem?_eq_getElem (by omega)⟩
  refine St.partPtr (fun w hM=>r0.now hM) hx0 (fun p19 q19 hA19 hc19=>?_)
  refine lv (v:=(vP p19 (q19+i*3))) (rIndexRow3 (e:=246) rfl (by kernel_rfl) (by kernel_rfl) rfl rfl hA19 (by omega)) ?_
  refine lv (v:=(.agg #[(vS x0.lo),(vS x0.hi),x0.c.val])) (rLoadA [(vS x0.lo),(vS x0.hi),x0.c.val] rfl rfl (by kernel_rfl) (by kernel_rfl) (hc19)) ?_
  refine li rfl (oAl [(.string ⟨#[]⟩),(.string ⟨#[]⟩),.nilIface] fun b6=>?_)
  refine li rfl (opStoreN 2 [(vS x0.lo),(vS x0.hi),x0.c.val] (vs:=[(vS x0.lo),(vS x0.hi),x0.c.val]) rfl rfl (by kernel_rfl) rfl rfl rfl (by kernel_rfl) rfl (by simp) (PV.one x0) rfl ?_)
  refine liNil (qThen (stSeq ?_))
  have hf0:=hfit _ (List.mem_map_of_mem (List.mem_of_getElem? hx0))
  have hxa:(ps.map PV.abs)[i]?=some x0.abs:=by rw [List.getElem?_map,hx0]; rfl
  have hle:=enc_le hxa
  have hpe:x0.abs.enc.length=(num x0.lo.length).length+x0.lo.length+((num x0.hi.length).length+x0.hi.length)+x0.c.abs.enc.length:=by simp only [AP.enc,PV.abs,List.length_append]
  have hf1:x0.lo.length≤32:=hf0.1
  have hf2:x0.hi.length≤32:=hf0.2.1
  refine reg (lm ?_)
  refine lc (vP b6 0) ?_
  refine lc (vP b6 0) ?_
  refine ll 2 ?_
  refine li rfl (opK [0,1] _ (fun w hM hO=>(rsWText_any bw10 AX cX (noB++num ps.length++((ps.map PV.abs).take i).flatMap AP.enc) x0.lo w hO (by omega) (by simp only [List.length_append]; omega)).mono ?_))
  rintro e w' ⟨A225,c225,rfl,hP⟩
  refine ⟨_,[_,_],_,rfl,hP,rfl,?_⟩; clear hP hM hO
  refine liNil (qThen (stSeq (reg (lm ?_))))
  refine lc (vP b6 0) ?_
  refine lc (vP b6 1) ?_
  refine ll 2 ?_
  refine li rfl (opK [0,1] _ (fun w hM hO=>(rsWText_any bw10 A225 c225 ((noB++num ps.length++((ps.map PV.abs).take i).flatMap AP.enc)++num x0.lo.length++x0.lo) x0.hi w hO (by omega) (by simp only [List.length_append]; omega)).mono ?_))
  rintro e w' ⟨A230,c230,rfl,hP⟩
  refine ⟨_,[_,_],_,rfl,hP,rfl,?_⟩; clear hP hM hO
  refine liNil (qThen ?_)
  dsimp only [setAll,List.set,List.cons_append,List.nil_append]
  refine reg (lc (vP b6 2) ?_)
  refine ll 2 ?_
  refine lm ?_
  refine li rfl (opK [0,1] [cAt bw10 180 [(vL A230 (((noB++num ps.length++((ps.map PV.abs).take i).flatMap AP.enc)++num x0.lo.length++x0.lo)++num x0.hi.length++x0.hi) c230),(.int .i64 0)],cB A230 (((noB++num ps.length++((ps.map PV.abs).take i).flatMap AP.enc)++num x0.lo.length++x0.lo)++num x0.hi.length++x0.hi) c230] (fun w hM hO=>(rsPWrite_any x0.c hf0.2.2 bw10 A230 c230 (((noB++num ps.length++((ps.map PV.abs).take i).flatMap AP.enc)++num x0.lo.length++x0.lo)++num x0.hi.length++x0.hi) w hO ((r1.goS hM [0,1]).imp fun _ h=>h x0 (List.mem_of_getElem? hx0)) (by simp only [List.length_append]; omega)).mono ?_) rfl rfl rfl (by kernel_rfl) (hrWrite rfl rfl rfl))
  rintro e w' ⟨A34,c34,rfl,hP⟩
  refine ⟨_,[_,_],_,rfl,hP,rfl,?_⟩; clear hP hM hO
  refine liNil (qBlock (qThen (reg ?_)))
  refine lv (v:=(vI (i+1))) rAd ?_
  refine lm ?_
  refine liNil (qThen ?_)
  rw [show (((noB++num ps.length++((ps.map PV.abs).take i).flatMap AP.enc)++num x0.lo.length++x0.lo)++num x0.hi.length++x0.hi)++x0.c.abs.enc=noB++num ps.length++((ps.map PV.abs).take (i+1)).flatMap AP.enc from by rw [← enc_step hxa]; simp only [AP.enc,PV.abs,List.append_assoc]]
  exact sA (i+1,A34,c34) (by show _≤_; omega) (by show ps.length - (i+1) < ps.length - i; omega) (fun w hM=>(hM.pick [0,1] rfl rfl))
 ·have hd18:=of_decide_eq_false hc18
  obtain rfl:i=ps.length:=by omega
  rw [show (ps.map PV.abs).take ps.length=ps.map PV.abs from by rw [← List.length_map (f:=PV.abs),List.take_length]]
  refine stExit (qThenX (qThenX (qBlockX (qThen (stSeq ?_)))))
  have hxe:noB++num ps.length++(ps.map PV.abs).flatMap AP.enc=encA (ps.map PV.abs):=by rw [henc]; rfl
  rw [hxe]
  refine reg (lm ?_)
  refine li rfl (opK [0,1] _ (fun w hM hO=>(rsDone_big bw10 AX cX (encA (ps.map PV.abs)) w hO (by assumption)).mono ?_))
  rintro e w' ⟨rfl,hP⟩
  refine ⟨_,[_,_],_,rfl,hP,rfl,?_⟩; clear hP hM hO
  refine lc (.slice none 0 0) ?_
  refine lc (.int .i64 2) ?_
  refine la ?_
  refine la ?_
  refine liNil (qThen (stRet (sN [(.slice none 0 0),(.int .i64 2)] fun w hM=>?_)))
  exact ⟨rfl,(hM.pick [] rfl rfl)⟩
theorem rsEncode_ok (A1:Option Addr) (c1:Nat) (ps:List PV) (w:World) (r0:Rf [] w (fun w=>RowIn w A1 (PS ps))) (r1:Rf [] w (PsOk ps)) (hfit:∀ p∈ps.map PV.abs,p.fit) (hne:ps.length≠0) (hsz:(encA (ps.map PV.abs)).length≤1048576) :
  Calls Tryz.prog 181 #[(vL A1 ps c1)] w fun e w'=>∃ (B:Option Addr) (cb:Nat),e = .returned (.tuple #[(vL B (encA (ps.map PV.abs)) cb),(.int .i64 0)])∧Back [] w [cB B (encA (ps.map PV.abs)) cb] w':=by
 refine sE1 Tryz.func181 40 (Mm.start w []) ?_
 refine stSeq (reg (la ?_))
 refine la ?_
 refine liNil (qThen (stSeq (stSeq (reg (lm ?_)))))
 refine lc (vI ps.length) ?_
 refine lc (.bool ((((ps.length:Nat):Int):Int) == 0)) ?_
 refine liNil (qThen (stFalseK rfl (by simpa using hne) ?_))
 refine stSkip (qThen (stSeq (reg (li rfl (opK0 (fun w hM=>(rsNewW_any  w ).mono ?_))))))
 rintro e w' ⟨bw10,rfl,hP⟩
 refine ⟨_,_,rfl,hP,?_⟩; clear hP hM
 refine la ?_
 refine liNil (qThen (stSeq ?_))
 have henc:encA (ps.map PV.abs)=num ps.length++(ps.map PV.abs).flatMap AP.enc:=by rw [encA,if_neg (by simpa using hne),List.length_map]
 have hel:(num ps.length).length+((ps.map PV.abs).flatMap AP.enc).length≤4293800000:=by have e:=congrArg List.length henc; rw [List.length_append] at e; omega
 have hpl:ps.length≤((ps.map PV.abs).flatMap AP.enc).length:=by rw [← List.length_map (f:=PV.abs)]; exact enc_ge _
 have hnb:noB.length=0:=rfl
 refine St.mem (fun w hM=>hM.nilOwn 5 1) ?_
 refine reg (lm ?_)
 refine lm ?_
 refine lc (vI ps.length) ?_
 refine li rfl (opK [0,1] _ (fun w hM hO=>(rsWCount_any bw10 none 0 noB ps.length w hO (by omega) (by omega)).mono ?_))
 rintro e w' ⟨A214,c214,rfl,hP⟩
 refine ⟨_,[_,_],_,rfl,hP,rfl,?_⟩; clear hP hM hO
 refine liNil (qThen (stSeq (stSeq (reg (lm ?_)))))
 refine lc (vI ps.length) ?_
 refine lm ?_
 refine liNil (qThen (stBlock (sL (fun (i,AX,cX)=>i≤ps.length) (fun (i,AX,cX)=>ps.length - i) (fun (i,AX,cX)=>[(2,(.slice none 0 0)),(3,(.int .i64 0)),(4,(vP bw10 0)),(15,(vL A1 ps c1)),(16,(vI ps.length)),(17,(vI i))]) (fun (i,AX,cX)=>[cAt bw10 180 [(vL AX (noB++num ps.length++((ps.map PV.abs).take i).flatMap AP.enc) cX),(.int .i64 0)],cB AX (noB++num ps.length++((ps.map PV.abs).take i).flatMap AP.enc) cX]) (0,A214,c214) (Nat.zero_le _) (fun w hM=>by show Mm _ _ [cAt bw10 180 [(vL A214 (noB++num ps.length++((ps.map PV.abs).take 0).flatMap AP.enc) c214),(.int .i64 0)],cB A214 (noB++num ps.length++((ps.map PV.abs).take 0).flatMap AP.enc) c214] w; rw [show noB++num ps.length++((ps.map PV.abs).take 0).flatMap AP.enc=noB++num ps.length from List.append_nil _]; exact hM) ?_)))
 rintro ⟨i,AX,cX⟩ (hok:i≤ps.length)
 dsimp only
 refine stSeq (reg (lc (.bool (decide (((i:Nat):Int) < ((ps.length:Nat):Int)))) ?_))
 refine liNil (qThen (stSeq (stCond rfl (fun hc18=>?_) (fun hc18=>?_))))
 ·have hd18:=of_decide_eq_true hc18
  refine stSkip (qThen (stSeq (stBlock (stSeq (reg ?_)))))
  obtain ⟨x0,hx0⟩:∃ ξ,(ps)[i]?=some ξ:=⟨_,List.getElem?_eq_getElem (by omega)⟩
  refine St.partPtr (fun w hM=>r0.now hM) hx0 (fun p19 q19 hA19 hc19=>?_)
  refine lv (v:=(vP p19 (q19+i*3))) (rIndexRow3 (e:=246) rfl (by kernel_rfl) (by kernel_rfl) rfl rfl hA19 (by omega)) ?_
  refine lv (v:=(.agg #[(vS x0.lo),(vS x0.hi),x0.c.val])) (rLoadA [(vS x0.lo),(vS x0.hi),x0.c.val] rfl rfl (by kernel_rfl) (by kernel_rfl) (hc19)) ?_
  refine li rfl (oAl [(.string ⟨#[]⟩),(.string ⟨#[]⟩),.nilIface] fun b6=>?_)
  refine li rfl (opStoreN 2 [(vS x0.lo),(vS x0.hi),x0.c.val] (vs:=[(vS x0.lo),(vS x0.hi),x0.c.val]) rfl rfl (by kernel_rfl) rfl rfl rfl (by kernel_rfl) rfl (by simp) (PV.one x0) rfl ?_)
  refine liNil (qThen (stSeq ?_))
  have hf0:=hfit _ (List.mem_map_of_mem (List.mem_of_getElem? hx0))
  have hxa:(ps.map PV.abs)[i]?=some x0.abs:=by rw [List.getElem?_map,hx0]; rfl
  have hle:=enc_le hxa
  have hpe:x0.abs.enc.length=(num x0.lo.length).length+x0.lo.length+((num x0.hi.length).length+x0.hi.length)+x0.c.abs.enc.length:=by simp only [AP.enc,PV.abs,List.length_append]
  have hf1:x0.lo.length≤32:=hf0.1
  have hf2:x0.hi.length≤32:=hf0.2.1
  refine reg (lm ?_)
  refine lc (vP b6 0) ?_
  refine lc (vP b6 0) ?_
  refine ll 2 ?_
  refine li rfl (opK [0,1] _ (fun w hM hO=>(rsWText_any bw10 AX cX (noB++num ps.length++((ps.map PV.abs).take i).flatMap AP.enc) x0.lo w hO (by omega) (by simp only [List.length_append]; omega)).mono ?_))
  rintro e w' ⟨A225,c225,rfl,hP⟩
  refine ⟨_,[_,_],_,rfl,hP,rfl,?_⟩; clear hP hM hO
  refine liNil (qThen (stSeq (reg (lm ?_))))
  refine lc (vP b6 0) ?_
  refine lc (vP b6 1) ?_
  refine ll 2 ?_
  refine li rfl (opK [0,1] _ (fun w hM hO=>(rsWText_any bw10 A225 c225 ((noB++num ps.length++((ps.map PV.abs).take i).flatMap AP.enc)++num x0.lo.length++x0.lo) x0.hi w hO (by omega) (by simp only [List.length_append]; omega)).mono ?_))
  rintro e w' ⟨A230,c230,rfl,hP⟩
  refine ⟨_,[_,_],_,rfl,hP,rfl,?_⟩; clear hP hM hO
  refine liNil (qThen ?_)
  dsimp only [setAll,List.set,List.cons_append,List.nil_append]
  refine reg (lc (vP b6 2) ?_)
  refine ll 2 ?_
  refine lm ?_
  refine li rfl (opK [0,1] [cAt bw10 180 [(vL A230 (((noB++num ps.length++((ps.map PV.abs).take i).flatMap AP.enc)++num x0.lo.length++x0.lo)++num x0.hi.length++x0.hi) c230),(.int .i64 0)],cB A230 (((noB++num ps.length++((ps.map PV.abs).take i).flatMap AP.enc)++num x0.lo.length++x0.lo)++num x0.hi.length++x0.hi) c230] (fun w hM hO=>(rsPWrite_any x0.c hf0.2.2 bw10 A230 c230 (((noB++num ps.length++((ps.map PV.abs).take i).flatMap AP.enc)++num x0.lo.length++x0.lo)++num x0.hi.length++x0.hi) w hO ((r1.goS hM [0,1]).imp fun _ h=>h x0 (List.mem_of_getElem? hx0)) (by simp only [List.length_append]; omega)).mono ?_) rfl rfl rfl (by kernel_rfl) (hrWrite rfl rfl rfl))
  rintro e w' ⟨A34,c34,rfl,hP⟩
  refine ⟨_,[_,_],_,rfl,hP,rfl,?_⟩; clear hP hM hO
  refine liNil (qBlock (qThen (reg ?_)))
  refine lv (v:=(vI (i+1))) rAd ?_
  refine lm ?_
  refine liNil (qThen ?_)
  rw [show (((noB++num ps.length++((ps.map PV.abs).take i).flatMap AP.enc)++num x0.lo.length++x0.lo)++num x0.hi.length++x0.hi)++x0.c.abs.enc=noB++num ps.length++((ps.map PV.abs).take (i+1)).flatMap AP.enc from by rw [← enc_step hxa]; simp only [AP.enc,PV.abs,List.append_assoc]]
  exact sA (i+1,A34,c34) (by show _≤_; omega) (by show ps.length - (i+1) < ps.length - i; omega) (fun w hM=>(hM.pick [0,1] rfl rfl))
 ·have hd18:=of_decide_eq_false hc18
  obtain rfl:i=ps.length:=by omega
  rw [show (ps.map PV.abs).take ps.length=ps.map PV.abs from by rw [← List.length_map (f:=PV.abs),List.take_length]]
  refine stExit (qThenX (qThenX (qBlockX (qThen (stSeq ?_)))))
  have hxe:noB++num ps.length++(ps.map PV.abs).flatMap AP.enc=encA (ps.map PV.abs):=by rw [henc]; rfl
  rw [hxe]
  refine reg (lm ?_)
  refine li rfl (opK [0,1] _ (fun w hM hO=>(rsDone_ok bw10 AX cX (encA (ps.map PV.abs)) w hO (by assumption)).mono ?_))
  rintro e w' ⟨A237,c237,rfl,hP⟩
  refine ⟨_,[_,_],_,rfl,hP,rfl,?_⟩; clear hP hM hO
  refine lc (vL A237 (encA (ps.map PV.abs)) c237) ?_
  refine lc (.int .i64 0) ?_
  refine la ?_
  refine la ?_
  refine liNil (qThen (stRet (sN [(vL A237 (encA (ps.map PV.abs)) c237),(.int .i64 0)] fun w hM=>?_)))
  exact ⟨A237,c237,rfl,(hM.pick [2] rfl rfl)⟩
section
theorem bs_lt_le {a b c:Bs} (h:a < b) (k:¬ c < b):a < c:=by
 by_cases e:b=c
 ·rw [← e]; exact h
 ·exact b_lt_trans h (b_lt_or k (fun h=>e h.symm))
theorem bs_le_lt {a b c:Bs} (h:¬ b < a) (k:b < c):a < c:=by
 by_cases e:a=b
 ·rw [e]; exact k
 ·exact b_lt_trans (b_lt_or h (fun h=>e h.symm)) k
theorem bs_le_le {a b c:Bs} (h:¬ b < a) (k:¬ c < b):¬ c < a:=fun hh=>h (bs_le_lt k hh)
theorem bs_le_of {a b:Bs} (h:a < b):¬ b < a:=fun k=>b_lt_irrefl (b_lt_trans h k)
theorem nil_le (a:Bs):¬ a < []:=List.not_lt_nil a
theorem nil_lt {a:Bs} (h:a≠[]):[] < a:=b_lt_or (nil_le a) h
/-! ### Ranges -/
theorem inR_iff {lo hi x : Bs} : inR lo hi x = true ↔ ¬ x < lo ∧ (hi = [] ∨ x < hi) := by
 unfold inR
 rw [Bool.and_eq_true, Bool.or_eq_true, Bool.or_eq_true, decide_eq_true_eq, decide_eq_true_eq, decide_eq_true_eq, decide_eq_true_eq]
 constructor
 ·rintro ⟨h, k⟩
  refine ⟨?_, k⟩
  rcases h with h | h
  ·exact bs_le_of h
  ·rw [h]; exact b_lt_irrefl
 ·rintro ⟨h, k⟩
  refine ⟨?_, k⟩
  by_cases e : lo = x
  ·exact .inr e
  ·exact .inl (b_lt_or h (fun h => e h.symm))
theorem inR_false {lo hi x:Bs}:inR lo hi x=false↔x < lo∨(hi≠[]∧¬ x < hi):=by
 rw [← Bool.not_eq_true,inR_iff]
 constructor
 ·intro h
  by_cases h1:x < lo
  ·exact .inl h1
  ·refine .inr ⟨fun e=>h ⟨h1,.inl e⟩,fun e=>h ⟨h1,.inr e⟩⟩
 ·rintro (h | ⟨h1,h2⟩) ⟨k1,k2⟩
  ·exact k1 h
  ·exact k2.elim h1 h2
theorem mem_inL {l:List Bs} {lo hi x:Bs}:x∈inL l lo hi↔x∈l∧inR lo hi x=true:=List.mem_filter
theorem mem_without {l m:List Bs} {x:Bs}:x∈without l m↔x∈l∧x∉m:=by
 unfold without
 rw [List.mem_filter]
 simp
theorem mem_keepIn {l m:List Bs} {x:Bs}:x∈keepIn l m↔x∈l∧x∈m:=by
 unfold keepIn
 rw [List.mem_filter]
 simp
def Sub (lo hi a b : Bs) : Prop := ¬ a < lo ∧ (hi = [] ∨ (b ≠ [] ∧ ¬ hi < b))
theorem Sub.refl (lo hi:Bs):Sub lo hi lo hi:=by
 refine ⟨b_lt_irrefl,?_⟩
 by_cases h:hi=[]
 ·exact .inl h
 ·exact .inr ⟨h,b_lt_irrefl⟩
theorem Sub.inR {lo hi a b x:Bs} (h:Sub lo hi a b) (k:inR a b x=true):inR lo hi x=true:=by
 rw [inR_iff] at k ⊢
 refine ⟨bs_le_le h.1 k.1,?_⟩
 rcases h.2 with h2 | ⟨h2,h3⟩
 ·exact .inl h2
 ·rcases k.2 with k2 | k2
  ·exact absurd k2 h2
  ·exact .inr (bs_lt_le k2 h3)
theorem Sub.inL {lo hi a b:Bs} (h:Sub lo hi a b) (l:List Bs):inL (Go.Proofs.YtdflaaiondmjdaaGreatDoor.inL l lo hi) a b=Go.Proofs.YtdflaaiondmjdaaGreatDoor.inL l a b:=by
 unfold Go.Proofs.YtdflaaiondmjdaaGreatDoor.inL
 rw [List.filter_filter]
 apply List.filter_congr
 intro x _
 cases hx:Go.Proofs.YtdflaaiondmjdaaGreatDoor.inR a b x with
 | false=>simp
 | true=>simp [h.inR hx]
abbrev cnt (l : List Bs) (lo hi : Bs) : Nat := (inL l lo hi).length
theorem inL_all (l:List Bs):inL l [] []=l:=by
 unfold inL
 rw [List.filter_eq_self]
 intro x _
 rw [inR_iff]
 exact ⟨nil_le x,.inl rfl⟩
theorem cnt_split {lo c hi:Bs} (h1:¬ c < lo) (h2:c≠[]) (h3:hi=[]∨¬ hi < c):∀ l:List Bs,cnt l lo c+cnt l c hi=cnt l lo hi
 | []=>rfl
 | x::l=>by
   have ih:=cnt_split h1 h2 h3 l
   unfold cnt inL at ih ⊢
   rw [List.filter_cons,List.filter_cons,List.filter_cons]
   by_cases hx:x < c
   ·have e1:inR c hi x=false:=inR_false.2 (.inl hx)
    have e2:inR lo hi x=inR lo c x:=by
     rw [Bool.eq_iff_iff,inR_iff,inR_iff]
     constructor
     ·rintro ⟨a,_⟩; exact ⟨a,.inr hx⟩
     ·rintro ⟨a,_⟩; exact ⟨a,h3.elim .inl fun h=>.inr (bs_lt_le hx h)⟩
    rw [e1,e2]
    cases inR lo c x <;> simp <;> omega
   ·have e1:inR lo c x=false:=inR_false.2 (.inr ⟨h2,hx⟩)
    have e2:inR lo hi x=inR c hi x:=by
     rw [Bool.eq_iff_iff,inR_iff,inR_iff]
     constructor
     ·rintro ⟨_,a⟩; exact ⟨hx,a⟩
     ·rintro ⟨_,a⟩; exact ⟨bs_le_le h1 hx,a⟩
    rw [e1,e2]
    cases inR c hi x <;> simp <;> omega
/-! ### Ascending lists -/
abbrev Asc (l : List Bs) : Prop := l.Pairwise (· < ·)
theorem asc_inL {l:List Bs} (h:Asc l) (lo hi:Bs):Asc (Go.Proofs.YtdflaaiondmjdaaGreatDoor.inL l lo hi):=h.sublist List.filter_sublist
theorem asc_get {l:List Bs} (h:Asc l) {i j:Nat} {x y:Bs} (hx:l[i]?=some x) (hy:l[j]?=some y) (hij:i < j):x < y:=by
 obtain ⟨h1,rfl⟩:=List.getElem?_eq_some_iff.1 hx
 obtain ⟨h2,rfl⟩:=List.getElem?_eq_some_iff.1 hy
 exact List.pairwise_iff_getElem.1 h i j h1 h2 hij
theorem posB_get {l:List Bs} (h:Asc l) {i:Nat} {x:Bs} (hx:l[i]?=some x):posB l x=i:=by
 have hi:=(List.getElem?_eq_some_iff.1 hx).1
 rcases Nat.lt_trichotomy (posB l x) i with h1 | h1 | h1
 ·have hp:posB l x < l.length:=by omega
  have h2:=asc_get h (List.getElem?_eq_getElem hp) hx h1
  have:=(posB_step (Nat.le_refl _) (List.getElem?_eq_getElem hp)).1 h2
  omega
 ·exact h1
 ·have:=(posB_step (Nat.le_of_lt h1) hx).2 h1
  exact (b_lt_irrefl this).elim
theorem posB_zero {l:List Bs} {x:Bs} (h:∀ y∈l,¬ y < x):posB l x=0:=by
 cases l with
 | nil=>rfl
 | cons y l =>
   unfold posB
   rw [List.takeWhile_cons,if_neg (by simpa using h y List.mem_cons_self)]
   rfl
/-! ### The division of a range -/
/-- p comes before q. -/
def Bef (p q : AP) : Prop := p.hi ≠ [] ∧ ¬ q.lo < p.hi
theorem idx_lt {N fan k:Nat} (hk:k < fan) (hN:0 < N):k*N / fan < N:=by
 rw [Nat.div_lt_iff_lt_mul (by omega),Nat.mul_comm N]
 exact Nat.mul_lt_mul_of_pos_right hk hN
theorem idx_step (N fan k:Nat) (hf:0 < fan):(k+1)*N / fan≤k*N / fan+(N+fan - 1) / fan:=by
 have h1:=Nat.div_add_mod (k*N) fan
 have h2:=Nat.div_add_mod (N+fan - 1) fan
 have h3:=Nat.mod_lt (k*N) hf
 have h4:=Nat.mod_lt (N+fan - 1) hf
 rw [← Nat.lt_succ_iff,Nat.div_lt_iff_lt_mul hf]
 generalize k*N / fan=a at *
 generalize (N+fan - 1) / fan=b at *
 rw [Nat.add_mul,Nat.one_mul,Nat.succ_mul,Nat.add_mul,Nat.mul_comm a fan,Nat.mul_comm b fan]
 omega
theorem idx_mono (N fan k:Nat):k*N / fan≤(k+1)*N / fan:=Nat.div_le_div_right (Nat.mul_le_mul_right _ (by omega))
section
variable {its : List Bs} {lo hi : Bs} {fan : Nat}
theorem own_mid (hs:Asc its) {own:List Bs} (ho:own=inL its lo hi) {p q:Nat} {x y:Bs} (hx:own[p]?=some x) (hy:own[q]?=some y) (hne:y≠[]):inL its x y=(own.take q).drop p:=by
 have hA:Asc own:=by rw [ho]; exact asc_inL hs lo hi
 have hx':x∈own:=List.mem_of_getElem? hx
 have hy':y∈own:=List.mem_of_getElem? hy
 have hxr:inR lo hi x=true:=by rw [ho] at hx'; exact (mem_inL.1 hx').2
 have hyr:inR lo hi y=true:=by rw [ho] at hy'; exact (mem_inL.1 hy').2
 have hsub:Sub lo hi x y:=⟨(inR_iff.1 hxr).1,by
  rcases (inR_iff.1 hyr).2 with h | h
  ·exact .inl h
  ·exact .inr ⟨hne,bs_le_of h⟩⟩
 rw [← hsub.inL its,← ho,← inL_part hA x y,if_neg hne,posB_get hA hx,posB_get hA hy]
 rcases Nat.le_total p q with h | h
 ·rw [Nat.max_eq_right h]
 ·rw [Nat.max_eq_left h,List.drop_eq_nil_of_le (by rw [List.length_take]; omega),List.drop_eq_nil_of_le (by rw [List.length_take]; omega)]
theorem own_first (hs:Asc its) {own:List Bs} (ho:own=inL its lo hi) {q:Nat} {y:Bs} (hy:own[q]?=some y) (hne:y≠[]):inL its lo y=own.take q:=by
 have hA:Asc own:=by rw [ho]; exact asc_inL hs lo hi
 have hy':y∈own:=List.mem_of_getElem? hy
 have hyr:inR lo hi y=true:=by rw [ho] at hy'; exact (mem_inL.1 hy').2
 have hsub:Sub lo hi lo y:=⟨b_lt_irrefl,by
  rcases (inR_iff.1 hyr).2 with h | h
  ·exact .inl h
  ·exact .inr ⟨hne,bs_le_of h⟩⟩
 have h0:posB own lo=0:=posB_zero fun z hz=>by rw [ho] at hz; exact (inR_iff.1 (mem_inL.1 hz).2).1
 rw [← hsub.inL its,← ho,← inL_part hA lo y,if_neg hne,h0,posB_get hA hy,Nat.max_eq_right (Nat.zero_le _),List.drop_zero]
theorem own_last (hs:Asc its) {own:List Bs} (ho:own=inL its lo hi) {p:Nat} {x:Bs} (hx:own[p]?=some x):inL its x hi=own.drop p:=by
 have hA:Asc own:=by rw [ho]; exact asc_inL hs lo hi
 have hx':x∈own:=List.mem_of_getElem? hx
 have hxr:inR lo hi x=true:=by rw [ho] at hx'; exact (mem_inL.1 hx').2
 have hsub:Sub lo hi x hi:=⟨(inR_iff.1 hxr).1,(Sub.refl lo hi).2⟩
 rw [← hsub.inL its,← ho]
 have hle:=posB_le own x
 have hpl:=(List.getElem?_eq_some_iff.1 hx).1
 have hH:hi=[]∨posB own hi=own.length:=by
  by_cases h:hi=[]
  ·exact .inl h
  ·refine .inr ?_
   rcases Nat.lt_or_ge (posB own hi) own.length with h1 | h1
   ·have hz:=List.mem_of_getElem? (List.getElem?_eq_getElem h1)
    have hz2:own[posB own hi]∈inL its lo hi:=by rw [← ho]; exact hz
    have:=(inR_iff.1 (mem_inL.1 hz2).2).2.resolve_left h
    have:=(posB_step (Nat.le_refl _) (List.getElem?_eq_getElem h1)).1 this
    omega
   ·have:=posB_le own hi; omega
 rw [← inL_part hA x hi,posB_get hA hx]
 have e:(if hi=[] then own.length else posB own hi)=own.length:=by
  rcases hH with h | h
  ·rw [if_pos h]
  ·rw [h]; simp
 rw [e,Nat.max_eq_right (by omega),List.take_length]
structure Div (its : List Bs) (lo hi : Bs) (own : List Bs) (fan k : Nat) (C : Bs) (D : List AP) : Prop where
 cur : (k = 0 ∧ C = lo) ∨ (0 < k ∧ own[k * own.length / fan]? = some C)
 ge : ¬ C < lo
 part : ∀ p ∈ D, p = sumA its p.lo p.hi ∧ p.lo < p.hi ∧ ¬ p.lo < lo ∧ ¬ C < p.hi ∧ (p.lo = lo ∨ p.lo ∈ own) ∧ p.hi ∈ own ∧ cnt its p.lo p.hi ≤ (own.length + fan - 1) / fan
 bef : D.Pairwise Bef
 cover : ∀ x, ¬ x < lo → x < C → ∃ p ∈ D, inR p.lo p.hi x = true
 sum : ∀ l : List Bs, (D.map fun p => cnt l p.lo p.hi).sum = if C = lo then 0 else cnt l lo C
 len : D.length ≤ (if k = 0 then 0 else k * own.length / fan + 1) ∧ D.length ≤ k
theorem div_ok (hs:okSet its) {own:List Bs} (ho:own=inL its lo hi) (hN:0 < own.length) (hf:2≤fan):∀ k,k < fan→Div its lo hi own fan k (divTo its own fan lo k).1 (divTo its own fan lo k).2
 | 0,_=>⟨.inl ⟨rfl,rfl⟩,b_lt_irrefl,(fun p hp=>by cases hp),List.Pairwise.nil,fun x h1 h2=>(h1 h2).elim,(fun l=>by rw [divTo,if_pos rfl]; rfl),by simp [divTo]⟩
 | k+1,hk=>by
   have ih:=div_ok hs ho hN hf k (by omega)
   have hA:Asc own:=by rw [ho]; exact asc_inL hs.2 lo hi
   have hi1:=idx_lt hk hN
   obtain ⟨B,hB⟩:∃ B,own[(k+1)*own.length / fan]?=some B:=⟨_,List.getElem?_eq_getElem hi1⟩
   have hBe:own.getD ((k+1)*own.length / fan) []=B:=by rw [List.getD_eq_getElem?_getD,hB]; rfl
   have hBm:B∈own:=List.mem_of_getElem? hB
   have hB2:B∈inL its lo hi:=by rw [← ho]; exact hBm
   have hBl:B.length=32:=hs.1 B (mem_inL.1 hB2).1
   have hBn:B≠[]:=by intro e; rw [e] at hBl; cases hBl
   have hBr:=inR_iff.1 (mem_inL.1 hB2).2
   rw [divTo,hBe]
   generalize divTo its own fan lo k=z at ih ⊢
   obtain ⟨C,D⟩:=z
   dsimp only at ih ⊢
   by_cases hBC:B=C
   ·rw [if_pos hBC]
    dsimp only
    subst hBC
    refine ⟨.inr ⟨by omega,hB⟩,ih.ge,ih.part,ih.bef,ih.cover,ih.sum,?_,by have:=ih.len.2; omega⟩
    have h1:=ih.len.1
    have h2:=idx_mono own.length fan k
    rw [if_neg (by omega)]
    generalize (k+1)*own.length / fan=u at *
    generalize k*own.length / fan=v at *
    split at h1 <;> omega
   ·rw [if_neg hBC]
    dsimp only
    -- C comes before B
    have hCB:C < B:=by
     rcases ih.cur with ⟨_,rfl⟩ | ⟨h0,hC⟩
     ·exact b_lt_or hBr.1 hBC
     ·refine asc_get hA hC hB ?_
      have h2:=idx_mono own.length fan k
      rcases Nat.lt_or_ge (k*own.length / fan) ((k+1)*own.length / fan) with h | h
      ·exact h
      ·exfalso
       have e:k*own.length / fan=(k+1)*own.length / fan:=by omega
       rw [e,hB] at hC
       injection hC with hC
       exact hBC hC
    have hlt:0 < k→k*own.length / fan < (k+1)*own.length / fan:=fun h0=>by
     rcases ih.cur with ⟨h,_⟩ | ⟨_,hC⟩
     ·omega
     ·rcases Nat.lt_or_ge (k*own.length / fan) ((k+1)*own.length / fan) with h | h
      ·exact h
      ·exfalso
       have e:k*own.length / fan=(k+1)*own.length / fan:=by have:=idx_mono own.length fan k; omega
       rw [e,hB] at hC
       injection hC with hC
       exact hBC hC
    have hlo:¬ B < lo:=hBr.1
    refine ⟨.inr ⟨by omega,hB⟩,hlo,?_,?_,?_,?_,?_,?_⟩
    ·intro p hp
     rcases List.mem_append.1 hp with hp | hp
     ·obtain ⟨a,b,c,d,e,f,g⟩:=ih.part p hp
      exact ⟨a,b,c,bs_le_le d (bs_le_of hCB),e,f,g⟩
     ·rw [List.mem_singleton.1 hp]
      refine ⟨rfl,hCB,ih.ge,b_lt_irrefl,?_,hBm,?_⟩
      ·rcases ih.cur with ⟨_,rfl⟩ | ⟨_,hC⟩
       ·exact .inl rfl
       ·exact .inr (List.mem_of_getElem? hC)
      ·show (inL its C B).length≤_
       have hst:=idx_step own.length fan k (by omega)
       rcases ih.cur with ⟨h0,rfl⟩ | ⟨_,hC⟩
       ·subst h0
        rw [own_first hs.2 ho hB hBn,List.length_take]
        simp only [Nat.zero_mul,Nat.zero_div,Nat.zero_add] at hst ⊢
        omega
       ·rw [own_mid hs.2 ho hC hB hBn,List.length_drop,List.length_take]
        omega
    ·rw [List.pairwise_append]
     refine ⟨ih.bef,List.pairwise_singleton _ _,fun p hp q hq=>?_⟩
     rw [List.mem_singleton.1 hq]
     obtain ⟨_,hb,_,hd,_,hf',_⟩:=ih.part p hp
     exact ⟨fun e=>nil_le p.lo (by rw [← e]; exact hb),hd⟩
    ·intro x h1 h2
     by_cases hx:x < C
     ·obtain ⟨p,hp,hr⟩:=ih.cover x h1 hx
      exact ⟨p,List.mem_append_left _ hp,hr⟩
     ·exact ⟨sumA its C B,List.mem_append_right _ (by simp),inR_iff.2 ⟨hx,.inr h2⟩⟩
    ·intro l
     rw [List.map_append,List.sum_append,ih.sum l]
     simp only [List.map_cons,List.map_nil,List.sum_cons,List.sum_nil,Nat.add_zero]
     have e:¬ B=lo:=fun e=>ih.ge (by rw [← e]; exact hCB)
     rw [if_neg e]
     by_cases hC:C=lo
     ·rw [if_pos hC,hC,Nat.zero_add]; rfl
     ·rw [if_neg hC]
      have hCn:C≠[]:=fun e2=>by
       have:=ih.ge
       rw [e2] at this
       have e3:lo=[]:=by
        by_cases h:lo=[]
        ·exact h
        ·exact (this (nil_lt h)).elim
       exact hC (e2.trans e3.symm)
      exact cnt_split ih.ge hCn (.inr (bs_le_of hCB)) l
    ·rw [List.length_append,List.length_singleton,if_neg (by omega)]
     have h1:=ih.len.1
     by_cases h0:k=0
     ·rw [if_pos h0] at h1
      generalize (k+1)*own.length / fan=u at *
      omega
     ·rw [if_neg h0] at h1
      have:=hlt (by omega)
      generalize (k+1)*own.length / fan=u at *
      generalize k*own.length / fan=v at *
      omega
    ·rw [List.length_append,List.length_singleton]
     have:=ih.len.2
     omega
def dividA (its : List Bs) (fan : Nat) (lo hi : Bs) : List AP := (divTo its (inL its lo hi) fan lo (fan - 1)).2 ++ [sumA its (divTo its (inL its lo hi) fan lo (fan - 1)).1 hi]
structure Divided (its : List Bs) (lo hi : Bs) (fan : Nat) (D : List AP) : Prop where
 part : ∀ p ∈ D, p = sumA its p.lo p.hi ∧ spanOk p.lo p.hi = true ∧ Sub lo hi p.lo p.hi ∧ (p.lo = lo ∨ p.lo ∈ its) ∧ (p.hi = hi ∨ p.hi ∈ its) ∧ cnt its p.lo p.hi ≤ (cnt its lo hi + fan - 1) / fan
 bef : D.Pairwise Bef
 cover : ∀ x, inR lo hi x = true → ∃ p ∈ D, inR p.lo p.hi x = true
 sum : ∀ l : List Bs, (D.map fun p => cnt l p.lo p.hi).sum = cnt l lo hi
 len : D.length ≤ cnt its lo hi + 1 ∧ D.length ≤ fan
theorem divided_ok (hs:okSet its) (hN:0 < cnt its lo hi) (hf:2≤fan):Divided its lo hi fan (dividA its fan lo hi):=by
 have h:=div_ok (fan:=fan) hs (own:=inL its lo hi) rfl hN hf (fan - 1) (by omega)
 unfold dividA
 have hi1:(fan - 1)*(inL its lo hi).length / fan < (inL its lo hi).length:=idx_lt (by omega) hN
 generalize divTo its (inL its lo hi) fan lo (fan - 1)=z at h ⊢
 obtain ⟨C,D⟩:=z
 dsimp only at h ⊢
 have hC:(inL its lo hi)[(fan - 1)*(inL its lo hi).length / fan]?=some C:=by
  rcases h.cur with ⟨h0,_⟩ | ⟨_,h1⟩
  ·omega
  ·exact h1
 have hCm:C∈inL its lo hi:=List.mem_of_getElem? hC
 have hCr:=inR_iff.1 (mem_inL.1 hCm).2
 have hCl:C.length=32:=hs.1 C (mem_inL.1 hCm).1
 have hCn:C≠[]:=by intro e; rw [e] at hCl; cases hCl
 have hCh:hi=[]∨C < hi:=hCr.2
 refine ⟨?_,?_,?_,?_,?_⟩
 ·intro p hp
  rcases List.mem_append.1 hp with hp | hp
  ·obtain ⟨a,b,c,d,e,f,g⟩:=h.part p hp
   have f2:=mem_inL.1 f
   have hpl:p.hi.length=32:=hs.1 _ f2.1
   have hpn:p.hi≠[]:=by intro e; rw [e] at hpl; cases hpl
   refine ⟨a,?_,⟨c,?_⟩,e.imp id fun h=>(mem_inL.1 h).1,.inr f2.1,g⟩
   ·unfold spanOk; simp [b]
   ·rcases (inR_iff.1 f2.2).2 with h | h
    ·exact .inl h
    ·exact .inr ⟨hpn,bs_le_of h⟩
  ·rw [List.mem_singleton.1 hp]
   refine ⟨rfl,?_,⟨h.ge,(Sub.refl lo hi).2⟩,.inr (mem_inL.1 hCm).1,.inl rfl,?_⟩
   ·unfold spanOk
    rcases hCh with h | h
    ·simp [sumA,h]
    ·simp [sumA,h]
   ·show (inL its C hi).length≤_
    rw [own_last hs.2 rfl hC,List.length_drop]
    have h1:=idx_step (inL its lo hi).length fan (fan - 1) (by omega)
    rw [show fan - 1+1=fan by omega,Nat.mul_div_cancel_left _ (by omega)] at h1
    show _≤((inL its lo hi).length+fan - 1) / fan
    omega
 ·rw [List.pairwise_append]
  refine ⟨h.bef,List.pairwise_singleton _ _,fun p hp q hq=>?_⟩
  rw [List.mem_singleton.1 hq]
  obtain ⟨_,hb,_,hd,_,_,_⟩:=h.part p hp
  exact ⟨fun e=>nil_le p.lo (by rw [← e]; exact hb),hd⟩
 ·intro x hx
  rw [inR_iff] at hx
  by_cases h1:x < C
  ·obtain ⟨p,hp,hr⟩:=h.cover x hx.1 h1
   exact ⟨p,List.mem_append_left _ hp,hr⟩
  ·exact ⟨sumA its C hi,List.mem_append_right _ (by simp),inR_iff.2 ⟨h1,hx.2⟩⟩
 ·intro l
  rw [List.map_append,List.sum_append,h.sum l]
  simp only [List.map_cons,List.map_nil,List.sum_cons,List.sum_nil,Nat.add_zero]
  by_cases e:C=lo
  ·rw [if_pos e,Nat.zero_add,← e]; rfl
  ·rw [if_neg e]
   exact cnt_split h.ge hCn (hCh.imp id bs_le_of) l
 ·rw [List.length_append,List.length_singleton]
  obtain ⟨h1,h2⟩:=h.len
  rw [if_neg (by omega)] at h1
  show _≤(inL its lo hi).length+1∧_
  omega
end
/-! ### A list with further items -/
theorem mem_insB {l : List Bs} {x y : Bs} : y ∈ insB l x ↔ y ∈ l ∨ y = x := by
 unfold insB
 by_cases h : l.contains x = true
 ·rw [if_pos h]
  constructor
  ·exact .inl
  ·rintro (h1 | rfl)
   ·exact h1
   ·simpa using h
 ·rw [if_neg h]
  have e : y ∈ l ↔ y ∈ l.take (posB l x) ∨ y ∈ l.drop (posB l x) := by
   rw [← List.mem_append, List.take_append_drop]
  rw [List.mem_append, List.mem_append, List.mem_singleton, e]
  constructor
  ·rintro ((h1 | h1) | h1)
   ·exact .inl (.inl h1)
   ·exact .inr h1
   ·exact .inl (.inr h1)
  ·rintro ((h1 | h1) | h1)
   ·exact .inl (.inl h1)
   ·exact .inr h1
   ·exact .inl (.inr h1)
theorem insB_asc {l:List Bs} (h:Asc l) (x:Bs):Asc (insB l x):=by
 unfold insB
 by_cases hc:l.contains x=true
 ·rw [if_pos hc]; exact h
 ·rw [if_neg hc]
  have hx:x∉l:=by simpa using hc
  have hd:∀ y∈l.drop (posB l x),x < y:=fun y hy=>b_lt_or (drop_ge' h hy) (fun e=>hx (by rw [← e]; exact List.mem_of_mem_drop hy))
  rw [Asc,List.pairwise_append,List.pairwise_append]
  refine ⟨⟨h.sublist (List.take_sublist _ _),List.pairwise_singleton _ _,?_⟩,h.sublist (List.drop_sublist _ _),?_⟩
  ·intro a ha b hb
   rw [List.mem_singleton.1 hb]
   exact take_lt ha
  ·intro a ha b hb
   rcases List.mem_append.1 ha with ha | ha
   ·exact b_lt_trans (take_lt ha) (hd b hb)
   ·rw [List.mem_singleton.1 ha]; exact hd b hb
theorem withL_asc:∀ (m:List Bs) {l:List Bs},Asc l→Asc (withL l m)
 | [],_,h=>h
 | x::m,_,h=>withL_asc m (insB_asc h x)
theorem mem_withL:∀ (m:List Bs) {l:List Bs} {x:Bs},x∈withL l m↔x∈l∨x∈m
 | [],l,x=>by simp [withL]
 | y::m,l,x=>by
   show x∈withL (insB l y) m↔_
   rw [mem_withL m,mem_insB,List.mem_cons,or_assoc]
theorem withL_asc0 (m:List Bs):Asc (withL [] m):=withL_asc m List.Pairwise.nil
theorem mem_withL0 {m:List Bs} {x:Bs}:x∈withL [] m↔x∈m:=by rw [mem_withL]; simp
end
def repA (its : List Bs) (fan leaf : Nat) (p : AP) : List AP := match p.c with
 | .sum n f => cmpA its fan leaf p.lo p.hi n f
 | .list xs => ansA its p.lo p.hi xs
 | .ans _ _ => []
def needA (its : List Bs) (p : AP) : List Bs := match p.c with
 | .sum _ _ => []
 | .list xs => without xs its
 | .ans xs _ => without xs its
def offA (its : List Bs) (p : AP) : List Bs := match p.c with
 | .sum _ _ => []
 | .list xs => without (inL its p.lo p.hi) xs
 | .ans _ ms => keepIn ms its
structure StepR where
 (reply : Bs) (err : Int) (need off : List Bs)
def replyA (its : List Bs) (fan leaf : Nat) (ps : List AP) : List AP := ps.flatMap (repA its fan leaf)
def stepA (its : List Bs) (fan leaf : Nat) (D : Bs) : StepR :=
 if D = [] then ⟨[], 0, [], []⟩
 else match decA D with
  | none => ⟨[], 3, [], []⟩
  | some ps => if 1048576 < (encA (replyA its fan leaf ps)).length then ⟨[], 2, [], []⟩ else ⟨encA (replyA its fan leaf ps), 0, ps.flatMap (needA its), ps.flatMap (offA its)⟩
theorem flat_step {α β:Type} {g:α→List β} {l:List α} {i:Nat} {x:α} (h:l[i]?=some x):(l.take i).flatMap g++g x=(l.take (i+1)).flatMap g:=by
 rw [← take_snoc h,List.flatMap_append]
 simp
theorem flat_step0 {α β:Type} {g:α→List β} {l:List α} {i:Nat} {x:α} (h:l[i]?=some x) (h0:g x=[]):(l.take i).flatMap g=(l.take (i+1)).flatMap g:=by
 rw [← flat_step h,h0,List.append_nil]
/-! ### Sizes -/
theorem num_one {n : Nat} (h : n < 128) : (num n).length = 1 := by rw [num_small n h]; rfl
theorem inL32 {its:List Bs} (hs:okSet its) (lo hi:Bs):all32 (inL its lo hi):=fun x hx=>hs.1 x (mem_inL.1 hx).1
theorem without32 {l m:List Bs} (h:all32 l):all32 (without l m):=fun x hx=>h x (mem_without.1 hx).1
theorem keepIn32 {l m:List Bs} (h:all32 l):all32 (keepIn l m):=fun x hx=>h x (mem_keepIn.1 hx).1
theorem fpB_len (l:List Bs):(fpB l).length=32:=sha_len _
theorem sumA_ok {its:List Bs} (h40:its.length≤40) {p:AP} (hp:p=sumA its p.lo p.hi) (h1:p.lo.length≤32) (h2:p.hi.length≤32):p.fit∧p.enc.length≤100:=by
 have hl:=inL_len its p.lo p.hi
 have hf:=fpB_len (inL its p.lo p.hi)
 obtain ⟨lo,hi,c⟩:=p
 obtain rfl:c = .sum (inL its lo hi).length (fpB (inL its lo hi)):=congrArg AP.c hp
 dsimp only at h1 h2 hl hf ⊢
 refine ⟨⟨h1,h2,by omega,hf⟩,?_⟩
 simp only [AP.enc,AC.enc,List.length_append,hf]
 have e1:=num_one (n:=lo.length) (by omega)
 have e2:=num_one (n:=hi.length) (by omega)
 have e3:=num_one (n:=1) (by omega)
 have e4:=num_one (n:=(inL its lo hi).length) (by omega)
 omega
theorem bnd_mem {its:List Bs} (hs:okSet its) {a x:Bs} (ha:a.length≤32) (h:x=a∨x∈its):x.length≤32:=by
 rcases h with rfl | h
 ·exact ha
 ·have:=hs.1 x h; omega
theorem flat_enc_le {ps:List AP} {n k:Nat} (h:∀ p∈ps,p.enc.length≤k) (hl:ps.length≤n):(ps.flatMap AP.enc).length≤n*k:=by
 have key:∀ ps:List AP,(∀ p∈ps,p.enc.length≤k)→(ps.flatMap AP.enc).length≤ps.length*k:=by
  intro ps
  induction ps with
  | nil=>intro _; simp
  | cons p ps ih =>
    intro h
    rw [List.flatMap_cons,List.length_append,List.length_cons,Nat.add_mul,Nat.one_mul]
    have h1:=h p (by simp)
    have h2:=ih fun q hq=>h q (by simp [hq])
    omega
 exact Nat.le_trans (key ps h) (Nat.mul_le_mul_right _ hl)
structure RepOk (l : List AP) : Prop where
 fit : ∀ q ∈ l, q.fit
 len : (l.flatMap AP.enc).length ≤ 3500
 cnt : l.length ≤ 17
theorem cmpA_ok {its:List Bs} (hs:okSet its) (h40:its.length≤40) {fan leaf:Nat} (hf:2≤fan) (hf2:fan≤16) (hl:1≤leaf) {lo hi:Bs} (h1:lo.length≤32) (h2:hi.length≤32) (n:Nat) (f:Bs):RepOk (cmpA its fan leaf lo hi n f):=by
 unfold cmpA
 split
 ·exact ⟨by simp,by simp,by simp⟩
 ·split
  ·have hl:=inL_len its lo hi
   have h32:=inL32 hs lo hi
   refine ⟨fun q hq=>?_,?_,by simp⟩
   ·rw [List.mem_singleton.1 hq]
    exact ⟨h1,h2,by omega,h32⟩
   ·have hfl:=flat_len h32
    simp only [List.flatMap_cons,List.flatMap_nil,List.append_nil,AP.enc,AC.enc,List.length_append,hfl]
    have e1:=num_one (n:=lo.length) (by omega)
    have e2:=num_one (n:=hi.length) (by omega)
    have e3:=num_one (n:=2) (by omega)
    have e4:=num_one (n:=(inL its lo hi).length) (by omega)
    omega
  ·have hD:=divided_ok (lo:=lo) (hi:=hi) hs (show 0 < (inL its lo hi).length by omega) hf
   change RepOk (dividA its fan lo hi)
   have hp:∀ q∈dividA its fan lo hi,q.fit∧q.enc.length≤100:=fun q hq=>by
    obtain ⟨a,_,_,b,c,_⟩:=hD.part q hq
    exact sumA_ok h40 a (bnd_mem hs h1 b) (bnd_mem hs h2 c)
   refine ⟨fun q hq=>(hp q hq).1,?_,Nat.le_trans hD.len.2 (by omega)⟩
   exact Nat.le_trans (flat_enc_le (n:=16) (k:=100) (fun q hq=>(hp q hq).2) (Nat.le_trans hD.len.2 hf2)) (by omega)
theorem ansA_ok {its:List Bs} (hs:okSet its) (h40:its.length≤40) {lo hi:Bs} (h1:lo.length≤32) (h2:hi.length≤32) {xs:List Bs} (hx:xs.length≤64) (hx2:all32 xs):RepOk (ansA its lo hi xs):=by
 unfold ansA
 split
 ·have a1:=without_len (inL its lo hi) xs
  have a2:=without_len xs its
  have a3:=inL_len its lo hi
  have b1:=without32 (m:=xs) (inL32 hs lo hi)
  have b2:=without32 (m:=its) hx2
  refine ⟨fun q hq=>?_,?_,by simp⟩
  ·rw [List.mem_singleton.1 hq]
   exact ⟨h1,h2,⟨by omega,b1⟩,by omega,b2⟩
  ·have f1:=flat_len b1
   have f2:=flat_len b2
   simp only [List.flatMap_cons,List.flatMap_nil,List.append_nil,AP.enc,AC.enc,List.length_append,f1,f2]
   have e1:=num_one (n:=lo.length) (by omega)
   have e2:=num_one (n:=hi.length) (by omega)
   have e3:=num_one (n:=3) (by omega)
   have e4:=num_one (n:=(without (inL its lo hi) xs).length) (by omega)
   have e5:=num_one (n:=(without xs its).length) (by omega)
   omega
 ·exact ⟨by simp,by simp,by simp⟩
theorem repA_ok {its:List Bs} (hs:okSet its) (h40:its.length≤40) {fan leaf:Nat} (hf:2≤fan) (hf2:fan≤16) (hl:1≤leaf) {p:AP} (hp:p.ok):RepOk (repA its fan leaf p):=by
 obtain ⟨⟨h1,h2,_⟩,h3⟩:=hp
 have l1:=bound_le h1
 have l2:=bound_le h2
 obtain ⟨lo,hi,c⟩:=p
 cases c with
 | sum n f=>exact cmpA_ok hs h40 hf hf2 hl l1 l2 n f
 | list xs=>exact ansA_ok hs h40 l1 l2 h3.1 h3.2.1
 | ans xs ms=>exact ⟨by simp [repA],by simp [repA],by simp [repA]⟩
theorem replyA_fit {its:List Bs} (hs:okSet its) (h40:its.length≤40) {fan leaf:Nat} (hf:2≤fan) (hf2:fan≤16) (hl:1≤leaf) {ps:List AP} (hp:∀ p∈ps,p.ok):∀ q∈replyA its fan leaf ps,q.fit:=by
 intro q hq
 obtain ⟨p,h1,h2⟩:=List.mem_flatMap.1 hq
 exact (repA_ok hs h40 hf hf2 hl (hp p h1)).fit q h2
theorem replyA_enc {its:List Bs} (hs:okSet its) (h40:its.length≤40) {fan leaf:Nat} (hf:2≤fan) (hf2:fan≤16) (hl:1≤leaf):∀ {ps:List AP},(∀ p∈ps,p.ok)→((replyA its fan leaf ps).flatMap AP.enc).length≤ps.length*3500∧(replyA its fan leaf ps).length≤ps.length*17
 | [],_=>⟨Nat.zero_le _,Nat.zero_le _⟩
 | p::ps,hp=>by
   obtain ⟨i1,i2⟩:=replyA_enc hs h40 hf hf2 hl (ps:=ps) fun q hq=>hp q (by simp [hq])
   have h:=repA_ok hs h40 hf hf2 hl (hp p (by simp))
   have e:replyA its fan leaf (p::ps)=repA its fan leaf p++replyA its fan leaf ps:=List.flatMap_cons
   have h1:=h.len
   have h2:=h.cnt
   rw [e,List.flatMap_append,List.length_append,List.length_append,List.length_cons]
   omega
theorem encA_le (ps:List AP) (h:ps.length < 18446744073709551616):(encA ps).length≤(ps.flatMap AP.enc).length+10:=by
 unfold encA
 split
 ·simp
 ·have h:=num_length _ h
  rw [List.length_append]; omega
theorem needA_len {its:List Bs} {p:AP} (hp:p.ok):(needA its p).length≤16384∧all32 (needA its p):=by
 obtain ⟨_,h3⟩:=hp
 obtain ⟨lo,hi,c⟩:=p
 cases c with
 | sum n f=>exact ⟨Nat.zero_le _,by intro x hx; cases hx⟩
 | list xs=>exact ⟨Nat.le_trans (without_len _ _) (Nat.le_trans h3.1 (by omega)),without32 h3.2.1⟩
 | ans xs ms=>exact ⟨Nat.le_trans (without_len _ _) h3.1.1,without32 h3.1.2.1⟩
theorem offA_len {its:List Bs} (hs:okSet its) (h40:its.length≤40) {p:AP} (hp:p.ok):(offA its p).length≤16384∧all32 (offA its p):=by
 obtain ⟨_,h3⟩:=hp
 obtain ⟨lo,hi,c⟩:=p
 cases c with
 | sum n f=>exact ⟨Nat.zero_le _,by intro x hx; cases hx⟩
 | list xs=>exact ⟨Nat.le_trans (without_len _ _) (Nat.le_trans (inL_len _ _ _) (by omega)),without32 (inL32 hs _ _)⟩
 | ans xs ms=>exact ⟨Nat.le_trans (keepIn_len _ _) h3.2.1,keepIn32 h3.2.2.1⟩
theorem flat32m {α:Type} {g:α→List Bs} {l:List α} (h:∀ p∈l,all32 (g p)):all32 (l.flatMap g):=fun x hx=>by
 obtain ⟨p,h1,h2⟩:=List.mem_flatMap.1 hx
 exact h p h1 x h2
theorem start_ok {its:List Bs} (h40:its.length≤40):(sumA its [] []).fit∧(encA [sumA its [] []]).length≤1048576∧encA [sumA its [] []]≠[]:=by
 obtain ⟨h1,h2⟩:=sumA_ok h40 (p:=sumA its [] []) rfl (by simp [sumA]) (by simp [sumA])
 have hp:=numPos 1
 have ho:=num_one (n:=1) (by omega)
 have e:encA [sumA its [] []]=num 1++(sumA its [] []).enc:=by
  unfold encA
  rw [if_neg (by simp)]
  simp
 refine ⟨h1,?_,?_⟩
 ·rw [e,List.length_append]; omega
 ·intro h
  have:=congrArg List.length (e.symm.trans h)
  rw [List.length_append,List.length_nil] at this
  omega
/-! ### A run: message j goes to b if j is even, to a if it is odd -/
def sideOf (a b : List Bs) (j : Nat) : List Bs := if j % 2 = 0 then b else a
def runM (a b : List Bs) (fan leaf : Nat) : Nat → Bs
 | 0 => encA [sumA a [] []]
 | j + 1 => (stepA (sideOf a b j) fan leaf (runM a b fan leaf j)).reply
def runR (a b : List Bs) (fan leaf j : Nat) : StepR := stepA (sideOf a b j) fan leaf (runM a b fan leaf j)
def runN (a b : List Bs) (fan leaf par : Nat) : Nat → List Bs × List Bs
 | 0 => ([], [])
 | j + 1 => if j % 2 = par then ((runN a b fan leaf par j).1 ++ (runR a b fan leaf j).need, (runN a b fan leaf par j).2 ++ (runR a b fan leaf j).off) else runN a b fan leaf par j
structure RunEnds (a b : List Bs) (fan leaf K : Nat) : Prop where
 go : ∀ j, j < K → runM a b fan leaf j ≠ [] ∧ (runR a b fan leaf j).err = 0
 stop : runM a b fan leaf K = []
 le : K ≤ 30
theorem step_len (its:List Bs) (fan leaf:Nat) (D:Bs):(stepA its fan leaf D).reply.length≤1048576:=by
 unfold stepA
 split
 ·simp
 ·split
  ·simp
  ·split
   ·simp
   ·dsimp only; omega
theorem runM_len {a b:List Bs} (h:a.length≤40) (fan leaf:Nat):∀ j,(runM a b fan leaf j).length≤1048576
 | 0=>(start_ok h).2.1
 | _+1=>step_len _ _ _ _
theorem step_need {its:List Bs} {fan leaf:Nat} {D:Bs} (hD:D.length≤1048576) (hs:okSet its) (h40:its.length≤40):(stepA its fan leaf D).need.length≤17179869184∧(stepA its fan leaf D).off.length≤17179869184:=by
 unfold stepA
 split
 ·simp
 ·split
  ·simp
  ·rename_i ps hd
   split
   ·simp
   ·obtain ⟨_,hm,hl⟩:=decA_sound hd
    have key:∀ (g:AP→List Bs) (l:List AP),(∀ p∈l,(g p).length≤16384)→(l.flatMap g).length≤l.length*16384:=by
     intro g l
     induction l with
     | nil=>intro _; simp
     | cons p l ih =>
       intro h
       rw [List.flatMap_cons,List.length_append,List.length_cons]
       have h1:=h p (by simp)
       have h2:=ih fun q hq=>h q (by simp [hq])
       omega
    have k1:=key (needA its) ps fun p hp=>(needA_len (hm.2.1 p hp)).1
    have k2:=key (offA its) ps fun p hp=>(offA_len hs h40 (hm.2.1 p hp)).1
    dsimp only
    omega
theorem runN_len {a b:List Bs} {fan leaf par:Nat} (ha:okSet a) (hb:okSet b) (ha4:a.length≤40) (hb4:b.length≤40):∀ j,(runN a b fan leaf par j).1.length≤j*17179869184∧(runN a b fan leaf par j).2.length≤j*17179869184
 | 0=>⟨Nat.zero_le _,Nat.zero_le _⟩
 | j+1=>by
   obtain ⟨i1,i2⟩:=runN_len (par:=par) ha hb ha4 hb4 j (fan:=fan) (leaf:=leaf)
   have hM:=runM_len (b:=b) ha4 fan leaf j
   have hn:(runR a b fan leaf j).need.length≤17179869184∧(runR a b fan leaf j).off.length≤17179869184:=by
    unfold runR sideOf
    split
    ·exact step_need hM hb hb4
    ·exact step_need hM ha ha4
   rw [runN]
   split
   ·dsimp only
    rw [List.length_append,List.length_append]
    omega
   ·omega
theorem setB_ok {l:List Bs} (h:setB l=true):okSet l∧l.length≤40:=by
 unfold setB at h
 rw [Bool.and_eq_true,decide_eq_true_eq,decide_eq_true_eq] at h
 exact ⟨(setE_zero h.2).2,h.1⟩
section
abbrev noB2 : List Bs := []
structure StepInv (its : List Bs) (fan leaf : Nat) (A : Option Addr) (pvs : List PV) (i : Nat) (rp : List PV) (nl ol : List Bs) (L : List (Option Addr × List Bs)) : Prop where
 le : i ≤ pvs.length
 rep : rp.map PV.abs = (pvs.take i).flatMap fun p => repA its fan leaf p.abs
 need : nl = (pvs.take i).flatMap fun p => needA its p.abs
 off : ol = (pvs.take i).flatMap fun p => offA its p.abs
 src : SrcOk L A its rp
 len1 : rp.length ≤ i * 17
 len2 : nl.length ≤ i * 16384
 len3 : ol.length ≤ i * 16384
section
variable {its : List Bs} {fan leaf : Nat} {A : Option Addr} {pvs rp ps2 : List PV} {i : Nat} {nl ol : List Bs} {L M : List (Option Addr × List Bs)} {lo hi : Bs}
theorem StepInv.zero:StepInv its fan leaf A pvs 0 [] [] [] []:=⟨Nat.zero_le _,rfl,rfl,rfl,SrcOk.nil,by rw [Nat.zero_mul]; exact Nat.le_refl 0,by rw [Nat.zero_mul]; exact Nat.le_refl 0,by rw [Nat.zero_mul]; exact Nat.le_refl 0⟩
theorem lt_at {α:Type} {l:List α} {i:Nat} {x:α} (h:l[i]?=some x):i+1≤l.length:=(List.getElem?_eq_some_iff.1 h).1
theorem SrcOk.app0 (h:SrcOk L A its rp) (k:SrcOk [] A its ps2):SrcOk L A its (rp++ps2):=by have:=h.append k; rwa [List.append_nil] at this
theorem rep_len {c:CV} (h:ps2.map PV.abs=repA its fan leaf (PV.abs ⟨lo,hi,c⟩)) (hr:RepOk (repA its fan leaf (PV.abs ⟨lo,hi,c⟩))):ps2.length≤17:=by rw [← List.length_map (f:=PV.abs),h]; exact hr.cnt
theorem StepInv.sum (h:StepInv its fan leaf A pvs i rp nl ol L) {n:Nat} {f:Bs} (hx:pvs[i]?=some ⟨lo,hi,.sum n f⟩) (he:ps2.map PV.abs=cmpA its fan leaf lo hi n f) (hs:SrcOk [] A its ps2) (hr:RepOk (repA its fan leaf (PV.abs ⟨lo,hi,.sum n f⟩))):StepInv its fan leaf A pvs (i+1) (rp++ps2) nl ol L:=by
 have hl:=rep_len (c:=.sum n f) he hr
 have h1:=h.len1
 have h2:=h.len2
 have h3:=h.len3
 refine ⟨lt_at hx,?_,h.need.trans (flat_step0 hx rfl),h.off.trans (flat_step0 hx rfl),h.src.app0 hs,?_,Nat.le_trans h2 (Nat.mul_le_mul_right _ (Nat.le_succ i)),Nat.le_trans h3 (Nat.mul_le_mul_right _ (Nat.le_succ i))⟩
 ·rw [List.map_append,h.rep,he]; exact flat_step (g:=fun p=>repA its fan leaf p.abs) hx
 ·rw [List.length_append]; omega
theorem StepInv.list (h:StepInv its fan leaf A pvs i rp nl ol L) {B:Option Addr} {c:Nat} {xs:List Bs} (hx:pvs[i]?=some ⟨lo,hi,.list B c xs⟩) (he:ps2.map PV.abs=ansA its lo hi xs) (hs:SrcOk M A its ps2) (hr:RepOk (repA its fan leaf (PV.abs ⟨lo,hi,.list B c xs⟩))) (hn:(needA its (PV.abs ⟨lo,hi,.list B c xs⟩)).length≤16384∧all32 (needA its (PV.abs ⟨lo,hi,.list B c xs⟩))) (ho:(offA its (PV.abs ⟨lo,hi,.list B c xs⟩)).length≤16384∧all32 (offA its (PV.abs ⟨lo,hi,.list B c xs⟩))) :
  StepInv its fan leaf A pvs (i+1) (rp++ps2) (nl++without xs its) (ol++without (inL its lo hi) xs) (L++M):=by
 have hl:=rep_len (c:=.list B c xs) he hr
 have h1:=h.len1
 have h2:=h.len2
 have h3:=h.len3
 have h4:(without xs its).length≤16384:=hn.1
 have h5:(without (inL its lo hi) xs).length≤16384:=ho.1
 refine ⟨lt_at hx,?_,?_,?_,h.src.append hs,?_,?_,?_⟩
 ·rw [List.map_append,h.rep,he]; exact flat_step (g:=fun p=>repA its fan leaf p.abs) hx
 ·rw [h.need]; exact flat_step (g:=fun p=>needA its p.abs) hx
 ·rw [h.off]; exact flat_step (g:=fun p=>offA its p.abs) hx
 all_goals rw [List.length_append]; omega
theorem StepInv.ans (h:StepInv its fan leaf A pvs i rp nl ol L) {B B2:Option Addr} {c c2:Nat} {xs ms:List Bs} (hx:pvs[i]?=some ⟨lo,hi,.ans B c xs B2 c2 ms⟩) (hn:(needA its (PV.abs ⟨lo,hi,.ans B c xs B2 c2 ms⟩)).length≤16384∧all32 (needA its (PV.abs ⟨lo,hi,.ans B c xs B2 c2 ms⟩))) (ho:(offA its (PV.abs ⟨lo,hi,.ans B c xs B2 c2 ms⟩)).length≤16384∧all32 (offA its (PV.abs ⟨lo,hi,.ans B c xs B2 c2 ms⟩))) :
  StepInv its fan leaf A pvs (i+1) rp (nl++without xs its) (ol++keepIn ms its) L:=by
 have h1:=h.len1
 have h2:=h.len2
 have h3:=h.len3
 have h4:(without xs its).length≤16384:=hn.1
 have h5:(keepIn ms its).length≤16384:=ho.1
 refine ⟨lt_at hx,h.rep.trans (flat_step0 hx rfl),?_,?_,h.src,by omega,?_,?_⟩
 ·rw [h.need]; exact flat_step (g:=fun p=>needA its p.abs) hx
 ·rw [h.off]; exact flat_step (g:=fun p=>offA its p.abs) hx
 all_goals rw [List.length_append]; omega
theorem flat_abs {β:Type} (g:AP→List β) {ps:List AP} (h:pvs.map PV.abs=ps):(pvs.take pvs.length).flatMap (fun p=>g p.abs)=ps.flatMap g:=by rw [← h,List.take_length,List.flatMap_map]
theorem StepInv.endR (h:StepInv its fan leaf A pvs pvs.length rp nl ol L) {ps:List AP} (he:pvs.map PV.abs=ps):rp.map PV.abs=replyA its fan leaf ps:=h.rep.trans (flat_abs _ he)
theorem StepInv.endN (h:StepInv its fan leaf A pvs pvs.length rp nl ol L) {ps:List AP} (he:pvs.map PV.abs=ps):nl=ps.flatMap (needA its):=h.need.trans (flat_abs _ he)
theorem StepInv.endO (h:StepInv its fan leaf A pvs pvs.length rp nl ol L) {ps:List AP} (he:pvs.map PV.abs=ps):ol=ps.flatMap (offA its):=h.off.trans (flat_abs _ he)
end
abbrev noPV : List PV := []
theorem rsEncode_any (A1:Option Addr) (c1:Nat) (ps:List PV) (w:World) (r0:Rf [] w (fun w=>RowIn w A1 (PS ps))) (r1:Rf [] w (PsOk ps)) (hfit:∀ p∈ps.map PV.abs,p.fit) (hsz:(encA (ps.map PV.abs)).length≤1048576) :
  Calls Tryz.prog 181 #[(vL A1 ps c1)] w fun e w'=>∃ (B:Option Addr) (cb:Nat),e = .returned (.tuple #[(vL B (encA (ps.map PV.abs)) cb),(.int .i64 0)])∧Back [] w [cB B (encA (ps.map PV.abs)) cb] w':=by
 by_cases h0:ps.length=0
 ·refine (rsEncode_nil A1 c1 ps w h0).mono ?_
  rintro e w' ⟨rfl,hB⟩
  have e0:encA (ps.map PV.abs)=[]:=by rw [encA,if_pos (by rw [List.length_map]; exact h0)]
  rw [e0]
  exact ⟨none,0,rfl,hB.nilOwn 5 1⟩
 ·exact rsEncode_ok A1 c1 ps w r0 r1 hfit h0 hsz
theorem rsStep_nil (bs:Nat) (A:Option Addr) (c:Nat) (its:List (List UInt8)) (fan leaf:Nat) (nm om:Nat) (A1:Option Addr) (c1:Nat) (D:List UInt8) (S S2:List (List UInt8)) (w:World) (hO:Own [cSet nm (S),cSet om (S2)] w) (r0:Rf [cSet nm (S),cSet om (S2)] w (Vars)) (r1:Rf [cSet nm (S),cSet om (S2)] w (SessAt bs A c its fan leaf nm om)) (r2:Rf [cSet nm (S),cSet om (S2)] w (fun w=>RowIn w A1 (B8 D))) (hs:okSet its) (hn:its.length≤1000) (hcap:its.length≤c) (h40:its.length≤40) (hf:2≤fan) (hf2:fan≤16) (hl1:1≤leaf) (hl2:leaf≤64) (hD:D.length≤1048576) (hS:S.length≤549755813888) (hT:S2.length≤549755813888) (h0:D.length=0) :
  Calls Tryz.prog 152 #[(vP bs 0),(vL A1 D c1)] w fun e w'=>e = .returned (.tuple #[(.slice none 0 0),(.int .i64 0)])∧Back [cSet nm (S),cSet om (S2)] w [cSet nm (S),cSet om (S2)] w':=by
 have ra:=r1.imp (fun _ h=>h.1)
 have rb:=r1.imp (fun _ h=>h.2)
 refine sE2 Tryz.func152 110 (hO) ?_
 refine stSeq (reg (la ?_))
 refine la ?_
 refine liNil (qThen (stSeq (stSeq (reg (lm ?_)))))
 refine lc (vI D.length) ?_
 refine lc (.bool ((((D.length:Nat):Int):Int) == 0)) ?_
 refine liNil (qThen (stTrueK rfl (by simp [h0]) ?_))
 refine stSeq (reg (la ?_))
 refine la ?_
 refine liNil (qThen (stRet (qThenR (sN [(.slice none 0 0),(.int .i64 0)] fun w hM=>?_))))
 exact ⟨rfl,hM⟩
theorem rsStep_bad (bs:Nat) (A:Option Addr) (c:Nat) (its:List (List UInt8)) (fan leaf:Nat) (nm om:Nat) (A1:Option Addr) (c1:Nat) (D:List UInt8) (S S2:List (List UInt8)) (w:World) (hO:Own [cSet nm (S),cSet om (S2)] w) (r0:Rf [cSet nm (S),cSet om (S2)] w (Vars)) (r1:Rf [cSet nm (S),cSet om (S2)] w (SessAt bs A c its fan leaf nm om)) (r2:Rf [cSet nm (S),cSet om (S2)] w (fun w=>RowIn w A1 (B8 D))) (hs:okSet its) (hn:its.length≤1000) (hcap:its.length≤c) (h40:its.length≤40) (hf:2≤fan) (hf2:fan≤16) (hl1:1≤leaf) (hl2:leaf≤64) (hD:D.length≤1048576) (hS:S.length≤549755813888) (hT:S2.length≤549755813888) (hne:¬ D.length=0) (hd:decA D=none) :
  Calls Tryz.prog 152 #[(vP bs 0),(vL A1 D c1)] w fun e w'=>e = .returned (.tuple #[(.slice none 0 0),(.int .i64 3)])∧Back [cSet nm (S),cSet om (S2)] w [cSet nm (S),cSet om (S2)] w':=by
 have ra:=r1.imp (fun _ h=>h.1)
 have rb:=r1.imp (fun _ h=>h.2)
 refine sE2 Tryz.func152 110 (hO) ?_
 refine stSeq (reg (la ?_))
 refine la ?_
 refine liNil (qThen (stSeq (stSeq (reg (lm ?_)))))
 refine lc (vI D.length) ?_
 refine lc (.bool ((((D.length:Nat):Int):Int) == 0)) ?_
 refine liNil (qThen (stFalseK rfl (by simpa using hne) ?_))
 refine stSkip (qThen (stSeq (reg (lm ?_))))
 refine li rfl (opK0 (fun w hM=>(rsDecode_bad A1 c1 D w (r2.go0 hM) (by assumption) (by assumption)).mono ?_))
 rintro e w' ⟨rfl,hP⟩
 refine ⟨_,_,rfl,hP,?_⟩; clear hP hM
 refine lm ?_
 refine lc (.slice none 0 0) ?_
 refine lc (.int .i64 3) ?_
 refine la ?_
 refine la ?_
 refine liNil (qThen (stSeq (stSeq (reg (lm ?_)))))
 refine lc (.bool true) ?_
 refine liNil (qThen (stTrue rfl (stSeq (reg ?_))))
 refine lm ?_
 refine la ?_
 refine la ?_
 refine liNil (qThen (stRet (qThenR (sN [(.slice none 0 0),(.int .i64 3)] fun w hM=>?_))))
 exact ⟨rfl,hM⟩
theorem rsStep_big (bs:Nat) (A:Option Addr) (c:Nat) (its:List (List UInt8)) (fan leaf:Nat) (nm om:Nat) (A1:Option Addr) (c1:Nat) (D:List UInt8) (S S2:List (List UInt8)) (ps:List AP) (w:World) (hO:Own [cSet nm (S),cSet om (S2)] w) (r0:Rf [cSet nm (S),cSet om (S2)] w (Vars)) (r1:Rf [cSet nm (S),cSet om (S2)] w (SessAt bs A c its fan leaf nm om)) (r2:Rf [cSet nm (S),cSet om (S2)] w (fun w=>RowIn w A1 (B8 D))) (hs:okSet its) (hn:its.length≤1000) (hcap:its.length≤c) (h40:its.length≤40) (hf:2≤fan) (hf2:fan≤16) (hl1:1≤leaf) (hl2:leaf≤64) (hD:D.length≤1048576) (hS:S.length≤549755813888) (hT:S2.length≤549755813888) (hne:¬ D.length=0) (hd:decA D=some ps) (hsz:1048576 < (encA (replyA its fan leaf ps)).length) :
  Calls Tryz.prog 152 #[(vP bs 0),(vL A1 D c1)] w fun e w'=>e = .returned (.tuple #[(.slice none 0 0),(.int .i64 2)])∧Back [cSet nm (S),cSet om (S2)] w [cSet nm (S),cSet om (S2)] w':=by
 have ra:=r1.imp (fun _ h=>h.1)
 have rb:=r1.imp (fun _ h=>h.2)
 refine sE2 Tryz.func152 110 (hO) ?_
 refine stSeq (reg (la ?_))
 refine la ?_
 refine liNil (qThen (stSeq (stSeq (reg (lm ?_)))))
 refine lc (vI D.length) ?_
 refine lc (.bool ((((D.length:Nat):Int):Int) == 0)) ?_
 refine liNil (qThen (stFalseK rfl (by simpa using hne) ?_))
 refine stSkip (qThen (stSeq (reg (lm ?_))))
 refine li rfl (opK0 (fun w hM=>(rsDecode_ok A1 c1 D ps w (r2.go0 hM) (by assumption) (by assumption)).mono ?_))
 rintro e w' ⟨R24,rc24,pvs24,L24,rfl,hP,heq24,hsrc24⟩
 refine ⟨_,_,rfl,hP,?_⟩; clear hP hM
 obtain ⟨_,hmsg,hpl⟩:=decA_sound hd
 have hok:∀ p∈ps,p.ok:=hmsg.2.1
 have hpl2:pvs24.length=ps.length:=by rw [← heq24,List.length_map]
 refine lm ?_
 refine lc (vL R24 (pvs24) rc24) ?_
 refine lc (.int .i64 0) ?_
 refine la ?_
 refine la ?_
 refine liNil (qThen (stSeq (stSeq (reg (lm ?_)))))
 refine lc (.bool false) ?_
 refine liNil (qThen (stFalse rfl (stSkip (qThen (stSeq (reg (li rfl ?_)))))))
 refine oAl [(.slice none 0 0),(.slice none 0 0),(.slice none 0 0)] fun b8=>?_
 refine liNil (qThen (stSeq (stSeq (reg (lm ?_)))))
 refine lc (vI ((pvs24).length)) ?_
 refine lm ?_
 refine liNil (qThen (stBlock (St.mem (fun w hM=>hM.nilOwn 246 3) ?_)))
 refine St.mem (fun w hM=>hM.nilOwn 9 1) ?_
 refine St.mem (fun w hM=>hM.nilOwn 9 1) ?_
 refine St.mem (fun w hM=>Mm.noBag hM) ?_
 refine sL (fun (i,RX,rcX,rp,NX,ncX,nl,OX,ocX,ol,LX)=>StepInv its fan leaf A pvs24 i rp nl ol LX) (fun (i,RX,rcX,rp,NX,ncX,nl,OX,ocX,ol,LX)=>pvs24.length - i) (fun (i,RX,rcX,rp,NX,ncX,nl,OX,ocX,ol,LX)=>[(0,(vP bs 0)),(4,(.slice none 0 0)),(5,(.int .i64 0)),(7,(.int .i64 0)),(8,(vP b8 0)),(30,(vL R24 (pvs24) rc24)),(31,(vI ((pvs24).length))),(32,(vI i))]) (fun (i,RX,rcX,rp,NX,ncX,nl,OX,ocX,ol,LX)=>[cSet nm (S),cSet om (S2),cP R24 (pvs24) rc24,cBag (L24),cAt b8 240 [(vL RX (rp) rcX),(vL NX (nl) ncX),(vL OX (ol) ocX)],cP RX (rp) rcX,cS NX (nl) ncX,cS OX (ol) ocX,cBag (LX)]) (0,none,0,noPV,none,0,noB2,none,0,noB2,[]) StepInv.zero (fun w hM=>by show Mm _ _ [cSet nm (S),cSet om (S2),cP R24 (pvs24) rc24,cBag (L24),cAt b8 240 [(vL none (noPV) 0),(vL none (noB2) 0),(vL none (noB2) 0)],cP none (noPV) 0,cS none (noB2) 0,cS none (noB2) 0,cBag ([])] w; exact hM) ?_
 rintro ⟨i,RX,rcX,rp,NX,ncX,nl,OX,ocX,ol,LX⟩ (hinv:StepInv its fan leaf A pvs24 i rp nl ol LX)
 dsimp only
 refine stSeq (reg (lc (.bool (decide (((i:Nat):Int) < (((pvs24).length:Nat):Int)))) ?_))
 refine liNil (qThen (stSeq (stCond rfl (fun hc33=>?_) (fun hc33=>?_))))
 ·have hd33:=of_decide_eq_true hc33
  have hil:=hinv.le; have hil1:=hinv.len1; have hil2:=hinv.len2; have hil3:=hinv.len3
  refine stSkip (qThen (stSeq (stBlock (stSeq (reg ?_)))))
  obtain ⟨x0,hx0⟩:∃ ξ,(pvs24)[i]?=some ξ:=⟨_,List.getElem?_eq_getElem (by omega)⟩
  refine St.partPtr (fun w hM=>rowOwn3 (i:=2) rfl w hM) hx0 (fun p34 q34 hA34 hc34=>?_)
  refine lv (v:=(vP p34 (q34+i*3))) (rIndexRow3 (e:=246) rfl (by kernel_rfl) (by kernel_rfl) rfl rfl hA34 (by omega)) ?_
  refine lv (v:=(.agg #[(vS x0.lo),(vS x0.hi),x0.c.val])) (rLoadA [(vS x0.lo),(vS x0.hi),x0.c.val] rfl rfl (by kernel_rfl) (by kernel_rfl) (hc34)) ?_
  refine li rfl (oAl [(.string ⟨#[]⟩),(.string ⟨#[]⟩),.nilIface] fun b10=>?_)
  refine li rfl (opStoreN 9 [(vS x0.lo),(vS x0.hi),x0.c.val] (vs:=[(vS x0.lo),(vS x0.hi),x0.c.val]) rfl rfl (by kernel_rfl) rfl rfl rfl (by kernel_rfl) rfl (by simp) (PV.one x0) rfl ?_)
  refine liNil (qThen (stSeq (reg (lc (vP b10 2) ?_))))
  refine ll 9 ?_
  refine liNil (qThen (stBlock (stSeq ?_)))
  dsimp only [setAll,List.set,List.cons_append,List.nil_append]
  have hp0:x0.abs.ok:=hok _ (by rw [← heq24]; exact List.mem_map_of_mem (List.mem_of_getElem? hx0))
  obtain ⟨xlo,xhi,xc⟩:=x0
  cases xc with
  | sum xn xf =>
    dsimp only [setAll,List.set,List.cons_append,List.nil_append]
    refine reg (lc (.tuple #[(.agg #[(vI xn),(vS xf)]),(.bool true)]) ?_)
    refine lc (.bool true) ?_
    refine lc (.agg #[(vI xn),(vS xf)]) ?_
    refine liNil (qThen (stTrue rfl (stSeq (reg (li rfl ?_)))))
    refine oAl [(.int .i64 0),(.string ⟨#[]⟩)] fun b11=>?_
    refine li rfl (oSN 10 [(vI xn),(vS xf)] ?_)
    refine liNil (qThen (reg (lm ?_)))
    refine lc (vP b10 0) ?_
    refine lv (rA 9 [(vS xlo),(vS xhi)]) ?_
    refine lv (rA 10 [(vI xn),(vS xf)]) ?_
    refine li rfl (opK [4,5] _ (fun w hM hO=>(rsCompare_any bs A c its fan leaf nm om xlo xhi xn xf b8 RX rcX rp (vL NX (nl) ncX) (vL OX (ol) ocX) w hO (r0.goS hM [4,5]) (r1.goS hM [4,5]) (by assumption) (by assumption) (by assumption) (by omega) (by omega) (by omega) (by omega) (by omega)).mono ?_))
    rintro e w' ⟨R245,rc245,ps245,rfl,hP,heq45,hsrc45⟩
    refine ⟨_,[_,_],_,rfl,hP,rfl,?_⟩; clear hP hM hO
    refine liNil (qBlock (qBlock (qThen (reg ?_))))
    refine lv (v:=(vI (i+1))) rAd ?_
    refine lm ?_
    refine liNil (qThen ?_)
    have hnext:StepInv its fan leaf A pvs24 (i+1) (rp++ps245) nl ol LX:=hinv.sum hx0 heq45 hsrc45 (repA_ok hs h40 hf hf2 hl1 hp0)
    exact sA (i+1,R245,rc245,rp++ps245,NX,ncX,nl,OX,ocX,ol,LX) (hnext) (by show pvs24.length - (i+1) < pvs24.length - i; omega) (fun w hM=>(hM.pick [0,1,2,3,4,5,6,7,8] rfl rfl))
  | list XA xca xl =>
    dsimp only [setAll,List.set,List.cons_append,List.nil_append]
    have hsx:(XA,xl)∈L24:=hsrc24 _ (List.mem_of_getElem? hx0) (XA,xl) (by simp [CV.rows])
    refine reg (lc (.tuple #[(.agg #[(.int .i64 0),(.string ⟨#[]⟩)]),(.bool false)]) ?_)
    refine lc (.bool false) ?_
    refine lc (.agg #[(.int .i64 0),(.string ⟨#[]⟩)]) ?_
    refine liNil (qThen (stFalse rfl (stSeq (reg ?_))))
    refine lc (.tuple #[(.agg #[(vL XA xl xca)]),(.bool true)]) ?_
    refine lc (.bool true) ?_
    refine lc (.agg #[(vL XA xl xca)]) ?_
    refine liNil (qThen (stTrue rfl (stSeq (reg (li rfl ?_)))))
    refine oAl [(.slice none 0 0)] fun b12=>?_
    refine li rfl (oSN 10 [(vL XA xl xca)] ?_)
    refine liNil (qThen (reg (lm ?_)))
    refine lc (vP b10 0) ?_
    refine lv (rA 9 [(vS xlo),(vS xhi)]) ?_
    refine lv (rA 10 [(vL XA xl xca)]) ?_
    refine li rfl (opK [4,5,6,7] _ (fun w hM hO=>(rsAnswer_any bs A c its fan leaf nm om xlo xhi XA xca xl b8 RX rcX rp NX ncX nl OX ocX ol w hO (r1.goS hM [4,5,6,7]) (hM.keepS [4,5,6,7] (j:=3) rfl (fun w h=>(h (XA,xl) hsx).1)) (by assumption) (by assumption) (by assumption) (by omega) (Nat.le_trans hp0.2.1 (by omega)) (fun x hx=>Nat.le_trans (Nat.le_of_eq (hp0.2.2.1 x hx)) (by omega)) (by omega) (by omega)).mono ?_))
    rintro e w' ⟨R253,rc253,ps253,N253,nc253,O253,oc253,L253,rfl,hP,heq53,hsrc53⟩
    refine ⟨_,[_,_,_,_],_,rfl,hP,rfl,?_⟩; clear hP hM hO
    refine liNil (qBlock (qBlock (qThen (reg ?_))))
    refine lv (v:=(vI (i+1))) rAd ?_
    refine lm ?_
    refine liNil (qThen ?_)
    have hnext:StepInv its fan leaf A pvs24 (i+1) (rp++ps253) (nl++without xl its) (ol++without (inL its xlo xhi) xl) (LX++L253):=hinv.list hx0 heq53 hsrc53 (repA_ok hs h40 hf hf2 hl1 hp0) (needA_len hp0) (offA_len hs h40 hp0)
    exact sA (i+1,R253,rc253,rp++ps253,N253,nc253,nl++without xl its,O253,oc253,ol++without (inL its xlo xhi) xl,LX++L253) (hnext) (by show pvs24.length - (i+1) < pvs24.length - i; omega) (fun w hM=>by show Mm _ _ [cSet nm (S),cSet om (S2),cP R24 (pvs24) rc24,cBag (L24),cAt b8 240 [(vL R253 (rp++ps253) rc253),(vL N253 (nl++without xl its) nc253),(vL O253 (ol++without (inL its xlo xhi) xl) oc253)],cP R253 (rp++ps253) rc253,cS N253 (nl++without xl its) nc253,cS O253 (ol++without (inL its xlo xhi) xl) oc253,cBag (LX++L253)] w; exact Mm.join (cs:=[cSet nm (S),cSet om (S2),cP R24 (pvs24) rc24,cBag (L24),cAt b8 240 [(vL R253 (rp++ps253) rc253),(vL N253 (nl++without xl its) nc253),(vL O253 (ol++without (inL its xlo xhi) xl) oc253)],cP R253 (rp++ps253) rc253,cS N253 (nl++without xl its) nc253,cS O253 (ol++without (inL its xlo xhi) xl) oc253]) (L:=LX) (M:=L253) ((hM.pick [0,1,2,3,4,5,6,7,8,11] rfl rfl)))
  | ans XA xca xl XB xcb xm =>
    dsimp only [setAll,List.set,List.cons_append,List.nil_append]
    have hsx:(XA,xl)∈L24:=hsrc24 _ (List.mem_of_getElem? hx0) (XA,xl) (by simp [CV.rows])
    have hsm:(XB,xm)∈L24:=hsrc24 _ (List.mem_of_getElem? hx0) (XB,xm) (by simp [CV.rows])
    refine reg (lc (.tuple #[(.agg #[(.int .i64 0),(.string ⟨#[]⟩)]),(.bool false)]) ?_)
    refine lc (.bool false) ?_
    refine lc (.agg #[(.int .i64 0),(.string ⟨#[]⟩)]) ?_
    refine liNil (qThen (stFalse rfl (stSeq (reg ?_))))
    refine lc (.tuple #[(.agg #[(.slice none 0 0)]),(.bool false)]) ?_
    refine lc (.bool false) ?_
    refine lc (.agg #[(.slice none 0 0)]) ?_
    refine liNil (qThen (stFalse rfl (stSeq (reg ?_))))
    refine lc (.tuple #[(.agg #[(vL XA xl xca),(vL XB xm xcb)]),(.bool true)]) ?_
    refine lc (.bool true) ?_
    refine lc (.agg #[(vL XA xl xca),(vL XB xm xcb)]) ?_
    refine liNil (qThen (stTrue rfl (stSeq (reg (li rfl ?_)))))
    refine oAl [(.slice none 0 0),(.slice none 0 0)] fun b13=>?_
    refine li rfl (oSN 10 [(vL XA xl xca),(vL XB xm xcb)] ?_)
    refine liNil (qThen (reg (lm ?_)))
    refine lv (rA 10 [(vL XA xl xca),(vL XB xm xcb)]) ?_
    refine li rfl (opK [4,6,7] _ (fun w hM hO=>(rsLearn_any bs A c its fan leaf nm om XA xca xl XB xcb xm b8 (vL RX (rp) rcX) NX ncX nl OX ocX ol w hO (r1.goS hM [4,6,7]) (hM.keepS [4,6,7] (j:=3) rfl (fun w h=>(h (XA,xl) hsx).1)) (hM.keepS [4,6,7] (j:=3) rfl (fun w h=>(h (XB,xm) hsm).1)) (by assumption) (by assumption) (Nat.le_trans hp0.2.1.1 (by omega)) (Nat.le_trans hp0.2.2.1 (by omega)) (by omega) (by omega) (rfl)).mono ?_))
    rintro e w' ⟨N259,nc259,O259,oc259,rfl,hP⟩
    refine ⟨_,[_,_,_],_,rfl,hP,rfl,?_⟩; clear hP hM hO
    refine liNil (qBlock (qBlock (qThen (reg ?_))))
    refine lv (v:=(vI (i+1))) rAd ?_
    refine lm ?_
    refine liNil (qThen ?_)
    have hnext:StepInv its fan leaf A pvs24 (i+1) rp (nl++without xl its) (ol++keepIn xm its) LX:=hinv.ans hx0 (needA_len hp0) (offA_len hs h40 hp0)
    exact sA (i+1,RX,rcX,rp,N259,nc259,nl++without xl its,O259,oc259,ol++keepIn xm its,LX) (hnext) (by show pvs24.length - (i+1) < pvs24.length - i; omega) (fun w hM=>(hM.pick [0,1,2,3,4,5,6,7,8] rfl rfl))
 ·have hd33:=of_decide_eq_false hc33
  have hil:=hinv.le; have hil1:=hinv.len1; have hil2:=hinv.len2; have hil3:=hinv.len3
  obtain rfl:i=pvs24.length:=by omega
  have hrp':rp.map PV.abs=replyA its fan leaf ps:=hinv.endR heq24
  have hnl':nl=ps.flatMap (needA its):=hinv.endN heq24
  have hol':ol=ps.flatMap (offA its):=hinv.endO heq24
  have hrfit:∀ p∈rp.map PV.abs,p.fit:=by rw [hrp']; exact replyA_fit hs h40 hf hf2 hl1 hok
  have hn32:∀ x∈nl,x.length=32:=by rw [hnl']; exact flat32m fun p hp=>(needA_len (hok p hp)).2
  have ho32:∀ x∈ol,x.length=32:=by rw [hol']; exact flat32m fun p hp=>(offA_len hs h40 (hok p hp)).2
  have henc:=replyA_enc hs h40 hf hf2 hl1 (leaf:=leaf) hok
  have hrl:rp.length=(replyA its fan leaf ps).length:=by rw [← hrp',List.length_map]
  refine stExit (qThenX (qThenX (qBlockX (qThen (stSeq (reg ?_))))))
  refine lc (vP b8 0) ?_
  refine ll 4 ?_
  refine li rfl (opK0 (fun w hM=>(rsEncode_big RX rcX rp w (hM.keep0 (j:=5) rfl (fun _ h=>own3_row h)) ((Ro.and (hM.keep0 (j:=8) rfl (fun w h=>h)) (rb.go0 hM)).imp (fun w h=>hinv.src.ok h.1 h.2)) (hrfit) (by intro h0; rw [hrl] at h0; rw [encA,if_pos h0] at hsz; simp at hsz) (by rw [hrp']; exact hsz) (by rw [hrp']; have h:=encA_le (replyA its fan leaf ps) (by omega); omega)).mono ?_))
  rintro e w' ⟨rfl,hP⟩
  refine ⟨_,_,rfl,hP,?_⟩; clear hP hM
  refine lm ?_
  refine lc (.slice none 0 0) ?_
  refine lc (.int .i64 2) ?_
  refine la ?_
  refine la ?_
  refine liNil (qThen (stSeq (stSeq ?_)))
  dsimp only [setAll,List.set,List.cons_append,List.nil_append]
  refine reg (lm ?_)
  refine lc (.bool true) ?_
  refine liNil (qThen (stTrue rfl (stSeq (reg ?_))))
  refine lm ?_
  refine la ?_
  refine la ?_
  refine liNil (qThen (stRet (qThenR (sN [(.slice none 0 0),(.int .i64 2)] fun w hM=>?_))))
  exact ⟨rfl,(hM.pick [0,1] rfl rfl)⟩
theorem rsStep_ok (bs:Nat) (A:Option Addr) (c:Nat) (its:List (List UInt8)) (fan leaf:Nat) (nm om:Nat) (A1:Option Addr) (c1:Nat) (D:List UInt8) (S S2:List (List UInt8)) (ps:List AP) (w:World) (hO:Own [cSet nm (S),cSet om (S2)] w) (r0:Rf [cSet nm (S),cSet om (S2)] w (Vars)) (r1:Rf [cSet nm (S),cSet om (S2)] w (SessAt bs A c its fan leaf nm om)) (r2:Rf [cSet nm (S),cSet om (S2)] w (fun w=>RowIn w A1 (B8 D))) (hs:okSet its) (hn:its.length≤1000) (hcap:its.length≤c) (h40:its.length≤40) (hf:2≤fan) (hf2:fan≤16) (hl1:1≤leaf) (hl2:leaf≤64) (hD:D.length≤1048576) (hS:S.length≤549755813888) (hT:S2.length≤549755813888) (hne:¬ D.length=0) (hd:decA D=some ps) (hsz:(encA (replyA its fan leaf ps)).length≤1048576) :
  Calls Tryz.prog 152 #[(vP bs 0),(vL A1 D c1)] w fun e w'=>∃ (B:Option Addr) (cb:Nat),e = .returned (.tuple #[(vL B (encA (replyA its fan leaf ps)) cb),(.int .i64 0)])∧Back [cSet nm (S),cSet om (S2)] w [cSet nm (S++ps.flatMap (needA its)),cSet om (S2++ps.flatMap (offA its)),cB B (encA (replyA its fan leaf ps)) cb] w':=by
 have ra:=r1.imp (fun _ h=>h.1)
 have rb:=r1.imp (fun _ h=>h.2)
 refine sE2 Tryz.func152 110 (hO) ?_
 refine stSeq (reg (la ?_))
 refine la ?_
 refine liNil (qThen (stSeq (stSeq (reg (lm ?_)))))
 refine lc (vI D.length) ?_
 refine lc (.bool ((((D.length:Nat):Int):Int) == 0)) ?_
 refine liNil (qThen (stFalseK rfl (by simpa using hne) ?_))
 refine stSkip (qThen (stSeq (reg (lm ?_))))
 refine li rfl (opK0 (fun w hM=>(rsDecode_ok A1 c1 D ps w (r2.go0 hM) (by assumption) (by assumption)).mono ?_))
 rintro e w' ⟨R24,rc24,pvs24,L24,rfl,hP,heq24,hsrc24⟩
 refine ⟨_,_,rfl,hP,?_⟩; clear hP hM
 obtain ⟨_,hmsg,hpl⟩:=decA_sound hd
 have hok:∀ p∈ps,p.ok:=hmsg.2.1
 have hpl2:pvs24.length=ps.length:=by rw [← heq24,List.length_map]
 refine lm ?_
 refine lc (vL R24 (pvs24) rc24) ?_
 refine lc (.int .i64 0) ?_
 refine la ?_
 refine la ?_
 refine liNil (qThen (stSeq (stSeq (reg (lm ?_)))))
 refine lc (.bool false) ?_
 refine liNil (qThen (stFalse rfl (stSkip (qThen (stSeq (reg (li rfl ?_)))))))
 refine oAl [(.slice none 0 0),(.slice none 0 0),(.slice none 0 0)] fun b8=>?_
 refine liNil (qThen (stSeq (stSeq (reg (lm ?_)))))
 refine lc (vI ((pvs24).length)) ?_
 refine lm ?_
 refine liNil (qThen (stBlock (St.mem (fun w hM=>hM.nilOwn 246 3) ?_)))
 refine St.mem (fun w hM=>hM.nilOwn 9 1) ?_
 refine St.mem (fun w hM=>hM.nilOwn 9 1) ?_
 refine St.mem (fun w hM=>Mm.noBag hM) ?_
 refine sL (fun (i,RX,rcX,rp,NX,ncX,nl,OX,ocX,ol,LX)=>StepInv its fan leaf A pvs24 i rp nl ol LX) (fun (i,RX,rcX,rp,NX,ncX,nl,OX,ocX,ol,LX)=>pvs24.length - i) (fun (i,RX,rcX,rp,NX,ncX,nl,OX,ocX,ol,LX)=>[(0,(vP bs 0)),(4,(.slice none 0 0)),(5,(.int .i64 0)),(7,(.int .i64 0)),(8,(vP b8 0)),(30,(vL R24 (pvs24) rc24)),(31,(vI ((pvs24).length))),(32,(vI i))]) (fun (i,RX,rcX,rp,NX,ncX,nl,OX,ocX,ol,LX)=>[cSet nm (S),cSet om (S2),cP R24 (pvs24) rc24,cBag (L24),cAt b8 240 [(vL RX (rp) rcX),(vL NX (nl) ncX),(vL OX (ol) ocX)],cP RX (rp) rcX,cS NX (nl) ncX,cS OX (ol) ocX,cBag (LX)]) (0,none,0,noPV,none,0,noB2,none,0,noB2,[]) StepInv.zero (fun w hM=>by show Mm _ _ [cSet nm (S),cSet om (S2),cP R24 (pvs24) rc24,cBag (L24),cAt b8 240 [(vL none (noPV) 0),(vL none (noB2) 0),(vL none (noB2) 0)],cP none (noPV) 0,cS none (noB2) 0,cS none (noB2) 0,cBag ([])] w; exact hM) ?_
 rintro ⟨i,RX,rcX,rp,NX,ncX,nl,OX,ocX,ol,LX⟩ (hinv:StepInv its fan leaf A pvs24 i rp nl ol LX)
 dsimp only
 refine stSeq (reg (lc (.bool (decide (((i:Nat):Int) < (((pvs24).length:Nat):Int)))) ?_))
 refine liNil (qThen (stSeq (stCond rfl (fun hc33=>?_) (fun hc33=>?_))))
 ·have hd33:=of_decide_eq_true hc33
  have hil:=hinv.le; have hil1:=hinv.len1; have hil2:=hinv.len2; have hil3:=hinv.len3
  refine stSkip (qThen (stSeq (stBlock (stSeq (reg ?_)))))
  obtain ⟨x0,hx0⟩:∃ ξ,(pvs24)[i]?=some ξ:=⟨_,List.getElem?_eq_getElem (by omega)⟩
  refine St.partPtr (fun w hM=>rowOwn3 (i:=2) rfl w hM) hx0 (fun p34 q34 hA34 hc34=>?_)
  refine lv (v:=(vP p34 (q34+i*3))) (rIndexRow3 (e:=246) rfl (by kernel_rfl) (by kernel_rfl) rfl rfl hA34 (by omega)) ?_
  refine lv (v:=(.agg #[(vS x0.lo),(vS x0.hi),x0.c.val])) (rLoadA [(vS x0.lo),(vS x0.hi),x0.c.val] rfl rfl (by kernel_rfl) (by kernel_rfl) (hc34)) ?_
  refine li rfl (oAl [(.string ⟨#[]⟩),(.string ⟨#[]⟩),.nilIface] fun b10=>?_)
  refine li rfl (opStoreN 9 [(vS x0.lo),(vS x0.hi),x0.c.val] (vs:=[(vS x0.lo),(vS x0.hi),x0.c.val]) rfl rfl (by kernel_rfl) rfl rfl rfl (by kernel_rfl) rfl (by simp) (PV.one x0) rfl ?_)
  refine liNil (qThen (stSeq (reg (lc (vP b10 2) ?_))))
  refine ll 9 ?_
  refine liNil (qThen (stBlock (stSeq ?_)))
  dsimp only [setAll,List.set,List.cons_append,List.nil_append]
  have hp0:x0.abs.ok:=hok _ (by rw [← heq24]; exact List.mem_map_of_mem (List.mem_of_getElem? hx0))
  obtain ⟨xlo,xhi,xc⟩:=x0
  cases xc with
  | sum xn xf =>
    dsimp only [setAll,List.set,List.cons_append,List.nil_append]
    refine reg (lc (.tuple #[(.agg #[(vI xn),(vS xf)]),(.bool true)]) ?_)
    refine lc (.bool true) ?_
    refine lc (.agg #[(vI xn),(vS xf)]) ?_
    refine liNil (qThen (stTrue rfl (stSeq (reg (li rfl ?_)))))
    refine oAl [(.int .i64 0),(.string ⟨#[]⟩)] fun b11=>?_
    refine li rfl (oSN 10 [(vI xn),(vS xf)] ?_)
    refine liNil (qThen (reg (lm ?_)))
    refine lc (vP b10 0) ?_
    refine lv (rA 9 [(vS xlo),(vS xhi)]) ?_
    refine lv (rA 10 [(vI xn),(vS xf)]) ?_
    refine li rfl (opK [4,5] _ (fun w hM hO=>(rsCompare_any bs A c its fan leaf nm om xlo xhi xn xf b8 RX rcX rp (vL NX (nl) ncX) (vL OX (ol) ocX) w hO (r0.goS hM [4,5]) (r1.goS hM [4,5]) (by assumption) (by assumption) (by assumption) (by omega) (by omega) (by omega) (by omega) (by omega)).mono ?_))
    rintro e w' ⟨R245,rc245,ps245,rfl,hP,heq45,hsrc45⟩
    refine ⟨_,[_,_],_,rfl,hP,rfl,?_⟩; clear hP hM hO
    refine liNil (qBlock (qBlock (qThen (reg ?_))))
    refine lv (v:=(vI (i+1))) rAd ?_
    refine lm ?_
    refine liNil (qThen ?_)
    have hnext:StepInv its fan leaf A pvs24 (i+1) (rp++ps245) nl ol LX:=hinv.sum hx0 heq45 hsrc45 (repA_ok hs h40 hf hf2 hl1 hp0)
    exact sA (i+1,R245,rc245,rp++ps245,NX,ncX,nl,OX,ocX,ol,LX) (hnext) (by show pvs24.length - (i+1) < pvs24.length - i; omega) (fun w hM=>(hM.pick [0,1,2,3,4,5,6,7,8] rfl rfl))
  | list XA xca xl =>
    dsimp only [setAll,List.set,List.cons_append,List.nil_append]
    have hsx:(XA,xl)∈L24:=hsrc24 _ (List.mem_of_getElem? hx0) (XA,xl) (by simp [CV.rows])
    refine reg (lc (.tuple #[(.agg #[(.int .i64 0),(.string ⟨#[]⟩)]),(.bool false)]) ?_)
    refine lc (.bool false) ?_
    refine lc (.agg #[(.int .i64 0),(.string ⟨#[]⟩)]) ?_
    refine liNil (qThen (stFalse rfl (stSeq (reg ?_))))
    refine lc (.tuple #[(.agg #[(vL XA xl xca)]),(.bool true)]) ?_
    refine lc (.bool true) ?_
    refine lc (.agg #[(vL XA xl xca)]) ?_
    refine liNil (qThen (stTrue rfl (stSeq (reg (li rfl ?_)))))
    refine oAl [(.slice none 0 0)] fun b12=>?_
    refine li rfl (oSN 10 [(vL XA xl xca)] ?_)
    refine liNil (qThen (reg (lm ?_)))
    refine lc (vP b10 0) ?_
    refine lv (rA 9 [(vS xlo),(vS xhi)]) ?_
    refine lv (rA 10 [(vL XA xl xca)]) ?_
    refine li rfl (opK [4,5,6,7] _ (fun w hM hO=>(rsAnswer_any bs A c its fan leaf nm om xlo xhi XA xca xl b8 RX rcX rp NX ncX nl OX ocX ol w hO (r1.goS hM [4,5,6,7]) (hM.keepS [4,5,6,7] (j:=3) rfl (fun w h=>(h (XA,xl) hsx).1)) (by assumption) (by assumption) (by assumption) (by omega) (Nat.le_trans hp0.2.1 (by omega)) (fun x hx=>Nat.le_trans (Nat.le_of_eq (hp0.2.2.1 x hx)) (by omega)) (by omega) (by omega)).mono ?_))
    rintro e w' ⟨R253,rc253,ps253,N253,nc253,O253,oc253,L253,rfl,hP,heq53,hsrc53⟩
    refine ⟨_,[_,_,_,_],_,rfl,hP,rfl,?_⟩; clear hP hM hO
    refine liNil (qBlock (qBlock (qThen (reg ?_))))
    refine lv (v:=(vI (i+1))) rAd ?_
    refine lm ?_
    refine liNil (qThen ?_)
    have hnext:StepInv its fan leaf A pvs24 (i+1) (rp++ps253) (nl++without xl its) (ol++without (inL its xlo xhi) xl) (LX++L253):=hinv.list hx0 heq53 hsrc53 (repA_ok hs h40 hf hf2 hl1 hp0) (needA_len hp0) (offA_len hs h40 hp0)
    exact sA (i+1,R253,rc253,rp++ps253,N253,nc253,nl++without xl its,O253,oc253,ol++without (inL its xlo xhi) xl,LX++L253) (hnext) (by show pvs24.length - (i+1) < pvs24.length - i; omega) (fun w hM=>by show Mm _ _ [cSet nm (S),cSet om (S2),cP R24 (pvs24) rc24,cBag (L24),cAt b8 240 [(vL R253 (rp++ps253) rc253),(vL N253 (nl++without xl its) nc253),(vL O253 (ol++without (inL its xlo xhi) xl) oc253)],cP R253 (rp++ps253) rc253,cS N253 (nl++without xl its) nc253,cS O253 (ol++without (inL its xlo xhi) xl) oc253,cBag (LX++L253)] w; exact Mm.join (cs:=[cSet nm (S),cSet om (S2),cP R24 (pvs24) rc24,cBag (L24),cAt b8 240 [(vL R253 (rp++ps253) rc253),(vL N253 (nl++without xl its) nc253),(vL O253 (ol++without (inL its xlo xhi) xl) oc253)],cP R253 (rp++ps253) rc253,cS N253 (nl++without xl its) nc253,cS O253 (ol++without (inL its xlo xhi) xl) oc253]) (L:=LX) (M:=L253) ((hM.pick [0,1,2,3,4,5,6,7,8,11] rfl rfl)))
  | ans XA xca xl XB xcb xm =>
    dsimp only [setAll,List.set,List.cons_append,List.nil_append]
    have hsx:(XA,xl)∈L24:=hsrc24 _ (List.mem_of_getElem? hx0) (XA,xl) (by simp [CV.rows])
    have hsm:(XB,xm)∈L24:=hsrc24 _ (List.mem_of_getElem? hx0) (XB,xm) (by simp [CV.rows])
    refine reg (lc (.tuple #[(.agg #[(.int .i64 0),(.string ⟨#[]⟩)]),(.bool false)]) ?_)
    refine lc (.bool false) ?_
    refine lc (.agg #[(.int .i64 0),(.string ⟨#[]⟩)]) ?_
    refine liNil (qThen (stFalse rfl (stSeq (reg ?_))))
    refine lc (.tuple #[(.agg #[(.slice none 0 0)]),(.bool false)]) ?_
    refine lc (.bool false) ?_
    refine lc (.agg #[(.slice none 0 0)]) ?_
    refine liNil (qThen (stFalse rfl (stSeq (reg ?_))))
    refine lc (.tuple #[(.agg #[(vL XA xl xca),(vL XB xm xcb)]),(.bool true)]) ?_
    refine lc (.bool true) ?_
    refine lc (.agg #[(vL XA xl xca),(vL XB xm xcb)]) ?_
    refine liNil (qThen (stTrue rfl (stSeq (reg (li rfl ?_)))))
    refine oAl [(.slice none 0 0),(.slice none 0 0)] fun b13=>?_
    refine li rfl (oSN 10 [(vL XA xl xca),(vL XB xm xcb)] ?_)
    refine liNil (qThen (reg (lm ?_)))
    refine lv (rA 10 [(vL XA xl xca),(vL XB xm xcb)]) ?_
    refine li rfl (opK [4,6,7] _ (fun w hM hO=>(rsLearn_any bs A c its fan leaf nm om XA xca xl XB xcb xm b8 (vL RX (rp) rcX) NX ncX nl OX ocX ol w hO (r1.goS hM [4,6,7]) (hM.keepS [4,6,7] (j:=3) rfl (fun w h=>(h (XA,xl) hsx).1)) (hM.keepS [4,6,7] (j:=3) rfl (fun w h=>(h (XB,xm) hsm).1)) (by assumption) (by assumption) (Nat.le_trans hp0.2.1.1 (by omega)) (Nat.le_trans hp0.2.2.1 (by omega)) (by omega) (by omega) (rfl)).mono ?_))
    rintro e w' ⟨N259,nc259,O259,oc259,rfl,hP⟩
    refine ⟨_,[_,_,_],_,rfl,hP,rfl,?_⟩; clear hP hM hO
    refine liNil (qBlock (qBlock (qThen (reg ?_))))
    refine lv (v:=(vI (i+1))) rAd ?_
    refine lm ?_
    refine liNil (qThen ?_)
    have hnext:StepInv its fan leaf A pvs24 (i+1) rp (nl++without xl its) (ol++keepIn xm its) LX:=hinv.ans hx0 (needA_len hp0) (offA_len hs h40 hp0)
    exact sA (i+1,RX,rcX,rp,N259,nc259,nl++without xl its,O259,oc259,ol++keepIn xm its,LX) (hnext) (by show pvs24.length - (i+1) < pvs24.length - i; omega) (fun w hM=>(hM.pick [0,1,2,3,4,5,6,7,8] rfl rfl))
 ·have hd33:=of_decide_eq_false hc33
  have hil:=hinv.le; have hil1:=hinv.len1; have hil2:=hinv.len2; have hil3:=hinv.len3
  obtain rfl:i=pvs24.length:=by omega
  have hrp':rp.map PV.abs=replyA its fan leaf ps:=hinv.endR heq24
  have hnl':nl=ps.flatMap (needA its):=hinv.endN heq24
  have hol':ol=ps.flatMap (offA its):=hinv.endO heq24
  have hrfit:∀ p∈rp.map PV.abs,p.fit:=by rw [hrp']; exact replyA_fit hs h40 hf hf2 hl1 hok
  have hn32:∀ x∈nl,x.length=32:=by rw [hnl']; exact flat32m fun p hp=>(needA_len (hok p hp)).2
  have ho32:∀ x∈ol,x.length=32:=by rw [hol']; exact flat32m fun p hp=>(offA_len hs h40 (hok p hp)).2
  have henc:=replyA_enc hs h40 hf hf2 hl1 (leaf:=leaf) hok
  have hrl:rp.length=(replyA its fan leaf ps).length:=by rw [← hrp',List.length_map]
  refine stExit (qThenX (qThenX (qBlockX (qThen (stSeq (reg ?_))))))
  refine lc (vP b8 0) ?_
  refine ll 4 ?_
  refine li rfl (opK0 (fun w hM=>(rsEncode_any RX rcX rp w (hM.keep0 (j:=5) rfl (fun _ h=>own3_row h)) ((Ro.and (hM.keep0 (j:=8) rfl (fun w h=>h)) (rb.go0 hM)).imp (fun w h=>hinv.src.ok h.1 h.2)) (hrfit) (by rw [hrp']; exact hsz)).mono ?_))
  rintro e w' ⟨B64,cb64,rfl,hP⟩
  refine ⟨_,_,rfl,hP,?_⟩; clear hP hM
  rw [show rp.map PV.abs=replyA its fan leaf ps from hrp']
  refine lm ?_
  refine lc (vL B64 (encA (replyA its fan leaf ps)) cb64) ?_
  refine lc (.int .i64 0) ?_
  refine la ?_
  refine la ?_
  refine liNil (qThen (stSeq (stSeq ?_)))
  dsimp only [setAll,List.set,List.cons_append,List.nil_append]
  refine reg (lm ?_)
  refine lc (.bool false) ?_
  refine liNil (qThen (stFalse rfl (stSkip (qThen (stSeq (stSeq (reg ?_)))))))
  refine lm ?_
  refine lc (vP bs 0) ?_
  refine lc (vP bs 3) ?_
  refine lv (rW (fun w hM=>At.cell (ra.now hM) 3)) ?_
  refine lc (.bool false) ?_
  refine liNil (qThen (stFalse rfl (stSkip (qThen (stSeq (stSeq (reg ?_)))))))
  refine lc (vP b8 1) ?_
  refine ll 4 ?_
  refine lc (vI ((nl).length)) ?_
  refine lm ?_
  refine liNil (qThen (stBlock (sL (fun j=>j≤nl.length) (fun j=>nl.length - j) (fun j=>[(0,(vP bs 0)),(4,(.slice none 0 0)),(5,(.int .i64 0)),(8,(vP b8 0)),(14,(vL B64 (encA (replyA its fan leaf ps)) cb64)),(84,(vL NX (nl) ncX)),(85,(vI ((nl).length))),(86,(vI j))]) (fun j=>[cSet nm (S++nl.take j),cSet om (S2),cP R24 (pvs24) rc24,cBag (L24),cAt b8 240 [(vL RX (rp) rcX),(vL NX (nl) ncX),(vL OX (ol) ocX)],cP RX (rp) rcX,cS NX (nl) ncX,cS OX (ol) ocX,cBag (LX),cB B64 (encA (replyA its fan leaf ps)) cb64]) 0 (Nat.zero_le _) (fun w hM=>by show Mm _ _ [cSet nm (S++nl.take 0),cSet om (S2),cP R24 (pvs24) rc24,cBag (L24),cAt b8 240 [(vL RX (rp) rcX),(vL NX (nl) ncX),(vL OX (ol) ocX)],cP RX (rp) rcX,cS NX (nl) ncX,cS OX (ol) ocX,cBag (LX),cB B64 (encA (replyA its fan leaf ps)) cb64] w; rw [List.take_zero,List.append_nil]; exact hM) ?_)))
  intro j hj
  show St _ _ _ [(0,(vP bs 0)),(4,(.slice none 0 0)),(5,(.int .i64 0)),(8,(vP b8 0)),(14,(vL B64 (encA (replyA its fan leaf ps)) cb64)),(84,(vL NX (nl) ncX)),(85,(vI ((nl).length))),(86,(vI j))] [cSet nm (S++nl.take j),cSet om (S2),cP R24 (pvs24) rc24,cBag (L24),cAt b8 240 [(vL RX (rp) rcX),(vL NX (nl) ncX),(vL OX (ol) ocX)],cP RX (rp) rcX,cS NX (nl) ncX,cS OX (ol) ocX,cBag (LX),cB B64 (encA (replyA its fan leaf ps)) cb64] _
  refine stSeq (reg (lc (.bool (decide (((j:Nat):Int) < (((nl).length:Nat):Int)))) ?_))
  refine liNil (qThen (stSeq (stCond rfl (fun hc87=>?_) (fun hc87=>?_))))
  ·have hd87:=of_decide_eq_true hc87
   refine stSkip (qThen (stSeq (stBlock (stSeq (reg ?_)))))
   obtain ⟨x0,hx0⟩:∃ ξ,(nl)[j]?=some ξ:=⟨_,List.getElem?_eq_getElem (by omega)⟩
   refine St.rowPtr (fun w hM=>rowOwn (i:=6) rfl w hM) (SS_at hx0) (fun p88 q88 hA88 hc88=>?_)
   refine lv (v:=(vP p88 (q88+j))) (rR 9 hA88) ?_
   refine lv (rW hc88) ?_
   refine la ?_
   refine liNil (qThen (reg (lm ?_)))
   refine lc (vP bs 0) ?_
   refine lc (vP bs 3) ?_
   refine lv (rW (fun w hM=>At.cell (ra.now hM) 3)) ?_
   refine lm ?_
   refine li rfl (opSetPut 0 rfl rfl (by kernel_rfl) rfl rfl rfl rfl (by have h:=hn32 _ (List.mem_of_getElem? hx0); omega) (by rw [List.length_append,List.length_take]; omega) ?_)
   refine liNil (qBlock (qThen (reg ?_)))
   refine lv (v:=(vI (j+1))) rAd ?_
   refine lm ?_
   refine liNil (qThen ?_)
   rw [show S++nl.take j++[x0]=S++nl.take (j+1) from by rw [List.append_assoc,take_snoc hx0]]
   exact sA (j+1) (by show _≤_; omega) (by show nl.length - (j+1) < nl.length - j; omega) (fun w hM=>hM)
  ·have hd87:=of_decide_eq_false hc87
   obtain rfl:j=nl.length:=by omega
   rw [List.take_length]
   refine stExit (qThenX (qThenX (qBlockX (qThen (stSeq (stSeq (reg ?_)))))))
   refine lc (vP b8 2) ?_
   refine ll 4 ?_
   refine lc (vI ((ol).length)) ?_
   refine lm ?_
   refine liNil (qThen (stBlock (sL (fun j=>j≤ol.length) (fun j=>ol.length - j) (fun j=>[(0,(vP bs 0)),(4,(.slice none 0 0)),(5,(.int .i64 0)),(14,(vL B64 (encA (replyA its fan leaf ps)) cb64)),(97,(vL OX (ol) ocX)),(98,(vI ((ol).length))),(99,(vI j))]) (fun j=>[cSet nm (S++nl),cSet om (S2++ol.take j),cP R24 (pvs24) rc24,cBag (L24),cAt b8 240 [(vL RX (rp) rcX),(vL NX (nl) ncX),(vL OX (ol) ocX)],cP RX (rp) rcX,cS NX (nl) ncX,cS OX (ol) ocX,cBag (LX),cB B64 (encA (replyA its fan leaf ps)) cb64]) 0 (Nat.zero_le _) (fun w hM=>by show Mm _ _ [cSet nm (S++nl),cSet om (S2++ol.take 0),cP R24 (pvs24) rc24,cBag (L24),cAt b8 240 [(vL RX (rp) rcX),(vL NX (nl) ncX),(vL OX (ol) ocX)],cP RX (rp) rcX,cS NX (nl) ncX,cS OX (ol) ocX,cBag (LX),cB B64 (encA (replyA its fan leaf ps)) cb64] w; rw [List.take_zero,List.append_nil]; exact hM) ?_)))
   intro j hj
   show St _ _ _ [(0,(vP bs 0)),(4,(.slice none 0 0)),(5,(.int .i64 0)),(14,(vL B64 (encA (replyA its fan leaf ps)) cb64)),(97,(vL OX (ol) ocX)),(98,(vI ((ol).length))),(99,(vI j))] [cSet nm (S++nl),cSet om (S2++ol.take j),cP R24 (pvs24) rc24,cBag (L24),cAt b8 240 [(vL RX (rp) rcX),(vL NX (nl) ncX),(vL OX (ol) ocX)],cP RX (rp) rcX,cS NX (nl) ncX,cS OX (ol) ocX,cBag (LX),cB B64 (encA (replyA its fan leaf ps)) cb64] _
   refine stSeq (reg (lc (.bool (decide (((j:Nat):Int) < (((ol).length:Nat):Int)))) ?_))
   refine liNil (qThen (stSeq (stCond rfl (fun hc100=>?_) (fun hc100=>?_))))
   ·have hd100:=of_decide_eq_true hc100
    refine stSkip (qThen (stSeq (stBlock (stSeq (reg ?_)))))
    obtain ⟨x0,hx0⟩:∃ ξ,(ol)[j]?=some ξ:=⟨_,List.getElem?_eq_getElem (by omega)⟩
    refine St.rowPtr (fun w hM=>rowOwn (i:=7) rfl w hM) (SS_at hx0) (fun p101 q101 hA101 hc101=>?_)
    refine lv (v:=(vP p101 (q101+j))) (rR 9 hA101) ?_
    refine lv (rW hc101) ?_
    refine la ?_
    refine liNil (qThen (reg (lm ?_)))
    refine lc (vP bs 0) ?_
    refine lc (vP bs 4) ?_
    refine lv (rW (fun w hM=>At.cell (ra.now hM) 4)) ?_
    refine lm ?_
    refine li rfl (opSetPut 1 rfl rfl (by kernel_rfl) rfl rfl rfl rfl (by have h:=ho32 _ (List.mem_of_getElem? hx0); omega) (by rw [List.length_append,List.length_take]; omega) ?_)
    refine liNil (qBlock (qThen (reg ?_)))
    refine lv (v:=(vI (j+1))) rAd ?_
    refine lm ?_
    refine liNil (qThen ?_)
    rw [show S2++ol.take j++[x0]=S2++ol.take (j+1) from by rw [List.append_assoc,take_snoc hx0]]
    exact sA (j+1) (by show _≤_; omega) (by show ol.length - (j+1) < ol.length - j; omega) (fun w hM=>hM)
   ·have hd100:=of_decide_eq_false hc100
    obtain rfl:j=ol.length:=by omega
    rw [List.take_length]
    refine stExit (qThenX (qThenX (qBlockX (qThen (stSeq (reg ?_))))))
    refine lm ?_
    refine la ?_
    refine la ?_
    refine liNil (qThen (stRet (sN [(vL B64 (encA (replyA its fan leaf ps)) cb64),(.int .i64 0)] fun w hM=>?_)))
    refine ⟨B64,cb64,rfl,?_⟩
    rw [← hnl',← hol']
    exact (hM.pick [0,1,9] rfl rfl)
theorem rsStep_any (bs:Nat) (A:Option Addr) (c:Nat) (its:List (List UInt8)) (fan leaf:Nat) (nm om:Nat) (A1:Option Addr) (c1:Nat) (D:List UInt8) (S S2:List (List UInt8)) (w:World) (hO:Own [cSet nm (S),cSet om (S2)] w) (r0:Rf [cSet nm (S),cSet om (S2)] w (Vars)) (r1:Rf [cSet nm (S),cSet om (S2)] w (SessAt bs A c its fan leaf nm om)) (r2:Rf [cSet nm (S),cSet om (S2)] w (fun w=>RowIn w A1 (B8 D))) (hs:okSet its) (hn:its.length≤1000) (hcap:its.length≤c) (h40:its.length≤40) (hf:2≤fan) (hf2:fan≤16) (hl1:1≤leaf) (hl2:leaf≤64) (hD:D.length≤1048576) (hS:S.length≤549755813888) (hT:S2.length≤549755813888) :
  Calls Tryz.prog 152 #[(vP bs 0),(vL A1 D c1)] w fun e w'=>∃ (B:Option Addr) (cb:Nat),e = .returned (.tuple #[(vL B ((stepA its fan leaf D).reply) cb),(.int .i64 (stepA its fan leaf D).err)])∧Back [cSet nm (S),cSet om (S2)] w [cSet nm (S++(stepA its fan leaf D).need),cSet om (S2++(stepA its fan leaf D).off),cB B ((stepA its fan leaf D).reply) cb] w':=by
 by_cases h0:D.length=0
 ·have e:stepA its fan leaf D=⟨[],0,[],[]⟩:=by unfold stepA; rw [if_pos (List.eq_nil_of_length_eq_zero h0)]
  refine (rsStep_nil bs A c its fan leaf nm om A1 c1 D S S2 w hO r0 r1 r2 hs hn hcap h40 hf hf2 hl1 hl2 hD hS hT h0).mono ?_
  rintro _ w' ⟨rfl,hB⟩
  rw [e]
  refine ⟨none,0,rfl,?_⟩
  rw [List.append_nil,List.append_nil]
  exact hB.nilOwn 5 1
 ·have hDn:¬ D=[]:=fun e=>h0 (by rw [e]; rfl)
  cases hd:decA D with
  | none =>
    have e:stepA its fan leaf D=⟨[],3,[],[]⟩:=by unfold stepA; rw [if_neg hDn,hd]
    refine (rsStep_bad bs A c its fan leaf nm om A1 c1 D S S2 w hO r0 r1 r2 hs hn hcap h40 hf hf2 hl1 hl2 hD hS hT h0 hd).mono ?_
    rintro _ w' ⟨rfl,hB⟩
    rw [e]
    refine ⟨none,0,rfl,?_⟩
    rw [List.append_nil,List.append_nil]
    exact hB.nilOwn 5 1
  | some ps =>
    by_cases hsz:1048576 < (encA (replyA its fan leaf ps)).length
    ·have e:stepA its fan leaf D=⟨[],2,[],[]⟩:=by unfold stepA; rw [if_neg hDn,hd]; dsimp only; rw [if_pos hsz]
     refine (rsStep_big bs A c its fan leaf nm om A1 c1 D S S2 ps w hO r0 r1 r2 hs hn hcap h40 hf hf2 hl1 hl2 hD hS hT h0 hd hsz).mono ?_
     rintro _ w' ⟨rfl,hB⟩
     rw [e]
     refine ⟨none,0,rfl,?_⟩
     rw [List.append_nil,List.append_nil]
     exact hB.nilOwn 5 1
    ·have e:stepA its fan leaf D=⟨encA (replyA its fan leaf ps),0,ps.flatMap (needA its),ps.flatMap (offA its)⟩:=by unfold stepA; rw [if_neg hDn,hd]; dsimp only; rw [if_neg hsz]
     rw [e]
     exact rsStep_ok bs A c its fan leaf nm om A1 c1 D S S2 ps w hO r0 r1 r2 hs hn hcap h40 hf hf2 hl1 hl2 hD hS hT h0 hd (by omega)
end
theorem psok1 {its lo hi:_} {w:World}:PsOk [sumP its lo hi] w:=fun p hp r hr=>by rw [List.mem_singleton.1 hp] at hr; cases hr
theorem row_none {w:World} {α:Type} {f:α→Value} {l:List α} (h:RowIn w none (l.map f)):l=[]:=by
 cases l with
 | nil=>rfl
 | cons x l=>obtain ⟨b,o,h1,_⟩:=h 0 _ rfl; cases h1
theorem rsClone_any (A:Option Addr) (c:Nat) (l:List (List UInt8)) (w:World) (r0:Rf [] w (fun w=>RowIn w A (SS l))) (hl4:l.length≤4294967296) :
  Calls Tryz.prog 45 #[(vL A l c)] w fun e w'=>∃ (B:Option Addr) (cb:Nat),e = .returned (vL B l cb)∧Back [] w [cS B l cb] w':=by
 refine sE1 Tryz.func45 8 (Mm.start w []) ?_
 refine stSeq (reg (la ?_))
 refine liNil (qThen (stSeq (stSeq (reg (lm ?_)))))
 refine lv (v:=(.bool A.isNone)) (by cases A <;> exact rClosed fun _=>by kernel_rfl) ?_
 refine liNil (qThen (stCond rfl (fun hc4=>?_) (fun hc4=>?_)))
 ·obtain rfl:A=none:=by cases A with | none=>rfl | some _=>cases hc4
  obtain rfl:l=[]:=row_none r0.here
  refine St.mem (fun w hM=>hM.nilOwn 9 1) ?_
  refine stSeq (reg (la ?_))
  refine liNil (qThen (stRet (qThenR (sN [(.slice none 0 0)] fun w hM=>?_))))
  exact ⟨none,0,rfl,hM⟩
 ·refine stSkip (qThen (stSeq (reg (li rfl (oNw 0 9 [] fun b5=>?_)))))
  refine lm ?_
  refine li rfl (opMem (fun w hM=>hM.toOwn0 0 rfl 1) ?_)
  refine opAppend el_strC 0 (SS l) rfl rfl (by kernel_rfl) rfl rfl rfl (by simp) (fun w hM=>CellsAt.of_row (r0.now hM)) (SS_one) (by omega) ((l).length) (by first | exact (List.length_append ..).symm | (simp; done) | (simp; omega)) (SS (l)) (by simp [SS]) (fun A7 c7=>?_)
  refine la ?_
  refine liNil (qThen (stRet (sN [(vL A7 (l) c7)] fun w hM=>?_)))
  exact ⟨A7,c7,rfl,hM⟩
theorem rsNew_ok (A : Option Addr) (c : Nat) (l : List (List UInt8)) (fan : Nat) (leaf : Nat) (w : World) (r0 : Rf [] w (fun w => RowIn w A (SS l))) (hl4 : l.length ≤ 4294967296) (hp : okP (fan : Int) (leaf : Int) = true) (he : setE l = 0) :
  Calls Tryz.prog 44 #[(vL A l c), (.agg #[(vI fan), (vI leaf)])] w fun e w' => ∃ (bs : Nat) (A2 : Option Addr) (c2 : Nat) (nm : Nat) (om : Nat), e = .returned (.tuple #[(vP bs 0), (.int .i64 0)]) ∧ Back [] w [cAt bs 149 [(vL A2 l c2), (vI fan), (vI leaf), (.map (some nm)), (.map (some om))], cS A2 l c2, cSet nm ([]), cSet om ([])] w' := by
 refine sE2 Tryz.func44 22 (Mm.start w []) ?_
 refine stSeq (reg (li rfl (oBx [(vI fan),(vI leaf)] fun b3=>?_)))
 refine la ?_
 refine la ?_
 refine liNil (qThen (stSeq (stSeq (reg (lv (rA 0 [(vI fan),(vI leaf)]) ?_)))))
 refine li rfl (opK0 (fun w hM=>(rsPvalid_any ((fan:Nat):Int) ((leaf:Nat):Int) w ).mono ?_))
 rintro e w' ⟨rfl,hP⟩
 refine ⟨_,_,rfl,hP,?_⟩; clear hP hM
 refine lc (.bool (!(okP ((fan:Nat):Int) ((leaf:Nat):Int)))) ?_
 refine liNil (qThen ?_)
 refine stFalseK rfl (by simp [hp]) ?_
 refine stSkip (qThen (stSeq (stSeq (reg (lm ?_)))))
 refine li rfl (opK0 (fun w hM=>(rsCheck_any A c l w (r0.go0 hM) (by omega)).mono ?_))
 rintro e w' ⟨rfl,hP⟩
 refine ⟨_,_,rfl,hP,?_⟩; clear hP hM
 refine la ?_
 refine liNil (qThen (stSeq (reg (lm ?_))))
 refine lc (.bool (((setE l):Int) != 0)) ?_
 refine liNil (qThen (stFalseK rfl (by simp [he]) ?_))
 refine stSkip (qThen (stCut (ι:=Option Addr × Nat × Nat × Nat × Nat) (fun _=>True) (fun (B16,cb16,m18,m19,b21)=>[(0,(vL A l c)),(1,(.agg #[(vI fan),(vI leaf)])),(3,(vP b3 0)),(4,(vP b21 0)),(5,(.int .i64 0)),(7,(.agg #[(vI fan),(vI leaf)])),(8,(.bool (okP ((fan:Nat):Int) ((leaf:Nat):Int)))),(9,(.bool (!(okP ((fan:Nat):Int) ((leaf:Nat):Int))))),(10,(vL A l c)),(11,(.int .i64 (setE l))),(6,(.int .i64 (setE l))),(12,(.int .i64 (setE l))),(13,(.bool (((setE l):Int) != 0))),(15,(vL A l c)),(17,(.agg #[(vI fan),(vI leaf)])),(16,(vL B16 l cb16)),(18,(.map (some m18))),(19,(.map (some m19))),(20,(.agg #[(vL B16 l cb16),(vI fan),(vI leaf),(.map (some m18)),(.map (some m19))])),(21,(vP b21 0))]) (fun (B16,cb16,m18,m19,b21)=>[cAt b3 97 [(vI fan),(vI leaf)],cS B16 l cb16,cSet m18 ([]),cSet m19 ([]),cAt b21 149 [(vL B16 l cb16),(vI fan),(vI leaf),(.map (some m18)),(.map (some m19))]]) ?_ ?_))
 ·refine anyBegin _ 9 (by kernel_rfl) (fun _ h=>h) ?_
  refine am 0 ?_
  refine av 2 _ rfl (rA 0 [(vI fan),(vI leaf)]) ?_
  refine anyThree (i:=1) (j:=3) (k:=4) (by kernel_rfl) rfl rfl rfl rfl rfl rfl ?_ ?_ ?_
  ·refine opK0 (fun w hM=>(rsClone_any A c l w (r0.go0 hM) (by omega)).mono ?_)
   rintro e w' ⟨B16,cb16,rfl,hP⟩
   refine ⟨_,_,rfl,hP,?_⟩; clear hP hM
   dsimp only [setAll,List.set,List.cons_append,List.nil_append]
   refine anyNext _ (fun _ h=>h.pick [0] rfl rfl) (fun _ h=>h) ?_
   refine anyTwo (i:=3) (j:=4) (by kernel_rfl) rfl rfl rfl rfl ?_ ?_
   ·refine opMakeSet rfl rfl (by kernel_rfl) (fun m18=>?_)
    refine anyNext _ (fun _ h=>h.pick [0,1] rfl rfl) (fun _ h=>h) ?_
    refine a1 4 ?_
    refine opMakeSet rfl rfl (by kernel_rfl) (fun m19=>?_)
    refine anyNext _ (fun _ h=>h.pick [0,1,2] rfl rfl) (fun _ h=>h) ?_
    refine ac 5 (.agg #[(vL B16 l cb16),(vI fan),(vI leaf),(.map (some m18)),(.map (some m19))]) ?_
    refine a1 6 ?_
    refine oBx [(vL B16 l cb16),(vI fan),(vI leaf),(.map (some m18)),(.map (some m19))] fun b21=>?_
    refine anyNext _ (fun _ h=>h.pick [0,1,2,3] rfl rfl) (fun _ h=>h) ?_
    refine aa 7 ?_
    refine aa 8 ?_
    refine anyDone (by kernel_rfl) ?_
    exact qThen (sM (B16,cb16,m18,m19,b21) trivial (fun _ h=>h))
   ·refine opMakeSet rfl rfl (by kernel_rfl) (fun m19=>?_)
    refine anyNext _ (fun _ h=>h.pick [0,1] rfl rfl) (fun _ h=>h) ?_
    refine a1 3 ?_
    refine opMakeSet rfl rfl (by kernel_rfl) (fun m18=>?_)
    refine anyNext _ (fun _ h=>h.pick [0,1,2] rfl rfl) (fun _ h=>h) ?_
    refine ac 5 (.agg #[(vL B16 l cb16),(vI fan),(vI leaf),(.map (some m18)),(.map (some m19))]) ?_
    refine a1 6 ?_
    refine oBx [(vL B16 l cb16),(vI fan),(vI leaf),(.map (some m18)),(.map (some m19))] fun b21=>?_
    dsimp only [setAll,List.set,List.cons_append,List.nil_append]
    refine anyNext _ (fun _ h=>h.pick [0,1,2,3] rfl rfl) (fun _ h=>h) ?_
    refine aa 7 ?_
    refine aa 8 ?_
    refine anyDone (by kernel_rfl) ?_
    exact qThen (sM (B16,cb16,m18,m19,b21) trivial (fun _ h=>h.pick [0,1,3,2,4] rfl rfl))
  ·refine opMakeSet rfl rfl (by kernel_rfl) (fun m18=>?_)
   refine anyNext _ (fun _ h=>h.pick [0] rfl rfl) (fun _ h=>h) ?_
   refine anyTwo (i:=1) (j:=4) (by kernel_rfl) rfl rfl rfl rfl ?_ ?_
   ·refine opK0 (fun w hM=>(rsClone_any A c l w (r0.go0 hM) (by omega)).mono ?_)
    rintro e w' ⟨B16,cb16,rfl,hP⟩
    refine ⟨_,_,rfl,hP,?_⟩; clear hP hM
    refine anyNext _ (fun _ h=>h.pick [0,1] rfl rfl) (fun _ h=>h) ?_
    refine a1 4 ?_
    refine opMakeSet rfl rfl (by kernel_rfl) (fun m19=>?_)
    refine anyNext _ (fun _ h=>h.pick [0,1,2] rfl rfl) (fun _ h=>h) ?_
    refine ac 5 (.agg #[(vL B16 l cb16),(vI fan),(vI leaf),(.map (some m18)),(.map (some m19))]) ?_
    refine a1 6 ?_
    refine oBx [(vL B16 l cb16),(vI fan),(vI leaf),(.map (some m18)),(.map (some m19))] fun b21=>?_
    refine anyNext _ (fun _ h=>h.pick [0,1,2,3] rfl rfl) (fun _ h=>h) ?_
    refine aa 7 ?_
    refine aa 8 ?_
    refine anyDone (by kernel_rfl) ?_
    exact qThen (sM (B16,cb16,m18,m19,b21) trivial (fun _ h=>h.pick [0,2,1,3,4] rfl rfl))
   ·refine opMakeSet rfl rfl (by kernel_rfl) (fun m19=>?_)
    refine anyNext _ (fun _ h=>h.pick [0,1] rfl rfl) (fun _ h=>h) ?_
    refine a1 1 ?_
    refine opK0 (fun w hM=>(rsClone_any A c l w (r0.go0 hM) (by omega)).mono ?_)
    rintro e w' ⟨B16,cb16,rfl,hP⟩
    refine ⟨_,_,rfl,hP,?_⟩; clear hP hM
    dsimp only [setAll,List.set,List.cons_append,List.nil_append]
    refine anyNext _ (fun _ h=>h.pick [0,1,2] rfl rfl) (fun _ h=>h) ?_
    refine ac 5 (.agg #[(vL B16 l cb16),(vI fan),(vI leaf),(.map (some m18)),(.map (some m19))]) ?_
    refine a1 6 ?_
    refine oBx [(vL B16 l cb16),(vI fan),(vI leaf),(.map (some m18)),(.map (some m19))] fun b21=>?_
    refine anyNext _ (fun _ h=>h.pick [0,1,2,3] rfl rfl) (fun _ h=>h) ?_
    refine aa 7 ?_
    refine aa 8 ?_
    refine anyDone (by kernel_rfl) ?_
    exact qThen (sM (B16,cb16,m18,m19,b21) trivial (fun _ h=>h.pick [0,3,1,2,4] rfl rfl))
  ·refine opMakeSet rfl rfl (by kernel_rfl) (fun m19=>?_)
   refine anyNext _ (fun _ h=>h.pick [0] rfl rfl) (fun _ h=>h) ?_
   refine anyTwo (i:=1) (j:=3) (by kernel_rfl) rfl rfl rfl rfl ?_ ?_
   ·refine opK0 (fun w hM=>(rsClone_any A c l w (r0.go0 hM) (by omega)).mono ?_)
    rintro e w' ⟨B16,cb16,rfl,hP⟩
    refine ⟨_,_,rfl,hP,?_⟩; clear hP hM
    refine anyNext _ (fun _ h=>h.pick [0,1] rfl rfl) (fun _ h=>h) ?_
    refine a1 3 ?_
    refine opMakeSet rfl rfl (by kernel_rfl) (fun m18=>?_)
    refine anyNext _ (fun _ h=>h.pick [0,1,2] rfl rfl) (fun _ h=>h) ?_
    refine ac 5 (.agg #[(vL B16 l cb16),(vI fan),(vI leaf),(.map (some m18)),(.map (some m19))]) ?_
    refine a1 6 ?_
    refine oBx [(vL B16 l cb16),(vI fan),(vI leaf),(.map (some m18)),(.map (some m19))] fun b21=>?_
    refine anyNext _ (fun _ h=>h.pick [0,1,2,3] rfl rfl) (fun _ h=>h) ?_
    refine aa 7 ?_
    refine aa 8 ?_
    refine anyDone (by kernel_rfl) ?_
    exact qThen (sM (B16,cb16,m18,m19,b21) trivial (fun _ h=>h.pick [0,2,3,1,4] rfl rfl))
   ·refine opMakeSet rfl rfl (by kernel_rfl) (fun m18=>?_)
    dsimp only [setAll,List.set,List.cons_append,List.nil_append]
    refine anyNext _ (fun _ h=>h.pick [0,1] rfl rfl) (fun _ h=>h) ?_
    refine a1 1 ?_
    refine opK0 (fun w hM=>(rsClone_any A c l w (r0.go0 hM) (by omega)).mono ?_)
    rintro e w' ⟨B16,cb16,rfl,hP⟩
    refine ⟨_,_,rfl,hP,?_⟩; clear hP hM
    refine anyNext _ (fun _ h=>h.pick [0,1,2] rfl rfl) (fun _ h=>h) ?_
    refine ac 5 (.agg #[(vL B16 l cb16),(vI fan),(vI leaf),(.map (some m18)),(.map (some m19))]) ?_
    refine a1 6 ?_
    refine oBx [(vL B16 l cb16),(vI fan),(vI leaf),(.map (some m18)),(.map (some m19))] fun b21=>?_
    refine anyNext _ (fun _ h=>h.pick [0,1,2,3] rfl rfl) (fun _ h=>h) ?_
    refine aa 7 ?_
    refine aa 8 ?_
    refine anyDone (by kernel_rfl) ?_
    exact qThen (sM (B16,cb16,m18,m19,b21) trivial (fun _ h=>h.pick [0,3,2,1,4] rfl rfl))
 ·rintro ⟨B16,cb16,m18,m19,b21⟩ -
  dsimp only
  refine stRet (stEnd [(vP b21 0),(.int .i64 0)] rfl ⟨rfl,rfl,trivial⟩ (fun w hM=>?_))
  exact ⟨b21,B16,cb16,m18,m19,rfl,(hM.pick [4,1,2,3] rfl rfl)⟩
theorem rsStart_any (bs:Nat) (A:Option Addr) (c:Nat) (its:List (List UInt8)) (fan leaf:Nat) (nm om:Nat) (w:World) (r0:Rf [] w (Vars)) (r1:Rf [] w (SessAt bs A c its fan leaf nm om)) (hs:okSet its) (hn:its.length≤1000) (hcap:its.length≤c) (h40:its.length≤40) :
  Calls Tryz.prog 176 #[(vP bs 0)] w fun e w'=>∃ (B:Option Addr) (cb:Nat),e = .returned (vL B (encA [sumA its [] []]) cb)∧Back [] w [cB B (encA [sumA its [] []]) cb] w':=by
 have ra:=r1.imp (fun _ h=>h.1)
 have rb:=r1.imp (fun _ h=>h.2)
 refine sE1 Tryz.func176 17 (Mm.start w []) ?_
 refine stSeq (reg (la ?_))
 refine liNil (qThen (stSeq (reg (lc (.agg #[(.string ⟨#[]⟩),(.string ⟨#[]⟩)]) ?_))))
 refine lm ?_
 refine lc (.agg #[(.string ⟨#[]⟩),(.string ⟨#[]⟩)]) ?_
 refine li rfl (opK0 (fun w hM=>(rsSum_any bs A c its fan leaf nm om [] [] w (r0.go0 hM) (r1.go0 hM) (by assumption) (by assumption) (by assumption)).mono ?_))
 rintro e w' ⟨rfl,hP⟩
 refine ⟨_,_,rfl,hP,?_⟩; clear hP hM
 refine lc (.iface 248 (.agg #[(vI ((inL its [] []).length)),(vS (fpB (inL its [] [])))])) ?_
 refine lc (.agg #[(.string ⟨#[]⟩),(.string ⟨#[]⟩),(.iface 248 (.agg #[(vI ((inL its [] []).length)),(vS (fpB (inL its [] [])))]))]) ?_
 refine li rfl (oNw 1 246 [(.string ⟨#[]⟩),(.string ⟨#[]⟩),(.iface 248 (.agg #[(vI ((inL its [] []).length)),(vS (fpB (inL its [] [])))]))] fun b12=>?_)
 refine li rfl (opK0 (fun w hM=>(rsEncode_any (some ⟨b12,0,none⟩) 1 ([sumP its [] []]) w (hM.keep0 (j:=0) rfl (fun _ h=>rowAtI h rfl)) ((r0.go0 hM).imp (fun w _=>psok1)) (fun p hp=>by rw [List.mem_singleton.1 hp]; exact (start_ok h40).1) ((start_ok h40).2.1)).mono ?_))
 rintro e w' ⟨B13,cb13,rfl,hP⟩
 refine ⟨_,_,rfl,hP,?_⟩; clear hP hM
 refine lm ?_
 refine lc (vL B13 (encA (([sumP its [] []]).map PV.abs)) cb13) ?_
 refine lc (.int .i64 0) ?_
 refine la ?_
 refine la ?_
 refine liNil (qThen (stSeq (reg (lm ?_))))
 refine la ?_
 refine liNil (qThen (stRet (sN [(vL B13 (encA (([sumP its [] []]).map PV.abs)) cb13)] fun w hM=>?_)))
 exact ⟨B13,cb13,rfl,(hM.pick [1] rfl rfl)⟩
section
open Go.RowKit Go.Sort Go.Shelf
open Go.Maps (setOf)
theorem sort_keys {S ss:List Bs} {D:DataW Unit} (hD:D=setOf (DataW.lit (.bool true)) (S.map Lit.string)) (hk:∀ p,∀ es,D = .map es→p∈es→∃ x,p.1=Lit.string x) (hp:ss.Perm (strKeys D)):ss.mergeSort (fun x y=>decide (x≤y))=withL [] S:=by
 have hlit:∀ x∈S.map Lit.string,WideAt.IsKeyLit x:=by intro y hy; obtain ⟨q,_,rfl⟩:=List.mem_map.1 hy; exact True.intro
 have hasc:=withL_asc0 S
 have hnd:(withL [] S).Nodup:=hasc.imp fun {a b} h e=>by subst e; exact b_lt_irrefl h
 obtain ⟨es,he,hpw⟩:=Maps.tidy_setOf (DataW.lit (H:=Unit) (.bool true)) (S.map Lit.string) hlit
 have hq:(withL [] S).Perm (strKeys D):=by
  rw [hD,he]
  refine perm_strKeys hpw (fun p hp=>hk p es (hD.trans he) hp) hnd fun x=>?_
  rw [← he,Maps.has_setOf _ _ _ hlit,mem_withL0,List.any_map,List.any_eq_true]
  constructor
  ·intro h
   exact ⟨x,h,WideAt.sameKey_self (a:=Lit.string x) True.intro⟩
  ·rintro ⟨q,h1,h2⟩
   have:=WideAt.sameKey_eq (show (Lit.string q).sameKey (Lit.string x)=true from h2)
   injection this with this
   rw [← this]
   exact h1
 have hps:ss.Perm (withL [] S):=hp.trans hq.symm
 have hm:=mergeSort_of_perm hps
 have hsorted:(withL [] S).mergeSort (fun x y=>decide (x≤y))=withL [] S:=by
  have tr:∀ a b c:Bs,decide (a≤b)=true→decide (b≤c)=true→decide (a≤c)=true:=fun a b c h1 h2=>by simp only [decide_eq_true_eq] at *; exact List.le_trans h1 h2
  have tot:∀ a b:Bs,(decide (a≤b) || decide (b≤a))=true:=fun a b=>by simp only [Bool.or_eq_true,decide_eq_true_eq]; exact List.le_total a b
  exact List.Perm.eq_of_pairwise (le:=fun a b=>decide (a≤b)=true) (fun a b _ _ h1 h2=>List.le_antisymm (by simpa using h1) (by simpa using h2)) (List.pairwise_mergeSort tr tot _) (hasc.imp fun {a b} h=>by simpa using List.le_of_lt h) (List.mergeSort_perm _ _)
 exact hm.trans hsorted
theorem own_newR {w w':World} {e:TypeId} {v:Value} {n:Nat} {xs:List Value} (hf:Fr [] w w') (ho:w'.ownsRow w.heap.size e 1 v n xs):∃ A c,v = .slice A n c∧Back [] w [cOwn e 1 A n c xs] w':=by
 obtain ⟨hl,h⟩:=ho
 rcases h with ⟨rfl,rfl⟩ | ⟨g,cap,cur,rfl,hge,h1,h2,h3,h4,h5⟩
 ·refine ⟨none,0,rfl,(Mm.start w []).push (c:=cOwn e 1 none 0 0 xs) hf ?_ (by simp [cOwn,ownFp]) (by simp [cOwn,ownFp])⟩
  exact ⟨hl,.inl ⟨rfl,rfl⟩⟩
 ·refine ⟨some ⟨g,0,none⟩,cap,rfl,(Mm.start w []).push (c:=cOwn e 1 (some ⟨g,0,none⟩) n cap xs) hf ?_ (by simp [cOwn,ownFp]; exact hge) (by simp [cOwn,ownFp])⟩
  exact ⟨hl,.inr ⟨g,cap,cur,rfl,Nat.zero_le _,h1,h2,h3,h4,h5⟩⟩
theorem rsKeys_any (nm:Nat) (w:World) :
  Calls Tryz.prog 108 #[(.map (some nm))] w fun e w'=>∃ (bk:Nat),e = .returned (.func (.func 156) #[] #[(vP bk 0)])∧Back [] w [cAt bk 147 [(.map (some nm))]] w':=by
 have h:=(callsIn_wide (n:=5)).1 (AnyZ.keys_in Tryz.keysA Fence.wide 5 trivial rfl (some nm) w)
 change Calls Tryz.prog 108 _ _ _ at h
 refine h.mono ?_
 rintro e w' ⟨rfl,rfl⟩
 exact ⟨w.heap.size,rfl,(Mm.start w []).push (c:=cAt w.heap.size 147 [.map (some nm)]) ((Fr.refl _ _).alloc _) (At.new w _ _) (by simp [cAt]) (by simp [cAt])⟩
theorem sorts_in (m:Nat):AnyZ.SortsIn Tryz.prog Tryz.sortedA_ren Fence.wide m :=
 ⟨fun blk off cap ss W hH hblk hsz=>callsIn_wide.2 (Tryz.slices_Sort_string blk off cap ss W hH hblk hsz),
  fun p cap W=>callsIn_wide.2 (Tryz.slices_Sort_string_none p cap W)⟩
theorem rsSorted_any (bk nm:Nat) (S:List (List UInt8)) (w:World) (r0:Rf [] w (fun w=>At w bk 147 [(.map (some nm))])) (r1:Rf [] w (fun w=>SetAt w nm S)) (hS:S.length≤1099511627776) :
  Calls Tryz.prog 107 #[(.func (.func 156) #[] #[(vP bk 0)])] w fun e w'=>∃ (B:Option Addr) (cb:Nat),e = .returned (vL B (withL [] S) cb)∧Back [] w [cS B (withL [] S) cb] w':=by
 have hm:w.cell? ⟨bk,0,none⟩=some (.map (some nm)):=by have h:=r0.here; rw [h.cell]; rfl
 have hBm:bk < w.heap.size:=by have h:=r0.here; exact h.lt
 have hown:SetAt w nm S:=r1.here
 have hlen:Maps.size (setOf (DataW.lit (H:=Unit) (.bool true)) (S.map Lit.string))≤S.length:=by
  have hlit:∀ x∈S.map Lit.string,WideAt.IsKeyLit x:=by intro y hy; obtain ⟨q,_,rfl⟩:=List.mem_map.1 hy; exact True.intro
  rw [Maps.size_setOf _ _ hlit]
  have key:∀ (xs L:List Lit),(xs.foldl Maps.addKey L).length≤L.length+xs.length:=by
   intro xs
   induction xs with
   | nil=>intro L; exact Nat.le_refl _
   | cons x xs ih =>
     intro L
     refine Nat.le_trans (ih _) ?_
     unfold Maps.addKey
     split <;> simp only [List.length_append,List.length_cons,List.length_nil] <;> omega
  refine Nat.le_trans (key _ _) ?_
  simp
 have hseq:SeqGives Fence.wide 2 Tryz.prog 156 #[.pointer (some ⟨bk,0,none⟩)] encStr (fun ss=>ss.Perm (strKeys (setOf (DataW.lit (H:=Unit) (.bool true)) (S.map Lit.string)))) (Maps.size (setOf (DataW.lit (H:=Unit) (.bool true)) (S.map Lit.string))) w :=
  AnyZ.keys_gives (ρ:=Tryz.keysA_ren) { Tryz.keysA with } Fence.wide _ trivial rfl (by omega) bk nm S.length _ w hBm hm hown
 have cS:=AnyZ.sorted_in Tryz.sortedA Fence.wide 5 trivial trivial trivial trivial rfl (by omega) (sorts_in _) (enters_of Tryz.func132 (by kernel_rfl) rfl) 156 #[.pointer (some ⟨bk,0,none⟩)] trivial (enters_of Tryz.func156 (by kernel_rfl) rfl) _ _ (by unfold maxLen; omega) (by omega) _ hseq
 have hC:=(callsIn_wide (n:=5)).1 cS
 change Calls Tryz.prog 107 _ _ _ at hC
 refine hC.mono ?_
 rintro e w' ⟨v,ss,rfl,hS,hrow,hnil,hb⟩
 have hes:=World.ownsMap.keysOf hown
 have he:=sort_keys (S:=S) (ss:=ss) rfl (fun p es e hp=>by
  obtain ⟨es',he',hk'⟩:=hes
  rw [he'] at e
  injection e with e
  obtain ⟨u,hu⟩:=hk' p (e▸hp)
  obtain ⟨x,_,hx,_⟩:=Maps.keyOf_str Tryz.underlying9 hu
  exact ⟨x,hx⟩) hS
 have hl:ss.length=(withL [] S).length:=by rw [← he,List.length_mergeSort]
 rw [he,hl] at hrow
 obtain ⟨A,c,rfl,hB⟩:=own_newR (Fr.of_below hb []) hrow
 exact ⟨A,c,rfl,hB⟩
theorem rsNeed_any (bs:Nat) (A:Option Addr) (c:Nat) (its:List (List UInt8)) (fan leaf:Nat) (nm om:Nat) (S:List (List UInt8)) (w:World) (r0:Rf [] w (fun w=>At w bs 149 [(vL A its c),(vI fan),(vI leaf),(.map (some nm)),(.map (some om))])) (r1:Rf [] w (fun w=>SetAt w nm S)) (hS:S.length≤1099511627776) :
  Calls Tryz.prog 60 #[(vP bs 0)] w fun e w'=>∃ (B:Option Addr) (cb:Nat),e = .returned (vL B (withL [] S) cb)∧Back [] w [cS B (withL [] S) cb] w':=by
 refine sE1 Tryz.func60 9 (Mm.start w []) ?_
 refine stSeq (reg (la ?_))
 refine liNil (qThen (stSeq (reg (lm ?_))))
 refine lc (vP bs 0) ?_
 refine lc (vP bs 3) ?_
 refine lv (rW (fun w hM=>At.cell (r0.now hM) 3)) ?_
 refine li rfl (opK0 (fun w hM=>(rsKeys_any nm w ).mono ?_))
 rintro e w' ⟨bk7,rfl,hP⟩
 refine ⟨_,_,rfl,hP,?_⟩; clear hP hM
 refine li rfl (opK0 (fun w hM=>(rsSorted_any bk7 nm S w (hM.keep0 (j:=0) rfl (fun _ h=>h)) (r1.go0 hM) (by omega)).mono ?_))
 rintro e w' ⟨B8,cb8,rfl,hP⟩
 refine ⟨_,_,rfl,hP,?_⟩; clear hP hM
 refine la ?_
 refine liNil (qThen (stRet (sN [(vL B8 (withL [] S) cb8)] fun w hM=>?_)))
 exact ⟨B8,cb8,rfl,(fun (w:World) (h:Mm _ _ _ w)=>Mm.sub h (.cons _ (.cons_cons _ .slnil))) w hM⟩
theorem rsOffer_any (bs:Nat) (A:Option Addr) (c:Nat) (its:List (List UInt8)) (fan leaf:Nat) (nm om:Nat) (S:List (List UInt8)) (w:World) (r0:Rf [] w (fun w=>At w bs 149 [(vL A its c),(vI fan),(vI leaf),(.map (some nm)),(.map (some om))])) (r1:Rf [] w (fun w=>SetAt w om S)) (hS:S.length≤1099511627776) :
  Calls Tryz.prog 61 #[(vP bs 0)] w fun e w'=>∃ (B:Option Addr) (cb:Nat),e = .returned (vL B (withL [] S) cb)∧Back [] w [cS B (withL [] S) cb] w':=by
 refine sE1 Tryz.func61 9 (Mm.start w []) ?_
 refine stSeq (reg (la ?_))
 refine liNil (qThen (stSeq (reg (lm ?_))))
 refine lc (vP bs 0) ?_
 refine lc (vP bs 4) ?_
 refine lv (rW (fun w hM=>At.cell (r0.now hM) 4)) ?_
 refine li rfl (opK0 (fun w hM=>(rsKeys_any om w ).mono ?_))
 rintro e w' ⟨bk7,rfl,hP⟩
 refine ⟨_,_,rfl,hP,?_⟩; clear hP hM
 refine li rfl (opK0 (fun w hM=>(rsSorted_any bk7 om S w (hM.keep0 (j:=0) rfl (fun _ h=>h)) (r1.go0 hM) (by omega)).mono ?_))
 rintro e w' ⟨B8,cb8,rfl,hP⟩
 refine ⟨_,_,rfl,hP,?_⟩; clear hP hM
 refine la ?_
 refine liNil (qThen (stRet (sN [(vL B8 (withL [] S) cb8)] fun w hM=>?_)))
 exact ⟨B8,cb8,rfl,(fun (w:World) (h:Mm _ _ _ w)=>Mm.sub h (.cons _ (.cons_cons _ .slnil))) w hM⟩
end
end Go.Proofs.YtdflaaiondmjdaaGreatDoor
