/- Part 3 of a proof: what its row uses. -/
import Derived.Test.YtdflaaiondmjdaaGreatDoorQs02
set_option maxRecDepth 100000
set_option maxHeartbeats 1000000
namespace Go.Proofs.YtdflaaiondmjdaaGreatDoor
open Go.RowKit
section
def cRdB (br : Nat) (X : Option Addr × Nat) (r : Rd) : Ch where
 fp := br :: ownFp X.1
 holds w := RdAt X w br r
 ok w w' hb h := by
  obtain ⟨A, c, rfl, h1, h2⟩ := h
  exact ⟨A, c, rfl, (hb br (by simp)).trans h1, (cOwn 5 1 A r.D.length c (B8 r.D)).ok w w' (fun b hb' => hb b (by simp [cOwn] at hb'; simp [hb'])) h2⟩
 lt w h b hb := by
  obtain ⟨A, c, rfl, h1, h2⟩ := h
  rcases List.mem_cons.1 hb with rfl | hb
  ·exact h1.lt
  ·exact (own_fp h2).2 b hb
theorem cRdB_nodup {w:World} {br:Nat} {X:Option Addr × Nat} {r:Rd} (h:RdAt X w br r):(cRdB br X r).fp.Nodup:=by
 obtain ⟨A,c,rfl,h1,h2⟩:=h
 have hne:=own_at_ne h2 h1 (by decide)
 cases A with
 | none=>simp [cRdB,ownFp]
 | some a =>
   have e:=(own_fp h2).1
   rw [e] at hne
   simp [ownFp] at hne
   simp [cRdB,ownFp,hne]
section
variable {w0 w w' : World} {F : List Nat} {cs : List Ch} {X : Option Addr × Nat} {r r' : Rd} {br : Nat}
theorem Mm.swapRdB (h:Mm w0 F cs w) (i:Nat) (hi:cs[i]?=some (cRdB br X r)) (hf:Fr [br] w w') (hr:RdAt X w' br r'):Mm w0 F (cs.set i (cRdB br X r')) w' :=
 h.swap i hi (c':=cRdB br X r') (hf.mono fun x hx=>.inl (by simp [cRdB] at hx ⊢; exact .inl hx)) hr (fun b hb=>.inl hb) (cRdB_nodup hr)
theorem Mm.pushRd {A2:Option Addr} {c2:Nat} (h:Mm w0 F cs w) (hf:Fr [] w w') (hr:RdAt (A2,c2) w' br r) (h1:w.heap.size≤br) (ho:w'.ownsRow w.heap.size 5 1 (.slice A2 r.D.length c2) r.D.length (B8 r.D)):Mm w0 F (cs++[cRdB br (A2,c2) r]) w':=by
 refine h.push (c:=cRdB br (A2,c2) r) hf hr (fun b hb=>?_) (cRdB_nodup hr)
 rcases List.mem_cons.1 hb with rfl | hb
 ·exact h1
 ·rcases ho.2 with ⟨hv,_⟩ | ⟨g,cap,cur,hv,hg,_⟩
  ·simp only [Value.slice.injEq] at hv
   obtain ⟨rfl,_⟩:=hv
   simp [ownFp] at hb
  ·simp only [Value.slice.injEq] at hv
   obtain ⟨rfl,_⟩:=hv
   simp [ownFp] at hb
   omega
end
theorem wrap_nat (n:Nat) (h:n≤4294967296):IntKind.i64.wrap (n:Int)=(n:Int):=by
 exact wrap64_id (by omega) (by omega)
theorem run_makeU (n:Nat) (hn:n≤3072) (w:World):(Instr.makeSlice 172 (.int .u64 (n:Int)) (.int .u64 (n:Int))).run Tryz.prog w = .ok (.slice (some ⟨w.heap.size,0,none⟩) n n) (w.alloc (.cells (tcells (List.replicate n BC.zero)).toArray 183)):=by
 have hinfo:(Tryz.prog.info? 183).map (fun i=>(i.zero,i.size,i.bytes))=some (some (.agg BC.zero.cells.toArray),34,48):=by kernel_rfl
 obtain ⟨i,hi,hz,hsz,hby⟩:=info_parts hinfo
 have:=run_make (P:=Tryz.prog) w 172 183 i _ Tryz.underlying172 hi hz .u64 .u64 (n:Int) (n:Int) (by omega) (by omega) (by rw [hby]; omega) (by omega)
 rw [hsz,Int.toNat_natCast] at this
 rw [this,← made_zero]
 rfl
theorem opMakeCells {Q:Exit→Act→World→Prop} {nt:Nat} {w0:World} {F:List Nat} {E:Env} {cs:List Ch} {o:Oper} {d:Tmp} {K:Act→World→Prop} {x y:Operand} (n:Nat) (hn:n≤3072) (ho:o.op = .makeSlice 172 x y) (hd:o.dst=some d) (hk:opOk nt E o=true) (hx:evO E x=some (.int .u64 (n:Int))) (hy:evO E y=some (.int .u64 (n:Int)))
  (h:∀ b,St nt w0 F ((d,.slice (some ⟨b,0,none⟩) n n)::E) (cs++[cAt b 183 (tcells (List.replicate n BC.zero))]) K):OpW Tryz.prog Q nt w0 F E cs o K :=
 opNew (v:=fun b=>.slice (some ⟨b,0,none⟩) n n) _ _ hd hk (fun w=>by
  have hr:=run_makeU n hn w
  unfold execOp
  simp only [ho,evE_of hx,evE_of hy,Sem.run_bind,hr]
  rfl) h
theorem opCopyStr {P:Program} {Q:Exit→Act→World→Prop} {nt:Nat} {w0:World} {F:List Nat} {E:Env} {cs:List Ch} {o:Oper} {d:Tmp} {K:Act→World→Prop} {dT sT elem t:TypeId} {x y:Operand} {g off dLen dCap:Nat} {l:List Value} {bs:List UInt8} (i:Nat) (l':List Value) (ho:o.op = .call { callee:=.builtin .copy,args:=#[x,y],argTypes:=#[dT,sT] }) (hd:o.dst=some d) (hu:P.underlying dT=some (.slice elem)) (hs:(P.info? elem).map (·.size)=some 1) (hk:opOk nt E o=true)
  (hx:evO E x=some (.slice (some ⟨g,off,none⟩) dLen dCap)) (hy:evO E y=some (.string (strOf bs))) (hi:cs[i]?=some (cAt g t l)) (hle:bs.length≤dLen) (hfit:off+bs.length≤l.length) (hl':l.take off++B8 bs++l.drop (off+bs.length)=l') (h:St nt w0 F ((d,.int .i64 ((bs.length:Nat):Int))::E) (cs.set i (cAt g t l')) K):OpW P Q nt w0 F E cs o K :=
 opEff hd hk fun w hM=>by
  subst hl'
  have hat:At w g t l:=hM.at hi
  have hsz:(strOf bs).size=bs.length:=by simp [strOf,ByteArray.size]
  have hr:=Lib.run_copy_row_string (P:=P) w dT sT o.type elem g off dLen dCap (strOf bs) l.toArray t hu hs hat (by rw [hsz]; exact hle) (by rw [hsz]; simpa using hfit)
  refine ⟨_,w.setRow g (l.take off++B8 bs++l.drop (off+bs.length)).toArray,_,?_,hM.swap i hi (c':=cAt g t (l.take off++B8 bs++l.drop (off+bs.length))) (Fr.setRow _ _ _) ?_ (fun c hc=>.inl hc) (by simp [cAt]),h⟩
  ·unfold execOp
   simp only [ho,resolve,invoke,builtin,Sem.run_bind,Sem.run_pure,Result.andThen_ok,List.map_toArray,List.map_cons,List.map_nil,evE_of hx,evE_of hy,hr,hsz]
   rfl
  ·have:=hat.setRow (l.take off++B8 bs++l.drop (off+bs.length))
   exact this
theorem padK_rep {x:List UInt8}:x++(List.replicate 32 (0:UInt8)).drop x.length=padK x:=by
 unfold padK
 rw [List.drop_replicate]
theorem tcells_key {l:List BC} (hok:Ok34 l) {i:Nat} {c:BC} (hc:l[i]?=some c) {x:List UInt8} (hx:x.length≤32) :
  (tcells l).take (i*34+1)++B8 x++(tcells l).drop (i*34+1+x.length)=tcells (l.set i ⟨c.count,x++c.keys.drop x.length,c.checks⟩):=by
 obtain ⟨hlt,he⟩:=List.getElem?_eq_some_iff.1 hc
 have hl1:(tcells (l.take i)).length=i*34:=by rw [tcells_len (fun a ha=>hok a (List.mem_of_mem_take ha)),List.length_take,Nat.min_eq_left (by omega)]
 have hs:l=l.take i++c::l.drop (i+1):=by rw [← he,List.getElem_cons_drop,List.take_append_drop]
 have hk:=(hok c (List.mem_of_getElem? hc)).keys
 have e1:tcells l=tcells (l.take i)++(c.cells++tcells (l.drop (i+1))):=by
  conv=>lhs; rw [hs]
  simp [tcells]
 have e2:l.set i ⟨c.count,x++c.keys.drop x.length,c.checks⟩=l.take i++⟨c.count,x++c.keys.drop x.length,c.checks⟩::l.drop (i+1):=by
  rw [List.set_eq_take_append_cons_drop,if_pos hlt]
 have e3:tcells (l.set i ⟨c.count,x++c.keys.drop x.length,c.checks⟩)=tcells (l.take i)++((⟨c.count,x++c.keys.drop x.length,c.checks⟩:BC).cells++tcells (l.drop (i+1))):=by
  rw [e2]
  simp [tcells]
 rw [e1,e3,← hl1,List.take_length_add_append,Nat.add_assoc,List.drop_length_add_append]
 simp only [List.append_assoc,BC.cells,List.cons_append,List.take_succ_cons,List.take_zero,List.nil_append,B8_append]
 rw [Nat.add_comm 1,List.drop_succ_cons,List.drop_append_of_le_length (by rw [B8_length]; omega)]
 simp [B8,List.map_drop]
theorem decode_big (A:Option Addr) (c:Nat) (D:List UInt8) (w:World) (hD:D.length≤4294967296) (hrow:RowIn w A (B8 D)) (hn:3072 < decN D) :
  Calls Tryz.prog 73 #[.slice A D.length c] w fun e w'=>e = .returned (.tuple #[.pointer none,Value.int .i64 3])∧Fr [] w w':=by
 have HR:=Lib.hid hrow
 clear hrow
 obtain ⟨n,HN⟩:∃ n,Hid (n=decN D):=⟨_,rfl⟩
 have hn':3072 < n:=by rw [HN.out]; exact hn
 clear hn
 refine sE1 Tryz.func73 69 (Mm.start w []) ?_
 refine stSeq (reg (la ?_))
 refine la ?_
 refine liNil (qThen (stSeq (reg (lm ?_))))
 refine li rfl (opCall 72 #[(.slice A (D.length) (c))] rfl (by kernel_rfl) (fun _=>by kernel_rfl) (fun w hM=>?_))
 refine (newReader_any A c D w hD (HR.out.fr0 hM.fr)).mono ?_
 rintro e w' ⟨br,A2,c2,rfl,hb,hf,hr,ho⟩
 have hM':=hM.pushRd hf hr hb ho
 refine ⟨_,_,rfl,hM',?_⟩
 clear hM hM' hf hr hb ho
 refine la ?_
 refine liNil (qThen (stSeq (reg (lm ?_))))
 refine li rfl (opCall 102 #[(vP br 0)] rfl (by kernel_rfl) (fun _=>by kernel_rfl) (fun w hM=>?_))
 refine (by have h:=rUint br (rd0 D) w (hM.at (i:=0) rfl) (rd0_ok hD); rw [show (rd0 D).uint.1=n from HN.out.symm] at h; exact h:Calls _ _ _ w fun e w'=>e = .returned (vU n)∧Fr [br] w w'∧RdAt (A2,c2) w' br ((rd0 D).uint.2)).mono ?_
 rintro e w' ⟨rfl,hf,hr⟩
 have hM':=hM.swapRdB 0 rfl hf hr
 refine ⟨_,_,rfl,hM',?_⟩
 clear hM hM' hf hr
 refine la ?_
 refine liNil (qThen (stSeq (stSeq (reg (lm ?_)))))
 refine lc (.bool (decide (((n:Nat):Int) > 3072))) ?_
 refine lm ?_
 refine St.known 17 (b':=true) rfl (by simp; omega) ?_
 refine liNot (b:=true) rfl rfl (by kernel_rfl) rfl ?_
 refine liNot (b:=true) rfl rfl (by kernel_rfl) rfl ?_
 refine liNot (b:=true) rfl rfl (by kernel_rfl) rfl ?_
 refine liNot (b:=true) rfl rfl (by kernel_rfl) rfl ?_
 refine lc (.bool true) ?_
 refine liNil (qThen (stTrue rfl ?_))
 refine stSeq (reg (la ?_))
 refine la ?_
 refine liNil (qThen (stRet (qThenR (sN [(.pointer none),(.int .i64 3)] fun w hM=>?_))))
 exact ⟨rfl,hM.fr⟩
theorem decode_size (A:Option Addr) (c:Nat) (D:List UInt8) (w:World) (hD:D.length≤4294967296) (hrow:RowIn w A (B8 D)) (hn:decN D≤3072) (hz0:isSz (decN D:Int)=false) :
  Calls Tryz.prog 73 #[.slice A D.length c] w fun e w'=>e = .returned (.tuple #[.pointer none,Value.int .i64 3])∧Fr [] w w':=by
 have HR:=Lib.hid hrow
 clear hrow
 obtain ⟨n,HN⟩:∃ n,Hid (n=decN D):=⟨_,rfl⟩
 have hn':n≤3072:=by rw [HN.out]; exact hn
 have hz:isSz (n:Int)=false:=by rw [HN.out]; exact hz0
 clear hn hz0
 refine sE1 Tryz.func73 69 (Mm.start w []) ?_
 refine stSeq (reg (la ?_))
 refine la ?_
 refine liNil (qThen (stSeq (reg (lm ?_))))
 refine li rfl (opCall 72 #[(.slice A (D.length) (c))] rfl (by kernel_rfl) (fun _=>by kernel_rfl) (fun w hM=>?_))
 refine (newReader_any A c D w hD (HR.out.fr0 hM.fr)).mono ?_
 rintro e w' ⟨br,A2,c2,rfl,hb,hf,hr,ho⟩
 have hM':=hM.pushRd hf hr hb ho
 refine ⟨_,_,rfl,hM',?_⟩
 clear hM hM' hf hr hb ho
 refine la ?_
 refine liNil (qThen (stSeq (reg (lm ?_))))
 refine li rfl (opCall 102 #[(vP br 0)] rfl (by kernel_rfl) (fun _=>by kernel_rfl) (fun w hM=>?_))
 refine (by have h:=rUint br (rd0 D) w (hM.at (i:=0) rfl) (rd0_ok hD); rw [show (rd0 D).uint.1=n from HN.out.symm] at h; exact h:Calls _ _ _ w fun e w'=>e = .returned (vU n)∧Fr [br] w w'∧RdAt (A2,c2) w' br ((rd0 D).uint.2)).mono ?_
 rintro e w' ⟨rfl,hf,hr⟩
 have hM':=hM.swapRdB 0 rfl hf hr
 refine ⟨_,_,rfl,hM',?_⟩
 clear hM hM' hf hr
 refine la ?_
 refine liNil (qThen (stSeq (stSeq (reg (lm ?_)))))
 refine lc (.bool (decide (((n:Nat):Int) > 3072))) ?_
 refine lm ?_
 refine St.known 17 (b':=false) rfl (by simp; omega) ?_
 refine liGo rfl rfl (opVal (vU n) rfl (by kernel_rfl) (rMove rfl rfl) ?_)
 refine liGo rfl rfl (opVal (vI n) rfl (by kernel_rfl) (rIntC _ (fun _=>by kernel_rfl) rfl rfl (wrap_nat n (by omega))) ?_)
 refine liGo rfl rfl ?_
 refine opCall 113 #[(vI n)] rfl (by kernel_rfl) (fun _=>by kernel_rfl) (fun w hM=>?_)
 refine ((by rw [← hz]; exact isSize_any (n:Int) w:Calls _ _ _ w fun e w'=>e = .returned (.bool false)∧w=w')).mono ?_
 rintro e w' ⟨rfl,rfl⟩
 refine ⟨(.bool false),_,rfl,hM,?_⟩
 clear hM
 refine liGo rfl rfl (opVal (.bool true) rfl (by kernel_rfl) (rClosed fun _=>by kernel_rfl) ?_)
 refine lc (.bool true) ?_
 refine liNil (qThen (stTrue rfl ?_))
 refine stSeq (reg (la ?_))
 refine la ?_
 refine liNil (qThen (stRet (qThenR (sN [(.pointer none),(.int .i64 3)] fun w hM=>?_))))
 exact ⟨rfl,hM.fr⟩
theorem decode_ok (A:Option Addr) (c:Nat) (D:List UInt8) (w:World) (hD:D.length≤4294967296) (hrow:RowIn w A (B8 D)) (hz0:isSz (decN D:Int)=true) :
  Calls Tryz.prog 73 #[.slice A D.length c] w fun e w'=>if (decEnd D).end_=0 then ∃ bt bc cap rest,e = .returned (.tuple #[Value.pointer (some ⟨bt,0,none⟩),Value.int .i64 0])∧Mm w [] [cTab bt bc cap rest (decT D)] w' else e = .returned (.tuple #[.pointer none,Value.int .i64 3])∧Fr [] w w':=by
 have HR:=Lib.hid hrow
 clear hrow
 obtain ⟨n,HN⟩:∃ n,Hid (n=decN D):=⟨_,rfl⟩
 have hz:isSz (n:Int)=true:=by rw [HN.out]; exact hz0
 have hn':n≤3072:=(isSz_bounds hz).2.1
 clear hz0
 obtain ⟨seed,HS⟩:∃ s,Hid (s=(rd0 D).uint.2.uint.1):=⟨_,rfl⟩
 obtain ⟨r2,HR2⟩:∃ r,Hid (r=(rd0 D).uint.2.uint.2):=⟨_,rfl⟩
 have HOK:Hid r2.Ok:=by show r2.Ok; rw [HR2.out]; exact (rd0_ok hD).uint'.uint'
 refine sE1 Tryz.func73 69 (Mm.start w []) ?_
 refine stSeq (reg (la ?_))
 refine la ?_
 refine liNil (qThen (stSeq (reg (lm ?_))))
 refine li rfl (opCall 72 #[(.slice A (D.length) (c))] rfl (by kernel_rfl) (fun _=>by kernel_rfl) (fun w hM=>?_))
 refine (newReader_any A c D w hD (HR.out.fr0 hM.fr)).mono ?_
 rintro e w' ⟨br,A2,c2,rfl,hb,hf,hr,ho⟩
 have hM':=hM.pushRd hf hr hb ho
 refine ⟨_,_,rfl,hM',?_⟩
 clear hM hM' hf hr hb ho
 refine la ?_
 refine liNil (qThen (stSeq (reg (lm ?_))))
 refine li rfl (opCall 102 #[(vP br 0)] rfl (by kernel_rfl) (fun _=>by kernel_rfl) (fun w hM=>?_))
 refine (by have h:=rUint br (rd0 D) w (hM.at (i:=0) rfl) (rd0_ok hD); rw [show (rd0 D).uint.1=n from HN.out.symm] at h; exact h:Calls _ _ _ w fun e w'=>e = .returned (vU n)∧Fr [br] w w'∧RdAt (A2,c2) w' br ((rd0 D).uint.2)).mono ?_
 rintro e w' ⟨rfl,hf,hr⟩
 have hM':=hM.swapRdB 0 rfl hf hr
 refine ⟨_,_,rfl,hM',?_⟩
 clear hM hM' hf hr
 refine la ?_
 refine liNil (qThen (stSeq (stSeq (reg (lm ?_)))))
 refine lc (.bool (decide (((n:Nat):Int) > 3072))) ?_
 refine lm ?_
 refine St.known 17 (b':=false) rfl (by simp; omega) ?_
 refine liGo rfl rfl (opVal (vU n) rfl (by kernel_rfl) (rMove rfl rfl) ?_)
 refine liGo rfl rfl (opVal (vI n) rfl (by kernel_rfl) (rIntC _ (fun _=>by kernel_rfl) rfl rfl (wrap_nat n (by omega))) ?_)
 refine liGo rfl rfl ?_
 refine opCall 113 #[(vI n)] rfl (by kernel_rfl) (fun _=>by kernel_rfl) (fun w hM=>?_)
 refine ((by rw [← hz]; exact isSize_any (n:Int) w:Calls _ _ _ w fun e w'=>e = .returned (.bool true)∧w=w')).mono ?_
 rintro e w' ⟨rfl,rfl⟩
 refine ⟨(.bool true),_,rfl,hM,?_⟩
 clear hM
 refine liGo rfl rfl (opVal (.bool false) rfl (by kernel_rfl) (rClosed fun _=>by kernel_rfl) ?_)
 refine lc (.bool false) ?_
 refine liNil (qThen (stFalse rfl ?_))
 refine stSkip (qThen (stCut (ι:=Nat × Nat) (fun _=>True) (fun (bc,b28)=>[(0,(.slice A (D.length) (c))),(2,(.pointer none)),(3,(.int .i64 0)),(11,(.slice A (D.length) (c))),(12,(vP br 0)),(4,(vP br 0)),(13,(vP br 0)),(14,(vU n)),(5,(vU n)),(15,(vU n)),(16,(.bool (decide (((n:Nat):Int) > 3072)))),(17,(.bool false)),(18,(vU n)),(19,(vI n)),(20,(.bool true)),(21,(.bool false)),(22,(.bool false)),(23,(vU n)),(25,(vP br 0)),(24,(.slice (some ⟨bc,0,none⟩) (n) (n))),(26,(vU seed)),(27,(.agg #[(.slice (some ⟨bc,0,none⟩) (n) (n)),(vU seed)])),(28,(vP b28 0)),(6,(vP b28 0))]) (fun (bc,b28)=>[cRdB br (A2,c2) (r2),cAt bc 183 (tcells (List.replicate n BC.zero)),cAt b28 174 [(.slice (some ⟨bc,0,none⟩) (n) (n)),(vU seed)]]) ?_ ?_))
 ·refine anyBegin [] 7 (by kernel_rfl) (fun _ h=>h.sub (.cons _ .slnil)) ?_
  refine am 0 ?_
  refine am 2 ?_
  refine anyTwo (i:=1) (j:=3) (by kernel_rfl) rfl rfl rfl rfl ?_ ?_
  ·refine opMakeCells n (by omega) rfl rfl (by kernel_rfl) rfl rfl (fun bc=>?_)
   refine anyNext _ (fun _ h=>h.sub (.cons _ .slnil)) (fun _ h=>h.sub (.cons _ (.cons_cons _ .slnil))) ?_
   refine anyOne (i:=3) (by kernel_rfl) rfl rfl ?_
   refine opCall 102 #[(vP br 0)] rfl (by kernel_rfl) (fun _=>by kernel_rfl) (fun w hM=>?_)
   refine (by have h:=rUint br ((rd0 D).uint.2) w (hM.at (i:=0) rfl) ((rd0_ok hD).uint'); rw [show (rd0 D).uint.2.uint.1=seed from HS.out.symm,show (rd0 D).uint.2.uint.2=r2 from HR2.out.symm] at h; exact h:Calls _ _ _ w fun e w'=>e = .returned (vU seed)∧Fr [br] w w'∧RdAt (A2,c2) w' br (r2)).mono ?_
   rintro e w' ⟨rfl,hf,hr⟩
   have hM':=hM.swapRdB 0 rfl hf hr
   refine ⟨_,_,rfl,hM',?_⟩
   clear hM hM' hf hr
   refine anyNext _ (fun _ h=>h) (fun _ h=>h.sub (.cons _ (.cons_cons _ .slnil))) ?_
   refine ac 4 (.agg #[(.slice (some ⟨bc,0,none⟩) (n) (n)),(vU seed)]) ?_
   refine anyOne (i:=5) (by kernel_rfl) rfl rfl ?_
   refine oBx [(.slice (some ⟨bc,0,none⟩) (n) (n)),(vU seed)] fun b28=>?_
   refine anyNext _ (fun _ h=>h.sub (.cons_cons _ (.cons _ .slnil))) (fun _ h=>h.sub (.cons _ (.cons_cons _ (.cons_cons _ .slnil)))) ?_
   refine aa 6 ?_
   refine anyDone (by kernel_rfl) ?_
   exact qThen (sM (bc,b28) trivial (fun _ h=>h))
  ·refine opCall 102 #[(vP br 0)] rfl (by kernel_rfl) (fun _=>by kernel_rfl) (fun w hM=>?_)
   refine (by have h:=rUint br ((rd0 D).uint.2) w (hM.at (i:=0) rfl) ((rd0_ok hD).uint'); rw [show (rd0 D).uint.2.uint.1=seed from HS.out.symm,show (rd0 D).uint.2.uint.2=r2 from HR2.out.symm] at h; exact h:Calls _ _ _ w fun e w'=>e = .returned (vU seed)∧Fr [br] w w'∧RdAt (A2,c2) w' br (r2)).mono ?_
   rintro e w' ⟨rfl,hf,hr⟩
   have hM':=hM.swapRdB 0 rfl hf hr
   refine ⟨_,_,rfl,hM',?_⟩
   clear hM hM' hf hr
   refine anyNext _ (fun _ h=>h) (fun _ h=>h.sub (.cons _ .slnil)) ?_
   refine anyOne (i:=1) (by kernel_rfl) rfl rfl ?_
   refine opMakeCells n (by omega) rfl rfl (by kernel_rfl) rfl rfl (fun bc=>?_)
   refine anyNext _ (fun _ h=>h.sub (.cons _ .slnil)) (fun _ h=>h.sub (.cons _ (.cons_cons _ .slnil))) ?_
   refine ac 4 (.agg #[(.slice (some ⟨bc,0,none⟩) (n) (n)),(vU seed)]) ?_
   refine anyOne (i:=5) (by kernel_rfl) rfl rfl ?_
   refine oBx [(.slice (some ⟨bc,0,none⟩) (n) (n)),(vU seed)] fun b28=>?_
   refine anyNext _ (fun _ h=>h.sub (.cons_cons _ (.cons _ .slnil))) (fun _ h=>h.sub (.cons _ (.cons_cons _ (.cons_cons _ .slnil)))) ?_
   refine aa 6 ?_
   refine anyDone (by kernel_rfl) ?_
   exact qThen (sM (bc,b28) trivial (fun _ h=>h))
 ·rintro ⟨bc,b28⟩ -
  dsimp only
  refine stSeq (stSeq (St.mem (cs':=[cRdB br (A2,c2) (r2),cAt bc 183 (tcells (fillTo r2 n 0)),cAt b28 174 [(.slice (some ⟨bc,0,none⟩) (n) (n)),(vU seed)]]) (fun w hM=>by rw [fillTo_zero]; exact hM) ?_))
  refine reg (lm ?_)
  refine lc (vP b28 0) ?_
  refine lc (vP b28 0) ?_
  refine ll 2 ?_
  refine lc (vI n) ?_
  refine lm ?_
  refine liNil (qThen (stBlock (sL (fun i=>i≤n) (fun i=>n - i) (fun i=>[(4,(vP br 0)),(6,(vP b28 0)),(33,(vI n)),(34,(vI i))]) (fun i=>[cRdB br (A2,c2) (rdTo r2 i),cAt bc 183 (tcells (fillTo r2 n i)),cAt b28 174 [(.slice (some ⟨bc,0,none⟩) (n) (n)),(vU seed)]]) 0 (Nat.zero_le _) (fun _ h=>h) ?_)))
  intro i (hi:i≤n)
  show St _ _ _ [(4,(vP br 0)),(6,(vP b28 0)),(33,(vI n)),(34,(vI i))] [cRdB br (A2,c2) (rdTo r2 i),cAt bc 183 (tcells (fillTo r2 n i)),cAt b28 174 [(.slice (some ⟨bc,0,none⟩) (n) (n)),(vU seed)]] _
  refine stSeq (reg (lc (.bool (decide (((i:Nat):Int) < ((n:Nat):Int)))) ?_))
  refine liNil (qThen (stSeq (stCond rfl (fun hc35=>?_) (fun hc35=>?_))))
  ·have hd35:=of_decide_eq_true hc35
   have hlt:i < n:=by omega
   obtain ⟨r,HRI⟩:∃ r,Hid (r=rdTo r2 i):=⟨_,rfl⟩
   have hrok:r.Ok:=by rw [HRI.out]; exact rdTo_ok HOK.out i
   obtain ⟨cl,HCL⟩:∃ cl,Hid (cl=fillTo r2 n i):=⟨_,rfl⟩
   have hcll:cl.length=n:=by rw [HCL.out,fillTo_len hi]
   have hok:Ok34 cl:=by rw [HCL.out]; exact fillTo_ok _ _ _
   have hci:cl[i]?=some BC.zero:=by rw [HCL.out]; exact fillTo_at hlt
   have HSU:Hid (fillTo r2 n (i+1)=cl.set i r.cell.1):=by show _=_; rw [HCL.out,HRI.out,fillTo_succ hlt]
   have HRS:Hid (rdTo r2 (i+1)=r.cell.2):=by show _=_; rw [HRI.out]; rfl
   have hlen:(tcells cl).length=n*34:=by rw [tcells_len hok,hcll]
   rw [← HCL.out,← HRI.out]
   refine stSkip (qThen (stSeq (stBlock (stSeq (reg (lm ?_))))))
   refine la ?_
   refine liNil (qThen (stSeq (reg (lm ?_))))
   refine lc (vP b28 0) ?_
   refine lc (vP b28 0) ?_
   refine ll 2 ?_
   refine lm ?_
   refine lv (v:=(.pointer (some ⟨bc,0+i*34,none⟩))) (rIndexAddr (e:=183) (sz:=34) rfl (by kernel_rfl) (by kernel_rfl) rfl rfl (by omega)) ?_
   refine la ?_
   refine liNil (qThen (stSeq (reg (lm ?_))))
   refine lm ?_
   refine li rfl (opCall 121 #[(vP br 0)] rfl (by kernel_rfl) (fun _=>by kernel_rfl) (fun w hM=>?_))
   refine (by have h:=rInt br (r) w (hM.at (i:=0) rfl) (hrok); skip; exact h:Calls _ _ _ w fun e w'=>e = .returned (.int .i64 r.int.1)∧Fr [br] w w'∧RdAt (A2,c2) w' br (r.int.2)).mono ?_
   rintro e w' ⟨rfl,hf,hr⟩
   have hM':=hM.swapRdB 0 rfl hf hr
   refine ⟨_,_,rfl,hM',?_⟩
   clear hM hM' hf hr
   refine lc (.pointer (some ⟨bc,0+i*34,none⟩)) ?_
   refine lc (.pointer (some ⟨bc,0+i*34,none⟩)) ?_
   refine li rfl (opStore1 1 rfl rfl (by kernel_rfl) rfl rfl rfl (by kernel_rfl) rfl (by rw [hlen]; omega) ?_)
   refine liNil (qThen (stSeq ?_))
   have hc1ok:(⟨r.int.1,List.replicate 32 0,0⟩:BC).Ok:=⟨r.int_fit,by simp,by show 0 < 18446744073709551616; decide⟩
   have hok1:Ok34 (cl.set i (⟨r.int.1,List.replicate 32 0,0⟩:BC)):=hok.set i hc1ok
   have hci1:(cl.set i (⟨r.int.1,List.replicate 32 0,0⟩:BC))[i]?=some (⟨r.int.1,List.replicate 32 0,0⟩:BC):=List.getElem?_set_self (by omega)
   have hlen1:(tcells (cl.set i (⟨r.int.1,List.replicate 32 0,0⟩:BC))).length=n*34:=by rw [tcells_len hok1,List.length_set,hcll]
   refine St.mem (cs':=[cRdB br (A2,c2) (r.int.2),cAt bc 183 (tcells (cl.set i (⟨r.int.1,List.replicate 32 0,0⟩:BC))),cAt b28 174 [(.slice (some ⟨bc,0,none⟩) (n) (n)),(vU seed)]]) (fun w hM=>by have e:=tcells_set hok [] i BC.zero hci 0 (by omega) (Value.int .i64 r.int.1) (⟨r.int.1,List.replicate 32 0,0⟩:BC) (cells_set0 BC.zero _); rw [List.append_nil,List.append_nil] at e; rw [← e]; rw [Nat.zero_add] at hM; exact hM) ?_
   refine anyBegin _ 6 (by kernel_rfl) (fun _ h=>h.sub (.cons _ (.cons_cons _ (.cons_cons _ .slnil)))) ?_
   refine am 0 ?_
   refine ac 1 (.pointer (some ⟨bc,0+i*34,none⟩)) ?_
   refine ac 2 (.pointer (some ⟨bc,0+i*34+1,none⟩)) ?_
   refine ac 3 (.slice (some ⟨bc,0+i*34+1,none⟩) (32) (32)) ?_
   refine am 4 ?_
   refine anyOne (i:=5) (by kernel_rfl) rfl rfl ?_
   refine opCall 122 #[(vP br 0)] rfl (by kernel_rfl) (fun _=>by kernel_rfl) (fun w hM=>?_)
   refine (by have h:=rSum br (r.int.2) w (hM.at (i:=0) rfl) (hrok.int); skip; exact h:Calls _ _ _ w fun e w'=>e = .returned (vS r.int.2.sum.1)∧Fr [br] w w'∧RdAt (A2,c2) w' br (r.int.2.sum.2)).mono ?_
   rintro e w' ⟨rfl,hf,hr⟩
   have hM':=hM.swapRdB 0 rfl hf hr
   refine ⟨_,_,rfl,hM',?_⟩
   clear hM hM' hf hr
   refine anyNext _ (fun _ h=>h) (fun _ h=>h.sub (.cons _ (.cons_cons _ (.cons_cons _ .slnil)))) ?_
   refine anyOne (i:=6) (by kernel_rfl) rfl rfl ?_
   refine opCopyStr (elem:=5) (bs:=r.int.2.sum.1) 1 (tcells (cl.set i (⟨r.int.1,padK r.int.2.sum.1,0⟩:BC))) rfl rfl (by kernel_rfl) (by kernel_rfl) (by kernel_rfl) rfl rfl rfl (Rd.sum_len _) (by rw [hlen1]; have:=Rd.sum_len r.int.2; omega) (by rw [Nat.zero_add,tcells_key hok1 hci1 (Rd.sum_len _),List.set_set,padK_rep]) ?_
   refine anyLast (by kernel_rfl) rfl ?_
   refine qThen ?_
   have hc2ok:(⟨r.int.1,padK r.int.2.sum.1,0⟩:BC).Ok:=⟨r.int_fit,padK_len (Rd.sum_len _),by show 0 < 18446744073709551616; decide⟩
   have hok2:Ok34 (cl.set i (⟨r.int.1,padK r.int.2.sum.1,0⟩:BC)):=hok.set i hc2ok
   have hci2:(cl.set i (⟨r.int.1,padK r.int.2.sum.1,0⟩:BC))[i]?=some (⟨r.int.1,padK r.int.2.sum.1,0⟩:BC):=List.getElem?_set_self (by omega)
   have hlen2:(tcells (cl.set i (⟨r.int.1,padK r.int.2.sum.1,0⟩:BC))).length=n*34:=by rw [tcells_len hok2,List.length_set,hcll]
   refine reg (lm ?_)
   refine lm ?_
   refine li rfl (opCall 102 #[(vP br 0)] rfl (by kernel_rfl) (fun _=>by kernel_rfl) (fun w hM=>?_))
   refine (by have h:=rUint br (r.int.2.sum.2) w (hM.at (i:=0) rfl) (hrok.int.sum); skip; exact h:Calls _ _ _ w fun e w'=>e = .returned (vU r.int.2.sum.2.uint.1)∧Fr [br] w w'∧RdAt (A2,c2) w' br (r.cell.2)).mono ?_
   rintro e w' ⟨rfl,hf,hr⟩
   have hM':=hM.swapRdB 0 rfl hf hr
   refine ⟨_,_,rfl,hM',?_⟩
   clear hM hM' hf hr
   refine lc (.pointer (some ⟨bc,0+i*34,none⟩)) ?_
   refine lc (.pointer (some ⟨bc,0+i*34+33,none⟩)) ?_
   refine li rfl (opStore1 1 rfl rfl (by kernel_rfl) rfl rfl rfl (by kernel_rfl) rfl (by rw [hlen2]; omega) ?_)
   refine liNil (qBlock ?_)
   refine qThen (St.mem (cs':=[cRdB br (A2,c2) (rdTo r2 (i+1)),cAt bc 183 (tcells (fillTo r2 n (i+1))),cAt b28 174 [(.slice (some ⟨bc,0,none⟩) (n) (n)),(vU seed)]]) (fun w hM=>by have e:=tcells_set hok2 [] i (⟨r.int.1,padK r.int.2.sum.1,0⟩:BC) hci2 33 (by omega) (vU r.int.2.sum.2.uint.1) r.cell.1 (cells_set33 (c:=(⟨r.int.1,padK r.int.2.sum.1,0⟩:BC)) hc2ok.keys _); rw [List.append_nil,List.append_nil,List.set_set] at e; rw [HSU.out,HRS.out,← e]; rw [Nat.zero_add] at hM; exact hM) ?_)
   refine reg (lv (v:=(vI (i+1))) rAd ?_)
   refine lm ?_
   exact liNil (qThen (sA (i+1) (by show _≤_; omega) (by show n - (i+1) < n - i; omega) (fun _ h=>h)))
  ·have hd35:=of_decide_eq_false hc35
   obtain rfl:n=i:=by omega
   refine stExit (qThenX (qThenX (qBlockX ?_)))
   refine qThen (stSeq (stSeq (reg (lm ?_))))
   refine li rfl (opCall 77 #[(vP br 0)] rfl (by kernel_rfl) (fun _=>by kernel_rfl) (fun w hM=>?_))
   refine (rEnd br (rdTo r2 n) w (hM.at (i:=0) rfl) (rdTo_ok HOK.out n)).mono ?_
   rintro e w' ⟨rfl,hf⟩
   have hM':=hM.fr0 hf
   refine ⟨_,_,rfl,hM',?_⟩
   clear hM hM' hf
   refine lm ?_
   refine lc (vI ((rdTo r2 n).off)) ?_
   refine lc (.int .i64 (rdTo r2 n).end_) ?_
   refine la ?_
   refine la ?_
   refine liNil (qThen (stSeq (reg (lm ?_))))
   refine lc (.bool (((rdTo r2 n).end_:Int) != 0)) ?_
   refine liNil (qThen (stCond rfl (fun hc67=>?_) (fun hc67=>?_)))
   ·refine stSeq (reg (la ?_))
    refine la ?_
    refine liNil (qThen (stRet (qThenR (sN [(.pointer none),(.int .i64 3)] fun w hM=>?_))))
    have hz0:(rdTo r2 n).end_≠0:=by simpa using hc67
    have he0:(decEnd D).end_≠0:=by unfold decEnd decR; rw [← HN.out,← HR2.out]; exact hz0
    rw [if_neg he0]
    exact ⟨rfl,hM.fr⟩
   ·refine stSkip (qThen (stSeq (reg (lm ?_))))
    refine la ?_
    refine la ?_
    refine liNil (qThen (stRet (sN [(vP b28 0),(.int .i64 0)] fun w hM=>?_)))
    have hz0:(rdTo r2 n).end_=0:=by simpa using hc67
    have he0:(decEnd D).end_=0:=by unfold decEnd decR; rw [← HN.out,← HR2.out]; exact hz0
    rw [if_pos he0]
    have hM2:=(fun (w:World) (h:Mm _ _ _ w)=>Mm.perm h (.swap _ _ _)) w ((fun (w:World) (h:Mm _ _ _ w)=>Mm.sub h (.cons _ (.cons_cons _ (.cons_cons _ .slnil)))) w hM)
    rw [← List.append_nil (tcells (fillTo r2 n n))] at hM2
    exact ⟨b28,bc,n,[],rfl,hM2.toTab (by rw [decT_len,HN.out]) (by exact HS.out.symm) (by rw [fillTo_all]; unfold decT decR; rw [← HN.out,← HR2.out]) (decT_ok D) (by exact hz) (Nat.le_refl _)⟩
end
def decd (D : List UInt8) : Option BT := if isSz (decN D : Int) = true ∧ (decEnd D).end_ = 0 then some (decT D) else none
theorem decd_enc {D:List UInt8} {T:BT} (h:decd D=some T):T.enc=D∧isSz (T.cells.length:Int)=true:=by
 unfold decd at h
 split at h
 ·rename_i h1
  injection h with h
  subst h
  exact ⟨dec_enc h1.2,by rw [decT_len]; exact h1.1⟩
 ·cases h
theorem enc_decd {T:BT} (h:T.Ok) (hs:isSz (T.cells.length:Int)=true):decd T.enc=some T:=by
 obtain ⟨h1,h2,h3⟩:=enc_dec h (isSz_bounds hs).2.1
 unfold decd
 rw [if_pos ⟨by rw [h1]; exact hs,h3⟩,h2]
theorem decode_none (A:Option Addr) (c:Nat) (D:List UInt8) (w:World) (hD:D.length≤4294967296) (hrow:RowIn w A (B8 D)) (h:decd D=none) :
  Calls Tryz.prog 73 #[.slice A D.length c] w fun e w'=>e = .returned (.tuple #[.pointer none,Value.int .i64 3])∧Fr [] w w':=by
 rcases Nat.lt_or_ge 3072 (decN D) with hb | hb
 ·exact decode_big A c D w hD hrow hb
 ·cases hs:isSz (decN D:Int) with
  | false=>exact decode_size A c D w hD hrow hb hs
  | true =>
    refine (decode_ok A c D w hD hrow hs).mono fun e w' he=>?_
    have hn:(decEnd D).end_≠0:=fun h0=>by
     unfold decd at h
     rw [if_pos ⟨hs,h0⟩] at h
     cases h
    rwa [if_neg hn] at he
theorem decode_some (A:Option Addr) (c:Nat) (D:List UInt8) (U:BT) (w:World) (hD:D.length≤4294967296) (hrow:RowIn w A (B8 D)) (h:decd D=some U) :
  Calls Tryz.prog 73 #[.slice A D.length c] w fun e w'=>∃ bt bc cap rest,e = .returned (.tuple #[Value.pointer (some ⟨bt,0,none⟩),Value.int .i64 0])∧Mm w [] [cTab bt bc cap rest U] w':=by
 unfold decd at h
 split at h
 ·rename_i h1
  injection h with h
  subst h
  refine (decode_ok A c D w hD hrow h1.1).mono fun e w' he=>?_
  rwa [if_pos h1.2] at he
 ·cases h
def cRw (A : Option Addr) (xs : List Value) : Ch where
 fp := if xs.isEmpty then [] else ownFp A
 holds w := RowIn w A xs
 ok w w' hb h := by
  intro j v hj
  obtain ⟨b, o, hA, hlt, hc⟩ := h j v hj
  have hne : xs.isEmpty = false := by cases xs with | nil => simp at hj | cons x l => rfl
  have hbb := hb b (by rw [hne, hA]; simp [ownFp])
  refine ⟨b, o, hA, ?_, ?_⟩
  ·rcases Nat.lt_or_ge b w'.heap.size with h1 | h1
   ·exact h1
   ·rw [Array.getElem?_eq_none h1, Array.getElem?_eq_getElem hlt] at hbb
    cases hbb
  ·simp only [World.cell?, hbb] at hc ⊢
   exact hc
 lt w h b hb := by
  split at hb
  ·simp at hb
  ·rename_i hne
   cases xs with
   | nil => simp at hne
   | cons x l =>
     obtain ⟨b', o, hA, hlt, _⟩ := h 0 x rfl
     subst hA
     simp [ownFp] at hb
     subst hb
     exact hlt
theorem cRw_row {w:World} {A:Option Addr} {xs:List Value} (h:(cRw A xs).holds w):RowIn w A xs:=h
theorem Mm.toRw {w0 w:World} {F:List Nat} {cs:List Ch} (h:Mm w0 F cs w) (i:Nat) {e:TypeId} {A:Option Addr} {m c:Nat} {xs:List Value} (hi:cs[i]?=some (cOwn e 1 A m c xs)):Mm w0 F (cs.set i (cRw A xs)) w :=
 h.swap i hi (c':=cRw A xs) (Fr.refl _ _) (RowIn.of_own (h.at hi)) (fun b hb=>.inl (by simp only [cRw] at hb; split at hb <;> simp_all [cOwn])) (by simp only [cRw]; split <;> simp [ownFp_nodup])
theorem Mm.nilRw {w0 w:World} {F:List Nat} {cs:List Ch} (h:Mm w0 F cs w) (A:Option Addr):Mm w0 F (cs++[cRw A []]) w :=
 h.push (c:=cRw A []) (Fr.refl _ _) (fun j v hj=>by simp at hj) (by simp [cRw]) (by simp [cRw])
structure TX where
 bt : Nat
 bc : Nat
 cap : Nat
 rest : List Value
abbrev cT (X : TX) (t : BT) : Ch := cTab X.bt X.bc X.cap X.rest t
def tsame (t u : BT) : Bool := decide (t.cells.length = u.cells.length) && decide (t.seed = u.seed)
theorem Fr.back {w w':World} (h:Fr [] w w'):Back [] w [] w':=⟨h,by simp,by simp,by simp⟩
theorem Own.tab {w w':World} {X:TX} {t t':BT} (hO:Own [cT X t] w) (hf:Fr [X.bc] w w') (h:TabAt w' X.bt X.bc X.cap X.rest t'):Back [cT X t] w [cT X t'] w':=Mm.swapTab hO 0 rfl hf h
theorem NewBytes.back {w w':World} {bs:List UInt8} {v:Value} (h:NewBytes bs w v w'):∃ A c,v = .slice A bs.length c∧Back [] w [cOwn 5 1 A bs.length c (B8 bs)] w':=by
 obtain ⟨A,c,h1,h2⟩:=(Mm.start w []).pushOwn h.fr h.own
 exact ⟨A,c,h1,h2⟩
theorem two_rw {w w':World} {A1 A2:Option Addr} {xs ys:List Value} (hf:Fr [] w w') (h1:RowIn w' A1 xs) (h2:RowIn w' A2 ys) (h:Fresh2 w A1 A2):Back [] w [cRw A1 xs,cRw A2 ys] w':=by
 obtain ⟨f1,f2,f3⟩:=h
 refine ⟨hf,?_,?_,?_⟩
 ·intro c hc
  rcases List.mem_cons.1 hc with rfl | hc
  ·exact h1
  ·rw [List.mem_singleton] at hc
   subst hc
   exact h2
 ·simp only [List.flatMap_cons,List.flatMap_nil,List.append_nil,cRw]
  cases A1 with
  | none=>cases A2 <;> (split <;> split <;> simp [ownFp])
  | some a=>cases A2 with
    | none=>split <;> split <;> simp [ownFp]
    | some b=>split <;> split <;> simp [ownFp,f3 a b rfl rfl]
 ·intro b hb
  refine .inr ?_
  simp only [List.flatMap_cons,List.flatMap_nil,List.append_nil,cRw] at hb
  rcases List.mem_append.1 hb with hb | hb
  ·split at hb
   ·simp at hb
   ·cases A1 with
    | none=>simp [ownFp] at hb
    | some a=>simp [ownFp] at hb; rw [hb]; exact f1 a rfl
  ·split at hb
   ·simp at hb
   ·cases A2 with
    | none=>simp [ownFp] at hb
    | some a=>simp [ownFp] at hb; rw [hb]; exact f2 a rfl
theorem qNew_ok (n seed:Nat) (w:World) (hz:isSz (n:Int)=true) (hu:U64 seed) :
  Calls Tryz.prog 65 #[(vI n),(.int .u64 ((seed:Nat):Int))] w fun e w'=>∃ (X:TX),e = .returned (.tuple #[(vP X.bt 0),(.int .i64 0)])∧Back [] w [cT X (BT.new n seed)] w':=by
 refine (blNew_any n seed w hz hu).mono fun e w' h=>?_
 obtain ⟨rfl,hf,ht⟩:=h
 exact ⟨⟨w.heap.size+1,w.heap.size,n,[]⟩,rfl,(Mm.start w []).pushTab hf ht (Nat.le_succ _) (Nat.le_refl _)⟩
theorem qInsert (X:TX) (t:BT) (key:List UInt8) (w:World) (hO:Own [cT X t] w) (r0:Rf [cT X t] w (Vars)) (hk:key.length=32) :
  Calls Tryz.prog 67 #[(vP X.bt 0),(vS key)] w fun e w'=>e = .returned (.int .i64 0)∧Back [cT X t] w [cT X (t.change key 1)] w':=by
 refine (insert_any X.bt X.bc X.cap X.rest t key w r0.here (hO.at (i:=0) rfl) hk).mono fun e w' h=>?_
 obtain ⟨rfl,hf,ht⟩:=h
 exact ⟨rfl,Own.tab hO hf ht⟩
theorem qCells (X:TX) (t:BT) (w:World) (r0:Rf [] w (fun w=>(cT X t).holds w)) :
  Calls Tryz.prog 148 #[(vP X.bt 0)] w fun e w'=>e = .returned (vI t.cells.length)∧Back [] w [] w':=by
 refine (cells_any X.bt X.bc X.cap X.rest t w r0.here).mono fun e w' h=>?_
 obtain ⟨rfl,rfl⟩:=h
 exact ⟨rfl,Mm.start w []⟩
theorem qSize (n:Int) (w:World) :
  Calls Tryz.prog 35 #[(.int .i64 n)] w fun e w'=>e = .returned (.int .i64 (blSize n))∧Back [] w [] w':=by
 refine (size_any n w).mono fun e w' h=>?_
 obtain ⟨rfl,rfl⟩:=h
 exact ⟨rfl,Mm.start w []⟩
theorem qEncode (X:TX) (t:BT) (w:World) (r0:Rf [] w (fun w=>(cT X t).holds w)) :
  Calls Tryz.prog 70 #[(vP X.bt 0)] w fun e w'=>∃ (A:Option Addr) (c:Nat),e = .returned (vL A (t.enc) c)∧Back [] w [cB A (t.enc) c] w':=by
 refine (encode_any X.bt X.bc X.cap X.rest t w r0.here).mono fun e w' h=>?_
 obtain ⟨v,rfl,hN⟩:=h
 obtain ⟨A,c,rfl,hB⟩:=hN.back
 exact ⟨A,c,rfl,hB⟩
theorem qKeys_none (X:TX) (t:BT) (w:World) (r0:Rf [] w (Vars)) (r1:Rf [] w (fun w=>(cT X t).holds w)) (hk:t.keys=none) :
  Calls Tryz.prog 79 #[(vP X.bt 0)] w fun e w'=>e = .returned (.tuple #[(.slice none 0 0),(.slice none 0 0),(.int .i64 10)])∧Back [] w [] w':=by
 refine (keys_any X.bt X.bc X.cap X.rest t w r0.here r1.here).mono fun e w' h=>?_
 obtain ⟨hf,h⟩:=h
 rw [hk] at h
 exact ⟨h,hf.back⟩
theorem qKeys_some (X:TX) (t:BT) (l m:List (List UInt8)) (w:World) (r0:Rf [] w (Vars)) (r1:Rf [] w (fun w=>(cT X t).holds w)) (hk:t.keys=some (l,m)) :
  Calls Tryz.prog 79 #[(vP X.bt 0)] w fun e w'=>∃ (A1:Option Addr) (c1:Nat) (A2:Option Addr) (c2:Nat),e = .returned (.tuple #[(vL A1 l c1),(vL A2 m c2),(.int .i64 0)])∧Back [] w [cRw A1 (SS l),cRw A2 (SS m)] w':=by
 refine (keys_any X.bt X.bc X.cap X.rest t w r0.here r1.here).mono fun e w' h=>?_
 obtain ⟨hf,h⟩:=h
 rw [hk] at h
 obtain ⟨A1,c1,A2,c2,rfl,h1,h2,h3⟩:=h
 exact ⟨A1,c1,A2,c2,rfl,two_rw hf h1 h2 h3⟩
theorem qSub_bad (X:TX) (t:BT) (Y:TX) (u:BT) (w:World) (r0:Rf [] w (fun w=>(cT X t).holds w)) (r1:Rf [] w (fun w=>(cT Y u).holds w)) (hs:tsame t u=false) :
  Calls Tryz.prog 78 #[(vP X.bt 0),(vP Y.bt 0)] w fun e w'=>e = .returned (.tuple #[(.pointer none),(.int .i64 1)])∧Back [] w [] w':=by
 by_cases h1:t.cells.length=u.cells.length
 ·have h2:t.seed≠u.seed:=fun h2=>by simp [tsame,h1,h2] at hs
  refine (subtract_seed X.bt X.bc X.cap Y.bt Y.bc Y.cap X.rest Y.rest t u w r0.here r1.here h1 h2).mono fun e w' h=>?_
  obtain ⟨rfl,hf⟩:=h
  exact ⟨rfl,hf.back⟩
 ·refine (subtract_len X.bt X.bc X.cap Y.bt Y.bc Y.cap X.rest Y.rest t u w r0.here r1.here h1).mono fun e w' h=>?_
  obtain ⟨rfl,hf⟩:=h
  exact ⟨rfl,hf.back⟩
theorem qSub_ok (X:TX) (t:BT) (Y:TX) (u:BT) (w:World) (r0:Rf [] w (fun w=>(cT X t).holds w)) (r1:Rf [] w (fun w=>(cT Y u).holds w)) (hs:tsame t u=true) :
  Calls Tryz.prog 78 #[(vP X.bt 0),(vP Y.bt 0)] w fun e w'=>∃ (Z:TX),e = .returned (.tuple #[(vP Z.bt 0),(.int .i64 0)])∧Back [] w [cT Z (t.sub u)] w':=by
 simp only [tsame,Bool.and_eq_true,decide_eq_true_eq] at hs
 refine (subtract_ok X.bt X.bc X.cap Y.bt Y.bc Y.cap X.rest Y.rest t u w r0.here r1.here hs.1 hs.2).mono fun e w' h=>?_
 obtain ⟨bt,bc,cap,rest,rfl,hB⟩:=h
 exact ⟨⟨bt,bc,cap,rest⟩,rfl,hB⟩
theorem qDec_none (A:Option Addr) (c:Nat) (D:List UInt8) (w:World) (r0:Rf [] w (fun w=>RowIn w A (B8 D))) (hD:D.length≤4294967296) (hd:decd D=none) :
  Calls Tryz.prog 73 #[(vL A D c)] w fun e w'=>e = .returned (.tuple #[(.pointer none),(.int .i64 3)])∧Back [] w [] w':=by
 refine (decode_none A c D w hD r0.here hd).mono fun e w' h=>?_
 obtain ⟨rfl,hf⟩:=h
 exact ⟨rfl,hf.back⟩
theorem qDec_some (A:Option Addr) (c:Nat) (D:List UInt8) (u:BT) (w:World) (r0:Rf [] w (fun w=>RowIn w A (B8 D))) (hD:D.length≤4294967296) (hd:decd D=some u) :
  Calls Tryz.prog 73 #[(vL A D c)] w fun e w'=>∃ (X:TX),e = .returned (.tuple #[(vP X.bt 0),(.int .i64 0)])∧Back [] w [cT X u] w':=by
 refine (decode_some A c D u w hD r0.here hd).mono fun e w' h=>?_
 obtain ⟨bt,bc,cap,rest,rfl,hB⟩:=h
 exact ⟨⟨bt,bc,cap,rest⟩,rfl,hB⟩
abbrev Bs := List UInt8
/-! ### Parameters and sets -/
def okP (fan leaf : Int) : Bool := decide (2 ≤ fan) && decide (fan ≤ 16) && decide (1 ≤ leaf) && decide (leaf ≤ 64)
def okSet (l : List Bs) : Prop := (∀ x ∈ l, x.length = 32) ∧ l.Pairwise (· < ·)
instance (l : List Bs) : Decidable (okSet l) := by unfold okSet; infer_instance
def setE (l : List Bs) : Int := if 16384 < l.length then 2 else if okSet l then 0 else 1
theorem b_lt_trans {a b c:Bs} (h1:a < b) (h2:b < c):a < c:=List.lt_trans h1 h2
theorem b_lt_irrefl {a:Bs}:¬ a < a:=List.lt_irrefl a
theorem b_lt_or {a b:Bs} (h:¬ a < b) (hne:a≠b):b < a:=by
 rcases List.le_total a b with h1 | h1
 ·exact (hne (List.le_antisymm h1 h)).elim
 ·by_cases h2:b < a
  ·exact h2
  ·exact (hne (List.le_antisymm h2 h)).elim
theorem setE_big {l:List Bs} (h:16384 < l.length):setE l=2:=by simp [setE,h]
theorem setE_ok {l:List Bs} (h:l.length≤16384) (hs:okSet l):setE l=0:=by unfold setE; rw [if_neg (by omega),if_pos hs]
theorem setE_bad {l:List Bs} (h:l.length≤16384) (hs:¬ okSet l):setE l=1:=by unfold setE; rw [if_neg (by omega),if_neg hs]
theorem okSet_nil {l:List Bs}:okSet (l.take 0):=by simp [okSet]
theorem okSet_take {l:List Bs} (i:Nat) (h:okSet l):okSet (l.take i):=⟨fun x hx=>h.1 x (List.mem_of_mem_take hx),h.2.sublist (List.take_sublist _ _)⟩
theorem okSet_step {l:List Bs} {i:Nat} {x:Bs} (hx:l[i]?=some x):okSet (l.take (i+1))↔okSet (l.take i)∧x.length=32∧∀ j y,i=j+1→l[j]?=some y→y < x:=by
 obtain ⟨hlt,he⟩:=List.getElem?_eq_some_iff.1 hx
 rw [List.take_succ_eq_append_getElem hlt,he]
 unfold okSet
 rw [List.pairwise_append]
 constructor
 ·rintro ⟨h1,h2,_,h3⟩
  refine ⟨⟨fun y hy=>h1 y (List.mem_append_left _ hy),h2⟩,h1 x (by simp),fun j y hj hy=>h3 y ?_ x (by simp)⟩
  exact List.mem_of_getElem? (i:=j) (by rw [List.getElem?_take_of_lt (by omega)]; exact hy)
 ·rintro ⟨⟨h1,h2⟩,h3,h4⟩
  refine ⟨fun y hy=>?_,h2,by simp,fun a ha b hb=>?_⟩
  ·rcases List.mem_append.1 hy with hy | hy
   ·exact h1 y hy
   ·rw [List.mem_singleton.1 hy]; exact h3
  ·rw [List.mem_singleton.1 hb]
   obtain ⟨k,hk⟩:=List.getElem?_of_mem ha
   have hki:k < i:=by
    have:=(List.getElem?_eq_some_iff.1 hk).1
    rw [List.length_take] at this
    omega
   obtain ⟨j,rfl⟩:∃ j,i=j+1:=⟨i - 1,by omega⟩
   have hj:j < l.length:=by omega
   have hlast:=h4 j l[j] rfl (List.getElem?_eq_getElem hj)
   by_cases hkj:k=j
   ·subst hkj
    rw [List.getElem?_take_of_lt (by omega),List.getElem?_eq_getElem hj] at hk
    injection hk with hk
    rw [← hk]
    exact hlast
   ·refine b_lt_trans ?_ hlast
    rw [List.pairwise_iff_getElem] at h2
    obtain ⟨hk1,hk2⟩:=List.getElem?_eq_some_iff.1 hk
    have h5:j < (l.take (j+1)).length:=by rw [List.length_take]; omega
    have:=h2 k j hk1 h5 (by omega)
    rw [hk2,List.getElem_take] at this
    exact this
def inR (lo hi x : Bs) : Bool := (decide (lo < x) || decide (lo = x)) && (decide (hi = []) || decide (x < hi))
def inL (l : List Bs) (lo hi : Bs) : List Bs := l.filter (inR lo hi)
theorem filter_take_yes {α:Type} {p:α→Bool} {l:List α} {i:Nat} {x:α} (hx:l[i]?=some x) (h:p x=true):(l.take i).filter p++[x]=(l.take (i+1)).filter p:=by
 obtain ⟨hlt,he⟩:=List.getElem?_eq_some_iff.1 hx
 rw [List.take_succ_eq_append_getElem hlt,he,List.filter_append]
 simp [h]
theorem filter_take_no {α:Type} {p:α→Bool} {l:List α} {i:Nat} {x:α} (hx:l[i]?=some x) (h:p x=false):(l.take i).filter p=(l.take (i+1)).filter p:=by
 obtain ⟨hlt,he⟩:=List.getElem?_eq_some_iff.1 hx
 rw [List.take_succ_eq_append_getElem hlt,he,List.filter_append]
 simp [h]
theorem inL_len (l:List Bs) (lo hi:Bs):(inL l lo hi).length≤l.length:=List.length_filter_le _ _
def without (l m : List Bs) : List Bs := l.filter fun x => !m.contains x
theorem without_yes {l m:List Bs} {i:Nat} {x:Bs} (hx:l[i]?=some x) (h:m.contains x=false):without (l.take i) m++[x]=without (l.take (i+1)) m:=filter_take_yes hx (by simpa using h)
theorem without_no {l m:List Bs} {i:Nat} {x:Bs} (hx:l[i]?=some x) (h:m.contains x=true):without (l.take i) m=without (l.take (i+1)) m:=filter_take_no hx (by simpa using h)
theorem without_len (l m:List Bs):(without l m).length≤l.length:=List.length_filter_le _ _
theorem take_eq_step {l m:List Bs} {i:Nat} {x y:Bs} (hx:l[i]?=some x) (hy:m[i]?=some y) (h:l.take i=m.take i) (he:x=y):l.take (i+1)=m.take (i+1):=by
 obtain ⟨h1,e1⟩:=List.getElem?_eq_some_iff.1 hx
 obtain ⟨h2,e2⟩:=List.getElem?_eq_some_iff.1 hy
 rw [List.take_succ_eq_append_getElem h1,List.take_succ_eq_append_getElem h2,h,e1,e2,he]
def setB (l : List Bs) : Bool := decide (l.length ≤ 40) && decide (setE l = 0)
def spanOk (lo hi : Bs) : Bool := decide (hi = []) || decide (lo < hi)
def boundOk (x : Bs) : Bool := decide (x = []) || decide (x.length = 32)
def ordOk (l : List Bs) (lo hi : Bs) : Bool := l.all (inR lo hi) && decide (l.Pairwise (· < ·))
theorem pw_step {l:List Bs} {i:Nat} {x:Bs} (hx:l[i]?=some x):(l.take (i+1)).Pairwise (· < ·)↔(l.take i).Pairwise (· < ·)∧∀ j y,i=j+1→l[j]?=some y→y < x:=by
 obtain ⟨hlt,he⟩:=List.getElem?_eq_some_iff.1 hx
 rw [List.take_succ_eq_append_getElem hlt,he,List.pairwise_append]
 constructor
 ·rintro ⟨h2,_,h3⟩
  exact ⟨h2,fun j y hj hy=>h3 y (List.mem_of_getElem? (i:=j) (by rw [List.getElem?_take_of_lt (by omega)]; exact hy)) x (by simp)⟩
 ·rintro ⟨h2,h4⟩
  refine ⟨h2,by simp,fun a ha b hb=>?_⟩
  rw [List.mem_singleton.1 hb]
  obtain ⟨k,hk⟩:=List.getElem?_of_mem ha
  have hki:k < i:=by
   have:=(List.getElem?_eq_some_iff.1 hk).1
   rw [List.length_take] at this
   omega
  obtain ⟨j,rfl⟩:∃ j,i=j+1:=⟨i - 1,by omega⟩
  have hj:j < l.length:=by omega
  have hlast:=h4 j l[j] rfl (List.getElem?_eq_getElem hj)
  by_cases hkj:k=j
  ·subst hkj
   rw [List.getElem?_take_of_lt (by omega),List.getElem?_eq_getElem hj] at hk
   injection hk with hk
   rw [← hk]
   exact hlast
  ·refine b_lt_trans ?_ hlast
   rw [List.pairwise_iff_getElem] at h2
   obtain ⟨hk1,hk2⟩:=List.getElem?_eq_some_iff.1 hk
   have h5:j < (l.take (j+1)).length:=by rw [List.length_take]; omega
   have:=h2 k j hk1 h5 (by omega)
   rw [hk2,List.getElem_take] at this
   exact this
theorem ordOk_step {l:List Bs} {i:Nat} {x lo hi:Bs} (hx:l[i]?=some x):ordOk (l.take (i+1)) lo hi=true↔ordOk (l.take i) lo hi=true∧inR lo hi x=true∧∀ j y,i=j+1→l[j]?=some y→y < x:=by
 unfold ordOk
 rw [Bool.and_eq_true,Bool.and_eq_true,decide_eq_true_eq,decide_eq_true_eq,pw_step hx]
 obtain ⟨hlt,he⟩:=List.getElem?_eq_some_iff.1 hx
 rw [List.take_succ_eq_append_getElem hlt,he,List.all_append]
 simp
 constructor
 ·rintro ⟨⟨h1,h2⟩,h3,h4⟩; exact ⟨⟨h1,h3⟩,h2,h4⟩
 ·rintro ⟨⟨h1,h3⟩,h2,h4⟩; exact ⟨⟨h1,h2⟩,h3,h4⟩
theorem ordOk_bad {l:List Bs} {i:Nat} {x lo hi:Bs} (hx:l[i]?=some x) (h:¬ (inR lo hi x=true∧∀ j y,i=j+1→l[j]?=some y→y < x)):ordOk l lo hi=false:=by
 cases ho:ordOk l lo hi with
 | false=>rfl
 | true =>
   unfold ordOk at ho
   rw [Bool.and_eq_true,decide_eq_true_eq] at ho
   have:ordOk (l.take (i+1)) lo hi=true:=by
    unfold ordOk
    rw [Bool.and_eq_true,decide_eq_true_eq]
    refine ⟨?_,ho.2.sublist (List.take_sublist _ _)⟩
    rw [List.all_eq_true] at ho ⊢
    exact fun y hy=>ho.1 y (List.mem_of_mem_take hy)
   exact (h ((ordOk_step hx).1 this).2).elim
theorem setE_zero {l:List Bs} (h:setE l=0):l.length≤16384∧okSet l:=by
 unfold setE at h
 split at h
 ·cases h
 ·split at h
  ·exact ⟨by omega,by assumption⟩
  ·cases h
theorem okSet_flat {l:List Bs} (h:l.length≤16384∧okSet l):l.flatten.length≤l.length*32:=by
 have key:∀ l:List Bs,(∀ x∈l,x.length=32)→l.flatten.length=l.length*32:=by
  intro l
  induction l with
  | nil=>intro _; rfl
  | cons x l ih =>
    intro hx
    rw [List.flatten_cons,List.length_append,ih fun y hy=>hx y (by simp [hy]),hx x (by simp),List.length_cons]
    omega
 exact Nat.le_of_eq (key l h.2.1)
def itemB (y : UInt8) : Bs := List.replicate 32 y
theorem flatten_take {l:List Bs} {i:Nat} {x:Bs} (hx:l[i]?=some x):(l.take i).flatten++x=(l.take (i+1)).flatten:=by
 obtain ⟨hlt,he⟩:=List.getElem?_eq_some_iff.1 hx
 rw [List.take_succ_eq_append_getElem hlt,he]
 simp
/-! ### A list with further items -/
def posB (l : List Bs) (x : Bs) : Nat := (l.takeWhile fun y => decide (y < x)).length
def insB (l : List Bs) (x : Bs) : List Bs := if l.contains x then l else (l.take (posB l x) ++ [x]) ++ l.drop (posB l x)
def withL (l m : List Bs) : List Bs := m.foldl insB l
theorem posB_le (l:List Bs) (x:Bs):posB l x≤l.length:=List.Sublist.length_le (List.takeWhile_sublist _)
theorem take_posB (l:List Bs) (s:Bs):l.take (posB l s)=l.takeWhile fun x=>decide (x < s):=by
 unfold posB
 conv=>lhs; arg 2; rw [← List.takeWhile_append_dropWhile (p:=fun x=>decide (x < s)) (l:=l)]
 exact List.take_left
theorem drop_posB (l:List Bs) (s:Bs):l.drop (posB l s)=l.dropWhile fun x=>decide (x < s):=by
 unfold posB
 conv=>lhs; arg 2; rw [← List.takeWhile_append_dropWhile (p:=fun x=>decide (x < s)) (l:=l)]
 exact List.drop_left
theorem posB_step {l:List Bs} {s:Bs} {k:Nat} {x:Bs} (hk:k≤posB l s) (hx:l[k]?=some x):(x < s↔k < posB l s):=by
 constructor
 ·intro h
  rcases Nat.lt_or_ge k (posB l s) with h1 | h1
  ·exact h1
  ·exfalso
   have hke:k=posB l s:=by omega
   subst hke
   have h0:(l.drop (posB l s))[0]?=some x:=by rw [List.getElem?_drop]; simpa using hx
   rw [drop_posB] at h0
   have hne:l.dropWhile (fun x=>decide (x < s))≠[]:=by intro e; rw [e] at h0; cases h0
   have:=List.head_dropWhile_not (fun x=>decide (x < s)) hne
   rw [List.head_eq_getElem] at this
   rw [List.getElem?_eq_getElem (List.length_pos_iff.2 hne)] at h0
   injection h0 with h0
   rw [h0] at this
   simp [h] at this
 ·intro h
  have h1:(l.take (posB l s))[k]?=some x:=by rw [List.getElem?_take_of_lt h]; exact hx
  rw [take_posB] at h1
  have h2:=List.all_takeWhile (p:=fun x=>decide (x < s)) (l:=l)
  rw [List.all_eq_true] at h2
  simpa using h2 x (List.mem_of_getElem? h1)
theorem insB_len (l:List Bs) (x:Bs):(insB l x).length≤l.length+1:=by
 unfold insB
 split
 ·omega
 ·simp only [List.length_append,List.length_take,List.length_drop,List.length_cons,List.length_nil]
  have:=posB_le l x
  omega
theorem withL_len (m:List Bs):∀ l:List Bs,(withL l m).length≤l.length+m.length:=by
 induction m with
 | nil=>intro l; exact Nat.le_refl _
 | cons x m ih =>
   intro l
   have h1:=ih (insB l x)
   have h2:=insB_len l x
   show (withL (insB l x) m).length≤_
   rw [List.length_cons]
   omega
/-! ### Search by halves -/
def bsr (p : Nat → Bool) (i j : Nat) : Nat := if h : i < j then (if p ((i + j) / 2) then bsr p i ((i + j) / 2) else bsr p ((i + j) / 2 + 1) j) else i
termination_by j - i
decreasing_by all_goals omega
theorem bsr_lo {p:Nat→Bool} {i j:Nat} (h:i < j) (hp:p ((i+j) / 2)=true):bsr p i j=bsr p i ((i+j) / 2):=by rw [bsr,dif_pos h,if_pos hp]
theorem bsr_hi {p:Nat→Bool} {i j:Nat} (h:i < j) (hp:p ((i+j) / 2)=false):bsr p i j=bsr p ((i+j) / 2+1) j:=by rw [bsr,dif_pos h,if_neg (by rw [hp]; decide)]
theorem bsr_end {p:Nat→Bool} {i j:Nat} (h:¬ i < j):bsr p i j=i:=by rw [bsr,dif_neg h]
theorem bsr_eq {p:Nat→Bool} {k n:Nat} (h0:∀ i,i < k→p i=false) (h1:∀ i,k≤i→i < n→p i=true):∀ (m i j:Nat),j - i≤m→i≤k→k≤j→j≤n→bsr p i j=k
 | 0,i,j,hm,hi,hj,_=>by rw [bsr_end (by omega)]; omega
 | m+1,i,j,hm,hi,hj,hn=>by
   by_cases h:i < j
   ·cases hp:p ((i+j) / 2) with
    | true =>
      rw [bsr_lo h hp]
      have:k≤(i+j) / 2:=by
       rcases Nat.lt_or_ge ((i+j) / 2) k with h2 | h2
       ·rw [h0 _ h2] at hp; cases hp
       ·exact h2
      exact bsr_eq h0 h1 m i _ (by omega) hi this (by omega)
    | false =>
      rw [bsr_hi h hp]
      have:(i+j) / 2 < k:=by
       rcases Nat.lt_or_ge ((i+j) / 2) k with h2 | h2
       ·exact h2
       ·rw [h1 _ h2 (by omega)] at hp; cases hp
      exact bsr_eq h0 h1 m _ j (by omega) (by omega) hj hn
   ·rw [bsr_end h]; omega
def geP (l : List Bs) (x : Bs) (i : Nat) : Bool := !decide (l.getD i [] < x)
theorem geP_at {l:List Bs} {i:Nat} {y x:Bs} (h:l[i]?=some y):geP l x i = !decide (y < x):=by simp [geP,List.getD_eq_getElem?_getD,h]
theorem search_pos {l:List Bs} (hs:l.Pairwise (· < ·)) (x:Bs):bsr (geP l x) 0 l.length=posB l x:=by
 refine bsr_eq (k:=posB l x) (n:=l.length) (fun i hi=>?_) (fun i hi hn=>?_) l.length 0 l.length (by omega) (Nat.zero_le _) (posB_le l x) (Nat.le_refl _)
 ·have hlt:i < l.length:=Nat.lt_of_lt_of_le hi (posB_le l x)
  rw [geP_at (List.getElem?_eq_getElem hlt)]
  simp [(posB_step (Nat.le_of_lt hi) (List.getElem?_eq_getElem hlt)).2 hi]
 ·rw [geP_at (List.getElem?_eq_getElem hn)]
  have hp:posB l x < l.length:=by omega
  have h1:¬ l[posB l x] < x:=fun h=>by
   have:=(posB_step (Nat.le_refl _) (List.getElem?_eq_getElem hp)).1 h
   omega
  have h2:¬ l[i] < x:=fun h=>by
   rcases Nat.lt_or_ge (posB l x) i with h3 | h3
   ·have:=(List.pairwise_iff_getElem.1 hs) (posB l x) i hp hn h3
    exact h1 (b_lt_trans this h)
   ·have:i=posB l x:=by omega
    subst this
    exact h1 h
  simp [h2]
theorem take_lt {l:List Bs} {x y:Bs} (h:y∈l.take (posB l x)):y < x:=by
 rw [take_posB] at h
 have h2:=List.all_takeWhile (p:=fun z=>decide (z < x)) (l:=l)
 rw [List.all_eq_true] at h2
 simpa using h2 y h
theorem drop_ge' {l:List Bs} (hs:l.Pairwise (· < ·)) {x y:Bs} (h:y∈l.drop (posB l x)):¬ y < x:=by
 obtain ⟨j,hj⟩:=List.getElem?_of_mem h
 rw [List.getElem?_drop] at hj
 intro hlt
 have hjl:=(List.getElem?_eq_some_iff.1 hj).1
 have hp:posB l x < l.length:=by omega
 have h1:¬ l[posB l x] < x:=fun h=>by
  have:=(posB_step (Nat.le_refl _) (List.getElem?_eq_getElem hp)).1 h
  omega
 rcases Nat.eq_zero_or_pos j with h0 | h0
 ·subst h0
  rw [Nat.add_zero,List.getElem?_eq_getElem hp] at hj
  injection hj with hj
  exact h1 (hj▸hlt)
 ·have h3:=(List.pairwise_iff_getElem.1 hs) (posB l x) (posB l x+j) hp hjl (by omega)
  rw [(List.getElem?_eq_some_iff.1 hj).2] at h3
  exact h1 (b_lt_trans h3 hlt)
theorem inL_part {l:List Bs} (hs:l.Pairwise (· < ·)) (lo hi:Bs):(l.take (max (posB l lo) (if hi=[] then l.length else posB l hi))).drop (posB l lo)=inL l lo hi:=by
 have hb:inR lo hi=fun x=>!decide (x < lo) && (decide (hi=[]) || decide (x < hi)):=by
  funext x
  unfold inR
  by_cases h1:lo < x
  ·have:¬ x < lo:=fun h=>b_lt_irrefl (b_lt_trans h1 h)
   simp [h1,this]
  ·by_cases h2:lo=x
   ·subst h2; simp [b_lt_irrefl]
   ·have:x < lo:=b_lt_or h1 h2
    simp [h1,h2,this]
 have hsplit:l=l.take (posB l lo)++l.drop (posB l lo):=(List.take_append_drop _ _).symm
 have hD:∀ y,y∈l.drop (posB l lo)→¬ y < lo:=fun y h=>drop_ge' hs h
 have hsD:(l.drop (posB l lo)).Pairwise (· < ·):=hs.sublist (List.drop_sublist _ _)
 have e1:inL l lo hi=(l.drop (posB l lo)).filter fun x=>decide (hi=[]) || decide (x < hi):=by
  unfold inL
  rw [hb]
  conv=>lhs; rw [hsplit]
  rw [List.filter_append]
  have z1:(l.take (posB l lo)).filter (fun x=>!decide (x < lo) && (decide (hi=[]) || decide (x < hi)))=[]:=by
   rw [List.filter_eq_nil_iff]
   intro x hx
   simp [take_lt hx]
  rw [z1,List.nil_append]
  apply List.filter_congr
  intro x hx
  simp [hD x hx]
 rw [e1,List.drop_take]
 by_cases hh:hi=[]
 ·subst hh
  have hle:=posB_le l lo
  rw [if_pos rfl,Nat.max_eq_right hle]
  have:(l.drop (posB l lo)).filter (fun x=>decide (([]:Bs)=[]) || decide (x < []))=l.drop (posB l lo):=by simp
  rw [this,List.take_of_length_le (by rw [List.length_drop]; omega)]
 ·rw [if_neg hh]
  have e2:(l.drop (posB l lo)).filter (fun x=>decide (hi=[]) || decide (x < hi))=(l.drop (posB l lo)).filter fun x=>decide (x < hi):=by
   apply List.filter_congr
   intro x _
   simp [hh]
  rw [e2]
  rcases Nat.lt_or_ge (posB l lo) (posB l hi) with h1 | h1
  ·rw [Nat.max_eq_right (Nat.le_of_lt h1)]
   have hs2:l.drop (posB l lo)=(l.drop (posB l lo)).take (posB l hi - posB l lo)++l.drop (posB l hi):=by
    have:=(List.take_append_drop (posB l hi - posB l lo) (l.drop (posB l lo))).symm
    rwa [List.drop_drop,show posB l lo+(posB l hi - posB l lo)=posB l hi by omega] at this
   conv=>rhs; rw [hs2]
   rw [List.filter_append]
   have z1:((l.drop (posB l lo)).take (posB l hi - posB l lo)).filter (fun x=>decide (x < hi))=(l.drop (posB l lo)).take (posB l hi - posB l lo):=by
    rw [List.filter_eq_self]
    intro x hx
    have:x∈l.take (posB l hi):=by
     rw [← List.drop_take] at hx
     exact List.mem_of_mem_drop hx
    simpa using take_lt this
   have z2:(l.drop (posB l hi)).filter (fun x=>decide (x < hi))=[]:=by
    rw [List.filter_eq_nil_iff]
    intro x hx
    simpa using drop_ge' hs hx
   rw [z1,z2,List.append_nil]
  ·rw [Nat.max_eq_left h1,Nat.sub_self,List.take_zero]
   symm
   rw [List.filter_eq_nil_iff]
   intro x hx
   have:x∈l.drop (posB l hi):=by
    have e:l.drop (posB l lo)=(l.drop (posB l hi)).drop (posB l lo - posB l hi):=by rw [List.drop_drop]; congr 1; omega
    rw [e] at hx
    exact List.mem_of_mem_drop hx
   simpa using drop_ge' hs this
theorem has_pos {l:List Bs} (hs:l.Pairwise (· < ·)) (x:Bs):l.contains x=decide (l[posB l x]?=some x):=by
 rw [Bool.eq_iff_iff,decide_eq_true_eq,List.contains_iff_mem]
 constructor
 ·intro h
  have hm:x∈l.take (posB l x)++l.drop (posB l x):=by rw [List.take_append_drop]; exact h
  rcases List.mem_append.1 hm with h1 | h1
  ·exact (b_lt_irrefl (take_lt h1)).elim
  ·obtain ⟨j,hj⟩:=List.getElem?_of_mem h1
   rw [List.getElem?_drop] at hj
   have hjl:=(List.getElem?_eq_some_iff.1 hj).1
   rcases Nat.eq_zero_or_pos j with h0 | h0
   ·subst h0; exact hj
   ·have hp:posB l x < l.length:=by omega
    have h3:=(List.pairwise_iff_getElem.1 hs) (posB l x) (posB l x+j) hp hjl (by omega)
    rw [(List.getElem?_eq_some_iff.1 hj).2] at h3
    have:=(posB_step (Nat.le_refl _) (List.getElem?_eq_getElem hp)).1 h3
    omega
 ·intro h
  exact List.mem_of_getElem? h
theorem okSet_filter {l:List Bs} (h:okSet l) (p:Bs→Bool):okSet (l.filter p):=⟨fun x hx=>h.1 x (List.mem_filter.1 hx).1,h.2.sublist List.filter_sublist⟩
theorem flat32:∀ l:List Bs,(∀ x∈l,x.length=32)→l.flatten.length=l.length*32
 | [],_=>rfl
 | x::l,hx=>by
   rw [List.flatten_cons,List.length_append,flat32 l fun y hy=>hx y (by simp [hy]),hx x (by simp),List.length_cons]
   omega
theorem inL_flat {l:List Bs} (h:okSet l) (lo hi:Bs):(inL l lo hi).flatten.length≤l.length*32:=by
 have e:(inL l lo hi).flatten.length=(inL l lo hi).length*32:=flat32 _ (okSet_filter h (inR lo hi)).1
 rw [e]
 exact Nat.mul_le_mul_right _ (inL_len l lo hi)
def keepIn (l m : List Bs) : List Bs := l.filter fun x => m.contains x
theorem keepIn_yes {l m:List Bs} {i:Nat} {x:Bs} (hx:l[i]?=some x) (h:m.contains x=true):keepIn (l.take i) m++[x]=keepIn (l.take (i+1)) m:=filter_take_yes hx h
theorem keepIn_no {l m:List Bs} {i:Nat} {x:Bs} (hx:l[i]?=some x) (h:m.contains x=false):keepIn (l.take i) m=keepIn (l.take (i+1)) m:=filter_take_no hx h
theorem keepIn_len (l m:List Bs):(keepIn l m).length≤l.length:=List.length_filter_le _ _
def fpB (l : List Bs) : Bs := sha l.flatten
/-! ### Plain -/
inductive AC where
 | sum (n : Nat) (f : Bs) | list (xs : List Bs) | ans (xs ms : List Bs)
 deriving DecidableEq
structure AP where
 (lo hi : Bs) (c : AC)
 deriving DecidableEq
def sumA (its : List Bs) (lo hi : Bs) : AP := ⟨lo, hi, .sum (inL its lo hi).length (fpB (inL its lo hi))⟩
def divTo (its own : List Bs) (fan : Nat) (lo : Bs) : Nat → Bs × List AP
 | 0 => (lo, [])
 | k + 1 => if own.getD ((k + 1) * own.length / fan) [] = (divTo its own fan lo k).1 then divTo its own fan lo k else (own.getD ((k + 1) * own.length / fan) [], (divTo its own fan lo k).2 ++ [sumA its (divTo its own fan lo k).1 (own.getD ((k + 1) * own.length / fan) [])])
def cmpA (its : List Bs) (fan leaf : Nat) (lo hi : Bs) (n : Nat) (f : Bs) : List AP :=
 if (inL its lo hi).length = n ∧ fpB (inL its lo hi) = f then []
 else if (inL its lo hi).length ≤ leaf then [⟨lo, hi, .list (inL its lo hi)⟩]
 else (divTo its (inL its lo hi) fan lo (fan - 1)).2 ++ [sumA its (divTo its (inL its lo hi) fan lo (fan - 1)).1 hi]
def ansA (its : List Bs) (lo hi : Bs) (xs : List Bs) : List AP :=
 if 0 < (without (inL its lo hi) xs).length + (without xs its).length then [⟨lo, hi, .ans (without (inL its lo hi) xs) (without xs its)⟩] else []
theorem take_snoc {α:Type} {l:List α} {i:Nat} {x:α} (hx:l[i]?=some x):l.take i++[x]=l.take (i+1):=by rw [List.take_add_one,hx]; rfl
/-! ### Encoding -/
abbrev noB : Bs := []
def AC.enc : AC → Bs
 | .sum n f => (num 1 ++ num n) ++ f
 | .list xs => num 2 ++ (num xs.length ++ xs.flatten)
 | .ans xs ms => (num 3 ++ (num xs.length ++ xs.flatten)) ++ (num ms.length ++ ms.flatten)
def AP.enc (p : AP) : Bs := ((num p.lo.length ++ p.lo) ++ (num p.hi.length ++ p.hi)) ++ p.c.enc
def encA (ps : List AP) : Bs := if ps.length = 0 then [] else num ps.length ++ ps.flatMap AP.enc
def AC.fit : AC → Prop
 | .sum n f => n ≤ 16384 ∧ f.length = 32
 | .list xs => xs.length ≤ 16384 ∧ ∀ x ∈ xs, x.length = 32
 | .ans xs ms => (xs.length ≤ 16384 ∧ ∀ x ∈ xs, x.length = 32) ∧ ms.length ≤ 16384 ∧ ∀ x ∈ ms, x.length = 32
def AP.fit (p : AP) : Prop := p.lo.length ≤ 32 ∧ p.hi.length ≤ 32 ∧ p.c.fit
theorem enc_step {ps:List AP} {i:Nat} {p:AP} (h:ps[i]?=some p):(ps.take i).flatMap AP.enc++p.enc=(ps.take (i+1)).flatMap AP.enc:=by
 rw [← take_snoc h,List.flatMap_append]
 simp
theorem enc_le {ps:List AP} {i:Nat} {p:AP} (h:ps[i]?=some p):((ps.take i).flatMap AP.enc).length+p.enc.length≤(ps.flatMap AP.enc).length:=by
 have e:=enc_step h
 have e2:ps.flatMap AP.enc=(ps.take (i+1)).flatMap AP.enc++(ps.drop (i+1)).flatMap AP.enc:=by rw [← List.flatMap_append,List.take_append_drop]
 rw [e2,← e]
 simp only [List.length_append]
 omega
theorem numPos (n:Nat):0 < (num n).length:=by
 unfold num
 split <;> simp
theorem enc_ge:∀ ps:List AP,ps.length≤(ps.flatMap AP.enc).length
 | []=>Nat.zero_le _
 | p::ps=>by
   have h:=enc_ge ps
   have h2:=numPos p.lo.length
   simp only [List.flatMap_cons,List.length_append,List.length_cons,AP.enc]
   omega
theorem rsPvalid_any (fan leaf:Int) (w:World) :
  Calls Tryz.prog 91 #[(.agg #[(.int .i64 fan),(.int .i64 leaf)])] w fun e w'=>e = .returned (.bool (okP fan leaf))∧Back [] w [] w':=by
 refine sE1 Tryz.func91 21 (Mm.start w []) ?_
 refine stSeq (reg (li rfl (oBx [(.int .i64 fan),(.int .i64 leaf)] fun b1=>?_)))
 refine la ?_
 refine liNil (qThen (stSeq (reg (lc (vP b1 0) ?_))))
 refine ll 0 ?_
 refine lc (.bool (decide ((fan:Int)≥2))) ?_
 refine lm ?_
 refine St.dec 6 rfl (fun hc6=>?_) (fun hc6=>?_)
 ·have hd6:=of_decide_eq_true hc6
  refine lgc (vP b1 0) ?_
  refine lgv (v:=(.int .i64 fan)) (rLoad 0 rfl rfl (by kernel_rfl) rfl rfl) ?_
  refine lgc (.bool (decide ((fan:Int)≤16))) ?_
  refine lc (.bool (decide ((fan:Int)≤16))) ?_
  refine lm ?_
  refine St.dec 11 rfl (fun hc11=>?_) (fun hc11=>?_)
  ·have hd11:=of_decide_eq_true hc11
   refine lgc (vP b1 1) ?_
   refine lgv (v:=(.int .i64 leaf)) (rLoad 0 rfl rfl (by kernel_rfl) rfl rfl) ?_
   refine lgc (.bool (decide ((leaf:Int)≥1))) ?_
   refine lc (.bool (decide ((leaf:Int)≥1))) ?_
   refine lm ?_
   refine St.dec 16 rfl (fun hc16=>?_) (fun hc16=>?_)
   ·have hd16:=of_decide_eq_true hc16
    refine lgc (vP b1 1) ?_
    refine lgv (v:=(.int .i64 leaf)) (rLoad 0 rfl rfl (by kernel_rfl) rfl rfl) ?_
    refine lgc (.bool (decide ((leaf:Int)≤64))) ?_
    refine lc (.bool (decide ((leaf:Int)≤64))) ?_
    refine la ?_
    refine liNil (qThen (stRet (sN [(.bool (decide ((leaf:Int)≤64)))] fun w hM=>?_)))
    exact ⟨ret_bool (by unfold okP; simp; omega),(hM.pick [] rfl rfl)⟩
   ·have hd16:=of_decide_eq_false hc16
    iterate 3 refine lnF ?_
    refine lc (.bool false) ?_
    refine la ?_
    refine liNil (qThen (stRet (sN [(.bool false)] fun w hM=>?_)))
    exact ⟨ret_bool (by unfold okP; simp; omega),(hM.pick [] rfl rfl)⟩
  ·have hd11:=of_decide_eq_false hc11
   iterate 3 refine lnF ?_
   refine lc (.bool false) ?_
   refine lm ?_
   iterate 3 refine lnF ?_
   refine lc (.bool false) ?_
   refine la ?_
   refine liNil (qThen (stRet (sN [(.bool false)] fun w hM=>?_)))
   exact ⟨ret_bool (by unfold okP; simp; omega),(hM.pick [] rfl rfl)⟩
 ·have hd6:=of_decide_eq_false hc6
  iterate 3 refine lnF ?_
  refine lc (.bool false) ?_
  refine lm ?_
  iterate 3 refine lnF ?_
  refine lc (.bool false) ?_
  refine lm ?_
  iterate 3 refine lnF ?_
  refine lc (.bool false) ?_
  refine la ?_
  refine liNil (qThen (stRet (sN [(.bool false)] fun w hM=>?_)))
  exact ⟨ret_bool (by unfold okP; simp; omega),(hM.pick [] rfl rfl)⟩
theorem rsSet_any (A:Option Addr) (c:Nat) (l:List (List UInt8)) (w:World) (r0:Rf [] w (fun w=>RowIn w A (SS l))) (hl:l.length≤9223372036854775807) :
  Calls Tryz.prog 11 #[(vL A l c)] w fun e w'=>e = .returned (.int .i64 (setE l))∧Back [] w [] w':=by
 have hl':=hl
 refine sE1 Tryz.func11 32 (Mm.start w []) ?_
 refine stSeq (reg (la ?_))
 refine liNil (qThen (stSeq (stSeq (reg (lm ?_)))))
 refine lc (vI l.length) ?_
 refine lc (.bool (decide (((l.length:Nat):Int) > 16384))) ?_
 refine liNil (qThen (stCond rfl (fun hc7=>?_) (fun hc7=>?_)))
 ·have hd7:=of_decide_eq_true hc7
  refine stSeq (reg (la ?_))
  refine liNil (qThen (stRet (qThenR (sN [(.int .i64 2)] fun w hM=>?_))))
  exact ⟨ret_int (setE_big (by omega)).symm,hM⟩
 ·have hd7:=of_decide_eq_false hc7
  refine stSkip (qThen (stSeq (stSeq (reg (lm ?_)))))
  refine lc (vI l.length) ?_
  refine lm ?_
  refine liNil (qThen (stBlock (sL (fun i=>i≤l.length∧okSet (l.take i)) (fun i=>l.length - i) (fun i=>[(0,(vL A l c)),(2,(.int .i64 0)),(8,(vL A l c)),(9,(vI l.length)),(10,(vI i))]) (fun i=>[]) 0 ⟨Nat.zero_le _,okSet_nil⟩ (fun _ h=>h) ?_)))
  intro i hok
  show St _ _ _ [(0,(vL A l c)),(2,(.int .i64 0)),(8,(vL A l c)),(9,(vI l.length)),(10,(vI i))] [] _
  refine stSeq (reg (lc (.bool (decide (((i:Nat):Int) < ((l.length:Nat):Int)))) ?_))
  refine liNil (qThen (stSeq (stCond rfl (fun hc11=>?_) (fun hc11=>?_))))
  ·have hd11:=of_decide_eq_true hc11
   refine stSkip (qThen (stSeq (stBlock (stSeq (reg (lm ?_))))))
   obtain ⟨x0,hx0⟩:∃ ξ,(l)[i]?=some ξ:=⟨_,List.getElem?_eq_getElem (by omega)⟩
   refine St.rowPtr (fun w hM=>r0.now hM) (SS_at hx0) (fun p13 q13 hA13 hc13=>?_)
   refine lv (v:=(vP p13 (q13+i))) (rR 9 hA13) ?_
   refine lv (rW hc13) ?_
   refine la ?_
   refine la ?_
   refine liNil (qThen (stSeq (reg (lm ?_))))
   refine lv (v:=(vI ((x0).length))) (rLenS rfl rfl (by kernel_rfl)) ?_
   refine lc (.bool (((((x0).length:Nat):Int):Int) != 32)) ?_
   refine lm ?_
   refine St.dec 18 rfl (fun hc18=>?_) (fun hc18=>?_)
   ·refine lnT ?_
    refine lnT ?_
    refine lnT ?_
    iterate 7 refine lnU ?_
    refine lnT ?_
    refine lc (.bool true) ?_
    refine liNil (qThen (stTrue rfl (stSeq (reg ?_))))
    refine la ?_
    refine liNil (qThen (stRet (qBlockR (qThenR (qThenR (qBlockR (qThenR ?_)))))))
    refine sN [(.int .i64 1)] fun w hM=>?_
    exact ⟨ret_int (setE_bad (by omega) (fun h=>by have h2:=okSet_take (i+1) h; have h3:=((okSet_step hx0).1 h2).2; simp [h3.1] at hc18)).symm,hM⟩
   ·refine lgm ?_
    refine lgc (.bool (decide (((i:Nat):Int) > 0))) ?_
    refine lgm ?_
    refine St.dec 21 rfl (fun hc21=>?_) (fun hc21=>?_)
    ·have hd21:=of_decide_eq_true hc21
     refine lgm ?_
     refine lgm ?_
     refine lgv (v:=(vI (i - 1))) (rSub _ rfl rfl rfl (by omega) (by omega) (by omega)) ?_
     obtain ⟨x1,hx1⟩:∃ ξ,(l)[i - 1]?=some ξ:=⟨_,List.getElem?_eq_getElem (by omega)⟩
     refine St.rowPtr (fun w hM=>r0.now hM) (SS_at hx1) (fun p25 q25 hA25 hc25=>?_)
     refine lgv (v:=(vP p25 (q25+(i - 1)))) (rIndexRow (e:=9) rfl (by kernel_rfl) (by kernel_rfl) rfl rfl hA25 (by omega)) ?_
     refine lgv (v:=(vS x1)) (rLoadW rfl rfl (by kernel_rfl) hc25) ?_
     refine lgm ?_
     refine lgv (v:=(.bool (!decide (x1 < x0)))) (rStrGe rfl rfl rfl) ?_
     refine lgc (.bool (!decide (x1 < x0))) ?_
     refine lc (.bool (!decide (x1 < x0))) ?_
     refine liNil (qThen (stCond rfl (fun hc30=>?_) (fun hc30=>?_)))
     ·refine stSeq (reg (la ?_))
      refine liNil (qThen (stRet (qBlockR (qThenR (qThenR (qBlockR (qThenR ?_)))))))
      refine sN [(.int .i64 1)] fun w hM=>?_
      exact ⟨ret_int (setE_bad (by omega) (fun h=>by have h2:=okSet_take (i+1) h; have h3:=((okSet_step hx0).1 h2).2; have h4:=h3.2 (i - 1) x1 (by omega) hx1; simp [h4] at hc30)).symm,hM⟩
     ·have hlast:∀ j x,i=j+1→l[j]?=some x→x < x0:=fun j x hj hx=>by obtain rfl:i - 1=j:=(by omega); rw [hx1] at hx; cases hx; simpa using hc30
      refine stSkip (qBlock (qThen (reg ?_)))
      refine lv (v:=(vI (i+1))) rAd ?_
      refine lm ?_
      exact liNil (qThen (sA (i+1) (⟨by omega,(okSet_step hx0).2 ⟨hok.2,by simp at hc18; omega,hlast⟩⟩) (by show l.length - (i+1) < l.length - i; omega) (fun w hM=>hM)))
    ·have hd21:=of_decide_eq_false hc21
     have hlast:∀ j x,i=j+1→l[j]?=some x→x < x0:=fun j x hj _=>by omega
     iterate 7 refine lnF ?_
     refine lgc (.bool false) ?_
     refine lc (.bool false) ?_
     refine liNil (qThen (stFalse rfl (stSkip (qBlock (qThen (reg ?_))))))
     refine lv (v:=(vI (i+1))) rAd ?_
     refine lm ?_
     exact liNil (qThen (sA (i+1) (⟨by omega,(okSet_step hx0).2 ⟨hok.2,by simp at hc18; omega,hlast⟩⟩) (by show l.length - (i+1) < l.length - i; omega) (fun w hM=>hM)))
  ·have hd11:=of_decide_eq_false hc11
   refine stExit (qThenX (qThenX (qBlockX (qThen (stSeq (reg ?_))))))
   refine la ?_
   refine liNil (qThen (stRet (sN [(.int .i64 0)] fun w hM=>?_)))
   exact ⟨ret_int (setE_ok (by omega) (by have h:=hok.2; rwa [List.take_of_length_le (by omega)] at h)).symm,hM⟩
theorem rsCheck_any (A:Option Addr) (c:Nat) (l:List (List UInt8)) (w:World) (r0:Rf [] w (fun w=>RowIn w A (SS l))) (hl:l.length≤9223372036854775807) :
  Calls Tryz.prog 63 #[(vL A l c)] w fun e w'=>e = .returned (.int .i64 (setE l))∧Back [] w [] w':=by
 have hl':=hl
 refine sE1 Tryz.func63 32 (Mm.start w []) ?_
 refine stSeq (reg (la ?_))
 refine liNil (qThen (stSeq (stSeq (reg (lm ?_)))))
 refine lc (vI l.length) ?_
 refine lc (.bool (decide (((l.length:Nat):Int) > 16384))) ?_
 refine liNil (qThen (stCond rfl (fun hc7=>?_) (fun hc7=>?_)))
 ·have hd7:=of_decide_eq_true hc7
  refine stSeq (reg (la ?_))
  refine liNil (qThen (stRet (qThenR (sN [(.int .i64 2)] fun w hM=>?_))))
  exact ⟨ret_int (setE_big (by omega)).symm,hM⟩
 ·have hd7:=of_decide_eq_false hc7
  refine stSkip (qThen (stSeq (stSeq (reg (lm ?_)))))
  refine lc (vI l.length) ?_
  refine lm ?_
  refine liNil (qThen (stBlock (sL (fun i=>i≤l.length∧okSet (l.take i)) (fun i=>l.length - i) (fun i=>[(0,(vL A l c)),(2,(.int .i64 0)),(8,(vL A l c)),(9,(vI l.length)),(10,(vI i))]) (fun i=>[]) 0 ⟨Nat.zero_le _,okSet_nil⟩ (fun _ h=>h) ?_)))
  intro i hok
  show St _ _ _ [(0,(vL A l c)),(2,(.int .i64 0)),(8,(vL A l c)),(9,(vI l.length)),(10,(vI i))] [] _
  refine stSeq (reg (lc (.bool (decide (((i:Nat):Int) < ((l.length:Nat):Int)))) ?_))
  refine liNil (qThen (stSeq (stCond rfl (fun hc11=>?_) (fun hc11=>?_))))
  ·have hd11:=of_decide_eq_true hc11
   refine stSkip (qThen (stSeq (stBlock (stSeq (reg (lm ?_))))))
   obtain ⟨x0,hx0⟩:∃ ξ,(l)[i]?=some ξ:=⟨_,List.getElem?_eq_getElem (by omega)⟩
   refine St.rowPtr (fun w hM=>r0.now hM) (SS_at hx0) (fun p13 q13 hA13 hc13=>?_)
   refine lv (v:=(vP p13 (q13+i))) (rR 9 hA13) ?_
   refine lv (rW hc13) ?_
   refine la ?_
   refine la ?_
   refine liNil (qThen (stSeq (reg (lm ?_))))
   refine lv (v:=(vI ((x0).length))) (rLenS rfl rfl (by kernel_rfl)) ?_
   refine lc (.bool (((((x0).length:Nat):Int):Int) != 32)) ?_
   refine lm ?_
   refine St.dec 18 rfl (fun hc18=>?_) (fun hc18=>?_)
   ·refine lnT ?_
    refine lnT ?_
    refine lnT ?_
    iterate 7 refine lnU ?_
    refine lnT ?_
    refine lc (.bool true) ?_
    refine liNil (qThen (stTrue rfl (stSeq (reg ?_))))
    refine la ?_
    refine liNil (qThen (stRet (qBlockR (qThenR (qThenR (qBlockR (qThenR ?_)))))))
    refine sN [(.int .i64 1)] fun w hM=>?_
    exact ⟨ret_int (setE_bad (by omega) (fun h=>by have h2:=okSet_take (i+1) h; have h3:=((okSet_step hx0).1 h2).2; simp [h3.1] at hc18)).symm,hM⟩
   ·refine lgm ?_
    refine lgc (.bool (decide (((i:Nat):Int) > 0))) ?_
    refine lgm ?_
    refine St.dec 21 rfl (fun hc21=>?_) (fun hc21=>?_)
    ·have hd21:=of_decide_eq_true hc21
     refine lgm ?_
     refine lgm ?_
     refine lgv (v:=(vI (i - 1))) (rSub _ rfl rfl rfl (by omega) (by omega) (by omega)) ?_
     obtain ⟨x1,hx1⟩:∃ ξ,(l)[i - 1]?=some ξ:=⟨_,List.getElem?_eq_getElem (by omega)⟩
     refine St.rowPtr (fun w hM=>r0.now hM) (SS_at hx1) (fun p25 q25 hA25 hc25=>?_)
     refine lgv (v:=(vP p25 (q25+(i - 1)))) (rIndexRow (e:=9) rfl (by kernel_rfl) (by kernel_rfl) rfl rfl hA25 (by omega)) ?_
     refine lgv (v:=(vS x1)) (rLoadW rfl rfl (by kernel_rfl) hc25) ?_
     refine lgm ?_
     refine lgv (v:=(.bool (!decide (x1 < x0)))) (rStrGe rfl rfl rfl) ?_
     refine lgc (.bool (!decide (x1 < x0))) ?_
     refine lc (.bool (!decide (x1 < x0))) ?_
     refine liNil (qThen (stCond rfl (fun hc30=>?_) (fun hc30=>?_)))
     ·refine stSeq (reg (la ?_))
      refine liNil (qThen (stRet (qBlockR (qThenR (qThenR (qBlockR (qThenR ?_)))))))
      refine sN [(.int .i64 1)] fun w hM=>?_
      exact ⟨ret_int (setE_bad (by omega) (fun h=>by have h2:=okSet_take (i+1) h; have h3:=((okSet_step hx0).1 h2).2; have h4:=h3.2 (i - 1) x1 (by omega) hx1; simp [h4] at hc30)).symm,hM⟩
     ·have hlast:∀ j x,i=j+1→l[j]?=some x→x < x0:=fun j x hj hx=>by obtain rfl:i - 1=j:=(by omega); rw [hx1] at hx; cases hx; simpa using hc30
      refine stSkip (qBlock (qThen (reg ?_)))
      refine lv (v:=(vI (i+1))) rAd ?_
      refine lm ?_
      exact liNil (qThen (sA (i+1) (⟨by omega,(okSet_step hx0).2 ⟨hok.2,by simp at hc18; omega,hlast⟩⟩) (by show l.length - (i+1) < l.length - i; omega) (fun w hM=>hM)))
    ·have hd21:=of_decide_eq_false hc21
     have hlast:∀ j x,i=j+1→l[j]?=some x→x < x0:=fun j x hj _=>by omega
     iterate 7 refine lnF ?_
     refine lgc (.bool false) ?_
     refine lc (.bool false) ?_
     refine liNil (qThen (stFalse rfl (stSkip (qBlock (qThen (reg ?_))))))
     refine lv (v:=(vI (i+1))) rAd ?_
     refine lm ?_
     exact liNil (qThen (sA (i+1) (⟨by omega,(okSet_step hx0).2 ⟨hok.2,by simp at hc18; omega,hlast⟩⟩) (by show l.length - (i+1) < l.length - i; omega) (fun w hM=>hM)))
  ·have hd11:=of_decide_eq_false hc11
   refine stExit (qThenX (qThenX (qBlockX (qThen (stSeq (reg ?_))))))
   refine la ?_
   refine liNil (qThen (stRet (sN [(.int .i64 0)] fun w hM=>?_)))
   exact ⟨ret_int (setE_ok (by omega) (by have h:=hok.2; rwa [List.take_of_length_le (by omega)] at h)).symm,hM⟩
theorem rsSame_any (A:Option Addr) (c:Nat) (l:List (List UInt8)) (A2:Option Addr) (c2:Nat) (m:List (List UInt8)) (w:World) (r0:Rf [] w (fun w=>RowIn w A (SS l))) (r1:Rf [] w (fun w=>RowIn w A2 (SS m))) (hl:l.length≤68719476736) (hl2:m.length≤68719476736) :
  Calls Tryz.prog 59 #[(vL A l c),(vL A2 m c2)] w fun e w'=>e = .returned (.bool (decide (l=m)))∧Back [] w [] w':=by
 refine sE2 Tryz.func59 26 (Mm.start w []) ?_
 refine stSeq (reg (la ?_))
 refine liNil (qThen (stSeq (stSeq (reg (lm ?_)))))
 refine lc (vI l.length) ?_
 refine lm ?_
 refine lc (vI m.length) ?_
 refine lc (.bool ((((l.length:Nat):Int):Int) != ((m.length:Nat):Int))) ?_
 refine liNil (qThen (stCond rfl (fun hc10=>?_) (fun hc10=>?_)))
 ·refine stSeq (reg (la ?_))
  refine liNil (qThen (stRet (qThenR (sN [(.bool false)] fun w hM=>?_))))
  exact ⟨ret_bool (by have hne:l≠m:=(fun h=>by subst h; simp at hc10); exact (decide_eq_false hne).symm),hM⟩
 ·have hlen:l.length=m.length:=by simp at hc10; omega
  refine stSkip (qThen (stSeq (stSeq (reg (lm ?_)))))
  refine lc (vI l.length) ?_
  refine lm ?_
  refine liNil (qThen (stBlock (sL (fun i=>i≤l.length∧l.take i=m.take i) (fun i=>l.length - i) (fun i=>[(0,(vL A l c)),(1,(vL A2 m c2)),(4,(.bool false)),(12,(vI l.length)),(13,(vI i))]) (fun i=>[]) 0 ⟨Nat.zero_le _,rfl⟩ (fun _ h=>h) ?_)))
  intro i hok
  show St _ _ _ [(0,(vL A l c)),(1,(vL A2 m c2)),(4,(.bool false)),(12,(vI l.length)),(13,(vI i))] [] _
  refine stSeq (reg (lc (.bool (decide (((i:Nat):Int) < ((l.length:Nat):Int)))) ?_))
  refine liNil (qThen (stSeq (stCond rfl (fun hc14=>?_) (fun hc14=>?_))))
  ·have hd14:=of_decide_eq_true hc14
   refine stSkip (qThen (stSeq (stBlock (stSeq (reg (lm ?_))))))
   refine la ?_
   refine liNil (qThen (stSeq (anyBegin [] 9 (by kernel_rfl) (fun _ h=>h) ?_)))
   refine am 0 ?_
   refine am 1 ?_
   obtain ⟨x0,hx0⟩:∃ ξ,(l)[i]?=some ξ:=⟨_,List.getElem?_eq_getElem (by omega)⟩
   refine Any.rowPtr (fun w hM=>r0.now hM) (SS_at hx0) (fun p18 q18 hA18 hc18=>?_)
   refine av 2 (vP p18 (q18+i)) rfl (rR 9 hA18) ?_
   refine av 3 _ rfl (rW hc18) ?_
   refine am 4 ?_
   refine am 5 ?_
   obtain ⟨x1,hx1⟩:∃ ξ,(m)[i]?=some ξ:=⟨_,List.getElem?_eq_getElem (by omega)⟩
   refine Any.rowPtr (fun w hM=>r1.now hM) (SS_at hx1) (fun p22 q22 hA22 hc22=>?_)
   refine av 6 (vP p22 (q22+i)) rfl (rR 9 hA22) ?_
   refine av 7 _ rfl (rW hc22) ?_
   refine av 8 (.bool (!decide (x0=x1))) rfl (rStrNe rfl rfl rfl) ?_
   refine anyDone (by kernel_rfl) ?_
   refine qThen (stCond rfl (fun hc24=>?_) (fun hc24=>?_))
   ·refine stSeq (reg (la ?_))
    refine liNil (qThen (stRet (qBlockR (qThenR (qThenR (qBlockR (qThenR ?_)))))))
    refine sN [(.bool false)] fun w hM=>?_
    exact ⟨ret_bool (by have hne:l≠m:=(fun h=>by subst h; rw [hx0] at hx1; cases hx1; simp at hc24); exact (decide_eq_false hne).symm),hM⟩
   ·refine stSkip (qBlock (qThen (reg ?_)))
    refine lv (v:=(vI (i+1))) rAd ?_
    refine lm ?_
    exact liNil (qThen (sA (i+1) (⟨by omega,take_eq_step hx0 hx1 hok.2 (by simpa using hc24)⟩) (by show l.length - (i+1) < l.length - i; omega) (fun w hM=>hM)))
  ·have hd14:=of_decide_eq_false hc14
   refine stExit (qThenX (qThenX (qBlockX (qThen (stSeq (reg ?_))))))
   refine la ?_
   refine liNil (qThen (stRet (sN [(.bool true)] fun w hM=>?_)))
   exact ⟨ret_bool (by have h:=hok.2; rw [List.take_of_length_le (by omega),List.take_of_length_le (by omega)] at h; exact (decide_eq_true h).symm),hM⟩
theorem rsSpanValid_any (lo hi:List UInt8) (w:World) :
  Calls Tryz.prog 215 #[(.agg #[(vS lo),(vS hi)])] w fun e w'=>e = .returned (.bool (spanOk lo hi))∧Back [] w [] w':=by
 refine sE1 Tryz.func215 13 (Mm.start w []) ?_
 refine stSeq (reg (li rfl (oBx [(vS lo),(vS hi)] fun b1=>?_)))
 refine la ?_
 refine liNil (qThen (stSeq (reg (lc (vP b1 1) ?_))))
 refine ll 0 ?_
 refine lv (v:=(.bool (decide (hi=[])))) (rStrEq rfl rfl rfl) ?_
 refine lm ?_
 refine St.dec 6 rfl (fun hc6=>?_) (fun hc6=>?_)
 ·have hd6:=of_decide_eq_true hc6
  iterate 5 refine lnT ?_
  refine lc (.bool true) ?_
  refine la ?_
  refine liNil (qThen (stRet (sN [(.bool true)] fun w hM=>?_)))
  exact ⟨ret_bool (by unfold spanOk; simp_all),(hM.pick [] rfl rfl)⟩
 ·have hd6:=of_decide_eq_false hc6
  refine lgc (vP b1 0) ?_
  refine lgv (v:=(vS lo)) (rLoad 0 rfl rfl (by kernel_rfl) rfl rfl) ?_
  refine lgc (vP b1 1) ?_
  refine lgv (v:=(vS hi)) (rLoad 0 rfl rfl (by kernel_rfl) rfl rfl) ?_
  refine lgv (v:=(.bool (decide (lo < hi)))) (rStrLt rfl rfl rfl) ?_
  refine lc (.bool (decide (lo < hi))) ?_
  refine la ?_
  refine liNil (qThen (stRet (sN [(.bool (decide (lo < hi)))] fun w hM=>?_)))
  exact ⟨ret_bool (by unfold spanOk; simp_all),(hM.pick [] rfl rfl)⟩
theorem rsContains_any (lo hi x:List UInt8) (w:World) :
  Calls Tryz.prog 248 #[(.agg #[(vS lo),(vS hi)]),(vS x)] w fun e w'=>e = .returned (.bool (inR lo hi x))∧Back [] w [] w':=by
 refine sE2 Tryz.func248 20 (Mm.start w []) ?_
 refine stSeq (reg (li rfl (oBx [(vS lo),(vS hi)] fun b2=>?_)))
 refine la ?_
 refine liNil (qThen (stSeq (reg (lc (vP b2 0) ?_))))
 refine ll 0 ?_
 refine lm ?_
 refine lv (v:=(.bool (decide (lo < x) || decide (lo=x)))) (rStrLe rfl rfl rfl) ?_
 refine lm ?_
 refine St.dec 9 rfl (fun hc9=>?_) (fun hc9=>?_)
 ·refine lgc (vP b2 1) ?_
  refine lgv (v:=(vS hi)) (rLoad 0 rfl rfl (by kernel_rfl) rfl rfl) ?_
  refine lgv (v:=(.bool (decide (hi=[])))) (rStrEq rfl rfl rfl) ?_
  refine lgm ?_
  refine St.dec 13 rfl (fun hc13=>?_) (fun hc13=>?_)
  ·have hd13:=of_decide_eq_true hc13
   iterate 4 refine lnT ?_
   refine lgc (.bool true) ?_
   refine lc (.bool true) ?_
   refine la ?_
   refine liNil (qThen (stRet (sN [(.bool true)] fun w hM=>?_)))
   exact ⟨ret_bool (by unfold inR; first | (rw [hc9,hc13]; rfl) | (rw [hc9]; rfl)),(hM.pick [] rfl rfl)⟩
  ·have hd13:=of_decide_eq_false hc13
   refine lgm ?_
   refine lgc (vP b2 1) ?_
   refine lgv (v:=(vS hi)) (rLoad 0 rfl rfl (by kernel_rfl) rfl rfl) ?_
   refine lgv (v:=(.bool (decide (x < hi)))) (rStrLt rfl rfl rfl) ?_
   refine lgc (.bool (decide (x < hi))) ?_
   refine lc (.bool (decide (x < hi))) ?_
   refine la ?_
   refine liNil (qThen (stRet (sN [(.bool (decide (x < hi)))] fun w hM=>?_)))
   exact ⟨ret_bool (by unfold inR; first | (rw [hc9,hc13]; rfl) | (rw [hc9]; rfl)),(hM.pick [] rfl rfl)⟩
 ·refine lnF ?_
  iterate 3 refine lnF ?_
  iterate 4 refine lnU ?_
  refine lnF ?_
  refine lc (.bool false) ?_
  refine la ?_
  refine liNil (qThen (stRet (sN [(.bool false)] fun w hM=>?_)))
  exact ⟨ret_bool (by unfold inR; first | (rw [hc9,hc13]; rfl) | (rw [hc9]; rfl)),(hM.pick [] rfl rfl)⟩
theorem rsIsBound_any (x:List UInt8) (w:World) :
  Calls Tryz.prog 214 #[(vS x)] w fun e w'=>e = .returned (.bool (boundOk x))∧Back [] w [] w':=by
 refine sE1 Tryz.func214 10 (Mm.start w []) ?_
 refine stSeq (reg (la ?_))
 refine liNil (qThen (stSeq (reg (lm ?_))))
 refine lv (v:=(.bool (decide (x=[])))) (rStrEq rfl rfl rfl) ?_
 refine lm ?_
 refine St.dec 5 rfl (fun hc5=>?_) (fun hc5=>?_)
 ·have hd5:=of_decide_eq_true hc5
  iterate 3 refine lnT ?_
  refine lc (.bool true) ?_
  refine la ?_
  refine liNil (qThen (stRet (sN [(.bool true)] fun w hM=>?_)))
  exact ⟨ret_bool (by unfold boundOk; first | (rw [hc5]; rfl) | (rw [hc5,Bool.false_or,Bool.eq_iff_iff]; simp; omega)),hM⟩
 ·have hd5:=of_decide_eq_false hc5
  refine lgm ?_
  refine lgv (v:=(vI ((x).length))) (rLenS rfl rfl (by kernel_rfl)) ?_
  refine lgc (.bool (((((x).length:Nat):Int):Int) == 32)) ?_
  refine lc (.bool (((((x).length:Nat):Int):Int) == 32)) ?_
  refine la ?_
  refine liNil (qThen (stRet (sN [(.bool (((((x).length:Nat):Int):Int) == 32))] fun w hM=>?_)))
  exact ⟨ret_bool (by unfold boundOk; first | (rw [hc5]; rfl) | (rw [hc5,Bool.false_or,Bool.eq_iff_iff]; simp; omega)),hM⟩
theorem rsInOrder_any (A:Option Addr) (c:Nat) (l:List (List UInt8)) (lo hi:List UInt8) (w:World) (r0:Rf [] w (fun w=>RowIn w A (SS l))) (hl:l.length≤68719476736) :
  Calls Tryz.prog 246 #[(vL A l c),(.agg #[(vS lo),(vS hi)])] w fun e w'=>e = .returned (.bool (ordOk l lo hi))∧Back [] w [] w':=by
 refine sE2 Tryz.func246 32 (Mm.start w []) ?_
 refine stSeq (reg (li rfl (oBx [(vS lo),(vS hi)] fun b3=>?_)))
 refine la ?_
 refine liNil (qThen (stSeq (stSeq (reg (lm ?_)))))
 refine lc (vI l.length) ?_
 refine lm ?_
 refine liNil (qThen (stBlock (sL (fun i=>i≤l.length∧ordOk (l.take i) lo hi=true) (fun i=>l.length - i) (fun i=>[(0,(vL A l c)),(3,(vP b3 0)),(4,(.bool false)),(7,(vL A l c)),(8,(vI l.length)),(9,(vI i))]) (fun i=>[cAt b3 242 [(vS lo),(vS hi)]]) 0 ⟨Nat.zero_le _,rfl⟩ (fun _ h=>h) ?_)))
 intro i hok
 show St _ _ _ [(0,(vL A l c)),(3,(vP b3 0)),(4,(.bool false)),(7,(vL A l c)),(8,(vI l.length)),(9,(vI i))] [cAt b3 242 [(vS lo),(vS hi)]] _
 refine stSeq (reg (lc (.bool (decide (((i:Nat):Int) < ((l.length:Nat):Int)))) ?_))
 refine liNil (qThen (stSeq (stCond rfl (fun hc10=>?_) (fun hc10=>?_))))
 ·have hd10:=of_decide_eq_true hc10
  refine stSkip (qThen (stSeq (stBlock (stSeq (reg (lm ?_))))))
  obtain ⟨x0,hx0⟩:∃ ξ,(l)[i]?=some ξ:=⟨_,List.getElem?_eq_getElem (by omega)⟩
  refine St.rowPtr (fun w hM=>r0.now hM) (SS_at hx0) (fun p12 q12 hA12 hc12=>?_)
  refine lv (v:=(vP p12 (q12+i))) (rR 9 hA12) ?_
  refine lv (rW hc12) ?_
  refine la ?_
  refine la ?_
  refine liNil (qThen (stSeq (reg (lv (rA 0 [(vS lo),(vS hi)]) ?_))))
  refine lm ?_
  refine li rfl (opK0 (fun w hM=>(rsContains_any lo hi x0 w ).mono ?_))
  rintro e w' ⟨rfl,hP⟩
  refine ⟨_,_,rfl,hP,?_⟩; clear hP hM
  refine lc (.bool (!(inR lo hi x0))) ?_
  refine lm ?_
  refine St.dec 18 rfl (fun hc18=>?_) (fun hc18=>?_)
  ·refine lnT ?_
   refine lnT ?_
   refine lnT ?_
   iterate 7 refine lnU ?_
   refine lnT ?_
   refine lc (.bool true) ?_
   refine liNil (qThen (stTrue rfl (stSeq (reg ?_))))
   refine la ?_
   refine liNil (qThen (stRet (qBlockR (qThenR (qThenR (qBlockR (qThenR ?_)))))))
   refine sN [(.bool false)] fun w hM=>?_
   exact ⟨ret_bool (by have hn:ordOk l lo hi=false:=ordOk_bad hx0 (fun h=>by simp [h.1] at hc18); exact hn.symm),(hM.pick [] rfl rfl)⟩
  ·refine lgm ?_
   refine lgc (.bool (decide (((i:Nat):Int) > 0))) ?_
   refine lgm ?_
   refine St.dec 21 rfl (fun hc21=>?_) (fun hc21=>?_)
   ·have hd21:=of_decide_eq_true hc21
    refine lgm ?_
    refine lgm ?_
    refine lgv (v:=(vI (i - 1))) (rSub _ rfl rfl rfl (by omega) (by omega) (by omega)) ?_
    obtain ⟨x1,hx1⟩:∃ ξ,(l)[i - 1]?=some ξ:=⟨_,List.getElem?_eq_getElem (by omega)⟩
    refine St.rowPtr (fun w hM=>r0.now hM) (SS_at hx1) (fun p25 q25 hA25 hc25=>?_)
    refine lgv (v:=(vP p25 (q25+(i - 1)))) (rIndexRow (e:=9) rfl (by kernel_rfl) (by kernel_rfl) rfl rfl hA25 (by omega)) ?_
    refine lgv (v:=(vS x1)) (rLoadW rfl rfl (by kernel_rfl) hc25) ?_
    refine lgm ?_
    refine lgv (v:=(.bool (!decide (x1 < x0)))) (rStrGe rfl rfl rfl) ?_
    refine lgc (.bool (!decide (x1 < x0))) ?_
    refine lc (.bool (!decide (x1 < x0))) ?_
    refine liNil (qThen (stCond rfl (fun hc30=>?_) (fun hc30=>?_)))
    ·refine stSeq (reg (la ?_))
     refine liNil (qThen (stRet (qBlockR (qThenR (qThenR (qBlockR (qThenR ?_)))))))
     refine sN [(.bool false)] fun w hM=>?_
     exact ⟨ret_bool (by have hn:ordOk l lo hi=false:=ordOk_bad hx0 (fun h=>by have h4:=h.2 (i - 1) x1 (by omega) hx1; simp [h4] at hc30); exact hn.symm),(hM.pick [] rfl rfl)⟩
    ·have hlast:∀ j x,i=j+1→l[j]?=some x→x < x0:=fun j x hj hx=>by obtain rfl:i - 1=j:=(by omega); rw [hx1] at hx; cases hx; simpa using hc30
     refine stSkip (qBlock (qThen (reg ?_)))
     refine lv (v:=(vI (i+1))) rAd ?_
     refine lm ?_
     exact liNil (qThen (sA (i+1) (⟨by omega,(ordOk_step hx0).2 ⟨hok.2,by simpa using hc18,hlast⟩⟩) (by show l.length - (i+1) < l.length - i; omega) (fun w hM=>hM)))
   ·have hd21:=of_decide_eq_false hc21
    have hlast:∀ j x,i=j+1→l[j]?=some x→x < x0:=fun j x hj _=>by omega
    iterate 7 refine lnF ?_
    refine lgc (.bool false) ?_
    refine lc (.bool false) ?_
    refine liNil (qThen (stFalse rfl (stSkip (qBlock (qThen (reg ?_))))))
    refine lv (v:=(vI (i+1))) rAd ?_
    refine lm ?_
    exact liNil (qThen (sA (i+1) (⟨by omega,(ordOk_step hx0).2 ⟨hok.2,by simpa using hc18,hlast⟩⟩) (by show l.length - (i+1) < l.length - i; omega) (fun w hM=>hM)))
 ·have hd10:=of_decide_eq_false hc10
  refine stExit (qThenX (qThenX (qBlockX (qThen (stSeq (reg ?_))))))
  refine la ?_
  refine liNil (qThen (stRet (sN [(.bool true)] fun w hM=>?_)))
  exact ⟨ret_bool (by have h:=hok.2; rw [List.take_of_length_le (by omega)] at h; exact h.symm),(hM.pick [] rfl rfl)⟩
theorem rsJoin_any (A:Option Addr) (c:Nat) (l:List (List UInt8)) (w:World) (r0:Rf [] w (Vars)) (r1:Rf [] w (fun w=>RowIn w A (SS l))) (hj:l.flatten.length≤549755813888) (hn:l.length≤1000) :
  Calls Tryz.prog 64 #[(vL A l c)] w fun e w'=>e = .returned (vS (sha l.flatten))∧Back [] w [] w':=(shaJoin_any A c l w r0.here r1.here hj hn).mono fun _ _ ⟨he,hf⟩=>⟨he,Mm.of_fr hf⟩
theorem rsFp_bad (A:Option Addr) (c:Nat) (l:List (List UInt8)) (w:World) (r0:Rf [] w (fun w=>RowIn w A (SS l))) (hl:l.length≤9223372036854775807) (he:setE l≠0) :
  Calls Tryz.prog 30 #[(vL A l c)] w fun e w'=>e = .returned (.tuple #[(vS []),(.int .i64 (setE l))])∧Back [] w [] w':=by
 refine sE1 Tryz.func30 12 (Mm.start w []) ?_
 refine stSeq (reg (la ?_))
 refine la ?_
 refine liNil (qThen (stSeq (stSeq (reg (lm ?_)))))
 refine li rfl (opK0 (fun w hM=>(rsCheck_any A c l w (r0.go0 hM) (by omega)).mono ?_))
 rintro e w' ⟨rfl,hP⟩
 refine ⟨_,_,rfl,hP,?_⟩; clear hP hM
 refine la ?_
 refine liNil (qThen (stSeq (reg (lm ?_))))
 refine lc (.bool (((setE l):Int) != 0)) ?_
 refine liNil (qThen (stTrueK rfl (by simpa using he) ?_))
 refine stSeq (reg (lm ?_))
 refine la ?_
 refine la ?_
 refine liNil (qThen (stRet (qThenR (sN [(.string ⟨#[]⟩),(.int .i64 (setE l))] fun w hM=>?_))))
 exact ⟨rfl,hM⟩
theorem rsFp_ok (A:Option Addr) (c:Nat) (l:List (List UInt8)) (w:World) (r0:Rf [] w (Vars)) (r1:Rf [] w (fun w=>RowIn w A (SS l))) (hl:l.length≤9223372036854775807) (he:setE l=0) (h40:l.length≤1000) :
  Calls Tryz.prog 30 #[(vL A l c)] w fun e w'=>e = .returned (.tuple #[(vS (fpB l)),(.int .i64 0)])∧Back [] w [] w':=by
 refine sE1 Tryz.func30 12 (Mm.start w []) ?_
 refine stSeq (reg (la ?_))
 refine la ?_
 refine liNil (qThen (stSeq (stSeq (reg (lm ?_)))))
 refine li rfl (opK0 (fun w hM=>(rsCheck_any A c l w (r1.go0 hM) (by omega)).mono ?_))
 rintro e w' ⟨rfl,hP⟩
 refine ⟨_,_,rfl,hP,?_⟩; clear hP hM
 refine la ?_
 refine liNil (qThen (stSeq (reg (lm ?_))))
 refine lc (.bool (((setE l):Int) != 0)) ?_
 refine liNil (qThen (stFalseK rfl (by simp [he]) ?_))
 refine stSkip (qThen (stSeq (reg (lm ?_))))
 refine li rfl (opK0 (fun w hM=>(rsJoin_any A c l w (r0.go0 hM) (r1.go0 hM) (by have:=okSet_flat (setE_zero he); omega) (by omega)).mono ?_))
 rintro e w' ⟨rfl,hP⟩
 refine ⟨_,_,rfl,hP,?_⟩; clear hP hM
 refine la ?_
 refine la ?_
 refine liNil (qThen (stRet (sN [(vS (sha l.flatten)),(.int .i64 0)] fun w hM=>?_)))
 exact ⟨rfl,hM⟩
def SessAt (bs : Nat) (A : Option Addr) (c : Nat) (its : List (List UInt8)) (fan leaf nm om : Nat) (w : World) : Prop := At w bs 149 [(vL A its c), (vI fan), (vI leaf), (.map (some nm)), (.map (some om))] ∧ RowIn w A (SS its)
theorem search_any (n:Nat) (g:FuncId) (caps:List Value) (p:Nat→Bool) (w:World) (hn:n≤68719476736) (eg:∀ args w,(callFunc g args).run Tryz.prog w = .ok (.enter g args) w) (hc:∀ i,i < n→∀ w',Fr [] w w'→Calls Tryz.prog g (#[.int .i64 ((i:Nat):Int)]++caps.toArray) w' fun e w''=>e = .returned (.bool (p i))∧Fr [] w' w'') :
  Calls Tryz.prog 217 #[(vI n),(.func (.func g) #[] caps.toArray)] w fun e w'=>e = .returned (vI (bsr p 0 n))∧Back [] w [] w':=by
 refine sE2 Tryz.func217 26 (Mm.start w []) ?_
 refine stSeq (reg (la ?_))
 refine liNil (qThen (stSeq (reg (lm ?_))))
 refine la ?_
 refine la ?_
 refine liNil (qThen (stSeq (stBlock (sL (fun (i,j)=>i≤j∧j≤n∧bsr p i j=bsr p 0 n) (fun (i,j)=>j - i) (fun (i,j)=>[(1,(.func (.func g) #[] caps.toArray)),(4,(.int .i64 0)),(5,(vI i)),(6,(vI j))]) (fun (i,j)=>[]) (0,n) ⟨Nat.zero_le _,Nat.le_refl _,rfl⟩ (fun _ h=>h) ?_))))
 rintro ⟨i,j⟩ ⟨h1,h2,h3⟩
 dsimp only
 refine stSeq (stSeq (reg (lm ?_)))
 refine lm ?_
 refine lc (.bool (decide (((i:Nat):Int) < ((j:Nat):Int)))) ?_
 refine liNil (qThen (stCond rfl (fun hc11=>?_) (fun hc11=>?_)))
 ·have hd11:=of_decide_eq_true hc11
  have hij:i < j:=by omega
  refine stSkip (qThen (stBlock (stSeq (reg (lm ?_)))))
  refine lm ?_
  refine lv (v:=(vI (i+j))) rAd ?_
  refine lv (v:=(vU (i+j))) (rIntC _ (fun _=>by kernel_rfl) rfl rfl (wrapU64_id (by omega) (by omega))) ?_
  refine lv (v:=(vU ((i+j) / 2))) (rShr1 rfl rfl rfl) ?_
  refine lv (v:=(vI ((i+j) / 2))) (rIntC _ (fun _=>by kernel_rfl) rfl rfl (wrap64_id (by omega) (by omega))) ?_
  refine la ?_
  refine liNil (qThen (stSeq (reg (lm ?_))))
  refine lm ?_
  refine li rfl (opKF (f:=g) (caps:=caps.toArray) rfl rfl rfl eg (fun w hM=>(hc ((i+j) / 2) (by omega) w hM.fr).mono ?_))
  rintro e w' ⟨rfl,hf⟩
  refine ⟨_,[],rfl,Mm.of_fr hf,?_⟩; clear hf hM
  refine lc (.bool (!(p ((i+j) / 2)))) ?_
  refine liNil (qThen (stCond rfl (fun hc21=>?_) (fun hc21=>?_)))
  ·refine reg (lm ?_)
   refine lv (v:=(vI (((i+j) / 2)+1))) rAd ?_
   refine la ?_
   refine liNil (qBlock (qThen ?_))
   exact sA (((i+j) / 2)+1,j) (by refine ⟨by omega,by omega,?_⟩; rw [← h3]; first | exact (bsr_lo hij (by simpa using hc21)).symm | exact (bsr_hi hij (by simpa using hc21)).symm) (by dsimp only; omega) (fun w hM=>hM)
  ·refine reg (lm ?_)
   refine la ?_
   refine liNil (qBlock (qThen ?_))
   exact sA (i,((i+j) / 2)) (by refine ⟨by omega,by omega,?_⟩; rw [← h3]; first | exact (bsr_lo hij (by simpa using hc21)).symm | exact (bsr_hi hij (by simpa using hc21)).symm) (by dsimp only; omega) (fun w hM=>hM)
 ·have hd11:=of_decide_eq_false hc11
  refine stExit (qThenX (qThenX (qBlockX (qThen (stSeq (reg ?_))))))
  refine lm ?_
  refine la ?_
  refine liNil (qThen (stRet (sN [(vI i)] fun w hM=>?_)))
  exact ⟨by rw [← h3,bsr_end (by omega)]; rfl,hM⟩
theorem rsClo1_any (i b2:Nat) (b3 bs:Nat) (A:Option Addr) (c:Nat) (its:List (List UInt8)) (fan leaf:Nat) (nm om:Nat) (lo hi:List UInt8) (w:World) (r0:Rf [] w (SessAt bs A c its fan leaf nm om)) (r1:Rf [] w (fun w=>At w b2 94 [(vP bs 0)])) (r2:Rf [] w (fun w=>At w b3 242 [(vS lo),(vS hi)])) (hi':i < its.length) :
  Calls Tryz.prog 218 #[(vI i),(vP b2 0),(vP b3 0)] w fun e w'=>e = .returned (.bool (geP its lo i))∧Back [] w [] w':=by
 have ra:=r0.imp (fun _ h=>h.1)
 have rb:=r0.imp (fun _ h=>h.2)
 refine sE3 Tryz.func218 15 (Mm.start w []) ?_
 refine stSeq (reg (la ?_))
 refine liNil (qThen (stSeq (anyBegin [] 11 (by kernel_rfl) (fun _ h=>h) ?_)))
 refine av 0 _ rfl (rW (fun w hM=>At.cell (r1.now hM) 0)) ?_
 refine ac 1 (vP bs 0) ?_
 refine ac 2 (vP bs 0) ?_
 refine av 3 _ rfl (rW (fun w hM=>At.cell (ra.now hM) 0)) ?_
 refine am 4 ?_
 obtain ⟨x0,hx0⟩:∃ ξ,(its)[i]?=some ξ:=⟨_,List.getElem?_eq_getElem (by omega)⟩
 refine Any.rowPtr (fun w hM=>rb.now hM) (SS_at hx0) (fun p10 q10 hA10 hc10=>?_)
 refine av 5 (vP p10 (q10+i)) rfl (rR 9 hA10) ?_
 refine av 6 _ rfl (rW hc10) ?_
 refine ac 7 (vP b3 0) ?_
 refine av 8 _ rfl (rW (fun w hM=>At.cell (r2.now hM) 0)) ?_
 refine av 9 (.bool (!decide (x0 < lo))) rfl (rStrGe rfl rfl rfl) ?_
 refine aa 10 ?_
 refine anyDone (by kernel_rfl) ?_
 refine qThen (stRet (sN [(.bool (!decide (x0 < lo)))] fun w hM=>?_))
 exact ⟨ret_bool (geP_at hx0).symm,hM⟩
theorem rsClo2_any (i b2:Nat) (b3 bs:Nat) (A:Option Addr) (c:Nat) (its:List (List UInt8)) (fan leaf:Nat) (nm om:Nat) (lo hi:List UInt8) (w:World) (r0:Rf [] w (SessAt bs A c its fan leaf nm om)) (r1:Rf [] w (fun w=>At w b2 94 [(vP bs 0)])) (r2:Rf [] w (fun w=>At w b3 242 [(vS lo),(vS hi)])) (hi':i < its.length) :
  Calls Tryz.prog 219 #[(vI i),(vP b2 0),(vP b3 0)] w fun e w'=>e = .returned (.bool (geP its hi i))∧Back [] w [] w':=by
 have ra:=r0.imp (fun _ h=>h.1)
 have rb:=r0.imp (fun _ h=>h.2)
 refine sE3 Tryz.func219 15 (Mm.start w []) ?_
 refine stSeq (reg (la ?_))
 refine liNil (qThen (stSeq (anyBegin [] 11 (by kernel_rfl) (fun _ h=>h) ?_)))
 refine av 0 _ rfl (rW (fun w hM=>At.cell (r1.now hM) 0)) ?_
 refine ac 1 (vP bs 0) ?_
 refine ac 2 (vP bs 0) ?_
 refine av 3 _ rfl (rW (fun w hM=>At.cell (ra.now hM) 0)) ?_
 refine am 4 ?_
 obtain ⟨x0,hx0⟩:∃ ξ,(its)[i]?=some ξ:=⟨_,List.getElem?_eq_getElem (by omega)⟩
 refine Any.rowPtr (fun w hM=>rb.now hM) (SS_at hx0) (fun p10 q10 hA10 hc10=>?_)
 refine av 5 (vP p10 (q10+i)) rfl (rR 9 hA10) ?_
 refine av 6 _ rfl (rW hc10) ?_
 refine ac 7 (vP b3 1) ?_
 refine av 8 _ rfl (rW (fun w hM=>At.cell (r2.now hM) 1)) ?_
 refine av 9 (.bool (!decide (x0 < hi))) rfl (rStrGe rfl rfl rfl) ?_
 refine aa 10 ?_
 refine anyDone (by kernel_rfl) ?_
 refine qThen (stRet (sN [(.bool (!decide (x0 < hi)))] fun w hM=>?_))
 exact ⟨ret_bool (geP_at hx0).symm,hM⟩
theorem rsClo3_any (i b2:Nat) (b3 bs:Nat) (A:Option Addr) (c:Nat) (its:List (List UInt8)) (fan leaf:Nat) (nm om:Nat) (x:List UInt8) (w:World) (r0:Rf [] w (SessAt bs A c its fan leaf nm om)) (r1:Rf [] w (fun w=>At w b2 94 [(vP bs 0)])) (r2:Rf [] w (fun w=>At w b3 9 [(vS x)])) (hi':i < its.length) :
  Calls Tryz.prog 220 #[(vI i),(vP b2 0),(vP b3 0)] w fun e w'=>e = .returned (.bool (geP its x i))∧Back [] w [] w':=by
 have ra:=r0.imp (fun _ h=>h.1)
 have rb:=r0.imp (fun _ h=>h.2)
 refine sE3 Tryz.func220 14 (Mm.start w []) ?_
 refine stSeq (reg (la ?_))
 refine liNil (qThen (stSeq (anyBegin [] 10 (by kernel_rfl) (fun _ h=>h) ?_)))
 refine av 0 _ rfl (rW (fun w hM=>At.cell (r1.now hM) 0)) ?_
 refine ac 1 (vP bs 0) ?_
 refine ac 2 (vP bs 0) ?_
 refine av 3 _ rfl (rW (fun w hM=>At.cell (ra.now hM) 0)) ?_
 refine am 4 ?_
 obtain ⟨x0,hx0⟩:∃ ξ,(its)[i]?=some ξ:=⟨_,List.getElem?_eq_getElem (by omega)⟩
 refine Any.rowPtr (fun w hM=>rb.now hM) (SS_at hx0) (fun p10 q10 hA10 hc10=>?_)
 refine av 5 (vP p10 (q10+i)) rfl (rR 9 hA10) ?_
 refine av 6 _ rfl (rW hc10) ?_
 refine av 7 _ rfl (rW (fun w hM=>At.cell (r2.now hM) 0)) ?_
 refine av 8 (.bool (!decide (x0 < x))) rfl (rStrGe rfl rfl rfl) ?_
 refine aa 9 ?_
 refine anyDone (by kernel_rfl) ?_
 refine qThen (stRet (sN [(.bool (!decide (x0 < x)))] fun w hM=>?_))
 exact ⟨ret_bool (geP_at hx0).symm,hM⟩
theorem rsWithin_any (bs:Nat) (A:Option Addr) (c:Nat) (its:List (List UInt8)) (fan leaf:Nat) (nm om:Nat) (lo hi:List UInt8) (w:World) (r0:Rf [] w (SessAt bs A c its fan leaf nm om)) (hs:okSet its) (hn:its.length≤1000) (hcap:its.length≤c) :
  Calls Tryz.prog 202 #[(vP bs 0),(.agg #[(vS lo),(vS hi)])] w fun e w'=>∃ (B:Option Addr) (cb:Nat),e = .returned (vL B (inL its lo hi) cb)∧Back [] w [] w'∧(∀ w,RowIn w A (SS its)→RowIn w B (SS (inL its lo hi))):=by
 have ra:=r0.imp (fun _ h=>h.1)
 have rb:=r0.imp (fun _ h=>h.2)
 refine sE2 Tryz.func202 38 (Mm.start w []) ?_
 refine stSeq (reg (li rfl (oBx [(vP bs 0)] fun b2=>?_)))
 refine li rfl (oBx [(vS lo),(vS hi)] fun b3=>?_)
 refine la ?_
 refine liNil (qThen (stSeq (reg (ll 0 ?_))))
 refine lc (vP bs 0) ?_
 refine lc (vP bs 0) ?_
 refine lv (rW (fun w hM=>At.cell (ra.now hM) 0)) ?_
 refine lc (vI its.length) ?_
 refine lc (.func (.func 218) #[] #[(vP b2 0),(vP b3 0)]) ?_
 refine li rfl (opK0 (fun w hM=>(search_any (its.length) 218 [(vP b2 0),(vP b3 0)] (geP its lo) w (by omega) (enters Tryz.func218 (by kernel_rfl) rfl) (fun i hlt w' hf=>(rsClo1_any i _ _ bs A c its fan leaf nm om lo hi w' (((r0.go0 hM).step hf (by simp))) (((hM.keep0 (j:=0) rfl (fun _ h=>h)).step hf (by simp))) (((hM.keep0 (j:=1) rfl (fun _ h=>h)).step hf (by simp))) hlt).mono fun e w'' he=>⟨he.1,he.2.fr⟩)).mono ?_))
 rintro e w' ⟨rfl,hP⟩
 refine ⟨_,_,rfl,hP,?_⟩; clear hP hM
 rw [search_pos hs.2 lo]
 refine la ?_
 refine liNil (qThen (stSeq (reg (ll 0 ?_))))
 refine lc (vP bs 0) ?_
 refine lc (vP bs 0) ?_
 refine lv (rW (fun w hM=>At.cell (ra.now hM) 0)) ?_
 refine lc (vI its.length) ?_
 refine la ?_
 refine liNil (qThen (stSeq (stSeq (reg (lc (vP b3 1) ?_)))))
 refine ll 1 ?_
 refine lv (v:=(.bool (!decide (hi=[])))) (rStrNe rfl rfl rfl) ?_
 refine liNil (qThen (stCond rfl (fun hc21=>?_) (fun hc21=>?_)))
 ·refine reg (ll 0 ?_)
  refine lc (vP bs 0) ?_
  refine lc (vP bs 0) ?_
  refine lv (rW (fun w hM=>At.cell (ra.now hM) 0)) ?_
  refine lc (vI its.length) ?_
  refine lc (.func (.func 219) #[] #[(vP b2 0),(vP b3 0)]) ?_
  refine li rfl (opK0 (fun w hM=>(search_any (its.length) 219 [(vP b2 0),(vP b3 0)] (geP its hi) w (by omega) (enters Tryz.func219 (by kernel_rfl) rfl) (fun i hlt w' hf=>(rsClo2_any i _ _ bs A c its fan leaf nm om lo hi w' (((r0.go0 hM).step hf (by simp))) (((hM.keep0 (j:=0) rfl (fun _ h=>h)).step hf (by simp))) (((hM.keep0 (j:=1) rfl (fun _ h=>h)).step hf (by simp))) hlt).mono fun e w'' he=>⟨he.1,he.2.fr⟩)).mono ?_))
  rintro e w' ⟨rfl,hP⟩
  refine ⟨_,_,rfl,hP,?_⟩; clear hP hM
  rw [search_pos hs.2 hi]
  refine la ?_
  refine liNil (qThen (stSeq ?_))
  dsimp only [setAll,List.set,List.cons_append,List.nil_append]
  refine reg (ll 0 ?_)
  refine lc (vP bs 0) ?_
  refine lc (vP bs 0) ?_
  refine lv (rW (fun w hM=>At.cell (ra.now hM) 0)) ?_
  iterate 3 refine lm ?_
  refine lv (v:=(vI (max (posB its lo) (posB its hi)))) (rMaxN rfl rfl rfl) ?_
  have hp:=inL_part hs.2 lo hi
  rw [if_neg (by simpa using hc21)] at hp
  have h1:=posB_le its lo
  have h2:=posB_le its hi
  refine lv (v:=(vL (if c=posB its lo then A else A.map (·.add (posB its lo*1))) (inL its lo hi) (c - posB its lo))) (rConv (rSliceLH (e:=9) (sz:=1) rfl (by kernel_rfl) (by kernel_rfl) rfl rfl rfl (by omega) (by omega)) (by show Value.slice _ _ _=Value.slice _ _ _; rw [← hp,List.length_drop,List.length_take,Nat.min_eq_left (by omega)])) ?_
  refine la ?_
  refine liNil (qThen (stRet (sN [(vL (if c=posB its lo then A else A.map (·.add (posB its lo*1))) (inL its lo hi) (c - posB its lo))] fun w hM=>?_)))
  exact ⟨_,_,rfl,(hM.pick [] rfl rfl),fun w h=>by rw [← hp]; exact rowMid _ _ h hcap⟩
 ·refine stSkip (qThen (stSeq (reg (ll 0 ?_))))
  refine lc (vP bs 0) ?_
  refine lc (vP bs 0) ?_
  refine lv (rW (fun w hM=>At.cell (ra.now hM) 0)) ?_
  iterate 3 refine lm ?_
  refine lv (v:=(vI (max (posB its lo) its.length))) (rMaxN rfl rfl rfl) ?_
  have hp:=inL_part hs.2 lo hi
  rw [if_pos (by simpa using hc21)] at hp
  have h1:=posB_le its lo
  have h2:=posB_le its hi
  refine lv (v:=(vL (if c=posB its lo then A else A.map (·.add (posB its lo*1))) (inL its lo hi) (c - posB its lo))) (rConv (rSliceLH (e:=9) (sz:=1) rfl (by kernel_rfl) (by kernel_rfl) rfl rfl rfl (by omega) (by omega)) (by show Value.slice _ _ _=Value.slice _ _ _; rw [← hp,List.length_drop,List.length_take,Nat.min_eq_left (by omega)])) ?_
  refine la ?_
  refine liNil (qThen (stRet (sN [(vL (if c=posB its lo then A else A.map (·.add (posB its lo*1))) (inL its lo hi) (c - posB its lo))] fun w hM=>?_)))
  exact ⟨_,_,rfl,(hM.pick [] rfl rfl),fun w h=>by rw [← hp]; exact rowMid _ _ h hcap⟩
theorem rsSHas_any (bs:Nat) (A:Option Addr) (c:Nat) (its:List (List UInt8)) (fan leaf:Nat) (nm om:Nat) (x:List UInt8) (w:World) (r0:Rf [] w (SessAt bs A c its fan leaf nm om)) (hs:okSet its) (hn:its.length≤1000) :
  Calls Tryz.prog 203 #[(vP bs 0),(vS x)] w fun e w'=>e = .returned (.bool (its.contains x))∧Back [] w [] w':=by
 have ra:=r0.imp (fun _ h=>h.1)
 have rb:=r0.imp (fun _ h=>h.2)
 refine sE2 Tryz.func203 31 (Mm.start w []) ?_
 refine stSeq (reg (li rfl (oBx [(vP bs 0)] fun b2=>?_)))
 refine li rfl (oBx [(vS x)] fun b3=>?_)
 refine la ?_
 refine liNil (qThen (stSeq (reg (ll 0 ?_))))
 refine lc (vP bs 0) ?_
 refine lc (vP bs 0) ?_
 refine lv (rW (fun w hM=>At.cell (ra.now hM) 0)) ?_
 refine lc (vI its.length) ?_
 refine lc (.func (.func 220) #[] #[(vP b2 0),(vP b3 0)]) ?_
 refine li rfl (opK0 (fun w hM=>(search_any (its.length) 220 [(vP b2 0),(vP b3 0)] (geP its x) w (by omega) (enters Tryz.func220 (by kernel_rfl) rfl) (fun i hlt w' hf=>(rsClo3_any i _ _ bs A c its fan leaf nm om x w' (((r0.go0 hM).step hf (by simp))) (((hM.keep0 (j:=0) rfl (fun _ h=>h)).step hf (by simp))) (((hM.keep0 (j:=1) rfl (fun _ h=>h)).step hf (by simp))) hlt).mono fun e w'' he=>⟨he.1,he.2.fr⟩)).mono ?_))
 rintro e w' ⟨rfl,hP⟩
 refine ⟨_,_,rfl,hP,?_⟩; clear hP hM
 rw [search_pos hs.2 x]
 refine la ?_
 refine liNil (qThen (stSeq (anyBegin _ 19 (by kernel_rfl) (fun _ h=>h) ?_)))
 refine am 0 ?_
 refine al 1 0 ?_
 refine ac 2 (vP bs 0) ?_
 refine ac 3 (vP bs 0) ?_
 refine av 4 _ rfl (rW (fun w hM=>At.cell (ra.now hM) 0)) ?_
 refine ac 5 (vI its.length) ?_
 refine ac 6 (.bool (decide ((((posB its x):Nat):Int) < ((its.length:Nat):Int)))) ?_
 refine am 7 ?_
 refine Any.dec 20 rfl (fun hc20=>?_) (fun hc20=>?_)
 ·have hd20:=of_decide_eq_true hc20
  refine agv 8 (vP bs 0) rfl (rLoad 0 rfl rfl (by kernel_rfl) rfl rfl) ?_
  refine agc 9 (vP bs 0) ?_
  refine agc 10 (vP bs 0) ?_
  refine agv 11 (vL A its c) rfl (rLoadW rfl rfl (by kernel_rfl) (fun w hM=>At.cell (ra.now hM) 0)) ?_
  refine agm 12 ?_
  obtain ⟨x0,hx0⟩:∃ ξ,(its)[posB its x]?=some ξ:=⟨_,List.getElem?_eq_getElem (by omega)⟩
  refine Any.rowPtr (fun w hM=>rb.now hM) (SS_at hx0) (fun p26 q26 hA26 hc26=>?_)
  refine agv 13 (vP p26 (q26+(posB its x))) rfl (rIndexRow (e:=9) rfl (by kernel_rfl) (by kernel_rfl) rfl rfl hA26 (by omega)) ?_
  refine agv 14 (vS x0) rfl (rLoadW rfl rfl (by kernel_rfl) hc26) ?_
  refine agv 15 (vS x) rfl (rLoad 1 rfl rfl (by kernel_rfl) rfl rfl) ?_
  refine agv 16 (.bool (decide (x0=x))) rfl (rStrEq rfl rfl rfl) ?_
  refine ac 17 (.bool (decide (x0=x))) ?_
  refine aa 18 ?_
  refine anyDone (by kernel_rfl) ?_
  refine qThen (stRet (sN [(.bool (decide (x0=x)))] fun w hM=>?_))
  exact ⟨ret_bool (by rw [has_pos hs.2,hx0]; simp),(hM.pick [] rfl rfl)⟩
 ·have hd20:=of_decide_eq_false hc20
  refine anF 8 ?_
  refine anF 9 ?_
  refine anF 10 ?_
  refine anF 11 ?_
  refine anF 12 ?_
  refine anF 13 ?_
  refine anF 14 ?_
  refine anF 15 ?_
  refine anF 16 ?_
  refine ac 17 (.bool false) ?_
  refine aa 18 ?_
  refine anyDone (by kernel_rfl) ?_
  refine qThen (stRet (sN [(.bool false)] fun w hM=>?_))
  exact ⟨ret_bool (by rw [has_pos hs.2,List.getElem?_eq_none (l:=its) (i:=posB its x) (by omega)]; simp),(hM.pick [] rfl rfl)⟩
theorem rsSum_any (bs:Nat) (A:Option Addr) (c:Nat) (its:List (List UInt8)) (fan leaf:Nat) (nm om:Nat) (lo hi:List UInt8) (w:World) (r0:Rf [] w (Vars)) (r1:Rf [] w (SessAt bs A c its fan leaf nm om)) (hs:okSet its) (hn:its.length≤1000) (hcap:its.length≤c) :
  Calls Tryz.prog 200 #[(vP bs 0),(.agg #[(vS lo),(vS hi)])] w fun e w'=>e = .returned (.agg #[(vI ((inL its lo hi).length)),(vS (fpB (inL its lo hi)))])∧Back [] w [] w':=by
 have ra:=r1.imp (fun _ h=>h.1)
 have rb:=r1.imp (fun _ h=>h.2)
 refine sE2 Tryz.func200 14 (Mm.start w []) ?_
 refine stSeq (reg (li rfl (oBx [(vS lo),(vS hi)] fun b3=>?_)))
 refine li rfl (oAl [(.int .i64 0),(.string ⟨#[]⟩)] fun b4=>?_)
 refine liNil (qThen (stSeq (reg (lm ?_))))
 refine lv (rA 0 [(vS lo),(vS hi)]) ?_
 refine li rfl (opK0 (fun w hM=>(rsWithin_any bs A c its fan leaf nm om lo hi w (r1.go0 hM) (by assumption) (by assumption) (by assumption)).mono ?_))
 rintro e w' ⟨B8,cb8,rfl,hP,hsub8⟩
 refine ⟨_,_,rfl,hP,?_⟩; clear hP hM
 have rs8:=Ro.imp (Ψ:=fun w=>RowIn w B8 (SS (inL its lo hi))) rb hsub8
 refine la ?_
 refine liNil (qThen (stSeq (reg (lm ?_))))
 refine lc (vI ((inL its lo hi).length)) ?_
 refine lm ?_
 refine li rfl (opK0 (fun w hM=>(rsJoin_any B8 cb8 (inL its lo hi) w (r0.go0 hM) (rs8.go0 hM) (by have:=inL_flat hs lo hi; omega) (by have:=inL_len its lo hi; omega)).mono ?_))
 rintro e w' ⟨rfl,hP⟩
 refine ⟨_,_,rfl,hP,?_⟩; clear hP hM
 refine lc (.agg #[(vI ((inL its lo hi).length)),(vS (sha (inL its lo hi).flatten))]) ?_
 refine li rfl (oSN 1 [(vI ((inL its lo hi).length)),(vS (sha (inL its lo hi).flatten))] ?_)
 refine liNil (qThen (stRet (stEnd [(.agg #[(vI ((inL its lo hi).length)),(vS (sha (inL its lo hi).flatten))])] rfl ⟨⟨_,rfl,fun w hM=>run_loadVarA (by kernel_rfl) (by kernel_rfl) (segAt (i:=1) (off:=0) rfl (by intro j v hj; rw [Nat.zero_add]; exact hj) w hM)⟩,trivial⟩ (fun w hM=>?_))))
 exact ⟨rfl,(hM.pick [] rfl rfl)⟩
section
/-! ### In memory -/
inductive CV where
 | sum (n : Nat) (f : Bs) | list (A : Option Addr) (c : Nat) (xs : List Bs) | ans (A : Option Addr) (c : Nat) (xs : List Bs) (B : Option Addr) (d : Nat) (ms : List Bs)
structure PV where
 (lo hi : Bs) (c : CV)
def CV.val : CV → Value
 | .sum n f => .iface 248 (.agg #[.int .i64 ((n : Nat) : Int), .string (strOf f)])
 | .list A c xs => .iface 252 (.agg #[.slice A xs.length c])
 | .ans A c xs B d ms => .iface 255 (.agg #[.slice A xs.length c, .slice B ms.length d])
def CV.abs : CV → AC
 | .sum n f => .sum n f
 | .list _ _ xs => .list xs
 | .ans _ _ xs _ _ ms => .ans xs ms
def PV.abs (p : PV) : AP := ⟨p.lo, p.hi, p.c.abs⟩
def CV.rows : CV → List (Option Addr × List Bs)
 | .sum _ _ => []
 | .list A _ xs => [(A, xs)]
 | .ans A _ xs B _ ms => [(A, xs), (B, ms)]
def PV.cells (p : PV) : List Value := [.string (strOf p.lo), .string (strOf p.hi), p.c.val]
def PS (ps : List PV) : List Value := ps.flatMap PV.cells
abbrev cP (A : Option Addr) (l : List PV) (c : Nat) : Ch := cOwn 246 3 A l.length c (PS l)
theorem PS_append (a b:List PV):PS (a++b)=PS a++PS b:=List.flatMap_append
theorem CV.one (c:CV):c.val.oneCell'=true:=by cases c <;> rfl
theorem PV.one (p:PV):∀ u∈p.cells,u.oneCell'=true:=by
 intro u hu
 simp only [PV.cells,List.mem_cons,List.not_mem_nil,or_false] at hu
 rcases hu with rfl | rfl | rfl
 ·rfl
 ·rfl
 ·exact CV.one _
theorem PS_one {ps:List PV}:∀ u∈PS ps,u.oneCell'=true:=by
 intro u hu
 obtain ⟨p,_,hp⟩:=List.mem_flatMap.1 hu
 simp only [PV.cells,List.mem_cons,List.not_mem_nil,or_false] at hp
 rcases hp with rfl | rfl | rfl
 ·rfl
 ·rfl
 ·exact CV.one _
theorem PS_at {ps:List PV} {i:Nat} {p:PV} (h:ps[i]?=some p) (k:Nat) (v:Value) (hk:p.cells[k]?=some v):(PS ps)[i*3+k]?=some v:=by
 induction ps generalizing i with
 | nil=>simp at h
 | cons q ps ih =>
   show (q.cells++PS ps)[i*3+k]?=some v
   cases i with
   | zero =>
     simp only [List.getElem?_cons_zero,Option.some.injEq] at h
     subst h
     rw [Nat.zero_mul,Nat.zero_add,List.getElem?_append_left (List.getElem?_eq_some_iff.1 hk).1]
     exact hk
   | succ i =>
     rw [List.getElem?_append_right (by show 3≤_; omega),show (i+1)*3+k - q.cells.length=i*3+k by show _ - 3=_; omega]
     exact ih (by simpa using h)
def sumP (its : List Bs) (lo hi : Bs) : PV := ⟨lo, hi, .sum (inL its lo hi).length (fpB (inL its lo hi))⟩
def divP (its own : List Bs) (fan : Nat) (lo : Bs) : Nat → Bs × List PV
 | 0 => (lo, [])
 | k + 1 => if own.getD ((k + 1) * own.length / fan) [] = (divP its own fan lo k).1 then divP its own fan lo k else (own.getD ((k + 1) * own.length / fan) [], (divP its own fan lo k).2 ++ [sumP its (divP its own fan lo k).1 (own.getD ((k + 1) * own.length / fan) [])])
theorem divP_abs (its own:List Bs) (fan:Nat) (lo:Bs):∀ k,(divP its own fan lo k).1=(divTo its own fan lo k).1∧(divP its own fan lo k).2.map PV.abs=(divTo its own fan lo k).2
 | 0=>⟨rfl,rfl⟩
 | k+1=>by
   obtain ⟨h1,h2⟩:=divP_abs its own fan lo k
   unfold divP divTo
   rw [h1]
   split
   ·exact ⟨h1,h2⟩
   ·refine ⟨rfl,?_⟩
    rw [List.map_append,h2]
    rfl
theorem divP_no {its own:List Bs} {fan k:Nat} {lo x:Bs} (hx:own[(k+1)*own.length / fan]?=some x) (h:(!decide (x=(divP its own fan lo k).1))=false):divP its own fan lo (k+1)=divP its own fan lo k:=by
 have e:own.getD ((k+1)*own.length / fan) []=x:=by rw [List.getD_eq_getElem?_getD,hx]; rfl
 rw [divP,e,if_pos (by simpa using h)]
theorem divP_yes {its own:List Bs} {fan k:Nat} {lo x:Bs} (hx:own[(k+1)*own.length / fan]?=some x) (h:(!decide (x=(divP its own fan lo k).1))=true):divP its own fan lo (k+1)=(x,(divP its own fan lo k).2++[sumP its (divP its own fan lo k).1 x]):=by
 have e:own.getD ((k+1)*own.length / fan) []=x:=by rw [List.getD_eq_getElem?_getD,hx]; rfl
 rw [divP,e,if_neg (by simpa using h)]
theorem divP_len (its own:List Bs) (fan:Nat) (lo:Bs):∀ k,(divP its own fan lo k).2.length≤k
 | 0=>Nat.le_refl _
 | k+1=>by
   have:=divP_len its own fan lo k
   unfold divP
   split
   ·omega
   ·simp only [List.length_append,List.length_cons,List.length_nil]; omega
theorem divP_sum (its own:List Bs) (fan:Nat) (lo:Bs):∀ k,∀ p∈(divP its own fan lo k).2,p.c.rows=[]
 | 0=>by simp [divP]
 | k+1=>by
   unfold divP
   split
   ·exact divP_sum its own fan lo k
   ·intro p hp
    rcases List.mem_append.1 hp with hp | hp
    ·exact divP_sum its own fan lo k p hp
    ·rw [List.mem_singleton.1 hp]; rfl
/-! ### Rows as one piece -/
def cBag (L : List (Option Addr × List Bs)) : Ch where
 fp := L.flatMap fun r => ownFp r.1
 holds w := ∀ r ∈ L, RowIn w r.1 (SS r.2) ∧ ∀ b ∈ ownFp r.1, b < w.heap.size
 ok w w' hb h := fun r hr => by
  obtain ⟨h1, h2⟩ := h r hr
  have hb' : ∀ b ∈ ownFp r.1, w'.heap[b]? = w.heap[b]? := fun b hb1 => hb b (List.mem_flatMap.2 ⟨r, hr, hb1⟩)
  refine ⟨fun j v hj => ?_, fun b hb1 => ?_⟩
  ·obtain ⟨b, o, hA, hlt, hc⟩ := h1 j v hj
   have e := hb' b (by rw [hA]; simp [ownFp])
   refine ⟨b, o, hA, ?_, ?_⟩
   ·by_cases hlt' : b < w'.heap.size
    ·exact hlt'
    ·rw [Array.getElem?_eq_none (by omega), Array.getElem?_eq_getElem hlt] at e
     cases e
   ·rw [← hc]
    simp only [World.cell?, e]
  ·have e := hb' b hb1
   by_cases hlt' : b < w'.heap.size
   ·exact hlt'
   ·rw [Array.getElem?_eq_none (by omega), Array.getElem?_eq_getElem (h2 b hb1)] at e
    cases e
 lt w h b hb := by
  obtain ⟨r, hr, hb1⟩ := List.mem_flatMap.1 hb
  exact (h r hr).2 b hb1
section
variable {w0 w w' : World} {F : List Nat} {cs : List Ch}
theorem bag1_fp {A:Option Addr} {xs:List Bs}:(cBag [(A,xs)]).fp=ownFp A:=by simp [cBag]
theorem Mm.toBag (h:Mm w0 F cs w) (i:Nat) {e:TypeId} {A:Option Addr} {n c:Nat} {xs:List Bs} (hi:cs[i]?=some (cOwn e 1 A n c (SS xs))):Mm w0 F (cs.set i (cBag [(A,xs)])) w :=
 h.swap i hi (Fr.refl _ _) (fun r hr=>by
  rw [List.mem_singleton.1 hr]
  have ho:=h.at hi
  refine ⟨?_,?_⟩
  ·have ho':w.ownsRow 0 e 1 (.slice A n c) n (SS xs):=ho
   exact RowIn.of_own ho'
  ·intro b hb
   exact (cOwn e 1 A n c (SS xs)).lt w ho b hb) (fun b hb=>.inl (by rw [bag1_fp] at hb; exact hb)) (by simpa [cBag] using ownFp_nodup A)
theorem cBag_fp (L M:List (Option Addr × List Bs)):(cBag (L++M)).fp=(cBag L).fp++(cBag M).fp:=List.flatMap_append
theorem Mm.join {L M:List (Option Addr × List Bs)} (h:Mm w0 F (cs++[cBag L,cBag M]) w):Mm w0 F (cs++[cBag (L++M)]) w:=by
 have e:(cs++[cBag (L++M)]).flatMap Ch.fp=(cs++[cBag L,cBag M]).flatMap Ch.fp:=by
  simp only [List.flatMap_append,List.flatMap_cons,List.flatMap_nil,cBag_fp,List.append_nil]
 refine ⟨h.fr,?_,?_,?_⟩
 ·intro c hc
  rcases List.mem_append.1 hc with hc | hc
  ·exact h.hold c (List.mem_append_left _ hc)
  ·rw [List.mem_singleton.1 hc]
   intro r hr
   rcases List.mem_append.1 hr with hr | hr
   ·exact h.hold (cBag L) (List.mem_append_right _ (by simp)) r hr
   ·exact h.hold (cBag M) (List.mem_append_right _ (by simp)) r hr
 ·rw [e]; exact h.nodup
 ·rw [e]; exact h.own
theorem Mm.noBag (h:Mm w0 F cs w):Mm w0 F (cs++[cBag []]) w:=h.push (c:=cBag []) (Fr.refl _ _) (by intro r hr; cases hr) (by simp [cBag]) (by simp [cBag])
end
def SrcOk (L : List (Option Addr × List Bs)) (A : Option Addr) (its : List Bs) (ps : List PV) : Prop := ∀ p ∈ ps, ∀ r ∈ p.c.rows, r ∈ L ∨ ∀ w, RowIn w A (SS its) → RowIn w r.1 (SS r.2)
def PsOk (ps : List PV) (w : World) : Prop := ∀ p ∈ ps, ∀ r ∈ p.c.rows, RowIn w r.1 (SS r.2)
theorem SrcOk.nil {L:List (Option Addr × List Bs)} {A:Option Addr} {its:List Bs}:SrcOk L A its []:=by intro p hp; cases hp
theorem SrcOk.append {L M:List (Option Addr × List Bs)} {A:Option Addr} {its:List Bs} {a b:List PV} (h:SrcOk L A its a) (k:SrcOk M A its b):SrcOk (L++M) A its (a++b):=by
 intro p hp r hr
 rcases List.mem_append.1 hp with hp | hp
 ·exact (h p hp r hr).imp (List.mem_append_left _) id
 ·exact (k p hp r hr).imp (List.mem_append_right _) id
theorem SrcOk.ok {L:List (Option Addr × List Bs)} {A:Option Addr} {its:List Bs} {ps:List PV} {w:World} (h:SrcOk L A its ps) (hL:(cBag L).holds w) (hr:RowIn w A (SS its)):PsOk ps w:=fun p hp r hp'=>(h p hp r hp').elim (fun hm=>(hL r hm).1) (fun hf=>hf w hr)
theorem SrcOk.noRows {L:List (Option Addr × List Bs)} {A:Option Addr} {its:List Bs} {ps:List PV} (h:∀ p∈ps,p.c.rows=[]):SrcOk L A its ps:=fun p hp r hr=>by rw [h p hp] at hr; cases hr
theorem el_part:Elem Tryz.prog 236 246 (.agg #[.string ⟨#[]⟩,.string ⟨#[]⟩,.nilIface]) 3 48:=⟨Tryz.underlying236,by kernel_rfl,rfl,by omega,by omega⟩
section
variable {P : Program} {Q : Exit → Act → World → Prop} {n : Nat} {w0 : World} {F : List Nat} {E : Env} {cs : List Ch} {X K : Act → World → Prop} {ops : Array Oper} {o oi : Oper} {rest : List Oper} {d : Nat}
theorem rQuoN {ty u:TypeId} {x y:Operand} {a b:Nat} (ho:o.op = .binOp .quo ty x y u) (hx:evO E x=some (.int .i64 ((a:Nat):Int))) (hy:evO E y=some (.int .i64 ((b:Nat):Int))) (hb:0 < b) (ha:a≤9223372036854775807):RunV P w0 F cs E o (.int .i64 ((a / b:Nat):Int)):=by
 have h:=Nat.div_le_self a b
 exact rQuo _ ho hx hy (by omega) (by rw [Int.natCast_ediv,Int.tdiv_eq_ediv_of_nonneg (by omega)]) (Int.le_trans (by decide) (Int.natCast_nonneg _)) (Int.ofNat_le.2 (Nat.le_trans h ha))
end
section
variable {w0 : World} {F : List Nat} {E : Env} {cs : List Ch} {o : Oper}
theorem rEqSummed {u:TypeId} {x y:Operand} {a b:Nat} {p q:Bs} (ho:o.op = .binOp .eql 248 x y u) (hx:evO E x=some (.agg #[.int .i64 ((a:Nat):Int),.string (strOf p)])) (hy:evO E y=some (.agg #[.int .i64 ((b:Nat):Int),.string (strOf q)])):RunV Tryz.prog w0 F cs E o (.bool (decide (a=b∧p=q))):=fun w _=>by
 have hg:Tryz.prog.eqGuardType Tryz.prog.depth 248=false:=by kernel_rfl
 have hs:Tryz.prog.stoodInHeld 248=false:=by kernel_rfl
 have hm : (Tryz.prog.fieldsOf 248).toList.map (fun f => (f.name == "_", f.type, f.offset)) = [(false, 3, 0), (false, 9, 1)] := by kernel_rfl
 have he:(Op.equal 248 (.agg #[.int .i64 ((a:Nat):Int),.string (strOf p)]) (.agg #[.int .i64 ((b:Nat):Int),.string (strOf q)])).run Tryz.prog w = .ok (decide (a=b∧p=q)) w:=by
  refine (run_equalIn_struct w 9999 _ _ _ (by kernel_rfl) hs).trans ?_
  generalize (Tryz.prog.fieldsOf 248).toList=l at hm
  have hl:l.length=2:=by simpa using congrArg List.length hm
  match l,hl with
  | [g1,g2],_ =>
    simp only [List.map_cons,List.map_nil,List.cons.injEq,Prod.mk.injEq,and_true,beq_eq_false_iff_ne] at hm
    obtain ⟨⟨h1,t1,o1⟩,h2,t2,o2⟩:=hm
    have e1:=run_part_plain w (P:=Tryz.prog) (e:=3) (xs:=#[.int .i64 ((a:Nat):Int),.string (strOf p)]) (off:=0) (v:=.int .i64 ((a:Nat):Int)) (by kernel_rfl) rfl
    have e2:=run_part_plain w (P:=Tryz.prog) (e:=3) (xs:=#[.int .i64 ((b:Nat):Int),.string (strOf q)]) (off:=0) (v:=.int .i64 ((b:Nat):Int)) (by kernel_rfl) rfl
    have e3:=run_part_plain w (P:=Tryz.prog) (e:=9) (xs:=#[.int .i64 ((a:Nat):Int),.string (strOf p)]) (off:=1) (v:=.string (strOf p)) (by kernel_rfl) rfl
    have e4:=run_part_plain w (P:=Tryz.prog) (e:=9) (xs:=#[.int .i64 ((b:Nat):Int),.string (strOf q)]) (off:=1) (v:=.string (strOf q)) (by kernel_rfl) rfl
    simp only [Op.eqFields,h1,h2,ne_eq,not_false_eq_true,if_true,Sem.run_bind,Sem.run_ite,Sem.run_pure,t1,t2,o1,o2,e1,e2,e3,e4,Result.andThen_ok,run_equalIn_int w 9998 _ .i64 _ _ _ Tryz.underlying3,run_equalIn_string w 9998 _ _ _ Tryz.underlying9,strOf_toList]
    by_cases ha:a=b
    ·subst ha
     by_cases hp:p=q
     ·subst hp; simp
     ·simp [hp]
    ·have ha':¬ ((a:Nat):Int)=((b:Nat):Int):=fun h=>ha (Int.ofNat.inj h)
     simp [ha,ha']
 unfold execOp
 simp only [ho,evE_of hx,evE_of hy,Sem.run_bind,run_eqGuard_agg w _ _ _ _ _ _ hg,binOp,Result.andThen_ok,he,Sem.run_pure]
end
section
variable {P : Program} {Q : Exit → Act → World → Prop} {n : Nat} {w0 : World} {F : List Nat} {E : Env} {cs : List Ch} {X K : Act → World → Prop} {ops : Array Oper} {o oi : Oper} {rest : List Oper} {d : Nat}
theorem rowOwn3 {e:TypeId} {i sz:Nat} {A:Option Addr} {m c:Nat} {xs:List Value} (hi:cs[i]?=some (cOwn e sz A m c xs)):∀ w,Mm w0 F cs w→RowIn w A xs:=by
 intro w hM j u hu
 have h:w.ownsRow 0 e sz (.slice A m c) m xs:=hM.at hi
 rcases h.2 with ⟨_,h0⟩ | ⟨g,cap,cur,hv,_,hg,_,_,_,hc⟩
 ·have:=h.1
  rw [h0,Nat.zero_mul] at this
  rw [List.eq_nil_of_length_eq_zero this] at hu
  simp at hu
 ·simp only [Value.slice.injEq] at hv
  obtain ⟨rfl,_,_⟩:=hv
  refine ⟨g,0,rfl,(Array.getElem?_eq_some_iff.1 hg).1,?_⟩
  have hlt:=(List.getElem?_eq_some_iff.1 hu).1
  rw [h.1] at hlt
  have:cur.toList[j]?=some u:=by rw [← List.getElem?_take_of_lt hlt,hc]; exact hu
  rw [Nat.zero_add]
  simpa [World.cell?,hg] using this
theorem own3_row {e:TypeId} {sz:Nat} {A:Option Addr} {m c:Nat} {xs:List Value} {w:World} (h:(cOwn e sz A m c xs).holds w):RowIn w A xs:=by
 have hM:Mm w (ownFp A) [cOwn e sz A m c xs] w:=⟨Fr.refl _ _,by intro d hd; rw [List.mem_singleton.1 hd]; exact h,by simpa [cOwn] using ownFp_nodup A,by intro b hb; exact .inl (by simpa [cOwn] using hb)⟩
 exact rowOwn3 (i:=0) rfl w hM
theorem part_cells {w:World} {A:Option Addr} {ps:List PV} {i:Nat} {p:PV} (h:RowIn w A (PS ps)) (hp:ps[i]?=some p) {b q:Nat} (hA:A=some ⟨b,q,none⟩):∀ j v,p.cells[j]?=some v→w.cell? ⟨b,q+i*3+j,none⟩=some v:=fun j v hj=>by
 rw [Nat.add_assoc]
 exact row_cell h (PS_at hp j v hj) hA
theorem St.partPtr {A:Option Addr} {ps:List PV} {i:Nat} {p:PV} (h:∀ w,Mm w0 F cs w→RowIn w A (PS ps)) (hp:ps[i]?=some p) (k:∀ b q,A=some ⟨b,q,none⟩→(∀ w,Mm w0 F cs w→∀ j v,p.cells[j]?=some v→w.cell? ⟨b,q+i*3+j,none⟩=some v)→St n w0 F E cs X):St n w0 F E cs X:=fun a w ha hM=>by
 obtain ⟨b,q,hA⟩:=row_form (h w hM) (PS_at hp 0 _ rfl)
 exact k b q hA (fun w' hM'=>part_cells (h w' hM') hp hA) a w ha hM
theorem Any.partPtr {css:List Ch} {z fuel:Nat} {listed:Array Bool} {A:Option Addr} {ps:List PV} {i:Nat} {p:PV} (h:∀ w,Mm w0 F css w→RowIn w A (PS ps)) (hp:ps[i]?=some p) (k:∀ b q,A=some ⟨b,q,none⟩→(∀ w,Mm w0 F css w→∀ j v,p.cells[j]?=some v→w.cell? ⟨b,q+i*3+j,none⟩=some v)→Any P ops Q n w0 F E cs css z fuel listed):Any P ops Q n w0 F E cs css z fuel listed:=fun a w ha hM hS hc=>by
 obtain ⟨b,q,hA⟩:=row_form (h w hS) (PS_at hp 0 _ rfl)
 exact k b q hA (fun w' hM'=>part_cells (h w' hM') hp hA) a w ha hM hS hc
theorem rIndexRow3 {ty e:TypeId} {x i:Operand} {A:Option Addr} {b off len cap j:Nat} {k:IntKind} (ho:o.op = .indexAddr ty x i) (hu:P.underlying ty=some (.slice e)) (hsz:sizeT P e=some 3) (hx:evO E x=some (.slice A len cap)) (hi:evO E i=some (.int k (j:Int))) (hA:A=some ⟨b,off,none⟩) (hlt:j < len):RunV P w0 F cs E o (.pointer (some ⟨b,off+j*3,none⟩)):=by
 subst hA
 exact rIndexAddr ho hu hsz hx hi hlt
def CV.pay : CV → Value
 | .sum n f => .agg #[.int .i64 ((n : Nat) : Int), .string (strOf f)]
 | .list A c xs => .agg #[.slice A xs.length c]
 | .ans A c xs B d ms => .agg #[.slice A xs.length c, .slice B ms.length d]
def CV.wfn : CV → FuncId
 | .sum _ _ => 243
 | .list _ _ _ => 245
 | .ans _ _ _ _ _ _ => 250
theorem hrWrite {x y : Operand} {t : Array TypeId} {c : CV} {wv : Value} (ho : o.op = .call { callee := .invoke x "kinkeep/rangesum.write", args := #[y], argTypes := t }) (hx : evO E x = some c.val) (hy : evO E y = some wv) : ∀ w, (execOp (evE E) o).run Tryz.prog w = .ok (.enter c.wfn #[c.pay, wv]) w := by
 intro w
 unfold execOp
 simp only [ho,resolve,evE_of hx,evE_of hy,Sem.run_bind,Sem.run_pure,Result.andThen_ok,List.map_toArray,List.map_cons,List.map_nil]
 cases c <;> kernel_rfl
end
end
section
variable {X : Option Addr × Nat}
theorem blk_ok (br:Nat) (D:List UInt8) (off last most:Nat) (w:World) (A:Option Addr) (c:Nat) (ha:At w br 187 [.slice A D.length c,Value.int .i64 ((off:Nat):Int),Value.int .i64 (last:Int),Value.int .i64 0]) (hown:w.ownsRow 0 5 1 (.slice A D.length c) D.length (B8 D)) (hl:D.length≤4294967296) (ho:off≤D.length) (hm:most≤4294967296) (n m:Nat) (hd:rdNum D off=some (n,m)) (hn:n≤most) (hf:m+n≤D.length) :
  Calls Tryz.prog 125 #[Value.pointer (some ⟨br,0,none⟩),Value.int .i64 (most:Int)] w fun e w'=>e = .returned (.tuple #[.slice (if c=m then A else A.map (·.add (m*1))) n (c - m),Value.int .i64 0])∧Fr [br] w w'∧At w' br 187 [.slice A D.length c,Value.int .i64 ((m+n:Nat):Int),Value.int .i64 (last:Int),Value.int .i64 0]:=by
 have HA:=Lib.hid ha
 have HO:=Lib.hid hown
 have hc:D.length≤c:=ownCap hown
 have HNB:Hid (∀ g,(Value.slice A D.length c).ownBlock=some g→g∉[br]):=fun g hg=>by
  have h1:=own_at_ne hown ha (by decide)
  simp only [List.mem_singleton]
  rintro rfl
  exact h1 hg.symm
 clear ha hown
 have hmD:=(rdNum_le _ _ _ _ hd).2.1
 refine sE2 Tryz.func125 22 (Mm.one HA.out) ?_
 refine stSeq (reg (la ?_))
 refine la ?_
 refine liNil (qThen (stSeq (reg (lm ?_))))
 refine lm ?_
 refine li rfl (opCall 167 #[(vP br 0),(vI most)] rfl (by kernel_rfl) (fun _=>by kernel_rfl) (fun w hM=>?_))
 refine (limited_any (X:=(A,c)) br D off last (most:Int) w ⟨A,c,rfl,hM.at (i:=0) rfl,ownsRow_fr HO.out hM.fr HNB.out⟩ ho hl ⟨by omega,by omega⟩).mono ?_
 intro e w' h
 unfold LimRes at h; rw [hd] at h; dsimp only at h
 rw [if_neg (by omega)] at h
 obtain ⟨hf2,rfl,A',c',hX',ha2,_⟩:=h
 obtain ⟨rfl,rfl⟩:A=A'∧c=c':=by simpa using hX'
 have hM':=hM.swap 0 (c':=cAt br 187 [(.slice A (D.length) (c)),(vI m),(vI last),(.int .i64 0)]) rfl hf2 ha2 (fun b hb=>.inl hb) (by simp [cAt])
 refine ⟨_,_,rfl,hM',?_⟩
 refine lm ?_
 refine lc (vI n) ?_
 refine lc (.int .i64 0) ?_
 refine la ?_
 refine la ?_
 refine liNil (qThen (stSeq (stSeq (reg (lm ?_)))))
 refine lc (.bool false) ?_
 refine liNil (qThen (stFalse rfl ?_))
 refine stSkip (qThen (stSeq (reg (lm ?_))))
 refine lm ?_
 refine li rfl (opCall 165 #[(vP br 0),(vI n)] rfl (by kernel_rfl) (fun _=>by kernel_rfl) (fun w hM=>?_))
 refine (take_ok br D m last n 0 w A c (hM.at (i:=0) rfl) hl (by omega) (by omega) hc hf).mono ?_
 rintro e w' ⟨rfl,hf2,ha2⟩
 have hM':=hM.swap 0 (c':=cAt br 187 [(.slice A (D.length) (c)),(vI (m+n)),(vI last),(.int .i64 0)]) rfl hf2 ha2 (fun b hb=>.inl hb) (by simp [cAt])
 refine ⟨_,_,rfl,hM',?_⟩
 refine lc (.slice (if c=m then A else A.map (·.add (m*1))) (n) (c - m)) ?_
 refine lc (.int .i64 0) ?_
 refine la ?_
 refine la ?_
 refine liNil (qThen (stRet (sN [(.slice (if c=m then A else A.map (·.add (m*1))) (n) (c - m)),(.int .i64 0)] fun w hM=>?_)))
 exact ⟨rfl,hM.fr,hM.at (i:=0) rfl⟩
theorem blk_few (br:Nat) (D:List UInt8) (off last most:Nat) (w:World) (A:Option Addr) (c:Nat) (ha:At w br 187 [.slice A D.length c,Value.int .i64 ((off:Nat):Int),Value.int .i64 (last:Int),Value.int .i64 0]) (hown:w.ownsRow 0 5 1 (.slice A D.length c) D.length (B8 D)) (hl:D.length≤4294967296) (ho:off≤D.length) (hm:most≤4294967296) (n m:Nat) (hd:rdNum D off=some (n,m)) (hn:n≤most) (hf:D.length < m+n) :
  Calls Tryz.prog 125 #[Value.pointer (some ⟨br,0,none⟩),Value.int .i64 (most:Int)] w fun e w'=>e = .returned (.tuple #[.slice none 0 0,Value.int .i64 3])∧Fr [br] w w'∧∃ off':Nat,At w' br 187 [.slice A D.length c,Value.int .i64 ((off':Nat):Int),Value.int .i64 (last:Int),Value.int .i64 0]:=by
 have HA:=Lib.hid ha
 have HO:=Lib.hid hown
 have hc:D.length≤c:=ownCap hown
 have HNB:Hid (∀ g,(Value.slice A D.length c).ownBlock=some g→g∉[br]):=fun g hg=>by
  have h1:=own_at_ne hown ha (by decide)
  simp only [List.mem_singleton]
  rintro rfl
  exact h1 hg.symm
 clear ha hown
 have hmD:=(rdNum_le _ _ _ _ hd).2.1
 refine sE2 Tryz.func125 22 (Mm.one HA.out) ?_
 refine stSeq (reg (la ?_))
 refine la ?_
 refine liNil (qThen (stSeq (reg (lm ?_))))
 refine lm ?_
 refine li rfl (opCall 167 #[(vP br 0),(vI most)] rfl (by kernel_rfl) (fun _=>by kernel_rfl) (fun w hM=>?_))
 refine (limited_any (X:=(A,c)) br D off last (most:Int) w ⟨A,c,rfl,hM.at (i:=0) rfl,ownsRow_fr HO.out hM.fr HNB.out⟩ ho hl ⟨by omega,by omega⟩).mono ?_
 intro e w' h
 unfold LimRes at h; rw [hd] at h; dsimp only at h
 rw [if_neg (by omega)] at h
 obtain ⟨hf2,rfl,A',c',hX',ha2,_⟩:=h
 obtain ⟨rfl,rfl⟩:A=A'∧c=c':=by simpa using hX'
 have hM':=hM.swap 0 (c':=cAt br 187 [(.slice A (D.length) (c)),(vI m),(vI last),(.int .i64 0)]) rfl hf2 ha2 (fun b hb=>.inl hb) (by simp [cAt])
 refine ⟨_,_,rfl,hM',?_⟩
 refine lm ?_
 refine lc (vI n) ?_
 refine lc (.int .i64 0) ?_
 refine la ?_
 refine la ?_
 refine liNil (qThen (stSeq (stSeq (reg (lm ?_)))))
 refine lc (.bool false) ?_
 refine liNil (qThen (stFalse rfl ?_))
 refine stSkip (qThen (stSeq (reg (lm ?_))))
 refine lm ?_
 refine li rfl (opCall 165 #[(vP br 0),(vI n)] rfl (by kernel_rfl) (fun _=>by kernel_rfl) (fun w hM=>?_))
 refine (take_few br D m last n 0 w A c (hM.at (i:=0) rfl) hl (by omega) (by omega) hc hf).mono ?_
 rintro e w' ⟨rfl,hf2,ha2⟩
 have hM':=hM.swap 0 (c':=cAt br 187 [(.slice A (D.length) (c)),(vI m),(vI last),(.int .i64 0)]) rfl hf2 ha2 (fun b hb=>.inl hb) (by simp [cAt])
 refine ⟨_,_,rfl,hM',?_⟩
 refine lc (.slice none 0 0) ?_
 refine lc (.int .i64 3) ?_
 refine la ?_
 refine la ?_
 refine liNil (qThen (stRet (sN [(.slice none 0 0),(.int .i64 3)] fun w hM=>?_)))
 exact ⟨rfl,hM.fr,⟨_,hM.at (i:=0) rfl⟩⟩
theorem blk_big (br:Nat) (D:List UInt8) (off last most:Nat) (w:World) (A:Option Addr) (c:Nat) (ha:At w br 187 [.slice A D.length c,Value.int .i64 ((off:Nat):Int),Value.int .i64 (last:Int),Value.int .i64 0]) (hown:w.ownsRow 0 5 1 (.slice A D.length c) D.length (B8 D)) (hl:D.length≤4294967296) (ho:off≤D.length) (hm:most≤4294967296) (n m:Nat) (hd:rdNum D off=some (n,m)) (hn:most < n) :
  Calls Tryz.prog 125 #[Value.pointer (some ⟨br,0,none⟩),Value.int .i64 (most:Int)] w fun e w'=>e = .returned (.tuple #[.slice none 0 0,Value.int .i64 2])∧Fr [br] w w'∧∃ off':Nat,At w' br 187 [.slice A D.length c,Value.int .i64 ((off':Nat):Int),Value.int .i64 (last:Int),Value.int .i64 0]:=by
 have HA:=Lib.hid ha
 have HO:=Lib.hid hown
 have hc:D.length≤c:=ownCap hown
 have HNB:Hid (∀ g,(Value.slice A D.length c).ownBlock=some g→g∉[br]):=fun g hg=>by
  have h1:=own_at_ne hown ha (by decide)
  simp only [List.mem_singleton]
  rintro rfl
  exact h1 hg.symm
 clear ha hown
 refine sE2 Tryz.func125 22 (Mm.one HA.out) ?_
 refine stSeq (reg (la ?_))
 refine la ?_
 refine liNil (qThen (stSeq (reg (lm ?_))))
 refine lm ?_
 refine li rfl (opCall 167 #[(vP br 0),(vI most)] rfl (by kernel_rfl) (fun _=>by kernel_rfl) (fun w hM=>?_))
 refine (limited_any (X:=(A,c)) br D off last (most:Int) w ⟨A,c,rfl,hM.at (i:=0) rfl,ownsRow_fr HO.out hM.fr HNB.out⟩ ho hl ⟨by omega,by omega⟩).mono ?_
 intro e w' h
 unfold LimRes at h; rw [hd] at h; dsimp only at h
 rw [if_pos (by omega)] at h
 obtain ⟨hf2,rfl,off',A',c',hX',ha2,_⟩:=h
 obtain ⟨rfl,rfl⟩:A=A'∧c=c':=by simpa using hX'
 have hM':=hM.swap 0 (c':=cAt br 187 [(.slice A (D.length) (c)),(vI off'),(vI last),(.int .i64 0)]) rfl hf2 ha2 (fun b hb=>.inl hb) (by simp [cAt])
 refine ⟨_,_,rfl,hM',?_⟩
 refine lm ?_
 refine lc (.int .i64 0) ?_
 refine lc (.int .i64 2) ?_
 refine la ?_
 refine la ?_
 refine liNil (qThen (stSeq (stSeq (reg (lm ?_)))))
 refine lc (.bool true) ?_
 refine liNil (qThen (stTrue rfl ?_))
 refine stSeq (reg (lm ?_))
 refine la ?_
 refine la ?_
 refine liNil (qThen (stRet (qThenR (sN [(.slice none 0 0),(.int .i64 2)] fun w hM=>?_))))
 exact ⟨rfl,hM.fr,⟨_,hM.at (i:=0) rfl⟩⟩
theorem blk_none (br:Nat) (D:List UInt8) (off last most:Nat) (w:World) (A:Option Addr) (c:Nat) (ha:At w br 187 [.slice A D.length c,Value.int .i64 ((off:Nat):Int),Value.int .i64 (last:Int),Value.int .i64 0]) (hown:w.ownsRow 0 5 1 (.slice A D.length c) D.length (B8 D)) (hl:D.length≤4294967296) (ho:off≤D.length) (hm:most≤4294967296) (hd:rdNum D off=none) :
  Calls Tryz.prog 125 #[Value.pointer (some ⟨br,0,none⟩),Value.int .i64 (most:Int)] w fun e w'=>e = .returned (.tuple #[.slice none 0 0,Value.int .i64 3])∧Fr [br] w w'∧∃ off':Nat,At w' br 187 [.slice A D.length c,Value.int .i64 ((off':Nat):Int),Value.int .i64 (last:Int),Value.int .i64 0]:=by
 have HA:=Lib.hid ha
 have HO:=Lib.hid hown
 have hc:D.length≤c:=ownCap hown
 have HNB:Hid (∀ g,(Value.slice A D.length c).ownBlock=some g→g∉[br]):=fun g hg=>by
  have h1:=own_at_ne hown ha (by decide)
  simp only [List.mem_singleton]
  rintro rfl
  exact h1 hg.symm
 clear ha hown
 refine sE2 Tryz.func125 22 (Mm.one HA.out) ?_
 refine stSeq (reg (la ?_))
 refine la ?_
 refine liNil (qThen (stSeq (reg (lm ?_))))
 refine lm ?_
 refine li rfl (opCall 167 #[(vP br 0),(vI most)] rfl (by kernel_rfl) (fun _=>by kernel_rfl) (fun w hM=>?_))
 refine (limited_any (X:=(A,c)) br D off last (most:Int) w ⟨A,c,rfl,hM.at (i:=0) rfl,ownsRow_fr HO.out hM.fr HNB.out⟩ ho hl ⟨by omega,by omega⟩).mono ?_
 intro e w' h
 unfold LimRes at h; rw [hd] at h; dsimp only at h
 obtain ⟨hf2,rfl,off',A',c',hX',ha2,_⟩:=h
 obtain ⟨rfl,rfl⟩:A=A'∧c=c':=by simpa using hX'
 have hM':=hM.swap 0 (c':=cAt br 187 [(.slice A (D.length) (c)),(vI off'),(vI last),(.int .i64 0)]) rfl hf2 ha2 (fun b hb=>.inl hb) (by simp [cAt])
 refine ⟨_,_,rfl,hM',?_⟩
 refine lm ?_
 refine lc (.int .i64 0) ?_
 refine lc (.int .i64 3) ?_
 refine la ?_
 refine la ?_
 refine liNil (qThen (stSeq (stSeq (reg (lm ?_)))))
 refine lc (.bool true) ?_
 refine liNil (qThen (stTrue rfl ?_))
 refine stSeq (reg (lm ?_))
 refine la ?_
 refine la ?_
 refine liNil (qThen (stRet (qThenR (sN [(.slice none 0 0),(.int .i64 3)] fun w hM=>?_))))
 exact ⟨rfl,hM.fr,⟨_,hM.at (i:=0) rfl⟩⟩
theorem txtc_ok (bx by_ br:Nat) (D:List UInt8) (off last most:Nat) (w:World) (hx0:At w bx 124 [Value.pointer (some ⟨br,0,none⟩)]) (hy0:At w by_ 3 [Value.int .i64 (most:Int)]) (hr:ReaderAt X w br D off last 0) (hl:D.length≤4294967296) (ho:off≤D.length) (hm:most≤4294967296) (n m:Nat) (hd:rdNum D off=some (n,m)) (hn:n≤most) (hf:m+n≤D.length) :
  Calls Tryz.prog 223 #[Value.pointer (some ⟨bx,0,none⟩),Value.pointer (some ⟨by_,0,none⟩)] w fun e w'=>e = .returned (.tuple #[.string (strOf ((D.drop m).take n)),Value.int .i64 0])∧Fr [br] w w'∧ReaderAt X w' br D (m+n) last 0:=by
 obtain ⟨A,c,hX,ha,hown⟩:=hr
 have hx:w.cell? ⟨bx,0,none⟩=some (Value.pointer (some ⟨br,0,none⟩)):=by rw [hx0.cell]; rfl
 have hxb:bx≠br:=hx0.ne ha (by decide)
 have hy:w.cell? ⟨by_,0,none⟩=some (Value.int .i64 (most:Int)):=by rw [hy0.cell]; rfl
 have hyb:by_≠br:=hy0.ne ha (by decide)
 have HA:=Lib.hid ha
 have HO:=Lib.hid hown
 have HR:Hid (RowIn w A (B8 D)):=RowIn.of_own hown
 have hc:D.length≤c:=ownCap hown
 have HNB:Hid (∀ g,(Value.slice A D.length c).ownBlock=some g→g∉[br]):=fun g hg=>by
  have h1:=own_at_ne hown ha (by decide)
  simp only [List.mem_singleton]
  rintro rfl
  exact h1 hg.symm
 have HNE:Hid (∀ b o,A=some ⟨b,o,none⟩→b∉[br]):=fun b o hA=>HNB.out b (by rw [hA]; rfl)
 clear ha hown hx0 hy0
 refine sE2 Tryz.func223 15 (Mm.one HA.out) ?_
 refine stSeq (reg (la ?_))
 refine la ?_
 refine liNil (qThen (stSeq (reg (lv (rW (fun w hM=>hM.old hx (by simpa using hxb))) ?_))))
 refine lv (rW (fun w hM=>hM.old hy (by simpa using hyb))) ?_
 refine li rfl (opCall 125 #[(vP br 0),(vI most)] rfl (by kernel_rfl) (fun _=>by kernel_rfl) (fun w hM=>?_))
 refine (blk_ok br D off last most w A c (hM.at (i:=0) rfl) (ownsRow_fr HO.out hM.fr HNB.out) hl ho hm n m hd hn hf).mono ?_
 rintro e w' ⟨rfl,hf2,ha2⟩
 have hM':=hM.swap 0 (c':=cAt br 187 [(.slice A (D.length) (c)),(vI (m+n)),(vI last),(.int .i64 0)]) rfl hf2 ha2 (fun b hb=>.inl hb) (by simp [cAt])
 refine ⟨_,_,rfl,hM',?_⟩
 refine lm ?_
 refine lc (.slice (if c=m then A else A.map (·.add (m*1))) (n) (c - m)) ?_
 refine lc (.int .i64 0) ?_
 refine la ?_
 refine la ?_
 refine liNil (qThen (stSeq (reg (lm ?_))))
 refine lv (v:=(vS ((D.drop m).take n))) (rStr (e:=5) ((D.drop m).take n) rfl (by kernel_rfl) (by kernel_rfl) (by kernel_rfl) rfl (by rw [List.length_take,List.length_drop,Nat.min_eq_left (by omega)]) (fun w hM=>rowPart (HR.out.fr hM.fr HNE.out) (by rw [B8_length]; exact hc))) ?_
 refine lm ?_
 refine la ?_
 refine la ?_
 refine liNil (qThen (stRet (sN [(vS ((D.drop m).take n)),(.int .i64 0)] fun w hM=>?_)))
 exact ⟨rfl,hM.fr,A,c,hX,hM.at (i:=0) rfl,ownsRow_fr HO.out hM.fr HNB.out⟩
theorem txtc_few (bx by_ br:Nat) (D:List UInt8) (off last most:Nat) (w:World) (hx0:At w bx 124 [Value.pointer (some ⟨br,0,none⟩)]) (hy0:At w by_ 3 [Value.int .i64 (most:Int)]) (hr:ReaderAt X w br D off last 0) (hl:D.length≤4294967296) (ho:off≤D.length) (hm:most≤4294967296) (n m:Nat) (hd:rdNum D off=some (n,m)) (hn:n≤most) (hf:D.length < m+n) :
  Calls Tryz.prog 223 #[Value.pointer (some ⟨bx,0,none⟩),Value.pointer (some ⟨by_,0,none⟩)] w fun e w'=>e = .returned (.tuple #[.string (strOf []),Value.int .i64 3])∧Fr [br] w w'∧∃ off':Nat,ReaderAt X w' br D off' last 0:=by
 obtain ⟨A,c,hX,ha,hown⟩:=hr
 have hx:w.cell? ⟨bx,0,none⟩=some (Value.pointer (some ⟨br,0,none⟩)):=by rw [hx0.cell]; rfl
 have hxb:bx≠br:=hx0.ne ha (by decide)
 have hy:w.cell? ⟨by_,0,none⟩=some (Value.int .i64 (most:Int)):=by rw [hy0.cell]; rfl
 have hyb:by_≠br:=hy0.ne ha (by decide)
 have HA:=Lib.hid ha
 have HO:=Lib.hid hown
 have HR:Hid (RowIn w A (B8 D)):=RowIn.of_own hown
 have hc:D.length≤c:=ownCap hown
 have HNB:Hid (∀ g,(Value.slice A D.length c).ownBlock=some g→g∉[br]):=fun g hg=>by
  have h1:=own_at_ne hown ha (by decide)
  simp only [List.mem_singleton]
  rintro rfl
  exact h1 hg.symm
 have HNE:Hid (∀ b o,A=some ⟨b,o,none⟩→b∉[br]):=fun b o hA=>HNB.out b (by rw [hA]; rfl)
 clear ha hown hx0 hy0
 refine sE2 Tryz.func223 15 (Mm.one HA.out) ?_
 refine stSeq (reg (la ?_))
 refine la ?_
 refine liNil (qThen (stSeq (reg (lv (rW (fun w hM=>hM.old hx (by simpa using hxb))) ?_))))
 refine lv (rW (fun w hM=>hM.old hy (by simpa using hyb))) ?_
 refine li rfl (opCall 125 #[(vP br 0),(vI most)] rfl (by kernel_rfl) (fun _=>by kernel_rfl) (fun w hM=>?_))
 refine (blk_few br D off last most w A c (hM.at (i:=0) rfl) (ownsRow_fr HO.out hM.fr HNB.out) hl ho hm n m hd hn hf).mono ?_
 rintro e w' ⟨rfl,hf2,off',ha2⟩
 have hM':=hM.swap 0 (c':=cAt br 187 [(.slice A (D.length) (c)),(vI off'),(vI last),(.int .i64 0)]) rfl hf2 ha2 (fun b hb=>.inl hb) (by simp [cAt])
 refine ⟨_,_,rfl,hM',?_⟩
 refine lm ?_
 refine lc (.slice none 0 0) ?_
 refine lc (.int .i64 3) ?_
 refine la ?_
 refine la ?_
 refine liNil (qThen (stSeq (reg (lm ?_))))
 refine lv (v:=(vS ([]))) (rStr (e:=5) [] rfl (by kernel_rfl) (by kernel_rfl) (by kernel_rfl) rfl rfl (fun w hM j v hj=>by simp [B8] at hj)) ?_
 refine lm ?_
 refine la ?_
 refine la ?_
 refine liNil (qThen (stRet (sN [(vS ([])),(.int .i64 3)] fun w hM=>?_)))
 exact ⟨rfl,hM.fr,_,A,c,hX,hM.at (i:=0) rfl,ownsRow_fr HO.out hM.fr HNB.out⟩
theorem txtc_big (bx by_ br:Nat) (D:List UInt8) (off last most:Nat) (w:World) (hx0:At w bx 124 [Value.pointer (some ⟨br,0,none⟩)]) (hy0:At w by_ 3 [Value.int .i64 (most:Int)]) (hr:ReaderAt X w br D off last 0) (hl:D.length≤4294967296) (ho:off≤D.length) (hm:most≤4294967296) (n m:Nat) (hd:rdNum D off=some (n,m)) (hn:most < n) :
  Calls Tryz.prog 223 #[Value.pointer (some ⟨bx,0,none⟩),Value.pointer (some ⟨by_,0,none⟩)] w fun e w'=>e = .returned (.tuple #[.string (strOf []),Value.int .i64 2])∧Fr [br] w w'∧∃ off':Nat,ReaderAt X w' br D off' last 0:=by
 obtain ⟨A,c,hX,ha,hown⟩:=hr
 have hx:w.cell? ⟨bx,0,none⟩=some (Value.pointer (some ⟨br,0,none⟩)):=by rw [hx0.cell]; rfl
 have hxb:bx≠br:=hx0.ne ha (by decide)
 have hy:w.cell? ⟨by_,0,none⟩=some (Value.int .i64 (most:Int)):=by rw [hy0.cell]; rfl
 have hyb:by_≠br:=hy0.ne ha (by decide)
 have HA:=Lib.hid ha
 have HO:=Lib.hid hown
 have HR:Hid (RowIn w A (B8 D)):=RowIn.of_own hown
 have hc:D.length≤c:=ownCap hown
 have HNB:Hid (∀ g,(Value.slice A D.length c).ownBlock=some g→g∉[br]):=fun g hg=>by
  have h1:=own_at_ne hown ha (by decide)
  simp only [List.mem_singleton]
  rintro rfl
  exact h1 hg.symm
 have HNE:Hid (∀ b o,A=some ⟨b,o,none⟩→b∉[br]):=fun b o hA=>HNB.out b (by rw [hA]; rfl)
 clear ha hown hx0 hy0
 refine sE2 Tryz.func223 15 (Mm.one HA.out) ?_
 refine stSeq (reg (la ?_))
 refine la ?_
 refine liNil (qThen (stSeq (reg (lv (rW (fun w hM=>hM.old hx (by simpa using hxb))) ?_))))
 refine lv (rW (fun w hM=>hM.old hy (by simpa using hyb))) ?_
 refine li rfl (opCall 125 #[(vP br 0),(vI most)] rfl (by kernel_rfl) (fun _=>by kernel_rfl) (fun w hM=>?_))
 refine (blk_big br D off last most w A c (hM.at (i:=0) rfl) (ownsRow_fr HO.out hM.fr HNB.out) hl ho hm n m hd hn).mono ?_
 rintro e w' ⟨rfl,hf2,off',ha2⟩
 have hM':=hM.swap 0 (c':=cAt br 187 [(.slice A (D.length) (c)),(vI off'),(vI last),(.int .i64 0)]) rfl hf2 ha2 (fun b hb=>.inl hb) (by simp [cAt])
 refine ⟨_,_,rfl,hM',?_⟩
 refine lm ?_
 refine lc (.slice none 0 0) ?_
 refine lc (.int .i64 2) ?_
 refine la ?_
 refine la ?_
 refine liNil (qThen (stSeq (reg (lm ?_))))
 refine lv (v:=(vS ([]))) (rStr (e:=5) [] rfl (by kernel_rfl) (by kernel_rfl) (by kernel_rfl) rfl rfl (fun w hM j v hj=>by simp [B8] at hj)) ?_
 refine lm ?_
 refine la ?_
 refine la ?_
 refine liNil (qThen (stRet (sN [(vS ([])),(.int .i64 2)] fun w hM=>?_)))
 exact ⟨rfl,hM.fr,_,A,c,hX,hM.at (i:=0) rfl,ownsRow_fr HO.out hM.fr HNB.out⟩
theorem txtc_none (bx by_ br:Nat) (D:List UInt8) (off last most:Nat) (w:World) (hx0:At w bx 124 [Value.pointer (some ⟨br,0,none⟩)]) (hy0:At w by_ 3 [Value.int .i64 (most:Int)]) (hr:ReaderAt X w br D off last 0) (hl:D.length≤4294967296) (ho:off≤D.length) (hm:most≤4294967296) (hd:rdNum D off=none) :
  Calls Tryz.prog 223 #[Value.pointer (some ⟨bx,0,none⟩),Value.pointer (some ⟨by_,0,none⟩)] w fun e w'=>e = .returned (.tuple #[.string (strOf []),Value.int .i64 3])∧Fr [br] w w'∧∃ off':Nat,ReaderAt X w' br D off' last 0:=by
 obtain ⟨A,c,hX,ha,hown⟩:=hr
 have hx:w.cell? ⟨bx,0,none⟩=some (Value.pointer (some ⟨br,0,none⟩)):=by rw [hx0.cell]; rfl
 have hxb:bx≠br:=hx0.ne ha (by decide)
 have hy:w.cell? ⟨by_,0,none⟩=some (Value.int .i64 (most:Int)):=by rw [hy0.cell]; rfl
 have hyb:by_≠br:=hy0.ne ha (by decide)
 have HA:=Lib.hid ha
 have HO:=Lib.hid hown
 have HR:Hid (RowIn w A (B8 D)):=RowIn.of_own hown
 have hc:D.length≤c:=ownCap hown
 have HNB:Hid (∀ g,(Value.slice A D.length c).ownBlock=some g→g∉[br]):=fun g hg=>by
  have h1:=own_at_ne hown ha (by decide)
  simp only [List.mem_singleton]
  rintro rfl
  exact h1 hg.symm
 have HNE:Hid (∀ b o,A=some ⟨b,o,none⟩→b∉[br]):=fun b o hA=>HNB.out b (by rw [hA]; rfl)
 clear ha hown hx0 hy0
 refine sE2 Tryz.func223 15 (Mm.one HA.out) ?_
 refine stSeq (reg (la ?_))
 refine la ?_
 refine liNil (qThen (stSeq (reg (lv (rW (fun w hM=>hM.old hx (by simpa using hxb))) ?_))))
 refine lv (rW (fun w hM=>hM.old hy (by simpa using hyb))) ?_
 refine li rfl (opCall 125 #[(vP br 0),(vI most)] rfl (by kernel_rfl) (fun _=>by kernel_rfl) (fun w hM=>?_))
 refine (blk_none br D off last most w A c (hM.at (i:=0) rfl) (ownsRow_fr HO.out hM.fr HNB.out) hl ho hm hd).mono ?_
 rintro e w' ⟨rfl,hf2,off',ha2⟩
 have hM':=hM.swap 0 (c':=cAt br 187 [(.slice A (D.length) (c)),(vI off'),(vI last),(.int .i64 0)]) rfl hf2 ha2 (fun b hb=>.inl hb) (by simp [cAt])
 refine ⟨_,_,rfl,hM',?_⟩
 refine lm ?_
 refine lc (.slice none 0 0) ?_
 refine lc (.int .i64 3) ?_
 refine la ?_
 refine la ?_
 refine liNil (qThen (stSeq (reg (lm ?_))))
 refine lv (v:=(vS ([]))) (rStr (e:=5) [] rfl (by kernel_rfl) (by kernel_rfl) (by kernel_rfl) rfl rfl (fun w hM j v hj=>by simp [B8] at hj)) ?_
 refine lm ?_
 refine la ?_
 refine la ?_
 refine liNil (qThen (stRet (sN [(vS ([])),(.int .i64 3)] fun w hM=>?_)))
 exact ⟨rfl,hM.fr,_,A,c,hX,hM.at (i:=0) rfl,ownsRow_fr HO.out hM.fr HNB.out⟩
theorem rvClose_ok_Txt (b0 b1 b2 br:Nat) (A:Option Addr) (n c:Nat) (off last start:Int) (w:World) (h0:At w b0 3 [Value.int .i64 start]) (h1:At w b1 124 [Value.pointer (some ⟨br,0,none⟩)]) (hr:At w br 187 [.slice A n c,Value.int .i64 off,Value.int .i64 last,Value.int .i64 0]) :
  CallsD Tryz.prog 189 #[Value.pointer (some ⟨b0,0,none⟩),Value.pointer (some ⟨b1,0,none⟩),Value.pointer (some ⟨b2,0,none⟩)] .returning w fun e u' w'=>u' = .returning∧e = .returned (.tuple #[])∧w'=w.setCell ⟨br,2,none⟩ (Value.int .i64 start):=by
 have c0:w.cell? ⟨b0,0,none⟩=some (Value.int .i64 start):=by rw [h0.cell]; rfl
 have c1:w.cell? ⟨b1,0,none⟩=some (Value.pointer (some ⟨br,0,none⟩)):=by rw [h1.cell]; rfl
 have c2:w.cell? ⟨br,2,none⟩=some (Value.int .i64 last):=by rw [hr.cell]; rfl
 have c3:w.cell? ⟨br,3,none⟩=some (Value.int .i64 0):=by rw [hr.cell]; rfl
 have z2:=hr.frozen 2
 have hne:b1≠br:=h1.ne hr (by decide)
 clear h0 h1 hr
 go_enter_d Tryz.func189,Tryz.ntmps189
 go_wp2_with fail
 go_end0
 exact ⟨rfl,rfl⟩
theorem rvClose_err_Txt (b0 b1 b2 br:Nat) (A:Option Addr) (n c:Nat) (off last start err:Int) (v:Value) (w:World) (h0:At w b0 3 [Value.int .i64 start]) (h1:At w b1 124 [Value.pointer (some ⟨br,0,none⟩)]) (h2:At w b2 9 [v]) (hr:At w br 187 [.slice A n c,Value.int .i64 off,Value.int .i64 last,Value.int .i64 err]) (he:err≠0) (hb:b2≠b0∧b2≠br) :
  CallsD Tryz.prog 189 #[Value.pointer (some ⟨b0,0,none⟩),Value.pointer (some ⟨b1,0,none⟩),Value.pointer (some ⟨b2,0,none⟩)] .returning w fun e u' w'=>u' = .returning∧e = .returned (.tuple #[])∧w'=((w.setCell ⟨br,2,none⟩ (Value.int .i64 start)).setCell ⟨br,1,none⟩ (Value.int .i64 start)).setCell ⟨b2,0,none⟩ (Value.string ⟨#[]⟩):=by
 have c0:w.cell? ⟨b0,0,none⟩=some (Value.int .i64 start):=by rw [h0.cell]; rfl
 have c1:w.cell? ⟨b1,0,none⟩=some (Value.pointer (some ⟨br,0,none⟩)):=by rw [h1.cell]; rfl
 have cr1:w.cell? ⟨br,1,none⟩=some (Value.int .i64 off):=by rw [hr.cell]; rfl
 have c2:w.cell? ⟨br,2,none⟩=some (Value.int .i64 last):=by rw [hr.cell]; rfl
 have c3:w.cell? ⟨br,3,none⟩=some (Value.int .i64 err):=by rw [hr.cell]; rfl
 have c4:w.cell? ⟨b2,0,none⟩=some v:=by rw [h2.cell]; rfl
 have z2:=hr.frozen 2
 have z1:=hr.frozen 1
 have z4:=h2.frozen 0
 have hne:b1≠br:=h1.ne hr (by decide)
 have hne2:b2≠br:=hb.2
 have hne0:b0≠br:=h0.ne hr (by decide)
 have heb:(err != 0)=true:=by simpa using he
 clear h0 h1 hr h2 he hb
 go_enter_d Tryz.func189,Tryz.ntmps189
 go_wp2_with fail
 go_end0
 exact ⟨rfl,rfl⟩
set_option maxHeartbeats 4000000 in
theorem readTxt_some (br:Nat) (D:List UInt8) (off last m:Nat) (x:List UInt8) (bx by_:Nat) (w:World) (hr:ReaderAt X w br D off last 0)
  (hdec:∀ W,Fr [] w W→ReaderAt X W br D off last 0→Calls Tryz.prog 223 #[Value.pointer (some ⟨bx,0,none⟩),Value.pointer (some ⟨by_,0,none⟩)] W fun e w'=>e = .returned (.tuple #[Value.string (strOf x),Value.int .i64 0])∧Fr [br] W w'∧ReaderAt X w' br D m last 0) :
  Calls Tryz.prog 163 #[Value.pointer (some ⟨br,0,none⟩),.func (.func 223) #[] #[Value.pointer (some ⟨bx,0,none⟩),Value.pointer (some ⟨by_,0,none⟩)]] w fun e w'=>e = .returned (Value.string (strOf x))∧Fr [br] w w'∧ReaderAt X w' br D m off 0:=by
 obtain ⟨A,c,hX,ha,hrow⟩:=hr
 have c1:w.cell? ⟨br,1,none⟩=some (Value.int .i64 (off:Int)):=by rw [ha.cell]; rfl
 have c3:w.cell? ⟨br,3,none⟩=some (Value.int .i64 0):=by rw [ha.cell]; rfl
 have hlt:=ha.lt
 have HR:=Lib.hid (And.intro ha hrow)
 have HD:=Lib.hid hdec
 clear ha hrow hdec
 have hmf:∀ (fn:Fn) (first cap:Array Value) (w:World),(Instr.makeFunc fn first cap).run Tryz.prog w = .ok (.func fn first cap) w:=fun _ _ _ _=>rfl
 go_enter_defers Tryz.func163,Tryz.ntmps163
 go_wp2_with fail
 obtain ⟨W,hW⟩:∃ W,W=((w.alloc (Obj.cells #[Value.pointer (some ⟨br,0,none⟩)] 124)).alloc (Obj.cells #[Value.string ⟨#[]⟩] 9)).alloc (Obj.cells #[Value.int .i64 (off:Int)] 3):=⟨_,rfl⟩
 rw [← hW]
 have HW:Hid (At W w.heap.size 124 [Value.pointer (some ⟨br,0,none⟩)]∧At W (w.heap.size+1) 9 [Value.string ⟨#[]⟩]∧At W (w.heap.size+1+1) 3 [Value.int .i64 (off:Int)]∧Fr [] w W∧ReaderAt X W br D off last 0):=by
  rw [hW]
  refine ⟨((At.new w 124 [Value.pointer (some ⟨br,0,none⟩)]).alloc _).alloc _,?_,?_,(((Fr.refl _ _).alloc _).alloc _).alloc _,A,c,hX,((HR.out.1.alloc _).alloc _).alloc _,((HR.out.2.alloc _).alloc _).alloc _⟩
  ·have:=(At.new (w.alloc (Obj.cells #[Value.pointer (some ⟨br,0,none⟩)] 124)) 9 [Value.string ⟨#[]⟩]).alloc (Obj.cells #[Value.int .i64 (off:Int)] 3)
   simpa using this
  ·have:=At.new ((w.alloc (Obj.cells #[Value.pointer (some ⟨br,0,none⟩)] 124)).alloc (Obj.cells #[Value.string ⟨#[]⟩] 9)) 3 [Value.int .i64 (off:Int)]
   simpa using this
 clear hW c1 c3
 have d0:W.cell? ⟨w.heap.size,0,none⟩=some (Value.pointer (some ⟨br,0,none⟩)):=by rw [HW.out.1.cell]; rfl
 have nb1:w.heap.size≠br:=by omega
 have nb2:br≠w.heap.size:=by omega
 go_region_held3 (fun w'=>w'.cell? ⟨w.heap.size,0,none⟩=some (Value.pointer (some ⟨br,0,none⟩))) (go_keep) (first | (go_at_call 223; refine (HD.out W.drew (by exact HW.out.2.2.2.1.drew) (by exact HW.out.2.2.2.2)).mono ?_; rintro e w1 ⟨rfl,hf1,hr1⟩; obtain ⟨e0,e1,z1,e3,z3⟩:=rv_cells (W:=W) HW.out.1 HW.out.2.1 HW.out.2.2.2.2 hf1 hr1; have H1:=Lib.hid (And.intro hf1 hr1); clear hf1 hr1))
 go_wp2_with fail
 obtain ⟨k0,k1,k2,k3,kf⟩:=rv_end HW.out.1 HW.out.2.1 HW.out.2.2.1 HW.out.2.2.2.2 H1.out.1 H1.out.2 (Value.string (strOf x)) (Value.int .i64 0) (by omega) (by decide)
 refine leaves_cons (f:=189) (args:=#[Value.pointer (some ⟨w.heap.size+1+1,0,none⟩),Value.pointer (some ⟨w.heap.size,0,none⟩),Value.pointer (some ⟨w.heap.size+1,0,none⟩)]) (by simp) (by simp [go_sem]) ?_
 obtain ⟨A',c',hX',k3'⟩:=k3
 refine (rvClose_ok_Txt _ _ _ br A' _ c' _ _ _ _ k2 k0 k3'.1).mono ?_
 rintro e u' w'' ⟨rfl,rfl,rfl⟩
 obtain ⟨g1,g2,g3⟩:=rv_done (off:=off) HW.out.2.2.2.1 kf (by omega) k1 (by decide) k3'.1 k3'.2 hX'
 exact ⟨Value.string (strOf x),by simp [results,Tryz.results163,go_sem,g1],rfl,g2,g3⟩
set_option maxHeartbeats 4000000 in
theorem readTxt_none (br:Nat) (D:List UInt8) (off last:Nat) (er:Int) (x:List UInt8) (bx by_:Nat) (w:World) (hr:ReaderAt X w br D off last 0) (he:er≠0)
  (hdec:∀ W,Fr [] w W→ReaderAt X W br D off last 0→Calls Tryz.prog 223 #[Value.pointer (some ⟨bx,0,none⟩),Value.pointer (some ⟨by_,0,none⟩)] W fun e w'=>e = .returned (.tuple #[Value.string (strOf x),Value.int .i64 er])∧Fr [br] W w'∧∃ off':Nat,ReaderAt X w' br D off' last 0) :
  Calls Tryz.prog 163 #[Value.pointer (some ⟨br,0,none⟩),.func (.func 223) #[] #[Value.pointer (some ⟨bx,0,none⟩),Value.pointer (some ⟨by_,0,none⟩)]] w fun e w'=>e = .returned (Value.string ⟨#[]⟩)∧Fr [br] w w'∧ReaderAt X w' br D off off er:=by
 have HE:=Lib.hid he
 clear he
 obtain ⟨A,c,hX,ha,hrow⟩:=hr
 have c1:w.cell? ⟨br,1,none⟩=some (Value.int .i64 (off:Int)):=by rw [ha.cell]; rfl
 have c3:w.cell? ⟨br,3,none⟩=some (Value.int .i64 0):=by rw [ha.cell]; rfl
 have hlt:=ha.lt
 have HR:=Lib.hid (And.intro ha hrow)
 have HD:=Lib.hid hdec
 clear ha hrow hdec
 have hmf:∀ (fn:Fn) (first cap:Array Value) (w:World),(Instr.makeFunc fn first cap).run Tryz.prog w = .ok (.func fn first cap) w:=fun _ _ _ _=>rfl
 go_enter_defers Tryz.func163,Tryz.ntmps163
 go_wp2_with fail
 obtain ⟨W,hW⟩:∃ W,W=((w.alloc (Obj.cells #[Value.pointer (some ⟨br,0,none⟩)] 124)).alloc (Obj.cells #[Value.string ⟨#[]⟩] 9)).alloc (Obj.cells #[Value.int .i64 (off:Int)] 3):=⟨_,rfl⟩
 rw [← hW]
 have HW:Hid (At W w.heap.size 124 [Value.pointer (some ⟨br,0,none⟩)]∧At W (w.heap.size+1) 9 [Value.string ⟨#[]⟩]∧At W (w.heap.size+1+1) 3 [Value.int .i64 (off:Int)]∧Fr [] w W∧ReaderAt X W br D off last 0):=by
  rw [hW]
  refine ⟨((At.new w 124 [Value.pointer (some ⟨br,0,none⟩)]).alloc _).alloc _,?_,?_,(((Fr.refl _ _).alloc _).alloc _).alloc _,A,c,hX,((HR.out.1.alloc _).alloc _).alloc _,((HR.out.2.alloc _).alloc _).alloc _⟩
  ·have:=(At.new (w.alloc (Obj.cells #[Value.pointer (some ⟨br,0,none⟩)] 124)) 9 [Value.string ⟨#[]⟩]).alloc (Obj.cells #[Value.int .i64 (off:Int)] 3)
   simpa using this
  ·have:=At.new ((w.alloc (Obj.cells #[Value.pointer (some ⟨br,0,none⟩)] 124)).alloc (Obj.cells #[Value.string ⟨#[]⟩] 9)) 3 [Value.int .i64 (off:Int)]
   simpa using this
 clear hW c1 c3
 have d0:W.cell? ⟨w.heap.size,0,none⟩=some (Value.pointer (some ⟨br,0,none⟩)):=by rw [HW.out.1.cell]; rfl
 have nb1:w.heap.size≠br:=by omega
 have nb2:br≠w.heap.size:=by omega
 go_region_held3 (fun w'=>w'.cell? ⟨w.heap.size,0,none⟩=some (Value.pointer (some ⟨br,0,none⟩))) (go_keep) (first | (go_at_call 223; refine (HD.out W.drew (by exact HW.out.2.2.2.1.drew) (by exact HW.out.2.2.2.2)).mono ?_; rintro e w1 ⟨rfl,hf1,off',hr1⟩; obtain ⟨e0,e1,z1,e3,z3⟩:=rv_cells (W:=W) HW.out.1 HW.out.2.1 HW.out.2.2.2.2 hf1 hr1; have H1:=Lib.hid (And.intro hf1 hr1); clear hf1 hr1))
 go_wp2_with fail
 obtain ⟨k0,k1,k2,k3,kf⟩:=rv_end HW.out.1 HW.out.2.1 HW.out.2.2.1 HW.out.2.2.2.2 H1.out.1 H1.out.2 (Value.string (strOf x)) (Value.int .i64 er) (by omega) (by decide)
 refine leaves_cons (f:=189) (args:=#[Value.pointer (some ⟨w.heap.size+1+1,0,none⟩),Value.pointer (some ⟨w.heap.size,0,none⟩),Value.pointer (some ⟨w.heap.size+1,0,none⟩)]) (by simp) (by simp [go_sem]) ?_
 obtain ⟨A',c',hX',k3'⟩:=k3
 refine (rvClose_err_Txt _ _ _ br A' _ c' _ _ _ er (Value.string (strOf x)) _ k2 k0 k1 k3'.1 HE.out (by omega)).mono ?_
 rintro e u' w'' ⟨rfl,rfl,rfl⟩
 obtain ⟨g1,g2,g3⟩:=rv_failed (off:=off) (z:=Value.string ⟨#[]⟩) HW.out.2.2.2.1 kf (by omega) k1 (by decide) (by decide) k3'.1 k3'.2 hX'
 exact ⟨Value.string ⟨#[]⟩,by simp [results,Tryz.results163,go_sem,g1],rfl,g2,g3⟩
theorem readTxt_err (br:Nat) (r:Rd) (fv:Value) (w:World) (hr:RdAt X w br r) (h0:r.err≠0) :
  Calls Tryz.prog 163 #[Value.pointer (some ⟨br,0,none⟩),fv] w fun e w'=>e = .returned (Value.string ⟨#[]⟩)∧Fr [] w w'∧RdAt X w' br r:=by
 have hr0:=hr
 obtain ⟨A,c,hX,ha,hrow⟩:=hr
 have c3:w.cell? ⟨br,3,none⟩=some (Value.int .i64 r.err):=by rw [ha.cell]; rfl
 have hb:(r.err != 0)=true:=by simpa using h0
 have hlt:=ha.lt
 have HR:=Lib.hid hr0
 clear ha hrow hr0 h0
 go_enter_defers Tryz.func163,Tryz.ntmps163
 go_wp2_with fail
 have hf:Fr [] w ((w.alloc (Obj.cells #[Value.pointer (some ⟨br,0,none⟩)] 124)).alloc (Obj.cells #[Value.string ⟨#[]⟩] 9)):=((Fr.refl _ _).alloc _).alloc _
 exact ⟨Value.string ⟨#[]⟩,by simp [results,Tryz.results163,go_sem],rfl,hf,ReaderAt.fr HR.out hf⟩
def Rd.text (r : Rd) (most : Nat) : List UInt8 × Rd := if r.err = 0 then (match rdNum r.D r.off with
 | none => ([], r.fail 3)
 | some (n, m) => if most < n then ([], r.fail 2) else if m + n ≤ r.D.length then ((r.D.drop m).take n, r.done (m + n)) else ([], r.fail 3)) else ([], r)
theorem rText_err (br:Nat) (r:Rd) (most:Nat) (w:World) (hr:RdAt X w br r) (_hk:r.Ok) (_hm:most≤4294967296) (h0:r.err≠0) :
  Calls Tryz.prog 213 #[Value.pointer (some ⟨br,0,none⟩),Value.int .i64 (most:Int)] w fun e w'=>e = .returned (.string (strOf (r.text most).1))∧Fr [br] w w'∧RdAt X w' br (r.text most).2:=by
 have HR:=Lib.hid hr
 clear hr
 refine sE2 Tryz.func213 8 (Mm.start w []) ?_
 refine stSeq (reg (li rfl (oBx [(vP br 0)] fun b2=>?_)))
 refine li rfl (oBx [(vI most)] fun b3=>?_)
 refine la ?_
 refine liNil (qThen (stSeq (reg (ll 0 ?_))))
 refine lc (.func (.func 223) #[] #[(vP b2 0),(vP b3 0)]) ?_
 refine li rfl (opCallB 163 #[(vP br 0),(.func (.func 223) #[] #[(vP b2 0),(vP b3 0)])] rfl (by kernel_rfl) (fun _=>by kernel_rfl) (fun w1 hM=>?_))
 have HR1:Hid (RdAt X w1 br r):=ReaderAt.fr HR.out hM.fr
 have HB1:Hid (At w1 b2 124 [Value.pointer (some ⟨br,0,none⟩)]):=hM.at (i:=0) rfl
 have HB2:Hid (At w1 b3 3 [Value.int .i64 (most:Int)]):=hM.at (i:=1) rfl
 have HF1:=Lib.hid hM.fr
 refine (readTxt_err br r _ w1 HR1.out h0).mono ?_
 rintro e w2 ⟨rfl,hf,hr2⟩
 refine ⟨_,w2,[],[],rfl,Mm.start w2 [],?_⟩
 clear hM
 refine la ?_
 refine liNil (qThen (stRet (sN [(.string ⟨#[]⟩)] fun w hM=>?_)))
 exact ⟨by unfold Rd.text; rw [if_neg h0]; rfl,((HF1.out.trans hf).trans hM.fr).mono (by simp),by unfold Rd.text; rw [if_neg h0]; exact ReaderAt.fr hr2 hM.fr⟩
theorem rText_ok (br:Nat) (r:Rd) (most:Nat) (w:World) (hr:RdAt X w br r) (hk:r.Ok) (hm:most≤4294967296) (h0:r.err=0) (n m:Nat) (hd:rdNum r.D r.off=some (n,m)) (hn:n≤most) (hf':m+n≤r.D.length) :
  Calls Tryz.prog 213 #[Value.pointer (some ⟨br,0,none⟩),Value.int .i64 (most:Int)] w fun e w'=>e = .returned (.string (strOf (r.text most).1))∧Fr [br] w w'∧RdAt X w' br (r.text most).2:=by
 have HR:=Lib.hid hr
 clear hr
 refine sE2 Tryz.func213 8 (Mm.start w []) ?_
 refine stSeq (reg (li rfl (oBx [(vP br 0)] fun b2=>?_)))
 refine li rfl (oBx [(vI most)] fun b3=>?_)
 refine la ?_
 refine liNil (qThen (stSeq (reg (ll 0 ?_))))
 refine lc (.func (.func 223) #[] #[(vP b2 0),(vP b3 0)]) ?_
 refine li rfl (opCallB 163 #[(vP br 0),(.func (.func 223) #[] #[(vP b2 0),(vP b3 0)])] rfl (by kernel_rfl) (fun _=>by kernel_rfl) (fun w1 hM=>?_))
 have HR1:Hid (RdAt X w1 br r):=ReaderAt.fr HR.out hM.fr
 have HB1:Hid (At w1 b2 124 [Value.pointer (some ⟨br,0,none⟩)]):=hM.at (i:=0) rfl
 have HB2:Hid (At w1 b3 3 [Value.int .i64 (most:Int)]):=hM.at (i:=1) rfl
 have HF1:=Lib.hid hM.fr
 refine (readTxt_some br r.D r.off r.last (m+n) ((r.D.drop m).take n) b2 b3 w1 (by have h:=HR1.out; unfold RdAt at h; rw [h0] at h; exact h) (fun W hf hr=>txtc_ok b2 b3 br r.D r.off r.last most W (HB1.out.fr hf (by simp)) (HB2.out.fr hf (by simp)) hr hk.len hk.off hm n m hd hn hf')).mono ?_
 rintro e w2 ⟨rfl,hf,hr2⟩
 refine ⟨_,w2,[],[],rfl,Mm.start w2 [],?_⟩
 clear hM
 refine la ?_
 refine liNil (qThen (stRet (sN [(vS ((r.D.drop m).take n))] fun w hM=>?_)))
 exact ⟨by unfold Rd.text; rw [if_pos h0,hd]; dsimp only; rw [if_neg (by omega),if_pos hf']; rfl,((HF1.out.mono (by simp)).trans hf).trans (hM.fr.mono (by simp)),by unfold Rd.text; rw [if_pos h0,hd]; dsimp only; rw [if_neg (by omega),if_pos hf']; unfold Rd.done RdAt; have h:=ReaderAt.fr hr2 hM.fr; rw [← h0] at h; exact h⟩
theorem rText_few (br:Nat) (r:Rd) (most:Nat) (w:World) (hr:RdAt X w br r) (hk:r.Ok) (hm:most≤4294967296) (h0:r.err=0) (n m:Nat) (hd:rdNum r.D r.off=some (n,m)) (hn:n≤most) (hf':r.D.length < m+n) :
  Calls Tryz.prog 213 #[Value.pointer (some ⟨br,0,none⟩),Value.int .i64 (most:Int)] w fun e w'=>e = .returned (.string (strOf (r.text most).1))∧Fr [br] w w'∧RdAt X w' br (r.text most).2:=by
 have HR:=Lib.hid hr
 clear hr
 refine sE2 Tryz.func213 8 (Mm.start w []) ?_
 refine stSeq (reg (li rfl (oBx [(vP br 0)] fun b2=>?_)))
 refine li rfl (oBx [(vI most)] fun b3=>?_)
 refine la ?_
 refine liNil (qThen (stSeq (reg (ll 0 ?_))))
 refine lc (.func (.func 223) #[] #[(vP b2 0),(vP b3 0)]) ?_
 refine li rfl (opCallB 163 #[(vP br 0),(.func (.func 223) #[] #[(vP b2 0),(vP b3 0)])] rfl (by kernel_rfl) (fun _=>by kernel_rfl) (fun w1 hM=>?_))
 have HR1:Hid (RdAt X w1 br r):=ReaderAt.fr HR.out hM.fr
 have HB1:Hid (At w1 b2 124 [Value.pointer (some ⟨br,0,none⟩)]):=hM.at (i:=0) rfl
 have HB2:Hid (At w1 b3 3 [Value.int .i64 (most:Int)]):=hM.at (i:=1) rfl
 have HF1:=Lib.hid hM.fr
 refine (readTxt_none br r.D r.off r.last 3 [] b2 b3 w1 (by have h:=HR1.out; unfold RdAt at h; rw [h0] at h; exact h) (by decide) (fun W hf hr=>txtc_few b2 b3 br r.D r.off r.last most W (HB1.out.fr hf (by simp)) (HB2.out.fr hf (by simp)) hr hk.len hk.off hm n m hd hn hf')).mono ?_
 rintro e w2 ⟨rfl,hf,hr2⟩
 refine ⟨_,w2,[],[],rfl,Mm.start w2 [],?_⟩
 clear hM
 refine la ?_
 refine liNil (qThen (stRet (sN [(.string ⟨#[]⟩)] fun w hM=>?_)))
 exact ⟨by unfold Rd.text; rw [if_pos h0,hd]; dsimp only; rw [if_neg (by omega),if_neg (by omega)]; rfl,((HF1.out.mono (by simp)).trans hf).trans (hM.fr.mono (by simp)),by unfold Rd.text; rw [if_pos h0,hd]; dsimp only; rw [if_neg (by omega),if_neg (by omega)]; unfold Rd.fail RdAt; exact ReaderAt.fr hr2 hM.fr⟩
theorem rText_big (br:Nat) (r:Rd) (most:Nat) (w:World) (hr:RdAt X w br r) (hk:r.Ok) (hm:most≤4294967296) (h0:r.err=0) (n m:Nat) (hd:rdNum r.D r.off=some (n,m)) (hn:most < n) :
  Calls Tryz.prog 213 #[Value.pointer (some ⟨br,0,none⟩),Value.int .i64 (most:Int)] w fun e w'=>e = .returned (.string (strOf (r.text most).1))∧Fr [br] w w'∧RdAt X w' br (r.text most).2:=by
 have HR:=Lib.hid hr
 clear hr
 refine sE2 Tryz.func213 8 (Mm.start w []) ?_
 refine stSeq (reg (li rfl (oBx [(vP br 0)] fun b2=>?_)))
 refine li rfl (oBx [(vI most)] fun b3=>?_)
 refine la ?_
 refine liNil (qThen (stSeq (reg (ll 0 ?_))))
 refine lc (.func (.func 223) #[] #[(vP b2 0),(vP b3 0)]) ?_
 refine li rfl (opCallB 163 #[(vP br 0),(.func (.func 223) #[] #[(vP b2 0),(vP b3 0)])] rfl (by kernel_rfl) (fun _=>by kernel_rfl) (fun w1 hM=>?_))
 have HR1:Hid (RdAt X w1 br r):=ReaderAt.fr HR.out hM.fr
 have HB1:Hid (At w1 b2 124 [Value.pointer (some ⟨br,0,none⟩)]):=hM.at (i:=0) rfl
 have HB2:Hid (At w1 b3 3 [Value.int .i64 (most:Int)]):=hM.at (i:=1) rfl
 have HF1:=Lib.hid hM.fr
 refine (readTxt_none br r.D r.off r.last 2 [] b2 b3 w1 (by have h:=HR1.out; unfold RdAt at h; rw [h0] at h; exact h) (by decide) (fun W hf hr=>txtc_big b2 b3 br r.D r.off r.last most W (HB1.out.fr hf (by simp)) (HB2.out.fr hf (by simp)) hr hk.len hk.off hm n m hd hn)).mono ?_
 rintro e w2 ⟨rfl,hf,hr2⟩
 refine ⟨_,w2,[],[],rfl,Mm.start w2 [],?_⟩
 clear hM
 refine la ?_
 refine liNil (qThen (stRet (sN [(.string ⟨#[]⟩)] fun w hM=>?_)))
 exact ⟨by unfold Rd.text; rw [if_pos h0,hd]; dsimp only; rw [if_pos hn]; rfl,((HF1.out.mono (by simp)).trans hf).trans (hM.fr.mono (by simp)),by unfold Rd.text; rw [if_pos h0,hd]; dsimp only; rw [if_pos hn]; unfold Rd.fail RdAt; exact ReaderAt.fr hr2 hM.fr⟩
theorem rText_none (br:Nat) (r:Rd) (most:Nat) (w:World) (hr:RdAt X w br r) (hk:r.Ok) (hm:most≤4294967296) (h0:r.err=0) (hd:rdNum r.D r.off=none) :
  Calls Tryz.prog 213 #[Value.pointer (some ⟨br,0,none⟩),Value.int .i64 (most:Int)] w fun e w'=>e = .returned (.string (strOf (r.text most).1))∧Fr [br] w w'∧RdAt X w' br (r.text most).2:=by
 have HR:=Lib.hid hr
 clear hr
 refine sE2 Tryz.func213 8 (Mm.start w []) ?_
 refine stSeq (reg (li rfl (oBx [(vP br 0)] fun b2=>?_)))
 refine li rfl (oBx [(vI most)] fun b3=>?_)
 refine la ?_
 refine liNil (qThen (stSeq (reg (ll 0 ?_))))
 refine lc (.func (.func 223) #[] #[(vP b2 0),(vP b3 0)]) ?_
 refine li rfl (opCallB 163 #[(vP br 0),(.func (.func 223) #[] #[(vP b2 0),(vP b3 0)])] rfl (by kernel_rfl) (fun _=>by kernel_rfl) (fun w1 hM=>?_))
 have HR1:Hid (RdAt X w1 br r):=ReaderAt.fr HR.out hM.fr
 have HB1:Hid (At w1 b2 124 [Value.pointer (some ⟨br,0,none⟩)]):=hM.at (i:=0) rfl
 have HB2:Hid (At w1 b3 3 [Value.int .i64 (most:Int)]):=hM.at (i:=1) rfl
 have HF1:=Lib.hid hM.fr
 refine (readTxt_none br r.D r.off r.last 3 [] b2 b3 w1 (by have h:=HR1.out; unfold RdAt at h; rw [h0] at h; exact h) (by decide) (fun W hf hr=>txtc_none b2 b3 br r.D r.off r.last most W (HB1.out.fr hf (by simp)) (HB2.out.fr hf (by simp)) hr hk.len hk.off hm hd)).mono ?_
 rintro e w2 ⟨rfl,hf,hr2⟩
 refine ⟨_,w2,[],[],rfl,Mm.start w2 [],?_⟩
 clear hM
 refine la ?_
 refine liNil (qThen (stRet (sN [(.string ⟨#[]⟩)] fun w hM=>?_)))
 exact ⟨by unfold Rd.text; rw [if_pos h0,hd]; dsimp only; rfl,((HF1.out.mono (by simp)).trans hf).trans (hM.fr.mono (by simp)),by unfold Rd.text; rw [if_pos h0,hd]; dsimp only; unfold Rd.fail RdAt; exact ReaderAt.fr hr2 hM.fr⟩
theorem rText (br:Nat) (r:Rd) (most:Nat) (w:World) (hr:RdAt X w br r) (hk:r.Ok) (hm:most≤4294967296):Calls Tryz.prog 213 #[Value.pointer (some ⟨br,0,none⟩),Value.int .i64 (most:Int)] w fun e w'=>e = .returned (.string (strOf (r.text most).1))∧Fr [br] w w'∧RdAt X w' br (r.text most).2:=by
 by_cases h0:r.err=0
 ·cases hd:rdNum r.D r.off with
  | none=>exact rText_none br r most w hr hk hm h0 hd
  | some p =>
    obtain ⟨n,m⟩:=p
    by_cases hn:n≤most
    ·by_cases hf:m+n≤r.D.length
     ·exact rText_ok br r most w hr hk hm h0 n m hd hn hf
     ·exact rText_few br r most w hr hk hm h0 n m hd hn (by omega)
    ·exact rText_big br r most w hr hk hm h0 n m hd (by omega)
 ·exact rText_err br r most w hr hk hm h0
end
def cRd (X : Option Addr × Nat) (br : Nat) (r : Rd) : Ch where
 fp := br :: ownFp X.1
 holds w := RdAt X w br r ∧ r.Ok
 ok w w' hb h := by
  obtain ⟨⟨A, c, hX, h1, h2⟩, hk⟩ := h
  subst hX
  refine ⟨⟨A, c, rfl, ?_, ?_⟩, hk⟩
  ·exact (cAt br 187 _).ok w w' (fun b hb1 => hb b (by rw [show b = br from List.mem_singleton.1 hb1]; exact List.mem_cons_self)) h1
  ·exact (cOwn 5 1 A r.D.length c (B8 r.D)).ok w w' (fun b hb1 => hb b (List.mem_cons_of_mem _ hb1)) h2
 lt w h b hb := by
  obtain ⟨⟨A, c, hX, h1, h2⟩, hk⟩ := h
  subst hX
  rcases List.mem_cons.1 hb with rfl | hb
  ·exact h1.lt
  ·exact (cOwn 5 1 A r.D.length c (B8 r.D)).lt w h2 b hb
theorem rd_nodup {X:Option Addr × Nat} {w:World} {br:Nat} {r:Rd} (h:RdAt X w br r):(br::ownFp X.1).Nodup:=by
 obtain ⟨A,c,hX,h1,h2⟩:=h
 subst hX
 refine List.nodup_cons.2 ⟨fun hb=>?_,ownFp_nodup A⟩
 have h3:=own_at_ne h2 h1 (by decide)
 cases A with
 | none=>simp [ownFp] at hb
 | some a =>
   have:br=a.block:=by simpa [ownFp] using hb
   exact h3 (by rw [this]; rfl)
theorem rd_back {X:Option Addr × Nat} {w w':World} {br:Nat} {r r':Rd} (hO:Own [cRd X br r] w) (hf:Fr [br] w w') (hr:RdAt X w' br r') (hk:r'.Ok):Back [cRd X br r] w [cRd X br r'] w' :=
 hO.swap 0 (c':=cRd X br r') rfl (hf.mono (S':=br::ownFp X.1) (by simp)) ⟨hr,hk⟩ (fun b hb=>.inl hb) (rd_nodup hr)
theorem rd_new {w w':World} {br:Nat} {A:Option Addr} {c:Nat} {r:Rd} (hf:Fr [] w w') (hr:RdAt (A,c) w' br r) (hk:r.Ok) (hb:w.heap.size≤br) (ho:w'.ownsRow w.heap.size 5 1 (.slice A r.D.length c) r.D.length (B8 r.D)):Back [] w [cRd (A,c) br r] w' :=
 (Mm.start w []).push (c:=cRd (A,c) br r) hf ⟨hr,hk⟩ (fun b hb1=>by
  rcases List.mem_cons.1 hb1 with rfl | hb1
  ·exact hb
  ·rcases ho.2 with ⟨hv,_⟩ | ⟨g,cap,cur,hv,hge,_⟩
   ·simp only [Value.slice.injEq] at hv
    obtain ⟨rfl,_,rfl⟩:=hv
    simp [ownFp] at hb1
   ·simp only [Value.slice.injEq] at hv
    obtain ⟨rfl,_,rfl⟩:=hv
    have:b=g:=by simpa [ownFp] using hb1
    rw [this]
    exact hge) (rd_nodup hr)
def Rd.cnt (r : Rd) (m : Nat) : Nat × Rd := r.count (m : Int)
theorem Rd.Ok.cnt {r:Rd} (h:r.Ok) (most:Nat):(r.cnt most).2.Ok:=by
 unfold Rd.cnt Rd.count
 split
 ·cases hd:rdNum r.D r.off with
  | none=>exact ⟨h.off,h.len⟩
  | some p =>
    simp only
    split
    ·exact ⟨h.off,h.len⟩
    ·exact ⟨(rdNum_le _ _ p.1 p.2 hd).2.1,h.len⟩
 ·exact h
theorem Rd.Ok.text {r:Rd} (h:r.Ok) (most:Nat):(r.text most).2.Ok:=by
 unfold Rd.text
 split
 ·cases hd:rdNum r.D r.off with
  | none=>exact ⟨h.off,h.len⟩
  | some p =>
    obtain ⟨n,m⟩:=p
    dsimp only
    split
    ·exact ⟨h.off,h.len⟩
    ·split
     ·exact ⟨by assumption,h.len⟩
     ·exact ⟨h.off,h.len⟩
 ·exact h
theorem rsRUint_any (X:Option Addr × Nat) (br:Nat) (r:Rd) (w:World) (hO:Own [cRd X br (r)] w) :
  Calls Tryz.prog 102 #[(vP br 0)] w fun e w'=>e = .returned (.int .u64 ((r.uint.1:Nat):Int))∧Back [cRd X br (r)] w [cRd X br (r.uint.2)] w':=by
 have h:=hO.at (i:=0) rfl; obtain ⟨hr,hk⟩:RdAt X w br r∧r.Ok:=h
 refine (rUint br r w hr hk).mono ?_
 rintro e w' ⟨rfl,hf,hr2⟩
 exact ⟨rfl,rd_back hO hf hr2 hk.uint'⟩
theorem rsRCount_any (X:Option Addr × Nat) (br:Nat) (r:Rd) (most:Nat) (w:World) (hO:Own [cRd X br (r)] w) (hm:most≤4294967296) :
  Calls Tryz.prog 182 #[(vP br 0),(vI most)] w fun e w'=>e = .returned (vI ((r.cnt most).1))∧Back [cRd X br (r)] w [cRd X br ((r.cnt most).2)] w':=by
 have h:=hO.at (i:=0) rfl; obtain ⟨hr,hk⟩:RdAt X w br r∧r.Ok:=h
 refine (rCount br r (most:Int) w hr hk ⟨by omega,by omega⟩).mono ?_
 rintro e w' ⟨rfl,hf,hr2⟩
 exact ⟨rfl,rd_back hO hf hr2 (hk.cnt most)⟩
theorem rsRText_any (X:Option Addr × Nat) (br:Nat) (r:Rd) (most:Nat) (w:World) (hO:Own [cRd X br (r)] w) (hm:most≤4294967296) :
  Calls Tryz.prog 213 #[(vP br 0),(vI most)] w fun e w'=>e = .returned (vS ((r.text most).1))∧Back [cRd X br (r)] w [cRd X br ((r.text most).2)] w':=by
 have h:=hO.at (i:=0) rfl; obtain ⟨hr,hk⟩:RdAt X w br r∧r.Ok:=h
 refine (rText br r most w hr hk hm).mono ?_
 rintro e w' ⟨rfl,hf,hr2⟩
 exact ⟨rfl,rd_back hO hf hr2 (hk.text most)⟩
theorem rsRSum_any (X:Option Addr × Nat) (br:Nat) (r:Rd) (w:World) (hO:Own [cRd X br (r)] w) :
  Calls Tryz.prog 122 #[(vP br 0)] w fun e w'=>e = .returned (vS r.sum.1)∧Back [cRd X br (r)] w [cRd X br (r.sum.2)] w':=by
 have h:=hO.at (i:=0) rfl; obtain ⟨hr,hk⟩:RdAt X w br r∧r.Ok:=h
 refine (rSum br r w hr hk).mono ?_
 rintro e w' ⟨rfl,hf,hr2⟩
 exact ⟨rfl,rd_back hO hf hr2 hk.sum⟩
theorem rsREnd_any (X:Option Addr × Nat) (br:Nat) (r:Rd) (w:World) (hO:Own [cRd X br (r)] w) :
  Calls Tryz.prog 77 #[(vP br 0)] w fun e w'=>e = .returned (.tuple #[(vI r.off),(.int .i64 r.end_)])∧Back [cRd X br (r)] w [cRd X br (r)] w':=by
 have h:=hO.at (i:=0) rfl; obtain ⟨hr,hk⟩:RdAt X w br r∧r.Ok:=h
 refine (rEnd br r w hr hk).mono ?_
 rintro e w' ⟨rfl,hf⟩
 exact ⟨rfl,rd_back hO (hf.mono (by simp)) (ReaderAt.fr hr hf) hk⟩
theorem rsRNew_any (A:Option Addr) (c:Nat) (D:List UInt8) (w:World) (r0:Rf [] w (fun w=>RowIn w A (B8 D))) (hD:D.length≤4294967296) :
  Calls Tryz.prog 72 #[(vL A D c)] w fun e w'=>∃ (X:Option Addr × Nat) (br:Nat),e = .returned (vP br 0)∧Back [] w [cRd X br (Rd.mk D 0 0 0)] w':=by
 refine (newReader_any A c D w hD r0.here).mono ?_
 rintro e w' ⟨br,A2,c2,rfl,hb,hf,hr,ho⟩
 exact ⟨(A2,c2),br,rfl,rd_new hf hr ⟨Nat.zero_le _,hD⟩ hb ho⟩
theorem rsRLeft_any (X:Option Addr × Nat) (br:Nat) (r:Rd) (w:World) (hO:Own [cRd X br (r)] w) :
  Calls Tryz.prog 75 #[(vP br 0)] w fun e w'=>e = .returned (vI (r.D.length - r.off))∧Back [cRd X br (r)] w [cRd X br (r)] w':=by
 have h:=hO.at (i:=0) rfl; obtain ⟨hr,hk⟩:RdAt X w br r∧r.Ok:=h
 obtain ⟨A,c,hX,ha,hown⟩:=hr
 have hkl:=hk.len; have hko:=hk.off
 have hnb:∀ g,(Value.slice A r.D.length c).ownBlock=some g→g∉[br]:=fun g hg=>by
  have h1:=own_at_ne hown ha (by decide)
  simp only [List.mem_singleton]
  rintro rfl
  exact h1 hg.symm
 refine sE1 Tryz.func75 13 (Mm.one ha) ?_
 refine stSeq (reg (la ?_))
 refine liNil (qThen (stSeq (anyBegin _ 11 (by kernel_rfl) (fun _ h=>h) ?_)))
 refine am 0 ?_
 refine ac 1 (vP br 0) ?_
 refine ac 2 (vP br 0) ?_
 refine al 3 0 ?_
 refine ac 4 (vI r.D.length) ?_
 refine am 5 ?_
 refine ac 6 (vP br 0) ?_
 refine ac 7 (vP br 1) ?_
 refine al 8 0 ?_
 refine av 9 (vI (r.D.length - r.off)) rfl (rConv (rSub _ rfl rfl rfl rfl (by omega) (by omega)) (by show Value.int _ _=Value.int _ _; rw [Int.ofNat_sub hk.off])) ?_
 refine aa 10 ?_
 refine anyDone (by kernel_rfl) ?_
 refine qThen (stRet (sN [(vI (r.D.length - r.off))] fun w hM=>?_))
 exact ⟨rfl,rd_back hO (hM.fr.mono (by simp)) ⟨A,c,hX,hM.at (i:=0) rfl,ownsRow_fr hown hM.fr hnb⟩ hk⟩
theorem opMk0 {P:Program} {Q:Exit→Act→World→Prop} {nt:Nat} {w0:World} {F:List Nat} {E:Env} {cs:List Ch} {K:Act→World→Prop} {o:Oper} {d:Nat} {t e:TypeId} {z:Value} {sz bt:Nat} (El:Elem P t e z sz bt) {x y:Operand} (n:Nat) (hn:n≤4294967296) (ho:o.op = .makeSlice t x y) (hd:o.dst=some d) (hk:opOk nt E o=true) (hx:evO E x=some (.int .i64 0)) (hy:evO E y=some (vI n))
  (h:∀ b,St nt w0 F ((d,.slice (some ⟨b,0,none⟩) 0 n)::E) (cs++[cOwn e sz (some ⟨b,0,none⟩) 0 n []]) K) (hbt:bt≤1024):OpW P Q nt w0 F E cs o K :=
 opEff hd hk fun w hM=>by
  obtain ⟨i,hi,hz,hsz,hby⟩:=info_parts El.hi
  have hm:bt*n≤1024*4294967296:=Nat.mul_le_mul hbt hn
  have hr:=run_make (P:=P) w t e i z El.ht hi hz .i64 .i64 0 ((n:Nat):Int) (by omega) (by omega) (by rw [hby,← Int.natCast_mul]; omega) (by omega)
  have h1:=hM.push (c:=cAt w.heap.size e (madeCells z.cells (n*sz)).toList) ((Fr.refl _ _).alloc _) (At.new w e _) (by simp [cAt]) (by simp [cAt])
  have h2:=h1.toOwn cs.length (by rw [List.getElem?_append_right (Nat.le_refl _),Nat.sub_self]; rfl) sz 0 n (by rw [Array.length_toList,size_madeCells]) (Nat.zero_le _) (by unfold maxLen; omega)
  rw [Nat.zero_mul,List.take_zero,List.set_append_right _ _ (Nat.le_refl _),Nat.sub_self,List.set_cons_zero] at h2
  refine ⟨_,_,_,?_,h2,h w.heap.size⟩
  unfold execOp
  rw [hsz,Int.toNat_natCast] at hr
  simp only [ho,evE_of hx,evE_of hy,Sem.run_bind,hr]
  rfl
def Rd.sums (r : Rd) : Nat → List Bs × Rd
 | 0 => ([], r)
 | n + 1 => ((r.sums n).1 ++ [(r.sums n).2.sum.1], (r.sums n).2.sum.2)
def Rd.most (r : Rd) (most : Nat) : Nat := min most ((r.D.length - r.off) / 32)
def Rd.items (r : Rd) (most : Nat) : List Bs × Rd := (r.cnt (r.most most)).2.sums (r.cnt (r.most most)).1
theorem Rd.cnt_le (r:Rd) (most:Nat):(r.cnt most).1≤most:=by
 unfold Rd.cnt Rd.count
 split
 ·cases hd:rdNum r.D r.off with
  | none=>exact Nat.zero_le _
  | some p =>
    simp only
    split
    ·exact Nat.zero_le _
    ·show p.1≤most; omega
 ·exact Nat.zero_le _
theorem Rd.sums_len (r:Rd):∀ n,(r.sums n).1.length=n
 | 0=>rfl
 | n+1=>by
   show ((r.sums n).1++[_]).length=_
   rw [List.length_append,r.sums_len n]
   rfl
theorem Rd.items_len (r:Rd) (most:Nat):(r.items most).1.length≤most:=by
 unfold Rd.items
 rw [Rd.sums_len]
 exact Nat.le_trans (r.cnt_le _) (Nat.min_le_left _ _)
def Rd.body (r : Rd) (lo hi : Bs) : Option AP × Rd :=
 if r.uint.1 = 1 then (some ⟨lo, hi, .sum (r.uint.2.cnt 16384).1 (r.uint.2.cnt 16384).2.sum.1⟩, (r.uint.2.cnt 16384).2.sum.2)
 else if r.uint.1 = 2 then (if ordOk (r.uint.2.items 64).1 lo hi then some ⟨lo, hi, .list (r.uint.2.items 64).1⟩ else none, (r.uint.2.items 64).2)
 else if r.uint.1 = 3 then (if ordOk (r.uint.2.items 16384).1 lo hi && ordOk ((r.uint.2.items 16384).2.items 16384).1 lo hi then some ⟨lo, hi, .ans (r.uint.2.items 16384).1 ((r.uint.2.items 16384).2.items 16384).1⟩ else none, ((r.uint.2.items 16384).2.items 16384).2)
 else (none, r.uint.2)
def Rd.part (r : Rd) : Option AP × Rd :=
 if boundOk (r.text 32).1 && boundOk ((r.text 32).2.text 32).1 && spanOk (r.text 32).1 ((r.text 32).2.text 32).1 then ((r.text 32).2.text 32).2.body (r.text 32).1 ((r.text 32).2.text 32).1
 else (none, ((r.text 32).2.text 32).2)
theorem Rd.part_bad {r r1 r2:Rd} {a b:Bs} (h1:r.text 32=(a,r1)) (h2:r1.text 32=(b,r2)) (h:(boundOk a && boundOk b && spanOk a b)=false):r.part=(none,r2):=by
 unfold Rd.part; rw [h1]; dsimp only; rw [h2]; dsimp only; rw [h]; rfl
theorem Rd.part_go {r r1 r2:Rd} {a b:Bs} (h1:r.text 32=(a,r1)) (h2:r1.text 32=(b,r2)) (h:(boundOk a && boundOk b && spanOk a b)=true):r.part=r2.body a b:=by
 unfold Rd.part; rw [h1]; dsimp only; rw [h2]; dsimp only; rw [h]; rfl
theorem Rd.body_sum {r r1 r2 r3:Rd} {k n:Nat} {f lo hi:Bs} (h1:r.uint=(k,r1)) (hk:k=1) (h2:r1.cnt 16384=(n,r2)) (h3:r2.sum=(f,r3)):r.body lo hi=(some ⟨lo,hi,.sum n f⟩,r3):=by
 unfold Rd.body; rw [h1]; dsimp only; rw [if_pos hk,h2]; dsimp only; rw [h3]
theorem Rd.body_list {r r1 r2:Rd} {k:Nat} {l:List Bs} {lo hi:Bs} (h1:r.uint=(k,r1)) (hk:k=2) (h2:r1.items 64=(l,r2)):r.body lo hi=(if ordOk l lo hi then some ⟨lo,hi,.list l⟩ else none,r2):=by
 unfold Rd.body; rw [h1]; dsimp only; rw [if_neg (by omega),if_pos hk,h2]
theorem Rd.body_ans {r r1 r2 r3:Rd} {k:Nat} {l m:List Bs} {lo hi:Bs} (h1:r.uint=(k,r1)) (hk:k=3) (h2:r1.items 16384=(l,r2)) (h3:r2.items 16384=(m,r3)):r.body lo hi=(if ordOk l lo hi && ordOk m lo hi then some ⟨lo,hi,.ans l m⟩ else none,r3):=by
 unfold Rd.body; rw [h1]; dsimp only; rw [if_neg (by omega),if_neg (by omega),if_pos hk,h2]; dsimp only; rw [h3]
theorem Rd.body_none {r r1:Rd} {k:Nat} {lo hi:Bs} (h1:r.uint=(k,r1)) (hk1:¬ k=1) (hk2:¬ k=2) (hk3:¬ k=3):r.body lo hi=(none,r1):=by
 unfold Rd.body; rw [h1]; dsimp only; rw [if_neg hk1,if_neg hk2,if_neg hk3]
theorem bad1 {a b c:Bool} (h:(!a)=true):(a && b && c)=false:=by revert h; revert a b c; decide
theorem bad2 {a b c:Bool} (h:(!b)=true):(a && b && c)=false:=by revert h; revert a b c; decide
theorem bad3 {a b c:Bool} (h:(!c)=true):(a && b && c)=false:=by revert h; revert a b c; decide
theorem good3 {a b c:Bool} (h:(!a)=false) (k:(!b)=false) (l:(!c)=false):(a && b && c)=true:=by revert h k l; revert a b c; decide
theorem eqb_yes {a n:Nat} (h:(((a:Nat):Int) == ((n:Nat):Int))=true):a=n:=Int.ofNat.inj (by simpa using h)
theorem eqb_no {a n:Nat} (h:(((a:Nat):Int) == ((n:Nat):Int))=false):¬ a=n:=fun e=>by rw [e] at h; simp at h
/-! ### The decoder -/
def follows (ps : List AP) (p : AP) : Bool := match ps.getLast? with | none => true | some q => !(decide (q.hi = []) || decide (p.lo < q.hi))
def Rd.parts (r : Rd) : Nat → Option (List AP) × Rd
 | 0 => (some [], r)
 | k + 1 =>
   match r.parts k with
   | (none, r1) => (none, r1)
   | (some ps, r1) =>
     match r1.part with
     | (none, r2) => (none, r2)
     | (some p, r2) => if follows ps p then (some (ps ++ [p]), r2) else (none, r2)
def decA (D : Bs) : Option (List AP) :=
 if ((Rd.mk D 0 0 0).cnt D.length).1 = 0 then none
 else match ((Rd.mk D 0 0 0).cnt D.length).2.parts ((Rd.mk D 0 0 0).cnt D.length).1 with
  | (none, _) => none
  | (some ps, r2) => if r2.end_ = 0 then some ps else none
theorem Rd.parts_some {r r1 r2:Rd} {k:Nat} {ps:List AP} {p:AP} (h:r.parts k=(some ps,r1)) (hp:r1.part=(some p,r2)) (hf:follows ps p=true):r.parts (k+1)=(some (ps++[p]),r2):=by
 rw [Rd.parts,h]; dsimp only; rw [hp]; dsimp only; rw [if_pos hf]
theorem Rd.parts_gap {r r1 r2:Rd} {k:Nat} {ps:List AP} {p:AP} (h:r.parts k=(some ps,r1)) (hp:r1.part=(some p,r2)) (hf:follows ps p=false):(r.parts (k+1)).1=none:=by
 rw [Rd.parts,h]; dsimp only; rw [hp]; dsimp only; rw [if_neg (by simp [hf])]
theorem Rd.parts_none {r r1 r2:Rd} {k:Nat} {ps:List AP} (h:r.parts k=(some ps,r1)) (hp:r1.part=(none,r2)):(r.parts (k+1)).1=none:=by
 rw [Rd.parts,h]; dsimp only; rw [hp]
theorem Rd.parts_stop {r:Rd} {k:Nat} (h:(r.parts k).1=none):∀ j,(r.parts (k+j)).1=none
 | 0=>h
 | j+1=>by
   have ih:=Rd.parts_stop h j
   show (r.parts (k+j+1)).1=none
   rw [Rd.parts]
   generalize r.parts (k+j)=z at ih ⊢
   obtain ⟨o,r1⟩:=z
   dsimp only at ih ⊢
   subst ih
   rfl
theorem Rd.parts_len {r:Rd}:∀ {k:Nat} {ps:List AP} {r1:Rd},r.parts k=(some ps,r1)→ps.length=k
 | 0,ps,r1,h=>by rw [Rd.parts] at h; injection h with h1 h2; injection h1 with h1; rw [← h1]; rfl
 | k+1,ps,r1,h=>by
   rw [Rd.parts] at h
   generalize hz:r.parts k=z at h
   obtain ⟨o,r2⟩:=z
   cases o with
   | none=>dsimp only at h; cases h
   | some qs =>
     dsimp only at h
     have ih:=Rd.parts_len hz
     generalize r2.part=y at h
     obtain ⟨q,r3⟩:=y
     cases q with
     | none=>dsimp only at h; cases h
     | some p =>
       dsimp only at h
       split at h
       ·injection h with h1 h2; injection h1 with h1; rw [← h1,List.length_append,ih]; rfl
       ·cases h
theorem decA_zero {D:Bs} {n:Nat} {r1:Rd} (hc:(Rd.mk D 0 0 0).cnt D.length=(n,r1)) (hn:n=0):decA D=none:=by
 unfold decA; rw [hc]; exact if_pos hn
theorem decA_stop {D:Bs} {n i:Nat} {r1:Rd} (hc:(Rd.mk D 0 0 0).cnt D.length=(n,r1)) (hi:i≤n) (h:(r1.parts i).1=none):decA D=none:=by
 unfold decA; rw [hc]
 dsimp only
 split
 ·rfl
 ·have:=Rd.parts_stop h (n - i)
  rw [show i+(n - i)=n by omega] at this
  generalize r1.parts n=z at this ⊢
  obtain ⟨o,r2⟩:=z
  dsimp only at this
  subst this
  rfl
theorem decA_end {D:Bs} {n:Nat} {r1 r2:Rd} {ps:List AP} (hc:(Rd.mk D 0 0 0).cnt D.length=(n,r1)) (h:r1.parts n=(some ps,r2)) (he:¬ r2.end_=0):decA D=none:=by
 unfold decA; rw [hc]
 dsimp only
 split
 ·rfl
 ·rw [h]; exact if_neg he
theorem decA_ok {D:Bs} {n:Nat} {r1 r2:Rd} {ps:List AP} (hc:(Rd.mk D 0 0 0).cnt D.length=(n,r1)) (hn:¬ n=0) (h:r1.parts n=(some ps,r2)) (he:r2.end_=0):decA D=some ps:=by
 unfold decA; rw [hc]
 dsimp only
 rw [if_neg hn,h]; exact if_pos he
theorem follows_at {ps:List AP} {i:Nat} {q p:AP} (h:ps[i]?=some q) (hl:ps.length=i+1):follows ps p = !(decide (q.hi=[]) || decide (p.lo < q.hi)):=by
 unfold follows
 rw [List.getLast?_eq_getElem?,hl,Nat.add_sub_cancel,h]
theorem gtr_iff {a b:Bs}:(!(decide (a < b) || decide (a=b)))=decide (b < a):=by
 by_cases h1:a < b
 ·have:¬ b < a:=fun h=>b_lt_irrefl (b_lt_trans h h1)
  simp [h1,this]
 ·by_cases h2:a=b
  ·subst h2; simp [b_lt_irrefl]
  ·simp [h1,h2,b_lt_or h1 h2]
/-! ### What messages are -/
def all32 (l : List Bs) : Prop := ∀ x ∈ l, x.length = 32
def AC.ok (lo hi : Bs) : AC → Prop
 | .sum n f => n ≤ 16384 ∧ f.length = 32
 | .list xs => xs.length ≤ 64 ∧ all32 xs ∧ ordOk xs lo hi = true
 | .ans xs ms => (xs.length ≤ 16384 ∧ all32 xs ∧ ordOk xs lo hi = true) ∧ ms.length ≤ 16384 ∧ all32 ms ∧ ordOk ms lo hi = true
def AP.ok (p : AP) : Prop := (boundOk p.lo = true ∧ boundOk p.hi = true ∧ spanOk p.lo p.hi = true) ∧ p.c.ok p.lo p.hi
def chain (ps : List AP) : Prop := ∀ k p, ps[k]? = some p → follows (ps.take k) p = true
def okMsg (ps : List AP) : Prop := ps ≠ [] ∧ (∀ p ∈ ps, p.ok) ∧ chain ps
theorem bound_le {x:Bs} (h:boundOk x=true):x.length≤32:=by
 unfold boundOk at h
 rw [Bool.or_eq_true,decide_eq_true_eq,decide_eq_true_eq] at h
 rcases h with rfl | h
 ·simp
 ·omega
theorem chain_snoc {ps:List AP} {p:AP} (h:chain ps) (hf:follows ps p=true):chain (ps++[p]):=by
 intro k q hq
 by_cases hk:k < ps.length
 ·rw [List.getElem?_append_left hk] at hq
  rw [List.take_append_of_le_length (by omega)]
  exact h k q hq
 ·rw [List.getElem?_append_right (by omega)] at hq
  have hk':k - ps.length=0:=by
   have:=(List.getElem?_eq_some_iff.1 hq).1
   simp at this
   omega
  rw [hk'] at hq
  simp at hq
  subst hq
  rw [show k=ps.length by omega,List.take_left]
  exact hf
/-! ### What is decoded is an encoding -/
theorem took_text (r : Rd) (most : Nat) (h : (r.text most).2.err = 0) : Took r (r.text most).2 (num (r.text most).1.length ++ (r.text most).1) ∧ (r.text most).1.length ≤ most := by
 unfold Rd.text at h ⊢
 by_cases he : r.err = 0
 ·rw [if_pos he] at h ⊢
  cases hd : rdNum r.D r.off with
  | none => rw [hd] at h; cases h
  | some p =>
    obtain ⟨n, m⟩ := p
    rw [hd] at h
    dsimp only at h ⊢
    by_cases h1 : most < n
    ·rw [if_pos h1] at h; cases h
    ·rw [if_neg h1] at h ⊢
     by_cases h2 : m + n ≤ r.D.length
     ·rw [if_pos h2] at h ⊢
      have hl : ((r.D.drop m).take n).length = n := by rw [List.length_take, List.length_drop]; omega
      refine ⟨⟨he, rfl, ?_⟩, by dsimp only; omega⟩
      dsimp only
      rw [hl, rdNum_took _ _ _ _ hd, List.append_assoc]
      congr 1
      show _ = _ ++ r.D.drop (m + n)
      rw [← List.drop_drop, List.take_append_drop]
     ·rw [if_neg h2] at h; cases h
 ·rw [if_neg he] at h
  exact absurd h he
theorem took_cnt (r:Rd) (most:Nat) (h:(r.cnt most).2.err=0):Took r (r.cnt most).2 (num (r.cnt most).1)∧(r.cnt most).1≤most:=by
 refine ⟨?_,r.cnt_le most⟩
 unfold Rd.cnt Rd.count at h ⊢
 by_cases he:r.err=0
 ·rw [if_pos he] at h ⊢
  cases hd:rdNum r.D r.off with
  | none=>rw [hd] at h; cases h
  | some p =>
    rw [hd] at h
    dsimp only at h ⊢
    split at h
    ·cases h
    ·rename_i h1
     rw [if_neg h1]
     exact ⟨he,rfl,rdNum_took _ _ _ _ hd⟩
 ·rw [if_neg he] at h
  exact absurd h he
theorem took_sums (r:Rd):∀ n,(r.sums n).2.err=0→r.err=0→Took r (r.sums n).2 (r.sums n).1.flatten∧all32 (r.sums n).1
 | 0,_,he=>⟨⟨he,rfl,rfl⟩,by intro x hx; cases hx⟩
 | n+1,h,he=>by
   obtain ⟨h1,h2⟩:=took_sum (r.sums n).2 h
   obtain ⟨h3,h4⟩:=took_sums r n h1.err he
   refine ⟨?_,?_⟩
   ·have:=h3.trans h1
    show Took r (r.sums n).2.sum.2 ((r.sums n).1++[(r.sums n).2.sum.1]).flatten
    rw [List.flatten_append]
    simpa using this
   ·intro x hx
    rcases List.mem_append.1 hx with hx | hx
    ·exact h4 x hx
    ·rw [List.mem_singleton.1 hx]; exact h2
theorem err_sums (r:Rd):∀ n,(r.sums n).2.err=0→r.err=0
 | 0,h=>h
 | n+1,h=>err_sums r n (took_sum (r.sums n).2 h).1.err
theorem took_items (r:Rd) (most:Nat) (h:(r.items most).2.err=0):Took r (r.items most).2 (num (r.items most).1.length++(r.items most).1.flatten)∧all32 (r.items most).1:=by
 have h0:(r.cnt (r.most most)).2.err=0:=err_sums _ _ h
 obtain ⟨h1,_⟩:=took_cnt r (r.most most) h0
 obtain ⟨h2,h3⟩:=took_sums _ _ h h0
 refine ⟨?_,h3⟩
 rw [show (r.items most).1.length=(r.cnt (r.most most)).1 from Rd.sums_len _ _]
 exact h1.trans h2
theorem took_body (r:Rd) (lo hi:Bs) (p:AP) (h:(r.body lo hi).2.err=0) (hp:(r.body lo hi).1=some p) (hok:boundOk lo=true∧boundOk hi=true∧spanOk lo hi=true):Took r (r.body lo hi).2 p.c.enc∧p.ok∧p.lo=lo∧p.hi=hi:=by
 unfold Rd.body at h hp ⊢
 by_cases h1:r.uint.1=1
 ·rw [if_pos h1] at h hp ⊢
  dsimp only at h hp ⊢
  obtain ⟨a1,a2⟩:=took_sum _ h
  obtain ⟨b1,b2⟩:=took_cnt _ _ a1.err
  have c1:=took_uint r b1.err
  rw [h1] at c1
  injection hp with hp
  subst hp
  exact ⟨(c1.trans b1).trans a1,⟨hok,b2,a2⟩,rfl,rfl⟩
 ·rw [if_neg h1] at h hp ⊢
  by_cases h2:r.uint.1=2
  ·rw [if_pos h2] at h hp ⊢
   dsimp only at h hp ⊢
   split at hp
   ·rename_i ho
    injection hp with hp
    obtain ⟨a1,a2⟩:=took_items _ _ h
    have c1:=took_uint r a1.err
    rw [h2] at c1
    subst hp
    exact ⟨c1.trans a1,⟨hok,Rd.items_len _ _,a2,ho⟩,rfl,rfl⟩
   ·cases hp
  ·rw [if_neg h2] at h hp ⊢
   by_cases h3:r.uint.1=3
   ·rw [if_pos h3] at h hp ⊢
    dsimp only at h hp ⊢
    split at hp
    ·rename_i ho
     rw [Bool.and_eq_true] at ho
     injection hp with hp
     obtain ⟨a1,a2⟩:=took_items _ _ h
     obtain ⟨b1,b2⟩:=took_items _ _ a1.err
     have c1:=took_uint r b1.err
     rw [h3] at c1
     subst hp
     exact ⟨(c1.trans b1).trans a1,⟨hok,⟨Rd.items_len _ _,b2,ho.1⟩,Rd.items_len _ _,a2,ho.2⟩,rfl,rfl⟩
    ·cases hp
   ·rw [if_neg h3] at hp
    cases hp
theorem took_part (r:Rd) (p:AP) (h:r.part.2.err=0) (hp:r.part.1=some p):Took r r.part.2 p.enc∧p.ok:=by
 unfold Rd.part at h hp ⊢
 split at hp
 ·rename_i hok
  rw [if_pos hok] at h ⊢
  rw [Bool.and_eq_true,Bool.and_eq_true] at hok
  obtain ⟨a1,a2,a3,a4⟩:=took_body _ _ _ p h hp ⟨hok.1.1,hok.1.2,hok.2⟩
  obtain ⟨b1,_⟩:=took_text _ _ a1.err
  obtain ⟨c1,_⟩:=took_text _ _ b1.err
  refine ⟨?_,a2⟩
  have:=(c1.trans b1).trans a1
  unfold AP.enc
  rw [a3,a4]
  exact this
 ·cases hp
theorem took_parts (r:Rd) (he:r.err=0):∀ (k:Nat) (ps:List AP) (r1:Rd),r.parts k=(some ps,r1)→r1.err=0→Took r r1 (ps.flatMap AP.enc)∧(∀ p∈ps,p.ok)∧chain ps
 | 0,ps,r1,h,_=>by
   rw [Rd.parts] at h
   injection h with h1 h2
   injection h1 with h1
   subst h1 h2
   exact ⟨⟨he,rfl,rfl⟩,(fun p hp=>by cases hp),(fun k p hp=>by simp at hp)⟩
 | k+1,ps,r1,h,h0=>by
   rw [Rd.parts] at h
   generalize hz:r.parts k=z at h
   obtain ⟨o,r2⟩:=z
   cases o with
   | none=>dsimp only at h; cases h
   | some qs =>
     dsimp only at h
     generalize hy:r2.part=y at h
     obtain ⟨q,r3⟩:=y
     cases q with
     | none=>dsimp only at h; cases h
     | some p =>
       dsimp only at h
       split at h
       ·rename_i hf
        injection h with h1 h2
        injection h1 with h1
        subst h1 h2
        have e1:r2.part.1=some p:=by rw [hy]
        have e2:r2.part.2=r3:=by rw [hy]
        obtain ⟨a1,a2⟩:=took_part r2 p (by rw [e2]; exact h0) e1
        rw [e2] at a1
        obtain ⟨b1,b2,b3⟩:=took_parts r he k qs r2 hz a1.err
        refine ⟨?_,?_,chain_snoc b3 hf⟩
        ·rw [List.flatMap_append]
         simpa using b1.trans a1
        ·intro x hx
         rcases List.mem_append.1 hx with hx | hx
         ·exact b2 x hx
         ·rw [List.mem_singleton.1 hx]; exact a2
       ·cases h
theorem decA_sound {D:Bs} {ps:List AP} (h:decA D=some ps):D=encA ps∧okMsg ps∧ps.length≤D.length:=by
 unfold decA at h
 split at h
 ·cases h
 ·rename_i hn
  generalize hz:((Rd.mk D 0 0 0).cnt D.length).2.parts ((Rd.mk D 0 0 0).cnt D.length).1=z at h
  obtain ⟨o,r2⟩:=z
  cases o with
  | none=>cases h
  | some qs =>
    dsimp only at h
    split at h
    ·rename_i he
     injection h with h
     subst h
     have e0:=Rd.end_err he
     have hl:=Rd.parts_len hz
     have h1:((Rd.mk D 0 0 0).cnt D.length).2.err=0:=by
      by_cases h0:((Rd.mk D 0 0 0).cnt D.length).2.err=0
      ·exact h0
      ·exfalso
       apply hn
       unfold Rd.cnt Rd.count at h0 ⊢
       rw [if_pos rfl] at h0 ⊢
       cases hd:rdNum D 0 with
       | none=>rfl
       | some p =>
         rw [hd] at h0
         dsimp only at h0 ⊢
         split at h0
         ·rename_i h5; rw [if_pos h5]
         ·exact absurd rfl h0
     obtain ⟨c1,c2⟩:=took_cnt _ _ h1
     obtain ⟨b1,b2,b3⟩:=took_parts _ h1 _ _ _ hz e0
     have hD:=(c1.trans b1).end_ he
     have hne:qs.length≠0:=by rw [hl]; exact hn
     refine ⟨?_,⟨fun e=>hne (by rw [e]; rfl),b2,b3⟩,by rw [hl]; exact c2⟩
     rw [encA,if_neg hne,hl]
     exact hD
    ·cases h
/-! ### Encodings are decoded -/
theorem snoc_ind {α : Type} {P : List α → Prop} (h0 : P []) (h1 : ∀ l a, P l → P (l ++ [a])) (l : List α) : P l := by
 have key : ∀ m : List α, P m.reverse := by
  intro m
  induction m with
  | nil => exact h0
  | cons a m ih => rw [List.reverse_cons]; exact h1 _ _ ih
 have := key l.reverse
 rwa [List.reverse_reverse] at this
theorem Ahead.text {r:Rd} {t rest:Bs} {most:Nat} (h:Ahead r ((num t.length++t)++rest)) (ht:t.length≤most) (hm:U64 t.length):(r.text most).1=t∧Ahead (r.text most).2 rest:=by
 have hb:=h.bytes
 rw [List.append_assoc] at hb
 have hd:=rdNum_num r.D r.off t.length (t++rest) hb hm
 have hl:=congrArg List.length hb
 rw [List.length_drop,List.length_append,List.length_append] at hl
 have e1:r.D.drop (r.off+(num t.length).length)=t++rest:=by rw [← List.drop_drop,hb,List.drop_left]
 unfold Rd.text
 rw [if_pos h.err,hd]
 dsimp only
 rw [if_neg (by omega),if_pos (by have:=num_pos t.length; omega)]
 refine ⟨?_,h.err,?_⟩
 ·dsimp only
  rw [e1,List.take_left]
 ·show r.D.drop (r.off+(num t.length).length+t.length)=rest
  rw [← List.drop_drop,e1,List.drop_left]
theorem Ahead.cnt {r:Rd} {n most:Nat} {rest:Bs} (h:Ahead r (num n++rest)) (hn:n≤most) (hu:U64 n):(r.cnt most).1=n∧Ahead (r.cnt most).2 rest:=by
 have hd:=rdNum_num r.D r.off n rest h.bytes hu
 unfold Rd.cnt Rd.count
 rw [if_pos h.err,hd]
 dsimp only
 rw [if_neg (by omega)]
 refine ⟨rfl,h.err,?_⟩
 show r.D.drop (r.off+(num n).length)=rest
 rw [← List.drop_drop,h.bytes,List.drop_left]
theorem Ahead.sums {r:Rd}:∀ (xs:List Bs) (rest:Bs),Ahead r (xs.flatten++rest)→all32 xs→(r.sums xs.length).1=xs∧Ahead (r.sums xs.length).2 rest:=by
 refine snoc_ind ?_ ?_
 ·intro rest h _; exact ⟨rfl,h⟩
 ·intro xs x ih rest h ha
  obtain ⟨h1,h2⟩:=ih (x++rest) (by simpa using h) (fun y hy=>ha y (by simp [hy]))
  obtain ⟨h3,h4⟩:=h2.sum (ha x (by simp))
  rw [List.length_append,List.length_singleton]
  exact ⟨by show (r.sums xs.length).1++[(r.sums xs.length).2.sum.1]=_; rw [h1,h3],h4⟩
theorem flat_len:∀ {xs:List Bs},all32 xs→xs.flatten.length=32*xs.length
 | [],_=>rfl
 | x::xs,h=>by
   rw [List.flatten_cons,List.length_append,flat_len (fun y hy=>h y (by simp [hy])),h x (by simp),List.length_cons]
   omega
theorem u64_small {n:Nat} (h:n≤4294967296):U64 n:=by unfold U64; omega
theorem Ahead.items {r:Rd} {xs:List Bs} {most:Nat} {rest:Bs} (h:Ahead r ((num xs.length++xs.flatten)++rest)) (ha:all32 xs) (hl:xs.length≤most) (hm:most≤65536):(r.items most).1=xs∧Ahead (r.items most).2 rest:=by
 have hb:=congrArg List.length h.bytes
 rw [List.length_drop,List.length_append,List.length_append,flat_len ha] at hb
 have hq:xs.length≤r.most most:=by
  unfold Rd.most
  exact Nat.le_min.2 ⟨hl,(Nat.le_div_iff_mul_le (by omega)).2 (by omega)⟩
 obtain ⟨h1,h2⟩:=Ahead.cnt (n:=xs.length) (rest:=xs.flatten++rest) (by rw [← List.append_assoc]; exact h) hq (u64_small (by omega))
 unfold Rd.items
 rw [h1]
 exact Ahead.sums xs rest h2 ha
theorem Ahead.part {r:Rd} {p:AP} {rest:Bs} (h:Ahead r (p.enc++rest)) (hp:p.ok):r.part.1=some p∧Ahead r.part.2 rest:=by
 obtain ⟨⟨h1,h2,h3⟩,h4⟩:=hp
 have hl1:=bound_le h1
 have hl2:=bound_le h2
 unfold AP.enc at h
 rw [List.append_assoc,List.append_assoc] at h
 obtain ⟨a1,a2⟩:=Ahead.text h hl1 (u64_small (by omega))
 obtain ⟨b1,b2⟩:=Ahead.text a2 hl2 (u64_small (by omega))
 unfold Rd.part
 rw [a1,b1,h1,h2,h3]
 simp only [Bool.and_self,if_true]
 obtain ⟨lo,hi,c⟩:=p
 dsimp only at b2 h4 ⊢
 unfold Rd.body
 cases c with
 | sum n f =>
   unfold AC.enc at b2
   rw [List.append_assoc,List.append_assoc] at b2
   obtain ⟨c1,c2⟩:=b2.uint (u64_small (by omega))
   obtain ⟨d1,d2⟩:=c2.cnt h4.1 (u64_small (Nat.le_trans h4.1 (by omega)))
   obtain ⟨e1,e2⟩:=d2.sum h4.2
   rw [if_pos c1,d1,e1]
   exact ⟨rfl,e2⟩
 | list xs =>
   unfold AC.enc at b2
   rw [List.append_assoc] at b2
   obtain ⟨c1,c2⟩:=b2.uint (u64_small (by omega))
   obtain ⟨d1,d2⟩:=c2.items h4.2.1 h4.1 (by omega)
   rw [if_neg (by omega),if_pos c1,d1,if_pos h4.2.2]
   exact ⟨rfl,d2⟩
 | ans xs ms =>
   unfold AC.enc at b2
   rw [List.append_assoc,List.append_assoc] at b2
   obtain ⟨c1,c2⟩:=b2.uint (u64_small (by omega))
   obtain ⟨d1,d2⟩:=c2.items h4.1.2.1 h4.1.1 (by omega)
   obtain ⟨e1,e2⟩:=d2.items h4.2.2.1 h4.2.1 (by omega)
   rw [if_neg (by omega),if_neg (by omega),if_pos c1,d1,e1,if_pos (by rw [h4.1.2.2,h4.2.2.2]; rfl)]
   exact ⟨rfl,e2⟩
theorem Ahead.parts {r:Rd}:∀ (ps:List AP) (rest:Bs),Ahead r (ps.flatMap AP.enc++rest)→(∀ p∈ps,p.ok)→chain ps→∃ r1,r.parts ps.length=(some ps,r1)∧Ahead r1 rest:=by
 refine snoc_ind ?_ ?_
 ·intro rest h _ _; exact ⟨r,rfl,by simpa using h⟩
 ·intro ps p ih rest h ha hc
  obtain ⟨r1,h1,h2⟩:=ih (p.enc++rest) (by simpa using h) (fun y hy=>ha y (by simp [hy])) (fun k q hq=>by
   have hk:=(List.getElem?_eq_some_iff.1 hq).1
   have:=hc k q (by rw [List.getElem?_append_left hk]; exact hq)
   rwa [List.take_append_of_le_length (by omega)] at this)
  obtain ⟨h3,h4⟩:=Ahead.part h2 (ha p (by simp))
  have hf:=hc ps.length p (by simp)
  rw [List.take_left] at hf
  rw [List.length_append,List.length_singleton]
  exact ⟨r1.part.2,Rd.parts_some h1 (Prod.ext h3 rfl) hf,h4⟩
theorem decA_enc {ps:List AP} (h:okMsg ps) (hl:(encA ps).length≤4294967296):decA (encA ps)=some ps:=by
 obtain ⟨h1,h2,h3⟩:=h
 have hne:ps.length≠0:=fun e=>h1 (List.eq_nil_of_length_eq_zero e)
 have hD:encA ps=num ps.length++ps.flatMap AP.enc:=by rw [encA,if_neg hne]
 have hpl:=enc_ge ps
 have hle:ps.length≤(encA ps).length:=by rw [hD,List.length_append]; omega
 have h0:Ahead (Rd.mk (encA ps) 0 0 0) (num ps.length++ps.flatMap AP.enc):=⟨rfl,by show (encA ps).drop 0=_; rw [List.drop_zero,hD]⟩
 obtain ⟨a1,a2⟩:=h0.cnt hle (u64_small (by omega))
 obtain ⟨r1,b1,b2⟩:=Ahead.parts ps [] (by simpa using a2) h2 h3
 unfold decA
 rw [a1,if_neg hne,b1]
 dsimp only
 rw [if_pos b2.end_]
abbrev Key8 := List UInt8
theorem k_le_trans {a b c:Key8} (h1:a≤b) (h2:b≤c):a≤c:=List.le_trans h1 h2
theorem k_le_total (a b:Key8):a≤b∨b≤a:=List.le_total a b
theorem k_antisymm {a b:Key8} (h1:a≤b) (h2:b≤a):a=b:=List.le_antisymm h1 h2
theorem k_not_lt {a b:Key8}:¬ a < b↔b≤a:=Iff.rfl
theorem sortS_sorted (l:List Key8):(sortS l).Pairwise (·≤·):=by
 have:=List.pairwise_mergeSort (le:=fun x y:Key8=>decide (x≤y)) (fun a b c h1 h2=>by simp only [decide_eq_true_eq] at *; exact k_le_trans h1 h2) (fun a b=>by simp only [Bool.or_eq_true,decide_eq_true_eq]; exact k_le_total a b) l
 simpa [sortS] using this
theorem sortS_perm (l:List Key8):(sortS l).Perm l:=List.mergeSort_perm _ _
/-! ### Levels -/
def lz (v : Nat) : Nat := min (16 - Lib.bitLen v) 11
theorem lz_le (v:Nat):lz v≤11:=Nat.min_le_right _ _
def lvV (x : Bs) : Nat := ((sha x).getD 0 0).toNat * 256 + ((sha x).getD 1 0).toNat
theorem lvV_lt (x:Bs):lvV x < 65536:=by
 have h1:=UInt8.toNat_lt ((sha x).getD 0 0)
 have h2:=UInt8.toNat_lt ((sha x).getD 1 0)
 unfold lvV
 omega
def lvl (x : Bs) : Nat := lz (lvV x)
theorem lvl_lt (x:Bs):lvl x < 12:=by have:=lz_le (lvV x); unfold lvl; omega
/-! ### Tables of items -/
def insT (t : BT) (l : List Bs) : BT := l.foldl (fun t x => t.change x 1) t
def tabT (l : List Bs) (n : Nat) : BT := insT (BT.new n 0) l
theorem insT_snoc (t:BT) (l:List Bs) (x:Bs):insT t (l++[x])=(insT t l).change x 1:=by simp [insT]
theorem BT.change_seed (t:BT) (key:Bs) (n:Int):(t.change key n).seed=t.seed:=rfl
theorem insT_len (t:BT):∀ l:List Bs,(insT t l).cells.length=t.cells.length:=by
 intro l
 induction l generalizing t with
 | nil=>rfl
 | cons x l ih=>show (insT (t.change x 1) l).cells.length=_; rw [ih,BT.change_len]
theorem insT_seed (t:BT):∀ l:List Bs,(insT t l).seed=t.seed:=by
 intro l
 induction l generalizing t with
 | nil=>rfl
 | cons x l ih=>show (insT (t.change x 1) l).seed=_; rw [ih,BT.change_seed]
theorem insT_ok {t:BT} (h:t.Ok):∀ {l:List Bs},(∀ x∈l,x.length=32)→(insT t l).Ok:=by
 intro l
 induction l generalizing t with
 | nil=>intro _; exact h
 | cons x l ih=>intro hl; exact ih (h.change (hl x (by simp)) 1) fun y hy=>hl y (by simp [hy])
theorem new_len (n s:Nat):(BT.new n s).cells.length=n:=by simp [BT.new]
theorem tabT_len (l:List Bs) (n:Nat):(tabT l n).cells.length=n:=by rw [tabT,insT_len,new_len]
theorem tabT_seed (l:List Bs) (n:Nat):(tabT l n).seed=0:=by rw [tabT,insT_seed]; rfl
theorem tabT_ok {l:List Bs} (h:∀ x∈l,x.length=32) (n:Nat):(tabT l n).Ok:=insT_ok (BT.Ok.new n 0 (by unfold U64; decide)) h
/-! ### Strata -/
def strT (l : List Bs) (k : Nat) : BT := insT (BT.new 12 (k + 1)) (l.filter fun x => lvl x == k)
def strata (l : List Bs) : List BT := (List.range 12).map (strT l)
theorem strT_snoc (l:List Bs) (x:Bs) (k:Nat):strT (l++[x]) k=if lvl x=k then (strT l k).change x 1 else strT l k:=by
 unfold strT
 rw [List.filter_append]
 by_cases h:lvl x=k
 ·rw [if_pos h,List.filter_cons_of_pos (by simpa using h),List.filter_nil,insT_snoc]
 ·rw [if_neg h,List.filter_cons_of_neg (by simpa using h),List.filter_nil,List.append_nil]
theorem strata_len (l:List Bs):(strata l).length=12:=by simp [strata]
theorem strata_get {l:List Bs} {k:Nat} (h:k < 12):(strata l)[k]?=some (strT l k):=by simp [strata,h]
theorem strata_snoc (l:List Bs) (x:Bs):strata (l++[x])=(strata l).set (lvl x) ((strT l (lvl x)).change x 1):=by
 apply List.ext_getElem?
 intro i
 have hx:=lvl_lt x
 by_cases hi:i < 12
 ·rw [strata_get hi,strT_snoc,List.getElem?_set]
  by_cases h:lvl x=i
  ·subst h
   simp [strata_len,hx]
  ·rw [if_neg h,if_neg h,strata_get hi]
 ·rw [List.getElem?_eq_none (by rw [strata_len]; omega),List.getElem?_eq_none (by rw [List.length_set,strata_len]; omega)]
theorem strT_ok {l:List Bs} (h:∀ x∈l,x.length=32) {k:Nat} (hk:k < 12):(strT l k).Ok :=
 insT_ok (BT.Ok.new 12 (k+1) (by unfold U64; omega)) fun x hx=>h x (List.mem_filter.1 hx).1
theorem strT_len (l:List Bs) (k:Nat):(strT l k).cells.length=12:=by rw [strT,insT_len,new_len]
theorem strT_seed (l:List Bs) (k:Nat):(strT l k).seed=k+1:=by rw [strT,insT_seed]; rfl
def okStr (ts : List BT) : Prop := ∀ i t, ts[i]? = some t → t.Ok ∧ t.cells.length = 12 ∧ t.seed = i + 1
theorem strata_ok {l:List Bs} (h:∀ x∈l,x.length=32):okStr (strata l):=fun i t ht=>by
 have hi:i < 12:=by have:=(List.getElem?_eq_some_iff.1 ht).1; rwa [strata_len] at this
 rw [strata_get hi] at ht
 injection ht with ht
 subst ht
 exact ⟨strT_ok h hi,strT_len _ _,strT_seed _ _⟩
/-! ### Sketches -/
def tb8 (t : BT) : Bs := num t.enc.length ++ t.enc
def skB (ts : List BT) : Bs := ts.flatMap tb8
theorem enc12_len {t:BT} (h:t.Ok) (hn:t.cells.length=12):t.enc.length≤644:=by
 unfold BT.enc encTo
 rw [List.take_of_length_le (Nat.le_refl _),List.length_append,List.length_append,hn]
 have h1:=num_length 12 (by omega)
 have h2:=num_length t.seed h.seed
 have h3:=bflat_len h.cells
 omega
theorem tb8_len {t:BT} (h:t.Ok) (hn:t.cells.length=12):(tb8 t).length≤654:=by
 have h1:=enc12_len h hn
 have h2:=num_length t.enc.length (by omega)
 unfold tb8
 rw [List.length_append]
 omega
theorem skB_snoc (ts:List BT) (t:BT):skB (ts++[t])=skB ts++tb8 t:=by simp [skB]
theorem skB_len:∀ {ts:List BT},(∀ t∈ts,t.Ok∧t.cells.length=12)→(skB ts).length≤ts.length*654
 | [],_=>by simp [skB]
 | t::ts,h=>by
   have h1:=tb8_len (h t (by simp)).1 (h t (by simp)).2
   have h2:=skB_len (ts:=ts) fun t ht=>h t (by simp [ht])
   show (tb8 t++skB ts).length≤_
   rw [List.length_append,List.length_cons]
   omega
theorem okStr.all {ts:List BT} (h:okStr ts):∀ t∈ts,t.Ok∧t.cells.length=12:=fun t ht=>by
 obtain ⟨i,hi⟩:=List.mem_iff_getElem?.1 ht
 exact ⟨(h i t hi).1,(h i t hi).2.1⟩
def Rd.rest (r : Rd) : Bs × Rd := r.text (r.D.length - r.off)
def isT (t : BT) (n s : Nat) : Bool := decide (t.cells.length = n) && decide (t.seed = s)
def rdStr (r : Rd) : Nat → Option (List BT) × Rd
 | 0 => (some [], r)
 | i + 1 => match rdStr r i with
   | (none, r1) => (none, r1)
   | (some ts, r1) => match decd r1.rest.1 with
     | some t => if isT t 12 (i + 1) then (some (ts ++ [t]), r1.rest.2) else (none, r1.rest.2)
     | none => (none, r1.rest.2)
theorem rdStr_go {r r1:Rd} {i:Nat} {ts:List BT} {t:BT} (h:rdStr r i=(some ts,r1)) (hd:decd r1.rest.1=some t) (ht:isT t 12 (i+1)=true):rdStr r (i+1)=(some (ts++[t]),r1.rest.2):=by
 rw [rdStr,h]
 simp only [hd,ht,if_true]
theorem rdStr_bad {r r1:Rd} {i:Nat} {ts:List BT} (h:rdStr r i=(some ts,r1)) (hd:decd r1.rest.1=none∨∃ t,decd r1.rest.1=some t∧isT t 12 (i+1)=false):(rdStr r (i+1)).1=none:=by
 rw [rdStr,h]
 rcases hd with hd | ⟨t,hd,ht⟩
 ·simp only [hd]
 ·simp only [hd,ht]
  rfl
theorem rdStr_stop {r:Rd} {i:Nat} (h:(rdStr r i).1=none):∀ j,(rdStr r (i+j)).1=none
 | 0=>h
 | j+1=>by
   have ih:=rdStr_stop h j
   show (rdStr r (i+j+1)).1=none
   rw [rdStr]
   cases hh:rdStr r (i+j) with
   | mk a b=>rw [hh] at ih; simp only at ih; subst ih; rfl
def rdSk (D : Bs) : Option (List BT) := match rdStr (Rd.mk D 0 0 0) 12 with
 | (some ts, r) => if r.end_ = 0 then some ts else none
 | (none, _) => none
theorem rdStr_len {r:Rd}:∀ {i:Nat} {ts:List BT} {r1:Rd},rdStr r i=(some ts,r1)→ts.length=i∧okStr ts
 | 0,ts,r1,h=>by
   rw [rdStr] at h
   simp only [Prod.mk.injEq,Option.some.injEq] at h
   rw [← h.1]
   exact ⟨rfl,fun i t ht=>by simp at ht⟩
 | i+1,ts,r1,h=>by
   rw [rdStr] at h
   cases hh:rdStr r i with
   | mk a b =>
     rw [hh] at h
     cases a with
     | none=>simp at h
     | some us =>
       obtain ⟨h1,h2⟩:=rdStr_len hh
       simp only at h
       cases hd:decd b.rest.1 with
       | none=>rw [hd] at h; simp at h
       | some t =>
         rw [hd] at h
         simp only at h
         split at h
         ·rename_i ht
          simp only [Prod.mk.injEq,Option.some.injEq] at h
          rw [← h.1]
          refine ⟨by simp [h1],fun j u hu=>?_⟩
          rcases Nat.lt_or_ge j us.length with hj | hj
          ·rw [List.getElem?_append_left hj] at hu
           exact h2 j u hu
          ·rw [List.getElem?_append_right hj] at hu
           have hj0:j - us.length=0:=by
            have:=(List.getElem?_eq_some_iff.1 hu).1
            simp at this
            omega
           rw [hj0] at hu
           simp at hu
           subst hu
           unfold isT at ht
           simp only [Bool.and_eq_true,decide_eq_true_eq] at ht
           refine ⟨?_,ht.1,by rw [ht.2,← h1]; omega⟩
           unfold decd at hd
           split at hd
           ·injection hd with hd
            subst hd
            exact decT_ok _
           ·cases hd
         ·simp at h
theorem rdSk_ok {D:Bs} {ts:List BT} (h:rdSk D=some ts):ts.length=12∧okStr ts:=by
 unfold rdSk at h
 cases hh:rdStr (Rd.mk D 0 0 0) 12 with
 | mk a b =>
   rw [hh] at h
   cases a with
   | none=>simp at h
   | some us =>
     simp only at h
     split at h
     ·injection h with h
      subst h
      exact rdStr_len hh
     ·cases h
/-! ### Estimates -/
theorem peel_len' : ∀ (n : Nat) {s s' : Peel}, peel n s = some s' → s'.added.length ≤ s.added.length + n ∧ s'.removed.length ≤ s.removed.length + n
 | 0, s, s', e => by cases e; exact ⟨Nat.le_refl _, Nat.le_refl _⟩
 | n + 1, s, s', e => by
   unfold peel at e
   cases hf : s.t.first with
   | none => rw [hf] at e; cases e; exact ⟨by omega, by omega⟩
   | some i =>
     rw [hf] at e
     simp only at e
     split at e
     ·cases e
     ·have := peel_len' n e
      unfold Peel.take at this
      simp only at this
      constructor
      ·have h := this.1; split at h <;> (try simp only [List.length_append, List.length_cons, List.length_nil] at h) <;> omega
      ·have h := this.2; split at h <;> (try simp only [List.length_append, List.length_cons, List.length_nil] at h) <;> omega
theorem raw_len {t:BT} {p:List Bs × List Bs} (hk:t.raw=some p):p.1.length≤t.cells.length∧p.2.length≤t.cells.length:=by
 unfold BT.raw at hk
 cases hp:peel t.cells.length ⟨t,[],[],[]⟩ with
 | none=>rw [hp] at hk; simp at hk
 | some s =>
   rw [hp] at hk
   have hl:=peel_len' _ hp
   cases he:s.t.empty with
   | false=>simp [he] at hk
   | true =>
     simp only [he,if_true,Option.some.injEq] at hk
     rw [← hk]
     simpa using hl
theorem keys_raw {t:BT} {l m:List Bs} (h:t.keys=some (l,m)):∃ p,t.raw=some p∧l=sortS p.1∧m=sortS p.2:=by
 unfold BT.keys at h
 cases hr:t.raw with
 | none=>rw [hr] at h; simp at h
 | some p =>
   rw [hr] at h
   simp only [Option.map_some,Option.some.injEq,Prod.mk.injEq] at h
   exact ⟨p,rfl,h.1.symm,h.2.symm⟩
theorem qkeys_none {t:BT} (h:t.keys=none):t.raw=none:=by
 unfold BT.keys at h
 cases hr:t.raw with
 | none=>rfl
 | some p=>rw [hr] at h; simp at h
theorem qsortS_len (l:List Bs):(sortS l).length=l.length:=(sortS_perm l).length_eq
theorem keys_le {t:BT} {l m:List Bs} (h:t.keys=some (l,m)):l.length≤t.cells.length∧m.length≤t.cells.length:=by
 obtain ⟨p,hp,rfl,rfl⟩:=keys_raw h
 have:=raw_len hp
 rw [qsortS_len,qsortS_len]
 exact this
def estL (a b : List BT) : Nat → Nat → Nat
 | 0, s => s
 | i + 1, s => match ((a.getD i (BT.new 0 0)).sub (b.getD i (BT.new 0 0))).raw with
   | none => (s + 1) * 2 ^ (i + 1)
   | some p => estL a b i (s + p.1.length + p.2.length)
def est (a b : List BT) : Nat := estL a b 12 0
theorem estL_none {a b:List BT} {i s:Nat} {t u:BT} (ha:a[i]?=some t) (hb:b[i]?=some u) (h:(t.sub u).keys=none):estL a b (i+1) s=(s+1)*2 ^ (i+1):=by
 rw [estL,List.getD_eq_getElem?_getD,List.getD_eq_getElem?_getD,ha,hb]
 simp only [Option.getD_some]
 rw [qkeys_none h]
theorem estL_some {a b:List BT} {i s:Nat} {t u:BT} {l m:List Bs} (ha:a[i]?=some t) (hb:b[i]?=some u) (h:(t.sub u).keys=some (l,m)):estL a b (i+1) s=estL a b i (s+l.length+m.length):=by
 obtain ⟨p,hp,rfl,rfl⟩:=keys_raw h
 rw [estL,List.getD_eq_getElem?_getD,List.getD_eq_getElem?_getD,ha,hb]
 simp only [Option.getD_some]
 rw [hp,qsortS_len,qsortS_len]
/-! ### What a table tells -/
/-- The items that only this side has, those that only the other side has: out of its table and its fingerprint. -/
def otherL (its offs needs : List Bs) : List Bs := sortS ((its.filter fun x => !offs.contains x) ++ needs)
def agreesB (its needs offs : List Bs) : Bool := (!needs.any fun x => its.contains x) && !offs.any fun x => !its.contains x
def diffA (its : List Bs) (t : BT) (print : Bs) : Option (List Bs × List Bs) := match ((tabT its t.cells.length).sub t).keys with
 | none => none
 | some (offs, needs) => if agreesB its needs offs && decide (setE (otherL its offs needs) = 0) && decide (fpB (otherL its offs needs) = print) then some (offs, needs) else none
section
theorem rv_own {w W w1 wf:World} {v:Value} {n br b2:Nat} {xs:List Value} (ho:w1.ownsRow W.drew.heap.size 5 1 v n xs) (hf:Fr [br,b2] w1 wf) (hbr:br < W.drew.heap.size) (hb2:b2 < W.drew.heap.size) (hw:w.heap.size≤W.drew.heap.size):wf.ownsRow w.heap.size 5 1 v n xs:=by
 refine ownsRow_base (ownsRow_fr ho hf ?_) hw
 intro g hg hm
 have:=(ho.lt g hg).1
 simp only [List.mem_cons,List.not_mem_nil,or_false] at hm
 omega
theorem own_newB {w0 w:World} {br:Nat} {cs:List Ch} {t:TypeId} {l:List Value} {A:Option Addr} {m c i:Nat} {xs:List Value} (hM:Mm w0 [br] cs w) (h0:cs[0]?=some (cAt br t l)) (hi:cs[i]?=some (cOwn 5 1 A m c xs)) (hne:i≠0):w.ownsRow w0.heap.size 5 1 (.slice A m c) m xs:=by
 have ho:w.ownsRow 0 5 1 (.slice A m c) m xs:=hM.at hi
 obtain ⟨hl,h⟩:=ho
 refine ⟨hl,?_⟩
 rcases h with h | ⟨g,cap,cur,hv,hge,h1⟩
 ·exact .inl h
 ·refine .inr ⟨g,cap,cur,hv,?_,h1⟩
  simp only [Value.slice.injEq] at hv
  have hb:g∈(cOwn 5 1 A m c xs).fp:=by rw [show A=some ⟨g,0,none⟩ from hv.1]; simp [cOwn,ownFp]
  rcases hM.own g (List.mem_flatMap.2 ⟨_,List.mem_of_getElem? hi,hb⟩) with h2 | h2
  ·exfalso
   have e:g=br:=by simpa using h2
   exact nodup_flat_ne hM.nodup h0 hi (fun e=>hne e.symm) br (by simp [cAt]) (e▸hb)
  ·exact h2
theorem rowNil {w:World} {base:Nat} {e:TypeId}:w.ownsRow base e 1 (.slice none 0 0) 0 []:=⟨rfl,.inl ⟨rfl,rfl⟩⟩
theorem Mm.addOwn {w0 w':World} {F:List Nat} {cs:List Ch} {k:Nat} {e:TypeId} {A:Option Addr} {n c:Nat} {xs:List Value} (h:Mm w0 F cs w') (hlt:∀ b∈cs.flatMap Ch.fp,b < k) (hk:w0.heap.size≤k) (ho:w'.ownsRow k e 1 (.slice A n c) n xs):Mm w0 F (cs++[cOwn e 1 A n c xs]) w':=by
 have hg:∀ b∈(cOwn e 1 A n c xs).fp,k≤b:=by
  intro b hb
  rcases ho.2 with ⟨hv,_⟩ | ⟨g,cap,cur,hv,h1,_⟩
  ·simp only [Value.slice.injEq] at hv
   obtain ⟨rfl,_,_⟩:=hv
   simp [cOwn,ownFp] at hb
  ·simp only [Value.slice.injEq] at hv
   obtain ⟨rfl,_,_⟩:=hv
   simp [cOwn,ownFp] at hb
   omega
 refine ⟨h.fr,?_,?_,?_⟩
 ·intro x hx
  rcases List.mem_append.1 hx with hx | hx
  ·exact h.hold x hx
  ·rw [List.mem_singleton] at hx
   subst hx
   exact ownsRow_base ho (Nat.zero_le _)
 ·rw [List.flatMap_append,List.nodup_append]
  refine ⟨h.nodup,by simpa [cOwn] using ownFp_nodup A,fun a ha b hb e=>?_⟩
  subst e
  have h1:=hlt a ha
  have h2:=hg a (by simpa using hb)
  omega
 ·intro b hb
  rw [List.flatMap_append] at hb
  rcases List.mem_append.1 hb with hb | hb
  ·exact h.own b hb
  ·exact .inr (by have:=hg b (by simpa using hb); omega)
section
variable {X : Option Addr × Nat}
theorem bytc_ok (bx by_ br:Nat) (D:List UInt8) (off last most:Nat) (w:World) (hx0:At w bx 124 [Value.pointer (some ⟨br,0,none⟩)]) (hy0:At w by_ 3 [Value.int .i64 (most:Int)]) (hr:ReaderAt X w br D off last 0) (hl:D.length≤4294967296) (ho:off≤D.length) (hm:most≤4294967296) (n m:Nat) (hd:rdNum D off=some (n,m)) (hn:n≤most) (hf:m+n≤D.length) :
  Calls Tryz.prog 124 #[Value.pointer (some ⟨bx,0,none⟩),Value.pointer (some ⟨by_,0,none⟩)] w fun e w'=>∃ A c,e = .returned (.tuple #[.slice A ((D.drop m).take n).length c,Value.int .i64 0])∧Fr [br] w w'∧ReaderAt X w' br D (m+n) last 0∧w'.ownsRow w.heap.size 5 1 (.slice A ((D.drop m).take n).length c) ((D.drop m).take n).length (B8 ((D.drop m).take n)):=by
 obtain ⟨A,c,hX,ha,hown⟩:=hr
 have hx:w.cell? ⟨bx,0,none⟩=some (Value.pointer (some ⟨br,0,none⟩)):=by rw [hx0.cell]; rfl
 have hxb:bx≠br:=hx0.ne ha (by decide)
 have hy:w.cell? ⟨by_,0,none⟩=some (Value.int .i64 (most:Int)):=by rw [hy0.cell]; rfl
 have hyb:by_≠br:=hy0.ne ha (by decide)
 have HA:=Lib.hid ha
 have HO:=Lib.hid hown
 have HR:Hid (RowIn w A (B8 D)):=RowIn.of_own hown
 have hc:D.length≤c:=ownCap hown
 have HNB:Hid (∀ g,(Value.slice A D.length c).ownBlock=some g→g∉[br]):=fun g hg=>by
  have h1:=own_at_ne hown ha (by decide)
  simp only [List.mem_singleton]
  rintro rfl
  exact h1 hg.symm
 have HNE:Hid (∀ b o,A=some ⟨b,o,none⟩→b∉[br]):=fun b o hA=>HNB.out b (by rw [hA]; rfl)
 clear ha hown hx0 hy0
 have rp:Ro [br] w (fun w=>RowIn w (if c=m then A else A.map (·.add (m*1))) (B8 ((D.drop m).take n))):=fun w' hf=>rowPart (HR.out.fr hf HNE.out) (by rw [B8_length]; exact hc)
 refine sE2 Tryz.func124 15 (Mm.one HA.out) ?_
 refine stSeq (reg (la ?_))
 refine la ?_
 refine liNil (qThen (stSeq (reg (lv (rW (fun w hM=>hM.old hx (by simpa using hxb))) ?_))))
 refine lv (rW (fun w hM=>hM.old hy (by simpa using hyb))) ?_
 refine li rfl (opCall 125 #[(vP br 0),(vI most)] rfl (by kernel_rfl) (fun _=>by kernel_rfl) (fun w hM=>?_))
 refine (blk_ok br D off last most w A c (hM.at (i:=0) rfl) (ownsRow_fr HO.out hM.fr HNB.out) hl ho hm n m hd hn hf).mono ?_
 rintro e w' ⟨rfl,hf2,ha2⟩
 have hM':=hM.swap 0 (c':=cAt br 187 [(vL A D c),(vI (m+n)),(vI last),(.int .i64 0)]) rfl hf2 ha2 (fun b hb=>.inl hb) (by simp [cAt])
 refine ⟨_,_,rfl,hM',?_⟩
 refine lm ?_
 refine lc (.slice (if c=m then A else A.map (·.add (m*1))) (n) (c - m)) ?_
 refine lc (.int .i64 0) ?_
 refine la ?_
 refine la ?_
 refine liNil (qThen (stSeq (reg (lm ?_))))
 refine li rfl (opMem (fun w hM=>hM.nilOwn 5 1) ?_)
 refine opAppend el_u8 1 (B8 ((D.drop m).take n)) rfl rfl (by kernel_rfl) rfl rfl rfl (by rw [B8_length,List.length_take,List.length_drop,Nat.min_eq_left (by omega),Nat.mul_one]) (fun w hM=>CellsAt.of_row (rp.now hM)) ((B8_one _)) (by have:=List.length_take_le n (D.drop m); omega) (((D.drop m).take n).length) (by first | exact (List.length_append ..).symm | (simp; done) | (simp; omega)) (B8 ((D.drop m).take n)) (by simp [B8]) (fun A13 c13=>?_)
 refine lm ?_
 refine la ?_
 refine la ?_
 refine liNil (qThen (stRet (sN [(vL A13 ((D.drop m).take n) c13),(.int .i64 0)] fun w hM=>?_)))
 exact ⟨A13,c13,rfl,hM.fr,⟨A,c,hX,hM.at (i:=0) rfl,ownsRow_fr HO.out hM.fr HNB.out⟩,own_newB hM (i:=1) rfl rfl (by decide)⟩
theorem bytc_few (bx by_ br:Nat) (D:List UInt8) (off last most:Nat) (w:World) (hx0:At w bx 124 [Value.pointer (some ⟨br,0,none⟩)]) (hy0:At w by_ 3 [Value.int .i64 (most:Int)]) (hr:ReaderAt X w br D off last 0) (hl:D.length≤4294967296) (ho:off≤D.length) (hm:most≤4294967296) (n m:Nat) (hd:rdNum D off=some (n,m)) (hn:n≤most) (hf:D.length < m+n) :
  Calls Tryz.prog 124 #[Value.pointer (some ⟨bx,0,none⟩),Value.pointer (some ⟨by_,0,none⟩)] w fun e w'=>∃ A n c,e = .returned (.tuple #[.slice A n c,Value.int .i64 3])∧Fr [br] w w'∧∃ off':Nat,ReaderAt X w' br D off' last 0:=by
 obtain ⟨A,c,hX,ha,hown⟩:=hr
 have hx:w.cell? ⟨bx,0,none⟩=some (Value.pointer (some ⟨br,0,none⟩)):=by rw [hx0.cell]; rfl
 have hxb:bx≠br:=hx0.ne ha (by decide)
 have hy:w.cell? ⟨by_,0,none⟩=some (Value.int .i64 (most:Int)):=by rw [hy0.cell]; rfl
 have hyb:by_≠br:=hy0.ne ha (by decide)
 have HA:=Lib.hid ha
 have HO:=Lib.hid hown
 have HR:Hid (RowIn w A (B8 D)):=RowIn.of_own hown
 have hc:D.length≤c:=ownCap hown
 have HNB:Hid (∀ g,(Value.slice A D.length c).ownBlock=some g→g∉[br]):=fun g hg=>by
  have h1:=own_at_ne hown ha (by decide)
  simp only [List.mem_singleton]
  rintro rfl
  exact h1 hg.symm
 have HNE:Hid (∀ b o,A=some ⟨b,o,none⟩→b∉[br]):=fun b o hA=>HNB.out b (by rw [hA]; rfl)
 clear ha hown hx0 hy0
 refine sE2 Tryz.func124 15 (Mm.one HA.out) ?_
 refine stSeq (reg (la ?_))
 refine la ?_
 refine liNil (qThen (stSeq (reg (lv (rW (fun w hM=>hM.old hx (by simpa using hxb))) ?_))))
 refine lv (rW (fun w hM=>hM.old hy (by simpa using hyb))) ?_
 refine li rfl (opCall 125 #[(vP br 0),(vI most)] rfl (by kernel_rfl) (fun _=>by kernel_rfl) (fun w hM=>?_))
 refine (blk_few br D off last most w A c (hM.at (i:=0) rfl) (ownsRow_fr HO.out hM.fr HNB.out) hl ho hm n m hd hn hf).mono ?_
 rintro e w' ⟨rfl,hf2,off',ha2⟩
 have hM':=hM.swap 0 (c':=cAt br 187 [(vL A D c),(vI off'),(vI last),(.int .i64 0)]) rfl hf2 ha2 (fun b hb=>.inl hb) (by simp [cAt])
 refine ⟨_,_,rfl,hM',?_⟩
 refine lm ?_
 refine lc (.slice none 0 0) ?_
 refine lc (.int .i64 3) ?_
 refine la ?_
 refine la ?_
 refine liNil (qThen (stSeq (reg (lm ?_))))
 refine li rfl (opMem (fun w hM=>hM.nilOwn 5 1) ?_)
 refine opAppend el_u8 1 (B8 ([]:List UInt8)) rfl rfl (by kernel_rfl) rfl rfl rfl (rfl) (srcNil) ((B8_one _)) (by simp) (([]:List UInt8).length) (by first | exact (List.length_append ..).symm | (simp; done) | (simp; omega)) (B8 ([]:List UInt8)) (by simp [B8]) (fun A13 c13=>?_)
 refine lm ?_
 refine la ?_
 refine la ?_
 refine liNil (qThen (stRet (sN [(vL A13 ([]:List UInt8) c13),(.int .i64 3)] fun w hM=>?_)))
 exact ⟨_,_,_,rfl,hM.fr,_,A,c,hX,hM.at (i:=0) rfl,ownsRow_fr HO.out hM.fr HNB.out⟩
theorem bytc_big (bx by_ br:Nat) (D:List UInt8) (off last most:Nat) (w:World) (hx0:At w bx 124 [Value.pointer (some ⟨br,0,none⟩)]) (hy0:At w by_ 3 [Value.int .i64 (most:Int)]) (hr:ReaderAt X w br D off last 0) (hl:D.length≤4294967296) (ho:off≤D.length) (hm:most≤4294967296) (n m:Nat) (hd:rdNum D off=some (n,m)) (hn:most < n) :
  Calls Tryz.prog 124 #[Value.pointer (some ⟨bx,0,none⟩),Value.pointer (some ⟨by_,0,none⟩)] w fun e w'=>∃ A n c,e = .returned (.tuple #[.slice A n c,Value.int .i64 2])∧Fr [br] w w'∧∃ off':Nat,ReaderAt X w' br D off' last 0:=by
 obtain ⟨A,c,hX,ha,hown⟩:=hr
 have hx:w.cell? ⟨bx,0,none⟩=some (Value.pointer (some ⟨br,0,none⟩)):=by rw [hx0.cell]; rfl
 have hxb:bx≠br:=hx0.ne ha (by decide)
 have hy:w.cell? ⟨by_,0,none⟩=some (Value.int .i64 (most:Int)):=by rw [hy0.cell]; rfl
 have hyb:by_≠br:=hy0.ne ha (by decide)
 have HA:=Lib.hid ha
 have HO:=Lib.hid hown
 have HR:Hid (RowIn w A (B8 D)):=RowIn.of_own hown
 have hc:D.length≤c:=ownCap hown
 have HNB:Hid (∀ g,(Value.slice A D.length c).ownBlock=some g→g∉[br]):=fun g hg=>by
  have h1:=own_at_ne hown ha (by decide)
  simp only [List.mem_singleton]
  rintro rfl
  exact h1 hg.symm
 have HNE:Hid (∀ b o,A=some ⟨b,o,none⟩→b∉[br]):=fun b o hA=>HNB.out b (by rw [hA]; rfl)
 clear ha hown hx0 hy0
 refine sE2 Tryz.func124 15 (Mm.one HA.out) ?_
 refine stSeq (reg (la ?_))
 refine la ?_
 refine liNil (qThen (stSeq (reg (lv (rW (fun w hM=>hM.old hx (by simpa using hxb))) ?_))))
 refine lv (rW (fun w hM=>hM.old hy (by simpa using hyb))) ?_
 refine li rfl (opCall 125 #[(vP br 0),(vI most)] rfl (by kernel_rfl) (fun _=>by kernel_rfl) (fun w hM=>?_))
 refine (blk_big br D off last most w A c (hM.at (i:=0) rfl) (ownsRow_fr HO.out hM.fr HNB.out) hl ho hm n m hd hn).mono ?_
 rintro e w' ⟨rfl,hf2,off',ha2⟩
 have hM':=hM.swap 0 (c':=cAt br 187 [(vL A D c),(vI off'),(vI last),(.int .i64 0)]) rfl hf2 ha2 (fun b hb=>.inl hb) (by simp [cAt])
 refine ⟨_,_,rfl,hM',?_⟩
 refine lm ?_
 refine lc (.slice none 0 0) ?_
 refine lc (.int .i64 2) ?_
 refine la ?_
 refine la ?_
 refine liNil (qThen (stSeq (reg (lm ?_))))
 refine li rfl (opMem (fun w hM=>hM.nilOwn 5 1) ?_)
 refine opAppend el_u8 1 (B8 ([]:List UInt8)) rfl rfl (by kernel_rfl) rfl rfl rfl (rfl) (srcNil) ((B8_one _)) (by simp) (([]:List UInt8).length) (by first | exact (List.length_append ..).symm | (simp; done) | (simp; omega)) (B8 ([]:List UInt8)) (by simp [B8]) (fun A13 c13=>?_)
 refine lm ?_
 refine la ?_
 refine la ?_
 refine liNil (qThen (stRet (sN [(vL A13 ([]:List UInt8) c13),(.int .i64 2)] fun w hM=>?_)))
 exact ⟨_,_,_,rfl,hM.fr,_,A,c,hX,hM.at (i:=0) rfl,ownsRow_fr HO.out hM.fr HNB.out⟩
theorem bytc_none (bx by_ br:Nat) (D:List UInt8) (off last most:Nat) (w:World) (hx0:At w bx 124 [Value.pointer (some ⟨br,0,none⟩)]) (hy0:At w by_ 3 [Value.int .i64 (most:Int)]) (hr:ReaderAt X w br D off last 0) (hl:D.length≤4294967296) (ho:off≤D.length) (hm:most≤4294967296) (hd:rdNum D off=none) :
  Calls Tryz.prog 124 #[Value.pointer (some ⟨bx,0,none⟩),Value.pointer (some ⟨by_,0,none⟩)] w fun e w'=>∃ A n c,e = .returned (.tuple #[.slice A n c,Value.int .i64 3])∧Fr [br] w w'∧∃ off':Nat,ReaderAt X w' br D off' last 0:=by
 obtain ⟨A,c,hX,ha,hown⟩:=hr
 have hx:w.cell? ⟨bx,0,none⟩=some (Value.pointer (some ⟨br,0,none⟩)):=by rw [hx0.cell]; rfl
 have hxb:bx≠br:=hx0.ne ha (by decide)
 have hy:w.cell? ⟨by_,0,none⟩=some (Value.int .i64 (most:Int)):=by rw [hy0.cell]; rfl
 have hyb:by_≠br:=hy0.ne ha (by decide)
 have HA:=Lib.hid ha
 have HO:=Lib.hid hown
 have HR:Hid (RowIn w A (B8 D)):=RowIn.of_own hown
 have hc:D.length≤c:=ownCap hown
 have HNB:Hid (∀ g,(Value.slice A D.length c).ownBlock=some g→g∉[br]):=fun g hg=>by
  have h1:=own_at_ne hown ha (by decide)
  simp only [List.mem_singleton]
  rintro rfl
  exact h1 hg.symm
 have HNE:Hid (∀ b o,A=some ⟨b,o,none⟩→b∉[br]):=fun b o hA=>HNB.out b (by rw [hA]; rfl)
 clear ha hown hx0 hy0
 refine sE2 Tryz.func124 15 (Mm.one HA.out) ?_
 refine stSeq (reg (la ?_))
 refine la ?_
 refine liNil (qThen (stSeq (reg (lv (rW (fun w hM=>hM.old hx (by simpa using hxb))) ?_))))
 refine lv (rW (fun w hM=>hM.old hy (by simpa using hyb))) ?_
 refine li rfl (opCall 125 #[(vP br 0),(vI most)] rfl (by kernel_rfl) (fun _=>by kernel_rfl) (fun w hM=>?_))
 refine (blk_none br D off last most w A c (hM.at (i:=0) rfl) (ownsRow_fr HO.out hM.fr HNB.out) hl ho hm hd).mono ?_
 rintro e w' ⟨rfl,hf2,off',ha2⟩
 have hM':=hM.swap 0 (c':=cAt br 187 [(vL A D c),(vI off'),(vI last),(.int .i64 0)]) rfl hf2 ha2 (fun b hb=>.inl hb) (by simp [cAt])
 refine ⟨_,_,rfl,hM',?_⟩
 refine lm ?_
 refine lc (.slice none 0 0) ?_
 refine lc (.int .i64 3) ?_
 refine la ?_
 refine la ?_
 refine liNil (qThen (stSeq (reg (lm ?_))))
 refine li rfl (opMem (fun w hM=>hM.nilOwn 5 1) ?_)
 refine opAppend el_u8 1 (B8 ([]:List UInt8)) rfl rfl (by kernel_rfl) rfl rfl rfl (rfl) (srcNil) ((B8_one _)) (by simp) (([]:List UInt8).length) (by first | exact (List.length_append ..).symm | (simp; done) | (simp; omega)) (B8 ([]:List UInt8)) (by simp [B8]) (fun A13 c13=>?_)
 refine lm ?_
 refine la ?_
 refine la ?_
 refine liNil (qThen (stRet (sN [(vL A13 ([]:List UInt8) c13),(.int .i64 3)] fun w hM=>?_)))
 exact ⟨_,_,_,rfl,hM.fr,_,A,c,hX,hM.at (i:=0) rfl,ownsRow_fr HO.out hM.fr HNB.out⟩
theorem rvClose_ok_Byt (b0 b1 b2 br:Nat) (A:Option Addr) (n c:Nat) (off last start:Int) (w:World) (h0:At w b0 3 [Value.int .i64 start]) (h1:At w b1 124 [Value.pointer (some ⟨br,0,none⟩)]) (hr:At w br 187 [.slice A n c,Value.int .i64 off,Value.int .i64 last,Value.int .i64 0]) :
  CallsD Tryz.prog 166 #[Value.pointer (some ⟨b0,0,none⟩),Value.pointer (some ⟨b1,0,none⟩),Value.pointer (some ⟨b2,0,none⟩)] .returning w fun e u' w'=>u' = .returning∧e = .returned (.tuple #[])∧w'=w.setCell ⟨br,2,none⟩ (Value.int .i64 start):=by
 have c0:w.cell? ⟨b0,0,none⟩=some (Value.int .i64 start):=by rw [h0.cell]; rfl
 have c1:w.cell? ⟨b1,0,none⟩=some (Value.pointer (some ⟨br,0,none⟩)):=by rw [h1.cell]; rfl
 have c2:w.cell? ⟨br,2,none⟩=some (Value.int .i64 last):=by rw [hr.cell]; rfl
 have c3:w.cell? ⟨br,3,none⟩=some (Value.int .i64 0):=by rw [hr.cell]; rfl
 have z2:=hr.frozen 2
 have hne:b1≠br:=h1.ne hr (by decide)
 clear h0 h1 hr
 go_enter_d Tryz.func166,Tryz.ntmps166
 go_wp2_with fail
 go_end0
 exact ⟨rfl,rfl⟩
theorem rvClose_err_Byt (b0 b1 b2 br:Nat) (A:Option Addr) (n c:Nat) (off last start err:Int) (v:Value) (w:World) (h0:At w b0 3 [Value.int .i64 start]) (h1:At w b1 124 [Value.pointer (some ⟨br,0,none⟩)]) (h2:At w b2 23 [v]) (hr:At w br 187 [.slice A n c,Value.int .i64 off,Value.int .i64 last,Value.int .i64 err]) (he:err≠0) (hb:b2≠b0∧b2≠br) :
  CallsD Tryz.prog 166 #[Value.pointer (some ⟨b0,0,none⟩),Value.pointer (some ⟨b1,0,none⟩),Value.pointer (some ⟨b2,0,none⟩)] .returning w fun e u' w'=>u' = .returning∧e = .returned (.tuple #[])∧w'=((w.setCell ⟨br,2,none⟩ (Value.int .i64 start)).setCell ⟨br,1,none⟩ (Value.int .i64 start)).setCell ⟨b2,0,none⟩ (Value.slice none 0 0):=by
 have c0:w.cell? ⟨b0,0,none⟩=some (Value.int .i64 start):=by rw [h0.cell]; rfl
 have c1:w.cell? ⟨b1,0,none⟩=some (Value.pointer (some ⟨br,0,none⟩)):=by rw [h1.cell]; rfl
 have cr1:w.cell? ⟨br,1,none⟩=some (Value.int .i64 off):=by rw [hr.cell]; rfl
 have c2:w.cell? ⟨br,2,none⟩=some (Value.int .i64 last):=by rw [hr.cell]; rfl
 have c3:w.cell? ⟨br,3,none⟩=some (Value.int .i64 err):=by rw [hr.cell]; rfl
 have c4:w.cell? ⟨b2,0,none⟩=some v:=by rw [h2.cell]; rfl
 have z2:=hr.frozen 2
 have z1:=hr.frozen 1
 have z4:=h2.frozen 0
 have hne:b1≠br:=h1.ne hr (by decide)
 have hne2:b2≠br:=hb.2
 have hne0:b0≠br:=h0.ne hr (by decide)
 have heb:(err != 0)=true:=by simpa using he
 clear h0 h1 hr h2 he hb
 go_enter_d Tryz.func166,Tryz.ntmps166
 go_wp2_with fail
 go_end0
 exact ⟨rfl,rfl⟩
set_option maxHeartbeats 4000000 in
theorem readByt_some (br:Nat) (D:List UInt8) (off last m:Nat) (xs:List UInt8) (bx by_:Nat) (w:World) (hr:ReaderAt X w br D off last 0)
  (hdec:∀ W,Fr [] w W→ReaderAt X W br D off last 0→Calls Tryz.prog 124 #[Value.pointer (some ⟨bx,0,none⟩),Value.pointer (some ⟨by_,0,none⟩)] W fun e w'=>∃ A c,e = .returned (.tuple #[.slice A xs.length c,Value.int .i64 0])∧Fr [br] W w'∧ReaderAt X w' br D m last 0∧w'.ownsRow W.heap.size 5 1 (.slice A xs.length c) xs.length (B8 xs)) :
  Calls Tryz.prog 123 #[Value.pointer (some ⟨br,0,none⟩),.func (.func 124) #[] #[Value.pointer (some ⟨bx,0,none⟩),Value.pointer (some ⟨by_,0,none⟩)]] w fun e w'=>∃ A c,e = .returned (.slice A xs.length c)∧Fr [br] w w'∧ReaderAt X w' br D m off 0∧w'.ownsRow w.heap.size 5 1 (.slice A xs.length c) xs.length (B8 xs):=by
 obtain ⟨A,c,hX,ha,hrow⟩:=hr
 have c1:w.cell? ⟨br,1,none⟩=some (Value.int .i64 (off:Int)):=by rw [ha.cell]; rfl
 have c3:w.cell? ⟨br,3,none⟩=some (Value.int .i64 0):=by rw [ha.cell]; rfl
 have hlt:=ha.lt
 have HR:=Lib.hid (And.intro ha hrow)
 have HD:=Lib.hid hdec
 clear ha hrow hdec
 have hmf:∀ (fn:Fn) (first cap:Array Value) (w:World),(Instr.makeFunc fn first cap).run Tryz.prog w = .ok (.func fn first cap) w:=fun _ _ _ _=>rfl
 go_enter_defers Tryz.func123,Tryz.ntmps123
 go_wp2_with fail
 obtain ⟨W,hW⟩:∃ W,W=((w.alloc (Obj.cells #[Value.pointer (some ⟨br,0,none⟩)] 124)).alloc (Obj.cells #[Value.slice none 0 0] 23)).alloc (Obj.cells #[Value.int .i64 (off:Int)] 3):=⟨_,rfl⟩
 rw [← hW]
 have HW:Hid (At W w.heap.size 124 [Value.pointer (some ⟨br,0,none⟩)]∧At W (w.heap.size+1) 23 [Value.slice none 0 0]∧At W (w.heap.size+1+1) 3 [Value.int .i64 (off:Int)]∧Fr [] w W∧ReaderAt X W br D off last 0):=by
  rw [hW]
  refine ⟨((At.new w 124 [Value.pointer (some ⟨br,0,none⟩)]).alloc _).alloc _,?_,?_,(((Fr.refl _ _).alloc _).alloc _).alloc _,A,c,hX,((HR.out.1.alloc _).alloc _).alloc _,((HR.out.2.alloc _).alloc _).alloc _⟩
  ·have:=(At.new (w.alloc (Obj.cells #[Value.pointer (some ⟨br,0,none⟩)] 124)) 23 [Value.slice none 0 0]).alloc (Obj.cells #[Value.int .i64 (off:Int)] 3)
   simpa using this
  ·have:=At.new ((w.alloc (Obj.cells #[Value.pointer (some ⟨br,0,none⟩)] 124)).alloc (Obj.cells #[Value.slice none 0 0] 23)) 3 [Value.int .i64 (off:Int)]
   simpa using this
 clear hW c1 c3
 have d0:W.cell? ⟨w.heap.size,0,none⟩=some (Value.pointer (some ⟨br,0,none⟩)):=by rw [HW.out.1.cell]; rfl
 have nb1:w.heap.size≠br:=by omega
 have nb2:br≠w.heap.size:=by omega
 go_region_held3 (fun w'=>w'.cell? ⟨w.heap.size,0,none⟩=some (Value.pointer (some ⟨br,0,none⟩))) (go_keep) (first | (go_at_call 124; refine (HD.out W.drew (by exact HW.out.2.2.2.1.drew) (by exact HW.out.2.2.2.2)).mono ?_; rintro e w1 ⟨AV,cV,rfl,hf1,hr1,ho1⟩; obtain ⟨e0,e1,z1,e3,z3⟩:=rv_cells (W:=W) HW.out.1 HW.out.2.1 HW.out.2.2.2.2 hf1 hr1; have H1:=Lib.hid (And.intro hf1 hr1); have HO1:=Lib.hid ho1; clear hf1 hr1 ho1))
 go_wp2_with fail
 obtain ⟨k0,k1,k2,k3,kf⟩:=rv_end HW.out.1 HW.out.2.1 HW.out.2.2.1 HW.out.2.2.2.2 H1.out.1 H1.out.2 (.slice AV xs.length cV) (Value.int .i64 0) (by omega) (by decide)
 refine leaves_cons (f:=166) (args:=#[Value.pointer (some ⟨w.heap.size+1+1,0,none⟩),Value.pointer (some ⟨w.heap.size,0,none⟩),Value.pointer (some ⟨w.heap.size+1,0,none⟩)]) (by simp) (by simp [go_sem]) ?_
 obtain ⟨A',c',hX',k3'⟩:=k3
 refine (rvClose_ok_Byt _ _ _ br A' _ c' _ _ _ _ k2 k0 k3'.1).mono ?_
 rintro e u' w'' ⟨rfl,rfl,rfl⟩
 have hsz:w.heap.size+1+1 < W.drew.heap.size:=(At.drew HW.out.2.2.1).lt
 obtain ⟨g1,g2,g3⟩:=rv_done (off:=off) HW.out.2.2.2.1 kf (by omega) k1 (by decide) k3'.1 k3'.2 hX'
 exact ⟨.slice AV xs.length cV,by simp [results,Tryz.results123,go_sem,g1],AV,cV,rfl,g2,g3,rv_own HO1.out (b2:=w.heap.size+1) (br:=br) (((((Fr.refl _ _).setCell (.inl (by simp)) _).setCell (.inl (by simp)) _).setCell (.inl (by simp)) _).setCell (.inl (by simp)) _) (by omega) (by omega) (by omega)⟩
set_option maxHeartbeats 4000000 in
theorem readByt_none (br:Nat) (D:List UInt8) (off last:Nat) (er:Int)  (bx by_:Nat) (w:World) (hr:ReaderAt X w br D off last 0) (he:er≠0)
  (hdec:∀ W,Fr [] w W→ReaderAt X W br D off last 0→Calls Tryz.prog 124 #[Value.pointer (some ⟨bx,0,none⟩),Value.pointer (some ⟨by_,0,none⟩)] W fun e w'=>∃ A n c,e = .returned (.tuple #[.slice A n c,Value.int .i64 er])∧Fr [br] W w'∧∃ off':Nat,ReaderAt X w' br D off' last 0) :
  Calls Tryz.prog 123 #[Value.pointer (some ⟨br,0,none⟩),.func (.func 124) #[] #[Value.pointer (some ⟨bx,0,none⟩),Value.pointer (some ⟨by_,0,none⟩)]] w fun e w'=>e = .returned (Value.slice none 0 0)∧Fr [br] w w'∧ReaderAt X w' br D off off er:=by
 have HE:=Lib.hid he
 clear he
 obtain ⟨A,c,hX,ha,hrow⟩:=hr
 have c1:w.cell? ⟨br,1,none⟩=some (Value.int .i64 (off:Int)):=by rw [ha.cell]; rfl
 have c3:w.cell? ⟨br,3,none⟩=some (Value.int .i64 0):=by rw [ha.cell]; rfl
 have hlt:=ha.lt
 have HR:=Lib.hid (And.intro ha hrow)
 have HD:=Lib.hid hdec
 clear ha hrow hdec
 have hmf:∀ (fn:Fn) (first cap:Array Value) (w:World),(Instr.makeFunc fn first cap).run Tryz.prog w = .ok (.func fn first cap) w:=fun _ _ _ _=>rfl
 go_enter_defers Tryz.func123,Tryz.ntmps123
 go_wp2_with fail
 obtain ⟨W,hW⟩:∃ W,W=((w.alloc (Obj.cells #[Value.pointer (some ⟨br,0,none⟩)] 124)).alloc (Obj.cells #[Value.slice none 0 0] 23)).alloc (Obj.cells #[Value.int .i64 (off:Int)] 3):=⟨_,rfl⟩
 rw [← hW]
 have HW:Hid (At W w.heap.size 124 [Value.pointer (some ⟨br,0,none⟩)]∧At W (w.heap.size+1) 23 [Value.slice none 0 0]∧At W (w.heap.size+1+1) 3 [Value.int .i64 (off:Int)]∧Fr [] w W∧ReaderAt X W br D off last 0):=by
  rw [hW]
  refine ⟨((At.new w 124 [Value.pointer (some ⟨br,0,none⟩)]).alloc _).alloc _,?_,?_,(((Fr.refl _ _).alloc _).alloc _).alloc _,A,c,hX,((HR.out.1.alloc _).alloc _).alloc _,((HR.out.2.alloc _).alloc _).alloc _⟩
  ·have:=(At.new (w.alloc (Obj.cells #[Value.pointer (some ⟨br,0,none⟩)] 124)) 23 [Value.slice none 0 0]).alloc (Obj.cells #[Value.int .i64 (off:Int)] 3)
   simpa using this
  ·have:=At.new ((w.alloc (Obj.cells #[Value.pointer (some ⟨br,0,none⟩)] 124)).alloc (Obj.cells #[Value.slice none 0 0] 23)) 3 [Value.int .i64 (off:Int)]
   simpa using this
 clear hW c1 c3
 have d0:W.cell? ⟨w.heap.size,0,none⟩=some (Value.pointer (some ⟨br,0,none⟩)):=by rw [HW.out.1.cell]; rfl
 have nb1:w.heap.size≠br:=by omega
 have nb2:br≠w.heap.size:=by omega
 go_region_held3 (fun w'=>w'.cell? ⟨w.heap.size,0,none⟩=some (Value.pointer (some ⟨br,0,none⟩))) (go_keep) (first | (go_at_call 124; refine (HD.out W.drew (by exact HW.out.2.2.2.1.drew) (by exact HW.out.2.2.2.2)).mono ?_; rintro e w1 ⟨AV,nV,cV,rfl,hf1,off',hr1⟩; obtain ⟨e0,e1,z1,e3,z3⟩:=rv_cells (W:=W) HW.out.1 HW.out.2.1 HW.out.2.2.2.2 hf1 hr1; have H1:=Lib.hid (And.intro hf1 hr1); clear hf1 hr1))
 go_wp2_with fail
 obtain ⟨k0,k1,k2,k3,kf⟩:=rv_end HW.out.1 HW.out.2.1 HW.out.2.2.1 HW.out.2.2.2.2 H1.out.1 H1.out.2 (.slice AV nV cV) (Value.int .i64 er) (by omega) (by decide)
 refine leaves_cons (f:=166) (args:=#[Value.pointer (some ⟨w.heap.size+1+1,0,none⟩),Value.pointer (some ⟨w.heap.size,0,none⟩),Value.pointer (some ⟨w.heap.size+1,0,none⟩)]) (by simp) (by simp [go_sem]) ?_
 obtain ⟨A',c',hX',k3'⟩:=k3
 refine (rvClose_err_Byt _ _ _ br A' _ c' _ _ _ er (.slice AV nV cV) _ k2 k0 k1 k3'.1 HE.out (by omega)).mono ?_
 rintro e u' w'' ⟨rfl,rfl,rfl⟩
 obtain ⟨g1,g2,g3⟩:=rv_failed (off:=off) (z:=Value.slice none 0 0) HW.out.2.2.2.1 kf (by omega) k1 (by decide) (by decide) k3'.1 k3'.2 hX'
 exact ⟨Value.slice none 0 0,by simp [results,Tryz.results123,go_sem,g1],rfl,g2,g3⟩
theorem readByt_err (br:Nat) (r:Rd) (fv:Value) (w:World) (hr:RdAt X w br r) (h0:r.err≠0) :
  Calls Tryz.prog 123 #[Value.pointer (some ⟨br,0,none⟩),fv] w fun e w'=>e = .returned (Value.slice none 0 0)∧Fr [] w w'∧RdAt X w' br r:=by
 have hr0:=hr
 obtain ⟨A,c,hX,ha,hrow⟩:=hr
 have c3:w.cell? ⟨br,3,none⟩=some (Value.int .i64 r.err):=by rw [ha.cell]; rfl
 have hb:(r.err != 0)=true:=by simpa using h0
 have hlt:=ha.lt
 have HR:=Lib.hid hr0
 clear ha hrow hr0 h0
 go_enter_defers Tryz.func123,Tryz.ntmps123
 go_wp2_with fail
 have hf:Fr [] w ((w.alloc (Obj.cells #[Value.pointer (some ⟨br,0,none⟩)] 124)).alloc (Obj.cells #[Value.slice none 0 0] 23)):=((Fr.refl _ _).alloc _).alloc _
 exact ⟨Value.slice none 0 0,by simp [results,Tryz.results123,go_sem],rfl,hf,ReaderAt.fr HR.out hf⟩
theorem rBytes_err (br:Nat) (r:Rd) (most:Nat) (w:World) (hr:RdAt X w br r) (_hk:r.Ok) (_hm:most≤4294967296) (h0:r.err≠0) :
  Calls Tryz.prog 74 #[Value.pointer (some ⟨br,0,none⟩),Value.int .i64 (most:Int)] w fun e w'=>e = .returned (.slice none 0 0)∧(r.text most).1=[]∧Fr [br] w w'∧RdAt X w' br (r.text most).2:=by
 have HR:=Lib.hid hr
 clear hr
 refine sE2 Tryz.func74 8 (Mm.start w []) ?_
 refine stSeq (reg (li rfl (oBx [(vP br 0)] fun b2=>?_)))
 refine li rfl (oBx [(vI most)] fun b3=>?_)
 refine la ?_
 refine liNil (qThen (stSeq (reg (ll 0 ?_))))
 refine lc (.func (.func 124) #[] #[(vP b2 0),(vP b3 0)]) ?_
 refine li rfl (opCallB 123 #[(vP br 0),(.func (.func 124) #[] #[(vP b2 0),(vP b3 0)])] rfl (by kernel_rfl) (fun _=>by kernel_rfl) (fun w1 hM=>?_))
 have HR1:Hid (RdAt X w1 br r):=ReaderAt.fr HR.out hM.fr
 have HB1:Hid (At w1 b2 124 [Value.pointer (some ⟨br,0,none⟩)]):=hM.at (i:=0) rfl
 have HB2:Hid (At w1 b3 3 [Value.int .i64 (most:Int)]):=hM.at (i:=1) rfl
 have HF1:=Lib.hid hM.fr
 refine (readByt_err br r _ w1 HR1.out h0).mono ?_
 rintro e w2 ⟨rfl,hf,hr2⟩
 refine ⟨_,w2,[],[],rfl,Mm.start w2 [],?_⟩
 clear hM
 refine la ?_
 refine liNil (qThen (stRet (sN [(.slice none 0 0)] fun w hM=>?_)))
 exact ⟨rfl,by unfold Rd.text; rw [if_neg h0],((HF1.out.trans hf).trans hM.fr).mono (by simp),by unfold Rd.text; rw [if_neg h0]; exact ReaderAt.fr hr2 hM.fr⟩
theorem rBytes_ok (br:Nat) (r:Rd) (most:Nat) (w:World) (hr:RdAt X w br r) (hk:r.Ok) (hm:most≤4294967296) (h0:r.err=0) (n m:Nat) (hd:rdNum r.D r.off=some (n,m)) (hn:n≤most) (hf':m+n≤r.D.length) :
  Calls Tryz.prog 74 #[Value.pointer (some ⟨br,0,none⟩),Value.int .i64 (most:Int)] w fun e w'=>∃ A c,e = .returned (.slice A ((r.D.drop m).take n).length c)∧Fr [br] w w'∧RdAt X w' br (r.text most).2∧w'.ownsRow w.heap.size 5 1 (.slice A ((r.D.drop m).take n).length c) ((r.D.drop m).take n).length (B8 ((r.D.drop m).take n)):=by
 have HR:=Lib.hid hr
 clear hr
 refine sE2 Tryz.func74 8 (Mm.start w []) ?_
 refine stSeq (reg (li rfl (oBx [(vP br 0)] fun b2=>?_)))
 refine li rfl (oBx [(vI most)] fun b3=>?_)
 refine la ?_
 refine liNil (qThen (stSeq (reg (ll 0 ?_))))
 refine lc (.func (.func 124) #[] #[(vP b2 0),(vP b3 0)]) ?_
 refine li rfl (opCallB 123 #[(vP br 0),(.func (.func 124) #[] #[(vP b2 0),(vP b3 0)])] rfl (by kernel_rfl) (fun _=>by kernel_rfl) (fun w1 hM=>?_))
 have HR1:Hid (RdAt X w1 br r):=ReaderAt.fr HR.out hM.fr
 have HB1:Hid (At w1 b2 124 [Value.pointer (some ⟨br,0,none⟩)]):=hM.at (i:=0) rfl
 have HB2:Hid (At w1 b3 3 [Value.int .i64 (most:Int)]):=hM.at (i:=1) rfl
 have HF1:=Lib.hid hM.fr
 refine (readByt_some br r.D r.off r.last (m+n) ((r.D.drop m).take n) b2 b3 w1 (by have h:=HR1.out; unfold RdAt at h; rw [h0] at h; exact h) (fun W hf hr=>bytc_ok b2 b3 br r.D r.off r.last most W (HB1.out.fr hf (by simp)) (HB2.out.fr hf (by simp)) hr hk.len hk.off hm n m hd hn hf')).mono ?_
 rintro e w2 ⟨AV,cV,rfl,hf,hr2,ho2⟩
 refine ⟨_,w2,[],[],rfl,Mm.start w2 [],?_⟩
 clear hM
 refine la ?_
 refine liNil (qThen (stRet (sN [(vL AV ((r.D.drop m).take n) cV)] fun w hM=>?_)))
 exact ⟨AV,cV,rfl,((HF1.out.mono (by simp)).trans hf).trans (hM.fr.mono (by simp)),by unfold Rd.text; rw [if_pos h0,hd]; dsimp only; rw [if_neg (by omega),if_pos hf']; unfold Rd.done RdAt; have h:=ReaderAt.fr hr2 hM.fr; rw [← h0] at h; exact h,ownsRow_base (ownsRow_fr ho2 hM.fr (by simp)) (by have:=HF1.out.size; omega)⟩
theorem rBytes_few (br:Nat) (r:Rd) (most:Nat) (w:World) (hr:RdAt X w br r) (hk:r.Ok) (hm:most≤4294967296) (h0:r.err=0) (n m:Nat) (hd:rdNum r.D r.off=some (n,m)) (hn:n≤most) (hf':r.D.length < m+n) :
  Calls Tryz.prog 74 #[Value.pointer (some ⟨br,0,none⟩),Value.int .i64 (most:Int)] w fun e w'=>e = .returned (.slice none 0 0)∧(r.text most).1=[]∧Fr [br] w w'∧RdAt X w' br (r.text most).2:=by
 have HR:=Lib.hid hr
 clear hr
 refine sE2 Tryz.func74 8 (Mm.start w []) ?_
 refine stSeq (reg (li rfl (oBx [(vP br 0)] fun b2=>?_)))
 refine li rfl (oBx [(vI most)] fun b3=>?_)
 refine la ?_
 refine liNil (qThen (stSeq (reg (ll 0 ?_))))
 refine lc (.func (.func 124) #[] #[(vP b2 0),(vP b3 0)]) ?_
 refine li rfl (opCallB 123 #[(vP br 0),(.func (.func 124) #[] #[(vP b2 0),(vP b3 0)])] rfl (by kernel_rfl) (fun _=>by kernel_rfl) (fun w1 hM=>?_))
 have HR1:Hid (RdAt X w1 br r):=ReaderAt.fr HR.out hM.fr
 have HB1:Hid (At w1 b2 124 [Value.pointer (some ⟨br,0,none⟩)]):=hM.at (i:=0) rfl
 have HB2:Hid (At w1 b3 3 [Value.int .i64 (most:Int)]):=hM.at (i:=1) rfl
 have HF1:=Lib.hid hM.fr
 refine (readByt_none br r.D r.off r.last 3 b2 b3 w1 (by have h:=HR1.out; unfold RdAt at h; rw [h0] at h; exact h) (by decide) (fun W hf hr=>bytc_few b2 b3 br r.D r.off r.last most W (HB1.out.fr hf (by simp)) (HB2.out.fr hf (by simp)) hr hk.len hk.off hm n m hd hn hf')).mono ?_
 rintro e w2 ⟨rfl,hf,hr2⟩
 refine ⟨_,w2,[],[],rfl,Mm.start w2 [],?_⟩
 clear hM
 refine la ?_
 refine liNil (qThen (stRet (sN [(.slice none 0 0)] fun w hM=>?_)))
 exact ⟨rfl,by unfold Rd.text; rw [if_pos h0,hd]; dsimp only; rw [if_neg (by omega),if_neg (by omega)],((HF1.out.mono (by simp)).trans hf).trans (hM.fr.mono (by simp)),by unfold Rd.text; rw [if_pos h0,hd]; dsimp only; rw [if_neg (by omega),if_neg (by omega)]; unfold Rd.fail RdAt; exact ReaderAt.fr hr2 hM.fr⟩
theorem rBytes_big (br:Nat) (r:Rd) (most:Nat) (w:World) (hr:RdAt X w br r) (hk:r.Ok) (hm:most≤4294967296) (h0:r.err=0) (n m:Nat) (hd:rdNum r.D r.off=some (n,m)) (hn:most < n) :
  Calls Tryz.prog 74 #[Value.pointer (some ⟨br,0,none⟩),Value.int .i64 (most:Int)] w fun e w'=>e = .returned (.slice none 0 0)∧(r.text most).1=[]∧Fr [br] w w'∧RdAt X w' br (r.text most).2:=by
 have HR:=Lib.hid hr
 clear hr
 refine sE2 Tryz.func74 8 (Mm.start w []) ?_
 refine stSeq (reg (li rfl (oBx [(vP br 0)] fun b2=>?_)))
 refine li rfl (oBx [(vI most)] fun b3=>?_)
 refine la ?_
 refine liNil (qThen (stSeq (reg (ll 0 ?_))))
 refine lc (.func (.func 124) #[] #[(vP b2 0),(vP b3 0)]) ?_
 refine li rfl (opCallB 123 #[(vP br 0),(.func (.func 124) #[] #[(vP b2 0),(vP b3 0)])] rfl (by kernel_rfl) (fun _=>by kernel_rfl) (fun w1 hM=>?_))
 have HR1:Hid (RdAt X w1 br r):=ReaderAt.fr HR.out hM.fr
 have HB1:Hid (At w1 b2 124 [Value.pointer (some ⟨br,0,none⟩)]):=hM.at (i:=0) rfl
 have HB2:Hid (At w1 b3 3 [Value.int .i64 (most:Int)]):=hM.at (i:=1) rfl
 have HF1:=Lib.hid hM.fr
 refine (readByt_none br r.D r.off r.last 2 b2 b3 w1 (by have h:=HR1.out; unfold RdAt at h; rw [h0] at h; exact h) (by decide) (fun W hf hr=>bytc_big b2 b3 br r.D r.off r.last most W (HB1.out.fr hf (by simp)) (HB2.out.fr hf (by simp)) hr hk.len hk.off hm n m hd hn)).mono ?_
 rintro e w2 ⟨rfl,hf,hr2⟩
 refine ⟨_,w2,[],[],rfl,Mm.start w2 [],?_⟩
 clear hM
 refine la ?_
 refine liNil (qThen (stRet (sN [(.slice none 0 0)] fun w hM=>?_)))
 exact ⟨rfl,by unfold Rd.text; rw [if_pos h0,hd]; dsimp only; rw [if_pos hn],((HF1.out.mono (by simp)).trans hf).trans (hM.fr.mono (by simp)),by unfold Rd.text; rw [if_pos h0,hd]; dsimp only; rw [if_pos hn]; unfold Rd.fail RdAt; exact ReaderAt.fr hr2 hM.fr⟩
theorem rBytes_none (br:Nat) (r:Rd) (most:Nat) (w:World) (hr:RdAt X w br r) (hk:r.Ok) (hm:most≤4294967296) (h0:r.err=0) (hd:rdNum r.D r.off=none) :
  Calls Tryz.prog 74 #[Value.pointer (some ⟨br,0,none⟩),Value.int .i64 (most:Int)] w fun e w'=>e = .returned (.slice none 0 0)∧(r.text most).1=[]∧Fr [br] w w'∧RdAt X w' br (r.text most).2:=by
 have HR:=Lib.hid hr
 clear hr
 refine sE2 Tryz.func74 8 (Mm.start w []) ?_
 refine stSeq (reg (li rfl (oBx [(vP br 0)] fun b2=>?_)))
 refine li rfl (oBx [(vI most)] fun b3=>?_)
 refine la ?_
 refine liNil (qThen (stSeq (reg (ll 0 ?_))))
 refine lc (.func (.func 124) #[] #[(vP b2 0),(vP b3 0)]) ?_
 refine li rfl (opCallB 123 #[(vP br 0),(.func (.func 124) #[] #[(vP b2 0),(vP b3 0)])] rfl (by kernel_rfl) (fun _=>by kernel_rfl) (fun w1 hM=>?_))
 have HR1:Hid (RdAt X w1 br r):=ReaderAt.fr HR.out hM.fr
 have HB1:Hid (At w1 b2 124 [Value.pointer (some ⟨br,0,none⟩)]):=hM.at (i:=0) rfl
 have HB2:Hid (At w1 b3 3 [Value.int .i64 (most:Int)]):=hM.at (i:=1) rfl
 have HF1:=Lib.hid hM.fr
 refine (readByt_none br r.D r.off r.last 3 b2 b3 w1 (by have h:=HR1.out; unfold RdAt at h; rw [h0] at h; exact h) (by decide) (fun W hf hr=>bytc_none b2 b3 br r.D r.off r.last most W (HB1.out.fr hf (by simp)) (HB2.out.fr hf (by simp)) hr hk.len hk.off hm hd)).mono ?_
 rintro e w2 ⟨rfl,hf,hr2⟩
 refine ⟨_,w2,[],[],rfl,Mm.start w2 [],?_⟩
 clear hM
 refine la ?_
 refine liNil (qThen (stRet (sN [(.slice none 0 0)] fun w hM=>?_)))
 exact ⟨rfl,by unfold Rd.text; rw [if_pos h0,hd],((HF1.out.mono (by simp)).trans hf).trans (hM.fr.mono (by simp)),by unfold Rd.text; rw [if_pos h0,hd]; dsimp only; unfold Rd.fail RdAt; exact ReaderAt.fr hr2 hM.fr⟩
theorem rBytes (br:Nat) (r:Rd) (most:Nat) (w:World) (hr:RdAt X w br r) (hk:r.Ok) (hm:most≤4294967296):Calls Tryz.prog 74 #[Value.pointer (some ⟨br,0,none⟩),Value.int .i64 (most:Int)] w fun e w'=>∃ A c,e = .returned (.slice A (r.text most).1.length c)∧Fr [br] w w'∧RdAt X w' br (r.text most).2∧w'.ownsRow w.heap.size 5 1 (.slice A (r.text most).1.length c) (r.text most).1.length (B8 (r.text most).1):=by
 have nil:∀ {e:Ending} {w':World},(e = .returned (.slice none 0 0)∧(r.text most).1=[]∧Fr [br] w w'∧RdAt X w' br (r.text most).2)→∃ A c,e = .returned (.slice A (r.text most).1.length c)∧Fr [br] w w'∧RdAt X w' br (r.text most).2∧w'.ownsRow w.heap.size 5 1 (.slice A (r.text most).1.length c) (r.text most).1.length (B8 (r.text most).1):=by
  rintro e w' ⟨rfl,h1,h2,h3⟩
  rw [h1]
  exact ⟨none,0,rfl,h2,h3,rowNil⟩
 by_cases h0:r.err=0
 ·cases hd:rdNum r.D r.off with
  | none=>exact (rBytes_none br r most w hr hk hm h0 hd).mono fun e w' h=>nil h
  | some p =>
    obtain ⟨n,m⟩:=p
    by_cases hn:n≤most
    ·by_cases hf:m+n≤r.D.length
     ·have ht:(r.text most).1=(r.D.drop m).take n:=by unfold Rd.text; rw [if_pos h0,hd]; dsimp only; rw [if_neg (by omega),if_pos hf]
      rw [ht]
      exact rBytes_ok br r most w hr hk hm h0 n m hd hn hf
     ·exact (rBytes_few br r most w hr hk hm h0 n m hd hn (by omega)).mono fun e w' h=>nil h
    ·exact (rBytes_big br r most w hr hk hm h0 n m hd (by omega)).mono fun e w' h=>nil h
 ·exact (rBytes_err br r most w hr hk hm h0).mono fun e w' h=>nil h
end
theorem rd_back_own {X:Option Addr × Nat} {br:Nat} {r r':Rd} {w w':World} {A:Option Addr} {c n:Nat} {xs:List Value} (hO:Own [cRd X br r] w) (hf:Fr [br] w w') (hr:RdAt X w' br r') (hk:r'.Ok) (ho:w'.ownsRow w.heap.size 5 1 (.slice A n c) n xs):Back [cRd X br r] w [cRd X br r',cOwn 5 1 A n c xs] w':=by
 exact (rd_back hO hf hr hk).addOwn (fun b hb=>hO.ltAll hb) (Nat.le_refl _) ho
theorem rsRBytes_any (X:Option Addr × Nat) (br:Nat) (r:Rd) (most:Nat) (w:World) (hO:Own [cRd X br (r)] w) (hm:most≤4294967296) :
  Calls Tryz.prog 74 #[(vP br 0),(vI most)] w fun e w'=>∃ (B:Option Addr) (cb:Nat),e = .returned (vL B ((r.text most).1) cb)∧Back [cRd X br (r)] w [cRd X br ((r.text most).2),cB B ((r.text most).1) cb] w':=by
 have h:=hO.at (i:=0) rfl; obtain ⟨hr,hk⟩:RdAt X w br r∧r.Ok:=h
 refine (rBytes br r most w hr hk hm).mono ?_
 rintro e w' ⟨A,c,rfl,hf,hr2,ho⟩
 exact ⟨A,c,rfl,rd_back_own hO hf hr2 (hk.text most) ho⟩
end
theorem rsRItems_any (X:Option Addr × Nat) (br:Nat) (r:Rd) (most:Nat) (w:World) (hO:Own [cRd X br (r)] w) (hm:most≤65536) :
  Calls Tryz.prog 216 #[(vP br 0),(vI most)] w fun e w'=>∃ (B:Option Addr) (cb:Nat),e = .returned (vL B ((r.items most).1) cb)∧Back [cRd X br (r)] w [cRd X br ((r.items most).2),cS B ((r.items most).1) cb] w':=by
 refine sE2 Tryz.func216 26 (hO) ?_
 refine stSeq (reg (la ?_))
 refine liNil (qThen (stSeq (St.fact (fun w hM=>(hM.at (i:=0) (c:=cRd X br r) rfl).2.len) (fun hrl=>?_))))
 refine reg (lm ?_)
 refine lm ?_
 refine lm ?_
 refine li rfl (opK [0] _ (fun w hM hO=>(rsRLeft_any X br r w hO).mono ?_))
 rintro e w' ⟨rfl,hP⟩
 refine ⟨_,[_],_,rfl,hP,rfl,?_⟩; clear hP hM hO
 refine lv (v:=(vI ((r.D.length - r.off) / 32))) (rQuoN rfl rfl rfl (by omega) (by omega)) ?_
 refine lv (v:=(vI (r.most most))) (rMinN rfl rfl rfl) ?_
 have hml:r.most most≤most:=Nat.min_le_left _ _
 refine li rfl (opK [0] _ (fun w hM hO=>(rsRCount_any X br r (r.most most) w hO (by omega)).mono ?_))
 rintro e w' ⟨rfl,hP⟩
 refine ⟨_,[_],_,rfl,hP,rfl,?_⟩; clear hP hM hO
 have hcl:=r.cnt_le (r.most most)
 refine la ?_
 refine liNil (qThen (stSeq (reg (lm ?_))))
 refine li rfl (opMk0 el_strC ((r.cnt (r.most most)).1) (by omega) rfl rfl (by kernel_rfl) rfl rfl (fun b15=>?_) (by omega))
 refine la ?_
 refine liNil (qThen (stSeq (stSeq (reg (lm ?_)))))
 refine lm ?_
 refine liNil (qThen (stBlock (sL (fun (i,AX,cX)=>i≤(r.cnt (r.most most)).1) (fun (i,AX,cX)=>(r.cnt (r.most most)).1 - i) (fun (i,AX,cX)=>[(0,(vP br 0)),(4,(.slice none 0 0)),(16,(vI ((r.cnt (r.most most)).1))),(6,(vL AX (((r.cnt (r.most most)).2.sums i).1) cX)),(17,(vI i))]) (fun (i,AX,cX)=>[cRd X br (((r.cnt (r.most most)).2.sums i).2),cS AX (((r.cnt (r.most most)).2.sums i).1) cX]) (0,(some ⟨b15,0,none⟩),((r.cnt (r.most most)).1)) (Nat.zero_le _) (fun w hM=>by show Mm _ _ [cRd X br (((r.cnt (r.most most)).2.sums 0).2),cS (some ⟨b15,0,none⟩) (((r.cnt (r.most most)).2.sums 0).1) (((r.cnt (r.most most)).1))] w; exact hM) ?_)))
 rintro ⟨i,AX,cX⟩ (hok:i≤(r.cnt (r.most most)).1)
 dsimp only
 refine stSeq (reg (lc (.bool (decide (((i:Nat):Int) < (((r.cnt (r.most most)).1:Nat):Int)))) ?_))
 refine liNil (qThen (stSeq (stCond rfl (fun hc18=>?_) (fun hc18=>?_))))
 ·have hd18:=of_decide_eq_true hc18
  refine stSkip (qThen (stSeq (stBlock (reg (lm ?_)))))
  refine lm ?_
  refine li rfl (opK [0] _ (fun w hM hO=>(rsRSum_any X br (((r.cnt (r.most most)).2.sums i).2) w hO).mono ?_))
  rintro e w' ⟨rfl,hP⟩
  refine ⟨_,[_],_,rfl,hP,rfl,?_⟩; clear hP hM hO
  refine li rfl (oNw 1 9 [(vS ((((r.cnt (r.most most)).2.sums i).2).sum.1))] fun b22=>?_)
  refine li rfl (opAppend el_strC 1 ([(vS ((((r.cnt (r.most most)).2.sums i).2).sum.1))]) rfl rfl (by kernel_rfl) rfl rfl rfl (rfl) (srcAt (i:=2) rfl (fun j v h=>by rw [Nat.zero_add]; exact h)) (by simp [Value.oneCell']) (by rw [Rd.sums_len]; omega) ((((r.cnt (r.most most)).2.sums i).1++[(((r.cnt (r.most most)).2.sums i).2).sum.1]).length) (by first | exact (List.length_append ..).symm | (simp; done) | (simp; omega)) (SS (((r.cnt (r.most most)).2.sums i).1++[(((r.cnt (r.most most)).2.sums i).2).sum.1])) (by simp [SS]) (fun A23 c23=>?_))
  refine la ?_
  refine liNil (qBlock (qThen (reg ?_)))
  refine lv (v:=(vI (i+1))) rAd ?_
  refine lm ?_
  exact liNil (qThen (sA (i+1,A23,c23) (by show _≤_; omega) (by show (r.cnt (r.most most)).1 - (i+1) < (r.cnt (r.most most)).1 - i; omega) (fun w hM=>by show Mm _ _ [cRd X br (((r.cnt (r.most most)).2.sums (i+1)).2),cS A23 (((r.cnt (r.most most)).2.sums (i+1)).1) c23] w; exact (hM.pick [0,1] rfl rfl))))
 ·have hd18:=of_decide_eq_false hc18
  obtain rfl:i=(r.cnt (r.most most)).1:=by omega
  refine stExit (qThenX (qThenX (qBlockX (qThen (stSeq (reg ?_))))))
  refine lm ?_
  refine la ?_
  refine liNil (qThen (stRet (sN [(vL AX (((r.cnt (r.most most)).2.sums (r.cnt (r.most most)).1).1) cX)] fun w hM=>?_)))
  exact ⟨AX,cX,rfl,hM⟩
theorem rsSFits_any (n:Nat) (f lo hi:List UInt8) (w:World) :
  Calls Tryz.prog 242 #[(.agg #[(vI n),(vS f)]),(.agg #[(vS lo),(vS hi)])] w fun e w'=>e = .returned (.bool true)∧Back [] w [] w':=by
 refine sE2 Tryz.func242 5 (Mm.start w []) ?_
 refine stSeq (reg (li rfl (oBx [(vI n),(vS f)] fun b2=>?_)))
 refine li rfl (oBx [(vS lo),(vS hi)] fun b3=>?_)
 refine la ?_
 refine liNil (qThen (stSeq (reg (la ?_))))
 refine liNil (qThen (stRet (sN [(.bool true)] fun w hM=>?_)))
 exact ⟨rfl,(hM.pick [] rfl rfl)⟩
theorem rsLFits_any (A:Option Addr) (c:Nat) (l:List (List UInt8)) (lo hi:List UInt8) (w:World) (r0:Rf [] w (fun w=>RowIn w A (SS l))) (hl:l.length≤68719476736) :
  Calls Tryz.prog 244 #[(.agg #[(vL A l c)]),(.agg #[(vS lo),(vS hi)])] w fun e w'=>e = .returned (.bool (ordOk l lo hi))∧Back [] w [] w':=by
 refine sE2 Tryz.func244 9 (Mm.start w []) ?_
 refine stSeq (reg (li rfl (oBx [(vL A l c)] fun b2=>?_)))
 refine li rfl (oBx [(vS lo),(vS hi)] fun b3=>?_)
 refine la ?_
 refine liNil (qThen (stSeq (reg (lc (vP b2 0) ?_))))
 refine ll 0 ?_
 refine lv (rA 1 [(vS lo),(vS hi)]) ?_
 refine li rfl (opK0 (fun w hM=>(rsInOrder_any A c l lo hi w (r0.go0 hM) (by omega)).mono ?_))
 rintro e w' ⟨rfl,hP⟩
 refine ⟨_,_,rfl,hP,?_⟩; clear hP hM
 refine la ?_
 refine liNil (qThen (stRet (sN [(.bool (ordOk l lo hi))] fun w hM=>?_)))
 exact ⟨rfl,(hM.pick [] rfl rfl)⟩
theorem rsAFits_any (A:Option Addr) (c:Nat) (l:List (List UInt8)) (A2:Option Addr) (c2:Nat) (m:List (List UInt8)) (lo hi:List UInt8) (w:World) (r0:Rf [] w (fun w=>RowIn w A (SS l))) (r1:Rf [] w (fun w=>RowIn w A2 (SS m))) (hl:l.length≤68719476736) (hl2:m.length≤68719476736) :
  Calls Tryz.prog 249 #[(.agg #[(vL A l c),(vL A2 m c2)]),(.agg #[(vS lo),(vS hi)])] w fun e w'=>e = .returned (.bool (ordOk l lo hi && ordOk m lo hi))∧Back [] w [] w':=by
 refine sE2 Tryz.func249 15 (Mm.start w []) ?_
 refine stSeq (reg (li rfl (oBx [(vL A l c),(vL A2 m c2)] fun b2=>?_)))
 refine li rfl (oBx [(vS lo),(vS hi)] fun b3=>?_)
 refine la ?_
 refine liNil (qThen (stSeq (reg (lc (vP b2 0) ?_))))
 refine ll 0 ?_
 refine lv (rA 1 [(vS lo),(vS hi)]) ?_
 refine li rfl (opK0 (fun w hM=>(rsInOrder_any A c l lo hi w (r0.go0 hM) (by omega)).mono ?_))
 rintro e w' ⟨rfl,hP⟩
 refine ⟨_,_,rfl,hP,?_⟩; clear hP hM
 refine lm ?_
 refine St.dec 9 rfl (fun hc9=>?_) (fun hc9=>?_)
 ·refine lgc (vP b2 1) ?_
  refine lgv (v:=(vL A2 m c2)) (rLoad 0 rfl rfl (by kernel_rfl) rfl rfl) ?_
  refine lgv (v:=(.agg #[(vS lo),(vS hi)])) (rLoadA [(vS lo),(vS hi)] rfl rfl (by kernel_rfl) (by kernel_rfl) (segAt (i:=1) rfl (by intro j v hj; first | (rw [Nat.zero_add]; exact hj) | (match j,hj with | 0,h=>exact h | 1,h=>exact h)))) ?_
  refine liGo rfl rfl ?_
  refine opK0 (fun w hM=>(rsInOrder_any A2 c2 m lo hi w (r1.go0 hM) (by omega)).mono ?_)
  rintro e w' ⟨rfl,hP⟩
  refine ⟨_,_,rfl,hP,?_⟩; clear hP hM
  refine lc (.bool (ordOk m lo hi)) ?_
  refine la ?_
  refine liNil (qThen (stRet (sN [(.bool (ordOk m lo hi))] fun w hM=>?_)))
  exact ⟨ret_bool (by simp_all),(hM.pick [] rfl rfl)⟩
 ·refine lnF ?_
  iterate 3 refine lnF ?_
  refine lc (.bool false) ?_
  refine la ?_
  refine liNil (qThen (stRet (sN [(.bool false)] fun w hM=>?_)))
  exact ⟨ret_bool (by simp_all),(hM.pick [] rfl rfl)⟩
theorem ret_part (v:Value) (b:Bool) {p:AP}:(Ending.returned (.tuple #[v,.bool b])) = .returned (.tuple #[v,.bool (if b=true then some p else none).isSome]):=by cases b <;> rfl
theorem ones3 {a b c:Value} (h1:a.oneCell'=true) (h2:b.oneCell'=true) (h3:c.oneCell'=true):∀ u∈[a,b,c],u.oneCell'=true:=by
 intro u hu
 simp only [List.mem_cons,List.not_mem_nil,or_false] at hu
 rcases hu with rfl | rfl | rfl <;> assumption
theorem part_of {b:Bool} {p q:AP} (h:(if b=true then some q else none)=some p):q=p:=by
 cases b
 ·cases h
 ·exact Option.some.inj h
theorem rsRUint_v (X:Option Addr × Nat) (br:Nat) (r:Rd) (w:World) (hO:Own [cRd X br (r)] w) :
  Calls Tryz.prog 102 #[(vP br 0)] w fun e w'=>∃ (n:Nat) (r2:Rd),e = .returned (.int .u64 ((n:Nat):Int))∧Back [cRd X br (r)] w [cRd X br (r2)] w'∧(r.uint=(n,r2)) :=
 (rsRUint_any X br r w hO).mono fun e w' h=>by
  obtain ⟨rfl,hB⟩:=h
  exact ⟨_,_,rfl,hB,rfl⟩
theorem rsRCount_v (X:Option Addr × Nat) (br:Nat) (r:Rd) (most:Nat) (w:World) (hO:Own [cRd X br (r)] w) (hm:most≤4294967296) :
  Calls Tryz.prog 182 #[(vP br 0),(vI most)] w fun e w'=>∃ (n:Nat) (r2:Rd),e = .returned (vI n)∧Back [cRd X br (r)] w [cRd X br (r2)] w'∧(r.cnt most=(n,r2)) :=
 (rsRCount_any X br r most w hO hm).mono fun e w' h=>by
  obtain ⟨rfl,hB⟩:=h
  exact ⟨_,_,rfl,hB,rfl⟩
theorem rsRText_v (X:Option Addr × Nat) (br:Nat) (r:Rd) (most:Nat) (w:World) (hO:Own [cRd X br (r)] w) (hm:most≤4294967296) :
  Calls Tryz.prog 213 #[(vP br 0),(vI most)] w fun e w'=>∃ (t:List UInt8) (r2:Rd),e = .returned (vS t)∧Back [cRd X br (r)] w [cRd X br (r2)] w'∧(r.text most=(t,r2)) :=
 (rsRText_any X br r most w hO hm).mono fun e w' h=>by
  obtain ⟨rfl,hB⟩:=h
  exact ⟨_,_,rfl,hB,rfl⟩
theorem rsRSum_v (X:Option Addr × Nat) (br:Nat) (r:Rd) (w:World) (hO:Own [cRd X br (r)] w) :
  Calls Tryz.prog 122 #[(vP br 0)] w fun e w'=>∃ (t:List UInt8) (r2:Rd),e = .returned (vS t)∧Back [cRd X br (r)] w [cRd X br (r2)] w'∧(r.sum=(t,r2)) :=
 (rsRSum_any X br r w hO).mono fun e w' h=>by
  obtain ⟨rfl,hB⟩:=h
  exact ⟨_,_,rfl,hB,rfl⟩
theorem rsRItems_v (X:Option Addr × Nat) (br:Nat) (r:Rd) (most:Nat) (w:World) (hO:Own [cRd X br (r)] w) (hm:most≤65536) :
  Calls Tryz.prog 216 #[(vP br 0),(vI most)] w fun e w'=>∃ (B:Option Addr) (cb:Nat) (l:List (List UInt8)) (r2:Rd),e = .returned (vL B (l) cb)∧Back [cRd X br (r)] w [cRd X br (r2),cS B (l) cb] w'∧(r.items most=(l,r2)) :=
 (rsRItems_any X br r most w hO hm).mono fun e w' h=>by
  obtain ⟨B,cb,rfl,hB⟩:=h
  exact ⟨B,cb,_,_,rfl,hB,rfl⟩
theorem rsRPart_any (X:Option Addr × Nat) (br:Nat) (r:Rd) (w:World) (hO:Own [cRd X br (r)] w) :
  Calls Tryz.prog 201 #[(vP br 0)] w fun e w'=>∃ (cl:List Value) (L:List (Option Addr × List (List UInt8))) (o:Option AP) (r2:Rd),e = .returned (.tuple #[(.agg (cl).toArray),(.bool o.isSome)])∧Back [cRd X br (r)] w [cRd X br (r2),cBag (L)] w'∧(r.part=(o,r2))∧(cl.length=3∧∀ u∈cl,u.oneCell'=true)∧(∀ p,o=some p→∃ pv:PV,cl=pv.cells∧pv.abs=p∧∀ q∈pv.c.rows,q∈L):=by
 refine sE1 Tryz.func201 66 (hO) ?_
 refine stSeq (reg (li rfl (oAl [(.string ⟨#[]⟩),(.string ⟨#[]⟩),.nilIface] fun b2=>?_)))
 refine la ?_
 refine liNil (qThen (stSeq (reg (lm ?_))))
 refine li rfl (opK [0] _ (fun w hM hO=>(rsRText_v X br r 32 w hO (by omega)).mono ?_))
 rintro e w' ⟨t9,r29,rfl,hP,heq9⟩
 refine ⟨_,[_],_,rfl,hP,rfl,?_⟩; clear hP hM hO
 refine lm ?_
 refine li rfl (opK [0] _ (fun w hM hO=>(rsRText_v X br r29 32 w hO (by omega)).mono ?_))
 rintro e w' ⟨t11,r211,rfl,hP,heq11⟩
 refine ⟨_,[_],_,rfl,hP,rfl,?_⟩; clear hP hM hO
 refine la ?_
 refine la ?_
 refine liNil (qThen (stSeq (reg (lm ?_))))
 refine lm ?_
 refine lc (.agg #[(vS t9),(vS t11)]) ?_
 refine lc (.agg #[(vS t9),(vS t11),.nilIface]) ?_
 refine li rfl (oAl [(.string ⟨#[]⟩),(.string ⟨#[]⟩),.nilIface] fun b6=>?_)
 refine li rfl (oSN 2 [(vS t9),(vS t11),.nilIface] ?_)
 refine liNil (qThen (stSeq (stSeq ?_)))
 dsimp only [setAll,List.set,List.cons_append,List.nil_append]
 refine reg (lm ?_)
 refine li rfl (opK0 (fun w hM=>(rsIsBound_any t9 w ).mono ?_))
 rintro e w' ⟨rfl,hP⟩
 refine ⟨_,_,rfl,hP,?_⟩; clear hP hM
 refine lc (.bool (!(boundOk t9))) ?_
 refine lm ?_
 refine St.dec 19 rfl (fun hc19=>?_) (fun hc19=>?_)
 ·refine lnT ?_
  refine lnT ?_
  refine lnT ?_
  refine lc (.bool true) ?_
  refine lm ?_
  iterate 4 refine lnT ?_
  refine lc (.bool true) ?_
  refine liNil (qThen (stTrue rfl (stSeq (reg ?_))))
  refine lc (.agg #[(.string ⟨#[]⟩),(.string ⟨#[]⟩),.nilIface]) ?_
  refine li rfl (oSN 1 [(.string ⟨#[]⟩),(.string ⟨#[]⟩),.nilIface] ?_)
  refine la ?_
  refine liNil (qThen (stRet (qThenR (stEnd [(.agg #[(.string ⟨#[]⟩),(.string ⟨#[]⟩),.nilIface]),(.bool false)] rfl ⟨⟨_,rfl,fun w hM=>run_loadVarA (by kernel_rfl) (by kernel_rfl) (segAt (i:=1) (off:=0) rfl (by intro j v hj; rw [Nat.zero_add]; exact hj) w hM)⟩,rfl,trivial⟩ (fun w hM=>?_)))))
  have hp:r.part=(none,r211):=Rd.part_bad heq9 heq11 (bad1 hc19)
  exact ⟨[(.string ⟨#[]⟩),(.string ⟨#[]⟩),.nilIface],[],none,r211,rfl,Mm.noBag ((hM.pick [0] rfl rfl)),hp,⟨rfl,ones3 rfl rfl rfl⟩,fun p hp=>by cases hp⟩
 ·refine lgm ?_
  refine liGo rfl rfl ?_
  refine opK0 (fun w hM=>(rsIsBound_any t11 w ).mono ?_)
  rintro e w' ⟨rfl,hP⟩
  refine ⟨_,_,rfl,hP,?_⟩; clear hP hM
  refine lgc (.bool (!(boundOk t11))) ?_
  refine lc (.bool (!(boundOk t11))) ?_
  refine lm ?_
  refine St.dec 24 rfl (fun hc24=>?_) (fun hc24=>?_)
  ·refine lnT ?_
   iterate 3 refine lnT ?_
   refine lc (.bool true) ?_
   refine liNil (qThen (stTrue rfl (stSeq (reg ?_))))
   refine lc (.agg #[(.string ⟨#[]⟩),(.string ⟨#[]⟩),.nilIface]) ?_
   refine li rfl (oSN 1 [(.string ⟨#[]⟩),(.string ⟨#[]⟩),.nilIface] ?_)
   refine la ?_
   refine liNil (qThen (stRet (qThenR (stEnd [(.agg #[(.string ⟨#[]⟩),(.string ⟨#[]⟩),.nilIface]),(.bool false)] rfl ⟨⟨_,rfl,fun w hM=>run_loadVarA (by kernel_rfl) (by kernel_rfl) (segAt (i:=1) (off:=0) rfl (by intro j v hj; rw [Nat.zero_add]; exact hj) w hM)⟩,rfl,trivial⟩ (fun w hM=>?_)))))
   have hp:r.part=(none,r211):=Rd.part_bad heq9 heq11 (bad2 hc24)
   exact ⟨[(.string ⟨#[]⟩),(.string ⟨#[]⟩),.nilIface],[],none,r211,rfl,Mm.noBag ((hM.pick [0] rfl rfl)),hp,⟨rfl,ones3 rfl rfl rfl⟩,fun p hp=>by cases hp⟩
  ·refine lgc (vP b6 0) ?_
   refine lgv (v:=(.agg #[(vS t9),(vS t11)])) (rLoadA [(vS t9),(vS t11)] rfl rfl (by kernel_rfl) (by kernel_rfl) (segAt (i:=2) rfl (by intro j v hj; first | (rw [Nat.zero_add]; exact hj) | (match j,hj with | 0,h=>exact h | 1,h=>exact h)))) ?_
   refine liGo rfl rfl ?_
   refine opK0 (fun w hM=>(rsSpanValid_any t9 t11 w ).mono ?_)
   rintro e w' ⟨rfl,hP⟩
   refine ⟨_,_,rfl,hP,?_⟩; clear hP hM
   refine lgc (.bool (!(spanOk t9 t11))) ?_
   refine lc (.bool (!(spanOk t9 t11))) ?_
   refine liNil (qThen (stCond rfl (fun hc29=>?_) (fun hc29=>?_)))
   ·refine stSeq ?_
    dsimp only [setAll,List.set,List.cons_append,List.nil_append]
    refine reg (lc (.agg #[(.string ⟨#[]⟩),(.string ⟨#[]⟩),.nilIface]) ?_)
    refine li rfl (oSN 1 [(.string ⟨#[]⟩),(.string ⟨#[]⟩),.nilIface] ?_)
    refine la ?_
    refine liNil (qThen (stRet (qThenR (stEnd [(.agg #[(.string ⟨#[]⟩),(.string ⟨#[]⟩),.nilIface]),(.bool false)] rfl ⟨⟨_,rfl,fun w hM=>run_loadVarA (by kernel_rfl) (by kernel_rfl) (segAt (i:=1) (off:=0) rfl (by intro j v hj; rw [Nat.zero_add]; exact hj) w hM)⟩,rfl,trivial⟩ (fun w hM=>?_)))))
    have hp:r.part=(none,r211):=Rd.part_bad heq9 heq11 (bad3 hc29)
    exact ⟨[(.string ⟨#[]⟩),(.string ⟨#[]⟩),.nilIface],[],none,r211,rfl,Mm.noBag ((hM.pick [0] rfl rfl)),hp,⟨rfl,ones3 rfl rfl rfl⟩,fun p hp=>by cases hp⟩
   ·refine stSkip (qThen (stSeq (stSeq ?_)))
    have hp0:r.part=r211.body t9 t11:=Rd.part_go heq9 heq11 (good3 hc19 hc24 hc29)
    refine reg (lm ?_)
    refine li rfl (opK [0] _ (fun w hM hO=>(rsRUint_v X br r211 w hO).mono ?_))
    rintro e w' ⟨n32,r232,rfl,hP,heq32⟩
    refine ⟨_,[_],_,rfl,hP,rfl,?_⟩; clear hP hM hO
    refine liNil (qThen (stBlock (stSeq (reg (lc (.bool ((((n32:Nat):Int):Int) == 1)) ?_)))))
    refine la ?_
    refine liNil (qThen (stCond rfl (fun hc34=>?_) (fun hc34=>?_)))
    ·have hk:n32=1:=eqb_yes hc34
     refine reg (lm ?_)
     refine li rfl (opK [0] _ (fun w hM hO=>(rsRCount_v X br r232 16384 w hO (by omega)).mono ?_))
     rintro e w' ⟨n37,r237,rfl,hP,heq37⟩
     refine ⟨_,[_],_,rfl,hP,rfl,?_⟩; clear hP hM hO
     refine lm ?_
     refine li rfl (opK [0] _ (fun w hM hO=>(rsRSum_v X br r237 w hO).mono ?_))
     rintro e w' ⟨t39,r239,rfl,hP,heq39⟩
     refine ⟨_,[_],_,rfl,hP,rfl,?_⟩; clear hP hM hO
     refine lc (.agg #[(vI n37),(vS t39)]) ?_
     refine lc (.iface 248 (.agg #[(vI n37),(vS t39)])) ?_
     refine lc (vP b6 2) ?_
     refine li rfl (oS1 2 ?_)
     refine liNil (qBlock (qThen (stSeq ?_)))
     dsimp only [setAll,List.set,List.cons_append,List.nil_append]
     refine anyBegin _ 8 (by kernel_rfl) (fun _ h=>h.pick [0,2] rfl rfl) ?_
     refine av 0 _ rfl (rA 1 [(vS t9),(vS t11),(.iface 248 (.agg #[(vI n37),(vS t39)]))]) ?_
     refine ac 1 (vP b6 2) ?_
     refine al 2 1 ?_
     refine ac 3 (vP b6 0) ?_
     refine av 4 _ rfl (rA 1 [(vS t9),(vS t11)]) ?_
     refine a1 5 ?_
     refine opK0 (fun w hM=>(rsSFits_any n37 t39 t9 t11 w ).mono ?_)
     rintro e w' ⟨rfl,hP⟩
     refine ⟨_,_,rfl,hP,?_⟩; clear hP hM
     refine anyNext _ (fun _ h=>h) (fun _ h=>h.pick [0,2] rfl rfl) ?_
     refine a1 6 ?_
     refine oSN 1 [(vS t9),(vS t11),(.iface 248 (.agg #[(vI n37),(vS t39)]))] ?_
     refine anyNext _ (fun _ h=>h) (fun _ h=>h.pick [0,2] rfl rfl) ?_
     refine aa 7 ?_
     refine anyDone (by kernel_rfl) ?_
     refine qThen (stRet (stEnd [(.agg #[(vS t9),(vS t11),(.iface 248 (.agg #[(vI n37),(vS t39)]))]),(.bool true)] rfl ⟨⟨_,rfl,fun w hM=>run_loadVarA (by kernel_rfl) (by kernel_rfl) (segAt (i:=1) (off:=0) rfl (by intro j v hj; rw [Nat.zero_add]; exact hj) w hM)⟩,rfl,trivial⟩ (fun w hM=>?_)))
     have hp:r.part=(some (PV.mk t9 t11 (.sum n37 t39)).abs,r239):=hp0.trans (Rd.body_sum heq32 hk heq37 heq39)
     exact ⟨[(vS t9),(vS t11),(.iface 248 (.agg #[(vI n37),(vS t39)]))],[],_,_,rfl,Mm.noBag ((hM.pick [0] rfl rfl)),hp,⟨rfl,ones3 rfl rfl rfl⟩,fun p hp=>⟨PV.mk t9 t11 (.sum n37 t39),rfl,Option.some.inj hp,fun q hq=>by cases hq⟩⟩
    ·have hn1:¬ n32=1:=eqb_no hc34
     refine stSeq ?_
     dsimp only [setAll,List.set,List.cons_append,List.nil_append]
     refine reg (lc (.bool ((((n32:Nat):Int):Int) == 2)) ?_)
     refine la ?_
     refine liNil (qThen (stCond rfl (fun hc43=>?_) (fun hc43=>?_)))
     ·have hk:n32=2:=eqb_yes hc43
      refine reg (lm ?_)
      refine li rfl (opK [0] _ (fun w hM hO=>(rsRItems_v X br r232 64 w hO (by omega)).mono ?_))
      rintro e w' ⟨B46,cb46,l46,r246,rfl,hP,heq46⟩
      refine ⟨_,[_],_,rfl,hP,rfl,?_⟩; clear hP hM hO
      have hil:=Rd.items_len r232 64; rw [heq46] at hil; dsimp only at hil
      refine lc (.agg #[(vL B46 (l46) cb46)]) ?_
      refine lc (.iface 252 (.agg #[(vL B46 (l46) cb46)])) ?_
      refine lc (vP b6 2) ?_
      refine li rfl (oS1 2 ?_)
      refine liNil (qBlock (qThen (stSeq ?_)))
      refine anyBegin _ 8 (by kernel_rfl) (fun _ h=>h.pick [0,2,3] rfl rfl) ?_
      refine av 0 _ rfl (rA 1 [(vS t9),(vS t11),(.iface 252 (.agg #[(vL B46 (l46) cb46)]))]) ?_
      refine ac 1 (vP b6 2) ?_
      refine al 2 1 ?_
      refine ac 3 (vP b6 0) ?_
      refine av 4 _ rfl (rA 1 [(vS t9),(vS t11)]) ?_
      refine a1 5 ?_
      refine opK0 (fun w hM=>(rsLFits_any B46 cb46 l46 t9 t11 w (hM.keep0 (j:=3) rfl (fun _ h=>RowIn.of_own h)) (by omega)).mono ?_)
      rintro e w' ⟨rfl,hP⟩
      refine ⟨_,_,rfl,hP,?_⟩; clear hP hM
      refine anyNext _ (fun _ h=>h) (fun _ h=>h.pick [0,2,3] rfl rfl) ?_
      refine a1 6 ?_
      refine oSN 1 [(vS t9),(vS t11),(.iface 252 (.agg #[(vL B46 (l46) cb46)]))] ?_
      dsimp only [setAll,List.set,List.cons_append,List.nil_append]
      refine anyNext _ (fun _ h=>h) (fun _ h=>h.pick [0,2,3] rfl rfl) ?_
      refine aa 7 ?_
      refine anyDone (by kernel_rfl) ?_
      refine qThen (stRet (stEnd [(.agg #[(vS t9),(vS t11),(.iface 252 (.agg #[(vL B46 (l46) cb46)]))]),(.bool (ordOk l46 t9 t11))] rfl ⟨⟨_,rfl,fun w hM=>run_loadVarA (by kernel_rfl) (by kernel_rfl) (segAt (i:=1) (off:=0) rfl (by intro j v hj; rw [Nat.zero_add]; exact hj) w hM)⟩,rfl,trivial⟩ (fun w hM=>?_)))
      have hp:r.part=(if ordOk l46 t9 t11 then some (PV.mk t9 t11 (.list B46 cb46 l46)).abs else none,r246):=hp0.trans (Rd.body_list heq32 hk heq46)
      replace hM:Mm _ _ [cRd X br (r246),cAt b2 246 [(vS t9),(vS t11),(.iface 252 (.agg #[(vL B46 (l46) cb46)]))],cAt b6 246 [(vS t9),(vS t11),(.iface 252 (.agg #[(vL B46 (l46) cb46)]))],cBag ([(B46,l46)])] w:=hM.toBag 3 rfl
      refine ⟨[(vS t9),(vS t11),(.iface 252 (.agg #[(vL B46 (l46) cb46)]))],[(B46,l46)],_,_,ret_part _ _,(hM.pick [0,3] rfl rfl),hp,⟨rfl,ones3 rfl rfl rfl⟩,fun p hp=>⟨PV.mk t9 t11 (.list B46 cb46 l46),rfl,part_of hp,fun q hq=>hq⟩⟩
     ·have hn2:¬ n32=2:=eqb_no hc43
      refine stSeq (reg (lc (.bool ((((n32:Nat):Int):Int) == 3)) ?_))
      refine la ?_
      refine liNil (qThen (stCond rfl (fun hc50=>?_) (fun hc50=>?_)))
      ·have hk:n32=3:=eqb_yes hc50
       refine stSeq (reg (lm ?_))
       refine li rfl (opK [0] _ (fun w hM hO=>(rsRItems_v X br r232 16384 w hO (by omega)).mono ?_))
       rintro e w' ⟨B53,cb53,l53,r253,rfl,hP,heq53⟩
       refine ⟨_,[_],_,rfl,hP,rfl,?_⟩; clear hP hM hO
       have hil:=Rd.items_len r232 16384; rw [heq53] at hil; dsimp only at hil
       refine la ?_
       refine liNil (qThen (reg (lm ?_)))
       refine lm ?_
       refine li rfl (opK [0] _ (fun w hM hO=>(rsRItems_v X br r253 16384 w hO (by omega)).mono ?_))
       rintro e w' ⟨B56,cb56,l56,r256,rfl,hP,heq56⟩
       refine ⟨_,[_],_,rfl,hP,rfl,?_⟩; clear hP hM hO
       have hil2:=Rd.items_len r253 16384; rw [heq56] at hil2; dsimp only at hil2
       refine lc (.agg #[(vL B53 (l53) cb53),(vL B56 (l56) cb56)]) ?_
       refine lc (.iface 255 (.agg #[(vL B53 (l53) cb53),(vL B56 (l56) cb56)])) ?_
       refine lc (vP b6 2) ?_
       refine li rfl (oS1 2 ?_)
       refine liNil (qBlock (qThen (stSeq ?_)))
       refine anyBegin _ 8 (by kernel_rfl) (fun _ h=>h.pick [0,2,3,4] rfl rfl) ?_
       refine av 0 _ rfl (rA 1 [(vS t9),(vS t11),(.iface 255 (.agg #[(vL B53 (l53) cb53),(vL B56 (l56) cb56)]))]) ?_
       refine ac 1 (vP b6 2) ?_
       refine al 2 1 ?_
       refine ac 3 (vP b6 0) ?_
       refine av 4 _ rfl (rA 1 [(vS t9),(vS t11)]) ?_
       refine a1 5 ?_
       refine opK0 (fun w hM=>(rsAFits_any B53 cb53 l53 B56 cb56 l56 t9 t11 w (hM.keep0 (j:=3) rfl (fun _ h=>RowIn.of_own h)) (hM.keep0 (j:=4) rfl (fun _ h=>RowIn.of_own h)) (by omega) (by omega)).mono ?_)
       rintro e w' ⟨rfl,hP⟩
       refine ⟨_,_,rfl,hP,?_⟩; clear hP hM
       dsimp only [setAll,List.set,List.cons_append,List.nil_append]
       refine anyNext _ (fun _ h=>h) (fun _ h=>h.pick [0,2,3,4] rfl rfl) ?_
       refine a1 6 ?_
       refine oSN 1 [(vS t9),(vS t11),(.iface 255 (.agg #[(vL B53 (l53) cb53),(vL B56 (l56) cb56)]))] ?_
       refine anyNext _ (fun _ h=>h) (fun _ h=>h.pick [0,2,3,4] rfl rfl) ?_
       refine aa 7 ?_
       refine anyDone (by kernel_rfl) ?_
       refine qThen (stRet (stEnd [(.agg #[(vS t9),(vS t11),(.iface 255 (.agg #[(vL B53 (l53) cb53),(vL B56 (l56) cb56)]))]),(.bool (ordOk l53 t9 t11 && ordOk l56 t9 t11))] rfl ⟨⟨_,rfl,fun w hM=>run_loadVarA (by kernel_rfl) (by kernel_rfl) (segAt (i:=1) (off:=0) rfl (by intro j v hj; rw [Nat.zero_add]; exact hj) w hM)⟩,rfl,trivial⟩ (fun w hM=>?_)))
       have hp:r.part=(if (ordOk l53 t9 t11 && ordOk l56 t9 t11) then some (PV.mk t9 t11 (.ans B53 cb53 l53 B56 cb56 l56)).abs else none,r256):=hp0.trans (Rd.body_ans heq32 hk heq53 heq56)
       replace hM:Mm _ _ [cRd X br (r256),cAt b2 246 [(vS t9),(vS t11),(.iface 255 (.agg #[(vL B53 (l53) cb53),(vL B56 (l56) cb56)]))],cAt b6 246 [(vS t9),(vS t11),(.iface 255 (.agg #[(vL B53 (l53) cb53),(vL B56 (l56) cb56)]))],cBag ([(B53,l53)]),cS B56 (l56) cb56] w:=hM.toBag 3 rfl
       replace hM:Mm _ _ [cRd X br (r256),cAt b2 246 [(vS t9),(vS t11),(.iface 255 (.agg #[(vL B53 (l53) cb53),(vL B56 (l56) cb56)]))],cAt b6 246 [(vS t9),(vS t11),(.iface 255 (.agg #[(vL B53 (l53) cb53),(vL B56 (l56) cb56)]))],cBag ([(B53,l53)]),cBag ([(B56,l56)])] w:=hM.toBag 4 rfl
       refine ⟨[(vS t9),(vS t11),(.iface 255 (.agg #[(vL B53 (l53) cb53),(vL B56 (l56) cb56)]))],[(B53,l53),(B56,l56)],_,_,ret_part _ _,Mm.join (cs:=[_]) (L:=[(B53,l53)]) (M:=[(B56,l56)]) ((hM.pick [0,3,4] rfl rfl)),hp,⟨rfl,ones3 rfl rfl rfl⟩,fun p hp=>⟨PV.mk t9 t11 (.ans B53 cb53 l53 B56 cb56 l56),rfl,part_of hp,fun q hq=>hq⟩⟩
      ·have hn3:¬ n32=3:=eqb_no hc50
       refine stSeq (reg (lc (.agg #[(.string ⟨#[]⟩),(.string ⟨#[]⟩),.nilIface]) ?_))
       refine li rfl (oSN 1 [(.string ⟨#[]⟩),(.string ⟨#[]⟩),.nilIface] ?_)
       refine la ?_
       refine liNil (qThen (stRet (qBlockR (qThenR ?_))))
       refine stEnd [(.agg #[(.string ⟨#[]⟩),(.string ⟨#[]⟩),.nilIface]),(.bool false)] rfl ⟨⟨_,rfl,fun w hM=>run_loadVarA (by kernel_rfl) (by kernel_rfl) (segAt (i:=1) (off:=0) rfl (by intro j v hj; rw [Nat.zero_add]; exact hj) w hM)⟩,rfl,trivial⟩ (fun w hM=>?_)
       have hp:r.part=(none,r232):=hp0.trans (Rd.body_none heq32 hn1 hn2 hn3)
       exact ⟨[(.string ⟨#[]⟩),(.string ⟨#[]⟩),.nilIface],[],none,r232,rfl,Mm.noBag ((hM.pick [0] rfl rfl)),hp,⟨rfl,ones3 rfl rfl rfl⟩,fun p hp=>by cases hp⟩
theorem rsExtend_any (A:Option Addr) (c:Nat) (xs:List UInt8) (n:Nat) (w:World) (hO:Own [cB A xs c] w) (hn:n < 18446744073709551616) (hx:xs.length≤4294960000) :
  Calls Tryz.prog 117 #[(vL A xs c),(.int .u64 ((n:Nat):Int))] w fun e w'=>∃ (A2:Option Addr) (c2:Nat),e = .returned (vL A2 (xs++num n) c2)∧Back [cB A xs c] w [cB A2 (xs++num n) c2] w':=by
 have ho:w.ownsRow 0 5 1 (.slice A xs.length c) xs.length (B8 xs):=hO.at (i:=0) rfl
 refine (extend_any 0 n (.slice A xs.length c) xs w hn (by omega) (Nat.zero_le _) ho).mono ?_
 rintro e w' ⟨v',rfl,hG⟩
 obtain ⟨A',c',rfl,hM⟩:=hO.swapOwn 0 rfl hG.own hG.gr hG.blk
 exact ⟨A',c',rfl,hM⟩
theorem rsNewW_any (w:World) :
  Calls Tryz.prog 68 #[] w fun e w'=>∃ (bw:Nat),e = .returned (vP bw 0)∧Back [] w [cAt bw 180 [(.slice none 0 0),(.int .i64 0)]] w':=(newWriter_any w).mono fun _ _ ⟨he,hf,ha⟩=>⟨_,he,(Mm.start w []).push (c:=cAt w.heap.size 180 [.slice none 0 0,Value.int .i64 0]) hf ha (by simp [cAt]) (by simp [cAt])⟩
theorem rsWUint_any (bw:Nat) (A:Option Addr) (c:Nat) (xs:List UInt8) (n:Nat) (w:World) (hO:Own [cAt bw 180 [(vL A (xs) c),(.int .i64 0)],cB A (xs) c] w) (hn:n < 18446744073709551616) (hx:xs.length≤4294960000) :
  Calls Tryz.prog 118 #[(vP bw 0),(.int .u64 ((n:Nat):Int))] w fun e w'=>∃ (A2:Option Addr) (c2:Nat),e = .returned (.tuple #[])∧Back [cAt bw 180 [(vL A (xs) c),(.int .i64 0)],cB A (xs) c] w [cAt bw 180 [(vL A2 (xs++num n) c2),(.int .i64 0)],cB A2 (xs++num n) c2] w':=by
 refine sE2 Tryz.func118 18 (hO) ?_
 refine stSeq (reg (lm ?_))
 refine lc (vP bw 0) ?_
 refine lc (vP bw 1) ?_
 refine ll 0 ?_
 refine lc (.bool true) ?_
 refine liNil (qThen (stTrue rfl (reg ?_)))
 refine lm ?_
 refine lm ?_
 refine lc (vP bw 0) ?_
 refine lc (vP bw 0) ?_
 refine ll 0 ?_
 refine lm ?_
 refine li rfl (opK [1] _ (fun w hM hO=>(rsExtend_any A c xs n w hO (by omega) (by omega)).mono ?_))
 rintro e w' ⟨A215,c215,rfl,hP⟩
 refine ⟨_,[_],_,rfl,hP,rfl,?_⟩; clear hP hM hO
 refine lc (vP bw 0) ?_
 refine lc (vP bw 0) ?_
 refine li rfl (oS1 0 ?_)
 refine liNil (stEndN [] rfl trivial (fun w hM=>?_))
 exact ⟨A215,c215,rfl,hM⟩
theorem rsWCount_any (bw:Nat) (A:Option Addr) (c:Nat) (xs:List UInt8) (n:Nat) (w:World) (hO:Own [cAt bw 180 [(vL A (xs) c),(.int .i64 0)],cB A (xs) c] w) (hn:n≤4294967296) (hx:xs.length≤4294960000) :
  Calls Tryz.prog 150 #[(vP bw 0),(vI n)] w fun e w'=>∃ (A2:Option Addr) (c2:Nat),e = .returned (.tuple #[])∧Back [cAt bw 180 [(vL A (xs) c),(.int .i64 0)],cB A (xs) c] w [cAt bw 180 [(vL A2 (xs++num n) c2),(.int .i64 0)],cB A2 (xs++num n) c2] w':=by
 refine sE2 Tryz.func150 18 (hO) ?_
 refine stSeq (stSeq (reg (lm ?_)))
 refine lc (vP bw 0) ?_
 refine lc (vP bw 1) ?_
 refine ll 0 ?_
 refine lc (.bool false) ?_
 refine liNil (qThen (stFalse rfl (stSkip (qThen (stSeq (stSeq (reg ?_)))))))
 refine lm ?_
 refine lc (.bool (decide (((n:Nat):Int) < 0))) ?_
 refine liNil (qThen (stFalseK rfl (by simp) ?_))
 refine stSkip (qThen (reg (lm ?_)))
 refine lm ?_
 refine lv (v:=(vU n)) (rIntC _ (fun _=>by kernel_rfl) rfl rfl (wrapU64_id (by omega) (by omega))) ?_
 refine li rfl (opK [0,1] _ (fun w hM hO=>(rsWUint_any bw A c xs n w hO (by omega) (by omega)).mono ?_))
 rintro e w' ⟨A217,c217,rfl,hP⟩
 refine ⟨_,[_,_],_,rfl,hP,rfl,?_⟩; clear hP hM hO
 refine liNil (stEndN [] rfl trivial (fun w hM=>?_))
 exact ⟨A217,c217,rfl,hM⟩
theorem rsWText_any (bw:Nat) (A:Option Addr) (c:Nat) (xs t:List UInt8) (w:World) (hO:Own [cAt bw 180 [(vL A (xs) c),(.int .i64 0)],cB A (xs) c] w) (ht:t.length≤1000) (hx:xs.length≤4294960000) :
  Calls Tryz.prog 204 #[(vP bw 0),(vS t)] w fun e w'=>∃ (A2:Option Addr) (c2:Nat),e = .returned (.tuple #[])∧Back [cAt bw 180 [(vL A (xs) c),(.int .i64 0)],cB A (xs) c] w [cAt bw 180 [(vL A2 (xs++num t.length++t) c2),(.int .i64 0)],cB A2 (xs++num t.length++t) c2] w':=by
 refine sE2 Tryz.func204 22 (hO) ?_
 refine stSeq (reg (lm ?_))
 refine lc (vP bw 0) ?_
 refine lc (vP bw 1) ?_
 refine ll 0 ?_
 refine lc (.bool true) ?_
 refine liNil (qThen (stTrue rfl (reg ?_)))
 refine lm ?_
 refine lm ?_
 refine lc (vP bw 0) ?_
 refine lc (vP bw 0) ?_
 refine ll 0 ?_
 refine lm ?_
 refine lv (v:=(vI ((t).length))) (rLenS rfl rfl (by kernel_rfl)) ?_
 refine lv (v:=(vU t.length)) (rIntC _ (fun _=>by kernel_rfl) rfl rfl (wrapU64_id (by omega) (by omega))) ?_
 refine li rfl (opK [1] _ (fun w hM hO=>(rsExtend_any A c xs t.length w hO (by omega) (by omega)).mono ?_))
 rintro e w' ⟨A217,c217,rfl,hP⟩
 refine ⟨_,[_],_,rfl,hP,rfl,?_⟩; clear hP hM hO
 refine lm ?_
 refine li rfl (opAppendStr 1 rfl rfl (by kernel_rfl) (by kernel_rfl) (by kernel_rfl) (by kernel_rfl) rfl rfl rfl (by have:=num_length t.length (by omega); rw [List.length_append]; omega) (((xs++num t.length)++t).length) (by first | exact (List.length_append ..).symm | (simp; done) | (simp; omega)) (B8 ((xs++num t.length)++t)) (by simp [B8]) (fun A19 c19=>?_))
 refine lc (vP bw 0) ?_
 refine lc (vP bw 0) ?_
 refine li rfl (oS1 0 ?_)
 refine liNil (stEndN [] rfl trivial (fun w hM=>?_))
 exact ⟨A19,c19,rfl,hM⟩
theorem rsWSum_any (bw:Nat) (A:Option Addr) (c:Nat) (xs t:List UInt8) (w:World) (hO:Own [cAt bw 180 [(vL A (xs) c),(.int .i64 0)],cB A (xs) c] w) (ht:t.length=32) (hx:xs.length≤4294960000) :
  Calls Tryz.prog 120 #[(vP bw 0),(vS t)] w fun e w'=>∃ (A2:Option Addr) (c2:Nat),e = .returned (.tuple #[])∧Back [cAt bw 180 [(vL A (xs) c),(.int .i64 0)],cB A (xs) c] w [cAt bw 180 [(vL A2 (xs++t) c2),(.int .i64 0)],cB A2 (xs++t) c2] w':=by
 refine sE2 Tryz.func120 24 (hO) ?_
 refine stSeq (stSeq (reg (lm ?_)))
 refine lc (vP bw 0) ?_
 refine lc (vP bw 1) ?_
 refine ll 0 ?_
 refine lc (.bool false) ?_
 refine liNil (qThen (stFalse rfl (stSkip (qThen (stSeq (stSeq (reg ?_)))))))
 refine lm ?_
 refine lv (v:=(vI ((t).length))) (rLenS rfl rfl (by kernel_rfl)) ?_
 refine lc (.bool (((((t).length:Nat):Int):Int) != 32)) ?_
 refine liNil (qThen (stFalseK rfl (by simp [ht]) ?_))
 refine stSkip (qThen (reg (lm ?_)))
 refine lm ?_
 refine lc (vP bw 0) ?_
 refine lc (vP bw 0) ?_
 refine ll 0 ?_
 refine lm ?_
 refine li rfl (opAppendStr 1 rfl rfl (by kernel_rfl) (by kernel_rfl) (by kernel_rfl) (by kernel_rfl) rfl rfl rfl (by omega) (((xs)++t).length) (by first | exact (List.length_append ..).symm | (simp; done) | (simp; omega)) (B8 ((xs)++t)) (by simp [B8]) (fun A21 c21=>?_))
 refine lc (vP bw 0) ?_
 refine lc (vP bw 0) ?_
 refine li rfl (oS1 0 ?_)
 refine liNil (stEndN [] rfl trivial (fun w hM=>?_))
 exact ⟨A21,c21,rfl,hM⟩
theorem rsDone_big (bw:Nat) (A:Option Addr) (c:Nat) (xs:List UInt8) (w:World) (hO:Own [cAt bw 180 [(vL A (xs) c),(.int .i64 0)],cB A (xs) c] w) (hb:1048576 < xs.length) :
  Calls Tryz.prog 71 #[(vP bw 0)] w fun e w'=>e = .returned (.tuple #[(.slice none 0 0),(.int .i64 2)])∧Back [cAt bw 180 [(vL A (xs) c),(.int .i64 0)],cB A (xs) c] w [cAt bw 180 [(vL A (xs) c),(.int .i64 0)],cB A (xs) c] w':=by
 refine sE1 Tryz.func71 25 (hO) ?_
 refine stSeq (reg (la ?_))
 refine la ?_
 refine liNil (qThen (stSeq (stSeq (reg (lm ?_)))))
 refine lc (vP bw 0) ?_
 refine lc (vP bw 1) ?_
 refine ll 0 ?_
 refine lc (.bool false) ?_
 refine liNil (qThen (stFalse rfl (stSkip (qThen (stSeq (stSeq (reg ?_)))))))
 refine lm ?_
 refine lc (vP bw 0) ?_
 refine lc (vP bw 0) ?_
 refine ll 0 ?_
 refine lc (vI ((xs).length)) ?_
 refine lc (.bool (decide ((((xs).length:Nat):Int) > 1048576))) ?_
 refine liNil (qThen (stTrueK rfl (by simp; omega) ?_))
 refine stSeq (reg (la ?_))
 refine la ?_
 refine liNil (qThen (stRet (qThenR (sN [(.slice none 0 0),(.int .i64 2)] fun w hM=>?_))))
 exact ⟨rfl,hM⟩
theorem rsDone_ok (bw:Nat) (A:Option Addr) (c:Nat) (xs:List UInt8) (w:World) (hO:Own [cAt bw 180 [(vL A (xs) c),(.int .i64 0)],cB A (xs) c] w) (hb:xs.length≤1048576) :
  Calls Tryz.prog 71 #[(vP bw 0)] w fun e w'=>∃ (A2:Option Addr) (c2:Nat),e = .returned (.tuple #[(vL A2 xs c2),(.int .i64 0)])∧Back [cAt bw 180 [(vL A (xs) c),(.int .i64 0)],cB A (xs) c] w [cAt bw 180 [(vL A (xs) c),(.int .i64 0)],cB A (xs) c,cB A2 xs c2] w':=by
 refine sE1 Tryz.func71 25 (hO) ?_
 refine stSeq (reg (la ?_))
 refine la ?_
 refine liNil (qThen (stSeq (stSeq (reg (lm ?_)))))
 refine lc (vP bw 0) ?_
 refine lc (vP bw 1) ?_
 refine ll 0 ?_
 refine lc (.bool false) ?_
 refine liNil (qThen (stFalse rfl (stSkip (qThen (stSeq (stSeq (reg ?_)))))))
 refine lm ?_
 refine lc (vP bw 0) ?_
 refine lc (vP bw 0) ?_
 refine ll 0 ?_
 refine lc (vI ((xs).length)) ?_
 refine lc (.bool (decide ((((xs).length:Nat):Int) > 1048576))) ?_
 refine liNil (qThen (stFalseK rfl (by simp; omega) ?_))
 refine stSkip (qThen (stSeq (reg (li rfl (oNw 0 5 [] fun b19=>?_)))))
 refine lm ?_
 refine lc (vP bw 0) ?_
 refine lc (vP bw 0) ?_
 refine ll 0 ?_
 refine li rfl (opMem (fun w hM=>hM.toOwn0 2 rfl 1) ?_)
 refine opAppend el_u8 2 (B8 (xs)) rfl rfl (by kernel_rfl) rfl rfl rfl (by simp [B8]) (fun w hM=>CellsAt.of_row (rowOwn (i:=1) rfl w hM)) ((B8_one _)) (by omega) ((xs).length) (by first | exact (List.length_append ..).symm | (simp; done) | (simp; omega)) (B8 (xs)) (by simp [B8]) (fun A24 c24=>?_)
 refine la ?_
 refine la ?_
 refine liNil (qThen (stRet (sN [(vL A24 (xs) c24),(.int .i64 0)] fun w hM=>?_)))
 exact ⟨A24,c24,rfl,hM⟩
end Go.Proofs.YtdflaaiondmjdaaGreatDoor
