/- Part 2 of a proof: what its row uses. -/
import Derived.Test.YtdflaaiondmjdaaGreatDoorQs01
set_option maxRecDepth 100000
set_option maxHeartbeats 1000000
namespace Go.Proofs.YtdflaaiondmjdaaGreatDoor
open Go.RowKit
structure TabAt (w : World) (bt bc cap : Nat) (rest : List Value) (t : BT) : Prop where
 tab : At w bt 174 [.slice (some ⟨bc, 0, none⟩) t.cells.length cap, .int .u64 (t.seed : Int)]
 cells : At w bc 183 (tcells t.cells ++ rest)
 ok : t.Ok
 size : isSz (t.cells.length : Int) = true
 cap : t.cells.length ≤ cap
theorem TabAt.ne {w:World} {bt bc cap:Nat} {rest:List Value} {t:BT} (h:TabAt w bt bc cap rest t):bt≠bc:=h.tab.ne h.cells (by decide)
theorem TabAt.fr {w w':World} {bt bc cap:Nat} {rest:List Value} {t:BT} {S:List Nat} (h:TabAt w bt bc cap rest t) (hf:Fr S w w') (h1:bt∉S) (h2:bc∉S):TabAt w' bt bc cap rest t :=
 ⟨h.tab.fr hf h1,h.cells.fr hf h2,h.ok,h.size,h.cap⟩
theorem isSz_bounds {n:Nat} (h:isSz (n:Int)=true):3≤n∧n≤3072∧n % 3=0:=by
 unfold isSz at h
 simp at h
 omega
theorem pl3_get (n seed:Nat) (key:List UInt8) (k:Nat) (h:k < 3):(pl3 n seed key)[k]?=some (Value.int .i64 (bplace n seed key k:Int)):=by
 match k,h with
 | 0,_=>rfl
 | 1,_=>rfl
 | 2,_=>rfl
set_option maxHeartbeats 4000000 in
theorem change_any (bt bc cap:Nat) (rest:List Value) (t:BT) (key:List UInt8) (num:Int) (w:World) (hv:Vars w) (ht:TabAt w bt bc cap rest t) (hk:key.length=32) :
  Calls Tryz.prog 129 #[Value.pointer (some ⟨bt,0,none⟩),.string (strOf key),Value.int .i64 num] w fun e w'=>e = .returned (.tuple #[])∧Fr [bc] w w'∧TabAt w' bt bc cap rest (t.change key num):=by
 obtain ⟨n,HN⟩:∃ n,Hid (n=t.cells.length):=⟨_,rfl⟩
 obtain ⟨seed,HS⟩:∃ seed,Hid (seed=t.seed):=⟨_,rfl⟩
 obtain ⟨n3,n4,n5⟩:=isSz_bounds ht.size
 rw [← HN.out] at n3 n4
 clear n5
 have H:=Lib.hid (And.intro hv (And.intro ht hk))
 have hne:bt≠bc:=ht.ne
 have hbtl:=ht.tab.lt
 have HT:Hid (∀ W,At W bt 174 [.slice (some ⟨bc,0,none⟩) t.cells.length cap,.int .u64 (t.seed:Int)]→W.cell? ⟨bt,0,none⟩=some (.slice (some ⟨bc,0,none⟩) n cap)∧W.cell? ⟨bt,1,none⟩=some (.int .u64 (seed:Int))):=fun W hW =>
  ⟨by rw [hW.cell,HN.out]; rfl,by rw [hW.cell,HS.out]; rfl⟩
 obtain ⟨q0,q1⟩:=HT.out w ht.tab
 clear hv ht hk
 obtain ⟨ck,HCK⟩:∃ ck,Hid (ck=bhash seed 3 key):=⟨_,rfl⟩
 have HC:=Lib.hid (check_any seed key w H.out.1 (by rw [HS.out]; exact H.out.2.1.ok.seed) (by rw [H.out.2.2]; omega))
 rw [← HCK.out] at HC
 go_enter Tryz.func129,Tryz.ntmps129
 go_wp2_with fail
 refine HC.out.mono ?_
 rintro e w1 ⟨rfl,hf1⟩
 have H1:Hid (Fr [] w w1∧At w1 bt 174 [.slice (some ⟨bc,0,none⟩) t.cells.length cap,.int .u64 (t.seed:Int)]):=⟨hf1,H.out.2.1.tab.fr hf1 (by simp)⟩
 clear q0 q1 hf1 HC
 obtain ⟨q0,q1⟩:=HT.out w1 H1.out.2
 have hbt1:bt < w1.heap.size:=H1.out.2.lt
 obtain ⟨L,HL⟩:∃ L,Hid (L=pl3 n seed key):=⟨_,rfl⟩
 have HPL:=Lib.hid (places_any n seed key w1.drew (H.out.1.fr H1.out.1.drew (by simp) (by simp)) (by rw [HS.out]; exact H.out.2.1.ok.seed) (by rw [H.out.2.2]; omega) n3 n4)
 rw [← HL.out] at HPL
 go_wp2_with fail
 go_region_held3 (fun w'=>w'.cell? ⟨bt,0,none⟩=some (.slice (some ⟨bc,0,none⟩) n cap)∧w'.cell? ⟨bt,1,none⟩=some (.int .u64 (seed:Int))) (first | go_keep | (exact HT.out _ H2.out.2))
  (first | (go_at_call 130; ((with_reducible refine HPL.out.mono ?_)); rintro e w2 ⟨rfl,hf2⟩; have H2:Hid (Fr [] w w2∧At w2 bt 174 [.slice (some ⟨bc,0,none⟩) t.cells.length cap,.int .u64 (t.seed:Int)]):=⟨H1.out.1.drew.trans hf2,H1.out.2.drew.fr hf2 (by simp)⟩; clear hf2))
 rename_i hHeld
 have HT0:Hid (Fr [bc] w w2∧TabAt w2 bt bc cap rest (t.atN key num 0)):=⟨H2.out.1.mono (by simp),H2.out.2,H.out.2.1.cells.fr H2.out.1 (by simp),H.out.2.1.ok,H.out.2.1.size,H.out.2.1.cap⟩
 clear hHeld HPL H1 H2 q0 q1 hbt1
 go_wp2_with fail
 go_loopw [28] (fun s wx=>∃ k:Nat,k≤3∧s = .int .i64 k∧Hid (Fr [bc] w wx∧TabAt wx bt bc cap rest (t.atN key num k))) (fun s _=>3 - (intOf s).toNat)
 case atStart=>exact ⟨0,by omega,rfl,HT0⟩
 case round =>
  obtain ⟨k,hk,rfl,HR⟩:=hrel
  obtain ⟨wo,HWO⟩:∃ wo,Hid (wo=wr):=⟨_,rfl⟩
  rw [← HWO.out] at HR ⊢
  clear HWO
  by_cases hlt:k < 3
  ·obtain ⟨p,HP⟩:∃ p,Hid (p=bplace n seed key k):=⟨_,rfl⟩
   have hpn:p < n:=by rw [HP.out]; exact bplace_lt n seed key k n3 hlt
   have hix:∀ W:World,(Instr.index 194 (.agg L.toArray) (.int .i64 (k:Int))).run Tryz.prog W = .ok (Value.int .i64 (p:Int)) W:=run_index_agg (P:=Tryz.prog) 194 3 3 L (Value.int .i64 (p:Int)) .i64 k Tryz.underlying194 (by kernel_rfl) (fun _=>by kernel_rfl) hlt (by rw [HL.out,HP.out]; exact pl3_get n seed key k hlt)
   obtain ⟨cl,HCL⟩:∃ cl,Hid (cl=(t.atN key num k).cells):=⟨_,rfl⟩
   have hlen:Hid (cl.length=n):=by show cl.length=n; rw [HCL.out,BT.atN_len,HN.out]
   have hok:Hid (Ok34 cl):=by show Ok34 cl; rw [HCL.out]; exact HR.out.2.ok.cells
   obtain ⟨c,hc⟩:∃ c,cl[p]?=some c:=⟨_,List.getElem?_eq_getElem (by rw [hlen.out]; exact hpn)⟩
   have hcok:Hid c.Ok:=hok.out c (List.mem_of_getElem? hc)
   have HTB:Hid (At wo bt 174 [.slice (some ⟨bc,0,none⟩) t.cells.length cap,.int .u64 (t.seed:Int)]∧At wo bc 183 (tcells cl++rest)):=by
    have h1:=HR.out.2.tab
    rw [BT.atN_len,BT.atN_seed] at h1
    exact ⟨h1,by rw [HCL.out]; exact HR.out.2.cells⟩
   obtain ⟨q0,q1⟩:=HT.out wo HTB.out.1
   obtain ⟨cnt,HCN⟩:∃ cnt,Hid (cnt=c.count):=⟨_,rfl⟩
   obtain ⟨chk,HCH⟩:∃ chk,Hid (chk=c.checks):=⟨_,rfl⟩
   have r0:wo.cell? ⟨bc,p*34,none⟩=some (Value.int .i64 cnt):=by
    have:=tcells_get hok.out rest p c hc 0 (by omega)
    rw [Nat.add_zero] at this
    rw [HTB.out.2.cell,this,HCN.out]
    rfl
   have r33:wo.cell? ⟨bc,p*34+33,none⟩=some (.int .u64 (chk:Int)):=by
    rw [HTB.out.2.cell,tcells_get hok.out rest p c hc 33 (by omega),HCH.out]
    exact cells_get33 hcok.out.keys
   have f0:=HTB.out.2.frozen (p*34)
   have f33:=HTB.out.2.frozen (p*34+33)
   obtain ⟨nc,e1,HNC⟩:∃ nc:Int,IntKind.i64.wrap (cnt+num)=nc∧Hid (nc=IntKind.i64.wrap (c.count+num)):=⟨_,rfl,by rw [HCN.out]; rfl⟩
   have hcku:Hid (U64 ck):=by show U64 ck; rw [HCK.out]; exact bhash_u64 _ _ _
   obtain ⟨nk,e2,HNK⟩:∃ nk:Nat,bits BinOp.xor IntKind.u64 (chk:Int) (ck:Int)=(nk:Int)∧Hid (nk=c.checks ^^^ ck):=⟨_,u64_xor_nat _ _ (by rw [HCH.out]; exact hcok.out.checks) hcku.out,by rw [HCH.out]; rfl⟩
   have HN0:Hid (At ((wo.setCell ⟨bc,p*34,none⟩ (Value.int .i64 nc)).setCell ⟨bc,p*34+33,none⟩ (.int .u64 (nk:Int))) bc 183 (tcells (cl.set p (c.part key num ck 0))++rest)):=by
    have a1:=(HTB.out.2.set (p*34) (Value.int .i64 nc)).set (p*34+33) (.int .u64 (nk:Int))
    have e0:=tcells_set hok.out rest p c hc 0 (by omega) (Value.int .i64 nc) ⟨nc,c.keys,c.checks⟩ (cells_set0 c nc)
    rw [Nat.add_zero] at e0
    have hp':p < cl.length:=by rw [hlen.out]; exact hpn
    have ok1:Ok34 (cl.set p ⟨nc,c.keys,c.checks⟩):=by
     intro d hd
     rcases List.mem_or_eq_of_mem_set hd with h | h
     ·exact hok.out d h
     ·rw [h]
      exact ⟨by rw [HNC.out]; exact wrap_fit _,hcok.out.keys,hcok.out.checks⟩
    have e3:=tcells_set ok1 rest p ⟨nc,c.keys,c.checks⟩ (by rw [List.getElem?_set_self hp']) 33 (by omega) (.int .u64 (nk:Int)) ⟨nc,c.keys,nk⟩ (cells_set33 (c:=⟨nc,c.keys,c.checks⟩) hcok.out.keys nk)
    rw [e0,e3,List.set_set] at a1
    rw [part_zero,← HNC.out,← HNK.out]
    exact a1
   have hpI:(p:Int) < (n:Int):=by omega
   have hkI:(k:Int) < 3:=by omega
   have hbcl:=HTB.out.2.lt
   have HC2:=Lib.hid hc
   clear hc
   go_wp2_with fail
   have HW0:Hid (Fr [bc] w ((wo.setCell ⟨bc,p*34,none⟩ (Value.int .i64 nc)).setCell ⟨bc,p*34+33,none⟩ (.int .u64 (nk:Int)))∧At ((wo.setCell ⟨bc,p*34,none⟩ (Value.int .i64 nc)).setCell ⟨bc,p*34+33,none⟩ (.int .u64 (nk:Int))) bt 174 [.slice (some ⟨bc,0,none⟩) t.cells.length cap,.int .u64 (t.seed:Int)]) :=
    ⟨(HR.out.1.setCell (by simp) _).setCell (by simp) _,(HTB.out.1.far hne _).far hne _⟩
   generalize (wo.setCell ⟨bc,p*34,none⟩ (Value.int .i64 nc)).setCell ⟨bc,p*34+33,none⟩ (.int .u64 (nk:Int))=W0 at HN0 HW0 ⊢
   clear q0 q1 r0 r33 f0 f33 e1 e2 hix HTB
   go_loopw [53] (fun s wx=>∃ i:Nat,i≤32∧s = .int .i64 i∧Hid (Fr [bc] w wx∧At wx bt 174 [.slice (some ⟨bc,0,none⟩) t.cells.length cap,.int .u64 (t.seed:Int)]∧At wx bc 183 (tcells (cl.set p (c.part key num ck i))++rest))) (fun s _=>32 - (intOf s).toNat)
   case atStart=>exact ⟨0,by omega,rfl,HW0.out.1,HW0.out.2,HN0.out⟩
   case round =>
    obtain ⟨i,hi,rfl,HI⟩:=hrel
    have hp':Hid (p < cl.length):=by show p < cl.length; rw [hlen.out]; exact hpn
    have oki:Hid (Ok34 (cl.set p (c.part key num ck i))):=by
     intro d hd
     rcases List.mem_or_eq_of_mem_set hd with h | h
     ·exact hok.out d h
     ·rw [h]
      exact part_ok hcok.out H.out.2.2 num hcku.out i
    by_cases hlt2:i < 32
    ·obtain ⟨x,hx⟩:∃ x,c.keys[i]?=some x:=⟨_,List.getElem?_eq_getElem (by rw [hcok.out.keys]; exact hlt2)⟩
     obtain ⟨y,hy⟩:∃ y,key[i]?=some y:=⟨_,List.getElem?_eq_getElem (by rw [H.out.2.2]; exact hlt2)⟩
     have hiy:=run_index_s key i y hy
     have hself:(cl.set p (c.part key num ck i))[p]?=some (c.part key num ck i):=List.getElem?_set_self hp'.out
     have rk:wr.cell? ⟨bc,p*34+1+i,none⟩=some (.int .u8 (x.toNat:Int)):=by
      rw [HI.out.2.2.cell,Nat.add_assoc,tcells_get oki.out rest p _ hself (1+i) (by omega)]
      exact cells_getK i x (part_get key num ck i x hx H.out.2.2 hcok.out.keys)
     have fk:=HI.out.2.2.frozen (p*34+1+i)
     obtain ⟨z,ez,HZ⟩:∃ z:UInt8,bits BinOp.xor IntKind.u8 (x.toNat:Int) (y.toNat:Int)=(z.toNat:Int)∧Hid (z=x ^^^ y):=⟨_,u8_xor_u x y,rfl⟩
     have HNN:Hid (Fr [bc] w (wr.setCell ⟨bc,p*34+1+i,none⟩ (.int .u8 (z.toNat:Int))).drew∧At (wr.setCell ⟨bc,p*34+1+i,none⟩ (.int .u8 (z.toNat:Int))).drew bt 174 [.slice (some ⟨bc,0,none⟩) t.cells.length cap,.int .u64 (t.seed:Int)]∧At (wr.setCell ⟨bc,p*34+1+i,none⟩ (.int .u8 (z.toNat:Int))).drew bc 183 (tcells (cl.set p (c.part key num ck (i+1)))++rest)):=by
      refine ⟨(HI.out.1.setCell (by simp) _).drew,(HI.out.2.1.far hne _).drew,?_⟩
      have a1:=(HI.out.2.2.set (p*34+1+i) (.int .u8 (z.toNat:Int))).drew
      rw [Nat.add_assoc,tcells_set oki.out rest p _ hself (1+i) (by omega) (.int .u8 (z.toNat:Int)) (c.part key num ck (i+1)) (by rw [HZ.out]; exact part_succ key num ck i x y hx hy hcok.out.keys H.out.2.2),List.set_set] at a1
      rw [Nat.add_assoc]
      exact a1
     have hiI:(i:Int) < 32:=by omega
     clear hx hy hself
     go_wp2_with fail
     go_still_tail 13,(by kernel_rfl)
     change wpList _ _ _ _ _ wr.drew
     go_wp2_with fail
     generalize (wr.setCell ⟨bc,p*34+1+i,none⟩ (.int .u8 (z.toNat:Int))).drew=W1 at HNN ⊢
     clear rk fk ez hiy
     (try go_wp2_with fail)
     go_roundw
     case rel =>
      first
       | exact ⟨i+1,by omega,by go_num,HNN⟩
       | ((repeat apply Exists.intro); exact ⟨⟨i+1,by omega,by go_num,HNN⟩,rfl⟩)
     case measure=>simp [intOf] <;> omega
    ·obtain rfl:i=32:=by omega
     have HEND:Hid (Fr [bc] w wr∧TabAt wr bt bc cap rest (t.atN key num (k+1))):=by
      have hlen2:(t.atN key num (k+1)).cells.length=t.cells.length:=BT.atN_len _ _ _ _
      have hseed2:(t.atN key num (k+1)).seed=t.seed:=BT.atN_seed _ _ _ _
      have hplace:p=bplace (t.atN key num k).cells.length (t.atN key num k).seed key k:=by rw [HP.out,BT.atN_len,BT.atN_seed,HN.out,HS.out]
      have hcells:(t.atN key num (k+1)).cells=cl.set p (c.part key num ck 32):=by
       show ((t.atN key num k).at1 key num k).cells=_
       rw [BT.at1_cells _ key num k c (by rw [← hplace,← HCL.out]; exact HC2.out),← hplace,← HCL.out,part_all c key num ck hcok.out.keys H.out.2.2,BT.atN_seed,HCK.out,HS.out]
      refine ⟨HI.out.1,?_,?_,BT.Ok.atN H.out.2.1.ok H.out.2.2 num (k+1),?_,?_⟩
      ·rw [hlen2,hseed2]
       exact HI.out.2.1
      ·rw [hcells]
       exact HI.out.2.2
      ·rw [hlen2]
       exact H.out.2.1.size
      ·rw [hlen2]
       exact H.out.2.1.cap
     go_wp2_with fail
     go_roundw
     case rel =>
      first
       | exact ⟨k+1,by omega,by go_num,HEND⟩
       | ((repeat apply Exists.intro); exact ⟨⟨k+1,by omega,by go_num,HEND⟩,rfl⟩)
     case measure=>simp [intOf] <;> omega
  ·obtain rfl:k=3:=by omega
   go_wp2_with fail
   go_end0
   exact ⟨rfl,HR.out.1,HR.out.2⟩
theorem zero_rep_get (n i:Nat) (h:i < n*34):(tcells (List.replicate n BC.zero))[i]?=BC.zero.cells[i % 34]?:=by
 have ok:Ok34 (List.replicate n BC.zero):=by
  intro c hc
  rw [List.eq_of_mem_replicate hc]
  exact BC.Ok.zero
 have hp:(List.replicate n BC.zero)[i / 34]?=some BC.zero:=by rw [List.getElem?_replicate,if_pos (by omega)]
 have:=tcells_get ok [] (i / 34) BC.zero hp (i % 34) (by omega)
 rw [List.append_nil,show i / 34*34+i % 34=i by omega] at this
 exact this
theorem made_zero (n:Nat):madeCells BC.zero.cells.toArray (n*34)=(tcells (List.replicate n BC.zero)).toArray:=by
 have ok:Ok34 (List.replicate n BC.zero):=by
  intro c hc
  rw [List.eq_of_mem_replicate hc]
  exact BC.Ok.zero
 apply Array.ext_getElem?
 intro i
 rw [show (tcells (List.replicate n BC.zero)).toArray[i]?=(tcells (List.replicate n BC.zero))[i]? from List.getElem?_toArray ..]
 by_cases h:i < n*34
 ·rw [zero_rep_get n i h]
  have hz:BC.zero.cells.toArray.size=34:=rfl
  have hm:i % 34 < BC.zero.cells.toArray.size:=by rw [hz]; omega
  have e1:(madeCells BC.zero.cells.toArray (n*34))[i]?=some (BC.zero.cells.toArray[i % 34]!):=by
   unfold madeCells
   rw [Array.getElem?_map,Array.getElem?_range,if_pos h,hz]
   rfl
  rw [e1,getElem!_pos BC.zero.cells.toArray (i % 34) hm,List.getElem?_eq_getElem (l:=BC.zero.cells) (i:=i % 34) (by simpa using hm)]
  rfl
 ·rw [List.getElem?_eq_none (by rw [tcells_len ok,List.length_replicate]; omega),Array.getElem?_eq_none (by rw [size_madeCells]; omega)]
theorem BT.Ok.new (n seed:Nat) (hs:U64 seed):(BT.new n seed).Ok:=by
 refine ⟨fun c hc=>?_,hs⟩
 rw [List.eq_of_mem_replicate hc]
 exact BC.Ok.zero
theorem run_makeCells (n:Nat) (hn:n≤3072) (w:World):(Instr.makeSlice 172 (.int .i64 (n:Int)) (.int .i64 (n:Int))).run Tryz.prog w = .ok (.slice (some ⟨w.heap.size,0,none⟩) n n) (w.alloc (.cells (tcells (List.replicate n BC.zero)).toArray 183)):=by
 have hinfo:(Tryz.prog.info? 183).map (fun i=>(i.zero,i.size,i.bytes))=some (some (.agg BC.zero.cells.toArray),34,48):=by kernel_rfl
 obtain ⟨i,hi,hz,hsz,hby⟩:=info_parts hinfo
 have:=run_make (P:=Tryz.prog) w 172 183 i _ Tryz.underlying172 hi hz .i64 .i64 (n:Int) (n:Int) (by omega) (by omega) (by rw [hby]; omega) (by omega)
 rw [hsz,Int.toNat_natCast] at this
 rw [this,← made_zero]
 rfl
theorem blNew_any (n seed:Nat) (w:World) (h:isSz (n:Int)=true) (hs:U64 seed):Calls Tryz.prog 65 #[Value.int .i64 (n:Int),.int .u64 (seed:Int)] w fun e w'=>e = .returned (.tuple #[Value.pointer (some ⟨w.heap.size+1,0,none⟩),Value.int .i64 0])∧Fr [] w w'∧TabAt w' (w.heap.size+1) w.heap.size n [] (BT.new n seed):=by
 have H:=Lib.hid (isSize_any (n:Int) w)
 rw [h] at H
 obtain ⟨n3,n4,n5⟩:=isSz_bounds h
 have hmk:=run_makeCells n n4 w
 have HH:=Lib.hid (And.intro h hs)
 clear h hs n5
 obtain ⟨W1,HW1⟩:∃ W1,Hid (W1=w.alloc (.cells (tcells (List.replicate n BC.zero)).toArray 183)):=⟨_,rfl⟩
 rw [← HW1.out] at hmk
 have hsz:W1.heap.size=w.heap.size+1:=by rw [HW1.out]; simp
 have HZ:=Lib.hid hsz
 clear hsz
 go_enter Tryz.func65,Tryz.ntmps65
 go_wp2_with fail
 refine H.out.mono ?_
 rintro e w1 ⟨rfl,rfl⟩
 go_wp2_with fail
 go_ret2
 have ha:At W1 w.heap.size 183 (tcells (List.replicate n BC.zero)):=by rw [HW1.out]; exact At.new _ _ _
 have hf:Fr [] w W1:=by rw [HW1.out]; exact (Fr.refl _ _).alloc _
 refine ⟨by rw [HZ.out]; rfl,hf.alloc _,?_,?_,BT.Ok.new n seed HH.out.2,?_,?_⟩
 ·have:=At.new W1 174 [.slice (some ⟨w.heap.size,0,none⟩) n n,.int .u64 (seed:Int)]
  rw [HZ.out] at this
  have e:(BT.new n seed).cells.length=n:=by simp [BT.new]
  rw [e]
  exact this
 ·rw [List.append_nil]
  exact ha.alloc _
 ·have e:(BT.new n seed).cells.length=n:=by simp [BT.new]
  rw [e]
  exact HH.out.1
 ·have e:(BT.new n seed).cells.length=n:=by simp [BT.new]
  rw [e]
  exact Nat.le_refl _
theorem enter_any (bt bc cap:Nat) (rest:List Value) (t:BT) (key:List UInt8) (num:Int) (w:World) (hv:Vars w) (ht:TabAt w bt bc cap rest t) (hk:key.length=32) :
  Calls Tryz.prog 116 #[Value.pointer (some ⟨bt,0,none⟩),.string (strOf key),Value.int .i64 num] w fun e w'=>e = .returned (Value.int .i64 0)∧Fr [bc] w w'∧TabAt w' bt bc cap rest (t.change key num):=by
 have hs:(strOf key).size=32:=by simp [strOf,ByteArray.size,hk]
 obtain ⟨n,HN⟩:∃ n,Hid (n=t.cells.length):=⟨_,rfl⟩
 have h3:3≤n:=by rw [HN.out]; exact (isSz_bounds ht.size).1
 have c0:w.cell? ⟨bt,0,none⟩=some (.slice (some ⟨bc,0,none⟩) n cap):=by rw [ht.tab.cell,HN.out]; rfl
 have HC:=Lib.hid (change_any bt bc cap rest t key num w hv ht hk)
 clear hv ht hk
 obtain ⟨ks,HK⟩:∃ ks,Hid (ks=strOf key):=⟨_,rfl⟩
 rw [← HK.out] at hs HC ⊢
 have hnn:(n:Int)≠0:=by omega
 have hnb:((n:Int) == 0)=false:=by simp; omega
 have hn0:n≠0:=by omega
 go_enter Tryz.func116,Tryz.ntmps116
 go_wp2_with fail
 refine HC.out.mono ?_
 rintro e w1 ⟨rfl,hf1,ht1⟩
 go_wp2_with fail
 go_ret
 exact ⟨rfl,hf1,ht1⟩
theorem insert_any (bt bc cap:Nat) (rest:List Value) (t:BT) (key:List UInt8) (w:World) (hv:Vars w) (ht:TabAt w bt bc cap rest t) (hk:key.length=32) :
  Calls Tryz.prog 67 #[Value.pointer (some ⟨bt,0,none⟩),.string (strOf key)] w fun e w'=>e = .returned (Value.int .i64 0)∧Fr [bc] w w'∧TabAt w' bt bc cap rest (t.change key (1)):=by
 have HC:=Lib.hid (enter_any bt bc cap rest t key (1) w hv ht hk)
 clear hv ht hk
 go_enter Tryz.func67,Tryz.ntmps67
 go_wp2_with fail
 refine HC.out.mono ?_
 rintro e w1 ⟨rfl,hf1,ht1⟩
 go_wp2_with fail
 go_ret
 exact ⟨rfl,hf1,ht1⟩
def PureS (bt bc p seed chk : Nat) (cnt : Int) (keys : List UInt8) (w' : World) : Prop :=
 w'.cell? ⟨bt, 1, none⟩ = some (.int .u64 (seed : Int)) ∧ w'.cell? ⟨bc, p * 34, none⟩ = some (Value.int .i64 cnt) ∧ w'.cell? ⟨bc, p * 34 + 33, none⟩ = some (.int .u64 (chk : Int)) ∧ (convert 23 9 (.slice (some ⟨bc, p * 34 + 1, none⟩) 32 32)).run Tryz.prog w' = .ok (.string (strOf keys)) w'
theorem pureS_of {w:World} {bt bc cap:Nat} {rest:List Value} {t:BT} (h:TabAt w bt bc cap rest t) (p:Nat) (c:BC) (hc:t.cells[p]?=some c):PureS bt bc p t.seed c.checks c.count c.keys w:=by
 have ok:Ok34 t.cells:=h.ok.cells
 have hk:=(ok c (List.mem_of_getElem? hc)).keys
 refine ⟨by rw [h.tab.cell]; rfl,?_,?_,?_⟩
 ·have:=tcells_get ok rest p c hc 0 (by omega)
  rw [Nat.add_zero] at this
  rw [h.cells.cell,this]
  rfl
 ·rw [h.cells.cell,tcells_get ok rest p c hc 33 (by omega)]
  exact cells_get33 hk
 ·have:=run_str (P:=Tryz.prog) (src:=23) (dst:=9) Tryz.underlying23 Tryz.underlying5 Tryz.underlying9 w (some ⟨bc,p*34+1,none⟩) 32 c.keys (fun j v hj=>⟨bc,p*34+1,rfl,h.cells.lt,by
   have hjl:=(List.getElem?_eq_some_iff.1 hj).1
   rw [B8_length,hk] at hjl
   rw [h.cells.cell,Nat.add_assoc,tcells_get ok rest p c hc (1+j) (by omega),BC.cells,Nat.add_comm 1 j,List.getElem?_cons_succ,List.getElem?_append_left (by rw [B8_length,hk]; exact hjl)]
   exact hj⟩)
  rw [hk] at this
  exact this
theorem pure_any (bt bc cap:Nat) (rest:List Value) (t:BT) (p:Nat) (c:BC) (w:World) (hv:Vars w) (ht:TabAt w bt bc cap rest t) (hc:t.cells[p]?=some c) :
  Calls Tryz.prog 127 #[Value.pointer (some ⟨bt,0,none⟩),Value.int .i64 (p:Int)] w fun e w'=>e = .returned (.bool (c.pure t.seed))∧Fr [] w w':=by
 obtain ⟨n,HN⟩:∃ n,Hid (n=t.cells.length):=⟨_,rfl⟩
 obtain ⟨seed,HS⟩:∃ seed,Hid (seed=t.seed):=⟨_,rfl⟩
 obtain ⟨cnt,HCN⟩:∃ cnt,Hid (cnt=c.count):=⟨_,rfl⟩
 obtain ⟨chk,HCH⟩:∃ chk,Hid (chk=c.checks):=⟨_,rfl⟩
 obtain ⟨keys,HK⟩:∃ keys,Hid (keys=c.keys):=⟨_,rfl⟩
 have hp:p < n:=by rw [HN.out]; exact (List.getElem?_eq_some_iff.1 hc).1
 have hpI:(p:Int) < (n:Int):=by omega
 have q0:w.cell? ⟨bt,0,none⟩=some (.slice (some ⟨bc,0,none⟩) n cap):=by rw [ht.tab.cell,HN.out]; rfl
 have HP:=Lib.hid (pureS_of ht p c hc)
 rw [← HS.out,← HCN.out,← HCH.out,← HK.out] at HP
 have HPD:=Lib.hid (pureS_of (w:=w.drew) (ht.fr (Fr.refl [] w).drew (by simp) (by simp)) p c hc)
 rw [← HS.out,← HCN.out,← HCH.out,← HK.out] at HPD
 have H:=Lib.hid (And.intro hv (And.intro ht hc))
 have HKL:Hid (keys.length=32):=by show keys.length=32; rw [HK.out]; exact (ht.ok.cells c (List.mem_of_getElem? hc)).keys
 obtain ⟨ck,HCK⟩:∃ ck,Hid (ck=bhash seed 3 keys):=⟨_,rfl⟩
 have HCC:Hid (∀ W,Fr [] w W→Calls Tryz.prog 169 #[.int .u64 (seed:Int),.string (strOf keys)] W fun e w'=>e = .returned (.int .u64 (ck:Int))∧Fr [] W w'∧PureS bt bc p seed chk cnt keys w'):=fun W hW=>by
  have:=check_any seed keys W (H.out.1.fr hW (by simp) (by simp)) (by rw [HS.out]; exact H.out.2.1.ok.seed) (by rw [HKL.out]; omega)
  rw [← HCK.out] at this
  refine this.mono ?_
  rintro e w' ⟨he,hf⟩
  refine ⟨he,hf,?_⟩
  have h2:=pureS_of (H.out.2.1.fr (hW.trans hf) (by simp) (by simp)) p c H.out.2.2
  rw [← HS.out,← HCN.out,← HCH.out,← HK.out] at h2
  exact h2
 have hsl:∀ W:World,(Instr.sliceAt 134 (.pointer (some ⟨bc,p*34+1,none⟩)) none none none).run Tryz.prog W = .ok (.slice (some ⟨bc,p*34+1,none⟩) 32 32) W:=fun W=>by
  have hl:Tryz.prog.arrayLen 134=32:=by kernel_rfl
  have hz:(sizeOf (Tryz.prog.elem 134)).run Tryz.prog W = .ok 1 W:=by kernel_rfl
  rw [run_sliceAt_array_all W 134 ⟨bc,p*34+1,none⟩ (by kernel_rfl),hz,hl]
  simp [slicedAt,add_none]
 have HRES:Hid (c.pure t.seed=((decide (cnt=1) || decide (cnt = -1)) && decide (chk=ck))):=by
  show c.pure t.seed=_
  rw [HCN.out,HCH.out,HCK.out,HK.out,HS.out]
  rfl
 rw [HRES.out]
 clear hv ht hc
 by_cases h1:cnt=1
 ·have HD:Hid (((decide (cnt=1) || decide (cnt = -1)) && decide (chk=ck))=decide (chk=ck)):=by show _=_; rw [h1]; rfl
  rw [HD.out]
  clear HD
  subst h1
  go_enter Tryz.func127,Tryz.ntmps127
  go_wp2_with fail
  refine wp_region_held_drew (S:=(fun w'=>w'.cell? ⟨bt,1,none⟩=some (.int .u64 (seed:Int))∧w'.cell? ⟨bc,p*34,none⟩=some (Value.int .i64 (1))∧w'.cell? ⟨bc,p*34+33,none⟩=some (.int .u64 (chk:Int))∧(convert 23 9 (.slice (some ⟨bc,p*34+1,none⟩) 32 32)).run Tryz.prog w' = .ok (vS keys) w')) (by kernel_rfl) HPD.out (fun hHeld=>?_)
  refine wpAnyH_take (i:=0) (v:=?v0) rfl (by kernel_rfl) (by kernel_rfl) (by kernel_rfl) (fun _ _ _ h=>h) (Or.inl ⟨by rfl,?y0⟩) hHeld ?r0
  case y0=>(intro w' hS'; (try dsimp only at hS'); go_simp; try with_reducible rfl)
  refine wpAnyH_take (i:=1) (v:=?v1) rfl (by kernel_rfl) (by kernel_rfl) (by kernel_rfl) (fun _ _ _ h=>h) (Or.inl ⟨by rfl,?y1⟩) hHeld ?r1
  case y1=>(intro w' hS'; (try dsimp only at hS'); go_simp; try with_reducible rfl)
  refine wpAnyH_take (i:=2) (v:=?v2) rfl (by kernel_rfl) (by kernel_rfl) (by kernel_rfl) (fun _ _ _ h=>h) (Or.inl ⟨by rfl,?y2⟩) hHeld ?r2
  case y2=>(intro w' hS'; (try dsimp only at hS'); go_simp; try with_reducible rfl)
  refine wpAnyH_take (i:=3) (v:=?v3) rfl (by kernel_rfl) (by kernel_rfl) (by kernel_rfl) (fun _ _ _ h=>h) (Or.inl ⟨by rfl,?y3⟩) hHeld ?r3
  case y3=>(intro w' hS'; (try dsimp only at hS'); go_simp; try with_reducible rfl)
  refine wpAnyH_take (i:=4) (v:=.bool true) rfl (by kernel_rfl) (by kernel_rfl) (by kernel_rfl) (fun _ _ _ h=>h) (Or.inl ⟨by rfl,?y4⟩) hHeld ?r4
  case y4=>(intro w' hS'; (try dsimp only at hS'); go_simp; try with_reducible rfl)
  refine wpAnyH_take (i:=5) (v:=.bool true) rfl (by kernel_rfl) (by kernel_rfl) (by kernel_rfl) (fun _ _ _ h=>h) (Or.inl ⟨by rfl,?y5⟩) hHeld ?r5
  case y5=>(intro w' hS'; (try dsimp only at hS'); go_simp; try with_reducible rfl)
  refine wpAnyH_take (i:=6) (v:=undef) rfl (by kernel_rfl) (by kernel_rfl) (by kernel_rfl) (fun _ _ _ h=>h) (Or.inr ⟨by kernel_rfl,rfl⟩) hHeld ?r6
  refine wpAnyH_take (i:=7) (v:=undef) rfl (by kernel_rfl) (by kernel_rfl) (by kernel_rfl) (fun _ _ _ h=>h) (Or.inr ⟨by kernel_rfl,rfl⟩) hHeld ?r7
  refine wpAnyH_take (i:=8) (v:=undef) rfl (by kernel_rfl) (by kernel_rfl) (by kernel_rfl) (fun _ _ _ h=>h) (Or.inr ⟨by kernel_rfl,rfl⟩) hHeld ?r8
  refine wpAnyH_take (i:=9) (v:=undef) rfl (by kernel_rfl) (by kernel_rfl) (by kernel_rfl) (fun _ _ _ h=>h) (Or.inr ⟨by kernel_rfl,rfl⟩) hHeld ?r9
  refine wpAnyH_take (i:=10) (v:=undef) rfl (by kernel_rfl) (by kernel_rfl) (by kernel_rfl) (fun _ _ _ h=>h) (Or.inr ⟨by kernel_rfl,rfl⟩) hHeld ?r10
  refine wpAnyH_take (i:=11) (v:=.bool true) rfl (by kernel_rfl) (by kernel_rfl) (by kernel_rfl) (fun _ _ _ h=>h) (Or.inl ⟨by kernel_rfl,?y11⟩) hHeld ?r11
  case y11=>(intro w' hS'; (try dsimp only at hS'); go_simp; try with_reducible rfl)
  refine wpAnyH_take (i:=12) (v:=.bool true) rfl (by kernel_rfl) (by kernel_rfl) (by kernel_rfl) (fun _ _ _ h=>h) (Or.inl ⟨by kernel_rfl,?y12⟩) hHeld ?r12
  case y12=>(intro w' hS'; (try dsimp only at hS'); go_simp; try with_reducible rfl)
  refine wpAnyH_take (i:=13) (v:=?v13) rfl (by kernel_rfl) (by kernel_rfl) (by kernel_rfl) (fun _ _ _ h=>h) (Or.inl ⟨by kernel_rfl,?y13⟩) hHeld ?r13
  case y13=>(intro w' hS'; (try dsimp only at hS'); go_simp; try with_reducible rfl)
  refine wpAnyH_take (i:=14) (v:=?v14) rfl (by kernel_rfl) (by kernel_rfl) (by kernel_rfl) (fun _ _ _ h=>h) (Or.inl ⟨by kernel_rfl,?y14⟩) hHeld ?r14
  case y14=>(intro w' hS'; (try dsimp only at hS'); go_simp; try with_reducible rfl)
  refine wpAnyH_take (i:=15) (v:=?v15) rfl (by kernel_rfl) (by kernel_rfl) (by kernel_rfl) (fun _ _ _ h=>h) (Or.inl ⟨by kernel_rfl,?y15⟩) hHeld ?r15
  case y15=>(intro w' hS'; (try dsimp only at hS'); go_simp; try with_reducible rfl)
  refine wpAnyH_take (i:=16) (v:=?v16) rfl (by kernel_rfl) (by kernel_rfl) (by kernel_rfl) (fun _ _ _ h=>h) (Or.inl ⟨by kernel_rfl,?y16⟩) hHeld ?r16
  case y16=>(intro w' hS'; (try dsimp only at hS'); go_simp; try with_reducible rfl)
  refine wpAnyH_take (i:=17) (v:=?v17) rfl (by kernel_rfl) (by kernel_rfl) (by kernel_rfl) (fun _ _ _ h=>h) (Or.inl ⟨by kernel_rfl,?y17⟩) hHeld ?r17
  case y17=>(intro w' hS'; (try dsimp only at hS'); go_simp; try with_reducible rfl)
  refine wpAnyH_take (i:=18) (v:=?v18) rfl (by kernel_rfl) (by kernel_rfl) (by kernel_rfl) (fun _ _ _ h=>h) (Or.inl ⟨by kernel_rfl,?y18⟩) hHeld ?r18
  case y18=>(intro w' hS'; (try dsimp only at hS'); go_simp; try with_reducible rfl)
  refine wpAnyH_take (i:=19) (v:=?v19) rfl (by kernel_rfl) (by kernel_rfl) (by kernel_rfl) (fun _ _ _ h=>h) (Or.inl ⟨by kernel_rfl,?y19⟩) hHeld ?r19
  case y19=>(intro w' hS'; (try dsimp only at hS'); go_simp; try with_reducible rfl)
  refine wpAnyH_take (i:=20) (v:=?v20) rfl (by kernel_rfl) (by kernel_rfl) (by kernel_rfl) (fun _ _ _ h=>h) (Or.inl ⟨by kernel_rfl,?y20⟩) hHeld ?r20
  case y20=>(intro w' hS'; (try dsimp only at hS'); go_simp; try with_reducible rfl)
  refine wpAnyH_take (i:=21) (v:=?v21) rfl (by kernel_rfl) (by kernel_rfl) (by kernel_rfl) (fun _ _ _ h=>h) (Or.inl ⟨by kernel_rfl,?y21⟩) hHeld ?r21
  case y21=>(intro w' hS'; (try dsimp only at hS'); go_simp; try with_reducible rfl)
  refine wpAnyH_take (i:=22) (v:=?v22) rfl (by kernel_rfl) (by kernel_rfl) (by kernel_rfl) (fun _ _ _ h=>h) (Or.inl ⟨by kernel_rfl,?y22⟩) hHeld ?r22
  case y22=>(intro w' hS'; (try dsimp only at hS'); go_simp; try with_reducible rfl)
  refine wpAnyH_take (i:=23) (v:=?v23) rfl (by kernel_rfl) (by kernel_rfl) (by kernel_rfl) (fun _ _ _ h=>h) (Or.inl ⟨by kernel_rfl,?y23⟩) hHeld ?r23
  case y23=>(intro w' hS'; (try dsimp only at hS'); go_simp; try with_reducible rfl)
  refine wpAnyH_take (i:=24) (v:=?v24) rfl (by kernel_rfl) (by kernel_rfl) (by kernel_rfl) (fun _ _ _ h=>h) (Or.inl ⟨by kernel_rfl,?y24⟩) hHeld ?r24
  case y24=>(intro w' hS'; (try dsimp only at hS'); go_simp; try with_reducible rfl)
  refine wpAnyH_take (i:=25) (v:=?v25) rfl (by kernel_rfl) (by kernel_rfl) (by kernel_rfl) (fun _ _ _ h=>h) (Or.inl ⟨by kernel_rfl,?y25⟩) hHeld ?r25
  case y25=>(intro w' hS'; (try dsimp only at hS'); go_simp; try with_reducible rfl)
  refine wpAnyH_ready (rs:=[26]) (by kernel_rfl) (by simp) ?_
  refine AllReadyH.cons rfl (fun K hK=>?_) AllReadyH.nil
  go_simp
  refine (HCC.out _ (Fr.refl _ _).drew).mono ?_
  rintro e w2 ⟨rfl,hf2,hs2⟩
  (try go_wp2_with fail)
  refine hK.out _ _ hs2 (fun hHeld2=>?_)
  clear hK K hHeld
  have hHeld:=hHeld2
  clear hHeld2
  refine wpAnyH_take (i:=27) (v:=?v27) rfl (by kernel_rfl) (by kernel_rfl) (by kernel_rfl) (fun _ _ _ h=>h) (Or.inl ⟨by kernel_rfl,?y27⟩) hHeld ?r27
  case y27=>(intro w' hS'; (try dsimp only at hS'); go_simp; try with_reducible rfl)
  refine wpAnyH_take (i:=28) (v:=?v28) rfl (by kernel_rfl) (by kernel_rfl) (by kernel_rfl) (fun _ _ _ h=>h) (Or.inl ⟨by kernel_rfl,?y28⟩) hHeld ?r28
  case y28=>(intro w' hS'; (try dsimp only at hS'); go_simp; try with_reducible rfl)
  refine wpAnyH_take (i:=29) (v:=?v29) rfl (by kernel_rfl) (by kernel_rfl) (by kernel_rfl) (fun _ _ _ h=>h) (Or.inl ⟨by kernel_rfl,?y29⟩) hHeld ?r29
  case y29=>(intro w' hS'; (try dsimp only at hS'); go_simp; try with_reducible rfl)
  refine wpAnyH_done (by kernel_rfl) ?_ _
  go_wp2_with fail
  go_ret
  exact ⟨ret_bool (by rw [Bool.eq_iff_iff]; simp; omega),(Fr.refl [] w).drew.trans hf2⟩
 by_cases h2:cnt = -1
 ·have HD:Hid (((decide (cnt=1) || decide (cnt = -1)) && decide (chk=ck))=decide (chk=ck)):=by show _=_; rw [h2]; rfl
  rw [HD.out]
  clear HD
  subst h2
  go_enter Tryz.func127,Tryz.ntmps127
  go_wp2_with fail
  go_region_held3 (fun w'=>w'.cell? ⟨bt,1,none⟩=some (.int .u64 (seed:Int))∧w'.cell? ⟨bc,p*34,none⟩=some (Value.int .i64 (-1))∧w'.cell? ⟨bc,p*34+33,none⟩=some (.int .u64 (chk:Int))∧(convert 23 9 (.slice (some ⟨bc,p*34+1,none⟩) 32 32)).run Tryz.prog w' = .ok (vS keys) w') (first | exact HPD.out | exact hs2) (first | (go_at_call 169; refine (HCC.out _ (Fr.refl _ _).drew).mono ?_; rintro e w2 ⟨rfl,hf2,hs2⟩))
  go_wp2_with fail
  go_ret
  exact ⟨ret_bool (by rw [Bool.eq_iff_iff]; simp; omega),(Fr.refl [] w).drew.trans hf2⟩
 have d1:(cnt == 1)=false:=by simpa using h1
 have d2:(cnt == -1)=false:=by simpa using h2
 have d3:decide (cnt=1)=false:=by simpa using h1
 have d4:decide (cnt = -1)=false:=by simpa using h2
 have HD:Hid (((decide (cnt=1) || decide (cnt = -1)) && decide (chk=ck))=false):=by show _=_; rw [d3,d4]; rfl
 rw [HD.out]
 obtain ⟨p1,p2,p3,p4⟩:PureS bt bc p seed chk cnt keys w:=HP.out
 clear p4 p3 p1 h1 h2 hsl
 go_enter Tryz.func127,Tryz.ntmps127
 go_wp2_with fail
 go_quiet (fail)
 go_wp2_with fail
 go_ret
 exact ⟨rfl,(Fr.refl [] w).drewN _⟩
theorem B8_cell (l:List UInt8):B8 l=l.map Extern.Stop.cell:=rfl
theorem cells_extract (c:BC) (hk:c.keys.length=32):c.cells.toArray.extract 1 33=(B8 c.keys).toArray:=by
 have h:(B8 c.keys).length=32:=by rw [B8_length,hk]
 rw [List.extract_toArray]
 congr 1
 show (List.drop 1 (Value.int .i64 c.count::(B8 c.keys++[.int .u64 (c.checks:Int)]))).take (33 - 1)=B8 c.keys
 rw [List.drop_succ_cons,List.drop_zero,List.take_append_of_le_length (by rw [h]; decide),List.take_of_length_le (by rw [h]; decide)]
theorem run_eqCells {P : Program} (w : World) (d : Nat) (ti tk tu te : TypeId) (f0 f1 f2 : Field) (hn0 : f0.name ≠ "_") (hn1 : f1.name ≠ "_") (hn2 : f2.name ≠ "_") (h0 : f0.offset = 0) (h1 : f1.offset = 1) (h2 : f2.offset = 33)
  (t0:f0.type=ti) (t1:f1.type=tk) (t2:f2.type=tu) (ui:P.underlying ti=some (.int .i64)) (uk:P.underlying tk=some (.array 32 te)) (uu:P.underlying tu=some (.int .u64)) (ue:P.underlying te=some (.int .u8))
  (hse:∀ w,(sizeOf te).run P w = .ok 1 w) (hsk:∀ w,(sizeOf tk).run P w = .ok 32 w) (c e:BC) (hc:c.keys.length=32) (he:e.keys.length=32) :
  (Op.eqFields (d+2) c.cells.toArray e.cells.toArray [f0,f1,f2]).run P w = .ok (decide (c.count=e.count) && decide (c.keys=e.keys) && decide (c.checks=e.checks)) w:=by
 have p0:∀ x:BC,(part ti x.cells.toArray 0).run P w = .ok (Value.int .i64 x.count) w:=fun x=>by simp [part,isAgg,run_underlying ui,BC.cells]
 have p1:∀ x:BC,x.keys.length=32→(part tk x.cells.toArray 1).run P w = .ok (.agg (B8 x.keys).toArray) w:=fun x hx=>by
  have:=cells_extract x hx
  simp only [part,isAgg,Sem.run_bind,run_underlying uk,Result.andThen_ok,Sem.run_pure,if_true,hsk]
  rw [← this]
 have p2:∀ x:BC,x.keys.length=32→(part tu x.cells.toArray 33).run P w = .ok (.int .u64 (x.checks:Int)) w:=fun x hx=>by
  have:=cells_get33 hx
  simp [part,isAgg,run_underlying uu,this]
 have q1:=run_equalIn_bytes (P:=P) w d tk te 32 uk ue hse c.keys e.keys hc he
 rw [← B8_cell,← B8_cell] at q1
 simp only [Op.eqFields,hn0,hn1,hn2,h0,h1,h2,t0,t1,t2,Sem.run_bind,Sem.run_ite,ne_eq,not_false_eq_true,if_true,p0,p1 _ hc,p1 _ he,p2 _ hc,p2 _ he,Result.andThen_ok,q1,run_equalIn_int w (d+1) ti .i64 .i64 _ _ ui,run_equalIn_int w (d+1) tu .u64 .u64 _ _ uu,Sem.run_pure]
 by_cases a0:c.count=e.count
 ·by_cases a1:c.keys=e.keys
  ·by_cases a2:c.checks=e.checks
   ·simp [a0,a1,a2]
   ·have:((c.checks:Int) == (e.checks:Int))=false:=by simp; omega
    simp [a0,a1,a2,this]
  ·have:(c.keys == e.keys)=false:=by simpa using a1
   simp [a0,a1,this]
 ·have:(c.count == e.count)=false:=by simpa using a0
  simp [a0,this]
theorem run_neqCells {P : Program} (t ti tk tu te : TypeId) (a0 a1 a2 : String) (hn0 : a0 ≠ "_") (hn1 : a1 ≠ "_") (hn2 : a2 ≠ "_") (hm : (P.fieldsOf t).toList.map (fun f => (f.name, f.type, f.offset)) = [(a0, ti, 0), (a1, tk, 1), (a2, tu, 33)])
  (ht:P.underlying t=some (.struct (P.fieldsOf t))) (hp:P.stoodInHeld t=false) (ui:P.underlying ti=some (.int .i64)) (uk:P.underlying tk=some (.array 32 te)) (uu:P.underlying tu=some (.int .u64)) (ue:P.underlying te=some (.int .u8))
  (hse:∀ w,(sizeOf te).run P w = .ok 1 w) (hsk:∀ w,(sizeOf tk).run P w = .ok 32 w) (c e:BC) (hc:c.keys.length=32) (he:e.keys.length=32) (w:World) :
  (binOp .neq t (.agg c.cells.toArray) (.agg e.cells.toArray)).run P w = .ok (.bool (!(decide (c.count=e.count) && decide (c.keys=e.keys) && decide (c.checks=e.checks)))) w:=by
 rw [run_neq_struct,show (10000:Nat)=9997+2+1 from rfl,run_equalIn_agg w (9997+2) t _ _ ht hp]
 generalize (P.fieldsOf t).toList=fs at hm
 have hl:fs.length=3:=by have:=congrArg List.length hm; simpa using this
 match fs,hl with
 | [f0,f1,f2],_ =>
   simp only [List.map_cons,List.map_nil,List.cons.injEq,Prod.mk.injEq,and_true] at hm
   obtain ⟨⟨m0,m1,m2⟩,⟨m3,m4,m5⟩,⟨m6,m7,m8⟩⟩:=hm
   rw [run_eqCells w 9997 ti tk tu te f0 f1 f2 (by rw [m0]; exact hn0) (by rw [m3]; exact hn1) (by rw [m6]; exact hn2) m2 m5 m8 m1 m4 m7 ui uk uu ue hse hsk c e hc he]
   rfl
theorem run_neqCell (c : BC) (hc : c.keys.length = 32) (w : World) : (binOp .neq 183 (.agg c.cells.toArray) (.agg BC.zero.cells.toArray)).run Tryz.prog w = .ok (.bool (!c.isZero)) w :=
 run_neqCells 183 3 134 80 5 "count" "keys" "checks" (by decide) (by decide) (by decide) (by kernel_rfl) (by kernel_rfl) (by kernel_rfl) Tryz.underlying3 Tryz.underlying134 Tryz.underlying80 Tryz.underlying5 (fun w => by kernel_rfl) (fun w => by kernel_rfl) c BC.zero hc rfl w
theorem el_cell:Elem Tryz.prog 172 183 (.agg BC.zero.cells.toArray) 34 48:=⟨Tryz.underlying172,by kernel_rfl,rfl,by omega,by omega⟩
theorem ownsRow_atN {w:World} {base:Nat} {e:TypeId} {sz:Nat} {v:Value} {n:Nat} {xs:List Value} (h:w.ownsRow base e sz v n xs) (hn:0 < n) :
  ∃ g cap rest,v = .slice (some ⟨g,0,none⟩) n cap∧base≤g∧n≤cap∧At w g e (xs++rest):=by
 rcases h.2 with ⟨_,h0⟩ | ⟨g,cap,cur,rfl,hb,hgg,hnc,_,hcs,ht⟩
 ·omega
 ·refine ⟨g,cap,cur.toList.drop (n*sz),rfl,hb,hnc,?_⟩
  unfold At
  rw [← ht,List.take_append_drop]
  simpa using hgg
theorem cloneCells_any (bc cap n:Nat) (l:List BC) (rest:List Value) (w:World) (ha:At w bc 183 (tcells l++rest)) (hok:Ok34 l) (hn:n=l.length) (h3:3≤n) (h4:n≤3072) :
  Calls Tryz.prog 168 #[.slice (some ⟨bc,0,none⟩) n cap] w fun e w'=>∃ g c' rest',e = .returned (.slice (some ⟨g,0,none⟩) n c')∧w.heap.size≤g∧n≤c'∧Fr [] w w'∧At w' g 183 (tcells l++rest'):=by
 have H:=Lib.hid (And.intro ha (And.intro hok hn))
 obtain ⟨C,HC⟩:∃ C,Hid (C=tcells l):=⟨_,rfl⟩
 have HCL:Hid (C.length=n*34∧(∀ v∈C,v.oneCell'=true)):=by
  show _∧_
  rw [HC.out,tcells_len hok,hn]
  exact ⟨rfl,tcells_one⟩
 have HCA:Hid (∀ W,Fr [] w W→CellsAt W (some ⟨bc,0,none⟩) C):=fun W hW j v hv=>⟨_,rfl,by
  rw [add_none,Nat.zero_add,hW.cell (p:=⟨bc,j,none⟩) ha.lt (by simp),ha.cell,List.getElem?_append_left (by rw [← HC.out]; exact (List.getElem?_eq_some_iff.1 hv).1),← HC.out]
  exact hv⟩
 clear ha hok hn
 have hnil:=fun W:World=>Lib.run_eql_slice_nil (P:=Tryz.prog) W 172 183 (some ⟨bc,0,none⟩) n cap 0 0 Tryz.underlying172
 go_enter Tryz.func168,Tryz.ntmps168
 go_wp2_with (at_builtin; refine wpList_app el_cell rfl (.tmp 5) (.tmp 6) rfl w.heap.size _ _ [] rfl (World.ownsRow_made _ #[] 0 (Nat.le_refl _) (Nat.zero_le _) rfl) (some ⟨bc,0,none⟩) n cap C rfl HCL.out.1 (HCA.out _ ((Fr.refl _ _).alloc _)) HCL.out.2 (by omega) (by simp) ?_; intro v1 w1 hown1 hg1 hb1)
 rw [List.nil_append,Nat.zero_add] at hown1
 obtain ⟨g,c',rest',rfl,hg,hc,hat⟩:=ownsRow_atN hown1 (by omega)
 go_ret
 refine ⟨g,c',rest',rfl,hg,hc,((Fr.refl [] w).alloc _).grown hg1 (fun k hk=>.inr ?_),by rw [← HC.out]; exact hat⟩
 have hk2:some w.heap.size=some k:=hk
 injection hk2 with hk2
 exact Nat.le_of_eq hk2
theorem clone_any (bt bc cap:Nat) (rest:List Value) (t:BT) (w:World) (ht:TabAt w bt bc cap rest t) :
  Calls Tryz.prog 126 #[Value.pointer (some ⟨bt,0,none⟩)] w fun e w'=>∃ bt' bc' cap' rest',e = .returned (Value.pointer (some ⟨bt',0,none⟩))∧w.heap.size≤bt'∧w.heap.size≤bc'∧Fr [] w w'∧TabAt w' bt' bc' cap' rest' t:=by
 obtain ⟨n,HN⟩:∃ n,Hid (n=t.cells.length):=⟨_,rfl⟩
 obtain ⟨seed,HS⟩:∃ seed,Hid (seed=t.seed):=⟨_,rfl⟩
 have hb:=isSz_bounds ht.size
 have h3:3≤n:=by rw [HN.out]; exact hb.1
 have h4:n≤3072:=by rw [HN.out]; exact hb.2.1
 have HT:Hid (∀ W,Fr [] w W→W.cell? ⟨bt,0,none⟩=some (.slice (some ⟨bc,0,none⟩) n cap)∧W.cell? ⟨bt,1,none⟩=some (.int .u64 (seed:Int))):=fun W hW =>
  ⟨by rw [(ht.tab.fr hW (by simp)).cell,HN.out]; rfl,by rw [(ht.tab.fr hW (by simp)).cell,HS.out]; rfl⟩
 obtain ⟨q0,q1⟩:=HT.out w (Fr.refl _ _)
 have HC:=Lib.hid (cloneCells_any bc cap n t.cells rest w.drew (ht.cells.drew) ht.ok.cells HN.out h3 h4)
 have H:=Lib.hid ht
 have hbl:=ht.tab.lt
 clear ht hb
 go_enter Tryz.func126,Tryz.ntmps126
 go_wp2_with fail
 go_region_held3 (fun w'=>w'.cell? ⟨bt,0,none⟩=some (.slice (some ⟨bc,0,none⟩) n cap)∧w'.cell? ⟨bt,1,none⟩=some (.int .u64 (seed:Int))) (first | go_keep | (exact HT.out _ H2.out) | (exact HT.out _ (H2.out.alloc _)))
  (first | (go_at_call 168; ((with_reducible refine HC.out.mono ?_)); rintro e w2 ⟨g,c',rest',rfl,hg,hc',hf2,ha2⟩; have H2:Hid (Fr [] w w2):=(Fr.refl [] w).drew.trans hf2; have HA2:=Lib.hid (And.intro ha2 hg); have hbl2:bt < w2.heap.size:=Nat.lt_of_lt_of_le hbl H2.out.size; clear hf2 ha2 hg))
 rename_i hHeld
 clear hHeld
 go_wp2_with fail
 go_ret
 refine ⟨w2.heap.size,g,c',rest',rfl,H2.out.size,HA2.out.2,H2.out.alloc _,?_,HA2.out.1.alloc _,H.out.ok,H.out.size,by rw [← HN.out]; exact hc'⟩
 rw [← HN.out,← HS.out]
 exact At.new w2 174 [.slice (some ⟨g,0,none⟩) n c',.int .u64 (seed:Int)]
theorem all_take_succ {l:List BC} {f:BC→Bool} {i:Nat} {c:BC} (hc:l[i]?=some c) (h:(l.take i).all f=true) (hf:f c=true):(l.take (i+1)).all f=true:=by
 obtain ⟨h1,e1⟩:=List.getElem?_eq_some_iff.1 hc
 rw [List.take_succ_eq_append_getElem h1,e1,List.all_append,h]
 simp [hf]
theorem empty_any (bt bc cap : Nat) (rest : List Value) (t : BT) (w : World) (ht : TabAt w bt bc cap rest t) :
  Calls Tryz.prog 131 #[Value.pointer (some ⟨bt, 0, none⟩)] w fun e w' => e = .returned (.bool t.empty) ∧ Fr [] w w' := by
 obtain ⟨n, HN⟩ : ∃ n, Hid (n = t.cells.length) := ⟨_, rfl⟩
 have hb := isSz_bounds ht.size
 have h4 : n ≤ 3072 := by rw [HN.out]; exact hb.2.1
 have q0 : w.cell? ⟨bt, 0, none⟩ = some (.slice (some ⟨bc, 0, none⟩) n cap) := by rw [ht.tab.cell, HN.out]; rfl
 have H := Lib.hid ht
 have hbcl := ht.cells.lt
 clear ht hb
 obtain ⟨Z, HZ⟩ : ∃ Z, Hid (Z = BC.zero.cells) := ⟨_, rfl⟩
 have hgd : Tryz.prog.eqGuardType Tryz.prog.depth 183 = false := by kernel_rfl
 go_enter Tryz.func131, Tryz.ntmps131
 go_wp2_with fail
 go_loopw [10] (fun s wx => ∃ i : Nat, i ≤ n ∧ s = .int .i64 i ∧ Hid (Fr [] w wx ∧ (t.cells.take i).all BC.isZero = true)) (fun s _ => n - (intOf s).toNat)
 case atStart => exact ⟨0, by omega, rfl, Fr.refl _ _, rfl⟩
 case round =>
  obtain ⟨i, hi, rfl, HR⟩ := hrel
  by_cases hlt : i < n
  ·obtain ⟨c, hc⟩ : ∃ c, t.cells[i]? = some c := ⟨_, List.getElem?_eq_getElem (by rw [← HN.out]; exact hlt)⟩
   have hcok := H.out.ok.cells c (List.mem_of_getElem? hc)
   obtain ⟨L, HL⟩ : ∃ L, Hid (L = c.cells) := ⟨_, rfl⟩
   have HLX : Hid (L.length = 34 ∧ (∀ v ∈ L, v.oneCell' = true) ∧ ∀ j v, L[j]? = some v → wr.cell? ⟨bc, i * 34 + j, none⟩ = some v) := by
    show _ ∧ _ ∧ _
    rw [HL.out]
    refine ⟨BC.cells_len hcok, fun v hv => tcells_one (l := [c]) v (by simpa [tcells] using hv), fun j v hj => ?_⟩
    have hj34 := (List.getElem?_eq_some_iff.1 hj).1
    rw [BC.cells_len hcok] at hj34
    rw [HR.out.1.cell (p := ⟨bc, i * 34 + j, none⟩) hbcl (by simp), H.out.cells.cell, tcells_get H.out.ok.cells rest i c hc j hj34]
    exact hj
   have hiI : (i : Int) < (n : Int) := by omega
   have hq := run_neqCell c hcok.keys
   rw [← HL.out, ← HZ.out] at hq
   have HC := Lib.hid hc
   clear hc hcok
   cases hz : c.isZero
   ·rw [hz] at hq
    go_wp2_with (first
     | (refine wpList_load_at rfl 183 (.tmp 12) rfl bc (i * 34) rfl L _ (fun j v hj => HLX.out.2.2 j v hj) Tryz.underlying183 rfl (by rw [HLX.out.1]; kernel_rfl) ?_)
     | (refine wpList_store_new rfl 183 (.tmp 4) (.tmp 13) rfl rfl 183 _ L rfl (by rw [HLX.out.1]; rfl) (by rw [HLX.out.1]; kernel_rfl) HLX.out.2.1 ?_; intro w1 hf1 ha1)
     | (refine wpList_load_at rfl 183 (.tmp 4) rfl wr.heap.size 0 rfl L _ (fun j v hj => by rw [Nat.zero_add, ha1.cell]; exact hj) Tryz.underlying183 rfl (by rw [HLX.out.1]; kernel_rfl) ?_)
     | (refine wpList_build_to rfl 183 _ rfl Z.toArray (by rw [HZ.out]; kernel_rfl) ?_))
    go_ret
    refine ⟨ret_bool ?_, HR.out.1.trans hf1⟩
    symm
    rw [Bool.eq_false_iff]
    intro h
    have := List.all_eq_true.1 h c (List.mem_of_getElem? HC.out)
    rw [hz] at this
    cases this
   ·rw [hz] at hq
    have HN2 : Hid ((t.cells.take (i + 1)).all BC.isZero = true) := all_take_succ HC.out HR.out.2 hz
    go_wp2_with (first
     | (refine wpList_load_at rfl 183 (.tmp 12) rfl bc (i * 34) rfl L _ (fun j v hj => HLX.out.2.2 j v hj) Tryz.underlying183 rfl (by rw [HLX.out.1]; kernel_rfl) ?_)
     | (refine wpList_store_new rfl 183 (.tmp 4) (.tmp 13) rfl rfl 183 _ L rfl (by rw [HLX.out.1]; rfl) (by rw [HLX.out.1]; kernel_rfl) HLX.out.2.1 ?_; intro w1 hf1 ha1)
     | (refine wpList_load_at rfl 183 (.tmp 4) rfl wr.heap.size 0 rfl L _ (fun j v hj => by rw [Nat.zero_add, ha1.cell]; exact hj) Tryz.underlying183 rfl (by rw [HLX.out.1]; kernel_rfl) ?_)
     | (refine wpList_build_to rfl 183 _ rfl Z.toArray (by rw [HZ.out]; kernel_rfl) ?_))
    have HF1 : Hid (Fr [] w w1) := HR.out.1.trans hf1
    clear hq hf1 ha1
    (try go_wp2_with fail)
    go_roundw
    case rel =>
     first
      | exact ⟨i + 1, by omega, by go_num, HF1.out, HN2.out⟩
      | ((repeat apply Exists.intro); exact ⟨⟨i + 1, by omega, by go_num, HF1.out, HN2.out⟩, rfl⟩)
    case measure => simp [intOf] <;> omega
  ·obtain rfl : i = n := by omega
   go_wp2_with fail
   go_ret
   refine ⟨ret_bool ?_, HR.out.1⟩
   have := HR.out.2
   rw [HN.out, List.take_length] at this
   exact this.symm
theorem cells_any (bt bc cap:Nat) (rest:List Value) (t:BT) (w:World) (ht:TabAt w bt bc cap rest t):Calls Tryz.prog 148 #[Value.pointer (some ⟨bt,0,none⟩)] w fun e w'=>e = .returned (Value.int .i64 (t.cells.length:Int))∧w=w':=by
 obtain ⟨n,HN⟩:∃ n,Hid (n=t.cells.length):=⟨_,rfl⟩
 rw [← HN.out]
 have q0:w.cell? ⟨bt,0,none⟩=some (.slice (some ⟨bc,0,none⟩) n cap):=by rw [ht.tab.cell,HN.out]; rfl
 clear ht
 go_enter Tryz.func148,Tryz.ntmps148
 go_wp2_with fail
 go_ret
 exact ⟨rfl,rfl⟩
def blSize (n : Int) : Int := if 1536 < n then 3072 else if n < 0 then 12 else min 3072 ((2 * n + 14) / 3 * 3)
theorem size_any (n : Int) (w : World) : Calls Tryz.prog 35 #[Value.int .i64 n] w fun e w' => e = .returned (Value.int .i64 (blSize n)) ∧ w = w' := by
 unfold blSize
 by_cases h1 : 1536 < n
 ·rw [if_pos h1]
  go_enter Tryz.func35, Tryz.ntmps35
  go_wp2_with fail
  go_ret
  exact ⟨rfl, rfl⟩
 ·rw [if_neg h1]
  have h1' : n ≤ 1536 := by omega
  by_cases h2 : n < 0
  ·rw [if_pos h2]
   have h2' : ¬ 0 ≤ n := by omega
   go_enter Tryz.func35, Tryz.ntmps35
   go_wp2_with fail
   go_ret
   first | exact ⟨rfl, rfl⟩ | exact ⟨ret_int (by omega), rfl⟩
  ·rw [if_neg h2]
   have h2' : 0 ≤ n := by omega
   go_enter Tryz.func35, Tryz.ntmps35
   go_wp2_with fail
   all_goals
    go_ret
    exact ⟨ret_int (by omega), rfl⟩
def idxTrue (l : List Bool) : Int := match l.findIdx? id with | none => -1 | some i => (i : Int)
def BB (l : List Bool) : List Value := l.map fun b => Value.bool b
theorem idxTrue_hit {l:List Bool} {i:Nat} (h:∀ j,j < i→l[j]?=some false) (hi:l[i]?=some true):idxTrue l=(i:Int):=by
 have:l.findIdx? id=some i:=by
  rw [List.findIdx?_eq_some_iff_getElem]
  obtain ⟨h1,e1⟩:=List.getElem?_eq_some_iff.1 hi
  refine ⟨h1,by simp [e1],fun j hj=>?_⟩
  obtain ⟨h2,e2⟩:=List.getElem?_eq_some_iff.1 (h j hj)
  simp [e2]
 unfold idxTrue
 rw [this]
theorem idxTrue_none {l:List Bool} (h:∀ j,j < l.length→l[j]?=some false):idxTrue l = -1:=by
 have:l.findIdx? id=none:=by
  rw [List.findIdx?_eq_none_iff]
  intro x hx
  obtain ⟨j,hj⟩:=List.mem_iff_getElem?.1 hx
  have:=h j (List.getElem?_eq_some_iff.1 hj).1
  rw [hj] at this
  injection this
 unfold idxTrue
 rw [this]
theorem index_any (g cap:Nat) (l:List Bool) (w:World) (ha:At w g 4 (BB l)) (hl:l.length≤3072):Calls Tryz.prog 128 #[.slice (some ⟨g,0,none⟩) l.length cap,.bool true] w fun e w'=>e = .returned (Value.int .i64 (idxTrue l))∧w=w':=by
 obtain ⟨n,HN⟩:∃ n,Hid (n=l.length):=⟨_,rfl⟩
 have H:=Lib.hid ha
 clear ha
 rw [← HN.out] at hl ⊢
 go_enter Tryz.func128,Tryz.ntmps128
 go_wp2_with fail
 go_loop [8] (fun s=>∃ i:Nat,i≤n∧s = .int .i64 i∧Hid (∀ j,j < i→l[j]?=some false)) (fun s=>n - (intOf s).toNat)
 case atStart=>exact ⟨0,by omega,rfl,fun j hj=>by omega⟩
 case round =>
  obtain ⟨i,hi,rfl,HR⟩:=hrel
  by_cases hlt:i < n
  ·obtain ⟨b,hb⟩:∃ b,l[i]?=some b:=⟨_,List.getElem?_eq_getElem (by rw [← HN.out]; exact hlt)⟩
   have cb:w.cell? ⟨g,i,none⟩=some (.bool b):=by rw [H.out.cell]; simp [BB,hb]
   have hiI:(i:Int) < (n:Int):=by omega
   have HB:=Lib.hid hb
   clear hb
   cases b
   ·go_wp2_with fail
    go_round
    case rel =>
     refine ⟨i+1,by omega,by go_num,fun j hj=>?_⟩
     rcases Nat.lt_or_ge j i with h | h
     ·exact HR.out j h
     ·obtain rfl:j=i:=by omega
      exact HB.out
    case measure=>simp [intOf] <;> omega
   ·go_wp2_with fail
    go_ret
    refine ⟨ret_int ?_,rfl⟩
    exact (idxTrue_hit HR.out HB.out).symm
  ·obtain rfl:i=n:=by omega
   go_wp2_with fail
   go_ret
   refine ⟨ret_int ?_,rfl⟩
   exact (idxTrue_none (by rw [← HN.out]; exact HR.out)).symm
end Go.Proofs.YtdflaaiondmjdaaGreatDoor
namespace Go.Proofs
open Go.Shelf
def Tryz.lays132_ren : Go.Shelf.Ren := ⟨fun | 132 => 115 | 127 => 160 | n => n, fun | 49 => 175 | 3 => 3 | 4 => 4 | 46 => 176 | 5 => 5 | 9 => 9 | n => n, fun | n => n⟩
theorem Tryz.lays132 : Go.Proofs.Lays.n132 Tryz.prog Tryz.lays132_ren := {
 mixed := by kernel_rfl
 f127 := Tryz.func160.trans (congrArg some (by kernel_rfl))
 f132 := Tryz.func115.trans (congrArg some (by kernel_rfl))
 t3 := Tryz.underlying3
 a3 := Tryz.isAgg3
 z3 := Tryz.sizeOf3
 v3 := Tryz.zeroValue3
 t4 := Tryz.underlying4
 a4 := Tryz.isAgg4
 z4 := Tryz.sizeOf4
 v4 := Tryz.zeroValue4
 t5 := Tryz.underlying5
 a5 := Tryz.isAgg5
 z5 := Tryz.sizeOf5
 v5 := Tryz.zeroValue5
 t9 := Tryz.underlying9
 a9 := Tryz.isAgg9
 z9 := Tryz.sizeOf9
 v9 := Tryz.zeroValue9
 t46 := Tryz.underlying176
 a46 := Tryz.isAgg176
 z46 := Tryz.sizeOf176
 v46 := Tryz.zeroValue176
 t49 := Tryz.underlying175
 a49 := Tryz.isAgg175
 z49 := Tryz.sizeOf175
 v49 := Tryz.zeroValue175 }
theorem Tryz.bits_LeadingZeros16 (x : Int) (w : World) (h0 : 0 ≤ x) (h1 : x ≤ 65535) :
  Calls Tryz.prog 115 #[.int .u16 x] w fun e w' => e = .returned (.int .i64 (16 - (Lib.bitLen x.toNat : Int))) ∧ w' = w := Any.bits_LeadingZeros16 Tryz.lays132 x w h0 h1
def Tryz.lays190_ren : Go.Shelf.Ren := ⟨fun | 190 => 132 | 125 => 172 | 258 => 171 | 128 => 198 | 129 => 199 | 302 => 190 | 303 => 191 | 304 => 192 | 305 => 193 | 306 => 194 | 307 => 195 | 308 => 157 | 309 => 196 | 310 => 197 | 333 => 208 | 329 => 209 | 330 => 210 | 334 => 211 | 335 => 212 | 336 => 187 | 344 => 222 | n => n, fun | 31 => 22 | 9 => 9 | 3 => 3 | 46 => 176 | 0 => 0 | 51 => 200 | 53 => 80 | 4 => 4 | 183 => 263 | 182 => 262 | 131 => 167 | 5 => 5 | 218 => 276 | 222 => 279 | 228 => 284 | 229 => 35 | n => n, fun | n => n⟩
theorem Tryz.lays190 : Go.Proofs.Lays.n190 Tryz.prog Tryz.lays190_ren := {
 mixed := by kernel_rfl
 f125 := Tryz.func172.trans (congrArg some (by kernel_rfl))
 f128 := Tryz.func198.trans (congrArg some (by kernel_rfl))
 f129 := Tryz.func199.trans (congrArg some (by kernel_rfl))
 f190 := Tryz.func132.trans (congrArg some (by kernel_rfl))
 f258 := Tryz.func171.trans (congrArg some (by kernel_rfl))
 f302 := Tryz.func190.trans (congrArg some (by kernel_rfl))
 f303 := Tryz.func191.trans (congrArg some (by kernel_rfl))
 f304 := Tryz.func192.trans (congrArg some (by kernel_rfl))
 f305 := Tryz.func193.trans (congrArg some (by kernel_rfl))
 f306 := Tryz.func194.trans (congrArg some (by kernel_rfl))
 f307 := Tryz.func195.trans (congrArg some (by kernel_rfl))
 f308 := Tryz.func157.trans (congrArg some (by kernel_rfl))
 f309 := Tryz.func196.trans (congrArg some (by kernel_rfl))
 f310 := Tryz.func197.trans (congrArg some (by kernel_rfl))
 f329 := Tryz.func209.trans (congrArg some (by kernel_rfl))
 f330 := Tryz.func210.trans (congrArg some (by kernel_rfl))
 f333 := Tryz.func208.trans (congrArg some (by kernel_rfl))
 f334 := Tryz.func211.trans (congrArg some (by kernel_rfl))
 f335 := Tryz.func212.trans (congrArg some (by kernel_rfl))
 f336 := Tryz.func187.trans (congrArg some (by kernel_rfl))
 f344 := Tryz.func222.trans (congrArg some (by kernel_rfl))
 t0 := Tryz.underlying0
 a0 := Tryz.isAgg0
 z0 := Tryz.sizeOf0
 v0 := Tryz.zeroValue0
 t3 := Tryz.underlying3
 a3 := Tryz.isAgg3
 z3 := Tryz.sizeOf3
 v3 := Tryz.zeroValue3
 t4 := Tryz.underlying4
 a4 := Tryz.isAgg4
 z4 := Tryz.sizeOf4
 v4 := Tryz.zeroValue4
 t5 := Tryz.underlying5
 a5 := Tryz.isAgg5
 z5 := Tryz.sizeOf5
 v5 := Tryz.zeroValue5
 t9 := Tryz.underlying9
 a9 := Tryz.isAgg9
 z9 := Tryz.sizeOf9
 v9 := Tryz.zeroValue9
 t31 := Tryz.underlying22
 a31 := Tryz.isAgg22
 z31 := Tryz.sizeOf22
 v31 := Tryz.zeroValue22
 t46 := Tryz.underlying176
 a46 := Tryz.isAgg176
 z46 := Tryz.sizeOf176
 v46 := Tryz.zeroValue176
 t51 := Tryz.underlying200
 a51 := Tryz.isAgg200
 z51 := Tryz.sizeOf200
 v51 := Tryz.zeroValue200
 t53 := Tryz.underlying80
 a53 := Tryz.isAgg80
 z53 := Tryz.sizeOf80
 v53 := Tryz.zeroValue80
 t131 := Tryz.underlying167
 a131 := Tryz.isAgg167
 z131 := Tryz.sizeOf167
 v131 := Tryz.zeroValue167
 t182 := Tryz.underlying262
 a182 := Tryz.isAgg262
 z182 := Tryz.sizeOf262
 v182 := Tryz.zeroValue262
 t183 := Tryz.underlying263
 a183 := Tryz.isAgg263
 z183 := Tryz.sizeOf263
 v183 := Tryz.zeroValue263
 t218 := Tryz.underlying276
 a218 := Tryz.isAgg276
 z218 := Tryz.sizeOf276
 v218 := Tryz.zeroValue276
 t222 := Tryz.underlying279
 a222 := Tryz.isAgg279
 z222 := Tryz.sizeOf279
 v222 := Tryz.zeroValue279
 t228 := Tryz.underlying284
 a228 := Tryz.isAgg284
 z228 := Tryz.sizeOf284
 v228 := Tryz.zeroValue284
 t229 := Tryz.underlying35
 a229 := Tryz.isAgg35
 z229 := Tryz.sizeOf35
 v229 := Tryz.zeroValue35 }
open Go.Sort Go.RowKit in
theorem Tryz.slices_Sort_string (blk off cap : Nat) (ss : List (List UInt8)) (w : World) (hH : Holds encStr w blk off ss.toArray) (hblk : blk < w.heap.size) (hsz : ss.length < 4611686018427387904) :
  Calls Tryz.prog 132 #[.slice (some ⟨blk, off, none⟩) ss.length cap] w fun e w' =>
   e = .returned (.tuple #[]) ∧ ∃ n os, w' = grow (putRow encStr (Sort.ahead w n) blk off (ss.mergeSort fun x y => decide (x ≤ y)).toArray) os := Any.slices_Sort_string Tryz.lays190 blk off cap ss w hH hblk hsz
open Go.RowKit Go.Sort in
theorem Tryz.slices_Sort_string_none (p : Option Addr) (cap : Nat) (w : World) :
  Calls Tryz.prog 132 #[.slice p 0 cap] w fun e w' => e = .returned (.tuple #[]) ∧ w' = w := Any.slices_Sort_string_none Tryz.lays190 p cap w
def Tryz.keysA_ren : Go.Shelf.Ren := ⟨fun | 7 => 108 | 10 => 156 | n => n, fun | 23 => 147 | 26 => 9 | 3 => 4 | 28 => 165 | 0 => 0 | 27 => 164 | 33 => 220 | 4 => 4 | n => n, fun | n => n⟩
theorem Tryz.keysA : Go.Proofs.SlLaysZ.n7 Tryz.prog Tryz.keysA_ren := {
 mixed := by kernel_rfl
 f7 := ⟨Tryz.f108.name, by decide, Tryz.func108.trans (congrArg some (by kernel_rfl))⟩
 f10 := ⟨Tryz.f156.name, by decide, Tryz.func156.trans (congrArg some (by kernel_rfl))⟩
 t0 := Tryz.underlying0
 a0 := Tryz.isAgg0
 z0 := Tryz.sizeOf0
 v0 := Tryz.zeroValue0
 t4 := Tryz.underlying4
 a4 := Tryz.isAgg4
 z4 := Tryz.sizeOf4
 v4 := Tryz.zeroValue4
 t23 := Tryz.underlying147
 a23 := Tryz.isAgg147
 z23 := Tryz.sizeOf147
 v23 := Tryz.zeroValue147
 t26 := Tryz.underlying9
 a26 := Tryz.isAgg9
 z26 := Tryz.sizeOf9
 v26 := Tryz.zeroValue9
 t27 := Tryz.underlying164
 a27 := Tryz.isAgg164
 z27 := Tryz.sizeOf164
 v27 := Tryz.zeroValue164
 t28 := Tryz.underlying165
 a28 := Tryz.isAgg165
 z28 := Tryz.sizeOf165
 v28 := Tryz.zeroValue165
 t33 := Tryz.underlying220
 a33 := Tryz.isAgg220
 z33 := Tryz.sizeOf220
 v33 := Tryz.zeroValue220 }
def Tryz.sortedA_ren : Go.Shelf.Ren := ⟨fun | 6 => 107 | 8 => 155 | 9 => 132 | 11 => 186 | 13 => 172 | 12 => 171 | 23 => 198 | 24 => 199 | 14 => 190 | 15 => 191 | 16 => 192 | 17 => 193 | 18 => 194 | 19 => 195 | 20 => 157 | 21 => 196 | 22 => 197 | 25 => 208 | 26 => 209 | 27 => 210 | 28 => 211 | 29 => 212 | 30 => 187 | 31 => 222 | n => n, fun | 26 => 9 | 28 => 165 | 24 => 22 | 0 => 0 | 3 => 3 | 37 => 176 | 48 => 200 | 50 => 80 | 4 => 4 | 40 => 263 | 39 => 262 | 45 => 167 | 5 => 5 | 9 => 9 | 51 => 276 | 55 => 279 | 57 => 284 | 58 => 35 | 33 => 220 | n => n, fun | n => n⟩
theorem Tryz.sortedA : Go.Proofs.SlLaysZ.n6 Tryz.prog Tryz.sortedA_ren := {
 mixed := by kernel_rfl
 f6 := ⟨Tryz.f107.name, by decide, Tryz.func107.trans (congrArg some (by kernel_rfl))⟩
 f8 := ⟨Tryz.f155.name, by decide, Tryz.func155.trans (congrArg some (by kernel_rfl))⟩
 f11 := ⟨Tryz.f186.name, by decide, Tryz.func186.trans (congrArg some (by kernel_rfl))⟩
 t0 := Tryz.underlying0
 a0 := Tryz.isAgg0
 z0 := Tryz.sizeOf0
 v0 := Tryz.zeroValue0
 t24 := Tryz.underlying22
 a24 := Tryz.isAgg22
 z24 := Tryz.sizeOf22
 v24 := Tryz.zeroValue22
 t26 := Tryz.underlying9
 a26 := Tryz.isAgg9
 z26 := Tryz.sizeOf9
 v26 := Tryz.zeroValue9
 t28 := Tryz.underlying165
 a28 := Tryz.isAgg165
 z28 := Tryz.sizeOf165
 v28 := Tryz.zeroValue165
 i26 := by kernel_rfl }
end Go.Proofs
namespace Go.Proofs.YtdflaaiondmjdaaGreatDoor
open Go.RowKit
section
open Go.RowKit Go.Sort
open Go.Maps (setOf)
def sortStr (l : List (List UInt8)) : List (List UInt8) := l.mergeSort fun x y => decide (x ≤ y)
theorem sortStr_len (l:List (List UInt8)):(sortStr l).length=l.length:=by simp [sortStr]
theorem putCells_strs (zs ys:List (List UInt8)) (rest:List Value) (h:ys.length=zs.length) :
  putCells encStr 0 ys.toArray (zs.map S8v++rest).toArray=(ys.map S8v++rest).toArray:=by
 apply Array.ext_getElem?
 intro k
 simp only [putCells,Array.getElem?_mapIdx,List.getElem?_toArray,Nat.zero_le,true_and,Nat.zero_add,List.size_toArray,Nat.sub_zero]
 by_cases hk:k < ys.length
 ·rw [List.getElem?_append_left (by simpa using h▸hk),List.getElem?_append_left (by simpa using hk)]
  have hk':k < zs.length:=h▸hk
  simp [hk,List.getElem?_eq_getElem hk',S8v,strOf]
 ·rw [List.getElem?_append_right (by simp; omega),List.getElem?_append_right (by simp; omega)]
  have hk':¬ k < zs.length:=by omega
  simp [hk',h]
theorem sortStrs (b cap:Nat) (zs:List (List UInt8)) (rest:List Value) (t:TypeId) (w:World) (h:At w b t (zs.map S8v++rest)) (hlen:zs.length < 4611686018427387904) :
  Calls Tryz.prog 132 #[.slice (some ⟨b,0,none⟩) zs.length cap] w fun e w'=>e = .returned (.tuple #[])∧Fr [b] w w'∧At w' b t ((sortStr zs).map S8v++rest):=by
 have hH:Holds encStr w b 0 zs.toArray:=by
  intro j hj
  have hj':j < zs.length:=by simpa using hj
  rw [Nat.zero_add,h.cell,h.frozen]
  refine ⟨?_,rfl⟩
  rw [List.getElem?_append_left (by simpa using hj')]
  simp [getElem!_pos,hj',S8v,strOf]
 refine (Tryz.slices_Sort_string b 0 cap zs w hH h.lt hlen).mono ?_
 rintro e w' ⟨rfl,n,os,rfl⟩
 have hb:=h.lt
 refine ⟨rfl,⟨rfl,rfl,rfl,?_,?_⟩,?_⟩
 ·simp
 ·intro k hk hn
  simp only [grow,putRow,mapBlock,heap_ahead]
  rw [Array.getElem?_append_left (by simpa using hk),Array.getElem?_modify,if_neg (by simpa using Ne.symm (by simpa using hn))]
 ·unfold At at h ⊢
  simp only [grow,putRow,mapBlock,heap_ahead]
  rw [Array.getElem?_append_left (by simpa using hb),Array.getElem?_modify,if_pos rfl,h]
  simp only [Option.map_some,onCells]
  rw [show (zs.mergeSort fun x y=>decide (x≤y))=sortStr zs from rfl,putCells_strs zs (sortStr zs) rest (sortStr_len zs)]
def SetAt (w : World) (b : Nat) (S : List (List UInt8)) : Prop := w.ownsMap (H := Unit) Tryz.prog 9 (plainElem Tryz.prog 4) b S.length (setOf (.lit (.bool true)) (S.map Lit.string))
theorem SetAt.new (w:World):SetAt (w.alloc (.map #[] 0)) w.heap.size []:=World.ownsMap_made w _ _ _
theorem SetAt.lt {w:World} {b:Nat} {S:List (List UInt8)} (h:SetAt w b S):b < w.heap.size:=World.ownsMap.lt h
theorem SetAt.grown {w w':World} {b:Nat} {S:List (List UInt8)} {row:Option Nat} (h:SetAt w b S) (hg:w.grownBy w' row) (hne:some b≠row):SetAt w' b S:=World.ownsMap.kept h hg hne
theorem SetAt.fr {w w':World} {b:Nat} {S:List (List UInt8)} {T:List Nat} (h:SetAt w b S) (hf:Fr T w w') (hb:b∉T):SetAt w' b S:=by
 obtain ⟨es,clock,h1,h2⟩:=h
 exact ⟨es,clock,by rw [hf.block b (Array.getElem?_eq_some_iff.1 h1).1 hb]; exact h1,h2⟩
theorem SetAt.ne_at {w:World} {b b':Nat} {S:List (List UInt8)} {t:TypeId} {l:List Value} (h:SetAt w b S) (h':At w b' t l):b≠b':=by
 rintro rfl
 obtain ⟨es,clock,h1,_⟩:=h
 unfold At at h'
 rw [h1] at h'
 cases h'
theorem key_lit (p:List UInt8) (hp:p.length≤maxLen):keyOf Tryz.prog 9 (.string (strOf p))=some (.string p):=by
 have hs:(strOf p).size=p.length:=by simp [strOf,ByteArray.size]
 exact WideMaps.keyOf_string_mk Tryz.underlying9 (s:=strOf p) (by rw [hs]; exact hp)
theorem atKey_setOf (u z:DataW Unit) (p:List UInt8):∀ R:List (List UInt8),(setOf u (R.reverse.map Lit.string)).atKey (.string p) z=if R.contains p then u else z
 | []=>rfl
 | x::R=>by
   have hm:Maps.IsMap (setOf u (R.reverse.map Lit.string)):=(Maps.tidy_setOf u _ (by intro y hy; obtain ⟨q,_,rfl⟩:=List.mem_map.1 hy; exact True.intro)).isMap
   rw [List.reverse_cons,List.map_append,List.map_cons,List.map_nil,Maps.setOf_snoc]
   by_cases hx:p=x
   ·subst hx
    have hk:WideAt.IsKeyLit (Lit.string p):=True.intro
    rw [Maps.atKey_put_same hm hk]
    simp
   ·rw [Maps.atKey_put_other (fun e=>hx (by injection e)),atKey_setOf u z p R]
    have:(p == x)=false:=by simpa using hx
    simp only [List.contains_cons,this,Bool.false_or]
theorem SetAt.lookup {w:World} {b:Nat} {S:List (List UInt8)} (h:SetAt w b S) (p:List UInt8) (hp:p.length≤maxLen) :
  (Instr.lookup 147 (.map (some b)) (.string (strOf p)) false).run Tryz.prog w = .ok (.bool (S.contains p)) w:=by
 have he:Tryz.prog.underlying 4=some .bool:=Tryz.underlying4
 obtain ⟨v,ps,hrun,hv⟩:=World.ownsMap.lookup h (Maps.string_keyed Tryz.underlying9) Tryz.underlying147 (z:=.bool false) (by kernel_rfl) (plainElem_bool he false) (key_lit p hp)
 have e:=atKey_setOf (.lit (.bool true)) (.lit (.bool false)) p S.reverse
 rw [List.reverse_reverse,List.contains_reverse] at e
 rw [e] at hv
 rw [hrun]
 unfold plainElem at hv
 rw [he] at hv
 cases v with
 | bool x =>
   simp only [Option.some.injEq,Prod.mk.injEq] at hv
   cases hS:S.contains p with
   | true=>rw [hS] at hv; simp at hv; rw [hv.1]
   | false=>rw [hS] at hv; simp at hv; rw [hv.1]
 | _=>simp at hv
theorem SetAt.of_put {w:World} {b:Nat} {S:List (List UInt8)} {p:List UInt8} (h:w.ownsMap (H:=Unit) Tryz.prog 9 (plainElem Tryz.prog 4) b (S.length+1) ((setOf (.lit (.bool true)) (S.map Lit.string)).put (.string p) (.lit (.bool true)))):SetAt w b (S++[p]):=by
 unfold SetAt
 rw [List.map_append,List.map_cons,List.map_nil,Maps.setOf_snoc,List.length_append]
 exact h
def cSet (b : Nat) (S : List (List UInt8)) : Ch where
 fp := [b]
 holds w := SetAt w b S
 ok w w' hb h := by
  obtain ⟨es, clock, h1, h2⟩ := h
  exact ⟨es, clock, (hb b (by simp)).trans h1, h2⟩
 lt w h c hc := by
  rw [List.mem_singleton] at hc
  subst hc
  exact h.lt
section
variable {Q : Exit → Act → World → Prop} {n : Nat} {w0 : World} {F : List Nat} {E : Env} {cs : List Ch} {X K : Act → World → Prop} {o : Oper} {d : Nat}
theorem opMakeSet {t:TypeId} (ho:o.op = .makeMap t none) (hd:o.dst=some d) (hk:opOk n E o=true) (h:∀ b,St n w0 F ((d,.map (some b))::E) (cs++[cSet b []]) K):OpW Tryz.prog Q n w0 F E cs o K :=
 opEff hd hk fun w hM=>by
  refine ⟨.map (some w.heap.size),w.alloc (.map #[] 0),_,?_,hM.push (c:=cSet w.heap.size []) ((Fr.refl _ _).alloc _) (SetAt.new w) (by simp [cSet]) (by simp [cSet]),h _⟩
  unfold execOp
  simp only [ho,Option.map_none,Sem.run_bind,run_makeMap,Result.andThen_ok]
  rfl
theorem rSetGet {x y:Operand} {b:Nat} {S:List (List UInt8)} {p:List UInt8} (i:Nat) (ho:o.op = .lookup 147 x y false) (hx:evO E x=some (.map (some b))) (hy:evO E y=some (.string (strOf p))) (hi:cs[i]?=some (cSet b S)) (hp:p.length≤1099511627776):RunV Tryz.prog w0 F cs E o (.bool (S.contains p)):=fun w hM=>by
 have h:SetAt w b S:=hM.at hi
 have hr:=h.lookup p (by unfold maxLen; omega)
 unfold execOp
 simp only [ho,evE_of hx,evE_of hy,Sem.run_bind,hr]
 rfl
theorem opSetPut {x y v:Operand} {b:Nat} {S:List (List UInt8)} {p:List UInt8} (i:Nat) (ho:o.op = .mapUpdate 147 x y v) (hd:o.dst=none) (hk:opOk n E o=true) (hx:evO E x=some (.map (some b))) (hy:evO E y=some (.string (strOf p))) (hv:evO E v=some (.bool true)) (hi:cs[i]?=some (cSet b S)) (hp:p.length≤1099511627776) (hS:S.length≤1099511627776)
  (h:St n w0 F E (cs.set i (cSet b (S++[p]))) K):OpW Tryz.prog Q n w0 F E cs o K :=
 opSkip hd hk fun w hM=>by
  have hs:SetAt w b S:=hM.at hi
  obtain ⟨w',hrun,r1,r2⟩:=World.ownsMap.update hs (Maps.string_keyed Tryz.underlying9) Tryz.underlying147 (by unfold maxLen; omega) (key_lit p (by unfold maxLen; omega)) (plainElem_bool Tryz.underlying4 true)
  have hf:Fr (cSet b S).fp w w':=⟨r2.os,r2.tape,r2.output,r2.size,fun k hk' hn=>r2.block k hk' (fun e=>by
   injection e with e
   exact hn (by simp [cSet,e]))⟩
  refine ⟨w',_,?_,hM.swap i hi (c':=cSet b (S++[p])) hf (SetAt.of_put r1) (fun c hc=>.inl hc) (by simp [cSet]),h⟩
  unfold execOp
  simp only [ho,evE_of hx,evE_of hy,evE_of hv,Sem.run_bind,hrun]
  rfl
end
end
section
theorem BB_get {l:List Bool} {i:Nat} {b:Bool} (h:l[i]?=some b):(BB l)[i]?=some (.bool b):=by simp [BB,h]
theorem BB_set (l:List Bool) (i:Nat) (b:Bool):(BB l).set i (.bool b)=BB (l.set i b):=by simp [BB,List.map_set]
theorem made_bools (n:Nat):madeCells #[.bool false] (n*1)=(BB (List.replicate n false)).toArray:=by
 apply Array.ext_getElem?
 intro i
 rw [show (BB (List.replicate n false)).toArray[i]?=(BB (List.replicate n false))[i]? from List.getElem?_toArray ..]
 by_cases h:i < n
 ·have e1:(madeCells #[.bool false] (n*1))[i]?=some (#[Value.bool false][i % 1]!):=by
   unfold madeCells
   rw [Array.getElem?_map,Array.getElem?_range,if_pos (by omega)]
   rfl
  rw [e1,Nat.mod_one]
  simp [BB,h]
 ·rw [Array.getElem?_eq_none (by rw [size_madeCells]; omega),List.getElem?_eq_none (by simp [BB]; omega)]
theorem run_makeBools (n:Nat) (hn:n≤3072) (w:World):(Instr.makeSlice 191 (.int .i64 (n:Int)) (.int .i64 (n:Int))).run Tryz.prog w = .ok (.slice (some ⟨w.heap.size,0,none⟩) n n) (w.alloc (.cells (BB (List.replicate n false)).toArray 4)):=by
 have hinfo:(Tryz.prog.info? 4).map (fun i=>(i.zero,i.size,i.bytes))=some (some (.bool false),1,1):=by kernel_rfl
 obtain ⟨i,hi,hz,hsz,hby⟩:=info_parts hinfo
 have:=run_make (P:=Tryz.prog) w 191 4 i _ Tryz.underlying191 hi hz .i64 .i64 (n:Int) (n:Int) (by omega) (by omega) (by rw [hby]; omega) (by omega)
 rw [hsz,Int.toNat_natCast] at this
 rw [this,← made_bools]
 rfl
theorem el_str:Elem Tryz.prog 22 9 (.string ⟨#[]⟩) 1 16:=⟨Tryz.underlying22,by kernel_rfl,rfl,by omega,by omega⟩
def Fresh2 (w : World) (A1 A2 : Option Addr) : Prop := (∀ a, A1 = some a → w.heap.size ≤ a.block) ∧ (∀ a, A2 = some a → w.heap.size ≤ a.block) ∧ ∀ a b, A1 = some a → A2 = some b → a.block ≠ b.block
theorem fresh2_of {w wx:World} {e e':TypeId} {sz n c n' c':Nat} {A A':Option Addr} {xs ys:List Value} (h1:wx.ownsRow w.heap.size e sz (.slice A n c) n xs) (h2:wx.ownsRow w.heap.size e' sz (.slice A' n' c') n' ys) (hs:∀ g,(Value.slice A n c).ownBlock=some g→(Value.slice A' n' c').ownBlock≠some g):Fresh2 w A A':=by
 refine ⟨fun a ha=>?_,fun a ha=>?_,fun a b ha hb e=>?_⟩
 ·subst ha; exact (h1.lt a.block rfl).1
 ·subst ha; exact (h2.lt a.block rfl).1
 ·subst ha hb; exact hs a.block rfl (by rw [e]; rfl)
def KeysPost (t : BT) (w : World) (e : Ending) (w' : World) : Prop :=
 Fr [] w w' ∧ match t.keys with
  | none => e = .returned (.tuple #[.slice none 0 0, .slice none 0 0, Value.int .i64 10])
  | some p => ∃ A1 c1 A2 c2, e = .returned (.tuple #[.slice A1 p.1.length c1, .slice A2 p.2.length c2, Value.int .i64 0]) ∧ RowIn w' A1 (p.1.map S8v) ∧ RowIn w' A2 (p.2.map S8v) ∧ Fresh2 w A1 A2
structure KS (w wx : World) (bt bc cap : Nat) (rest : List Value) (bp bm : Nat) (v9 v10 : Value) (t : BT) (pl : List Bool) (tk ad rm : List (List UInt8)) : Prop where
 fr : Fr [] w wx
 tab : TabAt wx bt bc cap rest t
 pur : At wx bp 4 (BB pl)
 set : SetAt wx bm tk.reverse
 add : wx.ownsRow w.heap.size 9 1 v9 ad.length (ad.map S8v)
 rem : wx.ownsRow w.heap.size 9 1 v10 rm.length (rm.map S8v)
 sep : v9.ownBlock = none ∨ v9.ownBlock ≠ v10.ownBlock
 lt : w.heap.size ≤ bt
 lc : w.heap.size ≤ bc
 lp : w.heap.size ≤ bp
 lm : w.heap.size ≤ bm
theorem ownb_ne {w:World} {base:Nat} {e t:TypeId} {sz n:Nat} {v:Value} {xs l:List Value} {b:Nat} (h:w.ownsRow base e sz v n xs) (ha:At w b t l) (hne:e≠t):some b≠v.ownBlock:=by
 intro hb
 rcases h.2 with ⟨rfl,_⟩ | ⟨g,cap,cur,rfl,_,hg,_⟩
 ·simp [Value.ownBlock] at hb
 ·have:some b=some g:=hb
  injection this with this
  subst this
  unfold At at ha
  rw [hg] at ha
  simp only [Option.some.injEq,Obj.cells.injEq] at ha
  exact hne ha.2.1
theorem own_ne_set {w:World} {base:Nat} {e:TypeId} {sz n:Nat} {v:Value} {xs:List Value} {b:Nat} {S:List (List UInt8)} (h:w.ownsRow base e sz v n xs) (ha:SetAt w b S):some b≠v.ownBlock:=by
 intro hb
 rcases h.2 with ⟨rfl,_⟩ | ⟨g,cap,cur,rfl,_,hg,_⟩
 ·simp [Value.ownBlock] at hb
 ·have:some b=some g:=hb
  injection this with this
  subst this
  obtain ⟨es,clock,h1,_⟩:=ha
  rw [hg] at h1
  cases h1
theorem At.grown {w w':World} {b:Nat} {t:TypeId} {l:List Value} {row:Option Nat} (h:At w b t l) (hg:w.grownBy w' row) (hne:some b≠row):At w' b t l:=(hg.block b h.lt hne).trans h
theorem TabAt.grown {w w':World} {bt bc cap:Nat} {rest:List Value} {t:BT} {row:Option Nat} (h:TabAt w bt bc cap rest t) (hg:w.grownBy w' row) (h1:some bt≠row) (h2:some bc≠row):TabAt w' bt bc cap rest t :=
 ⟨h.tab.grown hg h1,h.cells.grown hg h2,h.ok,h.size,h.cap⟩
section
variable {w wx w' : World} {bt bc cap : Nat} {rest : List Value} {bp bm : Nat} {v9 v10 : Value} {t : BT} {pl : List Bool} {tk ad rm : List (List UInt8)}
theorem KS.fr0 (h:KS w wx bt bc cap rest bp bm v9 v10 t pl tk ad rm) (hf:Fr [] wx w'):KS w w' bt bc cap rest bp bm v9 v10 t pl tk ad rm :=
 ⟨h.fr.trans hf,h.tab.fr hf (by simp) (by simp),h.pur.fr hf (by simp),h.set.fr hf (by simp),ownsRow_fr h.add hf (by simp),ownsRow_fr h.rem hf (by simp),h.sep,h.lt,h.lc,h.lp,h.lm⟩
theorem KS.map {key:List UInt8} (h:KS w wx bt bc cap rest bp bm v9 v10 t pl tk ad rm) (hg:wx.grownBy w' (some bm)) (hs:SetAt w' bm (tk.reverse++[key])):KS w w' bt bc cap rest bp bm v9 v10 t pl (key::tk) ad rm:=by
 have n1:=h.set.ne_at h.tab.tab
 have n2:=h.set.ne_at h.tab.cells
 have n3:=h.set.ne_at h.pur
 have lm:=h.lm
 refine ⟨h.fr.grown hg (fun k e=>.inr (by injection e; omega)),h.tab.grown hg (fun e=>n1 (by injection e with e; exact e.symm)) (fun e=>n2 (by injection e with e; exact e.symm)),h.pur.grown hg (fun e=>n3 (by injection e with e; exact e.symm)),
  by rw [List.reverse_cons]; exact hs,h.add.kept hg ?_,h.rem.kept hg ?_,h.sep,h.lt,h.lc,h.lp,h.lm⟩
 ·cases hb:v9.ownBlock with
  | none=>exact .inl rfl
  | some g=>exact .inr (fun e=>own_ne_set h.add h.set (by rw [hb,← e]))
 ·cases hb:v10.ownBlock with
  | none=>exact .inl rfl
  | some g=>exact .inr (fun e=>own_ne_set h.rem h.set (by rw [hb,← e]))
theorem own_lo {base:Nat} {e:TypeId} {sz n:Nat} {v:Value} {xs:List Value} (h:wx.ownsRow base e sz v n xs):∀ k,v.ownBlock=some k→base≤k:=fun k hk=>(h.lt k hk).1
theorem KS.pushAdd {v9':Value} {key:List UInt8} (h:KS w wx bt bc cap rest bp bm v9 v10 t pl tk ad rm) (hown:w'.ownsRow w.heap.size 9 1 v9' (ad.length+1) (ad.map S8v++[S8v key])) (hg:wx.grownBy w' v9.ownBlock) (hb:v9'.ownBlock=v9.ownBlock∨v9'.ownBlock=some (wx.heap.size+1)) :
  KS w w' bt bc cap rest bp bm v9' v10 t pl tk (ad++[key]) rm:=by
 have hr:w'.ownsRow w.heap.size 9 1 v10 rm.length (rm.map S8v):=by
  refine h.rem.kept hg ?_
  cases hq:v10.ownBlock with
  | none=>exact .inl rfl
  | some g =>
    refine .inr (fun e=>?_)
    rcases h.sep with h0 | h0
    ·rw [h0] at e; cases e
    ·exact h0 (by rw [hq]; exact e.symm)
 refine ⟨h.fr.grown hg (fun k e=>.inr (own_lo h.add k e)),h.tab.grown hg (ownb_ne h.add h.tab.tab (by decide)) (ownb_ne h.add h.tab.cells (by decide)),h.pur.grown hg (ownb_ne h.add h.pur (by decide)),h.set.grown hg (own_ne_set h.add h.set),by rw [List.length_append,List.map_append]; exact hown,hr,?_,h.lt,h.lc,h.lp,h.lm⟩
 rcases hb with e | e
 ·rw [e]; exact h.sep
 ·refine .inr ?_
  rw [e]
  intro e2
  have:=(h.rem.lt _ e2.symm).2
  omega
theorem KS.pushRem {v10':Value} {key:List UInt8} (h:KS w wx bt bc cap rest bp bm v9 v10 t pl tk ad rm) (hown:w'.ownsRow w.heap.size 9 1 v10' (rm.length+1) (rm.map S8v++[S8v key])) (hg:wx.grownBy w' v10.ownBlock) (hb:v10'.ownBlock=v10.ownBlock∨v10'.ownBlock=some (wx.heap.size+1)) :
  KS w w' bt bc cap rest bp bm v9 v10' t pl tk ad (rm++[key]):=by
 have hr:w'.ownsRow w.heap.size 9 1 v9 ad.length (ad.map S8v):=by
  refine h.add.kept hg ?_
  cases hq:v9.ownBlock with
  | none=>exact .inl rfl
  | some g =>
    refine .inr (fun e=>?_)
    rcases h.sep with h0 | h0
    ·rw [h0] at hq; cases hq
    ·exact h0 (by rw [hq]; exact e)
 refine ⟨h.fr.grown hg (fun k e=>.inr (own_lo h.rem k e)),h.tab.grown hg (ownb_ne h.rem h.tab.tab (by decide)) (ownb_ne h.rem h.tab.cells (by decide)),h.pur.grown hg (ownb_ne h.rem h.pur (by decide)),h.set.grown hg (own_ne_set h.rem h.set),hr,by rw [List.length_append,List.map_append]; exact hown,?_,h.lt,h.lc,h.lp,h.lm⟩
 rcases hb with e | e
 ·rcases h.sep with h0 | h0
  ·exact .inl h0
  ·exact .inr (by rw [e]; exact h0)
 ·cases hq:v9.ownBlock with
  | none=>exact .inl rfl
  | some g =>
    refine .inr ?_
    rw [e]
    intro e2
    injection e2 with e2
    have:=(h.add.lt _ hq).2
    omega
theorem KS.chg {t':BT} (h:KS w wx bt bc cap rest bp bm v9 v10 t pl tk ad rm) (hf:Fr [bc] wx w') (ht:TabAt w' bt bc cap rest t'):KS w w' bt bc cap rest bp bm v9 v10 t' pl tk ad rm:=by
 have lc:=h.lc
 have n1:bp≠bc:=h.pur.ne h.tab.cells (by decide)
 have n2:=h.set.ne_at h.tab.cells
 refine ⟨h.fr.trans' hf (by simp; omega),ht,h.pur.fr hf (by simpa using n1),h.set.fr hf (by simpa using n2),ownsRow_fr h.add hf ?_,ownsRow_fr h.rem hf ?_,h.sep,h.lt,h.lc,h.lp,h.lm⟩
 ·intro g hg hm
  simp at hm
  subst hm
  exact ownb_ne h.add h.tab.cells (by decide) hg.symm
 ·intro g hg hm
  simp at hm
  subst hm
  exact ownb_ne h.rem h.tab.cells (by decide) hg.symm
theorem KS.setP (h:KS w wx bt bc cap rest bp bm v9 v10 t pl tk ad rm) (i:Nat) (b:Bool):KS w (wx.setCell ⟨bp,i,none⟩ (.bool b)) bt bc cap rest bp bm v9 v10 t (pl.set i b) tk ad rm:=by
 have lp:=h.lp
 have n1:bt≠bp:=h.tab.tab.ne h.pur (by decide)
 have n2:bc≠bp:=h.tab.cells.ne h.pur (by decide)
 have n3:=h.set.ne_at h.pur
 have hf:Fr [bp] wx (wx.setCell ⟨bp,i,none⟩ (.bool b)):=(Fr.refl _ _).setCell (by simp) _
 refine ⟨h.fr.setCell (.inr h.lp) _,h.tab.fr hf (by simpa using n1) (by simpa using n2),by rw [← BB_set]; exact h.pur.set i _,h.set.fr hf (by simpa using n3),ownsRow_fr h.add hf ?_,ownsRow_fr h.rem hf ?_,h.sep,h.lt,h.lc,h.lp,h.lm⟩
 ·intro g hg hm
  simp at hm
  subst hm
  exact ownb_ne h.add h.pur (by decide) hg.symm
 ·intro g hg hm
  simp at hm
  subst hm
  exact ownb_ne h.rem h.pur (by decide) hg.symm
end
theorem sortOwn {w:World} {base n c:Nat} {A:Option Addr} {ss:List (List UInt8)} (h:w.ownsRow base 9 1 (.slice A n c) n (ss.map S8v)) (hn:n=ss.length) (hl:n≤3072) :
  Calls Tryz.prog 132 #[.slice A n c] w fun e w'=>e = .returned (.tuple #[])∧Fr (Value.slice A n c).ownBlock.toList w w'∧RowIn w' A ((sortStr ss).map S8v):=by
 by_cases h0:n=0
 ·subst h0
  have e:ss=[]:=List.eq_nil_of_length_eq_zero hn.symm
  subst e
  refine (Tryz.slices_Sort_string_none A c w).mono ?_
  rintro e w' ⟨rfl,rfl⟩
  exact ⟨rfl,Fr.refl _ _,fun i u hu=>by simp [sortStr] at hu⟩
 ·obtain ⟨g,cap,rest,hv,_,_,ha,_,_⟩:=ownsRow_at h (by omega)
  simp only [Value.slice.injEq] at hv
  obtain ⟨rfl,_,rfl⟩:=hv
  subst hn
  refine (sortStrs g c ss rest 9 w ha (by omega)).mono ?_
  rintro e w' ⟨rfl,hf,ha'⟩
  refine ⟨rfl,hf,fun i u hu=>⟨g,0,rfl,ha'.lt,?_⟩⟩
  rw [Nat.zero_add,ha'.cell,List.getElem?_append_left (List.getElem?_eq_some_iff.1 hu).1]
  exact hu
theorem KS.add' {w wx:World} {bt bc cap:Nat} {rest:List Value} {bp bm:Nat} {A9:Option Addr} {a9 c9:Nat} {v10:Value} {t:BT} {pl:List Bool} {tk ad rm:List (List UInt8)} (h:KS w wx bt bc cap rest bp bm (.slice A9 a9 c9) v10 t pl tk ad rm):wx.ownsRow w.heap.size 9 1 (.slice A9 a9 c9) a9 (ad.map S8v):=by
 obtain ⟨A,c,e⟩:=ownsRow_form h.add
 simp only [Value.slice.injEq] at e
 have h1:=h.add
 rw [← e.2.1] at h1
 exact h1
theorem KS.rem' {w wx:World} {bt bc cap:Nat} {rest:List Value} {bp bm:Nat} {A10:Option Addr} {a10 c10:Nat} {v9:Value} {t:BT} {pl:List Bool} {tk ad rm:List (List UInt8)} (h:KS w wx bt bc cap rest bp bm v9 (.slice A10 a10 c10) t pl tk ad rm):wx.ownsRow w.heap.size 9 1 (.slice A10 a10 c10) a10 (rm.map S8v):=by
 obtain ⟨A,c,e⟩:=ownsRow_form h.rem
 simp only [Value.slice.injEq] at e
 have h1:=h.rem
 rw [← e.2.1] at h1
 exact h1
theorem fr_own {w wx w':World} {v:Value} {e:TypeId} {sz n:Nat} {xs:List Value} (hf:Fr [] w wx) (h:wx.ownsRow w.heap.size e sz v n xs) (hf':Fr v.ownBlock.toList wx w'):Fr [] w w':=by
 refine hf.trans' hf' (fun x hx=>.inr ?_)
 cases hb:v.ownBlock with
 | none=>rw [hb] at hx; simp at hx
 | some g =>
   rw [hb] at hx
   simp at hx
   subst hx
   exact (h.lt x hb).1
theorem KS.sorted1 {w wx w':World} {bt bc cap:Nat} {rest:List Value} {bp bm:Nat} {A9 A10:Option Addr} {a9 c9 a10 c10:Nat} {t:BT} {pl:List Bool} {tk ad rm:List (List UInt8)} (h:KS w wx bt bc cap rest bp bm (.slice A9 a9 c9) (.slice A10 a10 c10) t pl tk ad rm) (_:a9=ad.length) (_:a10=rm.length)
  (hf:Fr (Value.slice A9 a9 c9).ownBlock.toList wx w') (hr:RowIn w' A9 ((sortStr ad).map S8v)):Fr [] w w'∧RowIn w' A9 ((sortStr ad).map S8v)∧w'.ownsRow w.heap.size 9 1 (.slice A10 a10 c10) a10 (rm.map S8v):=by
 refine ⟨fr_own h.fr h.add hf,hr,ownsRow_fr h.rem' hf ?_⟩
 intro g hg hm
 cases hb:(Value.slice A9 a9 c9).ownBlock with
 | none=>rw [hb] at hm; simp at hm
 | some g9 =>
   rw [hb] at hm
   simp at hm
   subst hm
   rcases h.sep with h0 | h0
   ·rw [h0] at hb; cases hb
   ·exact h0 (by rw [hb,hg])
theorem sorted2 {w wx w':World} {A9 A10:Option Addr} {a9 c9 a10 c10:Nat} {rm:List (List UInt8)} {xs ys:List Value} (hf0:Fr [] w wx) (h:wx.ownsRow w.heap.size 9 1 (.slice A10 a10 c10) a10 (rm.map S8v)) (hsep:∀ g,(Value.slice A9 a9 c9).ownBlock=some g→(Value.slice A10 a10 c10).ownBlock≠some g)
  (hr:RowIn wx A9 xs) (hf:Fr (Value.slice A10 a10 c10).ownBlock.toList wx w') (hr2:RowIn w' A10 ys):Fr [] w w'∧RowIn w' A9 xs∧RowIn w' A10 ys:=by
 refine ⟨fr_own hf0 h hf,hr.fr hf ?_,hr2⟩
 intro b o e hm
 subst e
 cases hb:(Value.slice A10 a10 c10).ownBlock with
 | none=>rw [hb] at hm; simp at hm
 | some g =>
   rw [hb] at hm
   simp at hm
   subst hm
   exact hsep b rfl hb
theorem pures_step {t:BT} {i:Nat} {c:BC} (hc:t.cells[i]?=some c):(BB (t.pures.take i++List.replicate (t.cells.length - i) false)).set i (.bool (c.pure t.seed))=BB (t.pures.take (i+1)++List.replicate (t.cells.length - (i+1)) false):=by
 have h1:=(List.getElem?_eq_some_iff.1 hc).1
 have hp:=BT.pures_get hc
 obtain ⟨h2,e2⟩:=List.getElem?_eq_some_iff.1 hp
 have hl:(t.pures.take i).length=i:=by rw [List.length_take]; omega
 rw [BB_set,List.set_append_right _ _ (by omega),hl,Nat.sub_self]
 obtain ⟨m,hm⟩:∃ m,t.cells.length - i=m+1:=⟨t.cells.length - i - 1,by omega⟩
 rw [hm,List.replicate_succ,List.set_cons_zero,show t.cells.length - (i+1)=m by omega,List.take_succ_eq_append_getElem h2,e2,List.append_assoc]
 rfl
set_option maxHeartbeats 8000000 in
theorem keys_any (bt0 bc0 cap0:Nat) (rest0:List Value) (t:BT) (w:World) (hv:Vars w) (ht:TabAt w bt0 bc0 cap0 rest0 t) :
  Calls Tryz.prog 79 #[Value.pointer (some ⟨bt0,0,none⟩)] w (KeysPost t w):=by
 obtain ⟨n,HN⟩:∃ n,Hid (n=t.cells.length):=⟨_,rfl⟩
 have hb:=isSz_bounds ht.size
 have n3:3≤n:=by rw [HN.out]; exact hb.1
 have n4:n≤3072:=by rw [HN.out]; exact hb.2.1
 have H:=Lib.hid (And.intro hv ht)
 have HCL:=Lib.hid (clone_any bt0 bc0 cap0 rest0 t w ht)
 clear hb hv ht
 have hmb:=run_makeBools n n4
 go_enter Tryz.func79,Tryz.ntmps79
 go_wp2_with fail
 refine HCL.out.mono ?_
 rintro e w1 ⟨bt,bc,cap,rest,rfl,hbt,hbc,hf1,ht1⟩
 have H1:=Lib.hid (And.intro hf1 ht1)
 have q0:w1.cell? ⟨bt,0,none⟩=some (.slice (some ⟨bc,0,none⟩) n cap):=by rw [ht1.tab.cell,HN.out]; rfl
 have hbtl:=ht1.tab.lt
 have hbcl:=ht1.cells.lt
 clear hf1 ht1 HCL
 go_wp2_with fail
 obtain ⟨bp,hbp⟩:∃ bp,bp=w1.heap.size:=⟨_,rfl⟩
 rw [← hbp]
 have HL0:Hid (Fr [] w1 (w1.alloc (.cells (BB (List.replicate n false)).toArray 4))∧At (w1.alloc (.cells (BB (List.replicate n false)).toArray 4)) bp 4 (BB (t.pures.take 0++List.replicate (t.cells.length - 0) false))) :=
  ⟨(Fr.refl _ _).alloc _,by rw [hbp,← HN.out]; exact At.new _ _ _⟩
 obtain ⟨W0,HW0⟩:∃ W0,Hid (W0=w1.alloc (.cells (BB (List.replicate n false)).toArray 4)):=⟨_,rfl⟩
 rw [← HW0.out] at HL0 ⊢
 have hbpl:w.heap.size≤bp:=by rw [hbp]; exact H1.out.1.size
 have hbpt:bt < bp:=by rw [hbp]; exact hbtl
 have hbpw:w1.heap.size≤bp:=by omega
 have hbpc:bc < bp:=by rw [hbp]; exact hbcl
 clear hmb HW0 q0 hbp
 go_wp2_with fail
 go_loopw [26] (fun s wx=>∃ i:Nat,i≤n∧s = .int .i64 i∧Hid (Fr [] w1 wx∧At wx bp 4 (BB (t.pures.take i++List.replicate (t.cells.length - i) false)))) (fun s _=>n - (intOf s).toNat)
 case atStart=>exact ⟨0,by omega,rfl,HL0⟩
 case round =>
  obtain ⟨i,hi,rfl,HR⟩:=hrel
  by_cases hlt:i < n
  ·obtain ⟨c,hc⟩:∃ c,t.cells[i]?=some c:=⟨_,List.getElem?_eq_getElem (by rw [← HN.out]; exact hlt)⟩
   have HP:=Lib.hid (pure_any bt bc cap rest t i c wr (H.out.1.fr (H1.out.1.trans HR.out.1) (by simp) (by simp)) (H1.out.2.fr HR.out.1 (by simp) (by simp)) hc)
   have HST:=Lib.hid (pures_step hc)
   obtain ⟨b,HB⟩:∃ b,Hid (b=c.pure t.seed):=⟨_,rfl⟩
   rw [← HB.out] at HP HST
   have hiI:(i:Int) < (n:Int):=by omega
   clear hc
   go_wp2_with fail
   refine HP.out.mono ?_
   rintro e w2 ⟨rfl,hf2⟩
   have HR2:Hid (Fr [] w1 w2∧At w2 bp 4 (BB (t.pures.take i++List.replicate (t.cells.length - i) false))):=⟨HR.out.1.trans hf2,HR.out.2.fr hf2 (by simp)⟩
   have cz:∃ z,w2.cell? ⟨bp,i,none⟩=some (.bool z):=by
    refine ⟨false,?_⟩
    rw [HR2.out.2.cell]
    apply BB_get
    rw [List.getElem?_append_right (by rw [List.length_take,BT.pures_len]; omega),List.length_take,BT.pures_len,List.getElem?_replicate,if_pos (by rw [← HN.out]; omega)]
   obtain ⟨z,cz⟩:=cz
   have fz:=HR2.out.2.frozen i
   have HNN:Hid (Fr [] w1 (w2.setCell ⟨bp,i,none⟩ (.bool b))∧At (w2.setCell ⟨bp,i,none⟩ (.bool b)) bp 4 (BB (t.pures.take (i+1)++List.replicate (t.cells.length - (i+1)) false))):=by
    refine ⟨HR2.out.1.setCell (.inr ?_) _,by rw [← HST.out]; exact HR2.out.2.set i _⟩
    exact hbpw
   clear hf2 HP
   go_wp2_with fail
   go_roundw
   case rel =>
    first
     | exact ⟨i+1,by omega,by go_num,HNN⟩
     | ((repeat apply Exists.intro); exact ⟨⟨i+1,by omega,by go_num,HNN⟩,rfl⟩)
   case measure=>simp [intOf] <;> omega
  ·obtain rfl:i=n:=by omega
   have HZ:Hid (Fr [] w wr∧TabAt wr bt bc cap rest t∧At wr bp 4 (BB t.pures)):=by
    refine ⟨H1.out.1.trans HR.out.1,H1.out.2.fr HR.out.1 (by simp) (by simp),?_⟩
    have h1:=HR.out.2
    rw [← HN.out,Nat.sub_self,List.replicate_zero,List.append_nil,List.take_of_length_le (by rw [BT.pures_len,← HN.out]; exact Nat.le_refl _)] at h1
    exact h1
   obtain ⟨wa,HWA⟩:∃ wa,Hid (wa=wr):=⟨_,rfl⟩
   rw [← HWA.out] at HZ ⊢
   clear HWA HR
   have hmm:=@run_makeMap Tryz.prog
   have q0:wa.cell? ⟨bt,0,none⟩=some (.slice (some ⟨bc,0,none⟩) i cap):=by rw [HZ.out.2.1.tab.cell,HN.out]; rfl
   have hbta:=HZ.out.2.1.tab.lt
   have hnem:wa.heap.size≠bt:=by omega
   have hnem':bt≠wa.heap.size:=by omega
   go_wp2_with fail
   obtain ⟨bm,hbm⟩:∃ bm,bm=wa.heap.size:=⟨_,rfl⟩
   rw [← hbm]
   have HK0:Hid (KS w (wa.alloc (.map #[] 0)) bt bc cap rest bp bm (.slice none 0 0) (.slice none 0 0) t t.pures [] [] []):=by
    refine ⟨HZ.out.1.alloc _,HZ.out.2.1.fr ((Fr.refl [] _).alloc _) (by simp) (by simp),HZ.out.2.2.alloc _,by rw [hbm]; exact SetAt.new wa,⟨rfl,.inl ⟨rfl,rfl⟩⟩,⟨rfl,.inl ⟨rfl,rfl⟩⟩,.inl rfl,hbt,hbc,hbpl,?_⟩
    rw [hbm]
    exact HZ.out.1.size
   generalize wa.alloc (.map #[] 0)=W0 at HK0 ⊢
   clear hmm q0 hbta hnem hnem' hbm HZ
   obtain ⟨n,hni⟩:∃ n,n=i:=⟨_,rfl⟩
   rw [← hni]
   subst hni
   go_loopw [9,10,42] (fun v9 v10 s42 wx=>∃ (k:Nat) (A9:Option Addr) (a9 c9:Nat) (A10:Option Addr) (a10 c10:Nat) (s:Peel),k≤n∧s42 = .int .i64 k∧v9 = .slice A9 a9 c9∧v10 = .slice A10 a10 c10∧a9≤k∧a10≤k∧s.taken.length≤k ∧
    Hid (a9=s.added.length∧a10=s.removed.length∧s.t.cells.length=n∧s.t.seed=t.seed∧KS w wx bt bc cap rest bp bm v9 v10 s.t s.t.pures s.taken s.added s.removed∧peel n ⟨t,[],[],[]⟩=peel (n - k) s)) (fun _ _ s42 _=>n - (intOf s42).toNat)
   case atStart=>exact ⟨0,none,0,0,none,0,0,⟨t,[],[],[]⟩,by omega,rfl,rfl,rfl,by omega,by omega,by simp,rfl,rfl,HN.out.symm,rfl,HK0.out,rfl⟩
   case round =>
    obtain ⟨k,A9,a9,c9,A10,a10,c10,s,hk,rfl,rfl,rfl,ha9,ha10,htk,HR⟩:=hrel
    obtain ⟨wo,HWO⟩:∃ wo,Hid (wo=wr):=⟨_,rfl⟩
    rw [← HWO.out] at HR ⊢
    clear HWO
    by_cases hlt:k < n
    ·have HI:Hid (Calls Tryz.prog 128 #[.slice (some ⟨bp,0,none⟩) n n,.bool true] wo fun e w'=>e = .returned (Value.int .i64 (idxTrue s.t.pures))∧wo=w'):=by
      have h1:=index_any bp n s.t.pures wo HR.out.2.2.2.2.1.pur (by rw [BT.pures_len,HR.out.2.2.1]; exact n4)
      rw [BT.pures_len,HR.out.2.2.1] at h1
      exact h1
     have hkI:(k:Int) < (n:Int):=by omega
     cases hfst:s.t.first with
     | none =>
       have hix:idxTrue s.t.pures = -1:=by rw [BT.first_pures] at hfst; unfold idxTrue; rw [hfst]
       rw [hix] at HI
       have HPE:Hid (peel n ⟨t,[],[],[]⟩=some s):=by show _=_; rw [HR.out.2.2.2.2.2]; exact peel_none _ s hfst
       clear hix hfst
       go_wp2_with fail
       refine HI.out.mono ?_
       rintro e w2 ⟨rfl,rfl⟩
       have HEM:=Lib.hid (empty_any bt bc cap rest s.t wo HR.out.2.2.2.2.1.tab)
       go_wp2_with fail
       refine HEM.out.mono ?_
       rintro e w3 ⟨rfl,hf3⟩
       have HK3:Hid (KS w w3 bt bc cap rest bp bm (.slice A9 a9 c9) (.slice A10 a10 c10) s.t s.t.pures s.taken s.added s.removed):=HR.out.2.2.2.2.1.fr0 hf3
       clear hf3 HEM
       cases hem:s.t.empty with
       | false =>
         have HRES:Hid (t.keys=none):=by show _=_; unfold BT.keys BT.raw; rw [← HN.out,HPE.out]; simp [hem]
         go_wp2_with fail
         go_ret3
         exact ⟨HK3.out.fr,by rw [HRES.out]; rfl⟩
       | true =>
         have HRES:Hid (t.keys=some (sortS s.added,sortS s.removed)):=by show _=_; unfold BT.keys BT.raw; rw [← HN.out,HPE.out]; simp [hem]
         have HS1:=Lib.hid (sortOwn HK3.out.add' HR.out.1 (by omega))
         go_wp2_with fail
         refine HS1.out.mono ?_
         rintro e w4 ⟨rfl,hf4,hr4⟩
         have HO4:Hid (Fr [] w w4∧RowIn w4 A9 ((sortStr s.added).map S8v)∧w4.ownsRow w.heap.size 9 1 (.slice A10 a10 c10) a10 (s.removed.map S8v)):=HK3.out.sorted1 HR.out.1 HR.out.2.1 hf4 hr4
         have HSEP:Hid (∀ g,(Value.slice A9 a9 c9).ownBlock=some g→(Value.slice A10 a10 c10).ownBlock≠some g):=fun g hg e=>HK3.out.sep.elim (fun h0=>by rw [h0] at hg; cases hg) (fun h0=>h0 (by rw [hg,e]))
         have HFR:Hid (Fresh2 w A9 A10):=fresh2_of HK3.out.add' HK3.out.rem' HSEP.out
         have HS2:=Lib.hid (sortOwn HO4.out.2.2 HR.out.2.1 (by omega))
         clear hf4 hr4 HS1
         go_wp2_with fail
         refine HS2.out.mono ?_
         rintro e w5 ⟨rfl,hf5,hr5⟩
         have HO5:Hid (Fr [] w w5∧RowIn w5 A9 ((sortStr s.added).map S8v)∧RowIn w5 A10 ((sortStr s.removed).map S8v)):=sorted2 HO4.out.1 HO4.out.2.2 HSEP.out HO4.out.2.1 hf5 hr5
         clear hf5 hr5 HS2
         go_wp2_with fail
         go_ret3
         refine ⟨HO5.out.1,?_⟩
         rw [HRES.out]
         refine ⟨A9,c9,A10,c10,?_,HO5.out.2.1,HO5.out.2.2,HFR.out⟩
         show _=Ending.returned (.tuple #[.slice A9 (sortStr s.added).length c9,.slice A10 (sortStr s.removed).length c10,Value.int .i64 0])
         rw [sortStr_len,sortStr_len,← HR.out.1,← HR.out.2.1]
         rfl
     | some i =>
       have hix:idxTrue s.t.pures=(i:Int):=by rw [BT.first_pures] at hfst; unfold idxTrue; rw [hfst]
       rw [hix] at HI
       obtain ⟨c,hc,hcp,hca⟩:=first_some hfst
       have hcok:=HR.out.2.2.2.2.1.tab.ok.cells c (List.mem_of_getElem? hc)
       have hin:i < n:=by rw [← HR.out.2.2.1]; exact (List.getElem?_eq_some_iff.1 hc).1
       have hinI:(i:Int) < (n:Int):=by omega
       obtain ⟨L,HL⟩:∃ L,Hid (L=c.cells):=⟨_,rfl⟩
       obtain ⟨key,HKEY⟩:∃ key,Hid (key=c.keys):=⟨_,rfl⟩
       have HKL:Hid (key.length=32):=by show key.length=32; rw [HKEY.out]; exact hcok.keys
       have hbcl:=HR.out.2.2.2.2.1.tab.cells.lt
       have hbtl:=HR.out.2.2.2.2.1.tab.tab.lt
       have HLX:Hid (L.length=34∧(∀ v∈L,v.oneCell'=true)∧∀ j v,L[j]?=some v→wo.cell? ⟨bc,i*34+j,none⟩=some v):=by
        show _∧_∧_
        rw [HL.out]
        refine ⟨BC.cells_len hcok,fun v hv=>tcells_one (l:=[c]) v (by simpa [tcells] using hv),fun j v hj=>?_⟩
        have hj34:=(List.getElem?_eq_some_iff.1 hj).1
        rw [BC.cells_len hcok] at hj34
        rw [HR.out.2.2.2.2.1.tab.cells.cell,tcells_get HR.out.2.2.2.2.1.tab.ok.cells rest i c hc j hj34]
        exact hj
       have q0:wo.cell? ⟨bt,0,none⟩=some (.slice (some ⟨bc,0,none⟩) n cap):=by rw [HR.out.2.2.2.2.1.tab.tab.cell,← HR.out.2.2.1]; rfl
       obtain ⟨m,hm⟩:∃ m,n - k=m+1:=⟨n - k - 1,by omega⟩
       have HF:=Lib.hid (And.intro hfst (And.intro hc (And.intro hca (And.intro hcok hm))))
       have hcnt:=pure_count hcp
       clear hix hfst hc hca hcok hm hcp
       go_wp2_with fail
       refine HI.out.mono ?_
       rintro e w2 ⟨rfl,rfl⟩
       go_upto_region 15 with (first
        | (refine wpList_load_at rfl 183 (.tmp 53) rfl bc (i*34) rfl L _ (fun j v hj=>HLX.out.2.2 j v hj) Tryz.underlying183 rfl (by rw [HLX.out.1]; kernel_rfl) ?_)
        | (refine wpList_store_new rfl 183 (.tmp 12) (.tmp 54) rfl rfl 183 _ L rfl (by rw [HLX.out.1]; rfl) (by rw [HLX.out.1]; kernel_rfl) HLX.out.2.1 ?_; intro w2 hf2 ha2))
       obtain ⟨bx,hbx⟩:∃ bx,bx=wo.heap.size:=⟨_,rfl⟩
       rw [← hbx] at ha2 ⊢
       have HX:Hid (At w2 bx 183 c.cells):=by show At _ _ _ _; rw [← HL.out]; exact ha2
       have HK2:Hid (KS w w2 bt bc cap rest bp bm (.slice A9 a9 c9) (.slice A10 a10 c10) s.t s.t.pures s.taken s.added s.removed):=HR.out.2.2.2.2.1.fr0 hf2
       have hbx1:w.heap.size≤bx:=by rw [hbx]; exact HR.out.2.2.2.2.1.fr.size
       have hbxc:bc < bx:=by omega
       clear q0 hf2 ha2 hbx hbcl hbtl
       have hsl:∀ W:World,(Instr.sliceAt 134 (vP bx 1) none none none).run Tryz.prog W = .ok (.slice (some ⟨bx,1,none⟩) 32 32) W:=fun W=>by kernel_rfl
       have hst:(convert 23 9 (.slice (some ⟨bx,1,none⟩) 32 32)).run Tryz.prog w2 = .ok (vS key) w2:=by
        have h1:=run_str (P:=Tryz.prog) (src:=23) (dst:=9) Tryz.underlying23 Tryz.underlying5 Tryz.underlying9 w2 (some ⟨bx,1,none⟩) 32 key (fun j v hj=>⟨bx,1,rfl,HX.out.lt,by
         rw [HX.out.cell,Nat.add_comm 1 j,BC.cells,List.getElem?_cons_succ,List.getElem?_append_left (by rw [← HKEY.out]; exact (List.getElem?_eq_some_iff.1 hj).1),← HKEY.out]
         exact hj⟩)
        rw [HKL.out] at h1
        exact h1
       obtain ⟨tw,HTW⟩:∃ tw,Hid (tw=s.taken.contains key):=⟨_,rfl⟩
       have hlk:(Instr.lookup 147 (.map (some bm)) (vS key) false).run Tryz.prog w2 = .ok (.bool tw) w2:=by
        have h1:=HK2.out.set.lookup key (by rw [HKL.out]; unfold maxLen; omega)
        rw [List.contains_reverse] at h1
        rw [h1,HTW.out]
       cases tw with
       | true =>
         have HRES:Hid (t.keys=none):=by
          show _=_
          have h1:=peel_twice m s i HF.out.1 (by rw [HF.out.2.2.1,← HKEY.out,← HTW.out])
          unfold BT.keys BT.raw
          rw [← HN.out,HR.out.2.2.2.2.2,HF.out.2.2.2.2,h1]
          rfl
         go_wp2_with fail
         go_ret3
         exact ⟨HK2.out.fr,by rw [HRES.out]; rfl⟩
       | false =>
         go_upto_region 19 with (at_mapUpdate; refine wpList_mapUpdate_own _ rfl _ _ _ 147 rfl 9 4 (Maps.string_keyed Tryz.underlying9) Tryz.underlying147 _ bm _ _ rfl HK2.out.set (by rw [List.length_reverse]; unfold maxLen; omega) _ _ (.string key) rfl rfl (key_lit key (by rw [HKL.out]; unfold maxLen; omega)) (.lit (.bool true)) [] (plainElem_bool Tryz.underlying4 true) ?_; intro w3 hown3 hg3)
         have HK3:Hid (KS w w3 bt bc cap rest bp bm (.slice A9 a9 c9) (.slice A10 a10 c10) s.t s.t.pures (key::s.taken) s.added s.removed):=HK2.out.map hg3 (SetAt.of_put hown3)
         have HX3:Hid (At w3 bx 183 c.cells):=HX.out.grown hg3 (fun e=>HK2.out.set.ne_at HX.out (by injection e with e; exact e.symm))
         have hw3:w.heap.size≤w3.heap.size:=HK3.out.fr.size
         obtain ⟨seed,HSD⟩:∃ seed,Hid (seed=s.t.seed):=⟨_,rfl⟩
         clear hown3 hg3 hsl hst hlk HK2 HI
         rcases hcnt with hcnt | hcnt
         ·have c0:w3.cell? ⟨bx,0,none⟩=some (Value.int .i64 (1)):=by rw [HX3.out.cell,cells_get0,hcnt]
          have HCN:=Lib.hid hcnt
          clear hcnt
          go_upto_region 22 with (at_builtin; refine wpList_push el_str rfl (.tmp 66) (.tmp 68) rfl w.heap.size _ _ (s.added.map S8v) (vS key) rfl HK3.out.add' rfl rfl (by omega) (by omega) 9 ?_; intro v4 w4 hown4 hg4 hb4)
          obtain ⟨A4,c4,rfl⟩:=ownsRow_form hown4
          have HK4:Hid (KS w w4 bt bc cap rest bp bm (.slice A4 (a9+1) c4) (.slice A10 a10 c10) s.t s.t.pures (key::s.taken) (s.added++[key]) s.removed):=by
           have h1:=hown4
           have h2:=HR.out.1
           refine HK3.out.pushAdd (key:=key) ?_ hg4 hb4
           rw [← h2]
           exact h1
          have HX4:Hid (At w4 bx 183 c.cells):=HX3.out.grown hg4 (ownb_ne HK3.out.add HX3.out (by decide))
          clear c0 hown4 hg4 hb4 HK3 HX3
          have c0:w4.cell? ⟨bx,0,none⟩=some (Value.int .i64 (1)):=by rw [HX4.out.cell,cells_get0,HCN.out]
          have HCH:=Lib.hid (change_any bt bc cap rest s.t key (-1) w4 (H.out.1.fr HK4.out.fr (by simp) (by simp)) HK4.out.tab HKL.out)
          go_wp2_with fail
          refine HCH.out.mono ?_
          rintro e w5 ⟨rfl,hf5,ht5⟩
          obtain ⟨t',HT'⟩:∃ t',Hid (t'=s.t.change key (-1)):=⟨_,rfl⟩
          rw [← HT'.out] at ht5
          have HK5:Hid (KS w w5 bt bc cap rest bp bm (.slice A4 (a9+1) c4) (.slice A10 a10 c10) t' s.t.pures (key::s.taken) (s.added++[key]) s.removed):=HK4.out.chg hf5 ht5
          have HTN:Hid (t'.cells.length=n∧t'.seed=seed):=⟨by rw [HT'.out,BT.change_len]; exact HR.out.2.2.1,by rw [HT'.out,HSD.out]; exact BT.atN_seed _ _ _ 3⟩
          clear hf5 ht5 HCH HK4 c0
          have HTC:Hid (∀ W,Fr [] w5 W→W.cell? ⟨bt,0,none⟩=some (.slice (some ⟨bc,0,none⟩) n cap)∧W.cell? ⟨bt,1,none⟩=some (.int .u64 (seed:Int))):=fun W hW =>
           ⟨by rw [(HK5.out.tab.tab.fr hW (by simp)).cell,← HTN.out.1]; rfl,by rw [(HK5.out.tab.tab.fr hW (by simp)).cell,← HTN.out.2]; rfl⟩
          obtain ⟨q0,q1⟩:=HTC.out w5 (Fr.refl _ _)
          have hbt5:bt < w5.heap.size:=HK5.out.tab.tab.lt
          obtain ⟨PL,HPLL⟩:∃ PL,Hid (PL=pl3 n seed key):=⟨_,rfl⟩
          have HPL:=Lib.hid (places_any n seed key w5.drew (H.out.1.fr HK5.out.fr.drew (by simp) (by simp)) (by rw [HSD.out]; exact HR.out.2.2.2.2.1.tab.ok.seed) (by rw [HKL.out]; omega) n3 n4)
          rw [← HPLL.out] at HPL
          go_wp2_with fail
          go_region_held3 (fun w'=>w'.cell? ⟨bt,0,none⟩=some (.slice (some ⟨bc,0,none⟩) n cap)∧w'.cell? ⟨bt,1,none⟩=some (.int .u64 (seed:Int))) (first | go_keep | (exact HTC.out _ H6.out))
           (first | (go_at_call 130; ((with_reducible refine HPL.out.mono ?_)); rintro e w6 ⟨rfl,hf6⟩; have H6:Hid (Fr [] w5 w6):=(Fr.refl [] w5).drew.trans hf6; clear hf6))
          rename_i hHeld
          have HK6:Hid (KS w w6 bt bc cap rest bp bm (.slice A4 (a9+1) c4) (.slice A10 a10 c10) t' (patch n seed key s.t.pures t'.pures 0) (key::s.taken) (s.added++[key]) s.removed):=HK5.out.fr0 H6.out
          clear hHeld q0 q1 HPL HTC H6 hbt5 HK5
          go_wp2_with fail
          go_loopw [91] (fun s91 wx=>∃ j:Nat,j≤3∧s91 = .int .i64 j∧Hid (KS w wx bt bc cap rest bp bm (.slice A4 (a9+1) c4) (.slice A10 a10 c10) t' (patch n seed key s.t.pures t'.pures j) (key::s.taken) (s.added++[key]) s.removed)) (fun s91 _=>3 - (intOf s91).toNat)
          case atStart=>exact ⟨0,by omega,rfl,HK6⟩
          case round =>
           obtain ⟨j,hj,rfl,HJ⟩:=hrel
           by_cases hltj:j < 3
           ·obtain ⟨p,HPP⟩:∃ p,Hid (p=bplace n seed key j):=⟨_,rfl⟩
            have hpn:p < n:=by rw [HPP.out]; exact bplace_lt n seed key j n3 hltj
            have hixj:∀ W:World,(Instr.index 194 (.agg PL.toArray) (.int .i64 (j:Int))).run Tryz.prog W = .ok (Value.int .i64 (p:Int)) W:=run_index_agg (P:=Tryz.prog) 194 3 3 PL (Value.int .i64 (p:Int)) .i64 j Tryz.underlying194 (by kernel_rfl) (fun _=>by kernel_rfl) hltj (by rw [HPLL.out,HPP.out]; exact pl3_get n seed key j hltj)
            obtain ⟨c2,hc2⟩:∃ c2,t'.cells[p]?=some c2:=⟨_,List.getElem?_eq_getElem (by rw [HTN.out.1]; exact hpn)⟩
            have HPU:=Lib.hid (pure_any bt bc cap rest t' p c2 wr (H.out.1.fr HJ.out.fr (by simp) (by simp)) HJ.out.tab hc2)
            obtain ⟨b,HB⟩:∃ b,Hid (b=c2.pure t'.seed):=⟨_,rfl⟩
            rw [← HB.out] at HPU
            have HST:Hid ((patch n seed key s.t.pures t'.pures j).set p b=patch n seed key s.t.pures t'.pures (j+1)):=by
             show _=(patch n seed key s.t.pures t'.pures j).set (bplace n seed key j) (t'.pures.getD (bplace n seed key j) false)
             rw [← HPP.out,List.getD_eq_getElem?_getD,BT.pures_get hc2,HB.out]
             rfl
            have hpI:(p:Int) < (n:Int):=by omega
            have hjI:(j:Int) < 3:=by omega
            clear hc2
            go_wp2_with fail
            refine HPU.out.mono ?_
            rintro e w7 ⟨rfl,hf7⟩
            have HJ7:Hid (KS w w7 bt bc cap rest bp bm (.slice A4 (a9+1) c4) (.slice A10 a10 c10) t' (patch n seed key s.t.pures t'.pures j) (key::s.taken) (s.added++[key]) s.removed):=HJ.out.fr0 hf7
            obtain ⟨z,cz⟩:∃ z,w7.cell? ⟨bp,p,none⟩=some (.bool z):=by
             have hpl:p < (patch n seed key s.t.pures t'.pures j).length:=by rw [patch_len,BT.pures_len,HR.out.2.2.1]; exact hpn
             exact ⟨_,by rw [HJ7.out.pur.cell]; exact BB_get (List.getElem?_eq_getElem hpl)⟩
            have fz:=HJ7.out.pur.frozen p
            have HN7:Hid (KS w (w7.setCell ⟨bp,p,none⟩ (.bool b)) bt bc cap rest bp bm (.slice A4 (a9+1) c4) (.slice A10 a10 c10) t' (patch n seed key s.t.pures t'.pures (j+1)) (key::s.taken) (s.added++[key]) s.removed):=by
             have h1:=HJ7.out.setP p b
             rw [HST.out] at h1
             exact h1
            clear hf7 HPU
            go_wp2_with fail
            go_roundw
            case rel =>
             first
              | exact ⟨j+1,by omega,by go_num,HN7⟩
              | ((repeat apply Exists.intro); exact ⟨⟨j+1,by omega,by go_num,HN7⟩,rfl⟩)
            case measure=>simp [intOf] <;> omega
           ·obtain rfl:j=3:=by omega
            have HTAKE:Hid (s.take c=⟨t',key::s.taken,(s.added++[key]),s.removed⟩):=by
             show s.take c=_
             unfold Peel.take
             rw [HCN.out,HT'.out,HKEY.out]
             simp
            have HEND:Hid (a9+1=(s.take c).added.length∧a10=(s.take c).removed.length∧(s.take c).t.cells.length=n∧(s.take c).t.seed=t.seed∧KS w wr bt bc cap rest bp bm (.slice A4 (a9+1) c4) (.slice A10 a10 c10) (s.take c).t (s.take c).t.pures (s.take c).taken (s.take c).added (s.take c).removed∧peel n ⟨t,[],[],[]⟩=peel (n - (k+1)) (s.take c)):=by
             have h1:=HJ.out
             have h2:=patch_all s.t key (-1)
             rw [HR.out.2.2.1,← HSD.out,← HT'.out] at h2
             rw [h2] at h1
             have h3:=peel_step m s i HF.out.1 (by rw [HF.out.2.2.1,← HKEY.out,← HTW.out])
             rw [HF.out.2.2.1] at h3
             rw [HTAKE.out] at h3 ⊢
             have e9:=HR.out.1
             have e10:=HR.out.2.1
             refine ⟨by simp; omega,by simp; omega,HTN.out.1,by rw [← HR.out.2.2.2.1,← HSD.out]; exact HTN.out.2,h1,?_⟩
             rw [HR.out.2.2.2.2.2,HF.out.2.2.2.2,h3]
             congr 1
             have:=HF.out.2.2.2.2
             omega
            have htk':(s.take c).taken.length≤k+1:=by rw [HTAKE.out]; simp; omega
            go_wp2_with fail
            go_roundw
            case rel =>
             first
              | exact ⟨k+1,_,_,_,_,_,_,s.take c,by omega,by go_num,rfl,rfl,by omega,by omega,htk',HEND⟩
              | ((repeat apply Exists.intro); exact ⟨⟨k+1,_,_,_,_,_,_,s.take c,by omega,by go_num,rfl,rfl,by omega,by omega,htk',HEND⟩,rfl⟩)
            case measure=>simp [intOf] <;> omega
         ·have c0:w3.cell? ⟨bx,0,none⟩=some (Value.int .i64 (-1)):=by rw [HX3.out.cell,cells_get0,hcnt]
          have HCN:=Lib.hid hcnt
          clear hcnt
          go_upto_region 22 with (at_builtin; refine wpList_push el_str rfl (.tmp 70) (.tmp 72) rfl w.heap.size _ _ (s.removed.map S8v) (vS key) rfl HK3.out.rem' rfl rfl (by omega) (by omega) 9 ?_; intro v4 w4 hown4 hg4 hb4)
          obtain ⟨A4,c4,rfl⟩:=ownsRow_form hown4
          have HK4:Hid (KS w w4 bt bc cap rest bp bm (.slice A9 a9 c9) (.slice A4 (a10+1) c4) s.t s.t.pures (key::s.taken) s.added (s.removed++[key])):=by
           have h1:=hown4
           have h2:=HR.out.2.1
           refine HK3.out.pushRem (key:=key) ?_ hg4 hb4
           rw [← h2]
           exact h1
          have HX4:Hid (At w4 bx 183 c.cells):=HX3.out.grown hg4 (ownb_ne HK3.out.rem HX3.out (by decide))
          clear c0 hown4 hg4 hb4 HK3 HX3
          have c0:w4.cell? ⟨bx,0,none⟩=some (Value.int .i64 (-1)):=by rw [HX4.out.cell,cells_get0,HCN.out]
          have HCH:=Lib.hid (change_any bt bc cap rest s.t key (1) w4 (H.out.1.fr HK4.out.fr (by simp) (by simp)) HK4.out.tab HKL.out)
          go_wp2_with fail
          refine HCH.out.mono ?_
          rintro e w5 ⟨rfl,hf5,ht5⟩
          obtain ⟨t',HT'⟩:∃ t',Hid (t'=s.t.change key (1)):=⟨_,rfl⟩
          rw [← HT'.out] at ht5
          have HK5:Hid (KS w w5 bt bc cap rest bp bm (.slice A9 a9 c9) (.slice A4 (a10+1) c4) t' s.t.pures (key::s.taken) s.added (s.removed++[key])):=HK4.out.chg hf5 ht5
          have HTN:Hid (t'.cells.length=n∧t'.seed=seed):=⟨by rw [HT'.out,BT.change_len]; exact HR.out.2.2.1,by rw [HT'.out,HSD.out]; exact BT.atN_seed _ _ _ 3⟩
          clear hf5 ht5 HCH HK4 c0
          have HTC:Hid (∀ W,Fr [] w5 W→W.cell? ⟨bt,0,none⟩=some (.slice (some ⟨bc,0,none⟩) n cap)∧W.cell? ⟨bt,1,none⟩=some (.int .u64 (seed:Int))):=fun W hW =>
           ⟨by rw [(HK5.out.tab.tab.fr hW (by simp)).cell,← HTN.out.1]; rfl,by rw [(HK5.out.tab.tab.fr hW (by simp)).cell,← HTN.out.2]; rfl⟩
          obtain ⟨q0,q1⟩:=HTC.out w5 (Fr.refl _ _)
          have hbt5:bt < w5.heap.size:=HK5.out.tab.tab.lt
          obtain ⟨PL,HPLL⟩:∃ PL,Hid (PL=pl3 n seed key):=⟨_,rfl⟩
          have HPL:=Lib.hid (places_any n seed key w5.drew (H.out.1.fr HK5.out.fr.drew (by simp) (by simp)) (by rw [HSD.out]; exact HR.out.2.2.2.2.1.tab.ok.seed) (by rw [HKL.out]; omega) n3 n4)
          rw [← HPLL.out] at HPL
          go_wp2_with fail
          go_region_held3 (fun w'=>w'.cell? ⟨bt,0,none⟩=some (.slice (some ⟨bc,0,none⟩) n cap)∧w'.cell? ⟨bt,1,none⟩=some (.int .u64 (seed:Int))) (first | go_keep | (exact HTC.out _ H6.out))
           (first | (go_at_call 130; ((with_reducible refine HPL.out.mono ?_)); rintro e w6 ⟨rfl,hf6⟩; have H6:Hid (Fr [] w5 w6):=(Fr.refl [] w5).drew.trans hf6; clear hf6))
          rename_i hHeld
          have HK6:Hid (KS w w6 bt bc cap rest bp bm (.slice A9 a9 c9) (.slice A4 (a10+1) c4) t' (patch n seed key s.t.pures t'.pures 0) (key::s.taken) s.added (s.removed++[key])):=HK5.out.fr0 H6.out
          clear hHeld q0 q1 HPL HTC H6 hbt5 HK5
          go_wp2_with fail
          go_loopw [91] (fun s91 wx=>∃ j:Nat,j≤3∧s91 = .int .i64 j∧Hid (KS w wx bt bc cap rest bp bm (.slice A9 a9 c9) (.slice A4 (a10+1) c4) t' (patch n seed key s.t.pures t'.pures j) (key::s.taken) s.added (s.removed++[key]))) (fun s91 _=>3 - (intOf s91).toNat)
          case atStart=>exact ⟨0,by omega,rfl,HK6⟩
          case round =>
           obtain ⟨j,hj,rfl,HJ⟩:=hrel
           by_cases hltj:j < 3
           ·obtain ⟨p,HPP⟩:∃ p,Hid (p=bplace n seed key j):=⟨_,rfl⟩
            have hpn:p < n:=by rw [HPP.out]; exact bplace_lt n seed key j n3 hltj
            have hixj:∀ W:World,(Instr.index 194 (.agg PL.toArray) (.int .i64 (j:Int))).run Tryz.prog W = .ok (Value.int .i64 (p:Int)) W:=run_index_agg (P:=Tryz.prog) 194 3 3 PL (Value.int .i64 (p:Int)) .i64 j Tryz.underlying194 (by kernel_rfl) (fun _=>by kernel_rfl) hltj (by rw [HPLL.out,HPP.out]; exact pl3_get n seed key j hltj)
            obtain ⟨c2,hc2⟩:∃ c2,t'.cells[p]?=some c2:=⟨_,List.getElem?_eq_getElem (by rw [HTN.out.1]; exact hpn)⟩
            have HPU:=Lib.hid (pure_any bt bc cap rest t' p c2 wr (H.out.1.fr HJ.out.fr (by simp) (by simp)) HJ.out.tab hc2)
            obtain ⟨b,HB⟩:∃ b,Hid (b=c2.pure t'.seed):=⟨_,rfl⟩
            rw [← HB.out] at HPU
            have HST:Hid ((patch n seed key s.t.pures t'.pures j).set p b=patch n seed key s.t.pures t'.pures (j+1)):=by
             show _=(patch n seed key s.t.pures t'.pures j).set (bplace n seed key j) (t'.pures.getD (bplace n seed key j) false)
             rw [← HPP.out,List.getD_eq_getElem?_getD,BT.pures_get hc2,HB.out]
             rfl
            have hpI:(p:Int) < (n:Int):=by omega
            have hjI:(j:Int) < 3:=by omega
            clear hc2
            go_wp2_with fail
            refine HPU.out.mono ?_
            rintro e w7 ⟨rfl,hf7⟩
            have HJ7:Hid (KS w w7 bt bc cap rest bp bm (.slice A9 a9 c9) (.slice A4 (a10+1) c4) t' (patch n seed key s.t.pures t'.pures j) (key::s.taken) s.added (s.removed++[key])):=HJ.out.fr0 hf7
            obtain ⟨z,cz⟩:∃ z,w7.cell? ⟨bp,p,none⟩=some (.bool z):=by
             have hpl:p < (patch n seed key s.t.pures t'.pures j).length:=by rw [patch_len,BT.pures_len,HR.out.2.2.1]; exact hpn
             exact ⟨_,by rw [HJ7.out.pur.cell]; exact BB_get (List.getElem?_eq_getElem hpl)⟩
            have fz:=HJ7.out.pur.frozen p
            have HN7:Hid (KS w (w7.setCell ⟨bp,p,none⟩ (.bool b)) bt bc cap rest bp bm (.slice A9 a9 c9) (.slice A4 (a10+1) c4) t' (patch n seed key s.t.pures t'.pures (j+1)) (key::s.taken) s.added (s.removed++[key])):=by
             have h1:=HJ7.out.setP p b
             rw [HST.out] at h1
             exact h1
            clear hf7 HPU
            go_wp2_with fail
            go_roundw
            case rel =>
             first
              | exact ⟨j+1,by omega,by go_num,HN7⟩
              | ((repeat apply Exists.intro); exact ⟨⟨j+1,by omega,by go_num,HN7⟩,rfl⟩)
            case measure=>simp [intOf] <;> omega
           ·obtain rfl:j=3:=by omega
            have HTAKE:Hid (s.take c=⟨t',key::s.taken,s.added,(s.removed++[key])⟩):=by
             show s.take c=_
             unfold Peel.take
             rw [HCN.out,HT'.out,HKEY.out]
             simp
            have HEND:Hid (a9=(s.take c).added.length∧a10+1=(s.take c).removed.length∧(s.take c).t.cells.length=n∧(s.take c).t.seed=t.seed∧KS w wr bt bc cap rest bp bm (.slice A9 a9 c9) (.slice A4 (a10+1) c4) (s.take c).t (s.take c).t.pures (s.take c).taken (s.take c).added (s.take c).removed∧peel n ⟨t,[],[],[]⟩=peel (n - (k+1)) (s.take c)):=by
             have h1:=HJ.out
             have h2:=patch_all s.t key (1)
             rw [HR.out.2.2.1,← HSD.out,← HT'.out] at h2
             rw [h2] at h1
             have h3:=peel_step m s i HF.out.1 (by rw [HF.out.2.2.1,← HKEY.out,← HTW.out])
             rw [HF.out.2.2.1] at h3
             rw [HTAKE.out] at h3 ⊢
             have e9:=HR.out.1
             have e10:=HR.out.2.1
             refine ⟨by simp; omega,by simp; omega,HTN.out.1,by rw [← HR.out.2.2.2.1,← HSD.out]; exact HTN.out.2,h1,?_⟩
             rw [HR.out.2.2.2.2.2,HF.out.2.2.2.2,h3]
             congr 1
             have:=HF.out.2.2.2.2
             omega
            have htk':(s.take c).taken.length≤k+1:=by rw [HTAKE.out]; simp; omega
            go_wp2_with fail
            go_roundw
            case rel =>
             first
              | exact ⟨k+1,_,_,_,_,_,_,s.take c,by omega,by go_num,rfl,rfl,by omega,by omega,htk',HEND⟩
              | ((repeat apply Exists.intro); exact ⟨⟨k+1,_,_,_,_,_,_,s.take c,by omega,by go_num,rfl,rfl,by omega,by omega,htk',HEND⟩,rfl⟩)
            case measure=>simp [intOf] <;> omega
    ·obtain rfl:k=n:=by omega
     have HPE:Hid (peel k ⟨t,[],[],[]⟩=some s):=by show _=_; rw [HR.out.2.2.2.2.2,Nat.sub_self]; rfl
     have HEM:=Lib.hid (empty_any bt bc cap rest s.t wo HR.out.2.2.2.2.1.tab)
     go_wp2_with fail
     refine HEM.out.mono ?_
     rintro e w3 ⟨rfl,hf3⟩
     have HK3:Hid (KS w w3 bt bc cap rest bp bm (.slice A9 a9 c9) (.slice A10 a10 c10) s.t s.t.pures s.taken s.added s.removed):=HR.out.2.2.2.2.1.fr0 hf3
     clear hf3 HEM
     cases hem:s.t.empty with
     | false =>
       have HRES:Hid (t.keys=none):=by show _=_; unfold BT.keys BT.raw; rw [← HN.out,HPE.out]; simp [hem]
       go_wp2_with fail
       go_ret3
       exact ⟨HK3.out.fr,by rw [HRES.out]; rfl⟩
     | true =>
       have HRES:Hid (t.keys=some (sortS s.added,sortS s.removed)):=by show _=_; unfold BT.keys BT.raw; rw [← HN.out,HPE.out]; simp [hem]
       have HS1:=Lib.hid (sortOwn HK3.out.add' HR.out.1 (by omega))
       go_wp2_with fail
       refine HS1.out.mono ?_
       rintro e w4 ⟨rfl,hf4,hr4⟩
       have HO4:Hid (Fr [] w w4∧RowIn w4 A9 ((sortStr s.added).map S8v)∧w4.ownsRow w.heap.size 9 1 (.slice A10 a10 c10) a10 (s.removed.map S8v)):=HK3.out.sorted1 HR.out.1 HR.out.2.1 hf4 hr4
       have HSEP:Hid (∀ g,(Value.slice A9 a9 c9).ownBlock=some g→(Value.slice A10 a10 c10).ownBlock≠some g):=fun g hg e=>HK3.out.sep.elim (fun h0=>by rw [h0] at hg; cases hg) (fun h0=>h0 (by rw [hg,e]))
       have HFR:Hid (Fresh2 w A9 A10):=fresh2_of HK3.out.add' HK3.out.rem' HSEP.out
       have HS2:=Lib.hid (sortOwn HO4.out.2.2 HR.out.2.1 (by omega))
       clear hf4 hr4 HS1
       go_wp2_with fail
       refine HS2.out.mono ?_
       rintro e w5 ⟨rfl,hf5,hr5⟩
       have HO5:Hid (Fr [] w w5∧RowIn w5 A9 ((sortStr s.added).map S8v)∧RowIn w5 A10 ((sortStr s.removed).map S8v)):=sorted2 HO4.out.1 HO4.out.2.2 HSEP.out HO4.out.2.1 hf5 hr5
       clear hf5 hr5 HS2
       go_wp2_with fail
       go_ret3
       refine ⟨HO5.out.1,?_⟩
       rw [HRES.out]
       refine ⟨A9,c9,A10,c10,?_,HO5.out.2.1,HO5.out.2.2,HFR.out⟩
       show _=Ending.returned (.tuple #[.slice A9 (sortStr s.added).length c9,.slice A10 (sortStr s.removed).length c10,Value.int .i64 0])
       rw [sortStr_len,sortStr_len,← HR.out.1,← HR.out.2.1]
       rfl
end
theorem zigzag_any (n:Int) (w:World) (h0:-9223372036854775808≤n) (h1:n≤9223372036854775807) :
  Calls Tryz.prog 161 #[Value.int .i64 n] w fun e w'=>e = .returned (.int .u64 (zig n:Int))∧w=w':=by
 by_cases hn:n < 0
 ·go_enter Tryz.func161,Tryz.ntmps161
  go_wp2
  go_ret
  refine ⟨ret_int ?_,rfl⟩
  unfold zig
  rw [if_pos hn]
  omega
 ·replace hn:=Int.not_lt.1 hn
  go_enter Tryz.func161,Tryz.ntmps161
  go_wp2
  go_ret
  refine ⟨ret_int ?_,rfl⟩
  unfold zig
  rw [if_neg (by omega)]
  omega
structure Grew (base : Nat) (v : Value) (bs : List UInt8) (w : World) (v' : Value) (w' : World) : Prop where
 own : w'.ownsRow base 5 1 v' bs.length (B8 bs)
 gr : w.grownBy w' v.ownBlock
 blk : v'.ownBlock = v.ownBlock ∨ ∃ g, v'.ownBlock = some g ∧ w.heap.size ≤ g
theorem Grew.step {base:Nat} {v v' v'':Value} {bs cs:List UInt8} {w w' w'':World} (h:Grew base v bs w v' w') (k:Grew base v' cs w' v'' w''):Grew base v cs w v'' w'':=by
 refine ⟨k.own,⟨k.gr.os.trans h.gr.os,k.gr.tape.trans h.gr.tape,k.gr.output.trans h.gr.output,Nat.le_trans h.gr.size k.gr.size,fun i hi hn=>?_⟩,?_⟩
 ·refine (k.gr.block i (Nat.lt_of_lt_of_le hi h.gr.size) (fun e=>?_)).trans (h.gr.block i hi hn)
  rcases h.blk with hb | ⟨g,hb,hg⟩
  ·exact hn (e.trans hb)
  ·rw [hb] at e
   injection e with e
   omega
 ·rcases k.blk with hb | ⟨g,hb,hg⟩
  ·rcases h.blk with hb' | ⟨g,hb',hg⟩
   ·exact .inl (hb.trans hb')
   ·exact .inr ⟨g,hb.trans hb',hg⟩
  ·exact .inr ⟨g,hb,Nat.le_trans h.gr.size hg⟩
theorem Grew.refl {base:Nat} {v:Value} {bs:List UInt8} {w:World} (h:w.ownsRow base 5 1 v bs.length (B8 bs)):Grew base v bs w v w:=⟨h,World.grownBy.refl w _,.inl rfl⟩
theorem Grew.size {base:Nat} {v v':Value} {bs:List UInt8} {w w':World} (h:Grew base v bs w v' w'):w.heap.size≤w'.heap.size:=h.gr.size
theorem Grew.push {base:Nat} {v v':Value} {bs:List UInt8} {b:UInt8} {w w':World} (h:w'.ownsRow base 5 1 v' (bs.length+1) (B8 bs++[.int .u8 (b.toNat:Int)])) (hg:w.grownBy w' v.ownBlock) (hb:v'.ownBlock=v.ownBlock∨v'.ownBlock=some (w.heap.size+1)):Grew base v (bs++[b]) w v' w':=by
 refine ⟨?_,hg,?_⟩
 ·rw [B8_append,List.length_append]; exact h
 ·rcases hb with hb | hb
  ·exact .inl hb
  ·exact .inr ⟨_,hb,by omega⟩
set_option maxHeartbeats 2000000 in
theorem extend_any (base n:Nat) (v:Value) (bs:List UInt8) (w:World) (hn:U64 n) (hl:bs.length+10≤4294967296) (hb:base≤w.heap.size) (hown:w.ownsRow base 5 1 v bs.length (B8 bs)) :
  Calls Tryz.prog 117 #[v,.int .u64 (n:Int)] w fun e w'=>∃ v',e = .returned v'∧Grew base v (bs++num n) w v' w':=by
 have H0:=Lib.hid (Grew.refl hown)
 have hnl:=num_length n hn
 have HN:=Lib.hid hn
 have HL:=Lib.hid hl
 clear hown hn hl
 go_enter Tryz.func117,Tryz.ntmps117
 go_wp2_with fail
 go_loopw [0,1] (fun b i wr=>∃ (m:Nat) (cs:List UInt8),U64 m∧i = .int .u64 (m:Int)∧bs++num n=cs++num m∧Grew base v cs w b wr) (fun _ i _=>(intOf i).toNat)
 case atStart=>exact ⟨n,bs,HN.out,rfl,rfl,H0.out⟩
 case round =>
  obtain ⟨m,cs,hm,rfl,he,hg⟩:=hrel
  have hsz:=hg.size
  have HC:Hid (cs.length+1≤137438953472):=by have h1:=congrArg List.length he; have h2:=HL.out; rw [List.length_append,List.length_append] at h1; show _≤_; omega
  have HG:=Lib.hid hg
  have HE:=Lib.hid he
  have HM:=Lib.hid hm
  have hmI:(m:Int)≤18446744073709551615:=by unfold U64 at hm; omega
  clear hg he hm
  obtain ⟨A,c,rfl⟩:=ownsRow_form HG.out.own
  by_cases hlt:m < 128
  ·go_wp2_with (at_builtin; refine wpList_push el_u8 rfl (.tmp 15) (.tmp 18) rfl base _ _ _ (.int .u8 (m:Int)) rfl HG.out.own rfl rfl HC.out (by omega) 5 ?_; intro v' w1 hown1 hg1 hb1)
   go_ret
   refine ⟨v',rfl,HG.out.step ?_⟩
   rw [HE.out,num_small m hlt]
   exact Grew.push (by rw [byte_low m (by omega)] at hown1; exact hown1) hg1 hb1
  ·have hor:=byte_or m
   have hge:(128:Int)≤(m:Int):=by omega
   go_wp2_with (at_builtin; refine wpList_push el_u8 rfl (.tmp 7) (.tmp 11) rfl base _ _ _ (.int .u8 ((UInt8.ofNat (m % 128+128)).toNat:Int)) rfl HG.out.own rfl rfl HC.out (by omega) 5 ?_; intro v' w1 hown1 hg1 hb1)
   go_roundw
   case rel =>
    refine ⟨m / 128,cs++[UInt8.ofNat (m % 128+128)],?_,by go_num,?_,HG.out.step (Grew.push hown1 hg1 hb1)⟩
    ·have:=HM.out; unfold U64 at this ⊢; omega
    ·rw [HE.out,num_big m hlt,List.append_assoc]; rfl
   case measure=>simp [intOf]; omega
theorem own_ne {w:World} {base:Nat} {e t:TypeId} {sz n b:Nat} {v:Value} {xs l:List Value} (h:w.ownsRow base e sz v n xs) (ha:At w b t l) (hne:e≠t):v.ownBlock≠some b:=by
 rcases h.2 with ⟨rfl,_⟩ | ⟨g,cap,cur,rfl,_,hh,_⟩
 ·simp [Value.ownBlock]
 ·intro he
  have:g=b:=by simpa [Value.ownBlock] using he
  subst this
  unfold At at ha
  rw [ha] at hh
  simp only [Option.some.injEq,Obj.cells.injEq] at hh
  exact hne hh.2.1.symm
def WriterAt (w : World) (base bw : Nat) (xs : List UInt8) : Prop := ∃ v, At w bw 180 [v, Value.int .i64 0] ∧ w.ownsRow base 5 1 v xs.length (B8 xs)
theorem WriterAt.bel {w w':World} {base bw:Nat} {xs:List UInt8} (h:WriterAt w base bw xs) (hb:Fr [] w w'):WriterAt w' base bw xs:=by
 obtain ⟨v,h1,h2⟩:=h
 exact ⟨v,h1.fr hb (by simp),ownsRow_fr h2 hb (by simp)⟩
theorem newWriter_any (w:World):Calls Tryz.prog 68 #[] w fun e w'=>e = .returned (Value.pointer (some ⟨w.heap.size,0,none⟩))∧Fr [] w w'∧At w' w.heap.size 180 [.slice none 0 0,Value.int .i64 0]:=by
 go_enter Tryz.func68,Tryz.ntmps68
 go_wp2
 go_ret
 exact ⟨rfl,(Fr.refl _ _).alloc _,At.new w 180 [.slice none 0 0,Value.int .i64 0]⟩
theorem WriterAt.new {w:World} {base bw:Nat} (h:At w bw 180 [.slice none 0 0,Value.int .i64 0]):WriterAt w base bw []:=⟨_,h,World.ownsRow_nil _ _ _ _⟩
structure Wrote (base bw : Nat) (xs : List UInt8) (w : World) (e : Ending) (w' : World) : Prop where
 ret : e = .returned (.tuple #[])
 bel : Bel base [bw] w w'
 at_ : WriterAt w' base bw xs
 other : ∀ k t l, At w k t l → t ≠ 5 → k ≠ bw → At w' k t l
set_option maxHeartbeats 2000000 in
theorem wUint (base bw n:Nat) (xs:List UInt8) (w:World) (hw:WriterAt w base bw xs) (hb:base≤w.heap.size) (hn:U64 n) (hl:xs.length≤4294967000) :
  Calls Tryz.prog 118 #[Value.pointer (some ⟨bw,0,none⟩),.int .u64 (n:Int)] w (Wrote base bw (xs++num n) w):=by
 obtain ⟨v,ha,ho⟩:=hw
 obtain ⟨A,c,rfl⟩:=ownsRow_form ho
 have h0:w.cell? ⟨bw,0,none⟩=some (.slice A xs.length c):=by rw [ha.cell]; rfl
 have h1:w.cell? ⟨bw,1,none⟩=some (Value.int .i64 0):=by rw [ha.cell]; rfl
 have hne:=own_ne ho ha (by decide)
 have H:=Lib.hid (And.intro ha (And.intro ho hne))
 have HN:=Lib.hid (And.intro hn hl)
 clear ha ho hne hn hl
 go_enter Tryz.func118,Tryz.ntmps118
 go_wp2_with fail
 refine (extend_any base n _ xs _ HN.out.1 (by have:=HN.out.2; omega) hb H.out.2.1).mono ?_
 rintro e w1 ⟨v1,rfl,hg⟩
 obtain ⟨A1,c1,hv⟩:=ownsRow_form hg.own
 rw [List.length_append] at hv
 subst hv
 have ha1:At w1 bw 180 [.slice A xs.length c,Value.int .i64 0]:=(hg.gr.block bw H.out.1.lt (fun e=>H.out.2.2 e.symm)).trans H.out.1
 have c0:w1.cell? ⟨bw,0,none⟩=some (.slice A xs.length c):=by rw [ha1.cell]; rfl
 have z0:w1.frozen? ⟨bw,0,none⟩=false:=ha1.frozen 0
 have HOT:Hid (∀ k t l,At w k t l→t≠5→k≠bw→At (w1.setCell ⟨bw,0,none⟩ (.slice A1 (xs.length+(num n).length) c1)) k t l):=fun k t l hk ht hne =>
  At.far (w:=w1) (Eq.trans (hg.gr.block k hk.lt (fun e=>own_ne H.out.2.1 hk (fun e2=>ht e2.symm) e.symm)) hk) hne _
 have HF:Hid (Bel base [bw] w (w1.setCell ⟨bw,0,none⟩ (.slice A1 (xs.length+(num n).length) c1))∧WriterAt (w1.setCell ⟨bw,0,none⟩ (.slice A1 (xs.length+(num n).length) c1)) base bw (xs++num n)):=by
  refine ⟨((Bel.refl base [bw] w).grown hg.gr hb (fun k hk=>.inr (H.out.2.1.lt k hk).1)).setCell (.inl (by simp)) _,_,ha1.set 0 _,?_⟩
  refine ownsRow_fr (S:=[bw]) hg.own ((Fr.refl _ _).setCell (.inl (by simp)) _) ?_
  intro g hg' hm
  have:g=bw:=by simpa using hm
  subst this
  exact own_ne hg.own ha1 (by decide) hg'
 clear hg ha1
 go_wp2_with fail
 go_end0
 exact ⟨rfl,HF.out.1,HF.out.2,HOT.out⟩
set_option maxHeartbeats 2000000 in
theorem wInt (base bw:Nat) (n:Int) (xs:List UInt8) (w:World) (hw:WriterAt w base bw xs) (hb:base≤w.heap.size) (h0:-9223372036854775808≤n) (h1:n≤9223372036854775807) (hl:xs.length≤4294967000) :
  Calls Tryz.prog 119 #[Value.pointer (some ⟨bw,0,none⟩),Value.int .i64 n] w (Wrote base bw (xs++num (zig n)) w):=by
 have H:=Lib.hid (And.intro hw (And.intro hb (And.intro hl (And.intro h0 h1))))
 clear hw hb hl h0 h1
 go_enter Tryz.func119,Tryz.ntmps119
 go_wp2_with fail
 refine (zigzag_any n _ H.out.2.2.2.1 H.out.2.2.2.2).mono ?_
 rintro e w' ⟨rfl,rfl⟩
 go_wp2_with fail
 refine (wUint base bw (zig n) xs _ H.out.1 H.out.2.1 (zig_lt n H.out.2.2.2.1 H.out.2.2.2.2) H.out.2.2.1).mono ?_
 rintro e w1 ⟨rfl,h2,h3,h4⟩
 have H1:=Lib.hid (And.intro h2 (And.intro h3 h4))
 clear h2 h3 h4
 go_wp2_with fail
 go_end0
 exact ⟨rfl,H1.out.1,H1.out.2.1,H1.out.2.2⟩
structure NewBytes (bs : List UInt8) (w : World) (v : Value) (w' : World) : Prop where
 own : w'.ownsRow w.heap.size 5 1 v bs.length (B8 bs)
 fr : Fr [] w w'
set_option maxHeartbeats 2000000 in
theorem wDone (base bw:Nat) (xs:List UInt8) (w:World) (hw:WriterAt w base bw xs) (hl:xs.length≤1048576) :
  Calls Tryz.prog 71 #[Value.pointer (some ⟨bw,0,none⟩)] w fun e w'=>∃ v,e = .returned (.tuple #[v,Value.int .i64 0])∧NewBytes xs w v w':=by
 obtain ⟨v,ha,ho⟩:=hw
 obtain ⟨A,c,rfl⟩:=ownsRow_form ho
 have h0:w.cell? ⟨bw,0,none⟩=some (.slice A xs.length c):=by rw [ha.cell]; rfl
 have h1:w.cell? ⟨bw,1,none⟩=some (Value.int .i64 0):=by rw [ha.cell]; rfl
 have h2:((xs.length:Nat):Int)≤1048576:=by omega
 have hlt:=ha.lt
 have H:=Lib.hid ho
 have HL:=Lib.hid hl
 clear ha ho hl
 go_enter Tryz.func71,Tryz.ntmps71
 go_wp2_with (at_builtin; refine wpList_app el_u8 rfl (.tmp 19) (.tmp 23) rfl w.heap.size _ 0 [] rfl (by exact World.ownsRow_made _ #[] 0 (Nat.le_refl _) (Nat.zero_le _) rfl) A _ c (B8 xs) rfl (by rw [B8_length]; simp) (by exact CellsAt.of_own (H.out.alloc _)) (B8_one _) (by have:=HL.out; omega) (by simp) ?_; intro v2 w2 hown2 hg2 hb2)
 go_ret2
 refine ⟨v2,rfl,?_,?_⟩
 ·simpa using hown2
 ·exact ((Fr.refl [] w).alloc _).grown hg2 (fun g hg=>.inr (by have hg':some w.heap.size=some g:=hg; injection hg' with hg'; omega))
theorem strOf_len (p:List UInt8):(strOf p).size=p.length:=by simp [strOf,ByteArray.size]
theorem strCells_eq (p:List UInt8):Lib.strCells (strOf p)=B8 p:=by simp [Lib.strCells,strOf,B8]
set_option maxHeartbeats 2000000 in
theorem wSum (base bw:Nat) (p xs:List UInt8) (w:World) (hw:WriterAt w base bw xs) (hb:base≤w.heap.size) (hp:p.length=32) (hl:xs.length≤4294967000) :
  Calls Tryz.prog 120 #[Value.pointer (some ⟨bw,0,none⟩),.string (strOf p)] w (Wrote base bw (xs++p) w):=by
 obtain ⟨v,ha,ho⟩:=hw
 obtain ⟨A,c,rfl⟩:=ownsRow_form ho
 have h0:w.cell? ⟨bw,0,none⟩=some (.slice A xs.length c):=by rw [ha.cell]; rfl
 have h1:w.cell? ⟨bw,1,none⟩=some (Value.int .i64 0):=by rw [ha.cell]; rfl
 have hne:=own_ne ho ha (by decide)
 have H:=Lib.hid (And.intro ha (And.intro ho hne))
 obtain ⟨s,HS⟩:∃ s,Hid (s=strOf p):=⟨_,rfl⟩
 have hs:s.size=32:=by rw [HS.out,strOf_len]; exact hp
 have HSZ:Hid (s.size=p.length):=by show _=_; rw [HS.out,strOf_len]
 rw [← HS.out]
 have q1:((s.size:Int) == 32)=true:=by simp; omega
 have q2:((s.size:Int) != 32)=false:=by simp; omega
 have hsb:s.size≤32:=by omega
 obtain ⟨i0,hi0,hz0,hz1,hz2⟩:=info_parts (show (Tryz.prog.info? 5).map (fun i=>(i.zero,i.size,i.bytes))=some (some (.int .u8 0),1,1) by kernel_rfl)
 have HINF:=Lib.hid (And.intro hi0 (And.intro hz0 (And.intro hz1 hz2)))
 clear ha ho hne hs hp hi0 hz0 hz1 hz2
 go_enter Tryz.func120,Tryz.ntmps120
 go_wp2_with (at_builtin; refine Lib.wpList_append_own_string _ rfl (.tmp 19) (.tmp 20) 23 9 rfl base 5 i0 Tryz.underlying23 Tryz.underlying9 HINF.out.1 HINF.out.2.1 HINF.out.2.2.1 HINF.out.2.2.2 _ _ (B8 xs) rfl H.out.2.1 s rfl (by unfold maxLen; omega) (by omega) hb ?_; intro v1 w1 hown1 hg1 _; obtain ⟨A1,c1,rfl⟩:=ownsRow_form hown1; have ha1:At w1 bw 180 [.slice A xs.length c,Value.int .i64 0]:=((hg1.block bw H.out.1.lt (fun e=>H.out.2.2 e.symm)).trans H.out.1); have c0:w1.cell? ⟨bw,0,none⟩=some (.slice A xs.length c):=(by rw [ha1.cell]; rfl); have z0:w1.frozen? ⟨bw,0,none⟩=false:=ha1.frozen 0; have HQ:=Lib.hid (And.intro ha1 (And.intro hown1 hg1)); clear ha1 hown1 hg1)
 have HOT:Hid (∀ k t l,At w k t l→t≠5→k≠bw→At (w1.setCell ⟨bw,0,none⟩ (.slice A1 (xs.length+s.size) c1)) k t l):=fun k t l hk ht hne =>
  At.far (w:=w1) (Eq.trans (HQ.out.2.2.block k hk.lt (fun e=>own_ne H.out.2.1 hk (fun e2=>ht e2.symm) e.symm)) hk) hne _
 have HF:Hid (Bel base [bw] w (w1.setCell ⟨bw,0,none⟩ (.slice A1 (xs.length+s.size) c1))∧WriterAt (w1.setCell ⟨bw,0,none⟩ (.slice A1 (xs.length+s.size) c1)) base bw (xs++p)):=by
  have ha1:=HQ.out.1
  have hown1:=HQ.out.2.1
  rw [HS.out,strCells_eq,← B8_append] at hown1
  refine ⟨((Bel.refl base [bw] w).grown HQ.out.2.2 hb (fun k hk=>.inr (H.out.2.1.lt k hk).1)).setCell (.inl (by simp)) _,_,ha1.set 0 _,?_⟩
  refine ownsRow_fr (S:=[bw]) ?_ ((Fr.refl _ _).setCell (.inl (by simp)) _) ?_
  ·rw [List.length_append,← HSZ.out,HS.out]
   exact hown1
  ·intro g hg' hm
   have:g=bw:=by simpa using hm
   subst this
   exact own_ne hown1 ha1 (by decide) (by rw [← HS.out]; exact hg')
 go_end0
 exact ⟨rfl,HF.out.1,HF.out.2,HOT.out⟩
def BC.enc (c : BC) : List UInt8 := num (zig c.count) ++ c.keys ++ num c.checks
def encTo (t : BT) (i : Nat) : List UInt8 := num t.cells.length ++ num t.seed ++ (t.cells.take i).flatMap BC.enc
def BT.enc (t : BT) : List UInt8 := encTo t t.cells.length
theorem BC.enc_len {c:BC} (h:c.Ok):c.enc.length≤52:=by
 have h1:=num_length (zig c.count) (zig_lt c.count h.count.1 h.count.2)
 have h2:=num_length c.checks h.checks
 have h3:=h.keys
 simp only [BC.enc,List.length_append]
 omega
theorem encTo_succ {t:BT} {i:Nat} {c:BC} (h:t.cells[i]?=some c):encTo t (i+1)=encTo t i++num (zig c.count)++c.keys++num c.checks:=by
 obtain ⟨h1,e1⟩:=List.getElem?_eq_some_iff.1 h
 unfold encTo
 rw [List.take_succ_eq_append_getElem h1,e1,List.flatMap_append]
 simp [BC.enc,List.append_assoc]
theorem bflat_len {l:List BC} (h:Ok34 l):(l.flatMap BC.enc).length≤l.length*52:=by
 induction l with
 | nil=>simp
 | cons c l ih =>
   have h1:=BC.enc_len (h c (by simp))
   have h2:=ih (fun x hx=>h x (by simp [hx]))
   rw [List.flatMap_cons,List.length_append,List.length_cons]
   omega
theorem encTo_len {t:BT} (h:t.Ok) (hn:t.cells.length≤3072) (i:Nat):(encTo t i).length≤200000:=by
 have h1:=num_length t.cells.length (by omega)
 have h2:=num_length t.seed h.seed
 have h3:=bflat_len (l:=t.cells.take i) (fun c hc=>h.cells c (List.mem_of_mem_take hc))
 rw [List.length_take] at h3
 simp only [encTo,List.length_append]
 omega
set_option maxHeartbeats 2000000 in
theorem encode_any (bt bc cap:Nat) (rest:List Value) (t:BT) (w:World) (ht:TabAt w bt bc cap rest t) :
  Calls Tryz.prog 70 #[Value.pointer (some ⟨bt,0,none⟩)] w fun e w'=>∃ v,e = .returned v∧NewBytes t.enc w v w':=by
 obtain ⟨n,HN⟩:∃ n,Hid (n=t.cells.length):=⟨_,rfl⟩
 obtain ⟨seed,HS⟩:∃ seed,Hid (seed=t.seed):=⟨_,rfl⟩
 have hb:=isSz_bounds ht.size
 have n4:n≤3072:=by rw [HN.out]; exact hb.2.1
 have HTC:Hid (∀ W,Fr [] w W→W.cell? ⟨bt,0,none⟩=some (.slice (some ⟨bc,0,none⟩) n cap)∧W.cell? ⟨bt,1,none⟩=some (.int .u64 (seed:Int))):=fun W hW =>
  ⟨by rw [(ht.tab.fr hW (by simp)).cell,HN.out]; rfl,by rw [(ht.tab.fr hW (by simp)).cell,HS.out]; rfl⟩
 have H:=Lib.hid ht
 have hbt:=ht.tab.lt
 have hbc:=ht.cells.lt
 clear ht hb
 obtain ⟨bw,HBW⟩:∃ bw,Hid (bw=w.heap.size):=⟨_,rfl⟩
 have HNW:=Lib.hid (newWriter_any w)
 rw [← HBW.out] at HNW
 have hen:IntKind.u64.wrap (n:Int)=(n:Int):=by rw [IntKind.wrap_u64]; omega
 have HEL:Hid (∀ i,(encTo t i).length≤200000):=fun i=>encTo_len H.out.ok (by rw [← HN.out]; exact n4) i
 go_enter Tryz.func70,Tryz.ntmps70
 go_wp2_with fail
 refine HNW.out.mono ?_
 rintro e w1 ⟨rfl,hf1,ha1⟩
 have H1:Hid (Fr [] w w1∧WriterAt w1 w.heap.size bw []):=⟨hf1,WriterAt.new ha1⟩
 have hz1:=hf1.size
 obtain ⟨q0,q1⟩:=HTC.out w1 hf1
 clear hf1 ha1 HNW
 go_wp2_with fail
 refine (wUint w.heap.size bw n [] w1 H1.out.2 hz1 (by unfold U64; omega) (by simp)).mono ?_
 rintro e w2 ⟨rfl,hb2,ha2,_⟩
 have H2:Hid (Fr [] w w2∧WriterAt w2 w.heap.size bw (num n)):=⟨H1.out.1.thenBel hb2 (Nat.le_refl _) (by have:=HBW.out; simp; omega),by simpa using ha2⟩
 clear q0 q1 hb2 ha2 H1
 obtain ⟨q0,q1⟩:=HTC.out w2 H2.out.1
 have hz2:=H2.out.1.size
 go_wp2_with fail
 refine (wUint w.heap.size bw seed (num n) w2 H2.out.2 hz2 (by rw [HS.out]; exact H.out.ok.seed) (by have:=num_length n (by omega); omega)).mono ?_
 rintro e w3 ⟨rfl,hb3,ha3,_⟩
 have H3:Hid (Fr [] w w3∧WriterAt w3 w.heap.size bw (encTo t 0)):=⟨H2.out.1.thenBel hb3 (Nat.le_refl _) (by have:=HBW.out; simp; omega),by
  have e:encTo t 0=num n++num seed:=by unfold encTo; rw [← HN.out,← HS.out]; simp
  rw [e]
  exact ha3⟩
 clear q0 q1 hb3 ha3 H2
 obtain ⟨q0,q1⟩:=HTC.out w3 H3.out.1
 go_wp2_with fail
 clear q0 q1 hen
 go_loopw [28] (fun s wx=>∃ i:Nat,i≤n∧s = .int .i64 i∧Hid (Fr [] w wx∧WriterAt wx w.heap.size bw (encTo t i))) (fun s _=>n - (intOf s).toNat)
 case atStart=>exact ⟨0,by omega,rfl,H3⟩
 case round =>
  obtain ⟨i,hi,rfl,HR⟩:=hrel
  by_cases hlt:i < n
  ·obtain ⟨c,hc⟩:∃ c,t.cells[i]?=some c:=⟨_,List.getElem?_eq_getElem (by rw [← HN.out]; exact hlt)⟩
   have hcok:=H.out.ok.cells c (List.mem_of_getElem? hc)
   obtain ⟨L,HL⟩:∃ L,Hid (L=c.cells):=⟨_,rfl⟩
   obtain ⟨key,HKEY⟩:∃ key,Hid (key=c.keys):=⟨_,rfl⟩
   obtain ⟨cnt,HCN⟩:∃ cnt,Hid (cnt=c.count):=⟨_,rfl⟩
   obtain ⟨chk,HCH⟩:∃ chk,Hid (chk=c.checks):=⟨_,rfl⟩
   have HKL:Hid (key.length=32):=by show key.length=32; rw [HKEY.out]; exact hcok.keys
   have HLX:Hid (L.length=34∧(∀ v∈L,v.oneCell'=true)∧∀ j v,L[j]?=some v→wr.cell? ⟨bc,i*34+j,none⟩=some v):=by
    show _∧_∧_
    rw [HL.out]
    refine ⟨BC.cells_len hcok,fun v hv=>tcells_one (l:=[c]) v (by simpa [tcells] using hv),fun j v hj=>?_⟩
    have hj34:=(List.getElem?_eq_some_iff.1 hj).1
    rw [BC.cells_len hcok] at hj34
    rw [HR.out.1.cell (p:=⟨bc,i*34+j,none⟩) hbc (by simp),H.out.cells.cell,tcells_get H.out.ok.cells rest i c hc j hj34]
    exact hj
   have HSU:=Lib.hid (encTo_succ hc)
   rw [← HCN.out,← HKEY.out,← HCH.out] at HSU
   have HOK:=Lib.hid hcok
   have hiI:(i:Int) < (n:Int):=by omega
   have hzr:=HR.out.1.size
   have hwl:bw < wr.heap.size:=by obtain ⟨v,ha,_⟩:=HR.out.2; exact ha.lt
   clear hc hcok
   go_upto_region 7 with (first
    | (refine wpList_load_at rfl 183 (.tmp 30) rfl bc (i*34) rfl L _ (fun j v hj=>HLX.out.2.2 j v hj) Tryz.underlying183 rfl (by rw [HLX.out.1]; kernel_rfl) ?_)
    | (refine wpList_store_new rfl 183 (.tmp 5) (.tmp 31) rfl rfl 183 _ L rfl (by rw [HLX.out.1]; rfl) (by rw [HLX.out.1]; kernel_rfl) HLX.out.2.1 ?_; intro w4 hf4 ha4))
   obtain ⟨bx,hbx⟩:∃ bx,bx=wr.heap.size:=⟨_,rfl⟩
   rw [← hbx] at ha4 ⊢
   have hxw:bx≠bw:=by omega
   have H4:Hid (Fr [] w w4∧WriterAt w4 w.heap.size bw (encTo t i)∧At w4 bx 183 c.cells):=⟨HR.out.1.trans hf4,HR.out.2.bel hf4,by rw [← HL.out]; exact ha4⟩
   clear hf4 ha4 hbx
   have hz4:=H4.out.1.size
   have c0:w4.cell? ⟨bx,0,none⟩=some (Value.int .i64 cnt):=by rw [H4.out.2.2.cell,cells_get0,HCN.out]
   go_wp2_with fail
   refine (wInt w.heap.size bw cnt (encTo t i) w4 H4.out.2.1 hz4 (by rw [HCN.out]; exact HOK.out.count.1) (by rw [HCN.out]; exact HOK.out.count.2) (by have:=HEL.out i; omega)).mono ?_
   rintro e w5 ⟨rfl,hb5,ha5,ho5⟩
   have H5:Hid (Fr [] w w5∧WriterAt w5 w.heap.size bw (encTo t i++num (zig cnt))∧At w5 bx 183 c.cells):=⟨H4.out.1.thenBel hb5 (Nat.le_refl _) (by have:=HBW.out; simp; omega),ha5,ho5 bx _ _ H4.out.2.2 (by decide) hxw⟩
   clear c0 hb5 ha5 ho5 H4
   have hz5:=H5.out.1.size
   have hsl:∀ W:World,(Instr.sliceAt 134 (vP bx 1) none none none).run Tryz.prog W = .ok (.slice (some ⟨bx,1,none⟩) 32 32) W:=fun W=>by kernel_rfl
   have hst:(convert 23 9 (.slice (some ⟨bx,1,none⟩) 32 32)).run Tryz.prog w5 = .ok (vS key) w5:=by
    have h1:=run_str (P:=Tryz.prog) (src:=23) (dst:=9) Tryz.underlying23 Tryz.underlying5 Tryz.underlying9 w5 (some ⟨bx,1,none⟩) 32 key (fun j v hj=>⟨bx,1,rfl,H5.out.2.2.lt,by
     rw [H5.out.2.2.cell,Nat.add_comm 1 j,BC.cells,List.getElem?_cons_succ,List.getElem?_append_left (by rw [← HKEY.out]; exact (List.getElem?_eq_some_iff.1 hj).1),← HKEY.out]
     exact hj⟩)
    rw [HKL.out] at h1
    exact h1
   have HL5:Hid ((encTo t i++num (zig cnt)).length≤200010):=by
    show _≤_
    have h1:=HEL.out i
    have h2:=num_length (zig cnt) (by rw [HCN.out]; exact zig_lt c.count HOK.out.count.1 HOK.out.count.2)
    rw [List.length_append]
    omega
   go_wp2_with fail
   refine (wSum w.heap.size bw key (encTo t i++num (zig cnt)) w5 H5.out.2.1 hz5 HKL.out (by have:=HL5.out; omega)).mono ?_
   rintro e w6 ⟨rfl,hb6,ha6,ho6⟩
   have H6:Hid (Fr [] w w6∧WriterAt w6 w.heap.size bw (encTo t i++num (zig cnt)++key)∧At w6 bx 183 c.cells):=⟨H5.out.1.thenBel hb6 (Nat.le_refl _) (by have:=HBW.out; simp; omega),ha6,ho6 bx _ _ H5.out.2.2 (by decide) hxw⟩
   clear hsl hst hb6 ha6 ho6 H5
   have hz6:=H6.out.1.size
   have c33:w6.cell? ⟨bx,33,none⟩=some (.int .u64 (chk:Int)):=by rw [H6.out.2.2.cell,cells_get33 HOK.out.keys,HCH.out]
   go_wp2_with fail
   refine (wUint w.heap.size bw chk (encTo t i++num (zig cnt)++key) w6 H6.out.2.1 hz6 (by rw [HCH.out]; exact HOK.out.checks) (by have:=HL5.out; rw [List.length_append,HKL.out]; omega)).mono ?_
   rintro e w7 ⟨rfl,hb7,ha7,_⟩
   have H7:Hid (Fr [] w w7∧WriterAt w7 w.heap.size bw (encTo t (i+1))):=⟨H6.out.1.thenBel hb7 (Nat.le_refl _) (by have:=HBW.out; simp; omega),by rw [HSU.out]; exact ha7⟩
   clear c33 hb7 ha7 H6
   go_wp2_with fail
   go_roundw
   case rel =>
    first
     | exact ⟨i+1,by omega,by go_num,H7⟩
     | ((repeat apply Exists.intro); exact ⟨⟨i+1,by omega,by go_num,H7⟩,rfl⟩)
   case measure=>simp [intOf] <;> omega
  ·obtain rfl:i=n:=by omega
   go_wp2_with fail
   refine (wDone w.heap.size bw (encTo t i) wr HR.out.2 (by have:=HEL.out i; omega)).mono ?_
   rintro e w8 ⟨v,rfl,ho8⟩
   have H8:=Lib.hid ho8
   obtain ⟨A8,c8,rfl⟩:=ownsRow_form ho8.own
   clear ho8
   go_wp2_with fail
   go_ret
   refine ⟨_,rfl,?_,HR.out.1.trans H8.out.fr⟩
   have h1:=H8.out.own
   unfold BT.enc
   rw [← HN.out]
   exact ownsRow_base h1 HR.out.1.size
section
variable {X : Option Addr × Nat}
def ReaderAt (X : Option Addr × Nat) (w : World) (br : Nat) (D : List UInt8) (off last : Nat) (err : Int) : Prop :=
 ∃ A c, X = (A, c) ∧ At w br 187 [.slice A D.length c, Value.int .i64 (off : Int), Value.int .i64 (last : Int), Value.int .i64 err] ∧ w.ownsRow 0 5 1 (.slice A D.length c) D.length (B8 D)
def NumRes (X : Option Addr × Nat) (br : Nat) (D : List UInt8) (off last : Nat) (w : World) (e : Ending) (w' : World) : Prop :=
 Fr [br] w w' ∧ ∃ off', off' ≤ D.length ∧ ReaderAt X w' br D off' last 0 ∧
  match rdNum D off with
  | some (n, m) => e = .returned (.tuple #[.int .u64 (n : Int), Value.int .i64 0]) ∧ off' = m ∧ U64 n
  | none => e = .returned (.tuple #[.int .u64 0, Value.int .i64 3])
theorem ReaderAt.fr {w w':World} {br:Nat} {D:List UInt8} {off last:Nat} {err:Int} (h:ReaderAt X w br D off last err) (hf:Fr [] w w'):ReaderAt X w' br D off last err:=by
 obtain ⟨A,c,hX,h1,h2⟩:=h
 exact ⟨A,c,hX,h1.fr hf (by simp),ownsRow_fr h2 hf (by simp)⟩
theorem number_fin (br:Nat) (D:List UInt8) (off last:Nat) (w wr:World) (A:Option Addr) (c:Nat) (v:Value) (k:Nat)
  (ha:At w br 187 [.slice A D.length c,Value.int .i64 (off:Int),Value.int .i64 (last:Int),Value.int .i64 0]) (hrow:w.ownsRow 0 5 1 (.slice A D.length c) D.length (B8 D)) (hX:X=(A,c)) (hf:Fr [br] w wr)
  (hat:At wr br 187 [.slice A D.length c,v,Value.int .i64 (last:Int),Value.int .i64 0]) (nq:Nat) :
  Fr [br] w ((wr.drewN nq).setCell ⟨br,1,none⟩ (Value.int .i64 ((off:Int)+(k:Int)+1)))∧At ((wr.drewN nq).setCell ⟨br,1,none⟩ (Value.int .i64 ((off:Int)+(k:Int)+1))) br 187 [.slice A D.length c,Value.int .i64 ((off+k+1:Nat):Int),Value.int .i64 (last:Int),Value.int .i64 0]∧ReaderAt X ((wr.drewN nq).setCell ⟨br,1,none⟩ (Value.int .i64 ((off:Int)+(k:Int)+1))) br D (off+k+1) last 0:=by
 have h1:=(hf.drewN nq).setCell (p:=⟨br,1,none⟩) (.inl (by simp)) (Value.int .i64 ((off:Int)+(k:Int)+1))
 have e:(off:Int)+(k:Int)+1=((off+k+1:Nat):Int):=by omega
 have h2:=(hat.drewN nq).set 1 (Value.int .i64 ((off:Int)+(k:Int)+1))
 rw [e] at h1 h2 ⊢
 refine ⟨h1,h2,A,c,hX,h2,ownsRow_fr hrow h1 ?_⟩
 intro g hg hm
 have:g=br:=by simpa using hm
 subst this
 exact own_ne hrow ha (by decide) hg
set_option maxHeartbeats 4000000 in
theorem number_any (br:Nat) (D:List UInt8) (off last:Nat) (w:World) (hr:ReaderAt X w br D off last 0) (ho:off≤D.length) (hD:D.length≤4294967296) :
  Calls Tryz.prog 145 #[Value.pointer (some ⟨br,0,none⟩)] w (NumRes X br D off last w):=by
 obtain ⟨A,c,hX,ha,hrow⟩:=hr
 have HR:=Lib.hid (And.intro ha hrow)
 have HD:=Lib.hid hD
 clear ha hrow hD
 go_enter Tryz.func145,Tryz.ntmps145
 go_wp2_with fail
 go_loopw [2,6] (fun n i wr=>∃ k:Nat,k≤10∧i = .int .i64 k∧Fr [br] w wr∧At wr br 187 [.slice A D.length c,Value.int .i64 ((off+k:Nat):Int),Value.int .i64 (last:Int),Value.int .i64 0]∧off+k≤D.length ∧
  (∀ j b,j < k→D[off+j]?=some b→128≤b.toNat)∧∃ m:Nat,n = .int .u64 (m:Int)∧U64 m∧(k≤9→m=accN (D.drop off) k)) (fun _ i _=>10 - (intOf i).toNat)
 case atStart=>exact ⟨0,by omega,rfl,Fr.refl _ _,HR.out.1,ho,by intro j b h; omega,0,rfl,by unfold U64; decide,fun _=>by simp [accN]⟩
 case round =>
  obtain ⟨k,hk,rfl,hfr,hat,hle,hpre,m,rfl,hm,hacc⟩:=hrel
  have HS:=Lib.hid (And.intro hfr (And.intro hat (And.intro hpre (And.intro hm hacc))))
  have c0:wr.cell? ⟨br,0,none⟩=some (.slice A D.length c):=by rw [hat.cell]; rfl
  have c1:wr.cell? ⟨br,1,none⟩=some (Value.int .i64 ((off+k:Nat):Int)):=by rw [hat.cell]; rfl
  have z1:wr.frozen? ⟨br,1,none⟩=false:=hat.frozen 1
  have hmI:(m:Int)≤18446744073709551615:=by unfold U64 at hm; omega
  have hDI:(D.length:Int)≤4294967296:=by have:=HD.out; omega
  clear hfr hat hpre hm hacc
  by_cases hk10:k < 10
  ·by_cases hend:off+k=D.length
   ·have t1:(((off+k:Nat):Int) == (D.length:Int))=true:=by rw [hend]; simp
    have HE:=Lib.hid hend
    clear hend
    go_wp2_with fail
    go_quiet (fail)
    go_wp2_with fail
    go_ret2
    refine ⟨HS.out.1.drewN _,off+k,hle,⟨A,c,hX,HS.out.2.1.drewN _,?_⟩,?_⟩
    ·refine ownsRow_fr HR.out.2 (HS.out.1.drewN _) ?_
     intro g hg hm
     have:g=br:=by simpa using hm
     subst this
     exact own_ne HR.out.2 HR.out.1 (by decide) hg
    ·rw [rdNum_end D off k HS.out.2.2.1 HE.out]
     rfl
   ·have hlt:off+k < D.length:=by omega
    have t1:(((off+k:Nat):Int) == (D.length:Int))=false:=by simp; omega
    obtain ⟨g,cap',rest,hv,_,_,hrat,hxl,_⟩:=ownsRow_at HR.out.2 (by omega)
    simp only [Value.slice.injEq,true_and] at hv
    obtain ⟨rfl,rfl⟩:=hv
    have hx:=List.getElem?_eq_getElem hlt
    generalize D[off+k]=x at hx
    have hgb:g≠br:=fun e=>own_ne HR.out.2 HR.out.1 (by decide) (by rw [e]; rfl)
    have hcx:wr.cell? ⟨g,off+k,none⟩=some (.int .u8 (x.toNat:Int)):=by
     rw [(hrat.fr HS.out.1 (by simpa using hgb)).cell,List.getElem?_append_left (by rw [B8_length]; exact hlt)]
     exact B8_get D _ x hx
    have hxb:=UInt8.toNat_lt x
    have HX:=Lib.hid hx
    obtain ⟨m',he,hm'⟩:=orG_nat m x k HS.out.2.2.2.1
    unfold orG at he
    have HM:=Lib.hid hm'
    clear hx hrat hend hm' hxl
    by_cases hx128:128≤x.toNat
    ·have a1:(128:Int)≤(x.toNat:Int):=by omega
     go_wp2_with fail
     go_quiet (fail)
     go_wp2_with fail
     go_quiet (fail)
     go_wp2_with fail
     go_roundw
     case rel =>
      obtain ⟨f1,f2,f3⟩:=number_fin br D off last w wr _ c _ k HR.out.1 HR.out.2 hX HS.out.1 HS.out.2.1 _
      refine ⟨k+1,by omega,by go_num,f1,f2,by omega,?_,m',rfl,HM.out.1,fun hk9=>?_⟩
      ·intro j b hj hb
       by_cases e:j=k
       ·subst e
        rw [HX.out] at hb
        injection hb with hb
        subst hb
        omega
       ·exact HS.out.2.2.1 j b (by omega) hb
      ·rw [accN_succ k _ x (by rw [List.getElem?_drop]; exact HX.out),← HS.out.2.2.2.2 (by omega)]
       refine HM.out.2 ?_ ?_
       ·rw [HS.out.2.2.2.2 (by omega)]; exact accN_lt _ _
       ·have h1:128 ^ k≤128 ^ 8:=Nat.pow_le_pow_right (by omega) (by first | omega | (have:=HG.out; omega))
        have h2:=Nat.mod_lt x.toNat (show 128 > 0 by omega)
        have h3:x.toNat % 128*128 ^ k≤127*128 ^ 8:=Nat.mul_le_mul (by omega) h1
        have h4:127*128 ^ 8 < 18446744073709551616:=by decide
        omega
     case measure=>simp [intOf]; omega
    ·by_cases hbad:(0 < k∧x.toNat=0)∨(k=9∧1 < x.toNat)
     ·have HB:=Lib.hid hbad
      by_cases hx0:x.toNat=0
      ·have a1:((x.toNat:Int) == 0)=true:=by simp [hx0]
       have a2:(0:Int) < (k:Int):=by omega
       have a3:(x.toNat:Int) < 128:=by omega
       clear hbad
       go_wp2_with fail
       go_quiet (fail)
       go_wp2_with fail
       go_quiet (fail)
       go_wp2_with fail
       go_ret2
       obtain ⟨f1,f2,f3⟩:=number_fin br D off last w wr _ c _ k HR.out.1 HR.out.2 hX HS.out.1 HS.out.2.1 _
       refine ⟨f1,_,?_,f3,?_⟩
       ·omega
       rw [rdNum_at D off k x HS.out.2.2.1 HX.out (by omega)]
       rw [if_neg (by have:=HB.out; omega)]
       rfl
      ·have a1:((x.toNat:Int) == 0)=false:=by simp; omega
       have a2:(0:Int) < (k:Int):=by omega
       have a3:(x.toNat:Int) < 128:=by omega
       have a4:((k:Int) == 9)=true:=by simp; omega
       have a5:(1:Int) < (x.toNat:Int):=by omega
       clear hbad
       go_wp2_with fail
       go_quiet (fail)
       go_wp2_with fail
       go_quiet (fail)
       go_wp2_with fail
       go_ret2
       obtain ⟨f1,f2,f3⟩:=number_fin br D off last w wr _ c _ k HR.out.1 HR.out.2 hX HS.out.1 HS.out.2.1 _
       refine ⟨f1,_,?_,f3,?_⟩
       ·omega
       rw [rdNum_at D off k x HS.out.2.2.1 HX.out (by omega)]
       rw [if_neg (by have:=HB.out; omega)]
       rfl
     ·have HG0:=Lib.hid hbad
      by_cases hk0:k=0
      ·have a1:decide ((0:Int) < (k:Int))=false:=by simp; omega
       have a1n:decide (0 < k)=false:=by simp; omega
       have HG:=Lib.hid (And.intro HG0.out (And.intro hk0 hx128))
       have a3:(x.toNat:Int) < 128:=by omega
       have a4:((k:Int) == 9)=false:=by simp; omega
       clear hbad hk0 HG0
       go_wp2_with fail
       go_quiet (fail)
       go_wp2_with fail
       go_quiet (fail)
       go_wp2_with fail
       go_ret2
       obtain ⟨f1,f2,f3⟩:=number_fin br D off last w wr _ c _ k HR.out.1 HR.out.2 hX HS.out.1 HS.out.2.1 _
       refine ⟨f1,_,?_,f3,?_⟩
       ·omega
       rw [rdNum_at D off k x HS.out.2.2.1 HX.out (by omega)]
       rw [if_pos (by have:=HG.out; omega)]
       have hv:m'=accN (D.drop off) (k+1):=by
        rw [accN_succ k _ x (by rw [List.getElem?_drop]; exact HX.out),← HS.out.2.2.2.2 (by omega)]
        refine HM.out.2 ?_ ?_
        ·rw [HS.out.2.2.2.2 (by omega)]; exact accN_lt _ _
        ·have h1:128 ^ k≤128 ^ 8:=Nat.pow_le_pow_right (by omega) (by first | omega | (have:=HG.out; omega))
         have h2:=Nat.mod_lt x.toNat (show 128 > 0 by omega)
         have h3:x.toNat % 128*128 ^ k≤127*128 ^ 8:=Nat.mul_le_mul (by omega) h1
         have h4:127*128 ^ 8 < 18446744073709551616:=by decide
         omega
       rw [← hv]
       exact ⟨rfl,rfl,HM.out.1⟩
      ·by_cases hk9:k=9
       ·have a1:((x.toNat:Int) == 0)=false:=by simp; omega
        have a2:(0:Int) < (k:Int):=by omega
        have a3:(x.toNat:Int) < 128:=by omega
        have a4:((k:Int) == 9)=true:=by simp; omega
        have a5:¬ (1:Int) < (x.toNat:Int):=by omega
        have HK:=Lib.hid hk9
        have HG:=Lib.hid (And.intro HG0.out (And.intro hk9 hx128))
        clear hbad hk0 hk9
        go_wp2_with fail
        go_quiet (fail)
        go_wp2_with fail
        go_quiet (fail)
        go_wp2_with fail
        go_ret2
        obtain ⟨f1,f2,f3⟩:=number_fin br D off last w wr _ c _ k HR.out.1 HR.out.2 hX HS.out.1 HS.out.2.1 _
        refine ⟨f1,_,?_,f3,?_⟩
        ·omega
        rw [rdNum_at D off k x HS.out.2.2.1 HX.out (by omega)]
        rw [if_pos (by have:=HG.out; omega)]
        have hv:m'=accN (D.drop off) (k+1):=by
         rw [accN_succ k _ x (by rw [List.getElem?_drop]; exact HX.out),← HS.out.2.2.2.2 (by omega)]
         refine HM.out.2 ?_ ?_
         ·rw [HS.out.2.2.2.2 (by omega)]; exact accN_lt _ _
         ·have hk9:=HK.out
          subst hk9
          have h1:x.toNat % 128=1:=by have:=HG.out; omega
          rw [h1]
          decide
        rw [← hv]
        exact ⟨rfl,rfl,HM.out.1⟩
       ·have a1:((x.toNat:Int) == 0)=false:=by simp; omega
        have a2:(0:Int) < (k:Int):=by omega
        have a3:(x.toNat:Int) < 128:=by omega
        have a4:((k:Int) == 9)=false:=by simp; omega
        have HG:=Lib.hid (And.intro HG0.out (And.intro hk9 (And.intro hk0 hx128)))
        clear hbad hk9 hk0
        go_wp2_with fail
        go_quiet (fail)
        go_wp2_with fail
        go_quiet (fail)
        go_wp2_with fail
        go_ret2
        obtain ⟨f1,f2,f3⟩:=number_fin br D off last w wr _ c _ k HR.out.1 HR.out.2 hX HS.out.1 HS.out.2.1 _
        refine ⟨f1,_,?_,f3,?_⟩
        ·omega
        rw [rdNum_at D off k x HS.out.2.2.1 HX.out (by omega)]
        rw [if_pos (by have:=HG.out; omega)]
        have hv:m'=accN (D.drop off) (k+1):=by
         rw [accN_succ k _ x (by rw [List.getElem?_drop]; exact HX.out),← HS.out.2.2.2.2 (by omega)]
         refine HM.out.2 ?_ ?_
         ·rw [HS.out.2.2.2.2 (by omega)]; exact accN_lt _ _
         ·have h1:128 ^ k≤128 ^ 8:=Nat.pow_le_pow_right (by omega) (by first | omega | (have:=HG.out; omega))
          have h2:=Nat.mod_lt x.toNat (show 128 > 0 by omega)
          have h3:x.toNat % 128*128 ^ k≤127*128 ^ 8:=Nat.mul_le_mul (by omega) h1
          have h4:127*128 ^ 8 < 18446744073709551616:=by decide
          omega
        rw [← hv]
        exact ⟨rfl,rfl,HM.out.1⟩
  ·obtain rfl:k=10:=by omega
   go_wp2_with fail
   go_ret2
   refine ⟨HS.out.1,off+10,hle,⟨A,c,hX,HS.out.2.1,?_⟩,?_⟩
   ·refine ownsRow_fr HR.out.2 HS.out.1 ?_
    intro g hg hm
    have:g=br:=by simpa using hm
    subst this
    exact own_ne HR.out.2 HR.out.1 (by decide) hg
   ·rw [rdNum_long D off HS.out.2.2.1 hle]
    rfl
end
section
variable {X : Option Addr × Nat}
structure Rd where
 D : List UInt8
 off : Nat
 last : Nat
 err : Int
structure Rd.Ok (r : Rd) : Prop where
 off : r.off ≤ r.D.length
 len : r.D.length ≤ 4294967296
def RdAt (X : Option Addr × Nat) (w : World) (br : Nat) (r : Rd) : Prop := ReaderAt X w br r.D r.off r.last r.err
def Rd.done (r : Rd) (m : Nat) : Rd := { r with off := m, last := r.off }
def Rd.fail (r : Rd) (e : Int) : Rd := { r with last := r.off, err := e }
def Rd.uint (r : Rd) : Nat × Rd := if r.err = 0 then (match rdNum r.D r.off with | some (n, m) => (n, r.done m) | none => (0, r.fail 3)) else (0, r)
theorem rvClose_ok (b0 b1 b2 br:Nat) (A:Option Addr) (n c:Nat) (off last start:Int) (w:World) (h0:At w b0 3 [Value.int .i64 start]) (h1:At w b1 124 [Value.pointer (some ⟨br,0,none⟩)]) (hr:At w br 187 [.slice A n c,Value.int .i64 off,Value.int .i64 last,Value.int .i64 0]) :
  CallsD Tryz.prog 175 #[Value.pointer (some ⟨b0,0,none⟩),Value.pointer (some ⟨b1,0,none⟩),Value.pointer (some ⟨b2,0,none⟩)] .returning w fun e u' w'=>u' = .returning∧e = .returned (.tuple #[])∧w'=w.setCell ⟨br,2,none⟩ (Value.int .i64 start):=by
 have c0:w.cell? ⟨b0,0,none⟩=some (Value.int .i64 start):=by rw [h0.cell]; rfl
 have c1:w.cell? ⟨b1,0,none⟩=some (Value.pointer (some ⟨br,0,none⟩)):=by rw [h1.cell]; rfl
 have c2:w.cell? ⟨br,2,none⟩=some (Value.int .i64 last):=by rw [hr.cell]; rfl
 have c3:w.cell? ⟨br,3,none⟩=some (Value.int .i64 0):=by rw [hr.cell]; rfl
 have z2:=hr.frozen 2
 have hne:b1≠br:=h1.ne hr (by decide)
 clear h0 h1 hr
 go_enter_d Tryz.func175,Tryz.ntmps175
 go_wp2_with fail
 go_end0
 exact ⟨rfl,rfl⟩
theorem rvClose_err (b0 b1 b2 br:Nat) (A:Option Addr) (n c:Nat) (off last start err v:Int) (w:World) (h0:At w b0 3 [Value.int .i64 start]) (h1:At w b1 124 [Value.pointer (some ⟨br,0,none⟩)]) (h2:At w b2 80 [.int .u64 v]) (hr:At w br 187 [.slice A n c,Value.int .i64 off,Value.int .i64 last,Value.int .i64 err]) (he:err≠0) :
  CallsD Tryz.prog 175 #[Value.pointer (some ⟨b0,0,none⟩),Value.pointer (some ⟨b1,0,none⟩),Value.pointer (some ⟨b2,0,none⟩)] .returning w fun e u' w'=>u' = .returning∧e = .returned (.tuple #[])∧w'=((w.setCell ⟨br,2,none⟩ (Value.int .i64 start)).setCell ⟨br,1,none⟩ (Value.int .i64 start)).setCell ⟨b2,0,none⟩ (.int .u64 0):=by
 have c0:w.cell? ⟨b0,0,none⟩=some (Value.int .i64 start):=by rw [h0.cell]; rfl
 have c1:w.cell? ⟨b1,0,none⟩=some (Value.pointer (some ⟨br,0,none⟩)):=by rw [h1.cell]; rfl
 have cr1:w.cell? ⟨br,1,none⟩=some (Value.int .i64 off):=by rw [hr.cell]; rfl
 have c2:w.cell? ⟨br,2,none⟩=some (Value.int .i64 last):=by rw [hr.cell]; rfl
 have c3:w.cell? ⟨br,3,none⟩=some (Value.int .i64 err):=by rw [hr.cell]; rfl
 have c4:w.cell? ⟨b2,0,none⟩=some (.int .u64 v):=by rw [h2.cell]; rfl
 have z2:=hr.frozen 2
 have z1:=hr.frozen 1
 have z4:=h2.frozen 0
 have hne:b1≠br:=h1.ne hr (by decide)
 have hne2:b2≠br:=h2.ne hr (by decide)
 have hne0:b0≠br:=h0.ne hr (by decide)
 have heb:(err != 0)=true:=by simpa using he
 clear h0 h1 hr h2 he
 go_enter_d Tryz.func175,Tryz.ntmps175
 go_wp2_with fail
 go_end0
 exact ⟨rfl,rfl⟩
theorem number_some (br:Nat) (D:List UInt8) (off last:Nat) (w:World) (hr:ReaderAt X w br D off last 0) (ho:off≤D.length) (hD:D.length≤4294967296) (n m:Nat) (h:rdNum D off=some (n,m)) :
  Calls Tryz.prog 145 #[Value.pointer (some ⟨br,0,none⟩)] w fun e w'=>e = .returned (.tuple #[.int .u64 (n:Int),Value.int .i64 0])∧Fr [br] w w'∧ReaderAt X w' br D m last 0∧m≤D.length∧U64 n:=by
 refine (number_any br D off last w hr ho hD).mono ?_
 rintro e w' ⟨hf,off',h1,h2,h3⟩
 rw [h] at h3
 obtain ⟨rfl,rfl,hu⟩:=h3
 exact ⟨rfl,hf,h2,h1,hu⟩
theorem number_none (br:Nat) (D:List UInt8) (off last:Nat) (w:World) (hr:ReaderAt X w br D off last 0) (ho:off≤D.length) (hD:D.length≤4294967296) (h:rdNum D off=none) :
  Calls Tryz.prog 145 #[Value.pointer (some ⟨br,0,none⟩)] w fun e w'=>e = .returned (.tuple #[.int .u64 0,Value.int .i64 3])∧Fr [br] w w'∧∃ off',off'≤D.length∧ReaderAt X w' br D off' last 0:=by
 refine (number_any br D off last w hr ho hD).mono ?_
 rintro e w' ⟨hf,off',h1,h2,h3⟩
 rw [h] at h3
 exact ⟨h3,hf,off',h1,h2⟩
theorem ReaderAt.ne {w:World} {br b:Nat} {D:List UInt8} {off last:Nat} {err:Int} {t:TypeId} {l:List Value} (h:ReaderAt X w br D off last err) (ha:At w b t l) (hne:t≠187):b≠br:=by
 obtain ⟨A,c,hX,h1,_⟩:=h
 exact ha.ne h1 hne
theorem rv_cells {W w1:World} {br B b2:Nat} {D:List UInt8} {off last off' last':Nat} {err:Int} {t2:TypeId} {v2:Value} (h0:At W B 124 [Value.pointer (some ⟨br,0,none⟩)]) (h1:At W b2 t2 [v2]) (hr:ReaderAt X W br D off last 0) (hf:Fr [br] W.drew w1) (hr1:ReaderAt X w1 br D off' last' err) (ht:t2≠187:=by decide) :
  w1.cell? ⟨B,0,none⟩=some (Value.pointer (some ⟨br,0,none⟩))∧w1.cell? ⟨b2,0,none⟩=some v2∧w1.frozen? ⟨b2,0,none⟩=false∧w1.cell? ⟨br,3,none⟩=some (Value.int .i64 err)∧w1.frozen? ⟨br,3,none⟩=false:=by
 have n0:=hr.ne h0 (by decide)
 have n1:=hr.ne h1 ht
 have k0:At w1 B 124 [Value.pointer (some ⟨br,0,none⟩)]:=(At.drew h0).fr hf (by simpa using n0)
 have k1:At w1 b2 t2 [v2]:=(At.drew h1).fr hf (by simpa using n1)
 obtain ⟨A,c,hX,h3,_⟩:=hr1
 exact ⟨by rw [k0.cell]; rfl,by rw [k1.cell]; rfl,k1.frozen 0,by rw [h3.cell]; rfl,h3.frozen 3⟩
theorem rv_end {W w1:World} {br B b2 b3:Nat} {D:List UInt8} {off last off' last':Nat} {start:Int} {t2:TypeId} {v2:Value} (h0:At W B 124 [Value.pointer (some ⟨br,0,none⟩)]) (h1:At W b2 t2 [v2]) (h3:At W b3 3 [Value.int .i64 start]) (hr:ReaderAt X W br D off last 0) (hf:Fr [br] W.drew w1) (hr1:ReaderAt X w1 br D off' last' 0)
  (v er:Value) (hb:b2≠br∧b2≠B∧b2≠b3∧b3≠br) (ht8:t2≠5) :
  At (((w1.setCell ⟨b2,0,none⟩ v).setCell ⟨br,3,none⟩ er).setCell ⟨b2,0,none⟩ v) B 124 [Value.pointer (some ⟨br,0,none⟩)]∧At (((w1.setCell ⟨b2,0,none⟩ v).setCell ⟨br,3,none⟩ er).setCell ⟨b2,0,none⟩ v) b2 t2 [v]∧At (((w1.setCell ⟨b2,0,none⟩ v).setCell ⟨br,3,none⟩ er).setCell ⟨b2,0,none⟩ v) b3 3 [Value.int .i64 start] ∧
  (∃ A c,X=(A,c)∧At (((w1.setCell ⟨b2,0,none⟩ v).setCell ⟨br,3,none⟩ er).setCell ⟨b2,0,none⟩ v) br 187 [.slice A D.length c,Value.int .i64 (off':Int),Value.int .i64 (last':Int),er]∧(((w1.setCell ⟨b2,0,none⟩ v).setCell ⟨br,3,none⟩ er).setCell ⟨b2,0,none⟩ v).ownsRow 0 5 1 (.slice A D.length c) D.length (B8 D)) ∧
  Fr [br,b2] W (((w1.setCell ⟨b2,0,none⟩ v).setCell ⟨br,3,none⟩ er).setCell ⟨b2,0,none⟩ v):=by
 obtain ⟨hb1,hb2,hb3,hb4⟩:=hb
 have n0:=hr.ne h0 (by decide)
 have n1:b2≠br:=hb1
 have k0:At w1 B 124 [Value.pointer (some ⟨br,0,none⟩)]:=(At.drew h0).fr hf (by simpa using n0)
 have k1:At w1 b2 t2 [v2]:=(At.drew h1).fr hf (by simpa using n1)
 have k3:At w1 b3 3 [Value.int .i64 start]:=(At.drew h3).fr hf (by simpa using hb4)
 obtain ⟨A,c,hX,hra,hrow⟩:=hr1
 have f1:Fr [br,b2] W (((w1.setCell ⟨b2,0,none⟩ v).setCell ⟨br,3,none⟩ er).setCell ⟨b2,0,none⟩ v):=by
  have:Fr [br] W w1:=⟨hf.os,hf.tape,hf.output,hf.size,hf.block⟩
  exact (((this.mono (S':=[br,b2]) (by simp)).setCell (.inl (by simp)) _).setCell (.inl (by simp)) _).setCell (.inl (by simp)) _
 refine ⟨((k0.far (by simpa using hb2.symm) _).far (by simpa using n0) _).far (by simpa using hb2.symm) _,?_,((k3.far (by simpa using hb3.symm) _).far (by simpa using hb4) _).far (by simpa using hb3.symm) _,⟨A,c,hX,?_,?_⟩,f1⟩
 ·exact ((k1.set 0 v).far (by simpa using n1) _).set 0 v
 ·exact ((hra.far (by simpa using n1.symm) _).set 3 er).far (by simpa using n1.symm) _
 ·have f2:Fr [br,b2] w1 (((w1.setCell ⟨b2,0,none⟩ v).setCell ⟨br,3,none⟩ er).setCell ⟨b2,0,none⟩ v):=((((Fr.refl _ _).setCell (.inl (by simp)) _).setCell (.inl (by simp)) _).setCell (.inl (by simp)) _)
  refine ownsRow_fr hrow f2 ?_
  intro g hg hm
  simp only [List.mem_cons,List.not_mem_nil,or_false] at hm
  rcases hm with rfl | rfl
  ·exact own_ne hrow hra (by decide) hg
  ·exact own_ne hrow k1 (Ne.symm ht8) hg
theorem rv_done {W w5:World} {w:World} {br:Nat} {D:List UInt8} {off m last:Nat} {b2:Nat} {t2:TypeId} {v:Value} {A:Option Addr} {c:Nat} (hW:Fr [] w W) (hf:Fr [br,b2] W w5) (hb2:w.heap.size≤b2) (h2:At w5 b2 t2 [v]) (ht:t2≠187)
  (hr:At w5 br 187 [.slice A D.length c,Value.int .i64 (m:Int),Value.int .i64 (last:Int),Value.int .i64 0]) (hrow:w5.ownsRow 0 5 1 (.slice A D.length c) D.length (B8 D)) (hX:X=(A,c)) :
  (w5.setCell ⟨br,2,none⟩ (Value.int .i64 (off:Int))).cell? ⟨b2,0,none⟩=some v∧Fr [br] w (w5.setCell ⟨br,2,none⟩ (Value.int .i64 (off:Int)))∧ReaderAt X (w5.setCell ⟨br,2,none⟩ (Value.int .i64 (off:Int))) br D m off 0:=by
 have hne:=h2.ne hr ht
 refine ⟨by rw [(h2.far (by simpa using hne) _).cell]; rfl,?_,A,c,hX,hr.set 2 _,?_⟩
 ·refine ((hW.mono (S':=[br]) (by simp)).trans' hf ?_).setCell (.inl (by simp)) _
  intro x hx
  simp only [List.mem_cons,List.not_mem_nil,or_false] at hx
  rcases hx with rfl | rfl
  ·exact .inl (by simp)
  ·exact .inr hb2
 ·refine ownsRow_fr (S:=[br]) hrow ((Fr.refl _ _).setCell (.inl (by simp)) _) ?_
  intro g hg hm
  have:g=br:=by simpa using hm
  subst this
  exact own_ne hrow hr (by decide) hg
theorem rv_failed {W w5:World} {w:World} {br:Nat} {D:List UInt8} {off m last:Nat} {b2:Nat} {t2:TypeId} {v z:Value} {er:Int} {A:Option Addr} {c:Nat} (hW:Fr [] w W) (hf:Fr [br,b2] W w5) (hb2:w.heap.size≤b2) (h2:At w5 b2 t2 [v]) (ht:t2≠187) (ht8:t2≠5)
  (hr:At w5 br 187 [.slice A D.length c,Value.int .i64 (m:Int),Value.int .i64 (last:Int),Value.int .i64 er]) (hrow:w5.ownsRow 0 5 1 (.slice A D.length c) D.length (B8 D)) (hX:X=(A,c)) :
  (((w5.setCell ⟨br,2,none⟩ (Value.int .i64 (off:Int))).setCell ⟨br,1,none⟩ (Value.int .i64 (off:Int))).setCell ⟨b2,0,none⟩ z).cell? ⟨b2,0,none⟩=some z∧Fr [br] w (((w5.setCell ⟨br,2,none⟩ (Value.int .i64 (off:Int))).setCell ⟨br,1,none⟩ (Value.int .i64 (off:Int))).setCell ⟨b2,0,none⟩ z)∧ReaderAt X (((w5.setCell ⟨br,2,none⟩ (Value.int .i64 (off:Int))).setCell ⟨br,1,none⟩ (Value.int .i64 (off:Int))).setCell ⟨b2,0,none⟩ z) br D off off er:=by
 have hne:=h2.ne hr ht
 refine ⟨by rw [(((h2.far (by simpa using hne) _).far (by simpa using hne) _).set 0 z).cell]; rfl,?_,A,c,hX,(((hr.set 2 _).set 1 _).far (by simpa using hne.symm) _),?_⟩
 ·refine ((((hW.mono (S':=[br]) (by simp)).trans' hf ?_).setCell (.inl (by simp)) _).setCell (.inl (by simp)) _).setCell (.inr hb2) _
  intro x hx
  simp only [List.mem_cons,List.not_mem_nil,or_false] at hx
  rcases hx with rfl | rfl
  ·exact .inl (by simp)
  ·exact .inr hb2
 ·refine ownsRow_fr (S:=[br,b2]) hrow ((((Fr.refl _ _).setCell (.inl (by simp)) _).setCell (.inl (by simp)) _).setCell (.inl (by simp)) _) ?_
  intro g hg hm
  simp only [List.mem_cons,List.not_mem_nil,or_false] at hm
  rcases hm with rfl | rfl
  ·exact own_ne hrow hr (by decide) hg
  ·exact own_ne hrow h2 (Ne.symm ht8) hg
set_option maxHeartbeats 4000000 in
theorem readU64_ok (br:Nat) (r:Rd) (w:World) (hr:RdAt X w br r) (hk:r.Ok) (h0:r.err=0) :
  Calls Tryz.prog 144 #[Value.pointer (some ⟨br,0,none⟩),.func (.func 145) #[Value.pointer (some ⟨br,0,none⟩)] #[]] w fun e w'=>e = .returned (.int .u64 (r.uint.1:Int))∧Fr [br] w w'∧RdAt X w' br r.uint.2:=by
 obtain ⟨D,off,last,err⟩:=r
 simp only at h0
 subst h0
 obtain ⟨A,c,hX,ha,hrow⟩:=hr
 have c1:w.cell? ⟨br,1,none⟩=some (Value.int .i64 (off:Int)):=by rw [ha.cell]; rfl
 have c3:w.cell? ⟨br,3,none⟩=some (Value.int .i64 0):=by rw [ha.cell]; rfl
 have hlt:=ha.lt
 have HR:=Lib.hid (And.intro ha hrow)
 have HK:=Lib.hid hk
 clear ha hrow hk
 have hmf:∀ (fn:Fn) (first cap:Array Value) (w:World),(Instr.makeFunc fn first cap).run Tryz.prog w = .ok (.func fn first cap) w:=fun _ _ _ _=>rfl
 go_enter_defers Tryz.func144,Tryz.ntmps144
 go_wp2_with fail
 obtain ⟨W,hW⟩:∃ W,W=((w.alloc (Obj.cells #[Value.pointer (some ⟨br,0,none⟩)] 124)).alloc (Obj.cells #[Value.int IntKind.u64 0] 80)).alloc (Obj.cells #[Value.int .i64 (off:Int)] 3):=⟨_,rfl⟩
 rw [← hW]
 have HW:Hid (At W w.heap.size 124 [Value.pointer (some ⟨br,0,none⟩)]∧At W (w.heap.size+1) 80 [.int .u64 0]∧At W (w.heap.size+1+1) 3 [Value.int .i64 (off:Int)]∧Fr [] w W∧ReaderAt X W br D off last 0):=by
  rw [hW]
  refine ⟨((At.new w 124 [Value.pointer (some ⟨br,0,none⟩)]).alloc _).alloc _,?_,?_,(((Fr.refl _ _).alloc _).alloc _).alloc _,A,c,hX,((HR.out.1.alloc _).alloc _).alloc _,((HR.out.2.alloc _).alloc _).alloc _⟩
  ·have:=(At.new (w.alloc (Obj.cells #[Value.pointer (some ⟨br,0,none⟩)] 124)) 80 [.int .u64 0]).alloc (Obj.cells #[Value.int .i64 (off:Int)] 3)
   simpa using this
  ·have:=At.new ((w.alloc (Obj.cells #[Value.pointer (some ⟨br,0,none⟩)] 124)).alloc (Obj.cells #[Value.int IntKind.u64 0] 80)) 3 [Value.int .i64 (off:Int)]
   simpa using this
 clear hW c1 c3
 have d0:W.cell? ⟨w.heap.size,0,none⟩=some (Value.pointer (some ⟨br,0,none⟩)):=by rw [HW.out.1.cell]; rfl
 have nb1:w.heap.size≠br:=by omega
 have nb2:br≠w.heap.size:=by omega
 cases hrd:rdNum D off with
 | some p =>
   obtain ⟨n,m⟩:=p
   have HD:=Lib.hid hrd
   clear hrd
   go_region_held3 (fun w'=>w'.cell? ⟨w.heap.size,0,none⟩=some (Value.pointer (some ⟨br,0,none⟩))) (go_keep) (first | (go_at_call 145; refine (number_some br D off last _ (by exact HW.out.2.2.2.2) HK.out.off HK.out.len n m HD.out).mono ?_; rintro e w1 ⟨rfl,hf1,hr1,hm1,hu1⟩; obtain ⟨e0,e1,z1,e3,z3⟩:=rv_cells (W:=W) HW.out.1 HW.out.2.1 HW.out.2.2.2.2 hf1 hr1; have H1:=Lib.hid (And.intro hf1 (And.intro hr1 (And.intro hm1 hu1))); clear hf1 hr1 hm1 hu1))
   go_wp2_with fail
   obtain ⟨k0,k1,k2,k3,kf⟩:=rv_end HW.out.1 HW.out.2.1 HW.out.2.2.1 HW.out.2.2.2.2 H1.out.1 H1.out.2.1 (.int .u64 (n:Int)) (Value.int .i64 0) (by omega) (by decide)
   refine leaves_cons (f:=175) (args:=#[Value.pointer (some ⟨w.heap.size+1+1,0,none⟩),Value.pointer (some ⟨w.heap.size,0,none⟩),Value.pointer (some ⟨w.heap.size+1,0,none⟩)]) (by simp) (by simp [go_sem]) ?_
   obtain ⟨A',c',hX',k3'⟩:=k3
   refine (rvClose_ok _ _ _ br A' _ c' _ _ _ _ k2 k0 k3'.1).mono ?_
   rintro e u' w'' ⟨rfl,rfl,rfl⟩
   obtain ⟨g1,g2,g3⟩:=rv_done (off:=off) HW.out.2.2.2.1 kf (by omega) k1 (by decide) k3'.1 k3'.2 hX'
   refine ⟨.int .u64 (n:Int),by simp [results,Tryz.results144,go_sem,g1],?_,g2,?_⟩
   ·simp only [Rd.uint,if_true,HD.out]
   ·simp only [Rd.uint,if_true,HD.out]
    exact g3
 | none =>
   have HD:=Lib.hid hrd
   clear hrd
   go_region_held3 (fun w'=>w'.cell? ⟨w.heap.size,0,none⟩=some (Value.pointer (some ⟨br,0,none⟩))) (go_keep) (first | (go_at_call 145; refine (number_none br D off last _ (by exact HW.out.2.2.2.2) HK.out.off HK.out.len HD.out).mono ?_; rintro e w1 ⟨rfl,hf1,off',hm1,hr1⟩; obtain ⟨e0,e1,z1,e3,z3⟩:=rv_cells (W:=W) HW.out.1 HW.out.2.1 HW.out.2.2.2.2 hf1 hr1; have H1:=Lib.hid (And.intro hf1 (And.intro hr1 hm1)); clear hf1 hr1 hm1))
   go_wp2_with fail
   obtain ⟨k0,k1,k2,k3,kf⟩:=rv_end HW.out.1 HW.out.2.1 HW.out.2.2.1 HW.out.2.2.2.2 H1.out.1 H1.out.2.1 (.int .u64 0) (Value.int .i64 3) (by omega) (by decide)
   refine leaves_cons (f:=175) (args:=#[Value.pointer (some ⟨w.heap.size+1+1,0,none⟩),Value.pointer (some ⟨w.heap.size,0,none⟩),Value.pointer (some ⟨w.heap.size+1,0,none⟩)]) (by simp) (by simp [go_sem]) ?_
   obtain ⟨A',c',hX',k3'⟩:=k3
   refine (rvClose_err _ _ _ br A' _ c' _ _ _ 3 0 _ k2 k0 k1 k3'.1 (by decide)).mono ?_
   rintro e u' w'' ⟨rfl,rfl,rfl⟩
   obtain ⟨g1,g2,g3⟩:=rv_failed (off:=off) (z:=.int .u64 0) HW.out.2.2.2.1 kf (by omega) k1 (by decide) (by decide) k3'.1 k3'.2 hX'
   refine ⟨.int .u64 0,by simp [results,Tryz.results144,go_sem,g1],?_,g2,?_⟩
   ·simp only [Rd.uint,if_true,HD.out]
    rfl
   ·simp only [Rd.uint,if_true,HD.out]
    exact g3
theorem readU64_err (br:Nat) (r:Rd) (fv:Value) (w:World) (hr:RdAt X w br r) (h0:r.err≠0) :
  Calls Tryz.prog 144 #[Value.pointer (some ⟨br,0,none⟩),fv] w fun e w'=>e = .returned (.int .u64 0)∧Fr [] w w'∧RdAt X w' br r:=by
 have hr0:=hr
 obtain ⟨A,c,hX,ha,hrow⟩:=hr
 have c3:w.cell? ⟨br,3,none⟩=some (Value.int .i64 r.err):=by rw [ha.cell]; rfl
 have hb:(r.err != 0)=true:=by simpa using h0
 have hlt:=ha.lt
 have HR:=Lib.hid hr0
 clear ha hrow hr0 h0
 go_enter_defers Tryz.func144,Tryz.ntmps144
 go_wp2_with fail
 have hf:Fr [] w ((w.alloc (Obj.cells #[Value.pointer (some ⟨br,0,none⟩)] 124)).alloc (Obj.cells #[Value.int IntKind.u64 0] 80)):=((Fr.refl _ _).alloc _).alloc _
 exact ⟨.int .u64 0,by simp [results,Tryz.results144,go_sem],rfl,hf,ReaderAt.fr HR.out hf⟩
end
section
variable {X : Option Addr × Nat}
theorem rvClose_ok_Cnt (b0 b1 b2 br:Nat) (A:Option Addr) (n c:Nat) (off last start:Int) (w:World) (h0:At w b0 3 [Value.int .i64 start]) (h1:At w b1 124 [Value.pointer (some ⟨br,0,none⟩)]) (hr:At w br 187 [.slice A n c,Value.int .i64 off,Value.int .i64 last,Value.int .i64 0]) :
  CallsD Tryz.prog 221 #[Value.pointer (some ⟨b0,0,none⟩),Value.pointer (some ⟨b1,0,none⟩),Value.pointer (some ⟨b2,0,none⟩)] .returning w fun e u' w'=>u' = .returning∧e = .returned (.tuple #[])∧w'=w.setCell ⟨br,2,none⟩ (Value.int .i64 start):=by
 have c0:w.cell? ⟨b0,0,none⟩=some (Value.int .i64 start):=by rw [h0.cell]; rfl
 have c1:w.cell? ⟨b1,0,none⟩=some (Value.pointer (some ⟨br,0,none⟩)):=by rw [h1.cell]; rfl
 have c2:w.cell? ⟨br,2,none⟩=some (Value.int .i64 last):=by rw [hr.cell]; rfl
 have c3:w.cell? ⟨br,3,none⟩=some (Value.int .i64 0):=by rw [hr.cell]; rfl
 have z2:=hr.frozen 2
 have hne:b1≠br:=h1.ne hr (by decide)
 clear h0 h1 hr
 go_enter_d Tryz.func221,Tryz.ntmps221
 go_wp2_with fail
 go_end0
 exact ⟨rfl,rfl⟩
theorem rvClose_err_Cnt (b0 b1 b2 br:Nat) (A:Option Addr) (n c:Nat) (off last start err:Int) (v:Value) (w:World) (h0:At w b0 3 [Value.int .i64 start]) (h1:At w b1 124 [Value.pointer (some ⟨br,0,none⟩)]) (h2:At w b2 3 [v]) (hr:At w br 187 [.slice A n c,Value.int .i64 off,Value.int .i64 last,Value.int .i64 err]) (he:err≠0) (hb:b2≠b0∧b2≠br) :
  CallsD Tryz.prog 221 #[Value.pointer (some ⟨b0,0,none⟩),Value.pointer (some ⟨b1,0,none⟩),Value.pointer (some ⟨b2,0,none⟩)] .returning w fun e u' w'=>u' = .returning∧e = .returned (.tuple #[])∧w'=((w.setCell ⟨br,2,none⟩ (Value.int .i64 start)).setCell ⟨br,1,none⟩ (Value.int .i64 start)).setCell ⟨b2,0,none⟩ (Value.int .i64 0):=by
 have c0:w.cell? ⟨b0,0,none⟩=some (Value.int .i64 start):=by rw [h0.cell]; rfl
 have c1:w.cell? ⟨b1,0,none⟩=some (Value.pointer (some ⟨br,0,none⟩)):=by rw [h1.cell]; rfl
 have cr1:w.cell? ⟨br,1,none⟩=some (Value.int .i64 off):=by rw [hr.cell]; rfl
 have c2:w.cell? ⟨br,2,none⟩=some (Value.int .i64 last):=by rw [hr.cell]; rfl
 have c3:w.cell? ⟨br,3,none⟩=some (Value.int .i64 err):=by rw [hr.cell]; rfl
 have c4:w.cell? ⟨b2,0,none⟩=some v:=by rw [h2.cell]; rfl
 have z2:=hr.frozen 2
 have z1:=hr.frozen 1
 have z4:=h2.frozen 0
 have hne:b1≠br:=h1.ne hr (by decide)
 have hne2:b2≠br:=hb.2
 have hne0:b0≠br:=h0.ne hr (by decide)
 have heb:(err != 0)=true:=by simpa using he
 clear h0 h1 hr h2 he hb
 go_enter_d Tryz.func221,Tryz.ntmps221
 go_wp2_with fail
 go_end0
 exact ⟨rfl,rfl⟩
set_option maxHeartbeats 4000000 in
theorem readCnt_some (br:Nat) (D:List UInt8) (off last m:Nat) (x:Int) (bx by_:Nat) (w:World) (hr:ReaderAt X w br D off last 0)
  (hdec:∀ W,Fr [] w W→ReaderAt X W br D off last 0→Calls Tryz.prog 206 #[Value.pointer (some ⟨bx,0,none⟩),Value.pointer (some ⟨by_,0,none⟩)] W fun e w'=>e = .returned (.tuple #[Value.int .i64 x,Value.int .i64 0])∧Fr [br] W w'∧ReaderAt X w' br D m last 0) :
  Calls Tryz.prog 205 #[Value.pointer (some ⟨br,0,none⟩),.func (.func 206) #[] #[Value.pointer (some ⟨bx,0,none⟩),Value.pointer (some ⟨by_,0,none⟩)]] w fun e w'=>e = .returned (Value.int .i64 x)∧Fr [br] w w'∧ReaderAt X w' br D m off 0:=by
 obtain ⟨A,c,hX,ha,hrow⟩:=hr
 have c1:w.cell? ⟨br,1,none⟩=some (Value.int .i64 (off:Int)):=by rw [ha.cell]; rfl
 have c3:w.cell? ⟨br,3,none⟩=some (Value.int .i64 0):=by rw [ha.cell]; rfl
 have hlt:=ha.lt
 have HR:=Lib.hid (And.intro ha hrow)
 have HD:=Lib.hid hdec
 clear ha hrow hdec
 have hmf:∀ (fn:Fn) (first cap:Array Value) (w:World),(Instr.makeFunc fn first cap).run Tryz.prog w = .ok (.func fn first cap) w:=fun _ _ _ _=>rfl
 go_enter_defers Tryz.func205,Tryz.ntmps205
 go_wp2_with fail
 obtain ⟨W,hW⟩:∃ W,W=((w.alloc (Obj.cells #[Value.pointer (some ⟨br,0,none⟩)] 124)).alloc (Obj.cells #[Value.int .i64 0] 3)).alloc (Obj.cells #[Value.int .i64 (off:Int)] 3):=⟨_,rfl⟩
 rw [← hW]
 have HW:Hid (At W w.heap.size 124 [Value.pointer (some ⟨br,0,none⟩)]∧At W (w.heap.size+1) 3 [Value.int .i64 0]∧At W (w.heap.size+1+1) 3 [Value.int .i64 (off:Int)]∧Fr [] w W∧ReaderAt X W br D off last 0):=by
  rw [hW]
  refine ⟨((At.new w 124 [Value.pointer (some ⟨br,0,none⟩)]).alloc _).alloc _,?_,?_,(((Fr.refl _ _).alloc _).alloc _).alloc _,A,c,hX,((HR.out.1.alloc _).alloc _).alloc _,((HR.out.2.alloc _).alloc _).alloc _⟩
  ·have:=(At.new (w.alloc (Obj.cells #[Value.pointer (some ⟨br,0,none⟩)] 124)) 3 [Value.int .i64 0]).alloc (Obj.cells #[Value.int .i64 (off:Int)] 3)
   simpa using this
  ·have:=At.new ((w.alloc (Obj.cells #[Value.pointer (some ⟨br,0,none⟩)] 124)).alloc (Obj.cells #[Value.int .i64 0] 3)) 3 [Value.int .i64 (off:Int)]
   simpa using this
 clear hW c1 c3
 have d0:W.cell? ⟨w.heap.size,0,none⟩=some (Value.pointer (some ⟨br,0,none⟩)):=by rw [HW.out.1.cell]; rfl
 have nb1:w.heap.size≠br:=by omega
 have nb2:br≠w.heap.size:=by omega
 go_region_held3 (fun w'=>w'.cell? ⟨w.heap.size,0,none⟩=some (Value.pointer (some ⟨br,0,none⟩))) (go_keep) (first | (go_at_call 206; refine (HD.out W.drew (by exact HW.out.2.2.2.1.drew) (by exact HW.out.2.2.2.2)).mono ?_; rintro e w1 ⟨rfl,hf1,hr1⟩; obtain ⟨e0,e1,z1,e3,z3⟩:=rv_cells (W:=W) HW.out.1 HW.out.2.1 HW.out.2.2.2.2 hf1 hr1; have H1:=Lib.hid (And.intro hf1 hr1); clear hf1 hr1))
 go_wp2_with fail
 obtain ⟨k0,k1,k2,k3,kf⟩:=rv_end HW.out.1 HW.out.2.1 HW.out.2.2.1 HW.out.2.2.2.2 H1.out.1 H1.out.2 (Value.int .i64 x) (Value.int .i64 0) (by omega) (by decide)
 refine leaves_cons (f:=221) (args:=#[Value.pointer (some ⟨w.heap.size+1+1,0,none⟩),Value.pointer (some ⟨w.heap.size,0,none⟩),Value.pointer (some ⟨w.heap.size+1,0,none⟩)]) (by simp) (by simp [go_sem]) ?_
 obtain ⟨A',c',hX',k3'⟩:=k3
 refine (rvClose_ok_Cnt _ _ _ br A' _ c' _ _ _ _ k2 k0 k3'.1).mono ?_
 rintro e u' w'' ⟨rfl,rfl,rfl⟩
 obtain ⟨g1,g2,g3⟩:=rv_done (off:=off) HW.out.2.2.2.1 kf (by omega) k1 (by decide) k3'.1 k3'.2 hX'
 exact ⟨Value.int .i64 x,by simp [results,Tryz.results205,go_sem,g1],rfl,g2,g3⟩
set_option maxHeartbeats 4000000 in
theorem readCnt_none (br:Nat) (D:List UInt8) (off last:Nat) (er x:Int) (bx by_:Nat) (w:World) (hr:ReaderAt X w br D off last 0) (he:er≠0)
  (hdec:∀ W,Fr [] w W→ReaderAt X W br D off last 0→Calls Tryz.prog 206 #[Value.pointer (some ⟨bx,0,none⟩),Value.pointer (some ⟨by_,0,none⟩)] W fun e w'=>e = .returned (.tuple #[Value.int .i64 x,Value.int .i64 er])∧Fr [br] W w'∧∃ off':Nat,ReaderAt X w' br D off' last 0) :
  Calls Tryz.prog 205 #[Value.pointer (some ⟨br,0,none⟩),.func (.func 206) #[] #[Value.pointer (some ⟨bx,0,none⟩),Value.pointer (some ⟨by_,0,none⟩)]] w fun e w'=>e = .returned (Value.int .i64 0)∧Fr [br] w w'∧ReaderAt X w' br D off off er:=by
 have HE:=Lib.hid he
 clear he
 obtain ⟨A,c,hX,ha,hrow⟩:=hr
 have c1:w.cell? ⟨br,1,none⟩=some (Value.int .i64 (off:Int)):=by rw [ha.cell]; rfl
 have c3:w.cell? ⟨br,3,none⟩=some (Value.int .i64 0):=by rw [ha.cell]; rfl
 have hlt:=ha.lt
 have HR:=Lib.hid (And.intro ha hrow)
 have HD:=Lib.hid hdec
 clear ha hrow hdec
 have hmf:∀ (fn:Fn) (first cap:Array Value) (w:World),(Instr.makeFunc fn first cap).run Tryz.prog w = .ok (.func fn first cap) w:=fun _ _ _ _=>rfl
 go_enter_defers Tryz.func205,Tryz.ntmps205
 go_wp2_with fail
 obtain ⟨W,hW⟩:∃ W,W=((w.alloc (Obj.cells #[Value.pointer (some ⟨br,0,none⟩)] 124)).alloc (Obj.cells #[Value.int .i64 0] 3)).alloc (Obj.cells #[Value.int .i64 (off:Int)] 3):=⟨_,rfl⟩
 rw [← hW]
 have HW:Hid (At W w.heap.size 124 [Value.pointer (some ⟨br,0,none⟩)]∧At W (w.heap.size+1) 3 [Value.int .i64 0]∧At W (w.heap.size+1+1) 3 [Value.int .i64 (off:Int)]∧Fr [] w W∧ReaderAt X W br D off last 0):=by
  rw [hW]
  refine ⟨((At.new w 124 [Value.pointer (some ⟨br,0,none⟩)]).alloc _).alloc _,?_,?_,(((Fr.refl _ _).alloc _).alloc _).alloc _,A,c,hX,((HR.out.1.alloc _).alloc _).alloc _,((HR.out.2.alloc _).alloc _).alloc _⟩
  ·have:=(At.new (w.alloc (Obj.cells #[Value.pointer (some ⟨br,0,none⟩)] 124)) 3 [Value.int .i64 0]).alloc (Obj.cells #[Value.int .i64 (off:Int)] 3)
   simpa using this
  ·have:=At.new ((w.alloc (Obj.cells #[Value.pointer (some ⟨br,0,none⟩)] 124)).alloc (Obj.cells #[Value.int .i64 0] 3)) 3 [Value.int .i64 (off:Int)]
   simpa using this
 clear hW c1 c3
 have d0:W.cell? ⟨w.heap.size,0,none⟩=some (Value.pointer (some ⟨br,0,none⟩)):=by rw [HW.out.1.cell]; rfl
 have nb1:w.heap.size≠br:=by omega
 have nb2:br≠w.heap.size:=by omega
 go_region_held3 (fun w'=>w'.cell? ⟨w.heap.size,0,none⟩=some (Value.pointer (some ⟨br,0,none⟩))) (go_keep) (first | (go_at_call 206; refine (HD.out W.drew (by exact HW.out.2.2.2.1.drew) (by exact HW.out.2.2.2.2)).mono ?_; rintro e w1 ⟨rfl,hf1,off',hr1⟩; obtain ⟨e0,e1,z1,e3,z3⟩:=rv_cells (W:=W) HW.out.1 HW.out.2.1 HW.out.2.2.2.2 hf1 hr1; have H1:=Lib.hid (And.intro hf1 hr1); clear hf1 hr1))
 go_wp2_with fail
 obtain ⟨k0,k1,k2,k3,kf⟩:=rv_end HW.out.1 HW.out.2.1 HW.out.2.2.1 HW.out.2.2.2.2 H1.out.1 H1.out.2 (Value.int .i64 x) (Value.int .i64 er) (by omega) (by decide)
 refine leaves_cons (f:=221) (args:=#[Value.pointer (some ⟨w.heap.size+1+1,0,none⟩),Value.pointer (some ⟨w.heap.size,0,none⟩),Value.pointer (some ⟨w.heap.size+1,0,none⟩)]) (by simp) (by simp [go_sem]) ?_
 obtain ⟨A',c',hX',k3'⟩:=k3
 refine (rvClose_err_Cnt _ _ _ br A' _ c' _ _ _ er (Value.int .i64 x) _ k2 k0 k1 k3'.1 HE.out (by omega)).mono ?_
 rintro e u' w'' ⟨rfl,rfl,rfl⟩
 obtain ⟨g1,g2,g3⟩:=rv_failed (off:=off) (z:=Value.int .i64 0) HW.out.2.2.2.1 kf (by omega) k1 (by decide) (by decide) k3'.1 k3'.2 hX'
 exact ⟨Value.int .i64 0,by simp [results,Tryz.results205,go_sem,g1],rfl,g2,g3⟩
theorem readCnt_err (br:Nat) (r:Rd) (fv:Value) (w:World) (hr:RdAt X w br r) (h0:r.err≠0) :
  Calls Tryz.prog 205 #[Value.pointer (some ⟨br,0,none⟩),fv] w fun e w'=>e = .returned (Value.int .i64 0)∧Fr [] w w'∧RdAt X w' br r:=by
 have hr0:=hr
 obtain ⟨A,c,hX,ha,hrow⟩:=hr
 have c3:w.cell? ⟨br,3,none⟩=some (Value.int .i64 r.err):=by rw [ha.cell]; rfl
 have hb:(r.err != 0)=true:=by simpa using h0
 have hlt:=ha.lt
 have HR:=Lib.hid hr0
 clear ha hrow hr0 h0
 go_enter_defers Tryz.func205,Tryz.ntmps205
 go_wp2_with fail
 have hf:Fr [] w ((w.alloc (Obj.cells #[Value.pointer (some ⟨br,0,none⟩)] 124)).alloc (Obj.cells #[Value.int .i64 0] 3)):=((Fr.refl _ _).alloc _).alloc _
 exact ⟨Value.int .i64 0,by simp [results,Tryz.results205,go_sem],rfl,hf,ReaderAt.fr HR.out hf⟩
variable {X : Option Addr × Nat}
theorem Rd.Ok.uint {r:Rd} (h:r.Ok) (hn:∀ n m,rdNum r.D r.off=some (n,m)→m≤r.D.length):r.uint.2.Ok:=by
 unfold Rd.uint
 split
 ·cases hd:rdNum r.D r.off with
  | none=>exact ⟨h.off,h.len⟩
  | some p=>exact ⟨hn p.1 p.2 hd,h.len⟩
 ·exact h
theorem rdNum_le (D:List UInt8) (off n m:Nat) (h:rdNum D off=some (n,m)):off < m∧m≤D.length∧U64 n:=by
 unfold rdNum at h
 split at h
 ·cases h
 ·rename_i b hb
  split at h
  ·rename_i hc
   simp only [Option.some.injEq,Prod.mk.injEq] at h
   obtain ⟨rfl,rfl⟩:=h
   have hl:=(List.getElem?_eq_some_iff.1 hb).1
   rw [List.length_drop] at hl
   refine ⟨by omega,by omega,?_⟩
   unfold U64
   rw [accN_succ _ _ b hb]
   have h1:=accN_lt (ahead (D.drop off)) (D.drop off)
   by_cases h9:ahead (D.drop off)=9
   ·have hb1:b.toNat≤1:=by omega
    rw [h9] at h1 ⊢
    have h2:b.toNat % 128≤1:=by omega
    have h3:b.toNat % 128*128 ^ 9≤1*128 ^ 9:=Nat.mul_le_mul_right _ h2
    have h4:128 ^ 9+1*128 ^ 9≤18446744073709551616:=by decide
    omega
   ·have h2:b.toNat % 128≤127:=by omega
    have h3:b.toNat % 128*128 ^ (ahead (D.drop off))≤127*128 ^ (ahead (D.drop off)):=Nat.mul_le_mul_right _ h2
    have h4:128 ^ (ahead (D.drop off))≤128 ^ 8:=Nat.pow_le_pow_right (by omega) (by omega)
    have h5:128*128 ^ 8 < 18446744073709551616:=by decide
    omega
  ·cases h
theorem rUint (br:Nat) (r:Rd) (w:World) (hr:RdAt X w br r) (hk:r.Ok) :
  Calls Tryz.prog 102 #[Value.pointer (some ⟨br,0,none⟩)] w fun e w'=>e = .returned (.int .u64 (r.uint.1:Int))∧Fr [br] w w'∧RdAt X w' br r.uint.2:=by
 have hmf:∀ (fn:Fn) (first cap:Array Value) (w:World),(Instr.makeFunc fn first cap).run Tryz.prog w = .ok (.func fn first cap) w:=fun _ _ _ _=>rfl
 have H:=Lib.hid (And.intro hr hk)
 clear hr hk
 by_cases h0:r.err=0
 ·have H0:=Lib.hid h0
  clear h0
  go_enter Tryz.func102,Tryz.ntmps102
  go_wp2_with fail
  refine (readU64_ok br r _ H.out.1 H.out.2 H0.out).mono ?_
  rintro e w1 ⟨rfl,hf,hr1⟩
  have H1:=Lib.hid (And.intro hf hr1)
  clear hf hr1
  go_wp2_with fail
  go_ret
  exact ⟨rfl,H1.out⟩
 ·have H0:=Lib.hid h0
  clear h0
  go_enter Tryz.func102,Tryz.ntmps102
  go_wp2_with fail
  refine (readU64_err br r _ _ H.out.1 H0.out).mono ?_
  rintro e w1 ⟨rfl,hf,hr1⟩
  have H1:=Lib.hid (And.intro (hf.mono (S':=[br]) (by simp)) hr1)
  clear hf hr1
  have e:r.uint=(0,r):=by unfold Rd.uint; rw [if_neg H0.out]
  have HE:=Lib.hid e
  clear e
  go_wp2_with fail
  go_ret
  rw [HE.out]
  exact ⟨rfl,H1.out⟩
theorem unzig_fit (n:Nat) (h:U64 n):Fit64 (unzig n):=by
 unfold U64 at h
 unfold unzig Fit64
 split <;> omega
theorem unzig_zig (n:Int):unzig (zig n)=n:=by
 unfold unzig zig
 by_cases h:n < 0
 ·simp only [h,if_true]
  rw [if_pos (by omega)]
  omega
 ·simp only [h,if_false]
  rw [if_neg (by omega)]
  omega
theorem unzigzag_any (n:Nat) (w:World) (h:U64 n):Calls Tryz.prog 162 #[.int .u64 (n:Int)] w fun e w'=>e = .returned (Value.int .i64 (unzig n))∧w=w':=by
 have hI:(n:Int)≤18446744073709551615:=by unfold U64 at h; omega
 have hI0:(0:Int)≤(n:Int):=by omega
 clear h
 by_cases h1:n % 2=1
 ·have hb:((n:Int) % 2 == 1)=true:=by simp; omega
  go_enter Tryz.func162,Tryz.ntmps162
  go_wp2_with fail
  go_ret
  refine ⟨ret_int ?_,rfl⟩
  unfold unzig
  rw [if_pos h1]
  omega
 ·have hb:((n:Int) % 2 == 1)=false:=by simp; omega
  go_enter Tryz.func162,Tryz.ntmps162
  go_wp2_with fail
  go_ret
  refine ⟨ret_int ?_,rfl⟩
  unfold unzig
  rw [if_neg h1]
  omega
def Rd.int (r : Rd) : Int × Rd := (unzig r.uint.1, r.uint.2)
theorem Rd.uint_u64 (r:Rd):U64 r.uint.1:=by
 unfold Rd.uint
 split
 ·cases hd:rdNum r.D r.off with
  | none=>show 0 < 18446744073709551616; decide
  | some p=>exact (rdNum_le _ _ p.1 p.2 hd).2.2
 ·show 0 < 18446744073709551616; decide
theorem rInt (br:Nat) (r:Rd) (w:World) (hr:RdAt X w br r) (hk:r.Ok) :
  Calls Tryz.prog 121 #[Value.pointer (some ⟨br,0,none⟩)] w fun e w'=>e = .returned (Value.int .i64 r.int.1)∧Fr [br] w w'∧RdAt X w' br r.int.2:=by
 have H:=Lib.hid (And.intro hr hk)
 clear hr hk
 go_enter Tryz.func121,Tryz.ntmps121
 go_wp2_with fail
 refine (rUint br r _ H.out.1 H.out.2).mono ?_
 rintro e w1 ⟨rfl,hf,hr1⟩
 have H1:=Lib.hid (And.intro hf hr1)
 clear hf hr1
 go_wp2_with fail
 refine (unzigzag_any _ _ r.uint_u64).mono ?_
 rintro e w' ⟨rfl,rfl⟩
 go_wp2_with fail
 go_ret
 exact ⟨rfl,H1.out⟩
variable {X : Option Addr × Nat}
def LimRes (X : Option Addr × Nat) (br : Nat) (D : List UInt8) (off last : Nat) (most : Int) (w : World) (e : Ending) (w' : World) : Prop :=
 Fr [br] w w' ∧ match rdNum D off with
  | none => e = .returned (.tuple #[Value.int .i64 0, Value.int .i64 3]) ∧ ∃ off' : Nat, ReaderAt X w' br D off' last 0
  | some (n, m) => if max most 0 < (n : Int) then e = .returned (.tuple #[Value.int .i64 0, Value.int .i64 2]) ∧ ∃ off' : Nat, ReaderAt X w' br D off' last 0 else e = .returned (.tuple #[Value.int .i64 (n : Int), Value.int .i64 0]) ∧ ReaderAt X w' br D m last 0
theorem limited_any (br:Nat) (D:List UInt8) (off last:Nat) (most:Int) (w:World) (hr:ReaderAt X w br D off last 0) (ho:off≤D.length) (hD:D.length≤4294967296) (hm:Fit64 most) :
  Calls Tryz.prog 167 #[Value.pointer (some ⟨br,0,none⟩),Value.int .i64 most] w (LimRes X br D off last most w):=by
 have H:=Lib.hid (And.intro hr (And.intro ho hD))
 have hm0:=hm.1
 have hm1:=hm.2
 clear hr ho hD hm
 cases hb:rdNum D off with
 | none =>
   have HB:=Lib.hid hb
   clear hb
   go_enter Tryz.func167,Tryz.ntmps167
   go_wp2_with fail
   refine (number_none br D off last _ H.out.1 H.out.2.1 H.out.2.2 HB.out).mono ?_
   rintro e w1 ⟨rfl,hf,off',ho',hr1⟩
   have H1:=Lib.hid (And.intro hf hr1)
   clear hf hr1 ho'
   go_wp2_with fail
   go_ret2
   unfold LimRes
   rw [HB.out]
   exact ⟨H1.out.1,rfl,off',H1.out.2⟩
 | some p =>
   obtain ⟨n,m⟩:=p
   have hu:=(rdNum_le _ _ _ _ hb).2.2
   have hI:(n:Int)≤18446744073709551615:=by unfold U64 at hu; omega
   have HB:=Lib.hid hb
   clear hb hu
   by_cases hg:max most 0 < (n:Int)
   ·have HG:=Lib.hid hg
    go_enter Tryz.func167,Tryz.ntmps167
    go_wp2_with fail
    refine (number_some br D off last _ H.out.1 H.out.2.1 H.out.2.2 n m HB.out).mono ?_
    rintro e w1 ⟨rfl,hf,hr1,_,_⟩
    have H1:=Lib.hid (And.intro hf hr1)
    clear hf hr1
    go_wp2_with fail
    all_goals
     go_ret2
     unfold LimRes
     rw [HB.out]
     simp only
     rw [if_pos HG.out]
     exact ⟨H1.out.1,rfl,m,H1.out.2⟩
   ·have HG:=Lib.hid hg
    have hg':(n:Int)≤max most 0:=by omega
    have hn2:(n:Int)≤9223372036854775807:=by omega
    clear hg
    go_enter Tryz.func167,Tryz.ntmps167
    go_wp2_with fail
    refine (number_some br D off last _ H.out.1 H.out.2.1 H.out.2.2 n m HB.out).mono ?_
    rintro e w1 ⟨rfl,hf,hr1,_,_⟩
    have H1:=Lib.hid (And.intro hf hr1)
    clear hf hr1
    go_wp2_with fail
    all_goals
     go_ret2
     unfold LimRes
     rw [HB.out]
     simp only
     rw [if_neg (by have:=HG.out; omega)]
     exact ⟨H1.out.1,rfl,H1.out.2⟩
theorem countc_any (bx by_ br:Nat) (D:List UInt8) (off last:Nat) (most:Int) (w:World) (hx:At w bx 124 [Value.pointer (some ⟨br,0,none⟩)]) (hy:At w by_ 3 [Value.int .i64 most]) (hr:ReaderAt X w br D off last 0) (ho:off≤D.length) (hD:D.length≤4294967296) (hm:Fit64 most) :
  Calls Tryz.prog 206 #[Value.pointer (some ⟨bx,0,none⟩),Value.pointer (some ⟨by_,0,none⟩)] w (LimRes X br D off last most w):=by
 have x0:w.cell? ⟨bx,0,none⟩=some (Value.pointer (some ⟨br,0,none⟩)):=by rw [hx.cell]; rfl
 have y0:w.cell? ⟨by_,0,none⟩=some (Value.int .i64 most):=by rw [hy.cell]; rfl
 have H:=Lib.hid (limited_any br D off last most w hr ho hD hm)
 clear hr ho hD hm hx hy
 go_enter Tryz.func206,Tryz.ntmps206
 go_wp2_with fail
 refine H.out.mono ?_
 intro e w1 h
 have HH:=Lib.hid h
 unfold LimRes at h
 obtain ⟨hf,h⟩:=h
 split at h
 ·obtain ⟨rfl,_⟩:=h
  clear hf
  go_wp2_with fail
  go_ret2
  exact HH.out
 ·split at h
  ·obtain ⟨rfl,_⟩:=h
   clear hf
   go_wp2_with fail
   go_ret2
   exact HH.out
  ·obtain ⟨rfl,_⟩:=h
   clear hf
   go_wp2_with fail
   go_ret2
   exact HH.out
def Rd.count (r : Rd) (most : Int) : Nat × Rd := if r.err = 0 then (match rdNum r.D r.off with
 | none => (0, r.fail 3)
 | some (n, m) => if max most 0 < (n : Int) then (0, r.fail 2) else (n, r.done m)) else (0, r)
theorem rCount (br:Nat) (r:Rd) (most:Int) (w:World) (hr:RdAt X w br r) (hk:r.Ok) (hm:Fit64 most) :
  Calls Tryz.prog 182 #[Value.pointer (some ⟨br,0,none⟩),Value.int .i64 most] w fun e w'=>e = .returned (Value.int .i64 ((r.count most).1:Int))∧Fr [br] w w'∧RdAt X w' br (r.count most).2:=by
 have hmf:∀ (fn:Fn) (first cap:Array Value) (w:World),(Instr.makeFunc fn first cap).run Tryz.prog w = .ok (.func fn first cap) w:=fun _ _ _ _=>rfl
 have hlt:br < w.heap.size:=by obtain ⟨A,c,hX,ha,_⟩:=hr; exact ha.lt
 have hf0:Fr [] w ((w.alloc (.cells #[Value.pointer (some ⟨br,0,none⟩)] 124)).alloc (.cells #[Value.int .i64 most] 3)):=((Fr.refl _ _).alloc _).alloc _
 have ha0:At ((w.alloc (.cells #[Value.pointer (some ⟨br,0,none⟩)] 124)).alloc (.cells #[Value.int .i64 most] 3)) w.heap.size 124 [Value.pointer (some ⟨br,0,none⟩)]:=(At.new w _ [Value.pointer (some ⟨br,0,none⟩)]).alloc _
 have hb0:At ((w.alloc (.cells #[Value.pointer (some ⟨br,0,none⟩)] 124)).alloc (.cells #[Value.int .i64 most] 3)) (w.heap.size+1) 3 [Value.int .i64 most]:=by
  have:=At.new (w.alloc (.cells #[Value.pointer (some ⟨br,0,none⟩)] 124)) 3 [Value.int .i64 most]
  simpa using this
 have hr0:RdAt X ((w.alloc (.cells #[Value.pointer (some ⟨br,0,none⟩)] 124)).alloc (.cells #[Value.int .i64 most] 3)) br r:=ReaderAt.fr hr hf0
 have H:=Lib.hid (And.intro hr0 (And.intro hk (And.intro hf0 (And.intro ha0 hb0))))
 have HM:=Lib.hid hm
 clear hr hk hf0 ha0 hr0 hb0 hm
 by_cases h0:r.err=0
 ·obtain ⟨D,off,last,err⟩:=r
  simp only at h0
  subst h0
  have hdec:∀ W,Fr [] ((w.alloc (.cells #[Value.pointer (some ⟨br,0,none⟩)] 124)).alloc (.cells #[Value.int .i64 most] 3)) W→ReaderAt X W br D off last 0→Calls Tryz.prog 206 #[Value.pointer (some ⟨w.heap.size,0,none⟩),Value.pointer (some ⟨w.heap.size+1,0,none⟩)] W (LimRes X br D off last most W) :=
   fun W hf hr=>countc_any w.heap.size (w.heap.size+1) br D off last most W (H.out.2.2.2.1.fr hf (by simp)) (H.out.2.2.2.2.fr hf (by simp)) hr H.out.2.1.off H.out.2.1.len HM.out
  have HD:=Lib.hid hdec
  clear hdec
  cases hb:rdNum D off with
  | none =>
    have HB:=Lib.hid hb
    clear hb
    go_enter Tryz.func182,Tryz.ntmps182
    go_wp2_with fail
    refine (readCnt_none br D off last 3 0 w.heap.size (w.heap.size+1) _ H.out.1 (by decide) (fun W hf hr=>(HD.out W hf hr).mono (fun e w' h=>by unfold LimRes at h; rw [HB.out] at h; exact ⟨h.2.1,h.1,h.2.2⟩))).mono ?_
    rintro e w1 ⟨rfl,hf,hr1⟩
    have H1:=Lib.hid (And.intro (H.out.2.2.1.mono (S':=[br]) (by simp) |>.trans hf) hr1)
    clear hf hr1
    go_wp2_with fail
    go_ret
    simp only [Rd.count,if_true,HB.out]
    exact ⟨rfl,H1.out⟩
  | some p =>
    obtain ⟨n,m⟩:=p
    have HB:=Lib.hid hb
    clear hb
    by_cases hg:max most 0 < (n:Int)
    ·have HG:=Lib.hid hg
     clear hg
     go_enter Tryz.func182,Tryz.ntmps182
     go_wp2_with fail
     refine (readCnt_none br D off last 2 0 w.heap.size (w.heap.size+1) _ H.out.1 (by decide) (fun W hf hr=>(HD.out W hf hr).mono (fun e w' h=>by unfold LimRes at h; rw [HB.out] at h; simp only [if_pos HG.out] at h; exact ⟨h.2.1,h.1,h.2.2⟩))).mono ?_
     rintro e w1 ⟨rfl,hf,hr1⟩
     have H1:=Lib.hid (And.intro (H.out.2.2.1.mono (S':=[br]) (by simp) |>.trans hf) hr1)
     clear hf hr1
     go_wp2_with fail
     go_ret
     simp only [Rd.count,if_true,HB.out,if_pos HG.out]
     exact ⟨rfl,H1.out⟩
    ·have HG:=Lib.hid hg
     clear hg
     go_enter Tryz.func182,Tryz.ntmps182
     go_wp2_with fail
     refine (readCnt_some br D off last m (n:Int) w.heap.size (w.heap.size+1) _ H.out.1 (fun W hf hr=>(HD.out W hf hr).mono (fun e w' h=>by unfold LimRes at h; rw [HB.out] at h; simp only at h; rw [if_neg (by have:=HG.out; omega)] at h; exact ⟨h.2.1,h.1,h.2.2⟩))).mono ?_
     rintro e w1 ⟨rfl,hf,hr1⟩
     have H1:=Lib.hid (And.intro (H.out.2.2.1.mono (S':=[br]) (by simp) |>.trans hf) hr1)
     clear hf hr1
     go_wp2_with fail
     go_ret
     simp only [Rd.count,if_true,HB.out]
     rw [if_neg (by have:=HG.out; omega)]
     exact ⟨rfl,H1.out⟩
 ·have e:r.count most=(0,r):=by unfold Rd.count; rw [if_neg h0]
  have HE:=Lib.hid (And.intro h0 e)
  clear h0 e
  go_enter Tryz.func182,Tryz.ntmps182
  go_wp2_with fail
  refine (readCnt_err br r _ _ H.out.1 HE.out.1).mono ?_
  rintro e w1 ⟨rfl,hf,hr1⟩
  have H1:=Lib.hid (And.intro ((H.out.2.2.1.trans hf).mono (S':=[br]) (by simp)) hr1)
  clear hf hr1
  go_wp2_with fail
  go_ret
  rw [HE.out.2]
  exact ⟨rfl,H1.out⟩
def Rd.end_ (r : Rd) : Int := if r.err ≠ 0 then r.err else if r.off < r.D.length then 3 else 0
theorem rEnd (br:Nat) (r:Rd) (w:World) (hr:RdAt X w br r) (hk:r.Ok) :
  Calls Tryz.prog 77 #[Value.pointer (some ⟨br,0,none⟩)] w fun e w'=>e = .returned (.tuple #[Value.int .i64 (r.off:Int),Value.int .i64 r.end_])∧Fr [] w w':=by
 obtain ⟨A,c,hX,ha,hrow⟩:=hr
 have c0:w.cell? ⟨br,0,none⟩=some (.slice A r.D.length c):=by rw [ha.cell]; rfl
 have c1:w.cell? ⟨br,1,none⟩=some (Value.int .i64 (r.off:Int)):=by rw [ha.cell]; rfl
 have c3:w.cell? ⟨br,3,none⟩=some (Value.int .i64 r.err):=by rw [ha.cell]; rfl
 have hDI:(r.D.length:Int)≤4294967296:=by have:=hk.len; omega
 clear ha hrow hk
 by_cases h0:r.err=0
 ·have hb:(r.err != 0)=false:=by simpa using h0
  by_cases hl:r.off < r.D.length
  ·have hlI:decide (r.off < r.D.length)=true:=by simpa using hl
   have he:r.end_=3:=by unfold Rd.end_; rw [if_neg (by simpa using h0),if_pos hl]
   have HE:=Lib.hid he
   clear h0 he
   go_enter Tryz.func77,Tryz.ntmps77
   go_wp2_with fail
   go_quiet (fail)
   go_wp2_with fail
   go_ret2
   rw [HE.out]
   exact ⟨rfl,(Fr.refl _ _).drewN _⟩
  ·have hlI:decide (r.off < r.D.length)=false:=by simpa using hl
   have he:r.end_=0:=by unfold Rd.end_; rw [if_neg (by simpa using h0),if_neg hl]
   have HE:=Lib.hid he
   clear h0 he
   go_enter Tryz.func77,Tryz.ntmps77
   go_wp2_with fail
   go_quiet (fail)
   go_wp2_with fail
   go_ret2
   rw [HE.out]
   exact ⟨rfl,(Fr.refl _ _).drewN _⟩
 ·have hb:(r.err != 0)=true:=by simpa using h0
  have he:r.end_=r.err:=by unfold Rd.end_; rw [if_pos h0]
  have HE:=Lib.hid he
  clear h0 he
  go_enter Tryz.func77,Tryz.ntmps77
  go_wp2_with fail
  go_quiet (fail)
  go_wp2_with fail
  go_ret2
  rw [HE.out]
  exact ⟨rfl,(Fr.refl _ _).drewN _⟩
theorem newReader_any (A:Option Addr) (c:Nat) (D:List UInt8) (w:World) (hD:D.length≤4294967296) (hrow:RowIn w A (B8 D)) :
  Calls Tryz.prog 72 #[.slice A D.length c] w fun e w'=>∃ br A2 c2,e = .returned (Value.pointer (some ⟨br,0,none⟩))∧w.heap.size≤br∧Fr [] w w'∧RdAt (A2,c2) w' br ⟨D,0,0,0⟩∧w'.ownsRow w.heap.size 5 1 (.slice A2 D.length c2) D.length (B8 D):=by
 have H:=Lib.hid (And.intro hrow hD)
 clear hrow hD
 go_enter Tryz.func72,Tryz.ntmps72
 go_wp2_with (at_builtin; refine wpList_app el_u8 rfl (.tmp 3) (.tmp 4) rfl w.heap.size _ 0 [] rfl (by exact World.ownsRow_made _ #[] 0 (Nat.le_refl _) (Nat.zero_le _) rfl) A _ c (B8 D) rfl (by rw [B8_length]; simp) (by exact CellsAt.of_row (H.out.1.fr0 ((Fr.refl _ _).alloc _))) (B8_one _) (by have:=H.out.2; omega) (by simp) ?_; intro v2 w2 hown2 hg2 hb2; obtain ⟨A2,c2,rfl⟩:=ownsRow_form hown2)
 go_ret
 have hf:Fr [] w w2:=((Fr.refl [] w).alloc _).grown hg2 (fun g hg=>.inr (by have hg':some w.heap.size=some g:=hg; injection hg' with hg'; omega))
 refine ⟨w2.heap.size,A2,c2,rfl,hf.size,hf.alloc _,⟨A2,c2,rfl,?_,?_⟩,?_⟩
 ·have:=At.new w2 187 [.slice A2 D.length c2,Value.int .i64 0,Value.int .i64 0,Value.int .i64 0]
  simpa using this
 ·have:=ownsRow_base hown2 (Nat.zero_le w.heap.size)
  simpa using this.alloc _
 ·simpa using hown2.alloc _
end
section
variable {X : Option Addr × Nat}
theorem Mm.one {w:World} {b:Nat} {t:TypeId} {l:List Value} (h:At w b t l):Mm w [b] [cAt b t l] w :=
 ⟨Fr.refl _ _,fun c hc=>by rw [List.mem_singleton] at hc; subst hc; exact h,by simp [cAt],fun x hx=>.inl (by simpa [cAt] using hx)⟩
theorem own_at_ne {w:World} {base:Nat} {e t:TypeId} {sz n:Nat} {v:Value} {xs l:List Value} {b:Nat} (h:w.ownsRow base e sz v n xs) (ha:At w b t l) (hne:e≠t):some b≠v.ownBlock:=by
 intro hb
 rcases h.2 with ⟨rfl,_⟩ | ⟨g,cap,cur,rfl,_,hg,_⟩
 ·simp [Value.ownBlock] at hb
 ·have:some b=some g:=hb
  injection this with this
  subst this
  unfold At at ha
  rw [hg] at ha
  simp only [Option.some.injEq,Obj.cells.injEq] at ha
  exact hne ha.2.1
theorem ownCap {w:World} {base:Nat} {e:TypeId} {sz:Nat} {A:Option Addr} {m c:Nat} {xs:List Value} (ho:w.ownsRow base e sz (.slice A m c) m xs):m≤c:=by
 rcases ho.2 with ⟨hv,h0⟩ | ⟨g,cap,cur,hv,_,_,hnc,_⟩
 ·omega
 ·simp only [Value.slice.injEq] at hv
  omega
theorem rowPart {w:World} {A:Option Addr} {xs:List UInt8} {c k N:Nat} (h:RowIn w A (B8 xs)) (hc:(B8 xs).length≤c):RowIn w (if c=k then A else A.map (·.add (k*1))) (B8 ((xs.drop k).take N)):=by
 intro j u hu
 have hj:(B8 xs)[k+j]?=some u:=by
  simp only [B8,List.getElem?_map,List.getElem?_take,List.getElem?_drop] at hu ⊢
  split at hu
  ·exact hu
  ·cases hu
 have hlt:=(List.getElem?_eq_some_iff.1 hj).1
 obtain ⟨b,o,hA,hb,hcell⟩:=h _ _ hj
 refine ⟨b,o+k,?_,hb,by rw [Nat.add_assoc]; exact hcell⟩
 rw [if_neg (by omega),hA]
 show some ((⟨b,o,none⟩:Addr).add (k*1))=_
 rw [add_none,Nat.mul_one]
theorem take_few (br:Nat) (D:List UInt8) (off last N:Nat) (err:Int) (w:World) (A:Option Addr) (c:Nat) (ha:At w br 187 [.slice A D.length c,Value.int .i64 (off:Int),Value.int .i64 (last:Int),Value.int .i64 err]) (_hl:D.length≤4294967296) (ho:off≤D.length) (hN:N≤4294967296) (_hc:D.length≤c) (hf:D.length < off+N) :
  Calls Tryz.prog 165 #[Value.pointer (some ⟨br,0,none⟩),Value.int .i64 (N:Int)] w fun e w'=>e = .returned (.tuple #[.slice none 0 0,Value.int .i64 3])∧Fr [br] w w'∧At w' br 187 [.slice A D.length c,Value.int .i64 (off:Int),Value.int .i64 (last:Int),Value.int .i64 err]:=by
 have HA:=Lib.hid ha
 clear ha
 refine sE2 Tryz.func165 43 (Mm.one HA.out) ?_
 refine stSeq (reg (la ?_))
 refine la ?_
 refine liNil (qThen (stSeq (stSeq (anyBegin _ 12 (by kernel_rfl) (fun _ h=>h) ?_))))
 refine am 0 ?_
 refine am 1 ?_
 refine ac 2 (vP br 0) ?_
 refine ac 3 (vP br 0) ?_
 refine al 4 0 ?_
 refine ac 5 (vI D.length) ?_
 refine am 6 ?_
 refine ac 7 (vP br 0) ?_
 refine ac 8 (vP br 1) ?_
 refine al 9 0 ?_
 refine av 10 (.int .i64 (((D.length:Nat):Int) - ((off:Nat):Int))) rfl (rSub _ rfl rfl rfl rfl (by omega) (by omega)) ?_
 refine ac 11 (.bool (decide (((N:Nat):Int) > (((D.length:Nat):Int) - ((off:Nat):Int))))) ?_
 refine anyDone (by kernel_rfl) ?_
 refine qThen (stTrueK rfl (by simp; omega) ?_)
 refine stSeq (reg (la ?_))
 refine la ?_
 refine liNil (qThen (stRet (qThenR (sN [(.slice none 0 0),(.int .i64 3)] fun w hM=>?_))))
 exact ⟨rfl,hM.fr,hM.at (i:=0) rfl⟩
theorem take_ok (br:Nat) (D:List UInt8) (off last N:Nat) (err:Int) (w:World) (A:Option Addr) (c:Nat) (ha:At w br 187 [.slice A D.length c,Value.int .i64 (off:Int),Value.int .i64 (last:Int),Value.int .i64 err]) (hl:D.length≤4294967296) (ho:off≤D.length) (hN:N≤4294967296) (hc:D.length≤c) (hf:off+N≤D.length) :
  Calls Tryz.prog 165 #[Value.pointer (some ⟨br,0,none⟩),Value.int .i64 (N:Int)] w fun e w'=>e = .returned (.tuple #[.slice (if c=off then A else A.map (·.add (off*1))) N (c - off),Value.int .i64 0])∧Fr [br] w w'∧At w' br 187 [.slice A D.length c,Value.int .i64 ((off+N:Nat):Int),Value.int .i64 (last:Int),Value.int .i64 err]:=by
 have HA:=Lib.hid ha
 clear ha
 refine sE2 Tryz.func165 43 (Mm.one HA.out) ?_
 refine stSeq (reg (la ?_))
 refine la ?_
 refine liNil (qThen (stSeq (stSeq (anyBegin _ 12 (by kernel_rfl) (fun _ h=>h) ?_))))
 refine am 0 ?_
 refine am 1 ?_
 refine ac 2 (vP br 0) ?_
 refine ac 3 (vP br 0) ?_
 refine al 4 0 ?_
 refine ac 5 (vI D.length) ?_
 refine am 6 ?_
 refine ac 7 (vP br 0) ?_
 refine ac 8 (vP br 1) ?_
 refine al 9 0 ?_
 refine av 10 (.int .i64 (((D.length:Nat):Int) - ((off:Nat):Int))) rfl (rSub _ rfl rfl rfl rfl (by omega) (by omega)) ?_
 refine ac 11 (.bool (decide (((N:Nat):Int) > (((D.length:Nat):Int) - ((off:Nat):Int))))) ?_
 refine anyDone (by kernel_rfl) ?_
 refine qThen (stFalseK rfl (by simp; omega) ?_)
 refine stSkip (qThen (stSeq (anyBegin _ 16 (by kernel_rfl) (fun _ h=>h) ?_)))
 refine am 0 ?_
 refine ac 1 (vP br 0) ?_
 refine ac 2 (vP br 0) ?_
 refine al 3 0 ?_
 refine am 4 ?_
 refine ac 5 (vP br 0) ?_
 refine ac 6 (vP br 1) ?_
 refine al 7 0 ?_
 refine am 8 ?_
 refine ac 9 (vP br 0) ?_
 refine ac 10 (vP br 1) ?_
 refine al 11 0 ?_
 refine am 12 ?_
 refine av 13 (vI (off+N)) rfl rAd ?_
 refine av 14 (.slice (if c=off then A else A.map (·.add (off*1))) (off+N - off) (c - off)) rfl (rSliceLH (e:=5) (sz:=1) rfl (by kernel_rfl) (by kernel_rfl) rfl rfl rfl (by omega) (by omega)) ?_
 refine aa 15 ?_
 refine anyDone (by kernel_rfl) ?_
 refine qThen (stSeq (reg (lm ?_)))
 refine lc (vP br 0) ?_
 refine lc (vP br 1) ?_
 refine ll 0 ?_
 refine lm ?_
 refine lv (v:=(vI (off+N))) rAd ?_
 refine lc (vP br 0) ?_
 refine lc (vP br 1) ?_
 refine li rfl (oS1 0 ?_)
 refine liNil (qThen (stSeq (reg (lm ?_))))
 refine la ?_
 refine la ?_
 refine liNil (qThen (stRet (sN [(.slice (if c=off then A else A.map (·.add (off*1))) (off+N - off) (c - off)),(.int .i64 0)] fun w hM=>?_)))
 exact ⟨by rw [show off+N - off=N by omega]; rfl,hM.fr,hM.at (i:=0) rfl⟩
theorem sumc_ok (bx br:Nat) (D:List UInt8) (off last:Nat) (err:Int) (w:World) (hx0:At w bx 124 [Value.pointer (some ⟨br,0,none⟩)]) (hr:ReaderAt X w br D off last err) (hl:D.length≤4294967296) (ho:off≤D.length) (hf:off+32≤D.length) :
  Calls Tryz.prog 164 #[Value.pointer (some ⟨bx,0,none⟩)] w fun e w'=>e = .returned (.tuple #[.string (strOf ((D.drop off).take 32)),Value.int .i64 0])∧Fr [br] w w'∧ReaderAt X w' br D (off+32) last err:=by
 obtain ⟨A,c,hX,ha,hown⟩:=hr
 have hx:w.cell? ⟨bx,0,none⟩=some (Value.pointer (some ⟨br,0,none⟩)):=by rw [hx0.cell]; rfl
 have hxb:bx≠br:=hx0.ne ha (by decide)
 have HA:=Lib.hid ha
 have HO:=Lib.hid hown
 have HR:Hid (RowIn w A (B8 D)):=RowIn.of_own hown
 have hc:D.length≤c:=ownCap hown
 have HNB:Hid (∀ g,(Value.slice A D.length c).ownBlock=some g→g∉[br]):=fun g hg=>by
  have h1:=own_at_ne hown ha (by decide)
  simp only [List.mem_singleton]
  rintro rfl
  exact h1 hg.symm
 have HNE:Hid (∀ b o,A=some ⟨b,o,none⟩→b∉[br]):=fun b o hA=>HNB.out b (by rw [hA]; rfl)
 clear ha hown hx0
 refine sE1 Tryz.func164 13 (Mm.one HA.out) ?_
 refine stSeq (reg (la ?_))
 refine la ?_
 refine liNil (qThen (stSeq (reg (lv (rW (fun w hM=>hM.old hx (by simpa using hxb))) ?_))))
 refine li rfl (opCall 165 #[(vP br 0),(.int .i64 32)] rfl (by kernel_rfl) (fun _=>by kernel_rfl) (fun w hM=>?_))
 refine (take_ok br D off last 32 err w A c (hM.at (i:=0) rfl) hl ho (by omega) hc hf).mono ?_
 rintro e w' ⟨rfl,hf2,ha2⟩
 have hM':=hM.swap 0 (c':=cAt br 187 [(.slice A (D.length) (c)),(vI (off+32)),(vI last),(.int .i64 err)]) rfl hf2 ha2 (fun b hb=>.inl hb) (by simp [cAt])
 refine ⟨_,_,rfl,hM',?_⟩
 clear hM hM' hf2 ha2
 refine lm ?_
 refine lc (.slice (if c=off then A else A.map (·.add (off*1))) (32) (c - off)) ?_
 refine lc (.int .i64 0) ?_
 refine la ?_
 refine la ?_
 refine liNil (qThen (stSeq (reg (lm ?_))))
 refine lv (v:=(vS ((D.drop off).take 32))) (rStr (e:=5) ((D.drop off).take 32) rfl (by kernel_rfl) (by kernel_rfl) (by kernel_rfl) rfl (by rw [List.length_take,List.length_drop]; omega) (fun w hM=>rowPart (HR.out.fr hM.fr HNE.out) (by rw [B8_length]; exact hc))) ?_
 refine lm ?_
 refine la ?_
 refine la ?_
 refine liNil (qThen (stRet (sN [(vS ((D.drop off).take 32)),(.int .i64 0)] fun w hM=>?_)))
 exact ⟨rfl,hM.fr,A,c,hX,hM.at (i:=0) rfl,ownsRow_fr HO.out hM.fr HNB.out⟩
theorem sumc_few (bx br:Nat) (D:List UInt8) (off last:Nat) (err:Int) (w:World) (hx0:At w bx 124 [Value.pointer (some ⟨br,0,none⟩)]) (hr:ReaderAt X w br D off last err) (hl:D.length≤4294967296) (ho:off≤D.length) (hf:D.length < off+32) :
  Calls Tryz.prog 164 #[Value.pointer (some ⟨bx,0,none⟩)] w fun e w'=>e = .returned (.tuple #[.string (strOf []),Value.int .i64 3])∧Fr [br] w w'∧ReaderAt X w' br D off last err:=by
 obtain ⟨A,c,hX,ha,hown⟩:=hr
 have hx:w.cell? ⟨bx,0,none⟩=some (Value.pointer (some ⟨br,0,none⟩)):=by rw [hx0.cell]; rfl
 have hxb:bx≠br:=hx0.ne ha (by decide)
 have HA:=Lib.hid ha
 have HO:=Lib.hid hown
 have HR:Hid (RowIn w A (B8 D)):=RowIn.of_own hown
 have hc:D.length≤c:=ownCap hown
 have HNB:Hid (∀ g,(Value.slice A D.length c).ownBlock=some g→g∉[br]):=fun g hg=>by
  have h1:=own_at_ne hown ha (by decide)
  simp only [List.mem_singleton]
  rintro rfl
  exact h1 hg.symm
 have HNE:Hid (∀ b o,A=some ⟨b,o,none⟩→b∉[br]):=fun b o hA=>HNB.out b (by rw [hA]; rfl)
 clear ha hown hx0
 refine sE1 Tryz.func164 13 (Mm.one HA.out) ?_
 refine stSeq (reg (la ?_))
 refine la ?_
 refine liNil (qThen (stSeq (reg (lv (rW (fun w hM=>hM.old hx (by simpa using hxb))) ?_))))
 refine li rfl (opCall 165 #[(vP br 0),(.int .i64 32)] rfl (by kernel_rfl) (fun _=>by kernel_rfl) (fun w hM=>?_))
 refine (take_few br D off last 32 err w A c (hM.at (i:=0) rfl) hl ho (by omega) hc hf).mono ?_
 rintro e w' ⟨rfl,hf2,ha2⟩
 have hM':=hM.swap 0 (c':=cAt br 187 [(.slice A (D.length) (c)),(vI off),(vI last),(.int .i64 err)]) rfl hf2 ha2 (fun b hb=>.inl hb) (by simp [cAt])
 refine ⟨_,_,rfl,hM',?_⟩
 clear hM hM' hf2 ha2
 refine lm ?_
 refine lc (.slice none 0 0) ?_
 refine lc (.int .i64 3) ?_
 refine la ?_
 refine la ?_
 refine liNil (qThen (stSeq (reg (lm ?_))))
 refine lv (v:=(vS ([]))) (rStr (e:=5) [] rfl (by kernel_rfl) (by kernel_rfl) (by kernel_rfl) rfl rfl (fun w hM j v hj=>by simp [B8] at hj)) ?_
 refine lm ?_
 refine la ?_
 refine la ?_
 refine liNil (qThen (stRet (sN [(vS ([])),(.int .i64 3)] fun w hM=>?_)))
 exact ⟨rfl,hM.fr,A,c,hX,hM.at (i:=0) rfl,ownsRow_fr HO.out hM.fr HNB.out⟩
theorem rvClose_ok_Sum (b0 b1 b2 br:Nat) (A:Option Addr) (n c:Nat) (off last start:Int) (w:World) (h0:At w b0 3 [Value.int .i64 start]) (h1:At w b1 124 [Value.pointer (some ⟨br,0,none⟩)]) (hr:At w br 187 [.slice A n c,Value.int .i64 off,Value.int .i64 last,Value.int .i64 0]) :
  CallsD Tryz.prog 189 #[Value.pointer (some ⟨b0,0,none⟩),Value.pointer (some ⟨b1,0,none⟩),Value.pointer (some ⟨b2,0,none⟩)] .returning w fun e u' w'=>u' = .returning∧e = .returned (.tuple #[])∧w'=w.setCell ⟨br,2,none⟩ (Value.int .i64 start):=by
 have c0:w.cell? ⟨b0,0,none⟩=some (Value.int .i64 start):=by rw [h0.cell]; rfl
 have c1:w.cell? ⟨b1,0,none⟩=some (Value.pointer (some ⟨br,0,none⟩)):=by rw [h1.cell]; rfl
 have c2:w.cell? ⟨br,2,none⟩=some (Value.int .i64 last):=by rw [hr.cell]; rfl
 have c3:w.cell? ⟨br,3,none⟩=some (Value.int .i64 0):=by rw [hr.cell]; rfl
 have z2:=hr.frozen 2
 have hne:b1≠br:=h1.ne hr (by decide)
 clear h0 h1 hr
 go_enter_d Tryz.func189,Tryz.ntmps189
 go_wp2_with fail
 go_end0
 exact ⟨rfl,rfl⟩
theorem rvClose_err_Sum (b0 b1 b2 br:Nat) (A:Option Addr) (n c:Nat) (off last start err:Int) (v:Value) (w:World) (h0:At w b0 3 [Value.int .i64 start]) (h1:At w b1 124 [Value.pointer (some ⟨br,0,none⟩)]) (h2:At w b2 9 [v]) (hr:At w br 187 [.slice A n c,Value.int .i64 off,Value.int .i64 last,Value.int .i64 err]) (he:err≠0) (hb:b2≠b0∧b2≠br) :
  CallsD Tryz.prog 189 #[Value.pointer (some ⟨b0,0,none⟩),Value.pointer (some ⟨b1,0,none⟩),Value.pointer (some ⟨b2,0,none⟩)] .returning w fun e u' w'=>u' = .returning∧e = .returned (.tuple #[])∧w'=((w.setCell ⟨br,2,none⟩ (Value.int .i64 start)).setCell ⟨br,1,none⟩ (Value.int .i64 start)).setCell ⟨b2,0,none⟩ (Value.string ⟨#[]⟩):=by
 have c0:w.cell? ⟨b0,0,none⟩=some (Value.int .i64 start):=by rw [h0.cell]; rfl
 have c1:w.cell? ⟨b1,0,none⟩=some (Value.pointer (some ⟨br,0,none⟩)):=by rw [h1.cell]; rfl
 have cr1:w.cell? ⟨br,1,none⟩=some (Value.int .i64 off):=by rw [hr.cell]; rfl
 have c2:w.cell? ⟨br,2,none⟩=some (Value.int .i64 last):=by rw [hr.cell]; rfl
 have c3:w.cell? ⟨br,3,none⟩=some (Value.int .i64 err):=by rw [hr.cell]; rfl
 have c4:w.cell? ⟨b2,0,none⟩=some v:=by rw [h2.cell]; rfl
 have z2:=hr.frozen 2
 have z1:=hr.frozen 1
 have z4:=h2.frozen 0
 have hne:b1≠br:=h1.ne hr (by decide)
 have hne2:b2≠br:=hb.2
 have hne0:b0≠br:=h0.ne hr (by decide)
 have heb:(err != 0)=true:=by simpa using he
 clear h0 h1 hr h2 he hb
 go_enter_d Tryz.func189,Tryz.ntmps189
 go_wp2_with fail
 go_end0
 exact ⟨rfl,rfl⟩
set_option maxHeartbeats 4000000 in
theorem readSum_some (br:Nat) (D:List UInt8) (off last m:Nat) (x:List UInt8) (bx:Nat) (w:World) (hr:ReaderAt X w br D off last 0)
  (hdec:∀ W,Fr [] w W→ReaderAt X W br D off last 0→Calls Tryz.prog 164 #[Value.pointer (some ⟨bx,0,none⟩)] W fun e w'=>e = .returned (.tuple #[Value.string (strOf x),Value.int .i64 0])∧Fr [br] W w'∧ReaderAt X w' br D m last 0) :
  Calls Tryz.prog 163 #[Value.pointer (some ⟨br,0,none⟩),.func (.func 164) #[] #[Value.pointer (some ⟨bx,0,none⟩)]] w fun e w'=>e = .returned (Value.string (strOf x))∧Fr [br] w w'∧ReaderAt X w' br D m off 0:=by
 obtain ⟨A,c,hX,ha,hrow⟩:=hr
 have c1:w.cell? ⟨br,1,none⟩=some (Value.int .i64 (off:Int)):=by rw [ha.cell]; rfl
 have c3:w.cell? ⟨br,3,none⟩=some (Value.int .i64 0):=by rw [ha.cell]; rfl
 have hlt:=ha.lt
 have HR:=Lib.hid (And.intro ha hrow)
 have HD:=Lib.hid hdec
 clear ha hrow hdec
 have hmf:∀ (fn:Fn) (first cap:Array Value) (w:World),(Instr.makeFunc fn first cap).run Tryz.prog w = .ok (.func fn first cap) w:=fun _ _ _ _=>rfl
 go_enter_defers Tryz.func163,Tryz.ntmps163
 go_wp2_with fail
 obtain ⟨W,hW⟩:∃ W,W=((w.alloc (Obj.cells #[Value.pointer (some ⟨br,0,none⟩)] 124)).alloc (Obj.cells #[Value.string ⟨#[]⟩] 9)).alloc (Obj.cells #[Value.int .i64 (off:Int)] 3):=⟨_,rfl⟩
 rw [← hW]
 have HW:Hid (At W w.heap.size 124 [Value.pointer (some ⟨br,0,none⟩)]∧At W (w.heap.size+1) 9 [Value.string ⟨#[]⟩]∧At W (w.heap.size+1+1) 3 [Value.int .i64 (off:Int)]∧Fr [] w W∧ReaderAt X W br D off last 0):=by
  rw [hW]
  refine ⟨((At.new w 124 [Value.pointer (some ⟨br,0,none⟩)]).alloc _).alloc _,?_,?_,(((Fr.refl _ _).alloc _).alloc _).alloc _,A,c,hX,((HR.out.1.alloc _).alloc _).alloc _,((HR.out.2.alloc _).alloc _).alloc _⟩
  ·have:=(At.new (w.alloc (Obj.cells #[Value.pointer (some ⟨br,0,none⟩)] 124)) 9 [Value.string ⟨#[]⟩]).alloc (Obj.cells #[Value.int .i64 (off:Int)] 3)
   simpa using this
  ·have:=At.new ((w.alloc (Obj.cells #[Value.pointer (some ⟨br,0,none⟩)] 124)).alloc (Obj.cells #[Value.string ⟨#[]⟩] 9)) 3 [Value.int .i64 (off:Int)]
   simpa using this
 clear hW c1 c3
 have d0:W.cell? ⟨w.heap.size,0,none⟩=some (Value.pointer (some ⟨br,0,none⟩)):=by rw [HW.out.1.cell]; rfl
 have nb1:w.heap.size≠br:=by omega
 have nb2:br≠w.heap.size:=by omega
 go_region_held3 (fun w'=>w'.cell? ⟨w.heap.size,0,none⟩=some (Value.pointer (some ⟨br,0,none⟩))) (go_keep) (first | (go_at_call 164; refine (HD.out W.drew (by exact HW.out.2.2.2.1.drew) (by exact HW.out.2.2.2.2)).mono ?_; rintro e w1 ⟨rfl,hf1,hr1⟩; obtain ⟨e0,e1,z1,e3,z3⟩:=rv_cells (W:=W) HW.out.1 HW.out.2.1 HW.out.2.2.2.2 hf1 hr1; have H1:=Lib.hid (And.intro hf1 hr1); clear hf1 hr1))
 go_wp2_with fail
 obtain ⟨k0,k1,k2,k3,kf⟩:=rv_end HW.out.1 HW.out.2.1 HW.out.2.2.1 HW.out.2.2.2.2 H1.out.1 H1.out.2 (Value.string (strOf x)) (Value.int .i64 0) (by omega) (by decide)
 refine leaves_cons (f:=189) (args:=#[Value.pointer (some ⟨w.heap.size+1+1,0,none⟩),Value.pointer (some ⟨w.heap.size,0,none⟩),Value.pointer (some ⟨w.heap.size+1,0,none⟩)]) (by simp) (by simp [go_sem]) ?_
 obtain ⟨A',c',hX',k3'⟩:=k3
 refine (rvClose_ok_Sum _ _ _ br A' _ c' _ _ _ _ k2 k0 k3'.1).mono ?_
 rintro e u' w'' ⟨rfl,rfl,rfl⟩
 obtain ⟨g1,g2,g3⟩:=rv_done (off:=off) HW.out.2.2.2.1 kf (by omega) k1 (by decide) k3'.1 k3'.2 hX'
 exact ⟨Value.string (strOf x),by simp [results,Tryz.results163,go_sem,g1],rfl,g2,g3⟩
set_option maxHeartbeats 4000000 in
theorem readSum_none (br:Nat) (D:List UInt8) (off last:Nat) (er:Int) (x:List UInt8) (bx:Nat) (w:World) (hr:ReaderAt X w br D off last 0) (he:er≠0)
  (hdec:∀ W,Fr [] w W→ReaderAt X W br D off last 0→Calls Tryz.prog 164 #[Value.pointer (some ⟨bx,0,none⟩)] W fun e w'=>e = .returned (.tuple #[Value.string (strOf x),Value.int .i64 er])∧Fr [br] W w'∧∃ off':Nat,ReaderAt X w' br D off' last 0) :
  Calls Tryz.prog 163 #[Value.pointer (some ⟨br,0,none⟩),.func (.func 164) #[] #[Value.pointer (some ⟨bx,0,none⟩)]] w fun e w'=>e = .returned (Value.string ⟨#[]⟩)∧Fr [br] w w'∧ReaderAt X w' br D off off er:=by
 have HE:=Lib.hid he
 clear he
 obtain ⟨A,c,hX,ha,hrow⟩:=hr
 have c1:w.cell? ⟨br,1,none⟩=some (Value.int .i64 (off:Int)):=by rw [ha.cell]; rfl
 have c3:w.cell? ⟨br,3,none⟩=some (Value.int .i64 0):=by rw [ha.cell]; rfl
 have hlt:=ha.lt
 have HR:=Lib.hid (And.intro ha hrow)
 have HD:=Lib.hid hdec
 clear ha hrow hdec
 have hmf:∀ (fn:Fn) (first cap:Array Value) (w:World),(Instr.makeFunc fn first cap).run Tryz.prog w = .ok (.func fn first cap) w:=fun _ _ _ _=>rfl
 go_enter_defers Tryz.func163,Tryz.ntmps163
 go_wp2_with fail
 obtain ⟨W,hW⟩:∃ W,W=((w.alloc (Obj.cells #[Value.pointer (some ⟨br,0,none⟩)] 124)).alloc (Obj.cells #[Value.string ⟨#[]⟩] 9)).alloc (Obj.cells #[Value.int .i64 (off:Int)] 3):=⟨_,rfl⟩
 rw [← hW]
 have HW:Hid (At W w.heap.size 124 [Value.pointer (some ⟨br,0,none⟩)]∧At W (w.heap.size+1) 9 [Value.string ⟨#[]⟩]∧At W (w.heap.size+1+1) 3 [Value.int .i64 (off:Int)]∧Fr [] w W∧ReaderAt X W br D off last 0):=by
  rw [hW]
  refine ⟨((At.new w 124 [Value.pointer (some ⟨br,0,none⟩)]).alloc _).alloc _,?_,?_,(((Fr.refl _ _).alloc _).alloc _).alloc _,A,c,hX,((HR.out.1.alloc _).alloc _).alloc _,((HR.out.2.alloc _).alloc _).alloc _⟩
  ·have:=(At.new (w.alloc (Obj.cells #[Value.pointer (some ⟨br,0,none⟩)] 124)) 9 [Value.string ⟨#[]⟩]).alloc (Obj.cells #[Value.int .i64 (off:Int)] 3)
   simpa using this
  ·have:=At.new ((w.alloc (Obj.cells #[Value.pointer (some ⟨br,0,none⟩)] 124)).alloc (Obj.cells #[Value.string ⟨#[]⟩] 9)) 3 [Value.int .i64 (off:Int)]
   simpa using this
 clear hW c1 c3
 have d0:W.cell? ⟨w.heap.size,0,none⟩=some (Value.pointer (some ⟨br,0,none⟩)):=by rw [HW.out.1.cell]; rfl
 have nb1:w.heap.size≠br:=by omega
 have nb2:br≠w.heap.size:=by omega
 go_region_held3 (fun w'=>w'.cell? ⟨w.heap.size,0,none⟩=some (Value.pointer (some ⟨br,0,none⟩))) (go_keep) (first | (go_at_call 164; refine (HD.out W.drew (by exact HW.out.2.2.2.1.drew) (by exact HW.out.2.2.2.2)).mono ?_; rintro e w1 ⟨rfl,hf1,off',hr1⟩; obtain ⟨e0,e1,z1,e3,z3⟩:=rv_cells (W:=W) HW.out.1 HW.out.2.1 HW.out.2.2.2.2 hf1 hr1; have H1:=Lib.hid (And.intro hf1 hr1); clear hf1 hr1))
 go_wp2_with fail
 obtain ⟨k0,k1,k2,k3,kf⟩:=rv_end HW.out.1 HW.out.2.1 HW.out.2.2.1 HW.out.2.2.2.2 H1.out.1 H1.out.2 (Value.string (strOf x)) (Value.int .i64 er) (by omega) (by decide)
 refine leaves_cons (f:=189) (args:=#[Value.pointer (some ⟨w.heap.size+1+1,0,none⟩),Value.pointer (some ⟨w.heap.size,0,none⟩),Value.pointer (some ⟨w.heap.size+1,0,none⟩)]) (by simp) (by simp [go_sem]) ?_
 obtain ⟨A',c',hX',k3'⟩:=k3
 refine (rvClose_err_Sum _ _ _ br A' _ c' _ _ _ er (Value.string (strOf x)) _ k2 k0 k1 k3'.1 HE.out (by omega)).mono ?_
 rintro e u' w'' ⟨rfl,rfl,rfl⟩
 obtain ⟨g1,g2,g3⟩:=rv_failed (off:=off) (z:=Value.string ⟨#[]⟩) HW.out.2.2.2.1 kf (by omega) k1 (by decide) (by decide) k3'.1 k3'.2 hX'
 exact ⟨Value.string ⟨#[]⟩,by simp [results,Tryz.results163,go_sem,g1],rfl,g2,g3⟩
theorem readSum_err (br:Nat) (r:Rd) (fv:Value) (w:World) (hr:RdAt X w br r) (h0:r.err≠0) :
  Calls Tryz.prog 163 #[Value.pointer (some ⟨br,0,none⟩),fv] w fun e w'=>e = .returned (Value.string ⟨#[]⟩)∧Fr [] w w'∧RdAt X w' br r:=by
 have hr0:=hr
 obtain ⟨A,c,hX,ha,hrow⟩:=hr
 have c3:w.cell? ⟨br,3,none⟩=some (Value.int .i64 r.err):=by rw [ha.cell]; rfl
 have hb:(r.err != 0)=true:=by simpa using h0
 have hlt:=ha.lt
 have HR:=Lib.hid hr0
 clear ha hrow hr0 h0
 go_enter_defers Tryz.func163,Tryz.ntmps163
 go_wp2_with fail
 have hf:Fr [] w ((w.alloc (Obj.cells #[Value.pointer (some ⟨br,0,none⟩)] 124)).alloc (Obj.cells #[Value.string ⟨#[]⟩] 9)):=((Fr.refl _ _).alloc _).alloc _
 exact ⟨Value.string ⟨#[]⟩,by simp [results,Tryz.results163,go_sem],rfl,hf,ReaderAt.fr HR.out hf⟩
def Rd.sum (r : Rd) : List UInt8 × Rd := if r.err = 0 then (if r.off + 32 ≤ r.D.length then ((r.D.drop r.off).take 32, r.done (r.off + 32)) else ([], r.fail 3)) else ([], r)
theorem rSum_err (br:Nat) (r:Rd) (w:World) (hr:RdAt X w br r) (hk:r.Ok) (h0:r.err≠0) :
  Calls Tryz.prog 122 #[Value.pointer (some ⟨br,0,none⟩)] w fun e w'=>e = .returned (.string (strOf r.sum.1))∧Fr [br] w w'∧RdAt X w' br r.sum.2:=by
 have HR:=Lib.hid hr
 have HK:=Lib.hid hk
 clear hr hk
 refine sE1 Tryz.func122 6 (Mm.start w []) ?_
 refine stSeq (reg (li rfl (oBx [(vP br 0)] fun b1=>?_)))
 refine la ?_
 refine liNil (qThen (stSeq (reg (ll 0 ?_))))
 refine lc (.func (.func 164) #[] #[(vP b1 0)]) ?_
 refine li rfl (opCallB 163 #[(vP br 0),(.func (.func 164) #[] #[(vP b1 0)])] rfl (by kernel_rfl) (fun _=>by kernel_rfl) (fun w1 hM=>?_))
 have HR1:Hid (RdAt X w1 br r):=ReaderAt.fr HR.out hM.fr
 have HB1:Hid (At w1 b1 124 [Value.pointer (some ⟨br,0,none⟩)]):=hM.at (i:=0) rfl
 have HF1:=Lib.hid hM.fr
 refine (readSum_err br r _ w1 HR1.out h0).mono ?_
 rintro e w2 ⟨rfl,hf,hr2⟩
 refine ⟨_,w2,[],[],rfl,Mm.start w2 [],?_⟩
 clear hM
 refine la ?_
 refine liNil (qThen (stRet (sN [(.string ⟨#[]⟩)] fun w hM=>?_)))
 exact ⟨by unfold Rd.sum; rw [if_neg h0]; rfl,((HF1.out.trans hf).trans hM.fr).mono (by simp),by unfold Rd.sum; rw [if_neg h0]; exact ReaderAt.fr hr2 hM.fr⟩
theorem rSum_ok (br:Nat) (r:Rd) (w:World) (hr:RdAt X w br r) (hk:r.Ok) (h0:r.err=0) (hf32:r.off+32≤r.D.length) :
  Calls Tryz.prog 122 #[Value.pointer (some ⟨br,0,none⟩)] w fun e w'=>e = .returned (.string (strOf r.sum.1))∧Fr [br] w w'∧RdAt X w' br r.sum.2:=by
 have HR:=Lib.hid hr
 have HK:=Lib.hid hk
 clear hr hk
 refine sE1 Tryz.func122 6 (Mm.start w []) ?_
 refine stSeq (reg (li rfl (oBx [(vP br 0)] fun b1=>?_)))
 refine la ?_
 refine liNil (qThen (stSeq (reg (ll 0 ?_))))
 refine lc (.func (.func 164) #[] #[(vP b1 0)]) ?_
 refine li rfl (opCallB 163 #[(vP br 0),(.func (.func 164) #[] #[(vP b1 0)])] rfl (by kernel_rfl) (fun _=>by kernel_rfl) (fun w1 hM=>?_))
 have HR1:Hid (RdAt X w1 br r):=ReaderAt.fr HR.out hM.fr
 have HB1:Hid (At w1 b1 124 [Value.pointer (some ⟨br,0,none⟩)]):=hM.at (i:=0) rfl
 have HF1:=Lib.hid hM.fr
 refine (readSum_some br r.D r.off r.last (r.off+32) ((r.D.drop r.off).take 32) b1 w1 (by have h:=HR1.out; unfold RdAt at h; rw [h0] at h; exact h) (fun W hf hr=>(sumc_ok b1 br r.D r.off r.last 0 W (HB1.out.fr hf (by simp)) hr HK.out.len HK.out.off hf32))).mono ?_
 rintro e w2 ⟨rfl,hf,hr2⟩
 refine ⟨_,w2,[],[],rfl,Mm.start w2 [],?_⟩
 clear hM
 refine la ?_
 refine liNil (qThen (stRet (sN [(vS ((r.D.drop r.off).take 32))] fun w hM=>?_)))
 exact ⟨by unfold Rd.sum; rw [if_pos h0,if_pos hf32]; rfl,((HF1.out.mono (by simp)).trans hf).trans (hM.fr.mono (by simp)),by unfold Rd.sum Rd.done RdAt; rw [if_pos h0,if_pos hf32]; have h:=ReaderAt.fr hr2 hM.fr; rw [← h0] at h; exact h⟩
theorem rSum_few (br:Nat) (r:Rd) (w:World) (hr:RdAt X w br r) (hk:r.Ok) (h0:r.err=0) (hf32:¬ r.off+32≤r.D.length) :
  Calls Tryz.prog 122 #[Value.pointer (some ⟨br,0,none⟩)] w fun e w'=>e = .returned (.string (strOf r.sum.1))∧Fr [br] w w'∧RdAt X w' br r.sum.2:=by
 have HR:=Lib.hid hr
 have HK:=Lib.hid hk
 clear hr hk
 refine sE1 Tryz.func122 6 (Mm.start w []) ?_
 refine stSeq (reg (li rfl (oBx [(vP br 0)] fun b1=>?_)))
 refine la ?_
 refine liNil (qThen (stSeq (reg (ll 0 ?_))))
 refine lc (.func (.func 164) #[] #[(vP b1 0)]) ?_
 refine li rfl (opCallB 163 #[(vP br 0),(.func (.func 164) #[] #[(vP b1 0)])] rfl (by kernel_rfl) (fun _=>by kernel_rfl) (fun w1 hM=>?_))
 have HR1:Hid (RdAt X w1 br r):=ReaderAt.fr HR.out hM.fr
 have HB1:Hid (At w1 b1 124 [Value.pointer (some ⟨br,0,none⟩)]):=hM.at (i:=0) rfl
 have HF1:=Lib.hid hM.fr
 refine (readSum_none br r.D r.off r.last 3 [] b1 w1 (by have h:=HR1.out; unfold RdAt at h; rw [h0] at h; exact h) (by decide) (fun W hf hr=>((sumc_few b1 br r.D r.off r.last 0 W (HB1.out.fr hf (by simp)) hr HK.out.len HK.out.off (by omega)).mono (fun e w' h=>⟨h.1,h.2.1,r.off,h.2.2⟩)))).mono ?_
 rintro e w2 ⟨rfl,hf,hr2⟩
 refine ⟨_,w2,[],[],rfl,Mm.start w2 [],?_⟩
 clear hM
 refine la ?_
 refine liNil (qThen (stRet (sN [(.string ⟨#[]⟩)] fun w hM=>?_)))
 exact ⟨by unfold Rd.sum; rw [if_pos h0,if_neg hf32]; rfl,((HF1.out.mono (by simp)).trans hf).trans (hM.fr.mono (by simp)),by unfold Rd.sum Rd.fail RdAt; rw [if_pos h0,if_neg hf32]; exact ReaderAt.fr hr2 hM.fr⟩
theorem rSum (br:Nat) (r:Rd) (w:World) (hr:RdAt X w br r) (hk:r.Ok):Calls Tryz.prog 122 #[Value.pointer (some ⟨br,0,none⟩)] w fun e w'=>e = .returned (.string (strOf r.sum.1))∧Fr [br] w w'∧RdAt X w' br r.sum.2:=by
 by_cases h0:r.err=0
 ·by_cases hf:r.off+32≤r.D.length
  ·exact rSum_ok br r w hr hk h0 hf
  ·exact rSum_few br r w hr hk h0 hf
 ·exact rSum_err br r w hr hk h0
end
theorem num_pos (n:Nat):0 < (num n).length:=by
 by_cases h:n < 128
 ·rw [num_small n h]; simp
 ·rw [num_big n h]; simp
theorem accN_num (n:Nat):∀ l:List UInt8,accN (num n++l) (num n).length=n:=by
 induction n using Nat.strongRecOn with
 | _ n ih =>
   intro l
   by_cases hn:n < 128
   ·rw [num_small n hn]
    simp [accN]
    omega
   ·rw [num_big n hn]
    have h:=ih (n / 128) (Nat.div_lt_self (by omega) (by omega)) l
    rw [List.length_cons,List.cons_append,accN,h,u8_toNat _ (by omega)]
    omega
theorem zig_unzig (n:Nat):zig (unzig n)=n:=by
 unfold zig unzig
 by_cases h:n % 2=1
 ·rw [if_pos h,if_pos (by omega)]; omega
 ·rw [if_neg h,if_neg (by omega)]; omega
theorem ahead_pre:∀ (l:List UInt8) (j:Nat) (b:UInt8),j < ahead l→l[j]?=some b→128≤b.toNat
 | [],j,b,h,_=>by simp [ahead] at h
 | c::l,j,b,h,hb=>by
   rw [ahead] at h
   split at h
   ·omega
   ·cases j with
    | zero =>
      simp at hb
      subst hb
      omega
    | succ j=>exact ahead_pre l j b (by omega) (by simpa using hb)
theorem ahead_at:∀ (l:List UInt8) (b:UInt8),l[ahead l]?=some b→b.toNat < 128
 | [],b,h=>by simp at h
 | c::l,b,h=>by
   rw [ahead] at h
   split at h
   ·rename_i hc
    simp at h
    subst h
    exact hc
   ·exact ahead_at l b (by simpa using h)
theorem rdNum_took (D:List UInt8) (off n m:Nat) (h:rdNum D off=some (n,m)):D.drop off=num n++D.drop m:=by
 unfold rdNum at h
 split at h
 ·cases h
 ·rename_i b hb
  split at h
  ·rename_i hc
   simp only [Option.some.injEq,Prod.mk.injEq] at h
   obtain ⟨rfl,rfl⟩:=h
   have:=(num_of (ahead (D.drop off)) (D.drop off) (fun j c hj hcj=>ahead_pre _ j c hj hcj) ⟨b,hb,ahead_at _ b hb,hc.2.1⟩).1
   rw [List.drop_drop] at this
   rw [show off+ahead (D.drop off)+1=off+(ahead (D.drop off)+1) by omega]
   exact this
  ·cases h
theorem rdNum_num (D:List UInt8) (off n:Nat) (rest:List UInt8) (h:D.drop off=num n++rest) (hn:U64 n):rdNum D off=some (n,off+(num n).length):=by
 have hp:=num_pos n
 have hl:=num_length n hn
 obtain ⟨k,hk⟩:∃ k,(num n).length=k+1:=⟨(num n).length - 1,by omega⟩
 have hget:∀ j,j < k+1→D[off+j]?=(num n)[j]?:=by
  intro j hj
  rw [← List.getElem?_drop,h,List.getElem?_append_left (by omega)]
 have hx:=List.getElem?_eq_getElem (l:=num n) (i:=k) (by omega)
 generalize (num n)[k]=x at hx
 have hx':D[off+k]?=some x:=by rw [hget k (by omega)]; exact hx
 obtain ⟨_,g2⟩:=num_get n k x hx
 obtain ⟨g3,g4⟩:=g2 (by omega)
 rw [rdNum_at D off k x (fun j b hj hb=>(num_get n j b (by rw [← hget j (by omega)]; exact hb)).1 (by omega)) hx' g3,if_pos,hk]
 ·have ea:=accN_num n rest
  rw [hk] at ea
  rw [h,ea]
  rfl
 ·refine ⟨by omega,fun hh=>g4 hh.1 hh.2,fun hh=>?_⟩
  have ea:=accN_num n rest
  rw [hk,← h] at ea
  have es:=accN_succ k (D.drop off) x (by rw [List.getElem?_drop]; exact hx')
  rw [ea,hh.1] at es
  unfold U64 at hn
  have:x.toNat % 128=x.toNat:=Nat.mod_eq_of_lt g3
  rw [this] at es
  have h9:(128:Nat) ^ 9=9223372036854775808:=by decide
  rw [h9] at es
  have:=hh.2
  omega
structure Took (r r' : Rd) (bs : List UInt8) : Prop where
 err : r.err = 0
 D : r'.D = r.D
 bytes : r.D.drop r.off = bs ++ r.D.drop r'.off
theorem Took.trans {a b c:Rd} {x y:List UInt8} (h:Took a b x) (k:Took b c y):Took a c (x++y) :=
 ⟨h.err,k.D.trans h.D,by rw [h.bytes,List.append_assoc]; congr 1; have:=k.bytes; rwa [h.D] at this⟩
theorem took_uint (r:Rd) (h:r.uint.2.err=0):Took r r.uint.2 (num r.uint.1):=by
 unfold Rd.uint at h ⊢
 by_cases he:r.err=0
 ·rw [if_pos he] at h ⊢
  cases hd:rdNum r.D r.off with
  | none=>rw [hd] at h; cases h
  | some p=>exact ⟨he,rfl,rdNum_took _ _ _ _ hd⟩
 ·rw [if_neg he] at h
  exact absurd h he
theorem took_int (r:Rd) (h:r.int.2.err=0):Took r r.int.2 (num (zig r.int.1)):=by
 have:=took_uint r h
 have e:zig r.int.1=r.uint.1:=zig_unzig _
 rw [e]
 exact this
structure Ahead (r : Rd) (bs : List UInt8) : Prop where
 err : r.err = 0
 bytes : r.D.drop r.off = bs
theorem Ahead.uint {r:Rd} {n:Nat} {rest:List UInt8} (h:Ahead r (num n++rest)) (hn:U64 n):r.uint.1=n∧Ahead r.uint.2 rest:=by
 have hd:=rdNum_num r.D r.off n rest h.bytes hn
 unfold Rd.uint
 rw [if_pos h.err,hd]
 refine ⟨rfl,h.err,?_⟩
 show r.D.drop (r.off+(num n).length)=rest
 rw [← List.drop_drop,h.bytes,List.drop_left]
theorem Ahead.int {r:Rd} {v:Int} {rest:List UInt8} (h:Ahead r (num (zig v)++rest)) (hv:Fit64 v):r.int.1=v∧Ahead r.int.2 rest:=by
 obtain ⟨h1,h2⟩:=h.uint (zig_lt v hv.1 hv.2)
 exact ⟨by show unzig r.uint.1=v; rw [h1,unzig_zig],h2⟩
theorem took_sum (r:Rd) (h:r.sum.2.err=0):Took r r.sum.2 r.sum.1∧r.sum.1.length=32:=by
 unfold Rd.sum at h ⊢
 by_cases he:r.err=0
 ·rw [if_pos he] at h ⊢
  by_cases hf:r.off+32≤r.D.length
  ·rw [if_pos hf]
   refine ⟨⟨he,rfl,?_⟩,by simp; omega⟩
   show r.D.drop r.off=(r.D.drop r.off).take 32++r.D.drop (r.off+32)
   rw [← List.drop_drop,List.take_append_drop]
  ·rw [if_neg hf] at h
   cases h
 ·rw [if_neg he] at h
  exact absurd h he
theorem Ahead.sum {r:Rd} {k rest:List UInt8} (h:Ahead r (k++rest)) (hk:k.length=32):r.sum.1=k∧Ahead r.sum.2 rest:=by
 have hl:=congrArg List.length h.bytes
 rw [List.length_drop,List.length_append] at hl
 unfold Rd.sum
 rw [if_pos h.err,if_pos (by omega)]
 refine ⟨?_,h.err,?_⟩
 ·show (r.D.drop r.off).take 32=k
  rw [h.bytes,← hk,List.take_left]
 ·show r.D.drop (r.off+32)=rest
  rw [← List.drop_drop,h.bytes,← hk,List.drop_left]
theorem Rd.Ok.uint' {r:Rd} (h:r.Ok):r.uint.2.Ok:=h.uint fun n m hd=>(rdNum_le _ _ n m hd).2.1
theorem Rd.Ok.int {r:Rd} (h:r.Ok):r.int.2.Ok:=h.uint'
theorem Rd.int_fit (r:Rd):Fit64 r.int.1:=unzig_fit _ r.uint_u64
theorem Rd.Ok.sum {r:Rd} (h:r.Ok):r.sum.2.Ok:=by
 unfold Rd.sum
 by_cases he:r.err=0
 ·rw [if_pos he]
  by_cases hf:r.off+32≤r.D.length
  ·rw [if_pos hf]; exact ⟨hf,h.len⟩
  ·rw [if_neg hf]; exact ⟨h.off,h.len⟩
 ·rw [if_neg he]; exact h
theorem Rd.sum_len (r:Rd):r.sum.1.length≤32:=by
 unfold Rd.sum
 split
 ·split
  ·simp; omega
  ·simp
 ·simp
theorem Rd.uint_D (r:Rd):r.uint.2.D=r.D:=by
 unfold Rd.uint
 split
 ·split <;> rfl
 ·rfl
theorem Rd.sum_D (r:Rd):r.sum.2.D=r.D:=by
 unfold Rd.sum
 split
 ·split <;> rfl
 ·rfl
theorem Took.end_ {r r':Rd} {bs:List UInt8} (h:Took r r' bs) (he:r'.end_=0):r.D.drop r.off=bs:=by
 unfold Rd.end_ at he
 have hoff:r'.D.length≤r'.off:=by
  split at he
  ·rename_i h1; exact absurd he h1
  ·split at he
   ·cases he
   ·omega
 rw [h.bytes,List.drop_eq_nil_of_le (by rw [← h.D]; exact hoff),List.append_nil]
theorem Rd.end_err {r:Rd} (h:r.end_=0):r.err=0:=by
 unfold Rd.end_ at h
 split at h
 ·exact h
 ·rename_i h1; omega
theorem Ahead.end_ {r:Rd} (h:Ahead r []):r.end_=0:=by
 have hl:=congrArg List.length h.bytes
 rw [List.length_drop,List.length_nil] at hl
 unfold Rd.end_
 rw [if_neg (by rw [h.err]; simp),if_neg (by omega)]
def padK (x : List UInt8) : List UInt8 := x ++ List.replicate (32 - x.length) 0
def Rd.cell (r : Rd) : BC × Rd := (⟨r.int.1, padK r.int.2.sum.1, r.int.2.sum.2.uint.1⟩, r.int.2.sum.2.uint.2)
def rdTo (r : Rd) : Nat → Rd
 | 0 => r
 | i + 1 => (rdTo r i).cell.2
def cellsTo (r : Rd) (i : Nat) : List BC := (List.range i).map fun j => (rdTo r j).cell.1
def fillTo (r : Rd) (n i : Nat) : List BC := cellsTo r i ++ List.replicate (n - i) BC.zero
def rd0 (D : List UInt8) : Rd := ⟨D, 0, 0, 0⟩
def decN (D : List UInt8) : Nat := (rd0 D).uint.1
def decR (D : List UInt8) : Rd := (rd0 D).uint.2.uint.2
def decT (D : List UInt8) : BT := ⟨cellsTo (decR D) (decN D), (rd0 D).uint.2.uint.1⟩
def decEnd (D : List UInt8) : Rd := rdTo (decR D) (decN D)
theorem padK_len {x:List UInt8} (h:x.length≤32):(padK x).length=32:=by simp [padK]; omega
theorem Rd.Ok.cell {r:Rd} (h:r.Ok):r.cell.2.Ok:=h.int.sum.uint'
theorem Rd.cell_ok (r:Rd):r.cell.1.Ok:=⟨r.int_fit,padK_len (Rd.sum_len _),Rd.uint_u64 _⟩
theorem rdTo_ok {r:Rd} (h:r.Ok):∀ i,(rdTo r i).Ok
 | 0=>h
 | i+1=>(rdTo_ok h i).cell
theorem rd0_ok {D:List UInt8} (h:D.length≤4294967296):(rd0 D).Ok:=⟨Nat.zero_le _,h⟩
theorem cellsTo_len (r:Rd) (i:Nat):(cellsTo r i).length=i:=by simp [cellsTo]
theorem cellsTo_succ (r:Rd) (i:Nat):cellsTo r (i+1)=cellsTo r i++[(rdTo r i).cell.1]:=by simp [cellsTo,List.range_succ]
theorem cellsTo_ok (r:Rd) (i:Nat):∀ c∈cellsTo r i,c.Ok:=by
 intro c hc
 unfold cellsTo at hc
 obtain ⟨j,_,rfl⟩:=List.mem_map.1 hc
 exact Rd.cell_ok _
theorem fillTo_len {r:Rd} {n i:Nat} (h:i≤n):(fillTo r n i).length=n:=by simp [fillTo,cellsTo_len]; omega
theorem fillTo_ok (r:Rd) (n i:Nat):Ok34 (fillTo r n i):=by
 intro c hc
 rcases List.mem_append.1 hc with hc | hc
 ·exact cellsTo_ok r i c hc
 ·rw [List.eq_of_mem_replicate hc]; exact BC.Ok.zero
theorem fillTo_zero (r:Rd) (n:Nat):fillTo r n 0=List.replicate n BC.zero:=by simp [fillTo,cellsTo]
theorem fillTo_all (r:Rd) (n:Nat):fillTo r n n=cellsTo r n:=by simp [fillTo]
theorem fillTo_at {r:Rd} {n i:Nat} (h:i < n):(fillTo r n i)[i]?=some BC.zero:=by
 unfold fillTo
 rw [List.getElem?_append_right (by rw [cellsTo_len]; exact Nat.le_refl _),cellsTo_len,Nat.sub_self,List.getElem?_replicate,if_pos (by omega)]
theorem fillTo_succ {r:Rd} {n i:Nat} (h:i < n):(fillTo r n i).set i (rdTo r i).cell.1=fillTo r n (i+1):=by
 unfold fillTo
 rw [List.set_append_right _ _ (by rw [cellsTo_len]; exact Nat.le_refl _),cellsTo_len,Nat.sub_self,cellsTo_succ,List.append_assoc]
 congr 1
 rw [show n - i=(n - (i+1))+1 by omega,List.replicate_succ]
 rfl
theorem decT_ok (D:List UInt8):(decT D).Ok:=⟨cellsTo_ok _ _,Rd.uint_u64 _⟩
theorem decT_len (D:List UInt8):(decT D).cells.length=decN D:=cellsTo_len _ _
theorem took_cell (r:Rd) (h:r.cell.2.err=0):Took r r.cell.2 r.cell.1.enc:=by
 have h3:=took_uint _ h
 have h2:=took_sum r.int.2 h3.err
 have h1:=took_int r h2.1.err
 have e:padK r.int.2.sum.1=r.int.2.sum.1:=by simp [padK,h2.2]
 have:=(h1.trans h2.1).trans h3
 unfold BC.enc
 show Took r _ (num (zig r.int.1)++padK r.int.2.sum.1++num r.int.2.sum.2.uint.1)
 rw [e]
 exact this
theorem rdTo_err (r:Rd) (i:Nat) (h:(rdTo r (i+1)).err=0):(rdTo r i).err=0:=(took_cell _ h).err
theorem took_to (r:Rd):∀ i,(rdTo r i).err=0→Took r (rdTo r i) ((cellsTo r i).flatMap BC.enc)
 | 0,h=>⟨h,rfl,rfl⟩
 | i+1,h=>by
   rw [cellsTo_succ,List.flatMap_append]
   have:=(took_to r i (rdTo_err r i h)).trans (took_cell _ h)
   rw [List.flatMap_singleton]
   exact this
theorem dec_enc {D:List UInt8} (h:(decEnd D).end_=0):(decT D).enc=D:=by
 have h3:=took_to (decR D) (decN D) (Rd.end_err h)
 have h2:=took_uint (rd0 D).uint.2 h3.err
 have h1:=took_uint (rd0 D) h2.err
 have:=((h1.trans h2).trans h3).end_ h
 unfold BT.enc encTo
 rw [List.take_length,decT_len]
 exact this.symm
/-! ### An encoding is decoded -/
theorem Ahead.cell {r : Rd} {c : BC} {rest : List UInt8} (h : Ahead r (c.enc ++ rest)) (hc : c.Ok) : r.cell.1 = c ∧ Ahead r.cell.2 rest := by
 unfold BC.enc at h
 rw [List.append_assoc, List.append_assoc] at h
 obtain ⟨a1, a2⟩ := h.int hc.count
 obtain ⟨b1, b2⟩ := a2.sum hc.keys
 obtain ⟨c1, c2⟩ := b2.uint hc.checks
 refine ⟨?_, c2⟩
 unfold Rd.cell
 rw [a1, b1, c1]
 have e : padK c.keys = c.keys := by simp [padK, hc.keys]
 rw [e]
theorem ahead_to {r:Rd} (l:List BC) (hl:∀ c∈l,c.Ok) (h:Ahead r (l.flatMap BC.enc)):∀ i,i≤l.length→cellsTo r i=l.take i∧Ahead (rdTo r i) ((l.drop i).flatMap BC.enc)
 | 0,_=>⟨by simp [cellsTo],h⟩
 | i+1,hi=>by
   obtain ⟨h1,h2⟩:=ahead_to l hl h i (by omega)
   have hlt:i < l.length:=by omega
   rw [List.drop_eq_getElem_cons hlt,List.flatMap_cons] at h2
   obtain ⟨h3,h4⟩:=h2.cell (hl _ (List.getElem_mem _))
   refine ⟨?_,h4⟩
   rw [cellsTo_succ,h1,h3,List.take_succ_eq_append_getElem hlt]
theorem enc_dec {t:BT} (h:t.Ok) (hn:t.cells.length≤3072):decN t.enc=t.cells.length∧decT t.enc=t∧(decEnd t.enc).end_=0:=by
 have h0:Ahead (rd0 t.enc) (num t.cells.length++(num t.seed++t.cells.flatMap BC.enc)):=⟨rfl,by show t.enc=_; unfold BT.enc encTo; rw [List.take_length,List.append_assoc]⟩
 obtain ⟨a1,a2⟩:=h0.uint (by unfold U64; omega)
 obtain ⟨b1,b2⟩:=a2.uint h.seed
 obtain ⟨c1,c2⟩:=ahead_to t.cells h.cells b2 t.cells.length (Nat.le_refl _)
 have e:decN t.enc=t.cells.length:=a1
 refine ⟨e,?_,?_⟩
 ·unfold decT
  rw [e]
  unfold decR
  rw [c1,b1,List.take_length]
 ·unfold decEnd
  rw [e]
  rw [List.drop_length] at c2
  exact c2.end_
section
section
variable {w0 w w' : World} {F : List Nat} {cs cs' : List Ch}
theorem Mm.lift (h:Mm w0 F cs w) (h':Mm w [] cs' w'):Mm w0 F (cs++cs') w':=by
 have h0:=h.fr0 h'.fr
 have hsz:=h.fr.size
 have lo:∀ b∈cs'.flatMap Ch.fp,w.heap.size≤b:=fun b hb=>(h'.own b hb).elim (fun x=>by cases x) id
 refine ⟨h0.fr,?_,?_,?_⟩
 ·intro x hx
  rcases List.mem_append.1 hx with hx | hx
  ·exact h0.hold x hx
  ·exact h'.hold x hx
 ·rw [List.flatMap_append,List.nodup_append]
  refine ⟨h.nodup,h'.nodup,fun a ha b hb e=>?_⟩
  subst e
  have h1:=h.ltAll ha
  have h2:=lo a hb
  omega
 ·intro b hb
  rw [List.flatMap_append] at hb
  rcases List.mem_append.1 hb with hb | hb
  ·exact h.own b hb
  ·exact .inr (by have:=lo b hb; omega)
end
def cTab (bt bc cap : Nat) (rest : List Value) (t : BT) : Ch where
 fp := [bt, bc]
 holds w := TabAt w bt bc cap rest t
 ok w w' hb h := ⟨(hb bt (by simp)).trans h.tab, (hb bc (by simp)).trans h.cells, h.ok, h.size, h.cap⟩
 lt w h b hb := by
  rcases List.mem_cons.1 hb with rfl | hb
  ·exact h.tab.lt
  ·rw [List.mem_singleton] at hb
   subst hb
   exact h.cells.lt
theorem cTab_nodup {w:World} {bt bc cap:Nat} {rest:List Value} {t:BT} (h:TabAt w bt bc cap rest t):(cTab bt bc cap rest t).fp.Nodup:=by
 have:=h.tab.ne h.cells (by decide)
 simpa [cTab] using this
section
variable {w0 w w' : World} {F : List Nat} {cs : List Ch}
theorem Mm.swapTab (h:Mm w0 F cs w) (i:Nat) {bt bc cap:Nat} {rest:List Value} {t t':BT} (hi:cs[i]?=some (cTab bt bc cap rest t)) (hf:Fr [bc] w w') (ht:TabAt w' bt bc cap rest t'):Mm w0 F (cs.set i (cTab bt bc cap rest t')) w' :=
 h.swap i hi (c':=cTab bt bc cap rest t') (hf.mono fun x hx=>.inl (by simp [cTab] at hx ⊢; exact .inr hx)) ht (fun b hb=>.inl hb) (cTab_nodup ht)
theorem Mm.pushTab (h:Mm w0 F cs w) {bt bc cap:Nat} {rest:List Value} {t:BT} (hf:Fr [] w w') (ht:TabAt w' bt bc cap rest t) (h1:w.heap.size≤bt) (h2:w.heap.size≤bc):Mm w0 F (cs++[cTab bt bc cap rest t]) w' :=
 h.push (c:=cTab bt bc cap rest t) hf ht (fun b hb=>by simp [cTab] at hb; omega) (cTab_nodup ht)
end
end
theorem cellAt_ok {t:BT} (h:t.Ok) (i:Nat):(t.cellAt i).Ok:=by
 unfold BT.cellAt
 rw [List.getD_eq_getElem?_getD]
 cases hq:t.cells[i]? with
 | none=>exact BC.Ok.zero
 | some c=>exact h.cells c (List.mem_of_getElem? hq)
def BC.sub (c d : BC) : BC := c.add d.keys (-d.count) d.checks
def BT.sub (t u : BT) : BT := ⟨List.zipWith BC.sub t.cells u.cells, t.seed⟩
def subTo (t u : BT) (l : List BC) (i : Nat) : List BC := (t.sub u).cells.take i ++ l.drop i
theorem BC.Ok.sub {c d:BC} (h1:c.Ok) (h2:d.Ok):(c.sub d).Ok:=by
 have:=part_ok h1 h2.keys (-d.count) h2.checks 32
 rwa [part_all c d.keys (-d.count) d.checks h1.keys h2.keys] at this
theorem sub_len {t u:BT} (h:u.cells.length=t.cells.length):(t.sub u).cells.length=t.cells.length:=by simp [BT.sub,h]
theorem sub_ok {t u:BT} (h1:t.Ok) (h2:u.Ok):(t.sub u).Ok:=by
 refine ⟨fun c hc=>?_,h1.seed⟩
 obtain ⟨i,hi,rfl⟩:=List.mem_iff_getElem.1 hc
 simp only [BT.sub,List.length_zipWith] at hi
 simp only [BT.sub,List.getElem_zipWith]
 exact BC.Ok.sub (h1.cells _ (List.getElem_mem _)) (h2.cells _ (List.getElem_mem _))
theorem sub_get {t u:BT} {i:Nat} {c d:BC} (hc:t.cells[i]?=some c) (hd:u.cells[i]?=some d):(t.sub u).cells[i]?=some (c.sub d):=by
 simp [BT.sub,List.getElem?_zipWith,hc,hd]
theorem subTo_zero (t u:BT) (l:List BC):subTo t u l 0=l:=by simp [subTo]
theorem subTo_all {t u:BT} {l:List BC} (h:u.cells.length=t.cells.length) (hl:l.length=t.cells.length):subTo t u l t.cells.length=(t.sub u).cells:=by
 unfold subTo
 rw [List.take_of_length_le (by rw [sub_len h]; exact Nat.le_refl _),List.drop_of_length_le (by omega),List.append_nil]
theorem subTo_len {t u:BT} {l:List BC} (h:u.cells.length=t.cells.length) (hl:l.length=t.cells.length) (i:Nat) (hi:i≤t.cells.length):(subTo t u l i).length=t.cells.length:=by
 unfold subTo
 rw [List.length_append,List.length_take,List.length_drop,sub_len h,hl]
 omega
theorem subTo_at {t u:BT} {l:List BC} (h:u.cells.length=t.cells.length) (i:Nat) (hi:i < t.cells.length):(subTo t u l i)[i]?=l[i]?:=by
 unfold subTo
 have h1:((t.sub u).cells.take i).length=i:=by rw [List.length_take,sub_len h]; omega
 rw [List.getElem?_append_right (by omega),h1,List.getElem?_drop]
 simp
theorem subTo_succ {t u:BT} {l:List BC} (h:u.cells.length=t.cells.length) (hl:l.length=t.cells.length) {i:Nat} {x:BC} (hi:i < t.cells.length) (hx:(t.sub u).cells[i]?=some x):(subTo t u l i).set i x=subTo t u l (i+1):=by
 unfold subTo
 have h1:((t.sub u).cells.take i).length=i:=by rw [List.length_take,sub_len h]; omega
 obtain ⟨h2,h3⟩:=List.getElem?_eq_some_iff.1 hx
 rw [List.set_append_right _ _ (by omega),h1,Nat.sub_self,List.take_succ_eq_append_getElem h2,h3,List.drop_eq_getElem_cons (by omega),List.set_cons_zero]
 simp
theorem subTo_ok {t u:BT} {l:List BC} (h1:t.Ok) (h2:u.Ok) (hl:Ok34 l) (i:Nat):Ok34 (subTo t u l i):=by
 intro c hc
 rcases List.mem_append.1 hc with hc | hc
 ·exact (sub_ok h1 h2).cells c (List.mem_of_mem_take hc)
 ·exact hl c (List.mem_of_mem_drop hc)
theorem Ok34.set {l:List BC} (h:Ok34 l) (i:Nat) {c:BC} (hc:c.Ok):Ok34 (l.set i c):=by
 intro x hx
 rcases List.mem_or_eq_of_mem_set hx with hx | rfl
 ·exact h x hx
 ·exact hc
theorem tabCell {w:World} {bt bc c:Nat} {rest:List Value} {t:BT} (h:TabAt w bt bc c rest t) {i:Nat} {cc:BC} (hc:t.cells[i]?=some cc) (j:Nat) (v:Value) (hj:cc.cells[j]?=some v):w.cell? ⟨bc,i*34+j,none⟩=some v:=by
 have hj34:=(List.getElem?_eq_some_iff.1 hj).1
 rw [BC.cells_len (h.ok.cells cc (List.mem_of_getElem? hc))] at hj34
 rw [h.cells.cell,tcells_get h.ok.cells rest i cc hc j hj34]
 exact hj
theorem Mm.pushTwo {w0 w w':World} {F:List Nat} {cs:List Ch} {b b':Nat} {t t':TypeId} {l l':List Value} (h:Mm w0 F cs w) (hf:Fr [] w w') (h1:At w' b t l) (h2:At w' b' t' l') (g1:w.heap.size≤b) (g2:w.heap.size≤b') (hne:b≠b'):Mm w0 F (cs++[cAt b t l,cAt b' t' l']) w':=by
 refine h.lift (cs':=[cAt b t l,cAt b' t' l']) ⟨hf,?_,?_,?_⟩
 ·intro c hc
  rcases List.mem_cons.1 hc with rfl | hc
  ·exact h1
  ·rw [List.mem_singleton] at hc; subst hc; exact h2
 ·simp [cAt]; exact hne
 ·intro x hx
  simp [cAt] at hx
  right
  omega
theorem Mm.toTab {w0 w:World} {b b' n cap seed:Nat} {rest:List Value} {t:BT} {l:List BC} (h:Mm w0 [] [cAt b 174 [.slice (some ⟨b',0,none⟩) n cap,.int .u64 (seed:Int)],cAt b' 183 (tcells l++rest)] w) (hn:t.cells.length=n) (hs:t.seed=seed) (hl:l=t.cells) (hok:t.Ok) (hz:isSz (n:Int)=true) (hc:n≤cap):Mm w0 [] [cTab b b' cap rest t] w:=by
 subst hn hs hl
 refine ⟨h.fr,?_,?_,?_⟩
 ·intro c hc'
  rw [List.mem_singleton] at hc'
  subst hc'
  exact ⟨h.at (i:=0) rfl,h.at (i:=1) rfl,hok,hz,hc⟩
 ·have:=h.nodup
  simpa [cTab,cAt] using this
 ·intro x hx
  exact h.own x (by simpa [cTab,cAt] using hx)
theorem subtract_len (bt1 bc1 cap1 bt2 bc2 cap2:Nat) (rest1 rest2:List Value) (t u:BT) (w:World) (ht:TabAt w bt1 bc1 cap1 rest1 t) (hu:TabAt w bt2 bc2 cap2 rest2 u) (hne:t.cells.length≠u.cells.length) :
  Calls Tryz.prog 78 #[Value.pointer (some ⟨bt1,0,none⟩),Value.pointer (some ⟨bt2,0,none⟩)] w fun e w'=>e = .returned (.tuple #[.pointer none,Value.int .i64 1])∧Fr [] w w':=by
 have h1c:w.cell? ⟨bt1,0,none⟩=some (.slice (some ⟨bc1,0,none⟩) t.cells.length cap1):=by rw [ht.tab.cell]; rfl
 have h1s:w.cell? ⟨bt1,1,none⟩=some (.int .u64 (t.seed:Int)):=by rw [ht.tab.cell]; rfl
 have h2c:w.cell? ⟨bt2,0,none⟩=some (.slice (some ⟨bc2,0,none⟩) u.cells.length cap2):=by rw [hu.tab.cell]; rfl
 have h2s:w.cell? ⟨bt2,1,none⟩=some (.int .u64 (u.seed:Int)):=by rw [hu.tab.cell]; rfl
 obtain ⟨n,HN⟩:∃ n,Hid (n=t.cells.length):=⟨_,rfl⟩
 obtain ⟨seed,HS⟩:∃ seed,Hid (seed=t.seed):=⟨_,rfl⟩
 rw [← HN.out] at h1c
 rw [← HS.out] at h1s
 obtain ⟨n2,HN2⟩:∃ n,Hid (n=u.cells.length):=⟨_,rfl⟩
 obtain ⟨seed2,HS2⟩:∃ seed,Hid (seed=u.seed):=⟨_,rfl⟩
 rw [← HN2.out] at h2c
 rw [← HS2.out] at h2s
 have hnn:n≠n2:=by rw [HN.out,HN2.out]; exact hne
 clear hne
 refine sE2 Tryz.func78 99 (Mm.start w []) ?_
 refine stSeq (reg (la ?_))
 refine la ?_
 refine liNil (qThen (stSeq (stSeq (anyBegin [] 22 (by kernel_rfl) (fun _ h=>h) ?_))))
 refine am 0 ?_
 refine ac 1 (vP bt1 0) ?_
 refine ac 2 (vP bt1 0) ?_
 refine av 3 _ rfl (rW (fun w hM=>hM.old (h1c) (by simp))) ?_
 refine ac 4 (vI n) ?_
 refine am 5 ?_
 refine ac 6 (vP bt2 0) ?_
 refine ac 7 (vP bt2 0) ?_
 refine av 8 _ rfl (rW (fun w hM=>hM.old (h2c) (by simp))) ?_
 refine ac 9 (vI n2) ?_
 refine ac 10 (.bool ((((n:Nat):Int):Int) != ((n2:Nat):Int))) ?_
 refine am 11 ?_
 refine Any.known 22 (b':=true) rfl (by simp; omega) ?_
 refine anyNot (i:=12) (b:=true) rfl rfl rfl rfl (by kernel_rfl) (by kernel_rfl) (fun _ _ _ h=>h) ?_
 refine anyNot (i:=13) (b:=true) rfl rfl rfl rfl (by kernel_rfl) (by kernel_rfl) (fun _ _ _ h=>h) ?_
 refine anyNot (i:=14) (b:=true) rfl rfl rfl rfl (by kernel_rfl) (by kernel_rfl) (fun _ _ _ h=>h) ?_
 refine anyNot (i:=15) (b:=true) rfl rfl rfl rfl (by kernel_rfl) (by kernel_rfl) (fun _ _ _ h=>h) ?_
 refine anyNot (i:=16) (b:=true) rfl rfl rfl rfl (by kernel_rfl) (by kernel_rfl) (fun _ _ _ h=>h) ?_
 refine anyNot (i:=17) (b:=true) rfl rfl rfl rfl (by kernel_rfl) (by kernel_rfl) (fun _ _ _ h=>h) ?_
 refine anyNot (i:=18) (b:=true) rfl rfl rfl rfl (by kernel_rfl) (by kernel_rfl) (fun _ _ _ h=>h) ?_
 refine anyNot (i:=19) (b:=true) rfl rfl rfl rfl (by kernel_rfl) (by kernel_rfl) (fun _ _ _ h=>h) ?_
 refine anyNot (i:=20) (b:=true) rfl rfl rfl rfl (by kernel_rfl) (by kernel_rfl) (fun _ _ _ h=>h) ?_
 refine ac 21 (.bool true) ?_
 refine anyDone (by kernel_rfl) ?_
 refine qThen (stTrue rfl ?_)
 refine stSeq (reg (la ?_))
 refine la ?_
 refine liNil (qThen (stRet (qThenR (sN [(.pointer none),(.int .i64 1)] fun w hM=>?_))))
 exact ⟨rfl,hM.fr⟩
theorem subtract_seed (bt1 bc1 cap1 bt2 bc2 cap2:Nat) (rest1 rest2:List Value) (t u:BT) (w:World) (ht:TabAt w bt1 bc1 cap1 rest1 t) (hu:TabAt w bt2 bc2 cap2 rest2 u) (heq:t.cells.length=u.cells.length) (hne:t.seed≠u.seed) :
  Calls Tryz.prog 78 #[Value.pointer (some ⟨bt1,0,none⟩),Value.pointer (some ⟨bt2,0,none⟩)] w fun e w'=>e = .returned (.tuple #[.pointer none,Value.int .i64 1])∧Fr [] w w':=by
 have h1c:w.cell? ⟨bt1,0,none⟩=some (.slice (some ⟨bc1,0,none⟩) t.cells.length cap1):=by rw [ht.tab.cell]; rfl
 have h1s:w.cell? ⟨bt1,1,none⟩=some (.int .u64 (t.seed:Int)):=by rw [ht.tab.cell]; rfl
 have h2c:w.cell? ⟨bt2,0,none⟩=some (.slice (some ⟨bc2,0,none⟩) u.cells.length cap2):=by rw [hu.tab.cell]; rfl
 have h2s:w.cell? ⟨bt2,1,none⟩=some (.int .u64 (u.seed:Int)):=by rw [hu.tab.cell]; rfl
 obtain ⟨n,HN⟩:∃ n,Hid (n=t.cells.length):=⟨_,rfl⟩
 obtain ⟨seed,HS⟩:∃ seed,Hid (seed=t.seed):=⟨_,rfl⟩
 rw [← HN.out] at h1c
 rw [← HS.out] at h1s
 obtain ⟨seed2,HS2⟩:∃ seed,Hid (seed=u.seed):=⟨_,rfl⟩
 rw [← heq,← HN.out] at h2c
 rw [← HS2.out] at h2s
 have hnn:seed≠seed2:=by rw [HS.out,HS2.out]; exact hne
 clear hne
 refine sE2 Tryz.func78 99 (Mm.start w []) ?_
 refine stSeq (reg (la ?_))
 refine la ?_
 refine liNil (qThen (stSeq (stSeq (anyBegin [] 22 (by kernel_rfl) (fun _ h=>h) ?_))))
 refine am 0 ?_
 refine ac 1 (vP bt1 0) ?_
 refine ac 2 (vP bt1 0) ?_
 refine av 3 _ rfl (rW (fun w hM=>hM.old (h1c) (by simp))) ?_
 refine ac 4 (vI n) ?_
 refine am 5 ?_
 refine ac 6 (vP bt2 0) ?_
 refine ac 7 (vP bt2 0) ?_
 refine av 8 _ rfl (rW (fun w hM=>hM.old (h2c) (by simp))) ?_
 refine ac 9 (vI n) ?_
 refine av 10 (.bool false) rfl (rConv (v:=.bool ((((n:Nat):Int):Int) != ((n:Nat):Int))) (rClosed fun _=>by kernel_rfl) (by simp)) ?_
 refine am 11 ?_
 refine anyValG (i:=12) (vP bt1 0) rfl rfl rfl rfl (by kernel_rfl) (by kernel_rfl) (fun _ _ _ h=>h) (rMove rfl rfl) ?_
 refine anyValG (i:=13) (vP bt1 0) rfl rfl rfl rfl (by kernel_rfl) (by kernel_rfl) (fun _ _ _ h=>h) (rClosed fun _=>by kernel_rfl) ?_
 refine anyValG (i:=14) (vP bt1 1) rfl rfl rfl rfl (by kernel_rfl) (by kernel_rfl) (fun _ _ _ h=>h) (rClosed fun _=>by kernel_rfl) ?_
 refine anyValG (i:=15) (vU seed) rfl rfl rfl rfl (by kernel_rfl) (by kernel_rfl) (fun _ _ _ h=>h) (rLoadW rfl rfl (by kernel_rfl) (fun w hM=>hM.old (h1s) (by simp))) ?_
 refine anyValG (i:=16) (vP bt2 0) rfl rfl rfl rfl (by kernel_rfl) (by kernel_rfl) (fun _ _ _ h=>h) (rMove rfl rfl) ?_
 refine anyValG (i:=17) (vP bt2 0) rfl rfl rfl rfl (by kernel_rfl) (by kernel_rfl) (fun _ _ _ h=>h) (rClosed fun _=>by kernel_rfl) ?_
 refine anyValG (i:=18) (vP bt2 1) rfl rfl rfl rfl (by kernel_rfl) (by kernel_rfl) (fun _ _ _ h=>h) (rClosed fun _=>by kernel_rfl) ?_
 refine anyValG (i:=19) (vU seed2) rfl rfl rfl rfl (by kernel_rfl) (by kernel_rfl) (fun _ _ _ h=>h) (rLoadW rfl rfl (by kernel_rfl) (fun w hM=>hM.old (h2s) (by simp))) ?_
 refine anyValG (i:=20) (.bool (((seed:Nat):Int) != ((seed2:Nat):Int))) rfl rfl rfl rfl (by kernel_rfl) (by kernel_rfl) (fun _ _ _ h=>h) (rClosed fun _=>by kernel_rfl) ?_
 refine av 21 (.bool true) rfl (rConv (v:=.bool (((seed:Nat):Int) != ((seed2:Nat):Int))) (rClosed fun _=>by kernel_rfl) (by simp; omega)) ?_
 refine anyDone (by kernel_rfl) ?_
 refine qThen (stTrue rfl ?_)
 refine stSeq (reg (la ?_))
 refine la ?_
 refine liNil (qThen (stRet (qThenR (sN [(.pointer none),(.int .i64 1)] fun w hM=>?_))))
 exact ⟨rfl,hM.fr⟩
theorem subtract_ok (bt1 bc1 cap1 bt2 bc2 cap2:Nat) (rest1 rest2:List Value) (t u:BT) (w:World) (ht:TabAt w bt1 bc1 cap1 rest1 t) (hu:TabAt w bt2 bc2 cap2 rest2 u) (heq:t.cells.length=u.cells.length) (hse:t.seed=u.seed) :
  Calls Tryz.prog 78 #[Value.pointer (some ⟨bt1,0,none⟩),Value.pointer (some ⟨bt2,0,none⟩)] w fun e w'=>∃ btr bcr capr restr,e = .returned (.tuple #[Value.pointer (some ⟨btr,0,none⟩),Value.int .i64 0])∧Mm w [] [cTab btr bcr capr restr (t.sub u)] w':=by
 have h1c:w.cell? ⟨bt1,0,none⟩=some (.slice (some ⟨bc1,0,none⟩) t.cells.length cap1):=by rw [ht.tab.cell]; rfl
 have h1s:w.cell? ⟨bt1,1,none⟩=some (.int .u64 (t.seed:Int)):=by rw [ht.tab.cell]; rfl
 have h2c:w.cell? ⟨bt2,0,none⟩=some (.slice (some ⟨bc2,0,none⟩) u.cells.length cap2):=by rw [hu.tab.cell]; rfl
 have h2s:w.cell? ⟨bt2,1,none⟩=some (.int .u64 (u.seed:Int)):=by rw [hu.tab.cell]; rfl
 obtain ⟨n,HN⟩:∃ n,Hid (n=t.cells.length):=⟨_,rfl⟩
 obtain ⟨seed,HS⟩:∃ seed,Hid (seed=t.seed):=⟨_,rfl⟩
 rw [← HN.out] at h1c
 rw [← HS.out] at h1s
 rw [← heq,← HN.out] at h2c
 rw [← hse,← HS.out] at h2s
 have n4:n≤3072:=by rw [HN.out]; exact (isSz_bounds ht.size).2.1
 have HT:=Lib.hid ht
 have HU:=Lib.hid hu
 have HUL:Hid (u.cells.length=n):=by show _=_; rw [HN.out]; exact heq.symm
 clear ht hu heq hse
 refine sE2 Tryz.func78 99 (Mm.start w []) ?_
 refine stSeq (reg (la ?_))
 refine la ?_
 refine liNil (qThen (stSeq (stSeq (anyBegin [] 22 (by kernel_rfl) (fun _ h=>h) ?_))))
 refine am 0 ?_
 refine ac 1 (vP bt1 0) ?_
 refine ac 2 (vP bt1 0) ?_
 refine av 3 _ rfl (rW (fun w hM=>hM.old (h1c) (by simp))) ?_
 refine ac 4 (vI n) ?_
 refine am 5 ?_
 refine ac 6 (vP bt2 0) ?_
 refine ac 7 (vP bt2 0) ?_
 refine av 8 _ rfl (rW (fun w hM=>hM.old (h2c) (by simp))) ?_
 refine ac 9 (vI n) ?_
 refine av 10 (.bool false) rfl (rConv (v:=.bool ((((n:Nat):Int):Int) != ((n:Nat):Int))) (rClosed fun _=>by kernel_rfl) (by simp)) ?_
 refine am 11 ?_
 refine anyValG (i:=12) (vP bt1 0) rfl rfl rfl rfl (by kernel_rfl) (by kernel_rfl) (fun _ _ _ h=>h) (rMove rfl rfl) ?_
 refine anyValG (i:=13) (vP bt1 0) rfl rfl rfl rfl (by kernel_rfl) (by kernel_rfl) (fun _ _ _ h=>h) (rClosed fun _=>by kernel_rfl) ?_
 refine anyValG (i:=14) (vP bt1 1) rfl rfl rfl rfl (by kernel_rfl) (by kernel_rfl) (fun _ _ _ h=>h) (rClosed fun _=>by kernel_rfl) ?_
 refine anyValG (i:=15) (vU seed) rfl rfl rfl rfl (by kernel_rfl) (by kernel_rfl) (fun _ _ _ h=>h) (rLoadW rfl rfl (by kernel_rfl) (fun w hM=>hM.old (h1s) (by simp))) ?_
 refine anyValG (i:=16) (vP bt2 0) rfl rfl rfl rfl (by kernel_rfl) (by kernel_rfl) (fun _ _ _ h=>h) (rMove rfl rfl) ?_
 refine anyValG (i:=17) (vP bt2 0) rfl rfl rfl rfl (by kernel_rfl) (by kernel_rfl) (fun _ _ _ h=>h) (rClosed fun _=>by kernel_rfl) ?_
 refine anyValG (i:=18) (vP bt2 1) rfl rfl rfl rfl (by kernel_rfl) (by kernel_rfl) (fun _ _ _ h=>h) (rClosed fun _=>by kernel_rfl) ?_
 refine anyValG (i:=19) (vU seed) rfl rfl rfl rfl (by kernel_rfl) (by kernel_rfl) (fun _ _ _ h=>h) (rLoadW rfl rfl (by kernel_rfl) (fun w hM=>hM.old (h2s) (by simp))) ?_
 refine anyValG (i:=20) (.bool false) rfl rfl rfl rfl (by kernel_rfl) (by kernel_rfl) (fun _ _ _ h=>h) (rConv (v:=.bool ((((seed:Nat):Int):Int) != ((seed:Nat):Int))) (rClosed fun _=>by kernel_rfl) (by simp)) ?_
 refine ac 21 (.bool false) ?_
 refine anyDone (by kernel_rfl) ?_
 refine qThen (stFalse rfl ?_)
 refine stSkip (qThen (stSeq (reg (lm ?_))))
 refine li rfl (opCall 126 #[(vP bt1 0)] rfl (by kernel_rfl) (fun _=>by kernel_rfl) (fun w hM=>?_))
 refine (clone_any bt1 bc1 cap1 rest1 t w (HT.out.fr hM.fr (by simp) (by simp))).mono ?_
 rintro e w' ⟨btr,bcr,capr,restr,rfl,hg1,hg2,hf,ht⟩
 have hM':=hM.pushTwo hf (by show At _ _ _ _; rw [HN.out,HS.out]; exact ht.tab:At w' btr 174 [.slice (some ⟨bcr,0,none⟩) n capr,.int .u64 (seed:Int)]) (by rw [subTo_zero]; exact ht.cells:At w' bcr 183 (tcells (subTo t u t.cells 0)++restr)) hg1 hg2 ht.ne
 have hcap:=ht.cap
 rw [← HN.out] at hcap
 refine ⟨_,_,rfl,hM',?_⟩
 clear hM hM' hf ht hg1 hg2
 refine la ?_
 refine liNil (qThen (stSeq (stSeq (reg (lm ?_)))))
 refine lc (vP btr 0) ?_
 refine lc (vP btr 0) ?_
 refine ll 0 ?_
 refine lc (vI n) ?_
 refine lm ?_
 refine liNil (qThen (stBlock (sL (fun i=>i≤n) (fun i=>n - i) (fun i=>[(1,(vP bt2 0)),(6,(vP btr 0)),(39,(vI n)),(40,(vI i))]) (fun i=>[cAt btr 174 [(.slice (some ⟨bcr,0,none⟩) (n) (capr)),(vU seed)],cAt bcr 183 (tcells (subTo t u t.cells i)++restr)]) 0 (Nat.zero_le _) (fun _ h=>h) ?_)))
 intro i (hi:i≤n)
 show St _ _ _ [(1,(vP bt2 0)),(6,(vP btr 0)),(39,(vI n)),(40,(vI i))] [cAt btr 174 [(.slice (some ⟨bcr,0,none⟩) (n) (capr)),(vU seed)],cAt bcr 183 (tcells (subTo t u t.cells i)++restr)] _
 refine stSeq (reg (lc (.bool (decide (((i:Nat):Int) < ((n:Nat):Int)))) ?_))
 refine liNil (qThen (stSeq (stCond rfl (fun hc41=>?_) (fun hc41=>?_))))
 ·have hd41:=of_decide_eq_true hc41
  have hlt:i < n:=by omega
  obtain ⟨cc,hc⟩:∃ cc,t.cells[i]?=some cc:=⟨_,List.getElem?_eq_getElem (by rw [← HN.out]; exact hlt)⟩
  obtain ⟨dd,hd⟩:∃ dd,u.cells[i]?=some dd:=⟨_,List.getElem?_eq_getElem (by rw [HUL.out]; exact hlt)⟩
  have hcok:=HT.out.ok.cells cc (List.mem_of_getElem? hc)
  have hdok:=HU.out.ok.cells dd (List.mem_of_getElem? hd)
  obtain ⟨cl,HCL⟩:∃ cl,Hid (cl=subTo t u t.cells i):=⟨_,rfl⟩
  have hcll:cl.length=n:=by rw [HCL.out,subTo_len (by rw [HUL.out,HN.out]) rfl i (by rw [← HN.out]; omega),HN.out]
  have hok:Ok34 cl:=by rw [HCL.out]; exact subTo_ok HT.out.ok HU.out.ok HT.out.ok.cells i
  have hci:cl[i]?=some cc:=by rw [HCL.out,subTo_at (by rw [HUL.out,HN.out]) i (by rw [← HN.out]; exact hlt)]; exact hc
  have HSU:Hid (subTo t u t.cells (i+1)=cl.set i (cc.sub dd)):=by show _=_; rw [HCL.out,subTo_succ (by rw [HUL.out,HN.out]) rfl (by rw [← HN.out]; exact hlt) (sub_get hc hd)]
  have hlen1:(tcells cl++restr).length=n*34+restr.length:=by rw [List.length_append,tcells_len hok,hcll]
  rw [← HCL.out]
  refine stSkip (qThen (stSeq (stBlock (stSeq (reg (lm ?_))))))
  refine la ?_
  refine liNil (qThen (stSeq (anyBegin _ 14 (by kernel_rfl) (fun _ h=>h) ?_)))
  refine am 0 ?_
  refine ac 1 (vP btr 0) ?_
  refine ac 2 (vP btr 0) ?_
  refine al 3 0 ?_
  refine am 4 ?_
  refine av 5 (.pointer (some ⟨bcr,0+i*34,none⟩)) rfl (rIndexAddr (e:=183) (sz:=34) rfl (by kernel_rfl) (by kernel_rfl) rfl rfl (by omega)) ?_
  refine am 6 ?_
  refine ac 7 (vP bt2 0) ?_
  refine ac 8 (vP bt2 0) ?_
  refine av 9 _ rfl (rW (fun w hM=>hM.old (h2c) (by simp))) ?_
  refine am 10 ?_
  refine av 11 (.pointer (some ⟨bc2,0+i*34,none⟩)) rfl (rIndexAddr (e:=183) (sz:=34) rfl (by kernel_rfl) (by kernel_rfl) rfl rfl (by omega)) ?_
  refine aa 12 ?_
  refine aa 13 ?_
  refine anyDone (by kernel_rfl) ?_
  refine qThen (stSeq (anyBegin _ 11 (by kernel_rfl) (fun _ h=>h) ?_))
  refine am 0 ?_
  refine ac 1 (.pointer (some ⟨bcr,0+i*34,none⟩)) ?_
  refine ac 2 (.pointer (some ⟨bcr,0+i*34,none⟩)) ?_
  refine av 3 (.int .i64 cc.count) rfl (rLoad 1 rfl rfl (by kernel_rfl) rfl (by rw [Nat.zero_add]; exact (tcells_get hok restr i cc hci 0 (by omega)).trans (cells_get0 cc))) ?_
  refine am 4 ?_
  refine ac 5 (.pointer (some ⟨bc2,0+i*34,none⟩)) ?_
  refine ac 6 (.pointer (some ⟨bc2,0+i*34,none⟩)) ?_
  refine av 7 (.int .i64 dd.count) rfl (rLoadW rfl rfl (by kernel_rfl) (fun w hM=>hM.old (by rw [Nat.zero_add]; exact tabCell HU.out hd 0 _ (cells_get0 dd)) (by simp))) ?_
  refine av 8 (.int .i64 (IntKind.i64.wrap (cc.count + -dd.count))) rfl (rConv (v:=.int .i64 (IntKind.i64.wrap (cc.count - dd.count))) (rClosed fun _=>by kernel_rfl) (by rw [Int.sub_eq_add_neg])) ?_
  refine ac 9 (.pointer (some ⟨bcr,0+i*34,none⟩)) ?_
  refine ac 10 (.pointer (some ⟨bcr,0+i*34,none⟩)) ?_
  refine anyOne (i:=11) (by kernel_rfl) rfl rfl ?_
  refine opStore1 1 rfl rfl (by kernel_rfl) rfl rfl rfl (by kernel_rfl) rfl (by rw [hlen1]; omega) ?_
  refine anyLast (by kernel_rfl) rfl ?_
  refine qThen (stSeq ?_)
  obtain ⟨cc1,HC1⟩:∃ cc1:BC,Hid (cc1=(⟨IntKind.i64.wrap (cc.count + -dd.count),cc.keys,cc.checks⟩:BC)):=⟨_,rfl⟩
  have hc1ok:cc1.Ok:=by rw [HC1.out]; exact ⟨(part_ok hcok hdok.keys (-dd.count) hdok.checks 0).count,hcok.keys,hcok.checks⟩
  have hok1:Ok34 (cl.set i cc1):=hok.set i hc1ok
  have hci1:(cl.set i cc1)[i]?=some cc1:=List.getElem?_set_self (by omega)
  have hlen2:(tcells (cl.set i cc1)++restr).length=n*34+restr.length:=by rw [List.length_append,tcells_len hok1,List.length_set,hcll]
  refine St.mem (cs':=[cAt btr 174 [(.slice (some ⟨bcr,0,none⟩) (n) (capr)),(vU seed)],cAt bcr 183 (tcells (cl.set i cc1)++restr)]) (fun w hM=>by rw [← tcells_set hok restr i cc hci 0 (by omega) _ cc1 (by rw [HC1.out]; exact cells_set0 cc _)]; rw [Nat.zero_add] at hM; exact hM) ?_
  refine anyBegin _ 11 (by kernel_rfl) (fun _ h=>h) ?_
  refine am 0 ?_
  refine ac 1 (.pointer (some ⟨bcr,0+i*34,none⟩)) ?_
  refine ac 2 (.pointer (some ⟨bcr,0+i*34+33,none⟩)) ?_
  refine av 3 (vU cc.checks) rfl (rLoad 1 rfl rfl (by kernel_rfl) rfl (by rw [Nat.zero_add]; exact (tcells_get hok1 restr i cc1 hci1 33 (by omega)).trans (by rw [cells_get33 hc1ok.keys,HC1.out]))) ?_
  refine am 4 ?_
  refine ac 5 (.pointer (some ⟨bc2,0+i*34,none⟩)) ?_
  refine ac 6 (.pointer (some ⟨bc2,0+i*34+33,none⟩)) ?_
  refine av 7 (vU dd.checks) rfl (rLoadW rfl rfl (by kernel_rfl) (fun w hM=>hM.old (by rw [Nat.zero_add]; exact tabCell HU.out hd 33 _ (cells_get33 hdok.keys)) (by simp))) ?_
  refine av 8 (vU (cc.checks ^^^ dd.checks)) rfl (rBits .xor (by simp) _ rfl rfl rfl (u64_xor_nat _ _ hcok.checks hdok.checks)) ?_
  refine ac 9 (.pointer (some ⟨bcr,0+i*34,none⟩)) ?_
  refine ac 10 (.pointer (some ⟨bcr,0+i*34+33,none⟩)) ?_
  refine anyOne (i:=11) (by kernel_rfl) rfl rfl ?_
  refine opStore1 1 rfl rfl (by kernel_rfl) rfl rfl rfl (by kernel_rfl) rfl (by rw [hlen2]; omega) ?_
  refine anyLast (by kernel_rfl) rfl ?_
  refine qThen (stSeq ?_)
  have hp0:(cl.set i cc1).set i (cc.part dd.keys (-dd.count) dd.checks 0)=cl.set i (cc.part dd.keys (-dd.count) dd.checks 0):=by rw [List.set_set]
  refine St.mem (cs':=[cAt btr 174 [(.slice (some ⟨bcr,0,none⟩) (n) (capr)),(vU seed)],cAt bcr 183 (tcells (cl.set i (cc.part dd.keys (-dd.count) dd.checks 0))++restr)]) (fun w hM=>by rw [← hp0,← tcells_set hok1 restr i cc1 hci1 33 (by omega) (vU (cc.checks ^^^ dd.checks)) (cc.part dd.keys (-dd.count) dd.checks 0) (by rw [part_zero,← cells_set33 hc1ok.keys,HC1.out])]; rw [Nat.zero_add] at hM; exact hM) ?_
  refine reg (lm ?_)
  refine liNil (qThen (stBlock (sL (fun j=>j≤32) (fun j=>32 - j) (fun j=>[(1,(vP bt2 0)),(6,(vP btr 0)),(8,(.pointer (some ⟨bcr,0+i*34,none⟩))),(9,(.pointer (some ⟨bc2,0+i*34,none⟩))),(39,(vI n)),(40,(vI i)),(77,(vI j))]) (fun j=>[cAt btr 174 [(.slice (some ⟨bcr,0,none⟩) (n) (capr)),(vU seed)],cAt bcr 183 (tcells (cl.set i (cc.part dd.keys (-dd.count) dd.checks j))++restr)]) 0 (Nat.zero_le _) (fun _ h=>h) ?_)))
  intro j (hj:j≤32)
  show St _ _ _ [(1,(vP bt2 0)),(6,(vP btr 0)),(8,(.pointer (some ⟨bcr,0+i*34,none⟩))),(9,(.pointer (some ⟨bc2,0+i*34,none⟩))),(39,(vI n)),(40,(vI i)),(77,(vI j))] [cAt btr 174 [(.slice (some ⟨bcr,0,none⟩) (n) (capr)),(vU seed)],cAt bcr 183 (tcells (cl.set i (cc.part dd.keys (-dd.count) dd.checks j))++restr)] _
  refine stSeq (reg (lc (.bool (decide (((j:Nat):Int) < 32))) ?_))
  refine liNil (qThen (stSeq (stCond rfl (fun hc78=>?_) (fun hc78=>?_))))
  ·have hd78:=of_decide_eq_true hc78
   have hj2:j < 32:=by omega
   obtain ⟨x,hx⟩:∃ x,cc.keys[j]?=some x:=⟨_,List.getElem?_eq_getElem (by rw [hcok.keys]; exact hj2)⟩
   obtain ⟨y,hy⟩:∃ y,dd.keys[j]?=some y:=⟨_,List.getElem?_eq_getElem (by rw [hdok.keys]; exact hj2)⟩
   have hpok:=part_ok hcok hdok.keys (-dd.count) hdok.checks j
   obtain ⟨pc,HPC⟩:∃ pc,Hid (pc=(cc.part dd.keys (-dd.count) dd.checks j)):=⟨_,rfl⟩
   rw [← HPC.out] at hpok ⊢
   have hokp:Ok34 (cl.set i pc):=hok.set i hpok
   have hcip:(cl.set i pc)[i]?=some pc:=List.getElem?_set_self (by omega)
   have hlen3:(tcells (cl.set i pc)++restr).length=n*34+restr.length:=by rw [List.length_append,tcells_len hokp,List.length_set,hcll]
   refine stSkip (qThen (stSeq (stBlock (stSeq (reg (lm ?_))))))
   refine la ?_
   refine liNil (qThen (anyBegin _ 16 (by kernel_rfl) (fun _ h=>h) ?_))
   refine am 0 ?_
   refine am 1 ?_
   refine ac 2 (.pointer (some ⟨bcr,0+i*34,none⟩)) ?_
   refine ac 3 (.pointer (some ⟨bcr,0+i*34+1,none⟩)) ?_
   refine av 4 (.pointer (some ⟨bcr,0+i*34+1+j,none⟩)) rfl (rIndexArr1 (e:=5) (m:=32) rfl (by kernel_rfl) (by kernel_rfl) rfl rfl (by omega)) ?_
   refine av 5 (.int .u8 ((x.toNat:Nat):Int)) rfl (rLoad 1 rfl rfl (by kernel_rfl) rfl (by rw [Nat.zero_add,Nat.add_assoc]; exact (tcells_get hokp restr i pc hcip (1+j) (by omega)).trans (by rw [HPC.out]; exact cells_getK j x (part_get dd.keys (-dd.count) dd.checks j x hx hdok.keys hcok.keys)))) ?_
   refine am 6 ?_
   refine am 7 ?_
   refine ac 8 (.pointer (some ⟨bc2,0+i*34,none⟩)) ?_
   refine ac 9 (.pointer (some ⟨bc2,0+i*34+1,none⟩)) ?_
   refine av 10 (.pointer (some ⟨bc2,0+i*34+1+j,none⟩)) rfl (rIndexArr1 (e:=5) (m:=32) rfl (by kernel_rfl) (by kernel_rfl) rfl rfl (by omega)) ?_
   refine av 11 (.int .u8 ((y.toNat:Nat):Int)) rfl (rLoadW rfl rfl (by kernel_rfl) (fun w hM=>hM.old (by rw [Nat.zero_add,Nat.add_assoc]; exact tabCell HU.out hd (1+j) _ (cells_getK j y hy)) (by simp))) ?_
   refine av 12 (.int .u8 (((x ^^^ y).toNat:Nat):Int)) rfl (rBits .xor (by simp) _ rfl rfl rfl (u8_xor_u x y)) ?_
   refine ac 13 (.pointer (some ⟨bcr,0+i*34,none⟩)) ?_
   refine ac 14 (.pointer (some ⟨bcr,0+i*34+1,none⟩)) ?_
   refine av 15 (.pointer (some ⟨bcr,0+i*34+1+j,none⟩)) rfl (rIndexArr1 (e:=5) (m:=32) rfl (by kernel_rfl) (by kernel_rfl) rfl rfl (by omega)) ?_
   refine anyOne (i:=16) (by kernel_rfl) rfl rfl ?_
   refine opStore1 1 rfl rfl (by kernel_rfl) rfl rfl rfl (by kernel_rfl) rfl (by rw [hlen3]; omega) ?_
   refine anyLast (by kernel_rfl) rfl ?_
   refine qBlock ?_
   refine qThen ?_
   have hpj:(cl.set i pc).set i (cc.part dd.keys (-dd.count) dd.checks (j+1))=cl.set i (cc.part dd.keys (-dd.count) dd.checks (j+1)):=by rw [List.set_set]
   refine St.mem (cs':=[cAt btr 174 [(.slice (some ⟨bcr,0,none⟩) (n) (capr)),(vU seed)],cAt bcr 183 (tcells (cl.set i (cc.part dd.keys (-dd.count) dd.checks (j+1)))++restr)]) (fun w hM=>by rw [← hpj,← tcells_set hokp restr i pc hcip (1+j) (by omega) (.int .u8 (((x ^^^ y).toNat:Nat):Int)) (cc.part dd.keys (-dd.count) dd.checks (j+1)) (by rw [HPC.out,part_succ dd.keys (-dd.count) dd.checks j x y hx hy hcok.keys hdok.keys])]; rw [Nat.zero_add,Nat.add_assoc] at hM; exact hM) ?_
   refine reg (lv (v:=(vI (j+1))) rAd ?_)
   refine lm ?_
   exact liNil (qThen (sA (j+1) (by show _≤_; omega) (by show 32 - (j+1) < 32 - j; omega) (fun _ h=>h)))
  ·have hd78:=of_decide_eq_false hc78
   obtain rfl:j=32:=by omega
   refine St.mem (cs':=[cAt btr 174 [(.slice (some ⟨bcr,0,none⟩) (n) (capr)),(vU seed)],cAt bcr 183 (tcells (subTo t u t.cells (i+1))++restr)]) (fun w hM=>by rw [HSU.out]; rw [part_all cc dd.keys (-dd.count) dd.checks hcok.keys hdok.keys] at hM; exact hM) ?_
   refine stExit (qThenX (qThenX (qBlockX ?_)))
   refine qBlock ?_
   refine qThen (reg (lv (v:=(vI (i+1))) rAd ?_))
   refine lm ?_
   exact liNil (qThen (sA (i+1) (by show _≤_; omega) (by show n - (i+1) < n - i; omega) (fun _ h=>h)))
 ·have hd41:=of_decide_eq_false hc41
  obtain rfl:i=n:=by omega
  refine stExit (qThenX (qThenX (qBlockX ?_)))
  refine qThen (stSeq (reg (lm ?_)))
  refine la ?_
  refine la ?_
  refine liNil (qThen (stRet (sN [(vP btr 0),(.int .i64 0)] fun w hM=>?_)))
  exact ⟨btr,bcr,capr,restr,rfl,hM.toTab (by rw [sub_len (by rw [HUL.out,HN.out]),HN.out]) (by exact HS.out.symm) (by have e:=subTo_all (t:=t) (u:=u) (l:=t.cells) (by rw [HUL.out,HN.out]) rfl; rw [← HN.out] at e; exact e) (sub_ok HT.out.ok HU.out.ok) (by rw [HN.out]; exact HT.out.size) hcap⟩
end Go.Proofs.YtdflaaiondmjdaaGreatDoor
