/- Part 2 of a proof: what its row uses. -/
import Derived.Test.YtignomkdngnmgaaGreatDoorTk01
set_option maxRecDepth 100000
set_option maxHeartbeats 1000000
namespace Go.Proofs.YtignomkdngnmgaaGreatDoor
open Go.RowKit
structure BC where
 count : Int
 keys : List UInt8
 checks : Nat
def BC.zero : BC := ⟨0, List.replicate 32 0, 0⟩
def BC.cells (c : BC) : List Value := Value.int .i64 c.count :: (B8 c.keys ++ [.int .u64 (c.checks : Int)])
structure BC.Ok (c : BC) : Prop where
 count : mP c.count
 keys : c.keys.length = 32
 checks : cG c.checks
theorem BC.Ok.zero:BC.zero.Ok:=⟨by unfold mP; decide,rfl,by unfold cG; decide⟩
theorem BC.mY {c:BC} (h:c.Ok):c.cells.length=34:=by simp [BC.cells,dW,h.keys]
structure BT where
 cells : List BC
 seed : Nat
structure BT.Ok (t : BT) : Prop where
 cells : ∀ c ∈ t.cells, c.Ok
 seed : cG t.seed
def qR (s : Nat) : List UInt8 := [cY s 7, cY s 6, cY s 5, cY s 4, cY s 3, cY s 2, cY s 1, cY s 0]
def iL (l : List UInt8) : Nat → Nat
 | 0 => 0
 | k + 1 => iL l k * 256 + (l.getD k 0).toNat
def eB (seed i : Nat) (key : List UInt8) : Nat := iL (dM (qR seed ++ [UInt8.ofNat i] ++ key)) 8
def dB (n seed : Nat) (key : List UInt8) (i : Nat) : Nat := i * (n / 3) + eB seed i key % (n / 3)
def eW (n : Int) : Bool := decide (3 ≤ n) && decide (n ≤ 3072) && decide (n % 3 = 0)
theorem Ab (l:List UInt8):∀ k,iL l k < 256 ^ k
 | 0=>by simp [iL]
 | k+1=>by
   have ih:=Ab l k
   have hb:=UInt8.toNat_lt (l.getD k 0)
   rw [iL,Nat.pow_succ]
   omega
theorem uL (seed i:Nat) (key:List UInt8):cG (eB seed i key):=Ab _ 8
theorem wW (n seed:Nat) (key:List UInt8) (i:Nat) (hn:3≤n) (hi:i < 3):dB n seed key i < n:=by
 have h1:0 < n / 3:=om
 have h2:=Nat.mod_lt (eB seed i key) h1
 unfold dB
 have:i*(n / 3)≤2*(n / 3):=Nat.mul_le_mul_right _ om
 omega
theorem GI (n seed:Nat) (key key':List UInt8) (i j:Nat) (hn:3≤n) (hij:i < j):dB n seed key i < dB n seed key' j:=by
 have h1:0 < n / 3:=om
 have h2:=Nat.mod_lt (eB seed i key) h1
 unfold dB
 have:(i+1)*(n / 3)≤j*(n / 3):=Nat.mul_le_mul_right _ om
 have e:(i+1)*(n / 3)=i*(n / 3)+n / 3:=by rw [Nat.add_mul,Nat.one_mul]
 omega
def dR (a b : List UInt8) : List UInt8 := List.zipWith (fun x y => x ^^^ y) a b
theorem wX (a b:List UInt8) (h:a.length=b.length):(dR a b).length=a.length:=by simp [dR,h]
def BC.add (c : BC) (key : List UInt8) (aD : Int) (chk : Nat) : BC := ⟨IntKind.i64.wrap (c.count + aD), dR c.keys key, c.checks ^^^ chk⟩
theorem CD (n:Int):mP (IntKind.i64.wrap n):=by
 rw [IntKind.wrap_i64]
 unfold mP
 omega
theorem BC.Ok.add {c:BC} (h:c.Ok) {key:List UInt8} (hk:key.length=32) (aD:Int) {chk:Nat} (hc:cG chk):(c.add key aD chk).Ok :=
 ⟨CD _,by show (dR c.keys key).length=32; rw [wX _ _ (by rw [h.keys,hk])]; exact h.keys,Nat.xor_lt_two_pow (n:=64) h.checks hc⟩
def BT.eC (t : BT) (key : List UInt8) (aD : Int) (i : Nat) : BT := { t with cells := t.cells.modify (dB t.cells.length t.seed key i) fun c => c.add key aD (eB t.seed 3 key) }
def BT.change (t : BT) (key : List UInt8) (aD : Int) : BT := ((t.eC key aD 0).eC key aD 1).eC key aD 2
theorem BT.vZ (t:BT) (key:List UInt8) (aD:Int) (i:Nat):(t.eC key aD i).cells.length=t.cells.length:=by simp [BT.eC]
theorem BT.change_len (t:BT) (key:List UInt8) (aD:Int):(t.change key aD).cells.length=t.cells.length:=by simp [BT.change,BT.vZ]
def BC.pure (seed : Nat) (c : BC) : Bool := (decide (c.count = 1) || decide (c.count = -1)) && decide (c.checks = eB seed 3 c.keys)
def BC.isZero (c : BC) : Bool := decide (c.count = 0) && decide (c.keys = List.replicate 32 0) && decide (c.checks = 0)
def BT.empty (t : BT) : Bool := t.cells.all BC.isZero
def BT.first (t : BT) : Option Nat := t.cells.findIdx? (BC.pure t.seed)
def BT.cellAt (t : BT) (i : Nat) : BC := t.cells.getD i BC.zero
structure fG where
 t : BT
 taken : List (List UInt8)
 added : List (List UInt8)
 removed : List (List UInt8)
def fG.take (s : fG) (c : BC) : fG :=
 ⟨s.t.change c.keys (-c.count), c.keys :: s.taken, if c.count = 1 then s.added ++ [c.keys] else s.added, if c.count = 1 then s.removed else s.removed ++ [c.keys]⟩
def eL : Nat → fG → Option fG
 | 0, s => some s
 | n + 1, s => match s.t.first with
   | none => some s
   | some i => if s.taken.contains (s.t.cellAt i).keys then none else eL n (s.take (s.t.cellAt i))
def gR (l : List (List UInt8)) : List (List UInt8) := l.mergeSort fun x y => decide (x ≤ y)
def BT.raw (t : BT) : Option (List (List UInt8) × List (List UInt8)) := match eL t.cells.length ⟨t, [], [], []⟩ with
 | none => none
 | some s => if s.t.empty then some (s.added, s.removed) else none
def BT.keys (t : BT) : Option (List (List UInt8) × List (List UInt8)) := t.raw.map fun p => (gR p.1, gR p.2)
def BT.new (n seed : Nat) : BT := ⟨List.replicate n BC.zero, seed⟩
def cO (l : List BC) : List Value := l.flatMap BC.cells
def fV (l : List BC) : Prop := ∀ c ∈ l, c.Ok
theorem sF (c:BC) (l:List BC):cO (c::l)=c.cells++cO l:=rfl
theorem oJ:∀ {l:List BC},fV l→(cO l).length=l.length*34
 | [],_=>rfl
 | c::l,h=>by
   rw [sF,List.length_append,BC.mY (h c si),oJ (fun x hx=>h x (by simp [hx])),List.length_cons]
   omega
theorem kR:∀ {l:List BC} (_:fV l) (rest:List Value) (p:Nat) (c:BC) (_:l[p]?=some c) (j:Nat) (_:j < 34),(cO l++rest)[p*34+j]?=c.cells[j]?
 | [],_,_,p,c,hp,_,_=>by simp at hp
 | d::l,h,rest,0,c,hp,j,hj=>by
   simp at hp
   subst hp
   rw [sF,List.append_assoc,Nat.zero_mul,Nat.zero_add,List.getElem?_append_left (by rw [BC.mY (h d si)]; exact hj)]
 | d::l,h,rest,p+1,c,hp,j,hj=>by
   have hd:=BC.mY (h d si)
   rw [sF,List.append_assoc,List.getElem?_append_right (by rw [hd]; omega),hd,show (p+1)*34+j - 34=p*34+j by omega]
   exact kR (fun x hx=>h x (by simp [hx])) rest p c (by simpa using hp) j hj
theorem pQ:∀ {l:List BC} (_:fV l) (rest:List Value) (p:Nat) (c:BC) (_:l[p]?=some c) (j:Nat) (_:j < 34) (v:Value) (c':BC) (_:c'.cells=c.cells.set j v),
  (cO l++rest).set (p*34+j) v=cO (l.set p c')++rest
 | [],_,_,p,c,hp,_,_,_,_,_=>by simp at hp
 | d::l,h,rest,0,c,hp,j,hj,v,c',hc=>by
   simp at hp
   subst hp
   rw [sF,List.append_assoc,Nat.zero_mul,Nat.zero_add,List.set_append_left _ _ (by rw [BC.mY (h d si)]; exact hj),List.set_cons_zero,sF,hc,List.append_assoc]
 | d::l,h,rest,p+1,c,hp,j,hj,v,c',hc=>by
   have hd:=BC.mY (h d si)
   rw [sF,List.append_assoc,List.set_append_right _ _ (by rw [hd]; omega),hd,show (p+1)*34+j - 34=p*34+j by omega,List.set_cons_succ,sF,List.append_assoc]
   rw [pQ (fun x hx=>h x (by simp [hx])) rest p c (by simpa using hp) j hj v c' hc]
theorem Ac {l:List BC}:∀ v∈cO l,v.oneCell'=true:=by
 intro v hv
 obtain ⟨c,_,hc⟩:=List.mem_flatMap.1 hv
 simp only [BC.cells,List.mem_cons,List.mem_append,List.not_mem_nil,or_false] at hc
 rcases hc with rfl | hc | rfl
 ·rfl
 ·exact jU _ _ hc
 ·rfl
def BC.part (c : BC) (key : List UInt8) (aD : Int) (chk i : Nat) : BC := ⟨IntKind.i64.wrap (c.count + aD), (dR c.keys key).take i ++ c.keys.drop i, c.checks ^^^ chk⟩
theorem Oz (a b:List UInt8) (i:Nat) (x y:UInt8) (ha:a[i]?=some x) (hb:b[i]?=some y):(dR a b)[i]?=some (x ^^^ y):=by
 unfold dR
 rw [List.getElem?_zipWith,ha,hb]
theorem GJ (c:BC) (key:List UInt8) (aD:Int) (chk:Nat):c.part key aD chk 0=⟨IntKind.i64.wrap (c.count+aD),c.keys,c.checks ^^^ chk⟩:=by simp [BC.part]
theorem CE (c:BC) (key:List UInt8) (aD:Int) (chk:Nat) (h1:c.keys.length=32) (h2:key.length=32):c.part key aD chk 32=c.add key aD chk:=by
 have:(dR c.keys key).length=32:=by rw [wX _ _ om]; exact h1
 simp only [BC.part,BC.add]
 rw [List.take_of_length_le om,List.drop_of_length_le om,List.append_nil]
theorem Ad {c:BC} (h:c.Ok) {key:List UInt8} (hk:key.length=32) (aD:Int) {chk:Nat} (hc:cG chk) (i:Nat):(c.part key aD chk i).Ok:=by
 have h32:=h.keys
 have hx:(dR c.keys key).length=32:=by rw [wX _ _ om]; exact h32
 refine ⟨CD _,?_,Nat.xor_lt_two_pow (n:=64) h.checks hc⟩
 show ((dR c.keys key).take i++c.keys.drop i).length=32
 rw [List.length_append,List.length_take,List.length_drop]
 omega
theorem GK {c:BC} (key:List UInt8) (aD:Int) (chk i:Nat) (x:UInt8) (hx:c.keys[i]?=some x) (hk:key.length=32) (h32:c.keys.length=32):(c.part key aD chk i).keys[i]?=some x:=by
 have hi:=(List.getElem?_eq_some_iff.1 hx).1
 have hl:((dR c.keys key).take i).length=i:=by rw [List.length_take,wX _ _ om]; omega
 show ((dR c.keys key).take i++c.keys.drop i)[i]?=some x
 rw [List.getElem?_append_right om,hl,Nat.sub_self,List.getElem?_drop]
 exact hx
theorem GL {c:BC} (key:List UInt8) (aD:Int) (chk i:Nat) (x y:UInt8) (hx:c.keys[i]?=some x) (hy:key[i]?=some y) (h1:c.keys.length=32) (h2:key.length=32) :
  (c.part key aD chk (i+1)).cells=(c.part key aD chk i).cells.set (1+i) (.int .u8 ((x ^^^ y).toNat:Int)):=by
 have hi:=(List.getElem?_eq_some_iff.1 hx).1
 have hxl:(dR c.keys key).length=32:=by rw [wX _ _ om]; exact h1
 have hl:((dR c.keys key).take i).length=i:=by rw [List.length_take]; omega
 have hg:=Oz _ _ i x y hx hy
 obtain ⟨h3,e3⟩:=List.getElem?_eq_some_iff.1 hg
 obtain ⟨h4,e4⟩:=List.getElem?_eq_some_iff.1 hx
 have e:(dR c.keys key).take (i+1)++c.keys.drop (i+1)=((dR c.keys key).take i++c.keys.drop i).set i (x ^^^ y):=by
  rw [List.set_append_right _ _ om,hl,Nat.sub_self,List.drop_eq_getElem_cons h4,List.set_cons_zero,List.take_succ_eq_append_getElem h3,e3,List.append_assoc]
  rfl
 have hz:i < ((dR c.keys key).take i++c.keys.drop i).length:=by rw [List.length_append,hl,List.length_drop]; omega
 show Value.int .i64 _::(B8 ((dR c.keys key).take (i+1)++c.keys.drop (i+1))++[_])=List.set (Value.int .i64 _::(B8 ((dR c.keys key).take i++c.keys.drop i)++[_])) (1+i) _
 rw [e]
 generalize (dR c.keys key).take i++c.keys.drop i=Z at hz
 rw [Nat.add_comm 1 i,List.set_cons_succ,List.set_append_left _ _ (by rw [dW]; exact hz)]
 simp only [B8,List.map_set]
 rfl
theorem sG (c:BC):c.cells[0]?=some (.int .i64 c.count):=rfl
theorem CF {c:BC} (i:Nat) (x:UInt8) (hx:c.keys[i]?=some x):c.cells[1+i]?=some (.int .u8 (x.toNat:Int)):=by
 have hi:=(List.getElem?_eq_some_iff.1 hx).1
 rw [BC.cells,Nat.add_comm,List.getElem?_cons_succ,List.getElem?_append_left (by rw [dW]; omega)]
 exact rS _ _ _ hx
theorem uM {c:BC} (h:c.keys.length=32):c.cells[33]?=some (.int .u64 (c.checks:Int)):=by
 rw [BC.cells,List.getElem?_cons_succ,List.getElem?_append_right (by rw [dW]; omega),dW,h]
 rfl
theorem CG (c:BC) (n:Int):(⟨n,c.keys,c.checks⟩:BC).cells=c.cells.set 0 (vi n):=rfl
theorem CH {c:BC} (h:c.keys.length=32) (n:Nat):(⟨c.count,c.keys,n⟩:BC).cells=c.cells.set 33 (.int .u64 (n:Int)):=by
 rw [BC.cells,BC.cells,List.set_cons_succ,List.set_append_right _ _ (by rw [dW]; omega),dW,h]
 rfl
theorem GM (x y:UInt8):bits BinOp.xor IntKind.u8 (x.toNat:Int) (y.toNat:Int)=((x ^^^ y).toNat:Int):=by
 rw [u8_xor_nat _ _ (UInt8.toNat_lt x) (UInt8.toNat_lt y),UInt8.toNat_xor]
def BT.fL (t : BT) (key : List UInt8) (aD : Int) : Nat → BT
 | 0 => t
 | k + 1 => (t.fL key aD k).eC key aD k
theorem BT.Fl (t:BT) (key:List UInt8) (aD:Int):t.fL key aD 3=t.change key aD:=rfl
theorem BT.tP (t:BT) (key:List UInt8) (aD:Int):∀ k,(t.fL key aD k).cells.length=t.cells.length
 | 0=>rfl
 | k+1=>by rw [BT.fL,BT.vZ,BT.tP t key aD k]
theorem BT.pD (t:BT) (key:List UInt8) (aD:Int):∀ k,(t.fL key aD k).seed=t.seed
 | 0=>rfl
 | k+1=>by rw [BT.fL]; exact BT.pD t key aD k
theorem BT.Ok.eC {t:BT} (h:t.Ok) {key:List UInt8} (hk:key.length=32) (aD:Int) (i:Nat):(t.eC key aD i).Ok:=by
 refine ⟨fun c hc=>?_,h.seed⟩
 simp only [BT.eC] at hc
 obtain ⟨j,hj⟩:=List.mem_iff_getElem?.1 hc
 rw [List.getElem?_modify] at hj
 cases hq:t.cells[j]? with
 | none=>rw [hq] at hj; simp at hj
 | some d =>
   rw [hq] at hj
   have hd:=h.cells d (List.mem_of_getElem? hq)
   split at hj
   ·simp at hj
    rw [← hj]
    exact hd.add hk aD (uL _ _ _)
   ·simp at hj
    rw [← hj]
    exact hd
theorem BT.Ok.fL {t:BT} (h:t.Ok) {key:List UInt8} (hk:key.length=32) (aD:Int):∀ k,(t.fL key aD k).Ok
 | 0=>h
 | k+1=>(BT.Ok.fL h hk aD k).eC hk aD k
theorem BT.Ok.change {t:BT} (h:t.Ok) {key:List UInt8} (hk:key.length=32) (aD:Int):(t.change key aD).Ok:=BT.Ok.fL h hk aD 3
theorem BT.XE (t:BT) (key:List UInt8) (aD:Int) (i:Nat) (c:BC) (hc:t.cells[dB t.cells.length t.seed key i]?=some c) :
  (t.eC key aD i).cells=t.cells.set (dB t.cells.length t.seed key i) (c.add key aD (eB t.seed 3 key)):=by
 obtain ⟨h1,e1⟩:=List.getElem?_eq_some_iff.1 hc
 simp only [BT.eC]
 apply List.ext_getElem?
 intro j
 rw [List.getElem?_modify,List.getElem?_set]
 by_cases hj:dB t.cells.length t.seed key i=j
 ·subst hj
  simp [h1,e1]
 ·rw [if_neg hj]
  simp [hj]
def BT.cE (t : BT) : List Bool := t.cells.map (BC.pure t.seed)
theorem BT.qI (t:BT):t.cE.length=t.cells.length:=by simp [BT.cE]
theorem BT.Fm {t:BT} {i:Nat} {c:BC} (h:t.cells[i]?=some c):t.cE[i]?=some (c.pure t.seed):=by simp [BT.cE,h]
theorem BT.Mo (t:BT):t.first=t.cE.findIdx? id:=by
 unfold BT.first BT.cE
 rw [List.findIdx?_map]
 rfl
def gI (n seed : Nat) (key : List UInt8) (old new : List Bool) : Nat → List Bool
 | 0 => old
 | k + 1 => (gI n seed key old new k).set (dB n seed key k) (new.getD (dB n seed key k) false)
theorem Ae (n seed:Nat) (key:List UInt8) (old new:List Bool):∀ k,(gI n seed key old new k).length=old.length
 | 0=>rfl
 | k+1=>by rw [gI,List.length_set,Ae n seed key old new k]
theorem GN (n seed:Nat) (key:List UInt8) (old new:List Bool) (q:Nat) (hl:old.length=new.length):∀ k,(gI n seed key old new k)[q]?=if ∃ j,j < k∧dB n seed key j=q then new[q]? else old[q]?
 | 0=>by simp [gI]
 | k+1=>by
   rw [gI,List.getElem?_set,GN n seed key old new q hl k,Ae]
   by_cases hq:dB n seed key k=q
   ·have hex:∃ j,j < k+1∧dB n seed key j=q:=⟨k,om,hq⟩
    rw [if_pos hq,if_pos hex,hq]
    by_cases hlt:q < old.length
    ·rw [if_pos hlt,List.getD_eq_getElem?_getD]
     rw [List.getElem?_eq_getElem om]
     rfl
    ·rw [if_neg hlt,List.getElem?_eq_none om]
   ·rw [if_neg hq]
    by_cases h:∃ j,j < k∧dB n seed key j=q
    ·obtain ⟨j,hj,e⟩:=h
     rw [if_pos ⟨j,hj,e⟩,if_pos ⟨j,om,e⟩]
    ·rw [if_neg h,if_neg]
     rintro ⟨j,hj,e⟩
     rcases (by omega:j < k∨j=k) with h' | rfl
     ·exact h ⟨j,h',e⟩
     ·exact hq e
theorem OA (t:BT) (key:List UInt8) (aD:Int) (i q:Nat) (h:dB t.cells.length t.seed key i≠q):(t.eC key aD i).cells[q]?=t.cells[q]?:=by
 simp only [BT.eC,List.getElem?_modify,if_neg h]
 cases t.cells[q]? <;> rfl
theorem GO (t:BT) (key:List UInt8) (aD:Int) (q:Nat):∀ k,(∀ j,j < k→dB t.cells.length t.seed key j≠q)→(t.fL key aD k).cells[q]?=t.cells[q]?
 | 0,_=>rfl
 | k+1,h=>by
   rw [BT.fL,OA _ _ _ _ _ (by rw [BT.tP,BT.pD]; exact h k om),GO t key aD q k (fun j hj=>h j om)]
theorem GP (t:BT) (key:List UInt8) (aD:Int):gI t.cells.length t.seed key t.cE (t.change key aD).cE 3=(t.change key aD).cE:=by
 have hl:t.cE.length=(t.change key aD).cE.length:=by rw [BT.qI,BT.qI,BT.change_len]
 apply List.ext_getElem?
 intro q
 rw [GN _ _ _ _ _ _ hl]
 split
 ·rfl
 ·rename_i h
  have hs:(t.change key aD).seed=t.seed:=BT.pD t key aD 3
  have:=GO t key aD q 3 (fun j hj e=>h ⟨j,hj,e⟩)
  rw [BT.Fl] at this
  unfold BT.cE
  rw [List.getElem?_map,List.getElem?_map,this,hs]
theorem OB (m:Nat) (s:fG) (h:s.t.first=none):eL m s=some s:=by
 cases m with
 | zero=>rfl
 | succ m=>simp only [eL,h]
theorem OC (m:Nat) (s:fG) (i:Nat) (h:s.t.first=some i) (ht:s.taken.contains (s.t.cellAt i).keys=true):eL (m+1) s=none:=by
 simp only [eL,h,ht,if_true]
theorem GQ (m:Nat) (s:fG) (i:Nat) (h:s.t.first=some i) (ht:s.taken.contains (s.t.cellAt i).keys=false):eL (m+1) s=eL m (s.take (s.t.cellAt i)):=by
 simp only [eL,h,ht,Bool.false_eq_true,if_false]
theorem OD {t:BT} {i:Nat} (h:t.first=some i):∃ c,t.cells[i]?=some c∧c.pure t.seed=true∧t.cellAt i=c:=by
 unfold BT.first at h
 rw [List.findIdx?_eq_some_iff_getElem] at h
 obtain ⟨h1,h2,_⟩:=h
 refine ⟨_,List.getElem?_eq_getElem h1,h2,?_⟩
 unfold BT.cellAt
 rw [List.getD_eq_getElem?_getD,List.getElem?_eq_getElem h1]
 rfl
theorem OE {c:BC} {seed:Nat} (h:c.pure seed=true):c.count=1∨c.count = -1:=by
 unfold BC.pure at h
 simp at h
 exact h.1
theorem CI (n:Int) (w:World):Calls Tryz.prog 34 #[vi n] w fun e w'=>e = .returned (.bool (eW n))∧w=w':=by
 unfold eW
 by_cases h1:3≤n
 ·by_cases h2:n≤3072
  ·by_cases h3:n % 3=0
   ·have q:(n % 3 == 0)=true:=by simpa using h3
    have e:(decide (3≤n) && decide (n≤3072) && decide (n % 3=0))=true:=by simp [h1,h2,h3]
    rw [e]
    clear e h3
    go_enter Tryz.func34,Tryz.ntmps34
    go_wp2_with fail
    go_ret
    exact ⟨rfl,rfl⟩
   ·have q:(n % 3 == 0)=false:=by simpa using h3
    have e:(decide (3≤n) && decide (n≤3072) && decide (n % 3=0))=false:=by simp [h3]
    rw [e]
    clear e h3
    go_enter Tryz.func34,Tryz.ntmps34
    go_wp2_with fail
    go_ret
    exact ⟨rfl,rfl⟩
  ·have e:(decide (3≤n) && decide (n≤3072) && decide (n % 3=0))=false:=by simp [h2]
   rw [e]
   have d:decide (n≤3072)=false:=by simpa using h2
   clear e
   go_enter Tryz.func34,Tryz.ntmps34
   go_wp2_with fail
   go_ret
   exact ⟨rfl,rfl⟩
 ·have e:(decide (3≤n) && decide (n≤3072) && decide (n % 3=0))=false:=by simp [h1]
  rw [e]
  have d:decide (3≤n)=false:=by simpa using h1
  clear e
  go_enter Tryz.func34,Tryz.ntmps34
  go_wp2_with fail
  go_ret
  exact ⟨rfl,rfl⟩
theorem GR (l:List UInt8) (i:Nat) (y:UInt8) (h:l[i]?=some y) (w:World):(Instr.index 9 (vS l) (vi (i:Int))).run Tryz.prog w = .ok (.int .u8 (y.toNat:Int)) w:=by
 obtain ⟨h1,h2⟩:=List.getElem?_eq_some_iff.1 h
 have hs:(bD l).size=l.length:=by simp [bD,ByteArray.size]
 rw [run_index_string w 9 (bD l) .i64 (i:Int) Tryz.underlying9,dif_pos (by rw [hs]; omega)]
 have:(bD l)[((i:Int)).toNat]'(by rw [hs]; omega)=y:=by
  rw [← h2]
  rfl
 rw [this]
def oK (seed k : Nat) : List UInt8 := (qR seed).take k ++ List.replicate (9 - k) 0
theorem OF (seed k:Nat) (h:k < 8):(B8 (oK seed k)).set k (.int .u8 ((cY seed (7 - k)).toNat:Int))=B8 (oK seed (k+1)):=by
 match k,h with
 | 0,_=>rfl
 | 1,_=>rfl
 | 2,_=>rfl
 | 3,_=>rfl
 | 4,_=>rfl
 | 5,_=>rfl
 | 6,_=>rfl
 | 7,_=>rfl
theorem OG (seed k:Nat) (h:k < 8):(B8 (oK seed k))[k]?=some (.int .u8 0):=by
 match k,h with
 | 0,_=>rfl
 | 1,_=>rfl
 | 2,_=>rfl
 | 3,_=>rfl
 | 4,_=>rfl
 | 5,_=>rfl
 | 6,_=>rfl
 | 7,_=>rfl
theorem OH (v:Nat) (y:UInt8) (h:v*256 < 18446744073709551616):bits BinOp.or IntKind.u64 ((v*256:Nat):Int) (y.toNat:Int)=((v*256+y.toNat:Nat):Int):=by
 have hy:=UInt8.toNat_lt y
 rw [u64_or_nat _ _ h om]
 have:=Nat.two_pow_add_eq_or_of_lt (i:=8) (b:=y.toNat) om v
 rw [show v*256=2 ^ 8*v by omega,this]
theorem GS (seed i:Nat) (key:List UInt8) (w:World) (hv:bW w) (hs:cG seed) (hi:i≤3) (hk:key.length≤274877906944) :
  Calls Tryz.prog 68 #[.int .u64 (seed:Int),vi (i:Int),.string (bD key)] w fun e w'=>e = .returned (.int .u64 (eB seed i key:Int))∧Fr [] w w':=by
 have H:=Lib.hid (And.intro hv (And.intro hs hk))
 clear hv hs hk
 obtain ⟨bh,hbh⟩:∃ bh,bh=w.heap.size:=⟨_,rfl⟩
 go_enter Tryz.func68,Tryz.ntmps68
 go_wp2_with fail
 change Code.wp _ _ _ _ (w.alloc (.cells (B8 (oK seed 0)).toArray 160))
 rw [← hbh]
 have HW0:Hid (Fr [] w (w.alloc (.cells (B8 (oK seed 0)).toArray 160))∧At (w.alloc (.cells (B8 (oK seed 0)).toArray 160)) bh 160 (B8 (oK seed 0))):=⟨(Fr.refl _ _).alloc _,by rw [hbh]; exact At.new _ _ _⟩
 generalize w.alloc (.cells (B8 (oK seed 0)).toArray 160)=W0 at HW0 ⊢
 have HBH:=Lib.hid hbh
 clear hbh
 go_loopw [12] (fun s wx=>∃ k:Nat,k≤8∧s = .int .i64 k∧Hid (Fr [] w wx∧At wx bh 160 (B8 (oK seed k)))) (fun s _=>8 - (intOf s).toNat)
 case atStart=>exact ⟨0,by omega,rfl,HW0⟩
 case round =>
  obtain ⟨k,hk,rfl,HR⟩:=hrel
  by_cases hlt:k < 8
  ·obtain ⟨sh,hsh⟩:∃ sh:Nat,sh=56 - 8*k:=⟨_,rfl⟩
   obtain ⟨y,HY⟩:∃ y:UInt8,Hid (y=cY seed (7 - k)):=⟨_,rfl⟩
   have hy:IntKind.u8.wrap ((seed:Int) / 2 ^ sh)=(y.toNat:Int):=by
    rw [HY.out,show sh=8*(7 - k) by omega]
    exact uK seed (7 - k)
   have e1:(56:Int) - 8*(k:Int)=(sh:Int):=om
   have hshb:sh≤56:=om
   have cz:wr.cell? ⟨bh,k,none⟩=some (.int .u8 0):=by rw [HR.out.2.cell]; exact OG seed k hlt
   have fz:=HR.out.2.frozen k
   have hkI:(k:Int) < 9:=om
   have hkI8:(k:Int) < 8:=om
   have HN:Hid (Fr [] w (wr.setCell ⟨bh,k,none⟩ (.int .u8 (y.toNat:Int)))∧At (wr.setCell ⟨bh,k,none⟩ (.int .u8 (y.toNat:Int))) bh 160 (B8 (oK seed (k+1)))):=by
    refine ⟨HR.out.1.setCell (.inr (by have:=HBH.out; show w.heap.size≤bh; omega)) _,?_⟩
    rw [← OF seed k hlt,← HY.out]
    exact HR.out.2.set k _
   clear hsh
   go_wp2_with fail
   go_roundw
   case rel =>
    first
     | exact ⟨k+1,by omega,by go_num,HN⟩
     | ((repeat apply Exists.intro); exact ⟨⟨k+1,by omega,by go_num,HN⟩,rfl⟩)
   case measure=>simp [intOf] <;> omega
  ·obtain rfl:k=8:=om
   have cz:wr.cell? ⟨bh,8,none⟩=some (.int .u8 0):=by rw [HR.out.2.cell]; rfl
   have fz:=HR.out.2.frozen 8
   have hyi:IntKind.u8.wrap (i:Int)=((UInt8.ofNat i).toNat:Int):=by
    rw [IntKind.wrap_u8]
    have:(UInt8.ofNat i).toNat=i:=by simp; omega
    rw [this]
    omega
   obtain ⟨yi,HYI⟩:∃ yi:UInt8,Hid (yi=UInt8.ofNat i):=⟨_,rfl⟩
   rw [← HYI.out] at hyi
   have H9:Hid (Fr [] w (wr.setCell ⟨bh,8,none⟩ (.int .u8 (yi.toNat:Int)))∧At (wr.setCell ⟨bh,8,none⟩ (.int .u8 (yi.toNat:Int))) bh 160 (B8 (qR seed++[yi]))):=by
    refine ⟨HR.out.1.setCell (.inr (by have:=HBH.out; show w.heap.size≤bh; omega)) _,?_⟩
    have:=HR.out.2.set 8 (.int .u8 (yi.toNat:Int))
    exact this
   obtain ⟨W9,HW9⟩:∃ W9,Hid (W9=wr.setCell ⟨bh,8,none⟩ (.int .u8 (yi.toNat:Int))):=⟨_,rfl⟩
   rw [← HW9.out] at H9
   have hst:=uA (P:=Tryz.prog) (src:=22) (dst:=9) Tryz.underlying22 Tryz.underlying5 Tryz.underlying9 W9 (some ⟨bh,0,none⟩) 9 (qR seed++[yi]) (fun j v hj=>⟨bh,0,rfl,H9.out.2.lt,by rw [Nat.zero_add,H9.out.2.cell]; exact hj⟩)
   rw [show (qR seed++[yi]).length=9 from rfl] at hst
   have hsl:∀ W:World,(Instr.sliceAt 160 (vP bh 0) none none none).run Tryz.prog W = .ok (.slice (some ⟨bh,0,none⟩) 9 9) W:=fun W=>by kernel_rfl
   obtain ⟨hd,HHD⟩:∃ hd,Hid (hd=qR seed++[yi]):=⟨_,rfl⟩
   rw [← HHD.out] at hst
   rw [HW9.out] at hst
   go_wp2_with fail
   have hsz:wr.heap.size=W9.heap.size:=by rw [HW9.out]; simp [World.setCell]
   rw [← HW9.out,hsz]
   have HJ:=Lib.hid (GG (some ⟨W9.heap.size,0,none⟩) 2 [hd,key] (W9.alloc (.cells #[.string (bD hd),.string (bD key)] 9)) (H.out.1.fr (H9.out.1.alloc _) si si)
    (fun j v hj=>⟨W9.heap.size,0,rfl,si,by rw [Nat.zero_add,(At.new W9 9 [.string (bD hd),.string (bD key)]).cell]; exact hj⟩)
    (by have:=H.out.2.2; rw [HHD.out]; simp [qR]; omega) si)
   refine HJ.out.mono ?_
   rintro e w3 ⟨rfl,hf3⟩
   obtain ⟨sm,HSM⟩:∃ sm,Hid (sm=dM [hd,key].flatten):=⟨_,rfl⟩
   rw [← HSM.out]
   have HF:Hid (Fr [] w w3):=(H9.out.1.alloc _).trans hf3
   have HS32:Hid (sm.length=32):=by show sm.length=32; rw [HSM.out]; exact tX _
   clear hf3 HJ hst hsl hsz cz fz
   go_wp2_with fail
   go_loop [10,32] (fun v s=>∃ k m:Nat,k≤8∧s = .int .i64 k∧v = .int .u64 (m:Int)∧Hid (m=iL sm k)) (fun _ s=>8 - (intOf s).toNat)
   case atStart=>exact ⟨0,0,by omega,rfl,rfl,rfl⟩
   case round =>
    obtain ⟨k,m,hk,rfl,rfl,HM⟩:=hrel
    by_cases hlt:k < 8
    ·obtain ⟨y,hy⟩:∃ y,sm[k]?=some y:=⟨_,List.getElem?_eq_getElem (by rw [HS32.out]; omega)⟩
     have hix:=GR sm k y hy
     have hmb:m*256 < 18446744073709551616:=by
      rw [HM.out]
      have h1:=Ab sm k
      have h2:256 ^ k≤256 ^ 7:=Nat.pow_le_pow_right (by decide) om
      omega
     obtain ⟨m8,q1,HM8⟩:∃ m8:Nat,IntKind.u64.wrap ((m:Int)*256)=(m8:Int)∧Hid (m8=m*256):=⟨m*256,by rw [IntKind.wrap_u64]; omega,rfl⟩
     have qy:IntKind.u64.wrap (y.toNat:Int)=(y.toNat:Int):=by rw [IntKind.wrap_u64]; have:=UInt8.toNat_lt y; omega
     obtain ⟨mn,q2,HMN⟩:∃ mn:Nat,bits BinOp.or IntKind.u64 (m8:Int) (y.toNat:Int)=(mn:Int)∧Hid (mn=iL sm (k+1)):=by
      refine ⟨m*256+y.toNat,by rw [HM8.out]; exact OH m y hmb,?_⟩
      show _=iL sm k*256+(sm.getD k 0).toNat
      rw [← HM.out,List.getD_eq_getElem?_getD,hy]
      rfl
     have hkI:(k:Int) < 8:=om
     clear hy hmb
     go_wp2_with fail
     go_round
     case rel=>exact ⟨k+1,mn,by omega,by go_num,rfl,HMN⟩
     case measure=>simp [intOf] <;> omega
    ·obtain rfl:k=8:=om
     go_wp2_with fail
     go_ret
     refine ⟨lI ?_,HF.out⟩
     rw [HM.out,HSM.out,HHD.out,HYI.out]
     simp [eB]
theorem GU (seed:Nat) (key:List UInt8) (w:World) (hv:bW w) (hs:cG seed) (hk:key.length≤274877906944) :
  Calls Tryz.prog 67 #[.int .u64 (seed:Int),.string (bD key)] w fun e w'=>e = .returned (.int .u64 (eB seed 3 key:Int))∧Fr [] w w':=by
 have H:=Lib.hid (GS seed 3 key w hv hs om hk)
 clear hv hs hk
 go_enter Tryz.func67,Tryz.ntmps67
 go_wp2_with fail
 refine H.out.mono ?_
 rintro e w1 ⟨rfl,hf1⟩
 go_wp2_with fail
 go_ret
 exact ⟨rfl,hf1⟩
def sH (n seed : Nat) (key : List UInt8) (k : Nat) : List Value := (List.range k).map (fun j => Value.int .i64 (dB n seed key j : Int)) ++ List.replicate (3 - k) (Value.int .i64 0)
def sI (n seed : Nat) (key : List UInt8) : List Value := [Value.int .i64 (dB n seed key 0 : Int), Value.int .i64 (dB n seed key 1 : Int), Value.int .i64 (dB n seed key 2 : Int)]
theorem OI (n seed:Nat) (key:List UInt8) (k:Nat) (h:k < 3):(sH n seed key k).set k (vi (dB n seed key k:Int))=sH n seed key (k+1):=by
 match k,h with
 | 0,_=>rfl
 | 1,_=>rfl
 | 2,_=>rfl
theorem OJ (n seed:Nat) (key:List UInt8) (k:Nat) (h:k < 3):(sH n seed key k)[k]?=some (vi 0):=by
 match k,h with
 | 0,_=>rfl
 | 1,_=>rfl
 | 2,_=>rfl
theorem CJ (n seed:Nat) (key:List UInt8) (w:World) (hv:bW w) (hs:cG seed) (hk:key.length≤274877906944) (hn:3≤n) (hn2:n≤3072) :
  Calls Tryz.prog 40 #[vi (n:Int),.int .u64 (seed:Int),.string (bD key)] w fun e w'=>e = .returned (.agg (sI n seed key).toArray)∧Fr [] w w':=by
 have H:=Lib.hid (And.intro hv (And.intro hs hk))
 clear hv hs hk
 obtain ⟨th,hth⟩:∃ th,th=n / 3:=⟨_,rfl⟩
 have eth:(n:Int) / 3=(th:Int):=om
 have th1:1≤th:=om
 have th2:th≤1024:=om
 have HTH:=Lib.hid hth
 clear hth
 obtain ⟨br,hbr⟩:∃ br,br=w.heap.size:=⟨_,rfl⟩
 obtain ⟨ba,hba⟩:∃ ba,ba=w.heap.size+1:=⟨_,rfl⟩
 go_enter Tryz.func40,Tryz.ntmps40
 go_wp2_with fail
 rw [← hba,← hbr]
 have HW0:Hid (Fr [] w ((w.alloc (.cells #[vi 0,vi 0,vi 0] 83)).alloc (.cells #[vi 0,vi 0,vi 0] 83))∧At ((w.alloc (.cells #[vi 0,vi 0,vi 0] 83)).alloc (.cells #[vi 0,vi 0,vi 0] 83)) br 83 [vi 0,vi 0,vi 0]∧At ((w.alloc (.cells #[vi 0,vi 0,vi 0] 83)).alloc (.cells #[vi 0,vi 0,vi 0] 83)) ba 83 (sH n seed key 0)):=by
  refine ⟨((Fr.refl _ _).alloc _).alloc _,?_,?_⟩
  ·rw [hbr]
   exact (At.new w 83 [vi 0,vi 0,vi 0]).alloc _
  ·have:=At.new (w.alloc (.cells #[vi 0,vi 0,vi 0] 83)) 83 [vi 0,vi 0,vi 0]
   rw [show ba=(w.alloc (.cells #[vi 0,vi 0,vi 0] 83)).heap.size by rw [hba]; simp]
   exact this
 generalize (w.alloc (.cells #[vi 0,vi 0,vi 0] 83)).alloc (.cells #[vi 0,vi 0,vi 0] 83)=W0 at HW0 ⊢
 have hlo:w.heap.size≤br:=om
 have hlt0:br < ba:=om
 clear hbr hba
 go_loopw [12] (fun s wx=>∃ k:Nat,k≤3∧s = .int .i64 k∧Hid (Fr [] w wx∧At wx br 83 [Value.int .i64 0,Value.int .i64 0,Value.int .i64 0]∧At wx ba 83 (sH n seed key k))) (fun s _=>3 - (intOf s).toNat)
 case atStart=>exact ⟨0,by omega,rfl,HW0⟩
 case round =>
  obtain ⟨k,hk,rfl,HR⟩:=hrel
  by_cases hlt:k < 3
  ·obtain ⟨hv,HHV⟩:∃ hv,Hid (hv=eB seed k key):=⟨_,rfl⟩
   have hvu:Hid (cG hv):=by show cG hv; rw [HHV.out]; exact uL _ _ _
   have HC:=Lib.hid (GS seed k key wr (H.out.1.fr HR.out.1 si si) H.out.2.1 om H.out.2.2)
   rw [← HHV.out] at HC
   have hkt:k*th≤2*1024:=Nat.mul_le_mul om th2
   obtain ⟨kt,q1,HKT⟩:∃ kt:Nat,IntKind.i64.wrap ((k:Int)*(th:Int))=(kt:Int)∧Hid (kt=k*th):=⟨k*th,by rw [← Int.natCast_mul,IntKind.wrap_i64]; omega,rfl⟩
   have hktb:kt≤2048:=by rw [HKT.out]; exact hkt
   have qth:IntKind.u64.wrap (th:Int)=(th:Int):=by rw [IntKind.wrap_u64]; omega
   obtain ⟨hm,q2,q3,HHM⟩:∃ hm:Nat,(hv:Int) % (th:Int)=(hm:Int)∧(hv:Int).tmod (th:Int)=(hm:Int)∧Hid (hm=hv % th):=⟨hv % th,by rw [Int.natCast_emod],by rw [Int.ofNat_tmod],rfl⟩
   have hmb:hm < th:=by rw [HHM.out]; exact Nat.mod_lt _ om
   have qi:IntKind.i64.wrap (hm:Int)=(hm:Int):=by rw [IntKind.wrap_i64]; omega
   obtain ⟨p,q4,HP⟩:∃ p:Nat,(kt:Int)+(hm:Int)=(p:Int)∧Hid (p=dB n seed key k):=⟨kt+hm,om,by show _=_; unfold dB; rw [← HTH.out,← HHV.out,← HHM.out,← HKT.out]⟩
   have thI:(th:Int)≠0:=om
   have thB:((th:Int) == 0)=false:=by simp; omega
   have hkI:(k:Int) < 3:=om
   clear hkt
   go_wp2_with fail
   refine HC.out.mono ?_
   rintro e w1 ⟨rfl,hf1⟩
   have HR1:Hid (Fr [] w w1∧At w1 br 83 [vi 0,vi 0,vi 0]∧At w1 ba 83 (sH n seed key k)):=⟨HR.out.1.trans hf1,HR.out.2.1.fr hf1 si,HR.out.2.2.fr hf1 si⟩
   have cz:w1.cell? ⟨ba,k,none⟩=some (vi 0):=by rw [HR1.out.2.2.cell]; exact OJ n seed key k hlt
   have fz:=HR1.out.2.2.frozen k
   have HN:Hid (Fr [] w (w1.setCell ⟨ba,k,none⟩ (Value.int .i64 (p:Int)))∧At (w1.setCell ⟨ba,k,none⟩ (Value.int .i64 (p:Int))) br 83 [vi 0,vi 0,vi 0]∧At (w1.setCell ⟨ba,k,none⟩ (Value.int .i64 (p:Int))) ba 83 (sH n seed key (k+1))):=by
    refine ⟨HR1.out.1.setCell (.inr (by show w.heap.size≤ba; omega)) _,HR1.out.2.1.far (by show br≠ba; omega) _,?_⟩
    rw [← OI n seed key k hlt,← HP.out]
    exact HR1.out.2.2.set k _
   clear hf1 HC
   go_wp2_with fail
   go_roundw
   case rel =>
    first
     | exact ⟨k+1,by omega,by go_num,HN⟩
     | ((repeat apply Exists.intro); exact ⟨⟨k+1,by omega,by go_num,HN⟩,rfl⟩)
   case measure=>simp [intOf] <;> omega
  ·obtain rfl:k=3:=om
   obtain ⟨L,HL⟩:∃ L,Hid (L=sI n seed key):=⟨_,rfl⟩
   have HLX:Hid (L.length=3∧(∀ v∈L,v.oneCell'=true)∧At wr ba 83 L):=by
    show _∧_∧_
    rw [HL.out]
    refine ⟨rfl,?_,HR.out.2.2⟩
    intro v hv
    simp only [sI,List.mem_cons,List.not_mem_nil,or_false] at hv
    rcases hv with rfl | rfl | rfl <;> rfl
   go_wp2_with (first
    | (refine pF rfl 83 (.tmp 7) rfl ba 0 rfl L _ (fun j v hj=>(by rw [Nat.zero_add,HLX.out.2.2.cell]; exact hj)) Tryz.underlying83 rfl (by rw [HLX.out.1]; kernel_rfl) ?_)
    | (refine FC rfl 83 (.tmp 6) (.tmp 30) rfl br 0 rfl 83 [Value.int .i64 0,Value.int .i64 0,Value.int .i64 0] L rfl HR.out.2.1 (by rw [HLX.out.1]; exact Nat.le_refl _) (by rw [HLX.out.1]; kernel_rfl) HLX.out.2.1 L (by rw [HLX.out.1]; simp) ?_; intro w9 hf9 ha9))
   exact bodyPost_ret (Oy (t:=83) rfl _ _ br L _ rfl ha9 Tryz.underlying83 rfl (by rw [HLX.out.1]; kernel_rfl)) rfl ⟨by rw [HL.out],HR.out.1.trans' hf9 (by simp; omega)⟩
structure dU (w : World) (bt bc cap : Nat) (rest : List Value) (t : BT) : Prop where
 tab : At w bt 73 [.slice (some ⟨bc, 0, none⟩) t.cells.length cap, .int .u64 (t.seed : Int)]
 cells : At w bc 79 (cO t.cells ++ rest)
 ok : t.Ok
 size : eW (t.cells.length : Int) = true
 cap : t.cells.length ≤ cap
theorem dU.ne {w:World} {bt bc cap:Nat} {rest:List Value} {t:BT} (h:dU w bt bc cap rest t):bt≠bc:=h.tab.ne h.cells (by decide)
theorem dU.fr {w w':World} {bt bc cap:Nat} {rest:List Value} {t:BT} {S:List Nat} (h:dU w bt bc cap rest t) (hf:Fr S w w') (h1:bt∉S) (h2:bc∉S):dU w' bt bc cap rest t :=
 ⟨h.tab.fr hf h1,h.cells.fr hf h2,h.ok,h.size,h.cap⟩
theorem kE {n:Nat} (h:eW (n:Int)=true):3≤n∧n≤3072∧n % 3=0:=by
 unfold eW at h
 simp at h
 omega
theorem CK (n seed:Nat) (key:List UInt8) (k:Nat) (h:k < 3):(sI n seed key)[k]?=some (vi (dB n seed key k:Int)):=by
 match k,h with
 | 0,_=>rfl
 | 1,_=>rfl
 | 2,_=>rfl
set_option maxHeartbeats 4000000 in
theorem CL (bt bc cap:Nat) (rest:List Value) (t:BT) (key:List UInt8) (aD:Int) (w:World) (hv:bW w) (ht:dU w bt bc cap rest t) (hk:key.length=32) :
  Calls Tryz.prog 39 #[vP bt 0,.string (bD key),vi aD] w fun e w'=>e = .returned (.tuple #[])∧Fr [bc] w w'∧dU w' bt bc cap rest (t.change key aD):=by
 obtain ⟨n,HN⟩:∃ n,Hid (n=t.cells.length):=⟨_,rfl⟩
 obtain ⟨seed,HS⟩:∃ seed,Hid (seed=t.seed):=⟨_,rfl⟩
 obtain ⟨n3,n4,n5⟩:=kE ht.size
 rw [← HN.out] at n3 n4
 clear n5
 have H:=Lib.hid (And.intro hv (And.intro ht hk))
 have hne:bt≠bc:=ht.ne
 have hbtl:=ht.tab.lt
 have HT:Hid (∀ W,At W bt 73 [.slice (some ⟨bc,0,none⟩) t.cells.length cap,.int .u64 (t.seed:Int)]→W.cell? ⟨bt,0,none⟩=some (.slice (some ⟨bc,0,none⟩) n cap)∧W.cell? ⟨bt,1,none⟩=some (.int .u64 (seed:Int))):=fun W hW =>
  ⟨by rw [hW.cell,HN.out]; rfl,by rw [hW.cell,HS.out]; rfl⟩
 obtain ⟨q0,q1⟩:=HT.out w ht.tab
 clear hv ht hk
 obtain ⟨ck,HCK⟩:∃ ck,Hid (ck=eB seed 3 key):=⟨_,rfl⟩
 have HC:=Lib.hid (GU seed key w H.out.1 (by rw [HS.out]; exact H.out.2.1.ok.seed) (by rw [H.out.2.2]; omega))
 rw [← HCK.out] at HC
 go_enter Tryz.func39,Tryz.ntmps39
 go_wp2_with fail
 refine HC.out.mono ?_
 rintro e w1 ⟨rfl,hf1⟩
 have H1:Hid (Fr [] w w1∧At w1 bt 73 [.slice (some ⟨bc,0,none⟩) t.cells.length cap,.int .u64 (t.seed:Int)]):=⟨hf1,H.out.2.1.tab.fr hf1 si⟩
 clear q0 q1 hf1 HC
 obtain ⟨q0,q1⟩:=HT.out w1 H1.out.2
 have hbt1:bt < w1.heap.size:=H1.out.2.lt
 obtain ⟨L,HL⟩:∃ L,Hid (L=sI n seed key):=⟨_,rfl⟩
 have HPL:=Lib.hid (CJ n seed key w1.drew (H.out.1.fr H1.out.1.drew si si) (by rw [HS.out]; exact H.out.2.1.ok.seed) (by rw [H.out.2.2]; omega) n3 n4)
 rw [← HL.out] at HPL
 go_wp2_with fail
 go_region_held3 (fun w'=>w'.cell? ⟨bt,0,none⟩=some (.slice (some ⟨bc,0,none⟩) n cap)∧w'.cell? ⟨bt,1,none⟩=some (.int .u64 (seed:Int))) (first | go_keep | (exact HT.out _ H2.out.2))
  (first | (go_at_call 40; ((with_reducible refine HPL.out.mono ?_)); rintro e w2 ⟨rfl,hf2⟩; have H2:Hid (Fr [] w w2∧At w2 bt 73 [.slice (some ⟨bc,0,none⟩) t.cells.length cap,.int .u64 (t.seed:Int)]):=⟨H1.out.1.drew.trans hf2,H1.out.2.drew.fr hf2 (by simp)⟩; clear hf2))
 rename_i hHeld
 have HT0:Hid (Fr [bc] w w2∧dU w2 bt bc cap rest (t.fL key aD 0)):=⟨H2.out.1.mono si,H2.out.2,H.out.2.1.cells.fr H2.out.1 si,H.out.2.1.ok,H.out.2.1.size,H.out.2.1.cap⟩
 clear hHeld HPL H1 H2 q0 q1 hbt1
 go_wp2_with fail
 go_loopw [28] (fun s wx=>∃ k:Nat,k≤3∧s = .int .i64 k∧Hid (Fr [bc] w wx∧dU wx bt bc cap rest (t.fL key aD k))) (fun s _=>3 - (intOf s).toNat)
 case atStart=>exact ⟨0,by omega,rfl,HT0⟩
 case round =>
  obtain ⟨k,hk,rfl,HR⟩:=hrel
  obtain ⟨wo,HWO⟩:∃ wo,Hid (wo=wr):=⟨_,rfl⟩
  rw [← HWO.out] at HR ⊢
  clear HWO
  by_cases hlt:k < 3
  ·obtain ⟨p,HP⟩:∃ p,Hid (p=dB n seed key k):=⟨_,rfl⟩
   have hpn:p < n:=by rw [HP.out]; exact wW n seed key k n3 hlt
   have hix:∀ W:World,(Instr.index 83 (.agg L.toArray) (vi (k:Int))).run Tryz.prog W = .ok (Value.int .i64 (p:Int)) W:=wG (P:=Tryz.prog) 83 3 3 L (Value.int .i64 (p:Int)) .i64 k Tryz.underlying83 kr (fun _=>kr) hlt (by rw [HL.out,HP.out]; exact CK n seed key k hlt)
   obtain ⟨cl,HCL⟩:∃ cl,Hid (cl=(t.fL key aD k).cells):=⟨_,rfl⟩
   have hlen:Hid (cl.length=n):=by show cl.length=n; rw [HCL.out,BT.tP,HN.out]
   have hok:Hid (fV cl):=by show fV cl; rw [HCL.out]; exact HR.out.2.ok.cells
   obtain ⟨c,hc⟩:∃ c,cl[p]?=some c:=⟨_,List.getElem?_eq_getElem (by rw [hlen.out]; exact hpn)⟩
   have hcok:Hid c.Ok:=hok.out c (List.mem_of_getElem? hc)
   have HTB:Hid (At wo bt 73 [.slice (some ⟨bc,0,none⟩) t.cells.length cap,.int .u64 (t.seed:Int)]∧At wo bc 79 (cO cl++rest)):=by
    have h1:=HR.out.2.tab
    rw [BT.tP,BT.pD] at h1
    exact ⟨h1,by rw [HCL.out]; exact HR.out.2.cells⟩
   obtain ⟨q0,q1⟩:=HT.out wo HTB.out.1
   obtain ⟨cnt,HCN⟩:∃ cnt,Hid (cnt=c.count):=⟨_,rfl⟩
   obtain ⟨chk,HCH⟩:∃ chk,Hid (chk=c.checks):=⟨_,rfl⟩
   have r0:wo.cell? ⟨bc,p*34,none⟩=some (Value.int .i64 cnt):=by
    have:=kR hok.out rest p c hc 0 om
    rw [Nat.add_zero] at this
    rw [HTB.out.2.cell,this,HCN.out]
    rfl
   have r33:wo.cell? ⟨bc,p*34+33,none⟩=some (.int .u64 (chk:Int)):=by
    rw [HTB.out.2.cell,kR hok.out rest p c hc 33 om,HCH.out]
    exact uM hcok.out.keys
   have f0:=HTB.out.2.frozen (p*34)
   have f33:=HTB.out.2.frozen (p*34+33)
   obtain ⟨nc,e1,HNC⟩:∃ nc:Int,IntKind.i64.wrap (cnt+aD)=nc∧Hid (nc=IntKind.i64.wrap (c.count+aD)):=⟨_,rfl,by rw [HCN.out]; rfl⟩
   have hcku:Hid (cG ck):=by show cG ck; rw [HCK.out]; exact uL _ _ _
   obtain ⟨nk,e2,HNK⟩:∃ nk:Nat,bits BinOp.xor IntKind.u64 (chk:Int) (ck:Int)=(nk:Int)∧Hid (nk=c.checks ^^^ ck):=⟨_,u64_xor_nat _ _ (by rw [HCH.out]; exact hcok.out.checks) hcku.out,by rw [HCH.out]; rfl⟩
   have HN0:Hid (At ((wo.setCell ⟨bc,p*34,none⟩ (Value.int .i64 nc)).setCell ⟨bc,p*34+33,none⟩ (.int .u64 (nk:Int))) bc 79 (cO (cl.set p (c.part key aD ck 0))++rest)):=by
    have a1:=(HTB.out.2.set (p*34) (Value.int .i64 nc)).set (p*34+33) (.int .u64 (nk:Int))
    have e0:=pQ hok.out rest p c hc 0 om (Value.int .i64 nc) ⟨nc,c.keys,c.checks⟩ (CG c nc)
    rw [Nat.add_zero] at e0
    have hp':p < cl.length:=by rw [hlen.out]; exact hpn
    have ok1:fV (cl.set p ⟨nc,c.keys,c.checks⟩):=by
     intro d hd
     rcases List.mem_or_eq_of_mem_set hd with h | h
     ·exact hok.out d h
     ·rw [h]
      exact ⟨by rw [HNC.out]; exact CD _,hcok.out.keys,hcok.out.checks⟩
    have e3:=pQ ok1 rest p ⟨nc,c.keys,c.checks⟩ (by rw [List.getElem?_set_self hp']) 33 om (.int .u64 (nk:Int)) ⟨nc,c.keys,nk⟩ (CH (c:=⟨nc,c.keys,c.checks⟩) hcok.out.keys nk)
    rw [e0,e3,List.set_set] at a1
    rw [GJ,← HNC.out,← HNK.out]
    exact a1
   have hpI:(p:Int) < (n:Int):=om
   have hkI:(k:Int) < 3:=om
   have hbcl:=HTB.out.2.lt
   have HC2:=Lib.hid hc
   clear hc
   go_wp2_with fail
   have HW0:Hid (Fr [bc] w ((wo.setCell ⟨bc,p*34,none⟩ (Value.int .i64 nc)).setCell ⟨bc,p*34+33,none⟩ (.int .u64 (nk:Int)))∧At ((wo.setCell ⟨bc,p*34,none⟩ (Value.int .i64 nc)).setCell ⟨bc,p*34+33,none⟩ (.int .u64 (nk:Int))) bt 73 [.slice (some ⟨bc,0,none⟩) t.cells.length cap,.int .u64 (t.seed:Int)]) :=
    ⟨(HR.out.1.setCell si _).setCell si _,(HTB.out.1.far hne _).far hne _⟩
   generalize (wo.setCell ⟨bc,p*34,none⟩ (Value.int .i64 nc)).setCell ⟨bc,p*34+33,none⟩ (.int .u64 (nk:Int))=W0 at HN0 HW0 ⊢
   clear q0 q1 r0 r33 f0 f33 e1 e2 hix HTB
   go_loopw [53] (fun s wx=>∃ i:Nat,i≤32∧s = .int .i64 i∧Hid (Fr [bc] w wx∧At wx bt 73 [.slice (some ⟨bc,0,none⟩) t.cells.length cap,.int .u64 (t.seed:Int)]∧At wx bc 79 (cO (cl.set p (c.part key aD ck i))++rest))) (fun s _=>32 - (intOf s).toNat)
   case atStart=>exact ⟨0,by omega,rfl,HW0.out.1,HW0.out.2,HN0.out⟩
   case round =>
    obtain ⟨i,hi,rfl,HI⟩:=hrel
    have hp':Hid (p < cl.length):=by show p < cl.length; rw [hlen.out]; exact hpn
    have oki:Hid (fV (cl.set p (c.part key aD ck i))):=by
     intro d hd
     rcases List.mem_or_eq_of_mem_set hd with h | h
     ·exact hok.out d h
     ·rw [h]
      exact Ad hcok.out H.out.2.2 aD hcku.out i
    by_cases hlt2:i < 32
    ·obtain ⟨x,hx⟩:∃ x,c.keys[i]?=some x:=⟨_,List.getElem?_eq_getElem (by rw [hcok.out.keys]; exact hlt2)⟩
     obtain ⟨y,hy⟩:∃ y,key[i]?=some y:=⟨_,List.getElem?_eq_getElem (by rw [H.out.2.2]; exact hlt2)⟩
     have hiy:=GR key i y hy
     have hself:(cl.set p (c.part key aD ck i))[p]?=some (c.part key aD ck i):=List.getElem?_set_self hp'.out
     have rk:wr.cell? ⟨bc,p*34+1+i,none⟩=some (.int .u8 (x.toNat:Int)):=by
      rw [HI.out.2.2.cell,Nat.add_assoc,kR oki.out rest p _ hself (1+i) om]
      exact CF i x (GK key aD ck i x hx H.out.2.2 hcok.out.keys)
     have fk:=HI.out.2.2.frozen (p*34+1+i)
     obtain ⟨z,ez,HZ⟩:∃ z:UInt8,bits BinOp.xor IntKind.u8 (x.toNat:Int) (y.toNat:Int)=(z.toNat:Int)∧Hid (z=x ^^^ y):=⟨_,GM x y,rfl⟩
     have HNN:Hid (Fr [bc] w (wr.setCell ⟨bc,p*34+1+i,none⟩ (.int .u8 (z.toNat:Int))).drew∧At (wr.setCell ⟨bc,p*34+1+i,none⟩ (.int .u8 (z.toNat:Int))).drew bt 73 [.slice (some ⟨bc,0,none⟩) t.cells.length cap,.int .u64 (t.seed:Int)]∧At (wr.setCell ⟨bc,p*34+1+i,none⟩ (.int .u8 (z.toNat:Int))).drew bc 79 (cO (cl.set p (c.part key aD ck (i+1)))++rest)):=by
      refine ⟨(HI.out.1.setCell si _).drew,(HI.out.2.1.far hne _).drew,?_⟩
      have a1:=(HI.out.2.2.set (p*34+1+i) (.int .u8 (z.toNat:Int))).drew
      rw [Nat.add_assoc,pQ oki.out rest p _ hself (1+i) om (.int .u8 (z.toNat:Int)) (c.part key aD ck (i+1)) (by rw [HZ.out]; exact GL key aD ck i x y hx hy hcok.out.keys H.out.2.2),List.set_set] at a1
      rw [Nat.add_assoc]
      exact a1
     have hiI:(i:Int) < 32:=om
     clear hx hy hself
     go_wp2_with fail
     go_still_tail 13,(by kernel_rfl)
     change wpList _ _ _ _ _ wr.drew
     go_wp2_with fail
     generalize (wr.setCell ⟨bc,p*34+1+i,none⟩ (.int .u8 (z.toNat:Int))).drew=W1 at HNN ⊢
     clear rk fk ez hiy
     (try go_wp2_with fail)
     go_roundw
     case rel =>
      first
       | exact ⟨i+1,by omega,by go_num,HNN⟩
       | ((repeat apply Exists.intro); exact ⟨⟨i+1,by omega,by go_num,HNN⟩,rfl⟩)
     case measure=>simp [intOf] <;> omega
    ·obtain rfl:i=32:=om
     have HEND:Hid (Fr [bc] w wr∧dU wr bt bc cap rest (t.fL key aD (k+1))):=by
      have hlen2:(t.fL key aD (k+1)).cells.length=t.cells.length:=BT.tP _ _ _ _
      have hseed2:(t.fL key aD (k+1)).seed=t.seed:=BT.pD _ _ _ _
      have hplace:p=dB (t.fL key aD k).cells.length (t.fL key aD k).seed key k:=by rw [HP.out,BT.tP,BT.pD,HN.out,HS.out]
      have hcells:(t.fL key aD (k+1)).cells=cl.set p (c.part key aD ck 32):=by
       show ((t.fL key aD k).eC key aD k).cells=_
       rw [BT.XE _ key aD k c (by rw [← hplace,← HCL.out]; exact HC2.out),← hplace,← HCL.out,CE c key aD ck hcok.out.keys H.out.2.2,BT.pD,HCK.out,HS.out]
      refine ⟨HI.out.1,?_,?_,BT.Ok.fL H.out.2.1.ok H.out.2.2 aD (k+1),?_,?_⟩
      ·rw [hlen2,hseed2]
       exact HI.out.2.1
      ·rw [hcells]
       exact HI.out.2.2
      ·rw [hlen2]
       exact H.out.2.1.size
      ·rw [hlen2]
       exact H.out.2.1.cap
     go_wp2_with fail
     go_roundw
     case rel =>
      first
       | exact ⟨k+1,by omega,by go_num,HEND⟩
       | ((repeat apply Exists.intro); exact ⟨⟨k+1,by omega,by go_num,HEND⟩,rfl⟩)
     case measure=>simp [intOf] <;> omega
  ·obtain rfl:k=3:=om
   go_wp2_with fail
   go_end0
   exact ⟨rfl,HR.out.1,HR.out.2⟩
theorem OK (n i:Nat) (h:i < n*34):(cO (List.replicate n BC.zero))[i]?=BC.zero.cells[i % 34]?:=by
 have ok:fV (List.replicate n BC.zero):=by
  intro c hc
  rw [List.eq_of_mem_replicate hc]
  exact BC.Ok.zero
 have hp:(List.replicate n BC.zero)[i / 34]?=some BC.zero:=by rw [List.getElem?_replicate,if_pos om]
 have:=kR ok [] (i / 34) BC.zero hp (i % 34) om
 rw [List.append_nil,show i / 34*34+i % 34=i by omega] at this
 exact this
theorem GV (n:Nat):madeCells BC.zero.cells.toArray (n*34)=(cO (List.replicate n BC.zero)).toArray:=by
 have ok:fV (List.replicate n BC.zero):=by
  intro c hc
  rw [List.eq_of_mem_replicate hc]
  exact BC.Ok.zero
 apply Array.ext_getElem?
 intro i
 rw [show (cO (List.replicate n BC.zero)).toArray[i]?=(cO (List.replicate n BC.zero))[i]? from List.getElem?_toArray ..]
 by_cases h:i < n*34
 ·rw [OK n i h]
  have hz:BC.zero.cells.toArray.size=34:=rfl
  have hm:i % 34 < BC.zero.cells.toArray.size:=by rw [hz]; omega
  have e1:(madeCells BC.zero.cells.toArray (n*34))[i]?=some (BC.zero.cells.toArray[i % 34]!):=by
   unfold madeCells
   rw [Array.getElem?_map,Array.getElem?_range,if_pos h,hz]
   rfl
  rw [e1,getElem!_pos BC.zero.cells.toArray (i % 34) hm,List.getElem?_eq_getElem (l:=BC.zero.cells) (i:=i % 34) (by simpa using hm)]
  rfl
 ·rw [List.getElem?_eq_none (by rw [oJ ok,List.length_replicate]; omega),Array.getElem?_eq_none (by rw [size_madeCells]; omega)]
theorem BT.Ok.new (n seed:Nat) (hs:cG seed):(BT.new n seed).Ok:=by
 refine ⟨fun c hc=>?_,hs⟩
 rw [List.eq_of_mem_replicate hc]
 exact BC.Ok.zero
theorem OL (n:Nat) (hn:n≤3072) (w:World):(Instr.makeSlice 71 (vi (n:Int)) (vi (n:Int))).run Tryz.prog w = .ok (.slice (some ⟨w.heap.size,0,none⟩) n n) (w.alloc (.cells (cO (List.replicate n BC.zero)).toArray 79)):=by
 have hinfo:(Tryz.prog.info? 79).map (fun i=>(i.zero,i.size,i.bytes))=some (some (.agg BC.zero.cells.toArray),34,48):=by kernel_rfl
 obtain ⟨i,hi,hz,hsz,hby⟩:=info_parts hinfo
 have:=run_make (P:=Tryz.prog) w 71 79 i _ Tryz.underlying71 hi hz .i64 .i64 (n:Int) (n:Int) om om (by rw [hby]; omega) om
 rw [hsz,Int.toNat_natCast] at this
 rw [this,← GV]
 rfl
theorem OM (n seed:Nat) (w:World) (h:eW (n:Int)=true) (hs:cG seed):Calls Tryz.prog 11 #[vi (n:Int),.int .u64 (seed:Int)] w fun e w'=>e = .returned (.tuple #[.pointer (some ⟨w.heap.size+1,0,none⟩),vi 0])∧Fr [] w w'∧dU w' (w.heap.size+1) w.heap.size n [] (BT.new n seed):=by
 have H:=Lib.hid (CI (n:Int) w)
 rw [h] at H
 obtain ⟨n3,n4,n5⟩:=kE h
 have hmk:=OL n n4 w
 have HH:=Lib.hid (And.intro h hs)
 clear h hs n5
 obtain ⟨W1,HW1⟩:∃ W1,Hid (W1=w.alloc (.cells (cO (List.replicate n BC.zero)).toArray 79)):=⟨_,rfl⟩
 rw [← HW1.out] at hmk
 have hsz:W1.heap.size=w.heap.size+1:=by rw [HW1.out]; simp
 have HZ:=Lib.hid hsz
 clear hsz
 go_enter Tryz.func11,Tryz.ntmps11
 go_wp2_with fail
 refine H.out.mono ?_
 rintro e w1 ⟨rfl,rfl⟩
 go_wp2_with fail
 go_ret2
 have ha:At W1 w.heap.size 79 (cO (List.replicate n BC.zero)):=by rw [HW1.out]; exact At.new _ _ _
 have hf:Fr [] w W1:=by rw [HW1.out]; exact (Fr.refl _ _).alloc _
 refine ⟨by rw [HZ.out]; rfl,hf.alloc _,?_,?_,BT.Ok.new n seed HH.out.2,?_,?_⟩
 ·have:=At.new W1 73 [.slice (some ⟨w.heap.size,0,none⟩) n n,.int .u64 (seed:Int)]
  rw [HZ.out] at this
  have e:(BT.new n seed).cells.length=n:=by simp [BT.new]
  rw [e]
  exact this
 ·rw [List.append_nil]
  exact ha.alloc _
 ·have e:(BT.new n seed).cells.length=n:=by simp [BT.new]
  rw [e]
  exact HH.out.1
 ·have e:(BT.new n seed).cells.length=n:=by simp [BT.new]
  rw [e]
  exact Nat.le_refl _
theorem GW (bt bc cap:Nat) (rest:List Value) (t:BT) (key:List UInt8) (aD:Int) (w:World) (hv:bW w) (ht:dU w bt bc cap rest t) (hk:key.length=32) :
  Calls Tryz.prog 35 #[vP bt 0,.string (bD key),vi aD] w fun e w'=>e = .returned (vi 0)∧Fr [bc] w w'∧dU w' bt bc cap rest (t.change key aD):=by
 have hs:(bD key).size=32:=by simp [bD,ByteArray.size,hk]
 obtain ⟨n,HN⟩:∃ n,Hid (n=t.cells.length):=⟨_,rfl⟩
 have h3:3≤n:=by rw [HN.out]; exact (kE ht.size).1
 have c0:w.cell? ⟨bt,0,none⟩=some (.slice (some ⟨bc,0,none⟩) n cap):=by rw [ht.tab.cell,HN.out]; rfl
 have HC:=Lib.hid (CL bt bc cap rest t key aD w hv ht hk)
 clear hv ht hk
 obtain ⟨ks,HK⟩:∃ ks,Hid (ks=bD key):=⟨_,rfl⟩
 rw [← HK.out] at hs HC ⊢
 have hnn:(n:Int)≠0:=om
 have hnb:((n:Int) == 0)=false:=by simp; omega
 have hn0:n≠0:=om
 go_enter Tryz.func35,Tryz.ntmps35
 go_wp2_with fail
 refine HC.out.mono ?_
 rintro e w1 ⟨rfl,hf1,ht1⟩
 go_wp2_with fail
 go_ret
 exact ⟨rfl,hf1,ht1⟩
theorem GX (bt bc cap:Nat) (rest:List Value) (t:BT) (key:List UInt8) (w:World) (hv:bW w) (ht:dU w bt bc cap rest t) (hk:key.length=32) :
  Calls Tryz.prog 13 #[vP bt 0,.string (bD key)] w fun e w'=>e = .returned (vi 0)∧Fr [bc] w w'∧dU w' bt bc cap rest (t.change key (1)):=by
 have HC:=Lib.hid (GW bt bc cap rest t key (1) w hv ht hk)
 clear hv ht hk
 go_enter Tryz.func13,Tryz.ntmps13
 go_wp2_with fail
 refine HC.out.mono ?_
 rintro e w1 ⟨rfl,hf1,ht1⟩
 go_wp2_with fail
 go_ret
 exact ⟨rfl,hf1,ht1⟩
theorem ON (bt bc cap:Nat) (rest:List Value) (t:BT) (key:List UInt8) (w:World) (hv:bW w) (ht:dU w bt bc cap rest t) (hk:key.length=32) :
  Calls Tryz.prog 17 #[vP bt 0,.string (bD key)] w fun e w'=>e = .returned (vi 0)∧Fr [bc] w w'∧dU w' bt bc cap rest (t.change key (-1)):=by
 have HC:=Lib.hid (GW bt bc cap rest t key (-1) w hv ht hk)
 clear hv ht hk
 go_enter Tryz.func17,Tryz.ntmps17
 go_wp2_with fail
 refine HC.out.mono ?_
 rintro e w1 ⟨rfl,hf1,ht1⟩
 go_wp2_with fail
 go_ret
 exact ⟨rfl,hf1,ht1⟩
def CM (bt bc p seed chk : Nat) (cnt : Int) (keys : List UInt8) (w' : World) : Prop :=
 w'.cell? ⟨bt, 1, none⟩ = some (.int .u64 (seed : Int)) ∧ w'.cell? ⟨bc, p * 34, none⟩ = some (Value.int .i64 cnt) ∧ w'.cell? ⟨bc, p * 34 + 33, none⟩ = some (.int .u64 (chk : Int)) ∧ (convert 22 9 (.slice (some ⟨bc, p * 34 + 1, none⟩) 32 32)).run Tryz.prog w' = .ok (.string (bD keys)) w'
theorem CN {w:World} {bt bc cap:Nat} {rest:List Value} {t:BT} (h:dU w bt bc cap rest t) (p:Nat) (c:BC) (hc:t.cells[p]?=some c):CM bt bc p t.seed c.checks c.count c.keys w:=by
 have ok:fV t.cells:=h.ok.cells
 have hk:=(ok c (List.mem_of_getElem? hc)).keys
 refine ⟨by rw [h.tab.cell]; rfl,?_,?_,?_⟩
 ·have:=kR ok rest p c hc 0 om
  rw [Nat.add_zero] at this
  rw [h.cells.cell,this]
  rfl
 ·rw [h.cells.cell,kR ok rest p c hc 33 om]
  exact uM hk
 ·have:=uA (P:=Tryz.prog) (src:=22) (dst:=9) Tryz.underlying22 Tryz.underlying5 Tryz.underlying9 w (some ⟨bc,p*34+1,none⟩) 32 c.keys (fun j v hj=>⟨bc,p*34+1,rfl,h.cells.lt,by
   have hjl:=(List.getElem?_eq_some_iff.1 hj).1
   rw [dW,hk] at hjl
   rw [h.cells.cell,Nat.add_assoc,kR ok rest p c hc (1+j) om,BC.cells,Nat.add_comm 1 j,List.getElem?_cons_succ,List.getElem?_append_left (by rw [dW,hk]; exact hjl)]
   exact hj⟩)
  rw [hk] at this
  exact this
theorem CO (bt bc cap:Nat) (rest:List Value) (t:BT) (p:Nat) (c:BC) (w:World) (hv:bW w) (ht:dU w bt bc cap rest t) (hc:t.cells[p]?=some c) :
  Calls Tryz.prog 37 #[vP bt 0,vi (p:Int)] w fun e w'=>e = .returned (.bool (c.pure t.seed))∧Fr [] w w':=by
 obtain ⟨n,HN⟩:∃ n,Hid (n=t.cells.length):=⟨_,rfl⟩
 obtain ⟨seed,HS⟩:∃ seed,Hid (seed=t.seed):=⟨_,rfl⟩
 obtain ⟨cnt,HCN⟩:∃ cnt,Hid (cnt=c.count):=⟨_,rfl⟩
 obtain ⟨chk,HCH⟩:∃ chk,Hid (chk=c.checks):=⟨_,rfl⟩
 obtain ⟨keys,HK⟩:∃ keys,Hid (keys=c.keys):=⟨_,rfl⟩
 have hp:p < n:=by rw [HN.out]; exact (List.getElem?_eq_some_iff.1 hc).1
 have hpI:(p:Int) < (n:Int):=om
 have q0:w.cell? ⟨bt,0,none⟩=some (.slice (some ⟨bc,0,none⟩) n cap):=by rw [ht.tab.cell,HN.out]; rfl
 have HP:=Lib.hid (CN ht p c hc)
 rw [← HS.out,← HCN.out,← HCH.out,← HK.out] at HP
 have HPD:=Lib.hid (CN (w:=w.drew) (ht.fr (Fr.refl [] w).drew si si) p c hc)
 rw [← HS.out,← HCN.out,← HCH.out,← HK.out] at HPD
 have H:=Lib.hid (And.intro hv (And.intro ht hc))
 have HKL:Hid (keys.length=32):=by show keys.length=32; rw [HK.out]; exact (ht.ok.cells c (List.mem_of_getElem? hc)).keys
 obtain ⟨ck,HCK⟩:∃ ck,Hid (ck=eB seed 3 keys):=⟨_,rfl⟩
 have HCC:Hid (∀ W,Fr [] w W→Calls Tryz.prog 67 #[.int .u64 (seed:Int),.string (bD keys)] W fun e w'=>e = .returned (.int .u64 (ck:Int))∧Fr [] W w'∧CM bt bc p seed chk cnt keys w'):=fun W hW=>by
  have:=GU seed keys W (H.out.1.fr hW si si) (by rw [HS.out]; exact H.out.2.1.ok.seed) (by rw [HKL.out]; omega)
  rw [← HCK.out] at this
  refine this.mono ?_
  rintro e w' ⟨he,hf⟩
  refine ⟨he,hf,?_⟩
  have h2:=CN (H.out.2.1.fr (hW.trans hf) si si) p c H.out.2.2
  rw [← HS.out,← HCN.out,← HCH.out,← HK.out] at h2
  exact h2
 have hsl:∀ W:World,(Instr.sliceAt 77 (.pointer (some ⟨bc,p*34+1,none⟩)) none none none).run Tryz.prog W = .ok (.slice (some ⟨bc,p*34+1,none⟩) 32 32) W:=fun W=>by
  have hl:Tryz.prog.arrayLen 77=32:=by kernel_rfl
  have hz:(sizeOf (Tryz.prog.elem 77)).run Tryz.prog W = .ok 1 W:=by kernel_rfl
  rw [run_sliceAt_array_all W 77 ⟨bc,p*34+1,none⟩ kr,hz,hl]
  simp [slicedAt,jS]
 have HRES:Hid (c.pure t.seed=((decide (cnt=1) || decide (cnt = -1)) && decide (chk=ck))):=by
  show c.pure t.seed=_
  rw [HCN.out,HCH.out,HCK.out,HK.out,HS.out]
  rfl
 rw [HRES.out]
 clear hv ht hc
 by_cases h1:cnt=1
 ·have HD:Hid (((decide (cnt=1) || decide (cnt = -1)) && decide (chk=ck))=decide (chk=ck)):=by show _=_; rw [h1]; rfl
  rw [HD.out]
  clear HD
  subst h1
  go_enter Tryz.func37,Tryz.ntmps37
  go_wp2_with fail
  refine wp_region_held_drew (S:=(fun w'=>w'.cell? ⟨bt,1,none⟩=some (.int .u64 (seed:Int))∧w'.cell? ⟨bc,p*34,none⟩=some (Value.int .i64 (1))∧w'.cell? ⟨bc,p*34+33,none⟩=some (.int .u64 (chk:Int))∧(convert 22 9 (.slice (some ⟨bc,p*34+1,none⟩) 32 32)).run Tryz.prog w' = .ok (vS keys) w')) kr HPD.out (fun hHeld=>?_)
  refine wpAnyH_take (i:=0) (v:=?v0) rfl kr kr kr (fun _ _ _ h=>h) (Or.inl ⟨by rfl,?y0⟩) hHeld ?r0
  case y0=>(intro w' hS'; (try dsimp only at hS'); go_simp; try with_reducible rfl)
  refine wpAnyH_take (i:=1) (v:=?v1) rfl kr kr kr (fun _ _ _ h=>h) (Or.inl ⟨by rfl,?y1⟩) hHeld ?r1
  case y1=>(intro w' hS'; (try dsimp only at hS'); go_simp; try with_reducible rfl)
  refine wpAnyH_take (i:=2) (v:=?v2) rfl kr kr kr (fun _ _ _ h=>h) (Or.inl ⟨by rfl,?y2⟩) hHeld ?r2
  case y2=>(intro w' hS'; (try dsimp only at hS'); go_simp; try with_reducible rfl)
  refine wpAnyH_take (i:=3) (v:=?v3) rfl kr kr kr (fun _ _ _ h=>h) (Or.inl ⟨by rfl,?y3⟩) hHeld ?r3
  case y3=>(intro w' hS'; (try dsimp only at hS'); go_simp; try with_reducible rfl)
  refine wpAnyH_take (i:=4) (v:=.bool true) rfl kr kr kr (fun _ _ _ h=>h) (Or.inl ⟨by rfl,?y4⟩) hHeld ?r4
  case y4=>(intro w' hS'; (try dsimp only at hS'); go_simp; try with_reducible rfl)
  refine wpAnyH_take (i:=5) (v:=.bool true) rfl kr kr kr (fun _ _ _ h=>h) (Or.inl ⟨by rfl,?y5⟩) hHeld ?r5
  case y5=>(intro w' hS'; (try dsimp only at hS'); go_simp; try with_reducible rfl)
  refine wpAnyH_take (i:=6) (v:=undef) rfl kr kr kr (fun _ _ _ h=>h) (Or.inr ⟨kr,rfl⟩) hHeld ?r6
  refine wpAnyH_take (i:=7) (v:=undef) rfl kr kr kr (fun _ _ _ h=>h) (Or.inr ⟨kr,rfl⟩) hHeld ?r7
  refine wpAnyH_take (i:=8) (v:=undef) rfl kr kr kr (fun _ _ _ h=>h) (Or.inr ⟨kr,rfl⟩) hHeld ?r8
  refine wpAnyH_take (i:=9) (v:=undef) rfl kr kr kr (fun _ _ _ h=>h) (Or.inr ⟨kr,rfl⟩) hHeld ?r9
  refine wpAnyH_take (i:=10) (v:=undef) rfl kr kr kr (fun _ _ _ h=>h) (Or.inr ⟨kr,rfl⟩) hHeld ?r10
  refine wpAnyH_take (i:=11) (v:=.bool true) rfl kr kr kr (fun _ _ _ h=>h) (Or.inl ⟨kr,?y11⟩) hHeld ?r11
  case y11=>(intro w' hS'; (try dsimp only at hS'); go_simp; try with_reducible rfl)
  refine wpAnyH_take (i:=12) (v:=.bool true) rfl kr kr kr (fun _ _ _ h=>h) (Or.inl ⟨kr,?y12⟩) hHeld ?r12
  case y12=>(intro w' hS'; (try dsimp only at hS'); go_simp; try with_reducible rfl)
  refine wpAnyH_take (i:=13) (v:=?v13) rfl kr kr kr (fun _ _ _ h=>h) (Or.inl ⟨kr,?y13⟩) hHeld ?r13
  case y13=>(intro w' hS'; (try dsimp only at hS'); go_simp; try with_reducible rfl)
  refine wpAnyH_take (i:=14) (v:=?v14) rfl kr kr kr (fun _ _ _ h=>h) (Or.inl ⟨kr,?y14⟩) hHeld ?r14
  case y14=>(intro w' hS'; (try dsimp only at hS'); go_simp; try with_reducible rfl)
  refine wpAnyH_take (i:=15) (v:=?v15) rfl kr kr kr (fun _ _ _ h=>h) (Or.inl ⟨kr,?y15⟩) hHeld ?r15
  case y15=>(intro w' hS'; (try dsimp only at hS'); go_simp; try with_reducible rfl)
  refine wpAnyH_take (i:=16) (v:=?v16) rfl kr kr kr (fun _ _ _ h=>h) (Or.inl ⟨kr,?y16⟩) hHeld ?r16
  case y16=>(intro w' hS'; (try dsimp only at hS'); go_simp; try with_reducible rfl)
  refine wpAnyH_take (i:=17) (v:=?v17) rfl kr kr kr (fun _ _ _ h=>h) (Or.inl ⟨kr,?y17⟩) hHeld ?r17
  case y17=>(intro w' hS'; (try dsimp only at hS'); go_simp; try with_reducible rfl)
  refine wpAnyH_take (i:=18) (v:=?v18) rfl kr kr kr (fun _ _ _ h=>h) (Or.inl ⟨kr,?y18⟩) hHeld ?r18
  case y18=>(intro w' hS'; (try dsimp only at hS'); go_simp; try with_reducible rfl)
  refine wpAnyH_take (i:=19) (v:=?v19) rfl kr kr kr (fun _ _ _ h=>h) (Or.inl ⟨kr,?y19⟩) hHeld ?r19
  case y19=>(intro w' hS'; (try dsimp only at hS'); go_simp; try with_reducible rfl)
  refine wpAnyH_take (i:=20) (v:=?v20) rfl kr kr kr (fun _ _ _ h=>h) (Or.inl ⟨kr,?y20⟩) hHeld ?r20
  case y20=>(intro w' hS'; (try dsimp only at hS'); go_simp; try with_reducible rfl)
  refine wpAnyH_take (i:=21) (v:=?v21) rfl kr kr kr (fun _ _ _ h=>h) (Or.inl ⟨kr,?y21⟩) hHeld ?r21
  case y21=>(intro w' hS'; (try dsimp only at hS'); go_simp; try with_reducible rfl)
  refine wpAnyH_take (i:=22) (v:=?v22) rfl kr kr kr (fun _ _ _ h=>h) (Or.inl ⟨kr,?y22⟩) hHeld ?r22
  case y22=>(intro w' hS'; (try dsimp only at hS'); go_simp; try with_reducible rfl)
  refine wpAnyH_take (i:=23) (v:=?v23) rfl kr kr kr (fun _ _ _ h=>h) (Or.inl ⟨kr,?y23⟩) hHeld ?r23
  case y23=>(intro w' hS'; (try dsimp only at hS'); go_simp; try with_reducible rfl)
  refine wpAnyH_take (i:=24) (v:=?v24) rfl kr kr kr (fun _ _ _ h=>h) (Or.inl ⟨kr,?y24⟩) hHeld ?r24
  case y24=>(intro w' hS'; (try dsimp only at hS'); go_simp; try with_reducible rfl)
  refine wpAnyH_take (i:=25) (v:=?v25) rfl kr kr kr (fun _ _ _ h=>h) (Or.inl ⟨kr,?y25⟩) hHeld ?r25
  case y25=>(intro w' hS'; (try dsimp only at hS'); go_simp; try with_reducible rfl)
  refine wpAnyH_ready (rs:=[26]) kr si<|AllReadyH.cons rfl (fun K hK=>?_) AllReadyH.nil
  go_simp
  refine (HCC.out _ (Fr.refl _ _).drew).mono ?_
  rintro e w2 ⟨rfl,hf2,hs2⟩
  (try go_wp2_with fail)
  refine hK.out _ _ hs2 (fun hHeld2=>?_)
  clear hK K hHeld
  have hHeld:=hHeld2
  clear hHeld2
  refine wpAnyH_take (i:=27) (v:=?v27) rfl kr kr kr (fun _ _ _ h=>h) (Or.inl ⟨kr,?y27⟩) hHeld ?r27
  case y27=>(intro w' hS'; (try dsimp only at hS'); go_simp; try with_reducible rfl)
  refine wpAnyH_take (i:=28) (v:=?v28) rfl kr kr kr (fun _ _ _ h=>h) (Or.inl ⟨kr,?y28⟩) hHeld ?r28
  case y28=>(intro w' hS'; (try dsimp only at hS'); go_simp; try with_reducible rfl)
  refine wpAnyH_take (i:=29) (v:=?v29) rfl kr kr kr (fun _ _ _ h=>h) (Or.inl ⟨kr,?y29⟩) hHeld ?r29
  case y29=>(intro w' hS'; (try dsimp only at hS'); go_simp; try with_reducible rfl)
  refine wpAnyH_done kr ?_ _
  go_wp2_with fail
  go_ret
  exact ⟨eM (by rw [Bool.eq_iff_iff]; simp; omega),(Fr.refl [] w).drew.trans hf2⟩
 by_cases h2:cnt = -1
 ·have HD:Hid (((decide (cnt=1) || decide (cnt = -1)) && decide (chk=ck))=decide (chk=ck)):=by show _=_; rw [h2]; rfl
  rw [HD.out]
  clear HD
  subst h2
  go_enter Tryz.func37,Tryz.ntmps37
  go_wp2_with fail
  go_region_held3 (fun w'=>w'.cell? ⟨bt,1,none⟩=some (.int .u64 (seed:Int))∧w'.cell? ⟨bc,p*34,none⟩=some (Value.int .i64 (-1))∧w'.cell? ⟨bc,p*34+33,none⟩=some (.int .u64 (chk:Int))∧(convert 22 9 (.slice (some ⟨bc,p*34+1,none⟩) 32 32)).run Tryz.prog w' = .ok (vS keys) w') (first | exact HPD.out | exact hs2) (first | (go_at_call 67; refine (HCC.out _ (Fr.refl _ _).drew).mono ?_; rintro e w2 ⟨rfl,hf2,hs2⟩))
  go_wp2_with fail
  go_ret
  exact ⟨eM (by rw [Bool.eq_iff_iff]; simp; omega),(Fr.refl [] w).drew.trans hf2⟩
 have d1:(cnt == 1)=false:=by simpa using h1
 have d2:(cnt == -1)=false:=by simpa using h2
 have d3:decide (cnt=1)=false:=by simpa using h1
 have d4:decide (cnt = -1)=false:=by simpa using h2
 have HD:Hid (((decide (cnt=1) || decide (cnt = -1)) && decide (chk=ck))=false):=by show _=_; rw [d3,d4]; rfl
 rw [HD.out]
 obtain ⟨p1,p2,p3,p4⟩:CM bt bc p seed chk cnt keys w:=HP.out
 clear p4 p3 p1 h1 h2 hsl
 go_enter Tryz.func37,Tryz.ntmps37
 go_wp2_with fail
 go_quiet (fail)
 go_wp2_with fail
 go_ret
 exact ⟨rfl,(Fr.refl [] w).drewN _⟩
theorem GY (l:List UInt8):B8 l=l.map Extern.Stop.cell:=rfl
theorem OO (c:BC) (hk:c.keys.length=32):c.cells.toArray.extract 1 33=(B8 c.keys).toArray:=by
 have h:(B8 c.keys).length=32:=by rw [dW,hk]
 rw [List.extract_toArray]
 congr 1
 show (List.drop 1 (Value.int .i64 c.count::(B8 c.keys++[.int .u64 (c.checks:Int)]))).take (33 - 1)=B8 c.keys
 rw [List.drop_succ_cons,List.drop_zero,List.take_append_of_le_length (by rw [h]; decide),List.take_of_length_le (by rw [h]; decide)]
theorem OP {P : Program} (w : World) (d : Nat) (ti tk tu te : TypeId) (f0 f1 f2 : Field) (hn0 : f0.name ≠ "_") (hn1 : f1.name ≠ "_") (hn2 : f2.name ≠ "_") (h0 : f0.offset = 0) (h1 : f1.offset = 1) (h2 : f2.offset = 33)
  (t0 : f0.type = ti) (t1 : f1.type = tk) (t2 : f2.type = tu) (ui : P.underlying ti = some (.int .i64)) (uk : P.underlying tk = some (.array 32 te)) (uu : P.underlying tu = some (.int .u64)) (ue : P.underlying te = some (.int .u8))
  (hse : ∀ w, (sizeOf te).run P w = .ok 1 w) (hsk : ∀ w, (sizeOf tk).run P w = .ok 32 w) (c e : BC) (hc : c.keys.length = 32) (he : e.keys.length = 32) :
  (Op.eqFields (d + 2) c.cells.toArray e.cells.toArray [f0, f1, f2]).run P w = .ok (decide (c.count = e.count) && decide (c.keys = e.keys) && decide (c.checks = e.checks)) w:=by
 have p0:∀ x:BC,(part ti x.cells.toArray 0).run P w = .ok (Value.int .i64 x.count) w:=fun x=>by simp [part,isAgg,run_underlying ui,BC.cells]
 have p1:∀ x:BC,x.keys.length=32→(part tk x.cells.toArray 1).run P w = .ok (.agg (B8 x.keys).toArray) w:=fun x hx=>by
  have:=OO x hx
  simp only [part,isAgg,Sem.run_bind,run_underlying uk,Result.andThen_ok,Sem.run_pure,if_true,hsk]
  rw [← this]
 have p2:∀ x:BC,x.keys.length=32→(part tu x.cells.toArray 33).run P w = .ok (.int .u64 (x.checks:Int)) w:=fun x hx=>by
  have:=uM hx
  simp [part,isAgg,run_underlying uu,this]
 have q1:=run_equalIn_bytes (P:=P) w d tk te 32 uk ue hse c.keys e.keys hc he
 rw [← GY,← GY] at q1
 simp only [Op.eqFields,hn0,hn1,hn2,h0,h1,h2,t0,t1,t2,Sem.run_bind,Sem.run_ite,ne_eq,not_false_eq_true,if_true,p0,p1 _ hc,p1 _ he,p2 _ hc,p2 _ he,Result.andThen_ok,q1,run_equalIn_int w (d+1) ti .i64 .i64 _ _ ui,run_equalIn_int w (d+1) tu .u64 .u64 _ _ uu,Sem.run_pure]
 by_cases a0:c.count=e.count
 ·by_cases a1:c.keys=e.keys
  ·by_cases a2:c.checks=e.checks
   ·simp [a0,a1,a2]
   ·have:((c.checks:Int) == (e.checks:Int))=false:=by simp; omega
    simp [a0,a1,a2,this]
  ·have:(c.keys == e.keys)=false:=by simpa using a1
   simp [a0,a1,this]
 ·have:(c.count == e.count)=false:=by simpa using a0
  simp [a0,this]
theorem OQ {P : Program} (t ti tk tu te : TypeId) (a0 a1 a2 : String) (hn0 : a0 ≠ "_") (hn1 : a1 ≠ "_") (hn2 : a2 ≠ "_") (hm : (P.fieldsOf t).toList.map (fun f => (f.name, f.type, f.offset)) = [(a0, ti, 0), (a1, tk, 1), (a2, tu, 33)])
  (ht : P.underlying t = some (.struct (P.fieldsOf t))) (hp : P.stoodInHeld t = false) (ui : P.underlying ti = some (.int .i64)) (uk : P.underlying tk = some (.array 32 te)) (uu : P.underlying tu = some (.int .u64)) (ue : P.underlying te = some (.int .u8))
  (hse : ∀ w, (sizeOf te).run P w = .ok 1 w) (hsk : ∀ w, (sizeOf tk).run P w = .ok 32 w) (c e : BC) (hc : c.keys.length = 32) (he : e.keys.length = 32) (w : World) :
  (binOp .neq t (.agg c.cells.toArray) (.agg e.cells.toArray)).run P w = .ok (.bool (!(decide (c.count = e.count) && decide (c.keys = e.keys) && decide (c.checks = e.checks)))) w:=by
 rw [run_neq_struct,show (10000:Nat)=9997+2+1 from rfl,run_equalIn_agg w (9997+2) t _ _ ht hp]
 generalize (P.fieldsOf t).toList=fs at hm
 have hl:fs.length=3:=by have:=congrArg List.length hm; simpa using this
 match fs,hl with
 | [f0,f1,f2],_ =>
   simp only [List.map_cons,List.map_nil,List.cons.injEq,Prod.mk.injEq,and_true] at hm
   obtain ⟨⟨m0,m1,m2⟩,⟨m3,m4,m5⟩,⟨m6,m7,m8⟩⟩:=hm
   rw [OP w 9997 ti tk tu te f0 f1 f2 (by rw [m0]; exact hn0) (by rw [m3]; exact hn1) (by rw [m6]; exact hn2) m2 m5 m8 m1 m4 m7 ui uk uu ue hse hsk c e hc he]
   rfl
theorem OR (c : BC) (hc : c.keys.length = 32) (w : World) : (binOp .neq 79 (.agg c.cells.toArray) (.agg BC.zero.cells.toArray)).run Tryz.prog w = .ok (.bool (!c.isZero)) w :=
 OQ 79 3 77 40 5 "count" "keys" "checks" (by decide) (by decide) (by decide) (by kernel_rfl) (by kernel_rfl) (by kernel_rfl) Tryz.underlying3 Tryz.underlying77 Tryz.underlying40 Tryz.underlying5 (fun w => by kernel_rfl) (fun w => by kernel_rfl) c BC.zero hc rfl w
theorem OS:mD Tryz.prog 71 79 (.agg BC.zero.cells.toArray) 34 48:=⟨Tryz.underlying71,kr,rfl,om,om⟩
theorem OT {w:World} {base:Nat} {e:TypeId} {sz:Nat} {v:Value} {n:Nat} {xs:List Value} (h:w.ownsRow base e sz v n xs) (hn:0 < n) :
  ∃ g cap rest,v = .slice (some ⟨g,0,none⟩) n cap∧base≤g∧n≤cap∧At w g e (xs++rest):=by
 rcases h.2 with ⟨_,h0⟩ | ⟨g,cap,cur,rfl,hb,hgg,hnc,_,hcs,ht⟩
 ·omega
 ·refine ⟨g,cap,cur.toList.drop (n*sz),rfl,hb,hnc,?_⟩
  unfold At
  rw [← ht,List.take_append_drop]
  simpa using hgg
theorem OU (bc cap n:Nat) (l:List BC) (rest:List Value) (w:World) (ha:At w bc 79 (cO l++rest)) (hok:fV l) (hn:n=l.length) (h3:3≤n) (h4:n≤3072) :
  Calls Tryz.prog 66 #[.slice (some ⟨bc,0,none⟩) n cap] w fun e w'=>∃ g c' rest',e = .returned (.slice (some ⟨g,0,none⟩) n c')∧w.heap.size≤g∧n≤c'∧Fr [] w w'∧At w' g 79 (cO l++rest'):=by
 have H:=Lib.hid (And.intro ha (And.intro hok hn))
 obtain ⟨C,HC⟩:∃ C,Hid (C=cO l):=⟨_,rfl⟩
 have HCL:Hid (C.length=n*34∧(∀ v∈C,v.oneCell'=true)):=by
  show _∧_
  rw [HC.out,oJ hok,hn]
  exact ⟨rfl,Ac⟩
 have HCA:Hid (∀ W,Fr [] w W→eQ W (some ⟨bc,0,none⟩) C):=fun W hW j v hv=>⟨_,rfl,by
  rw [jS,Nat.zero_add,hW.cell (p:=⟨bc,j,none⟩) ha.lt si,ha.cell,List.getElem?_append_left (by rw [← HC.out]; exact (List.getElem?_eq_some_iff.1 hv).1),← HC.out]
  exact hv⟩
 clear ha hok hn
 have hnil:=fun W:World=>Lib.run_eql_slice_nil (P:=Tryz.prog) W 71 79 (some ⟨bc,0,none⟩) n cap 0 0 Tryz.underlying71
 go_enter Tryz.func66,Tryz.ntmps66
 go_wp2_with (at_builtin; refine wH OS rfl (.tmp 5) (.tmp 6) rfl w.heap.size _ _ [] rfl (World.ownsRow_made _ #[] 0 (Nat.le_refl _) (Nat.zero_le _) rfl) (some ⟨bc,0,none⟩) n cap C rfl HCL.out.1 (HCA.out _ ((Fr.refl _ _).alloc _)) HCL.out.2 (by omega) (by simp) ?_; intro v1 w1 hown1 hg1 hb1)
 rw [List.nil_append,Nat.zero_add] at hown1
 obtain ⟨g,c',rest',rfl,hg,hc,hat⟩:=OT hown1 om
 go_ret
 refine ⟨g,c',rest',rfl,hg,hc,((Fr.refl [] w).alloc _).grown hg1 (fun k hk=>.inr ?_),by rw [← HC.out]; exact hat⟩
 have hk2:some w.heap.size=some k:=hk
 injection hk2 with hk2
 exact Nat.le_of_eq hk2
theorem GZ (bt bc cap:Nat) (rest:List Value) (t:BT) (w:World) (ht:dU w bt bc cap rest t) :
  Calls Tryz.prog 36 #[vP bt 0] w fun e w'=>∃ bt' bc' cap' rest',e = .returned (.pointer (some ⟨bt',0,none⟩))∧w.heap.size≤bt'∧w.heap.size≤bc'∧Fr [] w w'∧dU w' bt' bc' cap' rest' t:=by
 obtain ⟨n,HN⟩:∃ n,Hid (n=t.cells.length):=⟨_,rfl⟩
 obtain ⟨seed,HS⟩:∃ seed,Hid (seed=t.seed):=⟨_,rfl⟩
 have hb:=kE ht.size
 have h3:3≤n:=by rw [HN.out]; exact hb.1
 have h4:n≤3072:=by rw [HN.out]; exact hb.2.1
 have HT:Hid (∀ W,Fr [] w W→W.cell? ⟨bt,0,none⟩=some (.slice (some ⟨bc,0,none⟩) n cap)∧W.cell? ⟨bt,1,none⟩=some (.int .u64 (seed:Int))):=fun W hW =>
  ⟨by rw [(ht.tab.fr hW si).cell,HN.out]; rfl,by rw [(ht.tab.fr hW si).cell,HS.out]; rfl⟩
 obtain ⟨q0,q1⟩:=HT.out w (Fr.refl _ _)
 have HC:=Lib.hid (OU bc cap n t.cells rest w.drew (ht.cells.drew) ht.ok.cells HN.out h3 h4)
 have H:=Lib.hid ht
 have hbl:=ht.tab.lt
 clear ht hb
 go_enter Tryz.func36,Tryz.ntmps36
 go_wp2_with fail
 go_region_held3 (fun w'=>w'.cell? ⟨bt,0,none⟩=some (.slice (some ⟨bc,0,none⟩) n cap)∧w'.cell? ⟨bt,1,none⟩=some (.int .u64 (seed:Int))) (first | go_keep | (exact HT.out _ H2.out) | (exact HT.out _ (H2.out.alloc _)))
  (first | (go_at_call 66; ((with_reducible refine HC.out.mono ?_)); rintro e w2 ⟨g,c',rest',rfl,hg,hc',hf2,ha2⟩; have H2:Hid (Fr [] w w2):=(Fr.refl [] w).drew.trans hf2; have HA2:=Lib.hid (And.intro ha2 hg); have hbl2:bt < w2.heap.size:=Nat.lt_of_lt_of_le hbl H2.out.size; clear hf2 ha2 hg))
 rename_i hHeld
 clear hHeld
 go_wp2_with fail
 go_ret
 refine ⟨w2.heap.size,g,c',rest',rfl,H2.out.size,HA2.out.2,H2.out.alloc _,?_,HA2.out.1.alloc _,H.out.ok,H.out.size,by rw [← HN.out]; exact hc'⟩
 rw [← HN.out,← HS.out]
 exact At.new w2 73 [.slice (some ⟨g,0,none⟩) n c',.int .u64 (seed:Int)]
theorem OV {l : List BC} {f : BC → Bool} {i : Nat} {c : BC} (hc : l[i]? = some c) (h : (l.take i).all f = true) (hf : f c = true) : (l.take (i + 1)).all f = true := by
 obtain ⟨h1, e1⟩ := List.getElem?_eq_some_iff.1 hc
 rw [List.take_succ_eq_append_getElem h1, e1, List.all_append, h]
 simp [hf]
theorem Ha (bt bc cap : Nat) (rest : List Value) (t : BT) (w : World) (ht : dU w bt bc cap rest t) :
  Calls Tryz.prog 41 #[Value.pointer (some ⟨bt, 0, none⟩)] w fun e w' => e = .returned (.bool t.empty) ∧ Fr [] w w' := by
 obtain ⟨n, HN⟩ : ∃ n, Hid (n = t.cells.length) := ⟨_, rfl⟩
 have hb := kE ht.size
 have h4 : n ≤ 3072 := by rw [HN.out]; exact hb.2.1
 have q0 : w.cell? ⟨bt, 0, none⟩ = some (.slice (some ⟨bc, 0, none⟩) n cap) := by rw [ht.tab.cell, HN.out]; rfl
 have H := Lib.hid ht
 have hbcl := ht.cells.lt
 clear ht hb
 obtain ⟨Z, HZ⟩ : ∃ Z, Hid (Z = BC.zero.cells) := ⟨_, rfl⟩
 have hgd : Tryz.prog.eqGuardType Tryz.prog.depth 79 = false := by kernel_rfl
 go_enter Tryz.func41, Tryz.ntmps41
 go_wp2_with fail
 go_loopw [10] (fun s wx => ∃ i : Nat, i ≤ n ∧ s = .int .i64 i ∧ Hid (Fr [] w wx ∧ (t.cells.take i).all BC.isZero = true)) (fun s _ => n - (intOf s).toNat)
 case atStart => exact ⟨0, by omega, rfl, Fr.refl _ _, rfl⟩
 case round =>
  obtain ⟨i, hi, rfl, HR⟩ := hrel
  by_cases hlt : i < n
  ·obtain ⟨c, hc⟩ : ∃ c, t.cells[i]? = some c := ⟨_, List.getElem?_eq_getElem (by rw [← HN.out]; exact hlt)⟩
   have hcok := H.out.ok.cells c (List.mem_of_getElem? hc)
   obtain ⟨L, HL⟩ : ∃ L, Hid (L = c.cells) := ⟨_, rfl⟩
   have HLX : Hid (L.length = 34 ∧ (∀ v ∈ L, v.oneCell' = true) ∧ ∀ j v, L[j]? = some v → wr.cell? ⟨bc, i * 34 + j, none⟩ = some v) := by
    show _ ∧ _ ∧ _
    rw [HL.out]
    refine ⟨BC.mY hcok, fun v hv => Ac (l := [c]) v (by simpa [cO] using hv), fun j v hj => ?_⟩
    have hj34 := (List.getElem?_eq_some_iff.1 hj).1
    rw [BC.mY hcok] at hj34
    rw [HR.out.1.cell (p := ⟨bc, i * 34 + j, none⟩) hbcl (by simp), H.out.cells.cell, kR H.out.ok.cells rest i c hc j hj34]
    exact hj
   have hiI : (i : Int) < (n : Int) := by omega
   have hq := OR c hcok.keys
   rw [← HL.out, ← HZ.out] at hq
   have HC := Lib.hid hc
   clear hc hcok
   cases hz : c.isZero
   ·rw [hz] at hq
    go_wp2_with (first
     | (refine pF rfl 79 (.tmp 12) rfl bc (i * 34) rfl L _ (fun j v hj => HLX.out.2.2 j v hj) Tryz.underlying79 rfl (by rw [HLX.out.1]; kernel_rfl) ?_)
     | (refine wI rfl 79 (.tmp 4) (.tmp 13) rfl rfl 79 _ L rfl (by rw [HLX.out.1]; rfl) (by rw [HLX.out.1]; kernel_rfl) HLX.out.2.1 ?_; intro w1 hf1 ha1)
     | (refine pF rfl 79 (.tmp 4) rfl wr.heap.size 0 rfl L _ (fun j v hj => by rw [Nat.zero_add, ha1.cell]; exact hj) Tryz.underlying79 rfl (by rw [HLX.out.1]; kernel_rfl) ?_)
     | (refine GH rfl 79 _ rfl Z.toArray (by rw [HZ.out]; kernel_rfl) ?_))
    go_ret
    refine ⟨eM ?_, HR.out.1.trans hf1⟩
    symm
    rw [Bool.eq_false_iff]
    intro h
    have := List.all_eq_true.1 h c (List.mem_of_getElem? HC.out)
    rw [hz] at this
    cases this
   ·rw [hz] at hq
    have HN2 : Hid ((t.cells.take (i + 1)).all BC.isZero = true) := OV HC.out HR.out.2 hz
    go_wp2_with (first
     | (refine pF rfl 79 (.tmp 12) rfl bc (i * 34) rfl L _ (fun j v hj => HLX.out.2.2 j v hj) Tryz.underlying79 rfl (by rw [HLX.out.1]; kernel_rfl) ?_)
     | (refine wI rfl 79 (.tmp 4) (.tmp 13) rfl rfl 79 _ L rfl (by rw [HLX.out.1]; rfl) (by rw [HLX.out.1]; kernel_rfl) HLX.out.2.1 ?_; intro w1 hf1 ha1)
     | (refine pF rfl 79 (.tmp 4) rfl wr.heap.size 0 rfl L _ (fun j v hj => by rw [Nat.zero_add, ha1.cell]; exact hj) Tryz.underlying79 rfl (by rw [HLX.out.1]; kernel_rfl) ?_)
     | (refine GH rfl 79 _ rfl Z.toArray (by rw [HZ.out]; kernel_rfl) ?_))
    have HF1 : Hid (Fr [] w w1) := HR.out.1.trans hf1
    clear hq hf1 ha1
    (try go_wp2_with fail)
    go_roundw
    case rel =>
     first
      | exact ⟨i + 1, by omega, by go_num, HF1.out, HN2.out⟩
      | ((repeat apply Exists.intro); exact ⟨⟨i + 1, by omega, by go_num, HF1.out, HN2.out⟩, rfl⟩)
    case measure => simp [intOf] <;> omega
  ·obtain rfl : i = n := by omega
   go_wp2_with fail
   go_ret
   refine ⟨eM ?_, HR.out.1⟩
   have := HR.out.2
   rw [HN.out, List.take_length] at this
   exact this.symm
theorem OW (bt bc cap : Nat) (rest : List Value) (t : BT) (w : World) (ht : dU w bt bc cap rest t) : Calls Tryz.prog 16 #[Value.pointer (some ⟨bt, 0, none⟩)] w fun e w' => e = .returned (Value.int .i64 (t.cells.length : Int)) ∧ w = w' := by
 obtain ⟨n, HN⟩ : ∃ n, Hid (n = t.cells.length) := ⟨_, rfl⟩
 rw [← HN.out]
 have q0 : w.cell? ⟨bt, 0, none⟩ = some (.slice (some ⟨bc, 0, none⟩) n cap) := by rw [ht.tab.cell, HN.out]; rfl
 clear ht
 go_enter Tryz.func16, Tryz.ntmps16
 go_wp2_with fail
 go_ret
 exact ⟨rfl, rfl⟩
def iM (n : Int) : Int := if 1536 < n then 3072 else if n < 0 then 12 else min 3072 ((2 * n + 14) / 3 * 3)
theorem OY (n : Int) (w : World) : Calls Tryz.prog 12 #[Value.int .i64 n] w fun e w' => e = .returned (Value.int .i64 (iM n)) ∧ w = w' := by
 unfold iM
 by_cases h1 : 1536 < n
 ·rw [if_pos h1]
  go_enter Tryz.func12, Tryz.ntmps12
  go_wp2_with fail
  go_ret
  exact ⟨rfl, rfl⟩
 ·rw [if_neg h1]
  have h1' : n ≤ 1536 := by omega
  by_cases h2 : n < 0
  ·rw [if_pos h2]
   have h2' : ¬ 0 ≤ n := by omega
   go_enter Tryz.func12, Tryz.ntmps12
   go_wp2_with fail
   go_ret
   first | exact ⟨rfl, rfl⟩ | exact ⟨lI (by omega), rfl⟩
  ·rw [if_neg h2]
   have h2' : 0 ≤ n := by omega
   go_enter Tryz.func12, Tryz.ntmps12
   go_wp2_with fail
   all_goals
    go_ret
    exact ⟨lI (by omega), rfl⟩
def oL (l : List Bool) : Int := match l.findIdx? id with | none => -1 | some i => (i : Int)
def BB (l : List Bool) : List Value := l.map fun b => Value.bool b
theorem OZ {l : List Bool} {i : Nat} (h : ∀ j, j < i → l[j]? = some false) (hi : l[i]? = some true) : oL l = (i : Int) := by
 have : l.findIdx? id = some i := by
  rw [List.findIdx?_eq_some_iff_getElem]
  obtain ⟨h1, e1⟩ := List.getElem?_eq_some_iff.1 hi
  refine ⟨h1, by simp [e1], fun j hj => ?_⟩
  obtain ⟨h2, e2⟩ := List.getElem?_eq_some_iff.1 (h j hj)
  simp [e2]
 unfold oL
 rw [this]
theorem Pa {l : List Bool} (h : ∀ j, j < l.length → l[j]? = some false) : oL l = -1 := by
 have : l.findIdx? id = none := by
  rw [List.findIdx?_eq_none_iff]
  intro x hx
  obtain ⟨j, hj⟩ := List.mem_iff_getElem?.1 hx
  have := h j (List.getElem?_eq_some_iff.1 hj).1
  rw [hj] at this
  injection this
 unfold oL
 rw [this]
theorem Pb (g cap : Nat) (l : List Bool) (w : World) (ha : At w g 4 (BB l)) (hl : l.length ≤ 3072) : Calls Tryz.prog 38 #[.slice (some ⟨g, 0, none⟩) l.length cap, .bool true] w fun e w' => e = .returned (Value.int .i64 (oL l)) ∧ w = w' := by
 obtain ⟨n, HN⟩ : ∃ n, Hid (n = l.length) := ⟨_, rfl⟩
 have H := Lib.hid ha
 clear ha
 rw [← HN.out] at hl ⊢
 go_enter Tryz.func38, Tryz.ntmps38
 go_wp2_with fail
 go_loop [8] (fun s => ∃ i : Nat, i ≤ n ∧ s = .int .i64 i ∧ Hid (∀ j, j < i → l[j]? = some false)) (fun s => n - (intOf s).toNat)
 case atStart => exact ⟨0, by omega, rfl, fun j hj => by omega⟩
 case round =>
  obtain ⟨i, hi, rfl, HR⟩ := hrel
  by_cases hlt : i < n
  ·obtain ⟨b, hb⟩ : ∃ b, l[i]? = some b := ⟨_, List.getElem?_eq_getElem (by rw [← HN.out]; exact hlt)⟩
   have cb : w.cell? ⟨g, i, none⟩ = some (.bool b) := by rw [H.out.cell]; simp [BB, hb]
   have hiI : (i : Int) < (n : Int) := by omega
   have HB := Lib.hid hb
   clear hb
   cases b
   ·go_wp2_with fail
    go_round
    case rel =>
     refine ⟨i + 1, by omega, by go_num, fun j hj => ?_⟩
     rcases Nat.lt_or_ge j i with h | h
     ·exact HR.out j h
     ·obtain rfl : j = i := by omega
      exact HB.out
    case measure => simp [intOf] <;> omega
   ·go_wp2_with fail
    go_ret
    refine ⟨lI ?_, rfl⟩
    exact (OZ HR.out HB.out).symm
  ·obtain rfl : i = n := by omega
   go_wp2_with fail
   go_ret
   refine ⟨lI ?_, rfl⟩
   exact (Pa (by rw [← HN.out]; exact HR.out)).symm
end Go.Proofs.YtignomkdngnmgaaGreatDoor
namespace Go.Proofs
open Go.Shelf
def Tryz.XF : Go.Shelf.Ren := ⟨fun | 132 => 108 | 127 => 143 | n => n, fun | 49 => 176 | 3 => 3 | 4 => 4 | 46 => 138 | 5 => 5 | 9 => 9 | n => n, fun | n => n⟩
theorem Tryz.XG:Go.Proofs.Lays.n132 Tryz.prog Tryz.XF:={
 mixed:=by kernel_rfl
 f127:=Tryz.func143.trans (congrArg some (by kernel_rfl))
 f132:=Tryz.func108.trans (congrArg some (by kernel_rfl))
 t3:=Tryz.underlying3
 a3:=Tryz.isAgg3
 z3:=Tryz.sizeOf3
 v3:=Tryz.zeroValue3
 t4:=Tryz.underlying4
 a4:=Tryz.isAgg4
 z4:=Tryz.sizeOf4
 v4:=Tryz.zeroValue4
 t5:=Tryz.underlying5
 a5:=Tryz.isAgg5
 z5:=Tryz.sizeOf5
 v5:=Tryz.zeroValue5
 t9:=Tryz.underlying9
 a9:=Tryz.isAgg9
 z9:=Tryz.sizeOf9
 v9:=Tryz.zeroValue9
 t46:=Tryz.underlying138
 a46:=Tryz.isAgg138
 z46:=Tryz.sizeOf138
 v46:=Tryz.zeroValue138
 t49:=Tryz.underlying176
 a49:=Tryz.isAgg176
 z49:=Tryz.sizeOf176
 v49:=Tryz.zeroValue176 }
theorem Tryz.bits_LeadingZeros16 (x:Int) (w:World) (h0:0≤x) (h1:x≤65535) :
  Calls Tryz.prog 108 #[.int .u16 x] w fun e w'=>e = .returned (.int .i64 (16 - (Lib.bitLen x.toNat:Int)))∧w'=w:=Any.bits_LeadingZeros16 Tryz.XG x w h0 h1
def Tryz.XH : Go.Shelf.Ren := ⟨fun | 190 => 42 | 125 => 70 | 258 => 69 | 128 => 104 | 129 => 105 | 302 => 96 | 303 => 97 | 304 => 98 | 305 => 99 | 306 => 100 | 307 => 101 | 308 => 86 | 309 => 102 | 310 => 103 | 333 => 137 | 329 => 138 | 330 => 139 | 334 => 140 | 335 => 141 | 336 => 124 | 344 => 157 | n => n, fun | 31 => 24 | 9 => 9 | 3 => 3 | 46 => 138 | 0 => 0 | 51 => 169 | 53 => 40 | 4 => 4 | 183 => 163 | 182 => 162 | 131 => 102 | 5 => 5 | 218 => 202 | 222 => 205 | 228 => 214 | 229 => 215 | n => n, fun | n => n⟩
theorem Tryz.Mp:Go.Proofs.Lays.n190 Tryz.prog Tryz.XH:={
 mixed:=by kernel_rfl
 f125:=Tryz.func70.trans (congrArg some (by kernel_rfl))
 f128:=Tryz.func104.trans (congrArg some (by kernel_rfl))
 f129:=Tryz.func105.trans (congrArg some (by kernel_rfl))
 f190:=Tryz.func42.trans (congrArg some (by kernel_rfl))
 f258:=Tryz.func69.trans (congrArg some (by kernel_rfl))
 f302:=Tryz.func96.trans (congrArg some (by kernel_rfl))
 f303:=Tryz.func97.trans (congrArg some (by kernel_rfl))
 f304:=Tryz.func98.trans (congrArg some (by kernel_rfl))
 f305:=Tryz.func99.trans (congrArg some (by kernel_rfl))
 f306:=Tryz.func100.trans (congrArg some (by kernel_rfl))
 f307:=Tryz.func101.trans (congrArg some (by kernel_rfl))
 f308:=Tryz.func86.trans (congrArg some (by kernel_rfl))
 f309:=Tryz.func102.trans (congrArg some (by kernel_rfl))
 f310:=Tryz.func103.trans (congrArg some (by kernel_rfl))
 f329:=Tryz.func138.trans (congrArg some (by kernel_rfl))
 f330:=Tryz.func139.trans (congrArg some (by kernel_rfl))
 f333:=Tryz.func137.trans (congrArg some (by kernel_rfl))
 f334:=Tryz.func140.trans (congrArg some (by kernel_rfl))
 f335:=Tryz.func141.trans (congrArg some (by kernel_rfl))
 f336:=Tryz.func124.trans (congrArg some (by kernel_rfl))
 f344:=Tryz.func157.trans (congrArg some (by kernel_rfl))
 t0:=Tryz.underlying0
 a0:=Tryz.isAgg0
 z0:=Tryz.sizeOf0
 v0:=Tryz.zeroValue0
 t3:=Tryz.underlying3
 a3:=Tryz.isAgg3
 z3:=Tryz.sizeOf3
 v3:=Tryz.zeroValue3
 t4:=Tryz.underlying4
 a4:=Tryz.isAgg4
 z4:=Tryz.sizeOf4
 v4:=Tryz.zeroValue4
 t5:=Tryz.underlying5
 a5:=Tryz.isAgg5
 z5:=Tryz.sizeOf5
 v5:=Tryz.zeroValue5
 t9:=Tryz.underlying9
 a9:=Tryz.isAgg9
 z9:=Tryz.sizeOf9
 v9:=Tryz.zeroValue9
 t31:=Tryz.underlying24
 a31:=Tryz.isAgg24
 z31:=Tryz.sizeOf24
 v31:=Tryz.zeroValue24
 t46:=Tryz.underlying138
 a46:=Tryz.isAgg138
 z46:=Tryz.sizeOf138
 v46:=Tryz.zeroValue138
 t51:=Tryz.underlying169
 a51:=Tryz.isAgg169
 z51:=Tryz.sizeOf169
 v51:=Tryz.zeroValue169
 t53:=Tryz.underlying40
 a53:=Tryz.isAgg40
 z53:=Tryz.sizeOf40
 v53:=Tryz.zeroValue40
 t131:=Tryz.underlying102
 a131:=Tryz.isAgg102
 z131:=Tryz.sizeOf102
 v131:=Tryz.zeroValue102
 t182:=Tryz.underlying162
 a182:=Tryz.isAgg162
 z182:=Tryz.sizeOf162
 v182:=Tryz.zeroValue162
 t183:=Tryz.underlying163
 a183:=Tryz.isAgg163
 z183:=Tryz.sizeOf163
 v183:=Tryz.zeroValue163
 t218:=Tryz.underlying202
 a218:=Tryz.isAgg202
 z218:=Tryz.sizeOf202
 v218:=Tryz.zeroValue202
 t222:=Tryz.underlying205
 a222:=Tryz.isAgg205
 z222:=Tryz.sizeOf205
 v222:=Tryz.zeroValue205
 t228:=Tryz.underlying214
 a228:=Tryz.isAgg214
 z228:=Tryz.sizeOf214
 v228:=Tryz.zeroValue214
 t229:=Tryz.underlying215
 a229:=Tryz.isAgg215
 z229:=Tryz.sizeOf215
 v229:=Tryz.zeroValue215 }
open Go.Sort Go.RowKit in
theorem Tryz.slices_Sort_string (blk off cap:Nat) (ss:List (List UInt8)) (w:World) (hH:Holds encStr w blk off ss.toArray) (hblk:blk < w.heap.size) (hsz:ss.length < 4611686018427387904) :
  Calls Tryz.prog 42 #[.slice (some ⟨blk,off,none⟩) ss.length cap] w fun e w' =>
   e = .returned (.tuple #[])∧∃ n os,w'=grow (putRow encStr (Sort.ahead w n) blk off (ss.mergeSort fun x y=>decide (x≤y)).toArray) os:=Any.slices_Sort_string Tryz.Mp blk off cap ss w hH hblk hsz
open Go.RowKit Go.Sort in
theorem Tryz.slices_Sort_string_none (p:Option Addr) (cap:Nat) (w:World) :
  Calls Tryz.prog 42 #[.slice p 0 cap] w fun e w'=>e = .returned (.tuple #[])∧w'=w:=Any.slices_Sort_string_none Tryz.Mp p cap w
def Tryz.Mq : Go.Shelf.Ren := ⟨fun | 7 => 65 | 10 => 95 | n => n, fun | 23 => 54 | 26 => 9 | 3 => 4 | 28 => 131 | 0 => 0 | 27 => 130 | 33 => 155 | 4 => 4 | n => n, fun | n => n⟩
theorem Tryz.Mr:Go.Proofs.SlLaysZ.n7 Tryz.prog Tryz.Mq:={
 mixed:=by kernel_rfl
 f7:=⟨Tryz.f65.name,by decide,Tryz.func65.trans (congrArg some (by kernel_rfl))⟩
 f10:=⟨Tryz.f95.name,by decide,Tryz.func95.trans (congrArg some (by kernel_rfl))⟩
 t0:=Tryz.underlying0
 a0:=Tryz.isAgg0
 z0:=Tryz.sizeOf0
 v0:=Tryz.zeroValue0
 t4:=Tryz.underlying4
 a4:=Tryz.isAgg4
 z4:=Tryz.sizeOf4
 v4:=Tryz.zeroValue4
 t23:=Tryz.underlying54
 a23:=Tryz.isAgg54
 z23:=Tryz.sizeOf54
 v23:=Tryz.zeroValue54
 t26:=Tryz.underlying9
 a26:=Tryz.isAgg9
 z26:=Tryz.sizeOf9
 v26:=Tryz.zeroValue9
 t27:=Tryz.underlying130
 a27:=Tryz.isAgg130
 z27:=Tryz.sizeOf130
 v27:=Tryz.zeroValue130
 t28:=Tryz.underlying131
 a28:=Tryz.isAgg131
 z28:=Tryz.sizeOf131
 v28:=Tryz.zeroValue131
 t33:=Tryz.underlying155
 a33:=Tryz.isAgg155
 z33:=Tryz.sizeOf155
 v33:=Tryz.zeroValue155 }
def Tryz.Ms : Go.Shelf.Ren := ⟨fun | 6 => 64 | 8 => 94 | 9 => 42 | 11 => 136 | 13 => 70 | 12 => 69 | 23 => 104 | 24 => 105 | 14 => 96 | 15 => 97 | 16 => 98 | 17 => 99 | 18 => 100 | 19 => 101 | 20 => 86 | 21 => 102 | 22 => 103 | 25 => 137 | 26 => 138 | 27 => 139 | 28 => 140 | 29 => 141 | 30 => 124 | 31 => 157 | n => n, fun | 26 => 9 | 28 => 131 | 24 => 24 | 0 => 0 | 3 => 3 | 37 => 138 | 48 => 169 | 50 => 40 | 4 => 4 | 40 => 163 | 39 => 162 | 45 => 102 | 5 => 5 | 9 => 9 | 51 => 202 | 55 => 205 | 57 => 214 | 58 => 215 | 33 => 155 | n => n, fun | n => n⟩
theorem Tryz.XI:Go.Proofs.SlLaysZ.n6 Tryz.prog Tryz.Ms:={
 mixed:=by kernel_rfl
 f6:=⟨Tryz.f64.name,by decide,Tryz.func64.trans (congrArg some (by kernel_rfl))⟩
 f8:=⟨Tryz.f94.name,by decide,Tryz.func94.trans (congrArg some (by kernel_rfl))⟩
 f11:=⟨Tryz.f136.name,by decide,Tryz.func136.trans (congrArg some (by kernel_rfl))⟩
 t0:=Tryz.underlying0
 a0:=Tryz.isAgg0
 z0:=Tryz.sizeOf0
 v0:=Tryz.zeroValue0
 t24:=Tryz.underlying24
 a24:=Tryz.isAgg24
 z24:=Tryz.sizeOf24
 v24:=Tryz.zeroValue24
 t26:=Tryz.underlying9
 a26:=Tryz.isAgg9
 z26:=Tryz.sizeOf9
 v26:=Tryz.zeroValue9
 t28:=Tryz.underlying131
 a28:=Tryz.isAgg131
 z28:=Tryz.sizeOf131
 v28:=Tryz.zeroValue131
 i26:=by kernel_rfl }
end Go.Proofs
namespace Go.Proofs.YtignomkdngnmgaaGreatDoor
open Go.RowKit
section
open Go.RowKit Go.Sort
open Go.Maps (setOf)
def iN (l : List (List UInt8)) : List (List UInt8) := l.mergeSort fun x y => decide (x ≤ y)
theorem wY (l:List (List UInt8)):(iN l).length=l.length:=by simp [iN]
theorem Pc (zs ys:List (List UInt8)) (rest:List Value) (h:ys.length=zs.length) :
  putCells encStr 0 ys.toArray (zs.map eI++rest).toArray=(ys.map eI++rest).toArray:=by
 apply Array.ext_getElem?
 intro k
 simp only [putCells,Array.getElem?_mapIdx,List.getElem?_toArray,Nat.zero_le,true_and,Nat.zero_add,List.size_toArray,Nat.sub_zero]
 by_cases hk:k < ys.length
 ·rw [List.getElem?_append_left (by simpa using h▸hk),List.getElem?_append_left (by simpa using hk)]
  have hk':k < zs.length:=h▸hk
  simp [hk,List.getElem?_eq_getElem hk',eI,bD]
 ·rw [List.getElem?_append_right (by simp; omega),List.getElem?_append_right (by simp; omega)]
  have hk':¬ k < zs.length:=om
  simp [hk',h]
theorem Pd (b cap:Nat) (zs:List (List UInt8)) (rest:List Value) (t:TypeId) (w:World) (h:At w b t (zs.map eI++rest)) (hlen:zs.length < 4611686018427387904) :
  Calls Tryz.prog 42 #[.slice (some ⟨b,0,none⟩) zs.length cap] w fun e w'=>e = .returned (.tuple #[])∧Fr [b] w w'∧At w' b t ((iN zs).map eI++rest):=by
 have hH:Holds encStr w b 0 zs.toArray:=by
  intro j hj
  have hj':j < zs.length:=by simpa using hj
  rw [Nat.zero_add,h.cell,h.frozen]
  refine ⟨?_,rfl⟩
  rw [List.getElem?_append_left (by simpa using hj')]
  simp [getElem!_pos,hj',eI,bD]
 refine (Tryz.slices_Sort_string b 0 cap zs w hH h.lt hlen).mono ?_
 rintro e w' ⟨rfl,n,os,rfl⟩
 have hb:=h.lt
 refine ⟨rfl,⟨rfl,rfl,rfl,?_,?_⟩,?_⟩
 ·simp
 ·intro k hk hn
  simp only [grow,putRow,mapBlock,heap_ahead]
  rw [Array.getElem?_append_left (by simpa using hk),Array.getElem?_modify,if_neg (by simpa using Ne.symm (by simpa using hn))]
 ·unfold At at h ⊢
  simp only [grow,putRow,mapBlock,heap_ahead]
  rw [Array.getElem?_append_left (by simpa using hb),Array.getElem?_modify,if_pos rfl,h]
  simp only [Option.map_some,onCells]
  rw [show (zs.mergeSort fun x y=>decide (x≤y))=iN zs from rfl,Pc zs (iN zs) rest (wY zs)]
def eO (w : World) (b : Nat) (S : List (List UInt8)) : Prop := w.ownsMap (H := Unit) Tryz.prog 9 (plainElem Tryz.prog 4) b S.length (setOf (.lit (.bool true)) (S.map Lit.string))
theorem eO.new (w:World):eO (w.alloc (.map #[] 0)) w.heap.size []:=World.ownsMap_made w _ _ _
theorem eO.lt {w:World} {b:Nat} {S:List (List UInt8)} (h:eO w b S):b < w.heap.size:=World.ownsMap.lt h
theorem eO.grown {w w':World} {b:Nat} {S:List (List UInt8)} {row:Option Nat} (h:eO w b S) (hg:w.grownBy w' row) (hne:some b≠row):eO w' b S:=World.ownsMap.kept h hg hne
theorem eO.fr {w w':World} {b:Nat} {S:List (List UInt8)} {T:List Nat} (h:eO w b S) (hf:Fr T w w') (hb:b∉T):eO w' b S:=by
 obtain ⟨es,clock,h1,h2⟩:=h
 exact ⟨es,clock,by rw [hf.block b (Array.getElem?_eq_some_iff.1 h1).1 hb]; exact h1,h2⟩
theorem eO.wB {w:World} {b b':Nat} {S:List (List UInt8)} {t:TypeId} {l:List Value} (h:eO w b S) (h':At w b' t l):b≠b':=by
 rintro rfl
 obtain ⟨es,clock,h1,_⟩:=h
 unfold At at h'
 rw [h1] at h'
 cases h'
theorem CP (p:List UInt8) (hp:p.length≤maxLen):keyOf Tryz.prog 9 (vS p)=some (.string p):=by
 have hs:(bD p).size=p.length:=by simp [bD,ByteArray.size]
 exact WideMaps.keyOf_string_mk Tryz.underlying9 (s:=bD p) (by rw [hs]; exact hp)
theorem Hb (u z:DataW Unit) (p:List UInt8):∀ R:List (List UInt8),(setOf u (R.reverse.map Lit.string)).atKey (.string p) z=if R.contains p then u else z
 | []=>rfl
 | x::R=>by
   have hm:Maps.IsMap (setOf u (R.reverse.map Lit.string)):=(Maps.tidy_setOf u _ (by intro y hy; obtain ⟨q,_,rfl⟩:=List.mem_map.1 hy; exact True.intro)).isMap
   rw [List.reverse_cons,List.map_append,List.map_cons,List.map_nil,Maps.setOf_snoc]
   by_cases hx:p=x
   ·subst hx
    have hk:WideAt.IsKeyLit (Lit.string p):=True.intro
    rw [Maps.atKey_put_same hm hk]
    simp
   ·rw [Maps.atKey_put_other (fun e=>hx (by injection e)),Hb u z p R]
    have:(p == x)=false:=by simpa using hx
    simp only [List.contains_cons,this,Bool.false_or]
theorem eO.lookup {w:World} {b:Nat} {S:List (List UInt8)} (h:eO w b S) (p:List UInt8) (hp:p.length≤maxLen) :
  (Instr.lookup 54 (.map (some b)) (vS p) false).run Tryz.prog w = .ok (.bool (S.contains p)) w:=by
 have he:Tryz.prog.underlying 4=some .bool:=Tryz.underlying4
 obtain ⟨v,ps,hrun,hv⟩:=World.ownsMap.lookup h (Maps.string_keyed Tryz.underlying9) Tryz.underlying54 (z:=.bool false) kr (plainElem_bool he false) (CP p hp)
 have e:=Hb (.lit (.bool true)) (.lit (.bool false)) p S.reverse
 rw [List.reverse_reverse,List.contains_reverse] at e
 rw [e] at hv
 rw [hrun]
 unfold plainElem at hv
 rw [he] at hv
 cases v with
 | bool x =>
   simp only [Option.some.injEq,Prod.mk.injEq] at hv
   cases hS:S.contains p with
   | true=>rw [hS] at hv; simp at hv; rw [hv.1]
   | false=>rw [hS] at hv; simp at hv; rw [hv.1]
 | _=>simp at hv
theorem eO.Mt {w:World} {b:Nat} {S:List (List UInt8)} {p:List UInt8} (h:w.ownsMap (H:=Unit) Tryz.prog 9 (plainElem Tryz.prog 4) b (S.length+1) ((setOf (.lit (.bool true)) (S.map Lit.string)).put (.string p) (.lit (.bool true)))):eO w b (S++[p]):=by
 unfold eO
 rw [List.map_append,List.map_cons,List.map_nil,Maps.setOf_snoc,List.length_append]
 exact h
def aM (b : Nat) (S : List (List UInt8)) : Ch where
 fp := [b]
 holds w := eO w b S
 ok w w' hb h := by
  obtain ⟨es, clock, h1, h2⟩ := h
  exact ⟨es, clock, (hb b (by simp)).trans h1, h2⟩
 lt w h c hc := by
  rw [List.mem_singleton] at hc
  subst hc
  exact h.lt
section
variable {Q : Exit → Act → World → Prop} {n : Nat} {w0 : World} {F : List Nat} {E : cH} {cs : List Ch} {X K : Act → World → Prop} {o : Oper} {d : Nat}
theorem mS {t:TypeId} (ho:o.op = .makeMap t none) (hd:o.dst=some d) (hk:bK n E o=true) (h:∀ b,St n w0 F ((d,.map (some b))::E) (cs++[aM b []]) K):cM Tryz.prog Q n w0 F E cs o K :=
 nE hd hk fun w hM=>by
  refine ⟨.map (some w.heap.size),w.alloc (.map #[] 0),_,?_,hM.push (c:=aM w.heap.size []) ((Fr.refl _ _).alloc _) (eO.new w) (by simp [aM]) (by simp [aM]),h _⟩
  unfold execOp
  simp only [ho,Option.map_none,Sem.run_bind,run_makeMap,Result.andThen_ok]
  rfl
theorem Hc {x y:Operand} {b:Nat} {S:List (List UInt8)} {p:List UInt8} (i:Nat) (ho:o.op = .lookup 54 x y false) (hx:aN E x=some (.map (some b))) (hy:aN E y=some (vS p)) (hi:cs[i]?=some (aM b S)) (hp:p.length≤1099511627776):cJ Tryz.prog w0 F cs E o (.bool (S.contains p)):=fun w hM=>by
 have h:eO w b S:=hM.at hi
 have hr:=h.lookup p (by unfold maxLen; omega)
 unfold execOp
 simp only [ho,bL hx,bL hy,Sem.run_bind,hr]
 rfl
theorem Af {x y v:Operand} {b:Nat} {S:List (List UInt8)} {p:List UInt8} (i:Nat) (ho:o.op = .mapUpdate 54 x y v) (hd:o.dst=none) (hk:bK n E o=true) (hx:aN E x=some (.map (some b))) (hy:aN E y=some (vS p)) (hv:aN E v=some bT) (hi:cs[i]?=some (aM b S)) (hp:p.length≤1099511627776) (hS:S.length≤1099511627776)
  (h:St n w0 F E (cs.set i (aM b (S++[p]))) K):cM Tryz.prog Q n w0 F E cs o K :=
 Ca hd hk fun w hM=>by
  have hs:eO w b S:=hM.at hi
  obtain ⟨w',hrun,r1,r2⟩:=World.ownsMap.update hs (Maps.string_keyed Tryz.underlying9) Tryz.underlying54 (by unfold maxLen; omega) (CP p (by unfold maxLen; omega)) (plainElem_bool Tryz.underlying4 true)
  have hf:Fr (aM b S).fp w w':=⟨r2.os,r2.tape,r2.output,r2.size,fun k hk' hn=>r2.block k hk' (fun e=>by
   injection e with e
   exact hn (by simp [aM,e]))⟩
  refine ⟨w',_,?_,hM.swap i hi (c':=aM b (S++[p])) hf (eO.Mt r1) (fun c hc=>.inl hc) (by simp [aM]),h⟩
  unfold execOp
  simp only [ho,bL hx,bL hy,bL hv,Sem.run_bind,hrun]
  rfl
end
end
section
theorem CQ {l:List Bool} {i:Nat} {b:Bool} (h:l[i]?=some b):(BB l)[i]?=some (.bool b):=by simp [BB,h]
theorem Hd (l:List Bool) (i:Nat) (b:Bool):(BB l).set i (.bool b)=BB (l.set i b):=by simp [BB,List.map_set]
theorem Pe (n:Nat):madeCells #[.bool false] (n*1)=(BB (List.replicate n false)).toArray:=by
 apply Array.ext_getElem?
 intro i
 rw [show (BB (List.replicate n false)).toArray[i]?=(BB (List.replicate n false))[i]? from List.getElem?_toArray ..]
 by_cases h:i < n
 ·have e1:(madeCells #[.bool false] (n*1))[i]?=some (#[Value.bool false][i % 1]!):=by
   unfold madeCells
   rw [Array.getElem?_map,Array.getElem?_range,if_pos om]
   rfl
  rw [e1,Nat.mod_one]
  simp [BB,h]
 ·rw [Array.getElem?_eq_none (by rw [size_madeCells]; omega),List.getElem?_eq_none (by simp [BB]; omega)]
theorem Pf (n:Nat) (hn:n≤3072) (w:World):(Instr.makeSlice 80 (vi (n:Int)) (vi (n:Int))).run Tryz.prog w = .ok (.slice (some ⟨w.heap.size,0,none⟩) n n) (w.alloc (.cells (BB (List.replicate n false)).toArray 4)):=by
 have hinfo:(Tryz.prog.info? 4).map (fun i=>(i.zero,i.size,i.bytes))=some (some bF,1,1):=by kernel_rfl
 obtain ⟨i,hi,hz,hsz,hby⟩:=info_parts hinfo
 have:=run_make (P:=Tryz.prog) w 80 4 i _ Tryz.underlying80 hi hz .i64 .i64 (n:Int) (n:Int) om om (by rw [hby]; omega) om
 rw [hsz,Int.toNat_natCast] at this
 rw [this,← Pe]
 rfl
theorem He:mD Tryz.prog 24 9 (.string ⟨#[]⟩) 1 16:=⟨Tryz.underlying24,kr,rfl,om,om⟩
def xA (w : World) (A1 A2 : Option Addr) : Prop := (∀ a, A1 = some a → w.heap.size ≤ a.block) ∧ (∀ a, A2 = some a → w.heap.size ≤ a.block) ∧ ∀ a b, A1 = some a → A2 = some b → a.block ≠ b.block
theorem Hf {w wx:World} {e e':TypeId} {sz n c n' c':Nat} {A A':Option Addr} {xs ys:List Value} (h1:wx.ownsRow w.heap.size e sz (.slice A n c) n xs) (h2:wx.ownsRow w.heap.size e' sz (.slice A' n' c') n' ys) (hs:∀ g,(Value.slice A n c).ownBlock=some g→(Value.slice A' n' c').ownBlock≠some g):xA w A A':=by
 refine ⟨fun a ha=>?_,fun a ha=>?_,fun a b ha hb e=>?_⟩
 ·subst ha; exact (h1.lt a.block rfl).1
 ·subst ha; exact (h2.lt a.block rfl).1
 ·subst ha hb; exact hs a.block rfl (by rw [e]; rfl)
def Pg (t : BT) (w : World) (e : Ending) (w' : World) : Prop :=
 Fr [] w w' ∧ match t.keys with
  | none => e = .returned (.tuple #[.slice none 0 0, .slice none 0 0, Value.int .i64 10])
  | some p => ∃ A1 c1 A2 c2, e = .returned (.tuple #[.slice A1 p.1.length c1, .slice A2 p.2.length c2, Value.int .i64 0]) ∧ aF w' A1 (p.1.map eI) ∧ aF w' A2 (p.2.map eI) ∧ xA w A1 A2
structure KS (w wx : World) (bt bc cap : Nat) (rest : List Value) (bp bm : Nat) (v9 v10 : Value) (t : BT) (pl : List Bool) (tk ad rm : List (List UInt8)) : Prop where
 fr : Fr [] w wx
 tab : dU wx bt bc cap rest t
 pur : At wx bp 4 (BB pl)
 set : eO wx bm tk.reverse
 add : wx.ownsRow w.heap.size 9 1 v9 ad.length (ad.map eI)
 rem : wx.ownsRow w.heap.size 9 1 v10 rm.length (rm.map eI)
 sep : v9.ownBlock = none ∨ v9.ownBlock ≠ v10.ownBlock
 lt : w.heap.size ≤ bt
 lc : w.heap.size ≤ bc
 lp : w.heap.size ≤ bp
 lm : w.heap.size ≤ bm
theorem mT {w:World} {base:Nat} {e t:TypeId} {sz n:Nat} {v:Value} {xs l:List Value} {b:Nat} (h:w.ownsRow base e sz v n xs) (ha:At w b t l) (hne:e≠t):some b≠v.ownBlock:=by
 intro hb
 rcases h.2 with ⟨rfl,_⟩ | ⟨g,cap,cur,rfl,_,hg,_⟩
 ·simp [Value.ownBlock] at hb
 ·have:some b=some g:=hb
  injection this with this
  subst this
  unfold At at ha
  rw [hg] at ha
  simp only [Option.some.injEq,Obj.cells.injEq] at ha
  exact hne ha.2.1
theorem Ag {w:World} {base:Nat} {e:TypeId} {sz n:Nat} {v:Value} {xs:List Value} {b:Nat} {S:List (List UInt8)} (h:w.ownsRow base e sz v n xs) (ha:eO w b S):some b≠v.ownBlock:=by
 intro hb
 rcases h.2 with ⟨rfl,_⟩ | ⟨g,cap,cur,rfl,_,hg,_⟩
 ·simp [Value.ownBlock] at hb
 ·have:some b=some g:=hb
  injection this with this
  subst this
  obtain ⟨es,clock,h1,_⟩:=ha
  rw [hg] at h1
  cases h1
theorem At.grown {w w':World} {b:Nat} {t:TypeId} {l:List Value} {row:Option Nat} (h:At w b t l) (hg:w.grownBy w' row) (hne:some b≠row):At w' b t l:=(hg.block b h.lt hne).trans h
theorem dU.grown {w w':World} {bt bc cap:Nat} {rest:List Value} {t:BT} {row:Option Nat} (h:dU w bt bc cap rest t) (hg:w.grownBy w' row) (h1:some bt≠row) (h2:some bc≠row):dU w' bt bc cap rest t :=
 ⟨h.tab.grown hg h1,h.cells.grown hg h2,h.ok,h.size,h.cap⟩
section
variable {w wx w' : World} {bt bc cap : Nat} {rest : List Value} {bp bm : Nat} {v9 v10 : Value} {t : BT} {pl : List Bool} {tk ad rm : List (List UInt8)}
theorem KS.iH (h:KS w wx bt bc cap rest bp bm v9 v10 t pl tk ad rm) (hf:Fr [] wx w'):KS w w' bt bc cap rest bp bm v9 v10 t pl tk ad rm :=
 ⟨h.fr.trans hf,h.tab.fr hf si si,h.pur.fr hf si,h.set.fr hf si,dZ h.add hf si,dZ h.rem hf si,h.sep,h.lt,h.lc,h.lp,h.lm⟩
theorem KS.map {key:List UInt8} (h:KS w wx bt bc cap rest bp bm v9 v10 t pl tk ad rm) (hg:wx.grownBy w' (some bm)) (hs:eO w' bm (tk.reverse++[key])):KS w w' bt bc cap rest bp bm v9 v10 t pl (key::tk) ad rm:=by
 have n1:=h.set.wB h.tab.tab
 have n2:=h.set.wB h.tab.cells
 have n3:=h.set.wB h.pur
 have lm:=h.lm
 refine ⟨h.fr.grown hg (fun k e=>.inr (by injection e; omega)),h.tab.grown hg (fun e=>n1 (by injection e with e; exact e.symm)) (fun e=>n2 (by injection e with e; exact e.symm)),h.pur.grown hg (fun e=>n3 (by injection e with e; exact e.symm)),
  by rw [List.reverse_cons]; exact hs,h.add.kept hg ?_,h.rem.kept hg ?_,h.sep,h.lt,h.lc,h.lp,h.lm⟩
 ·cases hb:v9.ownBlock with
  | none=>exact .inl rfl
  | some g=>exact .inr (fun e=>Ag h.add h.set (by rw [hb,← e]))
 ·cases hb:v10.ownBlock with
  | none=>exact .inl rfl
  | some g=>exact .inr (fun e=>Ag h.rem h.set (by rw [hb,← e]))
theorem Hg {base:Nat} {e:TypeId} {sz n:Nat} {v:Value} {xs:List Value} (h:wx.ownsRow base e sz v n xs):∀ k,v.ownBlock=some k→base≤k:=fun k hk=>(h.lt k hk).1
theorem KS.XJ {v9':Value} {key:List UInt8} (h:KS w wx bt bc cap rest bp bm v9 v10 t pl tk ad rm) (hown:w'.ownsRow w.heap.size 9 1 v9' (ad.length+1) (ad.map eI++[eI key])) (hg:wx.grownBy w' v9.ownBlock) (hb:v9'.ownBlock=v9.ownBlock∨v9'.ownBlock=some (wx.heap.size+1)) :
  KS w w' bt bc cap rest bp bm v9' v10 t pl tk (ad++[key]) rm:=by
 have hr:w'.ownsRow w.heap.size 9 1 v10 rm.length (rm.map eI):=by
  refine h.rem.kept hg ?_
  cases hq:v10.ownBlock with
  | none=>exact .inl rfl
  | some g =>
    refine .inr (fun e=>?_)
    rcases h.sep with h0 | h0
    ·rw [h0] at e; cases e
    ·exact h0 (by rw [hq]; exact e.symm)
 refine ⟨h.fr.grown hg (fun k e=>.inr (Hg h.add k e)),h.tab.grown hg (mT h.add h.tab.tab (by decide)) (mT h.add h.tab.cells (by decide)),h.pur.grown hg (mT h.add h.pur (by decide)),h.set.grown hg (Ag h.add h.set),by rw [List.length_append,List.map_append]; exact hown,hr,?_,h.lt,h.lc,h.lp,h.lm⟩
 rcases hb with e | e
 ·rw [e]; exact h.sep
 ·refine .inr ?_
  rw [e]
  intro e2
  have:=(h.rem.lt _ e2.symm).2
  omega
theorem KS.XK {v10':Value} {key:List UInt8} (h:KS w wx bt bc cap rest bp bm v9 v10 t pl tk ad rm) (hown:w'.ownsRow w.heap.size 9 1 v10' (rm.length+1) (rm.map eI++[eI key])) (hg:wx.grownBy w' v10.ownBlock) (hb:v10'.ownBlock=v10.ownBlock∨v10'.ownBlock=some (wx.heap.size+1)) :
  KS w w' bt bc cap rest bp bm v9 v10' t pl tk ad (rm++[key]):=by
 have hr:w'.ownsRow w.heap.size 9 1 v9 ad.length (ad.map eI):=by
  refine h.add.kept hg ?_
  cases hq:v9.ownBlock with
  | none=>exact .inl rfl
  | some g =>
    refine .inr (fun e=>?_)
    rcases h.sep with h0 | h0
    ·rw [h0] at hq; cases hq
    ·exact h0 (by rw [hq]; exact e)
 refine ⟨h.fr.grown hg (fun k e=>.inr (Hg h.rem k e)),h.tab.grown hg (mT h.rem h.tab.tab (by decide)) (mT h.rem h.tab.cells (by decide)),h.pur.grown hg (mT h.rem h.pur (by decide)),h.set.grown hg (Ag h.rem h.set),hr,by rw [List.length_append,List.map_append]; exact hown,?_,h.lt,h.lc,h.lp,h.lm⟩
 rcases hb with e | e
 ·rcases h.sep with h0 | h0
  ·exact .inl h0
  ·exact .inr (by rw [e]; exact h0)
 ·cases hq:v9.ownBlock with
  | none=>exact .inl rfl
  | some g =>
    refine .inr ?_
    rw [e]
    intro e2
    injection e2 with e2
    have:=(h.add.lt _ hq).2
    omega
theorem KS.chg {t':BT} (h:KS w wx bt bc cap rest bp bm v9 v10 t pl tk ad rm) (hf:Fr [bc] wx w') (ht:dU w' bt bc cap rest t'):KS w w' bt bc cap rest bp bm v9 v10 t' pl tk ad rm:=by
 have lc:=h.lc
 have n1:bp≠bc:=h.pur.ne h.tab.cells (by decide)
 have n2:=h.set.wB h.tab.cells
 refine ⟨h.fr.trans' hf (by simp; omega),ht,h.pur.fr hf (by simpa using n1),h.set.fr hf (by simpa using n2),dZ h.add hf ?_,dZ h.rem hf ?_,h.sep,h.lt,h.lc,h.lp,h.lm⟩
 ·intro g hg hm
  simp at hm
  subst hm
  exact mT h.add h.tab.cells (by decide) hg.symm
 ·intro g hg hm
  simp at hm
  subst hm
  exact mT h.rem h.tab.cells (by decide) hg.symm
theorem KS.Mu (h:KS w wx bt bc cap rest bp bm v9 v10 t pl tk ad rm) (i:Nat) (b:Bool):KS w (wx.setCell ⟨bp,i,none⟩ (.bool b)) bt bc cap rest bp bm v9 v10 t (pl.set i b) tk ad rm:=by
 have lp:=h.lp
 have n1:bt≠bp:=h.tab.tab.ne h.pur (by decide)
 have n2:bc≠bp:=h.tab.cells.ne h.pur (by decide)
 have n3:=h.set.wB h.pur
 have hf:Fr [bp] wx (wx.setCell ⟨bp,i,none⟩ (.bool b)):=(Fr.refl _ _).setCell si _
 refine ⟨h.fr.setCell (.inr h.lp) _,h.tab.fr hf (by simpa using n1) (by simpa using n2),by rw [← Hd]; exact h.pur.set i _,h.set.fr hf (by simpa using n3),dZ h.add hf ?_,dZ h.rem hf ?_,h.sep,h.lt,h.lc,h.lp,h.lm⟩
 ·intro g hg hm
  simp at hm
  subst hm
  exact mT h.add h.pur (by decide) hg.symm
 ·intro g hg hm
  simp at hm
  subst hm
  exact mT h.rem h.pur (by decide) hg.symm
end
theorem xB {w:World} {base n c:Nat} {A:Option Addr} {ss:List (List UInt8)} (h:w.ownsRow base 9 1 (.slice A n c) n (ss.map eI)) (hn:n=ss.length) (hl:n≤3072) :
  Calls Tryz.prog 42 #[.slice A n c] w fun e w'=>e = .returned (.tuple #[])∧Fr (Value.slice A n c).ownBlock.toList w w'∧aF w' A ((iN ss).map eI):=by
 by_cases h0:n=0
 ·subst h0
  have e:ss=[]:=List.eq_nil_of_length_eq_zero hn.symm
  subst e
  refine (Tryz.slices_Sort_string_none A c w).mono ?_
  rintro e w' ⟨rfl,rfl⟩
  exact ⟨rfl,Fr.refl _ _,fun i u hu=>by simp [iN] at hu⟩
 ·obtain ⟨g,cap,rest,hv,_,_,ha,_,_⟩:=FB h om
  simp only [Value.slice.injEq] at hv
  obtain ⟨rfl,_,rfl⟩:=hv
  subst hn
  refine (Pd g c ss rest 9 w ha om).mono ?_
  rintro e w' ⟨rfl,hf,ha'⟩
  refine ⟨rfl,hf,fun i u hu=>⟨g,0,rfl,ha'.lt,?_⟩⟩
  rw [Nat.zero_add,ha'.cell,List.getElem?_append_left (List.getElem?_eq_some_iff.1 hu).1]
  exact hu
theorem KS.zB {w wx:World} {bt bc cap:Nat} {rest:List Value} {bp bm:Nat} {A9:Option Addr} {a9 c9:Nat} {v10:Value} {t:BT} {pl:List Bool} {tk ad rm:List (List UInt8)} (h:KS w wx bt bc cap rest bp bm (.slice A9 a9 c9) v10 t pl tk ad rm):wx.ownsRow w.heap.size 9 1 (.slice A9 a9 c9) a9 (ad.map eI):=by
 obtain ⟨A,c,e⟩:=jT h.add
 simp only [Value.slice.injEq] at e
 have h1:=h.add
 rw [← e.2.1] at h1
 exact h1
theorem KS.BS {w wx:World} {bt bc cap:Nat} {rest:List Value} {bp bm:Nat} {A10:Option Addr} {a10 c10:Nat} {v9:Value} {t:BT} {pl:List Bool} {tk ad rm:List (List UInt8)} (h:KS w wx bt bc cap rest bp bm v9 (.slice A10 a10 c10) t pl tk ad rm):wx.ownsRow w.heap.size 9 1 (.slice A10 a10 c10) a10 (rm.map eI):=by
 obtain ⟨A,c,e⟩:=jT h.rem
 simp only [Value.slice.injEq] at e
 have h1:=h.rem
 rw [← e.2.1] at h1
 exact h1
theorem Hh {w wx w':World} {v:Value} {e:TypeId} {sz n:Nat} {xs:List Value} (hf:Fr [] w wx) (h:wx.ownsRow w.heap.size e sz v n xs) (hf':Fr v.ownBlock.toList wx w'):Fr [] w w':=by
 refine hf.trans' hf' (fun x hx=>.inr ?_)
 cases hb:v.ownBlock with
 | none=>rw [hb] at hx; simp at hx
 | some g =>
   rw [hb] at hx
   simp at hx
   subst hx
   exact (h.lt x hb).1
theorem KS.Mv {w wx w':World} {bt bc cap:Nat} {rest:List Value} {bp bm:Nat} {A9 A10:Option Addr} {a9 c9 a10 c10:Nat} {t:BT} {pl:List Bool} {tk ad rm:List (List UInt8)} (h:KS w wx bt bc cap rest bp bm (.slice A9 a9 c9) (.slice A10 a10 c10) t pl tk ad rm) (_:a9=ad.length) (_:a10=rm.length)
  (hf:Fr (Value.slice A9 a9 c9).ownBlock.toList wx w') (hr:aF w' A9 ((iN ad).map eI)):Fr [] w w'∧aF w' A9 ((iN ad).map eI)∧w'.ownsRow w.heap.size 9 1 (.slice A10 a10 c10) a10 (rm.map eI):=by
 refine ⟨Hh h.fr h.add hf,hr,dZ h.BS hf ?_⟩
 intro g hg hm
 cases hb:(Value.slice A9 a9 c9).ownBlock with
 | none=>rw [hb] at hm; simp at hm
 | some g9 =>
   rw [hb] at hm
   simp at hm
   subst hm
   rcases h.sep with h0 | h0
   ·rw [h0] at hb; cases hb
   ·exact h0 (by rw [hb,hg])
theorem Hi {w wx w':World} {A9 A10:Option Addr} {a9 c9 a10 c10:Nat} {rm:List (List UInt8)} {xs ys:List Value} (hf0:Fr [] w wx) (h:wx.ownsRow w.heap.size 9 1 (.slice A10 a10 c10) a10 (rm.map eI)) (hsep:∀ g,(Value.slice A9 a9 c9).ownBlock=some g→(Value.slice A10 a10 c10).ownBlock≠some g)
  (hr:aF wx A9 xs) (hf:Fr (Value.slice A10 a10 c10).ownBlock.toList wx w') (hr2:aF w' A10 ys):Fr [] w w'∧aF w' A9 xs∧aF w' A10 ys:=by
 refine ⟨Hh hf0 h hf,hr.fr hf ?_,hr2⟩
 intro b o e hm
 subst e
 cases hb:(Value.slice A10 a10 c10).ownBlock with
 | none=>rw [hb] at hm; simp at hm
 | some g =>
   rw [hb] at hm
   simp at hm
   subst hm
   exact hsep b rfl hb
theorem Ph {t:BT} {i:Nat} {c:BC} (hc:t.cells[i]?=some c):(BB (t.cE.take i++List.replicate (t.cells.length - i) false)).set i (.bool (c.pure t.seed))=BB (t.cE.take (i+1)++List.replicate (t.cells.length - (i+1)) false):=by
 have h1:=(List.getElem?_eq_some_iff.1 hc).1
 have hp:=BT.Fm hc
 obtain ⟨h2,e2⟩:=List.getElem?_eq_some_iff.1 hp
 have hl:(t.cE.take i).length=i:=by rw [List.length_take]; omega
 rw [Hd,List.set_append_right _ _ om,hl,Nat.sub_self]
 obtain ⟨m,hm⟩:∃ m,t.cells.length - i=m+1:=⟨t.cells.length - i - 1,om⟩
 rw [hm,List.replicate_succ,List.set_cons_zero,show t.cells.length - (i+1)=m by omega,List.take_succ_eq_append_getElem h2,e2,List.append_assoc]
 rfl
set_option maxHeartbeats 8000000 in
theorem Hj (bt0 bc0 cap0:Nat) (rest0:List Value) (t:BT) (w:World) (hv:bW w) (ht:dU w bt0 bc0 cap0 rest0 t) :
  Calls Tryz.prog 15 #[vP bt0 0] w (Pg t w):=by
 obtain ⟨n,HN⟩:∃ n,Hid (n=t.cells.length):=⟨_,rfl⟩
 have hb:=kE ht.size
 have n3:3≤n:=by rw [HN.out]; exact hb.1
 have n4:n≤3072:=by rw [HN.out]; exact hb.2.1
 have H:=Lib.hid (And.intro hv ht)
 have HCL:=Lib.hid (GZ bt0 bc0 cap0 rest0 t w ht)
 clear hb hv ht
 have hmb:=Pf n n4
 go_enter Tryz.func15,Tryz.ntmps15
 go_wp2_with fail
 refine HCL.out.mono ?_
 rintro e w1 ⟨bt,bc,cap,rest,rfl,hbt,hbc,hf1,ht1⟩
 have H1:=Lib.hid (And.intro hf1 ht1)
 have q0:w1.cell? ⟨bt,0,none⟩=some (.slice (some ⟨bc,0,none⟩) n cap):=by rw [ht1.tab.cell,HN.out]; rfl
 have hbtl:=ht1.tab.lt
 have hbcl:=ht1.cells.lt
 clear hf1 ht1 HCL
 go_wp2_with fail
 obtain ⟨bp,hbp⟩:∃ bp,bp=w1.heap.size:=⟨_,rfl⟩
 rw [← hbp]
 have HL0:Hid (Fr [] w1 (w1.alloc (.cells (BB (List.replicate n false)).toArray 4))∧At (w1.alloc (.cells (BB (List.replicate n false)).toArray 4)) bp 4 (BB (t.cE.take 0++List.replicate (t.cells.length - 0) false))) :=
  ⟨(Fr.refl _ _).alloc _,by rw [hbp,← HN.out]; exact At.new _ _ _⟩
 obtain ⟨W0,HW0⟩:∃ W0,Hid (W0=w1.alloc (.cells (BB (List.replicate n false)).toArray 4)):=⟨_,rfl⟩
 rw [← HW0.out] at HL0 ⊢
 have hbpl:w.heap.size≤bp:=by rw [hbp]; exact H1.out.1.size
 have hbpt:bt < bp:=by rw [hbp]; exact hbtl
 have hbpw:w1.heap.size≤bp:=om
 have hbpc:bc < bp:=by rw [hbp]; exact hbcl
 clear hmb HW0 q0 hbp
 go_wp2_with fail
 go_loopw [26] (fun s wx=>∃ i:Nat,i≤n∧s = .int .i64 i∧Hid (Fr [] w1 wx∧At wx bp 4 (BB (t.cE.take i++List.replicate (t.cells.length - i) false)))) (fun s _=>n - (intOf s).toNat)
 case atStart=>exact ⟨0,by omega,rfl,HL0⟩
 case round =>
  obtain ⟨i,hi,rfl,HR⟩:=hrel
  by_cases hlt:i < n
  ·obtain ⟨c,hc⟩:∃ c,t.cells[i]?=some c:=⟨_,List.getElem?_eq_getElem (by rw [← HN.out]; exact hlt)⟩
   have HP:=Lib.hid (CO bt bc cap rest t i c wr (H.out.1.fr (H1.out.1.trans HR.out.1) si si) (H1.out.2.fr HR.out.1 si si) hc)
   have HST:=Lib.hid (Ph hc)
   obtain ⟨b,HB⟩:∃ b,Hid (b=c.pure t.seed):=⟨_,rfl⟩
   rw [← HB.out] at HP HST
   have hiI:(i:Int) < (n:Int):=om
   clear hc
   go_wp2_with fail
   refine HP.out.mono ?_
   rintro e w2 ⟨rfl,hf2⟩
   have HR2:Hid (Fr [] w1 w2∧At w2 bp 4 (BB (t.cE.take i++List.replicate (t.cells.length - i) false))):=⟨HR.out.1.trans hf2,HR.out.2.fr hf2 si⟩
   have cz:∃ z,w2.cell? ⟨bp,i,none⟩=some (.bool z):=by
    refine ⟨false,?_⟩
    rw [HR2.out.2.cell]
    apply CQ
    rw [List.getElem?_append_right (by rw [List.length_take,BT.qI]; omega),List.length_take,BT.qI,List.getElem?_replicate,if_pos (by rw [← HN.out]; omega)]
   obtain ⟨z,cz⟩:=cz
   have fz:=HR2.out.2.frozen i
   have HNN:Hid (Fr [] w1 (w2.setCell ⟨bp,i,none⟩ (.bool b))∧At (w2.setCell ⟨bp,i,none⟩ (.bool b)) bp 4 (BB (t.cE.take (i+1)++List.replicate (t.cells.length - (i+1)) false))):=by
    exact ⟨HR2.out.1.setCell (.inr hbpw) _,by rw [← HST.out]; exact HR2.out.2.set i _⟩
   clear hf2 HP
   go_wp2_with fail
   go_roundw
   case rel =>
    first
     | exact ⟨i+1,by omega,by go_num,HNN⟩
     | ((repeat apply Exists.intro); exact ⟨⟨i+1,by omega,by go_num,HNN⟩,rfl⟩)
   case measure=>simp [intOf] <;> omega
  ·obtain rfl:i=n:=om
   have HZ:Hid (Fr [] w wr∧dU wr bt bc cap rest t∧At wr bp 4 (BB t.cE)):=by
    refine ⟨H1.out.1.trans HR.out.1,H1.out.2.fr HR.out.1 si si,?_⟩
    have h1:=HR.out.2
    rw [← HN.out,Nat.sub_self,List.replicate_zero,List.append_nil,List.take_of_length_le (by rw [BT.qI,← HN.out]; exact Nat.le_refl _)] at h1
    exact h1
   obtain ⟨wa,HWA⟩:∃ wa,Hid (wa=wr):=⟨_,rfl⟩
   rw [← HWA.out] at HZ ⊢
   clear HWA HR
   have hmm:=@run_makeMap Tryz.prog
   have q0:wa.cell? ⟨bt,0,none⟩=some (.slice (some ⟨bc,0,none⟩) i cap):=by rw [HZ.out.2.1.tab.cell,HN.out]; rfl
   have hbta:=HZ.out.2.1.tab.lt
   have hnem:wa.heap.size≠bt:=om
   have hnem':bt≠wa.heap.size:=om
   go_wp2_with fail
   obtain ⟨bm,hbm⟩:∃ bm,bm=wa.heap.size:=⟨_,rfl⟩
   rw [← hbm]
   have HK0:Hid (KS w (wa.alloc (.map #[] 0)) bt bc cap rest bp bm nS nS t t.cE [] [] []):=by
    refine ⟨HZ.out.1.alloc _,HZ.out.2.1.fr ((Fr.refl [] _).alloc _) si si,HZ.out.2.2.alloc _,by rw [hbm]; exact eO.new wa,⟨rfl,.inl ⟨rfl,rfl⟩⟩,⟨rfl,.inl ⟨rfl,rfl⟩⟩,.inl rfl,hbt,hbc,hbpl,?_⟩
    rw [hbm]
    exact HZ.out.1.size
   generalize wa.alloc (.map #[] 0)=W0 at HK0 ⊢
   clear hmm q0 hbta hnem hnem' hbm HZ
   obtain ⟨n,hni⟩:∃ n,n=i:=⟨_,rfl⟩
   rw [← hni]
   subst hni
   go_loopw [9,10,42] (fun v9 v10 s42 wx=>∃ (k:Nat) (A9:Option Addr) (a9 c9:Nat) (A10:Option Addr) (a10 c10:Nat) (s:fG),k≤n∧s42 = .int .i64 k∧v9 = .slice A9 a9 c9∧v10 = .slice A10 a10 c10∧a9≤k∧a10≤k∧s.taken.length≤k ∧
    Hid (a9=s.added.length∧a10=s.removed.length∧s.t.cells.length=n∧s.t.seed=t.seed∧KS w wx bt bc cap rest bp bm v9 v10 s.t s.t.cE s.taken s.added s.removed∧eL n ⟨t,[],[],[]⟩=eL (n - k) s)) (fun _ _ s42 _=>n - (intOf s42).toNat)
   case atStart=>exact ⟨0,none,0,0,none,0,0,⟨t,[],[],[]⟩,by omega,rfl,rfl,rfl,by omega,by omega,by simp,rfl,rfl,HN.out.symm,rfl,HK0.out,rfl⟩
   case round =>
    obtain ⟨k,A9,a9,c9,A10,a10,c10,s,hk,rfl,rfl,rfl,ha9,ha10,htk,HR⟩:=hrel
    obtain ⟨wo,HWO⟩:∃ wo,Hid (wo=wr):=⟨_,rfl⟩
    rw [← HWO.out] at HR ⊢
    clear HWO
    by_cases hlt:k < n
    ·have HI:Hid (Calls Tryz.prog 38 #[.slice (some ⟨bp,0,none⟩) n n,.bool true] wo fun e w'=>e = .returned (Value.int .i64 (oL s.t.cE))∧wo=w'):=by
      have h1:=Pb bp n s.t.cE wo HR.out.2.2.2.2.1.pur (by rw [BT.qI,HR.out.2.2.1]; exact n4)
      rw [BT.qI,HR.out.2.2.1] at h1
      exact h1
     have hkI:(k:Int) < (n:Int):=om
     cases hfst:s.t.first with
     | none =>
       have hix:oL s.t.cE = -1:=by rw [BT.Mo] at hfst; unfold oL; rw [hfst]
       rw [hix] at HI
       have HPE:Hid (eL n ⟨t,[],[],[]⟩=some s):=by show _=_; rw [HR.out.2.2.2.2.2]; exact OB _ s hfst
       clear hix hfst
       go_wp2_with fail
       refine HI.out.mono ?_
       rintro e w2 ⟨rfl,rfl⟩
       have HEM:=Lib.hid (Ha bt bc cap rest s.t wo HR.out.2.2.2.2.1.tab)
       go_wp2_with fail
       refine HEM.out.mono ?_
       rintro e w3 ⟨rfl,hf3⟩
       have HK3:Hid (KS w w3 bt bc cap rest bp bm (.slice A9 a9 c9) (.slice A10 a10 c10) s.t s.t.cE s.taken s.added s.removed):=HR.out.2.2.2.2.1.iH hf3
       clear hf3 HEM
       cases hem:s.t.empty with
       | false =>
         have HRES:Hid (t.keys=none):=by show _=_; unfold BT.keys BT.raw; rw [← HN.out,HPE.out]; simp [hem]
         go_wp2_with fail
         go_ret3
         exact ⟨HK3.out.fr,by rw [HRES.out]; rfl⟩
       | true =>
         have HRES:Hid (t.keys=some (gR s.added,gR s.removed)):=by show _=_; unfold BT.keys BT.raw; rw [← HN.out,HPE.out]; simp [hem]
         have HS1:=Lib.hid (xB HK3.out.zB HR.out.1 om)
         go_wp2_with fail
         refine HS1.out.mono ?_
         rintro e w4 ⟨rfl,hf4,hr4⟩
         have HO4:Hid (Fr [] w w4∧aF w4 A9 ((iN s.added).map eI)∧w4.ownsRow w.heap.size 9 1 (.slice A10 a10 c10) a10 (s.removed.map eI)):=HK3.out.Mv HR.out.1 HR.out.2.1 hf4 hr4
         have HSEP:Hid (∀ g,(Value.slice A9 a9 c9).ownBlock=some g→(Value.slice A10 a10 c10).ownBlock≠some g):=fun g hg e=>HK3.out.sep.elim (fun h0=>by rw [h0] at hg; cases hg) (fun h0=>h0 (by rw [hg,e]))
         have HFR:Hid (xA w A9 A10):=Hf HK3.out.zB HK3.out.BS HSEP.out
         have HS2:=Lib.hid (xB HO4.out.2.2 HR.out.2.1 om)
         clear hf4 hr4 HS1
         go_wp2_with fail
         refine HS2.out.mono ?_
         rintro e w5 ⟨rfl,hf5,hr5⟩
         have HO5:Hid (Fr [] w w5∧aF w5 A9 ((iN s.added).map eI)∧aF w5 A10 ((iN s.removed).map eI)):=Hi HO4.out.1 HO4.out.2.2 HSEP.out HO4.out.2.1 hf5 hr5
         clear hf5 hr5 HS2
         go_wp2_with fail
         go_ret3
         refine ⟨HO5.out.1,?_⟩
         rw [HRES.out]
         refine ⟨A9,c9,A10,c10,?_,HO5.out.2.1,HO5.out.2.2,HFR.out⟩
         show _=Ending.returned (.tuple #[.slice A9 (iN s.added).length c9,.slice A10 (iN s.removed).length c10,vi 0])
         rw [wY,wY,← HR.out.1,← HR.out.2.1]
         rfl
     | some i =>
       have hix:oL s.t.cE=(i:Int):=by rw [BT.Mo] at hfst; unfold oL; rw [hfst]
       rw [hix] at HI
       obtain ⟨c,hc,hcp,hca⟩:=OD hfst
       have hcok:=HR.out.2.2.2.2.1.tab.ok.cells c (List.mem_of_getElem? hc)
       have hin:i < n:=by rw [← HR.out.2.2.1]; exact (List.getElem?_eq_some_iff.1 hc).1
       have hinI:(i:Int) < (n:Int):=om
       obtain ⟨L,HL⟩:∃ L,Hid (L=c.cells):=⟨_,rfl⟩
       obtain ⟨key,HKEY⟩:∃ key,Hid (key=c.keys):=⟨_,rfl⟩
       have HKL:Hid (key.length=32):=by show key.length=32; rw [HKEY.out]; exact hcok.keys
       have hbcl:=HR.out.2.2.2.2.1.tab.cells.lt
       have hbtl:=HR.out.2.2.2.2.1.tab.tab.lt
       have HLX:Hid (L.length=34∧(∀ v∈L,v.oneCell'=true)∧∀ j v,L[j]?=some v→wo.cell? ⟨bc,i*34+j,none⟩=some v):=by
        show _∧_∧_
        rw [HL.out]
        refine ⟨BC.mY hcok,fun v hv=>Ac (l:=[c]) v (by simpa [cO] using hv),fun j v hj=>?_⟩
        have hj34:=(List.getElem?_eq_some_iff.1 hj).1
        rw [BC.mY hcok] at hj34
        rw [HR.out.2.2.2.2.1.tab.cells.cell,kR HR.out.2.2.2.2.1.tab.ok.cells rest i c hc j hj34]
        exact hj
       have q0:wo.cell? ⟨bt,0,none⟩=some (.slice (some ⟨bc,0,none⟩) n cap):=by rw [HR.out.2.2.2.2.1.tab.tab.cell,← HR.out.2.2.1]; rfl
       obtain ⟨m,hm⟩:∃ m,n - k=m+1:=⟨n - k - 1,om⟩
       have HF:=Lib.hid (And.intro hfst (And.intro hc (And.intro hca (And.intro hcok hm))))
       have hcnt:=OE hcp
       clear hix hfst hc hca hcok hm hcp
       go_wp2_with fail
       refine HI.out.mono ?_
       rintro e w2 ⟨rfl,rfl⟩
       go_upto_region 15 with (first
        | (refine pF rfl 79 (.tmp 53) rfl bc (i*34) rfl L _ (fun j v hj=>HLX.out.2.2 j v hj) Tryz.underlying79 rfl (by rw [HLX.out.1]; kernel_rfl) ?_)
        | (refine wI rfl 79 (.tmp 12) (.tmp 54) rfl rfl 79 _ L rfl (by rw [HLX.out.1]; rfl) (by rw [HLX.out.1]; kernel_rfl) HLX.out.2.1 ?_; intro w2 hf2 ha2))
       obtain ⟨bx,hbx⟩:∃ bx,bx=wo.heap.size:=⟨_,rfl⟩
       rw [← hbx] at ha2 ⊢
       have HX:Hid (At w2 bx 79 c.cells):=by show At _ _ _ _; rw [← HL.out]; exact ha2
       have HK2:Hid (KS w w2 bt bc cap rest bp bm (.slice A9 a9 c9) (.slice A10 a10 c10) s.t s.t.cE s.taken s.added s.removed):=HR.out.2.2.2.2.1.iH hf2
       have hbx1:w.heap.size≤bx:=by rw [hbx]; exact HR.out.2.2.2.2.1.fr.size
       have hbxc:bc < bx:=om
       clear q0 hf2 ha2 hbx hbcl hbtl
       have hsl:∀ W:World,(Instr.sliceAt 77 (vP bx 1) none none none).run Tryz.prog W = .ok (.slice (some ⟨bx,1,none⟩) 32 32) W:=fun W=>by kernel_rfl
       have hst:(convert 22 9 (.slice (some ⟨bx,1,none⟩) 32 32)).run Tryz.prog w2 = .ok (vS key) w2:=by
        have h1:=uA (P:=Tryz.prog) (src:=22) (dst:=9) Tryz.underlying22 Tryz.underlying5 Tryz.underlying9 w2 (some ⟨bx,1,none⟩) 32 key (fun j v hj=>⟨bx,1,rfl,HX.out.lt,by
         rw [HX.out.cell,Nat.add_comm 1 j,BC.cells,List.getElem?_cons_succ,List.getElem?_append_left (by rw [← HKEY.out]; exact (List.getElem?_eq_some_iff.1 hj).1),← HKEY.out]
         exact hj⟩)
        rw [HKL.out] at h1
        exact h1
       obtain ⟨tw,HTW⟩:∃ tw,Hid (tw=s.taken.contains key):=⟨_,rfl⟩
       have hlk:(Instr.lookup 54 (.map (some bm)) (vS key) false).run Tryz.prog w2 = .ok (.bool tw) w2:=by
        have h1:=HK2.out.set.lookup key (by rw [HKL.out]; unfold maxLen; omega)
        rw [List.contains_reverse] at h1
        rw [h1,HTW.out]
       cases tw with
       | true =>
         have HRES:Hid (t.keys=none):=by
          show _=_
          have h1:=OC m s i HF.out.1 (by rw [HF.out.2.2.1,← HKEY.out,← HTW.out])
          unfold BT.keys BT.raw
          rw [← HN.out,HR.out.2.2.2.2.2,HF.out.2.2.2.2,h1]
          rfl
         go_wp2_with fail
         go_ret3
         exact ⟨HK2.out.fr,by rw [HRES.out]; rfl⟩
       | false =>
         go_upto_region 19 with (at_mapUpdate; refine wpList_mapUpdate_own _ rfl _ _ _ 54 rfl 9 4 (Maps.string_keyed Tryz.underlying9) Tryz.underlying54 _ bm _ _ rfl HK2.out.set (by rw [List.length_reverse]; unfold maxLen; omega) _ _ (.string key) rfl rfl (CP key (by rw [HKL.out]; unfold maxLen; omega)) (.lit (.bool true)) [] (plainElem_bool Tryz.underlying4 true) ?_; intro w3 hown3 hg3)
         have HK3:Hid (KS w w3 bt bc cap rest bp bm (.slice A9 a9 c9) (.slice A10 a10 c10) s.t s.t.cE (key::s.taken) s.added s.removed):=HK2.out.map hg3 (eO.Mt hown3)
         have HX3:Hid (At w3 bx 79 c.cells):=HX.out.grown hg3 (fun e=>HK2.out.set.wB HX.out (by injection e with e; exact e.symm))
         have hw3:w.heap.size≤w3.heap.size:=HK3.out.fr.size
         obtain ⟨seed,HSD⟩:∃ seed,Hid (seed=s.t.seed):=⟨_,rfl⟩
         clear hown3 hg3 hsl hst hlk HK2 HI
         rcases hcnt with hcnt | hcnt
         ·have c0:w3.cell? ⟨bx,0,none⟩=some (Value.int .i64 (1)):=by rw [HX3.out.cell,sG,hcnt]
          have HCN:=Lib.hid hcnt
          clear hcnt
          go_upto_region 22 with (at_builtin; refine tS He rfl (.tmp 66) (.tmp 68) rfl w.heap.size _ _ (s.added.map eI) (vS key) rfl HK3.out.zB rfl rfl (by omega) (by omega) 9 ?_; intro v4 w4 hown4 hg4 hb4)
          obtain ⟨A4,c4,rfl⟩:=jT hown4
          have HK4:Hid (KS w w4 bt bc cap rest bp bm (.slice A4 (a9+1) c4) (.slice A10 a10 c10) s.t s.t.cE (key::s.taken) (s.added++[key]) s.removed):=by
           have h1:=hown4
           have h2:=HR.out.1
           refine HK3.out.XJ (key:=key) ?_ hg4 hb4
           rw [← h2]
           exact h1
          have HX4:Hid (At w4 bx 79 c.cells):=HX3.out.grown hg4 (mT HK3.out.add HX3.out (by decide))
          clear c0 hown4 hg4 hb4 HK3 HX3
          have c0:w4.cell? ⟨bx,0,none⟩=some (Value.int .i64 (1)):=by rw [HX4.out.cell,sG,HCN.out]
          have HCH:=Lib.hid (CL bt bc cap rest s.t key (-1) w4 (H.out.1.fr HK4.out.fr si si) HK4.out.tab HKL.out)
          go_wp2_with fail
          refine HCH.out.mono ?_
          rintro e w5 ⟨rfl,hf5,ht5⟩
          obtain ⟨t',HT'⟩:∃ t',Hid (t'=s.t.change key (-1)):=⟨_,rfl⟩
          rw [← HT'.out] at ht5
          have HK5:Hid (KS w w5 bt bc cap rest bp bm (.slice A4 (a9+1) c4) (.slice A10 a10 c10) t' s.t.cE (key::s.taken) (s.added++[key]) s.removed):=HK4.out.chg hf5 ht5
          have HTN:Hid (t'.cells.length=n∧t'.seed=seed):=⟨by rw [HT'.out,BT.change_len]; exact HR.out.2.2.1,by rw [HT'.out,HSD.out]; exact BT.pD _ _ _ 3⟩
          clear hf5 ht5 HCH HK4 c0
          have HTC:Hid (∀ W,Fr [] w5 W→W.cell? ⟨bt,0,none⟩=some (.slice (some ⟨bc,0,none⟩) n cap)∧W.cell? ⟨bt,1,none⟩=some (.int .u64 (seed:Int))):=fun W hW =>
           ⟨by rw [(HK5.out.tab.tab.fr hW si).cell,← HTN.out.1]; rfl,by rw [(HK5.out.tab.tab.fr hW si).cell,← HTN.out.2]; rfl⟩
          obtain ⟨q0,q1⟩:=HTC.out w5 (Fr.refl _ _)
          have hbt5:bt < w5.heap.size:=HK5.out.tab.tab.lt
          obtain ⟨PL,HPLL⟩:∃ PL,Hid (PL=sI n seed key):=⟨_,rfl⟩
          have HPL:=Lib.hid (CJ n seed key w5.drew (H.out.1.fr HK5.out.fr.drew si si) (by rw [HSD.out]; exact HR.out.2.2.2.2.1.tab.ok.seed) (by rw [HKL.out]; omega) n3 n4)
          rw [← HPLL.out] at HPL
          go_wp2_with fail
          go_region_held3 (fun w'=>w'.cell? ⟨bt,0,none⟩=some (.slice (some ⟨bc,0,none⟩) n cap)∧w'.cell? ⟨bt,1,none⟩=some (.int .u64 (seed:Int))) (first | go_keep | (exact HTC.out _ H6.out))
           (first | (go_at_call 40; ((with_reducible refine HPL.out.mono ?_)); rintro e w6 ⟨rfl,hf6⟩; have H6:Hid (Fr [] w5 w6):=(Fr.refl [] w5).drew.trans hf6; clear hf6))
          rename_i hHeld
          have HK6:Hid (KS w w6 bt bc cap rest bp bm (.slice A4 (a9+1) c4) (.slice A10 a10 c10) t' (gI n seed key s.t.cE t'.cE 0) (key::s.taken) (s.added++[key]) s.removed):=HK5.out.iH H6.out
          clear hHeld q0 q1 HPL HTC H6 hbt5 HK5
          go_wp2_with fail
          go_loopw [91] (fun s91 wx=>∃ j:Nat,j≤3∧s91 = .int .i64 j∧Hid (KS w wx bt bc cap rest bp bm (.slice A4 (a9+1) c4) (.slice A10 a10 c10) t' (gI n seed key s.t.cE t'.cE j) (key::s.taken) (s.added++[key]) s.removed)) (fun s91 _=>3 - (intOf s91).toNat)
          case atStart=>exact ⟨0,by omega,rfl,HK6⟩
          case round =>
           obtain ⟨j,hj,rfl,HJ⟩:=hrel
           by_cases hltj:j < 3
           ·obtain ⟨p,HPP⟩:∃ p,Hid (p=dB n seed key j):=⟨_,rfl⟩
            have hpn:p < n:=by rw [HPP.out]; exact wW n seed key j n3 hltj
            have hixj:∀ W:World,(Instr.index 83 (.agg PL.toArray) (vi (j:Int))).run Tryz.prog W = .ok (Value.int .i64 (p:Int)) W:=wG (P:=Tryz.prog) 83 3 3 PL (Value.int .i64 (p:Int)) .i64 j Tryz.underlying83 kr (fun _=>kr) hltj (by rw [HPLL.out,HPP.out]; exact CK n seed key j hltj)
            obtain ⟨c2,hc2⟩:∃ c2,t'.cells[p]?=some c2:=⟨_,List.getElem?_eq_getElem (by rw [HTN.out.1]; exact hpn)⟩
            have HPU:=Lib.hid (CO bt bc cap rest t' p c2 wr (H.out.1.fr HJ.out.fr si si) HJ.out.tab hc2)
            obtain ⟨b,HB⟩:∃ b,Hid (b=c2.pure t'.seed):=⟨_,rfl⟩
            rw [← HB.out] at HPU
            have HST:Hid ((gI n seed key s.t.cE t'.cE j).set p b=gI n seed key s.t.cE t'.cE (j+1)):=by
             show _=(gI n seed key s.t.cE t'.cE j).set (dB n seed key j) (t'.cE.getD (dB n seed key j) false)
             rw [← HPP.out,List.getD_eq_getElem?_getD,BT.Fm hc2,HB.out]
             rfl
            have hpI:(p:Int) < (n:Int):=om
            have hjI:(j:Int) < 3:=om
            clear hc2
            go_wp2_with fail
            refine HPU.out.mono ?_
            rintro e w7 ⟨rfl,hf7⟩
            have HJ7:Hid (KS w w7 bt bc cap rest bp bm (.slice A4 (a9+1) c4) (.slice A10 a10 c10) t' (gI n seed key s.t.cE t'.cE j) (key::s.taken) (s.added++[key]) s.removed):=HJ.out.iH hf7
            obtain ⟨z,cz⟩:∃ z,w7.cell? ⟨bp,p,none⟩=some (.bool z):=by
             have hpl:p < (gI n seed key s.t.cE t'.cE j).length:=by rw [Ae,BT.qI,HR.out.2.2.1]; exact hpn
             refine ⟨_,by rw [HJ7.out.pur.cell]; exact CQ (List.getElem?_eq_getElem hpl)⟩
            have fz:=HJ7.out.pur.frozen p
            have HN7:Hid (KS w (w7.setCell ⟨bp,p,none⟩ (.bool b)) bt bc cap rest bp bm (.slice A4 (a9+1) c4) (.slice A10 a10 c10) t' (gI n seed key s.t.cE t'.cE (j+1)) (key::s.taken) (s.added++[key]) s.removed):=by
             have h1:=HJ7.out.Mu p b
             rw [HST.out] at h1
             exact h1
            clear hf7 HPU
            go_wp2_with fail
            go_roundw
            case rel =>
             first
              | exact ⟨j+1,by omega,by go_num,HN7⟩
              | ((repeat apply Exists.intro); exact ⟨⟨j+1,by omega,by go_num,HN7⟩,rfl⟩)
            case measure=>simp [intOf] <;> omega
           ·obtain rfl:j=3:=om
            have HTAKE:Hid (s.take c=⟨t',key::s.taken,(s.added++[key]),s.removed⟩):=by
             show s.take c=_
             unfold fG.take
             rw [HCN.out,HT'.out,HKEY.out]
             simp
            have HEND:Hid (a9+1=(s.take c).added.length∧a10=(s.take c).removed.length∧(s.take c).t.cells.length=n∧(s.take c).t.seed=t.seed∧KS w wr bt bc cap rest bp bm (.slice A4 (a9+1) c4) (.slice A10 a10 c10) (s.take c).t (s.take c).t.cE (s.take c).taken (s.take c).added (s.take c).removed∧eL n ⟨t,[],[],[]⟩=eL (n - (k+1)) (s.take c)):=by
             have h1:=HJ.out
             have h2:=GP s.t key (-1)
             rw [HR.out.2.2.1,← HSD.out,← HT'.out] at h2
             rw [h2] at h1
             have h3:=GQ m s i HF.out.1 (by rw [HF.out.2.2.1,← HKEY.out,← HTW.out])
             rw [HF.out.2.2.1] at h3
             rw [HTAKE.out] at h3 ⊢
             have e9:=HR.out.1
             have e10:=HR.out.2.1
             refine ⟨by simp; omega,by simp; omega,HTN.out.1,by rw [← HR.out.2.2.2.1,← HSD.out]; exact HTN.out.2,h1,?_⟩
             rw [HR.out.2.2.2.2.2,HF.out.2.2.2.2,h3]
             congr 1
             have:=HF.out.2.2.2.2
             omega
            have htk':(s.take c).taken.length≤k+1:=by rw [HTAKE.out]; simp; omega
            go_wp2_with fail
            go_roundw
            case rel =>
             first
              | exact ⟨k+1,_,_,_,_,_,_,s.take c,by omega,by go_num,rfl,rfl,by omega,by omega,htk',HEND⟩
              | ((repeat apply Exists.intro); exact ⟨⟨k+1,_,_,_,_,_,_,s.take c,by omega,by go_num,rfl,rfl,by omega,by omega,htk',HEND⟩,rfl⟩)
            case measure=>simp [intOf] <;> omega
         ·have c0:w3.cell? ⟨bx,0,none⟩=some (Value.int .i64 (-1)):=by rw [HX3.out.cell,sG,hcnt]
          have HCN:=Lib.hid hcnt
          clear hcnt
          go_upto_region 22 with (at_builtin; refine tS He rfl (.tmp 70) (.tmp 72) rfl w.heap.size _ _ (s.removed.map eI) (vS key) rfl HK3.out.BS rfl rfl (by omega) (by omega) 9 ?_; intro v4 w4 hown4 hg4 hb4)
          obtain ⟨A4,c4,rfl⟩:=jT hown4
          have HK4:Hid (KS w w4 bt bc cap rest bp bm (.slice A9 a9 c9) (.slice A4 (a10+1) c4) s.t s.t.cE (key::s.taken) s.added (s.removed++[key])):=by
           have h1:=hown4
           have h2:=HR.out.2.1
           refine HK3.out.XK (key:=key) ?_ hg4 hb4
           rw [← h2]
           exact h1
          have HX4:Hid (At w4 bx 79 c.cells):=HX3.out.grown hg4 (mT HK3.out.rem HX3.out (by decide))
          clear c0 hown4 hg4 hb4 HK3 HX3
          have c0:w4.cell? ⟨bx,0,none⟩=some (Value.int .i64 (-1)):=by rw [HX4.out.cell,sG,HCN.out]
          have HCH:=Lib.hid (CL bt bc cap rest s.t key (1) w4 (H.out.1.fr HK4.out.fr si si) HK4.out.tab HKL.out)
          go_wp2_with fail
          refine HCH.out.mono ?_
          rintro e w5 ⟨rfl,hf5,ht5⟩
          obtain ⟨t',HT'⟩:∃ t',Hid (t'=s.t.change key (1)):=⟨_,rfl⟩
          rw [← HT'.out] at ht5
          have HK5:Hid (KS w w5 bt bc cap rest bp bm (.slice A9 a9 c9) (.slice A4 (a10+1) c4) t' s.t.cE (key::s.taken) s.added (s.removed++[key])):=HK4.out.chg hf5 ht5
          have HTN:Hid (t'.cells.length=n∧t'.seed=seed):=⟨by rw [HT'.out,BT.change_len]; exact HR.out.2.2.1,by rw [HT'.out,HSD.out]; exact BT.pD _ _ _ 3⟩
          clear hf5 ht5 HCH HK4 c0
          have HTC:Hid (∀ W,Fr [] w5 W→W.cell? ⟨bt,0,none⟩=some (.slice (some ⟨bc,0,none⟩) n cap)∧W.cell? ⟨bt,1,none⟩=some (.int .u64 (seed:Int))):=fun W hW =>
           ⟨by rw [(HK5.out.tab.tab.fr hW si).cell,← HTN.out.1]; rfl,by rw [(HK5.out.tab.tab.fr hW si).cell,← HTN.out.2]; rfl⟩
          obtain ⟨q0,q1⟩:=HTC.out w5 (Fr.refl _ _)
          have hbt5:bt < w5.heap.size:=HK5.out.tab.tab.lt
          obtain ⟨PL,HPLL⟩:∃ PL,Hid (PL=sI n seed key):=⟨_,rfl⟩
          have HPL:=Lib.hid (CJ n seed key w5.drew (H.out.1.fr HK5.out.fr.drew si si) (by rw [HSD.out]; exact HR.out.2.2.2.2.1.tab.ok.seed) (by rw [HKL.out]; omega) n3 n4)
          rw [← HPLL.out] at HPL
          go_wp2_with fail
          go_region_held3 (fun w'=>w'.cell? ⟨bt,0,none⟩=some (.slice (some ⟨bc,0,none⟩) n cap)∧w'.cell? ⟨bt,1,none⟩=some (.int .u64 (seed:Int))) (first | go_keep | (exact HTC.out _ H6.out))
           (first | (go_at_call 40; ((with_reducible refine HPL.out.mono ?_)); rintro e w6 ⟨rfl,hf6⟩; have H6:Hid (Fr [] w5 w6):=(Fr.refl [] w5).drew.trans hf6; clear hf6))
          rename_i hHeld
          have HK6:Hid (KS w w6 bt bc cap rest bp bm (.slice A9 a9 c9) (.slice A4 (a10+1) c4) t' (gI n seed key s.t.cE t'.cE 0) (key::s.taken) s.added (s.removed++[key])):=HK5.out.iH H6.out
          clear hHeld q0 q1 HPL HTC H6 hbt5 HK5
          go_wp2_with fail
          go_loopw [91] (fun s91 wx=>∃ j:Nat,j≤3∧s91 = .int .i64 j∧Hid (KS w wx bt bc cap rest bp bm (.slice A9 a9 c9) (.slice A4 (a10+1) c4) t' (gI n seed key s.t.cE t'.cE j) (key::s.taken) s.added (s.removed++[key]))) (fun s91 _=>3 - (intOf s91).toNat)
          case atStart=>exact ⟨0,by omega,rfl,HK6⟩
          case round =>
           obtain ⟨j,hj,rfl,HJ⟩:=hrel
           by_cases hltj:j < 3
           ·obtain ⟨p,HPP⟩:∃ p,Hid (p=dB n seed key j):=⟨_,rfl⟩
            have hpn:p < n:=by rw [HPP.out]; exact wW n seed key j n3 hltj
            have hixj:∀ W:World,(Instr.index 83 (.agg PL.toArray) (vi (j:Int))).run Tryz.prog W = .ok (Value.int .i64 (p:Int)) W:=wG (P:=Tryz.prog) 83 3 3 PL (Value.int .i64 (p:Int)) .i64 j Tryz.underlying83 kr (fun _=>kr) hltj (by rw [HPLL.out,HPP.out]; exact CK n seed key j hltj)
            obtain ⟨c2,hc2⟩:∃ c2,t'.cells[p]?=some c2:=⟨_,List.getElem?_eq_getElem (by rw [HTN.out.1]; exact hpn)⟩
            have HPU:=Lib.hid (CO bt bc cap rest t' p c2 wr (H.out.1.fr HJ.out.fr si si) HJ.out.tab hc2)
            obtain ⟨b,HB⟩:∃ b,Hid (b=c2.pure t'.seed):=⟨_,rfl⟩
            rw [← HB.out] at HPU
            have HST:Hid ((gI n seed key s.t.cE t'.cE j).set p b=gI n seed key s.t.cE t'.cE (j+1)):=by
             show _=(gI n seed key s.t.cE t'.cE j).set (dB n seed key j) (t'.cE.getD (dB n seed key j) false)
             rw [← HPP.out,List.getD_eq_getElem?_getD,BT.Fm hc2,HB.out]
             rfl
            have hpI:(p:Int) < (n:Int):=om
            have hjI:(j:Int) < 3:=om
            clear hc2
            go_wp2_with fail
            refine HPU.out.mono ?_
            rintro e w7 ⟨rfl,hf7⟩
            have HJ7:Hid (KS w w7 bt bc cap rest bp bm (.slice A9 a9 c9) (.slice A4 (a10+1) c4) t' (gI n seed key s.t.cE t'.cE j) (key::s.taken) s.added (s.removed++[key])):=HJ.out.iH hf7
            obtain ⟨z,cz⟩:∃ z,w7.cell? ⟨bp,p,none⟩=some (.bool z):=by
             have hpl:p < (gI n seed key s.t.cE t'.cE j).length:=by rw [Ae,BT.qI,HR.out.2.2.1]; exact hpn
             refine ⟨_,by rw [HJ7.out.pur.cell]; exact CQ (List.getElem?_eq_getElem hpl)⟩
            have fz:=HJ7.out.pur.frozen p
            have HN7:Hid (KS w (w7.setCell ⟨bp,p,none⟩ (.bool b)) bt bc cap rest bp bm (.slice A9 a9 c9) (.slice A4 (a10+1) c4) t' (gI n seed key s.t.cE t'.cE (j+1)) (key::s.taken) s.added (s.removed++[key])):=by
             have h1:=HJ7.out.Mu p b
             rw [HST.out] at h1
             exact h1
            clear hf7 HPU
            go_wp2_with fail
            go_roundw
            case rel =>
             first
              | exact ⟨j+1,by omega,by go_num,HN7⟩
              | ((repeat apply Exists.intro); exact ⟨⟨j+1,by omega,by go_num,HN7⟩,rfl⟩)
            case measure=>simp [intOf] <;> omega
           ·obtain rfl:j=3:=om
            have HTAKE:Hid (s.take c=⟨t',key::s.taken,s.added,(s.removed++[key])⟩):=by
             show s.take c=_
             unfold fG.take
             rw [HCN.out,HT'.out,HKEY.out]
             simp
            have HEND:Hid (a9=(s.take c).added.length∧a10+1=(s.take c).removed.length∧(s.take c).t.cells.length=n∧(s.take c).t.seed=t.seed∧KS w wr bt bc cap rest bp bm (.slice A9 a9 c9) (.slice A4 (a10+1) c4) (s.take c).t (s.take c).t.cE (s.take c).taken (s.take c).added (s.take c).removed∧eL n ⟨t,[],[],[]⟩=eL (n - (k+1)) (s.take c)):=by
             have h1:=HJ.out
             have h2:=GP s.t key (1)
             rw [HR.out.2.2.1,← HSD.out,← HT'.out] at h2
             rw [h2] at h1
             have h3:=GQ m s i HF.out.1 (by rw [HF.out.2.2.1,← HKEY.out,← HTW.out])
             rw [HF.out.2.2.1] at h3
             rw [HTAKE.out] at h3 ⊢
             have e9:=HR.out.1
             have e10:=HR.out.2.1
             refine ⟨by simp; omega,by simp; omega,HTN.out.1,by rw [← HR.out.2.2.2.1,← HSD.out]; exact HTN.out.2,h1,?_⟩
             rw [HR.out.2.2.2.2.2,HF.out.2.2.2.2,h3]
             congr 1
             have:=HF.out.2.2.2.2
             omega
            have htk':(s.take c).taken.length≤k+1:=by rw [HTAKE.out]; simp; omega
            go_wp2_with fail
            go_roundw
            case rel =>
             first
              | exact ⟨k+1,_,_,_,_,_,_,s.take c,by omega,by go_num,rfl,rfl,by omega,by omega,htk',HEND⟩
              | ((repeat apply Exists.intro); exact ⟨⟨k+1,_,_,_,_,_,_,s.take c,by omega,by go_num,rfl,rfl,by omega,by omega,htk',HEND⟩,rfl⟩)
            case measure=>simp [intOf] <;> omega
    ·obtain rfl:k=n:=om
     have HPE:Hid (eL k ⟨t,[],[],[]⟩=some s):=by show _=_; rw [HR.out.2.2.2.2.2,Nat.sub_self]; rfl
     have HEM:=Lib.hid (Ha bt bc cap rest s.t wo HR.out.2.2.2.2.1.tab)
     go_wp2_with fail
     refine HEM.out.mono ?_
     rintro e w3 ⟨rfl,hf3⟩
     have HK3:Hid (KS w w3 bt bc cap rest bp bm (.slice A9 a9 c9) (.slice A10 a10 c10) s.t s.t.cE s.taken s.added s.removed):=HR.out.2.2.2.2.1.iH hf3
     clear hf3 HEM
     cases hem:s.t.empty with
     | false =>
       have HRES:Hid (t.keys=none):=by show _=_; unfold BT.keys BT.raw; rw [← HN.out,HPE.out]; simp [hem]
       go_wp2_with fail
       go_ret3
       exact ⟨HK3.out.fr,by rw [HRES.out]; rfl⟩
     | true =>
       have HRES:Hid (t.keys=some (gR s.added,gR s.removed)):=by show _=_; unfold BT.keys BT.raw; rw [← HN.out,HPE.out]; simp [hem]
       have HS1:=Lib.hid (xB HK3.out.zB HR.out.1 om)
       go_wp2_with fail
       refine HS1.out.mono ?_
       rintro e w4 ⟨rfl,hf4,hr4⟩
       have HO4:Hid (Fr [] w w4∧aF w4 A9 ((iN s.added).map eI)∧w4.ownsRow w.heap.size 9 1 (.slice A10 a10 c10) a10 (s.removed.map eI)):=HK3.out.Mv HR.out.1 HR.out.2.1 hf4 hr4
       have HSEP:Hid (∀ g,(Value.slice A9 a9 c9).ownBlock=some g→(Value.slice A10 a10 c10).ownBlock≠some g):=fun g hg e=>HK3.out.sep.elim (fun h0=>by rw [h0] at hg; cases hg) (fun h0=>h0 (by rw [hg,e]))
       have HFR:Hid (xA w A9 A10):=Hf HK3.out.zB HK3.out.BS HSEP.out
       have HS2:=Lib.hid (xB HO4.out.2.2 HR.out.2.1 om)
       clear hf4 hr4 HS1
       go_wp2_with fail
       refine HS2.out.mono ?_
       rintro e w5 ⟨rfl,hf5,hr5⟩
       have HO5:Hid (Fr [] w w5∧aF w5 A9 ((iN s.added).map eI)∧aF w5 A10 ((iN s.removed).map eI)):=Hi HO4.out.1 HO4.out.2.2 HSEP.out HO4.out.2.1 hf5 hr5
       clear hf5 hr5 HS2
       go_wp2_with fail
       go_ret3
       refine ⟨HO5.out.1,?_⟩
       rw [HRES.out]
       refine ⟨A9,c9,A10,c10,?_,HO5.out.2.1,HO5.out.2.2,HFR.out⟩
       show _=Ending.returned (.tuple #[.slice A9 (iN s.added).length c9,.slice A10 (iN s.removed).length c10,vi 0])
       rw [wY,wY,← HR.out.1,← HR.out.2.1]
       rfl
end
theorem Pj (n:Int) (w:World) (h0:-9223372036854775808≤n) (h1:n≤9223372036854775807) :
  Calls Tryz.prog 72 #[vi n] w fun e w'=>e = .returned (.int .u64 (gA n:Int))∧w=w':=by
 by_cases hn:n < 0
 ·go_enter Tryz.func72,Tryz.ntmps72
  go_wp2
  go_ret
  refine ⟨lI ?_,rfl⟩
  unfold gA
  rw [if_pos hn]
  omega
 ·replace hn:=Int.not_lt.1 hn
  go_enter Tryz.func72,Tryz.ntmps72
  go_wp2
  go_ret
  refine ⟨lI ?_,rfl⟩
  unfold gA
  rw [if_neg om]
  omega
structure kS (base : Nat) (v : Value) (bs : List UInt8) (w : World) (v' : Value) (w' : World) : Prop where
 own : w'.ownsRow base 5 1 v' bs.length (B8 bs)
 gr : w.grownBy w' v.ownBlock
 blk : v'.ownBlock = v.ownBlock ∨ ∃ g, v'.ownBlock = some g ∧ w.heap.size ≤ g
theorem kS.step {base:Nat} {v v' v'':Value} {bs cs:List UInt8} {w w' w'':World} (h:kS base v bs w v' w') (k:kS base v' cs w' v'' w''):kS base v cs w v'' w'':=by
 refine ⟨k.own,⟨k.gr.os.trans h.gr.os,k.gr.tape.trans h.gr.tape,k.gr.output.trans h.gr.output,Nat.le_trans h.gr.size k.gr.size,fun i hi hn=>?_⟩,?_⟩
 ·refine (k.gr.block i (Nat.lt_of_lt_of_le hi h.gr.size) (fun e=>?_)).trans (h.gr.block i hi hn)
  rcases h.blk with hb | ⟨g,hb,hg⟩
  ·exact hn (e.trans hb)
  ·rw [hb] at e
   injection e with e
   omega
 ·rcases k.blk with hb | ⟨g,hb,hg⟩
  ·rcases h.blk with hb' | ⟨g,hb',hg⟩
   ·exact .inl (hb.trans hb')
   ·exact .inr ⟨g,hb.trans hb',hg⟩
  ·exact .inr ⟨g,hb,Nat.le_trans h.gr.size hg⟩
theorem kS.refl {base:Nat} {v:Value} {bs:List UInt8} {w:World} (h:w.ownsRow base 5 1 v bs.length (B8 bs)):kS base v bs w v w:=⟨h,World.grownBy.refl w _,.inl rfl⟩
theorem kS.size {base:Nat} {v v':Value} {bs:List UInt8} {w w':World} (h:kS base v bs w v' w'):w.heap.size≤w'.heap.size:=h.gr.size
theorem kS.push {base:Nat} {v v':Value} {bs:List UInt8} {b:UInt8} {w w':World} (h:w'.ownsRow base 5 1 v' (bs.length+1) (B8 bs++[.int .u8 (b.toNat:Int)])) (hg:w.grownBy w' v.ownBlock) (hb:v'.ownBlock=v.ownBlock∨v'.ownBlock=some (w.heap.size+1)):kS base v (bs++[b]) w v' w':=by
 refine ⟨?_,hg,?_⟩
 ·rw [tU,List.length_append]; exact h
 ·rcases hb with hb | hb
  ·exact .inl hb
  ·exact .inr ⟨_,hb,om⟩
set_option maxHeartbeats 2000000 in
theorem Hk (base n:Nat) (v:Value) (bs:List UInt8) (w:World) (hn:cG n) (hl:bs.length+10≤4294967296) (hb:base≤w.heap.size) (hown:w.ownsRow base 5 1 v bs.length (B8 bs)) :
  Calls Tryz.prog 71 #[v,.int .u64 (n:Int)] w fun e w'=>∃ v',e = .returned v'∧kS base v (bs++aD n) w v' w':=by
 have H0:=Lib.hid (kS.refl hown)
 have hnl:=eJ n hn
 have HN:=Lib.hid hn
 have HL:=Lib.hid hl
 clear hown hn hl
 go_enter Tryz.func71,Tryz.ntmps71
 go_wp2_with fail
 go_loopw [0,1] (fun b i wr=>∃ (m:Nat) (cs:List UInt8),cG m∧i = .int .u64 (m:Int)∧bs++aD n=cs++aD m∧kS base v cs w b wr) (fun _ i _=>(intOf i).toNat)
 case atStart=>exact ⟨n,bs,HN.out,rfl,rfl,H0.out⟩
 case round =>
  obtain ⟨m,cs,hm,rfl,he,hg⟩:=hrel
  have hsz:=hg.size
  have HC:Hid (cs.length+1≤137438953472):=by have h1:=congrArg List.length he; have h2:=HL.out; rw [List.length_append,List.length_append] at h1; show _≤_; omega
  have HG:=Lib.hid hg
  have HE:=Lib.hid he
  have HM:=Lib.hid hm
  have hmI:(m:Int)≤18446744073709551615:=by unfold cG at hm; omega
  clear hg he hm
  obtain ⟨A,c,rfl⟩:=jT HG.out.own
  by_cases hlt:m < 128
  ·go_wp2_with (at_builtin; refine tS jE rfl (.tmp 15) (.tmp 18) rfl base _ _ _ (.int .u8 (m:Int)) rfl HG.out.own rfl rfl HC.out (by omega) 5 ?_; intro v' w1 hown1 hg1 hb1)
   go_ret
   refine ⟨v',rfl,HG.out.step ?_⟩
   rw [HE.out,mZ m hlt]
   exact kS.push (by rw [MP m om] at hown1; exact hown1) hg1 hb1
  ·have hor:=MO m
   have hge:(128:Int)≤(m:Int):=om
   go_wp2_with (at_builtin; refine tS jE rfl (.tmp 7) (.tmp 11) rfl base _ _ _ (.int .u8 ((UInt8.ofNat (m % 128+128)).toNat:Int)) rfl HG.out.own rfl rfl HC.out (by omega) 5 ?_; intro v' w1 hown1 hg1 hb1)
   go_roundw
   case rel =>
    refine ⟨m / 128,cs++[UInt8.ofNat (m % 128+128)],?_,by go_num,?_,HG.out.step (kS.push hown1 hg1 hb1)⟩
    ·have:=HM.out; unfold cG at this ⊢; omega
    ·rw [HE.out,pG m hlt,List.append_assoc]; rfl
   case measure=>simp [intOf]; omega
theorem kT {w:World} {base:Nat} {e t:TypeId} {sz n b:Nat} {v:Value} {xs l:List Value} (h:w.ownsRow base e sz v n xs) (ha:At w b t l) (hne:e≠t):v.ownBlock≠some b:=by
 rcases h.2 with ⟨rfl,_⟩ | ⟨g,cap,cur,rfl,_,hh,_⟩
 ·simp [Value.ownBlock]
 ·intro he
  have:g=b:=by simpa [Value.ownBlock] using he
  subst this
  unfold At at ha
  rw [ha] at hh
  simp only [Option.some.injEq,Obj.cells.injEq] at hh
  exact hne hh.2.1.symm
def gV (w : World) (base bw : Nat) (xs : List UInt8) : Prop := ∃ v, At w bw 140 [v, Value.int .i64 0] ∧ w.ownsRow base 5 1 v xs.length (B8 xs)
theorem gV.bel {w w':World} {base bw:Nat} {xs:List UInt8} (h:gV w base bw xs) (hb:Fr [] w w'):gV w' base bw xs:=by
 obtain ⟨v,h1,h2⟩:=h
 exact ⟨v,h1.fr hb si,dZ h2 hb si⟩
theorem Hl (w:World):Calls Tryz.prog 43 #[] w fun e w'=>e = .returned (.pointer (some ⟨w.heap.size,0,none⟩))∧Fr [] w w'∧At w' w.heap.size 140 [nS,vi 0]:=by
 go_enter Tryz.func43,Tryz.ntmps43
 go_wp2
 go_ret
 exact ⟨rfl,(Fr.refl _ _).alloc _,At.new w 140 [nS,vi 0]⟩
theorem gV.new {w:World} {base bw:Nat} (h:At w bw 140 [nS,vi 0]):gV w base bw []:=⟨_,h,World.ownsRow_nil _ _ _ _⟩
structure CR (base bw : Nat) (xs : List UInt8) (w : World) (e : Ending) (w' : World) : Prop where
 ret : e = .returned (.tuple #[])
 bel : lH base [bw] w w'
 at_ : gV w' base bw xs
 other : ∀ k t l, At w k t l → t ≠ 5 → k ≠ bw → At w' k t l
set_option maxHeartbeats 2000000 in
theorem Ah (base bw n:Nat) (xs:List UInt8) (w:World) (hw:gV w base bw xs) (hb:base≤w.heap.size) (hn:cG n) (hl:xs.length≤4294967000) :
  Calls Tryz.prog 44 #[vP bw 0,.int .u64 (n:Int)] w (CR base bw (xs++aD n) w):=by
 obtain ⟨v,ha,ho⟩:=hw
 obtain ⟨A,c,rfl⟩:=jT ho
 have h0:w.cell? ⟨bw,0,none⟩=some (.slice A xs.length c):=by rw [ha.cell]; rfl
 have h1:w.cell? ⟨bw,1,none⟩=some (vi 0):=by rw [ha.cell]; rfl
 have hne:=kT ho ha (by decide)
 have H:=Lib.hid (And.intro ha (And.intro ho hne))
 have HN:=Lib.hid (And.intro hn hl)
 clear ha ho hne hn hl
 go_enter Tryz.func44,Tryz.ntmps44
 go_wp2_with fail
 refine (Hk base n _ xs _ HN.out.1 (by have:=HN.out.2; omega) hb H.out.2.1).mono ?_
 rintro e w1 ⟨v1,rfl,hg⟩
 obtain ⟨A1,c1,hv⟩:=jT hg.own
 rw [List.length_append] at hv
 subst hv
 have ha1:At w1 bw 140 [.slice A xs.length c,vi 0]:=(hg.gr.block bw H.out.1.lt (fun e=>H.out.2.2 e.symm)).trans H.out.1
 have c0:w1.cell? ⟨bw,0,none⟩=some (.slice A xs.length c):=by rw [ha1.cell]; rfl
 have z0:w1.frozen? ⟨bw,0,none⟩=false:=ha1.frozen 0
 have HOT:Hid (∀ k t l,At w k t l→t≠5→k≠bw→At (w1.setCell ⟨bw,0,none⟩ (.slice A1 (xs.length+(aD n).length) c1)) k t l):=fun k t l hk ht hne =>
  At.far (w:=w1) (Eq.trans (hg.gr.block k hk.lt (fun e=>kT H.out.2.1 hk (fun e2=>ht e2.symm) e.symm)) hk) hne _
 have HF:Hid (lH base [bw] w (w1.setCell ⟨bw,0,none⟩ (.slice A1 (xs.length+(aD n).length) c1))∧gV (w1.setCell ⟨bw,0,none⟩ (.slice A1 (xs.length+(aD n).length) c1)) base bw (xs++aD n)):=by
  refine ⟨((lH.refl base [bw] w).grown hg.gr hb (fun k hk=>.inr (H.out.2.1.lt k hk).1)).setCell (.inl si) _,_,ha1.set 0 _,dZ (S:=[bw]) hg.own ((Fr.refl _ _).setCell (.inl si) _) ?_⟩
  intro g hg' hm
  have:g=bw:=by simpa using hm
  subst this
  exact kT hg.own ha1 (by decide) hg'
 clear hg ha1
 go_wp2_with fail
 go_end0
 exact ⟨rfl,HF.out.1,HF.out.2,HOT.out⟩
set_option maxHeartbeats 2000000 in
theorem Pk (base bw:Nat) (n:Int) (xs:List UInt8) (w:World) (hw:gV w base bw xs) (hb:base≤w.heap.size) (h0:-9223372036854775808≤n) (h1:n≤9223372036854775807) (hl:xs.length≤4294967000) :
  Calls Tryz.prog 45 #[vP bw 0,vi n] w (CR base bw (xs++aD (gA n)) w):=by
 have H:=Lib.hid (And.intro hw (And.intro hb (And.intro hl (And.intro h0 h1))))
 clear hw hb hl h0 h1
 go_enter Tryz.func45,Tryz.ntmps45
 go_wp2_with fail
 refine (Pj n _ H.out.2.2.2.1 H.out.2.2.2.2).mono ?_
 rintro e w' ⟨rfl,rfl⟩
 go_wp2_with fail
 refine (Ah base bw (gA n) xs _ H.out.1 H.out.2.1 (zH n H.out.2.2.2.1 H.out.2.2.2.2) H.out.2.2.1).mono ?_
 rintro e w1 ⟨rfl,h2,h3,h4⟩
 have H1:=Lib.hid (And.intro h2 (And.intro h3 h4))
 clear h2 h3 h4
 go_wp2_with fail
 go_end0
 exact ⟨rfl,H1.out.1,H1.out.2.1,H1.out.2.2⟩
structure Ai (bs : List UInt8) (w : World) (v : Value) (w' : World) : Prop where
 own : w'.ownsRow w.heap.size 5 1 v bs.length (B8 bs)
 fr : Fr [] w w'
set_option maxHeartbeats 2000000 in
theorem Pm (base bw:Nat) (xs:List UInt8) (w:World) (hw:gV w base bw xs) (hl:xs.length≤1048576) :
  Calls Tryz.prog 47 #[vP bw 0] w fun e w'=>∃ v,e = .returned (.tuple #[v,vi 0])∧Ai xs w v w':=by
 obtain ⟨v,ha,ho⟩:=hw
 obtain ⟨A,c,rfl⟩:=jT ho
 have h0:w.cell? ⟨bw,0,none⟩=some (.slice A xs.length c):=by rw [ha.cell]; rfl
 have h1:w.cell? ⟨bw,1,none⟩=some (vi 0):=by rw [ha.cell]; rfl
 have h2:((xs.length:Nat):Int)≤1048576:=om
 have hlt:=ha.lt
 have H:=Lib.hid ho
 have HL:=Lib.hid hl
 clear ha ho hl
 go_enter Tryz.func47,Tryz.ntmps47
 go_wp2_with (at_builtin; refine wH jE rfl (.tmp 19) (.tmp 23) rfl w.heap.size _ 0 [] rfl (by exact World.ownsRow_made _ #[] 0 (Nat.le_refl _) (Nat.zero_le _) rfl) A _ c (B8 xs) rfl (by rw [dW]; simp) (by exact eQ.aR (H.out.alloc _)) (jU _) (by have:=HL.out; omega) (by simp) ?_; intro v2 w2 hown2 hg2 hb2)
 go_ret2
 refine ⟨v2,rfl,?_,?_⟩
 ·simpa using hown2
 ·exact ((Fr.refl [] w).alloc _).grown hg2 (fun g hg=>.inr (by have hg':some w.heap.size=some g:=hg; injection hg' with hg'; omega))
theorem Hm (p:List UInt8):(bD p).size=p.length:=by simp [bD,ByteArray.size]
theorem Pn (p:List UInt8):Lib.strCells (bD p)=B8 p:=by simp [Lib.strCells,bD,B8]
set_option maxHeartbeats 2000000 in
theorem Po (base bw:Nat) (p xs:List UInt8) (w:World) (hw:gV w base bw xs) (hb:base≤w.heap.size) (hp:p.length=32) (hl:xs.length≤4294967000) :
  Calls Tryz.prog 46 #[vP bw 0,.string (bD p)] w (CR base bw (xs++p) w):=by
 obtain ⟨v,ha,ho⟩:=hw
 obtain ⟨A,c,rfl⟩:=jT ho
 have h0:w.cell? ⟨bw,0,none⟩=some (.slice A xs.length c):=by rw [ha.cell]; rfl
 have h1:w.cell? ⟨bw,1,none⟩=some (vi 0):=by rw [ha.cell]; rfl
 have hne:=kT ho ha (by decide)
 have H:=Lib.hid (And.intro ha (And.intro ho hne))
 obtain ⟨s,HS⟩:∃ s,Hid (s=bD p):=⟨_,rfl⟩
 have hs:s.size=32:=by rw [HS.out,Hm]; exact hp
 have HSZ:Hid (s.size=p.length):=by show _=_; rw [HS.out,Hm]
 rw [← HS.out]
 have q1:((s.size:Int) == 32)=true:=by simp; omega
 have q2:((s.size:Int) != 32)=false:=by simp; omega
 have hsb:s.size≤32:=om
 obtain ⟨i0,hi0,hz0,hz1,hz2⟩:=info_parts (show (Tryz.prog.info? 5).map (fun i=>(i.zero,i.size,i.bytes))=some (some (.int .u8 0),1,1) by kernel_rfl)
 have HINF:=Lib.hid (And.intro hi0 (And.intro hz0 (And.intro hz1 hz2)))
 clear ha ho hne hs hp hi0 hz0 hz1 hz2
 go_enter Tryz.func46,Tryz.ntmps46
 go_wp2_with (at_builtin; refine Lib.wpList_append_own_string _ rfl (.tmp 19) (.tmp 20) 22 9 rfl base 5 i0 Tryz.underlying22 Tryz.underlying9 HINF.out.1 HINF.out.2.1 HINF.out.2.2.1 HINF.out.2.2.2 _ _ (B8 xs) rfl H.out.2.1 s rfl (by unfold maxLen; omega) (by omega) hb ?_; intro v1 w1 hown1 hg1 _; obtain ⟨A1,c1,rfl⟩:=jT hown1; have ha1:At w1 bw 140 [.slice A xs.length c,Value.int .i64 0]:=((hg1.block bw H.out.1.lt (fun e=>H.out.2.2 e.symm)).trans H.out.1); have c0:w1.cell? ⟨bw,0,none⟩=some (.slice A xs.length c):=(by rw [ha1.cell]; rfl); have z0:w1.frozen? ⟨bw,0,none⟩=false:=ha1.frozen 0; have HQ:=Lib.hid (And.intro ha1 (And.intro hown1 hg1)); clear ha1 hown1 hg1)
 have HOT:Hid (∀ k t l,At w k t l→t≠5→k≠bw→At (w1.setCell ⟨bw,0,none⟩ (.slice A1 (xs.length+s.size) c1)) k t l):=fun k t l hk ht hne =>
  At.far (w:=w1) (Eq.trans (HQ.out.2.2.block k hk.lt (fun e=>kT H.out.2.1 hk (fun e2=>ht e2.symm) e.symm)) hk) hne _
 have HF:Hid (lH base [bw] w (w1.setCell ⟨bw,0,none⟩ (.slice A1 (xs.length+s.size) c1))∧gV (w1.setCell ⟨bw,0,none⟩ (.slice A1 (xs.length+s.size) c1)) base bw (xs++p)):=by
  have ha1:=HQ.out.1
  have hown1:=HQ.out.2.1
  rw [HS.out,Pn,← tU] at hown1
  refine ⟨((lH.refl base [bw] w).grown HQ.out.2.2 hb (fun k hk=>.inr (H.out.2.1.lt k hk).1)).setCell (.inl si) _,_,ha1.set 0 _,?_⟩
  refine dZ (S:=[bw]) ?_ ((Fr.refl _ _).setCell (.inl si) _) ?_
  ·rw [List.length_append,← HSZ.out,HS.out]
   exact hown1
  ·intro g hg' hm
   have:g=bw:=by simpa using hm
   subst this
   exact kT hown1 ha1 (by decide) (by rw [← HS.out]; exact hg')
 go_end0
 exact ⟨rfl,HF.out.1,HF.out.2,HOT.out⟩
def BC.enc (c : BC) : List UInt8 := aD (gA c.count) ++ c.keys ++ aD c.checks
def gJ (t : BT) (i : Nat) : List UInt8 := aD t.cells.length ++ aD t.seed ++ (t.cells.take i).flatMap BC.enc
def BT.enc (t : BT) : List UInt8 := gJ t t.cells.length
theorem BC.XL {c:BC} (h:c.Ok):c.enc.length≤52:=by
 have h1:=eJ (gA c.count) (zH c.count h.count.1 h.count.2)
 have h2:=eJ c.checks h.checks
 have h3:=h.keys
 simp only [BC.enc,List.length_append]
 omega
theorem Pp {t:BT} {i:Nat} {c:BC} (h:t.cells[i]?=some c):gJ t (i+1)=gJ t i++aD (gA c.count)++c.keys++aD c.checks:=by
 obtain ⟨h1,e1⟩:=List.getElem?_eq_some_iff.1 h
 unfold gJ
 rw [List.take_succ_eq_append_getElem h1,e1,List.flatMap_append]
 simp [BC.enc,List.append_assoc]
theorem Hn {l:List BC} (h:fV l):(l.flatMap BC.enc).length≤l.length*52:=by
 induction l with
 | nil=>simp
 | cons c l ih =>
   have h1:=BC.XL (h c si)
   have h2:=ih (fun x hx=>h x (by simp [hx]))
   rw [List.flatMap_cons,List.length_append,List.length_cons]
   omega
theorem xC {t:BT} (h:t.Ok) (hn:t.cells.length≤3072) (i:Nat):(gJ t i).length≤200000:=by
 have h1:=eJ t.cells.length om
 have h2:=eJ t.seed h.seed
 have h3:=Hn (l:=t.cells.take i) (fun c hc=>h.cells c (List.mem_of_mem_take hc))
 rw [List.length_take] at h3
 simp only [gJ,List.length_append]
 omega
set_option maxHeartbeats 2000000 in
theorem Pq (bt bc cap:Nat) (rest:List Value) (t:BT) (w:World) (ht:dU w bt bc cap rest t) :
  Calls Tryz.prog 18 #[vP bt 0] w fun e w'=>∃ v,e = .returned v∧Ai t.enc w v w':=by
 obtain ⟨n,HN⟩:∃ n,Hid (n=t.cells.length):=⟨_,rfl⟩
 obtain ⟨seed,HS⟩:∃ seed,Hid (seed=t.seed):=⟨_,rfl⟩
 have hb:=kE ht.size
 have n4:n≤3072:=by rw [HN.out]; exact hb.2.1
 have HTC:Hid (∀ W,Fr [] w W→W.cell? ⟨bt,0,none⟩=some (.slice (some ⟨bc,0,none⟩) n cap)∧W.cell? ⟨bt,1,none⟩=some (.int .u64 (seed:Int))):=fun W hW =>
  ⟨by rw [(ht.tab.fr hW si).cell,HN.out]; rfl,by rw [(ht.tab.fr hW si).cell,HS.out]; rfl⟩
 have H:=Lib.hid ht
 have hbt:=ht.tab.lt
 have hbc:=ht.cells.lt
 clear ht hb
 obtain ⟨bw,HBW⟩:∃ bw,Hid (bw=w.heap.size):=⟨_,rfl⟩
 have HNW:=Lib.hid (Hl w)
 rw [← HBW.out] at HNW
 have hen:IntKind.u64.wrap (n:Int)=(n:Int):=by rw [IntKind.wrap_u64]; omega
 have HEL:Hid (∀ i,(gJ t i).length≤200000):=fun i=>xC H.out.ok (by rw [← HN.out]; exact n4) i
 go_enter Tryz.func18,Tryz.ntmps18
 go_wp2_with fail
 refine HNW.out.mono ?_
 rintro e w1 ⟨rfl,hf1,ha1⟩
 have H1:Hid (Fr [] w w1∧gV w1 w.heap.size bw []):=⟨hf1,gV.new ha1⟩
 have hz1:=hf1.size
 obtain ⟨q0,q1⟩:=HTC.out w1 hf1
 clear hf1 ha1 HNW
 go_wp2_with fail
 refine (Ah w.heap.size bw n [] w1 H1.out.2 hz1 (by unfold cG; omega) si).mono ?_
 rintro e w2 ⟨rfl,hb2,ha2,_⟩
 have H2:Hid (Fr [] w w2∧gV w2 w.heap.size bw (aD n)):=⟨H1.out.1.zA hb2 (Nat.le_refl _) (by have:=HBW.out; simp; omega),by simpa using ha2⟩
 clear q0 q1 hb2 ha2 H1
 obtain ⟨q0,q1⟩:=HTC.out w2 H2.out.1
 have hz2:=H2.out.1.size
 go_wp2_with fail
 refine (Ah w.heap.size bw seed (aD n) w2 H2.out.2 hz2 (by rw [HS.out]; exact H.out.ok.seed) (by have:=eJ n om; omega)).mono ?_
 rintro e w3 ⟨rfl,hb3,ha3,_⟩
 have H3:Hid (Fr [] w w3∧gV w3 w.heap.size bw (gJ t 0)):=⟨H2.out.1.zA hb3 (Nat.le_refl _) (by have:=HBW.out; simp; omega),by
  have e:gJ t 0=aD n++aD seed:=by unfold gJ; rw [← HN.out,← HS.out]; simp
  rw [e]
  exact ha3⟩
 clear q0 q1 hb3 ha3 H2
 obtain ⟨q0,q1⟩:=HTC.out w3 H3.out.1
 go_wp2_with fail
 clear q0 q1 hen
 go_loopw [28] (fun s wx=>∃ i:Nat,i≤n∧s = .int .i64 i∧Hid (Fr [] w wx∧gV wx w.heap.size bw (gJ t i))) (fun s _=>n - (intOf s).toNat)
 case atStart=>exact ⟨0,by omega,rfl,H3⟩
 case round =>
  obtain ⟨i,hi,rfl,HR⟩:=hrel
  by_cases hlt:i < n
  ·obtain ⟨c,hc⟩:∃ c,t.cells[i]?=some c:=⟨_,List.getElem?_eq_getElem (by rw [← HN.out]; exact hlt)⟩
   have hcok:=H.out.ok.cells c (List.mem_of_getElem? hc)
   obtain ⟨L,HL⟩:∃ L,Hid (L=c.cells):=⟨_,rfl⟩
   obtain ⟨key,HKEY⟩:∃ key,Hid (key=c.keys):=⟨_,rfl⟩
   obtain ⟨cnt,HCN⟩:∃ cnt,Hid (cnt=c.count):=⟨_,rfl⟩
   obtain ⟨chk,HCH⟩:∃ chk,Hid (chk=c.checks):=⟨_,rfl⟩
   have HKL:Hid (key.length=32):=by show key.length=32; rw [HKEY.out]; exact hcok.keys
   have HLX:Hid (L.length=34∧(∀ v∈L,v.oneCell'=true)∧∀ j v,L[j]?=some v→wr.cell? ⟨bc,i*34+j,none⟩=some v):=by
    show _∧_∧_
    rw [HL.out]
    refine ⟨BC.mY hcok,fun v hv=>Ac (l:=[c]) v (by simpa [cO] using hv),fun j v hj=>?_⟩
    have hj34:=(List.getElem?_eq_some_iff.1 hj).1
    rw [BC.mY hcok] at hj34
    rw [HR.out.1.cell (p:=⟨bc,i*34+j,none⟩) hbc si,H.out.cells.cell,kR H.out.ok.cells rest i c hc j hj34]
    exact hj
   have HSU:=Lib.hid (Pp hc)
   rw [← HCN.out,← HKEY.out,← HCH.out] at HSU
   have HOK:=Lib.hid hcok
   have hiI:(i:Int) < (n:Int):=om
   have hzr:=HR.out.1.size
   have hwl:bw < wr.heap.size:=by obtain ⟨v,ha,_⟩:=HR.out.2; exact ha.lt
   clear hc hcok
   go_upto_region 7 with (first
    | (refine pF rfl 79 (.tmp 30) rfl bc (i*34) rfl L _ (fun j v hj=>HLX.out.2.2 j v hj) Tryz.underlying79 rfl (by rw [HLX.out.1]; kernel_rfl) ?_)
    | (refine wI rfl 79 (.tmp 5) (.tmp 31) rfl rfl 79 _ L rfl (by rw [HLX.out.1]; rfl) (by rw [HLX.out.1]; kernel_rfl) HLX.out.2.1 ?_; intro w4 hf4 ha4))
   obtain ⟨bx,hbx⟩:∃ bx,bx=wr.heap.size:=⟨_,rfl⟩
   rw [← hbx] at ha4 ⊢
   have hxw:bx≠bw:=om
   have H4:Hid (Fr [] w w4∧gV w4 w.heap.size bw (gJ t i)∧At w4 bx 79 c.cells):=⟨HR.out.1.trans hf4,HR.out.2.bel hf4,by rw [← HL.out]; exact ha4⟩
   clear hf4 ha4 hbx
   have hz4:=H4.out.1.size
   have c0:w4.cell? ⟨bx,0,none⟩=some (Value.int .i64 cnt):=by rw [H4.out.2.2.cell,sG,HCN.out]
   go_wp2_with fail
   refine (Pk w.heap.size bw cnt (gJ t i) w4 H4.out.2.1 hz4 (by rw [HCN.out]; exact HOK.out.count.1) (by rw [HCN.out]; exact HOK.out.count.2) (by have:=HEL.out i; omega)).mono ?_
   rintro e w5 ⟨rfl,hb5,ha5,ho5⟩
   have H5:Hid (Fr [] w w5∧gV w5 w.heap.size bw (gJ t i++aD (gA cnt))∧At w5 bx 79 c.cells):=⟨H4.out.1.zA hb5 (Nat.le_refl _) (by have:=HBW.out; simp; omega),ha5,ho5 bx _ _ H4.out.2.2 (by decide) hxw⟩
   clear c0 hb5 ha5 ho5 H4
   have hz5:=H5.out.1.size
   have hsl:∀ W:World,(Instr.sliceAt 77 (vP bx 1) none none none).run Tryz.prog W = .ok (.slice (some ⟨bx,1,none⟩) 32 32) W:=fun W=>by kernel_rfl
   have hst:(convert 22 9 (.slice (some ⟨bx,1,none⟩) 32 32)).run Tryz.prog w5 = .ok (vS key) w5:=by
    have h1:=uA (P:=Tryz.prog) (src:=22) (dst:=9) Tryz.underlying22 Tryz.underlying5 Tryz.underlying9 w5 (some ⟨bx,1,none⟩) 32 key (fun j v hj=>⟨bx,1,rfl,H5.out.2.2.lt,by
     rw [H5.out.2.2.cell,Nat.add_comm 1 j,BC.cells,List.getElem?_cons_succ,List.getElem?_append_left (by rw [← HKEY.out]; exact (List.getElem?_eq_some_iff.1 hj).1),← HKEY.out]
     exact hj⟩)
    rw [HKL.out] at h1
    exact h1
   have HL5:Hid ((gJ t i++aD (gA cnt)).length≤200010):=by
    show _≤_
    have h1:=HEL.out i
    have h2:=eJ (gA cnt) (by rw [HCN.out]; exact zH c.count HOK.out.count.1 HOK.out.count.2)
    rw [List.length_append]
    omega
   go_wp2_with fail
   refine (Po w.heap.size bw key (gJ t i++aD (gA cnt)) w5 H5.out.2.1 hz5 HKL.out (by have:=HL5.out; omega)).mono ?_
   rintro e w6 ⟨rfl,hb6,ha6,ho6⟩
   have H6:Hid (Fr [] w w6∧gV w6 w.heap.size bw (gJ t i++aD (gA cnt)++key)∧At w6 bx 79 c.cells):=⟨H5.out.1.zA hb6 (Nat.le_refl _) (by have:=HBW.out; simp; omega),ha6,ho6 bx _ _ H5.out.2.2 (by decide) hxw⟩
   clear hsl hst hb6 ha6 ho6 H5
   have hz6:=H6.out.1.size
   have c33:w6.cell? ⟨bx,33,none⟩=some (.int .u64 (chk:Int)):=by rw [H6.out.2.2.cell,uM HOK.out.keys,HCH.out]
   go_wp2_with fail
   refine (Ah w.heap.size bw chk (gJ t i++aD (gA cnt)++key) w6 H6.out.2.1 hz6 (by rw [HCH.out]; exact HOK.out.checks) (by have:=HL5.out; rw [List.length_append,HKL.out]; omega)).mono ?_
   rintro e w7 ⟨rfl,hb7,ha7,_⟩
   have H7:Hid (Fr [] w w7∧gV w7 w.heap.size bw (gJ t (i+1))):=⟨H6.out.1.zA hb7 (Nat.le_refl _) (by have:=HBW.out; simp; omega),by rw [HSU.out]; exact ha7⟩
   clear c33 hb7 ha7 H6
   go_wp2_with fail
   go_roundw
   case rel =>
    first
     | exact ⟨i+1,by omega,by go_num,H7⟩
     | ((repeat apply Exists.intro); exact ⟨⟨i+1,by omega,by go_num,H7⟩,rfl⟩)
   case measure=>simp [intOf] <;> omega
  ·obtain rfl:i=n:=om
   go_wp2_with fail
   refine (Pm w.heap.size bw (gJ t i) wr HR.out.2 (by have:=HEL.out i; omega)).mono ?_
   rintro e w8 ⟨v,rfl,ho8⟩
   have H8:=Lib.hid ho8
   obtain ⟨A8,c8,rfl⟩:=jT ho8.own
   clear ho8
   go_wp2_with fail
   go_ret
   refine ⟨_,rfl,?_,HR.out.1.trans H8.out.fr⟩
   have h1:=H8.out.own
   unfold BT.enc
   rw [← HN.out]
   exact tT h1 HR.out.1.size
section
variable {X : Option Addr × Nat}
def aY (X : Option Addr × Nat) (w : World) (br : Nat) (D : List UInt8) (off last : Nat) (err : Int) : Prop :=
 ∃ A c, X = (A, c) ∧ At w br 179 [.slice A D.length c, Value.int .i64 (off : Int), Value.int .i64 (last : Int), Value.int .i64 err] ∧ w.ownsRow 0 5 1 (.slice A D.length c) D.length (B8 D)
def Pr (X : Option Addr × Nat) (br : Nat) (D : List UInt8) (off last : Nat) (w : World) (e : Ending) (w' : World) : Prop :=
 Fr [br] w w' ∧ ∃ off', off' ≤ D.length ∧ aY X w' br D off' last 0 ∧
  match dI D off with
  | some (n, m) => e = .returned (.tuple #[.int .u64 (n : Int), Value.int .i64 0]) ∧ off' = m ∧ cG n
  | none => e = .returned (.tuple #[.int .u64 0, Value.int .i64 3])
theorem aY.fr {w w':World} {br:Nat} {D:List UInt8} {off last:Nat} {err:Int} (h:aY X w br D off last err) (hf:Fr [] w w'):aY X w' br D off last err:=by
 obtain ⟨A,c,hX,h1,h2⟩:=h
 exact ⟨A,c,hX,h1.fr hf si,dZ h2 hf si⟩
theorem uN (br:Nat) (D:List UInt8) (off last:Nat) (w wr:World) (A:Option Addr) (c:Nat) (v:Value) (k:Nat)
  (ha:At w br 179 [.slice A D.length c,vi (off:Int),vi (last:Int),vi 0]) (hrow:w.ownsRow 0 5 1 (.slice A D.length c) D.length (B8 D)) (hX:X=(A,c)) (hf:Fr [br] w wr)
  (hat:At wr br 179 [.slice A D.length c,v,vi (last:Int),vi 0]) (nq:Nat) :
  Fr [br] w ((wr.drewN nq).setCell ⟨br,1,none⟩ (vi ((off:Int)+(k:Int)+1)))∧At ((wr.drewN nq).setCell ⟨br,1,none⟩ (vi ((off:Int)+(k:Int)+1))) br 179 [.slice A D.length c,vI (off+k+1),vi (last:Int),vi 0]∧aY X ((wr.drewN nq).setCell ⟨br,1,none⟩ (vi ((off:Int)+(k:Int)+1))) br D (off+k+1) last 0:=by
 have h1:=(hf.drewN nq).setCell (p:=⟨br,1,none⟩) (.inl si) (Value.int .i64 ((off:Int)+(k:Int)+1))
 have e:(off:Int)+(k:Int)+1=((off+k+1:Nat):Int):=om
 have h2:=(hat.drewN nq).set 1 (Value.int .i64 ((off:Int)+(k:Int)+1))
 rw [e] at h1 h2 ⊢
 refine ⟨h1,h2,A,c,hX,h2,dZ hrow h1 ?_⟩
 intro g hg hm
 have:g=br:=by simpa using hm
 subst this
 exact kT hrow ha (by decide) hg
set_option maxHeartbeats 4000000 in
theorem Ho (br:Nat) (D:List UInt8) (off last:Nat) (w:World) (hr:aY X w br D off last 0) (ho:off≤D.length) (hD:D.length≤4294967296) :
  Calls Tryz.prog 110 #[vP br 0] w (Pr X br D off last w):=by
 obtain ⟨A,c,hX,ha,hrow⟩:=hr
 have HR:=Lib.hid (And.intro ha hrow)
 have HD:=Lib.hid hD
 clear ha hrow hD
 go_enter Tryz.func110,Tryz.ntmps110
 go_wp2_with fail
 go_loopw [2,6] (fun n i wr=>∃ k:Nat,k≤10∧i = .int .i64 k∧Fr [br] w wr∧At wr br 179 [.slice A D.length c,Value.int .i64 ((off+k:Nat):Int),Value.int .i64 (last:Int),Value.int .i64 0]∧off+k≤D.length ∧
  (∀ j b,j < k→D[off+j]?=some b→128≤b.toNat)∧∃ m:Nat,n = .int .u64 (m:Int)∧cG m∧(k≤9→m=fE (D.drop off) k)) (fun _ i _=>10 - (intOf i).toNat)
 case atStart=>exact ⟨0,by omega,rfl,Fr.refl _ _,HR.out.1,ho,by intro j b h; omega,0,rfl,by unfold cG; decide,fun _=>by simp [fE]⟩
 case round =>
  obtain ⟨k,hk,rfl,hfr,hat,hle,hpre,m,rfl,hm,hacc⟩:=hrel
  have HS:=Lib.hid (And.intro hfr (And.intro hat (And.intro hpre (And.intro hm hacc))))
  have c0:wr.cell? ⟨br,0,none⟩=some (.slice A D.length c):=by rw [hat.cell]; rfl
  have c1:wr.cell? ⟨br,1,none⟩=some (Value.int .i64 ((off+k:Nat):Int)):=by rw [hat.cell]; rfl
  have z1:wr.frozen? ⟨br,1,none⟩=false:=hat.frozen 1
  have hmI:(m:Int)≤18446744073709551615:=by unfold cG at hm; omega
  have hDI:(D.length:Int)≤4294967296:=by have:=HD.out; omega
  clear hfr hat hpre hm hacc
  by_cases hk10:k < 10
  ·by_cases hend:off+k=D.length
   ·have t1:(((off+k:Nat):Int) == (D.length:Int))=true:=by rw [hend]; simp
    have HE:=Lib.hid hend
    clear hend
    go_wp2_with fail
    go_quiet (fail)
    go_wp2_with fail
    go_ret2
    refine ⟨HS.out.1.drewN _,off+k,hle,⟨A,c,hX,HS.out.2.1.drewN _,?_⟩,?_⟩
    ·refine dZ HR.out.2 (HS.out.1.drewN _) ?_
     intro g hg hm
     have:g=br:=by simpa using hm
     subst this
     exact kT HR.out.2 HR.out.1 (by decide) hg
    ·rw [MX D off k HS.out.2.2.1 HE.out]
     rfl
   ·have hlt:off+k < D.length:=om
    have t1:(((off+k:Nat):Int) == (D.length:Int))=false:=by simp; omega
    obtain ⟨g,cap',rest,hv,_,_,hrat,hxl,_⟩:=FB HR.out.2 om
    simp only [Value.slice.injEq,true_and] at hv
    obtain ⟨rfl,rfl⟩:=hv
    have hx:=List.getElem?_eq_getElem hlt
    generalize D[off+k]=x at hx
    have hgb:g≠br:=fun e=>kT HR.out.2 HR.out.1 (by decide) (by rw [e]; rfl)
    have hcx:wr.cell? ⟨g,off+k,none⟩=some (.int .u8 (x.toNat:Int)):=by
     rw [(hrat.fr HS.out.1 (by simpa using hgb)).cell,List.getElem?_append_left (by rw [dW]; exact hlt)]
     exact rS D _ x hx
    have hxb:=UInt8.toNat_lt x
    have HX:=Lib.hid hx
    obtain ⟨m',he,hm'⟩:=NA m x k HS.out.2.2.2.1
    unfold BY at he
    have HM:=Lib.hid hm'
    clear hx hrat hend hm' hxl
    by_cases hx128:128≤x.toNat
    ·have a1:(128:Int)≤(x.toNat:Int):=om
     go_wp2_with fail
     go_quiet (fail)
     go_wp2_with fail
     go_quiet (fail)
     go_wp2_with fail
     go_roundw
     case rel =>
      obtain ⟨f1,f2,f3⟩:=uN br D off last w wr _ c _ k HR.out.1 HR.out.2 hX HS.out.1 HS.out.2.1 _
      refine ⟨k+1,by omega,by go_num,f1,f2,by omega,?_,m',rfl,HM.out.1,fun hk9=>?_⟩
      ·intro j b hj hb
       by_cases e:j=k
       ·subst e
        rw [HX.out] at hb
        injection hb with hb
        subst hb
        omega
       ·exact HS.out.2.2.1 j b om hb
      ·rw [qJ k _ x (by rw [List.getElem?_drop]; exact HX.out),← HS.out.2.2.2.2 om]
       refine HM.out.2 ?_ ?_
       ·rw [HS.out.2.2.2.2 om]; exact tY _ _
       ·have h1:128 ^ k≤128 ^ 8:=Nat.pow_le_pow_right om (by first | omega | (have:=HG.out; omega))
        have h2:=Nat.mod_lt x.toNat (show 128 > 0 by omega)
        have h3:x.toNat % 128*128 ^ k≤127*128 ^ 8:=Nat.mul_le_mul om h1
        have h4:127*128 ^ 8 < 18446744073709551616:=by decide
        omega
     case measure=>simp [intOf]; omega
    ·by_cases hbad:(0 < k∧x.toNat=0)∨(k=9∧1 < x.toNat)
     ·have HB:=Lib.hid hbad
      by_cases hx0:x.toNat=0
      ·have a1:((x.toNat:Int) == 0)=true:=by simp [hx0]
       have a2:(0:Int) < (k:Int):=om
       have a3:(x.toNat:Int) < 128:=om
       clear hbad
       go_wp2_with fail
       go_quiet (fail)
       go_wp2_with fail
       go_quiet (fail)
       go_wp2_with fail
       go_ret2
       obtain ⟨f1,f2,f3⟩:=uN br D off last w wr _ c _ k HR.out.1 HR.out.2 hX HS.out.1 HS.out.2.1 _
       refine ⟨f1,_,?_,f3,?_⟩
       ·omega
       rw [tZ D off k x HS.out.2.2.1 HX.out om]
       rw [if_neg (by have:=HB.out; omega)]
       rfl
      ·have a1:((x.toNat:Int) == 0)=false:=by simp; omega
       have a2:(0:Int) < (k:Int):=om
       have a3:(x.toNat:Int) < 128:=om
       have a4:((k:Int) == 9)=true:=by simp; omega
       have a5:(1:Int) < (x.toNat:Int):=om
       clear hbad
       go_wp2_with fail
       go_quiet (fail)
       go_wp2_with fail
       go_quiet (fail)
       go_wp2_with fail
       go_ret2
       obtain ⟨f1,f2,f3⟩:=uN br D off last w wr _ c _ k HR.out.1 HR.out.2 hX HS.out.1 HS.out.2.1 _
       refine ⟨f1,_,?_,f3,?_⟩
       ·omega
       rw [tZ D off k x HS.out.2.2.1 HX.out om]
       rw [if_neg (by have:=HB.out; omega)]
       rfl
     ·have HG0:=Lib.hid hbad
      by_cases hk0:k=0
      ·have a1:decide ((0:Int) < (k:Int))=false:=by simp; omega
       have a1n:decide (0 < k)=false:=by simp; omega
       have HG:=Lib.hid (And.intro HG0.out (And.intro hk0 hx128))
       have a3:(x.toNat:Int) < 128:=om
       have a4:((k:Int) == 9)=false:=by simp; omega
       clear hbad hk0 HG0
       go_wp2_with fail
       go_quiet (fail)
       go_wp2_with fail
       go_quiet (fail)
       go_wp2_with fail
       go_ret2
       obtain ⟨f1,f2,f3⟩:=uN br D off last w wr _ c _ k HR.out.1 HR.out.2 hX HS.out.1 HS.out.2.1 _
       refine ⟨f1,_,?_,f3,?_⟩
       ·omega
       rw [tZ D off k x HS.out.2.2.1 HX.out om]
       rw [if_pos (by have:=HG.out; omega)]
       have hv:m'=fE (D.drop off) (k+1):=by
        rw [qJ k _ x (by rw [List.getElem?_drop]; exact HX.out),← HS.out.2.2.2.2 om]
        refine HM.out.2 ?_ ?_
        ·rw [HS.out.2.2.2.2 om]; exact tY _ _
        ·have h1:128 ^ k≤128 ^ 8:=Nat.pow_le_pow_right om (by first | omega | (have:=HG.out; omega))
         have h2:=Nat.mod_lt x.toNat (show 128 > 0 by omega)
         have h3:x.toNat % 128*128 ^ k≤127*128 ^ 8:=Nat.mul_le_mul om h1
         have h4:127*128 ^ 8 < 18446744073709551616:=by decide
         omega
       rw [← hv]
       exact ⟨rfl,rfl,HM.out.1⟩
      ·by_cases hk9:k=9
       ·have a1:((x.toNat:Int) == 0)=false:=by simp; omega
        have a2:(0:Int) < (k:Int):=om
        have a3:(x.toNat:Int) < 128:=om
        have a4:((k:Int) == 9)=true:=by simp; omega
        have a5:¬ (1:Int) < (x.toNat:Int):=om
        have HK:=Lib.hid hk9
        have HG:=Lib.hid (And.intro HG0.out (And.intro hk9 hx128))
        clear hbad hk0 hk9
        go_wp2_with fail
        go_quiet (fail)
        go_wp2_with fail
        go_quiet (fail)
        go_wp2_with fail
        go_ret2
        obtain ⟨f1,f2,f3⟩:=uN br D off last w wr _ c _ k HR.out.1 HR.out.2 hX HS.out.1 HS.out.2.1 _
        refine ⟨f1,_,?_,f3,?_⟩
        ·omega
        rw [tZ D off k x HS.out.2.2.1 HX.out om]
        rw [if_pos (by have:=HG.out; omega)]
        have hv:m'=fE (D.drop off) (k+1):=by
         rw [qJ k _ x (by rw [List.getElem?_drop]; exact HX.out),← HS.out.2.2.2.2 om]
         refine HM.out.2 ?_ ?_
         ·rw [HS.out.2.2.2.2 om]; exact tY _ _
         ·have hk9:=HK.out
          subst hk9
          have h1:x.toNat % 128=1:=by have:=HG.out; omega
          rw [h1]
          decide
        rw [← hv]
        exact ⟨rfl,rfl,HM.out.1⟩
       ·have a1:((x.toNat:Int) == 0)=false:=by simp; omega
        have a2:(0:Int) < (k:Int):=om
        have a3:(x.toNat:Int) < 128:=om
        have a4:((k:Int) == 9)=false:=by simp; omega
        have HG:=Lib.hid (And.intro HG0.out (And.intro hk9 (And.intro hk0 hx128)))
        clear hbad hk9 hk0
        go_wp2_with fail
        go_quiet (fail)
        go_wp2_with fail
        go_quiet (fail)
        go_wp2_with fail
        go_ret2
        obtain ⟨f1,f2,f3⟩:=uN br D off last w wr _ c _ k HR.out.1 HR.out.2 hX HS.out.1 HS.out.2.1 _
        refine ⟨f1,_,?_,f3,?_⟩
        ·omega
        rw [tZ D off k x HS.out.2.2.1 HX.out om]
        rw [if_pos (by have:=HG.out; omega)]
        have hv:m'=fE (D.drop off) (k+1):=by
         rw [qJ k _ x (by rw [List.getElem?_drop]; exact HX.out),← HS.out.2.2.2.2 om]
         refine HM.out.2 ?_ ?_
         ·rw [HS.out.2.2.2.2 om]; exact tY _ _
         ·have h1:128 ^ k≤128 ^ 8:=Nat.pow_le_pow_right om (by first | omega | (have:=HG.out; omega))
          have h2:=Nat.mod_lt x.toNat (show 128 > 0 by omega)
          have h3:x.toNat % 128*128 ^ k≤127*128 ^ 8:=Nat.mul_le_mul om h1
          have h4:127*128 ^ 8 < 18446744073709551616:=by decide
          omega
        rw [← hv]
        exact ⟨rfl,rfl,HM.out.1⟩
  ·obtain rfl:k=10:=om
   go_wp2_with fail
   go_ret2
   refine ⟨HS.out.1,off+10,hle,⟨A,c,hX,HS.out.2.1,?_⟩,?_⟩
   ·refine dZ HR.out.2 HS.out.1 ?_
    intro g hg hm
    have:g=br:=by simpa using hm
    subst this
    exact kT HR.out.2 HR.out.1 (by decide) hg
   ·rw [MY D off HS.out.2.2.1 hle]
    rfl
end
section
variable {X : Option Addr × Nat}
structure Rd where
 D : List UInt8
 off : Nat
 last : Nat
 err : Int
structure Rd.Ok (r : Rd) : Prop where
 off : r.off ≤ r.D.length
 len : r.D.length ≤ 4294967296
def bB (X : Option Addr × Nat) (w : World) (br : Nat) (r : Rd) : Prop := aY X w br r.D r.off r.last r.err
def Rd.done (r : Rd) (m : Nat) : Rd := { r with off := m, last := r.off }
def Rd.fail (r : Rd) (e : Int) : Rd := { r with last := r.off, err := e }
def Rd.uint (r : Rd) : Nat × Rd := if r.err = 0 then (match dI r.D r.off with | some (n, m) => (n, r.done m) | none => (0, r.fail 3)) else (0, r)
theorem Pt (b0 b1 b2 br:Nat) (A:Option Addr) (n c:Nat) (off last start:Int) (w:World) (h0:At w b0 3 [vi start]) (h1:At w b1 148 [vP br 0]) (hr:At w br 179 [.slice A n c,vi off,vi last,vi 0]) :
  CallsD Tryz.prog 144 #[vP b0 0,vP b1 0,vP b2 0] .returning w fun e u' w'=>u' = .returning∧e = .returned (.tuple #[])∧w'=w.setCell ⟨br,2,none⟩ (vi start):=by
 have c0:w.cell? ⟨b0,0,none⟩=some (Value.int .i64 start):=by rw [h0.cell]; rfl
 have c1:w.cell? ⟨b1,0,none⟩=some (Value.pointer (some ⟨br,0,none⟩)):=by rw [h1.cell]; rfl
 have c2:w.cell? ⟨br,2,none⟩=some (Value.int .i64 last):=by rw [hr.cell]; rfl
 have c3:w.cell? ⟨br,3,none⟩=some (vi 0):=by rw [hr.cell]; rfl
 have z2:=hr.frozen 2
 have hne:b1≠br:=h1.ne hr (by decide)
 clear h0 h1 hr
 go_enter_d Tryz.func144,Tryz.ntmps144
 go_wp2_with fail
 go_end0
 exact ⟨rfl,rfl⟩
theorem Pu (b0 b1 b2 br:Nat) (A:Option Addr) (n c:Nat) (off last start err v:Int) (w:World) (h0:At w b0 3 [vi start]) (h1:At w b1 148 [vP br 0]) (h2:At w b2 40 [.int .u64 v]) (hr:At w br 179 [.slice A n c,vi off,vi last,vi err]) (he:err≠0) :
  CallsD Tryz.prog 144 #[vP b0 0,vP b1 0,vP b2 0] .returning w fun e u' w'=>u' = .returning∧e = .returned (.tuple #[])∧w'=((w.setCell ⟨br,2,none⟩ (vi start)).setCell ⟨br,1,none⟩ (vi start)).setCell ⟨b2,0,none⟩ (.int .u64 0):=by
 have c0:w.cell? ⟨b0,0,none⟩=some (Value.int .i64 start):=by rw [h0.cell]; rfl
 have c1:w.cell? ⟨b1,0,none⟩=some (Value.pointer (some ⟨br,0,none⟩)):=by rw [h1.cell]; rfl
 have cr1:w.cell? ⟨br,1,none⟩=some (Value.int .i64 off):=by rw [hr.cell]; rfl
 have c2:w.cell? ⟨br,2,none⟩=some (Value.int .i64 last):=by rw [hr.cell]; rfl
 have c3:w.cell? ⟨br,3,none⟩=some (Value.int .i64 err):=by rw [hr.cell]; rfl
 have c4:w.cell? ⟨b2,0,none⟩=some (.int .u64 v):=by rw [h2.cell]; rfl
 have z2:=hr.frozen 2
 have z1:=hr.frozen 1
 have z4:=h2.frozen 0
 have hne:b1≠br:=h1.ne hr (by decide)
 have hne2:b2≠br:=h2.ne hr (by decide)
 have hne0:b0≠br:=h0.ne hr (by decide)
 have heb:(err != 0)=true:=by simpa using he
 clear h0 h1 hr h2 he
 go_enter_d Tryz.func144,Tryz.ntmps144
 go_wp2_with fail
 go_end0
 exact ⟨rfl,rfl⟩
theorem CT (br:Nat) (D:List UInt8) (off last:Nat) (w:World) (hr:aY X w br D off last 0) (ho:off≤D.length) (hD:D.length≤4294967296) (n m:Nat) (h:dI D off=some (n,m)) :
  Calls Tryz.prog 110 #[vP br 0] w fun e w'=>e = .returned (.tuple #[.int .u64 (n:Int),vi 0])∧Fr [br] w w'∧aY X w' br D m last 0∧m≤D.length∧cG n:=by
 refine (Ho br D off last w hr ho hD).mono ?_
 rintro e w' ⟨hf,off',h1,h2,h3⟩
 rw [h] at h3
 obtain ⟨rfl,rfl,hu⟩:=h3
 exact ⟨rfl,hf,h2,h1,hu⟩
theorem Hp (br:Nat) (D:List UInt8) (off last:Nat) (w:World) (hr:aY X w br D off last 0) (ho:off≤D.length) (hD:D.length≤4294967296) (h:dI D off=none) :
  Calls Tryz.prog 110 #[vP br 0] w fun e w'=>e = .returned (.tuple #[.int .u64 0,vi 3])∧Fr [br] w w'∧∃ off',off'≤D.length∧aY X w' br D off' last 0:=by
 refine (Ho br D off last w hr ho hD).mono ?_
 rintro e w' ⟨hf,off',h1,h2,h3⟩
 rw [h] at h3
 exact ⟨h3,hf,off',h1,h2⟩
theorem aY.ne {w:World} {br b:Nat} {D:List UInt8} {off last:Nat} {err:Int} {t:TypeId} {l:List Value} (h:aY X w br D off last err) (ha:At w b t l) (hne:t≠179):b≠br:=by
 obtain ⟨A,c,hX,h1,_⟩:=h
 exact ha.ne h1 hne
theorem oM {W w1:World} {br B b2:Nat} {D:List UInt8} {off last off' last':Nat} {err:Int} {t2:TypeId} {v2:Value} (h0:At W B 148 [vP br 0]) (h1:At W b2 t2 [v2]) (hr:aY X W br D off last 0) (hf:Fr [br] W.drew w1) (hr1:aY X w1 br D off' last' err) (ht:t2≠179:=by decide) :
  w1.cell? ⟨B,0,none⟩=some (.pointer (some ⟨br,0,none⟩))∧w1.cell? ⟨b2,0,none⟩=some v2∧w1.frozen? ⟨b2,0,none⟩=false∧w1.cell? ⟨br,3,none⟩=some (vi err)∧w1.frozen? ⟨br,3,none⟩=false:=by
 have n0:=hr.ne h0 (by decide)
 have n1:=hr.ne h1 ht
 have k0:At w1 B 148 [vP br 0]:=(At.drew h0).fr hf (by simpa using n0)
 have k1:At w1 b2 t2 [v2]:=(At.drew h1).fr hf (by simpa using n1)
 obtain ⟨A,c,hX,h3,_⟩:=hr1
 exact ⟨by rw [k0.cell]; rfl,by rw [k1.cell]; rfl,k1.frozen 0,by rw [h3.cell]; rfl,h3.frozen 3⟩
theorem oN {W w1:World} {br B b2 b3:Nat} {D:List UInt8} {off last off' last':Nat} {start:Int} {t2:TypeId} {v2:Value} (h0:At W B 148 [vP br 0]) (h1:At W b2 t2 [v2]) (h3:At W b3 3 [vi start]) (hr:aY X W br D off last 0) (hf:Fr [br] W.drew w1) (hr1:aY X w1 br D off' last' 0)
  (v er:Value) (hb:b2≠br∧b2≠B∧b2≠b3∧b3≠br) (ht8:t2≠5) :
  At (((w1.setCell ⟨b2,0,none⟩ v).setCell ⟨br,3,none⟩ er).setCell ⟨b2,0,none⟩ v) B 148 [vP br 0]∧At (((w1.setCell ⟨b2,0,none⟩ v).setCell ⟨br,3,none⟩ er).setCell ⟨b2,0,none⟩ v) b2 t2 [v]∧At (((w1.setCell ⟨b2,0,none⟩ v).setCell ⟨br,3,none⟩ er).setCell ⟨b2,0,none⟩ v) b3 3 [vi start] ∧
  (∃ A c,X=(A,c)∧At (((w1.setCell ⟨b2,0,none⟩ v).setCell ⟨br,3,none⟩ er).setCell ⟨b2,0,none⟩ v) br 179 [.slice A D.length c,vi (off':Int),vi (last':Int),er]∧(((w1.setCell ⟨b2,0,none⟩ v).setCell ⟨br,3,none⟩ er).setCell ⟨b2,0,none⟩ v).ownsRow 0 5 1 (.slice A D.length c) D.length (B8 D)) ∧
  Fr [br,b2] W (((w1.setCell ⟨b2,0,none⟩ v).setCell ⟨br,3,none⟩ er).setCell ⟨b2,0,none⟩ v):=by
 obtain ⟨hb1,hb2,hb3,hb4⟩:=hb
 have n0:=hr.ne h0 (by decide)
 have n1:b2≠br:=hb1
 have k0:At w1 B 148 [vP br 0]:=(At.drew h0).fr hf (by simpa using n0)
 have k1:At w1 b2 t2 [v2]:=(At.drew h1).fr hf (by simpa using n1)
 have k3:At w1 b3 3 [vi start]:=(At.drew h3).fr hf (by simpa using hb4)
 obtain ⟨A,c,hX,hra,hrow⟩:=hr1
 have f1:Fr [br,b2] W (((w1.setCell ⟨b2,0,none⟩ v).setCell ⟨br,3,none⟩ er).setCell ⟨b2,0,none⟩ v):=by
  have:Fr [br] W w1:=⟨hf.os,hf.tape,hf.output,hf.size,hf.block⟩
  exact (((this.mono (S':=[br,b2]) si).setCell (.inl si) _).setCell (.inl si) _).setCell (.inl si) _
 refine ⟨((k0.far (by simpa using hb2.symm) _).far (by simpa using n0) _).far (by simpa using hb2.symm) _,?_,((k3.far (by simpa using hb3.symm) _).far (by simpa using hb4) _).far (by simpa using hb3.symm) _,⟨A,c,hX,?_,?_⟩,f1⟩
 ·exact ((k1.set 0 v).far (by simpa using n1) _).set 0 v
 ·exact ((hra.far (by simpa using n1.symm) _).set 3 er).far (by simpa using n1.symm) _
 ·have f2:Fr [br,b2] w1 (((w1.setCell ⟨b2,0,none⟩ v).setCell ⟨br,3,none⟩ er).setCell ⟨b2,0,none⟩ v):=((((Fr.refl _ _).setCell (.inl si) _).setCell (.inl si) _).setCell (.inl si) _)
  refine dZ hrow f2 ?_
  intro g hg hm
  simp only [List.mem_cons,List.not_mem_nil,or_false] at hm
  rcases hm with rfl | rfl
  ·exact kT hrow hra (by decide) hg
  ·exact kT hrow k1 (Ne.symm ht8) hg
theorem xD {W w5:World} {w:World} {br:Nat} {D:List UInt8} {off m last:Nat} {b2:Nat} {t2:TypeId} {v:Value} {A:Option Addr} {c:Nat} (hW:Fr [] w W) (hf:Fr [br,b2] W w5) (hb2:w.heap.size≤b2) (h2:At w5 b2 t2 [v]) (ht:t2≠179)
  (hr:At w5 br 179 [.slice A D.length c,vi (m:Int),vi (last:Int),vi 0]) (hrow:w5.ownsRow 0 5 1 (.slice A D.length c) D.length (B8 D)) (hX:X=(A,c)) :
  (w5.setCell ⟨br,2,none⟩ (vi (off:Int))).cell? ⟨b2,0,none⟩=some v∧Fr [br] w (w5.setCell ⟨br,2,none⟩ (vi (off:Int)))∧aY X (w5.setCell ⟨br,2,none⟩ (vi (off:Int))) br D m off 0:=by
 have hne:=h2.ne hr ht
 refine ⟨by rw [(h2.far (by simpa using hne) _).cell]; rfl,?_,A,c,hX,hr.set 2 _,?_⟩
 ·refine ((hW.mono (S':=[br]) si).trans' hf ?_).setCell (.inl si) _
  intro x hx
  simp only [List.mem_cons,List.not_mem_nil,or_false] at hx
  rcases hx with rfl | rfl
  ·exact .inl si
  ·exact .inr hb2
 ·refine dZ (S:=[br]) hrow ((Fr.refl _ _).setCell (.inl si) _) ?_
  intro g hg hm
  have:g=br:=by simpa using hm
  subst this
  exact kT hrow hr (by decide) hg
theorem xE {W w5:World} {w:World} {br:Nat} {D:List UInt8} {off m last:Nat} {b2:Nat} {t2:TypeId} {v z:Value} {er:Int} {A:Option Addr} {c:Nat} (hW:Fr [] w W) (hf:Fr [br,b2] W w5) (hb2:w.heap.size≤b2) (h2:At w5 b2 t2 [v]) (ht:t2≠179) (ht8:t2≠5)
  (hr:At w5 br 179 [.slice A D.length c,vi (m:Int),vi (last:Int),vi er]) (hrow:w5.ownsRow 0 5 1 (.slice A D.length c) D.length (B8 D)) (hX:X=(A,c)) :
  (((w5.setCell ⟨br,2,none⟩ (vi (off:Int))).setCell ⟨br,1,none⟩ (vi (off:Int))).setCell ⟨b2,0,none⟩ z).cell? ⟨b2,0,none⟩=some z∧Fr [br] w (((w5.setCell ⟨br,2,none⟩ (vi (off:Int))).setCell ⟨br,1,none⟩ (vi (off:Int))).setCell ⟨b2,0,none⟩ z)∧aY X (((w5.setCell ⟨br,2,none⟩ (vi (off:Int))).setCell ⟨br,1,none⟩ (vi (off:Int))).setCell ⟨b2,0,none⟩ z) br D off off er:=by
 have hne:=h2.ne hr ht
 refine ⟨by rw [(((h2.far (by simpa using hne) _).far (by simpa using hne) _).set 0 z).cell]; rfl,?_,A,c,hX,(((hr.set 2 _).set 1 _).far (by simpa using hne.symm) _),?_⟩
 ·refine ((((hW.mono (S':=[br]) si).trans' hf ?_).setCell (.inl si) _).setCell (.inl si) _).setCell (.inr hb2) _
  intro x hx
  simp only [List.mem_cons,List.not_mem_nil,or_false] at hx
  rcases hx with rfl | rfl
  ·exact .inl si
  ·exact .inr hb2
 ·refine dZ (S:=[br,b2]) hrow ((((Fr.refl _ _).setCell (.inl si) _).setCell (.inl si) _).setCell (.inl si) _) ?_
  intro g hg hm
  simp only [List.mem_cons,List.not_mem_nil,or_false] at hm
  rcases hm with rfl | rfl
  ·exact kT hrow hr (by decide) hg
  ·exact kT hrow h2 (Ne.symm ht8) hg
set_option maxHeartbeats 4000000 in
theorem Pv (br:Nat) (r:Rd) (w:World) (hr:bB X w br r) (hk:r.Ok) (h0:r.err=0) :
  Calls Tryz.prog 109 #[vP br 0,.func (.func 110) #[vP br 0] #[]] w fun e w'=>e = .returned (.int .u64 (r.uint.1:Int))∧Fr [br] w w'∧bB X w' br r.uint.2:=by
 obtain ⟨D,off,last,err⟩:=r
 simp only at h0
 subst h0
 obtain ⟨A,c,hX,ha,hrow⟩:=hr
 have c1:w.cell? ⟨br,1,none⟩=some (Value.int .i64 (off:Int)):=by rw [ha.cell]; rfl
 have c3:w.cell? ⟨br,3,none⟩=some (vi 0):=by rw [ha.cell]; rfl
 have hlt:=ha.lt
 have HR:=Lib.hid (And.intro ha hrow)
 have HK:=Lib.hid hk
 clear ha hrow hk
 have hmf:∀ (fn:Fn) (first cap:Array Value) (w:World),(Instr.makeFunc fn first cap).run Tryz.prog w = .ok (.func fn first cap) w:=fun _ _ _ _=>rfl
 go_enter_defers Tryz.func109,Tryz.ntmps109
 go_wp2_with fail
 obtain ⟨W,hW⟩:∃ W,W=((w.alloc (Obj.cells #[vP br 0] 148)).alloc (Obj.cells #[Value.int IntKind.u64 0] 40)).alloc (Obj.cells #[vi (off:Int)] 3):=⟨_,rfl⟩
 rw [← hW]
 have HW:Hid (At W w.heap.size 148 [vP br 0]∧At W (w.heap.size+1) 40 [.int .u64 0]∧At W (w.heap.size+1+1) 3 [vi (off:Int)]∧Fr [] w W∧aY X W br D off last 0):=by
  rw [hW]
  refine ⟨((At.new w 148 [vP br 0]).alloc _).alloc _,?_,?_,(((Fr.refl _ _).alloc _).alloc _).alloc _,A,c,hX,((HR.out.1.alloc _).alloc _).alloc _,((HR.out.2.alloc _).alloc _).alloc _⟩
  ·have:=(At.new (w.alloc (Obj.cells #[vP br 0] 148)) 40 [.int .u64 0]).alloc (Obj.cells #[vi (off:Int)] 3)
   simpa using this
  ·have:=At.new ((w.alloc (Obj.cells #[vP br 0] 148)).alloc (Obj.cells #[Value.int IntKind.u64 0] 40)) 3 [vi (off:Int)]
   simpa using this
 clear hW c1 c3
 have d0:W.cell? ⟨w.heap.size,0,none⟩=some (Value.pointer (some ⟨br,0,none⟩)):=by rw [HW.out.1.cell]; rfl
 have nb1:w.heap.size≠br:=om
 have nb2:br≠w.heap.size:=om
 cases hrd:dI D off with
 | some p =>
   obtain ⟨n,m⟩:=p
   have HD:=Lib.hid hrd
   clear hrd
   go_region_held3 (fun w'=>w'.cell? ⟨w.heap.size,0,none⟩=some (Value.pointer (some ⟨br,0,none⟩))) (go_keep) (first | (go_at_call 110; refine (CT br D off last _ (by exact HW.out.2.2.2.2) HK.out.off HK.out.len n m HD.out).mono ?_; rintro e w1 ⟨rfl,hf1,hr1,hm1,hu1⟩; obtain ⟨e0,e1,z1,e3,z3⟩:=oM (W:=W) HW.out.1 HW.out.2.1 HW.out.2.2.2.2 hf1 hr1; have H1:=Lib.hid (And.intro hf1 (And.intro hr1 (And.intro hm1 hu1))); clear hf1 hr1 hm1 hu1))
   go_wp2_with fail
   obtain ⟨k0,k1,k2,k3,kf⟩:=oN HW.out.1 HW.out.2.1 HW.out.2.2.1 HW.out.2.2.2.2 H1.out.1 H1.out.2.1 (.int .u64 (n:Int)) (vi 0) om (by decide)
   refine leaves_cons (f:=144) (args:=#[Value.pointer (some ⟨w.heap.size+1+1,0,none⟩),Value.pointer (some ⟨w.heap.size,0,none⟩),Value.pointer (some ⟨w.heap.size+1,0,none⟩)]) si (by simp [go_sem]) ?_
   obtain ⟨A',c',hX',k3'⟩:=k3
   refine (Pt _ _ _ br A' _ c' _ _ _ _ k2 k0 k3'.1).mono ?_
   rintro e u' w'' ⟨rfl,rfl,rfl⟩
   obtain ⟨g1,g2,g3⟩:=xD (off:=off) HW.out.2.2.2.1 kf om k1 (by decide) k3'.1 k3'.2 hX'
   refine ⟨.int .u64 (n:Int),by simp [results,Tryz.results109,go_sem,g1],?_,g2,?_⟩
   ·simp only [Rd.uint,if_true,HD.out]
   ·simp only [Rd.uint,if_true,HD.out]
    exact g3
 | none =>
   have HD:=Lib.hid hrd
   clear hrd
   go_region_held3 (fun w'=>w'.cell? ⟨w.heap.size,0,none⟩=some (Value.pointer (some ⟨br,0,none⟩))) (go_keep) (first | (go_at_call 110; refine (Hp br D off last _ (by exact HW.out.2.2.2.2) HK.out.off HK.out.len HD.out).mono ?_; rintro e w1 ⟨rfl,hf1,off',hm1,hr1⟩; obtain ⟨e0,e1,z1,e3,z3⟩:=oM (W:=W) HW.out.1 HW.out.2.1 HW.out.2.2.2.2 hf1 hr1; have H1:=Lib.hid (And.intro hf1 (And.intro hr1 hm1)); clear hf1 hr1 hm1))
   go_wp2_with fail
   obtain ⟨k0,k1,k2,k3,kf⟩:=oN HW.out.1 HW.out.2.1 HW.out.2.2.1 HW.out.2.2.2.2 H1.out.1 H1.out.2.1 (.int .u64 0) (Value.int .i64 3) om (by decide)
   refine leaves_cons (f:=144) (args:=#[Value.pointer (some ⟨w.heap.size+1+1,0,none⟩),Value.pointer (some ⟨w.heap.size,0,none⟩),Value.pointer (some ⟨w.heap.size+1,0,none⟩)]) si (by simp [go_sem]) ?_
   obtain ⟨A',c',hX',k3'⟩:=k3
   refine (Pu _ _ _ br A' _ c' _ _ _ 3 0 _ k2 k0 k1 k3'.1 (by decide)).mono ?_
   rintro e u' w'' ⟨rfl,rfl,rfl⟩
   obtain ⟨g1,g2,g3⟩:=xE (off:=off) (z:=.int .u64 0) HW.out.2.2.2.1 kf om k1 (by decide) (by decide) k3'.1 k3'.2 hX'
   refine ⟨.int .u64 0,by simp [results,Tryz.results109,go_sem,g1],?_,g2,?_⟩
   ·simp only [Rd.uint,if_true,HD.out]
    rfl
   ·simp only [Rd.uint,if_true,HD.out]
    exact g3
theorem Pw (br:Nat) (r:Rd) (fv:Value) (w:World) (hr:bB X w br r) (h0:r.err≠0) :
  Calls Tryz.prog 109 #[vP br 0,fv] w fun e w'=>e = .returned (.int .u64 0)∧Fr [] w w'∧bB X w' br r:=by
 have hr0:=hr
 obtain ⟨A,c,hX,ha,hrow⟩:=hr
 have c3:w.cell? ⟨br,3,none⟩=some (Value.int .i64 r.err):=by rw [ha.cell]; rfl
 have hb:(r.err != 0)=true:=by simpa using h0
 have hlt:=ha.lt
 have HR:=Lib.hid hr0
 clear ha hrow hr0 h0
 go_enter_defers Tryz.func109,Tryz.ntmps109
 go_wp2_with fail
 have hf:Fr [] w ((w.alloc (Obj.cells #[vP br 0] 148)).alloc (Obj.cells #[Value.int IntKind.u64 0] 40)):=((Fr.refl _ _).alloc _).alloc _
 exact ⟨.int .u64 0,by simp [results,Tryz.results109,go_sem],rfl,hf,aY.fr HR.out hf⟩
end
section
variable {X : Option Addr × Nat}
theorem Px (b0 b1 b2 br:Nat) (A:Option Addr) (n c:Nat) (off last start:Int) (w:World) (h0:At w b0 3 [vi start]) (h1:At w b1 148 [vP br 0]) (hr:At w br 179 [.slice A n c,vi off,vi last,vi 0]) :
  CallsD Tryz.prog 155 #[vP b0 0,vP b1 0,vP b2 0] .returning w fun e u' w'=>u' = .returning∧e = .returned (.tuple #[])∧w'=w.setCell ⟨br,2,none⟩ (vi start):=by
 have c0:w.cell? ⟨b0,0,none⟩=some (Value.int .i64 start):=by rw [h0.cell]; rfl
 have c1:w.cell? ⟨b1,0,none⟩=some (Value.pointer (some ⟨br,0,none⟩)):=by rw [h1.cell]; rfl
 have c2:w.cell? ⟨br,2,none⟩=some (Value.int .i64 last):=by rw [hr.cell]; rfl
 have c3:w.cell? ⟨br,3,none⟩=some (vi 0):=by rw [hr.cell]; rfl
 have z2:=hr.frozen 2
 have hne:b1≠br:=h1.ne hr (by decide)
 clear h0 h1 hr
 go_enter_d Tryz.func155,Tryz.ntmps155
 go_wp2_with fail
 go_end0
 exact ⟨rfl,rfl⟩
theorem Py (b0 b1 b2 br:Nat) (A:Option Addr) (n c:Nat) (off last start err:Int) (v:Value) (w:World) (h0:At w b0 3 [vi start]) (h1:At w b1 148 [vP br 0]) (h2:At w b2 3 [v]) (hr:At w br 179 [.slice A n c,vi off,vi last,vi err]) (he:err≠0) (hb:b2≠b0∧b2≠br) :
  CallsD Tryz.prog 155 #[vP b0 0,vP b1 0,vP b2 0] .returning w fun e u' w'=>u' = .returning∧e = .returned (.tuple #[])∧w'=((w.setCell ⟨br,2,none⟩ (vi start)).setCell ⟨br,1,none⟩ (vi start)).setCell ⟨b2,0,none⟩ (vi 0):=by
 have c0:w.cell? ⟨b0,0,none⟩=some (Value.int .i64 start):=by rw [h0.cell]; rfl
 have c1:w.cell? ⟨b1,0,none⟩=some (Value.pointer (some ⟨br,0,none⟩)):=by rw [h1.cell]; rfl
 have cr1:w.cell? ⟨br,1,none⟩=some (Value.int .i64 off):=by rw [hr.cell]; rfl
 have c2:w.cell? ⟨br,2,none⟩=some (Value.int .i64 last):=by rw [hr.cell]; rfl
 have c3:w.cell? ⟨br,3,none⟩=some (Value.int .i64 err):=by rw [hr.cell]; rfl
 have c4:w.cell? ⟨b2,0,none⟩=some v:=by rw [h2.cell]; rfl
 have z2:=hr.frozen 2
 have z1:=hr.frozen 1
 have z4:=h2.frozen 0
 have hne:b1≠br:=h1.ne hr (by decide)
 have hne2:b2≠br:=hb.2
 have hne0:b0≠br:=h0.ne hr (by decide)
 have heb:(err != 0)=true:=by simpa using he
 clear h0 h1 hr h2 he hb
 go_enter_d Tryz.func155,Tryz.ntmps155
 go_wp2_with fail
 go_end0
 exact ⟨rfl,rfl⟩
set_option maxHeartbeats 4000000 in
theorem Pz (br:Nat) (D:List UInt8) (off last m:Nat) (x:Int) (bx by_:Nat) (w:World) (hr:aY X w br D off last 0)
  (hdec:∀ W,Fr [] w W→aY X W br D off last 0→Calls Tryz.prog 129 #[vP bx 0,vP by_ 0] W fun e w'=>e = .returned (.tuple #[vi x,vi 0])∧Fr [br] W w'∧aY X w' br D m last 0) :
  Calls Tryz.prog 128 #[vP br 0,.func (.func 129) #[] #[vP bx 0,vP by_ 0]] w fun e w'=>e = .returned (vi x)∧Fr [br] w w'∧aY X w' br D m off 0:=by
 obtain ⟨A,c,hX,ha,hrow⟩:=hr
 have c1:w.cell? ⟨br,1,none⟩=some (Value.int .i64 (off:Int)):=by rw [ha.cell]; rfl
 have c3:w.cell? ⟨br,3,none⟩=some (vi 0):=by rw [ha.cell]; rfl
 have hlt:=ha.lt
 have HR:=Lib.hid (And.intro ha hrow)
 have HD:=Lib.hid hdec
 clear ha hrow hdec
 have hmf:∀ (fn:Fn) (first cap:Array Value) (w:World),(Instr.makeFunc fn first cap).run Tryz.prog w = .ok (.func fn first cap) w:=fun _ _ _ _=>rfl
 go_enter_defers Tryz.func128,Tryz.ntmps128
 go_wp2_with fail
 obtain ⟨W,hW⟩:∃ W,W=((w.alloc (Obj.cells #[vP br 0] 148)).alloc (Obj.cells #[vi 0] 3)).alloc (Obj.cells #[vi (off:Int)] 3):=⟨_,rfl⟩
 rw [← hW]
 have HW:Hid (At W w.heap.size 148 [vP br 0]∧At W (w.heap.size+1) 3 [vi 0]∧At W (w.heap.size+1+1) 3 [vi (off:Int)]∧Fr [] w W∧aY X W br D off last 0):=by
  rw [hW]
  refine ⟨((At.new w 148 [vP br 0]).alloc _).alloc _,?_,?_,(((Fr.refl _ _).alloc _).alloc _).alloc _,A,c,hX,((HR.out.1.alloc _).alloc _).alloc _,((HR.out.2.alloc _).alloc _).alloc _⟩
  ·have:=(At.new (w.alloc (Obj.cells #[vP br 0] 148)) 3 [vi 0]).alloc (Obj.cells #[vi (off:Int)] 3)
   simpa using this
  ·have:=At.new ((w.alloc (Obj.cells #[vP br 0] 148)).alloc (Obj.cells #[vi 0] 3)) 3 [vi (off:Int)]
   simpa using this
 clear hW c1 c3
 have d0:W.cell? ⟨w.heap.size,0,none⟩=some (Value.pointer (some ⟨br,0,none⟩)):=by rw [HW.out.1.cell]; rfl
 have nb1:w.heap.size≠br:=om
 have nb2:br≠w.heap.size:=om
 go_region_held3 (fun w'=>w'.cell? ⟨w.heap.size,0,none⟩=some (Value.pointer (some ⟨br,0,none⟩))) (go_keep) (first | (go_at_call 129; refine (HD.out W.drew (by exact HW.out.2.2.2.1.drew) (by exact HW.out.2.2.2.2)).mono ?_; rintro e w1 ⟨rfl,hf1,hr1⟩; obtain ⟨e0,e1,z1,e3,z3⟩:=oM (W:=W) HW.out.1 HW.out.2.1 HW.out.2.2.2.2 hf1 hr1; have H1:=Lib.hid (And.intro hf1 hr1); clear hf1 hr1))
 go_wp2_with fail
 obtain ⟨k0,k1,k2,k3,kf⟩:=oN HW.out.1 HW.out.2.1 HW.out.2.2.1 HW.out.2.2.2.2 H1.out.1 H1.out.2 (Value.int .i64 x) (vi 0) om (by decide)
 refine leaves_cons (f:=155) (args:=#[Value.pointer (some ⟨w.heap.size+1+1,0,none⟩),Value.pointer (some ⟨w.heap.size,0,none⟩),Value.pointer (some ⟨w.heap.size+1,0,none⟩)]) si (by simp [go_sem]) ?_
 obtain ⟨A',c',hX',k3'⟩:=k3
 refine (Px _ _ _ br A' _ c' _ _ _ _ k2 k0 k3'.1).mono ?_
 rintro e u' w'' ⟨rfl,rfl,rfl⟩
 obtain ⟨g1,g2,g3⟩:=xD (off:=off) HW.out.2.2.2.1 kf om k1 (by decide) k3'.1 k3'.2 hX'
 exact ⟨Value.int .i64 x,by simp [results,Tryz.results128,go_sem,g1],rfl,g2,g3⟩
set_option maxHeartbeats 4000000 in
theorem Hq (br:Nat) (D:List UInt8) (off last:Nat) (er x:Int) (bx by_:Nat) (w:World) (hr:aY X w br D off last 0) (he:er≠0)
  (hdec:∀ W,Fr [] w W→aY X W br D off last 0→Calls Tryz.prog 129 #[vP bx 0,vP by_ 0] W fun e w'=>e = .returned (.tuple #[vi x,vi er])∧Fr [br] W w'∧∃ off':Nat,aY X w' br D off' last 0) :
  Calls Tryz.prog 128 #[vP br 0,.func (.func 129) #[] #[vP bx 0,vP by_ 0]] w fun e w'=>e = .returned (vi 0)∧Fr [br] w w'∧aY X w' br D off off er:=by
 have HE:=Lib.hid he
 clear he
 obtain ⟨A,c,hX,ha,hrow⟩:=hr
 have c1:w.cell? ⟨br,1,none⟩=some (Value.int .i64 (off:Int)):=by rw [ha.cell]; rfl
 have c3:w.cell? ⟨br,3,none⟩=some (vi 0):=by rw [ha.cell]; rfl
 have hlt:=ha.lt
 have HR:=Lib.hid (And.intro ha hrow)
 have HD:=Lib.hid hdec
 clear ha hrow hdec
 have hmf:∀ (fn:Fn) (first cap:Array Value) (w:World),(Instr.makeFunc fn first cap).run Tryz.prog w = .ok (.func fn first cap) w:=fun _ _ _ _=>rfl
 go_enter_defers Tryz.func128,Tryz.ntmps128
 go_wp2_with fail
 obtain ⟨W,hW⟩:∃ W,W=((w.alloc (Obj.cells #[vP br 0] 148)).alloc (Obj.cells #[vi 0] 3)).alloc (Obj.cells #[vi (off:Int)] 3):=⟨_,rfl⟩
 rw [← hW]
 have HW:Hid (At W w.heap.size 148 [vP br 0]∧At W (w.heap.size+1) 3 [vi 0]∧At W (w.heap.size+1+1) 3 [vi (off:Int)]∧Fr [] w W∧aY X W br D off last 0):=by
  rw [hW]
  refine ⟨((At.new w 148 [vP br 0]).alloc _).alloc _,?_,?_,(((Fr.refl _ _).alloc _).alloc _).alloc _,A,c,hX,((HR.out.1.alloc _).alloc _).alloc _,((HR.out.2.alloc _).alloc _).alloc _⟩
  ·have:=(At.new (w.alloc (Obj.cells #[vP br 0] 148)) 3 [vi 0]).alloc (Obj.cells #[vi (off:Int)] 3)
   simpa using this
  ·have:=At.new ((w.alloc (Obj.cells #[vP br 0] 148)).alloc (Obj.cells #[vi 0] 3)) 3 [vi (off:Int)]
   simpa using this
 clear hW c1 c3
 have d0:W.cell? ⟨w.heap.size,0,none⟩=some (Value.pointer (some ⟨br,0,none⟩)):=by rw [HW.out.1.cell]; rfl
 have nb1:w.heap.size≠br:=om
 have nb2:br≠w.heap.size:=om
 go_region_held3 (fun w'=>w'.cell? ⟨w.heap.size,0,none⟩=some (Value.pointer (some ⟨br,0,none⟩))) (go_keep) (first | (go_at_call 129; refine (HD.out W.drew (by exact HW.out.2.2.2.1.drew) (by exact HW.out.2.2.2.2)).mono ?_; rintro e w1 ⟨rfl,hf1,off',hr1⟩; obtain ⟨e0,e1,z1,e3,z3⟩:=oM (W:=W) HW.out.1 HW.out.2.1 HW.out.2.2.2.2 hf1 hr1; have H1:=Lib.hid (And.intro hf1 hr1); clear hf1 hr1))
 go_wp2_with fail
 obtain ⟨k0,k1,k2,k3,kf⟩:=oN HW.out.1 HW.out.2.1 HW.out.2.2.1 HW.out.2.2.2.2 H1.out.1 H1.out.2 (Value.int .i64 x) (Value.int .i64 er) om (by decide)
 refine leaves_cons (f:=155) (args:=#[Value.pointer (some ⟨w.heap.size+1+1,0,none⟩),Value.pointer (some ⟨w.heap.size,0,none⟩),Value.pointer (some ⟨w.heap.size+1,0,none⟩)]) si (by simp [go_sem]) ?_
 obtain ⟨A',c',hX',k3'⟩:=k3
 refine (Py _ _ _ br A' _ c' _ _ _ er (Value.int .i64 x) _ k2 k0 k1 k3'.1 HE.out om).mono ?_
 rintro e u' w'' ⟨rfl,rfl,rfl⟩
 obtain ⟨g1,g2,g3⟩:=xE (off:=off) (z:=Value.int .i64 0) HW.out.2.2.2.1 kf om k1 (by decide) (by decide) k3'.1 k3'.2 hX'
 exact ⟨Value.int .i64 0,by simp [results,Tryz.results128,go_sem,g1],rfl,g2,g3⟩
theorem PA (br:Nat) (r:Rd) (fv:Value) (w:World) (hr:bB X w br r) (h0:r.err≠0) :
  Calls Tryz.prog 128 #[vP br 0,fv] w fun e w'=>e = .returned (vi 0)∧Fr [] w w'∧bB X w' br r:=by
 have hr0:=hr
 obtain ⟨A,c,hX,ha,hrow⟩:=hr
 have c3:w.cell? ⟨br,3,none⟩=some (Value.int .i64 r.err):=by rw [ha.cell]; rfl
 have hb:(r.err != 0)=true:=by simpa using h0
 have hlt:=ha.lt
 have HR:=Lib.hid hr0
 clear ha hrow hr0 h0
 go_enter_defers Tryz.func128,Tryz.ntmps128
 go_wp2_with fail
 have hf:Fr [] w ((w.alloc (Obj.cells #[vP br 0] 148)).alloc (Obj.cells #[vi 0] 3)):=((Fr.refl _ _).alloc _).alloc _
 exact ⟨Value.int .i64 0,by simp [results,Tryz.results128,go_sem],rfl,hf,aY.fr HR.out hf⟩
variable {X : Option Addr × Nat}
theorem Rd.Ok.uint {r:Rd} (h:r.Ok) (hn:∀ n m,dI r.D r.off=some (n,m)→m≤r.D.length):r.uint.2.Ok:=by
 unfold Rd.uint
 split
 ·cases hd:dI r.D r.off with
  | none=>exact ⟨h.off,h.len⟩
  | some p=>exact ⟨hn p.1 p.2 hd,h.len⟩
 ·exact h
theorem uO (D:List UInt8) (off n m:Nat) (h:dI D off=some (n,m)):off < m∧m≤D.length∧cG n:=by
 unfold dI at h
 split at h
 ·cases h
 ·rename_i b hb
  split at h
  ·rename_i hc
   simp only [Option.some.injEq,Prod.mk.injEq] at h
   obtain ⟨rfl,rfl⟩:=h
   have hl:=(List.getElem?_eq_some_iff.1 hb).1
   rw [List.length_drop] at hl
   refine ⟨om,om,?_⟩
   unfold cG
   rw [qJ _ _ b hb]
   have h1:=tY (ahead (D.drop off)) (D.drop off)
   by_cases h9:ahead (D.drop off)=9
   ·have hb1:b.toNat≤1:=om
    rw [h9] at h1 ⊢
    have h2:b.toNat % 128≤1:=om
    have h3:b.toNat % 128*128 ^ 9≤1*128 ^ 9:=Nat.mul_le_mul_right _ h2
    have h4:128 ^ 9+1*128 ^ 9≤18446744073709551616:=by decide
    omega
   ·have h2:b.toNat % 128≤127:=om
    have h3:b.toNat % 128*128 ^ (ahead (D.drop off))≤127*128 ^ (ahead (D.drop off)):=Nat.mul_le_mul_right _ h2
    have h4:128 ^ (ahead (D.drop off))≤128 ^ 8:=Nat.pow_le_pow_right om om
    have h5:128*128 ^ 8 < 18446744073709551616:=by decide
    omega
  ·cases h
theorem qS (br:Nat) (r:Rd) (w:World) (hr:bB X w br r) (hk:r.Ok) :
  Calls Tryz.prog 80 #[vP br 0] w fun e w'=>e = .returned (.int .u64 (r.uint.1:Int))∧Fr [br] w w'∧bB X w' br r.uint.2:=by
 have hmf:∀ (fn:Fn) (first cap:Array Value) (w:World),(Instr.makeFunc fn first cap).run Tryz.prog w = .ok (.func fn first cap) w:=fun _ _ _ _=>rfl
 have H:=Lib.hid (And.intro hr hk)
 clear hr hk
 by_cases h0:r.err=0
 ·have H0:=Lib.hid h0
  clear h0
  go_enter Tryz.func80,Tryz.ntmps80
  go_wp2_with fail
  refine (Pv br r _ H.out.1 H.out.2 H0.out).mono ?_
  rintro e w1 ⟨rfl,hf,hr1⟩
  have H1:=Lib.hid (And.intro hf hr1)
  clear hf hr1
  go_wp2_with fail
  go_ret
  exact ⟨rfl,H1.out⟩
 ·have H0:=Lib.hid h0
  clear h0
  go_enter Tryz.func80,Tryz.ntmps80
  go_wp2_with fail
  refine (Pw br r _ _ H.out.1 H0.out).mono ?_
  rintro e w1 ⟨rfl,hf,hr1⟩
  have H1:=Lib.hid (And.intro (hf.mono (S':=[br]) si) hr1)
  clear hf hr1
  have e:r.uint=(0,r):=by unfold Rd.uint; rw [if_neg H0.out]
  have HE:=Lib.hid e
  clear e
  go_wp2_with fail
  go_ret
  rw [HE.out]
  exact ⟨rfl,H1.out⟩
theorem PB (n:Nat) (h:cG n):mP (nC n):=by
 unfold cG at h
 unfold nC mP
 split <;> omega
theorem PC (n:Int):nC (gA n)=n:=by
 unfold nC gA
 by_cases h:n < 0
 ·simp only [h,if_true]
  rw [if_pos om]
  omega
 ·simp only [h,if_false]
  rw [if_neg om]
  omega
theorem PD (n:Nat) (w:World) (h:cG n):Calls Tryz.prog 160 #[.int .u64 (n:Int)] w fun e w'=>e = .returned (vi (nC n))∧w=w':=by
 have hI:(n:Int)≤18446744073709551615:=by unfold cG at h; omega
 have hI0:(0:Int)≤(n:Int):=om
 clear h
 by_cases h1:n % 2=1
 ·have hb:((n:Int) % 2 == 1)=true:=by simp; omega
  go_enter Tryz.func160,Tryz.ntmps160
  go_wp2_with fail
  go_ret
  refine ⟨lI ?_,rfl⟩
  unfold nC
  rw [if_pos h1]
  omega
 ·have hb:((n:Int) % 2 == 1)=false:=by simp; omega
  go_enter Tryz.func160,Tryz.ntmps160
  go_wp2_with fail
  go_ret
  refine ⟨lI ?_,rfl⟩
  unfold nC
  rw [if_neg h1]
  omega
def Rd.int (r : Rd) : Int × Rd := (nC r.uint.1, r.uint.2)
theorem Rd.BU (r:Rd):cG r.uint.1:=by
 unfold Rd.uint
 split
 ·cases hd:dI r.D r.off with
  | none=>show 0 < 18446744073709551616; decide
  | some p=>exact (uO _ _ p.1 p.2 hd).2.2
 ·show 0 < 18446744073709551616; decide
theorem PE (br:Nat) (r:Rd) (w:World) (hr:bB X w br r) (hk:r.Ok) :
  Calls Tryz.prog 151 #[vP br 0] w fun e w'=>e = .returned (.int .i64 r.int.1)∧Fr [br] w w'∧bB X w' br r.int.2:=by
 have H:=Lib.hid (And.intro hr hk)
 clear hr hk
 go_enter Tryz.func151,Tryz.ntmps151
 go_wp2_with fail
 refine (qS br r _ H.out.1 H.out.2).mono ?_
 rintro e w1 ⟨rfl,hf,hr1⟩
 have H1:=Lib.hid (And.intro hf hr1)
 clear hf hr1
 go_wp2_with fail
 refine (PD _ _ r.BU).mono ?_
 rintro e w' ⟨rfl,rfl⟩
 go_wp2_with fail
 go_ret
 exact ⟨rfl,H1.out⟩
variable {X : Option Addr × Nat}
def lP (X : Option Addr × Nat) (br : Nat) (D : List UInt8) (off last : Nat) (most : Int) (w : World) (e : Ending) (w' : World) : Prop :=
 Fr [br] w w' ∧ match dI D off with
  | none => e = .returned (.tuple #[Value.int .i64 0, Value.int .i64 3]) ∧ ∃ off' : Nat, aY X w' br D off' last 0
  | some (n, m) => if max most 0 < (n : Int) then e = .returned (.tuple #[Value.int .i64 0, Value.int .i64 2]) ∧ ∃ off' : Nat, aY X w' br D off' last 0 else e = .returned (.tuple #[Value.int .i64 (n : Int), Value.int .i64 0]) ∧ aY X w' br D m last 0
theorem xF (br:Nat) (D:List UInt8) (off last:Nat) (most:Int) (w:World) (hr:aY X w br D off last 0) (ho:off≤D.length) (hD:D.length≤4294967296) (hm:mP most) :
  Calls Tryz.prog 130 #[vP br 0,vi most] w (lP X br D off last most w):=by
 have H:=Lib.hid (And.intro hr (And.intro ho hD))
 have hm0:=hm.1
 have hm1:=hm.2
 clear hr ho hD hm
 cases hb:dI D off with
 | none =>
   have HB:=Lib.hid hb
   clear hb
   go_enter Tryz.func130,Tryz.ntmps130
   go_wp2_with fail
   refine (Hp br D off last _ H.out.1 H.out.2.1 H.out.2.2 HB.out).mono ?_
   rintro e w1 ⟨rfl,hf,off',ho',hr1⟩
   have H1:=Lib.hid (And.intro hf hr1)
   clear hf hr1 ho'
   go_wp2_with fail
   go_ret2
   unfold lP
   rw [HB.out]
   exact ⟨H1.out.1,rfl,off',H1.out.2⟩
 | some p =>
   obtain ⟨n,m⟩:=p
   have hu:=(uO _ _ _ _ hb).2.2
   have hI:(n:Int)≤18446744073709551615:=by unfold cG at hu; omega
   have HB:=Lib.hid hb
   clear hb hu
   by_cases hg:max most 0 < (n:Int)
   ·have HG:=Lib.hid hg
    go_enter Tryz.func130,Tryz.ntmps130
    go_wp2_with fail
    refine (CT br D off last _ H.out.1 H.out.2.1 H.out.2.2 n m HB.out).mono ?_
    rintro e w1 ⟨rfl,hf,hr1,_,_⟩
    have H1:=Lib.hid (And.intro hf hr1)
    clear hf hr1
    go_wp2_with fail
    all_goals
     go_ret2
     unfold lP
     rw [HB.out]
     simp only
     rw [if_pos HG.out]
     exact ⟨H1.out.1,rfl,m,H1.out.2⟩
   ·have HG:=Lib.hid hg
    have hg':(n:Int)≤max most 0:=om
    have hn2:(n:Int)≤9223372036854775807:=om
    clear hg
    go_enter Tryz.func130,Tryz.ntmps130
    go_wp2_with fail
    refine (CT br D off last _ H.out.1 H.out.2.1 H.out.2.2 n m HB.out).mono ?_
    rintro e w1 ⟨rfl,hf,hr1,_,_⟩
    have H1:=Lib.hid (And.intro hf hr1)
    clear hf hr1
    go_wp2_with fail
    all_goals
     go_ret2
     unfold lP
     rw [HB.out]
     simp only
     rw [if_neg (by have:=HG.out; omega)]
     exact ⟨H1.out.1,rfl,H1.out.2⟩
theorem PF (bx by_ br:Nat) (D:List UInt8) (off last:Nat) (most:Int) (w:World) (hx:At w bx 148 [vP br 0]) (hy:At w by_ 3 [vi most]) (hr:aY X w br D off last 0) (ho:off≤D.length) (hD:D.length≤4294967296) (hm:mP most) :
  Calls Tryz.prog 129 #[vP bx 0,vP by_ 0] w (lP X br D off last most w):=by
 have x0:w.cell? ⟨bx,0,none⟩=some (Value.pointer (some ⟨br,0,none⟩)):=by rw [hx.cell]; rfl
 have y0:w.cell? ⟨by_,0,none⟩=some (Value.int .i64 most):=by rw [hy.cell]; rfl
 have H:=Lib.hid (xF br D off last most w hr ho hD hm)
 clear hr ho hD hm hx hy
 go_enter Tryz.func129,Tryz.ntmps129
 go_wp2_with fail
 refine H.out.mono ?_
 intro e w1 h
 have HH:=Lib.hid h
 unfold lP at h
 obtain ⟨hf,h⟩:=h
 split at h
 ·obtain ⟨rfl,_⟩:=h
  clear hf
  go_wp2_with fail
  go_ret2
  exact HH.out
 ·split at h
  ·obtain ⟨rfl,_⟩:=h
   clear hf
   go_wp2_with fail
   go_ret2
   exact HH.out
  ·obtain ⟨rfl,_⟩:=h
   clear hf
   go_wp2_with fail
   go_ret2
   exact HH.out
def Rd.count (r : Rd) (most : Int) : Nat × Rd := if r.err = 0 then (match dI r.D r.off with
 | none => (0, r.fail 3)
 | some (n, m) => if max most 0 < (n : Int) then (0, r.fail 2) else (n, r.done m)) else (0, r)
theorem PG (br:Nat) (r:Rd) (most:Int) (w:World) (hr:bB X w br r) (hk:r.Ok) (hm:mP most) :
  Calls Tryz.prog 91 #[vP br 0,vi most] w fun e w'=>e = .returned (vi ((r.count most).1:Int))∧Fr [br] w w'∧bB X w' br (r.count most).2:=by
 have hmf:∀ (fn:Fn) (first cap:Array Value) (w:World),(Instr.makeFunc fn first cap).run Tryz.prog w = .ok (.func fn first cap) w:=fun _ _ _ _=>rfl
 have hlt:br < w.heap.size:=by obtain ⟨A,c,hX,ha,_⟩:=hr; exact ha.lt
 have hf0:Fr [] w ((w.alloc (.cells #[vP br 0] 148)).alloc (.cells #[vi most] 3)):=((Fr.refl _ _).alloc _).alloc _
 have ha0:At ((w.alloc (.cells #[vP br 0] 148)).alloc (.cells #[vi most] 3)) w.heap.size 148 [vP br 0]:=(At.new w _ [vP br 0]).alloc _
 have hb0:At ((w.alloc (.cells #[vP br 0] 148)).alloc (.cells #[vi most] 3)) (w.heap.size+1) 3 [vi most]:=by
  have:=At.new (w.alloc (.cells #[vP br 0] 148)) 3 [vi most]
  simpa using this
 have hr0:bB X ((w.alloc (.cells #[vP br 0] 148)).alloc (.cells #[vi most] 3)) br r:=aY.fr hr hf0
 have H:=Lib.hid (And.intro hr0 (And.intro hk (And.intro hf0 (And.intro ha0 hb0))))
 have HM:=Lib.hid hm
 clear hr hk hf0 ha0 hr0 hb0 hm
 by_cases h0:r.err=0
 ·obtain ⟨D,off,last,err⟩:=r
  simp only at h0
  subst h0
  have hdec:∀ W,Fr [] ((w.alloc (.cells #[vP br 0] 148)).alloc (.cells #[vi most] 3)) W→aY X W br D off last 0→Calls Tryz.prog 129 #[Value.pointer (some ⟨w.heap.size,0,none⟩),Value.pointer (some ⟨w.heap.size+1,0,none⟩)] W (lP X br D off last most W) :=
   fun W hf hr=>PF w.heap.size (w.heap.size+1) br D off last most W (H.out.2.2.2.1.fr hf si) (H.out.2.2.2.2.fr hf si) hr H.out.2.1.off H.out.2.1.len HM.out
  have HD:=Lib.hid hdec
  clear hdec
  cases hb:dI D off with
  | none =>
    have HB:=Lib.hid hb
    clear hb
    go_enter Tryz.func91,Tryz.ntmps91
    go_wp2_with fail
    refine (Hq br D off last 3 0 w.heap.size (w.heap.size+1) _ H.out.1 (by decide) (fun W hf hr=>(HD.out W hf hr).mono (fun e w' h=>by unfold lP at h; rw [HB.out] at h; exact ⟨h.2.1,h.1,h.2.2⟩))).mono ?_
    rintro e w1 ⟨rfl,hf,hr1⟩
    have H1:=Lib.hid (And.intro (H.out.2.2.1.mono (S':=[br]) si |>.trans hf) hr1)
    clear hf hr1
    go_wp2_with fail
    go_ret
    simp only [Rd.count,if_true,HB.out]
    exact ⟨rfl,H1.out⟩
  | some p =>
    obtain ⟨n,m⟩:=p
    have HB:=Lib.hid hb
    clear hb
    by_cases hg:max most 0 < (n:Int)
    ·have HG:=Lib.hid hg
     clear hg
     go_enter Tryz.func91,Tryz.ntmps91
     go_wp2_with fail
     refine (Hq br D off last 2 0 w.heap.size (w.heap.size+1) _ H.out.1 (by decide) (fun W hf hr=>(HD.out W hf hr).mono (fun e w' h=>by unfold lP at h; rw [HB.out] at h; simp only [if_pos HG.out] at h; exact ⟨h.2.1,h.1,h.2.2⟩))).mono ?_
     rintro e w1 ⟨rfl,hf,hr1⟩
     have H1:=Lib.hid (And.intro (H.out.2.2.1.mono (S':=[br]) si |>.trans hf) hr1)
     clear hf hr1
     go_wp2_with fail
     go_ret
     simp only [Rd.count,if_true,HB.out,if_pos HG.out]
     exact ⟨rfl,H1.out⟩
    ·have HG:=Lib.hid hg
     clear hg
     go_enter Tryz.func91,Tryz.ntmps91
     go_wp2_with fail
     refine (Pz br D off last m (n:Int) w.heap.size (w.heap.size+1) _ H.out.1 (fun W hf hr=>(HD.out W hf hr).mono (fun e w' h=>by unfold lP at h; rw [HB.out] at h; simp only at h; rw [if_neg (by have:=HG.out; omega)] at h; exact ⟨h.2.1,h.1,h.2.2⟩))).mono ?_
     rintro e w1 ⟨rfl,hf,hr1⟩
     have H1:=Lib.hid (And.intro (H.out.2.2.1.mono (S':=[br]) si |>.trans hf) hr1)
     clear hf hr1
     go_wp2_with fail
     go_ret
     simp only [Rd.count,if_true,HB.out]
     rw [if_neg (by have:=HG.out; omega)]
     exact ⟨rfl,H1.out⟩
 ·have e:r.count most=(0,r):=by unfold Rd.count; rw [if_neg h0]
  have HE:=Lib.hid (And.intro h0 e)
  clear h0 e
  go_enter Tryz.func91,Tryz.ntmps91
  go_wp2_with fail
  refine (PA br r _ _ H.out.1 HE.out.1).mono ?_
  rintro e w1 ⟨rfl,hf,hr1⟩
  have H1:=Lib.hid (And.intro ((H.out.2.2.1.trans hf).mono (S':=[br]) si) hr1)
  clear hf hr1
  go_wp2_with fail
  go_ret
  rw [HE.out.2]
  exact ⟨rfl,H1.out⟩
def Rd.end_ (r : Rd) : Int := if r.err ≠ 0 then r.err else if r.off < r.D.length then 3 else 0
theorem Hr (br:Nat) (r:Rd) (w:World) (hr:bB X w br r) (hk:r.Ok) :
  Calls Tryz.prog 85 #[vP br 0] w fun e w'=>e = .returned (.tuple #[vi (r.off:Int),.int .i64 r.end_])∧Fr [] w w':=by
 obtain ⟨A,c,hX,ha,hrow⟩:=hr
 have c0:w.cell? ⟨br,0,none⟩=some (.slice A r.D.length c):=by rw [ha.cell]; rfl
 have c1:w.cell? ⟨br,1,none⟩=some (Value.int .i64 (r.off:Int)):=by rw [ha.cell]; rfl
 have c3:w.cell? ⟨br,3,none⟩=some (Value.int .i64 r.err):=by rw [ha.cell]; rfl
 have hDI:(r.D.length:Int)≤4294967296:=by have:=hk.len; omega
 clear ha hrow hk
 by_cases h0:r.err=0
 ·have hb:(r.err != 0)=false:=by simpa using h0
  by_cases hl:r.off < r.D.length
  ·have hlI:decide (r.off < r.D.length)=true:=by simpa using hl
   have he:r.end_=3:=by unfold Rd.end_; rw [if_neg (by simpa using h0),if_pos hl]
   have HE:=Lib.hid he
   clear h0 he
   go_enter Tryz.func85,Tryz.ntmps85
   go_wp2_with fail
   go_quiet (fail)
   go_wp2_with fail
   go_ret2
   rw [HE.out]
   exact ⟨rfl,(Fr.refl _ _).drewN _⟩
  ·have hlI:decide (r.off < r.D.length)=false:=by simpa using hl
   have he:r.end_=0:=by unfold Rd.end_; rw [if_neg (by simpa using h0),if_neg hl]
   have HE:=Lib.hid he
   clear h0 he
   go_enter Tryz.func85,Tryz.ntmps85
   go_wp2_with fail
   go_quiet (fail)
   go_wp2_with fail
   go_ret2
   rw [HE.out]
   exact ⟨rfl,(Fr.refl _ _).drewN _⟩
 ·have hb:(r.err != 0)=true:=by simpa using h0
  have he:r.end_=r.err:=by unfold Rd.end_; rw [if_pos h0]
  have HE:=Lib.hid he
  clear h0 he
  go_enter Tryz.func85,Tryz.ntmps85
  go_wp2_with fail
  go_quiet (fail)
  go_wp2_with fail
  go_ret2
  rw [HE.out]
  exact ⟨rfl,(Fr.refl _ _).drewN _⟩
theorem Aj (A:Option Addr) (c:Nat) (D:List UInt8) (w:World) (hD:D.length≤4294967296) (hrow:aF w A (B8 D)) :
  Calls Tryz.prog 79 #[.slice A D.length c] w fun e w'=>∃ br A2 c2,e = .returned (.pointer (some ⟨br,0,none⟩))∧w.heap.size≤br∧Fr [] w w'∧bB (A2,c2) w' br ⟨D,0,0,0⟩∧w'.ownsRow w.heap.size 5 1 (.slice A2 D.length c2) D.length (B8 D):=by
 have H:=Lib.hid (And.intro hrow hD)
 clear hrow hD
 go_enter Tryz.func79,Tryz.ntmps79
 go_wp2_with (at_builtin; refine wH jE rfl (.tmp 3) (.tmp 4) rfl w.heap.size _ 0 [] rfl (by exact World.ownsRow_made _ #[] 0 (Nat.le_refl _) (Nat.zero_le _) rfl) A _ c (B8 D) rfl (by rw [dW]; simp) (by exact eQ.mC (H.out.1.iH ((Fr.refl _ _).alloc _))) (jU _) (by have:=H.out.2; omega) (by simp) ?_; intro v2 w2 hown2 hg2 hb2; obtain ⟨A2,c2,rfl⟩:=jT hown2)
 go_ret
 have hf:Fr [] w w2:=((Fr.refl [] w).alloc _).grown hg2 (fun g hg=>.inr (by have hg':some w.heap.size=some g:=hg; injection hg' with hg'; omega))
 refine ⟨w2.heap.size,A2,c2,rfl,hf.size,hf.alloc _,⟨A2,c2,rfl,?_,?_⟩,?_⟩
 ·have:=At.new w2 179 [.slice A2 D.length c2,vi 0,vi 0,vi 0]
  simpa using this
 ·have:=tT hown2 (Nat.zero_le w.heap.size)
  simpa using this.alloc _
 ·simpa using hown2.alloc _
end
section
variable {X : Option Addr × Nat}
theorem Mm.one {w:World} {b:Nat} {t:TypeId} {l:List Value} (h:At w b t l):Mm w [b] [aB b t l] w :=
 ⟨Fr.refl _ _,fun c hc=>by rw [List.mem_singleton] at hc; subst hc; exact h,by simp [aB],fun x hx=>.inl (by simpa [aB] using hx)⟩
theorem jJ {w:World} {base:Nat} {e t:TypeId} {sz n:Nat} {v:Value} {xs l:List Value} {b:Nat} (h:w.ownsRow base e sz v n xs) (ha:At w b t l) (hne:e≠t):some b≠v.ownBlock:=by
 intro hb
 rcases h.2 with ⟨rfl,_⟩ | ⟨g,cap,cur,rfl,_,hg,_⟩
 ·simp [Value.ownBlock] at hb
 ·have:some b=some g:=hb
  injection this with this
  subst this
  unfold At at ha
  rw [hg] at ha
  simp only [Option.some.injEq,Obj.cells.injEq] at ha
  exact hne ha.2.1
theorem lQ {w:World} {base:Nat} {e:TypeId} {sz:Nat} {A:Option Addr} {m c:Nat} {xs:List Value} (ho:w.ownsRow base e sz (.slice A m c) m xs):m≤c:=by
 rcases ho.2 with ⟨hv,h0⟩ | ⟨g,cap,cur,hv,_,_,hnc,_⟩
 ·omega
 ·simp only [Value.slice.injEq] at hv
  omega
theorem CU {w:World} {A:Option Addr} {xs:List UInt8} {c k N:Nat} (h:aF w A (B8 xs)) (hc:(B8 xs).length≤c):aF w (if c=k then A else A.map (·.add (k*1))) (B8 ((xs.drop k).take N)):=by
 intro j u hu
 have hj:(B8 xs)[k+j]?=some u:=by
  simp only [B8,List.getElem?_map,List.getElem?_take,List.getElem?_drop] at hu ⊢
  split at hu
  ·exact hu
  ·cases hu
 have hlt:=(List.getElem?_eq_some_iff.1 hj).1
 obtain ⟨b,o,hA,hb,hcell⟩:=h _ _ hj
 refine ⟨b,o+k,?_,hb,by rw [Nat.add_assoc]; exact hcell⟩
 rw [if_neg om,hA]
 show some ((⟨b,o,none⟩:Addr).add (k*1))=_
 rw [jS,Nat.mul_one]
theorem Hs (br:Nat) (D:List UInt8) (off last N:Nat) (err:Int) (w:World) (A:Option Addr) (c:Nat) (ha:At w br 179 [.slice A D.length c,vi (off:Int),vi (last:Int),vi err]) (_hl:D.length≤4294967296) (ho:off≤D.length) (hN:N≤4294967296) (_hc:D.length≤c) (hf:D.length < off+N) :
  Calls Tryz.prog 150 #[vP br 0,vi (N:Int)] w fun e w'=>e = .returned (.tuple #[nS,vi 3])∧Fr [br] w w'∧At w' br 179 [.slice A D.length c,vi (off:Int),vi (last:Int),vi err]:=by
 have HA:=Lib.hid ha
 clear ha
 refine bG Tryz.func150 43 (Mm.one HA.out) rfl<|Nc<|lx rfl<|Nf<|aQ<|dN _ 12 kr (fun _ h=>h)<|am 0 ?_
 refine am 1 ?_
 refine aC 2 (vP br 0) rfl<|aC 3 (vP br 0) rfl<|al 4 0 ?_
 refine aC 5 (vI D.length) rfl ?_
 refine am 6 ?_
 refine aC 7 (vP br 0) rfl<|aC 8 (vP br 1) rfl<|al 9 0 ?_
 exact aV 10 (.int .i64 (((D.length:Nat):Int) - ((off:Nat):Int))) rfl (mH _ rfl rfl rfl rfl om om)<|aC 11 (.bool (decide (((N:Nat):Int) > (((D.length:Nat):Int) - ((off:Nat):Int))))) rfl<|dO kr<|aJ<|rV rfl (by simp; omega)<|Nc<|lx rfl<|Nh<|sN [nS,(vi 3)] fun w hM=>⟨rfl,hM.fr,hM.at (i:=0) rfl⟩
theorem Ht (br:Nat) (D:List UInt8) (off last N:Nat) (err:Int) (w:World) (A:Option Addr) (c:Nat) (ha:At w br 179 [.slice A D.length c,vi (off:Int),vi (last:Int),vi err]) (hl:D.length≤4294967296) (ho:off≤D.length) (hN:N≤4294967296) (hc:D.length≤c) (hf:off+N≤D.length) :
  Calls Tryz.prog 150 #[vP br 0,vi (N:Int)] w fun e w'=>e = .returned (.tuple #[.slice (if c=off then A else A.map (·.add (off*1))) N (c - off),vi 0])∧Fr [br] w w'∧At w' br 179 [.slice A D.length c,vI (off+N),vi (last:Int),vi err]:=by
 have HA:=Lib.hid ha
 clear ha
 refine bG Tryz.func150 43 (Mm.one HA.out) rfl<|Nc<|lx rfl<|Nf<|aQ<|dN _ 12 kr (fun _ h=>h)<|am 0 ?_
 refine am 1 ?_
 refine aC 2 (vP br 0) rfl<|aC 3 (vP br 0) rfl<|al 4 0 ?_
 refine aC 5 (vI D.length) rfl ?_
 refine am 6 ?_
 refine aC 7 (vP br 0) rfl<|aC 8 (vP br 1) rfl<|al 9 0 ?_
 refine aV 10 (.int .i64 (((D.length:Nat):Int) - ((off:Nat):Int))) rfl (mH _ rfl rfl rfl rfl om om)<|aC 11 (.bool (decide (((N:Nat):Int) > (((D.length:Nat):Int) - ((off:Nat):Int))))) rfl<|dO kr<|aJ<|eF rfl (by simp; omega)<|Nl<|dN _ 16 kr (fun _ h=>h)<|am 0 ?_
 refine aC 1 (vP br 0) rfl<|aC 2 (vP br 0) rfl<|al 3 0 ?_
 refine am 4 ?_
 refine aC 5 (vP br 0) rfl<|aC 6 (vP br 1) rfl<|al 7 0 ?_
 refine am 8 ?_
 refine aC 9 (vP br 0) rfl<|aC 10 (vP br 1) rfl<|al 11 0 ?_
 refine am 12 ?_
 refine aV 13 (vI (off+N)) rfl bJ<|aV 14 (.slice (if c=off then A else A.map (·.add (off*1))) (off+N - off) (c - off)) rfl (wP (e:=5) (sz:=1) rfl kr kr rfl rfl rfl om om)<|aa 15 ?_
 exact dO kr<|aJ<|Nc<|lx rfl<|lk (vP br 0)<|lk (vP br 1)<|lL 0 rfl<|lx rfl<|lw (vI (off+N)) bJ<|lk (vP br 0)<|lk (vP br 1)<|Nx<|pS 0 rfl<|Nb<|lx rfl<|Nd<|sN [(.slice (if c=off then A else A.map (·.add (off*1))) (off+N - off) (c - off)),(vi 0)] fun w hM=>⟨by rw [show off+N - off=N by omega]; rfl,hM.fr,hM.at (i:=0) rfl⟩
theorem PH (bx br:Nat) (D:List UInt8) (off last:Nat) (err:Int) (w:World) (hx0:At w bx 148 [vP br 0]) (hr:aY X w br D off last err) (hl:D.length≤4294967296) (ho:off≤D.length) (hf:off+32≤D.length) :
  Calls Tryz.prog 149 #[vP bx 0] w fun e w'=>e = .returned (.tuple #[.string (bD ((D.drop off).take 32)),vi 0])∧Fr [br] w w'∧aY X w' br D (off+32) last err:=by
 obtain ⟨A,c,hX,ha,hown⟩:=hr
 have hx:w.cell? ⟨bx,0,none⟩=some (Value.pointer (some ⟨br,0,none⟩)):=by rw [hx0.cell]; rfl
 have hxb:bx≠br:=hx0.ne ha (by decide)
 have HA:=Lib.hid ha
 have HO:=Lib.hid hown
 have HR:Hid (aF w A (B8 D)):=aF.aR hown
 have hc:D.length≤c:=lQ hown
 have HNB:Hid (∀ g,(Value.slice A D.length c).ownBlock=some g→g∉[br]):=fun g hg=>by
  have h1:=jJ hown ha (by decide)
  simp only [List.mem_singleton]
  rintro rfl
  exact h1 hg.symm
 have HNE:Hid (∀ b o,A=some ⟨b,o,none⟩→b∉[br]):=fun b o hA=>HNB.out b (by rw [hA]; rfl)
 clear ha hown hx0
 refine eH Tryz.func149 13 (Mm.one HA.out) rfl<|Nc<|lx rfl<|Nb<|lW (rW (fun w hM=>hM.eZ hx (by simpa using hxb)))<|Nx<|eN 150 #[(vP br 0),(vi 32)] rfl kr (fun _=>kr) (fun w hM=>(Ht br D off last 32 err w A c (hM.at (i:=0) rfl) hl ho om hc hf).mono ?_)
 rintro e w' ⟨rfl,hf2,ha2⟩
 have hM':=hM.swap 0 (c':=aB br 179 [(.slice A (D.length) (c)),(vI (off+32)),(vI last),(vi err)]) rfl hf2 ha2 (fun b hb=>.inl hb) (by simp [aB])
 refine ⟨_,_,rfl,hM',?_⟩
 clear hM hM' hf2 ha2
 exact lx rfl<|Nb<|lx rfl<|lw (vS ((D.drop off).take 32)) (nK (e:=5) ((D.drop off).take 32) rfl kr kr kr rfl (by rw [List.length_take,List.length_drop]; omega) (fun w hM=>CU (HR.out.fr hM.fr HNE.out) (by rw [dW]; exact hc)))<|lx rfl<|Nd<|sN [(vS ((D.drop off).take 32)),(vi 0)] fun w hM=>⟨rfl,hM.fr,A,c,hX,hM.at (i:=0) rfl,dZ HO.out hM.fr HNB.out⟩
theorem PI (bx br:Nat) (D:List UInt8) (off last:Nat) (err:Int) (w:World) (hx0:At w bx 148 [vP br 0]) (hr:aY X w br D off last err) (hl:D.length≤4294967296) (ho:off≤D.length) (hf:D.length < off+32) :
  Calls Tryz.prog 149 #[vP bx 0] w fun e w'=>e = .returned (.tuple #[.string (bD []),vi 3])∧Fr [br] w w'∧aY X w' br D off last err:=by
 obtain ⟨A,c,hX,ha,hown⟩:=hr
 have hx:w.cell? ⟨bx,0,none⟩=some (Value.pointer (some ⟨br,0,none⟩)):=by rw [hx0.cell]; rfl
 have hxb:bx≠br:=hx0.ne ha (by decide)
 have HA:=Lib.hid ha
 have HO:=Lib.hid hown
 have HR:Hid (aF w A (B8 D)):=aF.aR hown
 have hc:D.length≤c:=lQ hown
 have HNB:Hid (∀ g,(Value.slice A D.length c).ownBlock=some g→g∉[br]):=fun g hg=>by
  have h1:=jJ hown ha (by decide)
  simp only [List.mem_singleton]
  rintro rfl
  exact h1 hg.symm
 have HNE:Hid (∀ b o,A=some ⟨b,o,none⟩→b∉[br]):=fun b o hA=>HNB.out b (by rw [hA]; rfl)
 clear ha hown hx0
 refine eH Tryz.func149 13 (Mm.one HA.out) rfl<|Nc<|lx rfl<|Nb<|lW (rW (fun w hM=>hM.eZ hx (by simpa using hxb)))<|Nx<|eN 150 #[(vP br 0),(vi 32)] rfl kr (fun _=>kr) (fun w hM=>(Hs br D off last 32 err w A c (hM.at (i:=0) rfl) hl ho om hc hf).mono ?_)
 rintro e w' ⟨rfl,hf2,ha2⟩
 have hM':=hM.swap 0 (c':=aB br 179 [(.slice A (D.length) (c)),(vI off),(vI last),(vi err)]) rfl hf2 ha2 (fun b hb=>.inl hb) (by simp [aB])
 refine ⟨_,_,rfl,hM',?_⟩
 clear hM hM' hf2 ha2
 exact lx rfl<|Nb<|lx rfl<|lw (vS ([])) (nK (e:=5) [] rfl kr kr kr rfl rfl (fun w hM j v hj=>by simp [B8] at hj))<|lx rfl<|Nd<|sN [(vS ([])),(vi 3)] fun w hM=>⟨rfl,hM.fr,A,c,hX,hM.at (i:=0) rfl,dZ HO.out hM.fr HNB.out⟩
theorem PJ (b0 b1 b2 br:Nat) (A:Option Addr) (n c:Nat) (off last start:Int) (w:World) (h0:At w b0 3 [vi start]) (h1:At w b1 148 [vP br 0]) (hr:At w br 179 [.slice A n c,vi off,vi last,vi 0]) :
  CallsD Tryz.prog 159 #[vP b0 0,vP b1 0,vP b2 0] .returning w fun e u' w'=>u' = .returning∧e = .returned (.tuple #[])∧w'=w.setCell ⟨br,2,none⟩ (vi start):=by
 have c0:w.cell? ⟨b0,0,none⟩=some (Value.int .i64 start):=by rw [h0.cell]; rfl
 have c1:w.cell? ⟨b1,0,none⟩=some (Value.pointer (some ⟨br,0,none⟩)):=by rw [h1.cell]; rfl
 have c2:w.cell? ⟨br,2,none⟩=some (Value.int .i64 last):=by rw [hr.cell]; rfl
 have c3:w.cell? ⟨br,3,none⟩=some (vi 0):=by rw [hr.cell]; rfl
 have z2:=hr.frozen 2
 have hne:b1≠br:=h1.ne hr (by decide)
 clear h0 h1 hr
 go_enter_d Tryz.func159,Tryz.ntmps159
 go_wp2_with fail
 go_end0
 exact ⟨rfl,rfl⟩
theorem PM (b0 b1 b2 br:Nat) (A:Option Addr) (n c:Nat) (off last start err:Int) (v:Value) (w:World) (h0:At w b0 3 [vi start]) (h1:At w b1 148 [vP br 0]) (h2:At w b2 9 [v]) (hr:At w br 179 [.slice A n c,vi off,vi last,vi err]) (he:err≠0) (hb:b2≠b0∧b2≠br) :
  CallsD Tryz.prog 159 #[vP b0 0,vP b1 0,vP b2 0] .returning w fun e u' w'=>u' = .returning∧e = .returned (.tuple #[])∧w'=((w.setCell ⟨br,2,none⟩ (vi start)).setCell ⟨br,1,none⟩ (vi start)).setCell ⟨b2,0,none⟩ (.string ⟨#[]⟩):=by
 have c0:w.cell? ⟨b0,0,none⟩=some (Value.int .i64 start):=by rw [h0.cell]; rfl
 have c1:w.cell? ⟨b1,0,none⟩=some (Value.pointer (some ⟨br,0,none⟩)):=by rw [h1.cell]; rfl
 have cr1:w.cell? ⟨br,1,none⟩=some (Value.int .i64 off):=by rw [hr.cell]; rfl
 have c2:w.cell? ⟨br,2,none⟩=some (Value.int .i64 last):=by rw [hr.cell]; rfl
 have c3:w.cell? ⟨br,3,none⟩=some (Value.int .i64 err):=by rw [hr.cell]; rfl
 have c4:w.cell? ⟨b2,0,none⟩=some v:=by rw [h2.cell]; rfl
 have z2:=hr.frozen 2
 have z1:=hr.frozen 1
 have z4:=h2.frozen 0
 have hne:b1≠br:=h1.ne hr (by decide)
 have hne2:b2≠br:=hb.2
 have hne0:b0≠br:=h0.ne hr (by decide)
 have heb:(err != 0)=true:=by simpa using he
 clear h0 h1 hr h2 he hb
 go_enter_d Tryz.func159,Tryz.ntmps159
 go_wp2_with fail
 go_end0
 exact ⟨rfl,rfl⟩
set_option maxHeartbeats 4000000 in
theorem PN (br:Nat) (D:List UInt8) (off last m:Nat) (x:List UInt8) (bx:Nat) (w:World) (hr:aY X w br D off last 0)
  (hdec:∀ W,Fr [] w W→aY X W br D off last 0→Calls Tryz.prog 149 #[vP bx 0] W fun e w'=>e = .returned (.tuple #[.string (bD x),vi 0])∧Fr [br] W w'∧aY X w' br D m last 0) :
  Calls Tryz.prog 148 #[vP br 0,.func (.func 149) #[] #[vP bx 0]] w fun e w'=>e = .returned (vS x)∧Fr [br] w w'∧aY X w' br D m off 0:=by
 obtain ⟨A,c,hX,ha,hrow⟩:=hr
 have c1:w.cell? ⟨br,1,none⟩=some (Value.int .i64 (off:Int)):=by rw [ha.cell]; rfl
 have c3:w.cell? ⟨br,3,none⟩=some (vi 0):=by rw [ha.cell]; rfl
 have hlt:=ha.lt
 have HR:=Lib.hid (And.intro ha hrow)
 have HD:=Lib.hid hdec
 clear ha hrow hdec
 have hmf:∀ (fn:Fn) (first cap:Array Value) (w:World),(Instr.makeFunc fn first cap).run Tryz.prog w = .ok (.func fn first cap) w:=fun _ _ _ _=>rfl
 go_enter_defers Tryz.func148,Tryz.ntmps148
 go_wp2_with fail
 obtain ⟨W,hW⟩:∃ W,W=((w.alloc (Obj.cells #[vP br 0] 148)).alloc (Obj.cells #[Value.string ⟨#[]⟩] 9)).alloc (Obj.cells #[vi (off:Int)] 3):=⟨_,rfl⟩
 rw [← hW]
 have HW:Hid (At W w.heap.size 148 [vP br 0]∧At W (w.heap.size+1) 9 [Value.string ⟨#[]⟩]∧At W (w.heap.size+1+1) 3 [vi (off:Int)]∧Fr [] w W∧aY X W br D off last 0):=by
  rw [hW]
  refine ⟨((At.new w 148 [vP br 0]).alloc _).alloc _,?_,?_,(((Fr.refl _ _).alloc _).alloc _).alloc _,A,c,hX,((HR.out.1.alloc _).alloc _).alloc _,((HR.out.2.alloc _).alloc _).alloc _⟩
  ·have:=(At.new (w.alloc (Obj.cells #[vP br 0] 148)) 9 [Value.string ⟨#[]⟩]).alloc (Obj.cells #[vi (off:Int)] 3)
   simpa using this
  ·have:=At.new ((w.alloc (Obj.cells #[vP br 0] 148)).alloc (Obj.cells #[Value.string ⟨#[]⟩] 9)) 3 [vi (off:Int)]
   simpa using this
 clear hW c1 c3
 have d0:W.cell? ⟨w.heap.size,0,none⟩=some (Value.pointer (some ⟨br,0,none⟩)):=by rw [HW.out.1.cell]; rfl
 have nb1:w.heap.size≠br:=om
 have nb2:br≠w.heap.size:=om
 go_region_held3 (fun w'=>w'.cell? ⟨w.heap.size,0,none⟩=some (Value.pointer (some ⟨br,0,none⟩))) (go_keep) (first | (go_at_call 149; refine (HD.out W.drew (by exact HW.out.2.2.2.1.drew) (by exact HW.out.2.2.2.2)).mono ?_; rintro e w1 ⟨rfl,hf1,hr1⟩; obtain ⟨e0,e1,z1,e3,z3⟩:=oM (W:=W) HW.out.1 HW.out.2.1 HW.out.2.2.2.2 hf1 hr1; have H1:=Lib.hid (And.intro hf1 hr1); clear hf1 hr1))
 go_wp2_with fail
 obtain ⟨k0,k1,k2,k3,kf⟩:=oN HW.out.1 HW.out.2.1 HW.out.2.2.1 HW.out.2.2.2.2 H1.out.1 H1.out.2 (Value.string (bD x)) (vi 0) om (by decide)
 refine leaves_cons (f:=159) (args:=#[Value.pointer (some ⟨w.heap.size+1+1,0,none⟩),Value.pointer (some ⟨w.heap.size,0,none⟩),Value.pointer (some ⟨w.heap.size+1,0,none⟩)]) si (by simp [go_sem]) ?_
 obtain ⟨A',c',hX',k3'⟩:=k3
 refine (PJ _ _ _ br A' _ c' _ _ _ _ k2 k0 k3'.1).mono ?_
 rintro e u' w'' ⟨rfl,rfl,rfl⟩
 obtain ⟨g1,g2,g3⟩:=xD (off:=off) HW.out.2.2.2.1 kf om k1 (by decide) k3'.1 k3'.2 hX'
 exact ⟨Value.string (bD x),by simp [results,Tryz.results148,go_sem,g1],rfl,g2,g3⟩
set_option maxHeartbeats 4000000 in
theorem PO (br:Nat) (D:List UInt8) (off last:Nat) (er:Int) (x:List UInt8) (bx:Nat) (w:World) (hr:aY X w br D off last 0) (he:er≠0)
  (hdec:∀ W,Fr [] w W→aY X W br D off last 0→Calls Tryz.prog 149 #[vP bx 0] W fun e w'=>e = .returned (.tuple #[.string (bD x),vi er])∧Fr [br] W w'∧∃ off':Nat,aY X w' br D off' last 0) :
  Calls Tryz.prog 148 #[vP br 0,.func (.func 149) #[] #[vP bx 0]] w fun e w'=>e = .returned (.string ⟨#[]⟩)∧Fr [br] w w'∧aY X w' br D off off er:=by
 have HE:=Lib.hid he
 clear he
 obtain ⟨A,c,hX,ha,hrow⟩:=hr
 have c1:w.cell? ⟨br,1,none⟩=some (Value.int .i64 (off:Int)):=by rw [ha.cell]; rfl
 have c3:w.cell? ⟨br,3,none⟩=some (vi 0):=by rw [ha.cell]; rfl
 have hlt:=ha.lt
 have HR:=Lib.hid (And.intro ha hrow)
 have HD:=Lib.hid hdec
 clear ha hrow hdec
 have hmf:∀ (fn:Fn) (first cap:Array Value) (w:World),(Instr.makeFunc fn first cap).run Tryz.prog w = .ok (.func fn first cap) w:=fun _ _ _ _=>rfl
 go_enter_defers Tryz.func148,Tryz.ntmps148
 go_wp2_with fail
 obtain ⟨W,hW⟩:∃ W,W=((w.alloc (Obj.cells #[vP br 0] 148)).alloc (Obj.cells #[Value.string ⟨#[]⟩] 9)).alloc (Obj.cells #[vi (off:Int)] 3):=⟨_,rfl⟩
 rw [← hW]
 have HW:Hid (At W w.heap.size 148 [vP br 0]∧At W (w.heap.size+1) 9 [Value.string ⟨#[]⟩]∧At W (w.heap.size+1+1) 3 [vi (off:Int)]∧Fr [] w W∧aY X W br D off last 0):=by
  rw [hW]
  refine ⟨((At.new w 148 [vP br 0]).alloc _).alloc _,?_,?_,(((Fr.refl _ _).alloc _).alloc _).alloc _,A,c,hX,((HR.out.1.alloc _).alloc _).alloc _,((HR.out.2.alloc _).alloc _).alloc _⟩
  ·have:=(At.new (w.alloc (Obj.cells #[vP br 0] 148)) 9 [Value.string ⟨#[]⟩]).alloc (Obj.cells #[vi (off:Int)] 3)
   simpa using this
  ·have:=At.new ((w.alloc (Obj.cells #[vP br 0] 148)).alloc (Obj.cells #[Value.string ⟨#[]⟩] 9)) 3 [vi (off:Int)]
   simpa using this
 clear hW c1 c3
 have d0:W.cell? ⟨w.heap.size,0,none⟩=some (Value.pointer (some ⟨br,0,none⟩)):=by rw [HW.out.1.cell]; rfl
 have nb1:w.heap.size≠br:=om
 have nb2:br≠w.heap.size:=om
 go_region_held3 (fun w'=>w'.cell? ⟨w.heap.size,0,none⟩=some (Value.pointer (some ⟨br,0,none⟩))) (go_keep) (first | (go_at_call 149; refine (HD.out W.drew (by exact HW.out.2.2.2.1.drew) (by exact HW.out.2.2.2.2)).mono ?_; rintro e w1 ⟨rfl,hf1,off',hr1⟩; obtain ⟨e0,e1,z1,e3,z3⟩:=oM (W:=W) HW.out.1 HW.out.2.1 HW.out.2.2.2.2 hf1 hr1; have H1:=Lib.hid (And.intro hf1 hr1); clear hf1 hr1))
 go_wp2_with fail
 obtain ⟨k0,k1,k2,k3,kf⟩:=oN HW.out.1 HW.out.2.1 HW.out.2.2.1 HW.out.2.2.2.2 H1.out.1 H1.out.2 (Value.string (bD x)) (Value.int .i64 er) om (by decide)
 refine leaves_cons (f:=159) (args:=#[Value.pointer (some ⟨w.heap.size+1+1,0,none⟩),Value.pointer (some ⟨w.heap.size,0,none⟩),Value.pointer (some ⟨w.heap.size+1,0,none⟩)]) si (by simp [go_sem]) ?_
 obtain ⟨A',c',hX',k3'⟩:=k3
 refine (PM _ _ _ br A' _ c' _ _ _ er (Value.string (bD x)) _ k2 k0 k1 k3'.1 HE.out om).mono ?_
 rintro e u' w'' ⟨rfl,rfl,rfl⟩
 obtain ⟨g1,g2,g3⟩:=xE (off:=off) (z:=Value.string ⟨#[]⟩) HW.out.2.2.2.1 kf om k1 (by decide) (by decide) k3'.1 k3'.2 hX'
 exact ⟨Value.string ⟨#[]⟩,by simp [results,Tryz.results148,go_sem,g1],rfl,g2,g3⟩
theorem PQ (br:Nat) (r:Rd) (fv:Value) (w:World) (hr:bB X w br r) (h0:r.err≠0) :
  Calls Tryz.prog 148 #[vP br 0,fv] w fun e w'=>e = .returned (.string ⟨#[]⟩)∧Fr [] w w'∧bB X w' br r:=by
 have hr0:=hr
 obtain ⟨A,c,hX,ha,hrow⟩:=hr
 have c3:w.cell? ⟨br,3,none⟩=some (Value.int .i64 r.err):=by rw [ha.cell]; rfl
 have hb:(r.err != 0)=true:=by simpa using h0
 have hlt:=ha.lt
 have HR:=Lib.hid hr0
 clear ha hrow hr0 h0
 go_enter_defers Tryz.func148,Tryz.ntmps148
 go_wp2_with fail
 have hf:Fr [] w ((w.alloc (Obj.cells #[vP br 0] 148)).alloc (Obj.cells #[Value.string ⟨#[]⟩] 9)):=((Fr.refl _ _).alloc _).alloc _
 exact ⟨Value.string ⟨#[]⟩,by simp [results,Tryz.results148,go_sem],rfl,hf,aY.fr HR.out hf⟩
def Rd.sum (r : Rd) : List UInt8 × Rd := if r.err = 0 then (if r.off + 32 ≤ r.D.length then ((r.D.drop r.off).take 32, r.done (r.off + 32)) else ([], r.fail 3)) else ([], r)
theorem PR (br:Nat) (r:Rd) (w:World) (hr:bB X w br r) (hk:r.Ok) (h0:r.err≠0) :
  Calls Tryz.prog 117 #[vP br 0] w fun e w'=>e = .returned (vS r.sum.1)∧Fr [br] w w'∧bB X w' br r.sum.2:=by
 have HR:=Lib.hid hr
 have HK:=Lib.hid hk
 clear hr hk
 refine eH Tryz.func117 6 (Mm.start w []) rfl<|Nc<|Nx<|pB [(vP br 0)] fun b1=>lx rfl<|Nb<|lL 0 rfl<|lk (.func (.func 149) #[] #[(vP b1 0)])<|Nx<|mE 148 #[(vP br 0),(.func (.func 149) #[] #[(vP b1 0)])] rfl kr (fun _=>kr) (fun w1 hM=>?_)
 have HR1:Hid (bB X w1 br r):=aY.fr HR.out hM.fr
 have HB1:Hid (At w1 b1 148 [vP br 0]):=hM.at (i:=0) rfl
 have HF1:=Lib.hid hM.fr
 refine (PQ br r _ w1 HR1.out h0).mono ?_
 rintro e w2 ⟨rfl,hf,hr2⟩
 refine ⟨_,w2,[],[],rfl,Mm.start w2 [],?_⟩
 clear hM
 exact lx rfl<|Nd<|sN [(.string ⟨#[]⟩)] fun w hM=>⟨by unfold Rd.sum; rw [if_neg h0]; rfl,((HF1.out.trans hf).trans hM.fr).mono si,by unfold Rd.sum; rw [if_neg h0]; exact aY.fr hr2 hM.fr⟩
theorem PT (br:Nat) (r:Rd) (w:World) (hr:bB X w br r) (hk:r.Ok) (h0:r.err=0) (hf32:r.off+32≤r.D.length) :
  Calls Tryz.prog 117 #[vP br 0] w fun e w'=>e = .returned (vS r.sum.1)∧Fr [br] w w'∧bB X w' br r.sum.2:=by
 have HR:=Lib.hid hr
 have HK:=Lib.hid hk
 clear hr hk
 refine eH Tryz.func117 6 (Mm.start w []) rfl<|Nc<|Nx<|pB [(vP br 0)] fun b1=>lx rfl<|Nb<|lL 0 rfl<|lk (.func (.func 149) #[] #[(vP b1 0)])<|Nx<|mE 148 #[(vP br 0),(.func (.func 149) #[] #[(vP b1 0)])] rfl kr (fun _=>kr) (fun w1 hM=>?_)
 have HR1:Hid (bB X w1 br r):=aY.fr HR.out hM.fr
 have HB1:Hid (At w1 b1 148 [vP br 0]):=hM.at (i:=0) rfl
 have HF1:=Lib.hid hM.fr
 refine (PN br r.D r.off r.last (r.off+32) ((r.D.drop r.off).take 32) b1 w1 (by have h:=HR1.out; unfold bB at h; rw [h0] at h; exact h) (fun W hf hr=>(PH b1 br r.D r.off r.last 0 W (HB1.out.fr hf si) hr HK.out.len HK.out.off hf32))).mono ?_
 rintro e w2 ⟨rfl,hf,hr2⟩
 refine ⟨_,w2,[],[],rfl,Mm.start w2 [],?_⟩
 clear hM
 exact lx rfl<|Nd<|sN [(vS ((r.D.drop r.off).take 32))] fun w hM=>⟨by unfold Rd.sum; rw [if_pos h0,if_pos hf32]; rfl,((HF1.out.mono si).trans hf).trans (hM.fr.mono si),by unfold Rd.sum Rd.done bB; rw [if_pos h0,if_pos hf32]; have h:=aY.fr hr2 hM.fr; rw [← h0] at h; exact h⟩
theorem PU (br:Nat) (r:Rd) (w:World) (hr:bB X w br r) (hk:r.Ok) (h0:r.err=0) (hf32:¬ r.off+32≤r.D.length) :
  Calls Tryz.prog 117 #[vP br 0] w fun e w'=>e = .returned (vS r.sum.1)∧Fr [br] w w'∧bB X w' br r.sum.2:=by
 have HR:=Lib.hid hr
 have HK:=Lib.hid hk
 clear hr hk
 refine eH Tryz.func117 6 (Mm.start w []) rfl<|Nc<|Nx<|pB [(vP br 0)] fun b1=>lx rfl<|Nb<|lL 0 rfl<|lk (.func (.func 149) #[] #[(vP b1 0)])<|Nx<|mE 148 #[(vP br 0),(.func (.func 149) #[] #[(vP b1 0)])] rfl kr (fun _=>kr) (fun w1 hM=>?_)
 have HR1:Hid (bB X w1 br r):=aY.fr HR.out hM.fr
 have HB1:Hid (At w1 b1 148 [vP br 0]):=hM.at (i:=0) rfl
 have HF1:=Lib.hid hM.fr
 refine (PO br r.D r.off r.last 3 [] b1 w1 (by have h:=HR1.out; unfold bB at h; rw [h0] at h; exact h) (by decide) (fun W hf hr=>((PI b1 br r.D r.off r.last 0 W (HB1.out.fr hf si) hr HK.out.len HK.out.off om).mono (fun e w' h=>⟨h.1,h.2.1,r.off,h.2.2⟩)))).mono ?_
 rintro e w2 ⟨rfl,hf,hr2⟩
 refine ⟨_,w2,[],[],rfl,Mm.start w2 [],?_⟩
 clear hM
 exact lx rfl<|Nd<|sN [(.string ⟨#[]⟩)] fun w hM=>⟨by unfold Rd.sum; rw [if_pos h0,if_neg hf32]; rfl,((HF1.out.mono si).trans hf).trans (hM.fr.mono si),by unfold Rd.sum Rd.fail bB; rw [if_pos h0,if_neg hf32]; exact aY.fr hr2 hM.fr⟩
theorem Hu (br:Nat) (r:Rd) (w:World) (hr:bB X w br r) (hk:r.Ok):Calls Tryz.prog 117 #[vP br 0] w fun e w'=>e = .returned (vS r.sum.1)∧Fr [br] w w'∧bB X w' br r.sum.2:=by
 by_cases h0:r.err=0
 ·by_cases hf:r.off+32≤r.D.length
  ·exact PT br r w hr hk h0 hf
  ·exact PU br r w hr hk h0 hf
 ·exact PR br r w hr hk h0
end
theorem CW (n:Nat):0 < (aD n).length:=by
 by_cases h:n < 128
 ·rw [mZ n h]; simp
 ·rw [pG n h]; simp
theorem Hv (n:Nat):∀ l:List UInt8,fE (aD n++l) (aD n).length=n:=by
 induction n using Nat.strongRecOn with
 | _ n ih =>
   intro l
   by_cases hn:n < 128
   ·rw [mZ n hn]
    simp [fE]
    omega
   ·rw [pG n hn]
    have h:=ih (n / 128) (Nat.div_lt_self om om) l
    rw [List.length_cons,List.cons_append,fE,h,FM _ om]
    omega
theorem PW (n:Nat):gA (nC n)=n:=by
 unfold gA nC
 by_cases h:n % 2=1
 ·rw [if_pos h,if_pos om]; omega
 ·rw [if_neg h,if_neg om]; omega
theorem Hw:∀ (l:List UInt8) (j:Nat) (b:UInt8),j < ahead l→l[j]?=some b→128≤b.toNat
 | [],j,b,h,_=>by simp [ahead] at h
 | c::l,j,b,h,hb=>by
   rw [ahead] at h
   split at h
   ·omega
   ·cases j with
    | zero =>
      simp at hb
      subst hb
      omega
    | succ j=>exact Hw l j b om (by simpa using hb)
theorem Hx:∀ (l:List UInt8) (b:UInt8),l[ahead l]?=some b→b.toNat < 128
 | [],b,h=>by simp at h
 | c::l,b,h=>by
   rw [ahead] at h
   split at h
   ·rename_i hc
    simp at h
    subst h
    exact hc
   ·exact Hx l b (by simpa using h)
theorem CX (D:List UInt8) (off n m:Nat) (h:dI D off=some (n,m)):D.drop off=aD n++D.drop m:=by
 unfold dI at h
 split at h
 ·cases h
 ·rename_i b hb
  split at h
  ·rename_i hc
   simp only [Option.some.injEq,Prod.mk.injEq] at h
   obtain ⟨rfl,rfl⟩:=h
   have:=(MZ (ahead (D.drop off)) (D.drop off) (fun j c hj hcj=>Hw _ j c hj hcj) ⟨b,hb,Hx _ b hb,hc.2.1⟩).1
   rw [List.drop_drop] at this
   rw [show off+ahead (D.drop off)+1=off+(ahead (D.drop off)+1) by omega]
   exact this
  ·cases h
theorem CY (D:List UInt8) (off n:Nat) (rest:List UInt8) (h:D.drop off=aD n++rest) (hn:cG n):dI D off=some (n,off+(aD n).length):=by
 have hp:=CW n
 have hl:=eJ n hn
 obtain ⟨k,hk⟩:∃ k,(aD n).length=k+1:=⟨(aD n).length - 1,om⟩
 have hget:∀ j,j < k+1→D[off+j]?=(aD n)[j]?:=by
  intro j hj
  rw [← List.getElem?_drop,h,List.getElem?_append_left om]
 have hx:=List.getElem?_eq_getElem (l:=aD n) (i:=k) om
 generalize (aD n)[k]=x at hx
 have hx':D[off+k]?=some x:=by rw [hget k om]; exact hx
 obtain ⟨_,g2⟩:=FN n k x hx
 obtain ⟨g3,g4⟩:=g2 om
 rw [tZ D off k x (fun j b hj hb=>(FN n j b (by rw [← hget j om]; exact hb)).1 om) hx' g3,if_pos,hk]
 ·have ea:=Hv n rest
  rw [hk] at ea
  rw [h,ea]
  rfl
 ·refine ⟨om,fun hh=>g4 hh.1 hh.2,fun hh=>?_⟩
  have ea:=Hv n rest
  rw [hk,← h] at ea
  have es:=qJ k (D.drop off) x (by rw [List.getElem?_drop]; exact hx')
  rw [ea,hh.1] at es
  unfold cG at hn
  have:x.toNat % 128=x.toNat:=Nat.mod_eq_of_lt g3
  rw [this] at es
  have h9:(128:Nat) ^ 9=9223372036854775808:=by decide
  rw [h9] at es
  have:=hh.2
  omega
structure hZ (r r' : Rd) (bs : List UInt8) : Prop where
 err : r.err = 0
 D : r'.D = r.D
 bytes : r.D.drop r.off = bs ++ r.D.drop r'.off
theorem hZ.trans {a b c:Rd} {x y:List UInt8} (h:hZ a b x) (k:hZ b c y):hZ a c (x++y) :=
 ⟨h.err,k.D.trans h.D,by rw [h.bytes,List.append_assoc]; congr 1; have:=k.bytes; rwa [h.D] at this⟩
theorem sJ (r:Rd) (h:r.uint.2.err=0):hZ r r.uint.2 (aD r.uint.1):=by
 unfold Rd.uint at h ⊢
 by_cases he:r.err=0
 ·rw [if_pos he] at h ⊢
  cases hd:dI r.D r.off with
  | none=>rw [hd] at h; cases h
  | some p=>exact ⟨he,rfl,CX _ _ _ _ hd⟩
 ·rw [if_neg he] at h
  exact absurd h he
theorem PX (r:Rd) (h:r.int.2.err=0):hZ r r.int.2 (aD (gA r.int.1)):=by
 have:=sJ r h
 have e:gA r.int.1=r.uint.1:=PW _
 rw [e]
 exact this
structure cI (r : Rd) (bs : List UInt8) : Prop where
 err : r.err = 0
 bytes : r.D.drop r.off = bs
theorem cI.uint {r:Rd} {n:Nat} {rest:List UInt8} (h:cI r (aD n++rest)) (hn:cG n):r.uint.1=n∧cI r.uint.2 rest:=by
 have hd:=CY r.D r.off n rest h.bytes hn
 unfold Rd.uint
 rw [if_pos h.err,hd]
 refine ⟨rfl,h.err,?_⟩
 show r.D.drop (r.off+(aD n).length)=rest
 rw [← List.drop_drop,h.bytes,List.drop_left]
theorem cI.int {r:Rd} {v:Int} {rest:List UInt8} (h:cI r (aD (gA v)++rest)) (hv:mP v):r.int.1=v∧cI r.int.2 rest:=by
 obtain ⟨h1,h2⟩:=h.uint (zH v hv.1 hv.2)
 exact ⟨by show nC r.uint.1=v; rw [h1,PC],h2⟩
theorem Ak (r:Rd) (h:r.sum.2.err=0):hZ r r.sum.2 r.sum.1∧r.sum.1.length=32:=by
 unfold Rd.sum at h ⊢
 by_cases he:r.err=0
 ·rw [if_pos he] at h ⊢
  by_cases hf:r.off+32≤r.D.length
  ·rw [if_pos hf]
   refine ⟨⟨he,rfl,?_⟩,by simp; omega⟩
   show r.D.drop r.off=(r.D.drop r.off).take 32++r.D.drop (r.off+32)
   rw [← List.drop_drop,List.take_append_drop]
  ·rw [if_neg hf] at h
   cases h
 ·rw [if_neg he] at h
  exact absurd h he
theorem cI.sum {r:Rd} {k rest:List UInt8} (h:cI r (k++rest)) (hk:k.length=32):r.sum.1=k∧cI r.sum.2 rest:=by
 have hl:=congrArg List.length h.bytes
 rw [List.length_drop,List.length_append] at hl
 unfold Rd.sum
 rw [if_pos h.err,if_pos om]
 refine ⟨?_,h.err,?_⟩
 ·show (r.D.drop r.off).take 32=k
  rw [h.bytes,← hk,List.take_left]
 ·show r.D.drop (r.off+32)=rest
  rw [← List.drop_drop,h.bytes,← hk,List.drop_left]
theorem Rd.Ok.uint' {r:Rd} (h:r.Ok):r.uint.2.Ok:=h.uint fun n m hd=>(uO _ _ n m hd).2.1
theorem Rd.Ok.int {r:Rd} (h:r.Ok):r.int.2.Ok:=h.uint'
theorem Rd.Fo (r:Rd):mP r.int.1:=PB _ r.BU
theorem Rd.Ok.sum {r:Rd} (h:r.Ok):r.sum.2.Ok:=by
 unfold Rd.sum
 by_cases he:r.err=0
 ·rw [if_pos he]
  by_cases hf:r.off+32≤r.D.length
  ·rw [if_pos hf]; exact ⟨hf,h.len⟩
  ·rw [if_neg hf]; exact ⟨h.off,h.len⟩
 ·rw [if_neg he]; exact h
theorem Rd.zC (r:Rd):r.sum.1.length≤32:=by
 unfold Rd.sum
 split
 ·split
  ·simp; omega
  ·simp
 ·simp
theorem hZ.end_ {r r':Rd} {bs:List UInt8} (h:hZ r r' bs) (he:r'.end_=0):r.D.drop r.off=bs:=by
 unfold Rd.end_ at he
 have hoff:r'.D.length≤r'.off:=by
  split at he
  ·rename_i h1; exact absurd he h1
  ·split at he
   ·cases he
   ·omega
 rw [h.bytes,List.drop_eq_nil_of_le (by rw [← h.D]; exact hoff),List.append_nil]
theorem Rd.Mw {r:Rd} (h:r.end_=0):r.err=0:=by
 unfold Rd.end_ at h
 split at h
 ·exact h
 ·rename_i h1; omega
theorem cI.end_ {r:Rd} (h:cI r []):r.end_=0:=by
 have hl:=congrArg List.length h.bytes
 rw [List.length_drop,List.length_nil] at hl
 unfold Rd.end_
 rw [if_neg (by rw [h.err]; simp),if_neg om]
def iV (x : List UInt8) : List UInt8 := x ++ List.replicate (32 - x.length) 0
def Rd.cell (r : Rd) : BC × Rd := (⟨r.int.1, iV r.int.2.sum.1, r.int.2.sum.2.uint.1⟩, r.int.2.sum.2.uint.2)
def iA (r : Rd) : Nat → Rd
 | 0 => r
 | i + 1 => (iA r i).cell.2
def lR (r : Rd) (i : Nat) : List BC := (List.range i).map fun j => (iA r j).cell.1
def iO (r : Rd) (n i : Nat) : List BC := lR r i ++ List.replicate (n - i) BC.zero
def gD (D : List UInt8) : Rd := ⟨D, 0, 0, 0⟩
def kF (D : List UInt8) : Nat := (gD D).uint.1
def sK (D : List UInt8) : Rd := (gD D).uint.2.uint.2
def qT (D : List UInt8) : BT := ⟨lR (sK D) (kF D), (gD D).uint.2.uint.1⟩
def oO (D : List UInt8) : Rd := iA (sK D) (kF D)
theorem Hy {x:List UInt8} (h:x.length≤32):(iV x).length=32:=by simp [iV]; omega
theorem Rd.Ok.cell {r:Rd} (h:r.Ok):r.cell.2.Ok:=h.int.sum.uint'
theorem Rd.XM (r:Rd):r.cell.1.Ok:=⟨r.Fo,Hy (Rd.zC _),Rd.BU _⟩
theorem CZ {r:Rd} (h:r.Ok):∀ i,(iA r i).Ok
 | 0=>h
 | i+1=>(CZ h i).cell
theorem uP {D:List UInt8} (h:D.length≤4294967296):(gD D).Ok:=⟨Nat.zero_le _,h⟩
theorem uQ (r:Rd) (i:Nat):(lR r i).length=i:=by simp [lR]
theorem Da (r:Rd) (i:Nat):lR r (i+1)=lR r i++[(iA r i).cell.1]:=by simp [lR,List.range_succ]
theorem Hz (r:Rd) (i:Nat):∀ c∈lR r i,c.Ok:=by
 intro c hc
 unfold lR at hc
 obtain ⟨j,_,rfl⟩:=List.mem_map.1 hc
 exact Rd.XM _
theorem PY {r:Rd} {n i:Nat} (h:i≤n):(iO r n i).length=n:=by simp [iO,uQ]; omega
theorem PZ (r:Rd) (n i:Nat):fV (iO r n i):=by
 intro c hc
 rcases List.mem_append.1 hc with hc | hc
 ·exact Hz r i c hc
 ·rw [List.eq_of_mem_replicate hc]; exact BC.Ok.zero
theorem Qa (r:Rd) (n:Nat):iO r n 0=List.replicate n BC.zero:=by simp [iO,lR]
theorem Qb (r:Rd) (n:Nat):iO r n n=lR r n:=by simp [iO]
theorem Qc {r:Rd} {n i:Nat} (h:i < n):(iO r n i)[i]?=some BC.zero:=by
 unfold iO
 rw [List.getElem?_append_right (by rw [uQ]; exact Nat.le_refl _),uQ,Nat.sub_self,List.getElem?_replicate,if_pos om]
theorem Qd {r:Rd} {n i:Nat} (h:i < n):(iO r n i).set i (iA r i).cell.1=iO r n (i+1):=by
 unfold iO
 rw [List.set_append_right _ _ (by rw [uQ]; exact Nat.le_refl _),uQ,Nat.sub_self,Da,List.append_assoc]
 congr 1
 rw [show n - i=(n - (i+1))+1 by omega,List.replicate_succ]
 rfl
theorem Ia (D:List UInt8):(qT D).Ok:=⟨Hz _ _,Rd.BU _⟩
theorem Db (D:List UInt8):(qT D).cells.length=kF D:=uQ _ _
theorem Ib (r:Rd) (h:r.cell.2.err=0):hZ r r.cell.2 r.cell.1.enc:=by
 have h3:=sJ _ h
 have h2:=Ak r.int.2 h3.err
 have h1:=PX r h2.1.err
 have e:iV r.int.2.sum.1=r.int.2.sum.1:=by simp [iV,h2.2]
 have:=(h1.trans h2.1).trans h3
 unfold BC.enc
 show hZ r _ (aD (gA r.int.1)++iV r.int.2.sum.1++aD r.int.2.sum.2.uint.1)
 rw [e]
 exact this
theorem Qe (r:Rd) (i:Nat) (h:(iA r (i+1)).err=0):(iA r i).err=0:=(Ib _ h).err
theorem Ic (r:Rd):∀ i,(iA r i).err=0→hZ r (iA r i) ((lR r i).flatMap BC.enc)
 | 0,h=>⟨h,rfl,rfl⟩
 | i+1,h=>by
   rw [Da,List.flatMap_append]
   have:=(Ic r i (Qe r i h)).trans (Ib _ h)
   rw [List.flatMap_singleton]
   exact this
theorem Qf {D:List UInt8} (h:(oO D).end_=0):(qT D).enc=D:=by
 have h3:=Ic (sK D) (kF D) (Rd.Mw h)
 have h2:=sJ (gD D).uint.2 h3.err
 have h1:=sJ (gD D) h2.err
 have:=((h1.trans h2).trans h3).end_ h
 unfold BT.enc gJ
 rw [List.take_length,Db]
 exact this.symm
/-! ### An encoding is decoded -/
theorem cI.cell {r : Rd} {c : BC} {rest : List UInt8} (h : cI r (c.enc ++ rest)) (hc : c.Ok) : r.cell.1 = c ∧ cI r.cell.2 rest := by
 unfold BC.enc at h
 rw [List.append_assoc, List.append_assoc] at h
 obtain ⟨a1, a2⟩ := h.int hc.count
 obtain ⟨b1, b2⟩ := a2.sum hc.keys
 obtain ⟨c1, c2⟩ := b2.uint hc.checks
 refine ⟨?_, c2⟩
 unfold Rd.cell
 rw [a1, b1, c1]
 have e : iV c.keys = c.keys := by simp [iV, hc.keys]
 rw [e]
theorem Ie {r:Rd} (l:List BC) (hl:∀ c∈l,c.Ok) (h:cI r (l.flatMap BC.enc)):∀ i,i≤l.length→lR r i=l.take i∧cI (iA r i) ((l.drop i).flatMap BC.enc)
 | 0,_=>⟨by simp [lR],h⟩
 | i+1,hi=>by
   obtain ⟨h1,h2⟩:=Ie l hl h i om
   have hlt:i < l.length:=om
   rw [List.drop_eq_getElem_cons hlt,List.flatMap_cons] at h2
   obtain ⟨h3,h4⟩:=h2.cell (hl _ (List.getElem_mem _))
   refine ⟨?_,h4⟩
   rw [Da,h1,h3,List.take_succ_eq_append_getElem hlt]
theorem Qg {t:BT} (h:t.Ok) (hn:t.cells.length≤3072):kF t.enc=t.cells.length∧qT t.enc=t∧(oO t.enc).end_=0:=by
 have h0:cI (gD t.enc) (aD t.cells.length++(aD t.seed++t.cells.flatMap BC.enc)):=⟨rfl,by show t.enc=_; unfold BT.enc gJ; rw [List.take_length,List.append_assoc]⟩
 obtain ⟨a1,a2⟩:=h0.uint (by unfold cG; omega)
 obtain ⟨b1,b2⟩:=a2.uint h.seed
 obtain ⟨c1,c2⟩:=Ie t.cells h.cells b2 t.cells.length (Nat.le_refl _)
 have e:kF t.enc=t.cells.length:=a1
 refine ⟨e,?_,?_⟩
 ·unfold qT
  rw [e]
  unfold sK
  rw [c1,b1,List.take_length]
 ·unfold oO
  rw [e]
  rw [List.drop_length] at c2
  exact c2.end_
section
section
variable {w0 w w' : World} {F : List Nat} {cs cs' : List Ch}
theorem Mm.lift (h:Mm w0 F cs w) (h':Mm w [] cs' w'):Mm w0 F (cs++cs') w':=by
 have h0:=h.iH h'.fr
 have hsz:=h.fr.size
 have lo:∀ b∈cs'.flatMap Ch.fp,w.heap.size≤b:=fun b hb=>(h'.own b hb).elim (fun x=>by cases x) id
 refine ⟨h0.fr,?_,?_,?_⟩
 ·intro x hx
  rcases List.mem_append.1 hx with hx | hx
  ·exact h0.hold x hx
  ·exact h'.hold x hx
 ·rw [List.flatMap_append,List.nodup_append]
  refine ⟨h.nodup,h'.nodup,fun a ha b hb e=>?_⟩
  subst e
  have h1:=h.Fh ha
  have h2:=lo a hb
  omega
 ·intro b hb
  rw [List.flatMap_append] at hb
  rcases List.mem_append.1 hb with hb | hb
  ·exact h.own b hb
  ·exact .inr (by have:=lo b hb; omega)
end
def iW (bt bc cap : Nat) (rest : List Value) (t : BT) : Ch where
 fp := [bt, bc]
 holds w := dU w bt bc cap rest t
 ok w w' hb h := ⟨(hb bt (by simp)).trans h.tab, (hb bc (by simp)).trans h.cells, h.ok, h.size, h.cap⟩
 lt w h b hb := by
  rcases List.mem_cons.1 hb with rfl | hb
  ·exact h.tab.lt
  ·rw [List.mem_singleton] at hb
   subst hb
   exact h.cells.lt
theorem If {w:World} {bt bc cap:Nat} {rest:List Value} {t:BT} (h:dU w bt bc cap rest t):(iW bt bc cap rest t).fp.Nodup:=by
 have:=h.tab.ne h.cells (by decide)
 simpa [iW] using this
section
variable {w0 w w' : World} {F : List Nat} {cs : List Ch}
theorem Mm.XN (h:Mm w0 F cs w) (i:Nat) {bt bc cap:Nat} {rest:List Value} {t t':BT} (hi:cs[i]?=some (iW bt bc cap rest t)) (hf:Fr [bc] w w') (ht:dU w' bt bc cap rest t'):Mm w0 F (cs.set i (iW bt bc cap rest t')) w' :=
 h.swap i hi (c':=iW bt bc cap rest t') (hf.mono fun x hx=>.inl (by simp [iW] at hx ⊢; exact .inr hx)) ht (fun b hb=>.inl hb) (If ht)
theorem Mm.XO (h:Mm w0 F cs w) {bt bc cap:Nat} {rest:List Value} {t:BT} (hf:Fr [] w w') (ht:dU w' bt bc cap rest t) (h1:w.heap.size≤bt) (h2:w.heap.size≤bc):Mm w0 F (cs++[iW bt bc cap rest t]) w' :=
 h.push (c:=iW bt bc cap rest t) hf ht (fun b hb=>by simp [iW] at hb; omega) (If ht)
end
end
abbrev qU := List UInt8 × Bool
def gK (t : BT) (o : qU) : BT := if o.1.length = 32 then t.change o.1 (if o.2 then -1 else 1) else t
def jK (t : BT) (ops : List qU) : BT := ops.foldl gK t
theorem change_len (t:BT) (key:List UInt8) (aD:Int):(t.change key aD).cells.length=t.cells.length:=by rw [← BT.Fl,BT.tP]
theorem change_seed (t:BT) (key:List UInt8) (aD:Int):(t.change key aD).seed=t.seed:=by rw [← BT.Fl,BT.pD]
theorem Ig (x:Int):∃ k:Int,IntKind.i64.wrap x=x+k*18446744073709551616:=by
 rw [IntKind.wrap_i64]
 exact ⟨((x+9223372036854775808) % 18446744073709551616 - 9223372036854775808 - x) / 18446744073709551616,om⟩
theorem Ih (x k:Int):IntKind.i64.wrap (x+k*18446744073709551616)=IntKind.i64.wrap x:=by
 rw [IntKind.wrap_i64,IntKind.wrap_i64]; omega
theorem Al (x b:Int):IntKind.i64.wrap (IntKind.i64.wrap x+b)=IntKind.i64.wrap (x+b):=by
 obtain ⟨k,hk⟩:=Ig x
 rw [hk,show x+k*18446744073709551616+b=(x+b)+k*18446744073709551616 by omega,Ih]
theorem Ii:∀ a k l:List UInt8,dR (dR a k) l=dR (dR a l) k
 | [],_,_=>by simp [dR]
 | _::_,[],l=>by simp [dR]
 | _::_,_::_,[]=>by simp [dR]
 | x::a,y::k,z::l=>by
   have:=Ii a k l
   simp only [dR,List.zipWith_cons_cons] at this ⊢
   rw [this]
   congr 1
   rw [UInt8.xor_assoc,UInt8.xor_comm y z,← UInt8.xor_assoc]
theorem Ij:∀ a k:List UInt8,a.length=k.length→dR (dR a k) k=a
 | [],_,_=>by simp [dR]
 | x::a,[],h=>by simp at h
 | x::a,y::k,h=>by
   have:=Ij a k (by simpa using h)
   simp only [dR,List.zipWith_cons_cons] at this ⊢
   rw [this]
   congr 1
   rw [UInt8.xor_assoc,UInt8.xor_self,UInt8.xor_zero]
theorem BC.add_comm (c:BC) (k l:List UInt8) (a b:Int) (x y:Nat):(c.add k a x).add l b y=(c.add l b y).add k a x:=by
 simp only [BC.add,BC.mk.injEq]
 refine ⟨?_,Ii _ _ _,?_⟩
 ·rw [Al,Al]; congr 1; omega
 ·rw [Nat.xor_assoc,Nat.xor_comm x y,← Nat.xor_assoc]
theorem BC.XP {c:BC} (h:c.Ok) (k:List UInt8) (hk:k.length=32) (a:Int) (x:Nat):(c.add k a x).add k (-a) x=c:=by
 obtain ⟨n,ks,ch⟩:=c
 simp only [BC.add,BC.mk.injEq]
 refine ⟨?_,Ij _ _ (by rw [hk]; exact h.keys),?_⟩
 ·rw [Al,show n+a + -a=n by omega]
  have:=h.count
  unfold mP at this
  rw [IntKind.wrap_i64]
  simp only at this
  omega
 ·rw [Nat.xor_assoc,Nat.xor_self,Nat.xor_zero]
theorem Qh {α:Type} (l:List α) (i j:Nat) (f g:α→α) (h:∀ x,f (g x)=g (f x)):(l.modify i f).modify j g=(l.modify j g).modify i f:=by
 apply List.ext_getElem?
 intro k
 simp only [List.getElem?_modify]
 by_cases h1:i=k <;> by_cases h2:j=k <;> simp [h1,h2] <;> (cases l[k]? <;> simp [h])
def BT.mod (t : BT) (i : Nat) (f : BC → BC) : BT := { t with cells := t.cells.modify i f }
theorem BT.wD (t:BT) (key:List UInt8) (aD:Int) (i:Nat):t.eC key aD i=t.mod (dB t.cells.length t.seed key i) fun c=>c.add key aD (eB t.seed 3 key):=rfl
theorem BT.Fp (t:BT) (i:Nat) (f:BC→BC):(t.mod i f).cells.length=t.cells.length:=by simp [BT.mod]
theorem BT.Fq (t:BT) (k l:List UInt8) (a b:Int) (i j:Nat):(t.eC k a i).eC l b j=(t.eC l b j).eC k a i:=by
 rw [BT.wD,BT.wD,BT.wD,BT.wD,BT.Fp,BT.Fp]
 show BT.mk _ _=BT.mk _ _
 congr 1
 exact Qh _ _ _ _ _ (fun x=>BC.add_comm x _ _ _ _ _ _)
theorem BT.Fs (t:BT) (k l:List UInt8) (a b:Int):(t.change k a).change l b=(t.change l b).change k a:=by
 unfold BT.change
 rw [BT.Fq _ k l a b 2 0,BT.Fq _ k l a b 1 0,BT.Fq _ k l a b 0 0,BT.Fq _ k l a b 2 1,BT.Fq _ k l a b 1 1,BT.Fq _ k l a b 0 1,BT.Fq _ k l a b 2 2,BT.Fq _ k l a b 1 2,BT.Fq _ k l a b 0 2]
theorem Qi {l:List BC} (h:∀ c∈l,c.Ok) (i:Nat) (k:List UInt8) (hk:k.length=32) (a:Int) (x:Nat):(l.modify i fun c=>c.add k a x).modify i (fun c=>c.add k (-a) x)=l:=by
 apply List.ext_getElem?
 intro j
 simp only [List.getElem?_modify]
 by_cases h1:i=j
 ·subst h1
  cases hq:l[i]? with
  | none=>simp
  | some c=>simp [BC.XP (h c (List.mem_of_getElem? hq)) k hk]
 ·simp [h1]
theorem BT.Ft {t:BT} (h:t.Ok) (k:List UInt8) (hk:k.length=32) (a:Int) (i:Nat):(t.eC k a i).eC k (-a) i=t:=by
 rw [BT.wD,BT.wD,BT.Fp]
 show BT.mk _ _=t
 obtain ⟨cs,s⟩:=t
 congr 1
 exact Qi h.cells _ k hk a _
theorem BT.Fu {t:BT} (h:t.Ok) (k:List UInt8) (hk:k.length=32) (a:Int):(t.change k a).change k (-a)=t:=by
 have h1:(t.fL k a 1).Ok:=BT.Ok.fL h hk a 1
 have h2:(t.fL k a 2).Ok:=BT.Ok.fL h hk a 2
 show ((((((t.eC k a 0).eC k a 1).eC k a 2).eC k (-a) 0).eC k (-a) 1).eC k (-a) 2)=t
 rw [BT.Fq _ k k (-a) (-a) 0 1,BT.Fq _ k k (-a) (-a) 0 2,BT.Fq _ k k (-a) (-a) 1 2]
 rw [BT.Ft (t:=(t.eC k a 0).eC k a 1) h2 k hk a 2,BT.Ft (t:=t.eC k a 0) h1 k hk a 1,BT.Ft h k hk a 0]
theorem Qj (t:BT) (p q:qU):gK (gK t p) q=gK (gK t q) p:=by
 unfold gK
 by_cases h1:p.1.length=32 <;> by_cases h2:q.1.length=32 <;> simp [h1,h2,BT.Fs]
theorem Qk (t:BT) (a b:List qU):jK t (a++b)=jK (jK t a) b:=by simp [jK,List.foldl_append]
theorem Dc {a b:List qU} (h:a.Perm b):∀ t:BT,jK t a=jK t b:=by
 induction h with
 | nil=>intro t; rfl
 | cons x _ ih=>intro t; exact ih (gK t x)
 | swap x y l=>intro t; show jK (gK (gK t y) x) l=jK (gK (gK t x) y) l; rw [Qj]
 | trans _ _ ih1 ih2=>intro t; rw [ih1,ih2]
def mU (l : List (List UInt8)) : List qU := l.map fun k => (k, false)
def nL (l : List (List UInt8)) : List qU := l.map fun k => (k, true)
theorem Ql {c:BC} (h:c.isZero=true):c=BC.zero:=by
 simp only [BC.isZero,Bool.and_eq_true,decide_eq_true_eq] at h
 obtain ⟨n,k,x⟩:=c
 simp only at h
 obtain ⟨⟨rfl,rfl⟩,rfl⟩:=h
 rfl
theorem Qm {t:BT} (h:t.empty=true):t=BT.new t.cells.length t.seed:=by
 obtain ⟨cs,s⟩:=t
 show BT.mk _ _=BT.mk _ _
 congr 1
 unfold BT.empty at h
 rw [List.all_eq_true] at h
 exact List.eq_replicate_iff.2 ⟨rfl,fun c hc=>Ql (h c hc)⟩
theorem Ik {t:BT} (h:t.Ok) (i:Nat):(t.cellAt i).Ok:=by
 unfold BT.cellAt
 rw [List.getD_eq_getElem?_getD]
 cases hq:t.cells[i]? with
 | none=>exact BC.Ok.zero
 | some c=>exact h.cells c (List.mem_of_getElem? hq)
structure sO (t0 : BT) (s : fG) : Prop where
 ok : s.t.Ok
 len : s.t.cells.length = t0.cells.length
 seed : s.t.seed = t0.seed
 run : jK s.t (mU s.added ++ nL s.removed) = t0
theorem sO.step {t0:BT} {s:fG} (h:sO t0 s) {c:BC} (hc:c.Ok) (h1:c.count=1∨c.count = -1):sO t0 (s.take c):=by
 have hk:=hc.keys
 refine ⟨BT.Ok.fL h.ok hk _ 3,by rw [← h.len]; exact change_len _ _ _,by rw [← h.seed]; exact change_seed _ _ _,?_⟩
 rcases h1 with h1 | h1
 ·simp only [fG.take,h1,if_true]
  have hp:(mU (s.added++[c.keys])++nL s.removed).Perm ((c.keys,false)::(mU s.added++nL s.removed)):=by
   simp only [mU,List.map_append,List.map_cons,List.map_nil]
   rw [List.append_assoc]
   exact List.perm_middle
  rw [Dc hp]
  show jK (gK (s.t.change c.keys (-1)) (c.keys,false)) _=t0
  have hu:=BT.Fu h.ok c.keys hk (-1)
  have e:gK (s.t.change c.keys (-1)) (c.keys,false)=s.t:=by
   unfold gK
   simpa [hk] using hu
  rw [e]
  exact h.run
 ·have hne:¬ ((-1:Int)=1):=om
  simp only [fG.take,h1,hne,if_false]
  have hp:(mU s.added++nL (s.removed++[c.keys])).Perm ((c.keys,true)::(mU s.added++nL s.removed)):=by
   simp only [nL,List.map_append,List.map_cons,List.map_nil]
   rw [← List.append_assoc]
   have:=List.perm_middle (a:=((c.keys,true):qU)) (l₁:=mU s.added++s.removed.map fun k=>(k,true)) (l₂:=[])
   simpa using this
  rw [Dc hp]
  show jK (gK (s.t.change c.keys (- -1)) (c.keys,true)) _=t0
  have hu:=BT.Fu h.ok c.keys hk 1
  have e:gK (s.t.change c.keys (- -1)) (c.keys,true)=s.t:=by
   unfold gK
   simpa [hk] using hu
  rw [e]
  exact h.run
theorem Qn {t:BT} {i:Nat} (h:t.first=some i):(t.cellAt i).pure t.seed=true∧i < t.cells.length:=by
 unfold BT.first at h
 rw [List.findIdx?_eq_some_iff_getElem] at h
 obtain ⟨h1,h2,_⟩:=h
 unfold BT.cellAt
 rw [List.getD_eq_getElem?_getD,List.getElem?_eq_getElem h1]
 exact ⟨h2,h1⟩
theorem Qo {seed:Nat} {c:BC} (h:c.pure seed=true):c.count=1∨c.count = -1:=by
 simp only [BC.pure,Bool.and_eq_true,Bool.or_eq_true,decide_eq_true_eq] at h
 exact h.1
theorem Il {t0:BT}:∀ (n:Nat) {s s':fG},sO t0 s→eL n s=some s'→sO t0 s'
 | 0,s,s',h,e=>by cases e; exact h
 | n+1,s,s',h,e=>by
   unfold eL at e
   cases hf:s.t.first with
   | none=>rw [hf] at e; cases e; exact h
   | some i =>
     rw [hf] at e
     simp only at e
     split at e
     ·cases e
     ·exact Il n (h.step (Ik h.ok i) (Qo (Qn hf).1)) e
theorem Qp {t:BT} (h:t.Ok) {a b:List (List UInt8)} (hk:t.keys=some (a,b)):jK (jK (BT.new t.cells.length t.seed) (mU a)) (nL b)=t:=by
 unfold BT.keys BT.raw at hk
 cases hp:eL t.cells.length ⟨t,[],[],[]⟩ with
 | none=>rw [hp] at hk; simp at hk
 | some s =>
   rw [hp] at hk
   cases he:s.t.empty with
   | false=>simp [he] at hk
   | true =>
     simp only [he,if_true,Option.map_some,Option.some.injEq,Prod.mk.injEq] at hk
     have hi:sO t s:=Il _ (⟨h,rfl,rfl,rfl⟩:sO t ⟨t,[],[],[]⟩) hp
     have hn:=Qm he
     rw [hi.len,hi.seed] at hn
     rw [← Qk]
     have hperm:(mU a++nL b).Perm (mU s.added++nL s.removed):=by
      rw [← hk.1,← hk.2]
      exact ((List.mergeSort_perm _ _).map _).append ((List.mergeSort_perm _ _).map _)
     rw [Dc hperm,← hn]
     exact hi.run
def BC.sub (c d : BC) : BC := c.add d.keys (-d.count) d.checks
def BT.sub (t u : BT) : BT := ⟨List.zipWith BC.sub t.cells u.cells, t.seed⟩
def iX (t u : BT) (l : List BC) (i : Nat) : List BC := (t.sub u).cells.take i ++ l.drop i
theorem BC.Ok.sub {c d:BC} (h1:c.Ok) (h2:d.Ok):(c.sub d).Ok:=by
 have:=Ad h1 h2.keys (-d.count) h2.checks 32
 rwa [CE c d.keys (-d.count) d.checks h1.keys h2.keys] at this
theorem nM {t u:BT} (h:u.cells.length=t.cells.length):(t.sub u).cells.length=t.cells.length:=by simp [BT.sub,h]
theorem Dd {t u:BT} (h1:t.Ok) (h2:u.Ok):(t.sub u).Ok:=by
 refine ⟨fun c hc=>?_,h1.seed⟩
 obtain ⟨i,hi,rfl⟩:=List.mem_iff_getElem.1 hc
 simp only [BT.sub,List.length_zipWith] at hi
 simp only [BT.sub,List.getElem_zipWith]
 exact BC.Ok.sub (h1.cells _ (List.getElem_mem _)) (h2.cells _ (List.getElem_mem _))
theorem Qq {t u:BT} {i:Nat} {c d:BC} (hc:t.cells[i]?=some c) (hd:u.cells[i]?=some d):(t.sub u).cells[i]?=some (c.sub d):=by
 simp [BT.sub,List.getElem?_zipWith,hc,hd]
theorem Qr (t u:BT) (l:List BC):iX t u l 0=l:=by simp [iX]
theorem Qt {t u:BT} {l:List BC} (h:u.cells.length=t.cells.length) (hl:l.length=t.cells.length):iX t u l t.cells.length=(t.sub u).cells:=by
 unfold iX
 rw [List.take_of_length_le (by rw [nM h]; exact Nat.le_refl _),List.drop_of_length_le om,List.append_nil]
theorem Qu {t u:BT} {l:List BC} (h:u.cells.length=t.cells.length) (hl:l.length=t.cells.length) (i:Nat) (hi:i≤t.cells.length):(iX t u l i).length=t.cells.length:=by
 unfold iX
 rw [List.length_append,List.length_take,List.length_drop,nM h,hl]
 omega
theorem Qv {t u:BT} {l:List BC} (h:u.cells.length=t.cells.length) (i:Nat) (hi:i < t.cells.length):(iX t u l i)[i]?=l[i]?:=by
 unfold iX
 have h1:((t.sub u).cells.take i).length=i:=by rw [List.length_take,nM h]; omega
 rw [List.getElem?_append_right om,h1,List.getElem?_drop]
 simp
theorem Qw {t u:BT} {l:List BC} (h:u.cells.length=t.cells.length) (hl:l.length=t.cells.length) {i:Nat} {x:BC} (hi:i < t.cells.length) (hx:(t.sub u).cells[i]?=some x):(iX t u l i).set i x=iX t u l (i+1):=by
 unfold iX
 have h1:((t.sub u).cells.take i).length=i:=by rw [List.length_take,nM h]; omega
 obtain ⟨h2,h3⟩:=List.getElem?_eq_some_iff.1 hx
 rw [List.set_append_right _ _ om,h1,Nat.sub_self,List.take_succ_eq_append_getElem h2,h3,List.drop_eq_getElem_cons om,List.set_cons_zero]
 simp
theorem Qx {t u:BT} {l:List BC} (h1:t.Ok) (h2:u.Ok) (hl:fV l) (i:Nat):fV (iX t u l i):=by
 intro c hc
 rcases List.mem_append.1 hc with hc | hc
 ·exact (Dd h1 h2).cells c (List.mem_of_mem_take hc)
 ·exact hl c (List.mem_of_mem_drop hc)
theorem fV.set {l:List BC} (h:fV l) (i:Nat) {c:BC} (hc:c.Ok):fV (l.set i c):=by
 intro x hx
 rcases List.mem_or_eq_of_mem_set hx with hx | rfl
 ·exact h x hx
 ·exact hc
end Go.Proofs.YtignomkdngnmgaaGreatDoor
