/- Part 1 of a proof: what its row uses. -/
import Derived.WalkKit
import Derived.Below
import Derived.Deep.Draws
import Derived.Lib.Hide
import Derived.Maps.AppendAt
import Derived.OrdersHeld
import Derived.Laws.CopyRow
import Derived.Laws.IdiomCopy
import Derived.Deep.LoopGhost
import Derived.Laws.MakeOwn
import Derived.Test.YtignomkdngnmgaaGreatDoorProg
import Derived.Laws.BitsAllLaws
import Derived.Laws.IdiomStrings
import Derived.Lib.AppendStr
import Derived.Lib.IndexBytes
import Derived.Sort.Walk0
import Derived.Deep.RegionHeld3
import Derived.Deep.QuietTactic
import Derived.BigQuiet
import Derived.Outline
import Derived.StillTailTactics
import Derived.Deep.RegionLaw
import Derived.WalkSpells
import Derived.WalkLawsBesides
import Derived.Stop.BytesEq
import Derived.Shelf.SlIter.Nil
import Derived.Shelf.SlIter.Sorted
import Derived.Shelf.Small.Bits
import Derived.Shelf.Strconv.Itoa0
import Derived.Shelf.Sort.Plain
import Derived.Shelf.Slices.In.SortNone
import Derived.Maps.OwnOps
import Derived.Maps.OwnSet
import Derived.Maps.Views
import Derived.StringKeys
import Derived.Defers
import Derived.Deep.DeepCutAuto
import Derived.Deep.CutBlock
import Derived.Lib.BufferWrite
import Derived.Scope
import Derived.Lib.BitFns
import Derived.LoopN
import Derived.Test.YtignomkdngnmgaaGreatDoorRows
import Derived.ProofKit
import Derived.OpenShut
import Derived.Deep.Slices
import Derived.LaidMore
import Derived.Stop.Joined
import Derived.Test.YtignomkdngnmgaaGreatDoorTie
import Derived.Test.YtignomkdngnmgaaGreatDoorCards
import Derived.SevenTiedAt
import Derived.ChangeMaps5
set_option maxRecDepth 100000
set_option maxHeartbeats 1000000
namespace Go.Proofs.YtignomkdngnmgaaGreatDoor
open Go.RowKit
theorem kr {p : Prop} (h : p := by kernel_rfl) : p := h
theorem om {p : Prop} (h : p := by omega) : p := h
theorem ag {p : Prop} (h : p := by assumption) : p := h
theorem si {p : Prop} (h : p := by simp) : p := h
theorem fN {p : Prop} (h : p := by first | exact (List.length_append ..).symm | (simp; done) | (simp; omega)) : p := h
abbrev bT : Value := .bool true
abbrev bF : Value := .bool false
abbrev nS : Value := .slice none 0 0
abbrev vi (z : Int) : Value := .int .i64 z
section
def At (w : World) (b : Nat) (t : TypeId) (l : List Value) : Prop := w.heap[b]? = some (.cells l.toArray t (0, 0))
structure Fr (S : List Nat) (w w' : World) : Prop where
 os : w'.os = w.os
 tape : w'.tape = w.tape
 output : w'.output = w.output
 size : w.heap.size ≤ w'.heap.size
 block : ∀ k, k < w.heap.size → k ∉ S → w'.heap[k]? = w.heap[k]?
theorem Fr.refl (S:List Nat) (w:World):Fr S w w:=⟨rfl,rfl,rfl,Nat.le_refl _,fun _ _ _=>rfl⟩
theorem Fr.trans' {S S':List Nat} {a b c:World} (h:Fr S a b) (k:Fr S' b c) (hs:∀ x,x∈S'→x∈S∨a.heap.size≤x):Fr S a c :=
 ⟨k.os.trans h.os,k.tape.trans h.tape,k.output.trans h.output,Nat.le_trans h.size k.size,fun i hi hn =>
  (k.block i (Nat.lt_of_lt_of_le hi h.size) (fun hm=>by
   rcases hs i hm with hm | hm
   ·exact hn hm
   ·omega)).trans (h.block i hi hn)⟩
theorem Fr.trans {S:List Nat} {a b c:World} (h:Fr S a b) (k:Fr S b c):Fr S a c:=h.trans' k fun _ hx=>.inl hx
theorem Fr.Xw {S:List Nat} {a b c:World} (h:Fr S a b) (k:Fr [] b c):Fr S a c:=h.trans' k fun _ hx=>by cases hx
theorem Fr.mono {S S':List Nat} {a b:World} (h:Fr S a b) (hs:∀ x,x∈S→x∈S'∨a.heap.size≤x):Fr S' a b:=(Fr.refl S' a).trans' h hs
theorem Fr.drew {S:List Nat} {a b:World} (h:Fr S a b):Fr S a b.drew:=⟨h.os,h.tape,h.output,h.size,h.block⟩
theorem Fr.drewN {S:List Nat} {a b:World} (h:Fr S a b) (n:Nat):Fr S a (b.drewN n):=⟨h.os,h.tape,h.output,h.size,h.block⟩
theorem Fr.alloc {S:List Nat} {a b:World} (h:Fr S a b) (o:Obj):Fr S a (b.alloc o) :=
 ⟨h.os,h.tape,h.output,Nat.le_trans h.size si,fun i hi hn=>(Below.heap_alloc b o i (Nat.lt_of_lt_of_le hi h.size)).trans (h.block i hi hn)⟩
theorem Fr.setCell {S:List Nat} {a b:World} (h:Fr S a b) {p:Addr} (hp:p.block∈S∨a.heap.size≤p.block) (u:Value):Fr S a (b.setCell p u) :=
 ⟨h.os,h.tape,h.output,by simpa [World.setCell] using h.size,fun i hi hn=>(Below.heap_setCell b p u i (by
  rintro rfl
  rcases hp with hp | hp
  ·exact hn hp
  ·omega)).trans (h.block i hi hn)⟩
theorem Fr.grown {S:List Nat} {a b c:World} {row:Option Nat} (h:Fr S a b) (hg:b.grownBy c row) (hr:∀ k,row=some k→k∈S∨a.heap.size≤k):Fr S a c :=
 ⟨hg.os.trans h.os,hg.tape.trans h.tape,hg.output.trans h.output,Nat.le_trans h.size hg.size,fun i hi hn =>
  (hg.block i (Nat.lt_of_lt_of_le hi h.size) (fun e=>by
   rcases hr i e.symm with hm | hm
   ·exact hn hm
   ·omega)).trans (h.block i hi hn)⟩
theorem Fr.below {S:List Nat} {a b:World} {B:Nat} (h:Fr S a b) (hB:B≤a.heap.size) (hs:∀ x,x∈S→B≤x):Below B a b :=
 ⟨h.os,h.tape,h.output,h.size,fun k hk=>h.block k om (fun hm=>by have:=hs k hm; omega)⟩
theorem Fr.Xx {a b:World} (h:Below a.heap.size a b) (S:List Nat):Fr S a b:=⟨h.os,h.tape,h.output,h.size,fun k hk _=>h.block k hk⟩
theorem Fr.cell {S:List Nat} {a b:World} (h:Fr S a b) {p:Addr} (hp:p.block < a.heap.size) (hn:p.block∉S):b.cell? p=a.cell? p:=World.cell?_of_block (w:=a) (h.block p.block hp hn)
section
variable {w w' : World} {b : Nat} {t : TypeId} {l : List Value}
theorem At.lt (h:At w b t l):b < w.heap.size:=by
 rcases Nat.lt_or_ge b w.heap.size with hl | hl
 ·exact hl
 ·unfold At at h
  rw [Array.getElem?_eq_none hl] at h
  cases h
theorem At.cell (h:At w b t l) (i:Nat):w.cell? ⟨b,i,none⟩=l[i]?:=by
 unfold At at h
 simp [World.cell?,h]
theorem At.frozen (h:At w b t l) (i:Nat):w.frozen? ⟨b,i,none⟩=false:=by
 unfold At at h
 simp [World.frozen?,h]
theorem At.new (w:World) (t:TypeId) (l:List Value):At (w.alloc (.cells l.toArray t)) w.heap.size t l:=heap_alloc_new w _
theorem At.drew (h:At w b t l):At w.drew b t l:=h
theorem At.drewN (h:At w b t l) (n:Nat):At (w.drewN n) b t l:=h
theorem At.alloc (h:At w b t l) (o:Obj):At (w.alloc o) b t l:=(Below.heap_alloc w o b h.lt).trans h
theorem At.set (h:At w b t l) (i:Nat) (u:Value):At (w.setCell ⟨b,i,none⟩ u) b t (l.set i u):=by
 unfold At at h ⊢
 simp [World.setCell,Array.getElem?_modify,h]
theorem At.far (h:At w b t l) {p:Addr} (hp:b≠p.block) (u:Value):At (w.setCell p u) b t l:=(Below.heap_setCell w p u b hp).trans h
theorem At.fr {S:List Nat} (h:At w b t l) (hf:Fr S w w') (hb:b∉S):At w' b t l:=(hf.block b h.lt hb).trans h
theorem At.ne {b':Nat} {t':TypeId} {l':List Value} (h:At w b t l) (h':At w b' t' l') (hne:t≠t'):b≠b':=by
 rintro rfl
 unfold At at h h'
 rw [h] at h'
 simp only [Option.some.injEq,Obj.cells.injEq] at h'
 exact hne h'.2.1
end
structure lH (B : Nat) (S : List Nat) (w w' : World) : Prop where
 os : w'.os = w.os
 tape : w'.tape = w.tape
 output : w'.output = w.output
 size : w.heap.size ≤ w'.heap.size
 block : ∀ k, k < B → k ∉ S → w'.heap[k]? = w.heap[k]?
theorem lH.refl (B:Nat) (S:List Nat) (w:World):lH B S w w:=⟨rfl,rfl,rfl,Nat.le_refl _,fun _ _ _=>rfl⟩
theorem lH.setCell {B:Nat} {S:List Nat} {a b:World} (h:lH B S a b) {p:Addr} (hp:p.block∈S∨B≤p.block) (u:Value):lH B S a (b.setCell p u) :=
 ⟨h.os,h.tape,h.output,by simpa [World.setCell] using h.size,fun i hi hn=>(Below.heap_setCell b p u i (by
  rintro rfl
  rcases hp with hp | hp
  ·exact hn hp
  ·omega)).trans (h.block i hi hn)⟩
theorem lH.grown {B:Nat} {S:List Nat} {a b c:World} {row:Option Nat} (h:lH B S a b) (hg:b.grownBy c row) (hB:B≤b.heap.size) (hr:∀ k,row=some k→k∈S∨B≤k):lH B S a c :=
 ⟨hg.os.trans h.os,hg.tape.trans h.tape,hg.output.trans h.output,Nat.le_trans h.size hg.size,fun i hi hn =>
  (hg.block i om (fun e=>by
   rcases hr i e.symm with hm | hm
   ·exact hn hm
   ·omega)).trans (h.block i hi hn)⟩
theorem Fr.zA {B:Nat} {S S':List Nat} {a b c:World} (h:Fr S a b) (k:lH B S' b c) (hB:a.heap.size≤B) (hs:∀ x,x∈S'→x∈S∨a.heap.size≤x):Fr S a c :=
 ⟨k.os.trans h.os,k.tape.trans h.tape,k.output.trans h.output,Nat.le_trans h.size k.size,fun i hi hn =>
  (k.block i om (fun hm=>by
   rcases hs i hm with hm | hm
   ·exact hn hm
   ·omega)).trans (h.block i hi hn)⟩
theorem eM {a b:Bool} (h:a=b):Ending.returned (.bool a) = .returned (.bool b):=by rw [h]
theorem lI {k:IntKind} {a b:Int} (h:a=b):Ending.returned (.int k a) = .returned (.int k b):=by rw [h]
section
variable {P : Program}
theorem jS (b o j:Nat):(⟨b,o,none⟩:Addr).add j=⟨b,o+j,none⟩:=by
 unfold Addr.add
 split
 ·simp_all
 ·rfl
theorem BV (w:World) (b off:Nat) (ty:TypeId) (cs:List Value) (d:TypeDesc) (hc:∀ j v,cs[j]?=some v→w.cell? ⟨b,off+j,none⟩=some v)
  (hu:P.underlying ty=some d) (hd:(match d with | .struct _ | .array _ _=>true | _=>false)=true) (hi:(P.info? ty).map (·.size)=some cs.length) :
  (loadVar ty ⟨b,off,none⟩).run P w = .ok (.agg cs.toArray) w:=by
 have hl:(loadCells ⟨b,off,none⟩ cs.length).run P w = .ok cs.toArray w :=
  run_loadCells_list (P:=P) w ⟨b,off,none⟩ cs (fun j v hv=>by rw [jS]; exact hc j v hv)
 cases hq:P.info? ty with
 | none=>simp [hq] at hi
 | some i =>
   have hs:i.size=cs.length:=by simpa [hq] using hi
   have hagg:(isAgg ty).run P w = .ok true w:=by
    unfold isAgg
    rw [Sem.run_bind,run_underlying hu w]
    cases d <;> simp_all
   simp [loadVar,Sem.run_bind,hagg,sizeOf,typeInfo,hq,hs,hl]
theorem MG {o:Oper} {a:Act} {w:World} {K:Act→World→Prop} {Q:Exit→Act→World→Prop} (ty:TypeId) (x:Operand) (ho:o.op = .load ty x)
  (b off:Nat) (hx:a.eval x = .pointer (some ⟨b,off,none⟩)) (cs:List Value) (d:TypeDesc) (hc:∀ j v,cs[j]?=some v→w.cell? ⟨b,off+j,none⟩=some v)
  (hu:P.underlying ty=some d) (hd:(match d with | .struct _ | .array _ _=>true | _=>false)=true) (hi:(P.info? ty).map (·.size)=some cs.length)
  (h:K (a.put o.dst (.agg cs.toArray)) w):o.wp P a w K Q:=by
 unfold Oper.wp execOp
 simp only [ho,hx,Instr.loadAt,Instr.sureAddr,Sem.run_bind,Sem.run_pure,Result.andThen_ok,BV w b off ty cs d hc hu hd hi]
 exact h
theorem pF {ops:Array Oper} {rest:List Oper} {o:Oper} {a:Act} {w:World} {Q:Exit→Act→World→Prop} (hgd:o.guard=none) (ty:TypeId) (x:Operand) (ho:o.op = .load ty x)
  (b off:Nat) (hx:a.eval x = .pointer (some ⟨b,off,none⟩)) (cs:List Value) (d:TypeDesc) (hc:∀ j v,cs[j]?=some v→w.cell? ⟨b,off+j,none⟩=some v)
  (hu:P.underlying ty=some d) (hd:(match d with | .struct _ | .array _ _=>true | _=>false)=true) (hi:(P.info? ty).map (·.size)=some cs.length)
  (h:wpList P ops Q rest (a.put o.dst (.agg cs.toArray)) w):wpList P ops Q (o::rest) a w :=
 wpList_plain hgd fun _ hK=>MG ty x ho b off hx cs d hc hu hd hi (hK _ _ h)
theorem wG (t e:TypeId) (n:Nat) (cs:List Value) (v:Value) (k:IntKind) (i:Nat) (h:P.underlying t=some (.array n e)) (he:(P.info? e).map (·.size)=some 1)
  (hagg:∀ w:World,(isAgg e).run P w = .ok false w) (hi:i < n) (hv:cs[i]?=some v) (w:World) :
  (Instr.index t (.agg cs.toArray) (.int k i)).run P w = .ok v w:=by
 have hn:0≤(i:Int)∧(i:Int) < (n:Int):=om
 cases hq:P.info? e with
 | none=>simp [hq] at he
 | some j =>
   have hs:j.size=1:=by simpa [hq] using he
   simp only [Instr.index,run_underlying h,asIntOf,sizeOf,typeInfo,Sem.run_bind,Sem.run_pure,Result.andThen_ok]
   rw [if_pos hn]
   simp [part,hagg,sizeOf,typeInfo,hq,hs,hv]
structure mD (P : Program) (t e : TypeId) (z : Value) (sz bt : Nat) : Prop where
 ht : P.underlying t = some (.slice e)
 hi : (P.info? e).map (fun i => (i.zero, i.size, i.bytes)) = some (some z, sz, bt)
 hz : z.cells.size = sz
 hp : 0 < sz
 hb : bt ≤ 1024
def eQ (w : World) (A : Option Addr) (news : List Value) : Prop := ∀ j u, news[j]? = some u → ∃ ad, A = some ad ∧ w.cell? (ad.add j) = some u
theorem MH {t e:TypeId} {z:Value} {sz bt:Nat} (E:mD P t e z sz bt) (w:World) (base:Nat) (ty:TypeId) (v:Value) (n:Nat) (xs:List Value) (hown:w.ownsRow base e sz v n xs) (c:Nat) :
  (Builtin.append_ #[t,t] ty #[v,.slice none 0 c]).run P w = .ok v w:=by
 obtain ⟨i,hi,_,_,_⟩:=info_parts E.hi
 have ht:=E.ht
 rcases hown.2 with ⟨rfl,rfl⟩ | ⟨g,cap,cur,rfl,_,_,hnc,_⟩
 ·simp [Builtin.append_,run_underlying ht,sizeOf,typeInfo,hi,Builtin.lenOf,Builtin.firstCells]
 ·simp [Builtin.append_,run_underlying ht,sizeOf,typeInfo,hi,Builtin.lenOf,Builtin.firstCells,hnc,storeCells]
theorem FA {t e:TypeId} {z:Value} {sz bt:Nat} (E:mD P t e z sz bt) (w:World) (base:Nat) (ty:TypeId) (v:Value) (n:Nat) (xs:List Value) (hown:w.ownsRow base e sz v n xs)
  (A:Option Addr) (m c:Nat) (news:List Value) (hl:news.length=m*sz) (hnews:eQ w A news) (h1:∀ u∈news,u.oneCell'=true) (hlen:n+m≤137438953472) (hbase:base≤w.heap.size) :
  ∃ v' w',(Builtin.append_ #[t,t] ty #[v,.slice A m c]).run P w = .ok v' w'∧w'.ownsRow base e sz v' (n+m) (xs++news)∧w.grownBy w' v.ownBlock∧(v'.ownBlock=v.ownBlock∨v'.ownBlock=some w.heap.size):=by
 obtain ⟨i,hi,hz,hsz,hby⟩:=info_parts E.hi
 have hb:=E.hb
 have hp:=E.hp
 have hm:(n+m)*bt≤137438953472*1024:=Nat.mul_le_mul hlen hb
 rcases A with _ | ad
 ·have hn:news=[]:=by
   cases news with
   | nil=>rfl
   | cons u r =>
     obtain ⟨ad,h,_⟩:=hnews 0 u rfl
     cases h
  subst hn
  have h0:m=0:=by
   rcases Nat.eq_zero_or_pos m with h | h
   ·exact h
   ·have:=Nat.mul_pos h hp
    simp at hl
    omega
  subst h0
  exact ⟨v,w,MH E w base ty v n xs hown c,by simpa using hown,World.grownBy.refl w _,.inl rfl⟩
 ·obtain ⟨v',w',h2,h3,h4,_,h5⟩:=run_append_own_at (P:=P) w base t ty e i z sz bt E.ht hi hz hsz hby E.hz E.hp v n xs hown ad m c news hl (fun j u hu=>by
   obtain ⟨ad',h,hc⟩:=hnews j u hu
   injection h with h
   subst h
   exact hc) h1 (by unfold maxLen; omega) om hbase
  exact ⟨v',w',h2,h3,h4,h5⟩
theorem MI {t e:TypeId} {z:Value} {sz bt:Nat} (E:mD P t e z sz bt) {o:Oper} {a:Act} {w:World} {K:Act→World→Prop} {Q:Exit→Act→World→Prop} (s x:Operand)
  (ho:o.op = .call { callee:=.builtin .append,args:=#[s,x],argTypes:=#[t,t] })
  (base:Nat) (v:Value) (n:Nat) (xs:List Value) (hs:a.eval s=v) (hown:w.ownsRow base e sz v n xs)
  (A:Option Addr) (m c:Nat) (news:List Value) (hx:a.eval x = .slice A m c) (hl:news.length=m*sz) (hnews:eQ w A news) (h1:∀ u∈news,u.oneCell'=true)
  (hlen:n+m≤137438953472) (hbase:base≤w.heap.size)
  (h:∀ v' w',w'.ownsRow base e sz v' (n+m) (xs++news)→w.grownBy w' v.ownBlock→(v'.ownBlock=v.ownBlock∨v'.ownBlock=some w.heap.size)→K (a.put o.dst v') w'):o.wp P a w K Q:=by
 obtain ⟨v',w',hrun,h2,h3,h4⟩:=FA E w base o.type v n xs hown A m c news hl hnews h1 hlen hbase
 unfold Oper.wp execOp
 simp only [ho,resolve,invoke,builtin,Sem.run_bind,Sem.run_pure,Result.andThen_ok,List.map_toArray,List.map_cons,List.map_nil,hs,hx,hrun]
 exact h v' w' h2 h3 h4
theorem wH {t e:TypeId} {z:Value} {sz bt:Nat} (E:mD P t e z sz bt) {ops:Array Oper} {rest:List Oper} {o:Oper} {a:Act} {w:World} {Q:Exit→Act→World→Prop} (hgd:o.guard=none) (s x:Operand)
  (ho:o.op = .call { callee:=.builtin .append,args:=#[s,x],argTypes:=#[t,t] })
  (base:Nat) (v:Value) (n:Nat) (xs:List Value) (hs:a.eval s=v) (hown:w.ownsRow base e sz v n xs)
  (A:Option Addr) (m c:Nat) (news:List Value) (hx:a.eval x = .slice A m c) (hl:news.length=m*sz) (hnews:eQ w A news) (h1:∀ u∈news,u.oneCell'=true)
  (hlen:n+m≤137438953472) (hbase:base≤w.heap.size)
  (h:∀ v' w',w'.ownsRow base e sz v' (n+m) (xs++news)→w.grownBy w' v.ownBlock→(v'.ownBlock=v.ownBlock∨v'.ownBlock=some w.heap.size)→wpList P ops Q rest (a.put o.dst v') w') :
  wpList P ops Q (o::rest) a w :=
 wpList_plain hgd fun _ hK=>MI E s x ho base v n xs hs hown A m c news hx hl hnews h1 hlen hbase fun v' w' h2 h3 h4=>hK _ _ (h v' w' h2 h3 h4)
theorem eQ.aR {w:World} {base:Nat} {e:TypeId} {sz:Nat} {A:Option Addr} {n c:Nat} {xs:List Value} (h:w.ownsRow base e sz (.slice A n c) n xs):eQ w A xs:=by
 intro j u hu
 rcases h.2 with ⟨_,h0⟩ | ⟨g,cap,cur,hv,_⟩
 ·have:=h.1
  rw [h0,Nat.zero_mul] at this
  rw [List.eq_nil_of_length_eq_zero this] at hu
  simp at hu
 ·simp only [Value.slice.injEq] at hv
  obtain ⟨rfl,_⟩:=hv
  exact ⟨_,rfl,h.cells (g:=g) rfl j u hu⟩
theorem eQ.new (w:World) (t:TypeId) (l:List Value):eQ (w.alloc (.cells l.toArray t)) (some ⟨w.heap.size,0,none⟩) l:=by
 intro j u hu
 refine ⟨_,rfl,?_⟩
 rw [jS,(At.new w t l).cell,Nat.zero_add]
 exact hu
theorem tS {t e:TypeId} {z:Value} {bt:Nat} (E:mD P t e z 1 bt) {ops:Array Oper} {rest:List Oper} {o:Oper} {a:Act} {w:World} {Q:Exit→Act→World→Prop} (hgd:o.guard=none) (s x:Operand)
  (ho:o.op = .call { callee:=.builtin .append,args:=#[s,x],argTypes:=#[t,t] })
  (base:Nat) (v:Value) (n:Nat) (xs:List Value) (u:Value) (hs:a.eval s=v) (hown:w.ownsRow base e 1 v n xs)
  (hx:a.eval x = .slice (some ⟨w.heap.size,0,none⟩) 1 1) (h1:u.oneCell'=true)
  (hlen:n+1≤137438953472) (hbase:base≤w.heap.size) (t0:TypeId)
  (h:∀ v' w',w'.ownsRow base e 1 v' (n+1) (xs++[u])→w.grownBy w' v.ownBlock→(v'.ownBlock=v.ownBlock∨v'.ownBlock=some (w.heap.size+1))→wpList P ops Q rest (a.put o.dst v') w') :
  wpList P ops Q (o::rest) a (w.alloc (.cells #[u] t0)):=by
 refine wH E hgd s x ho base v n xs hs (hown.alloc _) (some ⟨w.heap.size,0,none⟩) 1 1 [u] hx rfl (eQ.new w t0 [u]) (by simpa using h1) hlen (Nat.le_trans hbase si) ?_
 ·intro v' w' h2 h3 h5
  exact h v' w' h2 (⟨h3.os,h3.tape,h3.output,Nat.le_trans si h3.size,fun k hk hn=>(h3.block k (by simp; omega) hn).trans (Below.heap_alloc w _ k hk)⟩) (by simpa using h5)
end
theorem dZ {w w':World} {base:Nat} {e:TypeId} {sz:Nat} {v:Value} {n:Nat} {xs:List Value} {S:List Nat} (h:w.ownsRow base e sz v n xs) (hf:Fr S w w') (hv:∀ g,v.ownBlock=some g→g∉S):w'.ownsRow base e sz v n xs:=by
 refine ⟨h.1,?_⟩
 rcases h.2 with hn | ⟨g,cap,cur,rfl,hb,hgg,rest⟩
 ·exact .inl hn
 ·refine .inr ⟨g,cap,cur,rfl,hb,?_,rest⟩
  rw [hf.block g (Array.getElem?_eq_some_iff.1 hgg).1 (hv g rfl)]
  exact hgg
theorem jT {w:World} {base:Nat} {e:TypeId} {sz:Nat} {v:Value} {n:Nat} {xs:List Value} (h:w.ownsRow base e sz v n xs):∃ A cap,v = .slice A n cap:=by
 rcases h.2 with ⟨rfl,rfl⟩ | ⟨g,cap,cur,rfl,_⟩
 ·exact ⟨none,0,rfl⟩
 ·exact ⟨_,cap,rfl⟩
theorem tT {w:World} {base base':Nat} {e:TypeId} {sz:Nat} {v:Value} {n:Nat} {xs:List Value} (h:w.ownsRow base e sz v n xs) (hb:base'≤base):w.ownsRow base' e sz v n xs:=by
 refine ⟨h.1,?_⟩
 rcases h.2 with hn | ⟨g,cap,cur,hv,hg,rest⟩
 ·exact .inl hn
 ·exact .inr ⟨g,cap,cur,hv,Nat.le_trans hb hg,rest⟩
theorem FB {w:World} {base:Nat} {e:TypeId} {v:Value} {n:Nat} {xs:List Value} (h:w.ownsRow base e 1 v n xs) (hn:0 < n) :
  ∃ g cap rest,v = .slice (some ⟨g,0,none⟩) n cap∧base≤g∧n≤cap∧At w g e (xs++rest)∧xs.length=n∧(xs++rest).length=cap:=by
 rcases h.2 with ⟨_,h0⟩ | ⟨g,cap,cur,rfl,hb,hgg,hnc,_,hcs,ht⟩
 ·omega
 ·refine ⟨g,cap,cur.toList.drop (n*1),rfl,hb,hnc,?_,by simpa using h.1,?_⟩
  ·unfold At
   rw [← ht,List.take_append_drop]
   simpa using hgg
  ·rw [← ht,List.take_append_drop]
   simpa using hcs
def aF (w : World) (A : Option Addr) (xs : List Value) : Prop :=
 ∀ i u, xs[i]? = some u → ∃ b o, A = some ⟨b, o, none⟩ ∧ b < w.heap.size ∧ w.cell? ⟨b, o + i, none⟩ = some u
theorem aF.fr {w w':World} {A:Option Addr} {xs:List Value} {S:List Nat} (h:aF w A xs) (hf:Fr S w w') (hs:∀ b o,A=some ⟨b,o,none⟩→b∉S):aF w' A xs:=by
 intro i u hx
 obtain ⟨b,o,hA,hb,h1⟩:=h i u hx
 exact ⟨b,o,hA,Nat.lt_of_lt_of_le hb hf.size,by rw [hf.cell (p:=⟨b,o+i,none⟩) hb (hs b o hA)]; exact h1⟩
theorem aF.iH {w w':World} {A:Option Addr} {xs:List Value} (h:aF w A xs) (hf:Fr [] w w'):aF w' A xs:=h.fr hf si
theorem eQ.mC {w:World} {A:Option Addr} {xs:List Value} (h:aF w A xs):eQ w A xs:=by
 intro j u hu
 obtain ⟨b,o,hA,_,hc⟩:=h j u hu
 exact ⟨_,hA,by rw [jS]; exact hc⟩
theorem aF.aR {w:World} {base:Nat} {e:TypeId} {A:Option Addr} {n c:Nat} {xs:List Value} (h:w.ownsRow base e 1 (.slice A n c) n xs):aF w A xs:=by
 intro j u hu
 rcases h.2 with ⟨_,h0⟩ | ⟨g,cap,cur,hv,_,hg,_⟩
 ·have:=h.1
  rw [h0,Nat.zero_mul] at this
  rw [List.eq_nil_of_length_eq_zero this] at hu
  simp at hu
 ·simp only [Value.slice.injEq] at hv
  obtain ⟨rfl,_⟩:=hv
  have hc:=h.cells (g:=g) rfl j u hu
  rw [jS] at hc
  exact ⟨g,0,rfl,(Array.getElem?_eq_some_iff.1 hg).1,hc⟩
theorem At.setRow {w:World} {g:Nat} {t:TypeId} {l:List Value} (h:At w g t l) (l':List Value):At (w.setRow g l'.toArray) g t l':=setRow_heap w g _ _ t (0,0) h
theorem Fr.setRow (w:World) (g:Nat) (cs:Array Value):Fr [g] w (w.setRow g cs) :=
 ⟨rfl,rfl,rfl,by simp [World.setRow],fun k _ hn=>by
  have hne:g≠k:=fun e=>hn (by simp [e])
  simp [World.setRow,Array.getElem?_modify,hne]⟩
section
variable {P : Program}
theorem MJ {dT sT elem:TypeId} (hu:P.underlying dT=some (.slice elem)) (hs:(P.info? elem).map (·.size)=some 1) (w:World) (ty:TypeId) (g off dLen dCap:Nat) (A:Option Addr) (sLen sCap:Nat) (t:TypeId) (l cs:List Value)
  (hat:At w g t l) (hn:cs.length=Nat.min sLen dLen) (hsrc:eQ w A cs) (hfit:off+cs.length≤l.length) (h1:∀ v∈cs,v.oneCell'=true) :
  ∃ w',(Builtin.copy_ #[dT,sT] ty #[.slice (some ⟨g,off,none⟩) dLen dCap,.slice A sLen sCap]).run P w = .ok (vi (cs.length:Int)) w'∧Fr [g] w w'∧At w' g t (l.take off++cs++l.drop (off+cs.length)):=by
 cases A with
 | none =>
   have h0:cs=[]:=by
    cases cs with
    | nil=>rfl
    | cons v r =>
      obtain ⟨_,hA,_⟩:=hsrc 0 v rfl
      cases hA
   subst h0
   refine ⟨w,?_,Fr.refl _ _,by simpa using hat⟩
   rw [run_copy_none w dT sT ty elem _ none dLen dCap sLen sCap hu hs (by simpa using hn.symm)]
   rfl
 | some a =>
   have:=run_copy_row (P:=P) w dT sT ty elem g off dLen dCap a sLen sCap l.toArray t cs hu hs hat hn (fun j v hv=>by
    obtain ⟨ad,hA,hc⟩:=hsrc j v hv
    injection hA with hA
    subst hA
    exact hc) (by simpa using hfit) h1
   exact ⟨_,this,Fr.setRow _ _ _,hat.setRow _⟩
theorem zG {dT sT elem:TypeId} (hu:P.underlying dT=some (.slice elem)) (hs:(P.info? elem).map (·.size)=some 1) {ops:Array Oper} {rest:List Oper} {o:Oper} {a:Act} {w:World} {Q:Exit→Act→World→Prop} (hgd:o.guard=none) (d s:Operand)
  (ho:o.op = .call { callee:=.builtin .copy,args:=#[d,s],argTypes:=#[dT,sT] }) (g off dLen dCap:Nat) (A:Option Addr) (sLen sCap:Nat) (t:TypeId) (l cs:List Value)
  (hd:a.eval d = .slice (some ⟨g,off,none⟩) dLen dCap) (hv:a.eval s = .slice A sLen sCap)
  (hat:At w g t l) (hn:cs.length=Nat.min sLen dLen) (hsrc:eQ w A cs) (hfit:off+cs.length≤l.length) (h1:∀ v∈cs,v.oneCell'=true) (nn:Nat) (hnn:cs.length=nn) (l':List Value) (hl':l'=l.take off++cs++l.drop (off+cs.length))
  (h:∀ w',Fr [g] w w'→At w' g t l'→wpList P ops Q rest (a.put o.dst (vi (nn:Int))) w'):wpList P ops Q (o::rest) a w:=by
 subst hnn hl'
 obtain ⟨w',hrun,hf,ha⟩:=MJ hu hs w o.type g off dLen dCap A sLen sCap t l cs hat hn hsrc hfit h1
 refine wpList_plain hgd fun K hK=>?_
 unfold Oper.wp execOp
 simp only [ho,resolve,invoke,builtin,Sem.run_bind,Sem.run_pure,Result.andThen_ok,List.map_toArray,List.map_cons,List.map_nil,hd,hv]
 rw [hrun]
 exact hK _ _ (h w' hf ha)
end
section
variable {P : Program}
theorem MK (w:World) (b off:Nat) (ty t:TypeId) (l cs:List Value) (hat:At w b t l) (hfit:off+cs.length≤l.length) (hi:(P.info? ty).map (·.size)=some cs.length) (h1:∀ v∈cs,v.oneCell'=true) :
  ∃ w',(storeVar ty ⟨b,off,none⟩ (.agg cs.toArray)).run P w = .ok () w'∧Fr [b] w w'∧At w' b t (l.take off++cs++l.drop (off+cs.length)):=by
 have:=run_storeCells_at (P:=P) b off t cs 0 l.toArray w hat (by simpa using hfit) h1
 simp only [Nat.add_zero] at this
 refine ⟨_,?_,Fr.setRow _ _ _,hat.setRow _⟩
 cases hq:P.info? ty with
 | none=>simp [hq] at hi
 | some i =>
   have hs:i.size=cs.length:=by simpa [hq] using hi
   simp [storeVar,sizeOf,typeInfo,hq,Value.cells,hs,this]
theorem ML {o:Oper} {a:Act} {w:World} {K:Act→World→Prop} {Q:Exit→Act→World→Prop} (ty:TypeId) (x y:Operand) (ho:o.op = .store ty x y)
  (b off:Nat) (hx:a.eval x = .pointer (some ⟨b,off,none⟩)) (t:TypeId) (l cs:List Value) (hy:a.eval y = .agg cs.toArray) (hat:At w b t l) (hfit:off+cs.length≤l.length) (hi:(P.info? ty).map (·.size)=some cs.length) (h1:∀ v∈cs,v.oneCell'=true)
  (l':List Value) (hl':l'=l.take off++cs++l.drop (off+cs.length)) (h:∀ w',Fr [b] w w'→At w' b t l'→K (a.put o.dst undef) w'):o.wp P a w K Q:=by
 subst hl'
 obtain ⟨w',hrun,hf,ha⟩:=MK w b off ty t l cs hat hfit hi h1
 unfold Oper.wp execOp
 simp only [ho,hx,hy,Instr.storeAt,Instr.sureAddr,Sem.run_bind,Sem.run_pure,Result.andThen_ok,hrun]
 exact h w' hf ha
theorem FC {ops:Array Oper} {rest:List Oper} {o:Oper} {a:Act} {w:World} {Q:Exit→Act→World→Prop} (hgd:o.guard=none) (ty:TypeId) (x y:Operand) (ho:o.op = .store ty x y)
  (b off:Nat) (hx:a.eval x = .pointer (some ⟨b,off,none⟩)) (t:TypeId) (l cs:List Value) (hy:a.eval y = .agg cs.toArray) (hat:At w b t l) (hfit:off+cs.length≤l.length) (hi:(P.info? ty).map (·.size)=some cs.length) (h1:∀ v∈cs,v.oneCell'=true)
  (l':List Value) (hl':l'=l.take off++cs++l.drop (off+cs.length)) (h:∀ w',Fr [b] w w'→At w' b t l'→wpList P ops Q rest (a.put o.dst undef) w'):wpList P ops Q (o::rest) a w :=
 wpList_plain hgd fun _ hK=>ML ty x y ho b off hx t l cs hy hat hfit hi h1 l' hl' fun w' hf ha=>hK _ _ (h w' hf ha)
theorem wI {ops:Array Oper} {rest:List Oper} {o:Oper} {a:Act} {w:World} {Q:Exit→Act→World→Prop} (hgd:o.guard=none) (ty:TypeId) (x y:Operand) (ho:o.op = .store ty x y)
  (hx:a.eval x = .pointer (some ⟨w.heap.size,0,none⟩)) (t:TypeId) (z:Array Value) (cs:List Value) (hy:a.eval y = .agg cs.toArray) (hz:z.size=cs.length) (hi:(P.info? ty).map (·.size)=some cs.length) (h1:∀ v∈cs,v.oneCell'=true)
  (h:∀ w',Fr [] w w'→At w' w.heap.size t cs→wpList P ops Q rest (a.put o.dst undef) w'):wpList P ops Q (o::rest) a (w.alloc (.cells z t)):=by
 refine FC hgd ty x y ho w.heap.size 0 hx t z.toList cs hy (by simpa using At.new w t z.toList) (by simp [hz]) hi h1 cs (by simp [← hz]) ?_
 intro w' hf ha
 exact h w' (((Fr.refl _ _).alloc _).trans' hf si) ha
end
end
def B8 (bs : List UInt8) : List Value := bs.map fun b => Value.int .u8 (b.toNat : Int)
theorem tU (a b:List UInt8):B8 (a++b)=B8 a++B8 b:=by simp [B8]
theorem dW (a:List UInt8):(B8 a).length=a.length:=by simp [B8]
theorem jU (a:List UInt8):∀ u∈B8 a,u.oneCell'=true:=by
 intro u hu
 obtain ⟨b,_,rfl⟩:=List.mem_map.1 hu
 rfl
theorem rS (a:List UInt8) (i:Nat) (b:UInt8) (h:a[i]?=some b):(B8 a)[i]?=some (.int .u8 (b.toNat:Int)):=by simp [B8,h]
def aD (n : Nat) : List UInt8 := if n < 128 then [UInt8.ofNat n] else UInt8.ofNat (n % 128 + 128) :: aD (n / 128)
termination_by n
theorem mZ (n:Nat) (h:n < 128):aD n=[UInt8.ofNat n]:=by rw [aD,if_pos h]
theorem pG (n:Nat) (h:¬ n < 128):aD n=UInt8.ofNat (n % 128+128)::aD (n / 128):=by rw [aD,if_neg h]
theorem MM (k:Nat):∀ n,n < 128 ^ (k+1)→(aD n).length≤k+1:=by
 induction k with
 | zero=>intro n h; rw [mZ n (by simpa using h)]; simp
 | succ k ih =>
   intro n h
   by_cases hn:n < 128
   ·rw [mZ n hn]; simp
   ·rw [pG n hn,List.length_cons]
    have:n / 128 < 128 ^ (k+1):=by
     rw [Nat.div_lt_iff_lt_mul om]
     rw [Nat.pow_succ] at h
     exact h
    have:=ih _ this
    omega
theorem eJ (n:Nat) (h:n < 18446744073709551616):(aD n).length≤10:=MM 9 n om
theorem MN:∀ x < 256,x ||| 128=x % 128+128:=by decide +kernel
theorem MO (m:Nat):bits BinOp.or IntKind.u8 ((m:Int) % 256) 128=((UInt8.ofNat (m % 128+128)).toNat:Int):=by
 have h:=u8_or_nat (m % 256) 128 om om
 rw [MN _ om] at h
 have e:((m % 256:Nat):Int)=(m:Int) % 256:=om
 rw [e] at h
 rw [show ((128:Nat):Int)=128 from rfl] at h
 rw [h]
 have:(UInt8.ofNat (m % 128+128)).toNat=m % 128+128:=by simp; omega
 rw [this]
 omega
theorem MP (m:Nat) (h:m < 256):(m:Int)=((UInt8.ofNat m).toNat:Int):=by
 have:(UInt8.ofNat m).toNat=m:=by simp; omega
 rw [this]
def cG (n : Nat) : Prop := n < 18446744073709551616
def gA (n : Int) : Nat := if n < 0 then ((-(n + 1)) * 2 + 1).toNat else (n * 2).toNat
theorem zH (n:Int) (h0:-9223372036854775808≤n) (h1:n≤9223372036854775807):gA n < 18446744073709551616:=by
 unfold gA
 split <;> omega
def mP (n : Int) : Prop := -9223372036854775808 ≤ n ∧ n ≤ 9223372036854775807
def kO : List Nat := [
 0x428a2f98, 0x71374491, 0xb5c0fbcf, 0xe9b5dba5, 0x3956c25b, 0x59f111f1, 0x923f82a4, 0xab1c5ed5,
 0xd807aa98, 0x12835b01, 0x243185be, 0x550c7dc3, 0x72be5d74, 0x80deb1fe, 0x9bdc06a7, 0xc19bf174,
 0xe49b69c1, 0xefbe4786, 0x0fc19dc6, 0x240ca1cc, 0x2de92c6f, 0x4a7484aa, 0x5cb0a9dc, 0x76f988da,
 0x983e5152, 0xa831c66d, 0xb00327c8, 0xbf597fc7, 0xc6e00bf3, 0xd5a79147, 0x06ca6351, 0x14292967,
 0x27b70a85, 0x2e1b2138, 0x4d2c6dfc, 0x53380d13, 0x650a7354, 0x766a0abb, 0x81c2c92e, 0x92722c85,
 0xa2bfe8a1, 0xa81a664b, 0xc24b8b70, 0xc76c51a3, 0xd192e819, 0xd6990624, 0xf40e3585, 0x106aa070,
 0x19a4c116, 0x1e376c08, 0x2748774c, 0x34b0bcb5, 0x391c0cb3, 0x4ed8aa4a, 0x5b9cca4f, 0x682e6ff3,
 0x748f82ee, 0x78a5636f, 0x84c87814, 0x8cc70208, 0x90befffa, 0xa4506ceb, 0xbef9a3f7, 0xc67178f2]
def mQ : List Nat := [0x6a09e667, 0xbb67ae85, 0x3c6ef372, 0xa54ff53a, 0x510e527f, 0x9b05688c, 0x1f83d9ab, 0x5be0cd19]
def rotr (n x : Nat) : Nat := (x / 2 ^ n) ||| (x * 2 ^ (32 - n) % 4294967296)
def cU (a b : Nat) : Nat := (a + b) % 4294967296
def sig0 (y : Nat) : Nat := rotr 7 y ^^^ rotr 18 y ^^^ (y / 2 ^ 3)
def sig1 (x : Nat) : Nat := rotr 17 x ^^^ rotr 19 x ^^^ (x / 2 ^ 10)
def bsig1 (e : Nat) : Nat := rotr 6 e ^^^ rotr 11 e ^^^ rotr 25 e
def bsig0 (a : Nat) : Nat := rotr 2 a ^^^ rotr 13 a ^^^ rotr 22 a
def FD (e f g : Nat) : Nat := (e &&& f) ^^^ ((4294967295 - e) &&& g)
def FE (a b c : Nat) : Nat := (a &&& b) ^^^ (a &&& c) ^^^ (b &&& c)
def word (b : List UInt8) (t : Nat) : Nat :=
 ((b.getD (4 * t) 0).toNat * 2 ^ 24) ||| ((b.getD (4 * t + 1) 0).toNat * 2 ^ 16) ||| ((b.getD (4 * t + 2) 0).toNat * 2 ^ 8) ||| (b.getD (4 * t + 3) 0).toNat
def tV (l : List Nat) (t : Nat) : Nat := cU (cU (cU (sig1 (l.getD (t - 2) 0)) (l.getD (t - 7) 0)) (sig0 (l.getD (t - 15) 0))) (l.getD (t - 16) 0)
def eR (b : List UInt8) : Nat → List Nat
 | 0 => []
 | t + 1 => let l := eR b t; l ++ [if t < 16 then word b t else tV l t]
structure S8 where
 a : Nat
 b : Nat
 c : Nat
 d : Nat
 e : Nat
 f : Nat
 g : Nat
 h : Nat
def S8.t1 (s : S8) (k w : Nat) : Nat := cU (cU (cU (cU s.h (bsig1 s.e)) (FD s.e s.f s.g)) k) w
def S8.t2 (s : S8) : Nat := cU (bsig0 s.a) (FE s.a s.b s.c)
def S8.vY (s : S8) (k w : Nat) : S8 := ⟨cU (s.t1 k w) s.t2, s.a, s.b, s.c, cU s.d (s.t1 k w), s.e, s.f, s.g⟩
def rounds (W : List Nat) (s : S8) : Nat → S8
 | 0 => s
 | t + 1 => (rounds W s t).vY (kO.getD t 0) (W.getD t 0)
def S8.of (l : List Nat) : S8 := ⟨l.getD 0 0, l.getD 1 0, l.getD 2 0, l.getD 3 0, l.getD 4 0, l.getD 5 0, l.getD 6 0, l.getD 7 0⟩
def S8.list (s : S8) : List Nat := [s.a, s.b, s.c, s.d, s.e, s.f, s.g, s.h]
def jV (H : List Nat) (b : List UInt8) : List Nat := List.zipWith cU H (rounds (eR b 64) (S8.of H) 64).list
def jW : Nat → List Nat → List UInt8 → List Nat
 | 0, H, _ => H
 | n + 1, H, b => jW n (jV H (b.take 64)) (b.drop 64)
def cY (w k : Nat) : UInt8 := UInt8.ofNat (w / 2 ^ (8 * k) % 256)
def lJ (H : List Nat) : List UInt8 := H.flatMap fun w => [cY w 3, cY w 2, cY w 1, cY w 0]
def lK (n : Nat) : List UInt8 := 128 :: List.replicate ((119 - n % 64) % 64) 0 ++ [cY (n * 8) 7, cY (n * 8) 6, cY (n * 8) 5, cY (n * 8) 4, cY (n * 8) 3, cY (n * 8) 2, cY (n * 8) 1, cY (n * 8) 0]
def dM (x : List UInt8) : List UInt8 := lJ (jW ((x ++ lK x.length).length / 64) mQ (x ++ lK x.length))
def bU (n : Nat) : Prop := n < 4294967296
theorem bU.add (a b:Nat):bU (cU a b):=Nat.mod_lt _ (by decide)
theorem bU.xor {a b:Nat} (ha:bU a) (hb:bU b):bU (a ^^^ b):=Nat.xor_lt_two_pow (n:=32) ha hb
theorem bU.or {a b:Nat} (ha:bU a) (hb:bU b):bU (a ||| b):=Nat.or_lt_two_pow (n:=32) ha hb
theorem bU.and {a b:Nat} (hb:bU b):bU (a &&& b):=Nat.lt_of_le_of_lt Nat.and_le_right hb
theorem bU.div {a:Nat} (ha:bU a) (k:Nat):bU (a / k):=Nat.lt_of_le_of_lt (Nat.div_le_self _ _) ha
theorem bU.not (a:Nat):bU (4294967295 - a):=by unfold bU; omega
theorem bU.rotr {a:Nat} (ha:bU a) (n:Nat):bU (rotr n a):=(ha.div _).or (Nat.mod_lt _ (by decide))
theorem tW (b:UInt8) (k:Nat) (hk:k≤24):bU (b.toNat*2 ^ k):=by
 have h1:=UInt8.toNat_lt b
 have h2:2 ^ k≤2 ^ 24:=Nat.pow_le_pow_right (by decide) hk
 have h3:b.toNat*2 ^ k≤255*2 ^ 24:=Nat.mul_le_mul om h2
 unfold bU
 omega
theorem bU.word (b:List UInt8) (t:Nat):bU (word b t):=by
 have h0:=UInt8.toNat_lt (b.getD (4*t+3) 0)
 exact (((tW _ 24 om).or (tW _ 16 om)).or (tW _ 8 om)).or (by unfold bU; omega)
theorem bU.sched (b:List UInt8):∀ t,∀ x∈eR b t,bU x
 | 0,x,hx=>by cases hx
 | t+1,x,hx=>by
   simp only [eR] at hx
   rcases List.mem_append.1 hx with h | h
   ·exact bU.sched b t x h
   ·simp only [List.mem_cons,List.not_mem_nil,or_false] at h
    rw [h]
    split
    ·exact bU.word b t
    ·exact bU.add _ _
theorem nA (b:List UInt8):∀ t,(eR b t).length=t
 | 0=>rfl
 | t+1=>by simp only [eR,List.length_append,List.length_cons,List.length_nil,nA b t]
theorem FF (b:List UInt8):∀ (n t:Nat),t < n→(eR b n)[t]?=some (if t < 16 then word b t else tV (eR b t) t)
 | 0,t,h=>by omega
 | n+1,t,h=>by
   simp only [eR]
   rcases (by omega:t < n∨t=n) with h' | rfl
   ·rw [List.getElem?_append_left (by rw [nA]; exact h'),FF b n t h']
   ·rw [List.getElem?_append_right (by rw [nA]; exact Nat.le_refl _),nA]
    simp
theorem pH {l:List Nat} (h:∀ x∈l,bU x) (i:Nat):bU (l.getD i 0):=by
 rw [List.getD_eq_getElem?_getD]
 cases hg:l[i]? with
 | none=>show (0:Nat) < 4294967296; decide
 | some x=>exact h x (List.mem_of_getElem? hg)
theorem MQ:∀ x∈kO,bU x:=by
 have:(kO.all fun x=>decide (x < 4294967296))=true:=by decide +kernel
 intro x hx
 have:=List.all_eq_true.1 this x hx
 simpa [bU] using this
theorem MR:∀ x∈mQ,bU x:=by
 have:(mQ.all fun x=>decide (x < 4294967296))=true:=by decide +kernel
 intro x hx
 have:=List.all_eq_true.1 this x hx
 simpa [bU] using this
structure S8.Ok (s : S8) : Prop where
 a : bU s.a
 b : bU s.b
 c : bU s.c
 d : bU s.d
 e : bU s.e
 f : bU s.f
 g : bU s.g
 h : bU s.h
theorem S8.Ok.vY {s:S8} (h:s.Ok) (k w:Nat):(s.vY k w).Ok:=⟨bU.add _ _,h.a,h.b,h.c,bU.add _ _,h.e,h.f,h.g⟩
theorem S8.Xy {l:List Nat} (h:∀ x∈l,bU x):(S8.of l).Ok:=⟨pH h 0,pH h 1,pH h 2,pH h 3,pH h 4,pH h 5,pH h 6,pH h 7⟩
theorem MS (H:List Nat) (b:List UInt8):∀ x∈jV H b,bU x:=by
 intro x hx
 unfold jV at hx
 obtain ⟨i,hi⟩:=List.mem_iff_getElem?.1 hx
 rw [List.getElem?_zipWith] at hi
 split at hi
 ·simp only [Option.some.injEq] at hi
  rw [← hi]
  exact bU.add _ _
 ·cases hi
theorem MT (H:List Nat) (b:List UInt8) (h:H.length=8):(jV H b).length=8:=by
 unfold jV
 rw [List.length_zipWith,h]
 rfl
theorem FG:∀ (n:Nat) (H:List Nat) (b:List UInt8),H.length=8→(∀ x∈H,bU x)→(jW n H b).length=8∧∀ x∈jW n H b,bU x
 | 0,_,_,h1,h2=>⟨h1,h2⟩
 | n+1,H,_,h1,_=>FG n _ _ (MT H _ h1) (MS H _)
theorem FH:∀ (n:Nat) (H:List Nat) (b:List UInt8),jW (n+1) H b=jV (jW n H b) ((b.drop (64*n)).take 64)
 | 0,H,b=>by simp [jW]
 | n+1,H,b=>by
   have ih:=FH n (jV H (b.take 64)) (b.drop 64)
   rw [jW,ih,List.drop_drop]
   rw [show 64+64*n=64*(n+1) by omega]
   rfl
theorem BW:∀ (n:Nat) (H:List Nat) (a b:List UInt8),a.length=64*n→jW n H (a++b)=jW n H a
 | 0,_,_,_,_=>rfl
 | n+1,H,a,b,h=>by
   rw [jW,jW,List.take_append_of_le_length om,List.drop_append_of_le_length om]
   exact BW n _ _ _ (by rw [List.length_drop]; omega)
/-! How the walk spells it. -/
theorem nB (a b : Nat) : IntKind.u32.wrap ((a : Int) + (b : Int)) = ((cU a b : Nat) : Int) := by
 rw [IntKind.wrap_u32']
 unfold cU
 omega
def eK (xs : List UInt8) : List Nat := jW (xs.length / 64) mQ xs
def lM (xs : List UInt8) : List UInt8 := xs.drop (64 * (xs.length / 64))
theorem FI (xs:List UInt8):(lM xs).length=xs.length % 64:=by
 unfold lM
 rw [List.length_drop]
 omega
theorem gZ (xs:List UInt8):(eK xs).length=8∧∀ x∈eK xs,bU x:=FG _ _ _ rfl MR
theorem FJ (n:Nat) (H:List Nat) (a b:List UInt8) (h:64*n≤a.length):jW n H (a++b)=jW n H a:=by
 have e:a=a.take (64*n)++a.drop (64*n):=(List.take_append_drop _ _).symm
 have hl:(a.take (64*n)).length=64*n:=by rw [List.length_take]; omega
 rw [e,List.append_assoc,BW n H _ _ hl,BW n H _ _ hl]
theorem FK (xs ys:List UInt8) (h:xs.length % 64+ys.length < 64):eK (xs++ys)=eK xs∧lM (xs++ys)=lM xs++ys:=by
 have e:(xs++ys).length / 64=xs.length / 64:=by rw [List.length_append]; omega
 unfold eK lM
 rw [e]
 exact ⟨FJ _ _ _ _ om,by rw [List.drop_append_of_le_length om]⟩
theorem FL (xs ys:List UInt8) (h:xs.length % 64+ys.length=64):eK (xs++ys)=jV (eK xs) (lM xs++ys)∧lM (xs++ys)=[]:=by
 have e:(xs++ys).length / 64=xs.length / 64+1:=by rw [List.length_append]; omega
 have el:(xs++ys).length=64*(xs.length / 64+1):=by rw [List.length_append]; omega
 have ed:(xs++ys).drop (64*(xs.length / 64))=lM xs++ys:=by rw [List.drop_append_of_le_length om]; rfl
 constructor
 ·unfold eK
  rw [e,FH,ed,FJ _ _ _ _ om,List.take_of_length_le]
  rw [List.length_append,FI]
  omega
 ·unfold lM
  rw [e,List.drop_of_length_le om]
theorem MU (x:List UInt8):dM x=lJ (eK (x++lK x.length)):=rfl
theorem MV (H:List Nat):(lJ H).length=4*H.length:=by
 induction H with
 | nil=>rfl
 | cons x H ih =>
   have e:lJ (x::H)=[cY x 3,cY x 2,cY x 1,cY x 0]++lJ H:=rfl
   rw [e,List.length_append,ih,List.length_cons]
   simp
   omega
theorem tX (x:List UInt8):(dM x).length=32:=by
 rw [MU,MV,(gZ _).1]
def fE : List UInt8 → Nat → Nat
 | _, 0 => 0
 | [], _ => 0
 | b :: l, k + 1 => b.toNat % 128 + 128 * fE l k
theorem qJ:∀ (k:Nat) (l:List UInt8) (b:UInt8),l[k]?=some b→fE l (k+1)=fE l k+(b.toNat % 128)*128 ^ k
 | 0,b'::l,b,h=>by
   simp at h
   subst h
   simp [fE]
 | k+1,b'::l,b,h=>by
   simp at h
   have ih:=qJ k l b h
   rw [fE,ih,fE,Nat.pow_succ,Nat.mul_add]
   have:128*(b.toNat % 128*128 ^ k)=b.toNat % 128*(128 ^ k*128):=by
    rw [Nat.mul_comm (128 ^ k) 128,← Nat.mul_assoc,← Nat.mul_assoc,Nat.mul_comm 128]
   omega
 | _,[],_,h=>by simp at h
theorem tY:∀ (k:Nat) (l:List UInt8),fE l k < 128 ^ k
 | 0,_=>by simp [fE]
 | k+1,[]=>by simp only [fE]; exact Nat.pow_pos om
 | k+1,b::l=>by
   have ih:=tY k l
   rw [fE,Nat.pow_succ]
   have:=Nat.mod_lt b.toNat (show 128 > 0 by omega)
   omega
def ahead : List UInt8 → Nat
 | [] => 0
 | b :: l => if b.toNat < 128 then 0 else ahead l + 1
theorem zI:∀ (k:Nat) (l:List UInt8),k≤l.length→(∀ j b,j < k→l[j]?=some b→128≤b.toNat)→ahead l=k+ahead (l.drop k)
 | 0,l,_,_=>by simp
 | k+1,[],h,_=>by simp at h
 | k+1,b::l,h,hp=>by
   have h0:=hp 0 b om rfl
   have ih:=zI k l (by simpa using h) (fun j c hj hc=>hp (j+1) c om (by simpa using hc))
   rw [ahead,if_neg om,ih,List.drop_succ_cons]
   omega
theorem MW (l:List UInt8) (b:UInt8) (h:l[0]?=some b) (hb:b.toNat < 128):ahead l=0:=by
 match l,h with
 | c::l,h =>
   simp at h
   subst h
   rw [ahead,if_pos hb]
def dI (D : List UInt8) (off : Nat) : Option (Nat × Nat) :=
 match (D.drop off)[ahead (D.drop off)]? with
 | none => none
 | some b => if ahead (D.drop off) ≤ 9 ∧ ¬ (0 < ahead (D.drop off) ∧ b.toNat = 0) ∧ ¬ (ahead (D.drop off) = 9 ∧ 1 < b.toNat) then some (fE (D.drop off) (ahead (D.drop off) + 1), off + ahead (D.drop off) + 1) else none
theorem tZ (D:List UInt8) (off k:Nat) (x:UInt8) (hpre:∀ j b,j < k→D[off+j]?=some b→128≤b.toNat) (hx:D[off+k]?=some x) (hlt:x.toNat < 128) :
  dI D off=if k≤9∧¬ (0 < k∧x.toNat=0)∧¬ (k=9∧1 < x.toNat) then some (fE (D.drop off) (k+1),off+k+1) else none:=by
 have hl:off+k < D.length:=(List.getElem?_eq_some_iff.1 hx).1
 have ha:ahead (D.drop off)=k:=by
  rw [zI k (D.drop off) (by simp; omega) (fun j b hj hb=>hpre j b hj (by rwa [List.getElem?_drop] at hb))]
  rw [MW _ x (by rw [List.drop_drop,List.getElem?_drop,Nat.add_zero]; exact hx) hlt]
  rfl
 unfold dI
 rw [ha,List.getElem?_drop,hx]
theorem MX (D:List UInt8) (off k:Nat) (hpre:∀ j b,j < k→D[off+j]?=some b→128≤b.toNat) (h:off+k=D.length):dI D off=none:=by
 have ha:ahead (D.drop off)=k:=by
  rw [zI k (D.drop off) (by simp; omega) (fun j b hj hb=>hpre j b hj (by rwa [List.getElem?_drop] at hb))]
  rw [List.drop_drop,List.drop_of_length_le om]
  rfl
 unfold dI
 rw [ha,List.getElem?_drop,List.getElem?_eq_none om]
theorem MY (D:List UInt8) (off:Nat) (hpre:∀ j b,j < 10→D[off+j]?=some b→128≤b.toNat) (h:off+10≤D.length):dI D off=none:=by
 have ha:10≤ahead (D.drop off):=by
  rw [zI 10 (D.drop off) (by simp; omega) (fun j b hj hb=>hpre j b hj (by rwa [List.getElem?_drop] at hb))]
  omega
 unfold dI
 split
 ·rfl
 ·rw [if_neg om]
theorem MZ (k:Nat):∀ l:List UInt8,(∀ j b,j < k→l[j]?=some b→128≤b.toNat)→(∃ b,l[k]?=some b∧b.toNat < 128∧¬ (0 < k∧b.toNat=0)) →
  l=aD (fE l (k+1))++l.drop (k+1)∧(aD (fE l (k+1))).length=k+1:=by
 induction k with
 | zero =>
   intro l _ h
   obtain ⟨b,hb,hlt,_⟩:=h
   match l,hb with
   | b'::l,hb =>
     simp at hb
     subst hb
     have e:fE (b'::l) 1=b'.toNat:=by simp [fE]; omega
     rw [e,mZ _ hlt]
     simp
 | succ k ih =>
   intro l h1 h2
   obtain ⟨b,hb,hlt,hz⟩:=h2
   match l,hb with
   | b'::l,hb =>
     simp at hb
     have h0:128≤b'.toNat:=h1 0 b' om rfl
     have hb'lt:=UInt8.toNat_lt b'
     obtain ⟨ih1,ih2⟩:=ih l (fun j c hj hc=>h1 (j+1) c om (by simpa using hc)) ⟨b,hb,hlt,fun hh=>hz ⟨om,hh.2⟩⟩
     -- the rest is not zero
     have hpos:0 < fE l (k+1):=by
      rw [qJ k l b hb]
      have hbp:0 < b.toNat:=by
       rcases Nat.eq_zero_or_pos b.toNat with h | h
       ·exact absurd ⟨om,h⟩ hz
       ·exact h
      have:b.toNat % 128=b.toNat:=Nat.mod_eq_of_lt hlt
      rw [this]
      have:=Nat.mul_pos hbp (Nat.pow_pos (n:=k) (show 0 < 128 by omega))
      omega
     have e:fE (b'::l) (k+1+1)=b'.toNat % 128+128*fE l (k+1):=rfl
     rw [e,pG _ om]
     have e1:(b'.toNat % 128+128*fE l (k+1)) % 128+128=b'.toNat:=om
     have e2:(b'.toNat % 128+128*fE l (k+1)) / 128=fE l (k+1):=om
     rw [e1,e2]
     simp only [List.cons_append,List.length_cons,List.drop_succ_cons]
     refine ⟨?_,om⟩
     rw [← ih1]
     simp
theorem FM (m:Nat) (h:m < 256):(UInt8.ofNat m).toNat=m:=by simp; omega
theorem FN (n:Nat):∀ (j:Nat) (b:UInt8),(aD n)[j]?=some b→(j+1 < (aD n).length→128≤b.toNat)∧(j+1=(aD n).length→b.toNat < 128∧(0 < j→b.toNat≠0)):=by
 induction n using Nat.strongRecOn with
 | _ n ih =>
   intro j b hb
   by_cases hn:n < 128
   ·rw [mZ n hn] at hb ⊢
    cases j with
    | zero =>
      simp at hb
      subst hb
      refine ⟨fun h=>by simp at h,fun _=>⟨by simp; omega,fun h=>by omega⟩⟩
    | succ j=>simp at hb
   ·rw [pG n hn] at hb ⊢
    have hp:=Nat.div_lt_self (show 0 < n by omega) (show 1 < 128 by omega)
    have hpos:0 < (aD (n / 128)).length:=by
     by_cases h:n / 128 < 128
     ·rw [mZ _ h]; simp
     ·rw [pG _ h]; simp
    cases j with
    | zero =>
      simp only [List.getElem?_cons_zero,Option.some.injEq] at hb
      subst hb
      refine ⟨fun _=>by rw [FM _ om]; omega,fun h=>by simp only [List.length_cons] at h; omega⟩
    | succ j =>
      simp at hb
      obtain ⟨h1,h2⟩:=ih (n / 128) hp j b hb
      simp only [List.length_cons]
      refine ⟨fun h=>h1 om,fun h=>⟨(h2 om).1,fun _=>?_⟩⟩
      cases j with
      | zero =>
        -- the single byte of n / 128,which is not zero
        have hl:(aD (n / 128)).length=1:=om
        by_cases hs:n / 128 < 128
        ·rw [mZ _ hs] at hb
         simp at hb
         subst hb
         have:0 < n / 128:=Nat.div_pos om om
         simp
         omega
        ·rw [pG _ hs] at hl
         simp at hl
         have:0 < (aD (n / 128 / 128)).length:=by
          by_cases h:n / 128 / 128 < 128
          ·rw [mZ _ h]; simp
          ·rw [pG _ h]; simp
         rw [hl] at this
         simp at this
      | succ j=>exact (h2 (by omega)).2 (by omega)
def BY (m : Nat) (x : UInt8) (k : Nat) : Int := bits BinOp.or IntKind.u64 (m : Int) (IntKind.u64.wrap (IntKind.u64.wrap (bits BinOp.and IntKind.u8 (x.toNat : Int) 127) * 2 ^ (7 * k)))
theorem Nz (x:UInt8):bits BinOp.and IntKind.u8 (x.toNat:Int) 127=((x.toNat % 128:Nat):Int):=by
 have h:=u8_and_nat x.toNat 127 (UInt8.toNat_lt x) om
 rw [nat_mask7] at h
 exact h
theorem NA (m:Nat) (x:UInt8) (k:Nat) (hm:cG m):∃ m':Nat,BY m x k=(m':Int)∧cG m'∧(m < 128 ^ k→x.toNat % 128*128 ^ k < 18446744073709551616→m'=m+x.toNat % 128*128 ^ k):=by
 unfold cG at hm
 unfold BY
 rw [Nz]
 have hx:=Nat.mod_lt x.toNat (show 128 > 0 by omega)
 have e1:IntKind.u64.wrap ((x.toNat % 128:Nat):Int)=((x.toNat % 128:Nat):Int):=IntWalk.u64_in _ om
 rw [e1]
 have e2:((x.toNat % 128:Nat):Int)*2 ^ (7*k)=((x.toNat % 128*128 ^ k:Nat):Int):=by
  rw [show (128:Nat)=2 ^ 7 from rfl,← Nat.pow_mul]
  push_cast
  rfl
 rw [e2,IntKind.wrap_u64]
 have e3:((x.toNat % 128*128 ^ k:Nat):Int) % 18446744073709551616=((x.toNat % 128*128 ^ k % 18446744073709551616:Nat):Int):=om
 rw [e3,u64_or_nat m _ hm om]
 refine ⟨_,rfl,?_,?_⟩
 ·exact Nat.or_lt_two_pow (n:=64) om om
 ·intro h1 h2
  rw [Nat.mod_eq_of_lt h2,Nat.or_comm,nat_join (7*k) _ m]
  ·omega
  ·rw [show (128:Nat)=2 ^ 7 from rfl,← Nat.pow_mul]
   exact Nat.mul_mod_left _ _
  ·rw [Nat.pow_mul]; exact h1
def nC (n : Nat) : Int := if n % 2 = 1 then -((n / 2 : Nat) : Int) - 1 else ((n / 2 : Nat) : Int)
theorem jE:mD Tryz.prog 22 5 (.int .u8 0) 1 1:=⟨Tryz.underlying22,kr,rfl,om,om⟩
theorem NB {w wr w1:World} {e:TypeId} {sz n:Nat} {v:Value} {xs:List Value} (hf:Fr [] w wr) (hown:wr.ownsRow w.heap.size e sz v n xs) (hg:wr.grownBy w1 v.ownBlock):Fr [] w w1 :=
 hf.grown hg (fun g hg'=>.inr (by
  rcases hown.2 with ⟨rfl,_⟩ | ⟨g',cap,cur,rfl,hb,_⟩
  ·simp [Value.ownBlock] at hg'
  ·have:some g'=some g:=hg'
   injection this with this
   omega))
theorem NC {w wr w1:World} {cs xs:List UInt8} {v v':Value} (hf:Fr [] w wr) (hown:wr.ownsRow w.heap.size 5 1 v cs.length (B8 cs))
  (hown1:w1.ownsRow w.heap.size 5 1 v' (cs.length+xs.length) (B8 cs++B8 xs)) (hg:wr.grownBy w1 v.ownBlock) :
  ∃ A c cs',Hid (cs'=cs++xs)∧cs'.length≤cs.length+xs.length∧v' = .slice A cs'.length c∧w1.ownsRow w.heap.size 5 1 v' cs'.length (B8 cs')∧Fr [] w w1:=by
 obtain ⟨A,c,rfl⟩:=jT hown1
 have e:(cs++xs).length=cs.length+xs.length:=by simp
 refine ⟨A,c,cs++xs,rfl,om,by rw [e],?_,NB hf hown hg⟩
 rw [e,tU]
 exact hown1
def bD (bs : List UInt8) : ByteArray := ⟨bs.toArray⟩
theorem uA {P:Program} {src dst e:TypeId} (hs:P.underlying src=some (.slice e)) (he:P.underlying e=some (.int .u8)) (hd:P.underlying dst=some .string) (w:World) (A:Option Addr) (cap:Nat) (bs:List UInt8) (h:aF w A (B8 bs)) :
  (convert src dst (.slice A bs.length cap)).run P w = .ok (.string (bD bs)) w:=by
 cases A with
 | none =>
   have h0:bs=[]:=by
    cases bs with
    | nil=>rfl
    | cons b l =>
      obtain ⟨_,_,hA,_⟩:=h 0 (.int .u8 (b.toNat:Int)) rfl
      cases hA
   subst h0
   rw [run_convert_bytes_string w src dst e _ _ cap hs he hd]
   simp [Conv.bytesToString]
   rfl
 | some a =>
   refine run_convert_bytes_back w src dst e a cap bs hs he hd ?_
   intro j hj
   obtain ⟨b,o,hA,_,hc⟩:=h j (.int .u8 (bs[j].toNat:Int)) (rS bs j bs[j] (List.getElem?_eq_getElem hj))
   injection hA with hA
   subst hA
   rw [jS]
   exact hc
theorem ND (w:World) (base:Nat) (e:TypeId) (l:List Value) (hb:base≤w.heap.size) (hm:l.length≤maxLen) :
  (w.alloc (.cells l.toArray e)).ownsRow base e 1 (.slice (some ⟨w.heap.size,0,none⟩) l.length l.length) l.length l :=
 ⟨si,.inr ⟨w.heap.size,l.length,l.toArray,rfl,hb,heap_alloc_new w _,Nat.le_refl _,hm,si,si⟩⟩
structure BR (w wr : World) (v : Value) (cs : List UInt8) : Prop where
 fr : Fr [] w wr
 own : wr.ownsRow w.heap.size 5 1 v cs.length (B8 cs)
theorem BR.push {w wr w1:World} {cs xs:List UInt8} {v v':Value} (h:BR w wr v cs) (hown1:w1.ownsRow w.heap.size 5 1 v' (cs.length+xs.length) (B8 cs++B8 xs)) (hg:wr.grownBy w1 v.ownBlock) :
  ∃ A c cs',Hid (cs'=cs++xs)∧cs'.length≤cs.length+xs.length∧v' = .slice A cs'.length c∧Hid (BR w w1 v' cs'):=by
 obtain ⟨A,c,cs',h1,h2,h3,h4,h5⟩:=NC h.fr h.own hown1 hg
 exact ⟨A,c,cs',h1,h2,h3,h5,h4⟩
theorem BR.size {w wr:World} {v:Value} {cs:List UInt8} (h:BR w wr v cs):w.heap.size≤wr.heap.size:=h.fr.size
theorem BR.alloc {w wr:World} {v:Value} {cs:List UInt8} (h:BR w wr v cs) (o:Obj):BR w (wr.alloc o) v cs:=⟨h.fr.alloc o,h.own.alloc o⟩
theorem BR.row {w wr:World} {A:Option Addr} {c:Nat} {cs:List UInt8} (h:BR w wr (.slice A cs.length c) cs):aF wr A (B8 cs):=aF.aR h.own
theorem BR.lit (w:World) (l:List UInt8) (hm:l.length≤maxLen):BR w (w.alloc (.cells (B8 l).toArray 5)) (.slice (some ⟨w.heap.size,0,none⟩) l.length l.length) l:=by
 refine ⟨(Fr.refl _ _).alloc _,?_⟩
 have:=ND w w.heap.size 5 (B8 l) (Nat.le_refl _) (by rw [dW]; exact hm)
 rw [dW] at this
 exact this
theorem BR.cap {w wr:World} {A:Option Addr} {c:Nat} {cs:List UInt8} (h:BR w wr (.slice A cs.length c) cs):cs.length≤c:=by
 rcases h.own.2 with ⟨h1,h2⟩ | ⟨g,cap,cur,h1,_,_,h2,_⟩
 ·simp only [Value.slice.injEq] at h1
  omega
 ·simp only [Value.slice.injEq] at h1
  omega
theorem BR.far {w wr:World} {A:Option Addr} {c:Nat} {cs:List UInt8} (h:BR w wr (.slice A cs.length c) cs):∀ g o,A=some ⟨g,o,none⟩→w.heap.size≤g:=by
 rintro g o rfl
 rcases h.own.2 with ⟨h1,h2⟩ | ⟨g',cap,cur,h1,h3,_,h2,_⟩
 ·simp at h1
 ·simp only [Value.slice.injEq,Option.some.injEq,Addr.mk.injEq] at h1
  omega
section
/-! ### What the temporaries hold -/
abbrev cH := List (Nat × Value)
def fU : cH → Nat → Option Value
 | [], _ => none
 | p :: E, t => bif Nat.beq p.1 t then some p.2 else fU E t
def aN (E : cH) : Operand → Option Value
 | .tmp t => fU E t
 | .const v => some v
 | .global g => some (.pointer (some ⟨g, 0, none⟩))
 | .func f => some (.func (.func f) #[] #[])
def evE (E : cH) (x : Operand) : Value := (aN E x).getD undef
def FO (E : cH) (d : Option Nat) (v : Value) : cH := match d with | some t => (t, v) :: E | none => E
structure Ev (n : Nat) (E : cH) (a : Act) : Prop where
 size : a.tmps.size = n
 defers : a.defers = []
 val : ∀ t v, fU E t = some v → a.tmps.getD t undef = v
theorem Ev.eval {n:Nat} {E:cH} {a:Act} (h:Ev n E a) {x:Operand} {v:Value} (hx:aN E x=some v):a.eval x=v:=by
 cases x with
 | tmp t=>exact h.val t v hx
 | const u=>exact Option.some.inj hx
 | global g=>exact Option.some.inj hx
 | func f=>exact Option.some.inj hx
theorem Ev.evE {n:Nat} {E:cH} {a:Act} (h:Ev n E a) {x:Operand} (hx:(aN E x).isSome=true):a.eval x=evE E x:=by
 obtain ⟨v,hv⟩:=Option.isSome_iff_exists.1 hx
 rw [h.eval hv,Go.Proofs.YtignomkdngnmgaaGreatDoor.evE,hv]
 rfl
def jX (n : Nat) (d : Option Nat) : Bool := match d with | some t => Nat.blt t n | none => true
theorem Ev.put {n:Nat} {E:cH} {a:Act} (h:Ev n E a) {d:Option Nat} (hd:jX n d=true) (v:Value):Ev n (FO E d v) (a.put d v):=by
 cases d with
 | none=>exact h
 | some t =>
   have ht:t < a.tmps.size:=by rw [h.size]; exact (Nat.blt_eq (x:=t) (y:=n))▸hd
   refine ⟨by simp [Act.put,h.size],h.defers,fun s u hs=>?_⟩
   simp only [FO,fU] at hs
   simp only [Act.put,Array.getD_eq_getD_getElem?,Array.getElem?_setIfInBounds]
   cases hb:Nat.beq t s with
   | true =>
     rw [hb] at hs
     have:=Nat.eq_of_beq_eq_true hb
     subst this
     rw [if_pos rfl,if_pos ht]
     exact Option.some.inj hs
   | false =>
     rw [hb] at hs
     have hne:=Nat.ne_of_beq_eq_false hb
     rw [if_neg hne]
     have:=h.val s u hs
     rwa [Array.getD_eq_getD_getElem?] at this
theorem Ev.sub {n:Nat} {E E':cH} {a:Act} (h:Ev n E a) (hs:∀ t v,fU E' t=some v→fU E t=some v):Ev n E' a:=⟨h.size,h.defers,fun t v hv=>h.val t v (hs t v hv)⟩
def nD (E : cH) : cH → Prop
 | [] => True
 | p :: E' => fU E p.1 = some p.2 ∧ nD E E'
theorem wJ {E E':cH} (h:nD E E'):∀ t v,fU E' t=some v→fU E t=some v:=by
 induction E' with
 | nil=>intro t v hv; cases hv
 | cons p E' ih =>
   intro t v hv
   simp only [fU] at hv
   cases hb:Nat.beq p.1 t with
   | true =>
     rw [hb] at hv
     have:=Nat.eq_of_beq_eq_true hb
     subst this
     rw [← Option.some.inj hv]
     exact h.1
   | false =>
     rw [hb] at hv
     exact ih h.2 t v hv
/-! ### Memory: separate pieces -/
structure Ch where
 fp : List Nat
 holds : World → Prop
 ok : ∀ w w', (∀ b ∈ fp, w'.heap[b]? = w.heap[b]?) → holds w → holds w'
 lt : ∀ w, holds w → ∀ b ∈ fp, b < w.heap.size
def aB (b : Nat) (t : TypeId) (l : List Value) : Ch where
 fp := [b]
 holds w := At w b t l
 ok w w' h hw := (h b (by simp)).trans hw
 lt w hw c hc := by rw [List.mem_singleton] at hc; subst hc; exact hw.lt
/-! Short words for what is often told. -/
abbrev vI (n : Nat) : Value := .int .i64 ((n : Nat) : Int)
abbrev vS (x : List UInt8) : Value := .string (bD x)
abbrev vP (b o : Nat) : Value := .pointer (some ⟨b, o, none⟩)
abbrev vL {α : Type} (A : Option Addr) (l : List α) (c : Nat) : Value := .slice A l.length c
structure Mm (w0 : World) (F : List Nat) (cs : List Ch) (w : World) : Prop where
 fr : Fr F w0 w
 hold : ∀ c ∈ cs, c.holds w
 nodup : (cs.flatMap Ch.fp).Nodup
 own : ∀ b ∈ cs.flatMap Ch.fp, b ∈ F ∨ w0.heap.size ≤ b
theorem Mm.start (w:World) (F:List Nat):Mm w F [] w:=⟨Fr.refl _ _,si,si,si⟩
section
variable {w0 w w' : World} {F : List Nat} {cs : List Ch}
theorem Mm.at (h:Mm w0 F cs w) {i:Nat} {c:Ch} (hi:cs[i]?=some c):c.holds w:=h.hold c (List.mem_of_getElem? hi)
theorem Mm.Fh (h:Mm w0 F cs w) {b:Nat} (hb:b∈cs.flatMap Ch.fp):b < w.heap.size:=by
 obtain ⟨c,hc,hbc⟩:=List.mem_flatMap.1 hb
 exact c.lt w (h.hold c hc) b hbc
theorem Mm.drew (h:Mm w0 F cs w):Mm w0 F cs w.drew:=⟨h.fr.drew,fun c hc=>c.ok w _ (fun _ _=>rfl) (h.hold c hc),h.nodup,h.own⟩
theorem Mm.iH (h:Mm w0 F cs w) (hf:Fr [] w w'):Mm w0 F cs w' :=
 ⟨h.fr.Xw hf,fun c hc=>c.ok w _ (fun b hb=>hf.block b (c.lt w (h.hold c hc) b hb) si) (h.hold c hc),h.nodup,h.own⟩
theorem FP {A B:List Ch} {c:Ch} (h:((A++c::B).flatMap Ch.fp).Nodup) :
  (A.flatMap Ch.fp).Nodup∧(B.flatMap Ch.fp).Nodup∧(∀ b∈A.flatMap Ch.fp,b∉B.flatMap Ch.fp)∧∀ b∈c.fp,b∉A.flatMap Ch.fp∧b∉B.flatMap Ch.fp:=by
 rw [List.flatMap_append,List.flatMap_cons] at h
 rw [List.nodup_append] at h
 obtain ⟨h1,h2,h3⟩:=h
 rw [List.nodup_append] at h2
 obtain ⟨h4,h5,h6⟩:=h2
 exact ⟨h1,h5,fun b hb hb'=>h3 b hb b (List.mem_append_right _ hb') rfl,fun b hb=>⟨fun hb'=>h3 b hb' b (List.mem_append_left _ hb) rfl,fun hb'=>h6 b hb b hb' rfl⟩⟩
theorem FQ {α:Type} {l:List α} {i:Nat} {c:α} (h:l[i]?=some c):l=l.take i++c::l.drop (i+1):=by
 obtain ⟨h1,e1⟩:=List.getElem?_eq_some_iff.1 h
 rw [← e1,← List.drop_eq_getElem_cons h1,List.take_append_drop]
theorem Mm.swap (h:Mm w0 F cs w) (i:Nat) {c c':Ch} (hi:cs[i]?=some c) (hf:Fr c.fp w w') (hc:c'.holds w') (hfp:∀ b∈c'.fp,b∈c.fp∨w.heap.size≤b) (hnd:c'.fp.Nodup) :
  Mm w0 F (cs.set i c') w':=by
 have hsz:=h.fr.size
 have hs:=FQ hi
 have hcm:c∈cs:=List.mem_of_getElem? hi
 have hset:cs.set i c'=cs.take i++c'::cs.drop (i+1):=by
  have hl:=(List.getElem?_eq_some_iff.1 hi).1
  rw [List.set_eq_take_append_cons_drop,if_pos hl]
 have hnd0:=h.nodup
 rw [hs] at hnd0
 obtain ⟨n1,n2,n3,n4⟩:=FP hnd0
 have hA:∀ x∈cs.take i,x∈cs:=fun x hx=>List.mem_of_mem_take hx
 have hB:∀ x∈cs.drop (i+1),x∈cs:=fun x hx=>List.mem_of_mem_drop hx
 have hAB:∀ x,x∈cs.take i∨x∈cs.drop (i+1)→x.holds w':=by
  intro x hx
  have hxm:x∈cs:=hx.elim (hA x) (hB x)
  refine x.ok w w' (fun b hb=>hf.block b (x.lt w (h.hold x hxm) b hb) (fun hbc=>?_)) (h.hold x hxm)
  rcases hx with hx | hx
  ·exact (n4 b hbc).1 (List.mem_flatMap.2 ⟨x,hx,hb⟩)
  ·exact (n4 b hbc).2 (List.mem_flatMap.2 ⟨x,hx,hb⟩)
 have hownc:∀ b∈c.fp,b∈F∨w0.heap.size≤b:=fun b hb=>h.own b (List.mem_flatMap.2 ⟨c,hcm,hb⟩)
 have hltAB:∀ b,b∈(cs.take i).flatMap Ch.fp∨b∈(cs.drop (i+1)).flatMap Ch.fp→b < w.heap.size:=by
  intro b hb
  rcases hb with hb | hb <;> obtain ⟨x,hx,hbx⟩:=List.mem_flatMap.1 hb
  ·exact x.lt w (h.hold x (hA x hx)) b hbx
  ·exact x.lt w (h.hold x (hB x hx)) b hbx
 have hc'not:∀ b∈c'.fp,b∉(cs.take i).flatMap Ch.fp∧b∉(cs.drop (i+1)).flatMap Ch.fp:=by
  intro b hb
  rcases hfp b hb with h1 | h1
  ·exact n4 b h1
  ·exact ⟨fun h2=>by have:=hltAB b (.inl h2); omega,fun h2=>by have:=hltAB b (.inr h2); omega⟩
 rw [hset]
 refine ⟨h.fr.trans' hf hownc,?_,?_,?_⟩
 ·intro x hx
  rcases List.mem_append.1 hx with hx | hx
  ·exact hAB x (.inl hx)
  ·rcases List.mem_cons.1 hx with rfl | hx
   ·exact hc
   ·exact hAB x (.inr hx)
 ·rw [List.flatMap_append,List.flatMap_cons,List.nodup_append,List.nodup_append]
  refine ⟨n1,⟨hnd,n2,fun a ha b hb e=>(hc'not a ha).2 (e▸hb)⟩,fun a ha b hb e=>?_⟩
  subst e
  rcases List.mem_append.1 hb with hb | hb
  ·exact (hc'not a hb).1 ha
  ·exact n3 a ha hb
 ·intro b hb
  rw [List.flatMap_append,List.flatMap_cons] at hb
  rcases List.mem_append.1 hb with hb | hb
  ·obtain ⟨x,hx,hbx⟩:=List.mem_flatMap.1 hb
   exact h.own b (List.mem_flatMap.2 ⟨x,hA x hx,hbx⟩)
  ·rcases List.mem_append.1 hb with hb | hb
   ·rcases hfp b hb with h1 | h1
    ·exact hownc b h1
    ·exact .inr om
   ·obtain ⟨x,hx,hbx⟩:=List.mem_flatMap.1 hb
    exact h.own b (List.mem_flatMap.2 ⟨x,hB x hx,hbx⟩)
theorem Mm.push (h:Mm w0 F cs w) {c:Ch} (hf:Fr [] w w') (hc:c.holds w') (hfp:∀ b∈c.fp,w.heap.size≤b) (hnd:c.fp.Nodup):Mm w0 F (cs++[c]) w':=by
 have h0:=h.iH hf
 have hsz:=h.fr.size
 refine ⟨h0.fr,?_,?_,?_⟩
 ·intro x hx
  rcases List.mem_append.1 hx with hx | hx
  ·exact h0.hold x hx
  ·rw [List.mem_singleton] at hx
   subst hx
   exact hc
 ·rw [List.flatMap_append,List.nodup_append]
  refine ⟨h.nodup,by simpa using hnd,fun a ha b hb e=>?_⟩
  subst e
  have h1:=h.Fh ha
  have h2:=hfp a (by simpa using hb)
  omega
 ·intro b hb
  rw [List.flatMap_append] at hb
  rcases List.mem_append.1 hb with hb | hb
  ·exact h.own b hb
  ·exact .inr (by have:=hfp b (by simpa using hb); omega)
theorem BZ {A B:List Ch} (h:A.Sublist B):(A.flatMap Ch.fp).Sublist (B.flatMap Ch.fp):=by
 induction h with
 | slnil=>exact List.Sublist.slnil
 | cons a _ ih=>rw [List.flatMap_cons]; exact ih.trans (List.sublist_append_right _ _)
 | cons_cons a _ ih=>rw [List.flatMap_cons,List.flatMap_cons]; exact (List.Sublist.refl _).append ih
theorem Mm.sub {cs':List Ch} (h:Mm w0 F cs w) (hs:cs'.Sublist cs):Mm w0 F cs' w :=
 ⟨h.fr,fun c hc=>h.hold c (hs.subset hc),h.nodup.sublist (BZ hs),fun b hb=>h.own b ((BZ hs).subset hb)⟩
theorem Mm.perm {cs':List Ch} (h:Mm w0 F cs w) (hs:cs.Perm cs'):Mm w0 F cs' w :=
 ⟨h.fr,fun c hc=>h.hold c (hs.mem_iff.2 hc),(hs.flatMap_right _).nodup_iff.1 h.nodup,fun b hb=>h.own b ((hs.flatMap_right _).mem_iff.2 hb)⟩
end
def St (n : Nat) (w0 : World) (F : List Nat) (E : cH) (cs : List Ch) (X : Act → World → Prop) : Prop := ∀ a w, Ev n E a → Mm w0 F cs w → X a w
def cM (P : Program) (Q : Exit → Act → World → Prop) (n : Nat) (w0 : World) (F : List Nat) (E : cH) (cs : List Ch) (o : Oper) (K : Act → World → Prop) : Prop :=
 ∀ a w, Ev n E a → Mm w0 F cs w → o.wp P a w K Q
section
variable {P : Program} {Q : Exit → Act → World → Prop} {n : Nat} {w0 : World} {F : List Nat} {E : cH} {cs : List Ch} {X K : Act → World → Prop} {ops : Array Oper} {o : Oper} {rest : List Oper} {id d : Nat}
theorem St.fact {p:Prop} (hp:∀ w,Mm w0 F cs w→p) (h:p→St n w0 F E cs X):St n w0 F E cs X:=fun a w ha hM=>h (hp w hM) a w ha hM
theorem St.mem {cs':List Ch} (hp:∀ w,Mm w0 F cs w→Mm w0 F cs' w) (h:St n w0 F E cs' X):St n w0 F E cs X:=fun a w ha hM=>h a w ha (hp w hM)
/-! ### The run of an operation looks at its operands alone -/
def uB (o : Oper) : Bool := match o.op with | .select .. => false | _ => true
def bK (n : Nat) (E : cH) (o : Oper) : Bool := uB o && jX n o.dst && o.op.operands.all fun x => (aN E x).isSome
theorem pI {a:Act} (h:bK n E o=true) (ha:Ev n E a):execOp a.eval o=execOp (evE E) o:=by
 simp only [bK,Bool.and_eq_true] at h
 refine execOp_congr o (fun c b e=>?_) (fun x hx=>?_)
 ·have:=h.1.1
  simp [uB,e] at this
 ·exact ha.evE ((Array.all_eq_true_iff_forall_mem.1 h.2) x hx)
theorem qK (h:bK n E o=true):jX n o.dst=true:=by
 simp only [bK,Bool.and_eq_true] at h
 exact h.1.2
theorem mR (v:Value) (hd:o.dst=some d) (hk:bK n E o=true) (hr:∀ w,Mm w0 F cs w→(execOp (evE E) o).run P w = .ok (.value v) w) (h:St n w0 F ((d,v)::E) cs K):cM P Q n w0 F E cs o K:=by
 intro a w ha hM
 unfold Oper.wp
 rw [pI hk ha,hr w hM]
 have h1:=ha.put (qK hk) v
 rw [hd] at h1
 have h2:=h _ _ h1 hM
 rw [← hd] at h2
 exact h2
theorem nE (hd:o.dst=some d) (hk:bK n E o=true) (hr:∀ w,Mm w0 F cs w→∃ v w' cs',(execOp (evE E) o).run P w = .ok (.value v) w'∧Mm w0 F cs' w'∧St n w0 F ((d,v)::E) cs' K):cM P Q n w0 F E cs o K:=by
 intro a w ha hM
 obtain ⟨v,w',cs',h1,h2,h3⟩:=hr w hM
 unfold Oper.wp
 rw [pI hk ha,h1]
 have h4:=ha.put (qK hk) v
 rw [hd] at h4
 have h5:=h3 _ _ h4 h2
 rw [← hd] at h5
 exact h5
theorem Ca (hd:o.dst=none) (hk:bK n E o=true) (hr:∀ w,Mm w0 F cs w→∃ w' cs',(execOp (evE E) o).run P w = .ok .skip w'∧Mm w0 F cs' w'∧St n w0 F E cs' K):cM P Q n w0 F E cs o K:=by
 intro a w ha hM
 obtain ⟨w',cs',h1,h2,h3⟩:=hr w hM
 unfold Oper.wp
 rw [pI hk ha,h1]
 have h5:=h3 _ _ ha h2
 unfold Oper.upon
 rw [hd]
 exact h5
theorem eN (f:FuncId) (args:Array Value) (hd:o.dst=some d) (hk:bK n E o=true) (hr:∀ w,(execOp (evE E) o).run P w = .ok (.enter f args) w)
  (h:∀ w,Mm w0 F cs w→Calls P f args w fun e w'=>∃ v cs',e = .returned v∧Mm w0 F cs' w'∧St n w0 F ((d,v)::E) cs' K):cM P Q n w0 F E cs o K:=by
 intro a w ha hM
 unfold Oper.wp
 rw [pI hk ha,hr w]
 refine (h w hM).mono ?_
 rintro e w' ⟨v,cs',rfl,h2,h3⟩
 have h4:=ha.put (qK hk) v
 rw [hd] at h4
 have h5:=h3 _ _ h4 h2
 rw [← hd] at h5
 exact h5
theorem mE (f:FuncId) (args:Array Value) (hd:o.dst=some d) (hk:bK n E o=true) (hr:∀ w,(execOp (evE E) o).run P w = .ok (.enter f args) w)
  (h:∀ w,Mm w0 F cs w→Calls P f args w fun e w'=>∃ v w1 F1 cs1,e = .returned v∧Mm w1 F1 cs1 w'∧St n w1 F1 ((d,v)::E) cs1 K):cM P Q n w0 F E cs o K:=by
 intro a w ha hM
 unfold Oper.wp
 rw [pI hk ha,hr w]
 refine (h w hM).mono ?_
 rintro e w' ⟨v,w1,F1,cs1,rfl,h2,h3⟩
 have h4:=ha.put (qK hk) v
 rw [hd] at h4
 have h5:=h3 _ _ h4 h2
 rw [← hd] at h5
 exact h5
/-! ### Operations in a row -/
theorem li (hg : o.guard = none) (h : cM P Q n w0 F E cs o (wpList P ops Q rest)) : St n w0 F E cs (wpList P ops Q (o :: rest)) :=
 fun a w ha hM => wpList_plain hg fun _ hK => Oper.wp_mono hK (h a w ha hM)
theorem aS (h:St n w0 F E cs (Q .normal)):St n w0 F E cs (wpList P ops Q []):=h
theorem aE {l:List Oper} (h:St n w0 F E cs (wpList P l.toArray Q l)):St n w0 F E cs ((Code.region id l.toArray false).wp P Q):=fun a w ha hM=>wp_region_lit (h a w ha hM)
def gH (ops : Array Oper) (E : cH) (i : Nat) : Option Bool :=
 match (ops[i]?).bind (·.dst) with
 | some t => match fU E t with | some (.bool b) => some b | _ => none
 | none => none
theorem uC {a:Act} (ha:Ev n E a) {i:Nat} {b:Bool} (h:gH ops E i=some b):yielded ops a.tmps i=some b:=by
 unfold gH at h
 unfold yielded
 cases hd:(ops[i]?).bind (·.dst) with
 | none=>rw [hd] at h; cases h
 | some t =>
   rw [hd] at h
   cases hl:fU E t with
   | none=>simp only [hl] at h; cases h
   | some v =>
     simp only [hl] at h
     have h1:=ha.val t _ hl
     cases v <;> try (cases h; done)
     rename_i c
     rw [Array.getD_eq_getD_getElem?] at h1
     cases h2:a.tmps[t]? with
     | none=>rw [h2] at h1; simp [undef] at h1
     | some u =>
       rw [h2] at h1
       simp only [Option.getD_some] at h1
       subst h1
       simp only [Option.bind_some,h2]
       exact h
theorem fI {i:Nat} {b:Bool} (hg:o.guard=some (i,b)) (hy:gH ops E i=some b) (h:cM P Q n w0 F E cs o (wpList P ops Q rest)):St n w0 F E cs (wpList P ops Q (o::rest)) :=
 fun a w ha hM=>wpList_step fun _ hK=>by
  rw [if_pos (by simp [Region.wanted,hg,uC ha hy])]
  exact Oper.wp_mono hK (h a w ha hM)
theorem rT {i:Nat} {b:Bool} (hg:o.guard=some (i,!b)) (ht:o.dst=some d) (hd:jX n (some d)=true) (hy:gH ops E i=some b) (h:St n w0 F ((d,undef)::E) cs (wpList P ops Q rest)):St n w0 F E cs (wpList P ops Q (o::rest)) :=
 fun a w ha hM=>wpList_step fun _ hK=>by
  rw [if_neg (by cases b <;> simp [Region.wanted,hg,uC ha hy])]
  rw [ht]
  exact hK _ _ (h _ _ (ha.put hd undef) hM)
variable {x y c : Code}
theorem aQ (h:St n w0 F E cs (x.wp P (Exit.then (y.wp P Q) Q))):St n w0 F E cs ((Code.seq x y).wp P Q):=fun a w ha hM=>wp_seq (h a w ha hM)
theorem jF (h:St n w0 F E cs (Q .normal)):St n w0 F E cs (Code.skip.wp P Q):=fun a w ha hM=>wp_skip (h a w ha hM)
theorem eS (h:St n w0 F E cs (c.wp P (Exit.inBlock id Q))):St n w0 F E cs ((Code.block id c).wp P Q):=fun a w ha hM=>wp_block (h a w ha hM)
theorem rU (h:St n w0 F E cs (Q (.exit id))):St n w0 F E cs ((Code.exit id).wp P Q):=fun a w ha hM=>wp_exit (h a w ha hM)
theorem gQ (h:St n w0 F E cs (Q .ret)):St n w0 F E cs (Code.ret.wp P Q):=fun a w ha hM=>wp_ret (h a w ha hM)
theorem bR {u:Operand} {b:Bool} (hu:aN E u=some (.bool b)) (ht:b=true→St n w0 F E cs (x.wp P Q)) (hf:b=false→St n w0 F E cs (y.wp P Q)):St n w0 F E cs ((Code.cond u x y).wp P Q) :=
 fun a w ha hM=>wp_cond_split (ha.eval hu) (fun h=>ht h a w ha hM) (fun h=>hf h a w ha hM)
theorem pJ {u:Operand} (hu:aN E u=some (.bool true)) (h:St n w0 F E cs (x.wp P Q)):St n w0 F E cs ((Code.cond u x y).wp P Q):=fun a w ha hM=>wp_cond_true (ha.eval hu) (h a w ha hM)
theorem qL {u:Operand} (hu:aN E u=some (.bool false)) (h:St n w0 F E cs (y.wp P Q)):St n w0 F E cs ((Code.cond u x y).wp P Q):=fun a w ha hM=>wp_cond_false (ha.eval hu) (h a w ha hM)
def zJ {ι : Type} (n : Nat) (w0 : World) (F : List Nat) (ok : ι → Prop) (μ : ι → Nat) (J : ι → cH) (C : ι → List Ch) (i : ι) (a : Act) (w : World) : Prop := ∃ j, ok j ∧ μ j < μ i ∧ Ev n (J j) a ∧ Mm w0 F (C j) w
theorem FR {ι:Type} (ok:ι→Prop) (μ:ι→Nat) (J:ι→cH) (C:ι→List Ch) (i0:ι) (h0:ok i0) (hE:nD E (J i0)) (hM:∀ w,Mm w0 F cs w→Mm w0 F (C i0) w)
  (round:∀ i,ok i→St n w0 F (J i) (C i) (c.wp P (Exit.then (zJ n w0 F ok μ J C i) Q))):St n w0 F E cs ((Code.loop c).wp P Q):=by
 intro a w ha hm
 refine wp_loop_ghost (fun k a w=>∃ i,ok i∧μ i=k∧Ev n (J i) a∧Mm w0 F (C i) w) (μ i0) ⟨i0,h0,rfl,ha.sub (wJ hE),hM w hm⟩ ?_
 rintro k a w ⟨i,hi,rfl,ha,hm⟩
 refine wp_mono (round i hi a w ha hm) ?_
 intro e a' w' hq
 cases e with
 | normal =>
   obtain ⟨j,hj,hlt,ha',hm'⟩:=hq
   exact ⟨μ j,hlt,j,hj,rfl,ha',hm'⟩
 | exit id=>exact hq
 | goto l=>exact hq
 | ret=>exact hq
 | panic ch=>exact hq
 | outgrown=>exact hq
theorem uD {ι:Type} {ok:ι→Prop} {μ:ι→Nat} {J:ι→cH} {C:ι→List Ch} {i:ι} (j:ι) (h1:ok j) (h2:μ j < μ i) (hE:nD E (J j)) (hM:∀ w,Mm w0 F cs w→Mm w0 F (C j) w):St n w0 F E cs (zJ n w0 F ok μ J C i) :=
 fun _ w ha hm=>⟨j,h1,h2,ha.sub (wJ hE),hM w hm⟩
def Cb {ι : Type} (n : Nat) (w0 : World) (F : List Nat) (ok : ι → Prop) (J : ι → cH) (C : ι → List Ch) (a : Act) (w : World) : Prop := ∃ j, ok j ∧ Ev n (J j) a ∧ Mm w0 F (C j) w
theorem FT {ι:Type} (ok:ι→Prop) (J:ι→cH) (C:ι→List Ch) (h1:St n w0 F E cs (x.wp P (Exit.then (Cb n w0 F ok J C) Q))) (h2:∀ i,ok i→St n w0 F (J i) (C i) (y.wp P Q)):St n w0 F E cs ((Code.seq x y).wp P Q):=by
 intro a w ha hm
 refine wp_seq<|wp_mono (h1 a w ha hm) ?_
 intro e a' w' hq
 cases e with
 | normal =>
   obtain ⟨j,hj,ha',hm'⟩:=hq
   exact h2 j hj a' w' ha' hm'
 | exit id=>exact hq
 | goto l=>exact hq
 | ret=>exact hq
 | panic ch=>exact hq
 | outgrown=>exact hq
theorem NF {ι:Type} {ok:ι→Prop} {J:ι→cH} {C:ι→List Ch} (j:ι) (h1:ok j) (hE:nD E (J j)) (hM:∀ w,Mm w0 F cs w→Mm w0 F (C j) w):St n w0 F E cs (Cb n w0 F ok J C):=fun _ w ha hm=>⟨j,h1,ha.sub (wJ hE),hM w hm⟩
theorem aJ (h:St n w0 F E cs K):St n w0 F E cs (Exit.then K Q .normal):=h
theorem iI {id:Nat} (h:St n w0 F E cs (Q (.exit id))):St n w0 F E cs (Exit.then K Q (.exit id)):=h
theorem eA (h:St n w0 F E cs (Q .ret)):St n w0 F E cs (Exit.then K Q .ret):=h
theorem nF {id:Nat} (h:St n w0 F E cs (Q .normal)):St n w0 F E cs (Exit.inBlock id Q .normal):=h
theorem gB {id:Nat} (h:St n w0 F E cs (Q .ret)):St n w0 F E cs (Exit.inBlock id Q .ret):=h
theorem lN {id:Nat} (h:St n w0 F E cs (Q .normal)):St n w0 F E cs (Exit.inBlock id Q (.exit id)):=fun a w ha hM=>by simpa [Exit.inBlock] using h a w ha hM
theorem wK {id id':Nat} (hne:Nat.beq id' id=false) (h:St n w0 F E cs (Q (.exit id'))):St n w0 F E cs (Exit.inBlock id Q (.exit id')):=fun a w ha hM=>by
 have:=Nat.ne_of_beq_eq_false hne
 simpa [Exit.inBlock,this] using h a w ha hM
theorem rV {u:Operand} {b:Bool} (hu:aN E u=some (.bool b)) (hb:b=true) (h:St n w0 F E cs (x.wp P Q)):St n w0 F E cs ((Code.cond u x y).wp P Q):=pJ (hb▸hu) h
theorem eF {u:Operand} {b:Bool} (hu:aN E u=some (.bool b)) (hb:b=false) (h:St n w0 F E cs (y.wp P Q)):St n w0 F E cs ((Code.cond u x y).wp P Q):=qL (hb▸hu) h
theorem Ev.conv {E:cH} {a:Act} (h:Ev n E a) {t:Nat} {v v':Value} (ht:fU E t=some v) (e:v=v'):Ev n ((t,v')::E) a:=by
 refine h.sub fun s u hs=>?_
 simp only [fU] at hs
 cases hb:Nat.beq t s with
 | true =>
   rw [hb] at hs
   have:=Nat.eq_of_beq_eq_true hb
   subst this
   rw [ht,e]
   exact hs
 | false =>
   rw [hb] at hs
   exact hs
theorem St.conv {X:Act→World→Prop} (t:Nat) {v v':Value} (ht:fU E t=some v) (e:v=v') (h:St n w0 F ((t,v')::E) cs X):St n w0 F E cs X:=fun a w ha hM=>h a w (ha.conv ht e) hM
theorem St.known {X:Act→World→Prop} (t:Nat) {b b':Bool} (ht:fU E t=some (.bool b)) (e:b=b') (h:St n w0 F ((t,.bool b')::E) cs X):St n w0 F E cs X:=St.conv t ht (by rw [e]) h
theorem St.dec {X:Act→World→Prop} (t:Nat) {b:Bool} (ht:fU E t=some (.bool b)) (h1:b=true→St n w0 F ((t,.bool true)::E) cs X) (h0:b=false→St n w0 F ((t,.bool false)::E) cs X):St n w0 F E cs X:=by
 cases b with
 | true=>exact St.known t ht rfl (h1 rfl)
 | false=>exact St.known t ht rfl (h0 rfl)
/-! ### The end -/
/-- What a result variable yields. -/
def NG (P : Program) (w0 : World) (F : List Nat) (E : cH) (cs : List Ch) : ResultVar → Value → Prop
 | .tmp t, v => fU E t = some v
 | .cell a t, v => ∃ p, fU E a = some (.pointer (some p)) ∧ ∀ w, Mm w0 F cs w → (loadVar t p).run P w = .ok v w
def wL (P : Program) (w0 : World) (F : List Nat) (E : cH) (cs : List Ch) : List ResultVar → List Value → Prop
 | [], [] => True
 | r :: rs, v :: vs => NG P w0 F E cs r v ∧ wL P w0 F E cs rs vs
 | _, _ => False
def pK : List Value → Value
 | [v] => v
 | vs => .tuple vs.toArray
def rZ (tmps : Array Value) (r : ResultVar) : Sem Value := match r with
 | .tmp t => pure (tmps.getD t undef)
 | .cell a t => do loadVar t (← asAddr (tmps.getD a undef))
theorem NH (fn:Func) (tmps:Array Value):results fn tmps=(do let vs ← fn.results.mapM (rZ tmps); pure (if h:vs.size=1 then vs[0] else .tuple vs)):=by
 have:(rZ tmps)=(fun | .tmp t=>pure (tmps.getD t undef) | .cell a t=>do loadVar t (← asAddr (tmps.getD a undef)):ResultVar→Sem Value):=by
  funext r
  cases r <;> rfl
 rw [this]
 rfl
theorem FU {a:Act} {w:World} (ha:Ev n E a) (hM:Mm w0 F cs w):∀ (rs:List ResultVar) (vs:List Value),wL P w0 F E cs rs vs→(rs.mapM (rZ a.tmps)).run P w = .ok vs w
 | [],[],_=>by simp
 | [],_::_,h=>h.elim
 | _::_,[],h=>h.elim
 | r::rs,v::vs,h=>by
   have ih:=FU ha hM rs vs h.2
   have h1:(rZ a.tmps r).run P w = .ok v w:=by
    cases r with
    | tmp t=>simp only [rZ,Sem.run_pure,ha.val t v h.1]
    | cell b t =>
      obtain ⟨p,hp,hl⟩:=h.1
      simp only [rZ,ha.val b _ hp,asAddr,Sem.run_bind,Sem.run_pure,Result.andThen_ok]
      exact hl w hM
   rw [List.mapM_cons]
   simp only [Sem.run_bind,h1,Result.andThen_ok,ih,Sem.run_pure]
theorem NI (vs:List Value):(if h:vs.toArray.size=1 then vs.toArray[0] else .tuple vs.toArray)=pK vs:=by
 match vs with
 | []=>simp [pK]
 | [v]=>simp [pK]
 | v::u::l=>simp [pK]
theorem iJ {fn:Func} {R:Ending→World→Prop} {rs:List ResultVar} (vs:List Value) (hf:fn.results=rs.toArray) (hv:wL P w0 F E cs rs vs) (hR:∀ w,Mm w0 F cs w→R (.returned (pK vs)) w):St n w0 F E cs (bodyPost P fn R .ret):=by
 intro a w ha hM
 refine ⟨ha.defers,pK vs,?_,hR w hM⟩
 have h:=FU (P:=P) ha hM rs vs hv
 rw [NH,hf]
 simp only [List.mapM_toArray,Sem.run_bind]
 have e:(List.toArray <$> rs.mapM (rZ a.tmps)).run P w = .ok vs.toArray w:=by
  rw [← bind_pure_comp]
  simp only [Sem.run_bind,h,Result.andThen_ok,Sem.run_pure]
 rw [e]
 simp only [Result.andThen_ok,Sem.run_pure]
 rw [NI]
theorem jY {fn:Func} {R:Ending→World→Prop} {rs:List ResultVar} (vs:List Value) (hf:fn.results=rs.toArray) (hv:wL P w0 F E cs rs vs) (hR:∀ w,Mm w0 F cs w→R (.returned (pK vs)) w):St n w0 F E cs (bodyPost P fn R .normal):=iJ vs hf hv hR
theorem uE {f:FuncId} {fn:Func} {c:Code} {args:List Value} {w:World} {R:Ending→World→Prop} (F:List Nat) (hf:P.funcs[f]?=some fn) (hb:fn.body=some c) (m:Nat) (hm:(args.length+(fn.ntmps - args.length))=m) (E:cH) (hE:nD (args.zipIdx.map fun p=>(p.2,p.1)) E)
  (cs:List Ch) (hcs:Mm w F cs w) (h:St m w F E cs (c.wp P (bodyPost P fn R))):Calls P f args.toArray w R:=by
 refine calls_of_wp hf hb<|h _ _ (⟨by simp; omega,rfl,fun t v hv=>?_⟩) hcs
 have h1:=wJ hE t v hv
 have key:∀ (l:List Value) (k:Nat),fU ((l.zipIdx k).map fun p=>(p.2,p.1)) t=some v→k≤t∧l[t - k]?=some v:=by
  intro l
  induction l with
  | nil=>intro k hk; cases hk
  | cons u l ih =>
    intro k hk
    simp only [List.zipIdx_cons,List.map_cons,fU] at hk
    cases hb:Nat.beq k t with
    | true =>
      rw [hb] at hk
      have:=Nat.eq_of_beq_eq_true hb
      subst this
      exact ⟨Nat.le_refl _,by simpa using hk⟩
    | false =>
      rw [hb] at hk
      obtain ⟨h2,h3⟩:=ih (k+1) hk
      refine ⟨om,?_⟩
      rw [show t - k=(t - (k+1))+1 by omega,List.getElem?_cons_succ]
      exact h3
 obtain ⟨_,h2⟩:=key args 0 h1
 have h3:=(List.getElem?_eq_some_iff.1 h2).1
 simp only [Array.getD_eq_getD_getElem?]
 rw [Array.getElem?_append_left (by simpa using h3)]
 simpa using congrArg (fun o=>o.getD undef) h2
end
section
variable {P : Program} {Q : Exit → Act → World → Prop} {ops : Array Oper} {md : Region.Mode} {S : World → Prop} {z : Nat}
def nY (P : Program) (md : Region.Mode) (ops : Array Oper) (Q : Exit → Act → World → Prop) (S : World → Prop) (z : Nat) : Nat → Array Bool → Act → World → Prop
 | 0, listed, a, w => Region.ready md ops listed = [] ∧ Q .normal a w
 | fuel + 1, listed, a, w =>
   (Region.ready md ops listed = [] → Q .normal a w) ∧
   ∀ i ∈ Region.ready md ops listed, wpOp P ops Q i (fun a' w' => (i = z ∧ wpAny P md ops Q fuel (listed.setIfInBounds i true) a' w') ∨ (S w' ∧ nY P md ops Q S z fuel (listed.setIfInBounds i true) a' w')) a w
theorem FV:∀ (fuel:Nat) (listed:Array Bool) (a:Act) (w:World),nY P md ops Q S z fuel listed a w→wpAny P md ops Q fuel listed a w
 | 0,_,_,_,h=>h
 | fuel+1,_,_,_,h=>⟨h.1,fun i hi=>wpOp_mono (fun a' w' h'=>h'.elim (·.2) fun h'=>FV fuel _ a' w' h'.2) (h.2 i hi)⟩
theorem FW {S':World→Prop} (hS:∀ w,S' w→S w):∀ (fuel:Nat) (listed:Array Bool) (a:Act) (w:World),nY P md ops Q S' z fuel listed a w→nY P md ops Q S z fuel listed a w
 | 0,_,_,_,h=>h
 | fuel+1,_,_,_,h=>⟨h.1,fun i hi=>wpOp_mono (fun a' w' h'=>h'.imp id fun h'=>⟨hS w' h'.1,FW hS fuel _ a' w' h'.2⟩) (h.2 i hi)⟩
def nZ (md : Region.Mode) (ops : Array Oper) (listed : Array Bool) : Prop := ∀ k o, ops[k]? = some o → listed.getD k false = true → ∀ e ∈ o.after, Region.binds md e = true → listed.getD e.on false = true
def sB (md : Region.Mode) (ops : Array Oper) : Nat → Nat → Nat → Bool
 | 0, _, _ => false
 | f + 1, z, i => ((ops[z]?).map fun o => o.after.any fun e => Region.binds md e && (Nat.beq e.on i || sB md ops f e.on i)).getD false
theorem FX {listed:Array Bool} (hc:nZ md ops listed):∀ (f z i:Nat),(∀ o,ops[z]?=some o→∀ e∈o.after,Region.binds md e=true→listed.getD e.on false=true)→sB md ops f z i=true→listed.getD i false=true
 | 0,_,_,_,h=>by simp [sB] at h
 | f+1,z,i,hz,h=>by
   simp only [sB] at h
   cases ho:ops[z]? with
   | none=>simp [ho] at h
   | some o =>
     simp only [ho,Option.map_some,Option.getD_some] at h
     obtain ⟨k,hk,h⟩:=Array.any_eq_true.1 h
     simp only [Bool.and_eq_true,Bool.or_eq_true] at h
     obtain ⟨hb,h1⟩:=h
     have he:o.after[k]∈o.after:=Array.getElem_mem hk
     generalize o.after[k]=e at hb h1 he
     have h2:=hz o ho e he hb
     rcases h1 with h1 | h1
     ·rw [← Nat.eq_of_beq_eq_true h1]
      exact h2
     ·exact FX hc f e.on i (fun o' ho' e' he' hb'=>hc e.on o' ho' h2 e' he' hb') h1
theorem Cc {listed:Array Bool} {j:Nat} (h1:listed.getD j true=false) (h2:listed.getD j false=true):False:=by
 simp only [Array.getD_eq_getD_getElem?] at h1 h2
 cases h:listed[j]? with
 | none=>rw [h] at h2; cases h2
 | some b=>rw [h] at h1 h2; simp at h1 h2; rw [h1] at h2; cases h2
theorem nZ.set {listed:Array Bool} (hc:nZ md ops listed) {j:Nat} (hj:j∈Region.ready md ops listed):nZ md ops (listed.setIfInBounds j true):=by
 obtain ⟨hun,oj,hoj,hall⟩:=mem_ready.1 hj
 have up:∀ k,listed.getD k false=true→(listed.setIfInBounds j true).getD k false=true:=by
  intro k hk
  by_cases hjk:j=k
  ·subst hjk; exact (Cc hun hk).elim
  ·rw [getD_set_ne false hjk]; exact hk
 intro k o hk hl e he hb
 by_cases hjk:j=k
 ·subst hjk
  rw [hoj] at hk
  cases hk
  have:=hall e he hb
  exact up _ (by simpa [Array.getD_eq_getD_getElem?] using this)
 ·rw [getD_set_ne false hjk] at hl
  exact up _ (hc k o hk hl e he hb)
theorem nZ.none (md:Region.Mode) (ops:Array Oper) (m:Nat):nZ md ops (Array.replicate m false):=by
 intro k o _ hl
 rw [Array.getD_eq_getD_getElem?,Array.getElem?_replicate] at hl
 split at hl <;> cases hl
theorem Cd {i:Nat} {oi:Oper} {v:Value} (hi:ops[i]?=some oi) (hsel:∀ (j:Nat) (o:Oper) cs b,ops[j]?=some o→o.op≠.select cs b)
  (hQ:∀ c a w,Q (.panic c) (a.put oi.dst v) w→Q (.panic c) a w) (hiz:i≠z) :
  ∀ (fuel:Nat) (listed:Array Bool) (a:Act) (w:World),nZ md ops listed→(listed.getD z false=true∨(z < ops.size→sB md ops ops.size z i=true)) →
    (∀ j oj,ops[j]?=some oj→j≠i→listed.getD j true=false→(∀ e∈oj.after,Region.binds md e=true→e.on≠i)→oi.apart ops oj=true) →
    i∈Region.ready md ops listed→YieldsIf P ops S oi v a→S w →
    nY P md ops Q S z fuel (listed.setIfInBounds i true) (a.put oi.dst v) w→nY P md ops Q S z (fuel+1) listed a w:=by
 intro fuel
 induction fuel with
 | zero =>
   intro listed a w _ _ _ hr hy hS H
   refine ⟨fun h=>(by rw [h] at hr; cases hr),fun j hj=>?_⟩
   by_cases hji:j=i
   ·subst hji; exact hy.wpOp hi hS (.inr ⟨hS,H⟩)
   ·have:=ready_mono hj hji
    rw [H.1] at this
    cases this
 | succ fuel ih =>
   intro listed a w hcl hz hfree hr hy hS H
   refine ⟨fun h=>(by rw [h] at hr; cases hr),fun j hj=>?_⟩
   by_cases hji:j=i
   ·subst hji; exact hy.wpOp hi hS (.inr ⟨hS,H⟩)
   ·have h1:=H.2 j (ready_mono hj hji)
    obtain ⟨hjun,oj,hoj,hall⟩:=mem_ready.1 hj
    have hjz:j≠z:=by
     rintro rfl
     have hlt:j < ops.size:=(Array.getElem?_eq_some_iff.1 hoj).1
     rcases hz with hz | hz
     ·exact Cc hjun hz
     have:=FX hcl ops.size j i (fun o ho e he hb=>by
      rw [hoj] at ho
      cases ho
      simpa [Array.getD_eq_getD_getElem?] using hall e he hb) (hz hlt)
     exact Cc (mem_ready.1 hr).1 this
    have hnot:∀ e∈oj.after,Region.binds md e=true→e.on≠i:=fun e he hb heq=>by
     have h1:=hall e he hb
     have h0:=(mem_ready.1 hr).1
     rw [heq] at h1
     rcases Nat.lt_or_ge i listed.size with h' | h'
     ·simp [h'] at h0 h1; rw [h0] at h1; cases h1
     ·simp [Array.getElem?_eq_none h'] at h1
    have h2:=wpOp_putIf hoj (hfree j oj hoj hji hjun hnot) (fun cs b=>hsel i oi cs b hi) (fun cs b=>hsel j oj cs b hoj) hQ hy h1
    have hfree':∀ k ok,ops[k]?=some ok→k≠i→(listed.setIfInBounds j true).getD k true=false →
      (∀ e∈ok.after,Region.binds md e=true→e.on≠i)→oi.apart ops ok=true:=fun k ok hk hki hun hno=>by
     refine hfree k ok hk hki ?_ hno
     by_cases hjk:j=k
     ·subst hjk; exact hjun
     ·rw [getD_set_ne true hjk] at hun; exact hun
    refine wpOp_mono (fun a' w' h3=>?_) h2
    have h4:=h3.2.resolve_left fun h=>hjz h.1
    have hS':S w':=h4.1
    refine .inr ⟨hS',ih (listed.setIfInBounds j true) a' w' (hcl.set hj) (hz.imp (fun h=>by rw [getD_set_ne false hjz]; exact h) id) hfree' (ready_mono hr (Ne.symm hji)) h3.1 hS' ?_⟩
    rw [Array.setIfInBounds_comm _ _ hji]
    exact h4.2
theorem zK {i:Nat} {oi:Oper} {v:Value} (hi:ops[i]?=some oi) (hsel:∀ (j:Nat) (o:Oper) cs b,ops[j]?=some o→o.op≠.select cs b)
  (hQ:∀ c a w,Q (.panic c) (a.put oi.dst v) w→Q (.panic c) a w) :
  ∀ (fuel:Nat) (listed:Array Bool) (a:Act) (w:World),
    (∀ j oj,ops[j]?=some oj→j≠i→listed.getD j true=false→(∀ e∈oj.after,Region.binds md e=true→e.on≠i)→oi.apart ops oj=true) →
    i∈Region.ready md ops listed→Yields P ops oi v a→S w →
    nY P md ops Q S z fuel (listed.setIfInBounds i true) (a.put oi.dst v) w→nY P md ops Q S z (fuel+1) listed a w:=by
 intro fuel
 induction fuel with
 | zero =>
   intro listed a w _ hr hy hS H
   refine ⟨fun h=>(by rw [h] at hr; cases hr),fun j hj=>?_⟩
   by_cases hji:j=i
   ·subst hji; exact hy.wpOp hi (.inr ⟨hS,H⟩)
   ·have:=ready_mono hj hji
    rw [H.1] at this
    cases this
 | succ fuel ih =>
   intro listed a w hfree hr hy hS H
   refine ⟨fun h=>(by rw [h] at hr; cases hr),fun j hj=>?_⟩
   by_cases hji:j=i
   ·subst hji; exact hy.wpOp hi (.inr ⟨hS,H⟩)
   ·have h1:=H.2 j (ready_mono hj hji)
    obtain ⟨hjun,oj,hoj,hall⟩:=mem_ready.1 hj
    have hnot:∀ e∈oj.after,Region.binds md e=true→e.on≠i:=fun e he hb heq=>by
     have h1:=hall e he hb
     have h0:=(mem_ready.1 hr).1
     rw [heq] at h1
     rcases Nat.lt_or_ge i listed.size with h' | h'
     ·simp [h'] at h0 h1; rw [h0] at h1; cases h1
     ·simp [Array.getElem?_eq_none h'] at h1
    have h2:=wpOp_put hoj (hfree j oj hoj hji hjun hnot) (fun cs b=>hsel i oi cs b hi) (fun cs b=>hsel j oj cs b hoj) hQ hy h1
    have hfree':∀ k ok,ops[k]?=some ok→k≠i→(listed.setIfInBounds j true).getD k true=false →
      (∀ e∈ok.after,Region.binds md e=true→e.on≠i)→oi.apart ops ok=true:=fun k ok hk hki hun hno=>by
     refine hfree k ok hk hki ?_ hno
     by_cases hjk:j=k
     ·subst hjk; exact hjun
     ·rw [getD_set_ne true hjk] at hun; exact hun
    refine wpOp_mono (fun a' w' h3=>?_) h2
    rcases h3.2 with ⟨hz,h4⟩ | ⟨hS',h4⟩
    ·refine .inl ⟨hz,wpAny_first hi hsel hQ fuel _ a' w' hfree' (ready_mono hr (Ne.symm hji)) h3.1 ?_⟩
     rw [Array.setIfInBounds_comm _ _ hji]
     exact h4
    ·refine .inr ⟨hS',ih (listed.setIfInBounds j true) a' w' hfree' (ready_mono hr (Ne.symm hji)) h3.1 hS' ?_⟩
     rw [Array.setIfInBounds_comm _ _ hji]
     exact h4
variable {n : Nat} {w0 : World} {F : List Nat} {E : cH} {cs css : List Ch} {fuel d : Nat} {listed : Array Bool}
def Any (P : Program) (ops : Array Oper) (Q : Exit → Act → World → Prop) (n : Nat) (w0 : World) (F : List Nat) (E : cH) (cs css : List Ch) (z fuel : Nat) (listed : Array Bool) : Prop :=
 ∀ a w, Ev n E a → Mm w0 F cs w → Mm w0 F css w → nZ .any ops listed → nY P .any ops Q (Mm w0 F css) z fuel listed a w
theorem dN {id:Nat} {l:List Oper} (css:List Ch) (z:Nat) (hm:P.follows .mixedOrders=true) (hs:∀ w,Mm w0 F cs w→Mm w0 F css w)
  (h:Any P l.toArray Q n w0 F E cs css z l.length (Array.replicate l.length false)):St n w0 F E cs ((Code.region id l.toArray true).wp P Q):=by
 intro a w ha hM
 refine wp_region_any hm<|FV (S:=Mm w0 F css) (z:=z) _ _ _ _ ?_
 have:=h a w.drew ha hM.drew (hs _ hM.drew) (nZ.none _ _ _)
 simpa using this
def oA (ops : Array Oper) (listed : Array Bool) (z i : Nat) : Bool :=
 Region.noSelect ops && Region.free .any ops listed i && (Region.ready .any ops listed).contains i && !Nat.beq i z && (listed.getD z false || (!Nat.blt z ops.size || sB .any ops ops.size z i))
theorem Ce {i:Nat} (h:oA ops listed z i=true):Region.noSelect ops=true∧Region.free .any ops listed i=true∧i∈Region.ready .any ops listed∧i≠z∧(listed.getD z false=true∨(z < ops.size→sB .any ops ops.size z i=true)):=by
 simp only [oA,Bool.and_eq_true,Bool.or_eq_true,Bool.not_eq_true'] at h
 refine ⟨h.1.1.1.1,h.1.1.1.2,by simpa using h.1.1.2,Nat.ne_of_beq_eq_false h.1.2,?_⟩
 rcases h.2 with h1 | h1
 ·exact .inl h1
 right
 intro hz
 rcases h1 with h1 | h1
 ·have h2:Nat.blt z ops.size=true:=(Nat.blt_eq (x:=z) (y:=ops.size)).symm▸hz
  rw [h1] at h2
  cases h2
 ·exact h1
def jZ (ops : Array Oper) (listed : Array Bool) (i : Nat) : Bool := Region.noSelect ops && Region.free .any ops listed i && (Region.ready .any ops listed).contains i
theorem zL {i:Nat} (h:jZ ops listed i=true):Region.noSelect ops=true∧Region.free .any ops listed i=true∧i∈Region.ready .any ops listed:=by
 simp only [jZ,Bool.and_eq_true] at h
 exact ⟨h.1.1,h.1.2,by simpa using h.2⟩
theorem Cf {i:Nat} {oi:Oper} (v:Value) (hi:ops[i]?=some oi) (hd:oi.dst=some d) (hg:oi.guard=none) (ht:jZ ops listed i=true) (hk:bK n E oi=true) (hQ:∀ c a w,Q (.panic c) (a.put oi.dst v) w→Q (.panic c) a w)
  (hr:∀ w,(execOp (evE E) oi).run P w = .ok (.value v) w) (h:Any P ops Q n w0 F ((d,v)::E) cs css z fuel (listed.setIfInBounds i true)):Any P ops Q n w0 F E cs css z (fuel+1) listed:=by
 intro a w ha hM hS hc
 obtain ⟨t1,t2,t3⟩:=zL ht
 exact zK hi (Region.noSelect_spec t1) hQ fuel listed a w (Region.free_spec hi t2) t3 (.inl ⟨by simp [Region.wanted,hg],fun w'=>by rw [pI hk ha]; exact hr w'⟩) hS (by have h1:=ha.put (qK hk) v; rw [hd] at h1 ⊢; exact h _ _ h1 hM hS (hc.set t3))
theorem FY {i j:Nat} {b:Bool} {oi:Oper} (v:Value) (hi:ops[i]?=some oi) (hd:oi.dst=some d) (hg:oi.guard=some (j,b)) (hy:gH ops E j=some b) (ht:jZ ops listed i=true) (hk:bK n E oi=true) (hQ:∀ c a w,Q (.panic c) (a.put oi.dst v) w→Q (.panic c) a w)
  (hr:∀ w,(execOp (evE E) oi).run P w = .ok (.value v) w) (h:Any P ops Q n w0 F ((d,v)::E) cs css z fuel (listed.setIfInBounds i true)):Any P ops Q n w0 F E cs css z (fuel+1) listed:=by
 intro a w ha hM hS hc
 obtain ⟨t1,t2,t3⟩:=zL ht
 exact zK hi (Region.noSelect_spec t1) hQ fuel listed a w (Region.free_spec hi t2) t3 (.inl ⟨by simp [Region.wanted,hg,uC ha hy],fun w'=>by rw [pI hk ha]; exact hr w'⟩) hS (by have h1:=ha.put (qK hk) v; rw [hd] at h1 ⊢; exact h _ _ h1 hM hS (hc.set t3))
theorem FZ {i j:Nat} {b:Bool} {oi:Oper} (hi:ops[i]?=some oi) (hd:oi.dst=some d) (hg:oi.guard=some (j,!b)) (hy:gH ops E j=some b) (ht:jZ ops listed i=true) (hdk:jX n (some d)=true) (hQ:∀ c a w,Q (.panic c) (a.put oi.dst undef) w→Q (.panic c) a w)
  (h:Any P ops Q n w0 F ((d,undef)::E) cs css z fuel (listed.setIfInBounds i true)):Any P ops Q n w0 F E cs css z (fuel+1) listed:=by
 intro a w ha hM hS hc
 obtain ⟨t1,t2,t3⟩:=zL ht
 exact zK hi (Region.noSelect_spec t1) hQ fuel listed a w (Region.free_spec hi t2) t3 (.inr ⟨by cases b <;> simp [Region.wanted,hg,uC ha hy],rfl⟩) hS (by rw [hd]; exact h _ _ (ha.put hdk undef) hM hS (hc.set t3))
theorem Ga {i:Nat} {oi:Oper} (v:Value) (hi:ops[i]?=some oi) (hd:oi.dst=some d) (hg:oi.guard=none) (ht:oA ops listed z i=true) (hk:bK n E oi=true) (hQ:∀ c a w,Q (.panic c) (a.put oi.dst v) w→Q (.panic c) a w)
  (hr:∀ w,Mm w0 F css w→(execOp (evE E) oi).run P w = .ok (.value v) w) (h:Any P ops Q n w0 F ((d,v)::E) cs css z fuel (listed.setIfInBounds i true)):Any P ops Q n w0 F E cs css z (fuel+1) listed:=by
 intro a w ha hM hS hc
 obtain ⟨t1,t2,t3,t4,t5⟩:=Ce ht
 exact Cd hi (Region.noSelect_spec t1) hQ t4 fuel listed a w hc t5 (Region.free_spec hi t2) t3 (.inl ⟨by simp [Region.wanted,hg],fun w' hw'=>by rw [pI hk ha]; exact hr w' hw'⟩) hS (by have h1:=ha.put (qK hk) v; rw [hd] at h1 ⊢; exact h _ _ h1 hM hS (hc.set t3))
theorem iK {i j:Nat} {b:Bool} {oi:Oper} (v:Value) (hi:ops[i]?=some oi) (hd:oi.dst=some d) (hg:oi.guard=some (j,b)) (hy:gH ops E j=some b) (ht:oA ops listed z i=true) (hk:bK n E oi=true) (hQ:∀ c a w,Q (.panic c) (a.put oi.dst v) w→Q (.panic c) a w)
  (hr:∀ w,Mm w0 F css w→(execOp (evE E) oi).run P w = .ok (.value v) w) (h:Any P ops Q n w0 F ((d,v)::E) cs css z fuel (listed.setIfInBounds i true)):Any P ops Q n w0 F E cs css z (fuel+1) listed:=by
 intro a w ha hM hS hc
 obtain ⟨t1,t2,t3,t4,t5⟩:=Ce ht
 exact Cd hi (Region.noSelect_spec t1) hQ t4 fuel listed a w hc t5 (Region.free_spec hi t2) t3 (.inl ⟨by simp [Region.wanted,hg,uC ha hy],fun w' hw'=>by rw [pI hk ha]; exact hr w' hw'⟩) hS (by have h1:=ha.put (qK hk) v; rw [hd] at h1 ⊢; exact h _ _ h1 hM hS (hc.set t3))
theorem pL {i j:Nat} {b:Bool} {oi:Oper} (hi:ops[i]?=some oi) (hd:oi.dst=some d) (hg:oi.guard=some (j,!b)) (hy:gH ops E j=some b) (ht:oA ops listed z i=true) (hdk:jX n (some d)=true) (hQ:∀ c a w,Q (.panic c) (a.put oi.dst undef) w→Q (.panic c) a w)
  (h:Any P ops Q n w0 F ((d,undef)::E) cs css z fuel (listed.setIfInBounds i true)):Any P ops Q n w0 F E cs css z (fuel+1) listed:=by
 intro a w ha hM hS hc
 obtain ⟨t1,t2,t3,t4,t5⟩:=Ce ht
 exact Cd hi (Region.noSelect_spec t1) hQ t4 fuel listed a w hc t5 (Region.free_spec hi t2) t3 (.inr ⟨by cases b <;> simp [Region.wanted,hg,uC ha hy],rfl⟩) hS (by rw [hd]; exact h _ _ (ha.put hdk undef) hM hS (hc.set t3))
def nG (P : Program) (ops : Array Oper) (Q : Exit → Act → World → Prop) (w0 : World) (F : List Nat) (css : List Ch) (z fuel : Nat) (listed : Array Bool) (i : Nat) (a : Act) (w : World) : Prop :=
 nZ .any ops (listed.setIfInBounds i true) → (i = z ∧ wpAny P .any ops Q fuel (listed.setIfInBounds i true) a w) ∨ (Mm w0 F css w ∧ nY P .any ops Q (Mm w0 F css) z fuel (listed.setIfInBounds i true) a w)
theorem Cg {rs:List Nat} (hr:Region.ready .any ops listed=rs) (hne:rs.isEmpty=false)
  (h:∀ i∈rs,∃ oi,ops[i]?=some oi∧oi.guard=none∧cM P Q n w0 F E cs oi (nG P ops Q w0 F css z fuel listed i)):Any P ops Q n w0 F E cs css z (fuel+1) listed:=by
 intro a w ha hM hS hc
 refine ⟨fun h0=>?_,fun i hi=>?_⟩
 ·rw [hr] at h0
  rw [h0] at hne
  cases hne
 ·have hi':=hi
  rw [hr] at hi'
  obtain ⟨oi,h1,h2,h3⟩:=h i hi'
  unfold wpOp
  simp only [h1]
  rw [if_pos (by simp [Region.wanted,h2])]
  exact .inl (Oper.wp_mono (fun a' w' hK=>hK (hc.set hi)) (h3 a w ha hM))
theorem oB {i:Nat} {oi:Oper} (hr:Region.ready .any ops listed=[i]) (hi:ops[i]?=some oi) (hg:oi.guard=none)
  (h:cM P Q n w0 F E cs oi (nG P ops Q w0 F css z fuel listed i)):Any P ops Q n w0 F E cs css z (fuel+1) listed :=
 Cg hr rfl (fun j hj=>by rw [List.mem_singleton] at hj; subst hj; exact ⟨oi,hi,hg,h⟩)
theorem zM {i j:Nat} {oi oj:Oper} (hr:Region.ready .any ops listed=[i,j]) (hi:ops[i]?=some oi) (hgi:oi.guard=none) (hj:ops[j]?=some oj) (hgj:oj.guard=none)
  (h:cM P Q n w0 F E cs oi (nG P ops Q w0 F css z fuel listed i)) (h':cM P Q n w0 F E cs oj (nG P ops Q w0 F css z fuel listed j)):Any P ops Q n w0 F E cs css z (fuel+1) listed :=
 Cg hr rfl (fun k hk=>by
  rcases List.mem_cons.1 hk with rfl | hk
  ·exact ⟨oi,hi,hgi,h⟩
  ·rw [List.mem_singleton] at hk; subst hk; exact ⟨oj,hj,hgj,h'⟩)
theorem cN {i:Nat} (css':List Ch) (hs:∀ w,Mm w0 F css' w→Mm w0 F css w) (hn:∀ w,Mm w0 F cs w→Mm w0 F css' w) (h:Any P ops Q n w0 F E cs css' z fuel (listed.setIfInBounds i true)):St n w0 F E cs (nG P ops Q w0 F css z fuel listed i) :=
 fun a w ha hM hc=>.inr ⟨hs w (hn w hM),FW hs _ _ _ _ (h a w ha hM (hn w hM) hc)⟩
theorem oC {i:Nat} (hr:Region.ready .any ops (listed.setIfInBounds i true)=[]) (hz:i=z) (h:St n w0 F E cs (Q .normal)):St n w0 F E cs (nG P ops Q w0 F css z fuel listed i) :=
 fun a w ha hM _=>.inl ⟨hz,by
  cases fuel with
  | zero=>exact ⟨hr,h a w ha hM⟩
  | succ k=>exact ⟨fun _=>h a w ha hM,by rw [hr]; simp⟩⟩
theorem Any.known (t:Nat) {b b':Bool} (ht:fU E t=some (.bool b)) (e:b=b') (h:Any P ops Q n w0 F ((t,.bool b')::E) cs css z fuel listed):Any P ops Q n w0 F E cs css z fuel listed:=fun a w ha hM hS hc=>h a w (ha.conv ht (by rw [e])) hM hS hc
theorem Any.dec (t:Nat) {b:Bool} (ht:fU E t=some (.bool b)) (h1:b=true→Any P ops Q n w0 F ((t,.bool true)::E) cs css z fuel listed) (h0:b=false→Any P ops Q n w0 F ((t,.bool false)::E) cs css z fuel listed):Any P ops Q n w0 F E cs css z fuel listed:=by
 cases b with
 | true=>exact Any.known t ht rfl (h1 rfl)
 | false=>exact Any.known t ht rfl (h0 rfl)
theorem dO (hr:Region.ready .any ops listed=[]) (h:St n w0 F E cs (Q .normal)):Any P ops Q n w0 F E cs css z fuel listed :=
 fun a w ha hM _ _=>by
  cases fuel with
  | zero=>exact ⟨hr,h a w ha hM⟩
  | succ k=>exact ⟨fun _=>h a w ha hM,by rw [hr]; simp⟩
end
section
variable {P : Program} {Q : Exit → Act → World → Prop} {n : Nat} {w0 : World} {F : List Nat} {E : cH} {cs : List Ch} {K : Act → World → Prop} {o : Oper} {d : Nat}
def cJ (P : Program) (w0 : World) (F : List Nat) (cs : List Ch) (E : cH) (o : Oper) (v : Value) : Prop := ∀ w, Mm w0 F cs w → (execOp (evE E) o).run P w = .ok (.value v) w
theorem bL {x:Operand} {v:Value} (h:aN E x=some v):evE E x=v:=by unfold evE; rw [h]; rfl
theorem gC {v v':Value} (h:cJ P w0 F cs E o v) (e:v=v'):cJ P w0 F cs E o v':=e▸h
theorem jG {v:Value} (h:∀ w,(execOp (evE E) o).run P w = .ok (.value v) w):cJ P w0 F cs E o v:=fun w _=>h w
theorem nH {x:Operand} {v:Value} (ho:o.op = .move x) (hx:aN E x=some v):cJ P w0 F cs E o v:=fun w _=>by
 unfold execOp; simp only [ho,bL hx]; rfl
theorem Ci {x:Operand} {v:Value} (ho:o.op = .assign x) (hx:aN E x=some v):cJ P w0 F cs E o v:=fun w _=>by
 unfold execOp; simp only [ho,bL hx]; rfl
/-! ### Loads -/
def nI (P : Program) (ty : TypeId) : Bool := match P.underlying ty with | some (.struct _) | some (.array _ _) | none => false | _ => true
theorem Gb {ty:TypeId} (h:nI P ty=true) (w:World):(isAgg ty).run P w = .ok false w:=by
 unfold nI at h
 unfold isAgg
 cases hu:P.underlying ty with
 | none=>rw [hu] at h; cases h
 | some d =>
   rw [hu] at h
   rw [Sem.run_bind,run_underlying hu w]
   cases d <;> first | (cases h; done) | rfl
theorem NJ {ty:TypeId} (hs:nI P ty=true) {p:Addr} {v:Value} {w:World} (hc:w.cell? p=some v):(loadVar ty p).run P w = .ok v w:=by
 simp only [loadVar,Sem.run_bind,Gb hs,Result.andThen_ok]
 simp [load,Sem.run,hc]
theorem Gc {ty:TypeId} {x:Operand} {p:Addr} {v:Value} {w:World} (ho:o.op = .load ty x) (hx:aN E x=some (.pointer (some p))) (hs:nI P ty=true) (hc:w.cell? p=some v):(execOp (evE E) o).run P w = .ok (.value v) w:=by
 unfold execOp
 simp only [ho,bL hx,Instr.loadAt,Instr.sureAddr,Sem.run_bind,Sem.run_pure,Result.andThen_ok,NJ hs hc]
theorem eT {ty:TypeId} {x:Operand} {b off:Nat} {t:TypeId} {l:List Value} {v:Value} (i:Nat) (ho:o.op = .load ty x) (hx:aN E x=some (.pointer (some ⟨b,off,none⟩))) (hs:nI P ty=true) (hi:cs[i]?=some (aB b t l)) (hl:l[off]?=some v):cJ P w0 F cs E o v :=
 fun w hM=>Gc ho hx hs (by have h:At w b t l:=hM.at hi; rw [h.cell]; exact hl)
theorem hJ {ty:TypeId} {x:Operand} {p:Addr} {v:Value} (ho:o.op = .load ty x) (hx:aN E x=some (.pointer (some p))) (hs:nI P ty=true) (hc:∀ w,Mm w0 F cs w→w.cell? p=some v):cJ P w0 F cs E o v :=
 fun w hM=>Gc ho hx hs (hc w hM)
theorem Mm.eZ {w:World} (h:Mm w0 F cs w) {b off:Nat} {v:Value} (hc:w0.cell? ⟨b,off,none⟩=some v) (hb:b∉F):w.cell? ⟨b,off,none⟩=some v:=by
 have hlt:b < w0.heap.size:=by
  rcases Nat.lt_or_ge b w0.heap.size with h1 | h1
  ·exact h1
  ·simp [World.cell?,Array.getElem?_eq_none h1] at hc
 rw [h.fr.cell (p:=⟨b,off,none⟩) hlt hb]
 exact hc
def fO (P : Program) (ty : TypeId) : Option Nat := (P.info? ty).map (·.size)
def wM (P : Program) (ty : TypeId) : Bool := match P.underlying ty with | some (.struct _) | some (.array _ _) => true | _ => false
theorem mF {ty:TypeId} (hs:wM P ty=true) {b off:Nat} {dX:List Value} {w:World} (hsz:fO P ty=some dX.length) (hc:∀ j v,dX[j]?=some v→w.cell? ⟨b,off+j,none⟩=some v):(loadVar ty ⟨b,off,none⟩).run P w = .ok (.agg dX.toArray) w:=by
 cases hu:P.underlying ty with
 | none=>simp [wM,hu] at hs
 | some d=>exact BV w b off ty dX d hc hu (by simp only [wM,hu] at hs; cases d <;> simp_all) hsz
theorem oD {ty:TypeId} {x:Operand} {b off:Nat} (dX:List Value) (ho:o.op = .load ty x) (hx:aN E x=some (.pointer (some ⟨b,off,none⟩))) (hs:wM P ty=true) (hsz:fO P ty=some dX.length) (hc:∀ w,Mm w0 F cs w→∀ j v,dX[j]?=some v→w.cell? ⟨b,off+j,none⟩=some v):cJ P w0 F cs E o (.agg dX.toArray) :=
 fun w hM=>by
  unfold execOp
  simp only [ho,bL hx,Instr.loadAt,Instr.sureAddr,Sem.run_bind,Sem.run_pure,Result.andThen_ok,mF hs hsz (hc w hM)]
theorem hU {i b off:Nat} {t:TypeId} {l dX:List Value} (hi:cs[i]?=some (aB b t l)) (hg:∀ j v,dX[j]?=some v→l[off+j]?=some v):∀ w,Mm w0 F cs w→∀ j v,dX[j]?=some v→w.cell? ⟨b,off+j,none⟩=some v :=
 fun w hM j v hj=>by have h:At w b t l:=hM.at hi; rw [h.cell]; exact hg j v hj
/-! ### Stores -/
theorem Gd {b : Nat} {t : TypeId} : ∀ (vs l : List Value) (w : World) (off k : Nat), At w b t l → off + k + vs.length ≤ l.length → (∀ v ∈ vs, v.oneCell' = true) →
  ∃ w', (storeCells ⟨b, off, none⟩ vs k).run P w = .ok () w' ∧ Fr [b] w w' ∧ At w' b t (l.take (off + k) ++ vs ++ l.drop (off + k + vs.length))
 | [], l, w, off, k, hat, _, _ => ⟨w, by simp [storeCells], Fr.refl _ _, by simpa using hat⟩
 | v :: vs, l, w, off, k, hat, hl, h1 => by
   rw [List.length_cons] at hl
   have hlt : off + k < l.length := by omega
   obtain ⟨u, hu⟩ : ∃ u, l[off + k]? = some u := ⟨_, List.getElem?_eq_getElem hlt⟩
   have hc : w.cell? ⟨b, off + k, none⟩ = some u := by rw [hat.cell]; exact hu
   have hfz : w.frozen? ⟨b, off + k, none⟩ = false := hat.frozen _
   have hv : v.oneCell' = true := h1 v (by simp)
   obtain ⟨w', hr, hf, ha⟩ := Gd vs (l.set (off + k) v) (w.setCell ⟨b, off + k, none⟩ v) off (k + 1) (hat.set _ _) (by rw [List.length_set]; omega) (fun x hx => h1 x (by simp [hx]))
   have hstep : (store ⟨b, off + k, none⟩ v).run P w = .ok () (w.setCell ⟨b, off + k, none⟩ v) := by
    rw [run_store P w _ v _ hv]
    simp [hc, hfz]
   refine ⟨w', ?_, ((Fr.refl [b] w).setCell (by simp) _).trans hf, ?_⟩
   ·rw [storeCells]
    simp only [Sem.run_bind, jS, hstep, Result.andThen_ok, hr]
   ·have e : (l.set (off + k) v).take (off + (k + 1)) ++ vs ++ (l.set (off + k) v).drop (off + (k + 1) + vs.length) = l.take (off + k) ++ v :: vs ++ l.drop (off + k + (v :: vs).length) := by
     have e1 : off + (k + 1) = (off + k) + 1 := by omega
     rw [e1, List.take_succ_eq_append_getElem (by rw [List.length_set]; exact hlt), List.getElem_set_self, List.take_set_of_le (Nat.le_refl _), List.drop_set_of_lt (by omega), List.length_cons, show off + k + 1 + vs.length = off + k + (vs.length + 1) by omega]
     simp
    rw [← e]
    exact ha
theorem oE {ty:TypeId} {x y:Operand} {b off:Nat} {t:TypeId} {l vs:List Value} {v:Value} (i:Nat) (l':List Value) (ho:o.op = .store ty x y) (hd:o.dst=none) (hk:bK n E o=true) (hx:aN E x=some (.pointer (some ⟨b,off,none⟩))) (hy:aN E y=some v) (hv:v.cells=vs.toArray) (hsz:fO P ty=some vs.length) (hi:cs[i]?=some (aB b t l)) (hfit:off+vs.length≤l.length) (h1:∀ u∈vs,u.oneCell'=true)
  (hl':l'=l.take off++vs++l.drop (off+vs.length)) (h:St n w0 F E (cs.set i (aB b t l')) K):cM P Q n w0 F E cs o K :=
 Ca hd hk fun w hM=>by
  have hat:At w b t l:=hM.at hi
  obtain ⟨w',hr,hf,ha⟩:=Gd (P:=P) vs l w off 0 hat (by simpa using hfit) h1
  refine ⟨w',cs.set i (aB b t l'),?_,hM.swap i hi (c':=aB b t l') hf ?_ (fun c hc=>.inl hc) (by simp [aB]),h⟩
  ·unfold execOp
   have hs:((P.info? ty).map (·.size))=some vs.length:=hsz
   cases hq:P.info? ty with
   | none=>simp [hq] at hs
   | some j =>
     have hj:j.size=vs.length:=by simpa [hq] using hs
     simp only [ho,bL hx,bL hy,Instr.storeAt,Instr.sureAddr,storeVar,Sem.run_bind,Sem.run_pure,Result.andThen_ok,sizeOf,typeInfo,hv]
     simp [hq,hj,hr]
  ·show At w' b t l'
   rw [hl']
   simpa using ha
theorem nJ {ty:TypeId} {x y:Operand} {b off:Nat} {t:TypeId} {l:List Value} {v:Value} (i:Nat) (ho:o.op = .store ty x y) (hd:o.dst=none) (hk:bK n E o=true) (hx:aN E x=some (.pointer (some ⟨b,off,none⟩))) (hy:aN E y=some v) (h1:v.oneCell'=true) (hsz:fO P ty=some 1) (hi:cs[i]?=some (aB b t l)) (hfit:off < l.length)
  (h:St n w0 F E (cs.set i (aB b t (l.set off v))) K):cM P Q n w0 F E cs o K :=
 oE i (l.set off v) (vs:=[v]) ho hd hk hx hy (by cases v <;> first | rfl | (simp [Value.oneCell'] at h1)) hsz hi (by simp; omega) (by simpa using h1) (by rw [List.set_eq_take_append_cons_drop,if_pos hfit]; simp) h
/-! ### New blocks -/
theorem NK {ty : TypeId} (z : List Value) (ho : o.op = .alloc ty) (hd : o.dst = some d) (hk : bK n E o = true) (hz : (P.info? ty).map (fun i => i.zero.map Value.cells) = some (some z.toArray)) (h : ∀ b, St n w0 F ((d, (.pointer (some ⟨b, 0, none⟩))) :: E) (cs ++ [aB b ty z]) K) : cM P Q n w0 F E cs o K :=
 nE hd hk fun w hM => by
  refine ⟨.pointer (some ⟨w.heap.size, 0, none⟩), w.alloc (.cells z.toArray ty), _, ?_, hM.push (c := aB w.heap.size ty z) ((Fr.refl _ _).alloc _) (At.new w ty z) (by simp [aB]) (by simp [aB]), h _⟩
  unfold execOp
  cases hq : P.info? ty with
  | none => simp [hq] at hz
  | some i =>
    cases hz0 : i.zero with
    | none => simp [hq, hz0] at hz
    | some v =>
      have hv : v.cells = z.toArray := by simpa [hq, hz0] using hz
      simp only [ho, Instr.alloc, zeroValue, typeInfo, Sem.run_bind, Sem.run_pure]
      simp [hq, hz0, newVar, newRow, hv]
theorem Cj {ty:TypeId} {x:Operand} {v:Value} (z:List Value) (ho:o.op = .box ty x) (hd:o.dst=some d) (hk:bK n E o=true) (hx:aN E x=some v) (hz:v.cells=z.toArray) (h:∀ b,St n w0 F ((d,(.pointer (some ⟨b,0,none⟩)))::E) (cs++[aB b ty z]) K):cM P Q n w0 F E cs o K :=
 nE hd hk fun w hM=>by
  refine ⟨.pointer (some ⟨w.heap.size,0,none⟩),w.alloc (.cells z.toArray ty),_,?_,hM.push (c:=aB w.heap.size ty z) ((Fr.refl _ _).alloc _) (At.new w ty z) (by simp [aB]) (by simp [aB]),h _⟩
  unfold execOp
  simp only [ho,bL hx,Instr.box,newVar,newRow,hz]
  simp
theorem Ge {v:Nat→Value} (t:TypeId) (z:List Value) (hd:o.dst=some d) (hk:bK n E o=true) (hr:∀ w,(execOp (evE E) o).run P w = .ok (.value (v w.heap.size)) (w.alloc (.cells z.toArray t))) (h:∀ b,St n w0 F ((d,(v b))::E) (cs++[aB b t z]) K):cM P Q n w0 F E cs o K :=
 nE hd hk fun w hM=>⟨_,_,_,hr w,hM.push (c:=aB w.heap.size t z) ((Fr.refl _ _).alloc _) (At.new w t z) (by simp [aB]) (by simp [aB]),h _⟩
theorem wN {ty e:TypeId} {x i:Operand} {b off len cap j sz:Nat} {k:IntKind} (ho:o.op = .indexAddr ty x i) (hu:P.underlying ty=some (.slice e)) (hsz:fO P e=some sz) (hx:aN E x=some (.slice (some ⟨b,off,none⟩) len cap)) (hi:aN E i=some (.int k (j:Int))) (hlt:j < len):cJ P w0 F cs E o (.pointer (some ⟨b,off+j*sz,none⟩)):=fun w _=>by
 unfold execOp
 cases hq:P.info? e with
 | none=>simp [fO,hq] at hsz
 | some d =>
   have hd:d.size=sz:=by simpa [fO,hq] using hsz
   simp only [ho,bL hx,bL hi,Instr.indexAt,asIntOf,Sem.run_bind,Sem.run_pure,Result.andThen_ok,run_underlying hu]
   rw [if_pos om]
   simp only [sizeOf,typeInfo,Sem.run_bind,Sem.run_pure]
   simp [hq,hd,jS]
theorem Ck {ty e:TypeId} {x i:Operand} {b off len cap j:Nat} {k:IntKind} (ho:o.op = .indexAddr ty x i) (hu:P.underlying ty=some (.slice e)) (hsz:fO P e=some 1) (hx:aN E x=some (.slice (some ⟨b,off,none⟩) len cap)) (hi:aN E i=some (.int k (j:Int))) (hlt:j < len):cJ P w0 F cs E o (.pointer (some ⟨b,off+j,none⟩)):=by
 have:=wN (w0:=w0) (F:=F) (cs:=cs) ho hu hsz hx hi hlt
 rwa [Nat.mul_one] at this
theorem NL {ty e:TypeId} {x i:Operand} {b off m j sz:Nat} {k:IntKind} (ho:o.op = .indexAddr ty x i) (hu:P.underlying ty=some (.array m e)) (hsz:fO P e=some sz) (hx:aN E x=some (.pointer (some ⟨b,off,none⟩))) (hi:aN E i=some (.int k (j:Int))) (hlt:j < m):cJ P w0 F cs E o (.pointer (some ⟨b,off+j*sz,none⟩)):=fun w _=>by
 unfold execOp
 cases hq:P.info? e with
 | none=>simp [fO,hq] at hsz
 | some d =>
   have hd:d.size=sz:=by simpa [fO,hq] using hsz
   simp only [ho,bL hx,bL hi,Instr.indexAt,Instr.sureAddr,asIntOf,Sem.run_bind,Sem.run_pure,Result.andThen_ok,run_underlying hu]
   rw [if_pos om]
   simp only [sizeOf,typeInfo,Sem.run_bind,Sem.run_pure]
   simp [hq,hd,jS]
theorem oF {ty e:TypeId} {x i:Operand} {b off m j:Nat} {k:IntKind} (ho:o.op = .indexAddr ty x i) (hu:P.underlying ty=some (.array m e)) (hsz:fO P e=some 1) (hx:aN E x=some (.pointer (some ⟨b,off,none⟩))) (hi:aN E i=some (.int k (j:Int))) (hlt:j < m):cJ P w0 F cs E o (.pointer (some ⟨b,off+j,none⟩)):=by
 have:=NL (w0:=w0) (F:=F) (cs:=cs) ho hu hsz hx hi hlt
 rwa [Nat.mul_one] at this
end
def dD (A : Option Addr) : List Nat := match A with | some a => [a.block] | none => []
theorem sC {w:World} {base:Nat} {e:TypeId} {sz n c:Nat} {A:Option Addr} {xs:List Value} (h:w.ownsRow base e sz (.slice A n c) n xs):(Value.slice A n c).ownBlock=(dD A).head?∧∀ b∈dD A,b < w.heap.size:=by
 rcases h.2 with ⟨hv,_⟩ | ⟨g,cap,cur,hv,_,hg,_⟩
 ·simp only [Value.slice.injEq] at hv
  obtain ⟨rfl,_,rfl⟩:=hv
  exact ⟨rfl,by simp [dD]⟩
 ·simp only [Value.slice.injEq] at hv
  obtain ⟨rfl,_,rfl⟩:=hv
  exact ⟨rfl,by simpa [dD] using (Array.getElem?_eq_some_iff.1 hg).1⟩
def dA (e : TypeId) (sz : Nat) (A : Option Addr) (n c : Nat) (xs : List Value) : Ch where
 fp := dD A
 holds w := w.ownsRow 0 e sz (.slice A n c) n xs
 ok w w' hb h := by
  refine ⟨h.1, ?_⟩
  rcases h.2 with hn | ⟨g, cap, cur, hv, h1, hgg, rest⟩
  ·exact .inl hn
  ·refine .inr ⟨g, cap, cur, hv, h1, ?_, rest⟩
   simp only [Value.slice.injEq] at hv
   obtain ⟨rfl, _, _⟩ := hv
   rw [hb g (by simp [dD])]
   exact hgg
 lt w h b hb := (sC h).2 b hb
abbrev cB (A : Option Addr) (l : List UInt8) (c : Nat) : Ch := dA 5 1 A l.length c (B8 l)
theorem sD (A:Option Addr):(dD A).Nodup:=by cases A <;> simp [dD]
section
variable {P : Program} {Q : Exit → Act → World → Prop} {n : Nat} {w0 : World} {F : List Nat} {E : cH} {cs : List Ch} {K : Act → World → Prop} {o : Oper} {d : Nat}
theorem Mm.Fi {w w':World} (h:Mm w0 F cs w) (i:Nat) {e:TypeId} {sz:Nat} {A:Option Addr} {m c:Nat} {xs:List Value} (hi:cs[i]?=some (dA e sz A m c xs)) {v':Value} {m':Nat} {xs':List Value} (ho:w'.ownsRow 0 e sz v' m' xs') (hg:w.grownBy w' (Value.slice A m c).ownBlock)
  (hb:v'.ownBlock=(Value.slice A m c).ownBlock∨∃ k,v'.ownBlock=some k∧w.heap.size≤k):∃ A' c',v' = .slice A' m' c'∧Mm w0 F (cs.set i (dA e sz A' m' c' xs')) w':=by
 obtain ⟨A',c',rfl⟩:=jT ho
 have ho1:w.ownsRow 0 e sz (.slice A m c) m xs:=h.at hi
 have f1:=sC ho1
 have f2:=sC ho
 have hfr:Fr (dD A) w w':=by
  refine ⟨hg.os,hg.tape,hg.output,hg.size,fun k hk hn=>hg.block k hk (fun e=>?_)⟩
  rw [f1.1] at e
  cases A with
  | none=>cases e
  | some a=>simp [dD] at e hn; exact hn e
 refine ⟨A',c',rfl,h.swap i hi hfr ho ?_ (sD A')⟩
 intro b hb'
 have e2:(dD A').head?=some b:=by
  cases A' with
  | none=>simp [dA,dD] at hb'
  | some a=>simp [dA,dD] at hb'; simp [dD,hb']
 rcases hb with h1 | ⟨k,h1,h2⟩
 ·left
  rw [f2.1,e2,f1.1] at h1
  show b∈dD A
  cases A with
  | none=>cases h1
  | some a=>simp [dD] at h1 ⊢; exact h1
 ·right
  rw [f2.1,e2] at h1
  injection h1 with h1
  omega
theorem fJ {t e:TypeId} {z:Value} {sz bt:Nat} (El:mD P t e z sz bt) {s x:Operand} {A A2:Option Addr} {m c m2 c2:Nat} {xs:List Value} (i:Nat) (news:List Value) (ho:o.op = .call { callee:=.builtin .append,args:=#[s,x],argTypes:=#[t,t] }) (hd:o.dst=some d) (hk:bK n E o=true) (hs:aN E s=some (.slice A m c)) (hx:aN E x=some (.slice A2 m2 c2))
  (hi:cs[i]?=some (dA e sz A m c xs)) (hl:news.length=m2*sz) (hsrc:∀ w,Mm w0 F cs w→eQ w A2 news) (h1:∀ u∈news,u.oneCell'=true) (hlen:m+m2≤137438953472) (m':Nat) (hm:m+m2=m') (xs':List Value) (hxs:xs++news=xs')
  (h:∀ A' c',St n w0 F ((d,(.slice A' m' c'))::E) (cs.set i (dA e sz A' m' c' xs')) K):cM P Q n w0 F E cs o K :=
 nE hd hk fun w hM=>by
  subst hm hxs
  obtain ⟨v',w',hr,h2,h3,h4⟩:=FA El w 0 o.type (.slice A m c) m xs (hM.at hi) A2 m2 c2 news hl (hsrc w hM) h1 hlen (Nat.zero_le _)
  obtain ⟨A',c',rfl,h5⟩:=hM.Fi i hi h2 h3 (h4.imp id (fun e=>⟨_,e,Nat.le_refl _⟩))
  refine ⟨_,w',_,?_,h5,h A' c'⟩
  unfold execOp
  simp only [ho,resolve,invoke,builtin,Sem.run_bind,Sem.run_pure,Result.andThen_ok,List.map_toArray,List.map_cons,List.map_nil,bL hs,bL hx,hr]
theorem Gf {t u e:TypeId} {s x:Operand} {A:Option Addr} {m c:Nat} {xs:List Value} {bs:List UInt8} (i:Nat) (ho:o.op = .call { callee:=.builtin .append,args:=#[s,x],argTypes:=#[t,u] }) (hd:o.dst=some d) (ht:P.underlying t=some (.slice e)) (hu:P.underlying u=some .string) (hinfo:(P.info? e).map (fun i=>(i.zero,i.size,i.bytes))=some (some (.int .u8 0),1,1)) (hk:bK n E o=true) (hs:aN E s=some (.slice A m c)) (hx:aN E x=some (vS bs))
  (hi:cs[i]?=some (dA e 1 A m c xs)) (hlen:m+bs.length≤137438953472) (m':Nat) (hm:m+bs.length=m') (xs':List Value) (hxs:xs++B8 bs=xs')
  (h:∀ A' c',St n w0 F ((d,(.slice A' m' c'))::E) (cs.set i (dA e 1 A' m' c' xs')) K):cM P Q n w0 F E cs o K :=
 nE hd hk fun w hM=>by
  subst hm hxs
  obtain ⟨j,hj,hz,hsz,hby⟩:=info_parts hinfo
  have hsz':(bD bs).size=bs.length:=by simp [bD,ByteArray.size]
  have hce:Lib.strCells (bD bs)=B8 bs:=by simp [Lib.strCells,bD,B8]
  obtain ⟨v',w',hr,h2,h3,h4⟩:=Lib.run_append_own_string (P:=P) (w:=w) 0 t u o.type e j ht hu hj hz hsz hby (.slice A m c) m xs (hM.at hi) (bD bs) (by rw [hsz']; unfold maxLen; omega) (by rw [hsz']; omega) (Nat.zero_le _)
  rw [hsz',hce] at h2
  have hb:v'.ownBlock=(Value.slice A m c).ownBlock∨∃ k,v'.ownBlock=some k∧w.heap.size≤k:=by
   obtain ⟨A',c',rfl⟩:=jT h2
   have f1:=sC (hM.at hi:w.ownsRow 0 e 1 (.slice A m c) m xs)
   have f2:=sC h2
   have hown:w.ownsRow 0 e 1 (.slice A m c) m xs:=hM.at hi
   rcases hown.2 with ⟨hv,h0⟩ | ⟨g,cap,cur,hv,_,hg,hnc,_,hcs,htk⟩
   ·simp only [Value.slice.injEq] at hv
    obtain ⟨rfl,rfl,rfl⟩:=hv
    by_cases h00:(bD bs).size=0
    ·have:=h4.2 ⟨rfl,h00⟩
     rw [this]
     exact .inl rfl
    ·have hr2:=run_append_nil_string (P:=P) w t u o.type e j _ ht hu hj hz (bD bs) om (by rw [hsz']; omega) (by rw [hby,hsz']; omega)
     rw [hr] at hr2
     injection hr2 with e1 e2
     rw [e1]
     exact .inr ⟨_,rfl,Nat.le_refl _⟩
   ·simp only [Value.slice.injEq] at hv
    obtain ⟨rfl,_,rfl⟩:=hv
    by_cases hroom:m+(bD bs).size≤c
    ·have hr2:=Lib.run_append_room_string (P:=P) w t u o.type e j ht hu hj hsz g m c cur hg (bD bs) hroom om
     rw [hr] at hr2
     injection hr2 with e1 e2
     rw [e1]
     exact .inl rfl
    ·have hr2:=Lib.run_append_grow_string (P:=P) w t u o.type e j _ ht hu hj hz ⟨g,0,none⟩ m c xs (by rw [hsz]; exact hown.1) (hown.cells (g:=g) rfl) (bD bs) om (by rw [hsz']; omega) (by rw [hby]; exact growslice_fits om om)
     rw [hr] at hr2
     injection hr2 with e1 e2
     rw [e1]
     exact .inr ⟨_,rfl,Nat.le_refl _⟩
  obtain ⟨A',c',rfl,h5⟩:=hM.Fi i hi h2 h3 hb
  refine ⟨_,w',_,?_,h5,h A' c'⟩
  unfold execOp
  simp only [ho,resolve,invoke,builtin,Sem.run_bind,Sem.run_pure,Result.andThen_ok,List.map_toArray,List.map_cons,List.map_nil,bL hs,bL hx,hr]
theorem kA {i b off:Nat} {t:TypeId} {l xs:List Value} (hi:cs[i]?=some (aB b t l)) (hx:∀ j v,xs[j]?=some v→l[off+j]?=some v):∀ w,Mm w0 F cs w→eQ w (some ⟨b,off,none⟩) xs:=fun w hM j v hj =>
 ⟨_,rfl,by rw [jS]; have h:At w b t l:=hM.at hi; rw [h.cell]; exact hx j v hj⟩
theorem Cl:∀ w,Mm w0 F cs w→eQ w none []:=fun _ _ j v hj=>by simp at hj
theorem Mm.Ml {w:World} (h:Mm w0 F cs w) (i:Nat) {b:Nat} {e:TypeId} {l:List Value} (hi:cs[i]?=some (aB b e l)) (sz m c:Nat) (hl:l.length=c*sz) (hm:m≤c) (hmax:c≤maxLen):Mm w0 F (cs.set i (dA e sz (some ⟨b,0,none⟩) m c (l.take (m*sz)))) w:=by
 have hat:At w b e l:=h.at hi
 refine h.swap i hi (Fr.refl _ _) ?_ (fun k hk=>.inl hk) (by simp [dA,dD])
 refine ⟨?_,.inr ⟨b,c,l.toArray,rfl,Nat.zero_le _,hat,hm,hmax,?_,?_⟩⟩
 ·rw [List.length_take,hl]
  exact Nat.min_eq_left (Nat.mul_le_mul_right _ hm)
 ·simpa using hl
 ·simp
theorem Mm.jD {w:World} (h:Mm w0 F cs w) (e:TypeId) (sz:Nat):Mm w0 F (cs++[dA e sz none 0 0 []]) w :=
 h.push (c:=dA e sz none 0 0 []) (Fr.refl _ _) ⟨si,.inl ⟨rfl,rfl⟩⟩ (by simp [dA,dD]) (by simp [dA,dD])
theorem Gg {ty:TypeId} {x i:Operand} {k:IntKind} {l:List UInt8} {j:Nat} {y:UInt8} (ho:o.op = .index ty x i) (hu:P.underlying ty=some .string) (hx:aN E x=some (vS l)) (hi:aN E i=some (.int k (j:Int))) (hy:l[j]?=some y):cJ P w0 F cs E o (.int .u8 ((y.toNat:Nat):Int)):=fun w _=>by
 unfold execOp
 have h2:(bD l)[j]?=some y:=by
  have h1:=(List.getElem?_eq_some_iff.1 hy).1
  have hlt:j < (bD l).size:=by simpa [bD,ByteArray.size] using h1
  rw [getElem?_pos (bD l) j hlt]
  have:=(List.getElem?_eq_some_iff.1 hy).2
  simp only [bD,ByteArray.getElem_eq_getElem_data,List.getElem_toArray,this]
 simp only [ho,bL hx,bL hi,Instr.index,asIntOf,Sem.run_bind,Sem.run_pure,Result.andThen_ok,run_underlying hu]
 rw [if_pos om]
 simp [h2]
/-! ### Conversions -/
theorem nK {src dst e : TypeId} {x : Operand} {A : Option Addr} {cap m : Nat} (bs : List UInt8) (ho : o.op = .convert src dst x) (hs : P.underlying src = some (.slice e)) (he : P.underlying e = some (.int .u8)) (hd : P.underlying dst = some .string) (hx : aN E x = some (.slice A m cap)) (hm : m = bs.length) (h : ∀ w, Mm w0 F cs w → aF w A (B8 bs)) : cJ P w0 F cs E o (.string (bD bs)) := fun w hM => by
 subst hm
 unfold execOp
 simp only [ho, bL hx, Sem.run_bind, uA hs he hd w A cap bs (h w hM), Sem.run_pure, Result.andThen_ok]
theorem mG {e:TypeId} {i:Nat} {A:Option Addr} {m c:Nat} {xs:List Value} (hi:cs[i]?=some (dA e 1 A m c xs)):∀ w,Mm w0 F cs w→aF w A xs:=fun _ hM=>aF.aR (hM.at hi)
theorem Mm.Xz {w w':World} (h:Mm w0 F cs w) (hf:Fr [] w w') {e:TypeId} {sz:Nat} {v:Value} {m:Nat} {xs:List Value} (ho:w'.ownsRow w.heap.size e sz v m xs):∃ A c,v = .slice A m c∧Mm w0 F (cs++[dA e sz A m c xs]) w':=by
 obtain ⟨A,c,rfl⟩:=jT ho
 refine ⟨A,c,rfl,h.push (c:=dA e sz A m c xs) hf (tT ho (Nat.zero_le _)) ?_ (sD A)⟩
 intro b hb
 rcases ho.2 with ⟨hv,_⟩ | ⟨g,cap,cur,hv,h1,_⟩
 ·simp only [Value.slice.injEq] at hv
  obtain ⟨rfl,_,_⟩:=hv
  simp [dA,dD] at hb
 ·simp only [Value.slice.injEq] at hv
  obtain ⟨rfl,_,_⟩:=hv
  simp [dA,dD] at hb
  omega
end
theorem qM {a:Int} (h1:-9223372036854775808≤a) (h2:a≤9223372036854775807):IntKind.i64.wrap a=a:=by rw [IntKind.wrap_i64]; omega
theorem pM {a:Int} (h1:0≤a) (h2:a < 18446744073709551616):IntKind.u64.wrap a=a:=by rw [IntKind.wrap_u64]; omega
section
variable {P : Program} {Q : Exit → Act → World → Prop} {n : Nat} {w0 : World} {F : List Nat} {E : cH} {cs : List Ch} {K : Act → World → Prop} {o : Oper} {d : Nat}
theorem pO (op:BinOp) (t:TypeId) (x y:Operand) (k k':IntKind) (a b:Int) (w:World):(eqGuard op t x y (.int k a) (.int k' b)).run P w = .ok () w:=by
 unfold eqGuard
 cases op <;> simp
theorem uF {ty u:TypeId} {x y:Operand} {a b:Int} (c:Int) (ho:o.op = .binOp .add ty x y u) (hx:aN E x=some (vi a)) (hy:aN E y=some (vi b)) (hc:a+b=c) (h1:-9223372036854775808≤c) (h2:c≤9223372036854775807):cJ P w0 F cs E o (vi c):=fun w _=>by
 unfold execOp
 simp only [ho,bL hx,bL hy,Sem.run_bind,pO,Result.andThen_ok,binOp,Op.intArith,hc,qM h1 h2]
 simp
theorem mH {ty u:TypeId} {x y:Operand} {a b:Int} (c:Int) (ho:o.op = .binOp .sub ty x y u) (hx:aN E x=some (vi a)) (hy:aN E y=some (vi b)) (hc:a - b=c) (h1:-9223372036854775808≤c) (h2:c≤9223372036854775807):cJ P w0 F cs E o (vi c):=fun w _=>by
 unfold execOp
 simp only [ho,bL hx,bL hy,Sem.run_bind,pO,Result.andThen_ok,binOp,Op.intArith,hc,qM h1 h2]
 simp
theorem Gh {ty u:TypeId} {x y:Operand} {a b:Int} (c:Int) (ho:o.op = .binOp .mul ty x y u) (hx:aN E x=some (vi a)) (hy:aN E y=some (vi b)) (hc:a*b=c) (h1:-9223372036854775808≤c) (h2:c≤9223372036854775807):cJ P w0 F cs E o (vi c):=fun w _=>by
 unfold execOp
 simp only [ho,bL hx,bL hy,Sem.run_bind,pO,Result.andThen_ok,binOp,Op.intArith,hc,qM h1 h2]
 simp
theorem NM {ty u:TypeId} {x y:Operand} {a b:Int} (c:Int) (ho:o.op = .binOp .quo ty x y u) (hx:aN E x=some (vi a)) (hy:aN E y=some (vi b)) (hb:b≠0) (hc:a.tdiv b=c) (h1:-9223372036854775808≤c) (h2:c≤9223372036854775807):cJ P w0 F cs E o (vi c):=fun w _=>by
 unfold execOp
 simp only [ho,bL hx,bL hy,Sem.run_bind,pO,Result.andThen_ok,binOp,Op.intDiv,hc,qM h1 h2]
 simp [hb]
theorem Gi {ty u:TypeId} {x y:Operand} {k:IntKind} {a b:Int} (c:Int) (ho:o.op = .binOp .rem ty x y u) (hx:aN E x=some (.int k a)) (hy:aN E y=some (.int k b)) (hb:b≠0) (hc:a.tmod b=c):cJ P w0 F cs E o (.int k c):=fun w _=>by
 unfold execOp
 simp only [ho,bL hx,bL hy,Sem.run_bind,pO,Result.andThen_ok,binOp,Op.intDiv,hc]
 simp [hb]
theorem Cm {ty u:TypeId} {x y:Operand} {k:IntKind} {a b:Int} (op:BinOp) (hop:op = .and∨op = .or∨op = .xor∨op = .andNot) (c:Int) (ho:o.op = .binOp op ty x y u) (hx:aN E x=some (.int k a)) (hy:aN E y=some (.int k b)) (hc:bits op k a b=c):cJ P w0 F cs E o (.int k c):=fun w _=>by
 unfold execOp
 rcases hop with rfl | rfl | rfl | rfl <;>
 ·subst hc
  simp only [ho,bL hx,bL hy,Sem.run_bind,pO,Result.andThen_ok,binOp,Op.intBits,bits]
  simp
theorem jH {s t:TypeId} {x:Operand} {k k':IntKind} {a:Int} (c:Int) (hr:∀ w,(execOp (evE E) o).run P w = .ok (.value (.int k' (k'.wrap a))) w) (_ho:o.op = .convert s t x) (_hx:aN E x=some (.int k a)) (hc:k'.wrap a=c):cJ P w0 F cs E o (.int k' c):=fun w _=>by rw [hr w,hc]
theorem sE (p:List UInt8):(bD p).toList=p:=by rw [Lib.toList_data]; simp [bD]
theorem zN (p q:List UInt8):(p == q)=decide (p=q):=by by_cases h:p=q <;> simp [h]
theorem oG {ty u:TypeId} {x y:Operand} {p q:List UInt8} (ho:o.op = .binOp .eql ty x y u) (hx:aN E x=some (vS p)) (hy:aN E y=some (vS q)):cJ P w0 F cs E o (.bool (decide (p=q))):=fun w _=>by
 unfold execOp
 simp only [ho,bL hx,bL hy,Sem.run_bind,eqGuard,binOp,Op.stringOp,sE,zN]
 simp
theorem wO {ty u:TypeId} {x y:Operand} {p q:List UInt8} (ho:o.op = .binOp .neq ty x y u) (hx:aN E x=some (vS p)) (hy:aN E y=some (vS q)):cJ P w0 F cs E o (.bool (!decide (p=q))):=fun w _=>by
 unfold execOp
 simp only [ho,bL hx,bL hy,Sem.run_bind,eqGuard,binOp,Op.stringOp,sE,zN]
 simp
end
section
variable {P : Program} {w0 : World} {F : List Nat} {E : cH} {cs : List Ch} {o : Oper}
theorem Cn {ty u:TypeId} {x y:Operand} {p q:List UInt8} (ho:o.op = .binOp .lss ty x y u) (hx:aN E x=some (vS p)) (hy:aN E y=some (vS q)):cJ P w0 F cs E o (.bool (decide (p < q))):=fun w _=>by
 unfold execOp
 simp only [ho,bL hx,bL hy,Sem.run_bind,eqGuard,binOp,Op.stringOp,sE,bytesLess_eq]
 simp
theorem uG {ty u:TypeId} {x y:Operand} {p q:List UInt8} (ho:o.op = .binOp .geq ty x y u) (hx:aN E x=some (vS p)) (hy:aN E y=some (vS q)):cJ P w0 F cs E o (.bool (!decide (p < q))):=fun w _=>by
 unfold execOp
 simp only [ho,bL hx,bL hy,Sem.run_bind,eqGuard,binOp,Op.stringOp,sE,bytesLess_eq]
 simp
theorem NN {ty u:TypeId} {x y:Operand} {p q:List UInt8} (ho:o.op = .binOp .leq ty x y u) (hx:aN E x=some (vS p)) (hy:aN E y=some (vS q)):cJ P w0 F cs E o (.bool (decide (p < q) || decide (p=q))):=fun w _=>by
 unfold execOp
 simp only [ho,bL hx,bL hy,Sem.run_bind,eqGuard,binOp,Op.stringOp,sE,zN,bytesLess_eq]
 simp
theorem NO {ty u:TypeId} {x y:Operand} {p q:List UInt8} (ho:o.op = .binOp .gtr ty x y u) (hx:aN E x=some (vS p)) (hy:aN E y=some (vS q)):cJ P w0 F cs E o (.bool (!(decide (p < q) || decide (p=q)))):=fun w _=>by
 unfold execOp
 simp only [ho,bL hx,bL hy,Sem.run_bind,eqGuard,binOp,Op.stringOp,sE,zN,bytesLess_eq]
 simp
theorem Gj {k y:Nat} {kd:IntKind} (code:BoundsCode) (h:k≤y) (w:World):(Instr.sliceBound (.int kd (k:Int)) y code).run P w = .ok k w:=by
 simp only [Instr.sliceBound,asIntOf,Sem.run_bind,Sem.run_pure,Result.andThen_ok]
 rw [if_pos om]
 simp
theorem wP {ty e:TypeId} {x l h:Operand} {A:Option Addr} {n c k m sz:Nat} {kd kh:IntKind} (ho:o.op = .slice ty x (some l) (some h) none) (hu:P.underlying ty=some (.slice e)) (hs:fO P e=some sz) (hx:aN E x=some (.slice A n c)) (hl:aN E l=some (.int kd (k:Int))) (hh:aN E h=some (.int kh (m:Int))) (hk:k≤m) (hm:m≤c):cJ P w0 F cs E o (.slice (if c=k then A else A.map (·.add (k*sz))) (m - k) (c - k)):=fun w _=>by
 unfold execOp
 cases hq:P.info? e with
 | none=>simp [fO,hq] at hs
 | some i =>
   have hi:i.size=sz:=by simpa [fO,hq] using hs
   simp only [ho,bL hx,Option.map_some,Option.map_none,bL hl,bL hh,Instr.sliceAt,Instr.slice,Instr.sliceBounds,Sem.run_bind,Sem.run_pure,Result.andThen_ok,run_underlying hu,Gj _ hk,Gj _ hm,sizeOf,typeInfo]
   simp [hq,hi]
end
end
section
/-! ### Facts that stay -/
/-- Φ holds, and stays as long as nothing but S and new blocks changes. -/
def Ro (S : List Nat) (w : World) (Φ : World → Prop) : Prop := ∀ w', Fr S w w' → Φ w'
abbrev zO (ms : List Ch) : List Nat := ms.flatMap Ch.fp
abbrev bO (ms : List Ch) (w : World) : Prop := Mm w (zO ms) ms w
abbrev Rf (ms : List Ch) (w : World) (Φ : World → Prop) : Prop := Ro (zO ms) w Φ
abbrev aK (ms : List Ch) (w : World) (post : List Ch) (w' : World) : Prop := Mm w (zO ms) post w'
section
variable {w0 w w' : World} {F S : List Nat} {cs : List Ch} {Φ Ψ : World → Prop}
theorem Ro.here (h:Ro S w Φ):Φ w:=h w (Fr.refl _ _)
theorem Ro.now (h:Ro F w0 Φ) (hM:Mm w0 F cs w):Φ w:=h w hM.fr
theorem Ro.imp (h:Ro S w Φ) (hi:∀ w,Φ w→Ψ w):Ro S w Ψ:=fun w' hf=>hi w' (h w' hf)
theorem Ro.and (h:Ro S w Φ) (k:Ro S w Ψ):Ro S w (fun w=>Φ w∧Ψ w):=fun w' hf=>⟨h w' hf,k w' hf⟩
theorem Ro.step (h:Ro F w0 Φ) (hf:Fr F w0 w) (hs:∀ b∈S,b∈F∨w0.heap.size≤b):Ro S w Φ:=fun w' hk=>h w' (hf.trans' hk hs)
theorem Ro.go (h:Ro F w0 Φ) (hM:Mm w0 F cs w) {ms:List Ch} (hs:∀ c∈ms,c∈cs):Rf ms w Φ :=
 h.step hM.fr fun b hb=>by
  obtain ⟨c,hc,hbc⟩:=List.mem_flatMap.1 hb
  exact hM.own b (List.mem_flatMap.2 ⟨c,hs c hc,hbc⟩)
theorem zP {cs:List Ch} (h:(cs.flatMap Ch.fp).Nodup) {i j:Nat} {c d:Ch} (hi:cs[i]?=some c) (hj:cs[j]?=some d) (hne:i≠j):∀ b∈c.fp,b∉d.fp:=by
 have hs:=FQ hi
 rw [hs] at h
 obtain ⟨_,_,_,h4⟩:=FP h
 intro b hb hd
 obtain ⟨h5,h6⟩:=h4 b hb
 have hl:=(List.getElem?_eq_some_iff.1 hi).1
 rcases Nat.lt_or_gt_of_ne hne with hlt | hlt
 ·refine h6<|List.mem_flatMap.2 ⟨d,List.mem_of_getElem? (i:=j - (i+1)) ?_,hd⟩
  rw [List.getElem?_drop,show i+1+(j - (i+1))=j by omega]
  exact hj
 ·refine h5<|List.mem_flatMap.2 ⟨d,List.mem_of_getElem? (i:=j) ?_,hd⟩
  rw [List.getElem?_take_of_lt hlt]
  exact hj
def pk (cs : List Ch) (is : List Nat) : List Ch := is.filterMap fun i => cs[i]?
def zQ : List Nat → Bool
 | [] => true
 | i :: is => !is.contains i && zQ is
theorem Co {cs:List Ch} {is:List Nat} {c:Ch} (h:c∈pk cs is):∃ i∈is,cs[i]?=some c:=List.mem_filterMap.1 h
theorem Gk {cs:List Ch} (h:(cs.flatMap Ch.fp).Nodup):∀ is:List Nat,zQ is=true→((pk cs is).flatMap Ch.fp).Nodup
 | [],_=>by simp [pk]
 | i::is,hn=>by
   rw [zQ,Bool.and_eq_true] at hn
   obtain ⟨h1,h2⟩:=hn
   have ih:=Gk h is h2
   cases hc:cs[i]? with
   | none=>rw [show pk cs (i::is)=pk cs is by simp [pk,hc]]; exact ih
   | some c =>
     rw [show pk cs (i::is)=c::pk cs is by simp [pk,hc],List.flatMap_cons,List.nodup_append]
     refine ⟨?_,ih,?_⟩
     ·have hs:[c].Sublist cs:=List.singleton_sublist.2 (List.mem_of_getElem? hc)
      have:=h.sublist (BZ hs)
      simpa using this
     ·intro b hb b' hb' e
      subst e
      obtain ⟨d,hd,hbd⟩:=List.mem_flatMap.1 hb'
      obtain ⟨j,hj,hjd⟩:=Co hd
      refine zP h hc hjd (fun e=>?_) b hb hbd
      subst e
      simp [hj] at h1
theorem Mm.pick {w0 w:World} {F:List Nat} {cs cs':List Ch} (h:Mm w0 F cs w) (is:List Nat) (hn:zQ is=true) (he:pk cs is=cs'):Mm w0 F cs' w:=by
 subst he
 refine ⟨h.fr,fun c hc=>?_,Gk h.nodup is hn,fun b hb=>?_⟩
 ·obtain ⟨i,_,hi⟩:=Co hc
  exact h.at hi
 ·obtain ⟨c,hc,hbc⟩:=List.mem_flatMap.1 hb
  obtain ⟨i,_,hi⟩:=Co hc
  exact h.own b (List.mem_flatMap.2 ⟨c,List.mem_of_getElem? hi,hbc⟩)
theorem Mm.BP (hM:Mm w0 F cs w) {ms:List Ch} {j:Nat} {c:Ch} (hj:cs[j]?=some c) (hd:∀ m∈ms,∃ i,cs[i]?=some m∧i≠j) (hi:∀ w,c.holds w→Φ w):Rf ms w Φ:=fun w' hf =>
 hi w' (c.ok w w' (fun b hb=>hf.block b (c.lt w (hM.at hj) b hb) fun hb'=>by
  obtain ⟨m,hm,hbm⟩:=List.mem_flatMap.1 hb'
  obtain ⟨i,h1,h2⟩:=hd m hm
  exact zP hM.nodup hj h1 (fun e=>h2 e.symm) b hb hbm) (hM.at hj))
theorem Mm.aL (hM:Mm w0 F cs w) {j:Nat} {c:Ch} (hj:cs[j]?=some c) (hi:∀ w,c.holds w→Φ w):Rf [] w Φ:=hM.BP hj si hi
theorem Ro.aO (h:Ro F w0 Φ) (hM:Mm w0 F cs w):Rf [] w Φ:=h.go hM si
/-! ### Pieces by their places in the list -/
def fA (cs : List Ch) (is : List Nat) : List Ch := is.filterMap fun i => cs[i]?
def bC : List Ch → List Nat → List Ch → List Ch
 | cs, i :: is, c :: l => bC (cs.set i c) is l
 | cs, _, _ => cs
def qN (n : Nat) (is : List Nat) : List Nat := (List.range n).filter fun i => !is.contains i
theorem NP (cs:List Ch):fA cs (List.range cs.length)=cs:=by
 apply List.ext_getElem?
 intro i
 unfold fA
 have key:∀ (l:List Ch) (k n:Nat),(∀ i,i < n→k+i < l.length)→((List.range n).map (k + ·)).filterMap (fun i=>l[i]?)=(l.drop k).take n:=by
  intro l k n
  induction n with
  | zero=>simp
  | succ n ih =>
    intro h
    rw [List.range_succ,List.map_append,List.filterMap_append,ih fun i hi=>h i om]
    have hk:=h n om
    rw [List.take_add_one]
    simp [List.getElem?_drop,List.getElem?_eq_getElem hk]
 have h:=key cs 0 cs.length (by intro i hi; omega)
 simp only [Nat.zero_add,List.map_id',List.drop_zero,List.take_length] at h
 rw [h]
theorem NQ (n:Nat) (is:List Nat) (hn:is.Nodup) (hlt:∀ i∈is,i < n):(List.range n).Perm (is++qN n is):=by
 rw [List.perm_ext_iff_of_nodup List.nodup_range]
 ·intro a
  simp only [List.mem_append,qN,List.mem_filter,List.mem_range,Bool.not_eq_true',List.contains_eq_mem,decide_eq_false_iff_not]
  constructor
  ·intro h
   by_cases ha:a∈is
   ·exact .inl ha
   ·exact .inr ⟨h,ha⟩
  ·rintro (h | h)
   ·exact hlt a h
   ·exact h.1
 ·rw [List.nodup_append]
  refine ⟨hn,List.nodup_range.filter _,fun a ha b hb e=>?_⟩
  subst e
  simp only [qN,List.mem_filter,List.mem_range,Bool.not_eq_true',List.contains_eq_mem,decide_eq_false_iff_not] at hb
  exact hb.2 ha
theorem Cp (cs:List Ch) (is:List Nat) (hn:is.Nodup) (hlt:∀ i∈is,i < cs.length):cs.Perm (fA cs is++fA cs (qN cs.length is)):=by
 have h:=(NQ cs.length is hn hlt).filterMap fun i=>cs[i]?
 rw [List.filterMap_append] at h
 have e:=NP cs
 unfold fA at e
 rw [e] at h
 exact h
theorem Cq:∀ (is:List Nat) (cs l:List Ch),(bC cs is l).length=cs.length
 | [],cs,l=>by cases l <;> rfl
 | i::is,cs,[]=>rfl
 | i::is,cs,c::l=>by rw [bC,Cq is,List.length_set]
theorem Cr:∀ (is:List Nat) (cs l:List Ch) (k:Nat),k∉is→(bC cs is l)[k]?=cs[k]?
 | [],cs,l,k,_=>by cases l <;> rfl
 | i::is,cs,[],k,_=>rfl
 | i::is,cs,c::l,k,h=>by
   rw [bC,Cr is _ l k (fun h'=>h (List.mem_cons_of_mem _ h')),List.getElem?_set_ne (fun e=>h (by rw [e]; exact List.mem_cons_self))]
theorem Gl:∀ (is:List Nat) (cs l:List Ch),is.Nodup→(∀ i∈is,i < cs.length)→l.length=is.length→fA (bC cs is l) is=l
 | [],cs,l,_,_,h=>by cases l <;> simp_all [fA]
 | i::is,cs,[],_,_,h=>by simp at h
 | i::is,cs,c::l,hn,hlt,h=>by
   obtain ⟨h1,h2⟩:=List.nodup_cons.1 hn
   have e:(bC (cs.set i c) is l)[i]?=some c:=by
    rw [Cr is _ l i h1,List.getElem?_set_self (hlt i List.mem_cons_self)]
   show fA (bC (cs.set i c) is l) (i::is)=c::l
   unfold fA
   rw [List.filterMap_cons_some e]
   congr 1
   exact Gl is _ l h2 (fun j hj=>by rw [List.length_set]; exact hlt j (List.mem_cons_of_mem _ hj)) (by simpa using h)
theorem Mm.con (hM:Mm w0 F cs w) (is:List Nat) {ms ms' news:List Ch} (hs:fA cs is=ms) (hn:is.Nodup) (hlt:∀ i∈is,i < cs.length) (hl:ms'.length=is.length) (hP:aK ms w (ms'++news) w') :
  Mm w0 F (bC cs is ms'++news) w':=by
 subst hs
 have hsz:=hM.fr.size
 have hp:=Cp cs is hn hlt
 have hM1:=hM.perm hp
 have hp2:=Cp (bC cs is ms') is hn (fun i hi=>by rw [Cq]; exact hlt i hi)
 rw [Gl is cs ms' hn hlt hl,Cq] at hp2
 have hrest:fA (bC cs is ms') (qN cs.length is)=fA cs (qN cs.length is):=by
  have key:∀ l:List Nat,(∀ k∈l,k∉is)→fA (bC cs is ms') l=fA cs l:=by
   intro l
   induction l with
   | nil=>intro _; rfl
   | cons k l ih =>
     intro h
     have h1:=ih fun j hj=>h j (List.mem_cons_of_mem _ hj)
     unfold fA at h1 ⊢
     rw [List.filterMap_cons,List.filterMap_cons,Cr is cs ms' k (h k List.mem_cons_self),h1]
  refine key _ fun k hk=>?_
  simpa [qN] using (List.mem_filter.1 hk).2
 rw [hrest] at hp2
 generalize fA cs is=ms at hM1 hP hp
 generalize fA cs (qN cs.length is)=rest at hM1 hp hp2
 refine Mm.perm (cs:=ms'++news++rest) ?_ ?_
 ·have hnd:=hM1.nodup
  rw [List.flatMap_append,List.nodup_append] at hnd
  have hdis:∀ b∈rest.flatMap Ch.fp,b∉ms.flatMap Ch.fp:=fun b hb hb'=>hnd.2.2 b hb' b hb rfl
  have hown:∀ b∈ms.flatMap Ch.fp,b∈F∨w0.heap.size≤b:=fun b hb=>hM1.own b (by rw [List.flatMap_append]; exact List.mem_append_left _ hb)
  refine ⟨hM.fr.trans' hP.fr hown,?_,?_,?_⟩
  ·intro c hc
   rcases List.mem_append.1 hc with hc | hc
   ·exact hP.hold c hc
   ·have hh:=hM1.hold c (List.mem_append_right _ hc)
    exact c.ok w w' (fun b hb=>hP.fr.block b (c.lt w hh b hb) (hdis b (List.mem_flatMap.2 ⟨c,hc,hb⟩))) hh
  ·rw [List.flatMap_append,List.nodup_append]
   refine ⟨hP.nodup,hnd.2.1,fun a ha b hb e=>?_⟩
   subst e
   rcases hP.own a ha with h1 | h1
   ·exact hdis a hb h1
   ·obtain ⟨c,hc,hbc⟩:=List.mem_flatMap.1 hb
    have:=c.lt w (hM1.hold c (List.mem_append_right _ hc)) a hbc
    omega
  ·intro b hb
   rw [List.flatMap_append] at hb
   rcases List.mem_append.1 hb with hb | hb
   ·rcases hP.own b hb with h1 | h1
    ·exact hown b h1
    ·exact .inr om
   ·exact hM1.own b (by rw [List.flatMap_append]; exact List.mem_append_right _ hb)
 ·refine List.Perm.trans ?_ (hp2.symm.append_right news)
  rw [List.append_assoc,List.append_assoc]
  exact List.Perm.append_left _ List.perm_append_comm
theorem Mm.XC (hM:Mm w0 F cs w) (is:List Nat) {ms:List Ch} (hs:fA cs is=ms) (hn:is.Nodup) (hlt:∀ i∈is,i < cs.length):bO ms w:=by
 subst hs
 have hM1:=hM.perm (Cp cs is hn hlt)
 have hM2:=hM1.sub (List.sublist_append_left _ _)
 exact ⟨Fr.refl _ _,hM2.hold,hM2.nodup,fun b hb=>.inl hb⟩
theorem Mm.XD {news:List Ch} (hM:Mm w0 F cs w) (hP:aK [] w news w'):Mm w0 F (cs++news) w':=hM.con [] (ms:=[]) (ms':=[]) (news:=news) rfl List.nodup_nil si rfl hP
end
def oH (n : Nat) : List Nat → Bool
 | [] => true
 | i :: is => Nat.blt i n && !is.contains i && oH n is
theorem Gm {n:Nat}:∀ {is:List Nat},oH n is=true→is.Nodup∧∀ i∈is,i < n
 | [],_=>by simp
 | i::is,h=>by
   simp only [oH,Bool.and_eq_true,Bool.not_eq_true'] at h
   obtain ⟨h1,h2⟩:=Gm h.2
   refine ⟨List.nodup_cons.2 ⟨by simpa using h.1.2,h1⟩,fun j hj=>?_⟩
   rcases List.mem_cons.1 hj with rfl | hj
   ·exact (Nat.blt_eq (x:=j) (y:=n))▸h.1.1
   ·exact h2 j hj
section
variable {P : Program} {Q : Exit → Act → World → Prop} {n : Nat} {w0 : World} {F : List Nat} {E : cH} {cs : List Ch} {X K : Act → World → Prop} {ops : Array Oper} {o oi : Oper} {rest : List Oper} {d : Nat}
/-! ### Calls -/
/-- A call over the pieces 'is' (what they are afterwards: ms'; what is new: news). -/
theorem fB (is : List Nat) (ms : List Ch) {f : FuncId} {args : Array Value} 
  (h : ∀ w, Mm w0 F cs w → bO ms w → Calls P f args w fun e w' => ∃ v ms' news, e = .returned v ∧ aK ms w (ms' ++ news) w' ∧ ms'.length = is.length ∧ St n w0 F ((d, v) :: E) (bC cs is ms' ++ news) K)
  (hd : o.dst = some d := by rfl) (hs : fA cs is = ms := by rfl) (hi : oH cs.length is = true := by rfl) (hk : bK n E o = true := by kernel_rfl) (hr : ∀ w, (execOp (evE E) o).run P w = .ok (.enter f args) w := by intro _; kernel_rfl) : cM P Q n w0 F E cs o K := by
 obtain ⟨h1, h2⟩ := Gm hi
 refine eN f args hd hk hr fun w hM => (h w hM (hM.XC is hs h1 h2)).mono ?_
 rintro e w' ⟨v, ms', news, rfl, hB, hl, hS⟩
 exact ⟨v, _, rfl, hM.con is hs h1 h2 hl hB, hS⟩
theorem fM {f:FuncId} {args:Array Value} 
  (h:∀ w,Mm w0 F cs w→Calls P f args w fun e w'=>∃ v news,e = .returned v∧aK [] w news w'∧St n w0 F ((d,v)::E) (cs++news) K)
  (hd:o.dst=some d:=by rfl) (hk:bK n E o=true:=by kernel_rfl) (hr:∀ w,(execOp (evE E) o).run P w = .ok (.enter f args) w:=by intro _; kernel_rfl):cM P Q n w0 F E cs o K:=by
 refine eN f args hd hk hr fun w hM=>(h w hM).mono ?_
 rintro e w' ⟨v,news,rfl,hB,hS⟩
 exact ⟨v,_,rfl,hM.XD hB,hS⟩
/-! ### Short words -/
theorem lc (v : Value) (h : St n w0 F ((d, v) :: E) cs (wpList P ops Q rest)) (hg : o.guard = none := by rfl) (hd : o.dst = some d := by rfl) (hk : bK n E o = true := by kernel_rfl) (hr : ∀ w, (execOp (evE E) o).run P w = .ok (.value v) w := by intro _; kernel_rfl) : St n w0 F E cs (wpList P ops Q (o :: rest)) := li hg (mR v hd hk (fun w _ => hr w) h)
theorem lv {v:Value} (hr:cJ P w0 F cs E o v) (h:St n w0 F ((d,v)::E) cs (wpList P ops Q rest)) (hg:o.guard=none:=by rfl) (hd:o.dst=some d:=by rfl) (hk:bK n E o=true:=by kernel_rfl):St n w0 F E cs (wpList P ops Q (o::rest)):=li hg (mR v hd hk hr h)
/-! ### Rows of strings and bytes -/
/-- The cells of a list of strings. -/
abbrev SS (l : List (List UInt8)) : List Value := l.map fun p => .string (bD p)
abbrev cS (A : Option Addr) (l : List (List UInt8)) (c : Nat) : Ch := dA 9 1 A l.length c (SS l)
theorem eG {l:List (List UInt8)} {i:Nat} {x:List UInt8} (h:l[i]?=some x):(SS l)[i]?=some (vS x):=by simp [h]
theorem NR {l:List UInt8} {i:Nat} {x:UInt8} (h:l[i]?=some x):(B8 l)[i]?=some (.int .u8 ((x.toNat:Nat):Int)):=rS l i x h
theorem Gn {w:World} {b:Nat} {t:TypeId} {l xs:List Value} (h:At w b t l) (e:xs=l):aF w (some ⟨b,0,none⟩) xs:=fun j v hj=>⟨b,0,rfl,h.lt,by rw [h.cell,Nat.zero_add,← e]; exact hj⟩
theorem zR {w:World} {A:Option Addr} {xs:List Value} {i:Nat} {v:Value} (h:aF w A xs) (hx:xs[i]?=some v):∃ b o,A=some ⟨b,o,none⟩:=by
 obtain ⟨b,o,hA,_⟩:=h i v hx
 exact ⟨b,o,hA⟩
theorem Cs {w:World} {A:Option Addr} {xs:List Value} {i b o:Nat} {v:Value} (h:aF w A xs) (hx:xs[i]?=some v) (hA:A=some ⟨b,o,none⟩):w.cell? ⟨b,o+i,none⟩=some v:=by
 obtain ⟨b',o',hA',_,hc⟩:=h i v hx
 rw [hA] at hA'
 injection hA' with hA'
 injection hA' with h1 h2
 subst h1 h2
 exact hc
theorem St.eE {A:Option Addr} {xs:List Value} {i:Nat} {v:Value} (h:∀ w,Mm w0 F cs w→aF w A xs) (hx:xs[i]?=some v) (k:∀ b o,A=some ⟨b,o,none⟩→(∀ w,Mm w0 F cs w→w.cell? ⟨b,o+i,none⟩=some v)→St n w0 F E cs X):St n w0 F E cs X:=fun a w ha hM=>by
 obtain ⟨b,o,hA⟩:=zR (h w hM) hx
 exact k b o hA (fun w' hM'=>Cs (h w' hM') hx hA) a w ha hM
theorem Any.eE {css:List Ch} {z fuel:Nat} {listed:Array Bool} {A:Option Addr} {xs:List Value} {i:Nat} {v:Value} (h:∀ w,Mm w0 F css w→aF w A xs) (hx:xs[i]?=some v) (k:∀ b o,A=some ⟨b,o,none⟩→(∀ w,Mm w0 F css w→w.cell? ⟨b,o+i,none⟩=some v)→Any P ops Q n w0 F E cs css z fuel listed):Any P ops Q n w0 F E cs css z fuel listed:=fun a w ha hM hS hc=>by
 obtain ⟨b,o,hA⟩:=zR (h w hS) hx
 exact k b o hA (fun w' hM'=>Cs (h w' hM') hx hA) a w ha hM hS hc
theorem qO {ty e:TypeId} {x i:Operand} {A:Option Addr} {b off len cap j:Nat} {k:IntKind} (ho:o.op = .indexAddr ty x i) (hu:P.underlying ty=some (.slice e)) (hsz:fO P e=some 1) (hx:aN E x=some (.slice A len cap)) (hi:aN E i=some (.int k (j:Int))) (hA:A=some ⟨b,off,none⟩) (hlt:j < len):cJ P w0 F cs E o (.pointer (some ⟨b,off+j,none⟩)):=by
 subst hA
 exact Ck ho hu hsz hx hi hlt
def uH (ops : Array Oper) (E : cH) (i : Nat) : Bool :=
 match (ops[i]?).bind (·.dst) with
 | some t => match fU E t with | some (.bool _) => false | some _ => true | none => false
 | none => false
theorem Gp {a:Act} (ha:Ev n E a) {i:Nat} (h:uH ops E i=true):yielded ops a.tmps i=none:=by
 unfold uH at h
 unfold yielded
 cases hd:(ops[i]?).bind (·.dst) with
 | none=>rw [hd] at h; cases h
 | some t =>
   rw [hd] at h
   cases hl:fU E t with
   | none=>simp only [hl] at h; cases h
   | some v =>
     simp only [hl] at h
     have h1:=ha.val t _ hl
     rw [Array.getD_eq_getD_getElem?] at h1
     cases h2:a.tmps[t]? with
     | none=>simp [h2]
     | some u =>
       rw [h2] at h1
       simp only [Option.getD_some] at h1
       subst h1
       cases u <;> first | (cases h; done) | (simp only [Option.bind_some,h2])
theorem NS {i:Nat} {b:Bool} (hg:o.guard=some (i,b)) (ht:o.dst=some d) (hd:jX n (some d)=true) (hy:uH ops E i=true) (h:St n w0 F ((d,undef)::E) cs (wpList P ops Q rest)):St n w0 F E cs (wpList P ops Q (o::rest)) :=
 fun a w ha hM=>wpList_step fun _ hK=>by
  rw [if_neg (by simp [Region.wanted,hg,Gp ha hy])]
  rw [ht]
  exact hK _ _ (h _ _ (ha.put hd undef) hM)
theorem NT {css:List Ch} {z fuel:Nat} {listed:Array Bool} {i j:Nat} {b:Bool} (hi:ops[i]?=some oi) (hd:oi.dst=some d) (hg:oi.guard=some (j,b)) (hy:uH ops E j=true) (ht:jZ ops listed i=true) (hdk:jX n (some d)=true) (hQ:∀ c a w,Q (.panic c) (a.put oi.dst undef) w→Q (.panic c) a w)
  (h:Any P ops Q n w0 F ((d,undef)::E) cs css z fuel (listed.setIfInBounds i true)):Any P ops Q n w0 F E cs css z (fuel+1) listed:=by
 intro a w ha hM hS hc
 obtain ⟨t1,t2,t3⟩:=zL ht
 exact zK hi (Region.noSelect_spec t1) hQ fuel listed a w (Region.free_spec hi t2) t3 (.inr ⟨by simp [Region.wanted,hg,Gp ha hy],rfl⟩) hS (by rw [hd]; exact h _ _ (ha.put hdk undef) hM hS (hc.set t3))
theorem uI {cs':List Ch} (hp:∀ w,Mm w0 F cs w→Mm w0 F cs' w) (h:cM P Q n w0 F E cs' o K):cM P Q n w0 F E cs o K:=fun a w ha hM=>h a w ha (hp w hM)
theorem Ro.bP {Φ:World→Prop} {w:World} (h:Ro F w0 Φ) (hM:Mm w0 F cs w) (is:List Nat) {ms:List Ch} (hs:fA cs is=ms:=by rfl):Rf ms w Φ:=h.go hM fun c hc=>by
 rw [← hs] at hc
 obtain ⟨i,_,hi⟩:=List.mem_filterMap.1 hc
 exact List.mem_of_getElem? hi
theorem Mm.cL {Φ:World→Prop} {w:World} (hM:Mm w0 F cs w) (is:List Nat) {ms:List Ch} {j:Nat} {c:Ch} (hj:cs[j]?=some c) (hi:∀ w,c.holds w→Φ w) (hs:fA cs is=ms:=by rfl) (hn:is.contains j=false:=by rfl):Rf ms w Φ:=hM.BP hj (fun m hm=>by
 rw [← hs] at hm
 obtain ⟨i,h1,h2⟩:=List.mem_filterMap.1 hm
 exact ⟨i,h2,fun e=>by subst e; simp at hn; exact hn h1⟩) hi
/-! ### More operations -/
theorem Gq (p : List UInt8) : (bD p).size = p.length := by simp [bD, ByteArray.size]
theorem wQ {x:Operand} {t:TypeId} {p:List UInt8} (ho:o.op = .call { callee:=.builtin .len,args:=#[x],argTypes:=#[t] }) (hx:aN E x=some (vS p)) (ht:P.underlying t=some .string):cJ P w0 F cs E o (vi ((p.length:Nat):Int)):=fun w _=>by
 unfold execOp
 simp only [ho,resolve,invoke,builtin,Sem.run_bind,Sem.run_pure,Result.andThen_ok,List.map_toArray,List.map_cons,List.map_nil,bL hx,Builtin.len_]
 simp [Sem.run_bind,run_underlying ht,Gq,goInt]
theorem zS {x y:Operand} {t1 t2:TypeId} {k:IntKind} {a b:Nat} (ho:o.op = .call { callee:=.builtin .max,args:=#[x,y],argTypes:=#[t1,t2] }) (hx:aN E x=some (.int k (a:Int))) (hy:aN E y=some (.int k (b:Int))):cJ P w0 F cs E o (.int k ((max a b:Nat):Int)):=fun w _=>by
 unfold execOp
 simp only [ho,resolve,invoke,builtin,Sem.run_bind,Sem.run_pure,Result.andThen_ok,List.map_toArray,List.map_cons,List.map_nil,bL hx,bL hy,Builtin.max_,List.foldlM_cons,List.foldlM_nil,Builtin.max2]
 congr 3
 split <;> omega
theorem Ct {x y:Operand} {t1 t2:TypeId} {k:IntKind} {a b:Nat} (ho:o.op = .call { callee:=.builtin .min,args:=#[x,y],argTypes:=#[t1,t2] }) (hx:aN E x=some (.int k (a:Int))) (hy:aN E y=some (.int k (b:Int))):cJ P w0 F cs E o (.int k ((min a b:Nat):Int)):=fun w _=>by
 unfold execOp
 simp only [ho,resolve,invoke,builtin,Sem.run_bind,Sem.run_pure,Result.andThen_ok,List.map_toArray,List.map_cons,List.map_nil,bL hx,bL hy,Builtin.min_,List.foldlM_cons,List.foldlM_nil,Builtin.min2]
 congr 3
 split <;> omega
def wR (b : Nat) (t : TypeId) (xs : List Value) : Ch where
 fp := [b]
 holds w := ∃ (l : Array Value) (fz : Nat × Nat), w.heap[b]? = some (.cells l t fz) ∧ ∀ (j : Nat) (v : Value), xs[j]? = some v → l[j]? = some v
 ok w w' hb h := by
  obtain ⟨l, fz, h1, h2⟩ := h
  exact ⟨l, fz, (hb b (by simp)).trans h1, h2⟩
 lt w h c hc := by
  rw [List.mem_singleton] at hc
  subst hc
  obtain ⟨_, _, h1, _⟩ := h
  exact (Array.getElem?_eq_some_iff.1 h1).1
theorem NU {w:World} {b:Nat} {t:TypeId} {xs:List Value} (h:(wR b t xs).holds w):aF w (some ⟨b,0,none⟩) xs:=fun j v hj=>by
 obtain ⟨l,fz,h1,h2⟩:=h
 refine ⟨b,0,rfl,(Array.getElem?_eq_some_iff.1 h1).1,?_⟩
 rw [Nat.zero_add]
 simp [World.cell?,h1,h2 j v hj]
theorem lm {x:Operand} {v:Value} (h:St n w0 F ((d,v)::E) cs (wpList P ops Q rest)) (ho:o.op = .move x:=by rfl) (hx:aN E x=some v:=by rfl) (hg:o.guard=none:=by rfl) (hd:o.dst=some d:=by rfl) (hk:bK n E o=true:=by kernel_rfl):St n w0 F E cs (wpList P ops Q (o::rest)):=lv (nH ho hx) h hg hd hk
theorem la {x:Operand} {v:Value} (h:St n w0 F ((d,v)::E) cs (wpList P ops Q rest)) (ho:o.op = .assign x:=by rfl) (hx:aN E x=some v:=by rfl) (hg:o.guard=none:=by rfl) (hd:o.dst=some d:=by rfl) (hk:bK n E o=true:=by kernel_rfl):St n w0 F E cs (wpList P ops Q (o::rest)):=lv (Ci ho hx) h hg hd hk
section
variable {i : Nat} {b : Bool}
theorem Gr {v:Value} (hr:cJ P w0 F cs E o v) (h:St n w0 F ((d,v)::E) cs (wpList P ops Q rest)) (hg:o.guard=some (i,b):=by rfl) (hy:gH ops E i=some b:=by rfl) (hd:o.dst=some d:=by rfl) (hk:bK n E o=true:=by kernel_rfl):St n w0 F E cs (wpList P ops Q (o::rest)):=fI hg hy (mR v hd hk hr h)
theorem lgc (v:Value) (h:St n w0 F ((d,v)::E) cs (wpList P ops Q rest)) (hg:o.guard=some (i,b):=by rfl) (hy:gH ops E i=some b:=by rfl) (hd:o.dst=some d:=by rfl) (hk:bK n E o=true:=by kernel_rfl) (hr:∀ w,(execOp (evE E) o).run P w = .ok (.value v) w:=by intro _; kernel_rfl):St n w0 F E cs (wpList P ops Q (o::rest)):=fI hg hy (mR v hd hk (fun w _=>hr w) h)
theorem wS {x:Operand} {v:Value} (h:St n w0 F ((d,v)::E) cs (wpList P ops Q rest)) (ho:o.op = .move x:=by rfl) (hx:aN E x=some v:=by rfl) (hg:o.guard=some (i,b):=by rfl) (hy:gH ops E i=some b:=by rfl) (hd:o.dst=some d:=by rfl) (hk:bK n E o=true:=by kernel_rfl):St n w0 F E cs (wpList P ops Q (o::rest)):=Gr (nH ho hx) h hg hy hd hk
theorem lnT (h:St n w0 F ((d,undef)::E) cs (wpList P ops Q rest)) (hg:o.guard=some (i,false):=by rfl) (ht:o.dst=some d:=by rfl) (hd:jX n (some d)=true:=by kernel_rfl) (hy:gH ops E i=some true:=by rfl):St n w0 F E cs (wpList P ops Q (o::rest)):=rT (b:=true) hg ht hd hy h
theorem lnF (h:St n w0 F ((d,undef)::E) cs (wpList P ops Q rest)) (hg:o.guard=some (i,true):=by rfl) (ht:o.dst=some d:=by rfl) (hd:jX n (some d)=true:=by kernel_rfl) (hy:gH ops E i=some false:=by rfl):St n w0 F E cs (wpList P ops Q (o::rest)):=rT (b:=false) hg ht hd hy h
theorem mI (h:St n w0 F ((d,undef)::E) cs (wpList P ops Q rest)) (hg:o.guard=some (i,b):=by rfl) (ht:o.dst=some d:=by rfl) (hd:jX n (some d)=true:=by kernel_rfl) (hy:uH ops E i=true:=by rfl):St n w0 F E cs (wpList P ops Q (o::rest)):=NS hg ht hd hy h
variable {css : List Ch} {z fuel : Nat} {listed : Array Bool} {j : Nat}
theorem av (i:Nat) {oi:Oper} (v:Value) (hi:ops[i]?=some oi) (hr:cJ P w0 F css E oi v) (h:Any P ops Q n w0 F ((d,v)::E) cs css z fuel (listed.setIfInBounds i true)) (hd:oi.dst=some d:=by rfl) (hg:oi.guard=none:=by rfl) (ht:oA ops listed z i=true:=by kernel_rfl) (hk:bK n E oi=true:=by kernel_rfl) (hQ:∀ c a w,Q (.panic c) (a.put oi.dst v) w→Q (.panic c) a w:=by exact fun _ _ _ h=>h):Any P ops Q n w0 F E cs css z (fuel+1) listed:=Ga v hi hd hg ht hk hQ hr h
theorem ac (i:Nat) {oi:Oper} (v:Value) (h:Any P ops Q n w0 F ((d,v)::E) cs css z fuel (listed.setIfInBounds i true)) (hi:ops[i]?=some oi:=by rfl) (hd:oi.dst=some d:=by rfl) (hg:oi.guard=none:=by rfl) (ht:jZ ops listed i=true:=by kernel_rfl) (hk:bK n E oi=true:=by kernel_rfl) (hQ:∀ c a w,Q (.panic c) (a.put oi.dst v) w→Q (.panic c) a w:=by exact fun _ _ _ h=>h) (hr:∀ w,(execOp (evE E) oi).run P w = .ok (.value v) w:=by intro _; kernel_rfl):Any P ops Q n w0 F E cs css z (fuel+1) listed:=Cf v hi hd hg ht hk hQ hr h
theorem am (i:Nat) {oi:Oper} {x:Operand} {v:Value} (h:Any P ops Q n w0 F ((d,v)::E) cs css z fuel (listed.setIfInBounds i true)) (hi:ops[i]?=some oi:=by rfl) (ho:oi.op = .move x:=by rfl) (hx:aN E x=some v:=by rfl) (hd:oi.dst=some d:=by rfl) (hg:oi.guard=none:=by rfl) (ht:jZ ops listed i=true:=by kernel_rfl) (hk:bK n E oi=true:=by kernel_rfl) (hQ:∀ c a w,Q (.panic c) (a.put oi.dst v) w→Q (.panic c) a w:=by exact fun _ _ _ h=>h):Any P ops Q n w0 F E cs css z (fuel+1) listed:=Cf v hi hd hg ht hk hQ (fun w=>(nH ho hx:cJ P w [] [] E oi v) w (Mm.start w [])) h
theorem aa (i:Nat) {oi:Oper} {x:Operand} {v:Value} (h:Any P ops Q n w0 F ((d,v)::E) cs css z fuel (listed.setIfInBounds i true)) (hi:ops[i]?=some oi:=by rfl) (ho:oi.op = .assign x:=by rfl) (hx:aN E x=some v:=by rfl) (hd:oi.dst=some d:=by rfl) (hg:oi.guard=none:=by rfl) (ht:jZ ops listed i=true:=by kernel_rfl) (hk:bK n E oi=true:=by kernel_rfl) (hQ:∀ c a w,Q (.panic c) (a.put oi.dst v) w→Q (.panic c) a w:=by exact fun _ _ _ h=>h):Any P ops Q n w0 F E cs css z (fuel+1) listed:=Cf v hi hd hg ht hk hQ (fun w=>(Ci ho hx:cJ P w [] [] E oi v) w (Mm.start w [])) h
theorem Gs (i:Nat) {oi:Oper} (v:Value) (hi:ops[i]?=some oi) (hr:cJ P w0 F css E oi v) (h:Any P ops Q n w0 F ((d,v)::E) cs css z fuel (listed.setIfInBounds i true)) (hd:oi.dst=some d:=by rfl) (hg:oi.guard=some (j,b):=by rfl) (hy:gH ops E j=some b:=by rfl) (ht:oA ops listed z i=true:=by kernel_rfl) (hk:bK n E oi=true:=by kernel_rfl) (hQ:∀ c a w,Q (.panic c) (a.put oi.dst v) w→Q (.panic c) a w:=by exact fun _ _ _ h=>h):Any P ops Q n w0 F E cs css z (fuel+1) listed:=iK v hi hd hg hy ht hk hQ hr h
theorem agc (i:Nat) {oi:Oper} (v:Value) (h:Any P ops Q n w0 F ((d,v)::E) cs css z fuel (listed.setIfInBounds i true)) (hi:ops[i]?=some oi:=by rfl) (hd:oi.dst=some d:=by rfl) (hg:oi.guard=some (j,b):=by rfl) (hy:gH ops E j=some b:=by rfl) (ht:jZ ops listed i=true:=by kernel_rfl) (hk:bK n E oi=true:=by kernel_rfl) (hQ:∀ c a w,Q (.panic c) (a.put oi.dst v) w→Q (.panic c) a w:=by exact fun _ _ _ h=>h) (hr:∀ w,(execOp (evE E) oi).run P w = .ok (.value v) w:=by intro _; kernel_rfl):Any P ops Q n w0 F E cs css z (fuel+1) listed:=FY v hi hd hg hy ht hk hQ hr h
theorem jI (i:Nat) {oi:Oper} {x:Operand} {v:Value} (h:Any P ops Q n w0 F ((d,v)::E) cs css z fuel (listed.setIfInBounds i true)) (hi:ops[i]?=some oi:=by rfl) (ho:oi.op = .move x:=by rfl) (hx:aN E x=some v:=by rfl) (hd:oi.dst=some d:=by rfl) (hg:oi.guard=some (j,b):=by rfl) (hy:gH ops E j=some b:=by rfl) (ht:jZ ops listed i=true:=by kernel_rfl) (hk:bK n E oi=true:=by kernel_rfl) (hQ:∀ c a w,Q (.panic c) (a.put oi.dst v) w→Q (.panic c) a w:=by exact fun _ _ _ h=>h):Any P ops Q n w0 F E cs css z (fuel+1) listed:=FY v hi hd hg hy ht hk hQ (fun w=>(nH ho hx:cJ P w [] [] E oi v) w (Mm.start w [])) h
theorem kP (i:Nat) {oi:Oper} (h:Any P ops Q n w0 F ((d,undef)::E) cs css z fuel (listed.setIfInBounds i true)) (hi:ops[i]?=some oi:=by rfl) (hd:oi.dst=some d:=by rfl) (hg:oi.guard=some (j,false):=by rfl) (hy:gH ops E j=some true:=by rfl) (ht:jZ ops listed i=true:=by kernel_rfl) (hdk:jX n (some d)=true:=by kernel_rfl) (hQ:∀ c a w,Q (.panic c) (a.put oi.dst undef) w→Q (.panic c) a w:=by exact fun _ _ _ h=>h):Any P ops Q n w0 F E cs css z (fuel+1) listed:=FZ (b:=true) hi hd hg hy ht hdk hQ h
theorem fF (i:Nat) {oi:Oper} (h:Any P ops Q n w0 F ((d,undef)::E) cs css z fuel (listed.setIfInBounds i true)) (hi:ops[i]?=some oi:=by rfl) (hd:oi.dst=some d:=by rfl) (hg:oi.guard=some (j,true):=by rfl) (hy:gH ops E j=some false:=by rfl) (ht:jZ ops listed i=true:=by kernel_rfl) (hdk:jX n (some d)=true:=by kernel_rfl) (hQ:∀ c a w,Q (.panic c) (a.put oi.dst undef) w→Q (.panic c) a w:=by exact fun _ _ _ h=>h):Any P ops Q n w0 F E cs css z (fuel+1) listed:=FZ (b:=false) hi hd hg hy ht hdk hQ h
theorem eU (i:Nat) {oi:Oper} (h:Any P ops Q n w0 F ((d,undef)::E) cs css z fuel (listed.setIfInBounds i true)) (hi:ops[i]?=some oi:=by rfl) (hd:oi.dst=some d:=by rfl) (hg:oi.guard=some (j,b):=by rfl) (hy:uH ops E j=true:=by rfl) (ht:jZ ops listed i=true:=by kernel_rfl) (hdk:jX n (some d)=true:=by kernel_rfl) (hQ:∀ c a w,Q (.panic c) (a.put oi.dst undef) w→Q (.panic c) a w:=by exact fun _ _ _ h=>h):Any P ops Q n w0 F E cs css z (fuel+1) listed:=NT hi hd hg hy ht hdk hQ h
theorem a1 (i:Nat) {oi:Oper} (h:cM P Q n w0 F E cs oi (nG P ops Q w0 F css z fuel listed i)) (hr:Region.ready .any ops listed=[i]:=by kernel_rfl) (hi:ops[i]?=some oi:=by rfl) (hg:oi.guard=none:=by rfl):Any P ops Q n w0 F E cs css z (fuel+1) listed:=oB hr hi hg h
end
theorem NV {css:List Ch} {z fuel:Nat} {listed:Array Bool} {i j k:Nat} {ok:Oper} {oj:Oper} (hr:Region.ready .any ops listed=[i,j,k]) (hi:ops[i]?=some oi) (hgi:oi.guard=none) (hj:ops[j]?=some oj) (hgj:oj.guard=none) (hk:ops[k]?=some ok) (hgk:ok.guard=none)
  (h:cM P Q n w0 F E cs oi (nG P ops Q w0 F css z fuel listed i)) (h':cM P Q n w0 F E cs oj (nG P ops Q w0 F css z fuel listed j)) (h'':cM P Q n w0 F E cs ok (nG P ops Q w0 F css z fuel listed k)):Any P ops Q n w0 F E cs css z (fuel+1) listed :=
 Cg hr rfl (fun m hm=>by
  rcases List.mem_cons.1 hm with rfl | hm
  ·exact ⟨oi,hi,hgi,h⟩
  ·rcases List.mem_cons.1 hm with rfl | hm
   ·exact ⟨oj,hj,hgj,h'⟩
   ·rw [List.mem_singleton] at hm; subst hm; exact ⟨ok,hk,hgk,h''⟩)
theorem St.to (cs':List Ch) (hc:cs=cs') (h:St n w0 F E cs' X):St n w0 F E cs X:=by rw [hc]; exact h
theorem qP {w:World} {e:TypeId} {sz m c:Nat} {A:Option Addr} {xs:List Value} (h:(dA e sz A m c xs).holds w):m≤c:=by
 have ho:w.ownsRow 0 e sz (.slice A m c) m xs:=h
 rcases ho.2 with ⟨hv,h0⟩ | ⟨g,cap,cur,hv,_,_,hnc,_⟩
 ·omega
 ·simp only [Value.slice.injEq] at hv
  omega
theorem NW {α:Type} {f:α→Value} {w:World} {A:Option Addr} {l:List α} (k:Nat) (h:aF w A (l.map f)):aF w A ((l.take k).map f):=fun j v hj=>by
 rw [List.map_take] at hj
 have hlt:=(List.getElem?_eq_some_iff.1 hj).1
 rw [List.length_take] at hlt
 rw [List.getElem?_take_of_lt om] at hj
 exact h j v hj
theorem NY {α:Type} {f:α→Value} {w:World} {A:Option Addr} {l:List α} {c:Nat} (k:Nat) (h:aF w A (l.map f)) (hc:l.length≤c):aF w (if c=k then A else A.map (·.add (k*1))) ((l.drop k).map f):=fun j v hj=>by
 rw [List.map_drop,List.getElem?_drop] at hj
 have hlt:=(List.getElem?_eq_some_iff.1 hj).1
 rw [List.length_map] at hlt
 obtain ⟨b,o,hA,hb,hcell⟩:=h _ _ hj
 rw [if_neg om,hA]
 refine ⟨b,o+k,?_,hb,?_⟩
 ·simp [jS]
 ·rw [Nat.add_assoc]
  exact hcell
theorem zT {α:Type} {f:α→Value} {w:World} {A:Option Addr} {l:List α} {c:Nat} (k m:Nat) (h:aF w A (l.map f)) (hc:l.length≤c):aF w (if c=k then A else A.map (·.add (k*1))) (((l.take m).drop k).map f):=NY k (NW m h) (Nat.le_trans (by rw [List.length_take]; omega) hc)
theorem Mm.BQ {w:World} (h:Mm w0 F cs w) (i:Nat) {b:Nat} {e:TypeId} (hi:cs[i]?=some (aB b e [])) (sz:Nat):Mm w0 F (cs.set i (dA e sz (some ⟨b,0,none⟩) 0 0 [])) w:=by
 have:=h.Ml i hi sz 0 0 si (Nat.le_refl _) (Nat.zero_le _)
 simpa using this
theorem zU {l:List (List UInt8)}:∀ u∈SS l,u.oneCell'=true:=by
 intro u hu
 obtain ⟨p,_,rfl⟩:=List.mem_map.1 hu
 rfl
theorem Cu {f:FuncId} {x y:Operand} {u:Value} {caps:Array Value} {t:Array TypeId} (ho:o.op = .call { callee:=.value x,args:=#[y],argTypes:=t }) (hx:aN E x=some (.func (.func f) #[] caps)) (hy:aN E y=some u) (eg:∀ args w,(callFunc f args).run P w = .ok (.enter f args) w)
  (h:∀ w,Mm w0 F cs w→Calls P f (#[u]++caps) w fun e w'=>∃ v news,e = .returned v∧aK [] w news w'∧St n w0 F ((d,v)::E) (cs++news) K)
  (hd:o.dst=some d:=by rfl) (hk:bK n E o=true:=by kernel_rfl):cM P Q n w0 F E cs o K:=by
 refine fM (f:=f) (args:=#[u]++caps) h hd hk fun w=>?_
 unfold execOp
 simp only [ho,resolve,bL hx,Deferred.ofValue,Sem.run_bind,Sem.run_pure,Result.andThen_ok,invoke,List.map_toArray,List.map_cons,List.map_nil,bL hy]
 simpa using eg (#[u]++caps) w
theorem lO {f : FuncId} {fn : Func} {c : Code} (hf : P.funcs[f]? = some fn) (hname : (fn.name == "runtime.NumGoroutine") = false) (hb : fn.body = some c) : ∀ args w, (callFunc f args).run P w = .ok (.enter f args) w:=by
 intro args w
 have h1 : fn.name ≠ "runtime.NumGoroutine" := by simpa using hname
 simp [callFunc,hf,h1,hb,mark]
theorem NZ {ty u:TypeId} {x:Operand} {kd ks:IntKind} {a k:Nat} (ho:o.op = .binOp .shr ty x (.const (.int ks (k:Int))) u) (hx:aN E x=some (.int kd (a:Int))) (hb:min k kd.bits=k):cJ P w0 F cs E o (.int kd ((a / 2 ^ k:Nat):Int)):=fun w _=>by
 unfold execOp
 have e:(a:Int).fdiv (2 ^ k)=((a / 2 ^ k:Nat):Int):=by
  rw [Int.fdiv_eq_ediv_of_nonneg _ (Int.pow_nonneg (by decide)),Int.natCast_ediv,Int.natCast_pow]
  rfl
 have h8:(((k:Nat):Int).toNat)=k:=Int.toNat_natCast k
 simp only [ho,bL hx,bL (show aN E (.const (.int ks (k:Int)))=some (.int ks (k:Int)) from rfl),Sem.run_bind,pO,Result.andThen_ok,binOp,Op.shift]
 rw [if_neg om,h8,hb]
 simp only [Sem.run_pure,Result.andThen_ok,e]
theorem Gt {ty u:TypeId} {x:Operand} {kd ks:IntKind} {a:Nat} (ho:o.op = .binOp .shr ty x (.const (.int ks 1)) u) (hx:aN E x=some (.int kd (a:Int))) (hb:min 1 kd.bits=1):cJ P w0 F cs E o (.int kd ((a / 2:Nat):Int)):=NZ (k:=1) ho hx hb
theorem Mm.Fj {w w':World} (hf:Fr [] w w'):aK [] w [] w':=(Mm.start w []).iH hf
theorem kB:mD Tryz.prog 24 9 (.string ⟨#[]⟩) 1 16:=⟨Tryz.underlying24,kr,rfl,om,om⟩
end
end
section
abbrev vU (n : Nat) : Value := .int .u64 ((n : Nat) : Int)
section
variable {P : Program} {Q : Exit → Act → World → Prop} {n : Nat} {w0 : World} {F : List Nat} {E : cH} {cs css : List Ch} {K : Act → World → Prop} {ops : Array Oper} {o oi : Oper} {rest : List Oper} {d j z fuel : Nat} {g : Bool} {listed : Array Bool} {ty t : TypeId} {x y : Operand} {b off : Nat} {l : List Value} {v : Value}
theorem al (k i : Nat) (h : Any P ops Q n w0 F ((d, v) :: E) cs css z fuel (listed.setIfInBounds k true)) (hk1 : ops[k]? = some oi := by rfl) (ho : oi.op = .load ty x := by rfl) (hx : aN E x = some (.pointer (some ⟨b, off, none⟩)) := by rfl) (hs : nI P ty = true := by kernel_rfl) (hi : css[i]? = some (aB b t l) := by rfl) (hl : l[off]? = some v := by rfl) (hd : oi.dst = some d := by rfl) (hg : oi.guard = none := by rfl) (ht : oA ops listed z k = true := by kernel_rfl) (hk : bK n E oi = true := by kernel_rfl) (hQ : ∀ c a w, Q (.panic c) (a.put oi.dst v) w → Q (.panic c) a w := by exact fun _ _ _ h => h) : Any P ops Q n w0 F E cs css z (fuel + 1) listed := Ga v hk1 hd hg ht hk hQ (eT i ho hx hs hi hl) h
theorem oS1 (i : Nat) (h : St n w0 F E (cs.set i (aB b t (l.set off v))) K) (ho : o.op = .store ty x y := by rfl) (hd : o.dst = none := by rfl) (hk : bK n E o = true := by kernel_rfl) (hx : aN E x = some (.pointer (some ⟨b, off, none⟩)) := by rfl) (hy : aN E y = some v := by rfl) (h1 : v.oneCell' = true := by rfl) (hsz : fO P ty = some 1 := by kernel_rfl) (hi : cs[i]? = some (aB b t l) := by rfl) (hfit : off < l.length := by simp) : cM P Q n w0 F E cs o K := nJ i ho hd hk hx hy h1 hsz hi hfit h
theorem oSN (i : Nat) (l' : List Value) (h : St n w0 F E (cs.set i (aB b t l')) K) (ho : o.op = .store ty x y := by rfl) (hd : o.dst = none := by rfl) (hk : bK n E o = true := by kernel_rfl) (hx : aN E x = some (.pointer (some ⟨b, off, none⟩)) := by rfl) (hy : aN E y = some v := by rfl) (hv : v.cells = l'.toArray := by rfl) (hsz : fO P ty = some l'.length := by kernel_rfl) (hi : cs[i]? = some (aB b t l) := by rfl) (hfit : off + l'.length ≤ l.length := by simp) (h1 : ∀ u ∈ l', u.oneCell' = true := by simp [Value.oneCell']) (hl' : l' = l.take off ++ l' ++ l.drop (off + l'.length) := by rfl) : cM P Q n w0 F E cs o K := oE i l' (vs := l') ho hd hk hx hy hv hsz hi hfit h1 hl' h
theorem oNw (k : Nat) (t : TypeId) (z : List Value) (h : ∀ b, St n w0 F ((d, .slice (some ⟨b, 0, none⟩) k k) :: E) (cs ++ [aB b t z]) K) (hd : o.dst = some d := by rfl) (hk : bK n E o = true := by kernel_rfl) (hr : ∀ w, (execOp (evE E) o).run P w = .ok (.value (.slice (some ⟨w.heap.size, 0, none⟩) k k)) (w.alloc (.cells z.toArray t)) := by intro _; kernel_rfl) : cM P Q n w0 F E cs o K := Ge (v := fun b => .slice (some ⟨b, 0, none⟩) k k) t z hd hk hr h
theorem oAl (z : List Value) (h : ∀ b, St n w0 F ((d, (.pointer (some ⟨b, 0, none⟩))) :: E) (cs ++ [aB b ty z]) K) (ho : o.op = .alloc ty := by rfl) (hd : o.dst = some d := by rfl) (hk : bK n E o = true := by kernel_rfl) (hz : (P.info? ty).map (fun i => i.zero.map Value.cells) = some (some z.toArray) := by kernel_rfl) : cM P Q n w0 F E cs o K := NK z ho hd hk hz h
theorem oBx (z : List Value) (h : ∀ b, St n w0 F ((d, (.pointer (some ⟨b, 0, none⟩))) :: E) (cs ++ [aB b ty z]) K) (ho : o.op = .box ty x := by rfl) (hd : o.dst = some d := by rfl) (hk : bK n E o = true := by kernel_rfl) (hx : aN E x = some v := by rfl) (hz : v.cells = z.toArray := by rfl) : cM P Q n w0 F E cs o K := Cj z ho hd hk hx hz h
theorem bJ {ty u : TypeId} {a b : Int} (ho : o.op = .binOp .add ty x y u := by rfl) (hx : aN E x = some (.int .i64 a) := by rfl) (hy : aN E y = some (.int .i64 b) := by rfl) {c : Int} (hc : a + b = c := by omega) (h1 : -9223372036854775808 ≤ c := by omega) (h2 : c ≤ 9223372036854775807 := by omega) : cJ P w0 F cs E o (.int .i64 c) := uF c ho hx hy hc h1 h2
theorem rW {a : Addr} (hc : ∀ w, Mm w0 F cs w → w.cell? a = some v) (ho : o.op = .load ty x := by rfl) (hx : aN E x = some (.pointer (some a)) := by rfl) (hs : nI P ty = true := by kernel_rfl) : cJ P w0 F cs E o v := hJ ho hx hs hc
theorem rA (i : Nat) (dX : List Value) (ho : o.op = .load ty x := by rfl) (hx : aN E x = some (.pointer (some ⟨b, off, none⟩)) := by rfl) (hs : wM P ty = true := by kernel_rfl) (hsz : fO P ty = some dX.length := by kernel_rfl) (hi : cs[i]? = some (aB b t l) := by rfl) (hg : ∀ j v, dX[j]? = some v → l[off + j]? = some v := by intro j v hj; first | (rw [Nat.zero_add]; exact hj) | (match j, hj with | 0, h => exact h | 1, h => exact h)) : cJ P w0 F cs E o (.agg dX.toArray) := oD dX ho hx hs hsz (hU hi hg)
theorem rR (e : TypeId) {ty : TypeId} {x i : Operand} {A : Option Addr} {b off len cap j : Nat} {k : IntKind} (hA : A = some ⟨b, off, none⟩) (ho : o.op = .indexAddr ty x i := by rfl) (hu : P.underlying ty = some (.slice e) := by kernel_rfl) (hsz : fO P e = some 1 := by kernel_rfl) (hx : aN E x = some (.slice A len cap) := by rfl) (hi : aN E i = some (.int k (j : Int)) := by rfl) (hlt : j < len := by omega) : cJ P w0 F cs E o (.pointer (some ⟨b, off + j, none⟩)) := qO (e := e) ho hu hsz hx hi hA hlt
theorem sA {ι : Type} {ok : ι → Prop} {μ : ι → Nat} {J : ι → cH} {C : ι → List Ch} {i : ι} (j : ι) (h1 : ok j) (h2 : μ j < μ i) (hM : ∀ w, Mm w0 F cs w → Mm w0 F (C j) w) (hE : nD E (J j) := by repeat (first | exact trivial | refine ⟨rfl, ?_⟩)) : St n w0 F E cs (zJ n w0 F ok μ J C i) := uD j h1 h2 hE hM
theorem sM {ι : Type} {ok : ι → Prop} {J : ι → cH} {C : ι → List Ch} (j : ι) (h1 : ok j) (hM : ∀ w, Mm w0 F cs w → Mm w0 F (C j) w) (hE : nD E (J j) := by repeat (first | exact trivial | refine ⟨rfl, ?_⟩)) : St n w0 F E cs (Cb n w0 F ok J C) := NF j h1 hE hM
theorem sN {fn : Func} {R : Ending → World → Prop} {rs : List ResultVar} (vs : List Value) (hR : ∀ w, Mm w0 F cs w → R (.returned (pK vs)) w) (hf : fn.results = rs.toArray := by rfl) (hv : wL P w0 F E cs rs vs := by repeat (first | exact trivial | refine ⟨rfl, ?_⟩)) : St n w0 F E cs (bodyPost P fn R .ret) := iJ vs hf hv hR
theorem sL {c : Code} {ι : Type} (ok : ι → Prop) (μ : ι → Nat) (J : ι → cH) (C : ι → List Ch) (i0 : ι) (h0 : ok i0) (hM : ∀ w, Mm w0 F cs w → Mm w0 F (C i0) w) (round : ∀ i, ok i → St n w0 F (J i) (C i) (c.wp P (Exit.then (zJ n w0 F ok μ J C i) Q))) (hE : nD E (J i0) := by repeat (first | exact trivial | refine ⟨rfl, ?_⟩)) : St n w0 F E cs ((Code.loop c).wp P Q) := FR ok μ J C i0 h0 hE hM round
end
section
variable {P : Program} {f : FuncId} {fn : Func} {k : Code} {w : World} {R : Ending → World → Prop} {F : List Nat} {cs : List Ch} {a b c d e g : Value}
theorem sE0 (hf : P.funcs[f]? = some fn) (m : Nat) (hcs : Mm w F cs w) (h : St m w F [] cs (k.wp P (bodyPost P fn R))) (hb : fn.body = some k := by rfl) (hm : ([] : List Value).length + (fn.ntmps - ([] : List Value).length) = m := by rfl) : Calls P f #[] w R := uE (args := []) F hf hb m hm [] trivial cs hcs h
theorem sE1 (hf : P.funcs[f]? = some fn) (m : Nat) (hcs : Mm w F cs w) (h : St m w F [(0, a)] cs (k.wp P (bodyPost P fn R))) (hb : fn.body = some k := by rfl) (hm : [a].length + (fn.ntmps - [a].length) = m := by rfl) : Calls P f #[a] w R := uE (args := [a]) F hf hb m hm [(0, a)] ⟨rfl, trivial⟩ cs hcs h
theorem sE2 (hf : P.funcs[f]? = some fn) (m : Nat) (hcs : Mm w F cs w) (h : St m w F [(0, a), (1, b)] cs (k.wp P (bodyPost P fn R))) (hb : fn.body = some k := by rfl) (hm : [a, b].length + (fn.ntmps - [a, b].length) = m := by rfl) : Calls P f #[a, b] w R := uE (args := [a, b]) F hf hb m hm [(0, a), (1, b)] ⟨rfl, rfl, trivial⟩ cs hcs h
theorem sE3 (hf : P.funcs[f]? = some fn) (m : Nat) (hcs : Mm w F cs w) (h : St m w F [(0, a), (1, b), (2, c)] cs (k.wp P (bodyPost P fn R))) (hb : fn.body = some k := by rfl) (hm : [a, b, c].length + (fn.ntmps - [a, b, c].length) = m := by rfl) : Calls P f #[a, b, c] w R := uE (args := [a, b, c]) F hf hb m hm [(0, a), (1, b), (2, c)] ⟨rfl, rfl, rfl, trivial⟩ cs hcs h
theorem sE4 (hf : P.funcs[f]? = some fn) (m : Nat) (hcs : Mm w F cs w) (h : St m w F [(0, a), (1, b), (2, c), (3, d)] cs (k.wp P (bodyPost P fn R))) (hb : fn.body = some k := by rfl) (hm : [a, b, c, d].length + (fn.ntmps - [a, b, c, d].length) = m := by rfl) : Calls P f #[a, b, c, d] w R := uE (args := [a, b, c, d]) F hf hb m hm [(0, a), (1, b), (2, c), (3, d)] ⟨rfl, rfl, rfl, rfl, trivial⟩ cs hcs h
end
end
section
def zV (n : Nat) (ops : Array Oper) (E : cH) (o : Oper) : Option (Nat × Value) :=
 match o.guard, o.dst with
 | none, some d => bif Nat.blt d n then
   (match o.op with
   | .move x => (match aN E x with | some v => some (d, v) | none => none)
   | .assign x => (match aN E x with | some v => some (d, v) | none => none)
   | .extract x i => (match aN E x with | some (.tuple a) => (match a.toList[i]? with | some v => some (d, v) | none => none) | _ => none)
   | _ => none) else none
 | some (i, b), some d => bif Nat.blt d n then (match gH ops E i with
   | some b' => bif Bool.xor b b' then some (d, undef) else
     (match o.op with
     | .move x => (match aN E x with | some v => some (d, v) | none => none)
     | .assign x => (match aN E x with | some v => some (d, v) | none => none)
     | .extract x i => (match aN E x with | some (.tuple a) => (match a.toList[i]? with | some v => some (d, v) | none => none) | _ => none)
     | _ => none)
   | none => none) else none
 | _, none => none
def Cv (n : Nat) (ops : Array Oper) : List Oper → cH → Option (cH × List Oper)
 | [], E => some (E, [])
 | o :: rest, E => match zV n ops E o with
   | some (d, v) => Cv n ops rest ((d, v) :: E)
   | none => some (E, o :: rest)
section
variable {P : Program} {Q : Exit → Act → World → Prop} {n : Nat} {w0 : World} {F : List Nat} {E : cH} {cs css : List Ch} {K : Act → World → Prop} {ops : Array Oper} {o oi : Oper} {rest : List Oper} {d j z fuel : Nat} {g : Bool} {listed : Array Bool} {ty t : TypeId} {x y : Operand} {b off : Nat} {l : List Value} {v : Value} {op : Op} {pos : String} {aft : Array Edge}
theorem exX {x : Operand} {i : Nat} {a : Array Value} {v : Value} (ho : o.op = .extract x i) (hx : aN E x = some (.tuple a)) (hv : a.toList[i]? = some v) : cJ P w0 F cs E o v := fun w _ => by
 have h : a[i]? = some v := by rw [← hv]; simp
 unfold execOp; simp only [ho, bL hx, Instr.extract, h]; rfl
theorem Gu {op : Op} {v : Value} (he : (match op with
   | .move x => (match aN E x with | some v => some (d, v) | none => none)
   | .assign x => (match aN E x with | some v => some (d, v) | none => none)
   | .extract x i => (match aN E x with | some (.tuple a) => (match a.toList[i]? with | some v => some (d, v) | none => none) | _ => none)
   | _ => none) = some (j, v)) (ho : o.op = op) : d = j ∧ (∀ x ∈ o.op.operands, (aN E x).isSome = true) ∧ uB o = true ∧ ∀ w, (execOp (evE E) o).run P w = .ok (.value v) w := by
 subst ho
 split at he
 ·rename_i x hx
  cases hv : aN E x with
  | none => rw [hv] at he; cases he
  | some u =>
    rw [hv] at he; cases he
    exact ⟨rfl, by rw [hx]; simp [Op.operands, hv], by simp [uB, hx], fun w => (nH hx hv : cJ P w [] [] E o v) w (Mm.start w [])⟩
 ·rename_i x hx
  cases hv : aN E x with
  | none => rw [hv] at he; cases he
  | some u =>
    rw [hv] at he; cases he
    exact ⟨rfl, by rw [hx]; simp [Op.operands, hv], by simp [uB, hx], fun w => (Ci hx hv : cJ P w [] [] E o v) w (Mm.start w [])⟩
 ·rename_i x i hx
  split at he
  ·rename_i a hv
   split at he
   ·rename_i u hu
    cases he
    exact ⟨rfl, by rw [hx]; simp [Op.operands, hv], by simp [uB, hx], fun w => (exX hx hv hu : cJ P w [] [] E o v) w (Mm.start w [])⟩
   ·cases he
  ·cases he
 ·cases he
theorem Oa (h : zV n ops E o = some (j, v)) (k : St n w0 F ((j, v) :: E) cs (wpList P ops Q rest)) : St n w0 F E cs (wpList P ops Q (o :: rest)) := by
 unfold zV at h
 split at h
 ·rename_i d hg hd
  cases hb : Nat.blt d n with
  | false => rw [hb] at h; cases h
  | true =>
    rw [hb] at h
    obtain ⟨rfl, h1, h2, h3⟩ := Gu (P := P) h rfl
    refine li hg (mR v hd ?_ (fun w _ => h3 w) k)
    simp only [bK, h2, hd, jX, hb, Bool.true_and]
    exact Array.all_eq_true_iff_forall_mem.2 h1
 ·rename_i i b d hg hd
  cases hb : Nat.blt d n with
  | false => rw [hb] at h; cases h
  | true =>
    rw [hb] at h
    simp only [cond_true] at h
    split at h
    ·rename_i b' hy
     cases hbb : Bool.xor b b' with
     | true =>
       rw [hbb] at h; cases h
       exact rT (by cases b <;> cases b' <;> first | exact hg | cases hbb) hd hb hy k
     | false =>
       rw [hbb] at h
       obtain ⟨rfl, h1, h2, h3⟩ := Gu (P := P) h rfl
       have e : b = b' := by cases b <;> cases b' <;> first | rfl | cases hbb
       refine fI hg (e ▸ hy) (mR v hd ?_ (fun w _ => h3 w) k)
       simp only [bK, h2, hd, jX, hb, Bool.true_and]
       exact Array.all_eq_true_iff_forall_mem.2 h1
    ·cases h
 ·cases h
theorem lx {rest' : List Oper} {E' : cH} (h : Cv n ops rest E = some (E', rest')) (k : St n w0 F E' cs (wpList P ops Q rest')) : St n w0 F E cs (wpList P ops Q rest) := by
 induction rest generalizing E with
 | nil => cases h; exact k
 | cons o rest ih =>
   unfold Cv at h
   cases hs : zV n ops E o with
   | none => rw [hs] at h; cases h; exact k
   | some p => rw [hs] at h; exact Oa hs (ih h)
end
section
variable {P : Program} {Q Q' Q2 : Exit → Act → World → Prop} {n : Nat} {w0 : World} {F : List Nat} {E : cH} {cs css : List Ch} {K K' K2 : Act → World → Prop} {ops : Array Oper} {oi : Oper} {rest l : List Oper} {c a b : Code} {d j z fuel id id' : Nat} {g : Bool} {listed : Array Bool} {ty t : TypeId} {x y u : Operand} {bk off : Nat} {lv' : List Value} {v : Value} {op : Op} {pos : String} {aft : Array Edge} {gd : Option (Nat × Bool)} {f : FuncId} {args : Array Value}
theorem lk (v : Value) (h : St n w0 F ((d, v) :: E) cs (wpList P ops Q rest)) (hk : bK n E ⟨some d, op, t, pos, aft, none⟩ = true := by kernel_rfl) (hr : ∀ w, (execOp (evE E) ⟨some d, op, t, pos, aft, none⟩).run P w = .ok (.value v) w := by intro _; kernel_rfl) : St n w0 F E cs (wpList P ops Q (⟨some d, op, t, pos, aft, none⟩ :: rest)) := lc v h rfl rfl hk hr
theorem lT (h : St n w0 F ((d, .bool true) :: E) cs (wpList P ops Q rest)) (hk : bK n E ⟨some d, op, t, pos, aft, none⟩ = true := by kernel_rfl) (hr : ∀ w, (execOp (evE E) ⟨some d, op, t, pos, aft, none⟩).run P w = .ok (.value (.bool true)) w := by intro _; kernel_rfl) : St n w0 F E cs (wpList P ops Q (⟨some d, op, t, pos, aft, none⟩ :: rest)) := lc _ h rfl rfl hk hr
theorem lF (h : St n w0 F ((d, .bool false) :: E) cs (wpList P ops Q rest)) (hk : bK n E ⟨some d, op, t, pos, aft, none⟩ = true := by kernel_rfl) (hr : ∀ w, (execOp (evE E) ⟨some d, op, t, pos, aft, none⟩).run P w = .ok (.value (.bool false)) w := by intro _; kernel_rfl) : St n w0 F E cs (wpList P ops Q (⟨some d, op, t, pos, aft, none⟩ :: rest)) := lc _ h rfl rfl hk hr
theorem lg (v : Value) (h : St n w0 F ((d, v) :: E) cs (wpList P ops Q rest)) (hy : gH ops E j = some g := by rfl) (hk : bK n E ⟨some d, op, t, pos, aft, some (j, g)⟩ = true := by kernel_rfl) (hr : ∀ w, (execOp (evE E) ⟨some d, op, t, pos, aft, some (j, g)⟩).run P w = .ok (.value v) w := by intro _; kernel_rfl) : St n w0 F E cs (wpList P ops Q (⟨some d, op, t, pos, aft, some (j, g)⟩ :: rest)) := lgc v h rfl hy rfl hk hr
theorem lw (v : Value) (hr : cJ P w0 F cs E ⟨some d, op, t, pos, aft, none⟩ v) (h : St n w0 F ((d, v) :: E) cs (wpList P ops Q rest)) (hk : bK n E ⟨some d, op, t, pos, aft, none⟩ = true := by kernel_rfl) : St n w0 F E cs (wpList P ops Q (⟨some d, op, t, pos, aft, none⟩ :: rest)) := lv hr h rfl rfl hk
theorem lW (hr : cJ P w0 F cs E ⟨some d, op, t, pos, aft, none⟩ v) (h : St n w0 F ((d, v) :: E) cs (wpList P ops Q rest)) (hk : bK n E ⟨some d, op, t, pos, aft, none⟩ = true := by kernel_rfl) : St n w0 F E cs (wpList P ops Q (⟨some d, op, t, pos, aft, none⟩ :: rest)) := lv hr h rfl rfl hk
theorem lu (v : Value) (hr : cJ P w0 F cs E ⟨some d, op, t, pos, aft, some (j, g)⟩ v) (h : St n w0 F ((d, v) :: E) cs (wpList P ops Q rest)) (hy : gH ops E j = some g := by rfl) (hk : bK n E ⟨some d, op, t, pos, aft, some (j, g)⟩ = true := by kernel_rfl) : St n w0 F E cs (wpList P ops Q (⟨some d, op, t, pos, aft, some (j, g)⟩ :: rest)) := Gr hr h rfl hy rfl hk
theorem lL {ty' : TypeId} (i : Nat) (hx : (aN E x, cs[i]?, lv'[off]?) = (some (.pointer (some ⟨bk, off, none⟩)), some (aB bk ty' lv'), some v)) (h : St n w0 F ((d, v) :: E) cs (wpList P ops Q rest)) (hs : nI P ty = true := by kernel_rfl) (hk : bK n E ⟨some d, .load ty x, t, pos, aft, none⟩ = true := by kernel_rfl) : St n w0 F E cs (wpList P ops Q (⟨some d, .load ty x, t, pos, aft, none⟩ :: rest)) := by
 injection hx with h1 h2; injection h2 with h2 h3
 exact lv (eT i rfl h1 hs h2 h3) h rfl rfl hk
theorem pA (z : List Value) (h : ∀ b, St n w0 F ((d, .pointer (some ⟨b, 0, none⟩)) :: E) (cs ++ [aB b ty z]) K) (hk : bK n E ⟨some d, .alloc ty, t, pos, aft, gd⟩ = true := by kernel_rfl) (hz : (P.info? ty).map (fun i => i.zero.map Value.cells) = some (some z.toArray) := by kernel_rfl) : cM P Q n w0 F E cs ⟨some d, .alloc ty, t, pos, aft, gd⟩ K := oAl z h rfl rfl hk hz
theorem pB (z : List Value) (h : ∀ b, St n w0 F ((d, .pointer (some ⟨b, 0, none⟩)) :: E) (cs ++ [aB b ty z]) K) (hx : aN E x = some v := by rfl) (hk : bK n E ⟨some d, .box ty x, t, pos, aft, gd⟩ = true := by kernel_rfl) (hz : v.cells = z.toArray := by rfl) : cM P Q n w0 F E cs ⟨some d, .box ty x, t, pos, aft, gd⟩ K := oBx z h rfl rfl hk hx hz
theorem pN (k : Nat) (ty : TypeId) (z : List Value) (h : ∀ b, St n w0 F ((d, .slice (some ⟨b, 0, none⟩) k k) :: E) (cs ++ [aB b ty z]) K) (hk : bK n E ⟨some d, op, t, pos, aft, gd⟩ = true := by kernel_rfl) (hr : ∀ w, (execOp (evE E) ⟨some d, op, t, pos, aft, gd⟩).run P w = .ok (.value (.slice (some ⟨w.heap.size, 0, none⟩) k k)) (w.alloc (.cells z.toArray ty)) := by intro _; kernel_rfl) : cM P Q n w0 F E cs ⟨some d, op, t, pos, aft, gd⟩ K := oNw k ty z h rfl hk hr
theorem pS {ty' : TypeId} (i : Nat) (hx : (aN E x, aN E y, cs[i]?) = (some (.pointer (some ⟨bk, off, none⟩)), some v, some (aB bk ty' lv'))) (h : St n w0 F E (cs.set i (aB bk ty' (lv'.set off v))) K) (hk : bK n E ⟨none, .store ty x y, t, pos, aft, gd⟩ = true := by kernel_rfl) (h1 : v.oneCell' = true := by rfl) (hsz : fO P ty = some 1 := by kernel_rfl) (hfit : off < lv'.length := by simp) : cM P Q n w0 F E cs ⟨none, .store ty x y, t, pos, aft, gd⟩ K := by
 injection hx with e1 e2; injection e2 with e2 e3
 exact oS1 i h rfl rfl hk e1 e2 h1 hsz e3 hfit
theorem pT {ty' : TypeId} (i : Nat) (l' : List Value) (hx : (aN E x, cs[i]?) = (some (.pointer (some ⟨bk, off, none⟩)), some (aB bk ty' lv'))) (h : St n w0 F E (cs.set i (aB bk ty' l')) K) (hk : bK n E ⟨none, .store ty x y, t, pos, aft, gd⟩ = true := by kernel_rfl) (hy : aN E y = some v := by rfl) (hv : v.cells = l'.toArray := by rfl) (hsz : fO P ty = some l'.length := by kernel_rfl) (hfit : off + l'.length ≤ lv'.length := by simp) (h1 : ∀ u ∈ l', u.oneCell' = true := by simp [Value.oneCell']) (hl' : l' = lv'.take off ++ l' ++ lv'.drop (off + l'.length) := by rfl) : cM P Q n w0 F E cs ⟨none, .store ty x y, t, pos, aft, gd⟩ K := by
 injection hx with e1 e2
 exact oSN i l' h rfl rfl hk e1 hy hv hsz e2 hfit h1 hl'
theorem aC (i : Nat) (v : Value) (hi : ops[i]? = some ⟨some d, op, t, pos, aft, none⟩) (h : Any P ops Q n w0 F ((d, v) :: E) cs css z fuel (listed.setIfInBounds i true)) (ht : jZ ops listed i = true := by kernel_rfl) (hk : bK n E ⟨some d, op, t, pos, aft, none⟩ = true := by kernel_rfl) (hQ : ∀ c a w, Q (.panic c) (a.put (some d) v) w → Q (.panic c) a w := by exact fun _ _ _ h => h) (hr : ∀ w, (execOp (evE E) ⟨some d, op, t, pos, aft, none⟩).run P w = .ok (.value v) w := by intro _; kernel_rfl) : Any P ops Q n w0 F E cs css z (fuel + 1) listed := ac i v h hi rfl rfl ht hk hQ hr
theorem aV (i : Nat) (v : Value) (hi : ops[i]? = some ⟨some d, op, t, pos, aft, none⟩) (hv : cJ P w0 F css E ⟨some d, op, t, pos, aft, none⟩ v) (h : Any P ops Q n w0 F ((d, v) :: E) cs css z fuel (listed.setIfInBounds i true)) (ht : oA ops listed z i = true := by kernel_rfl) (hk : bK n E ⟨some d, op, t, pos, aft, none⟩ = true := by kernel_rfl) (hQ : ∀ c a w, Q (.panic c) (a.put (some d) v) w → Q (.panic c) a w := by exact fun _ _ _ h => h) : Any P ops Q n w0 F E cs css z (fuel + 1) listed := av i v hi hv h rfl rfl ht hk hQ
theorem aG (i : Nat) (v : Value) (hi : ops[i]? = some ⟨some d, op, t, pos, aft, some (j, g)⟩) (h : Any P ops Q n w0 F ((d, v) :: E) cs css z fuel (listed.setIfInBounds i true)) (hy : gH ops E j = some g := by rfl) (ht : jZ ops listed i = true := by kernel_rfl) (hk : bK n E ⟨some d, op, t, pos, aft, some (j, g)⟩ = true := by kernel_rfl) (hQ : ∀ c a w, Q (.panic c) (a.put (some d) v) w → Q (.panic c) a w := by exact fun _ _ _ h => h) (hr : ∀ w, (execOp (evE E) ⟨some d, op, t, pos, aft, some (j, g)⟩).run P w = .ok (.value v) w := by intro _; kernel_rfl) : Any P ops Q n w0 F E cs css z (fuel + 1) listed := agc i v h hi rfl rfl hy ht hk hQ hr
theorem aW (i : Nat) (v : Value) (hi : ops[i]? = some ⟨some d, op, t, pos, aft, some (j, g)⟩) (hv : cJ P w0 F css E ⟨some d, op, t, pos, aft, some (j, g)⟩ v) (h : Any P ops Q n w0 F ((d, v) :: E) cs css z fuel (listed.setIfInBounds i true)) (hy : gH ops E j = some g := by rfl) (ht : oA ops listed z i = true := by kernel_rfl) (hk : bK n E ⟨some d, op, t, pos, aft, some (j, g)⟩ = true := by kernel_rfl) (hQ : ∀ c a w, Q (.panic c) (a.put (some d) v) w → Q (.panic c) a w := by exact fun _ _ _ h => h) : Any P ops Q n w0 F E cs css z (fuel + 1) listed := Gs i v hi hv h rfl rfl hy ht hk hQ
theorem aA (i : Nat) (hi : ops[i]? = some oi) (h : cM P Q n w0 F E cs oi (nG P ops Q w0 F css z fuel listed i)) (hr : Region.ready .any ops listed = [i] := by kernel_rfl) (hg : oi.guard = none := by rfl) : Any P ops Q n w0 F E cs css z (fuel + 1) listed := a1 i h hr hi hg
theorem eH {fn : Func} {k : Code} {w : World} {R : Ending → World → Prop} {a0 : Value} (hf : P.funcs[f]? = some fn) (m : Nat) (hcs : Mm w F cs w) (hb : fn.body = some k) (h : St m w F [(0, a0)] cs (k.wp P (bodyPost P fn R))) (hm : ([a0] : List Value).length + (fn.ntmps - ([a0] : List Value).length) = m := by rfl) : Calls P f #[a0] w R := sE1 hf m hcs h hb hm
theorem bG {fn : Func} {k : Code} {w : World} {R : Ending → World → Prop} {a0 a1 : Value} (hf : P.funcs[f]? = some fn) (m : Nat) (hcs : Mm w F cs w) (hb : fn.body = some k) (h : St m w F [(0, a0), (1, a1)] cs (k.wp P (bodyPost P fn R))) (hm : ([a0, a1] : List Value).length + (fn.ntmps - ([a0, a1] : List Value).length) = m := by rfl) : Calls P f #[a0, a1] w R := sE2 hf m hcs h hb hm
theorem kQ {fn : Func} {k : Code} {w : World} {R : Ending → World → Prop} {a0 a1 a2 : Value} (hf : P.funcs[f]? = some fn) (m : Nat) (hcs : Mm w F cs w) (hb : fn.body = some k) (h : St m w F [(0, a0), (1, a1), (2, a2)] cs (k.wp P (bodyPost P fn R))) (hm : ([a0, a1, a2] : List Value).length + (fn.ntmps - ([a0, a1, a2] : List Value).length) = m := by rfl) : Calls P f #[a0, a1, a2] w R := sE3 hf m hcs h hb hm
theorem Cw {fn : Func} {k : Code} {w : World} {R : Ending → World → Prop} {a0 a1 a2 a3 : Value} (hf : P.funcs[f]? = some fn) (m : Nat) (hcs : Mm w F cs w) (hb : fn.body = some k) (h : St m w F [(0, a0), (1, a1), (2, a2), (3, a3)] cs (k.wp P (bodyPost P fn R))) (hm : ([a0, a1, a2, a3] : List Value).length + (fn.ntmps - ([a0, a1, a2, a3] : List Value).length) = m := by rfl) : Calls P f #[a0, a1, a2, a3] w R := sE4 hf m hcs h hb hm
theorem Na (h : St n w0 F E cs (K)) : St n w0 F E cs (wpList P ops (Exit.then (K) (Q)) []) := h
theorem Nb (h : St n w0 F E cs (wpList P l.toArray (Exit.then (b.wp P Q') (Q')) l)) : St n w0 F E cs (wpList P ops (Exit.then ((Code.seq (Code.region id l.toArray false) b).wp P Q') (Q)) []) := aS (aJ (aQ (aE h)))
theorem Nc (h : St n w0 F E cs (wpList P l.toArray (Exit.then (b.wp P Q) (Q)) l)) : St n w0 F E cs ((Code.seq (Code.region id l.toArray false) b).wp P Q) := aQ (aE h)
theorem Nd (h : St n w0 F E cs (Q' .ret)) : St n w0 F E cs (wpList P ops (Exit.then (Code.ret.wp P Q') (Q)) []) := aS (aJ (gQ h))
theorem Ne (h : St n w0 F E cs (wpList P l.toArray (Exit.then (a.wp P (Exit.then (b.wp P Q') (Q'))) (Exit.then (b.wp P Q') (Q'))) l)) : St n w0 F E cs (wpList P ops (Exit.then ((Code.seq (Code.seq (Code.region id l.toArray false) a) b).wp P Q') (Q)) []) := aS (aJ (aQ (aQ (aE h))))
theorem Nf (h : St n w0 F E cs (a.wp P (Exit.then (b.wp P Q') (Q')))) : St n w0 F E cs (wpList P ops (Exit.then ((Code.seq a b).wp P Q') (Q)) []) := aS (aJ (aQ h))
theorem Ng (h : St n w0 F E cs (c.wp P (Exit.inBlock id Q'))) : St n w0 F E cs (wpList P ops (Exit.then ((Code.block id c).wp P Q') (Q)) []) := aS (aJ (eS h))
theorem Nh (h : St n w0 F E cs (Q' .ret)) : St n w0 F E cs (wpList P ops (Exit.then (Code.ret.wp P (Exit.then (K) (Q'))) (Q)) []) := aS (aJ (gQ (eA h)))
theorem Ni (h : St n w0 F E cs (wpList P l.toArray (Exit.then (b.wp P Q') (Q')) l)) : St n w0 F E cs (Code.skip.wp P (Exit.then ((Code.seq (Code.region id l.toArray false) b).wp P Q') (Q))) := jF (aJ (aQ (aE h)))
theorem Nj (h : St n w0 F E cs (a.wp P (Exit.then (b.wp P Q') (Q')))) : St n w0 F E cs ((Code.exit id).wp P (Exit.then (K) (Exit.then (K') (Exit.inBlock id (Exit.then ((Code.seq a b).wp P Q') (Q)))))) := rU (iI (iI (lN (aJ (aQ h)))))
theorem Nk (h : St n w0 F E cs (K)) : St n w0 F E cs (wpList P ops (Exit.inBlock id (Exit.then (K) (Q))) []) := h
theorem Nl (h : St n w0 F E cs (a.wp P (Exit.then (b.wp P Q') (Q')))) : St n w0 F E cs (Code.skip.wp P (Exit.then ((Code.seq a b).wp P Q') (Q))) := jF (aJ (aQ h))
theorem Nm (h : St n w0 F E cs (a.wp P (Exit.then (c.wp P (Exit.inBlock id (Exit.then (b.wp P Q') (Q')))) (Exit.inBlock id (Exit.then (b.wp P Q') (Q')))))) : St n w0 F E cs (Code.skip.wp P (Exit.then ((Code.seq (Code.block id (Code.seq a c)) b).wp P Q') (Q))) := jF (aJ (aQ (eS (aQ h))))
theorem Nn (h : St n w0 F E cs (a.wp P (Exit.then (b.wp P Q') (Q')))) (hu : aN E u = some (.bool false) := by rfl) : St n w0 F E cs (wpList P ops (Exit.then ((Code.cond u c Code.skip).wp P (Exit.then ((Code.seq a b).wp P Q') (Q2))) (Q)) []) := aS (aJ (qL hu (jF (aJ (aQ h)))))
theorem No (h : St n w0 F E cs (wpList P l.toArray (Exit.then (a.wp P Q') (Q')) l)) (hu : aN E u = some (.bool true) := by rfl) : St n w0 F E cs (wpList P ops (Exit.then ((Code.cond u (Code.seq (Code.region id l.toArray false) a) b).wp P Q') (Q)) []) := aS (aJ (pJ hu (aQ (aE h))))
theorem Np (h : St n w0 F E cs (a.wp P (Exit.then (b.wp P Q') (Q')))) (hu : aN E u = some (.bool false) := by rfl) : St n w0 F E cs (wpList P ops (Exit.then ((Code.cond u c (Code.seq a b)).wp P Q') (Q)) []) := aS (aJ (qL hu (aQ h)))
theorem Nq (h : St n w0 F E cs (Q' .ret)) : St n w0 F E cs (wpList P ops (Exit.then (Code.ret.wp P (Exit.then (K) (Exit.inBlock id (Exit.then (K') (Exit.then (K2) (Exit.inBlock id' Q')))))) (Q)) []) := aS (aJ (gQ (eA (gB (eA (eA (gB h)))))))
theorem Nr (h : St n w0 F E cs (Q (.exit id))) : St n w0 F E cs ((Code.exit id).wp P (Exit.then (K) (Exit.then (K') (Q)))) := rU (iI (iI h))
theorem Ns (h : St n w0 F E cs (Q .normal)) : St n w0 F E cs (wpList P ops (Exit.inBlock id Q) []) := h
theorem Nt (h : St n w0 F E cs (a.wp P Q')) (hu : aN E u = some (.bool true) := by rfl) : St n w0 F E cs (wpList P ops (Exit.then ((Code.cond u a b).wp P Q') (Q)) []) := aS (aJ (pJ hu h))
theorem Nu (h : St n w0 F E cs (b.wp P Q')) (hu : aN E u = some (.bool false) := by rfl) : St n w0 F E cs (wpList P ops (Exit.then ((Code.cond u a b).wp P Q') (Q)) []) := aS (aJ (qL hu h))
theorem Nv (h : St n w0 F E cs (wpList P l.toArray (Q') l)) : St n w0 F E cs (wpList P ops (Exit.then ((Code.region id l.toArray false).wp P Q') (Q)) []) := aS (aJ (aE h))
theorem Nw (h : St n w0 F E cs (K)) : St n w0 F E cs (Code.skip.wp P (Exit.inBlock id (Exit.then (K) (Q)))) := jF (nF (aJ h))
theorem Nx {o : Oper} (h : cM P Q n w0 F E cs o (wpList P ops Q rest)) (hg : o.guard = none := by rfl) : St n w0 F E cs (wpList P ops Q (o :: rest)) := li hg h
theorem Ny (h : St n w0 F E cs (wpList P l.toArray (Exit.then (a.wp P (Exit.then (b.wp P Q) (Q))) (Exit.then (b.wp P Q) (Q))) l)) : St n w0 F E cs ((Code.seq (Code.seq (Code.region id l.toArray false) a) b).wp P Q) := aQ (aQ (aE h))
end
section
variable {P : Program} {Q : Exit → Act → World → Prop} {n : Nat} {w0 : World} {F : List Nat} {E : cH} {cs ms : List Ch} {K : Act → World → Prop} {d : Nat} {t : TypeId} {op : Op} {pos : String} {aft : Array Edge} {gd : Option (Nat × Bool)} {f : FuncId} {args : Array Value} {A1 A2 A3 A4 A5 A6 A7 A8 A9 A10 : Type}
theorem bN {v : Value} {news : List Ch} (h : ∀ w, Mm w0 F cs w → Calls P f args w fun e w' => e = .returned (v) ∧ aK [] w (news) w') (k : St n w0 F ((d, v) :: E) (cs ++ news) K) (hk : bK n E ⟨some d, op, t, pos, aft, gd⟩ = true := by kernel_rfl) (hr : ∀ w, (execOp (evE E) ⟨some d, op, t, pos, aft, gd⟩).run P w = .ok (.enter f args) w := by intro _; kernel_rfl) : cM P Q n w0 F E cs ⟨some d, op, t, pos, aft, gd⟩ K := by
 refine fM (fun w hM => (h w hM).mono ?_) rfl hk hr
 rintro e w' ⟨rfl, hP⟩
 exact ⟨_, _, rfl, hP, k⟩
theorem fP {v : A1 → Value} {news : A1 → List Ch} (h : ∀ w, Mm w0 F cs w → Calls P f args w fun e w' => ∃ x1, e = .returned (v x1) ∧ aK [] w (news x1) w') (k : ∀ x1, St n w0 F ((d, v x1) :: E) (cs ++ news x1) K) (hk : bK n E ⟨some d, op, t, pos, aft, gd⟩ = true := by kernel_rfl) (hr : ∀ w, (execOp (evE E) ⟨some d, op, t, pos, aft, gd⟩).run P w = .ok (.enter f args) w := by intro _; kernel_rfl) : cM P Q n w0 F E cs ⟨some d, op, t, pos, aft, gd⟩ K := by
 refine fM (fun w hM => (h w hM).mono ?_) rfl hk hr
 rintro e w' ⟨x1, rfl, hP⟩
 exact ⟨_, _, rfl, hP, k x1⟩
theorem Cx {v : A1 → Value} {news : A1 → List Ch} {φ1 : A1 → Prop} (h : ∀ w, Mm w0 F cs w → Calls P f args w fun e w' => ∃ x1, e = .returned (v x1) ∧ aK [] w (news x1) w' ∧ φ1 x1) (k : ∀ x1, φ1 x1 → St n w0 F ((d, v x1) :: E) (cs ++ news x1) K) (hk : bK n E ⟨some d, op, t, pos, aft, gd⟩ = true := by kernel_rfl) (hr : ∀ w, (execOp (evE E) ⟨some d, op, t, pos, aft, gd⟩).run P w = .ok (.enter f args) w := by intro _; kernel_rfl) : cM P Q n w0 F E cs ⟨some d, op, t, pos, aft, gd⟩ K := by
 refine fM (fun w hM => (h w hM).mono ?_) rfl hk hr
 rintro e w' ⟨x1, rfl, hP, f1⟩
 exact ⟨_, _, rfl, hP, k x1 f1⟩
theorem cF {v : A1 → A2 → Value} {news : A1 → A2 → List Ch} (h : ∀ w, Mm w0 F cs w → Calls P f args w fun e w' => ∃ x1, ∃ x2, e = .returned (v x1 x2) ∧ aK [] w (news x1 x2) w') (k : ∀ x1 x2, St n w0 F ((d, v x1 x2) :: E) (cs ++ news x1 x2) K) (hk : bK n E ⟨some d, op, t, pos, aft, gd⟩ = true := by kernel_rfl) (hr : ∀ w, (execOp (evE E) ⟨some d, op, t, pos, aft, gd⟩).run P w = .ok (.enter f args) w := by intro _; kernel_rfl) : cM P Q n w0 F E cs ⟨some d, op, t, pos, aft, gd⟩ K := by
 refine fM (fun w hM => (h w hM).mono ?_) rfl hk hr
 rintro e w' ⟨x1, x2, rfl, hP⟩
 exact ⟨_, _, rfl, hP, k x1 x2⟩
theorem Cy {v : A1 → A2 → Value} {news : A1 → A2 → List Ch} {φ1 : A1 → A2 → Prop} (h : ∀ w, Mm w0 F cs w → Calls P f args w fun e w' => ∃ x1, ∃ x2, e = .returned (v x1 x2) ∧ aK [] w (news x1 x2) w' ∧ φ1 x1 x2) (k : ∀ x1 x2, φ1 x1 x2 → St n w0 F ((d, v x1 x2) :: E) (cs ++ news x1 x2) K) (hk : bK n E ⟨some d, op, t, pos, aft, gd⟩ = true := by kernel_rfl) (hr : ∀ w, (execOp (evE E) ⟨some d, op, t, pos, aft, gd⟩).run P w = .ok (.enter f args) w := by intro _; kernel_rfl) : cM P Q n w0 F E cs ⟨some d, op, t, pos, aft, gd⟩ K := by
 refine fM (fun w hM => (h w hM).mono ?_) rfl hk hr
 rintro e w' ⟨x1, x2, rfl, hP, f1⟩
 exact ⟨_, _, rfl, hP, k x1 x2 f1⟩
theorem Gv {v : A1 → A2 → A3 → Value} {news : A1 → A2 → A3 → List Ch} {φ1 : A1 → A2 → A3 → Prop} {φ2 : A1 → A2 → A3 → Prop} (h : ∀ w, Mm w0 F cs w → Calls P f args w fun e w' => ∃ x1, ∃ x2, ∃ x3, e = .returned (v x1 x2 x3) ∧ aK [] w (news x1 x2 x3) w' ∧ φ1 x1 x2 x3 ∧ φ2 x1 x2 x3) (k : ∀ x1 x2 x3, φ1 x1 x2 x3 → φ2 x1 x2 x3 → St n w0 F ((d, v x1 x2 x3) :: E) (cs ++ news x1 x2 x3) K) (hk : bK n E ⟨some d, op, t, pos, aft, gd⟩ = true := by kernel_rfl) (hr : ∀ w, (execOp (evE E) ⟨some d, op, t, pos, aft, gd⟩).run P w = .ok (.enter f args) w := by intro _; kernel_rfl) : cM P Q n w0 F E cs ⟨some d, op, t, pos, aft, gd⟩ K := by
 refine fM (fun w hM => (h w hM).mono ?_) rfl hk hr
 rintro e w' ⟨x1, x2, x3, rfl, hP, f1, f2⟩
 exact ⟨_, _, rfl, hP, k x1 x2 x3 f1 f2⟩
theorem wT {v : A1 → A2 → A3 → A4 → Value} {news : A1 → A2 → A3 → A4 → List Ch} (h : ∀ w, Mm w0 F cs w → Calls P f args w fun e w' => ∃ x1, ∃ x2, ∃ x3, ∃ x4, e = .returned (v x1 x2 x3 x4) ∧ aK [] w (news x1 x2 x3 x4) w') (k : ∀ x1 x2 x3 x4, St n w0 F ((d, v x1 x2 x3 x4) :: E) (cs ++ news x1 x2 x3 x4) K) (hk : bK n E ⟨some d, op, t, pos, aft, gd⟩ = true := by kernel_rfl) (hr : ∀ w, (execOp (evE E) ⟨some d, op, t, pos, aft, gd⟩).run P w = .ok (.enter f args) w := by intro _; kernel_rfl) : cM P Q n w0 F E cs ⟨some d, op, t, pos, aft, gd⟩ K := by
 refine fM (fun w hM => (h w hM).mono ?_) rfl hk hr
 rintro e w' ⟨x1, x2, x3, x4, rfl, hP⟩
 exact ⟨_, _, rfl, hP, k x1 x2 x3 x4⟩
theorem zW {v : A1 → A2 → A3 → A4 → A5 → Value} {news : A1 → A2 → A3 → A4 → A5 → List Ch} (h : ∀ w, Mm w0 F cs w → Calls P f args w fun e w' => ∃ x1, ∃ x2, ∃ x3, ∃ x4, ∃ x5, e = .returned (v x1 x2 x3 x4 x5) ∧ aK [] w (news x1 x2 x3 x4 x5) w') (k : ∀ x1 x2 x3 x4 x5, St n w0 F ((d, v x1 x2 x3 x4 x5) :: E) (cs ++ news x1 x2 x3 x4 x5) K) (hk : bK n E ⟨some d, op, t, pos, aft, gd⟩ = true := by kernel_rfl) (hr : ∀ w, (execOp (evE E) ⟨some d, op, t, pos, aft, gd⟩).run P w = .ok (.enter f args) w := by intro _; kernel_rfl) : cM P Q n w0 F E cs ⟨some d, op, t, pos, aft, gd⟩ K := by
 refine fM (fun w hM => (h w hM).mono ?_) rfl hk hr
 rintro e w' ⟨x1, x2, x3, x4, x5, rfl, hP⟩
 exact ⟨_, _, rfl, hP, k x1 x2 x3 x4 x5⟩
theorem Cz {v : A1 → A2 → A3 → A4 → A5 → A6 → A7 → A8 → A9 → A10 → Value} {news : A1 → A2 → A3 → A4 → A5 → A6 → A7 → A8 → A9 → A10 → List Ch} (h : ∀ w, Mm w0 F cs w → Calls P f args w fun e w' => ∃ x1, ∃ x2, ∃ x3, ∃ x4, ∃ x5, ∃ x6, ∃ x7, ∃ x8, ∃ x9, ∃ x10, e = .returned (v x1 x2 x3 x4 x5 x6 x7 x8 x9 x10) ∧ aK [] w (news x1 x2 x3 x4 x5 x6 x7 x8 x9 x10) w') (k : ∀ x1 x2 x3 x4 x5 x6 x7 x8 x9 x10, St n w0 F ((d, v x1 x2 x3 x4 x5 x6 x7 x8 x9 x10) :: E) (cs ++ news x1 x2 x3 x4 x5 x6 x7 x8 x9 x10) K) (hk : bK n E ⟨some d, op, t, pos, aft, gd⟩ = true := by kernel_rfl) (hr : ∀ w, (execOp (evE E) ⟨some d, op, t, pos, aft, gd⟩).run P w = .ok (.enter f args) w := by intro _; kernel_rfl) : cM P Q n w0 F E cs ⟨some d, op, t, pos, aft, gd⟩ K := by
 refine fM (fun w hM => (h w hM).mono ?_) rfl hk hr
 rintro e w' ⟨x1, x2, x3, x4, x5, x6, x7, x8, x9, x10, rfl, hP⟩
 exact ⟨_, _, rfl, hP, k x1 x2 x3 x4 x5 x6 x7 x8 x9 x10⟩
theorem bZ {v : Value} {news : List Ch} {m1 : Ch} (is : List Nat) (h : ∀ w, Mm w0 F cs w → bO ms w → Calls P f args w fun e w' => e = .returned (v) ∧ aK ms w (m1 :: news) w') (k : St n w0 F ((d, v) :: E) (bC cs is [m1] ++ news) K) (hs : fA cs is = ms := by rfl) (hi : oH cs.length is = true := by rfl) (hl : is.length = 1 := by rfl) (hk : bK n E ⟨some d, op, t, pos, aft, gd⟩ = true := by kernel_rfl) (hr : ∀ w, (execOp (evE E) ⟨some d, op, t, pos, aft, gd⟩).run P w = .ok (.enter f args) w := by intro _; kernel_rfl) : cM P Q n w0 F E cs ⟨some d, op, t, pos, aft, gd⟩ K := by
 refine fB is ms (fun w hM hO => (h w hM hO).mono ?_) rfl hs hi hk hr
 rintro e w' ⟨rfl, hP⟩
 exact ⟨_, [m1], _, rfl, hP, hl.symm, k⟩
theorem kC {v : A1 → A2 → Value} {news : A1 → A2 → List Ch} {m1 : A1 → A2 → Ch} (is : List Nat) (h : ∀ w, Mm w0 F cs w → bO ms w → Calls P f args w fun e w' => ∃ x1, ∃ x2, e = .returned (v x1 x2) ∧ aK ms w (m1 x1 x2 :: news x1 x2) w') (k : ∀ x1 x2, St n w0 F ((d, v x1 x2) :: E) (bC cs is [m1 x1 x2] ++ news x1 x2) K) (hs : fA cs is = ms := by rfl) (hi : oH cs.length is = true := by rfl) (hl : is.length = 1 := by rfl) (hk : bK n E ⟨some d, op, t, pos, aft, gd⟩ = true := by kernel_rfl) (hr : ∀ w, (execOp (evE E) ⟨some d, op, t, pos, aft, gd⟩).run P w = .ok (.enter f args) w := by intro _; kernel_rfl) : cM P Q n w0 F E cs ⟨some d, op, t, pos, aft, gd⟩ K := by
 refine fB is ms (fun w hM hO => (h w hM hO).mono ?_) rfl hs hi hk hr
 rintro e w' ⟨x1, x2, rfl, hP⟩
 exact ⟨_, [m1 x1 x2], _, rfl, hP, hl.symm, k x1 x2⟩
theorem uJ {v : A1 → A2 → Value} {news : A1 → A2 → List Ch} {m1 : A1 → A2 → Ch} {φ1 : A1 → A2 → Prop} (is : List Nat) (h : ∀ w, Mm w0 F cs w → bO ms w → Calls P f args w fun e w' => ∃ x1, ∃ x2, e = .returned (v x1 x2) ∧ aK ms w (m1 x1 x2 :: news x1 x2) w' ∧ φ1 x1 x2) (k : ∀ x1 x2, φ1 x1 x2 → St n w0 F ((d, v x1 x2) :: E) (bC cs is [m1 x1 x2] ++ news x1 x2) K) (hs : fA cs is = ms := by rfl) (hi : oH cs.length is = true := by rfl) (hl : is.length = 1 := by rfl) (hk : bK n E ⟨some d, op, t, pos, aft, gd⟩ = true := by kernel_rfl) (hr : ∀ w, (execOp (evE E) ⟨some d, op, t, pos, aft, gd⟩).run P w = .ok (.enter f args) w := by intro _; kernel_rfl) : cM P Q n w0 F E cs ⟨some d, op, t, pos, aft, gd⟩ K := by
 refine fB is ms (fun w hM hO => (h w hM hO).mono ?_) rfl hs hi hk hr
 rintro e w' ⟨x1, x2, rfl, hP, f1⟩
 exact ⟨_, [m1 x1 x2], _, rfl, hP, hl.symm, k x1 x2 f1⟩
theorem CA {v : A1 → A2 → A3 → A4 → Value} {news : A1 → A2 → A3 → A4 → List Ch} {m1 : A1 → A2 → A3 → A4 → Ch} {φ1 : A1 → A2 → A3 → A4 → Prop} (is : List Nat) (h : ∀ w, Mm w0 F cs w → bO ms w → Calls P f args w fun e w' => ∃ x1, ∃ x2, ∃ x3, ∃ x4, e = .returned (v x1 x2 x3 x4) ∧ aK ms w (m1 x1 x2 x3 x4 :: news x1 x2 x3 x4) w' ∧ φ1 x1 x2 x3 x4) (k : ∀ x1 x2 x3 x4, φ1 x1 x2 x3 x4 → St n w0 F ((d, v x1 x2 x3 x4) :: E) (bC cs is [m1 x1 x2 x3 x4] ++ news x1 x2 x3 x4) K) (hs : fA cs is = ms := by rfl) (hi : oH cs.length is = true := by rfl) (hl : is.length = 1 := by rfl) (hk : bK n E ⟨some d, op, t, pos, aft, gd⟩ = true := by kernel_rfl) (hr : ∀ w, (execOp (evE E) ⟨some d, op, t, pos, aft, gd⟩).run P w = .ok (.enter f args) w := by intro _; kernel_rfl) : cM P Q n w0 F E cs ⟨some d, op, t, pos, aft, gd⟩ K := by
 refine fB is ms (fun w hM hO => (h w hM hO).mono ?_) rfl hs hi hk hr
 rintro e w' ⟨x1, x2, x3, x4, rfl, hP, f1⟩
 exact ⟨_, [m1 x1 x2 x3 x4], _, rfl, hP, hl.symm, k x1 x2 x3 x4 f1⟩
theorem eV {v : A1 → A2 → Value} {news : A1 → A2 → List Ch} {m1 : A1 → A2 → Ch} {m2 : A1 → A2 → Ch} (is : List Nat) (h : ∀ w, Mm w0 F cs w → bO ms w → Calls P f args w fun e w' => ∃ x1, ∃ x2, e = .returned (v x1 x2) ∧ aK ms w (m1 x1 x2 :: m2 x1 x2 :: news x1 x2) w') (k : ∀ x1 x2, St n w0 F ((d, v x1 x2) :: E) (bC cs is [m1 x1 x2, m2 x1 x2] ++ news x1 x2) K) (hs : fA cs is = ms := by rfl) (hi : oH cs.length is = true := by rfl) (hl : is.length = 2 := by rfl) (hk : bK n E ⟨some d, op, t, pos, aft, gd⟩ = true := by kernel_rfl) (hr : ∀ w, (execOp (evE E) ⟨some d, op, t, pos, aft, gd⟩).run P w = .ok (.enter f args) w := by intro _; kernel_rfl) : cM P Q n w0 F E cs ⟨some d, op, t, pos, aft, gd⟩ K := by
 refine fB is ms (fun w hM hO => (h w hM hO).mono ?_) rfl hs hi hk hr
 rintro e w' ⟨x1, x2, rfl, hP⟩
 exact ⟨_, [m1 x1 x2, m2 x1 x2], _, rfl, hP, hl.symm, k x1 x2⟩
theorem qQ {v : A1 → A2 → Value} {news : A1 → A2 → List Ch} {m1 : A1 → A2 → Ch} {m2 : A1 → A2 → Ch} {m3 : A1 → A2 → Ch} (is : List Nat) (h : ∀ w, Mm w0 F cs w → bO ms w → Calls P f args w fun e w' => ∃ x1, ∃ x2, e = .returned (v x1 x2) ∧ aK ms w (m1 x1 x2 :: m2 x1 x2 :: m3 x1 x2 :: news x1 x2) w') (k : ∀ x1 x2, St n w0 F ((d, v x1 x2) :: E) (bC cs is [m1 x1 x2, m2 x1 x2, m3 x1 x2] ++ news x1 x2) K) (hs : fA cs is = ms := by rfl) (hi : oH cs.length is = true := by rfl) (hl : is.length = 3 := by rfl) (hk : bK n E ⟨some d, op, t, pos, aft, gd⟩ = true := by kernel_rfl) (hr : ∀ w, (execOp (evE E) ⟨some d, op, t, pos, aft, gd⟩).run P w = .ok (.enter f args) w := by intro _; kernel_rfl) : cM P Q n w0 F E cs ⟨some d, op, t, pos, aft, gd⟩ K := by
 refine fB is ms (fun w hM hO => (h w hM hO).mono ?_) rfl hs hi hk hr
 rintro e w' ⟨x1, x2, rfl, hP⟩
 exact ⟨_, [m1 x1 x2, m2 x1 x2, m3 x1 x2], _, rfl, hP, hl.symm, k x1 x2⟩
end
end
theorem Ob (n:Nat) (h1:1≤n) (h2:n≤31):bits BinOp.and IntKind.u64 (IntKind.u64.wrap (-(n:Int))) 31=((32 - n:Nat):Int):=by
 have e:IntKind.u64.wrap (-(n:Int))=((18446744073709551616 - n:Nat):Int):=by
  rw [IntKind.wrap_u64]
  omega
 have h:=u64_and_nat (18446744073709551616 - n) 31 om om
 rw [nat_mask5] at h
 rw [e]
 refine h.trans ?_
 congr 1
 omega
theorem Oc (x k:Nat):(x:Int)*2 ^ k % 4294967296=((x*2 ^ k % 4294967296:Nat):Int):=by
 have:((x*2 ^ k:Nat):Int)=(x:Int)*2 ^ k:=by rw [Int.natCast_mul,Int.natCast_pow]; rfl
 rw [← this]
 generalize x*2 ^ k=y
 omega
theorem Gw (x k:Nat):(x:Int) / 2 ^ k=((x / 2 ^ k:Nat):Int):=by
 rw [Int.natCast_ediv,Int.natCast_pow]
 rfl
theorem Od (x n:Nat) (hx:bU x) (h2:n≤31):bits BinOp.or IntKind.u32 ((x:Int)*2 ^ (32 - n) % 4294967296) ((x:Int) / 2 ^ (32 - (32 - n)))=((rotr n x:Nat):Int):=by
 rw [show 32 - (32 - n)=n by omega,Oc,Gw,u32_or_nat _ _ (Nat.mod_lt _ (by decide)) (hx.div _),Nat.or_comm]
 rfl
theorem Oe (x n:Nat) (w:World) (hx:bU x) (h1:1≤n) (h2:n≤31) :
  Calls Tryz.prog 142 #[.int .u32 (x:Int),vi (-(n:Int))] w fun e w'=>e = .returned (.int .u32 (rotr n x:Int))∧w=w':=by
 have hc:=Ob n h1 h2
 have HR:=Lib.hid (Od x n hx h2)
 go_enter Tryz.func142,Tryz.ntmps142
 go_wp2_with fail
 go_ret
 exact ⟨lI HR.out,rfl⟩
theorem oI (x n:Nat) (k:Int) (w:World) (hk:k = -(n:Int)) (hx:bU x) (h1:1≤n) (h2:n≤31) :
  Calls Tryz.prog 142 #[.int .u32 (x:Int),vi k] w fun e w'=>e = .returned (.int .u32 (rotr n x:Int))∧w=w':=by
 rw [hk]
 exact Oe x n w hx h1 h2
def U4 (l : List Nat) : List Value := l.map fun x : Nat => Value.int .u32 (x : Int)
theorem zX (l:List Nat) (i x:Nat) (h:l[i]?=some x):(U4 l)[i]?=some (.int .u32 (x:Int)):=by simp [U4,h]
theorem iU (l:List Nat):(U4 l).length=l.length:=by simp [U4]
structure bW (w : World) : Prop where
 init : ∀ i x : Nat, mQ[i]? = some x → w.cell? ⟨0, i, none⟩ = some (.int .u32 (x : Int))
 cons : ∀ i x : Nat, kO[i]? = some x → w.cell? ⟨1, i, none⟩ = some (.int .u32 (x : Int))
theorem bW.lt {w:World} (h:bW w):1 < w.heap.size:=World.block_lt_of_cell? w ⟨1,0,none⟩ (h.cons 0 _ rfl)
theorem bW.fr {w w':World} {S:List Nat} (h:bW w) (hf:Fr S w w') (h0:0∉S) (h1:1∉S):bW w':=by
 have hl:=h.lt
 exact ⟨fun i x hx=>by rw [hf.cell (p:=⟨0,i,none⟩) (by show 0 < _; omega) h0]; exact h.init i x hx,fun i x hx=>by rw [hf.cell (p:=⟨1,i,none⟩) hl h1]; exact h.cons i x hx⟩
theorem zY (v:UInt8):IntKind.u32.wrap (v.toNat:Int)=(v.toNat:Int):=by
 rw [IntKind.wrap_u32']
 have:=UInt8.toNat_lt v
 omega
theorem Of (v0 v1 v2 v3:UInt8) :
  bits BinOp.or IntKind.u32 (bits BinOp.or IntKind.u32 (bits BinOp.or IntKind.u32 (IntKind.u32.wrap (IntKind.u32.wrap (v0.toNat:Int)*16777216)) (IntKind.u32.wrap (IntKind.u32.wrap (v1.toNat:Int)*65536))) (IntKind.u32.wrap (IntKind.u32.wrap (v2.toNat:Int)*256))) (IntKind.u32.wrap (v3.toNat:Int)) =
   (((v0.toNat*2 ^ 24) ||| (v1.toNat*2 ^ 16) ||| (v2.toNat*2 ^ 8) ||| v3.toNat:Nat):Int):=by
 have b0:=UInt8.toNat_lt v0
 have b1:=UInt8.toNat_lt v1
 have b2:=UInt8.toNat_lt v2
 have b3:=UInt8.toNat_lt v3
 have e0:IntKind.u32.wrap ((v0.toNat:Int)*16777216)=((v0.toNat*2 ^ 24:Nat):Int):=by rw [IntKind.wrap_u32']; omega
 have e1:IntKind.u32.wrap ((v1.toNat:Int)*65536)=((v1.toNat*2 ^ 16:Nat):Int):=by rw [IntKind.wrap_u32']; omega
 have e2:IntKind.u32.wrap ((v2.toNat:Int)*256)=((v2.toNat*2 ^ 8:Nat):Int):=by rw [IntKind.wrap_u32']; omega
 have w0:=tW v0 24 om
 have w1:=tW v1 16 om
 have w2:=tW v2 8 om
 rw [zY,zY,zY,zY,e0,e1,e2,u32_or_nat _ _ w0 w1,u32_or_nat _ _ (w0.or w1) w2,u32_or_nat _ _ ((w0.or w1).or w2) om]
theorem Og (x:Nat) (h:bU x):bits BinOp.xor IntKind.u32 (bits BinOp.xor IntKind.u32 (rotr 17 x:Int) (rotr 19 x:Int)) ((x:Int) / 1024)=((sig1 x:Nat):Int):=by
 have e:(x:Int) / 1024=((x / 2 ^ 10:Nat):Int):=om
 rw [e,u32_xor_nat _ _ (h.rotr 17) (h.rotr 19),u32_xor_nat _ _ ((h.rotr 17).xor (h.rotr 19)) (h.div _)]
 rfl
theorem Oh (x:Nat) (h:bU x):bits BinOp.xor IntKind.u32 (bits BinOp.xor IntKind.u32 (rotr 7 x:Int) (rotr 18 x:Int)) ((x:Int) / 8)=((sig0 x:Nat):Int):=by
 have e:(x:Int) / 8=((x / 2 ^ 3:Nat):Int):=om
 rw [e,u32_xor_nat _ _ (h.rotr 7) (h.rotr 18),u32_xor_nat _ _ ((h.rotr 7).xor (h.rotr 18)) (h.div _)]
 rfl
theorem Oi (x:Nat) (h:bU x):bits BinOp.xor IntKind.u32 (bits BinOp.xor IntKind.u32 (rotr 6 x:Int) (rotr 11 x:Int)) (rotr 25 x:Int)=((bsig1 x:Nat):Int):=by
 rw [u32_xor_nat _ _ (h.rotr 6) (h.rotr 11),u32_xor_nat _ _ ((h.rotr 6).xor (h.rotr 11)) (h.rotr 25)]
 rfl
theorem Oj (x:Nat) (h:bU x):bits BinOp.xor IntKind.u32 (bits BinOp.xor IntKind.u32 (rotr 2 x:Int) (rotr 13 x:Int)) (rotr 22 x:Int)=((bsig0 x:Nat):Int):=by
 rw [u32_xor_nat _ _ (h.rotr 2) (h.rotr 13),u32_xor_nat _ _ ((h.rotr 2).xor (h.rotr 13)) (h.rotr 22)]
 rfl
theorem Ol (e:Nat) (h:bU e):4294967295 ^^^ e=4294967295 - e:=by
 have hh:BitVec.allOnes 32 ^^^ BitVec.ofNat 32 e = ~~~ (BitVec.ofNat 32 e):=BitVec.allOnes_xor
 have:=congrArg BitVec.toNat hh
 rw [BitVec.toNat_xor,BitVec.toNat_not,BitVec.toNat_allOnes,BitVec.toNat_ofNat,Nat.mod_eq_of_lt h] at this
 exact this
theorem Om (e:Nat) (h:bU e):bits BinOp.xor IntKind.u32 (if IntKind.u32.signed=true then -1 else IntKind.u32.max) (e:Int)=((4294967295 - e:Nat):Int):=by
 have:=u32_xor_nat 4294967295 e (by decide) h
 rw [Ol e h] at this
 exact this
theorem On (a b c d e f g h k w : Nat) (ok : S8.Ok ⟨a, b, c, d, e, f, g, h⟩) :
  ∃ s1 ef ne ng ch x1 x2 x3 t1 s0 ab ac bc mx mj t2 na nd : Nat,
    bits BinOp.xor IntKind.u32 (bits BinOp.xor IntKind.u32 (rotr 6 e : Int) (rotr 11 e : Int)) (rotr 25 e : Int) = (s1 : Int) ∧
    bits BinOp.xor IntKind.u32 (bits BinOp.xor IntKind.u32 (rotr 2 a : Int) (rotr 13 a : Int)) (rotr 22 a : Int) = (s0 : Int) ∧
    bits BinOp.and IntKind.u32 (e : Int) (f : Int) = (ef : Int) ∧
    bits BinOp.xor IntKind.u32 (if IntKind.u32.signed = true then -1 else IntKind.u32.max) (e : Int) = (ne : Int) ∧
    bits BinOp.and IntKind.u32 (ne : Int) (g : Int) = (ng : Int) ∧
    bits BinOp.xor IntKind.u32 (ef : Int) (ng : Int) = (ch : Int) ∧
    IntKind.u32.wrap ((h : Int) + (s1 : Int)) = (x1 : Int) ∧
    IntKind.u32.wrap ((x1 : Int) + (ch : Int)) = (x2 : Int) ∧
    IntKind.u32.wrap ((x2 : Int) + (k : Int)) = (x3 : Int) ∧
    IntKind.u32.wrap ((x3 : Int) + (w : Int)) = (t1 : Int) ∧
    bits BinOp.and IntKind.u32 (a : Int) (b : Int) = (ab : Int) ∧
    bits BinOp.and IntKind.u32 (a : Int) (c : Int) = (ac : Int) ∧
    bits BinOp.and IntKind.u32 (b : Int) (c : Int) = (bc : Int) ∧
    bits BinOp.xor IntKind.u32 (ab : Int) (ac : Int) = (mx : Int) ∧
    bits BinOp.xor IntKind.u32 (mx : Int) (bc : Int) = (mj : Int) ∧
    IntKind.u32.wrap ((s0 : Int) + (mj : Int)) = (t2 : Int) ∧
    IntKind.u32.wrap ((t1 : Int) + (t2 : Int)) = (na : Int) ∧
    IntKind.u32.wrap ((d : Int) + (t1 : Int)) = (nd : Int) ∧
    Hid (S8.vY ⟨a, b, c, d, e, f, g, h⟩ k w = ⟨na, a, b, c, nd, e, f, g⟩):=by
 obtain ⟨oa,ob,oc,od,oe,of,og,oh⟩:=ok
 simp only at oa ob oc od oe of og oh
 refine ⟨bsig1 e,_,_,_,_,_,_,_,_,bsig0 a,_,_,_,_,_,_,_,_,Oi e oe,Oj a oa,u32_and_nat _ _ oe of,Om e oe,u32_and_nat _ _ (bU.not e) og,u32_xor_nat _ _ (bU.and of) (bU.and og),
  nB _ _,nB _ _,nB _ _,nB _ _,u32_and_nat _ _ oa ob,u32_and_nat _ _ oa oc,u32_and_nat _ _ ob oc,u32_xor_nat _ _ (bU.and ob) (bU.and oc),u32_xor_nat _ _ ((bU.and ob).xor (bU.and oc)) (bU.and oc),nB _ _,nB _ _,nB _ _,?_⟩
 rfl
def kD (blk : List UInt8) (t : Nat) : List Value := U4 (eR blk t) ++ List.replicate (64 - t) (.int .u32 0)
theorem Gx (blk:List UInt8) (t:Nat) (h:t < 64) (x:Nat) (hx:x=if t < 16 then word blk t else tV (eR blk t) t):(kD blk t).set t (.int .u32 (x:Int))=kD blk (t+1):=by
 unfold kD
 rw [List.set_append_right _ _ (by rw [iU,nA]; exact Nat.le_refl _),iU,nA,Nat.sub_self]
 obtain ⟨m,hm⟩:∃ m,64 - t=m+1:=⟨63 - t,om⟩
 rw [hm,List.replicate_succ,List.set_cons_zero,show 64 - (t+1)=m by omega]
 simp only [eR,U4,List.map_append,List.map_cons,List.map_nil,List.append_assoc,List.cons_append,List.nil_append,← hx]
theorem wU (blk:List UInt8) (t i:Nat) (h:i < t):∃ x,(eR blk t).getD i 0=x∧bU x∧(kD blk t)[i]?=some (.int .u32 (x:Int)):=by
 have hl:i < (eR blk t).length:=by rw [nA]; exact h
 refine ⟨_,rfl,pH (bU.sched blk t) i,?_⟩
 unfold kD
 rw [List.getElem?_append_left (by rw [iU]; exact hl)]
 apply zX
 rw [List.getD_eq_getElem?_getD,List.getElem?_eq_getElem hl]
 rfl
theorem Oo (H X:List Nat) (rest:List Value) (k y x:Nat) (hH:H[k]?=some y) (hX:X[k]?=some x) :
  (U4 ((List.zipWith cU H X).take k++H.drop k)++rest).set k (.int .u32 ((cU y x:Nat):Int))=U4 ((List.zipWith cU H X).take (k+1)++H.drop (k+1))++rest:=by
 obtain ⟨h1,e1⟩:=List.getElem?_eq_some_iff.1 hH
 obtain ⟨h2,e2⟩:=List.getElem?_eq_some_iff.1 hX
 have hl:((List.zipWith cU H X).take k).length=k:=by simp; omega
 have hd:H.drop k=y::H.drop (k+1):=by rw [List.drop_eq_getElem_cons h1,e1]
 have ht:(List.zipWith cU H X).take (k+1)=(List.zipWith cU H X).take k++[cU y x]:=by
  rw [List.take_succ_eq_append_getElem (by simp; omega)]
  simp [e1,e2]
 rw [ht,hd]
 unfold U4
 rw [List.map_append,List.map_append,List.map_append,List.append_assoc,List.append_assoc,List.append_assoc,List.set_append_right _ _ (by rw [List.length_map,hl]; exact Nat.le_refl _),List.length_map,hl,Nat.sub_self]
 rfl
theorem Oq (H X:List Nat) (rest:List Value) (k y x:Nat) (hH:H[k]?=some y) (hX:X[k]?=some x):(U4 ((List.zipWith cU H X).take k++H.drop k)++rest)[k]?=some (.int .u32 (y:Int)):=by
 obtain ⟨h1,e1⟩:=List.getElem?_eq_some_iff.1 hH
 obtain ⟨h2,e2⟩:=List.getElem?_eq_some_iff.1 hX
 have hl:((List.zipWith cU H X).take k).length=k:=by simp; omega
 have hd:H.drop k=y::H.drop (k+1):=by rw [List.drop_eq_getElem_cons h1,e1]
 rw [hd]
 unfold U4
 rw [List.map_append,List.append_assoc,List.getElem?_append_right (by rw [List.length_map,hl]; exact Nat.le_refl _),List.length_map,hl,Nat.sub_self]
 rfl
set_option maxHeartbeats 4000000 in
theorem CB (b g o cap:Nat) (H:List Nat) (rest:List Value) (blk:List UInt8) (w:World) (hv:bW w) (hat:At w b 174 (U4 H++rest)) (hH:H.length=8) (hW:∀ x∈H,bU x)
  (hbl:blk.length=64) (hcap:64≤cap) (hrow:aF w (some ⟨g,o,none⟩) (B8 blk)) :
  Calls Tryz.prog 106 #[Value.pointer (some ⟨b,0,none⟩),.slice (some ⟨g,o,none⟩) 64 cap] w fun e w'=>e = .returned (.tuple #[])∧Fr [b] w w'∧At w' b 174 (U4 (jV H blk)++rest):=by
 have HV:=Lib.hid hv
 have HA:=Lib.hid (And.intro hat (And.intro hH hW))
 have HR:=Lib.hid (And.intro hbl hrow)
 clear hv hat hH hW hbl hrow
 go_enter Tryz.func106,Tryz.ntmps106
 go_wp2_with fail
 change Code.wp _ _ _ _ (w.alloc (.cells (kD blk 0).toArray 207))
 have HW0:Hid (Fr [] w (w.alloc (.cells (kD blk 0).toArray 207))∧At (w.alloc (.cells (kD blk 0).toArray 207)) w.heap.size 207 (kD blk 0)):=⟨(Fr.refl _ _).alloc _,At.new _ _ _⟩
 generalize w.alloc (.cells (kD blk 0).toArray 207)=W0 at HW0 ⊢
 go_loopw [27] (fun i wr=>∃ t:Nat,t≤64∧i = .int .i64 t∧Hid (Fr [] w wr∧At wr w.heap.size 207 (kD blk t))) (fun i _=>64 - (intOf i).toNat)
 case atStart=>exact ⟨0,by omega,rfl,HW0⟩
 case round =>
  obtain ⟨t,ht,rfl,HL⟩:=hrel
  by_cases hlt:t < 64
  ·by_cases h16:t < 16
   ·have hn:cap≠4*t:=om
    have hnI:¬ ((cap:Int)=4*(t:Int)):=om
    obtain ⟨⟨v0,e0,c0,k0⟩,⟨v1,e1,c1,k1⟩,⟨v2,e2,c2,k2⟩,⟨v3,e3,c3,k3⟩⟩:(∃ v:UInt8,blk.getD (4*t) 0=v∧wr.cell? ⟨g,o+4*t,none⟩=some (.int .u8 (v.toNat:Int))∧g < w.heap.size)∧(∃ v:UInt8,blk.getD (4*t+1) 0=v∧wr.cell? ⟨g,o+4*t+1,none⟩=some (.int .u8 (v.toNat:Int))∧g < w.heap.size)∧(∃ v:UInt8,blk.getD (4*t+2) 0=v∧wr.cell? ⟨g,o+4*t+2,none⟩=some (.int .u8 (v.toNat:Int))∧g < w.heap.size)∧(∃ v:UInt8,blk.getD (4*t+3) 0=v∧wr.cell? ⟨g,o+4*t+3,none⟩=some (.int .u8 (v.toNat:Int))∧g < w.heap.size):=by
     have key:∀ i,i < 64→∃ v:UInt8,blk.getD i 0=v∧wr.cell? ⟨g,o+i,none⟩=some (.int .u8 (v.toNat:Int))∧g < w.heap.size:=by
      intro i hi
      have hg:=List.getElem?_eq_getElem (l:=blk) (i:=i) (by rw [HR.out.1]; exact hi)
      obtain ⟨g',o',hA,hg',hc⟩:=HR.out.2 i _ (rS blk i _ hg)
      injection hA with hA
      injection hA with a1 a2
      subst a1 a2
      refine ⟨_,by rw [List.getD_eq_getElem?_getD,hg,Option.getD_some],?_,hg'⟩
      rw [HL.out.1.cell (p:=⟨g,o+i,none⟩) hg' si]
      exact hc
     exact ⟨key (4*t) om,key (4*t+1) om,key (4*t+2) om,key (4*t+3) om⟩
    have n0:g≠w.heap.size:=om
    have n1:w.heap.size≠g:=om
    have wc:wr.cell? ⟨w.heap.size,t,none⟩=some (.int .u32 0):=by
     rw [HL.out.2.cell]
     unfold kD
     rw [List.getElem?_append_right (by rw [iU,nA]; exact Nat.le_refl _),iU,nA,Nat.sub_self,List.getElem?_replicate,if_pos om]
    have wf:=HL.out.2.frozen t
    have HE:=Lib.hid (And.intro e0 (And.intro e1 (And.intro e2 e3)))
    have b0:=UInt8.toNat_lt v0
    have b1:=UInt8.toNat_lt v1
    have b2:=UInt8.toNat_lt v2
    have b3:=UInt8.toNat_lt v3
    clear e0 e1 e2 e3 k0 k1 k2 k3
    go_wp2_with fail
    rw [show 4*t+4 - 4*t=4 by omega]
    go_region_held3 (fun w'=>w'.cell? ⟨g,o+4*t,none⟩=some (.int .u8 (v0.toNat:Int))∧w'.cell? ⟨g,o+4*t+1,none⟩=some (.int .u8 (v1.toNat:Int))∧w'.cell? ⟨g,o+4*t+2,none⟩=some (.int .u8 (v2.toNat:Int))∧w'.cell? ⟨g,o+4*t+3,none⟩=some (.int .u8 (v3.toNat:Int))) (go_keep) (first | fail)
    have HN:Hid (Fr [] w (wr.setCell ⟨w.heap.size,t,none⟩ (.int .u32 (bits BinOp.or IntKind.u32 (bits BinOp.or IntKind.u32 (bits BinOp.or IntKind.u32 (IntKind.u32.wrap (IntKind.u32.wrap (v0.toNat:Int)*16777216)) (IntKind.u32.wrap (IntKind.u32.wrap (v1.toNat:Int)*65536))) (IntKind.u32.wrap (IntKind.u32.wrap (v2.toNat:Int)*256))) (IntKind.u32.wrap (v3.toNat:Int))))).drew∧At (wr.setCell ⟨w.heap.size,t,none⟩ (.int .u32 (bits BinOp.or IntKind.u32 (bits BinOp.or IntKind.u32 (bits BinOp.or IntKind.u32 (IntKind.u32.wrap (IntKind.u32.wrap (v0.toNat:Int)*16777216)) (IntKind.u32.wrap (IntKind.u32.wrap (v1.toNat:Int)*65536))) (IntKind.u32.wrap (IntKind.u32.wrap (v2.toNat:Int)*256))) (IntKind.u32.wrap (v3.toNat:Int))))).drew w.heap.size 207 (kD blk (t+1))):=by
     refine ⟨(HL.out.1.setCell (.inr (Nat.le_refl _)) _).drew,?_⟩
     have:=(HL.out.2.set t (.int .u32 (bits BinOp.or IntKind.u32 (bits BinOp.or IntKind.u32 (bits BinOp.or IntKind.u32 (IntKind.u32.wrap (IntKind.u32.wrap (v0.toNat:Int)*16777216)) (IntKind.u32.wrap (IntKind.u32.wrap (v1.toNat:Int)*65536))) (IntKind.u32.wrap (IntKind.u32.wrap (v2.toNat:Int)*256))) (IntKind.u32.wrap (v3.toNat:Int))))).drew
     rw [Of] at this ⊢
     rw [Gx blk t hlt _ (by rw [if_pos h16]; unfold word; rw [HE.out.1,HE.out.2.1,HE.out.2.2.1,HE.out.2.2.2])] at this
     exact this
    rename_i hHeld
    clear hHeld
    generalize (wr.setCell ⟨w.heap.size,t,none⟩ (.int .u32 (bits BinOp.or IntKind.u32 (bits BinOp.or IntKind.u32 (bits BinOp.or IntKind.u32 (IntKind.u32.wrap (IntKind.u32.wrap (v0.toNat:Int)*16777216)) (IntKind.u32.wrap (IntKind.u32.wrap (v1.toNat:Int)*65536))) (IntKind.u32.wrap (IntKind.u32.wrap (v2.toNat:Int)*256))) (IntKind.u32.wrap (v3.toNat:Int))))).drew=W1 at HN ⊢
    go_wp2_with fail
    go_roundw
    case rel=>exact ⟨t+1,by omega,by go_num,HN⟩
    case measure=>simp [intOf]; omega
   ·obtain ⟨x2,f2,w2,c2⟩:=wU blk t (t - 2) om
    obtain ⟨x7,f7,w7,c7⟩:=wU blk t (t - 7) om
    obtain ⟨x15,f15,w15,c15⟩:=wU blk t (t - 15) om
    obtain ⟨x16,f16,w16,c16⟩:=wU blk t (t - 16) om
    rw [← HL.out.2.cell] at c2 c7 c15 c16
    have wc:wr.cell? ⟨w.heap.size,t,none⟩=some (.int .u32 0):=by
     rw [HL.out.2.cell]
     unfold kD
     rw [List.getElem?_append_right (by rw [iU,nA]; exact Nat.le_refl _),iU,nA,Nat.sub_self,List.getElem?_replicate,if_pos om]
    have wf:=HL.out.2.frozen t
    have HE:=Lib.hid (And.intro f2 (And.intro f7 (And.intro f15 f16)))
    have HW:=Lib.hid (And.intro w2 (And.intro w7 (And.intro w15 w16)))
    have s2:(0:Int)≤(t:Int) - 2:=om
    have s2n:((t:Int) - 2).toNat=t - 2:=om
    have s2w:IntKind.i64.wrap ((t:Int) - 2)=(t:Int) - 2:=IntWalk.i64_in _ om
    have s15:(0:Int)≤(t:Int) - 15:=om
    have s15n:((t:Int) - 15).toNat=t - 15:=om
    have s15w:IntKind.i64.wrap ((t:Int) - 15)=(t:Int) - 15:=IntWalk.i64_in _ om
    have s2l:(t:Int) - 2 < 64:=om
    have s15l:(t:Int) - 15 < 64:=om
    have r1:=Og x2 w2
    have r0:=Oh x15 w15
    have a1:=nB (sig1 x2) x7
    have a2:=nB (cU (sig1 x2) x7) (sig0 x15)
    have a3:=nB (cU (cU (sig1 x2) x7) (sig0 x15)) x16
    have s7:(0:Int)≤(t:Int) - 7:=om
    have s7n:((t:Int) - 7).toNat=t - 7:=om
    have s7w:IntKind.i64.wrap ((t:Int) - 7)=(t:Int) - 7:=IntWalk.i64_in _ om
    have s16:(0:Int)≤(t:Int) - 16:=om
    have s16n:((t:Int) - 16).toNat=t - 16:=om
    have s16w:IntKind.i64.wrap ((t:Int) - 16)=(t:Int) - 16:=IntWalk.i64_in _ om
    have s7l:(t:Int) - 7 < 64:=om
    have s16l:(t:Int) - 16 < 64:=om
    have g7:(7:Int)≤(t:Int):=om
    have g7n:7≤t:=om
    have g16:(16:Int)≤(t:Int):=om
    have g16n:16≤t:=om
    have o7:t - 7≠t:=om
    have o7':t≠t - 7:=om
    have o16:t - 16≠t:=om
    have o16':t≠t - 16:=om
    clear f2 f7 f15 f16 w2 w7 w15 w16
    go_wp2_with fail
    go_quiet (fail)
    go_wp2_with fail
    refine (oI x2 17 _ _ rfl HW.out.1 om om).mono ?_
    rintro e w' ⟨rfl,rfl⟩
    go_wp2_with fail
    refine (oI x2 19 _ _ rfl HW.out.1 om om).mono ?_
    rintro e w' ⟨rfl,rfl⟩
    go_wp2_with fail
    refine (oI x15 7 _ _ rfl HW.out.2.2.1 om om).mono ?_
    rintro e w' ⟨rfl,rfl⟩
    go_wp2_with fail
    refine (oI x15 18 _ _ rfl HW.out.2.2.1 om om).mono ?_
    rintro e w' ⟨rfl,rfl⟩
    go_wp2_with fail
    go_region_held3 (fun w'=>w'.cell? ⟨w.heap.size,t - 7,none⟩=some (.int .u32 (x7:Int))∧w'.cell? ⟨w.heap.size,t - 16,none⟩=some (.int .u32 (x16:Int))) (first | go_keep | (go_split_ands; refine ⟨?_,?_⟩ <;> (rw [World.cell?_setCell_other _ _ _ _ (by intro e; injection e; omega)]; assumption))) (first | fail)
    have HN:Hid (Fr [] w ((wr.drewN (nq+1)).setCell ⟨w.heap.size,t,none⟩ (.int .u32 ((cU (cU (cU (sig1 x2) x7) (sig0 x15)) x16:Nat):Int)))∧At ((wr.drewN (nq+1)).setCell ⟨w.heap.size,t,none⟩ (.int .u32 ((cU (cU (cU (sig1 x2) x7) (sig0 x15)) x16:Nat):Int))) w.heap.size 207 (kD blk (t+1))):=by
     refine ⟨(HL.out.1.drewN _).setCell (.inr (Nat.le_refl _)) _,?_⟩
     have:=(HL.out.2.drewN (nq+1)).set t (.int .u32 ((cU (cU (cU (sig1 x2) x7) (sig0 x15)) x16:Nat):Int))
     rw [Gx blk t hlt _ (by rw [if_neg om]; unfold tV; rw [HE.out.1,HE.out.2.1,HE.out.2.2.1,HE.out.2.2.2])] at this
     exact this
    rename_i hHeld
    clear hHeld
    generalize (wr.drewN (nq+1)).setCell ⟨w.heap.size,t,none⟩ (.int .u32 ((cU (cU (cU (sig1 x2) x7) (sig0 x15)) x16:Nat):Int))=W1 at HN ⊢
    clear r1 r0 a1 a2 a3 s2 s2n s2w s15 s15n s15w s7 s7n s7w s16 s16n s16w c2 c7 c15 c16 wc wf
    go_wp2_with fail
    go_roundw
    case rel=>exact ⟨t+1,by omega,by go_num,HN⟩
    case measure=>simp [intOf]; omega
  ·obtain rfl:t=64:=om
   obtain ⟨h0,h1,h2,h3,h4,h5,h6,h7,HH⟩:∃ h0 h1 h2 h3 h4 h5 h6 h7:Nat,Hid (H=[h0,h1,h2,h3,h4,h5,h6,h7]):=by
    have hl:=HA.out.2.1
    match H,hl with
    | [h0,h1,h2,h3,h4,h5,h6,h7],_=>exact ⟨h0,h1,h2,h3,h4,h5,h6,h7,rfl⟩
   have hab:=HA.out.1.fr HL.out.1 si
   have d0:wr.cell? ⟨b,0,none⟩=some (.int .u32 (h0:Int)):=by rw [hab.cell,HH.out]; rfl
   have d1:wr.cell? ⟨b,1,none⟩=some (.int .u32 (h1:Int)):=by rw [hab.cell,HH.out]; rfl
   have d2:wr.cell? ⟨b,2,none⟩=some (.int .u32 (h2:Int)):=by rw [hab.cell,HH.out]; rfl
   have d3:wr.cell? ⟨b,3,none⟩=some (.int .u32 (h3:Int)):=by rw [hab.cell,HH.out]; rfl
   have d4:wr.cell? ⟨b,4,none⟩=some (.int .u32 (h4:Int)):=by rw [hab.cell,HH.out]; rfl
   have d5:wr.cell? ⟨b,5,none⟩=some (.int .u32 (h5:Int)):=by rw [hab.cell,HH.out]; rfl
   have d6:wr.cell? ⟨b,6,none⟩=some (.int .u32 (h6:Int)):=by rw [hab.cell,HH.out]; rfl
   have d7:wr.cell? ⟨b,7,none⟩=some (.int .u32 (h7:Int)):=by rw [hab.cell,HH.out]; rfl
   clear hab
   go_wp2_with fail
   go_quiet (fail)
   go_wp2_with fail
   have HVV:Hid (Fr [] w ((wr.alloc (.cells #[.int .u32 (h0:Int),.int .u32 (h1:Int),.int .u32 (h2:Int),.int .u32 (h3:Int),.int .u32 (h4:Int),.int .u32 (h5:Int),.int .u32 (h6:Int),.int .u32 (h7:Int)] 171)).drewN nq)∧At ((wr.alloc (.cells #[.int .u32 (h0:Int),.int .u32 (h1:Int),.int .u32 (h2:Int),.int .u32 (h3:Int),.int .u32 (h4:Int),.int .u32 (h5:Int),.int .u32 (h6:Int),.int .u32 (h7:Int)] 171)).drewN nq) w.heap.size 207 (kD blk 64)∧At ((wr.alloc (.cells #[.int .u32 (h0:Int),.int .u32 (h1:Int),.int .u32 (h2:Int),.int .u32 (h3:Int),.int .u32 (h4:Int),.int .u32 (h5:Int),.int .u32 (h6:Int),.int .u32 (h7:Int)] 171)).drewN nq) wr.heap.size 171 [.int .u32 (h0:Int),.int .u32 (h1:Int),.int .u32 (h2:Int),.int .u32 (h3:Int),.int .u32 (h4:Int),.int .u32 (h5:Int),.int .u32 (h6:Int),.int .u32 (h7:Int)]):=⟨(HL.out.1.alloc _).drewN _,(HL.out.2.alloc _).drewN _,(At.new _ _ _).drewN _⟩
   generalize (wr.alloc (.cells #[.int .u32 (h0:Int),.int .u32 (h1:Int),.int .u32 (h2:Int),.int .u32 (h3:Int),.int .u32 (h4:Int),.int .u32 (h5:Int),.int .u32 (h6:Int),.int .u32 (h7:Int)] 171)).drewN nq=V at HVV ⊢
   obtain ⟨bv,hbv⟩:∃ bv,bv=wr.heap.size:=⟨_,rfl⟩
   rw [← hbv] at HVV ⊢
   have hws:=HL.out.1.size
   have hbvw:w.heap.size < bv:=by rw [hbv]; exact HL.out.2.lt
   clear d0 d1 d2 d3 d4 d5 d6 d7 hbv HL hws
   obtain ⟨s0,HS0⟩:∃ s0:S8,Hid (s0=S8.of H∧s0.Ok):=⟨_,rfl,S8.Xy HA.out.2.2⟩
   obtain ⟨WS,HWS⟩:∃ WS,Hid (WS=eR blk 64):=⟨_,rfl⟩
   go_loopw [12,13,14,15,16,17,18,19,123] (fun za zb zc zd ze zf zg zh i wx=>∃ (t:Nat) (s:S8),t≤64∧i = .int .i64 t∧za = .int .u32 (s.a:Int)∧zb = .int .u32 (s.b:Int)∧zc = .int .u32 (s.c:Int)∧zd = .int .u32 (s.d:Int)∧ze = .int .u32 (s.e:Int)∧zf = .int .u32 (s.f:Int)∧zg = .int .u32 (s.g:Int)∧zh = .int .u32 (s.h:Int)∧Hid (s=rounds WS s0 t∧s.Ok∧Fr [] V wx)) (fun _ _ _ _ _ _ _ _ i _=>64 - (intOf i).toNat)
   case atStart=>exact ⟨0,s0,by omega,rfl,by rw [HS0.out.1,HH.out]; rfl,by rw [HS0.out.1,HH.out]; rfl,by rw [HS0.out.1,HH.out]; rfl,by rw [HS0.out.1,HH.out]; rfl,by rw [HS0.out.1,HH.out]; rfl,by rw [HS0.out.1,HH.out]; rfl,by rw [HS0.out.1,HH.out]; rfl,by rw [HS0.out.1,HH.out]; rfl,rfl,HS0.out.2,Fr.refl _ _⟩
   case round =>
    obtain ⟨t,s,ht,rfl,rfl,rfl,rfl,rfl,rfl,rfl,rfl,rfl,HT⟩:=hrel
    obtain ⟨a,b',c,d,e,f,g',h⟩:=s
    by_cases hlt:t < 64
    ·obtain ⟨kt,hkt⟩:∃ kt,kO[t]?=some kt:=⟨_,List.getElem?_eq_getElem (show t < kO.length from hlt)⟩
     obtain ⟨wt,fw,ww,cw⟩:=wU blk 64 t hlt
     have hv:=(HV.out.fr (HVV.out.1.trans HT.out.2.2) si si).cons t kt hkt
     rw [← (HVV.out.2.1.fr HT.out.2.2 si).cell] at cw
     obtain ⟨s1,ef,ne,ng,ch,x1,x2,x3,t1,z0,ab,ac,bc,mx,mj,t2,na,nd,q1,q2,q3,q4,q5,q6,q7,q8,q9,q10,q11,q12,q13,q14,q15,q16,q17,q18,HQ⟩:=On a b' c d e f g' h kt wt HT.out.2.1
     have HO:Hid (bU e∧bU a):=⟨HT.out.2.1.e,HT.out.2.1.a⟩
     have HK:=Lib.hid (And.intro hkt (And.intro fw ww))
     clear hkt fw ww
     have htI:(t:Int) < 64:=om
     go_wp2_with fail
     refine (oI e 6 _ _ rfl HO.out.1 om om).mono ?_
     rintro e1 w' ⟨rfl,rfl⟩
     go_wp2_with fail
     refine (oI e 11 _ _ rfl HO.out.1 om om).mono ?_
     rintro e1 w' ⟨rfl,rfl⟩
     go_wp2_with fail
     refine (oI e 25 _ _ rfl HO.out.1 om om).mono ?_
     rintro e1 w' ⟨rfl,rfl⟩
     go_wp2_with fail
     refine (oI a 2 _ _ rfl HO.out.2 om om).mono ?_
     rintro e1 w' ⟨rfl,rfl⟩
     go_wp2_with fail
     refine (oI a 13 _ _ rfl HO.out.2 om om).mono ?_
     rintro e1 w' ⟨rfl,rfl⟩
     go_wp2_with fail
     refine (oI a 22 _ _ rfl HO.out.2 om om).mono ?_
     rintro e1 w' ⟨rfl,rfl⟩
     go_wp2_with fail
     go_quiet (fail)
     go_wp2_with fail
     clear q1 q2 q3 q4 q5 q6 q7 q8 q9 q10 q11 q12 q13 q14 q15 q16 q17 q18
     go_roundw
     case rel =>
      (repeat apply Exists.intro)
      refine ⟨?_,rfl⟩
      refine ⟨t+1,⟨na,a,b',c,nd,e,f,g'⟩,by omega,by go_num,rfl,rfl,rfl,rfl,rfl,rfl,rfl,rfl,?_⟩
      refine ⟨?_,?_,HT.out.2.2.drewN _⟩
      ·rw [← HQ.out,HT.out.1]
       show _=(rounds WS s0 t).vY (kO.getD t 0) (WS.getD t 0)
       rw [List.getD_eq_getElem?_getD,HK.out.1,HWS.out,HK.out.2.1]
       rfl
      ·rw [← HQ.out]
       exact HT.out.2.1.vY _ _
     case measure=>simp [intOf]; omega
    ·obtain rfl:t=64:=om
     have HF:Hid (jV H blk=List.zipWith cU H [a,b',c,d,e,f,g',h]):=by
      show jV H blk=_
      unfold jV
      rw [← HWS.out,← HS0.out.1,← HT.out.1]
      rfl
     have hbw:b < w.heap.size:=HA.out.1.lt
     have hbb:b≠bv:=om
     have HZ:Hid (Fr [b] w wr∧At wr b 174 (U4 H++rest)∧At wr bv 171 (U4 H)):=by
      have h3:At wr bv 171 _:=HVV.out.2.2.fr HT.out.2.2 si
      refine ⟨(HVV.out.1.trans HT.out.2.2).mono si,(HA.out.1.fr HVV.out.1 si).fr HT.out.2.2 si,?_⟩
      rw [HH.out]
      exact h3
     obtain ⟨ww,HWW⟩:∃ ww,Hid (ww=wr):=⟨_,rfl⟩
     rw [← HWW.out] at HZ ⊢
     clear HWW HT HVV HS0 HWS
     go_wp2_with fail
     go_loopw [197] (fun i wy=>∃ k:Nat,k≤8∧i = .int .i64 k∧Hid (Fr [b] w wy∧At wy b 174 (U4 ((List.zipWith cU H [a,b',c,d,e,f,g',h]).take k++H.drop k)++rest)∧At wy bv 171 (U4 H))) (fun i _=>8 - (intOf i).toNat)
     case atStart=>exact ⟨0,by omega,rfl,by rw [List.take_zero,List.nil_append,List.drop_zero]; exact HZ⟩
     case round =>
      obtain ⟨k,hk,rfl,HY⟩:=hrel
      by_cases hlt:k < 8
      ·obtain ⟨y,hy⟩:∃ y,H[k]?=some y:=⟨_,List.getElem?_eq_getElem (by rw [HA.out.2.1]; exact hlt)⟩
       obtain ⟨x,hx⟩:∃ x,[a,b',c,d,e,f,g',h][k]?=some x:=⟨_,List.getElem?_eq_getElem (show k < 8 from hlt)⟩
       have hix:∀ w:World,(Instr.index 171 (.agg #[.int .u32 (a:Int),.int .u32 (b':Int),.int .u32 (c:Int),.int .u32 (d:Int),.int .u32 (e:Int),.int .u32 (f:Int),.int .u32 (g':Int),.int .u32 (h:Int)]) (vi (k:Int))).run Tryz.prog w = .ok (.int .u32 (x:Int)) w:=wG (P:=Tryz.prog) 171 169 8 (U4 [a,b',c,d,e,f,g',h]) (.int .u32 (x:Int)) .i64 k Tryz.underlying171 kr (fun _=>kr) hlt (zX _ _ _ hx)
       have hs:=Oo H [a,b',c,d,e,f,g',h] rest k y x hy hx
       have cy:wr.cell? ⟨bv,k,none⟩=some (.int .u32 (y:Int)):=by rw [HY.out.2.2.cell]; exact zX _ _ _ hy
       have cb:wr.cell? ⟨b,k,none⟩=some (.int .u32 (y:Int)):=by rw [HY.out.2.1.cell]; exact Oq H [a,b',c,d,e,f,g',h] rest k y x hy hx
       have fb:=HY.out.2.1.frozen k
       have HS:=Lib.hid hs
       have sm:=nB y x
       have hkI:(k:Int) < 8:=om
       clear hy hx hs
       go_wp2_with fail
       go_region_held3 (fun w'=>w'.cell? ⟨bv,k,none⟩=some (.int .u32 (y:Int))) (go_keep) (first | fail)
       have HN:Hid (Fr [b] w (wr.setCell ⟨b,k,none⟩ (.int .u32 ((cU y x:Nat):Int))).drew∧At (wr.setCell ⟨b,k,none⟩ (.int .u32 ((cU y x:Nat):Int))).drew b 174 (U4 ((List.zipWith cU H [a,b',c,d,e,f,g',h]).take (k+1)++H.drop (k+1))++rest)∧At (wr.setCell ⟨b,k,none⟩ (.int .u32 ((cU y x:Nat):Int))).drew bv 171 (U4 H)):=by
        refine ⟨(HY.out.1.setCell si _).drew,?_,(HY.out.2.2.far (by show bv≠b; omega) _).drew⟩
        rw [← HS.out]
        exact (HY.out.2.1.set k _).drew
       go_wp2_with fail
       go_roundw
       case rel =>
        (repeat apply Exists.intro)
        exact ⟨⟨k+1,by omega,by go_num,HN⟩,rfl⟩
       case measure=>simp [intOf]; omega
      ·obtain rfl:k=8:=om
       go_wp2_with fail
       go_end0
       refine ⟨rfl,HY.out.1,?_⟩
       rw [HF.out]
       have h8:=HY.out.2.1
       rw [List.take_of_length_le (by simp [HA.out.2.1]),List.drop_of_length_le (by rw [HA.out.2.1]; exact Nat.le_refl _),List.append_nil] at h8
       exact h8
section
def fQ (w : World) (b : Nat) (xs : List UInt8) : Prop :=
 ∃ buf : List UInt8, buf.length = 64 ∧ buf.take (xs.length % 64) = lM xs ∧ At w b 174 (U4 (eK xs) ++ (B8 buf ++ [Value.int .i64 (xs.length : Int)]))
theorem fQ.fr {w w':World} {b:Nat} {xs:List UInt8} {S:List Nat} (h:fQ w b xs) (hf:Fr S w w') (hb:b∉S):fQ w' b xs:=by
 obtain ⟨buf,h1,h2,h3⟩:=h
 exact ⟨buf,h1,h2,h3.fr hf hb⟩
theorem fQ.lt {w:World} {b:Nat} {xs:List UInt8} (h:fQ w b xs):b < w.heap.size:=by
 obtain ⟨buf,h1,h2,h3⟩:=h
 exact h3.lt
theorem Gy (w:World) (hv:bW w):Calls Tryz.prog 73 #[] w fun e w'=>e = .returned (.pointer (some ⟨w.heap.size,0,none⟩))∧Fr [] w w'∧fQ w' w.heap.size []:=by
 have i0:w.cell? ⟨0,0,none⟩=some (.int .u32 1779033703):=hv.init 0 _ rfl
 have i1:w.cell? ⟨0,1,none⟩=some (.int .u32 3144134277):=hv.init 1 _ rfl
 have i2:w.cell? ⟨0,2,none⟩=some (.int .u32 1013904242):=hv.init 2 _ rfl
 have i3:w.cell? ⟨0,3,none⟩=some (.int .u32 2773480762):=hv.init 3 _ rfl
 have i4:w.cell? ⟨0,4,none⟩=some (.int .u32 1359893119):=hv.init 4 _ rfl
 have i5:w.cell? ⟨0,5,none⟩=some (.int .u32 2600822924):=hv.init 5 _ rfl
 have i6:w.cell? ⟨0,6,none⟩=some (.int .u32 528734635):=hv.init 6 _ rfl
 have i7:w.cell? ⟨0,7,none⟩=some (.int .u32 1541459225):=hv.init 7 _ rfl
 clear hv
 go_enter Tryz.func73,Tryz.ntmps73
 go_wp2_with fail
 go_ret
 exact ⟨rfl,(Fr.refl _ _).alloc _,List.replicate 64 0,rfl,rfl,At.new w 174 (U4 (eK [])++(B8 (List.replicate 64 0)++[vi 0]))⟩
section
variable {H : List Nat} {buf : List UInt8} {v : Value}
theorem wV (hH:H.length=8) (hb:buf.length=64):(U4 H++(B8 buf++[v])).length=73:=by simp [iU,dW,hH,hb]
theorem Gz (hH:H.length=8) (hb:buf.length=64):(U4 H++(B8 buf++[v]))[72]?=some v:=by
 rw [List.getElem?_append_right (by rw [iU,hH]; decide),List.getElem?_append_right (by rw [iU,hH,dW,hb]; decide),iU,hH,dW,hb]
 rfl
theorem Ot (hH:H.length=8) (hb:buf.length=64) (v':Value):(U4 H++(B8 buf++[v])).set 72 v'=U4 H++(B8 buf++[v']):=by
 rw [List.set_append_right _ _ (by rw [iU,hH]; decide),List.set_append_right _ _ (by rw [iU,hH,dW,hb]; decide),iU,hH,dW,hb]
 rfl
theorem Ou (hH:H.length=8) (i:Nat) (u:Value) (h:(B8 buf)[i]?=some u):(U4 H++(B8 buf++[v]))[8+i]?=some u:=by
 have hi:i < (B8 buf).length:=(List.getElem?_eq_some_iff.1 h).1
 rw [List.getElem?_append_right (by rw [iU,hH]; omega),iU,hH,show 8+i - 8=i by omega,List.getElem?_append_left hi,h]
theorem zZ (hH:H.length=8) (hb:buf.length=64) (u:Nat) (cs:List UInt8) (hu:u+cs.length≤64) :
  (U4 H++(B8 buf++[v])).take (8+u)++B8 cs++(U4 H++(B8 buf++[v])).drop (8+u+(B8 cs).length)=U4 H++(B8 (buf.take u++cs++buf.drop (u+cs.length))++[v]):=by
 have h8:(U4 H).length=8:=by rw [iU,hH]
 have hb8:(B8 buf).length=64:=by rw [dW,hb]
 rw [List.take_append,List.drop_append,dW,h8,show 8+u - 8=u by omega,show 8+u+cs.length - 8=u+cs.length by omega,List.take_of_length_le om,List.drop_of_length_le om,List.nil_append,
  List.take_append_of_le_length om,List.drop_append_of_le_length om,tU,tU]
 simp [B8,List.map_take,List.map_drop]
end
theorem GA (b u:Nat) (hu:u < 64) (w:World):(Instr.sliceAt 172 (.pointer (some ⟨b,8,none⟩)) (some (vi (u:Int))) none none).run Tryz.prog w = .ok (.slice (some ⟨b,8+u,none⟩) (64 - u) (64 - u)) w:=by
 have hl:Tryz.prog.arrayLen 172=64:=by kernel_rfl
 have hz:(sizeOf (Tryz.prog.elem 172)).run Tryz.prog w = .ok 1 w:=by kernel_rfl
 have hne:¬ (64=u):=om
 rw [run_sliceAt_array_l w 172 ⟨b,8,none⟩ kr .i64 (u:Int) om (by rw [hl]; omega),hz,hl]
 simp [slicedAt,hne,jS]
theorem CC (b:Nat) (w:World):(Instr.sliceAt 172 (.pointer (some ⟨b,8,none⟩)) none none none).run Tryz.prog w = .ok (.slice (some ⟨b,8,none⟩) 64 64) w:=by
 have hl:Tryz.prog.arrayLen 172=64:=by kernel_rfl
 have hz:(sizeOf (Tryz.prog.elem 172)).run Tryz.prog w = .ok 1 w:=by kernel_rfl
 rw [run_sliceAt_array_all w 172 ⟨b,8,none⟩ kr,hz,hl]
 simp [slicedAt,jS]
theorem Aa (g o m cap k:Nat) (hk:k≤m) (hm:m≤cap):∃ o',(k < m→o'=o+k)∧∀ w:World,(Instr.slice 22 (.slice (some ⟨g,o,none⟩) m cap) (some (vi (k:Int))) none none).run Tryz.prog w = .ok (.slice (some ⟨g,o',none⟩) (m - k) (cap - k)) w:=by
 have hz:∀ w,(sizeOf (Tryz.prog.elem 22)).run Tryz.prog w = .ok 1 w:=fun w=>by kernel_rfl
 by_cases hc:cap=k
 ·refine ⟨o,fun h=>by omega,fun w=>?_⟩
  rw [run_slice_l w 22 (some ⟨g,o,none⟩) m cap kr .i64 (k:Int) om om,hz]
  simp [sliced,hc]
 ·refine ⟨o+k,fun _=>rfl,fun w=>?_⟩
  rw [run_slice_l w 22 (some ⟨g,o,none⟩) m cap kr .i64 (k:Int) om om,hz]
  simp [sliced,hc,jS]
theorem aF.Mn {w:World} {g o o' k:Nat} {zs:List UInt8} (h:aF w (some ⟨g,o,none⟩) (B8 zs)) (ho:k < zs.length→o'=o+k):aF w (some ⟨g,o',none⟩) (B8 (zs.drop k)):=by
 intro i u hu
 have hi:=(List.getElem?_eq_some_iff.1 hu).1
 rw [dW,List.length_drop] at hi
 have e:(B8 (zs.drop k))[i]?=(B8 zs)[k+i]?:=by simp [B8,List.getElem?_drop]
 rw [e] at hu
 obtain ⟨b,o1,hA,hb,hc⟩:=h (k+i) u hu
 injection hA with hA
 injection hA with h1 h2
 subst h1 h2
 refine ⟨g,o',rfl,hb,?_⟩
 rw [ho om,Nat.add_assoc]
 exact hc
theorem aF.Fk {w:World} {A:Option Addr} {k:Nat} {zs:List UInt8} (h:aF w A (B8 zs)):aF w A (B8 (zs.take k)):=by
 intro i u hu
 refine h i u ?_
 have hi:=(List.getElem?_eq_some_iff.1 hu).1
 rw [dW,List.length_take] at hi
 rw [← hu]
 simp only [B8,List.map_take]
 rw [List.getElem?_take_of_lt om]
theorem aF.some {w:World} {A:Option Addr} {zs:List UInt8} (h:aF w A (B8 zs)) (hz:0 < zs.length):∃ g o,A=some ⟨g,o,none⟩∧g < w.heap.size:=by
 obtain ⟨b,o,hA,hb,_⟩:=h 0 _ (rS zs 0 _ (List.getElem?_eq_getElem hz))
 exact ⟨b,o,hA,hb⟩
theorem Ov {w w':World} {A:Option Addr} {S:List Nat} {ys:List UInt8} (h:aF w A (B8 ys)) (hf:Fr S w w') (hfar:0 < ys.length→∀ g o,A=some ⟨g,o,none⟩→g∉S):aF w' A (B8 ys):=by
 rcases Nat.eq_zero_or_pos ys.length with h0 | h0
 ·obtain rfl:=List.eq_nil_of_length_eq_zero h0
  exact fun i x hx=>by simp [B8] at hx
 ·exact h.fr hf (hfar h0)
structure pP (w wr : World) (b : Nat) (all pre zs : List UInt8) (A : Option Addr) (cap : Nat) : Prop where
 fr : Fr [b] w wr
 eq : pre ++ zs = all
 mod : pre.length % 64 = 0
 cap : zs.length ≤ cap
 row : aF wr A (B8 zs)
 far : 0 < zs.length → ∀ g o, A = some ⟨g, o, none⟩ → g ≠ b
 st : ∃ buf : List UInt8, buf.length = 64 ∧ At wr b 174 (U4 (eK pre) ++ (B8 buf ++ [Value.int .i64 (all.length : Int)]))
theorem GB (pre:List UInt8) (h:pre.length % 64=0):lM pre=[]:=List.eq_nil_of_length_eq_zero (by rw [FI,h])
theorem pP.step {w wr w1:World} {b g o o' cap:Nat} {all pre zs buf:List UInt8} (h:pP w wr b all pre zs (some ⟨g,o,none⟩) cap) (h64:64≤zs.length) (hf:Fr [b] wr w1) (ho:64 < zs.length→o'=o+64)
  (hb:buf.length=64) (hat:At w1 b 174 (U4 (jV (eK pre) (zs.take 64))++(B8 buf++[vi (all.length:Int)]))):pP w w1 b all (pre++zs.take 64) (zs.drop 64) (some ⟨g,o',none⟩) (cap - 64):=by
 have hl:(zs.take 64).length=64:=by rw [List.length_take]; omega
 have hfar:=h.far om g o rfl
 refine ⟨h.fr.trans hf,by rw [List.append_assoc,List.take_append_drop]; exact h.eq,by have:=h.mod; rw [List.length_append,hl]; omega,by have:=h.cap; rw [List.length_drop]; omega,?_,fun _ g' o1 e=>?_,buf,hb,?_⟩
 ·refine (aF.Mn (h.row.fr hf fun g' o1 e=>?_) ho)
  injection e with e
  injection e with e1 e2
  subst e1
  simpa using hfar
 ·injection e with e
  injection e with e1 e2
  subst e1
  exact hfar
 ·have hm:=h.mod
  rw [(FL pre (zs.take 64) om).1,GB pre h.mod,List.nil_append]
  exact hat
theorem fQ.done {w:World} {b:Nat} {all pre zs buf:List UInt8} (he:pre++zs=all) (hm:pre.length % 64=0) (hz:zs.length < 64) (hb:buf.length=64) (hat:At w b 174 (U4 (eK pre)++(B8 (zs++buf.drop zs.length)++[vi (all.length:Int)]))):fQ w b all:=by
 subst he
 have h:=FK pre zs om
 refine ⟨zs++buf.drop zs.length,by rw [List.length_append,List.length_drop]; omega,?_,by rw [h.1]; exact hat⟩
 rw [h.2,GB pre hm,List.nil_append,List.length_append,show (pre.length+zs.length) % 64=zs.length by omega,List.take_left]
theorem fQ.small {w:World} {b:Nat} {xs ys buf:List UInt8} (hz:xs.length % 64+ys.length < 64) (hb:buf.length=64) (hr:buf.take (xs.length % 64)=lM xs)
  (hat:At w b 174 (U4 (eK xs)++(B8 (buf.take (xs.length % 64)++ys++buf.drop (xs.length % 64+ys.length))++[vi ((xs++ys).length:Int)]))):fQ w b (xs++ys):=by
 have h:=FK xs ys hz
 have hl:(buf.take (xs.length % 64)).length=xs.length % 64:=by rw [List.length_take]; omega
 refine ⟨_,?_,?_,by rw [h.1]; exact hat⟩
 ·simp only [List.length_append,hl,List.length_drop]
  omega
 ·rw [h.2,← hr,List.length_append,show (xs.length+ys.length) % 64=xs.length % 64+ys.length by omega,List.take_append_of_le_length (by rw [List.length_append,hl]; omega),List.take_of_length_le (by rw [List.length_append,hl]; omega)]
theorem Ow {fn:Func} (h:fn.results = #[]) (tmps:Array Value) (P:Program) (w:World):(results fn tmps).run P w = .ok (.tuple #[]) w:=by simp [results,h]
theorem GC (b:Nat) (xs ys:List UInt8) (A:Option Addr) (cap:Nat) (w:World) (hv:bW w) (h2:2≤b) (hs:fQ w b xs) (hrow:aF w A (B8 ys)) (hcap:ys.length≤cap) (hfar:0 < ys.length→∀ g o,A=some ⟨g,o,none⟩→g≠b) (hlen:xs.length+ys.length≤1099511627776) :
  Calls Tryz.prog 74 #[Value.pointer (some ⟨b,0,none⟩),.slice A ys.length cap] w fun e w'=>e = .returned (.tuple #[])∧Fr [b] w w'∧fQ w' b (xs++ys):=by
 obtain ⟨buf,hb1,hb2,hat⟩:=hs
 have hw8:=(gZ xs).1
 have c72:w.cell? ⟨b,72,none⟩=some (Value.int .i64 (xs.length:Int)):=by rw [hat.cell]; exact Gz hw8 hb1
 have f72:=hat.frozen 72
 obtain ⟨u,hu⟩:∃ u,u=xs.length % 64:=⟨_,rfl⟩
 have hu64:u < 64:=om
 have eu:(xs.length:Int) % 64=(u:Int):=om
 obtain ⟨n,hn⟩:∃ n,n=xs.length:=⟨_,rfl⟩
 obtain ⟨m,hm⟩:∃ m,m=ys.length:=⟨_,rfl⟩
 obtain ⟨W1,HWE⟩:∃ W1,Hid (W1=w.setCell ⟨b,72,none⟩ (Value.int .i64 ((n:Int)+(m:Int)))):=⟨_,rfl⟩
 have e2:((n:Int)+(m:Int))=((xs++ys).length:Int):=by rw [List.length_append,hn,hm]; omega
 have HA:Hid (bW w∧buf.length=64∧buf.take u=lM xs∧At W1 b 174 (U4 (eK xs)++(B8 buf++[vi ((xs++ys).length:Int)]))∧aF W1 A (B8 ys)∧(0 < ys.length→∀ g o,A=some ⟨g,o,none⟩→g≠b)∧Fr [b] w W1∧ys.length≤cap):=by
  have hf:Fr [b] w W1:=by rw [HWE.out]; exact (Fr.refl _ _).setCell si _
  refine ⟨hv,hb1,by rw [hu]; exact hb2,?_,Ov hrow hf (fun h g o e=>by have:=hfar h g o e; simpa using this),hfar,hf,hcap⟩
  rw [HWE.out,← e2]
  have:=hat.set 72 (Value.int .i64 ((n:Int)+(m:Int)))
  rw [Ot hw8 hb1] at this
  exact this
 have HN:Hid (n=xs.length∧m=ys.length∧u=xs.length % 64):=⟨hn,hm,hu⟩
 rw [← hn] at c72 eu hlen
 rw [← hm] at hlen hcap ⊢
 clear hv hb1 hb2 hw8 hat hrow hfar hn hm hu e2
 by_cases h0:u=0
 ·have hposI:¬ (0:Int) < (u:Int):=om
  have h00:¬ 0 < u:=om
  have HL0:∃ (pre zs:List UInt8) (A':Option Addr) (cap' r:Nat),Value.slice A m cap = .slice A' r cap'∧Hid (r=zs.length∧pP w W1 b (xs++ys) pre zs A' cap') :=
   ⟨xs,ys,A,cap,m,rfl,HN.out.2.1,HA.out.2.2.2.2.2.2.1,rfl,by rw [← HN.out.2.2]; exact h0,HA.out.2.2.2.2.2.2.2,HA.out.2.2.2.2.1,HA.out.2.2.2.2.2.1,buf,HA.out.2.1,HA.out.2.2.2.1⟩
  clear h0
  go_enter Tryz.func74,Tryz.ntmps74
  go_wp2_with fail
  rw [← HWE.out]
  ·clear c72 f72 eu
   go_loopw [1] (fun x wx=>∃ (pre zs:List UInt8) (A':Option Addr) (cap' r:Nat),x = .slice A' r cap'∧Hid (r=zs.length∧pP w wx b (xs++ys) pre zs A' cap')) (fun x _=>match x with | .slice _ k _=>k | _=>0)
   case atStart=>exact HL0
   case round =>
    obtain ⟨pre,zs,A',cap',r,rfl,HR⟩:=hrel
    obtain ⟨buf',hb',hat'⟩:=HR.out.2.st
    have HB':=Lib.hid (And.intro hb' hat')
    clear hb' hat'
    have hrc:r≤cap':=by rw [HR.out.1]; exact HR.out.2.cap
    by_cases h64:64≤r
    ·obtain ⟨g',o',rfl,hg'⟩:=HR.out.2.row.some (by rw [← HR.out.1]; omega)
     obtain ⟨o2,ho2,hsl⟩:=Aa g' o' r cap' 64 h64 hrc
     have hslI:∀ w:World,(Instr.slice 22 (.slice (some ⟨g',o',none⟩) r cap') (some (vi 64)) none none).run Tryz.prog w = .ok (.slice (some ⟨g',o2,none⟩) (r - 64) (cap' - 64)) w:=hsl
     have HO2:=Lib.hid ho2
     clear hsl ho2
     have h64I:(64:Int)≤(r:Int):=om
     have h64c:(64:Int)≤(cap':Int):=om
     have HP:=Lib.hid (CB b g' o' cap' (eK pre) (B8 buf'++[vi ((xs++ys).length:Int)]) (zs.take 64) wr (HA.out.1.fr HR.out.2.fr (by simp; omega) (by simp; omega)) HB'.out.2 (gZ pre).1 (gZ pre).2 (by rw [List.length_take,← HR.out.1]; omega) om HR.out.2.row.Fk)
     go_wp2_with fail
     refine HP.out.mono ?_
     rintro e w1 ⟨rfl,hf1,ha1⟩
     have HN:Hid (r - 64=(zs.drop 64).length∧pP w w1 b (xs++ys) (pre++zs.take 64) (zs.drop 64) (some ⟨g',o2,none⟩) (cap' - 64)):=⟨by rw [List.length_drop,← HR.out.1],HR.out.2.step (by rw [← HR.out.1]; exact h64) hf1 (by rw [← HR.out.1]; exact HO2.out) HB'.out.1 ha1⟩
     clear hf1 ha1 HP HO2 HR HB'
     go_wp2_with fail
     go_roundw
     case rel =>
      first
       | exact ⟨pre++zs.take 64,zs.drop 64,_,_,_,rfl,HN⟩
       | ((repeat apply Exists.intro); exact ⟨⟨pre++zs.take 64,zs.drop 64,_,_,_,rfl,HN⟩,rfl⟩)
     case measure=>show r - 64 < r; omega
    ·have hslA:=CC b
     have h64I:(r:Int) < 64:=om
     have h64n:r < 64:=om
     obtain ⟨L,HL⟩:∃ L,Hid (L=U4 (eK pre)++(B8 buf'++[vi ((xs++ys).length:Int)])):=⟨_,rfl⟩
     obtain ⟨L2,HL2⟩:∃ L2,Hid (L2=U4 (eK pre)++(B8 (zs++buf'.drop zs.length)++[vi ((xs++ys).length:Int)])):=⟨_,rfl⟩
     obtain ⟨CS,HCS⟩:∃ CS,Hid (CS=B8 zs):=⟨_,rfl⟩
     go_wp2_with (refine zG (P:=Tryz.prog) (dT:=22) (sT:=22) (elem:=5) Tryz.underlying22 (by kernel_rfl) rfl _ _ rfl b 8 64 64 A' r cap' 174 L CS rfl rfl ?hat2 ?hn2 ?hsrc2 ?hfit2 ?h12 r ?hnn2 L2 ?hl2 ?_)
     case hat2=>rw [HL.out]; exact HB'.out.2
     case hl2 =>
      have h3:=zZ (H:=eK pre) (buf:=buf') (v:=Value.int .i64 ((xs++ys).length:Int)) (gZ pre).1 HB'.out.1 0 zs (by rw [← HR.out.1]; omega)
      rw [List.take_zero,List.nil_append,Nat.zero_add,Nat.add_zero,← HL.out,← HL2.out,← HCS.out] at h3
      rw [← h3,List.append_assoc]
     case hn2=>rw [HCS.out,dW,← HR.out.1]; exact (Nat.min_eq_left (by omega)).symm
     case hsrc2=>rw [HCS.out]; exact eQ.mC HR.out.2.row
     case hfit2=>rw [HCS.out,HL.out,wV (gZ pre).1 HB'.out.1,dW,← HR.out.1]; omega
     case h12=>rw [HCS.out]; exact jU _
     case hnn2=>rw [HCS.out,dW,← HR.out.1]
     intro w2 hf2 ha2
     have HE:Hid (Fr [b] w w2∧fQ w2 b (xs++ys)):=by
      refine ⟨HR.out.2.fr.trans hf2,?_⟩
      rw [HL2.out] at ha2
      exact fQ.done HR.out.2.eq HR.out.2.mod (by rw [← HR.out.1]; exact h64n) HB'.out.1 ha2
     clear hf2 ha2
     go_wp2_with fail
     go_end0
     exact ⟨rfl,HE.out.1,HE.out.2⟩
 ·have hpos:0 < u:=om
  have hposI:(0:Int) < (u:Int):=om
  by_cases hs:u+m < 64
  ·have hsI:(u:Int)+(m:Int) < 64:=om
   have hsl:=GA b u hu64
   have hsx:∃ A2 c2,∀ w:World,(Instr.slice 22 (.slice A m cap) (some (vi (m:Int))) none none).run Tryz.prog w = .ok (.slice A2 0 c2) w:=by
    by_cases hm0:m=0
    ·subst hm0
     refine ⟨if cap=0 then A else A.map (·.add (0*1)),cap,fun w=>?_⟩
     rw [run_slice_l w 22 A 0 cap kr .i64 ((0:Nat):Int) om om,show (sizeOf (Tryz.prog.elem 22)).run Tryz.prog w = .ok 1 w by kernel_rfl]
     rfl
    ·obtain ⟨g,o,hA,_⟩:=HA.out.2.2.2.2.1.some (by rw [← HN.out.2.1]; omega)
     obtain ⟨o',_,h⟩:=Aa g o m cap m (Nat.le_refl _) hcap
     refine ⟨some ⟨g,o',none⟩,cap - m,fun w=>?_⟩
     rw [hA,h w,Nat.sub_self]
   obtain ⟨A2,c2,hsx⟩:=hsx
   obtain ⟨L,HL⟩:∃ L,Hid (L=U4 (eK xs)++(B8 buf++[vi ((xs++ys).length:Int)])):=⟨_,rfl⟩
   obtain ⟨L2,HL2⟩:∃ L2,Hid (L2=U4 (eK xs)++(B8 (buf.take u++ys++buf.drop (u+(ys).length))++[vi ((xs++ys).length:Int)])):=⟨_,rfl⟩
   obtain ⟨CS,HCS⟩:∃ CS,Hid (CS=B8 (ys)):=⟨_,rfl⟩
   go_enter Tryz.func74,Tryz.ntmps74
   go_wp2_with (rw [← HWE.out]; refine zG (P:=Tryz.prog) (dT:=22) (sT:=22) (elem:=5) Tryz.underlying22 (by kernel_rfl) rfl _ _ rfl b (8+u) (64 - u) (64 - u) A m cap 174 L CS rfl rfl ?hat ?hn ?hsrc ?hfit ?h1 m ?hnn L2 ?hl2 ?_)
   case hat=>rw [HL.out]; exact HA.out.2.2.2.1
   case hl2 =>
    have h3:=zZ (H:=eK xs) (buf:=buf) (v:=Value.int .i64 ((xs++ys).length:Int)) (gZ xs).1 HA.out.2.1 u ys (by rw [← HN.out.2.1]; omega)
    rw [← HL.out,← HL2.out,← HCS.out] at h3
    rw [← h3,List.append_assoc]
   case hn=>rw [HCS.out,dW,← HN.out.2.1]; exact (Nat.min_eq_left (by omega)).symm
   case hsrc=>rw [HCS.out]; exact eQ.mC HA.out.2.2.2.2.1
   case hfit=>rw [HCS.out,HL.out,wV (gZ xs).1 HA.out.2.1,dW,← HN.out.2.1]; omega
   case h1=>rw [HCS.out]; exact jU _
   case hnn=>rw [HCS.out,dW,← HN.out.2.1]
   intro w2 hf2 ha2
   have HE:Hid (Fr [b] w w2∧fQ w2 b (xs++ys)):=by
    refine ⟨HA.out.2.2.2.2.2.2.1.trans hf2,?_⟩
    rw [HL2.out,HN.out.2.2] at ha2
    exact fQ.small (by rw [← HN.out.2.2,← HN.out.2.1]; exact hs) HA.out.2.1 (by rw [← HN.out.2.2]; exact HA.out.2.2.1) ha2
   clear hf2 ha2
   go_wp2_with fail
   refine bodyPost_ret (Ow rfl _ _ _) rfl ?_
   exact ⟨rfl,HE.out.1,HE.out.2⟩
  ·obtain ⟨k,hk⟩:∃ k,k+u=64:=⟨64 - u,om⟩
   have hkl:(ys.take k).length=k:=by rw [List.length_take,← HN.out.2.1]; omega
   have HK:Hid ((ys.take k).length=k):=hkl
   clear hkl
   have hkm:k≤m:=om
   have hsl:=GA b u hu64
   have hslA:=CC b
   obtain ⟨g,o,rfl,hg⟩:=HA.out.2.2.2.2.1.some (by rw [← HN.out.2.1]; omega)
   obtain ⟨o',ho',hsx⟩:=Aa g o m cap k hkm hcap
   have HO:=Lib.hid ho'
   clear ho'
   have hge:¬ (u:Int)+(k:Int) < 64:=om
   obtain ⟨L,HL⟩:∃ L,Hid (L=U4 (eK xs)++(B8 buf++[vi ((xs++ys).length:Int)])):=⟨_,rfl⟩
   obtain ⟨L2,HL2⟩:∃ L2,Hid (L2=U4 (eK xs)++(B8 (buf.take u++ys.take k++buf.drop (u+(ys.take k).length))++[vi ((xs++ys).length:Int)])):=⟨_,rfl⟩
   obtain ⟨CS,HCS⟩:∃ CS,Hid (CS=B8 (ys.take k)):=⟨_,rfl⟩
   go_enter Tryz.func74,Tryz.ntmps74
   go_wp2_with (rw [← HWE.out]; refine zG (P:=Tryz.prog) (dT:=22) (sT:=22) (elem:=5) Tryz.underlying22 (by kernel_rfl) rfl _ _ rfl b (8+u) (64 - u) (64 - u) (some ⟨g,o,none⟩) m cap 174 L CS rfl rfl ?hat ?hn ?hsrc ?hfit ?h1 k ?hnn L2 ?hl2 ?_)
   case hat=>rw [HL.out]; exact HA.out.2.2.2.1
   case hl2 =>
    have h3:=zZ (H:=eK xs) (buf:=buf) (v:=Value.int .i64 ((xs++ys).length:Int)) (gZ xs).1 HA.out.2.1 u (ys.take k) (by rw [HK.out]; omega)
    rw [← HL.out,← HL2.out,← HCS.out] at h3
    rw [← h3,List.append_assoc]
   case hn=>rw [HCS.out,dW,HK.out]; exact ((Nat.min_eq_right (by omega)).trans (by omega)).symm
   case hsrc=>rw [HCS.out]; exact eQ.mC HA.out.2.2.2.2.1.Fk
   case hfit=>rw [HCS.out,HL.out,wV (gZ xs).1 HA.out.2.1,dW,HK.out]; omega
   case h1=>rw [HCS.out]; exact jU _
   case hnn=>rw [HCS.out,dW,HK.out]
   intro w2 hf2 ha2
   have HE:Hid (Fr [b] W1 w2∧(buf.take u++ys.take k).length=64∧At w2 b 174 (U4 (eK xs)++(B8 (buf.take u++ys.take k)++[vi ((xs++ys).length:Int)]))):=by
    refine ⟨hf2,by rw [List.length_append,List.length_take,HA.out.2.1,HK.out]; omega,?_⟩
    rw [HL2.out,List.drop_of_length_le (by rw [HA.out.2.1,HK.out]; omega),List.append_nil] at ha2
    exact ha2
   clear hf2 ha2
   have HP:=Lib.hid (CB b b 8 64 (eK xs) (B8 (buf.take u++ys.take k)++[vi ((xs++ys).length:Int)]) (buf.take u++ys.take k) w2 (HA.out.1.fr (HA.out.2.2.2.2.2.2.1.trans HE.out.1) (by simp; omega) (by simp; omega)) HE.out.2.2 (gZ xs).1 (gZ xs).2 HE.out.2.1 om
    (fun i v hv=>⟨b,8,rfl,HE.out.2.2.lt,by rw [HE.out.2.2.cell]; exact Ou (gZ xs).1 i v hv⟩))
   go_wp2_with fail
   refine HP.out.mono ?_
   rintro e w3 ⟨rfl,hf3,ha3⟩
   have HL0:∃ (pre zs:List UInt8) (A':Option Addr) (cap' r:Nat),Value.slice (some ⟨g,o',none⟩) (m - k) (cap - k) = .slice A' r cap'∧Hid (r=zs.length∧pP w w3 b (xs++ys) pre zs A' cap'):=by
    have hgb:=HA.out.2.2.2.2.2.1 (by have:=HN.out.2.1; omega) g o rfl
    refine ⟨xs++ys.take k,ys.drop k,_,_,_,rfl,by rw [List.length_drop,← HN.out.2.1],(HA.out.2.2.2.2.2.2.1.trans HE.out.1).trans hf3,by rw [List.append_assoc,List.take_append_drop],by rw [List.length_append,HK.out]; have:=HN.out.2.2; omega,by rw [List.length_drop]; have:=HA.out.2.2.2.2.2.2.2; omega,?_,fun _ g' o1 e=>?_,_,HE.out.2.1,?_⟩
    ·refine aF.Mn (HA.out.2.2.2.2.1.fr (HE.out.1.trans hf3) fun g' o1 e=>?_) (by rw [← HN.out.2.1]; exact HO.out)
     injection e with e
     injection e with e1 e2
     subst e1
     simpa using hgb
    ·injection e with e
     injection e with e1 e2
     subst e1
     exact hgb
    ·rw [(FL xs (ys.take k) (by rw [HK.out,← HN.out.2.2]; omega)).1,← HA.out.2.2.1]
     exact ha3
   clear hf3 ha3 HP HE hsl hslA hsx
   go_wp2_with fail
   go_loopw [1] (fun x wx=>∃ (pre zs:List UInt8) (A':Option Addr) (cap' r:Nat),x = .slice A' r cap'∧Hid (r=zs.length∧pP w wx b (xs++ys) pre zs A' cap')) (fun x _=>match x with | .slice _ k _=>k | _=>0)
   case atStart=>exact HL0
   case round =>
    obtain ⟨pre,zs,A',cap',r,rfl,HR⟩:=hrel
    obtain ⟨buf',hb',hat'⟩:=HR.out.2.st
    have HB':=Lib.hid (And.intro hb' hat')
    clear hb' hat'
    have hrc:r≤cap':=by rw [HR.out.1]; exact HR.out.2.cap
    by_cases h64:64≤r
    ·obtain ⟨g',o',rfl,hg'⟩:=HR.out.2.row.some (by rw [← HR.out.1]; omega)
     obtain ⟨o2,ho2,hsl⟩:=Aa g' o' r cap' 64 h64 hrc
     have hslI:∀ w:World,(Instr.slice 22 (.slice (some ⟨g',o',none⟩) r cap') (some (vi 64)) none none).run Tryz.prog w = .ok (.slice (some ⟨g',o2,none⟩) (r - 64) (cap' - 64)) w:=hsl
     have HO2:=Lib.hid ho2
     clear hsl ho2
     have h64I:(64:Int)≤(r:Int):=om
     have h64c:(64:Int)≤(cap':Int):=om
     have HP:=Lib.hid (CB b g' o' cap' (eK pre) (B8 buf'++[vi ((xs++ys).length:Int)]) (zs.take 64) wr (HA.out.1.fr HR.out.2.fr (by simp; omega) (by simp; omega)) HB'.out.2 (gZ pre).1 (gZ pre).2 (by rw [List.length_take,← HR.out.1]; omega) om HR.out.2.row.Fk)
     go_wp2_with fail
     refine HP.out.mono ?_
     rintro e w1 ⟨rfl,hf1,ha1⟩
     have HN:Hid (r - 64=(zs.drop 64).length∧pP w w1 b (xs++ys) (pre++zs.take 64) (zs.drop 64) (some ⟨g',o2,none⟩) (cap' - 64)):=⟨by rw [List.length_drop,← HR.out.1],HR.out.2.step (by rw [← HR.out.1]; exact h64) hf1 (by rw [← HR.out.1]; exact HO2.out) HB'.out.1 ha1⟩
     clear hf1 ha1 HP HO2 HR HB'
     go_wp2_with fail
     go_roundw
     case rel =>
      first
       | exact ⟨pre++zs.take 64,zs.drop 64,_,_,_,rfl,HN⟩
       | ((repeat apply Exists.intro); exact ⟨⟨pre++zs.take 64,zs.drop 64,_,_,_,rfl,HN⟩,rfl⟩)
     case measure=>show r - 64 < r; omega
    ·have hslA:=CC b
     have h64I:(r:Int) < 64:=om
     have h64n:r < 64:=om
     obtain ⟨L,HL⟩:∃ L,Hid (L=U4 (eK pre)++(B8 buf'++[vi ((xs++ys).length:Int)])):=⟨_,rfl⟩
     obtain ⟨L2,HL2⟩:∃ L2,Hid (L2=U4 (eK pre)++(B8 (zs++buf'.drop zs.length)++[vi ((xs++ys).length:Int)])):=⟨_,rfl⟩
     obtain ⟨CS,HCS⟩:∃ CS,Hid (CS=B8 zs):=⟨_,rfl⟩
     go_wp2_with (refine zG (P:=Tryz.prog) (dT:=22) (sT:=22) (elem:=5) Tryz.underlying22 (by kernel_rfl) rfl _ _ rfl b 8 64 64 A' r cap' 174 L CS rfl rfl ?hat2 ?hn2 ?hsrc2 ?hfit2 ?h12 r ?hnn2 L2 ?hl2 ?_)
     case hat2=>rw [HL.out]; exact HB'.out.2
     case hl2 =>
      have h3:=zZ (H:=eK pre) (buf:=buf') (v:=Value.int .i64 ((xs++ys).length:Int)) (gZ pre).1 HB'.out.1 0 zs (by rw [← HR.out.1]; omega)
      rw [List.take_zero,List.nil_append,Nat.zero_add,Nat.add_zero,← HL.out,← HL2.out,← HCS.out] at h3
      rw [← h3,List.append_assoc]
     case hn2=>rw [HCS.out,dW,← HR.out.1]; exact (Nat.min_eq_left (by omega)).symm
     case hsrc2=>rw [HCS.out]; exact eQ.mC HR.out.2.row
     case hfit2=>rw [HCS.out,HL.out,wV (gZ pre).1 HB'.out.1,dW,← HR.out.1]; omega
     case h12=>rw [HCS.out]; exact jU _
     case hnn2=>rw [HCS.out,dW,← HR.out.1]
     intro w2 hf2 ha2
     have HE:Hid (Fr [b] w w2∧fQ w2 b (xs++ys)):=by
      refine ⟨HR.out.2.fr.trans hf2,?_⟩
      rw [HL2.out] at ha2
      exact fQ.done HR.out.2.eq HR.out.2.mod (by rw [← HR.out.1]; exact h64n) HB'.out.1 ha2
     clear hf2 ha2
     go_wp2_with fail
     go_end0
     exact ⟨rfl,HE.out.1,HE.out.2⟩
theorem GD (b:Nat) (xs ys:List UInt8) (A:Option Addr) (cap:Nat) (w:World) (hv:bW w) (h2:2≤b) (hs:fQ w b xs) (hrow:aF w A (B8 ys)) (hcap:ys.length≤cap) (hfar:∀ g o,A=some ⟨g,o,none⟩→g≠b) (hlen:xs.length+ys.length≤1099511627776) :
  Calls Tryz.prog 74 #[Value.pointer (some ⟨b,0,none⟩),.slice A ys.length cap] w fun e w'=>e = .returned (.tuple #[])∧Fr [b] w w'∧fQ w' b (xs++ys):=GC b xs ys A cap w hv h2 hs hrow hcap (fun _=>hfar) hlen
end
theorem uK (m k:Nat):IntKind.u8.wrap ((m:Int) / 2 ^ (8*k))=((cY m k).toNat:Int):=by
 have e:(m:Int) / 2 ^ (8*k)=((m / 2 ^ (8*k):Nat):Int):=Gw m (8*k)
 rw [e,IntKind.wrap_u8]
 unfold cY
 generalize m / 2 ^ (8*k)=q
 have:(UInt8.ofNat (q % 256)).toNat=q % 256:=by simp
 rw [this]
 omega
theorem GF (b:Nat) (xs:List UInt8) (w:World) (hv:bW w) (hs:fQ w b xs) (hlen:xs.length≤549755813888) :
  Calls Tryz.prog 75 #[Value.pointer (some ⟨b,0,none⟩)] w fun e w'=>e = .returned (.string (bD (dM xs)))∧Fr [] w w':=by
 obtain ⟨buf,hb1,hb2,hat⟩:=hs
 have hw8:=(gZ xs).1
 obtain ⟨n,hn⟩:∃ n,n=xs.length:=⟨_,rfl⟩
 rw [← hn] at hlen hat
 obtain ⟨L,HL⟩:∃ L,Hid (L=U4 (eK xs)++(B8 buf++[vi (n:Int)])):=⟨_,rfl⟩
 have HLL:Hid (L.length=73):=by show L.length=73; rw [HL.out]; exact wV hw8 hb1
 have HL1:Hid (∀ v∈L,v.oneCell'=true):=by
  show ∀ v∈L,v.oneCell'=true
  rw [HL.out]
  intro v hv
  simp only [List.mem_append,U4,B8,List.mem_map,List.mem_singleton] at hv
  rcases hv with ⟨_,_,rfl⟩ | ⟨_,_,rfl⟩ | rfl <;> rfl
 have HA:Hid (bW w∧buf.length=64∧buf.take (n % 64)=lM xs∧At w b 174 L∧n=xs.length):=⟨hv,hb1,by rw [hn]; exact hb2,by rw [HL.out]; exact hat,hn⟩
 have c72:w.cell? ⟨b,72,none⟩=some (Value.int .i64 (n:Int)):=by rw [hat.cell]; exact Gz hw8 hb1
 have hbw:=hat.lt
 clear hv hb1 hb2 hat hw8 hn
 go_enter Tryz.func75,Tryz.ntmps75
 go_wp2_with (first
  | (refine pF rfl 174 (.tmp 11) rfl b 0 rfl L _ ?hc Tryz.underlying174 rfl ?hi ?_)
  | (refine wI rfl 174 (.tmp 3) (.tmp 12) rfl rfl 174 _ L rfl ?hz ?hi2 ?h1 ?_))
 case hc=>exact fun j v hj=>by rw [Nat.zero_add,HA.out.2.2.2.1.cell]; exact hj
 case hi=>rw [HLL.out]; kernel_rfl
 case hz=>rw [HLL.out]; rfl
 case hi2=>rw [HLL.out]; kernel_rfl
 case h1=>exact HL1.out
 intro w1 hf1 ha1
 obtain ⟨bp,hbp⟩:∃ bp,bp=w.heap.size:=⟨_,rfl⟩
 rw [← hbp] at ha1 ⊢
 have HP:Hid (Fr [] w w1∧At w1 bp 174 L∧bp=w.heap.size):=⟨hf1,ha1,hbp⟩
 have c72':w1.cell? ⟨b,72,none⟩=some (Value.int .i64 (n:Int)):=by rw [hf1.cell (p:=⟨b,72,none⟩) hbw si]; exact c72
 have hbp1:bp < w1.heap.size:=ha1.lt
 clear hf1 ha1 hbp c72
 obtain ⟨z,hz⟩:∃ z,z=(119 - n % 64) % 64:=⟨_,rfl⟩
 have hz64:z < 64:=om
 have hzz:(n+1+z) % 64=56:=om
 have hzu:∀ j,j < z→(n+1+j) % 64≠56:=om
 have HZ:=Lib.hid (And.intro hz (And.intro hzz hzu))
 clear hz hzz hzu
 go_wp2_with fail
 go_loopw [4] (fun v wx=>∃ (j:Nat) (A':Option Addr) (c':Nat) (cs:List UInt8),j≤z∧v = .slice A' cs.length c'∧cs.length≤j+1∧j+1≤cs.length∧Hid (cs=128::List.replicate j 0)∧Hid (BR w1 wx v cs)) (fun v _=>match v with | .slice _ k _=>65 - k | _=>0)
 case atStart=>exact ⟨0,_,_,[128],by omega,rfl,by simp,by simp,rfl,BR.lit w1 [128] (by simp [maxLen])⟩
 case round =>
  obtain ⟨j,A',c',cs,hj,rfl,hcl,hcl',HC,HB⟩:=hrel
  have hsz:=HB.out.size
  have c72r:wr.cell? ⟨b,72,none⟩=some (Value.int .i64 (n:Int)):=by rw [HB.out.fr.cell (p:=⟨b,72,none⟩) (Nat.lt_of_lt_of_le hbw HP.out.1.size) si]; exact c72'
  obtain ⟨r,hr⟩:∃ r,r=(n+cs.length) % 64:=⟨_,rfl⟩
  have er:((n:Int)+(cs.length:Int)) % 64=(r:Int):=om
  by_cases hlt:j < z
  ·have hr56:r≠56:=by have:=HZ.out.2.2 j hlt; rw [hr]; intro e; apply this; omega
   have hrb:((r:Int) != 56)=true:=by simp; omega
   clear hr hr56
   go_wp2_with (at_builtin; refine tS jE rfl (.tmp 23) (.tmp 24) rfl w1.heap.size _ _ (B8 cs) (.int .u8 0) rfl HB.out.own rfl rfl (by omega) (by omega) 5 ?_; intro v2 w2 hown2 hg2 hb2; obtain ⟨A3,c3,cs3,HC3,hc3,rfl,HB3⟩:=BR.push (xs:=[0]) HB.out hown2 hg2; clear hown2 hg2 hb2)
   have h3:cs3.length=cs.length+1:=by rw [HC3.out]; simp
   have HC4:Hid (cs3=128::List.replicate (j+1) 0):=by
    show cs3=_
    rw [HC3.out,HC.out,List.replicate_succ',List.cons_append]
   go_roundw
   case rel=>exact ⟨j+1,A3,c3,cs3,by omega,rfl,by omega,by omega,HC4,HB3⟩
   case measure=>show 65 - cs3.length < 65 - cs.length; omega
  ·obtain rfl:j=z:=om
   have hr56:r=56:=by have:=HZ.out.2.1; rw [hr]; rw [← this]; congr 1; omega
   have hrb:((r:Int) != 56)=false:=by rw [hr56]; rfl
   clear hr hr56
   obtain ⟨m8,hm8⟩:∃ m8,m8=n*8:=⟨_,rfl⟩
   have em8:IntKind.u64.wrap ((n:Int)*8)=(m8:Int):=by rw [IntKind.wrap_u64,hm8]; omega
   have en:IntKind.u64.wrap (n:Int)=(n:Int):=by rw [IntKind.wrap_u64]; omega
   have HM8:=Lib.hid hm8
   have hm8b:m8≤4398046511104:=om
   clear hm8
   go_wp2_with fail
   clear em8 en er hrb
   go_loopw [4,6] (fun v s wx=>∃ (i:Nat) (t:Int) (A':Option Addr) (c':Nat) (ds:List UInt8),i≤8∧s=Value.int .i64 t∧t+8*(i:Int)≤56∧56≤t+8*(i:Int)∧v = .slice A' ds.length c'∧ds.length≤65+i∧Hid (ds=cs++(List.range i).map fun q=>cY m8 (7 - q))∧Hid (BR w1 wx v ds)) (fun _ s _=>(intOf s+8).toNat)
   case atStart=>exact ⟨0,56,_,_,cs,by omega,rfl,by omega,by omega,rfl,by omega,by simp [Hid],HB⟩
   case round =>
    obtain ⟨i,t,A1,c1,ds,hi,rfl,ht1,ht2,rfl,hdl,HD,HB1⟩:=hrel
    have hsz1:=HB1.out.size
    by_cases hlt2:i < 8
    ·obtain ⟨sh,rfl⟩:∃ sh:Nat,t=(sh:Int):=⟨t.toNat,om⟩
     obtain ⟨y,HY⟩:∃ y:UInt8,Hid (y=cY m8 (7 - i)):=⟨_,rfl⟩
     have hsh:sh≤56:=om
     have hy:IntKind.u8.wrap ((m8:Int) / 2 ^ sh)=(y.toNat:Int):=by
      rw [HY.out,show sh=8*(7 - i) by omega]
      exact uK m8 (7 - i)
     go_wp2_with (at_builtin; refine tS jE rfl (.tmp 36) (.tmp 41) rfl w1.heap.size _ _ (B8 ds) (.int .u8 (y.toNat:Int)) rfl HB1.out.own rfl rfl (by omega) (by omega) 5 ?_; intro v2 w2 hown2 hg2 hb2; obtain ⟨A3,c3,cs3,HC3,hc3,rfl,HB3⟩:=BR.push (xs:=[y]) HB1.out hown2 hg2; clear hown2 hg2 hb2)
     have h3:cs3.length=ds.length+1:=by rw [HC3.out]; simp
     have HC4:Hid (cs3=cs++(List.range (i+1)).map fun q=>cY m8 (7 - q)):=by
      show cs3=_
      rw [HC3.out,HD.out,List.range_succ,List.map_append,List.append_assoc,HY.out]
      rfl
     go_roundw
     case rel=>exact ⟨i+1,(sh:Int) - 8,A3,c3,cs3,by omega,rfl,by omega,by omega,rfl,by omega,HC4,HB3⟩
     case measure=>simp [intOf]; omega
    ·obtain rfl:i=8:=om
     obtain rfl:t = -8:=om
     have HPAD:Hid (ds=lK xs.length):=by
      show ds=_
      rw [HD.out,HC.out,HM8.out,HZ.out.1,HA.out.2.2.2.2]
      rfl
     have hbp2:2≤bp:=by rw [HP.out.2.2]; exact HA.out.1.lt
     have HW:=Lib.hid (GD bp xs ds A1 c1 wr (HA.out.1.fr (HP.out.1.trans HB1.out.fr) si si) hbp2 ⟨buf,HA.out.2.1,by rw [← HA.out.2.2.2.2]; exact HA.out.2.2.1,by rw [← HA.out.2.2.2.2,← HL.out]; exact HP.out.2.1.fr HB1.out.fr si⟩ HB1.out.row HB1.out.cap (fun g o e=>by have:=HB1.out.far g o e; omega) (by rw [← HA.out.2.2.2.2]; omega))
     clear c72r
     go_wp2_with fail
     refine HW.out.mono ?_
     rintro e w3 ⟨rfl,hf3,hs3⟩
     have HF3:Hid (Fr [] w w3):=((HP.out.1.trans HB1.out.fr).mono si).trans' hf3 (by have:=HP.out.2.2; simp; omega)
     obtain ⟨H,HHH⟩:∃ H,Hid (H=eK (xs++ds)):=⟨_,rfl⟩
     obtain ⟨buf3,hb3,_,hat3⟩:=hs3
     rw [← HHH.out] at hat3
     have HH8:Hid (H.length=8):=by show H.length=8; rw [HHH.out]; exact (gZ _).1
     obtain ⟨UH,HUH⟩:∃ UH,Hid (UH=U4 H):=⟨_,rfl⟩
     have HUL:Hid (UH.length=8):=by show UH.length=8; rw [HUH.out,iU]; exact HH8.out
     have HC3:Hid (bp < w3.heap.size∧∀ j v,UH[j]?=some v→w3.cell? ⟨bp,j,none⟩=some v):=by
      refine ⟨hat3.lt,fun j v hj=>?_⟩
      rw [hat3.cell,List.getElem?_append_left (by rw [← HUH.out]; exact (List.getElem?_eq_some_iff.1 hj).1),← HUH.out]
      exact hj
     clear hf3 hat3 hb3 HW
     have hbw3:=HC3.out.1
     have hmk:∀ w:World,(Instr.makeSlice 22 (vi 0) (vi 32)).run Tryz.prog w = .ok (.slice (some ⟨w.heap.size,0,none⟩) 0 32) (w.alloc (.cells (List.replicate 32 (.int .u8 0)).toArray 5)):=fun w=>by kernel_rfl
     go_wp2_with (refine pF rfl 171 (.tmp 46) rfl bp 0 rfl UH _ ?hc5 Tryz.underlying171 rfl ?hi5 ?_)
     case hc5=>exact fun j v hj=>by rw [Nat.zero_add]; exact (((Fr.refl [] w3).alloc _).cell (p:=⟨bp,j,none⟩) hbw3 (by simp)).trans (HC3.out.2 j v hj)
     case hi5=>rw [HUL.out]; kernel_rfl
     go_wp2_with fail
     clear hmk
     go_loopw [7,48] (fun v s wx=>∃ (i:Nat) (A':Option Addr) (c':Nat) (es:List UInt8),i≤8∧s = .int .i64 i∧v = .slice A' es.length c'∧es.length≤4*i∧Hid (es=lJ (H.take i))∧Hid (BR w3 wx v es)) (fun _ s _=>8 - (intOf s).toNat)
     case atStart=>exact ⟨0,_,_,[],by omega,rfl,rfl,by simp,rfl,(Fr.refl _ _).alloc _,World.ownsRow_made w3 _ 32 (Nat.le_refl _) (by unfold maxLen; omega) rfl⟩
     case round =>
      obtain ⟨i,A4,c4,es,hi,rfl,rfl,hel,HE,HB4⟩:=hrel
      have hsz4:=HB4.out.size
      by_cases hlt3:i < 8
      ·obtain ⟨x,hx⟩:∃ x,H[i]?=some x:=⟨_,List.getElem?_eq_getElem (by rw [HH8.out]; exact hlt3)⟩
       have hix:∀ w:World,(Instr.index 171 (.agg UH.toArray) (vi (i:Int))).run Tryz.prog w = .ok (.int .u32 (x:Int)) w:=wG (P:=Tryz.prog) 171 169 8 UH (.int .u32 (x:Int)) .i64 i Tryz.underlying171 kr (fun _=>kr) hlt3 (by rw [HUH.out]; exact zX _ _ _ hx)
       obtain ⟨y3,HY3⟩:∃ y:UInt8,Hid (y=cY x 3):=⟨_,rfl⟩
       obtain ⟨y2,HY2⟩:∃ y:UInt8,Hid (y=cY x 2):=⟨_,rfl⟩
       obtain ⟨y1,HY1⟩:∃ y:UInt8,Hid (y=cY x 1):=⟨_,rfl⟩
       obtain ⟨y0,HY0⟩:∃ y:UInt8,Hid (y=cY x 0):=⟨_,rfl⟩
       have k3:IntKind.u8.wrap ((x:Int) / 16777216)=(y3.toNat:Int):=by rw [HY3.out]; exact uK x 3
       have k2:IntKind.u8.wrap ((x:Int) / 65536)=(y2.toNat:Int):=by rw [HY2.out]; exact uK x 2
       have k1:IntKind.u8.wrap ((x:Int) / 256)=(y1.toNat:Int):=by rw [HY1.out]; exact uK x 1
       have k0:IntKind.u8.wrap (x:Int)=(y0.toNat:Int):=by rw [HY0.out]; have:=uK x 0; simpa using this
       have HX:Hid (lJ (H.take (i+1))=lJ (H.take i)++[y3,y2,y1,y0]):=by
        obtain ⟨h1,e1⟩:=List.getElem?_eq_some_iff.1 hx
        show lJ _=_
        rw [List.take_succ_eq_append_getElem h1,e1,lJ,List.flatMap_append,HY3.out,HY2.out,HY1.out,HY0.out]
        simp [lJ]
       have hiI:(i:Int) < 8:=om
       have HXX:Hid (bU x):=by
        show bU x
        refine (gZ (xs++ds)).2 x ?_
        rw [← HHH.out]
        exact List.mem_of_getElem? hx
       clear hx
       go_wp2_with (at_builtin; refine wH jE rfl (.tmp 51) (.tmp 63) rfl w3.heap.size _ _ (B8 es) rfl (HB4.out.own.alloc _) (some ⟨wr.heap.size,0,none⟩) 4 4 (B8 [y3,y2,y1,y0]) rfl rfl (eQ.new _ _ (B8 [y3,y2,y1,y0])) (jU _) (by omega) (by simp; omega) ?_; intro v2 w2 hown2 hg2 hb2; obtain ⟨A3,c3,cs3,HC3,hc3,rfl,HB3⟩:=BR.push (xs:=[y3,y2,y1,y0]) (HB4.out.alloc _) hown2 hg2; clear hown2 hg2 hb2)
       have h3:cs3.length=es.length+4:=by rw [HC3.out]; simp
       go_roundw
       case rel=>exact ⟨i+1,A3,c3,cs3,by omega,by go_num,rfl,by omega,by show cs3=_; rw [HC3.out,HX.out,HE.out],HB3⟩
       case measure=>simp [intOf]; omega
      ·obtain rfl:i=8:=om
       have hst:=uA (P:=Tryz.prog) (src:=22) (dst:=9) Tryz.underlying22 Tryz.underlying5 Tryz.underlying9 wr A4 c4 es HB4.out.row
       go_wp2_with fail
       go_ret
       refine ⟨?_,HF3.out.trans HB4.out.fr⟩
       rw [HE.out,List.take_of_length_le (by rw [HH8.out]; exact Nat.le_refl _),HHH.out,HPAD.out]
       rfl
def eI (p : List UInt8) : Value := .string (bD p)
theorem Ox (w:World) (p:List UInt8):∃ cap W,(convert 9 22 (.string (bD p))).run Tryz.prog w = .ok (.slice (some ⟨w.heap.size,0,none⟩) p.length cap) W∧p.length≤cap∧Fr [] w W∧aF W (some ⟨w.heap.size,0,none⟩) (B8 p):=by
 have h:=run_bytes_of_string (P:=Tryz.prog) w 9 22 5 (bD p) Tryz.underlying9 Tryz.underlying22 Tryz.underlying5
 have hs:(bD p).size=p.length:=by simp [bD,ByteArray.size]
 rw [hs] at h
 refine ⟨_,_,h,grownCap_ge _ _ _ _,((Fr.refl [] w).drew.alloc _),fun i u hu=>⟨_,_,rfl,?_,?_⟩⟩
 ·show w.heap.size < (w.heap.push _).size
  simp
 ·have hi:=(List.getElem?_eq_some_iff.1 hu).1
  rw [dW] at hi
  have e:(w.drew.alloc (.cells (bytesRow (bD p) (grownCap w p.length 0 5)) 5 ((bytesRow (bD p) (grownCap w p.length 0 5)).size,(bytesRow (bD p) (grownCap w p.length 0 5)).size+1))).heap[w.heap.size]?=some (.cells (bytesRow (bD p) (grownCap w p.length 0 5)) 5 ((bytesRow (bD p) (grownCap w p.length 0 5)).size,(bytesRow (bD p) (grownCap w p.length 0 5)).size+1)):=heap_alloc_new w.drew _
  have e2:(bytesRow (bD p) (grownCap w p.length 0 5))[i]?=some u:=by
   unfold bytesRow bD
   rw [Array.getElem?_append_left (by simpa using hi)]
   simpa [B8] using hu
  unfold World.cell?
  rw [e]
  simp [e2]
theorem GG (A:Option Addr) (c:Nat) (ps:List (List UInt8)) (w:World) (hv:bW w) (hrow:aF w A (ps.map eI)) (hl:ps.flatten.length≤549755813888) (hn:ps.length≤1000) :
  Calls Tryz.prog 49 #[.slice A ps.length c] w fun e w'=>e = .returned (.string (bD (dM ps.flatten)))∧Fr [] w w':=by
 have H:=Lib.hid (And.intro hv (And.intro hrow hl))
 clear hv hrow hl
 obtain ⟨m,HM⟩:∃ m,Hid (m=ps.length):=⟨_,rfl⟩
 rw [← HM.out] at hn ⊢
 go_enter Tryz.func49,Tryz.ntmps49
 go_wp2_with fail
 refine (Gy w H.out.1).mono ?_
 rintro e w1 ⟨rfl,hf1,hs1⟩
 obtain ⟨bs,hbs⟩:∃ bs,bs=w.heap.size:=⟨_,rfl⟩
 rw [← hbs] at hs1 ⊢
 have hb2:2≤bs:=by rw [hbs]; exact H.out.1.lt
 have HB:=Lib.hid hbs
 have H1:=Lib.hid (And.intro hf1 hs1)
 clear hf1 hs1 hbs
 go_wp2_with fail
 go_loopw [9] (fun i wx=>∃ k:Nat,k≤m∧i = .int .i64 k∧Hid (Fr [] w wx∧fQ wx bs (ps.take k).flatten)) (fun i _=>m - (intOf i).toNat)
 case atStart=>exact ⟨0,by omega,rfl,H1⟩
 case round =>
  obtain ⟨k,hk,rfl,HR⟩:=hrel
  by_cases hlt:k < m
  ·obtain ⟨p,hp⟩:∃ p,ps[k]?=some p:=⟨_,List.getElem?_eq_getElem (by rw [← HM.out]; exact hlt)⟩
   obtain ⟨g,o,rfl,hg,hc⟩:=H.out.2.1 k (eI p) (by rw [List.getElem?_map,hp]; rfl)
   have hc':wr.cell? ⟨g,o+k,none⟩=some (vS p):=by rw [HR.out.1.cell (p:=⟨g,o+k,none⟩) hg (by simp)]; exact hc
   have HT:Hid ((ps.take (k+1)).flatten=(ps.take k).flatten++p∧((ps.take k).flatten++p).length≤549755813888):=by
    obtain ⟨h1,e1⟩:=List.getElem?_eq_some_iff.1 hp
    have e:(ps.take (k+1)).flatten=(ps.take k).flatten++p:=by rw [List.take_succ_eq_append_getElem h1,e1,List.flatten_append]; simp
    refine ⟨e,?_⟩
    rw [← e]
    refine Nat.le_trans ?_ H.out.2.2
    have:ps.flatten=(ps.take (k+1)).flatten++(ps.drop (k+1)).flatten:=by rw [← List.flatten_append,List.take_append_drop]
    rw [this,List.length_append]
    omega
   obtain ⟨cap,W,hcv,hcap,hfW,hrW⟩:=Ox wr p
   have HW:Hid (p.length≤cap∧Fr [] wr W∧aF W (some ⟨wr.heap.size,0,none⟩) (B8 p)):=⟨hcap,hfW,hrW⟩
   clear hcap hfW hrW hp hc
   have HWR:=Lib.hid (GD bs (ps.take k).flatten p (some ⟨wr.heap.size,0,none⟩) cap W (H.out.1.fr (HR.out.1.trans HW.out.2.1) (by simp) (by simp)) hb2 (HR.out.2.fr HW.out.2.1 (by simp)) HW.out.2.2 HW.out.1 (fun g o e=>by
    injection e with e
    injection e with e1 e2
    have:=HR.out.2.lt
    omega) (by have:=HT.out.2; rw [List.length_append] at this; omega))
   have hkI:(k:Int) < (m:Int):=by omega
   go_wp2_with fail
   refine HWR.out.mono ?_
   rintro e w3 ⟨rfl,hf3,hs3⟩
   have HN:Hid (Fr [] w w3∧fQ w3 bs (ps.take (k+1)).flatten):=⟨((HR.out.1.trans HW.out.2.1).mono (by simp)).trans' hf3 (by have:=HB.out; simp; omega),by rw [HT.out.1]; exact hs3⟩
   clear hf3 hs3 HWR HW hcv hc'
   go_wp2_with fail
   go_roundw
   case rel=>exact ⟨k+1,by omega,by go_num,HN⟩
   case measure=>simp [intOf]; omega
  ·obtain rfl:k=m:=by omega
   have HS:=Lib.hid (GF bs (ps.take k).flatten wr (H.out.1.fr HR.out.1 (by simp) (by simp)) HR.out.2 (by rw [HM.out,List.take_length]; exact H.out.2.2))
   go_wp2_with fail
   refine HS.out.mono ?_
   rintro e w3 ⟨rfl,hf3⟩
   go_wp2_with fail
   go_ret
   refine ⟨?_,HR.out.1.trans hf3⟩
   rw [HM.out,List.take_length]
   rfl
theorem Oy {P:Program} {fn:Func} {p:Tmp} {ty t:TypeId} (h:fn.results = #[.cell p ty]) (tmps:Array Value) (w:World) (g:Nat) (cs:List Value) (d:TypeDesc) (hp:tmps.getD p undef = .pointer (some ⟨g,0,none⟩)) (hat:At w g t cs)
  (hu:P.underlying ty=some d) (hd:(match d with | .struct _ | .array _ _=>true | _=>false)=true) (hi:(P.info? ty).map (·.size)=some cs.length):(results fn tmps).run P w = .ok (.agg cs.toArray) w:=by
 have hl:=BV (P:=P) w g 0 ty cs d (fun j v hv=>by rw [Nat.zero_add,hat.cell]; exact hv) hu hd hi
 have hp':tmps[p]?.getD undef = .pointer (some ⟨g,0,none⟩):=by simpa using hp
 simp [results,h,hp',asAddr,hl]
theorem GH {P:Program} {ops:Array Oper} {rest:List Oper} {o:Oper} {a:Act} {w:World} {Q:Exit→Act→World→Prop} (hg:o.guard=none) (t:TypeId) (parts:Array (Nat × Operand)) (ho:o.op = .build t parts) (v:Array Value)
  (hv:P.built t (parts.map fun (i,x)=>(i,a.eval x)).toList=some v) (h:wpList P ops Q rest (a.put o.dst (.agg v)) w):wpList P ops Q (o::rest) a w :=
 wpList_build hg t parts ho (by rw [hv]; rfl) (by rw [hv]; exact h)
end Go.Proofs.YtignomkdngnmgaaGreatDoor
