/- Part 4 of a proof: what its row uses. -/
import Derived.Test.YtdflaaiondmjdaaGreatDoorQk03
set_option maxRecDepth 100000
set_option maxHeartbeats 1000000
namespace Go.Proofs.YtdflaaiondmjdaaGreatDoor
open Go.RowKit
theorem Ho {P:Program} {Q:Exit→Act→World→Prop} {nt:Nat} {w0:World} {F:List Nat} {E:cH} {cs:List Ch} {K:Act→World→Prop} {o:Oper} {d:Nat} {t e:TypeId} {z:Value} {sz bt:Nat} (El:jX P t e z sz bt) {x y:Operand} (n:Nat) (hn:n≤4294967296) (ho:o.op = .makeSlice t x y) (hd:o.dst=some d) (hk:bN nt E o=true) (hx:aM E x=some (vi 0)) (hy:aM E y=some (vI n))
  (h:∀ b,St nt w0 F ((d,.slice (some ⟨b,0,none⟩) 0 n)::E) (cs++[aR e sz (some ⟨b,0,none⟩) 0 n []]) K) (hbt:bt≤1024):cL P Q nt w0 F E cs o K :=
 nW hd hk fun w hM=>by
  obtain ⟨i,hi,hz,hsz,hby⟩:=info_parts El.hi
  have hm:bt*n≤1024*4294967296:=Nat.mul_le_mul hbt hn
  have hr:=run_make (P:=P) w t e i z El.ht hi hz .i64 .i64 0 ((n:Nat):Int) om om (by rw [hby,← Int.natCast_mul]; omega) om
  have h1:=hM.push (c:=aD w.heap.size e (madeCells z.cells (n*sz)).toList) ((Fr.refl _ _).alloc _) (At.new w e _) (by simp [aD]) (by simp [aD])
  have h2:=h1.xS cs.length (by rw [List.getElem?_append_right (Nat.le_refl _),Nat.sub_self]; rfl) sz 0 n (by rw [Array.length_toList,size_madeCells]) (Nat.zero_le _) (by unfold maxLen; omega)
  rw [Nat.zero_mul,List.take_zero,List.set_append_right _ _ (Nat.le_refl _),Nat.sub_self,List.set_cons_zero] at h2
  refine ⟨_,_,_,?_,h2,h w.heap.size⟩
  unfold execOp
  rw [hsz,Int.toNat_natCast] at hr
  simp only [ho,bG hx,bG hy,Sem.run_bind,hr]
  rfl
def Rd.eS (r : Rd) : Nat → List Bs × Rd
 | 0 => ([], r)
 | n + 1 => ((r.eS n).1 ++ [(r.eS n).2.sum.1], (r.eS n).2.sum.2)
def Rd.eO (r : Rd) (most : Nat) : Nat := min most ((r.D.length - r.off) / 32)
def Rd.items (r : Rd) (most : Nat) : List Bs × Rd := (r.cnt (r.eO most)).2.eS (r.cnt (r.eO most)).1
theorem Rd.AW (r:Rd) (most:Nat):(r.cnt most).1≤most:=by
 unfold Rd.cnt Rd.count
 split
 ·cases hd:dE r.D r.off with
  | none=>exact Nat.zero_le _
  | some p =>
    simp only
    split
    ·exact Nat.zero_le _
    ·show p.1≤most; omega
 ·exact Nat.zero_le _
theorem Rd.AY (r:Rd):∀ n,(r.eS n).1.length=n
 | 0=>rfl
 | n+1=>by
   show ((r.eS n).1++[_]).length=_
   rw [List.length_append,r.AY n]
   rfl
theorem Rd.vH (r:Rd) (most:Nat):(r.items most).1.length≤most:=by
 unfold Rd.items
 rw [Rd.AY]
 exact Nat.le_trans (r.AW _) (Nat.min_le_left _ _)
def Rd.body (r : Rd) (lo hi : Bs) : Option AP × Rd :=
 if r.uint.1 = 1 then (some ⟨lo, hi, .sum (r.uint.2.cnt 16384).1 (r.uint.2.cnt 16384).2.sum.1⟩, (r.uint.2.cnt 16384).2.sum.2)
 else if r.uint.1 = 2 then (if eF (r.uint.2.items 64).1 lo hi then some ⟨lo, hi, .list (r.uint.2.items 64).1⟩ else none, (r.uint.2.items 64).2)
 else if r.uint.1 = 3 then (if eF (r.uint.2.items 16384).1 lo hi && eF ((r.uint.2.items 16384).2.items 16384).1 lo hi then some ⟨lo, hi, .ans (r.uint.2.items 16384).1 ((r.uint.2.items 16384).2.items 16384).1⟩ else none, ((r.uint.2.items 16384).2.items 16384).2)
 else (none, r.uint.2)
def Rd.part (r : Rd) : Option AP × Rd :=
 if iH (r.text 32).1 && iH ((r.text 32).2.text 32).1 && lV (r.text 32).1 ((r.text 32).2.text 32).1 then ((r.text 32).2.text 32).2.body (r.text 32).1 ((r.text 32).2.text 32).1
 else (none, ((r.text 32).2.text 32).2)
theorem Rd.Ek {r r1 r2:Rd} {a b:Bs} (h1:r.text 32=(a,r1)) (h2:r1.text 32=(b,r2)) (h:(iH a && iH b && lV a b)=false):r.part=(none,r2):=by
 unfold Rd.part; rw [h1]; dsimp only; rw [h2]; dsimp only; rw [h]; rfl
theorem Rd.part_go {r r1 r2:Rd} {a b:Bs} (h1:r.text 32=(a,r1)) (h2:r1.text 32=(b,r2)) (h:(iH a && iH b && lV a b)=true):r.part=r2.body a b:=by
 unfold Rd.part; rw [h1]; dsimp only; rw [h2]; dsimp only; rw [h]; rfl
theorem Rd.UD {r r1 r2 r3:Rd} {k n:Nat} {f lo hi:Bs} (h1:r.uint=(k,r1)) (hk:k=1) (h2:r1.cnt 16384=(n,r2)) (h3:r2.sum=(f,r3)):r.body lo hi=(some ⟨lo,hi,.sum n f⟩,r3):=by
 unfold Rd.body; rw [h1]; dsimp only; rw [if_pos hk,h2]; dsimp only; rw [h3]
theorem Rd.UE {r r1 r2:Rd} {k:Nat} {l:List Bs} {lo hi:Bs} (h1:r.uint=(k,r1)) (hk:k=2) (h2:r1.items 64=(l,r2)):r.body lo hi=(if eF l lo hi then some ⟨lo,hi,.list l⟩ else none,r2):=by
 unfold Rd.body; rw [h1]; dsimp only; rw [if_neg om,if_pos hk,h2]
theorem Rd.UF {r r1 r2 r3:Rd} {k:Nat} {l m:List Bs} {lo hi:Bs} (h1:r.uint=(k,r1)) (hk:k=3) (h2:r1.items 16384=(l,r2)) (h3:r2.items 16384=(m,r3)):r.body lo hi=(if eF l lo hi && eF m lo hi then some ⟨lo,hi,.ans l m⟩ else none,r3):=by
 unfold Rd.body; rw [h1]; dsimp only; rw [if_neg om,if_neg om,if_pos hk,h2]; dsimp only; rw [h3]
theorem Rd.UG {r r1:Rd} {k:Nat} {lo hi:Bs} (h1:r.uint=(k,r1)) (hk1:¬ k=1) (hk2:¬ k=2) (hk3:¬ k=3):r.body lo hi=(none,r1):=by
 unfold Rd.body; rw [h1]; dsimp only; rw [if_neg hk1,if_neg hk2,if_neg hk3]
theorem Pz {a b c:Bool} (h:(!a)=true):(a && b && c)=false:=by revert h; revert a b c; decide
theorem PA {a b c:Bool} (h:(!b)=true):(a && b && c)=false:=by revert h; revert a b c; decide
theorem PB {a b c:Bool} (h:(!c)=true):(a && b && c)=false:=by revert h; revert a b c; decide
theorem PC {a b c:Bool} (h:(!a)=false) (k:(!b)=false) (l:(!c)=false):(a && b && c)=true:=by revert h k l; revert a b c; decide
theorem uO {a n:Nat} (h:(((a:Nat):Int) == ((n:Nat):Int))=true):a=n:=Int.ofNat.inj (by simpa using h)
theorem uP {a n:Nat} (h:(((a:Nat):Int) == ((n:Nat):Int))=false):¬ a=n:=fun e=>by rw [e] at h; simp at h
/-! ### The decoder -/
def follows (ps : List AP) (p : AP) : Bool := match ps.getLast? with | none => true | some q => !(decide (q.hi = []) || decide (p.lo < q.hi))
def Rd.parts (r : Rd) : Nat → Option (List AP) × Rd
 | 0 => (some [], r)
 | k + 1 =>
   match r.parts k with
   | (none, r1) => (none, r1)
   | (some ps, r1) =>
     match r1.part with
     | (none, r2) => (none, r2)
     | (some p, r2) => if follows ps p then (some (ps ++ [p]), r2) else (none, r2)
def kC (D : Bs) : Option (List AP) :=
 if ((Rd.mk D 0 0 0).cnt D.length).1 = 0 then none
 else match ((Rd.mk D 0 0 0).cnt D.length).2.parts ((Rd.mk D 0 0 0).cnt D.length).1 with
  | (none, _) => none
  | (some ps, r2) => if r2.end_ = 0 then some ps else none
theorem Rd.Em {r r1 r2:Rd} {k:Nat} {ps:List AP} {p:AP} (h:r.parts k=(some ps,r1)) (hp:r1.part=(some p,r2)) (hf:follows ps p=true):r.parts (k+1)=(some (ps++[p]),r2):=by
 rw [Rd.parts,h]; dsimp only; rw [hp]; dsimp only; rw [if_pos hf]
theorem Rd.KM {r r1 r2:Rd} {k:Nat} {ps:List AP} {p:AP} (h:r.parts k=(some ps,r1)) (hp:r1.part=(some p,r2)) (hf:follows ps p=false):(r.parts (k+1)).1=none:=by
 rw [Rd.parts,h]; dsimp only; rw [hp]; dsimp only; rw [if_neg (by simp [hf])]
theorem Rd.UJ {r r1 r2:Rd} {k:Nat} {ps:List AP} (h:r.parts k=(some ps,r1)) (hp:r1.part=(none,r2)):(r.parts (k+1)).1=none:=by
 rw [Rd.parts,h]; dsimp only; rw [hp]
theorem Rd.KN {r:Rd} {k:Nat} (h:(r.parts k).1=none):∀ j,(r.parts (k+j)).1=none
 | 0=>h
 | j+1=>by
   have ih:=Rd.KN h j
   show (r.parts (k+j+1)).1=none
   rw [Rd.parts]
   generalize r.parts (k+j)=z at ih ⊢
   obtain ⟨o,r1⟩:=z
   dsimp only at ih ⊢
   subst ih
   rfl
theorem Rd.En {r:Rd}:∀ {k:Nat} {ps:List AP} {r1:Rd},r.parts k=(some ps,r1)→ps.length=k
 | 0,ps,r1,h=>by rw [Rd.parts] at h; injection h with h1 h2; injection h1 with h1; rw [← h1]; rfl
 | k+1,ps,r1,h=>by
   rw [Rd.parts] at h
   generalize hz:r.parts k=z at h
   obtain ⟨o,r2⟩:=z
   cases o with
   | none=>dsimp only at h; cases h
   | some qs =>
     dsimp only at h
     have ih:=Rd.En hz
     generalize r2.part=y at h
     obtain ⟨q,r3⟩:=y
     cases q with
     | none=>dsimp only at h; cases h
     | some p =>
       dsimp only at h
       split at h
       ·injection h with h1 h2; injection h1 with h1; rw [← h1,List.length_append,ih]; rfl
       ·cases h
theorem PD {D:Bs} {n:Nat} {r1:Rd} (hc:(Rd.mk D 0 0 0).cnt D.length=(n,r1)) (hn:n=0):kC D=none:=by
 unfold kC; rw [hc]; exact if_pos hn
theorem CO {D:Bs} {n i:Nat} {r1:Rd} (hc:(Rd.mk D 0 0 0).cnt D.length=(n,r1)) (hi:i≤n) (h:(r1.parts i).1=none):kC D=none:=by
 unfold kC; rw [hc]
 dsimp only
 split
 ·rfl
 ·have:=Rd.KN h (n - i)
  rw [show i+(n - i)=n by omega] at this
  generalize r1.parts n=z at this ⊢
  obtain ⟨o,r2⟩:=z
  dsimp only at this
  subst this
  rfl
theorem PE {D:Bs} {n:Nat} {r1 r2:Rd} {ps:List AP} (hc:(Rd.mk D 0 0 0).cnt D.length=(n,r1)) (h:r1.parts n=(some ps,r2)) (he:¬ r2.end_=0):kC D=none:=by
 unfold kC; rw [hc]
 dsimp only
 split
 ·rfl
 ·rw [h]; exact if_neg he
theorem PF {D:Bs} {n:Nat} {r1 r2:Rd} {ps:List AP} (hc:(Rd.mk D 0 0 0).cnt D.length=(n,r1)) (hn:¬ n=0) (h:r1.parts n=(some ps,r2)) (he:r2.end_=0):kC D=some ps:=by
 unfold kC; rw [hc]
 dsimp only
 rw [if_neg hn,h]; exact if_pos he
theorem CP {ps:List AP} {i:Nat} {q p:AP} (h:ps[i]?=some q) (hl:ps.length=i+1):follows ps p = !(decide (q.hi=[]) || decide (p.lo < q.hi)):=by
 unfold follows
 rw [List.getLast?_eq_getElem?,hl,Nat.add_sub_cancel,h]
theorem Hp {a b:Bs}:(!(decide (a < b) || decide (a=b)))=decide (b < a):=by
 by_cases h1:a < b
 ·have:¬ b < a:=fun h=>lS (oP h h1)
  simp [h1,this]
 ·by_cases h2:a=b
  ·subst h2; simp [lS]
  ·simp [h1,h2,qP h1 h2]
/-! ### What messages are -/
def iN (l : List Bs) : Prop := ∀ x ∈ l, x.length = 32
def AC.ok (lo hi : Bs) : AC → Prop
 | .sum n f => n ≤ 16384 ∧ f.length = 32
 | .list xs => xs.length ≤ 64 ∧ iN xs ∧ eF xs lo hi = true
 | .ans xs ms => (xs.length ≤ 16384 ∧ iN xs ∧ eF xs lo hi = true) ∧ ms.length ≤ 16384 ∧ iN ms ∧ eF ms lo hi = true
def AP.ok (p : AP) : Prop := (iH p.lo = true ∧ iH p.hi = true ∧ lV p.lo p.hi = true) ∧ p.c.ok p.lo p.hi
def uQ (ps : List AP) : Prop := ∀ k p, ps[k]? = some p → follows (ps.take k) p = true
def CQ (ps : List AP) : Prop := ps ≠ [] ∧ (∀ p ∈ ps, p.ok) ∧ uQ ps
theorem qR {x:Bs} (h:iH x=true):x.length≤32:=by
 unfold iH at h
 rw [Bool.or_eq_true,decide_eq_true_eq,decide_eq_true_eq] at h
 rcases h with rfl | h
 ·simp
 ·omega
theorem PG {ps:List AP} {p:AP} (h:uQ ps) (hf:follows ps p=true):uQ (ps++[p]):=by
 intro k q hq
 by_cases hk:k < ps.length
 ·rw [List.getElem?_append_left hk] at hq
  rw [List.take_append_of_le_length om]
  exact h k q hq
 ·rw [List.getElem?_append_right om] at hq
  have hk':k - ps.length=0:=by
   have:=(List.getElem?_eq_some_iff.1 hq).1
   simp at this
   omega
  rw [hk'] at hq
  simp at hq
  subst hq
  rw [show k=ps.length by omega,List.take_left]
  exact hf
/-! ### What is decoded is an encoding -/
theorem CR (r : Rd) (most : Nat) (h : (r.text most).2.err = 0) : iS r (r.text most).2 (aE (r.text most).1.length ++ (r.text most).1) ∧ (r.text most).1.length ≤ most := by
 unfold Rd.text at h ⊢
 by_cases he : r.err = 0
 ·rw [if_pos he] at h ⊢
  cases hd : dE r.D r.off with
  | none => rw [hd] at h; cases h
  | some p =>
    obtain ⟨n, m⟩ := p
    rw [hd] at h
    dsimp only at h ⊢
    by_cases h1 : most < n
    ·rw [if_pos h1] at h; cases h
    ·rw [if_neg h1] at h ⊢
     by_cases h2 : m + n ≤ r.D.length
     ·rw [if_pos h2] at h ⊢
      have hl : ((r.D.drop m).take n).length = n := by rw [List.length_take, List.length_drop]; omega
      refine ⟨⟨he, rfl, ?_⟩, by dsimp only; omega⟩
      dsimp only
      rw [hl, zE _ _ _ _ hd, List.append_assoc]
      congr 1
      show _ = _ ++ r.D.drop (m + n)
      rw [← List.drop_drop, List.take_append_drop]
     ·rw [if_neg h2] at h; cases h
 ·rw [if_neg he] at h
  exact absurd h he
theorem CT (r:Rd) (most:Nat) (h:(r.cnt most).2.err=0):iS r (r.cnt most).2 (aE (r.cnt most).1)∧(r.cnt most).1≤most:=by
 refine ⟨?_,r.AW most⟩
 unfold Rd.cnt Rd.count at h ⊢
 by_cases he:r.err=0
 ·rw [if_pos he] at h ⊢
  cases hd:dE r.D r.off with
  | none=>rw [hd] at h; cases h
  | some p =>
    rw [hd] at h
    dsimp only at h ⊢
    split at h
    ·cases h
    ·rename_i h1
     rw [if_neg h1]
     exact ⟨he,rfl,zE _ _ _ _ hd⟩
 ·rw [if_neg he] at h
  exact absurd h he
theorem Hq (r:Rd):∀ n,(r.eS n).2.err=0→r.err=0→iS r (r.eS n).2 (r.eS n).1.flatten∧iN (r.eS n).1
 | 0,_,he=>⟨⟨he,rfl,rfl⟩,by intro x hx; cases hx⟩
 | n+1,h,he=>by
   obtain ⟨h1,h2⟩:=zG (r.eS n).2 h
   obtain ⟨h3,h4⟩:=Hq r n h1.err he
   refine ⟨?_,?_⟩
   ·have:=h3.trans h1
    show iS r (r.eS n).2.sum.2 ((r.eS n).1++[(r.eS n).2.sum.1]).flatten
    rw [List.flatten_append]
    simpa using this
   ·intro x hx
    rcases List.mem_append.1 hx with hx | hx
    ·exact h4 x hx
    ·rw [List.mem_singleton.1 hx]; exact h2
theorem Hr (r:Rd):∀ n,(r.eS n).2.err=0→r.err=0
 | 0,h=>h
 | n+1,h=>Hr r n (zG (r.eS n).2 h).1.err
theorem CU (r:Rd) (most:Nat) (h:(r.items most).2.err=0):iS r (r.items most).2 (aE (r.items most).1.length++(r.items most).1.flatten)∧iN (r.items most).1:=by
 have h0:(r.cnt (r.eO most)).2.err=0:=Hr _ _ h
 obtain ⟨h1,_⟩:=CT r (r.eO most) h0
 obtain ⟨h2,h3⟩:=Hq _ _ h h0
 refine ⟨?_,h3⟩
 rw [show (r.items most).1.length=(r.cnt (r.eO most)).1 from Rd.AY _ _]
 exact h1.trans h2
theorem PH (r:Rd) (lo hi:Bs) (p:AP) (h:(r.body lo hi).2.err=0) (hp:(r.body lo hi).1=some p) (hok:iH lo=true∧iH hi=true∧lV lo hi=true):iS r (r.body lo hi).2 p.c.enc∧p.ok∧p.lo=lo∧p.hi=hi:=by
 unfold Rd.body at h hp ⊢
 by_cases h1:r.uint.1=1
 ·rw [if_pos h1] at h hp ⊢
  dsimp only at h hp ⊢
  obtain ⟨a1,a2⟩:=zG _ h
  obtain ⟨b1,b2⟩:=CT _ _ a1.err
  have c1:=rY r b1.err
  rw [h1] at c1
  injection hp with hp
  subst hp
  exact ⟨(c1.trans b1).trans a1,⟨hok,b2,a2⟩,rfl,rfl⟩
 ·rw [if_neg h1] at h hp ⊢
  by_cases h2:r.uint.1=2
  ·rw [if_pos h2] at h hp ⊢
   dsimp only at h hp ⊢
   split at hp
   ·rename_i ho
    injection hp with hp
    obtain ⟨a1,a2⟩:=CU _ _ h
    have c1:=rY r a1.err
    rw [h2] at c1
    subst hp
    exact ⟨c1.trans a1,⟨hok,Rd.vH _ _,a2,ho⟩,rfl,rfl⟩
   ·cases hp
  ·rw [if_neg h2] at h hp ⊢
   by_cases h3:r.uint.1=3
   ·rw [if_pos h3] at h hp ⊢
    dsimp only at h hp ⊢
    split at hp
    ·rename_i ho
     rw [Bool.and_eq_true] at ho
     injection hp with hp
     obtain ⟨a1,a2⟩:=CU _ _ h
     obtain ⟨b1,b2⟩:=CU _ _ a1.err
     have c1:=rY r b1.err
     rw [h3] at c1
     subst hp
     exact ⟨(c1.trans b1).trans a1,⟨hok,⟨Rd.vH _ _,b2,ho.1⟩,Rd.vH _ _,a2,ho.2⟩,rfl,rfl⟩
    ·cases hp
   ·rw [if_neg h3] at hp
    cases hp
theorem PI (r:Rd) (p:AP) (h:r.part.2.err=0) (hp:r.part.1=some p):iS r r.part.2 p.enc∧p.ok:=by
 unfold Rd.part at h hp ⊢
 split at hp
 ·rename_i hok
  rw [if_pos hok] at h ⊢
  rw [Bool.and_eq_true,Bool.and_eq_true] at hok
  obtain ⟨a1,a2,a3,a4⟩:=PH _ _ _ p h hp ⟨hok.1.1,hok.1.2,hok.2⟩
  obtain ⟨b1,_⟩:=CR _ _ a1.err
  obtain ⟨c1,_⟩:=CR _ _ b1.err
  refine ⟨?_,a2⟩
  have:=(c1.trans b1).trans a1
  unfold AP.enc
  rw [a3,a4]
  exact this
 ·cases hp
theorem Hs (r:Rd) (he:r.err=0):∀ (k:Nat) (ps:List AP) (r1:Rd),r.parts k=(some ps,r1)→r1.err=0→iS r r1 (ps.flatMap AP.enc)∧(∀ p∈ps,p.ok)∧uQ ps
 | 0,ps,r1,h,_=>by
   rw [Rd.parts] at h
   injection h with h1 h2
   injection h1 with h1
   subst h1 h2
   exact ⟨⟨he,rfl,rfl⟩,(fun p hp=>by cases hp),(fun k p hp=>by simp at hp)⟩
 | k+1,ps,r1,h,h0=>by
   rw [Rd.parts] at h
   generalize hz:r.parts k=z at h
   obtain ⟨o,r2⟩:=z
   cases o with
   | none=>dsimp only at h; cases h
   | some qs =>
     dsimp only at h
     generalize hy:r2.part=y at h
     obtain ⟨q,r3⟩:=y
     cases q with
     | none=>dsimp only at h; cases h
     | some p =>
       dsimp only at h
       split at h
       ·rename_i hf
        injection h with h1 h2
        injection h1 with h1
        subst h1 h2
        have e1:r2.part.1=some p:=by rw [hy]
        have e2:r2.part.2=r3:=by rw [hy]
        obtain ⟨a1,a2⟩:=PI r2 p (by rw [e2]; exact h0) e1
        rw [e2] at a1
        obtain ⟨b1,b2,b3⟩:=Hs r he k qs r2 hz a1.err
        refine ⟨?_,?_,PG b3 hf⟩
        ·rw [List.flatMap_append]
         simpa using b1.trans a1
        ·intro x hx
         rcases List.mem_append.1 hx with hx | hx
         ·exact b2 x hx
         ·rw [List.mem_singleton.1 hx]; exact a2
       ·cases h
theorem Ht {D:Bs} {ps:List AP} (h:kC D=some ps):D=bX ps∧CQ ps∧ps.length≤D.length:=by
 unfold kC at h
 split at h
 ·cases h
 ·rename_i hn
  generalize hz:((Rd.mk D 0 0 0).cnt D.length).2.parts ((Rd.mk D 0 0 0).cnt D.length).1=z at h
  obtain ⟨o,r2⟩:=z
  cases o with
  | none=>cases h
  | some qs =>
    dsimp only at h
    split at h
    ·rename_i he
     injection h with h
     subst h
     have e0:=Rd.KH he
     have hl:=Rd.En hz
     have h1:((Rd.mk D 0 0 0).cnt D.length).2.err=0:=by
      by_cases h0:((Rd.mk D 0 0 0).cnt D.length).2.err=0
      ·exact h0
      ·exfalso
       apply hn
       unfold Rd.cnt Rd.count at h0 ⊢
       rw [if_pos rfl] at h0 ⊢
       cases hd:dE D 0 with
       | none=>rfl
       | some p =>
         rw [hd] at h0
         dsimp only at h0 ⊢
         split at h0
         ·rename_i h5; rw [if_pos h5]
         ·exact absurd rfl h0
     obtain ⟨c1,c2⟩:=CT _ _ h1
     obtain ⟨b1,b2,b3⟩:=Hs _ h1 _ _ _ hz e0
     have hD:=(c1.trans b1).end_ he
     have hne:qs.length≠0:=by rw [hl]; exact hn
     refine ⟨?_,⟨fun e=>hne (by rw [e]; rfl),b2,b3⟩,by rw [hl]; exact c2⟩
     rw [bX,if_neg hne,hl]
     exact hD
    ·cases h
/-! ### Encodings are decoded -/
theorem Hu {α : Type} {P : List α → Prop} (h0 : P []) (h1 : ∀ l a, P l → P (l ++ [a])) (l : List α) : P l := by
 have key : ∀ m : List α, P m.reverse := by
  intro m
  induction m with
  | nil => exact h0
  | cons a m ih => rw [List.reverse_cons]; exact h1 _ _ ih
 have := key l.reverse
 rwa [List.reverse_reverse] at this
theorem cR.text {r:Rd} {t rest:Bs} {most:Nat} (h:cR r ((aE t.length++t)++rest)) (ht:t.length≤most) (hm:bI t.length):(r.text most).1=t∧cR (r.text most).2 rest:=by
 have hb:=h.bytes
 rw [List.append_assoc] at hb
 have hd:=zF r.D r.off t.length (t++rest) hb hm
 have hl:=congrArg List.length hb
 rw [List.length_drop,List.length_append,List.length_append] at hl
 have e1:r.D.drop (r.off+(aE t.length).length)=t++rest:=by rw [← List.drop_drop,hb,List.drop_left]
 unfold Rd.text
 rw [if_pos h.err,hd]
 dsimp only
 rw [if_neg om,if_pos (by have:=uE t.length; omega)]
 refine ⟨?_,h.err,?_⟩
 ·dsimp only
  rw [e1,List.take_left]
 ·show r.D.drop (r.off+(aE t.length).length+t.length)=rest
  rw [← List.drop_drop,e1,List.drop_left]
theorem cR.cnt {r:Rd} {n most:Nat} {rest:Bs} (h:cR r (aE n++rest)) (hn:n≤most) (hu:bI n):(r.cnt most).1=n∧cR (r.cnt most).2 rest:=by
 have hd:=zF r.D r.off n rest h.bytes hu
 unfold Rd.cnt Rd.count
 rw [if_pos h.err,hd]
 dsimp only
 rw [if_neg om]
 refine ⟨rfl,h.err,?_⟩
 show r.D.drop (r.off+(aE n).length)=rest
 rw [← List.drop_drop,h.bytes,List.drop_left]
theorem cR.eS {r:Rd}:∀ (xs:List Bs) (rest:Bs),cR r (xs.flatten++rest)→iN xs→(r.eS xs.length).1=xs∧cR (r.eS xs.length).2 rest:=by
 refine Hu ?_ ?_
 ·intro rest h _; exact ⟨rfl,h⟩
 ·intro xs x ih rest h ha
  obtain ⟨h1,h2⟩:=ih (x++rest) (by simpa using h) (fun y hy=>ha y (by simp [hy]))
  obtain ⟨h3,h4⟩:=h2.sum (ha x si)
  rw [List.length_append,List.length_singleton]
  exact ⟨by show (r.eS xs.length).1++[(r.eS xs.length).2.sum.1]=_; rw [h1,h3],h4⟩
theorem qS:∀ {xs:List Bs},iN xs→xs.flatten.length=32*xs.length
 | [],_=>rfl
 | x::xs,h=>by
   rw [List.flatten_cons,List.length_append,qS (fun y hy=>h y (by simp [hy])),h x si,List.length_cons]
   omega
theorem lX {n:Nat} (h:n≤4294967296):bI n:=by unfold bI; omega
theorem cR.items {r:Rd} {xs:List Bs} {most:Nat} {rest:Bs} (h:cR r ((aE xs.length++xs.flatten)++rest)) (ha:iN xs) (hl:xs.length≤most) (hm:most≤65536):(r.items most).1=xs∧cR (r.items most).2 rest:=by
 have hb:=congrArg List.length h.bytes
 rw [List.length_drop,List.length_append,List.length_append,qS ha] at hb
 have hq:xs.length≤r.eO most:=by
  unfold Rd.eO
  exact Nat.le_min.2 ⟨hl,(Nat.le_div_iff_mul_le om).2 om⟩
 obtain ⟨h1,h2⟩:=cR.cnt (n:=xs.length) (rest:=xs.flatten++rest) (by rw [← List.append_assoc]; exact h) hq (lX om)
 unfold Rd.items
 rw [h1]
 exact cR.eS xs rest h2 ha
theorem cR.part {r:Rd} {p:AP} {rest:Bs} (h:cR r (p.enc++rest)) (hp:p.ok):r.part.1=some p∧cR r.part.2 rest:=by
 obtain ⟨⟨h1,h2,h3⟩,h4⟩:=hp
 have hl1:=qR h1
 have hl2:=qR h2
 unfold AP.enc at h
 rw [List.append_assoc,List.append_assoc] at h
 obtain ⟨a1,a2⟩:=cR.text h hl1 (lX om)
 obtain ⟨b1,b2⟩:=cR.text a2 hl2 (lX om)
 unfold Rd.part
 rw [a1,b1,h1,h2,h3]
 simp only [Bool.and_self,if_true]
 obtain ⟨lo,hi,c⟩:=p
 dsimp only at b2 h4 ⊢
 unfold Rd.body
 cases c with
 | sum n f =>
   unfold AC.enc at b2
   rw [List.append_assoc,List.append_assoc] at b2
   obtain ⟨c1,c2⟩:=b2.uint (lX om)
   obtain ⟨d1,d2⟩:=c2.cnt h4.1 (lX (Nat.le_trans h4.1 om))
   obtain ⟨e1,e2⟩:=d2.sum h4.2
   rw [if_pos c1,d1,e1]
   exact ⟨rfl,e2⟩
 | list xs =>
   unfold AC.enc at b2
   rw [List.append_assoc] at b2
   obtain ⟨c1,c2⟩:=b2.uint (lX om)
   obtain ⟨d1,d2⟩:=c2.items h4.2.1 h4.1 om
   rw [if_neg om,if_pos c1,d1,if_pos h4.2.2]
   exact ⟨rfl,d2⟩
 | ans xs ms =>
   unfold AC.enc at b2
   rw [List.append_assoc,List.append_assoc] at b2
   obtain ⟨c1,c2⟩:=b2.uint (lX om)
   obtain ⟨d1,d2⟩:=c2.items h4.1.2.1 h4.1.1 om
   obtain ⟨e1,e2⟩:=d2.items h4.2.2.1 h4.2.1 om
   rw [if_neg om,if_neg om,if_pos c1,d1,e1,if_pos (by rw [h4.1.2.2,h4.2.2.2]; rfl)]
   exact ⟨rfl,e2⟩
theorem cR.parts {r:Rd}:∀ (ps:List AP) (rest:Bs),cR r (ps.flatMap AP.enc++rest)→(∀ p∈ps,p.ok)→uQ ps→∃ r1,r.parts ps.length=(some ps,r1)∧cR r1 rest:=by
 refine Hu ?_ ?_
 ·intro rest h _ _; exact ⟨r,rfl,by simpa using h⟩
 ·intro ps p ih rest h ha hc
  obtain ⟨r1,h1,h2⟩:=ih (p.enc++rest) (by simpa using h) (fun y hy=>ha y (by simp [hy])) (fun k q hq=>by
   have hk:=(List.getElem?_eq_some_iff.1 hq).1
   have:=hc k q (by rw [List.getElem?_append_left hk]; exact hq)
   rwa [List.take_append_of_le_length om] at this)
  obtain ⟨h3,h4⟩:=cR.part h2 (ha p si)
  have hf:=hc ps.length p si
  rw [List.take_left] at hf
  rw [List.length_append,List.length_singleton]
  exact ⟨r1.part.2,Rd.Em h1 (Prod.ext h3 rfl) hf,h4⟩
theorem Hv {ps:List AP} (h:CQ ps) (hl:(bX ps).length≤4294967296):kC (bX ps)=some ps:=by
 obtain ⟨h1,h2,h3⟩:=h
 have hne:ps.length≠0:=fun e=>h1 (List.eq_nil_of_length_eq_zero e)
 have hD:bX ps=aE ps.length++ps.flatMap AP.enc:=by rw [bX,if_neg hne]
 have hpl:=CC ps
 have hle:ps.length≤(bX ps).length:=by rw [hD,List.length_append]; omega
 have h0:cR (Rd.mk (bX ps) 0 0 0) (aE ps.length++ps.flatMap AP.enc):=⟨rfl,by show (bX ps).drop 0=_; rw [List.drop_zero,hD]⟩
 obtain ⟨a1,a2⟩:=h0.cnt hle (lX om)
 obtain ⟨r1,b1,b2⟩:=cR.parts ps [] (by simpa using a2) h2 h3
 unfold kC
 rw [a1,if_neg hne,b1]
 dsimp only
 rw [if_pos b2.end_]
abbrev dN := List UInt8
theorem CW {a b c:dN} (h1:a≤b) (h2:b≤c):a≤c:=List.le_trans h1 h2
theorem PJ (a b:dN):a≤b∨b≤a:=List.le_total a b
theorem CX {a b:dN} (h1:a≤b) (h2:b≤a):a=b:=List.le_antisymm h1 h2
theorem Hw {a b:dN}:¬ a < b↔b≤a:=Iff.rfl
theorem PM {a b:dN} (h:a < b):a≤b:=List.le_of_lt h
theorem Aa (l:List dN):(bM l).Pairwise (·≤·):=by
 have:=List.pairwise_mergeSort (le:=fun x y:dN=>decide (x≤y)) (fun a b c h1 h2=>by simp only [decide_eq_true_eq] at *; exact CW h1 h2) (fun a b=>by simp only [Bool.or_eq_true,decide_eq_true_eq]; exact PJ a b) l
 simpa [bM] using this
theorem sI (l:List dN):(bM l).Perm l:=List.mergeSort_perm _ _
theorem PN {l r:List dN} (h:l.Perm r) (h1:l.Pairwise (·≤·)) (h2:r.Pairwise (·≤·)):l=r:=List.Perm.eq_of_pairwise (fun _ _ _ _=>CX) h1 h2 h
def eN (l : List dN) (s : dN) : Nat := (l.takeWhile fun x => decide (x < s)).length
def eR (l : List dN) (s : dN) : List dN := l.take (eN l s) ++ s :: l.drop (eN l s)
def nK (l : List dN) (s : dN) : Bool := decide (l[eN l s]? = some s)
theorem CY (l:List dN) (s:dN):eN l s≤l.length:=by
 unfold eN
 exact List.Sublist.length_le (List.takeWhile_sublist _)
theorem CZ (l:List dN) (s:dN):l.take (eN l s)=l.takeWhile fun x=>decide (x < s):=by
 unfold eN
 conv=>lhs; arg 2; rw [← List.takeWhile_append_dropWhile (p:=fun x=>decide (x < s)) (l:=l)]
 exact List.take_left
theorem Da (l:List dN) (s:dN):l.drop (eN l s)=l.dropWhile fun x=>decide (x < s):=by
 unfold eN
 conv=>lhs; arg 2; rw [← List.takeWhile_append_dropWhile (p:=fun x=>decide (x < s)) (l:=l)]
 exact List.drop_left
theorem PO (l:List dN) (s:dN):(eR l s).Perm (s::l):=by
 unfold eR
 have:=List.perm_middle (a:=s) (l₁:=l.take (eN l s)) (l₂:=l.drop (eN l s))
 rwa [List.take_append_drop] at this
theorem Db {l:List dN} {s x:dN} (h:x∈l.takeWhile fun x=>decide (x < s)):x < s:=by
 have h1:=List.all_takeWhile (p:=fun x=>decide (x < s)) (l:=l)
 rw [List.all_eq_true] at h1
 simpa using h1 x h
theorem Dc {l:List dN} (hs:l.Pairwise (·≤·)) {s x:dN} (h:x∈l.dropWhile fun x=>decide (x < s)):s≤x:=by
 induction l with
 | nil=>simp at h
 | cons a l ih =>
   rw [List.dropWhile_cons] at h
   rw [List.pairwise_cons] at hs
   split at h
   ·exact ih hs.2 h
   ·rename_i hn
    have ha:s≤a:=Hw.1 (by simpa using hn)
    rcases List.mem_cons.1 h with rfl | h
    ·exact ha
    ·exact CW ha (hs.1 x h)
theorem PQ {l:List dN} (hs:l.Pairwise (·≤·)) (s:dN):(eR l s).Pairwise (·≤·):=by
 unfold eR
 rw [CZ,Da,List.pairwise_append,List.pairwise_cons]
 refine ⟨hs.sublist (List.takeWhile_sublist _),⟨fun x hx=>Dc hs hx,hs.sublist (List.dropWhile_sublist _)⟩,fun a ha b hb=>?_⟩
 have h1:=PM (Db ha)
 rcases List.mem_cons.1 hb with rfl | hb
 ·exact h1
 ·exact CW h1 (Dc hs hb)
theorem Dd {l r:List dN} {s:dN} (hp:r.Perm (s::l)):eR (bM l) s=bM r :=
 PN ((PO _ _).trans (((sI l).cons s).trans (hp.symm.trans (sI r).symm))) (PQ (Aa l) s) (Aa r)
theorem PR {l:List dN} (hs:l.Pairwise (·≤·)) (s:dN):nK l s=l.contains s:=by
 rw [Bool.eq_iff_iff]
 simp only [nK,decide_eq_true_eq,List.contains_iff_mem]
 constructor
 ·intro h
  exact List.mem_of_getElem? h
 ·intro h
  have e:l=l.take (eN l s)++l.drop (eN l s):=(List.take_append_drop _ _).symm
  rw [e] at h
  rcases List.mem_append.1 h with h | h
  ·rw [CZ] at h
   exact absurd (Db h) (List.lt_irrefl s)
  ·have hg:∀ x∈l.drop (eN l s),s≤x:=fun x hx=>by rw [Da] at hx; exact Dc hs hx
   have hsd:(l.drop (eN l s)).Pairwise (·≤·):=hs.sublist (List.drop_sublist _ _)
   have h0:l[eN l s]?=(l.drop (eN l s))[0]?:=by rw [List.getElem?_drop]; simp
   rw [h0]
   cases hd:l.drop (eN l s) with
   | nil=>rw [hd] at h; cases h
   | cons a r =>
     rw [hd] at h hg hsd
     have ha:=hg a si
     rw [List.pairwise_cons] at hsd
     have hle:a≤s:=by
      rcases List.mem_cons.1 h with h | h
      ·rw [h]; exact List.le_refl _
      ·exact hsd.1 s h
     simp [CX hle ha]
theorem qT (l:List dN) (s:dN):nK (bM l) s=l.contains s:=by
 rw [PR (Aa l),Bool.eq_iff_iff]
 simp only [List.contains_iff_mem]
 exact (sI l).mem_iff
theorem Ab {l:List dN} {s:dN} {k:Nat} {x:dN} (hk:k≤eN l s) (hx:l[k]?=some x):(x < s↔k < eN l s):=by
 constructor
 ·intro h
  rcases Nat.lt_or_ge k (eN l s) with h1 | h1
  ·exact h1
  ·exfalso
   have hke:k=eN l s:=om
   subst hke
   have h0:(l.drop (eN l s))[0]?=some x:=by rw [List.getElem?_drop]; simpa using hx
   rw [Da] at h0
   have hne:l.dropWhile (fun x=>decide (x < s))≠[]:=by intro e; rw [e] at h0; cases h0
   have:=List.head_dropWhile_not (fun x=>decide (x < s)) hne
   rw [List.head_eq_getElem] at this
   rw [List.getElem?_eq_getElem (List.length_pos_iff.2 hne)] at h0
   injection h0 with h0
   rw [h0] at this
   simp [h] at this
 ·intro h
  have h1:(l.take (eN l s))[k]?=some x:=by rw [List.getElem?_take_of_lt h]; exact hx
  rw [CZ] at h1
  exact Db (List.mem_of_getElem? h1)
theorem Hx {l:List dN} {s:dN} {k:Nat} (hk:k≤eN l s) (hx:l.length≤k):k=eN l s:=by
 have:=CY l s
 omega
/-! ### Levels -/
def lz (v : Nat) : Nat := min (16 - Lib.bitLen v) 11
theorem PT (v:Nat):lz v≤11:=Nat.min_le_right _ _
theorem PU {k x:Nat} (hx:x < 65536):Lib.bitLen x≤k↔x < 2 ^ k:=by
 constructor
 ·intro h
  apply Nat.lt_of_not_le
  intro h1
  have h2:=Lib.bitLen_shift k x h1 om
  have h3:1≤x / 2 ^ k:=(Nat.le_div_iff_mul_le (Nat.two_pow_pos k)).2 om
  have h4:=Lib.bitLen_half (x / 2 ^ k) om (Nat.lt_of_le_of_lt (Nat.div_le_self _ _) om)
  omega
 ·intro h
  rcases Nat.lt_or_ge k 65 with h1 | h1
  ·exact Lib.bitLen_le x k om h
  ·exact Nat.le_trans (Lib.bitLen_le x 16 om om) om
theorem Hy {v n:Nat} (hv:v < 65536) (hn:n < 11):n+1≤lz v↔v < 2 ^ (15 - n):=by
 rw [← PU hv]
 unfold lz
 omega
theorem PW {v n:Nat} (hv:v < 65536) (hn:n < 11) (h:n≤lz v):v / 2 ^ (15 - n) % 2=0↔n+1≤lz v:=by
 rw [Hy hv hn]
 have hp:0 < 2 ^ (15 - n):=Nat.two_pow_pos _
 have h2:v < 2 ^ (15 - n)*2:=by
  cases n with
  | zero=>omega
  | succ m =>
    have h5:=(Hy hv (n:=m) om).1 h
    rw [show 15 - m=(15 - (m+1))+1 by omega,Nat.pow_succ] at h5
    exact h5
 have h3:v / 2 ^ (15 - n) < 2:=Nat.div_lt_of_lt_mul h2
 have h4:v / 2 ^ (15 - n)=0↔v < 2 ^ (15 - n):=Nat.div_eq_zero_iff_lt hp
 generalize v / 2 ^ (15 - n)=q at *
 omega
def oT (x : Bs) : Nat := ((dO x).getD 0 0).toNat * 256 + ((dO x).getD 1 0).toNat
theorem De (x:Bs):oT x < 65536:=by
 have h1:=UInt8.toNat_lt ((dO x).getD 0 0)
 have h2:=UInt8.toNat_lt ((dO x).getD 1 0)
 unfold oT
 omega
def fU (x : Bs) : Nat := lz (oT x)
theorem Df (x:Bs):fU x < 12:=by have:=PT (oT x); unfold fU; omega
/-! ### Tables of items -/
def jG (t : BT) (l : List Bs) : BT := l.foldl (fun t x => t.change x 1) t
def eH (l : List Bs) (n : Nat) : BT := jG (BT.new n 0) l
theorem Dg (t:BT) (l:List Bs) (x:Bs):jG t (l++[x])=(jG t l).change x 1:=by simp [jG]
theorem BT.change_seed (t:BT) (key:Bs) (n:Int):(t.change key n).seed=t.seed:=rfl
theorem Dh (t:BT):∀ l:List Bs,(jG t l).cells.length=t.cells.length:=by
 intro l
 induction l generalizing t with
 | nil=>rfl
 | cons x l ih=>show (jG (t.change x 1) l).cells.length=_; rw [ih,BT.change_len]
theorem Di (t:BT):∀ l:List Bs,(jG t l).seed=t.seed:=by
 intro l
 induction l generalizing t with
 | nil=>rfl
 | cons x l ih=>show (jG (t.change x 1) l).seed=_; rw [ih,BT.change_seed]
theorem Hz {t:BT} (h:t.Ok):∀ {l:List Bs},(∀ x∈l,x.length=32)→(jG t l).Ok:=by
 intro l
 induction l generalizing t with
 | nil=>intro _; exact h
 | cons x l ih=>intro hl; exact ih (h.change (hl x (by simp)) 1) fun y hy=>hl y (by simp [hy])
theorem uR (n s:Nat):(BT.new n s).cells.length=n:=by simp [BT.new]
theorem oU (l:List Bs) (n:Nat):(eH l n).cells.length=n:=by rw [eH,Dh,uR]
theorem Ia (l:List Bs) (n:Nat):(eH l n).seed=0:=by rw [eH,Di]; rfl
theorem uS {l:List Bs} (h:∀ x∈l,x.length=32) (n:Nat):(eH l n).Ok:=Hz (BT.Ok.new n 0 (by unfold bI; decide)) h
/-! ### Strata -/
def iI (l : List Bs) (k : Nat) : BT := jG (BT.new 12 (k + 1)) (l.filter fun x => fU x == k)
def bC (l : List Bs) : List BT := (List.range 12).map (iI l)
theorem PX (l:List Bs) (x:Bs) (k:Nat):iI (l++[x]) k=if fU x=k then (iI l k).change x 1 else iI l k:=by
 unfold iI
 rw [List.filter_append]
 by_cases h:fU x=k
 ·rw [if_pos h,List.filter_cons_of_pos (by simpa using h),List.filter_nil,Dg]
 ·rw [if_neg h,List.filter_cons_of_neg (by simpa using h),List.filter_nil,List.append_nil]
theorem lY (l:List Bs):(bC l).length=12:=by simp [bC]
theorem sJ {l:List Bs} {k:Nat} (h:k < 12):(bC l)[k]?=some (iI l k):=by simp [bC,h]
theorem PY (l:List Bs) (x:Bs):bC (l++[x])=(bC l).set (fU x) ((iI l (fU x)).change x 1):=by
 apply List.ext_getElem?
 intro i
 have hx:=Df x
 by_cases hi:i < 12
 ·rw [sJ hi,PX,List.getElem?_set]
  by_cases h:fU x=i
  ·subst h
   simp [lY,hx]
  ·rw [if_neg h,if_neg h,sJ hi]
 ·rw [List.getElem?_eq_none (by rw [lY]; omega),List.getElem?_eq_none (by rw [List.length_set,lY]; omega)]
theorem PZ {l:List Bs} (h:∀ x∈l,x.length=32) {k:Nat} (hk:k < 12):(iI l k).Ok :=
 Hz (BT.Ok.new 12 (k+1) (by unfold bI; omega)) fun x hx=>h x (List.mem_filter.1 hx).1
theorem Ib (l:List Bs) (k:Nat):(iI l k).cells.length=12:=by rw [iI,Dh,uR]
theorem Ic (l:List Bs) (k:Nat):(iI l k).seed=k+1:=by rw [iI,Di]; rfl
def lD (ts : List BT) : Prop := ∀ i t, ts[i]? = some t → t.Ok ∧ t.cells.length = 12 ∧ t.seed = i + 1
theorem mZ {l:List Bs} (h:∀ x∈l,x.length=32):lD (bC l):=fun i t ht=>by
 have hi:i < 12:=by have:=(List.getElem?_eq_some_iff.1 ht).1; rwa [lY] at this
 rw [sJ hi] at ht
 injection ht with ht
 subst ht
 exact ⟨PZ h hi,Ib _ _,Ic _ _⟩
/-! ### Sketches -/
def mL (t : BT) : Bs := aE t.enc.length ++ t.enc
def bL (ts : List BT) : Bs := ts.flatMap mL
theorem Ac {t:BT} (h:t.Ok) (hn:t.cells.length=12):t.enc.length≤644:=by
 unfold BT.enc eA
 rw [List.take_of_length_le (Nat.le_refl _),List.length_append,List.length_append,hn]
 have h1:=fG 12 om
 have h2:=fG t.seed h.seed
 have h3:=Gg h.cells
 omega
theorem Qa {t:BT} (h:t.Ok) (hn:t.cells.length=12):(mL t).length≤654:=by
 have h1:=Ac h hn
 have h2:=fG t.enc.length om
 unfold mL
 rw [List.length_append]
 omega
theorem Ad (ts:List BT) (t:BT):bL (ts++[t])=bL ts++mL t:=by simp [bL]
theorem pW:∀ {ts:List BT},(∀ t∈ts,t.Ok∧t.cells.length=12)→(bL ts).length≤ts.length*654
 | [],_=>by simp [bL]
 | t::ts,h=>by
   have h1:=Qa (h t si).1 (h t si).2
   have h2:=pW (ts:=ts) fun t ht=>h t (by simp [ht])
   show (mL t++bL ts).length≤_
   rw [List.length_append,List.length_cons]
   omega
theorem lD.all {ts:List BT} (h:lD ts):∀ t∈ts,t.Ok∧t.cells.length=12:=fun t ht=>by
 obtain ⟨i,hi⟩:=List.mem_iff_getElem?.1 ht
 exact ⟨(h i t hi).1,(h i t hi).2.1⟩
def Rd.rest (r : Rd) : Bs × Rd := r.text (r.D.length - r.off)
def kD (t : BT) (n s : Nat) : Bool := decide (t.cells.length = n) && decide (t.seed = s)
def gF (r : Rd) : Nat → Option (List BT) × Rd
 | 0 => (some [], r)
 | i + 1 => match gF r i with
   | (none, r1) => (none, r1)
   | (some ts, r1) => match eB r1.rest.1 with
     | some t => if kD t 12 (i + 1) then (some (ts ++ [t]), r1.rest.2) else (none, r1.rest.2)
     | none => (none, r1.rest.2)
theorem Ie {r r1:Rd} {i:Nat} {ts:List BT} {t:BT} (h:gF r i=(some ts,r1)) (hd:eB r1.rest.1=some t) (ht:kD t 12 (i+1)=true):gF r (i+1)=(some (ts++[t]),r1.rest.2):=by
 rw [gF,h]
 simp only [hd,ht,if_true]
theorem If {r r1:Rd} {i:Nat} {ts:List BT} (h:gF r i=(some ts,r1)) (hd:eB r1.rest.1=none∨∃ t,eB r1.rest.1=some t∧kD t 12 (i+1)=false):(gF r (i+1)).1=none:=by
 rw [gF,h]
 rcases hd with hd | ⟨t,hd,ht⟩
 ·simp only [hd]
 ·simp only [hd,ht]
  rfl
theorem Ig {r:Rd} {i:Nat} (h:(gF r i).1=none):∀ j,(gF r (i+j)).1=none
 | 0=>h
 | j+1=>by
   have ih:=Ig h j
   show (gF r (i+j+1)).1=none
   rw [gF]
   cases hh:gF r (i+j) with
   | mk a b=>rw [hh] at ih; simp only at ih; subst ih; rfl
def cM (D : Bs) : Option (List BT) := match gF (Rd.mk D 0 0 0) 12 with
 | (some ts, r) => if r.end_ = 0 then some ts else none
 | (none, _) => none
theorem Ih {r:Rd}:∀ {i:Nat} {ts:List BT} {r1:Rd},gF r i=(some ts,r1)→ts.length=i∧lD ts
 | 0,ts,r1,h=>by
   rw [gF] at h
   simp only [Prod.mk.injEq,Option.some.injEq] at h
   rw [← h.1]
   exact ⟨rfl,fun i t ht=>by simp at ht⟩
 | i+1,ts,r1,h=>by
   rw [gF] at h
   cases hh:gF r i with
   | mk a b =>
     rw [hh] at h
     cases a with
     | none=>simp at h
     | some us =>
       obtain ⟨h1,h2⟩:=Ih hh
       simp only at h
       cases hd:eB b.rest.1 with
       | none=>rw [hd] at h; simp at h
       | some t =>
         rw [hd] at h
         simp only at h
         split at h
         ·rename_i ht
          simp only [Prod.mk.injEq,Option.some.injEq] at h
          rw [← h.1]
          refine ⟨by simp [h1],fun j u hu=>?_⟩
          rcases Nat.lt_or_ge j us.length with hj | hj
          ·rw [List.getElem?_append_left hj] at hu
           exact h2 j u hu
          ·rw [List.getElem?_append_right hj] at hu
           have hj0:j - us.length=0:=by
            have:=(List.getElem?_eq_some_iff.1 hu).1
            simp at this
            omega
           rw [hj0] at hu
           simp at hu
           subst hu
           unfold kD at ht
           simp only [Bool.and_eq_true,decide_eq_true_eq] at ht
           refine ⟨?_,ht.1,by rw [ht.2,← h1]; omega⟩
           unfold eB at hd
           split at hd
           ·injection hd with hd
            subst hd
            exact Ct _
           ·cases hd
         ·simp at h
theorem oV {D:Bs} {ts:List BT} (h:cM D=some ts):ts.length=12∧lD ts:=by
 unfold cM at h
 cases hh:gF (Rd.mk D 0 0 0) 12 with
 | mk a b =>
   rw [hh] at h
   cases a with
   | none=>simp at h
   | some us =>
     simp only at h
     split at h
     ·injection h with h
      subst h
      exact Ih hh
     ·cases h
/-! ### Estimates -/
theorem Ii : ∀ (n : Nat) {s s' : dZ}, fS n s = some s' → s'.added.length ≤ s.added.length + n ∧ s'.removed.length ≤ s.removed.length + n
 | 0, s, s', e => by cases e; exact ⟨Nat.le_refl _, Nat.le_refl _⟩
 | n + 1, s, s', e => by
   unfold fS at e
   cases hf : s.t.first with
   | none => rw [hf] at e; cases e; exact ⟨by omega, by omega⟩
   | some i =>
     rw [hf] at e
     simp only at e
     split at e
     ·cases e
     ·have := Ii n e
      unfold dZ.take at this
      simp only at this
      constructor
      ·have h := this.1; split at h <;> (try simp only [List.length_append, List.length_cons, List.length_nil] at h) <;> omega
      ·have h := this.2; split at h <;> (try simp only [List.length_append, List.length_cons, List.length_nil] at h) <;> omega
theorem Qb {t:BT} {p:List Bs × List Bs} (hk:t.raw=some p):p.1.length≤t.cells.length∧p.2.length≤t.cells.length:=by
 unfold BT.raw at hk
 cases hp:fS t.cells.length ⟨t,[],[],[]⟩ with
 | none=>rw [hp] at hk; simp at hk
 | some s =>
   rw [hp] at hk
   have hl:=Ii _ hp
   cases he:s.t.empty with
   | false=>simp [he] at hk
   | true =>
     simp only [he,if_true,Option.some.injEq] at hk
     rw [← hk]
     simpa using hl
theorem Ae {t:BT} {l m:List Bs} (h:t.keys=some (l,m)):∃ p,t.raw=some p∧l=bM p.1∧m=bM p.2:=by
 unfold BT.keys at h
 cases hr:t.raw with
 | none=>rw [hr] at h; simp at h
 | some p =>
   rw [hr] at h
   simp only [Option.map_some,Option.some.injEq,Prod.mk.injEq] at h
   exact ⟨p,rfl,h.1.symm,h.2.symm⟩
theorem Ij {t:BT} (h:t.keys=none):t.raw=none:=by
 unfold BT.keys at h
 cases hr:t.raw with
 | none=>rfl
 | some p=>rw [hr] at h; simp at h
theorem oW (l:List Bs):(bM l).length=l.length:=(sI l).length_eq
theorem Dj {t:BT} {l m:List Bs} (h:t.keys=some (l,m)):l.length≤t.cells.length∧m.length≤t.cells.length:=by
 obtain ⟨p,hp,rfl,rfl⟩:=Ae h
 have:=Qb hp
 rw [oW,oW]
 exact this
def nL (a b : List BT) : Nat → Nat → Nat
 | 0, s => s
 | i + 1, s => match ((a.getD i (BT.new 0 0)).sub (b.getD i (BT.new 0 0))).raw with
   | none => (s + 1) * 2 ^ (i + 1)
   | some p => nL a b i (s + p.1.length + p.2.length)
def gR (a b : List BT) : Nat := nL a b 12 0
theorem Ik {a b:List BT} {i s:Nat} {t u:BT} (ha:a[i]?=some t) (hb:b[i]?=some u) (h:(t.sub u).keys=none):nL a b (i+1) s=(s+1)*2 ^ (i+1):=by
 rw [nL,List.getD_eq_getElem?_getD,List.getD_eq_getElem?_getD,ha,hb]
 simp only [Option.getD_some]
 rw [Ij h]
theorem Il {a b:List BT} {i s:Nat} {t u:BT} {l m:List Bs} (ha:a[i]?=some t) (hb:b[i]?=some u) (h:(t.sub u).keys=some (l,m)):nL a b (i+1) s=nL a b i (s+l.length+m.length):=by
 obtain ⟨p,hp,rfl,rfl⟩:=Ae h
 rw [nL,List.getD_eq_getElem?_getD,List.getD_eq_getElem?_getD,ha,hb]
 simp only [Option.getD_some]
 rw [hp,oW,oW]
/-! ### What a table tells -/
/-- The items that only this side has, those that only the other side has: out of its table and its fingerprint. -/
def jR (its offs needs : List Bs) : List Bs := bM ((its.filter fun x => !offs.contains x) ++ needs)
def qU (its needs offs : List Bs) : Bool := (!needs.any fun x => its.contains x) && !offs.any fun x => !its.contains x
def sK (its : List Bs) (t : BT) (print : Bs) : Option (List Bs × List Bs) := match ((eH its t.cells.length).sub t).keys with
 | none => none
 | some (offs, needs) => if qU its needs offs && decide (dR (jR its offs needs) = 0) && decide (eV (jR its offs needs) = print) then some (offs, needs) else none
section
theorem Qc {w W w1 wf:World} {v:Value} {n br b2:Nat} {xs:List Value} (ho:w1.ownsRow W.drew.heap.size 5 1 v n xs) (hf:Fr [br,b2] w1 wf) (hbr:br < W.drew.heap.size) (hb2:b2 < W.drew.heap.size) (hw:w.heap.size≤W.drew.heap.size):wf.ownsRow w.heap.size 5 1 v n xs:=by
 refine tG (dY ho hf ?_) hw
 intro g hg hm
 have:=(ho.lt g hg).1
 simp only [List.mem_cons,List.not_mem_nil,or_false] at hm
 omega
theorem Qd {w0 w:World} {br:Nat} {cs:List Ch} {t:TypeId} {l:List Value} {A:Option Addr} {m c i:Nat} {xs:List Value} (hM:Mm w0 [br] cs w) (h0:cs[0]?=some (aD br t l)) (hi:cs[i]?=some (aR 5 1 A m c xs)) (hne:i≠0):w.ownsRow w0.heap.size 5 1 (.slice A m c) m xs:=by
 have ho:w.ownsRow 0 5 1 (.slice A m c) m xs:=hM.at hi
 obtain ⟨hl,h⟩:=ho
 refine ⟨hl,?_⟩
 rcases h with h | ⟨g,cap,cur,hv,hge,h1⟩
 ·exact .inl h
 ·refine .inr ⟨g,cap,cur,hv,?_,h1⟩
  simp only [Value.slice.injEq] at hv
  have hb:g∈(aR 5 1 A m c xs).fp:=by rw [show A=some ⟨g,0,none⟩ from hv.1]; simp [aR,cZ]
  rcases hM.own g (List.mem_flatMap.2 ⟨_,List.mem_of_getElem? hi,hb⟩) with h2 | h2
  ·exfalso
   have e:g=br:=by simpa using h2
   exact yJ hM.nodup h0 hi (fun e=>hne e.symm) br (by simp [aD]) (e▸hb)
  ·exact h2
theorem Qe {w:World} {base:Nat} {e:TypeId}:w.ownsRow base e 1 nS 0 []:=⟨rfl,.inl ⟨rfl,rfl⟩⟩
theorem Mm.UL {w0 w':World} {F:List Nat} {cs:List Ch} {k:Nat} {e:TypeId} {A:Option Addr} {n c:Nat} {xs:List Value} (h:Mm w0 F cs w') (hlt:∀ b∈cs.flatMap Ch.fp,b < k) (hk:w0.heap.size≤k) (ho:w'.ownsRow k e 1 (.slice A n c) n xs):Mm w0 F (cs++[aR e 1 A n c xs]) w':=by
 have hg:∀ b∈(aR e 1 A n c xs).fp,k≤b:=by
  intro b hb
  rcases ho.2 with ⟨hv,_⟩ | ⟨g,cap,cur,hv,h1,_⟩
  ·simp only [Value.slice.injEq] at hv
   obtain ⟨rfl,_,_⟩:=hv
   simp [aR,cZ] at hb
  ·simp only [Value.slice.injEq] at hv
   obtain ⟨rfl,_,_⟩:=hv
   simp [aR,cZ] at hb
   omega
 refine ⟨h.fr,?_,?_,?_⟩
 ·intro x hx
  rcases List.mem_append.1 hx with hx | hx
  ·exact h.hold x hx
  ·rw [List.mem_singleton] at hx
   subst hx
   exact tG ho (Nat.zero_le _)
 ·rw [List.flatMap_append,List.nodup_append]
  refine ⟨h.nodup,by simpa [aR] using rN A,fun a ha b hb e=>?_⟩
  subst e
  have h1:=hlt a ha
  have h2:=hg a (by simpa using hb)
  omega
 ·intro b hb
  rw [List.flatMap_append] at hb
  rcases List.mem_append.1 hb with hb | hb
  ·exact h.own b hb
  ·exact .inr (by have:=hg b (by simpa using hb); omega)
section
variable {X : Option Addr × Nat}
theorem Qf (bx by_ br:Nat) (D:List UInt8) (off last most:Nat) (w:World) (hx0:At w bx 124 [vP br 0]) (hy0:At w by_ 3 [vi (most:Int)]) (hr:aX X w br D off last 0) (hl:D.length≤4294967296) (ho:off≤D.length) (hm:most≤4294967296) (n m:Nat) (hd:dE D off=some (n,m)) (hn:n≤most) (hf:m+n≤D.length) :
  Calls Tryz.prog 124 #[vP bx 0,vP by_ 0] w fun e w'=>∃ A c,e = .returned (.tuple #[.slice A ((D.drop m).take n).length c,vi 0])∧Fr [br] w w'∧aX X w' br D (m+n) last 0∧w'.ownsRow w.heap.size 5 1 (.slice A ((D.drop m).take n).length c) ((D.drop m).take n).length (B8 ((D.drop m).take n)):=by
 obtain ⟨A,c,hX,ha,hown⟩:=hr
 have hx:w.cell? ⟨bx,0,none⟩=some (Value.pointer (some ⟨br,0,none⟩)):=by rw [hx0.cell]; rfl
 have hxb:bx≠br:=hx0.ne ha (by decide)
 have hy:w.cell? ⟨by_,0,none⟩=some (Value.int .i64 (most:Int)):=by rw [hy0.cell]; rfl
 have hyb:by_≠br:=hy0.ne ha (by decide)
 have HA:=Lib.hid ha
 have HO:=Lib.hid hown
 have HR:Hid (aH w A (B8 D)):=aH.cN hown
 have hc:D.length≤c:=ownCap hown
 have HNB:Hid (∀ g,(Value.slice A D.length c).ownBlock=some g→g∉[br]):=fun g hg=>by
  have h1:=jZ hown ha (by decide)
  simp only [List.mem_singleton]
  rintro rfl
  exact h1 hg.symm
 have HNE:Hid (∀ b o,A=some ⟨b,o,none⟩→b∉[br]):=fun b o hA=>HNB.out b (by rw [hA]; rfl)
 clear ha hown hx0 hy0
 have rp:Ro [br] w (fun w=>aH w (if c=m then A else A.map (·.add (m*1))) (B8 ((D.drop m).take n))):=fun w' hf=>Cq (HR.out.fr hf HNE.out) (by rw [dL]; exact hc)
 refine bK Tryz.func124 15 (Mm.one HA.out) rfl<|Nc<|lx rfl<|Nb<|lW (rW (fun w hM=>hM.dX hx (by simpa using hxb)))<|lW (rW (fun w hM=>hM.dX hy (by simpa using hyb)))<|Nx<|cU 125 #[(vP br 0),(vI most)] rfl kr (fun _=>kr) (fun w hM=>(Hi br D off last most w A c (hM.at (i:=0) rfl) (dY HO.out hM.fr HNB.out) hl ho hm n m hd hn hf).mono ?_)
 rintro e w' ⟨rfl,hf2,ha2⟩
 have hM':=hM.swap 0 (c':=aD br 187 [(vL A D c),(vI (m+n)),(vI last),(vi 0)]) rfl hf2 ha2 (fun b hb=>.inl hb) (by simp [aD])
 exact ⟨_,_,rfl,hM',lx rfl<|Nb<|lx rfl<|Nx<|rS (fun w hM=>hM.gY 5 1)<|cY fH 1 (B8 ((D.drop m).take n)) rfl rfl kr rfl rfl rfl (by rw [dL,List.length_take,List.length_drop,Nat.min_eq_left om,Nat.mul_one]) (fun w hM=>dV.jW (rp.now hM)) ((gS _)) (by have:=List.length_take_le n (D.drop m); omega) (((D.drop m).take n).length) fN (B8 ((D.drop m).take n)) (by simp [B8]) (fun A13 c13=>lx rfl<|Nd<|sN [(vL A13 ((D.drop m).take n) c13),(vi 0)] fun w hM=>⟨A13,c13,rfl,hM.fr,⟨A,c,hX,hM.at (i:=0) rfl,dY HO.out hM.fr HNB.out⟩,Qd hM (i:=1) rfl rfl (by decide)⟩)⟩
theorem Qg (bx by_ br:Nat) (D:List UInt8) (off last most:Nat) (w:World) (hx0:At w bx 124 [vP br 0]) (hy0:At w by_ 3 [vi (most:Int)]) (hr:aX X w br D off last 0) (hl:D.length≤4294967296) (ho:off≤D.length) (hm:most≤4294967296) (n m:Nat) (hd:dE D off=some (n,m)) (hn:n≤most) (hf:D.length < m+n) :
  Calls Tryz.prog 124 #[vP bx 0,vP by_ 0] w fun e w'=>∃ A n c,e = .returned (.tuple #[.slice A n c,vi 3])∧Fr [br] w w'∧∃ off':Nat,aX X w' br D off' last 0:=by
 obtain ⟨A,c,hX,ha,hown⟩:=hr
 have hx:w.cell? ⟨bx,0,none⟩=some (Value.pointer (some ⟨br,0,none⟩)):=by rw [hx0.cell]; rfl
 have hxb:bx≠br:=hx0.ne ha (by decide)
 have hy:w.cell? ⟨by_,0,none⟩=some (Value.int .i64 (most:Int)):=by rw [hy0.cell]; rfl
 have hyb:by_≠br:=hy0.ne ha (by decide)
 have HA:=Lib.hid ha
 have HO:=Lib.hid hown
 have HR:Hid (aH w A (B8 D)):=aH.cN hown
 have hc:D.length≤c:=ownCap hown
 have HNB:Hid (∀ g,(Value.slice A D.length c).ownBlock=some g→g∉[br]):=fun g hg=>by
  have h1:=jZ hown ha (by decide)
  simp only [List.mem_singleton]
  rintro rfl
  exact h1 hg.symm
 have HNE:Hid (∀ b o,A=some ⟨b,o,none⟩→b∉[br]):=fun b o hA=>HNB.out b (by rw [hA]; rfl)
 clear ha hown hx0 hy0
 refine bK Tryz.func124 15 (Mm.one HA.out) rfl<|Nc<|lx rfl<|Nb<|lW (rW (fun w hM=>hM.dX hx (by simpa using hxb)))<|lW (rW (fun w hM=>hM.dX hy (by simpa using hyb)))<|Nx<|cU 125 #[(vP br 0),(vI most)] rfl kr (fun _=>kr) (fun w hM=>(Hj br D off last most w A c (hM.at (i:=0) rfl) (dY HO.out hM.fr HNB.out) hl ho hm n m hd hn hf).mono ?_)
 rintro e w' ⟨rfl,hf2,off',ha2⟩
 have hM':=hM.swap 0 (c':=aD br 187 [(vL A D c),(vI off'),(vI last),(vi 0)]) rfl hf2 ha2 (fun b hb=>.inl hb) (by simp [aD])
 exact ⟨_,_,rfl,hM',lx rfl<|Nb<|lx rfl<|Nx<|rS (fun w hM=>hM.gY 5 1)<|cY fH 1 (B8 ([]:List UInt8)) rfl rfl kr rfl rfl rfl (rfl) (Bw) ((gS _)) si (([]:List UInt8).length) fN (B8 ([]:List UInt8)) (by simp [B8]) (fun A13 c13=>lx rfl<|Nd<|sN [(vL A13 ([]:List UInt8) c13),(vi 3)] fun w hM=>⟨_,_,_,rfl,hM.fr,_,A,c,hX,hM.at (i:=0) rfl,dY HO.out hM.fr HNB.out⟩)⟩
theorem Qh (bx by_ br:Nat) (D:List UInt8) (off last most:Nat) (w:World) (hx0:At w bx 124 [vP br 0]) (hy0:At w by_ 3 [vi (most:Int)]) (hr:aX X w br D off last 0) (hl:D.length≤4294967296) (ho:off≤D.length) (hm:most≤4294967296) (n m:Nat) (hd:dE D off=some (n,m)) (hn:most < n) :
  Calls Tryz.prog 124 #[vP bx 0,vP by_ 0] w fun e w'=>∃ A n c,e = .returned (.tuple #[.slice A n c,vi 2])∧Fr [br] w w'∧∃ off':Nat,aX X w' br D off' last 0:=by
 obtain ⟨A,c,hX,ha,hown⟩:=hr
 have hx:w.cell? ⟨bx,0,none⟩=some (Value.pointer (some ⟨br,0,none⟩)):=by rw [hx0.cell]; rfl
 have hxb:bx≠br:=hx0.ne ha (by decide)
 have hy:w.cell? ⟨by_,0,none⟩=some (Value.int .i64 (most:Int)):=by rw [hy0.cell]; rfl
 have hyb:by_≠br:=hy0.ne ha (by decide)
 have HA:=Lib.hid ha
 have HO:=Lib.hid hown
 have HR:Hid (aH w A (B8 D)):=aH.cN hown
 have hc:D.length≤c:=ownCap hown
 have HNB:Hid (∀ g,(Value.slice A D.length c).ownBlock=some g→g∉[br]):=fun g hg=>by
  have h1:=jZ hown ha (by decide)
  simp only [List.mem_singleton]
  rintro rfl
  exact h1 hg.symm
 have HNE:Hid (∀ b o,A=some ⟨b,o,none⟩→b∉[br]):=fun b o hA=>HNB.out b (by rw [hA]; rfl)
 clear ha hown hx0 hy0
 refine bK Tryz.func124 15 (Mm.one HA.out) rfl<|Nc<|lx rfl<|Nb<|lW (rW (fun w hM=>hM.dX hx (by simpa using hxb)))<|lW (rW (fun w hM=>hM.dX hy (by simpa using hyb)))<|Nx<|cU 125 #[(vP br 0),(vI most)] rfl kr (fun _=>kr) (fun w hM=>(Hk br D off last most w A c (hM.at (i:=0) rfl) (dY HO.out hM.fr HNB.out) hl ho hm n m hd hn).mono ?_)
 rintro e w' ⟨rfl,hf2,off',ha2⟩
 have hM':=hM.swap 0 (c':=aD br 187 [(vL A D c),(vI off'),(vI last),(vi 0)]) rfl hf2 ha2 (fun b hb=>.inl hb) (by simp [aD])
 exact ⟨_,_,rfl,hM',lx rfl<|Nb<|lx rfl<|Nx<|rS (fun w hM=>hM.gY 5 1)<|cY fH 1 (B8 ([]:List UInt8)) rfl rfl kr rfl rfl rfl (rfl) (Bw) ((gS _)) si (([]:List UInt8).length) fN (B8 ([]:List UInt8)) (by simp [B8]) (fun A13 c13=>lx rfl<|Nd<|sN [(vL A13 ([]:List UInt8) c13),(vi 2)] fun w hM=>⟨_,_,_,rfl,hM.fr,_,A,c,hX,hM.at (i:=0) rfl,dY HO.out hM.fr HNB.out⟩)⟩
theorem Qi (bx by_ br:Nat) (D:List UInt8) (off last most:Nat) (w:World) (hx0:At w bx 124 [vP br 0]) (hy0:At w by_ 3 [vi (most:Int)]) (hr:aX X w br D off last 0) (hl:D.length≤4294967296) (ho:off≤D.length) (hm:most≤4294967296) (hd:dE D off=none) :
  Calls Tryz.prog 124 #[vP bx 0,vP by_ 0] w fun e w'=>∃ A n c,e = .returned (.tuple #[.slice A n c,vi 3])∧Fr [br] w w'∧∃ off':Nat,aX X w' br D off' last 0:=by
 obtain ⟨A,c,hX,ha,hown⟩:=hr
 have hx:w.cell? ⟨bx,0,none⟩=some (Value.pointer (some ⟨br,0,none⟩)):=by rw [hx0.cell]; rfl
 have hxb:bx≠br:=hx0.ne ha (by decide)
 have hy:w.cell? ⟨by_,0,none⟩=some (Value.int .i64 (most:Int)):=by rw [hy0.cell]; rfl
 have hyb:by_≠br:=hy0.ne ha (by decide)
 have HA:=Lib.hid ha
 have HO:=Lib.hid hown
 have HR:Hid (aH w A (B8 D)):=aH.cN hown
 have hc:D.length≤c:=ownCap hown
 have HNB:Hid (∀ g,(Value.slice A D.length c).ownBlock=some g→g∉[br]):=fun g hg=>by
  have h1:=jZ hown ha (by decide)
  simp only [List.mem_singleton]
  rintro rfl
  exact h1 hg.symm
 have HNE:Hid (∀ b o,A=some ⟨b,o,none⟩→b∉[br]):=fun b o hA=>HNB.out b (by rw [hA]; rfl)
 clear ha hown hx0 hy0
 refine bK Tryz.func124 15 (Mm.one HA.out) rfl<|Nc<|lx rfl<|Nb<|lW (rW (fun w hM=>hM.dX hx (by simpa using hxb)))<|lW (rW (fun w hM=>hM.dX hy (by simpa using hyb)))<|Nx<|cU 125 #[(vP br 0),(vI most)] rfl kr (fun _=>kr) (fun w hM=>(Hl br D off last most w A c (hM.at (i:=0) rfl) (dY HO.out hM.fr HNB.out) hl ho hm hd).mono ?_)
 rintro e w' ⟨rfl,hf2,off',ha2⟩
 have hM':=hM.swap 0 (c':=aD br 187 [(vL A D c),(vI off'),(vI last),(vi 0)]) rfl hf2 ha2 (fun b hb=>.inl hb) (by simp [aD])
 exact ⟨_,_,rfl,hM',lx rfl<|Nb<|lx rfl<|Nx<|rS (fun w hM=>hM.gY 5 1)<|cY fH 1 (B8 ([]:List UInt8)) rfl rfl kr rfl rfl rfl (rfl) (Bw) ((gS _)) si (([]:List UInt8).length) fN (B8 ([]:List UInt8)) (by simp [B8]) (fun A13 c13=>lx rfl<|Nd<|sN [(vL A13 ([]:List UInt8) c13),(vi 3)] fun w hM=>⟨_,_,_,rfl,hM.fr,_,A,c,hX,hM.at (i:=0) rfl,dY HO.out hM.fr HNB.out⟩)⟩
theorem Qj (b0 b1 b2 br:Nat) (A:Option Addr) (n c:Nat) (off last start:Int) (w:World) (h0:At w b0 3 [vi start]) (h1:At w b1 124 [vP br 0]) (hr:At w br 187 [.slice A n c,vi off,vi last,vi 0]) :
  CallsD Tryz.prog 166 #[vP b0 0,vP b1 0,vP b2 0] .returning w fun e u' w'=>u' = .returning∧e = .returned (.tuple #[])∧w'=w.setCell ⟨br,2,none⟩ (vi start):=by
 have c0:w.cell? ⟨b0,0,none⟩=some (Value.int .i64 start):=by rw [h0.cell]; rfl
 have c1:w.cell? ⟨b1,0,none⟩=some (Value.pointer (some ⟨br,0,none⟩)):=by rw [h1.cell]; rfl
 have c2:w.cell? ⟨br,2,none⟩=some (Value.int .i64 last):=by rw [hr.cell]; rfl
 have c3:w.cell? ⟨br,3,none⟩=some (vi 0):=by rw [hr.cell]; rfl
 have z2:=hr.frozen 2
 have hne:b1≠br:=h1.ne hr (by decide)
 clear h0 h1 hr
 go_enter_d Tryz.func166,Tryz.ntmps166
 go_wp2_with fail
 go_end0
 exact ⟨rfl,rfl⟩
theorem Qk (b0 b1 b2 br:Nat) (A:Option Addr) (n c:Nat) (off last start err:Int) (v:Value) (w:World) (h0:At w b0 3 [vi start]) (h1:At w b1 124 [vP br 0]) (h2:At w b2 23 [v]) (hr:At w br 187 [.slice A n c,vi off,vi last,vi err]) (he:err≠0) (hb:b2≠b0∧b2≠br) :
  CallsD Tryz.prog 166 #[vP b0 0,vP b1 0,vP b2 0] .returning w fun e u' w'=>u' = .returning∧e = .returned (.tuple #[])∧w'=((w.setCell ⟨br,2,none⟩ (vi start)).setCell ⟨br,1,none⟩ (vi start)).setCell ⟨b2,0,none⟩ nS:=by
 have c0:w.cell? ⟨b0,0,none⟩=some (Value.int .i64 start):=by rw [h0.cell]; rfl
 have c1:w.cell? ⟨b1,0,none⟩=some (Value.pointer (some ⟨br,0,none⟩)):=by rw [h1.cell]; rfl
 have cr1:w.cell? ⟨br,1,none⟩=some (Value.int .i64 off):=by rw [hr.cell]; rfl
 have c2:w.cell? ⟨br,2,none⟩=some (Value.int .i64 last):=by rw [hr.cell]; rfl
 have c3:w.cell? ⟨br,3,none⟩=some (Value.int .i64 err):=by rw [hr.cell]; rfl
 have c4:w.cell? ⟨b2,0,none⟩=some v:=by rw [h2.cell]; rfl
 have z2:=hr.frozen 2
 have z1:=hr.frozen 1
 have z4:=h2.frozen 0
 have hne:b1≠br:=h1.ne hr (by decide)
 have hne2:b2≠br:=hb.2
 have hne0:b0≠br:=h0.ne hr (by decide)
 have heb:(err != 0)=true:=by simpa using he
 clear h0 h1 hr h2 he hb
 go_enter_d Tryz.func166,Tryz.ntmps166
 go_wp2_with fail
 go_end0
 exact ⟨rfl,rfl⟩
set_option maxHeartbeats 4000000 in
theorem Ql (br:Nat) (D:List UInt8) (off last m:Nat) (xs:List UInt8) (bx by_:Nat) (w:World) (hr:aX X w br D off last 0)
  (hdec:∀ W,Fr [] w W→aX X W br D off last 0→Calls Tryz.prog 124 #[vP bx 0,vP by_ 0] W fun e w'=>∃ A c,e = .returned (.tuple #[.slice A xs.length c,vi 0])∧Fr [br] W w'∧aX X w' br D m last 0∧w'.ownsRow W.heap.size 5 1 (.slice A xs.length c) xs.length (B8 xs)) :
  Calls Tryz.prog 123 #[vP br 0,.func (.func 124) #[] #[vP bx 0,vP by_ 0]] w fun e w'=>∃ A c,e = .returned (.slice A xs.length c)∧Fr [br] w w'∧aX X w' br D m off 0∧w'.ownsRow w.heap.size 5 1 (.slice A xs.length c) xs.length (B8 xs):=by
 obtain ⟨A,c,hX,ha,hrow⟩:=hr
 have c1:w.cell? ⟨br,1,none⟩=some (Value.int .i64 (off:Int)):=by rw [ha.cell]; rfl
 have c3:w.cell? ⟨br,3,none⟩=some (vi 0):=by rw [ha.cell]; rfl
 have hlt:=ha.lt
 have HR:=Lib.hid (And.intro ha hrow)
 have HD:=Lib.hid hdec
 clear ha hrow hdec
 have hmf:∀ (fn:Fn) (first cap:Array Value) (w:World),(Instr.makeFunc fn first cap).run Tryz.prog w = .ok (.func fn first cap) w:=fun _ _ _ _=>rfl
 go_enter_defers Tryz.func123,Tryz.ntmps123
 go_wp2_with fail
 obtain ⟨W,hW⟩:∃ W,W=((w.alloc (Obj.cells #[vP br 0] 124)).alloc (Obj.cells #[nS] 23)).alloc (Obj.cells #[vi (off:Int)] 3):=⟨_,rfl⟩
 rw [← hW]
 have HW:Hid (At W w.heap.size 124 [vP br 0]∧At W (w.heap.size+1) 23 [nS]∧At W (w.heap.size+1+1) 3 [vi (off:Int)]∧Fr [] w W∧aX X W br D off last 0):=by
  rw [hW]
  refine ⟨((At.new w 124 [vP br 0]).alloc _).alloc _,?_,?_,(((Fr.refl _ _).alloc _).alloc _).alloc _,A,c,hX,((HR.out.1.alloc _).alloc _).alloc _,((HR.out.2.alloc _).alloc _).alloc _⟩
  ·have:=(At.new (w.alloc (Obj.cells #[vP br 0] 124)) 23 [nS]).alloc (Obj.cells #[vi (off:Int)] 3)
   simpa using this
  ·have:=At.new ((w.alloc (Obj.cells #[vP br 0] 124)).alloc (Obj.cells #[nS] 23)) 3 [vi (off:Int)]
   simpa using this
 clear hW c1 c3
 have d0:W.cell? ⟨w.heap.size,0,none⟩=some (Value.pointer (some ⟨br,0,none⟩)):=by rw [HW.out.1.cell]; rfl
 have nb1:w.heap.size≠br:=om
 have nb2:br≠w.heap.size:=om
 go_region_held3 (fun w'=>w'.cell? ⟨w.heap.size,0,none⟩=some (Value.pointer (some ⟨br,0,none⟩))) (go_keep) (first | (go_at_call 124; refine (HD.out W.drew (by exact HW.out.2.2.2.1.drew) (by exact HW.out.2.2.2.2)).mono ?_; rintro e w1 ⟨AV,cV,rfl,hf1,hr1,ho1⟩; obtain ⟨e0,e1,z1,e3,z3⟩:=oM (W:=W) HW.out.1 HW.out.2.1 HW.out.2.2.2.2 hf1 hr1; have H1:=Lib.hid (And.intro hf1 hr1); have HO1:=Lib.hid ho1; clear hf1 hr1 ho1))
 go_wp2_with fail
 obtain ⟨k0,k1,k2,k3,kf⟩:=oN HW.out.1 HW.out.2.1 HW.out.2.2.1 HW.out.2.2.2.2 H1.out.1 H1.out.2 (.slice AV xs.length cV) (vi 0) om (by decide)
 refine leaves_cons (f:=166) (args:=#[Value.pointer (some ⟨w.heap.size+1+1,0,none⟩),Value.pointer (some ⟨w.heap.size,0,none⟩),Value.pointer (some ⟨w.heap.size+1,0,none⟩)]) si (by simp [go_sem]) ?_
 obtain ⟨A',c',hX',k3'⟩:=k3
 refine (Qj _ _ _ br A' _ c' _ _ _ _ k2 k0 k3'.1).mono ?_
 rintro e u' w'' ⟨rfl,rfl,rfl⟩
 have hsz:w.heap.size+1+1 < W.drew.heap.size:=(At.drew HW.out.2.2.1).lt
 obtain ⟨g1,g2,g3⟩:=wJ (off:=off) HW.out.2.2.2.1 kf om k1 (by decide) k3'.1 k3'.2 hX'
 exact ⟨.slice AV xs.length cV,by simp [results,Tryz.results123,go_sem,g1],AV,cV,rfl,g2,g3,Qc HO1.out (b2:=w.heap.size+1) (br:=br) (((((Fr.refl _ _).setCell (.inl si) _).setCell (.inl si) _).setCell (.inl si) _).setCell (.inl si) _) om om om⟩
set_option maxHeartbeats 4000000 in
theorem Dk (br:Nat) (D:List UInt8) (off last:Nat) (er:Int)  (bx by_:Nat) (w:World) (hr:aX X w br D off last 0) (he:er≠0)
  (hdec:∀ W,Fr [] w W→aX X W br D off last 0→Calls Tryz.prog 124 #[vP bx 0,vP by_ 0] W fun e w'=>∃ A n c,e = .returned (.tuple #[.slice A n c,vi er])∧Fr [br] W w'∧∃ off':Nat,aX X w' br D off' last 0) :
  Calls Tryz.prog 123 #[vP br 0,.func (.func 124) #[] #[vP bx 0,vP by_ 0]] w fun e w'=>e = .returned nS∧Fr [br] w w'∧aX X w' br D off off er:=by
 have HE:=Lib.hid he
 clear he
 obtain ⟨A,c,hX,ha,hrow⟩:=hr
 have c1:w.cell? ⟨br,1,none⟩=some (Value.int .i64 (off:Int)):=by rw [ha.cell]; rfl
 have c3:w.cell? ⟨br,3,none⟩=some (vi 0):=by rw [ha.cell]; rfl
 have hlt:=ha.lt
 have HR:=Lib.hid (And.intro ha hrow)
 have HD:=Lib.hid hdec
 clear ha hrow hdec
 have hmf:∀ (fn:Fn) (first cap:Array Value) (w:World),(Instr.makeFunc fn first cap).run Tryz.prog w = .ok (.func fn first cap) w:=fun _ _ _ _=>rfl
 go_enter_defers Tryz.func123,Tryz.ntmps123
 go_wp2_with fail
 obtain ⟨W,hW⟩:∃ W,W=((w.alloc (Obj.cells #[vP br 0] 124)).alloc (Obj.cells #[nS] 23)).alloc (Obj.cells #[vi (off:Int)] 3):=⟨_,rfl⟩
 rw [← hW]
 have HW:Hid (At W w.heap.size 124 [vP br 0]∧At W (w.heap.size+1) 23 [nS]∧At W (w.heap.size+1+1) 3 [vi (off:Int)]∧Fr [] w W∧aX X W br D off last 0):=by
  rw [hW]
  refine ⟨((At.new w 124 [vP br 0]).alloc _).alloc _,?_,?_,(((Fr.refl _ _).alloc _).alloc _).alloc _,A,c,hX,((HR.out.1.alloc _).alloc _).alloc _,((HR.out.2.alloc _).alloc _).alloc _⟩
  ·have:=(At.new (w.alloc (Obj.cells #[vP br 0] 124)) 23 [nS]).alloc (Obj.cells #[vi (off:Int)] 3)
   simpa using this
  ·have:=At.new ((w.alloc (Obj.cells #[vP br 0] 124)).alloc (Obj.cells #[nS] 23)) 3 [vi (off:Int)]
   simpa using this
 clear hW c1 c3
 have d0:W.cell? ⟨w.heap.size,0,none⟩=some (Value.pointer (some ⟨br,0,none⟩)):=by rw [HW.out.1.cell]; rfl
 have nb1:w.heap.size≠br:=om
 have nb2:br≠w.heap.size:=om
 go_region_held3 (fun w'=>w'.cell? ⟨w.heap.size,0,none⟩=some (Value.pointer (some ⟨br,0,none⟩))) (go_keep) (first | (go_at_call 124; refine (HD.out W.drew (by exact HW.out.2.2.2.1.drew) (by exact HW.out.2.2.2.2)).mono ?_; rintro e w1 ⟨AV,nV,cV,rfl,hf1,off',hr1⟩; obtain ⟨e0,e1,z1,e3,z3⟩:=oM (W:=W) HW.out.1 HW.out.2.1 HW.out.2.2.2.2 hf1 hr1; have H1:=Lib.hid (And.intro hf1 hr1); clear hf1 hr1))
 go_wp2_with fail
 obtain ⟨k0,k1,k2,k3,kf⟩:=oN HW.out.1 HW.out.2.1 HW.out.2.2.1 HW.out.2.2.2.2 H1.out.1 H1.out.2 (.slice AV nV cV) (Value.int .i64 er) om (by decide)
 refine leaves_cons (f:=166) (args:=#[Value.pointer (some ⟨w.heap.size+1+1,0,none⟩),Value.pointer (some ⟨w.heap.size,0,none⟩),Value.pointer (some ⟨w.heap.size+1,0,none⟩)]) si (by simp [go_sem]) ?_
 obtain ⟨A',c',hX',k3'⟩:=k3
 refine (Qk _ _ _ br A' _ c' _ _ _ er (.slice AV nV cV) _ k2 k0 k1 k3'.1 HE.out om).mono ?_
 rintro e u' w'' ⟨rfl,rfl,rfl⟩
 obtain ⟨g1,g2,g3⟩:=wK (off:=off) (z:=Value.slice none 0 0) HW.out.2.2.2.1 kf om k1 (by decide) (by decide) k3'.1 k3'.2 hX'
 exact ⟨Value.slice none 0 0,by simp [results,Tryz.results123,go_sem,g1],rfl,g2,g3⟩
theorem Qm (br:Nat) (r:Rd) (fv:Value) (w:World) (hr:bA X w br r) (h0:r.err≠0) :
  Calls Tryz.prog 123 #[vP br 0,fv] w fun e w'=>e = .returned nS∧Fr [] w w'∧bA X w' br r:=by
 have hr0:=hr
 obtain ⟨A,c,hX,ha,hrow⟩:=hr
 have c3:w.cell? ⟨br,3,none⟩=some (Value.int .i64 r.err):=by rw [ha.cell]; rfl
 have hb:(r.err != 0)=true:=by simpa using h0
 have hlt:=ha.lt
 have HR:=Lib.hid hr0
 clear ha hrow hr0 h0
 go_enter_defers Tryz.func123,Tryz.ntmps123
 go_wp2_with fail
 have hf:Fr [] w ((w.alloc (Obj.cells #[vP br 0] 124)).alloc (Obj.cells #[nS] 23)):=((Fr.refl _ _).alloc _).alloc _
 exact ⟨Value.slice none 0 0,by simp [results,Tryz.results123,go_sem],rfl,hf,aX.fr HR.out hf⟩
theorem Qn (br:Nat) (r:Rd) (most:Nat) (w:World) (hr:bA X w br r) (_hk:r.Ok) (_hm:most≤4294967296) (h0:r.err≠0) :
  Calls Tryz.prog 74 #[vP br 0,vi (most:Int)] w fun e w'=>e = .returned nS∧(r.text most).1=[]∧Fr [br] w w'∧bA X w' br (r.text most).2:=by
 have HR:=Lib.hid hr
 clear hr
 refine bK Tryz.func74 8 (Mm.start w []) rfl<|Nc<|Nx<|pB [(vP br 0)] fun b2=>Nx<|pB [(vI most)] fun b3=>lx rfl<|Nb<|lL 0 rfl<|lk (.func (.func 124) #[] #[(vP b2 0),(vP b3 0)])<|Nx<|mF 123 #[(vP br 0),(.func (.func 124) #[] #[(vP b2 0),(vP b3 0)])] rfl kr (fun _=>kr) (fun w1 hM=>?_)
 have HR1:Hid (bA X w1 br r):=aX.fr HR.out hM.fr
 have HB1:Hid (At w1 b2 124 [vP br 0]):=hM.at (i:=0) rfl
 have HB2:Hid (At w1 b3 3 [vi (most:Int)]):=hM.at (i:=1) rfl
 have HF1:=Lib.hid hM.fr
 refine (Qm br r _ w1 HR1.out h0).mono ?_
 rintro e w2 ⟨rfl,hf,hr2⟩
 refine ⟨_,w2,[],[],rfl,Mm.start w2 [],?_⟩
 clear hM
 exact lx rfl<|Nd<|sN [nS] fun w hM=>⟨rfl,by unfold Rd.text; rw [if_neg h0],((HF1.out.trans hf).trans hM.fr).mono si,by unfold Rd.text; rw [if_neg h0]; exact aX.fr hr2 hM.fr⟩
theorem Qo (br:Nat) (r:Rd) (most:Nat) (w:World) (hr:bA X w br r) (hk:r.Ok) (hm:most≤4294967296) (h0:r.err=0) (n m:Nat) (hd:dE r.D r.off=some (n,m)) (hn:n≤most) (hf':m+n≤r.D.length) :
  Calls Tryz.prog 74 #[vP br 0,vi (most:Int)] w fun e w'=>∃ A c,e = .returned (.slice A ((r.D.drop m).take n).length c)∧Fr [br] w w'∧bA X w' br (r.text most).2∧w'.ownsRow w.heap.size 5 1 (.slice A ((r.D.drop m).take n).length c) ((r.D.drop m).take n).length (B8 ((r.D.drop m).take n)):=by
 have HR:=Lib.hid hr
 clear hr
 refine bK Tryz.func74 8 (Mm.start w []) rfl<|Nc<|Nx<|pB [(vP br 0)] fun b2=>Nx<|pB [(vI most)] fun b3=>lx rfl<|Nb<|lL 0 rfl<|lk (.func (.func 124) #[] #[(vP b2 0),(vP b3 0)])<|Nx<|mF 123 #[(vP br 0),(.func (.func 124) #[] #[(vP b2 0),(vP b3 0)])] rfl kr (fun _=>kr) (fun w1 hM=>?_)
 have HR1:Hid (bA X w1 br r):=aX.fr HR.out hM.fr
 have HB1:Hid (At w1 b2 124 [vP br 0]):=hM.at (i:=0) rfl
 have HB2:Hid (At w1 b3 3 [vi (most:Int)]):=hM.at (i:=1) rfl
 have HF1:=Lib.hid hM.fr
 refine (Ql br r.D r.off r.last (m+n) ((r.D.drop m).take n) b2 b3 w1 (by have h:=HR1.out; unfold bA at h; rw [h0] at h; exact h) (fun W hf hr=>Qf b2 b3 br r.D r.off r.last most W (HB1.out.fr hf si) (HB2.out.fr hf si) hr hk.len hk.off hm n m hd hn hf')).mono ?_
 rintro e w2 ⟨AV,cV,rfl,hf,hr2,ho2⟩
 refine ⟨_,w2,[],[],rfl,Mm.start w2 [],?_⟩
 clear hM
 exact lx rfl<|Nd<|sN [(vL AV ((r.D.drop m).take n) cV)] fun w hM=>⟨AV,cV,rfl,((HF1.out.mono si).trans hf).trans (hM.fr.mono si),by unfold Rd.text; rw [if_pos h0,hd]; dsimp only; rw [if_neg om,if_pos hf']; unfold Rd.done bA; have h:=aX.fr hr2 hM.fr; rw [← h0] at h; exact h,tG (dY ho2 hM.fr si) (by have:=HF1.out.size; omega)⟩
theorem Qp (br:Nat) (r:Rd) (most:Nat) (w:World) (hr:bA X w br r) (hk:r.Ok) (hm:most≤4294967296) (h0:r.err=0) (n m:Nat) (hd:dE r.D r.off=some (n,m)) (hn:n≤most) (hf':r.D.length < m+n) :
  Calls Tryz.prog 74 #[vP br 0,vi (most:Int)] w fun e w'=>e = .returned nS∧(r.text most).1=[]∧Fr [br] w w'∧bA X w' br (r.text most).2:=by
 have HR:=Lib.hid hr
 clear hr
 refine bK Tryz.func74 8 (Mm.start w []) rfl<|Nc<|Nx<|pB [(vP br 0)] fun b2=>Nx<|pB [(vI most)] fun b3=>lx rfl<|Nb<|lL 0 rfl<|lk (.func (.func 124) #[] #[(vP b2 0),(vP b3 0)])<|Nx<|mF 123 #[(vP br 0),(.func (.func 124) #[] #[(vP b2 0),(vP b3 0)])] rfl kr (fun _=>kr) (fun w1 hM=>?_)
 have HR1:Hid (bA X w1 br r):=aX.fr HR.out hM.fr
 have HB1:Hid (At w1 b2 124 [vP br 0]):=hM.at (i:=0) rfl
 have HB2:Hid (At w1 b3 3 [vi (most:Int)]):=hM.at (i:=1) rfl
 have HF1:=Lib.hid hM.fr
 refine (Dk br r.D r.off r.last 3 b2 b3 w1 (by have h:=HR1.out; unfold bA at h; rw [h0] at h; exact h) (by decide) (fun W hf hr=>Qg b2 b3 br r.D r.off r.last most W (HB1.out.fr hf si) (HB2.out.fr hf si) hr hk.len hk.off hm n m hd hn hf')).mono ?_
 rintro e w2 ⟨rfl,hf,hr2⟩
 refine ⟨_,w2,[],[],rfl,Mm.start w2 [],?_⟩
 clear hM
 exact lx rfl<|Nd<|sN [nS] fun w hM=>⟨rfl,by unfold Rd.text; rw [if_pos h0,hd]; dsimp only; rw [if_neg om,if_neg om],((HF1.out.mono si).trans hf).trans (hM.fr.mono si),by unfold Rd.text; rw [if_pos h0,hd]; dsimp only; rw [if_neg om,if_neg om]; unfold Rd.fail bA; exact aX.fr hr2 hM.fr⟩
theorem Qq (br:Nat) (r:Rd) (most:Nat) (w:World) (hr:bA X w br r) (hk:r.Ok) (hm:most≤4294967296) (h0:r.err=0) (n m:Nat) (hd:dE r.D r.off=some (n,m)) (hn:most < n) :
  Calls Tryz.prog 74 #[vP br 0,vi (most:Int)] w fun e w'=>e = .returned nS∧(r.text most).1=[]∧Fr [br] w w'∧bA X w' br (r.text most).2:=by
 have HR:=Lib.hid hr
 clear hr
 refine bK Tryz.func74 8 (Mm.start w []) rfl<|Nc<|Nx<|pB [(vP br 0)] fun b2=>Nx<|pB [(vI most)] fun b3=>lx rfl<|Nb<|lL 0 rfl<|lk (.func (.func 124) #[] #[(vP b2 0),(vP b3 0)])<|Nx<|mF 123 #[(vP br 0),(.func (.func 124) #[] #[(vP b2 0),(vP b3 0)])] rfl kr (fun _=>kr) (fun w1 hM=>?_)
 have HR1:Hid (bA X w1 br r):=aX.fr HR.out hM.fr
 have HB1:Hid (At w1 b2 124 [vP br 0]):=hM.at (i:=0) rfl
 have HB2:Hid (At w1 b3 3 [vi (most:Int)]):=hM.at (i:=1) rfl
 have HF1:=Lib.hid hM.fr
 refine (Dk br r.D r.off r.last 2 b2 b3 w1 (by have h:=HR1.out; unfold bA at h; rw [h0] at h; exact h) (by decide) (fun W hf hr=>Qh b2 b3 br r.D r.off r.last most W (HB1.out.fr hf si) (HB2.out.fr hf si) hr hk.len hk.off hm n m hd hn)).mono ?_
 rintro e w2 ⟨rfl,hf,hr2⟩
 refine ⟨_,w2,[],[],rfl,Mm.start w2 [],?_⟩
 clear hM
 exact lx rfl<|Nd<|sN [nS] fun w hM=>⟨rfl,by unfold Rd.text; rw [if_pos h0,hd]; dsimp only; rw [if_pos hn],((HF1.out.mono si).trans hf).trans (hM.fr.mono si),by unfold Rd.text; rw [if_pos h0,hd]; dsimp only; rw [if_pos hn]; unfold Rd.fail bA; exact aX.fr hr2 hM.fr⟩
theorem Qr (br:Nat) (r:Rd) (most:Nat) (w:World) (hr:bA X w br r) (hk:r.Ok) (hm:most≤4294967296) (h0:r.err=0) (hd:dE r.D r.off=none) :
  Calls Tryz.prog 74 #[vP br 0,vi (most:Int)] w fun e w'=>e = .returned nS∧(r.text most).1=[]∧Fr [br] w w'∧bA X w' br (r.text most).2:=by
 have HR:=Lib.hid hr
 clear hr
 refine bK Tryz.func74 8 (Mm.start w []) rfl<|Nc<|Nx<|pB [(vP br 0)] fun b2=>Nx<|pB [(vI most)] fun b3=>lx rfl<|Nb<|lL 0 rfl<|lk (.func (.func 124) #[] #[(vP b2 0),(vP b3 0)])<|Nx<|mF 123 #[(vP br 0),(.func (.func 124) #[] #[(vP b2 0),(vP b3 0)])] rfl kr (fun _=>kr) (fun w1 hM=>?_)
 have HR1:Hid (bA X w1 br r):=aX.fr HR.out hM.fr
 have HB1:Hid (At w1 b2 124 [vP br 0]):=hM.at (i:=0) rfl
 have HB2:Hid (At w1 b3 3 [vi (most:Int)]):=hM.at (i:=1) rfl
 have HF1:=Lib.hid hM.fr
 refine (Dk br r.D r.off r.last 3 b2 b3 w1 (by have h:=HR1.out; unfold bA at h; rw [h0] at h; exact h) (by decide) (fun W hf hr=>Qi b2 b3 br r.D r.off r.last most W (HB1.out.fr hf si) (HB2.out.fr hf si) hr hk.len hk.off hm hd)).mono ?_
 rintro e w2 ⟨rfl,hf,hr2⟩
 refine ⟨_,w2,[],[],rfl,Mm.start w2 [],?_⟩
 clear hM
 exact lx rfl<|Nd<|sN [nS] fun w hM=>⟨rfl,by unfold Rd.text; rw [if_pos h0,hd],((HF1.out.mono si).trans hf).trans (hM.fr.mono si),by unfold Rd.text; rw [if_pos h0,hd]; dsimp only; unfold Rd.fail bA; exact aX.fr hr2 hM.fr⟩
theorem Qs (br:Nat) (r:Rd) (most:Nat) (w:World) (hr:bA X w br r) (hk:r.Ok) (hm:most≤4294967296):Calls Tryz.prog 74 #[vP br 0,vi (most:Int)] w fun e w'=>∃ A c,e = .returned (.slice A (r.text most).1.length c)∧Fr [br] w w'∧bA X w' br (r.text most).2∧w'.ownsRow w.heap.size 5 1 (.slice A (r.text most).1.length c) (r.text most).1.length (B8 (r.text most).1):=by
 have nil:∀ {e:Ending} {w':World},(e = .returned nS∧(r.text most).1=[]∧Fr [br] w w'∧bA X w' br (r.text most).2)→∃ A c,e = .returned (.slice A (r.text most).1.length c)∧Fr [br] w w'∧bA X w' br (r.text most).2∧w'.ownsRow w.heap.size 5 1 (.slice A (r.text most).1.length c) (r.text most).1.length (B8 (r.text most).1):=by
  rintro e w' ⟨rfl,h1,h2,h3⟩
  rw [h1]
  exact ⟨none,0,rfl,h2,h3,Qe⟩
 by_cases h0:r.err=0
 ·cases hd:dE r.D r.off with
  | none=>exact (Qr br r most w hr hk hm h0 hd).mono fun e w' h=>nil h
  | some p =>
    obtain ⟨n,m⟩:=p
    by_cases hn:n≤most
    ·by_cases hf:m+n≤r.D.length
     ·have ht:(r.text most).1=(r.D.drop m).take n:=by unfold Rd.text; rw [if_pos h0,hd]; dsimp only; rw [if_neg om,if_pos hf]
      rw [ht]
      exact Qo br r most w hr hk hm h0 n m hd hn hf
     ·exact (Qp br r most w hr hk hm h0 n m hd hn om).mono fun e w' h=>nil h
    ·exact (Qq br r most w hr hk hm h0 n m hd om).mono fun e w' h=>nil h
 ·exact (Qn br r most w hr hk hm h0).mono fun e w' h=>nil h
end
theorem Qt {X:Option Addr × Nat} {br:Nat} {r r':Rd} {w w':World} {A:Option Addr} {c n:Nat} {xs:List Value} (hO:cE [bH X br r] w) (hf:Fr [br] w w') (hr:bA X w' br r') (hk:r'.Ok) (ho:w'.ownsRow w.heap.size 5 1 (.slice A n c) n xs):aJ [bH X br r] w [bH X br r',aR 5 1 A n c xs] w':=by
 exact (sE hO hf hr hk).UL (fun b hb=>hO.Ec hb) (Nat.le_refl _) ho
theorem uT (X:Option Addr × Nat) (br:Nat) (r:Rd) (most:Nat) (w:World) (hO:cE [bH X br (r)] w) (hm:most≤4294967296) :
  Calls Tryz.prog 74 #[(vP br 0),(vI most)] w fun e w'=>∃ (B:Option Addr) (cb:Nat),e = .returned (vL B ((r.text most).1) cb)∧aJ [bH X br (r)] w [bH X br ((r.text most).2),cB B ((r.text most).1) cb] w':=by
 have h:=hO.at (i:=0) rfl; obtain ⟨hr,hk⟩:bA X w br r∧r.Ok:=h
 refine (Qs br r most w hr hk hm).mono ?_
 rintro e w' ⟨A,c,rfl,hf,hr2,ho⟩
 exact ⟨A,c,rfl,Qt hO hf hr2 (hk.text most) ho⟩
end
theorem Qu (X:Option Addr × Nat) (br:Nat) (r:Rd) (most:Nat) (w:World) (hO:cE [bH X br (r)] w) (hm:most≤65536) :
  Calls Tryz.prog 216 #[(vP br 0),(vI most)] w fun e w'=>∃ (B:Option Addr) (cb:Nat),e = .returned (vL B ((r.items most).1) cb)∧aJ [bH X br (r)] w [bH X br ((r.items most).2),cS B ((r.items most).1) cb] w':=by
 refine bK Tryz.func216 26 (hO) rfl<|Nc<|lx rfl<|Nf<|St.fact (fun w hM=>(hM.at (i:=0) (c:=bH X br r) rfl).2.len) (fun hrl=>aF<|lx rfl<|Nx<|eK [0] (fun w hM hO=>sH X br r w hO)<|lw (vI ((r.D.length - r.off) / 32)) (wY rfl rfl rfl om om)<|lw (vI (r.eO most)) (Fb rfl rfl rfl) ?_)
 have hml:r.eO most≤most:=Nat.min_le_left _ _
 refine Nx<|eK [0] (fun w hM hO=>Hn X br r (r.eO most) w hO om) ?_
 have hcl:=r.AW (r.eO most)
 refine lx rfl<|Nb<|lx rfl<|Nx<|Ho mH ((r.cnt (r.eO most)).1) om rfl rfl kr rfl rfl (fun b15=>lx rfl<|Ne<|lx rfl<|Ng<|sL (fun (i,AX,cX)=>i≤(r.cnt (r.eO most)).1) (fun (i,AX,cX)=>(r.cnt (r.eO most)).1 - i) (fun (i,AX,cX)=>[(0,(vP br 0)),(4,nS),(16,(vI ((r.cnt (r.eO most)).1))),(6,(vL AX (((r.cnt (r.eO most)).2.eS i).1) cX)),(17,(vI i))]) (fun (i,AX,cX)=>[bH X br (((r.cnt (r.eO most)).2.eS i).2),cS AX (((r.cnt (r.eO most)).2.eS i).1) cX]) (0,(some ⟨b15,0,none⟩),((r.cnt (r.eO most)).1)) (Nat.zero_le _) (fun w hM=>by show Mm _ _ [bH X br (((r.cnt (r.eO most)).2.eS 0).2),cS (some ⟨b15,0,none⟩) (((r.cnt (r.eO most)).2.eS 0).1) (((r.cnt (r.eO most)).1))] w; exact hM) ?_) om
 rintro ⟨i,AX,cX⟩ (hok:i≤(r.cnt (r.eO most)).1)
 dsimp only
 refine Nc<|lk (.bool (decide (((i:Nat):Int) < (((r.cnt (r.eO most)).1:Nat):Int)))) ?_
 refine aO (aI (aS (bD rfl (fun hc18=>?_) (fun hc18=>?_))))
 ·have hd18:=of_decide_eq_true hc18
  exact Nl<|fO<|aF<|lx rfl<|Nx<|eK [0] (fun w hM hO=>CN X br (((r.cnt (r.eO most)).2.eS i).2) w hO)<|Nx<|pN 1 9 [(vS ((((r.cnt (r.eO most)).2.eS i).2).sum.1))] fun b22=>Nx<|cY mH 1 ([(vS ((((r.cnt (r.eO most)).2.eS i).2).sum.1))]) rfl rfl kr rfl rfl rfl (rfl) (fQ (i:=2) rfl (fun j v h=>by rw [Nat.zero_add]; exact h)) (by simp [Value.oneCell']) (by rw [Rd.AY]; omega) ((((r.cnt (r.eO most)).2.eS i).1++[(((r.cnt (r.eO most)).2.eS i).2).sum.1]).length) fN (SS (((r.cnt (r.eO most)).2.eS i).1++[(((r.cnt (r.eO most)).2.eS i).2).sum.1])) (by simp [SS]) (fun A23 c23=>lx rfl<|Nk<|aF<|lw (vI (i+1)) bO<|lx rfl<|aO (aI (sA (i+1,A23,c23) (by show _≤_; omega) (by show (r.cnt (r.eO most)).1 - (i+1) < (r.cnt (r.eO most)).1 - i; omega) (fun w hM=>by show Mm _ _ [bH X br (((r.cnt (r.eO most)).2.eS (i+1)).2),cS A23 (((r.cnt (r.eO most)).2.eS (i+1)).1) c23] w; exact (hM.pick [0,1] rfl rfl)))))
 ·have hd18:=of_decide_eq_false hc18
  obtain rfl:i=(r.cnt (r.eO most)).1:=om
  exact Nj<|aF<|lx rfl<|Nd<|sN [(vL AX (((r.cnt (r.eO most)).2.eS (r.cnt (r.eO most)).1).1) cX)] fun w hM=>⟨AX,cX,rfl,hM⟩
theorem Qv (n:Nat) (f lo hi:List UInt8) (w:World) :
  Calls Tryz.prog 242 #[(.agg #[(vI n),(vS f)]),(.agg #[(vS lo),(vS hi)])] w fun e w'=>e = .returned bT∧aJ [] w [] w':=by
 exact bK Tryz.func242 5 (Mm.start w []) rfl<|Nc<|Nx<|pB [(vI n),(vS f)] fun b2=>Nx<|pB [(vS lo),(vS hi)] fun b3=>lx rfl<|Nb<|lx rfl<|Nd<|sN [bT] fun w hM=>⟨rfl,(hM.pick [] rfl rfl)⟩
theorem Qw (A:Option Addr) (c:Nat) (l:List (List UInt8)) (lo hi:List UInt8) (w:World) (r0:Rf [] w (fun w=>aH w A (SS l))) (hl:l.length≤68719476736) :
  Calls Tryz.prog 244 #[(.agg #[(vL A l c)]),(.agg #[(vS lo),(vS hi)])] w fun e w'=>e = .returned (.bool (eF l lo hi))∧aJ [] w [] w':=by
 exact bK Tryz.func244 9 (Mm.start w []) rfl<|Nc<|Nx<|pB [(vL A l c)] fun b2=>Nx<|pB [(vS lo),(vS hi)] fun b3=>lx rfl<|Nb<|lk (vP b2 0)<|lL 0 rfl<|lW (rA 1 [(vS lo),(vS hi)])<|Nx<|bP (fun w hM=>CE A c l lo hi w (r0.aQ hM) om)<|lx rfl<|Nd<|sN [(.bool (eF l lo hi))] fun w hM=>⟨rfl,(hM.pick [] rfl rfl)⟩
theorem Qx (A:Option Addr) (c:Nat) (l:List (List UInt8)) (A2:Option Addr) (c2:Nat) (m:List (List UInt8)) (lo hi:List UInt8) (w:World) (r0:Rf [] w (fun w=>aH w A (SS l))) (r1:Rf [] w (fun w=>aH w A2 (SS m))) (hl:l.length≤68719476736) (hl2:m.length≤68719476736) :
  Calls Tryz.prog 249 #[(.agg #[(vL A l c),(vL A2 m c2)]),(.agg #[(vS lo),(vS hi)])] w fun e w'=>e = .returned (.bool (eF l lo hi && eF m lo hi))∧aJ [] w [] w':=by
 refine bK Tryz.func249 15 (Mm.start w []) rfl<|Nc<|Nx<|pB [(vL A l c),(vL A2 m c2)] fun b2=>Nx<|pB [(vS lo),(vS hi)] fun b3=>lx rfl<|Nb<|lk (vP b2 0)<|lL 0 rfl<|lW (rA 1 [(vS lo),(vS hi)])<|Nx<|bP (fun w hM=>CE A c l lo hi w (r0.aQ hM) om)<|lm ?_
 refine St.dec 9 rfl (fun hc9=>?_) (fun hc9=>?_)
 ·exact lg (vP b2 1)<|lu (vL A2 m c2) (cW 0 rfl rfl kr rfl rfl)<|lu (.agg #[(vS lo),(vS hi)]) (gC [(vS lo),(vS hi)] rfl rfl kr kr (eQ (i:=1) rfl (by intro j v hj; first | (rw [Nat.zero_add]; exact hj) | (match j,hj with | 0,h=>exact h | 1,h=>exact h))))<|cO rfl rfl<|bP (fun w hM=>CE A2 c2 m lo hi w (r1.aQ hM) om)<|lk (.bool (eF m lo hi))<|lx rfl<|Nd<|sN [(.bool (eF m lo hi))] fun w hM=>⟨fF (by simp_all),(hM.pick [] rfl rfl)⟩
 ·exact lx rfl<|lF<|lx rfl<|Nd<|sN [bF] fun w hM=>⟨fF (by simp_all),(hM.pick [] rfl rfl)⟩
theorem Im (v:Value) (b:Bool) {p:AP}:(Ending.returned (.tuple #[v,.bool b])) = .returned (.tuple #[v,.bool (if b=true then some p else none).isSome]):=by cases b <;> rfl
theorem sO {a b c:Value} (h1:a.oneCell'=true) (h2:b.oneCell'=true) (h3:c.oneCell'=true):∀ u∈[a,b,c],u.oneCell'=true:=by
 intro u hu
 simp only [List.mem_cons,List.not_mem_nil,or_false] at hu
 rcases hu with rfl | rfl | rfl <;> assumption
theorem Io {b:Bool} {p q:AP} (h:(if b=true then some q else none)=some p):q=p:=by
 cases b
 ·cases h
 ·exact Option.some.inj h
theorem Qy (X:Option Addr × Nat) (br:Nat) (r:Rd) (w:World) (hO:cE [bH X br (r)] w) :
  Calls Tryz.prog 102 #[(vP br 0)] w fun e w'=>∃ (n:Nat) (r2:Rd),e = .returned (.int .u64 ((n:Nat):Int))∧aJ [bH X br (r)] w [bH X br (r2)] w'∧(r.uint=(n,r2)) :=
 (uN X br r w hO).mono fun e w' h=>by
  obtain ⟨rfl,hB⟩:=h
  exact ⟨_,_,rfl,hB,rfl⟩
theorem Ip (X:Option Addr × Nat) (br:Nat) (r:Rd) (most:Nat) (w:World) (hO:cE [bH X br (r)] w) (hm:most≤4294967296) :
  Calls Tryz.prog 182 #[(vP br 0),(vI most)] w fun e w'=>∃ (n:Nat) (r2:Rd),e = .returned (vI n)∧aJ [bH X br (r)] w [bH X br (r2)] w'∧(r.cnt most=(n,r2)) :=
 (Hn X br r most w hO hm).mono fun e w' h=>by
  obtain ⟨rfl,hB⟩:=h
  exact ⟨_,_,rfl,hB,rfl⟩
theorem Iq (X:Option Addr × Nat) (br:Nat) (r:Rd) (most:Nat) (w:World) (hO:cE [bH X br (r)] w) (hm:most≤4294967296) :
  Calls Tryz.prog 213 #[(vP br 0),(vI most)] w fun e w'=>∃ (t:List UInt8) (r2:Rd),e = .returned (vS t)∧aJ [bH X br (r)] w [bH X br (r2)] w'∧(r.text most=(t,r2)) :=
 (Py X br r most w hO hm).mono fun e w' h=>by
  obtain ⟨rfl,hB⟩:=h
  exact ⟨_,_,rfl,hB,rfl⟩
theorem Qz (X:Option Addr × Nat) (br:Nat) (r:Rd) (w:World) (hO:cE [bH X br (r)] w) :
  Calls Tryz.prog 122 #[(vP br 0)] w fun e w'=>∃ (t:List UInt8) (r2:Rd),e = .returned (vS t)∧aJ [bH X br (r)] w [bH X br (r2)] w'∧(r.sum=(t,r2)) :=
 (CN X br r w hO).mono fun e w' h=>by
  obtain ⟨rfl,hB⟩:=h
  exact ⟨_,_,rfl,hB,rfl⟩
theorem Dl (X:Option Addr × Nat) (br:Nat) (r:Rd) (most:Nat) (w:World) (hO:cE [bH X br (r)] w) (hm:most≤65536) :
  Calls Tryz.prog 216 #[(vP br 0),(vI most)] w fun e w'=>∃ (B:Option Addr) (cb:Nat) (l:List (List UInt8)) (r2:Rd),e = .returned (vL B (l) cb)∧aJ [bH X br (r)] w [bH X br (r2),cS B (l) cb] w'∧(r.items most=(l,r2)) :=
 (Qu X br r most w hO hm).mono fun e w' h=>by
  obtain ⟨B,cb,rfl,hB⟩:=h
  exact ⟨B,cb,_,_,rfl,hB,rfl⟩
theorem QA (X:Option Addr × Nat) (br:Nat) (r:Rd) (w:World) (hO:cE [bH X br (r)] w) :
  Calls Tryz.prog 201 #[(vP br 0)] w fun e w'=>∃ (cl:List Value) (L:List (Option Addr × List (List UInt8))) (o:Option AP) (r2:Rd),e = .returned (.tuple #[(.agg (cl).toArray),(.bool o.isSome)])∧aJ [bH X br (r)] w [bH X br (r2),dG (L)] w'∧(r.part=(o,r2))∧(cl.length=3∧∀ u∈cl,u.oneCell'=true)∧(∀ p,o=some p→∃ pv:PV,cl=pv.cells∧pv.abs=p∧∀ q∈pv.c.rows,q∈L):=by
 refine dI Tryz.func201 66 (hO) rfl<|Nc<|Nx<|pA [(.string ⟨#[]⟩),(.string ⟨#[]⟩),.nilIface] fun b2=>lx rfl<|Nb<|lx rfl<|Nx<|kL [0] (fun w hM hO=>Iq X br r 32 w hO om) fun t9 r29 heq9=>lx rfl<|Nx<|kL [0] (fun w hM hO=>Iq X br r29 32 w hO om) fun t11 r211 heq11=>lx rfl<|Nb<|lx rfl<|lk (.agg #[(vS t9),(vS t11)])<|lk (.agg #[(vS t9),(vS t11),.nilIface])<|Nx<|pA [(.string ⟨#[]⟩),(.string ⟨#[]⟩),.nilIface] fun b6=>Nx<|pT 2 [(vS t9),(vS t11),.nilIface] rfl<|Nf<|aS ?_
 dsimp only [bE,List.set,List.cons_append,List.nil_append]
 refine aF<|lx rfl<|Nx<|bP (fun w hM=>Hd t9 w )<|lk (.bool (!(iH t9)))<|lm ?_
 refine St.dec 19 rfl (fun hc19=>?_) (fun hc19=>?_)
 ·refine lx rfl<|lT<|lx rfl<|lT<|No<|lk (.agg #[(.string ⟨#[]⟩),(.string ⟨#[]⟩),.nilIface])<|Nx<|pT 1 [(.string ⟨#[]⟩),(.string ⟨#[]⟩),.nilIface] rfl<|lx rfl<|Nh<|fP [(.agg #[(.string ⟨#[]⟩),(.string ⟨#[]⟩),.nilIface]),bF] rfl ⟨⟨_,rfl,fun w hM=>gZ kr kr (eQ (i:=1) (off:=0) rfl (by intro j v hj; rw [Nat.zero_add]; exact hj) w hM)⟩,rfl,trivial⟩ (fun w hM=>?_)
  have hp:r.part=(none,r211):=Rd.Ek heq9 heq11 (Pz hc19)
  exact ⟨[(.string ⟨#[]⟩),(.string ⟨#[]⟩),.nilIface],[],none,r211,rfl,Mm.tE ((hM.pick [0] rfl rfl)),hp,⟨rfl,sO rfl rfl rfl⟩,fun p hp=>by cases hp⟩
 ·refine lx rfl<|cO rfl rfl<|bP (fun w hM=>Hd t11 w )<|lg (.bool (!(iH t11)))<|lk (.bool (!(iH t11)))<|lm ?_
  refine St.dec 24 rfl (fun hc24=>?_) (fun hc24=>?_)
  ·refine lx rfl<|lT<|No<|lk (.agg #[(.string ⟨#[]⟩),(.string ⟨#[]⟩),.nilIface])<|Nx<|pT 1 [(.string ⟨#[]⟩),(.string ⟨#[]⟩),.nilIface] rfl<|lx rfl<|Nh<|fP [(.agg #[(.string ⟨#[]⟩),(.string ⟨#[]⟩),.nilIface]),bF] rfl ⟨⟨_,rfl,fun w hM=>gZ kr kr (eQ (i:=1) (off:=0) rfl (by intro j v hj; rw [Nat.zero_add]; exact hj) w hM)⟩,rfl,trivial⟩ (fun w hM=>?_)
   have hp:r.part=(none,r211):=Rd.Ek heq9 heq11 (PA hc24)
   exact ⟨[(.string ⟨#[]⟩),(.string ⟨#[]⟩),.nilIface],[],none,r211,rfl,Mm.tE ((hM.pick [0] rfl rfl)),hp,⟨rfl,sO rfl rfl rfl⟩,fun p hp=>by cases hp⟩
  ·refine lg (vP b6 0)<|lu (.agg #[(vS t9),(vS t11)]) (gC [(vS t9),(vS t11)] rfl rfl kr kr (eQ (i:=2) rfl (by intro j v hj; first | (rw [Nat.zero_add]; exact hj) | (match j,hj with | 0,h=>exact h | 1,h=>exact h))))<|cO rfl rfl<|bP (fun w hM=>OV t9 t11 w )<|lg (.bool (!(lV t9 t11)))<|lk (.bool (!(lV t9 t11))) ?_
   refine aO (aI (bD rfl (fun hc29=>?_) (fun hc29=>?_)))
   ·refine aS ?_
    dsimp only [bE,List.set,List.cons_append,List.nil_append]
    refine aF<|lk (.agg #[(.string ⟨#[]⟩),(.string ⟨#[]⟩),.nilIface])<|Nx<|pT 1 [(.string ⟨#[]⟩),(.string ⟨#[]⟩),.nilIface] rfl<|lx rfl<|Nh<|fP [(.agg #[(.string ⟨#[]⟩),(.string ⟨#[]⟩),.nilIface]),bF] rfl ⟨⟨_,rfl,fun w hM=>gZ kr kr (eQ (i:=1) (off:=0) rfl (by intro j v hj; rw [Nat.zero_add]; exact hj) w hM)⟩,rfl,trivial⟩ (fun w hM=>?_)
    have hp:r.part=(none,r211):=Rd.Ek heq9 heq11 (PB hc29)
    exact ⟨[(.string ⟨#[]⟩),(.string ⟨#[]⟩),.nilIface],[],none,r211,rfl,Mm.tE ((hM.pick [0] rfl rfl)),hp,⟨rfl,sO rfl rfl rfl⟩,fun p hp=>by cases hp⟩
   ·refine Nl<|aS ?_
    have hp0:r.part=r211.body t9 t11:=Rd.part_go heq9 heq11 (PC hc19 hc24 hc29)
    refine aF<|lx rfl<|Nx<|kL [0] (fun w hM hO=>Qy X br r211 w hO) fun n32 r232 heq32=>Ng<|Nc<|lk (.bool ((((n32:Nat):Int):Int) == 1))<|lx rfl ?_
    refine aO (aI (bD rfl (fun hc34=>?_) (fun hc34=>?_)))
    ·have hk:n32=1:=uO hc34
     refine aF<|lx rfl<|Nx<|kL [0] (fun w hM hO=>Ip X br r232 16384 w hO om) fun n37 r237 heq37=>lx rfl<|Nx<|kL [0] (fun w hM hO=>Qz X br r237 w hO) fun t39 r239 heq39=>lk (.agg #[(vI n37),(vS t39)])<|lk (.iface 248 (.agg #[(vI n37),(vS t39)]))<|lk (vP b6 2)<|Nx<|pS 2 rfl<|Nk<|aS ?_
     dsimp only [bE,List.set,List.cons_append,List.nil_append]
     refine cQ _ 8 kr (fun _ h=>h.pick [0,2] rfl rfl)<|aV 0 _ rfl (rA 1 [(vS t9),(vS t11),(.iface 248 (.agg #[(vI n37),(vS t39)]))])<|aC 1 (vP b6 2) rfl<|al 2 1 ?_
     refine aC 3 (vP b6 0) rfl<|aV 4 _ rfl (rA 1 [(vS t9),(vS t11)])<|aA 5 rfl<|bP (fun w hM=>Qv n37 t39 t9 t11 w )<|aP _ (fun _ h=>h) (fun _ h=>h.pick [0,2] rfl rfl)<|aA 6 rfl<|pT 1 [(vS t9),(vS t11),(.iface 248 (.agg #[(vI n37),(vS t39)]))] rfl<|aP _ (fun _ h=>h) (fun _ h=>h.pick [0,2] rfl rfl)<|aa 7 ?_
     refine cF kr<|aI<|fX<|fP [(.agg #[(vS t9),(vS t11),(.iface 248 (.agg #[(vI n37),(vS t39)]))]),bT] rfl ⟨⟨_,rfl,fun w hM=>gZ kr kr (eQ (i:=1) (off:=0) rfl (by intro j v hj; rw [Nat.zero_add]; exact hj) w hM)⟩,rfl,trivial⟩ (fun w hM=>?_)
     have hp:r.part=(some (PV.mk t9 t11 (.sum n37 t39)).abs,r239):=hp0.trans (Rd.UD heq32 hk heq37 heq39)
     exact ⟨[(vS t9),(vS t11),(.iface 248 (.agg #[(vI n37),(vS t39)]))],[],_,_,rfl,Mm.tE ((hM.pick [0] rfl rfl)),hp,⟨rfl,sO rfl rfl rfl⟩,fun p hp=>⟨PV.mk t9 t11 (.sum n37 t39),rfl,Option.some.inj hp,fun q hq=>by cases hq⟩⟩
    ·have hn1:¬ n32=1:=uP hc34
     refine aS ?_
     dsimp only [bE,List.set,List.cons_append,List.nil_append]
     refine aF<|lk (.bool ((((n32:Nat):Int):Int) == 2))<|lx rfl ?_
     refine aO (aI (bD rfl (fun hc43=>?_) (fun hc43=>?_)))
     ·have hk:n32=2:=uO hc43
      refine aF<|lx rfl<|Nx<|oG [0] (fun w hM hO=>Dl X br r232 64 w hO om) fun B46 cb46 l46 r246 heq46=>?_
      have hil:=Rd.vH r232 64; rw [heq46] at hil; dsimp only at hil
      refine lk (.agg #[(vL B46 (l46) cb46)])<|lk (.iface 252 (.agg #[(vL B46 (l46) cb46)]))<|lk (vP b6 2)<|Nx<|pS 2 rfl<|Nk<|aS<|cQ _ 8 kr (fun _ h=>h.pick [0,2,3] rfl rfl)<|aV 0 _ rfl (rA 1 [(vS t9),(vS t11),(.iface 252 (.agg #[(vL B46 (l46) cb46)]))])<|aC 1 (vP b6 2) rfl<|al 2 1 ?_
      refine aC 3 (vP b6 0) rfl<|aV 4 _ rfl (rA 1 [(vS t9),(vS t11)])<|aA 5 rfl<|bP (fun w hM=>Qw B46 cb46 l46 t9 t11 w (hM.bB (j:=3) rfl (fun _ h=>aH.cN h)) om)<|aP _ (fun _ h=>h) (fun _ h=>h.pick [0,2,3] rfl rfl)<|aA 6 rfl<|pT 1 [(vS t9),(vS t11),(.iface 252 (.agg #[(vL B46 (l46) cb46)]))] rfl ?_
      dsimp only [bE,List.set,List.cons_append,List.nil_append]
      refine aP _ (fun _ h=>h) (fun _ h=>h.pick [0,2,3] rfl rfl)<|aa 7 ?_
      refine cF kr<|aI<|fX<|fP [(.agg #[(vS t9),(vS t11),(.iface 252 (.agg #[(vL B46 (l46) cb46)]))]),(.bool (eF l46 t9 t11))] rfl ⟨⟨_,rfl,fun w hM=>gZ kr kr (eQ (i:=1) (off:=0) rfl (by intro j v hj; rw [Nat.zero_add]; exact hj) w hM)⟩,rfl,trivial⟩ (fun w hM=>?_)
      have hp:r.part=(if eF l46 t9 t11 then some (PV.mk t9 t11 (.list B46 cb46 l46)).abs else none,r246):=hp0.trans (Rd.UE heq32 hk heq46)
      replace hM:Mm _ _ [bH X br (r246),aD b2 246 [(vS t9),(vS t11),(.iface 252 (.agg #[(vL B46 (l46) cb46)]))],aD b6 246 [(vS t9),(vS t11),(.iface 252 (.agg #[(vL B46 (l46) cb46)]))],dG ([(B46,l46)])] w:=hM.tD 3 rfl
      refine ⟨[(vS t9),(vS t11),(.iface 252 (.agg #[(vL B46 (l46) cb46)]))],[(B46,l46)],_,_,Im _ _,(hM.pick [0,3] rfl rfl),hp,⟨rfl,sO rfl rfl rfl⟩,fun p hp=>⟨PV.mk t9 t11 (.list B46 cb46 l46),rfl,Io hp,fun q hq=>hq⟩⟩
     ·have hn2:¬ n32=2:=uP hc43
      refine Nc<|lk (.bool ((((n32:Nat):Int):Int) == 3))<|lx rfl ?_
      refine aO (aI (bD rfl (fun hc50=>?_) (fun hc50=>?_)))
      ·have hk:n32=3:=uO hc50
       refine Nc<|lx rfl<|Nx<|oG [0] (fun w hM hO=>Dl X br r232 16384 w hO om) fun B53 cb53 l53 r253 heq53=>?_
       have hil:=Rd.vH r232 16384; rw [heq53] at hil; dsimp only at hil
       refine lx rfl<|Nv<|lx rfl<|Nx<|oG [0] (fun w hM hO=>Dl X br r253 16384 w hO om) fun B56 cb56 l56 r256 heq56=>?_
       have hil2:=Rd.vH r253 16384; rw [heq56] at hil2; dsimp only at hil2
       refine lk (.agg #[(vL B53 (l53) cb53),(vL B56 (l56) cb56)])<|lk (.iface 255 (.agg #[(vL B53 (l53) cb53),(vL B56 (l56) cb56)]))<|lk (vP b6 2)<|Nx<|pS 2 rfl<|Nk<|aS<|cQ _ 8 kr (fun _ h=>h.pick [0,2,3,4] rfl rfl)<|aV 0 _ rfl (rA 1 [(vS t9),(vS t11),(.iface 255 (.agg #[(vL B53 (l53) cb53),(vL B56 (l56) cb56)]))])<|aC 1 (vP b6 2) rfl<|al 2 1 ?_
       refine aC 3 (vP b6 0) rfl<|aV 4 _ rfl (rA 1 [(vS t9),(vS t11)])<|aA 5 rfl<|bP (fun w hM=>Qx B53 cb53 l53 B56 cb56 l56 t9 t11 w (hM.bB (j:=3) rfl (fun _ h=>aH.cN h)) (hM.bB (j:=4) rfl (fun _ h=>aH.cN h)) om om) ?_
       dsimp only [bE,List.set,List.cons_append,List.nil_append]
       refine aP _ (fun _ h=>h) (fun _ h=>h.pick [0,2,3,4] rfl rfl)<|aA 6 rfl<|pT 1 [(vS t9),(vS t11),(.iface 255 (.agg #[(vL B53 (l53) cb53),(vL B56 (l56) cb56)]))] rfl<|aP _ (fun _ h=>h) (fun _ h=>h.pick [0,2,3,4] rfl rfl)<|aa 7 ?_
       refine cF kr<|aI<|fX<|fP [(.agg #[(vS t9),(vS t11),(.iface 255 (.agg #[(vL B53 (l53) cb53),(vL B56 (l56) cb56)]))]),(.bool (eF l53 t9 t11 && eF l56 t9 t11))] rfl ⟨⟨_,rfl,fun w hM=>gZ kr kr (eQ (i:=1) (off:=0) rfl (by intro j v hj; rw [Nat.zero_add]; exact hj) w hM)⟩,rfl,trivial⟩ (fun w hM=>?_)
       have hp:r.part=(if (eF l53 t9 t11 && eF l56 t9 t11) then some (PV.mk t9 t11 (.ans B53 cb53 l53 B56 cb56 l56)).abs else none,r256):=hp0.trans (Rd.UF heq32 hk heq53 heq56)
       replace hM:Mm _ _ [bH X br (r256),aD b2 246 [(vS t9),(vS t11),(.iface 255 (.agg #[(vL B53 (l53) cb53),(vL B56 (l56) cb56)]))],aD b6 246 [(vS t9),(vS t11),(.iface 255 (.agg #[(vL B53 (l53) cb53),(vL B56 (l56) cb56)]))],dG ([(B53,l53)]),cS B56 (l56) cb56] w:=hM.tD 3 rfl
       replace hM:Mm _ _ [bH X br (r256),aD b2 246 [(vS t9),(vS t11),(.iface 255 (.agg #[(vL B53 (l53) cb53),(vL B56 (l56) cb56)]))],aD b6 246 [(vS t9),(vS t11),(.iface 255 (.agg #[(vL B53 (l53) cb53),(vL B56 (l56) cb56)]))],dG ([(B53,l53)]),dG ([(B56,l56)])] w:=hM.tD 4 rfl
       refine ⟨[(vS t9),(vS t11),(.iface 255 (.agg #[(vL B53 (l53) cb53),(vL B56 (l56) cb56)]))],[(B53,l53),(B56,l56)],_,_,Im _ _,Mm.join (cs:=[_]) (L:=[(B53,l53)]) (M:=[(B56,l56)]) ((hM.pick [0,3,4] rfl rfl)),hp,⟨rfl,sO rfl rfl rfl⟩,fun p hp=>⟨PV.mk t9 t11 (.ans B53 cb53 l53 B56 cb56 l56),rfl,Io hp,fun q hq=>hq⟩⟩
      ·have hn3:¬ n32=3:=uP hc50
       refine Nc<|lk (.agg #[(.string ⟨#[]⟩),(.string ⟨#[]⟩),.nilIface])<|Nx<|pT 1 [(.string ⟨#[]⟩),(.string ⟨#[]⟩),.nilIface] rfl<|lx rfl<|Nd<|fY<|dC<|fP [(.agg #[(.string ⟨#[]⟩),(.string ⟨#[]⟩),.nilIface]),bF] rfl ⟨⟨_,rfl,fun w hM=>gZ kr kr (eQ (i:=1) (off:=0) rfl (by intro j v hj; rw [Nat.zero_add]; exact hj) w hM)⟩,rfl,trivial⟩ (fun w hM=>?_)
       have hp:r.part=(none,r232):=hp0.trans (Rd.UG heq32 hn1 hn2 hn3)
       exact ⟨[(.string ⟨#[]⟩),(.string ⟨#[]⟩),.nilIface],[],none,r232,rfl,Mm.tE ((hM.pick [0] rfl rfl)),hp,⟨rfl,sO rfl rfl rfl⟩,fun p hp=>by cases hp⟩
theorem Af (A:Option Addr) (c:Nat) (xs:List UInt8) (n:Nat) (w:World) (hO:cE [cB A xs c] w) (hn:n < 18446744073709551616) (hx:xs.length≤4294960000) :
  Calls Tryz.prog 117 #[(vL A xs c),(.int .u64 ((n:Nat):Int))] w fun e w'=>∃ (A2:Option Addr) (c2:Nat),e = .returned (vL A2 (xs++aE n) c2)∧aJ [cB A xs c] w [cB A2 (xs++aE n) c2] w':=by
 have ho:w.ownsRow 0 5 1 (.slice A xs.length c) xs.length (B8 xs):=hO.at (i:=0) rfl
 refine (Gc 0 n (.slice A xs.length c) xs w hn om (Nat.zero_le _) ho).mono ?_
 rintro e w' ⟨v',rfl,hG⟩
 obtain ⟨A',c',rfl,hM⟩:=hO.Ed 0 rfl hG.own hG.gr hG.blk
 exact ⟨A',c',rfl,hM⟩
theorem Dn (w:World) :
  Calls Tryz.prog 68 #[] w fun e w'=>∃ (bw:Nat),e = .returned (vP bw 0)∧aJ [] w [aD bw 180 [nS,(vi 0)]] w':=(Gd w).mono fun _ _ ⟨he,hf,ha⟩=>⟨_,he,(Mm.start w []).push (c:=aD w.heap.size 180 [nS,vi 0]) hf ha (by simp [aD]) (by simp [aD])⟩
theorem xA (bw:Nat) (A:Option Addr) (c:Nat) (xs:List UInt8) (n:Nat) (w:World) (hO:cE [aD bw 180 [(vL A (xs) c),(vi 0)],cB A (xs) c] w) (hn:n < 18446744073709551616) (hx:xs.length≤4294960000) :
  Calls Tryz.prog 118 #[(vP bw 0),(.int .u64 ((n:Nat):Int))] w fun e w'=>∃ (A2:Option Addr) (c2:Nat),e = .returned (.tuple #[])∧aJ [aD bw 180 [(vL A (xs) c),(vi 0)],cB A (xs) c] w [aD bw 180 [(vL A2 (xs++aE n) c2),(vi 0)],cB A2 (xs++aE n) c2] w':=by
 exact bK Tryz.func118 18 (hO) rfl<|Nc<|lx rfl<|lk (vP bw 0)<|lk (vP bw 1)<|lL 0 rfl<|lT<|Nt<|aF<|lx rfl<|lk (vP bw 0)<|lk (vP bw 0)<|lL 0 rfl<|lx rfl<|Nx<|oF [1] (fun w hM hO=>Af A c xs n w hO om om) fun A215 c215=>lk (vP bw 0)<|lk (vP bw 0)<|Nx<|pS 0 rfl<|aO<|kR [] rfl trivial (fun w hM=>⟨A215,c215,rfl,hM⟩)
theorem Dp (bw:Nat) (A:Option Addr) (c:Nat) (xs:List UInt8) (n:Nat) (w:World) (hO:cE [aD bw 180 [(vL A (xs) c),(vi 0)],cB A (xs) c] w) (hn:n≤4294967296) (hx:xs.length≤4294960000) :
  Calls Tryz.prog 150 #[(vP bw 0),(vI n)] w fun e w'=>∃ (A2:Option Addr) (c2:Nat),e = .returned (.tuple #[])∧aJ [aD bw 180 [(vL A (xs) c),(vi 0)],cB A (xs) c] w [aD bw 180 [(vL A2 (xs++aE n) c2),(vi 0)],cB A2 (xs++aE n) c2] w':=by
 exact bK Tryz.func150 18 (hO) rfl<|Ny<|lx rfl<|lk (vP bw 0)<|lk (vP bw 1)<|lL 0 rfl<|lF<|Nn<|Nc<|lx rfl<|lk (.bool (decide (((n:Nat):Int) < 0)))<|Na<|eP rfl si<|fI<|aI<|aF<|lx rfl<|lw (vU n) (iC _ (fun _=>kr) rfl rfl (kK om om))<|Nx<|iD [0,1] (fun w hM hO=>xA bw A c xs n w hO om om) fun A217 c217=>aO<|kR [] rfl trivial (fun w hM=>⟨A217,c217,rfl,hM⟩)
theorem Ir (bw:Nat) (A:Option Addr) (c:Nat) (xs t:List UInt8) (w:World) (hO:cE [aD bw 180 [(vL A (xs) c),(vi 0)],cB A (xs) c] w) (ht:t.length≤1000) (hx:xs.length≤4294960000) :
  Calls Tryz.prog 204 #[(vP bw 0),(vS t)] w fun e w'=>∃ (A2:Option Addr) (c2:Nat),e = .returned (.tuple #[])∧aJ [aD bw 180 [(vL A (xs) c),(vi 0)],cB A (xs) c] w [aD bw 180 [(vL A2 (xs++aE t.length++t) c2),(vi 0)],cB A2 (xs++aE t.length++t) c2] w':=by
 refine bK Tryz.func204 22 (hO) rfl<|Nc<|lx rfl<|lk (vP bw 0)<|lk (vP bw 1)<|lL 0 rfl<|lT<|Nt<|aF<|lx rfl<|lk (vP bw 0)<|lk (vP bw 0)<|lL 0 rfl<|lx rfl<|lw (vI ((t).length)) (vW rfl rfl kr)<|lw (vU t.length) (iC _ (fun _=>kr) rfl rfl (kK om om))<|Nx<|oF [1] (fun w hM hO=>Af A c xs t.length w hO om om) fun A217 c217=>lx rfl<|Nx<|EU 1 rfl rfl kr kr kr kr rfl rfl rfl (by have:=fG t.length om; rw [List.length_append]; omega) (((xs++aE t.length)++t).length) fN (B8 ((xs++aE t.length)++t)) (by simp [B8]) (fun A19 c19=>lk (vP bw 0)<|lk (vP bw 0)<|Nx ?_)
 exact pS 0 rfl<|aO<|kR [] rfl trivial (fun w hM=>⟨A19,c19,rfl,hM⟩)
theorem Dq (bw:Nat) (A:Option Addr) (c:Nat) (xs t:List UInt8) (w:World) (hO:cE [aD bw 180 [(vL A (xs) c),(vi 0)],cB A (xs) c] w) (ht:t.length=32) (hx:xs.length≤4294960000) :
  Calls Tryz.prog 120 #[(vP bw 0),(vS t)] w fun e w'=>∃ (A2:Option Addr) (c2:Nat),e = .returned (.tuple #[])∧aJ [aD bw 180 [(vL A (xs) c),(vi 0)],cB A (xs) c] w [aD bw 180 [(vL A2 (xs++t) c2),(vi 0)],cB A2 (xs++t) c2] w':=by
 refine bK Tryz.func120 24 (hO) rfl<|Ny<|lx rfl<|lk (vP bw 0)<|lk (vP bw 1)<|lL 0 rfl<|lF<|Nn<|Nc<|lx rfl<|lw (vI ((t).length)) (vW rfl rfl kr)<|lk (.bool (((((t).length:Nat):Int):Int) != 32))<|Na<|eP rfl (by simp [ht])<|fI<|aI<|aF<|lx rfl<|lk (vP bw 0)<|lk (vP bw 0)<|lL 0 rfl<|lx rfl<|Nx<|EU 1 rfl rfl kr kr kr kr rfl rfl rfl om (((xs)++t).length) fN (B8 ((xs)++t)) (by simp [B8]) (fun A21 c21=>?_)
 exact lk (vP bw 0)<|lk (vP bw 0)<|Nx<|pS 0 rfl<|aO<|kR [] rfl trivial (fun w hM=>⟨A21,c21,rfl,hM⟩)
theorem Dr (bw:Nat) (A:Option Addr) (c:Nat) (xs:List UInt8) (w:World) (hO:cE [aD bw 180 [(vL A (xs) c),(vi 0)],cB A (xs) c] w) (hb:xs.length≤1048576) :
  Calls Tryz.prog 71 #[(vP bw 0)] w fun e w'=>∃ (A2:Option Addr) (c2:Nat),e = .returned (.tuple #[(vL A2 xs c2),(vi 0)])∧aJ [aD bw 180 [(vL A (xs) c),(vi 0)],cB A (xs) c] w [aD bw 180 [(vL A (xs) c),(vi 0)],cB A (xs) c,cB A2 xs c2] w':=by
 refine dI Tryz.func71 25 (hO) rfl<|Nc<|lx rfl<|Ne<|lx rfl<|lk (vP bw 0)<|lk (vP bw 1)<|lL 0 rfl<|lF<|Nn<|Nc<|lx rfl<|lk (vP bw 0)<|lk (vP bw 0)<|lL 0 rfl<|lk (vI ((xs).length))<|lk (.bool (decide ((((xs).length:Nat):Int) > 1048576)))<|Na<|eP rfl (by simp; omega)<|Ni<|Nx<|pN 0 5 [] fun b19=>lx rfl<|lk (vP bw 0) ?_
 exact lk (vP bw 0)<|lL 0 rfl<|Nx<|rS (fun w hM=>hM.Ee 2 rfl 1)<|cY fH 2 (B8 (xs)) rfl rfl kr rfl rfl rfl (by simp [B8]) (fun w hM=>dV.jW (gJ (i:=1) rfl w hM)) ((gS _)) om ((xs).length) fN (B8 (xs)) (by simp [B8]) (fun A24 c24=>lx rfl<|Nd<|sN [(vL A24 (xs) c24),(vi 0)] fun w hM=>⟨A24,c24,rfl,hM⟩)
section
def kE (b : Nat) (xs : List UInt8) : Ch where
 fp := [b]
 holds w := gP w b xs
 ok w w' hb h := by
  obtain ⟨buf, h1, h2, h3⟩ := h
  exact ⟨buf, h1, h2, (hb b (by simp)).trans h3⟩
 lt w h c hc := by
  rw [List.mem_singleton] at hc
  subst hc
  exact h.lt
theorem QB {S:List Nat} {w:World} {A:Option Addr} {bs:List UInt8} (h:Ro S w (fun w=>aH w A (B8 bs))) (h0:0 < bs.length) {g o:Nat} (hA:A=some ⟨g,o,none⟩):g∉S:=fun hg=>by
 have hf:Fr S w { w with heap:=w.heap.setIfInBounds g (.map #[] 0) }:=⟨rfl,rfl,rfl,si,fun k _ hn=>by simp only; rw [Array.getElem?_setIfInBounds_ne (by intro e; subst e; exact hn hg)]⟩
 obtain ⟨b',o',hA',hlt,hc⟩:=h _ hf 0 _ (pZ bs 0 _ (List.getElem?_eq_getElem h0))
 rw [hA] at hA'
 injection hA' with hA'
 injection hA' with e1 e2
 subst e1
 simp only [World.cell?] at hc
 rw [Array.getElem?_setIfInBounds_self_of_lt (by simpa using hlt)] at hc
 simp at hc
theorem QC {S:List Nat} {w:World} (h:Ro S w cI):0∉S∧1∉S:=by
 have key:∀ g,g < 2→g∉S:=fun g hg2 hg=>by
  have hf:Fr S w { w with heap:=w.heap.setIfInBounds g (.map #[] 0) }:=⟨rfl,rfl,rfl,si,fun k _ hn=>by simp only; rw [Array.getElem?_setIfInBounds_ne (by intro e; subst e; exact hn hg)]⟩
  have hv:=h _ hf
  have hlt:=hv.lt
  have hlt':g < w.heap.size:=by simp at hlt; omega
  have e:(w.heap.setIfInBounds g (.map #[] 0))[g]?=some (.map #[] 0):=by rw [Array.getElem?_setIfInBounds_self_of_lt hlt']
  rcases Nat.lt_or_ge g 1 with h1 | h1
  ·obtain rfl:g=0:=om
   have:=hv.init 0 _ rfl
   simp [World.cell?,e] at this
  ·obtain rfl:g=1:=om
   have:=hv.cons 0 _ rfl
   simp [World.cell?,e] at this
 exact ⟨key 0 om,key 1 om⟩
theorem QD (w:World) (r0:Rf [] w (cI)) :
  Calls Tryz.prog 110 #[] w fun e w'=>∃ (b:Nat),e = .returned (vP b 0)∧aJ [] w [kE b []] w':=by
 refine (Fu w r0.here).mono ?_
 rintro e w' ⟨rfl,hf,hs⟩
 exact ⟨w.heap.size,rfl,(Mm.start w []).push (c:=kE w.heap.size []) hf hs (by simp [kE]) (by simp [kE])⟩
theorem QE (b:Nat) (xs:List UInt8) (A:Option Addr) (c:Nat) (bs:List UInt8) (w:World) (hO:cE [kE b xs] w) (r0:Rf [kE b xs] w (cI)) (r1:Rf [kE b xs] w (fun w=>aH w A (B8 bs))) (hcap:bs.length≤c) (hlen:xs.length+bs.length≤549755813888) :
  Calls Tryz.prog 111 #[(vP b 0),(vL A bs c)] w fun e w'=>e = .returned (.tuple #[])∧aJ [kE b xs] w [kE b (xs++bs)] w':=by
 have hv:cI w:=r0.here
 have hs:gP w b xs:=hO.at (i:=0) rfl
 have hrow:aH w A (B8 bs):=r1.here
 have h2:2≤b:=by
  rcases Nat.lt_or_ge b 2 with h | h
  ·exfalso
   have:=QC r0
   simp [kE] at this
   omega
  ·exact h
 refine (Fy b xs bs A c w hv h2 hs hrow hcap (fun h0 g o hA=>?_) om).mono ?_
 ·have:=QB r1 h0 hA
  simpa [kE] using this
 ·rintro e w' ⟨rfl,hf,hs'⟩
  exact ⟨rfl,hO.swap 0 rfl (c':=kE b (xs++bs)) hf hs' (fun k hk=>.inl hk) (by simp [kE])⟩
theorem QF (b:Nat) (xs:List UInt8) (w:World) (hO:cE [kE b xs] w) (r0:Rf [kE b xs] w (cI)) (hlen:xs.length≤549755813888) :
  Calls Tryz.prog 112 #[(vP b 0)] w fun e w'=>e = .returned (vS (dO xs))∧aJ [kE b xs] w [kE b xs] w':=by
 have hs:gP w b xs:=hO.at (i:=0) rfl
 refine (FA b xs w r0.here hs hlen).mono ?_
 rintro e w' ⟨rfl,hf⟩
 exact ⟨rfl,hO.dD hf⟩
section
variable {P : Program} {Q : Exit → Act → World → Prop} {n : Nat} {w0 : World} {F : List Nat} {E : cH} {cs : List Ch} {K : Act → World → Prop} {o : Oper} {d : Nat}
theorem Is {src dst e:TypeId} {x:Operand} {bs:List UInt8} (ho:o.op = .convert src dst x) (hd:o.dst=some d) (hs:P.underlying src=some .string) (ht:P.underlying dst=some (.slice e)) (he:P.underlying e=some (.int .u8)) (hk:bN n E o=true) (hx:aM E x=some (vS bs))
  (h:∀ b c,bs.length≤c→St n w0 F ((d,.slice (some ⟨b,0,none⟩) bs.length c)::E) (cs++[rT b e (B8 bs)]) K):cL P Q n w0 F E cs o K :=
 nW hd hk fun w hM=>by
  have hr:=run_bytes_of_string (P:=P) w src dst e (aT bs) hs ht he
  rw [BE] at hr
  refine ⟨_,_,_,by unfold execOp; simp only [ho,bG hx,Sem.run_bind,hr]; rfl,hM.push (c:=rT w.heap.size e (B8 bs)) (((Fr.refl _ _).drew).alloc _) ⟨_,_,heap_alloc_new w.drew _,fun j v hj=>?_⟩ (by simp [rT]) (by simp [rT]),h _ _ (grownCap_ge _ _ _ _)⟩
  have hlt:=(List.getElem?_eq_some_iff.1 hj).1
  rw [dL] at hlt
  unfold bytesRow
  rw [Array.getElem?_append_left (by simp [aT]; exact hlt)]
  simpa [aT,B8] using hj
theorem QG {ty u:TypeId} {x y:Operand} {a:Nat} (ho:o.op = .binOp .shl ty x y u) (hx:aM E x=some (.int .u16 (a:Int))) (hy:aM E y=some (.int .u64 8)) (ha:a < 256):cC P w0 F cs E o (.int .u16 ((a*256:Nat):Int)):=fun w _=>by
 unfold execOp
 simp only [ho,bG hx,bG hy,Sem.run_bind,mR,Result.andThen_ok,binOp,Op.shift]
 rw [if_neg om]
 simp only [Sem.run_pure,Result.andThen_ok]
 have e:IntKind.u16.wrap ((a:Int)*2 ^ (min (8:Int).toNat IntKind.u16.bits))=((a*256:Nat):Int):=by
  rw [IntKind.wrap_u16,show ((2:Int) ^ (min (8:Int).toNat IntKind.u16.bits))=256 from rfl]
  omega
 rw [e]
theorem QH {ty u:TypeId} {x y:Operand} {a b:Nat} (ho:o.op = .binOp .or ty x y u) (hx:aM E x=some (.int .u16 ((a*256:Nat):Int))) (hy:aM E y=some (.int .u16 ((b:Nat):Int))) (ha:a < 256) (hb:b < 256):cC P w0 F cs E o (.int .u16 ((a*256+b:Nat):Int)):=qH .or si _ ho hx hy (by
 have h1:a*256 ||| b=a*256+b:=by
  have h:=Nat.shiftLeft_add_eq_or_of_lt (b:=b) (i:=8) hb a
  rw [Nat.shiftLeft_eq] at h
  exact h.symm
 rw [← h1]
 exact u16_or_nat (a*256) b om om)
end
theorem Ds (x:List UInt8) {k:Nat} (h:k < 32):(dO x)[k]?=some ((dO x).getD k 0):=by
 rw [List.getD_eq_getElem?_getD,List.getElem?_eq_getElem (by rw [rF]; exact h)]
 rfl
theorem It (t:BT) (n s:Nat):pQ t (BT.new n s)=kD t n s:=by
 unfold pQ kD
 rw [uR]
 rfl
theorem QI (A:Option Addr) (c:Nat) (bs:List UInt8) (w:World) (r0:Rf [] w (cI)) (r1:Rf [] w (fun w=>aH w A (B8 bs))) (hcap:bs.length≤c) (hlen:bs.length≤549755813888) :
  Calls Tryz.prog 114 #[(vL A bs c)] w fun e w'=>e = .returned (vS (dO bs))∧aJ [] w [] w':=by
 refine dI Tryz.func114 10 (Mm.start w []) rfl<|Nc<|lx rfl<|Nb<|Nx<|gD (fun w hM=>QD  w (r0.aQ hM)) fun b4=>lx rfl<|Nb<|lx rfl<|Nx<|eK [0] (fun w hM hO=>QE b4 [] A c bs w hO (r0.cK hM [0]) (r1.cK hM [0]) om (by simp; omega))<|Nb<|lx rfl<|Nx<|eK [0] (fun w hM hO=>QF b4 ([]++bs) w hO (r0.cK hM [0]) (by simp; omega))<|lx rfl<|Nd<|sN [(vS (dO ([]++bs)))] fun w hM=>?_
 -- ret: (vS (sha bs)) / [(vS (sha ([]++bs)))]
 exact ⟨rfl,(hM.pick [] rfl rfl)⟩
theorem QJ (v:Nat) (w:World) (hv:v < 65536) :
  Calls Tryz.prog 115 #[(.int .u16 ((v:Nat):Int))] w fun e w'=>e = .returned (vI (16 - Lib.bitLen v))∧aJ [] w [] w':=by
 have h:=Tryz.bits_LeadingZeros16 ((v:Nat):Int) w om om
 refine h.mono ?_
 rintro e w' ⟨rfl,rfl⟩
 have hb:=Lib.bitLen_le v 16 om om
 refine ⟨?_,Mm.start _ []⟩
 show Ending.returned (vi _)=Ending.returned (vi _)
 rw [Int.toNat_natCast,Int.ofNat_sub hb]
 rfl
theorem QK (x:List UInt8) (w:World) (r0:Rf [] w (cI)) (hl:x.length≤1000) :
  Calls Tryz.prog 66 #[(vS x)] w fun e w'=>e = .returned (vI (fU x))∧aJ [] w [] w':=by
 refine dI Tryz.func66 19 (Mm.start w []) rfl<|Nc<|lx rfl<|Nb<|lx rfl<|Nx<|Is (e:=5) (bs:=x) rfl rfl kr kr kr kr rfl (fun b6 c6 hcap6=>Nx<|bP (fun w hM=>QI (some ⟨b6,0,none⟩) c6 x w (r0.aQ hM) (hM.bB (j:=0) rfl (fun _ h=>Fc h)) om om)<|lx rfl<|Nf ?_)
 have hb0:=UInt8.toNat_lt ((dO x).getD 0 0)
 have hb1:=UInt8.toNat_lt ((dO x).getD 1 0)
 have hlv:=De x
 refine cQ _ 9 kr (fun _ h=>h) ?_
 refine am 0 ?_
 refine aV 1 (.int .u8 ((((dO x).getD 0 0).toNat:Nat):Int)) rfl (yF rfl kr rfl rfl (Ds x (k:=0) (by decide)))<|aV 2 (.int .u16 ((((dO x).getD 0 0).toNat:Nat):Int)) rfl (iC _ (fun _=>kr) rfl rfl (by rw [IntKind.wrap_u16]; omega))<|aV 3 (.int .u16 ((((dO x).getD 0 0).toNat*256:Nat):Int)) rfl (QG rfl rfl rfl hb0)<|am 4 ?_
 refine aV 5 (.int .u8 ((((dO x).getD 1 0).toNat:Nat):Int)) rfl (yF rfl kr rfl rfl (Ds x (k:=1) (by decide)))<|aV 6 (.int .u16 ((((dO x).getD 1 0).toNat:Nat):Int)) rfl (iC _ (fun _=>kr) rfl rfl (by rw [IntKind.wrap_u16]; omega))<|aV 7 (.int .u16 (((oT x):Nat):Int)) rfl (QH rfl rfl rfl hb0 hb1)<|aa 8 ?_
 exact cF kr<|aI<|Nc<|lx rfl<|Nx<|bP (fun w hM=>QJ (oT x) w om)<|lw (vI (min (16 - Lib.bitLen (oT x)) 11)) (Fb rfl rfl rfl)<|lx rfl<|Nd<|sN [(vI (min (16 - Lib.bitLen (oT x)) 11))] fun w hM=>⟨rfl,(hM.pick [] rfl rfl)⟩
theorem Iu (bw:Nat) (A:Option Addr) (c:Nat) (xs:List UInt8) (A1:Option Addr) (c1:Nat) (t:List UInt8) (w:World) (hO:cE [aD bw 180 [(vL A (xs) c),(vi 0)],cB A (xs) c] w) (r0:Rf [aD bw 180 [(vL A (xs) c),(vi 0)],cB A (xs) c] w (fun w=>aH w A1 (B8 t))) (ht:t.length≤1000000) (hx:xs.length≤4293800000) :
  Calls Tryz.prog 69 #[(vP bw 0),(vL A1 t c1)] w fun e w'=>∃ (A2:Option Addr) (c2:Nat),e = .returned (.tuple #[])∧aJ [aD bw 180 [(vL A (xs) c),(vi 0)],cB A (xs) c] w [aD bw 180 [(vL A2 (xs++aE t.length++t) c2),(vi 0)],cB A2 (xs++aE t.length++t) c2] w':=by
 refine bK Tryz.func69 22 (hO) rfl<|Nc<|lx rfl<|lk (vP bw 0)<|lk (vP bw 1)<|lL 0 rfl<|lT<|Nt<|aF<|lx rfl<|lk (vP bw 0)<|lk (vP bw 0)<|lL 0 rfl<|lx rfl<|lk (vI t.length)<|lw (vU t.length) (iC _ (fun _=>kr) rfl rfl (kK om om))<|Nx<|oF [1] (fun w hM hO=>Af A c xs t.length w hO om om) fun A217 c217=>lx rfl<|Nx<|cY fH 1 (B8 t) rfl rfl kr rfl rfl rfl (by simp [B8]) (fun w hM=>dV.jW (r0.now hM)) ((gS _)) (by have:=fG t.length om; rw [List.length_append]; omega) ((xs++aE t.length++t).length) fN (B8 (xs++aE t.length++t)) (by simp [B8]) (fun A19 c19=>lk (vP bw 0)<|lk (vP bw 0)<|Nx ?_)
 exact pS 0 rfl<|aO<|kR [] rfl trivial (fun w hM=>⟨A19,c19,rfl,hM⟩)
theorem Dt (A:Option Addr) (c:Nat) (xs:List UInt8) (n:Nat) (w:World) (r0:Rf [] w (fun w=>aH w A (B8 xs))) (hn:n < 18446744073709551616) (hx:xs.length≤4294900000) :
  Calls Tryz.prog 92 #[(vL A xs c),(.int .u64 ((n:Nat):Int))] w fun e w'=>∃ (A2:Option Addr) (c2:Nat),e = .returned (vL A2 (xs++aE n) c2)∧aJ [] w [cB A2 (xs++aE n) c2] w':=by
 exact bK Tryz.func92 13 (Mm.start w []) rfl<|Nc<|lx rfl<|Nb<|lx rfl<|lk (vI xs.length)<|lw (vI (xs.length+10)) bO<|Nx<|Ho fH (xs.length+10) om rfl rfl kr rfl rfl (fun b8=>lx rfl<|Nx<|cY fH 0 (B8 xs) rfl rfl kr rfl rfl rfl (by simp [B8]) (fun w hM=>dV.jW (r0.now hM)) ((gS _)) om ((xs).length) fN (B8 (xs)) (by simp [B8]) (fun A10 c10=>lx rfl<|Nx<|oF [0] (fun w hM hO=>Af A10 c10 xs n w hO om om) fun A212 c212=>lx rfl<|Nd<|sN [(vL A212 (xs++aE n) c212)] fun w hM=>⟨A212,c212,rfl,hM⟩)) om
theorem QL (A:Option Addr) (c:Nat) (l:List (List UInt8)) (w:World) (hO:cE [cS A (l) c] w) (hl:l.length≤3072) :
  Calls Tryz.prog 132 #[(vL A l c)] w fun e w'=>e = .returned (.tuple #[])∧aJ [cS A (l) c] w [mK A (SS (bM l))] w':=by
 have ho:w.ownsRow 0 9 1 (.slice A l.length c) l.length (l.map aL):=hO.at (i:=0) rfl
 refine (wI ho rfl hl).mono ?_
 rintro e w' ⟨rfl,hf,hr⟩
 exact ⟨rfl,hO.swap 0 rfl (c':=mK A (SS (bM l))) (by cases A <;> exact hf) hr (fun b hb=>.inl (by simp only [mK] at hb; split at hb <;> simp_all [aR])) (by simp only [mK]; split <;> simp [rN])⟩
theorem Iv (A:Option Addr) (c:Nat) (l:List (List UInt8)) (n:Nat) (w:World) (r0:Rf [] w (cI)) (r1:Rf [] w (fun w=>aH w A (SS l))) (hz:dQ (n:Int)=true) (h32:∀ x∈l,x.length=32) (hl:l.length≤68719476736) :
  Calls Tryz.prog 147 #[(vL A l c),(vI n)] w fun e w'=>∃ (X:TX),e = .returned (.tuple #[(vP X.bt 0),(vi 0)])∧aJ [] w [cT X (eH l n)] w':=by
 refine bK Tryz.func147 29 (Mm.start w []) rfl<|Nc<|lx rfl<|Nb<|lx rfl<|Nx<|gD (fun w hM=>zM n 0 w ag (by unfold bI; decide)) fun X12=>lx rfl<|Ne<|lx rfl<|lF<|Nn<|Nc<|lx rfl<|lk (vI l.length)<|lx rfl<|Ng<|sL (fun i=>i≤l.length) (fun i=>l.length - i) (fun i=>[(4,(.pointer none)),(5,(vi 0)),(6,(vP X12.bt 0)),(18,(vL A l c)),(19,(vI l.length)),(20,(vI i))]) (fun i=>[cT X12 (eH (l.take i) n)]) 0 (Nat.zero_le _) (fun _ h=>h) ?_
 intro i hi
 show St _ _ _ [(4,(.pointer none)),(5,(vi 0)),(6,(vP X12.bt 0)),(18,(vL A l c)),(19,(vI l.length)),(20,(vI i))] [cT X12 (eH (l.take i) n)] _
 refine Nc<|lk (.bool (decide (((i:Nat):Int) < ((l.length:Nat):Int)))) ?_
 refine aO (aI (aS (bD rfl (fun hc21=>?_) (fun hc21=>?_))))
 ·have hd21:=of_decide_eq_true hc21
  have hlt:i < l.length:=om
  refine Nm<|aF ?_
  obtain ⟨x0,hx0⟩:∃ ξ,(l)[i]?=some ξ:=⟨_,List.getElem?_eq_getElem om⟩
  refine St.eY (fun w hM=>r1.now hM) (fR hx0) (fun p22 q22 hA22 hc22=>lw (vP p22 (q22+i)) (rR 9 hA22)<|lW (rW hc22)<|lx rfl<|Nv<|lx rfl<|Nx<|eK [0] (fun w hM hO=>OF X12 (eH (l.take i) n) x0 w hO (r0.cK hM [0]) (h32 _ (List.mem_of_getElem? hx0)))<|Nk<|aF<|lw (vI (i+1)) bO<|lx rfl<|Na ?_)
  rw [show (eH (l.take i) n).change x0 1=eH (l.take (i+1)) n from by rw [List.take_add_one,hx0]; exact (Dg _ _ _).symm]
  exact sA (i+1) (by show _≤_; omega) (by show l.length - (i+1) < l.length - i; omega) (fun w hM=>hM)
 ·have hd21:=of_decide_eq_false hc21
  obtain rfl:i=l.length:=om
  rw [List.take_length]
  exact Nj<|aF<|lx rfl<|Nd<|sN [(vP X12.bt 0),(vi 0)] fun w hM=>⟨X12,rfl,hM⟩
theorem QM (X:TX) (t:BT) (n s:Nat) (w:World) (r0:Rf [] w (fun w=>(cT X t).holds w)) (hz:dQ (n:Int)=true) (hu:bI s) (ht:kD t n s=true) :
  Calls Tryz.prog 76 #[(vP X.bt 0),(vI n),(.int .u64 ((s:Nat):Int))] w fun e w'=>e = .returned bT∧aJ [] w [] w':=by
 exact mI Tryz.func76 25 (Mm.start w []) rfl<|Nc<|lx rfl<|Nb<|lx rfl<|Nx<|gD (fun w hM=>zM n s w ag ag) fun X12=>lx rfl<|Ne<|lx rfl<|lF<|Nn<|aF<|lx rfl<|Nx<|gD (fun w hM=>Cz X t X12 (BT.new n s) w (r0.aQ hM) (hM.bB (j:=0) rfl (fun _ h=>h)) (by rw [It]; exact ht)) fun Z20=>lx rfl<|Nb<|lx rfl<|lT<|lx rfl<|Nd<|sN [bT] fun w hM=>⟨rfl,(hM.pick [] rfl rfl)⟩
theorem QN (X:TX) (t:BT) (n s:Nat) (w:World) (r0:Rf [] w (fun w=>(cT X t).holds w)) (hz:dQ (n:Int)=true) (hu:bI s) (ht:kD t n s=false) :
  Calls Tryz.prog 76 #[(vP X.bt 0),(vI n),(.int .u64 ((s:Nat):Int))] w fun e w'=>e = .returned bF∧aJ [] w [] w':=by
 exact mI Tryz.func76 25 (Mm.start w []) rfl<|Nc<|lx rfl<|Nb<|lx rfl<|Nx<|gD (fun w hM=>zM n s w ag ag) fun X12=>lx rfl<|Ne<|lx rfl<|lF<|Nn<|aF<|lx rfl<|Nx<|bP (fun w hM=>OH X t X12 (BT.new n s) w (r0.aQ hM) (hM.bB (j:=0) rfl (fun _ h=>h)) (by rw [It]; exact ht))<|lx rfl<|Nb<|lx rfl<|lF<|lx rfl<|Nd<|sN [bF] fun w hM=>⟨rfl,(hM.pick [] rfl rfl)⟩
theorem Iw (X:TX) (t:BT) (n s:Nat) (w:World) (r0:Rf [] w (fun w=>(cT X t).holds w)) (hz:dQ (n:Int)=true) (hu:bI s) :
  Calls Tryz.prog 76 #[(vP X.bt 0),(vI n),(.int .u64 ((s:Nat):Int))] w fun e w'=>e = .returned (.bool (kD t n s))∧aJ [] w [] w':=by
 cases h:kD t n s with
 | true=>exact QM X t n s w r0 hz hu h
 | false=>exact QN X t n s w r0 hz hu h
theorem QO (k n:Int) (w:World) (h0:k < 0∨n < 0) :
  Calls Tryz.prog 10 #[(vi k),(vi n)] w fun e w'=>e = .returned (.tuple #[(vi 0),(vi 0),(vi 1)])∧aJ [] w [] w':=by
 refine bK Tryz.func10 20 (Mm.start w []) rfl<|Nc<|lx rfl<|Ne<|lx rfl<|lk (.bool (decide ((k:Int) < 0)))<|lm ?_
 refine St.dec 9 rfl (fun hc9=>?_) (fun hc9=>?_)
 ·have hd9:=of_decide_eq_true hc9
  exact lx rfl<|lT<|No<|lx rfl<|Nh<|sN [(vi 0),(vi 0),(vi 1)] fun w hM=>⟨rfl,hM⟩
 ·have hd9:=of_decide_eq_false hc9
  exact lx rfl<|lg (.bool (decide ((n:Int) < 0)))<|lk (.bool (decide ((n:Int) < 0)))<|Na<|lN rfl (by simp; omega)<|Nc<|lx rfl<|Nh<|sN [(vi 0),(vi 0),(vi 1)] fun w hM=>⟨rfl,hM⟩
theorem QP (k n:Nat) (w:World) (h0:500 < k) :
  Calls Tryz.prog 10 #[(vI k),(vI n)] w fun e w'=>e = .returned (.tuple #[(vi 2),(vi 0),(vi 0)])∧aJ [] w [] w':=by
 exact bK Tryz.func10 20 (Mm.start w []) rfl<|Nc<|lx rfl<|Ne<|lx rfl<|lk (.bool (decide (((k:Nat):Int) < 0)))<|lx rfl<|St.known 9 (b':=false) rfl si<|lx rfl<|lg (.bool (decide (((n:Nat):Int) < 0)))<|lk (.bool (decide (((n:Nat):Int) < 0)))<|Na<|eP rfl si<|Nl<|Nc<|lx rfl<|lk (.bool (decide (((k:Nat):Int) > 500)))<|Na<|lN rfl (by simp; omega)<|Nc<|lx rfl<|Nh<|sN [(vi 2),(vi 0),(vi 0)] fun w hM=>⟨rfl,hM⟩
theorem Du (k n:Nat) (w:World) (h0:k≤500) :
  Calls Tryz.prog 10 #[(vI k),(vI n)] w fun e w'=>e = .returned (.tuple #[(vi 1),(.int .i64 (jC ((k+k / 2:Nat):Int))),(vi 0)])∧aJ [] w [] w':=by
 refine bK Tryz.func10 20 (Mm.start w []) rfl<|Nc<|lx rfl<|Ne<|lx rfl<|lk (.bool (decide (((k:Nat):Int) < 0)))<|lx rfl<|St.known 9 (b':=false) rfl si<|lx rfl<|lg (.bool (decide (((n:Nat):Int) < 0)))<|lk (.bool (decide (((n:Nat):Int) < 0)))<|Na<|eP rfl si<|Nl<|Nc<|lx rfl<|lk (.bool (decide (((k:Nat):Int) > 500)))<|Na<|eP rfl (by simp; omega)<|Ni<|lx rfl<|lw (vI (k / 2)) (wY rfl rfl rfl om om)<|lw (vI (k+(k / 2))) bO<|Nx ?_
 exact bP (fun w hM=>OG ((k+(k / 2):Nat):Int) w )<|lx rfl<|Nd<|sN [(vi 1),(.int .i64 (jC ((k+(k / 2):Nat):Int))),(vi 0)] fun w hM=>⟨rfl,hM⟩
end
section
section
variable {P : Program} {w0 : World} {F : List Nat} {E : cH} {cs : List Ch} {o : Oper}
theorem QQ {ty e:TypeId} {x i:Operand} {k:IntKind} {l:List Value} {j m:Nat} {v:Value} (ho:o.op = .index ty x i) (hu:P.underlying ty=some (.array m e)) (hs:oC P e=true) (h1:fM P e=some 1) (hx:aM E x=some (.agg l.toArray)) (hi:aM E i=some (.int k (j:Int))) (hj:j < m) (hv:l[j]?=some v):cC P w0 F cs E o v:=fun w _=>by
 have hsz:(sizeOf e).run P w = .ok 1 w:=by
  unfold fM at h1
  cases hI:P.info? e with
  | none=>rw [hI] at h1; cases h1
  | some t =>
    rw [hI] at h1
    simp only [Option.map_some,Option.some.injEq] at h1
    simp only [sizeOf,typeInfo,Sem.run_bind,Sem.run_pure]
    simp [hI,h1]
 unfold execOp
 simp only [ho,bG hx,bG hi,Instr.index,asIntOf,Sem.run_bind,Sem.run_pure,Result.andThen_ok,run_underlying hu]
 rw [if_pos om]
 simp [hsz,part,EP hs w,hv,Sem.run_bind]
end
abbrev oX : Value := .pointer none
def cA (Xs : List TX) : List Value := Xs.map fun X => vP X.bt 0
theorem gA (Xs:List TX):(cA Xs).length=Xs.length:=by simp [cA]
theorem Ix {Xs:List TX} {k:Nat} {X:TX} (h:Xs[k]?=some X):(cA Xs)[k]?=some (vP X.bt 0):=by simp [cA,h]
theorem Dv {Xs:List TX} {k:Nat} {X:TX} (h:Xs[k]?=some X):(cA Xs)[0+k]?=some (vP X.bt 0):=by rw [Nat.zero_add]; exact Ix h
theorem sP (Xs:List TX):∀ v∈cA Xs,v.oneCell'=true:=by
 intro v hv
 obtain ⟨X,_,rfl⟩:=List.mem_map.1 hv
 rfl
theorem Iy {Xs:List TX} {i:Nat} (X:TX) (hl:Xs.length=i) (hi:i < 12):(cA Xs++List.replicate (12 - i) oX).set (0+i) (vP X.bt 0)=cA (Xs++[X])++List.replicate (12 - (i+1)) oX:=by
 subst hl
 rw [Nat.zero_add,List.set_append_right _ _ (by rw [gA]; exact Nat.le_refl _),gA,Nat.sub_self,show 12 - Xs.length=(12 - (Xs.length+1))+1 by omega,List.replicate_succ,List.set_cons_zero]
 simp [cA]
abbrev qV (Xs : List TX) : List Nat := Xs.flatMap fun X => [X.bt, X.bc]
theorem QR (Xs:List TX):qV Xs=(Xs.map fun X=>cT X (BT.new 0 0)).flatMap Ch.fp:=by
 induction Xs with
 | nil=>rfl
 | cons X Xs ih=>simp only [qV,List.flatMap_cons,List.map_cons] at ih ⊢; rw [ih]; rfl
def fE (Xs : List TX) (ts : List BT) : Ch where
 fp := qV Xs
 holds w := Xs.length = ts.length ∧ (∀ (k : Nat) (X : TX) (t : BT), Xs[k]? = some X → ts[k]? = some t → (cT X t).holds w) ∧ (qV Xs).Nodup
 ok w w' hb h := ⟨h.1, fun k X t hX ht => (cT X t).ok w w' (fun b hbc => hb b (List.mem_flatMap.2 ⟨X, List.mem_of_getElem? hX, hbc⟩)) (h.2.1 k X t hX ht), h.2.2⟩
 lt w h b hb := by
  obtain ⟨X, hX, hbc⟩ := List.mem_flatMap.1 hb
  obtain ⟨k, hk⟩ := List.mem_iff_getElem?.1 hX
  have hlt := (List.getElem?_eq_some_iff.1 hk).1
  exact (cT X (ts[k]'(by rw [← h.1]; exact hlt))).lt w (h.2.1 k X _ hk (List.getElem?_eq_getElem _)) b hbc
theorem Ah {w:World} {Xs:List TX} {ts:List BT} (h:(fE Xs ts).holds w) {k:Nat} {X:TX} {t:BT} (hX:Xs[k]?=some X) (ht:ts[k]?=some t):(cT X t).holds w:=h.2.1 k X t hX ht
section
variable {w0 w : World} {S : List Nat} {cs : List Ch} {Xs : List TX} {ts : List BT} {X : TX} {t : BT}
theorem Mm.KO (h:Mm w0 S cs w):Mm w0 S (cs++[fE [] []]) w :=
 h.push (c:=fE [] []) (Fr.refl _ _) ⟨rfl,si,by simp [qV]⟩ (by simp [fE,qV]) (by simp [fE,qV])
theorem Mm.KP (h:Mm w0 S (cs++[fE Xs ts,cT X t]) w):Mm w0 S (cs++[fE (Xs++[X]) (ts++[t])]) w:=by
 have hfp:(cs++[fE (Xs++[X]) (ts++[t])]).flatMap Ch.fp=(cs++[fE Xs ts,cT X t]).flatMap Ch.fp:=by
  simp [List.flatMap_append,fE,qV,jP]
 have h1:=h.hold (fE Xs ts) si
 have h2:=h.hold (cT X t) si
 refine ⟨h.fr,fun c hc=>?_,by rw [hfp]; exact h.nodup,fun b hb=>h.own b (by rw [← hfp]; exact hb)⟩
 rcases List.mem_append.1 hc with hc | hc
 ·exact h.hold c (by simp [hc])
 ·rw [List.mem_singleton] at hc
  subst hc
  refine ⟨by simp [h1.1],fun k Y u hY hu=>?_,?_⟩
  ·rcases Nat.lt_or_ge k Xs.length with hk | hk
   ·rw [List.getElem?_append_left hk] at hY
    rw [List.getElem?_append_left (by rw [← h1.1]; exact hk)] at hu
    exact h1.2.1 k Y u hY hu
   ·rw [List.getElem?_append_right hk] at hY
    rw [List.getElem?_append_right (by rw [← h1.1]; exact hk)] at hu
    have h0:k - Xs.length=0:=by
     have:=(List.getElem?_eq_some_iff.1 hY).1
     simp at this
     omega
    rw [h0] at hY
    rw [← h1.1,h0] at hu
    simp at hY hu
    subst hY hu
    exact h2
  ·have hn:=h.nodup
   rw [← hfp,List.flatMap_append,List.nodup_append] at hn
   simpa [fE] using hn.2.1
theorem cE.UM {w':World} {k:Nat} {t':BT} (hO:cE [fE Xs ts] w) (hX:Xs[k]?=some X) (_:ts[k]?=some t) (hf:Fr [X.bc] w w') (ht':eD w' X.bt X.bc X.cap X.rest t'):aJ [fE Xs ts] w [fE Xs (ts.set k t')] w':=by
 have h0:(fE Xs ts).holds w:=hO.at (i:=0) rfl
 refine hO.swap 0 rfl (c':=fE Xs (ts.set k t')) (hf.mono fun b hb=>.inl ?_) ⟨by rw [List.length_set]; exact h0.1,fun j Y u hY hu=>?_,h0.2.2⟩ (fun b hb=>.inl hb) h0.2.2
 ·simp only [List.mem_singleton] at hb
  subst hb
  exact List.mem_flatMap.2 ⟨X,List.mem_of_getElem? hX,si⟩
 ·by_cases hjk:k=j
  ·subst hjk
   have e:Y=X:=by rw [hX] at hY; exact (Option.some.inj hY).symm
   subst e
   have hlt:k < ts.length:=by rw [← h0.1]; exact (List.getElem?_eq_some_iff.1 hX).1
   rw [List.getElem?_set_self hlt] at hu
   injection hu with hu
   subst hu
   exact ht'
  ·rw [List.getElem?_set_ne hjk] at hu
   have hold:=h0.2.1 j Y u hY hu
   refine (cT Y u).ok w w' (fun b hb=>hf.block b ((cT Y u).lt w hold b hb) fun hm=>?_) hold
   simp only [List.mem_singleton] at hm
   subst hm
   have hn:=h0.2.2
   rw [QR] at hn
   exact yJ hn (i:=k) (j:=j) (c:=cT X (BT.new 0 0)) (d:=cT Y (BT.new 0 0)) (by simp [hX]) (by simp [hY]) hjk X.bc (by simp [jP]) hb
end
def Ai (i : Nat) : List BT := (List.range i).map fun k => BT.new 12 (k + 1)
theorem QS (i:Nat):Ai (i+1)=Ai i++[BT.new 12 (i+1)]:=by simp [Ai,List.range_succ]
end
section
section
variable {P : Program} {w0 : World} {F : List Nat} {E : cH} {cs : List Ch} {o : Oper}
theorem Iz {ty u:TypeId} {x y:Operand} {a k:Nat} (ho:o.op = .binOp .shl ty x y u) (hx:aM E x=some (vI a)) (hy:aM E y=some (vI k)) (hk:k≤60) (h:a*2 ^ k < 9223372036854775808):cC P w0 F cs E o (vI (a*2 ^ k)):=fun w _=>by
 unfold execOp
 have h8:(((k:Nat):Int).toNat)=k:=Int.toNat_natCast k
 have hb:min k IntKind.i64.bits=k:=Nat.min_eq_left (by show k≤64; omega)
 have e:IntKind.i64.wrap ((a:Int)*2 ^ k)=((a*2 ^ k:Nat):Int):=by
  have e1:(a:Int)*2 ^ k=((a*2 ^ k:Nat):Int):=by push_cast; rfl
  rw [e1]
  exact pK om om
 simp only [ho,bG hx,bG hy,Sem.run_bind,mR,Result.andThen_ok,binOp,Op.shift]
 rw [if_neg om,h8,hb]
 simp only [Sem.run_pure,Result.andThen_ok,e]
end
theorem Rd.AZ (r:Rd) (most:Nat):(r.text most).1.length≤r.D.length:=by
 unfold Rd.text
 split
 ·split
  ·simp
  ·split
   ·simp
   ·split
    ·simp only [List.length_take,List.length_drop]; omega
    ·simp
 ·simp
theorem QT {ts us:List BT} (h1:lD ts) (h2:lD us) {k:Nat} {t u:BT} (ht:ts[k]?=some t) (hu:us[k]?=some u):pQ t u=true:=by
 obtain ⟨_,a,b⟩:=h1 k t ht
 obtain ⟨_,c,d⟩:=h2 k u hu
 simp [pQ,a,b,c,d]
theorem Dw {D:Bs} {ts:List BT} {r:Rd} (h:gF (Rd.mk D 0 0 0) 12=(some ts,r)):cM D=if r.end_=0 then some ts else none:=by
 unfold cM
 rw [h]
theorem IA {D:Bs} {i:Nat} (hi:i≤12) (h:(gF (Rd.mk D 0 0 0) i).1=none):cM D=none:=by
 have h1:=Ig h (12 - i)
 rw [show i+(12 - i)=12 by omega] at h1
 unfold cM
 cases hh:gF (Rd.mk D 0 0 0) 12 with
 | mk a b=>rw [hh] at h1; simp only at h1; subst h1; rfl
theorem uU {v:Value} {a b:Bool} (h:a=b):Ending.returned (pI [v,.bool a]) = .returned (.tuple #[v,.bool b]):=by rw [h]; rfl
theorem sQ {α:Type} {l:List α} {k:Nat} (h:k < l.length):∃ x,l[k]?=some x:=⟨_,List.getElem?_eq_getElem h⟩
theorem QU (Xs:List TX) (ts:List BT) (k:Nat) (X:TX) (t:BT) (key:List UInt8) (w:World) (hO:cE [fE Xs ts] w) (r0:Rf [fE Xs ts] w (cI)) (hX:Xs[k]?=some X) (ht:ts[k]?=some t) (hk:key.length=32) :
  Calls Tryz.prog 67 #[(vP X.bt 0),(vS key)] w fun e w'=>e = .returned (vi 0)∧aJ [fE Xs ts] w [fE Xs (ts.set k (t.change key 1))] w':=by
 have h0:(fE Xs ts).holds w:=hO.at (i:=0) rfl
 refine (FO X.bt X.bc X.cap X.rest t key w r0.here (Ah h0 hX ht) hk).mono fun e w' h=>?_
 obtain ⟨rfl,hf,ht'⟩:=h
 exact ⟨rfl,cE.UM hO hX ht hf ht'⟩
theorem Dx (A:Option Addr) (c:Nat) (l:List (List UInt8)) (w:World) (r0:Rf [] w (cI)) (r1:Rf [] w (fun w=>aH w A (SS l))) (h32:∀ x∈l,x.length=32) (hl:l.length≤68719476736) :
  Calls Tryz.prog 31 #[(vL A l c)] w fun e w'=>∃ (Xs:List TX),e = .returned (.agg (cA Xs).toArray)∧aJ [] w [fE Xs (bC l)] w'∧(Xs.length=12):=by
 refine dI Tryz.func31 34 (Mm.start w []) rfl<|Nc<|Nx<|pA [(.pointer none),(.pointer none),(.pointer none),(.pointer none),(.pointer none),(.pointer none),(.pointer none),(.pointer none),(.pointer none),(.pointer none),(.pointer none),(.pointer none)] fun b2=>Nb<|Nx<|pA [(.pointer none),(.pointer none),(.pointer none),(.pointer none),(.pointer none),(.pointer none),(.pointer none),(.pointer none),(.pointer none),(.pointer none),(.pointer none),(.pointer none)] fun b3=>Ne<|lx rfl<|Ng<|St.mem (fun w hM=>hM.KO)<|sL (fun (i,Xs)=>i≤12∧Xs.length=i) (fun (i,Xs)=>12 - i) (fun (i,Xs)=>[(0,(vL A l c)),(2,(vP b2 0)),(3,(vP b3 0)),(7,(vI i))]) (fun (i,Xs)=>[aD b2 72 [(.pointer none),(.pointer none),(.pointer none),(.pointer none),(.pointer none),(.pointer none),(.pointer none),(.pointer none),(.pointer none),(.pointer none),(.pointer none),(.pointer none)],aD b3 72 (cA Xs++List.replicate (12 - i) oX),fE Xs (Ai i)]) (0,[]) ⟨om,rfl⟩ (fun _ h=>h) ?_
 rintro ⟨i,Xs⟩ ⟨hi,hXl⟩
 dsimp only
 refine Nc<|lk (.bool (decide (((i:Nat):Int) < 12))) ?_
 refine aO (aI (aS (bD rfl (fun hc8=>?_) (fun hc8=>?_))))
 ·have hd8:=of_decide_eq_true hc8
  refine Nm<|aF<|lx rfl<|Nv<|lx rfl<|lw (vI (i+1)) bO<|lw (vU (i+1)) (iC _ (fun _=>kr) rfl rfl (kK om om))<|Nx<|gD (fun w hM=>zM 12 (i+1) w (by decide) (by unfold bI; omega)) fun X15=>lx rfl<|lw (vP b3 (0+i)) (kU (e:=70) (m:=12) rfl kr kr rfl rfl om)<|Nx<|kJ 1 rfl rfl kr rfl rfl rfl kr rfl (by simp [cA]; omega) ?_
  dsimp only [bE,List.set,List.cons_append,List.nil_append]
  rw [show (cA Xs++List.replicate (12 - i) oX).set (0+i) (vP X15.bt 0)=cA (Xs++[X15])++List.replicate (12 - (i+1)) oX from Iy X15 hXl om]
  exact Nk<|aF<|lw (vI (i+1)) bO<|lx rfl<|aO (aI (sA (i+1,Xs++[X15]) (⟨om,by simp [hXl]⟩) (by show 12 - (i+1) < 12 - i; omega) (fun w hM=>by have h:=Mm.KP (cs:=[aD b2 72 [(.pointer none),(.pointer none),(.pointer none),(.pointer none),(.pointer none),(.pointer none),(.pointer none),(.pointer none),(.pointer none),(.pointer none),(.pointer none),(.pointer none)],aD b3 72 ((cA (Xs++[X15])++List.replicate (12 - (i+1)) oX))]) hM; rw [← QS] at h; exact h)))
 ·have hd8:=of_decide_eq_false hc8
  obtain rfl:i=12:=om
  refine St.mem (cs':=[aD b2 72 [(.pointer none),(.pointer none),(.pointer none),(.pointer none),(.pointer none),(.pointer none),(.pointer none),(.pointer none),(.pointer none),(.pointer none),(.pointer none),(.pointer none)],aD b3 72 (cA Xs),fE Xs (bC (l.take 0))]) (fun w hM=>by rw [List.take_zero]; rw [Nat.sub_self,List.replicate_zero,List.append_nil] at hM; exact hM)<|Nj<|Nc<|lx rfl<|lk (vI l.length)<|lx rfl<|Ng<|sL (fun i=>i≤l.length) (fun i=>l.length - i) (fun i=>[(2,(vP b2 0)),(3,(vP b3 0)),(20,(vL A l c)),(21,(vI l.length)),(22,(vI i))]) (fun i=>[aD b2 72 [(.pointer none),(.pointer none),(.pointer none),(.pointer none),(.pointer none),(.pointer none),(.pointer none),(.pointer none),(.pointer none),(.pointer none),(.pointer none),(.pointer none)],aD b3 72 (cA Xs),fE Xs (bC (l.take i))]) 0 (Nat.zero_le _) (fun _ h=>h) ?_
  intro i hi
  show St _ _ _ [(2,(vP b2 0)),(3,(vP b3 0)),(20,(vL A l c)),(21,(vI l.length)),(22,(vI i))] [aD b2 72 [(.pointer none),(.pointer none),(.pointer none),(.pointer none),(.pointer none),(.pointer none),(.pointer none),(.pointer none),(.pointer none),(.pointer none),(.pointer none),(.pointer none)],aD b3 72 (cA Xs),fE Xs (bC (l.take i))] _
  refine Nc<|lk (.bool (decide (((i:Nat):Int) < ((l.length:Nat):Int)))) ?_
  refine aO (aI (aS (bD rfl (fun hc23=>?_) (fun hc23=>?_))))
  ·have hd23:=of_decide_eq_true hc23
   have hlt:i < l.length:=om
   refine Nm<|aF ?_
   obtain ⟨x0,hx0⟩:∃ ξ,(l)[i]?=some ξ:=⟨_,List.getElem?_eq_getElem om⟩
   refine St.eY (fun w hM=>r1.now hM) (fR hx0) (fun p24 q24 hA24 hc24=>lw (vP p24 (q24+i)) (rR 9 hA24)<|lW (rW hc24)<|lx rfl<|Nv<|lx rfl<|Nx<|bP (fun w hM=>QK x0 w (r0.aQ hM) (by have:=h32 _ (List.mem_of_getElem? hx0); omega)) ?_)
   have hlv:=Df x0
   obtain ⟨XX,hXX⟩:=sQ (l:=Xs) (k:=fU x0) om
   refine lw (vP b3 (0+(fU x0))) (kU (e:=70) (m:=12) rfl kr kr rfl rfl om)<|lw (vP XX.bt 0) (cW 1 rfl rfl kr rfl (Dv hXX))<|lx rfl<|Nx<|eK [2] (fun w hM hO=>QU Xs (bC (l.take i)) (fU x0) XX (iI (l.take i) (fU x0)) x0 w hO (r0.cK hM [2]) (hXX) (sJ hlv) (h32 _ (List.mem_of_getElem? hx0)))<|Nk ?_
   rw [show (bC (l.take i)).set (fU x0) ((iI (l.take i) (fU x0)).change x0 1)=bC (l.take (i+1)) from by rw [List.take_add_one,hx0]; exact (PY _ _).symm]
   exact aF<|lw (vI (i+1)) bO<|lx rfl<|aO (aI (sA (i+1) (by show _≤_; omega) (by show l.length - (i+1) < l.length - i; omega) (fun w hM=>hM)))
  ·have hd23:=of_decide_eq_false hc23
   obtain rfl:i=l.length:=om
   rw [List.take_length]
   refine Nj<|aF<|lw (.agg (cA Xs).toArray) (gC (cA Xs) rfl rfl kr (by rw [gA,hXl]; kernel_rfl) (eQ (i:=1) rfl (fun j v hj=>by rw [Nat.zero_add]; exact hj)))<|Nx<|gI 0 (cA Xs) (vs:=cA Xs) rfl rfl kr rfl rfl rfl (by rw [gA,hXl]; kernel_rfl) rfl (by rw [gA,hXl]; decide) (sP Xs) (by rw [List.take_zero,List.nil_append,gA,hXl]; simp) ?_
   exact Nd<|fP [(.agg (cA Xs).toArray)] rfl ⟨⟨_,rfl,fun w hM=>gZ kr (by rw [gA,hXl]; kernel_rfl) (eQ (i:=0) (off:=0) rfl (by intro j v hj; rw [Nat.zero_add]; exact hj) w hM)⟩,trivial⟩ (fun w hM=>⟨Xs,rfl,(hM.pick [2] rfl rfl),hXl⟩)
theorem IB (Xs:List TX) (ts:List BT) (w:World) (r0:Rf [] w (fun w=>(fE Xs ts).holds w)) (okt:lD ts) (tl:ts.length=12) (Xl:Xs.length=12) :
  Calls Tryz.prog 32 #[(.agg (cA Xs).toArray)] w fun e w'=>∃ (A:Option Addr) (c:Nat),e = .returned (vL A (bL ts) c)∧aJ [] w [cB A (bL ts) c] w':=by
 refine dI Tryz.func32 24 (Mm.start w []) rfl<|Nc<|Nx<|pB (cA Xs) fun b1=>lx rfl<|Nb<|Nx<|gD (fun w hM=>Dn  w ) fun bw8=>lx rfl<|Nf<|aS<|St.mem (fun w hM=>hM.gY 5 1) ?_
 dsimp only [bE,List.set,List.cons_append,List.nil_append]
 refine aF<|lw (.agg (cA Xs).toArray) (gC (cA Xs) rfl rfl kr (by rw [gA,Xl]; kernel_rfl) (eQ (i:=0) rfl (fun j v hj=>by rw [Nat.zero_add]; exact hj)))<|lx rfl<|Ng<|sL (fun (i,AX,cX)=>i≤12) (fun (i,AX,cX)=>12 - i) (fun (i,AX,cX)=>[(2,nS),(3,(vP bw8 0)),(9,(.agg (cA Xs).toArray)),(10,(vI i))]) (fun (i,AX,cX)=>[aD b1 72 (cA Xs),aD bw8 180 [(vL AX (bL (ts.take i)) cX),(vi 0)],cB AX (bL (ts.take i)) cX]) (0,none,0) (Nat.zero_le _) (fun _ h=>h) ?_
 rintro ⟨i,AX,cX⟩ (hi:i≤12)
 dsimp only
 refine Nc<|lk (.bool (decide (((i:Nat):Int) < 12))) ?_
 refine aO (aI (aS (bD rfl (fun hc11=>?_) (fun hc11=>?_))))
 ·have hd11:=of_decide_eq_true hc11
  have hlt:i < 12:=om
  obtain ⟨XX,hXX⟩:=sQ (l:=Xs) (k:=i) om
  obtain ⟨tt,htt⟩:=sQ (l:=ts) (k:=i) om
  have rt:=r0.imp (fun _ h=>Ah h hXX htt)
  have hsk:=pW (ts:=ts.take i) (fun t ht=>okt.all t (List.mem_of_mem_take ht))
  have htk:(ts.take i).length≤12:=by rw [List.length_take]; omega
  have hen:=Ac (okt i tt htt).1 (okt i tt htt).2.1
  refine Nm<|aF<|lw (vP XX.bt 0) (QQ (e:=70) rfl kr kr kr rfl rfl hlt (Ix hXX))<|lx rfl<|Nv<|lx rfl<|Nx<|dW (fun w hM=>GN XX tt w (rt.aQ hM)) fun A15 c15=>Nx<|iD [1,2] (fun w hM hO=>Iu bw8 AX cX (bL (ts.take i)) A15 c15 tt.enc w hO (hM.gM [1,2] (j:=3) rfl (fun _ h=>aH.cN h)) om om) fun A216 c216=>Nk ?_
  rw [show (bL (ts.take i))++aE tt.enc.length++tt.enc=bL (ts.take (i+1)) from by rw [List.take_add_one,htt,Option.toList_some,Ad,List.append_assoc]; rfl]
  exact aF<|lw (vI (i+1)) bO<|lx rfl<|aO (aI (sA (i+1,A216,c216) (by show _≤_; omega) (by show 12 - (i+1) < 12 - i; omega) (fun w hM=>(hM.pick [0,1,2] rfl rfl))))
 ·have hd11:=of_decide_eq_false hc11
  obtain rfl:i=12:=om
  rw [show ts.take 12=ts from by rw [← tl,List.take_length]]
  have hsk:=pW (ts:=ts) okt.all
  exact Nj<|aF<|lx rfl<|Nx<|iD [1,2] (fun w hM hO=>Dr bw8 AX cX (bL ts) w hO om) fun A220 c220=>lx rfl<|Nb<|lx rfl<|Nd<|sN [(vL A220 (bL ts) c220)] fun w hM=>⟨A220,c220,rfl,(hM.pick [3] rfl rfl)⟩
theorem uV (A:Option Addr) (c:Nat) (D:List UInt8) (w:World) (r0:Rf [] w (fun w=>aH w A (B8 D))) (hD:D.length≤4294967296) :
  Calls Tryz.prog 33 #[(vL A D c)] w fun e w'=>∃ (cl:List Value) (Xs:List TX) (ts:List BT),e = .returned (.tuple #[(.agg (cl).toArray),(.bool (cM D).isSome)])∧aJ [] w [fE Xs ts] w'∧(∀ us,cM D=some us→us=ts∧cl=cA Xs∧Xs.length=12)∧(cl.length=12∧∀ v∈cl,v.oneCell'=true):=by
 refine dI Tryz.func33 47 (Mm.start w []) rfl<|Nc<|Nx<|pA [(.pointer none),(.pointer none),(.pointer none),(.pointer none),(.pointer none),(.pointer none),(.pointer none),(.pointer none),(.pointer none),(.pointer none),(.pointer none),(.pointer none)] fun b2=>lx rfl<|Nb<|Nx<|pA [(.pointer none),(.pointer none),(.pointer none),(.pointer none),(.pointer none),(.pointer none),(.pointer none),(.pointer none),(.pointer none),(.pointer none),(.pointer none),(.pointer none)] fun b4=>Nb<|lx rfl<|Nx<|dW (fun w hM=>sG A c D w (r0.aQ hM) (hD)) fun X12 br12=>lx rfl<|Ne<|lx rfl<|Ng<|St.mem (fun w hM=>hM.KO)<|sL (fun (i,Xs,ts,r1)=>i≤12∧Xs.length=i∧gF (Rd.mk D 0 0 0) i=(some ts,r1)) (fun (i,Xs,ts,r1)=>12 - i) (fun (i,Xs,ts,r1)=>[(2,(vP b2 0)),(3,bF),(4,(vP b4 0)),(5,(vP br12 0)),(13,(vI i))]) (fun (i,Xs,ts,r1)=>[aD b2 72 [(.pointer none),(.pointer none),(.pointer none),(.pointer none),(.pointer none),(.pointer none),(.pointer none),(.pointer none),(.pointer none),(.pointer none),(.pointer none),(.pointer none)],aD b4 72 (cA Xs++List.replicate (12 - i) oX),bH X12 br12 (r1),fE Xs ts]) (0,[],[],(Rd.mk D 0 0 0)) ⟨om,rfl,rfl⟩ (fun _ h=>h) ?_
 rintro ⟨i,Xs,ts,r1⟩ ⟨hi,hXl,hrd⟩
 dsimp only
 refine Nc<|lk (.bool (decide (((i:Nat):Int) < 12))) ?_
 refine aO (aI (aS (bD rfl (fun hc14=>?_) (fun hc14=>?_))))
 ·have hd14:=of_decide_eq_true hc14
  have hlt:i < 12:=om
  refine St.fact (fun w hM=>(hM.at (i:=2) (c:=bH X12 br12 (r1)) rfl).2.len) (fun hrl=>Nm<|aF<|lx rfl<|Nf ?_)
  cases hdc:eB r1.rest.1 with
  | none =>
    refine aF<|lx rfl<|Nx<|eK [2] (fun w hM hO=>sH X12 br12 r1 w hO)<|Nx<|oF [2] (fun w hM hO=>uT X12 br12 r1 (r1.D.length - r1.off) w hO om) fun B20 cb20=>?_
    rw [show r1.text (r1.D.length - r1.off)=r1.rest from rfl]
    refine Nx<|bP (fun w hM=>OI B20 cb20 r1.rest.1 w (hM.bB (j:=4) rfl (fun _ h=>aH.cN h)) (by have h9:=r1.AZ (r1.D.length - r1.off); unfold Rd.rest; omega) ag)<|lx rfl<|Ne<|lx rfl<|lT<|lx rfl<|lT<|No<|lk (.agg #[(.pointer none),(.pointer none),(.pointer none),(.pointer none),(.pointer none),(.pointer none),(.pointer none),(.pointer none),(.pointer none),(.pointer none),(.pointer none),(.pointer none)])<|Nx<|pT 0 [(.pointer none),(.pointer none),(.pointer none),(.pointer none),(.pointer none),(.pointer none),(.pointer none),(.pointer none),(.pointer none),(.pointer none),(.pointer none),(.pointer none)] rfl<|lx rfl<|Nq<|dC ?_
    have hn:cM D=none:=IA (i:=i+1) om (If hrd (.inl hdc))
    exact fP [(.agg ([(.pointer none),(.pointer none),(.pointer none),(.pointer none),(.pointer none),(.pointer none),(.pointer none),(.pointer none),(.pointer none),(.pointer none),(.pointer none),(.pointer none)]).toArray),bF] rfl ⟨⟨_,rfl,fun w hM=>gZ kr kr (eQ (i:=0) (off:=0) rfl (by intro j v hj; rw [Nat.zero_add]; exact hj) w hM)⟩,rfl,trivial⟩ (fun w hM=>⟨[(.pointer none),(.pointer none),(.pointer none),(.pointer none),(.pointer none),(.pointer none),(.pointer none),(.pointer none),(.pointer none),(.pointer none),(.pointer none),(.pointer none)],Xs,ts,uU (by rw [hn]; rfl),(hM.pick [3] rfl rfl),fun us h=>by (rw [hn] at h; cases h),⟨rfl,by simp [Value.oneCell']⟩⟩)
  | some t =>
    refine aF<|lx rfl<|Nx<|eK [2] (fun w hM hO=>sH X12 br12 r1 w hO)<|Nx<|oF [2] (fun w hM hO=>uT X12 br12 r1 (r1.D.length - r1.off) w hO om) fun B20 cb20=>?_
    rw [show r1.text (r1.D.length - r1.off)=r1.rest from rfl]
    refine Nx<|gD (fun w hM=>GQ B20 cb20 r1.rest.1 t w (hM.bB (j:=4) rfl (fun _ h=>aH.cN h)) (by have h9:=r1.AZ (r1.D.length - r1.off); unfold Rd.rest; omega) ag) fun X21=>lx rfl<|Ne<|lx rfl<|lF<|lx rfl<|lu (vI (i+1)) (mG _ rfl rfl rfl om om om)<|lu (vU (i+1)) (iC _ (fun _=>kr) rfl rfl (kK om om))<|cO rfl rfl<|bP (fun w hM=>Iw X21 t 12 (i+1) w (hM.bB (j:=5) rfl (fun _ h=>h)) (by decide) (by unfold bI; omega))<|lg (.bool (!(kD t 12 (i+1))))<|lk (.bool (!(kD t 12 (i+1)))) ?_
    refine aO (aI (bD rfl (fun hc33=>?_) (fun hc33=>?_)))
    ·refine aS ?_
     dsimp only [bE,List.set,List.cons_append,List.nil_append]
     refine aF<|lk (.agg #[(.pointer none),(.pointer none),(.pointer none),(.pointer none),(.pointer none),(.pointer none),(.pointer none),(.pointer none),(.pointer none),(.pointer none),(.pointer none),(.pointer none)])<|Nx<|pT 0 [(.pointer none),(.pointer none),(.pointer none),(.pointer none),(.pointer none),(.pointer none),(.pointer none),(.pointer none),(.pointer none),(.pointer none),(.pointer none),(.pointer none)] rfl<|lx rfl<|Nq<|dC ?_
     have hn:cM D=none:=IA (i:=i+1) om (If hrd (.inr ⟨t,hdc,by simpa using hc33⟩))
     exact fP [(.agg ([(.pointer none),(.pointer none),(.pointer none),(.pointer none),(.pointer none),(.pointer none),(.pointer none),(.pointer none),(.pointer none),(.pointer none),(.pointer none),(.pointer none)]).toArray),bF] rfl ⟨⟨_,rfl,fun w hM=>gZ kr kr (eQ (i:=0) (off:=0) rfl (by intro j v hj; rw [Nat.zero_add]; exact hj) w hM)⟩,rfl,trivial⟩ (fun w hM=>⟨[(.pointer none),(.pointer none),(.pointer none),(.pointer none),(.pointer none),(.pointer none),(.pointer none),(.pointer none),(.pointer none),(.pointer none),(.pointer none),(.pointer none)],Xs,ts,uU (by rw [hn]; rfl),(hM.pick [3] rfl rfl),fun us h=>by (rw [hn] at h; cases h),⟨rfl,by simp [Value.oneCell']⟩⟩)
    ·refine fI<|aI<|aF<|lx rfl<|lw (vP b4 (0+i)) (kU (e:=70) (m:=12) rfl kr kr rfl rfl om)<|Nx<|kJ 1 rfl rfl kr rfl rfl rfl kr rfl (by simp [cA]; omega) ?_
     dsimp only [bE,List.set,List.cons_append,List.nil_append]
     rw [show (cA Xs++List.replicate (12 - i) oX).set (0+i) (vP X21.bt 0)=cA (Xs++[X21])++List.replicate (12 - (i+1)) oX from Iy X21 hXl om]
     exact Nk<|aF<|lw (vI (i+1)) bO<|lx rfl<|aO (aI (sA (i+1,Xs++[X21],ts++[t],r1.rest.2) (⟨om,by simp [hXl],Ie hrd hdc (by simpa using hc33)⟩) (by show 12 - (i+1) < 12 - i; omega) (fun w hM=>Mm.KP (cs:=[aD b2 72 [(.pointer none),(.pointer none),(.pointer none),(.pointer none),(.pointer none),(.pointer none),(.pointer none),(.pointer none),(.pointer none),(.pointer none),(.pointer none),(.pointer none)],aD b4 72 ((cA (Xs++[X21])++List.replicate (12 - (i+1)) oX)),bH X12 br12 (r1.rest.2)]) (hM.pick [0,1,2,3,5] rfl rfl))))
 ·have hd14:=of_decide_eq_false hc14
  obtain rfl:i=12:=om
  refine St.mem (cs':=[aD b2 72 [(.pointer none),(.pointer none),(.pointer none),(.pointer none),(.pointer none),(.pointer none),(.pointer none),(.pointer none),(.pointer none),(.pointer none),(.pointer none),(.pointer none)],aD b4 72 (cA Xs),bH X12 br12 (r1),fE Xs ts]) (fun w hM=>by rw [Nat.sub_self,List.replicate_zero,List.append_nil] at hM; exact hM)<|Nj<|aF<|lx rfl<|Nx<|eK [2] (fun w hM hO=>sF X12 br12 r1 w hO)<|lx rfl<|Nb<|lw (.agg (cA Xs).toArray) (gC (cA Xs) rfl rfl kr (by rw [gA,hXl]; kernel_rfl) (eQ (i:=1) rfl (fun j v hj=>by rw [Nat.zero_add]; exact hj)))<|lx rfl<|lk (.bool ((r1.end_:Int) == 0))<|Nx<|gI 0 (cA Xs) (vs:=cA Xs) rfl rfl kr rfl rfl rfl (by rw [gA,hXl]; kernel_rfl) rfl (by rw [gA,hXl]; decide) (sP Xs) (by rw [List.take_zero,List.nil_append,gA,hXl]; simp) ?_
  exact lx rfl<|Nd<|fP [(.agg (cA Xs).toArray),(.bool (decide (r1.end_=0)))] rfl ⟨⟨_,rfl,fun w hM=>gZ kr (by rw [gA,hXl]; kernel_rfl) (eQ (i:=0) (off:=0) rfl (by intro j v hj; rw [Nat.zero_add]; exact hj) w hM)⟩,rfl,trivial⟩ (fun w hM=>⟨cA Xs,Xs,ts,uU (by rw [Dw hrd]; by_cases h:r1.end_=0 <;> simp [h]),(hM.pick [3] rfl rfl),fun us h=>by (rw [Dw hrd] at h; split at h <;> simp at h; exact ⟨h.symm,rfl,hXl⟩),⟨by rw [gA,hXl],sP Xs⟩⟩)
theorem IC (Xs:List TX) (ts:List BT) (Ys:List TX) (us:List BT) (w:World) (r0:Rf [] w (cI)) (r1:Rf [] w (fun w=>(fE Xs ts).holds w)) (r2:Rf [] w (fun w=>(fE Ys us).holds w)) (okt:lD ts) (tl:ts.length=12) (Xl:Xs.length=12) (oku:lD us) (ul:us.length=12) (Yl:Ys.length=12) :
  Calls Tryz.prog 34 #[(.agg (cA Xs).toArray),(.agg (cA Ys).toArray)] w fun e w'=>e = .returned (vI (gR ts us))∧aJ [] w [] w':=by
 refine qG (args:=[(.agg (cA Xs).toArray),(.agg (cA Ys).toArray)]) (vV []) Tryz.func34 rfl 53 rfl [(0,(.agg (cA Xs).toArray)),(1,(.agg (cA Ys).toArray))] ⟨rfl,rfl,trivial⟩ [] (Mm.start w [])<|Nc<|Nx<|Bu (cA Xs) rfl rfl kr rfl rfl (fun b2=>?_)
 refine Nx<|Bu (cA Ys) rfl rfl kr rfl rfl (fun b3=>?_)
 refine lx rfl<|Nb<|lx rfl<|Ne<|lx rfl<|Ng<|yB (ι:=Nat × Int × Nat) (fun (p,z,s)=>p≤12∧z=(p:Int) - 1∧nL ts us p s=gR ts us∧s≤(12 - p)*24) (fun (p,z,s)=>p) (fun (p,z,s)=>[(2,(vP b2 0)),(3,(vP b3 0)),(4,(vi 0)),(5,(vI s)),(6,(vi z))]) (fun (p,z,s)=>[aD b2 72 (cA Xs),aD b3 72 (cA Ys)]) (12,11,0) ⟨om,rfl,rfl,om⟩ ⟨rfl,rfl,rfl,rfl,rfl,trivial⟩ (fun w hM=>by show Mm _ _ [aD b2 72 (cA Xs),aD b3 72 (cA Ys)] w; exact hM) ?_
 rintro ⟨p,z,s⟩ ⟨hp,hz,hes,hsb⟩
 show St _ _ _ [(2,(vP b2 0)),(3,(vP b3 0)),(4,(vi 0)),(5,(vI s)),(6,(vi z))] [aD b2 72 (cA Xs),aD b3 72 (cA Ys)] _
 refine Ny<|lx rfl<|lk (.bool (decide ((z:Int)≥0))) ?_
 refine aO (aI (bD rfl (fun hc12=>?_) (fun hc12=>?_)))
 ·have hd12:=of_decide_eq_true hc12
  obtain ⟨q,rfl⟩:∃ q,p=q+1:=⟨p - 1,om⟩
  obtain rfl:z=(q:Int):=om
  obtain ⟨XX,hXX⟩:=sQ (l:=Xs) (k:=q) om
  obtain ⟨tt,htt⟩:=sQ (l:=ts) (k:=q) om
  have rtXX:=r1.imp (fun _ h=>Ah h hXX htt)
  obtain ⟨YY,hYY⟩:=sQ (l:=Ys) (k:=q) om
  obtain ⟨uu,huu⟩:=sQ (l:=us) (k:=q) om
  have rtYY:=r2.imp (fun _ h=>Ah h hYY huu)
  have hpw:2 ^ (q+1)≤2 ^ 12:=Nat.pow_le_pow_right om om
  have hml:(s+1)*2 ^ (q+1)≤289*2 ^ 12:=Nat.mul_le_mul om hpw
  have hul:uu.cells.length=tt.cells.length:=by rw [(okt q tt htt).2.1,(oku q uu huu).2.1]
  refine Nm<|cQ [aD b2 72 (cA Xs),aD b3 72 (cA Ys)] 12 kr (fun _ h=>h)<|am 0 ?_
  refine aV 1 (vP b2 (0+q)) rfl (kU (e:=70) (m:=12) rfl kr kr rfl rfl om)<|aV 2 (vP XX.bt 0) rfl (cW 0 rfl rfl kr rfl (Dv hXX))<|am 3 ?_
  refine aV 4 (vP b3 (0+q)) rfl (kU (e:=70) (m:=12) rfl kr kr rfl rfl om)<|aV 5 (vP YY.bt 0) rfl (cW 1 rfl rfl kr rfl (Dv hYY))<|aA 6 rfl<|gD (fun w hM=>Cz XX tt YY uu w (rtXX.aQ hM) (rtYY.aQ hM) (QT okt oku htt huu)) fun Z22=>aP [aD b2 72 (cA Xs),aD b3 72 (cA Ys),cT Z22 (tt.sub uu)] (fun _ h=>h.pick [0,1] rfl rfl) (fun _ h=>h)<|am 7 ?_
  refine aC 8 (vP Z22.bt 0) rfl<|aC 9 (vi 0) rfl<|aa 10 ?_
  refine aa 11 ?_
  refine cF kr<|aI<|Ny<|lx rfl<|lF<|Nn<|St.to [aD b2 72 (cA Xs),aD b3 72 (cA Ys),cT Z22 (tt.sub uu)] kr ?_
  cases hk:(tt.sub uu).keys with
  | none =>
    refine aF<|lx rfl<|Nx<|bP (fun w hM=>GO Z22 (tt.sub uu) w (r0.aQ hM) (hM.bB (j:=2) rfl (fun _ h=>h)) ag)<|lx rfl<|Ne<|lx rfl<|lT<|No<|lx rfl<|lw (vI (s+1)) (mG _ rfl rfl rfl om om om)<|lx rfl<|lw (vI (q+1)) (mG _ rfl rfl rfl om om om)<|lw (vI ((s+1)*2 ^ (q+1))) (Iz rfl rfl rfl om om)<|lx rfl<|Nq<|dC<|fP [(vI ((s+1)*2 ^ (q+1)))] rfl ⟨rfl,trivial⟩ (fun w hM=>?_)
    rw [← Ik htt huu hk,hes]
    exact ⟨rfl,(hM.pick [] rfl rfl)⟩
  | some p =>
    obtain ⟨kl,km⟩:=p
    have hkl:=Dj hk
    rw [nI hul,(okt q tt htt).2.1] at hkl
    have hes2:nL ts us q (s+kl.length+km.length)=gR ts us:=by rw [← Il htt huu hk]; exact hes
    refine aF<|lx rfl<|Nx<|vZ (fun w hM=>GP Z22 (tt.sub uu) kl km w (r0.aQ hM) (hM.bB (j:=2) rfl (fun _ h=>h)) ag) fun A134 c134 A234 c234=>lx rfl<|Ne<|lx rfl<|lF<|Nu<|fI<|aI<|aF<|lx rfl<|lk (vI kl.length)<|lx rfl<|lk (vI km.length)<|lw (vI (kl.length+km.length)) (mG _ rfl rfl rfl om om om)<|lw (vI (s+kl.length+km.length)) (mG _ rfl rfl rfl om om om)<|lx rfl<|Nk<|aF<|lx rfl<|lw (.int .i64 (((q:Nat):Int) - 1)) (kX _ rfl rfl rfl rfl om om)<|lx rfl ?_
    exact Na<|vN (q, ((q : Nat) : Int) - 1, s + kl.length + km.length) (⟨om, rfl, hes2, by omega⟩) (by show q < q + 1; omega) ⟨rfl, rfl, rfl, rfl, rfl, trivial⟩ (fun w hM => (hM.pick [0, 1] rfl rfl))
 ·have hd12:=of_decide_eq_false hc12
  obtain rfl:p=0:=om
  have hes0:s=gR ts us:=hes
  refine Nj<|aF<|lx rfl<|Nd<|sN [(vI s)] fun w hM=>?_
  rw [hes0]
  exact ⟨rfl,(hM.pick [] rfl rfl)⟩
end
theorem QV (A:Option Addr) (c:Nat) (l:List (List UInt8)) (w:World) (r0:Rf [] w (fun w=>aH w A (SS l))) (hl:l.length≤9223372036854775807) (he:dR l≠0) :
  Calls Tryz.prog 8 #[(vL A l c)] w fun e w'=>e = .returned (.tuple #[nS,(vi (dR l))])∧aJ [] w [] w':=by
 exact dI Tryz.func8 17 (Mm.start w []) rfl<|Nc<|lx rfl<|Ne<|lx rfl<|Nx<|bP (fun w hM=>Hf A c l w (r0.aQ hM) om ag)<|lx rfl<|Nb<|lx rfl<|lk (.bool (((dR l):Int) != 0))<|Na<|lN rfl (by simpa using he)<|Nc<|lx rfl<|Nh<|sN [nS,(vi (dR l))] fun w hM=>⟨rfl,hM⟩
theorem ID (A:Option Addr) (c:Nat) (l:List (List UInt8)) (w:World) (r0:Rf [] w (cI)) (r1:Rf [] w (fun w=>aH w A (SS l))) (hl:l.length≤9223372036854775807) (he:dR l=0) (h40:l.length≤1000) :
  Calls Tryz.prog 8 #[(vL A l c)] w fun e w'=>∃ (A2:Option Addr) (c2:Nat),e = .returned (.tuple #[(vL A2 (bL (bC l)) c2),(vi 0)])∧aJ [] w [cB A2 (bL (bC l)) c2] w':=by
 refine dI Tryz.func8 17 (Mm.start w []) rfl<|Nc<|lx rfl<|Ne<|lx rfl<|Nx<|bP (fun w hM=>wX A c l w (r0.aQ hM) (r1.aQ hM) om ag om)<|lx rfl<|Nb<|lx rfl<|lF<|Nn ?_
 have hset:=(wQ he).2
 have h32:=hset.1
 exact aF<|lx rfl<|Nx<|yP (fun w hM=>Dx A c l w (r0.aQ hM) (r1.aQ hM) ag om) fun Xs15 hn15=>Nx<|dW (fun w hM=>IB Xs15 (bC l) w (hM.bB (j:=0) rfl (fun _ h=>h)) (mZ h32) (lY l) (hn15)) fun A16 c16=>lx rfl<|Nd<|sN [(vL A16 (bL (bC l)) c16),(vi 0)] fun w hM=>⟨A16,c16,rfl,(hM.pick [1] rfl rfl)⟩
theorem IE (A:Option Addr) (c:Nat) (D:List UInt8) (A2:Option Addr) (c2:Nat) (D2:List UInt8) (w:World) (r0:Rf [] w (cI)) (r1:Rf [] w (fun w=>aH w A (B8 D))) (r2:Rf [] w (fun w=>aH w A2 (B8 D2))) (hD:D.length≤4294967296) (hD2:D2.length≤4294967296) (h1:cM D=none) :
  Calls Tryz.prog 9 #[(vL A D c),(vL A2 D2 c2)] w fun e w'=>e = .returned (.tuple #[(vi 0),(vi 3)])∧aJ [] w [] w':=by
 refine bK Tryz.func9 26 (Mm.start w []) rfl<|Nc<|lx rfl<|Nb<|lx rfl<|Nx<|qK (fun w hM=>uV A c D w (r1.aQ hM) om) fun cl11 Xs11 ts11 hs11 hcl11=>?_
 have hB11:(cM D).isSome=false:=by rw [h1]; rfl
 refine lx rfl<|Nx<|pA [(.pointer none),(.pointer none),(.pointer none),(.pointer none),(.pointer none),(.pointer none),(.pointer none),(.pointer none),(.pointer none),(.pointer none),(.pointer none),(.pointer none)] fun b6=>Nx<|gI 1 cl11 (vs:=cl11) rfl rfl kr rfl rfl rfl (by rw [hcl11.1]; kernel_rfl) rfl (by rw [hcl11.1]; decide) (hcl11.2) (by rw [List.take_zero,List.nil_append,hcl11.1]; simp) ?_
 exact lx rfl<|Ne<|lx rfl<|lk (.bool (!(cM D).isSome))<|Na<|lN rfl (by rw [hB11]; rfl)<|Nc<|lx rfl<|Nh<|sN [(vi 0),(vi 3)] fun w hM=>⟨rfl,(hM.pick [] rfl rfl)⟩
theorem QW (A:Option Addr) (c:Nat) (D:List UInt8) (A2:Option Addr) (c2:Nat) (D2:List UInt8) (ts:List BT) (w:World) (r0:Rf [] w (cI)) (r1:Rf [] w (fun w=>aH w A (B8 D))) (r2:Rf [] w (fun w=>aH w A2 (B8 D2))) (hD:D.length≤4294967296) (hD2:D2.length≤4294967296) (h1:cM D=some ts) (h2:cM D2=none) :
  Calls Tryz.prog 9 #[(vL A D c),(vL A2 D2 c2)] w fun e w'=>e = .returned (.tuple #[(vi 0),(vi 3)])∧aJ [] w [] w':=by
 refine bK Tryz.func9 26 (Mm.start w []) rfl<|Nc<|lx rfl<|Nb<|lx rfl<|Nx<|qK (fun w hM=>uV A c D w (r1.aQ hM) om) fun cl11 Xs11 ts11 hs11 hcl11=>?_
 obtain ⟨rfl,rfl,hXl11⟩:=hs11 _ h1
 have hB11:(cM D).isSome=true:=by rw [h1]; rfl
 refine lx rfl<|Nx<|pA [(.pointer none),(.pointer none),(.pointer none),(.pointer none),(.pointer none),(.pointer none),(.pointer none),(.pointer none),(.pointer none),(.pointer none),(.pointer none),(.pointer none)] fun b6=>Nx<|gI 1 (cA Xs11) (vs:=(cA Xs11)) rfl rfl kr rfl rfl rfl (by rw [gA,hXl11]; kernel_rfl) rfl (by rw [gA,hXl11]; decide) (sP _) (by rw [List.take_zero,List.nil_append,gA,hXl11]; simp) ?_
 refine lx rfl<|Ne<|lx rfl<|lk (.bool (!(cM D).isSome))<|Na<|eP rfl (by rw [hB11]; rfl)<|Ni<|lx rfl<|Nx<|qK (fun w hM=>uV A2 c2 D2 w (r2.aQ hM) om) fun cl18 Xs18 ts18 hs18 hcl18=>?_
 have hB18:(cM D2).isSome=false:=by rw [h2]; rfl
 refine lx rfl<|Nx<|pA [(.pointer none),(.pointer none),(.pointer none),(.pointer none),(.pointer none),(.pointer none),(.pointer none),(.pointer none),(.pointer none),(.pointer none),(.pointer none),(.pointer none)] fun b8=>Nx<|gI 3 cl18 (vs:=cl18) rfl rfl kr rfl rfl rfl (by rw [hcl18.1]; kernel_rfl) rfl (by rw [hcl18.1]; decide) (hcl18.2) (by rw [List.take_zero,List.nil_append,hcl18.1]; simp) ?_
 dsimp only [bE,List.set,List.cons_append,List.nil_append]
 exact lx rfl<|Ne<|lx rfl<|lk (.bool (!(cM D2).isSome))<|Na<|lN rfl (by rw [hB18]; rfl)<|Nc<|lx rfl<|Nh<|sN [(vi 0),(vi 3)] fun w hM=>⟨rfl,(hM.pick [] rfl rfl)⟩
theorem IF (A:Option Addr) (c:Nat) (D:List UInt8) (A2:Option Addr) (c2:Nat) (D2:List UInt8) (ts us:List BT) (w:World) (r0:Rf [] w (cI)) (r1:Rf [] w (fun w=>aH w A (B8 D))) (r2:Rf [] w (fun w=>aH w A2 (B8 D2))) (hD:D.length≤4294967296) (hD2:D2.length≤4294967296) (h1:cM D=some ts) (h2:cM D2=some us) :
  Calls Tryz.prog 9 #[(vL A D c),(vL A2 D2 c2)] w fun e w'=>e = .returned (.tuple #[(vI (gR ts us)),(vi 0)])∧aJ [] w [] w':=by
 refine bK Tryz.func9 26 (Mm.start w []) rfl<|Nc<|lx rfl<|Nb<|lx rfl<|Nx<|qK (fun w hM=>uV A c D w (r1.aQ hM) om) fun cl11 Xs11 ts11 hs11 hcl11=>?_
 obtain ⟨rfl,rfl,hXl11⟩:=hs11 _ h1
 have hB11:(cM D).isSome=true:=by rw [h1]; rfl
 refine lx rfl<|Nx<|pA [(.pointer none),(.pointer none),(.pointer none),(.pointer none),(.pointer none),(.pointer none),(.pointer none),(.pointer none),(.pointer none),(.pointer none),(.pointer none),(.pointer none)] fun b6=>Nx<|gI 1 (cA Xs11) (vs:=(cA Xs11)) rfl rfl kr rfl rfl rfl (by rw [gA,hXl11]; kernel_rfl) rfl (by rw [gA,hXl11]; decide) (sP _) (by rw [List.take_zero,List.nil_append,gA,hXl11]; simp) ?_
 refine lx rfl<|Ne<|lx rfl<|lk (.bool (!(cM D).isSome))<|Na<|eP rfl (by rw [hB11]; rfl)<|Ni<|lx rfl<|Nx<|qK (fun w hM=>uV A2 c2 D2 w (r2.aQ hM) om) fun cl18 Xs18 ts18 hs18 hcl18=>?_
 obtain ⟨rfl,rfl,hXl18⟩:=hs18 _ h2
 have hB18:(cM D2).isSome=true:=by rw [h2]; rfl
 refine lx rfl<|Nx<|pA [(.pointer none),(.pointer none),(.pointer none),(.pointer none),(.pointer none),(.pointer none),(.pointer none),(.pointer none),(.pointer none),(.pointer none),(.pointer none),(.pointer none)] fun b8=>Nx<|gI 3 (cA Xs18) (vs:=(cA Xs18)) rfl rfl kr rfl rfl rfl (by rw [gA,hXl18]; kernel_rfl) rfl (by rw [gA,hXl18]; decide) (sP _) (by rw [List.take_zero,List.nil_append,gA,hXl18]; simp) ?_
 dsimp only [bE,List.set,List.cons_append,List.nil_append]
 exact lx rfl<|Ne<|lx rfl<|lk (.bool (!(cM D2).isSome))<|Na<|eP rfl (by rw [hB18]; rfl)<|Ni<|lw (.agg (cA Xs11).toArray) (gC (cA Xs11) rfl rfl kr (by rw [gA,hXl11]; kernel_rfl) (eQ (i:=1) rfl (fun j v hj=>by rw [Nat.zero_add]; exact hj)))<|lw (.agg (cA Xs18).toArray) (gC (cA Xs18) rfl rfl kr (by rw [gA,hXl18]; kernel_rfl) (eQ (i:=3) rfl (fun j v hj=>by rw [Nat.zero_add]; exact hj)))<|Nx<|bP (fun w hM=>IC Xs11 ts Xs18 us w (r0.aQ hM) (hM.bB (j:=0) rfl (fun _ h=>h)) (hM.bB (j:=2) rfl (fun _ h=>h)) ((oV h1).2) ((oV h1).1) (hXl11) ((oV h2).2) ((oV h2).1) (hXl18))<|lx rfl<|Nd<|sN [(vI (gR ts us)),(vi 0)] fun w hM=>⟨rfl,(hM.pick [] rfl rfl)⟩
theorem QX (bs:Nat) (A:Option Addr) (c:Nat) (its:List (List UInt8)) (fan leaf:Nat) (nm om:Nat) (A1:Option Addr) (c1:Nat) (l:List (List UInt8)) (A2:Option Addr) (c2:Nat) (m:List (List UInt8)) (bo:Nat) (R:Value) (N:Option Addr) (nc:Nat) (nl:List (List UInt8)) (O:Option Addr) (oc:Nat) (ol:List (List UInt8)) (w:World) (hO:cE [aD bo 240 [R,(vL N (nl) nc),(vL O (ol) oc)],cS N (nl) nc,cS O (ol) oc] w) (r0:Rf [aD bo 240 [R,(vL N (nl) nc),(vL O (ol) oc)],cS N (nl) nc,cS O (ol) oc] w (iM bs A c its fan leaf nm om)) (r1:Rf [aD bo 240 [R,(vL N (nl) nc),(vL O (ol) oc)],cS N (nl) nc,cS O (ol) oc] w (fun w=>aH w A1 (SS l))) (r2:Rf [aD bo 240 [R,(vL N (nl) nc),(vL O (ol) oc)],cS N (nl) nc,cS O (ol) oc] w (fun w=>aH w A2 (SS m))) (hs:cJ its) (hn:its.length≤1000) (hl:l.length≤4294967296) (hm:m.length≤4294967296) (hnl:nl.length≤68719476736) (hol:ol.length≤68719476736) (hR:R.oneCell'=true) :
  Calls Tryz.prog 180 #[(vP bs 0),(.agg #[(vL A1 l c1),(vL A2 m c2)]),(vP bo 0)] w fun e w'=>∃ (N2:Option Addr) (nc2:Nat) (O2:Option Addr) (oc2:Nat),e = .returned (.tuple #[])∧aJ [aD bo 240 [R,(vL N (nl) nc),(vL O (ol) oc)],cS N (nl) nc,cS O (ol) oc] w [aD bo 240 [R,(vL N2 (nl++aK l its) nc2),(vL O2 (ol++dJ m its) oc2)],cS N2 (nl++aK l its) nc2,cS O2 (ol++dJ m its) oc2] w':=by
 have ra:=r0.imp (fun _ h=>h.1)
 have rb:=r0.imp (fun _ h=>h.2)
 refine mI Tryz.func180 53 (hO) rfl<|Nc<|Nx<|pB [(vL A1 l c1),(vL A2 m c2)] fun b4=>Ne<|lk (vP b4 0)<|lL 3 rfl<|lk (vI l.length)<|lx rfl<|Ng<|sL (fun (i,N28,nc28)=>i≤l.length) (fun (i,N28,nc28)=>l.length - i) (fun (i,N28,nc28)=>[(0,(vP bs 0)),(2,(vP bo 0)),(4,(vP b4 0)),(11,(vL A1 l c1)),(12,(vI l.length)),(13,(vI i))]) (fun (i,N28,nc28)=>[aD bo 240 [R,(vL N28 (nl++aK (l.take i) its) nc28),(vL O (ol) oc)],cS N28 (nl++aK (l.take i) its) nc28,cS O (ol) oc,aD b4 255 [(vL A1 l c1),(vL A2 m c2)]]) (0,N,nc) (Nat.zero_le _) (fun w hM=>by show Mm _ _ [aD bo 240 [R,(vL N (nl++aK (l.take 0) its) nc),(vL O (ol) oc)],cS N (nl++aK (l.take 0) its) nc,cS O (ol) oc,aD b4 255 [(vL A1 l c1),(vL A2 m c2)]] w; rw [show nl++aK (l.take 0) its=nl from List.append_nil _]; exact hM) ?_
 rintro ⟨i,N28,nc28⟩ (hok:i≤l.length)
 dsimp only
 refine Nc<|lk (.bool (decide (((i:Nat):Int) < ((l.length:Nat):Int)))) ?_
 refine aO (aI (aS (bD rfl (fun hc14=>?_) (fun hc14=>?_))))
 ·have hd14:=of_decide_eq_true hc14
  refine Nm<|aF ?_
  obtain ⟨x0,hx0⟩:∃ ξ,(l)[i]?=some ξ:=⟨_,List.getElem?_eq_getElem (by omega)⟩
  refine St.eY (fun w hM=>r1.now hM) (fR hx0) (fun p15 q15 hA15 hc15=>lw (vP p15 (q15+i)) (rR 9 hA15)<|lW (rW hc15)<|lx rfl<|Nb<|lx rfl<|Nx<|bP (fun w hM=>CH bs A c its fan leaf nm om x0 w (r0.aQ hM) ag ag)<|lk (.bool (!(its.contains x0))) ?_)
  refine aO (aI (bD rfl (fun hc20=>?_) (fun hc20=>?_)))
  ·refine aF<|lx rfl<|lk (vP bo 0)<|lk (vP bo 1)<|lL 0 rfl<|lx rfl<|Nx<|pN 1 9 [(vS x0)] fun b27=>Nx<|cY mH 1 ([(vS x0)]) rfl rfl kr rfl rfl rfl (rfl) (fQ (i:=4) rfl (fun j v h=>by rw [Nat.zero_add]; exact h)) (by simp [Value.oneCell']) (by have h:=lU (l.take i) its; simp only [List.length_append,List.length_take] at *; omega) ((nl++aK (l.take i) its++[x0]).length) fN (SS (nl++aK (l.take i) its++[x0])) (by simp [SS]) (fun A28 c28=>lk (vP bo 0)<|lk (vP bo 1)<|Nx<|pS 0 rfl<|Nk ?_)
   dsimp only [bE,List.set,List.cons_append,List.nil_append]
   refine aF<|lw (vI (i+1)) bO<|lx rfl<|Na ?_
   rw [show nl++aK (l.take i) its++[x0]=nl++aK (l.take (i+1)) its from by rw [List.append_assoc,zP hx0 (by simpa using hc20)]]
   exact sA (i+1,A28,c28) (by show _≤_; omega) (by show l.length - (i+1) < l.length - i; omega) (fun w hM=>(hM.pick [0,1,2,3] rfl rfl))
  ·refine Nw<|aF<|lw (vI (i+1)) bO<|lx rfl<|Na ?_
   rw [show nl++aK (l.take i) its=nl++aK (l.take (i+1)) its from by rw [zQ hx0 (by simpa using hc20)]]
   exact sA (i+1,N28,nc28) (by show _≤_; omega) (by show l.length - (i+1) < l.length - i; omega) (fun w hM=>hM)
 ·have hd14:=of_decide_eq_false hc14
  obtain rfl:i=l.length:=by omega
  rw [List.take_length]
  refine Nj<|aF<|lk (vP b4 1)<|lL 3 rfl<|lk (vI m.length)<|lx rfl<|Ng<|sL (fun (i,N49,nc49)=>i≤m.length) (fun (i,N49,nc49)=>m.length - i) (fun (i,N49,nc49)=>[(0,(vP bs 0)),(2,(vP bo 0)),(33,(vL A2 m c2)),(34,(vI m.length)),(35,(vI i))]) (fun (i,N49,nc49)=>[aD bo 240 [R,(vL N28 (nl++aK l its) nc28),(vL N49 (ol++dJ (m.take i) its) nc49)],cS N28 (nl++aK l its) nc28,cS N49 (ol++dJ (m.take i) its) nc49,aD b4 255 [(vL A1 l c1),(vL A2 m c2)]]) (0,O,oc) (Nat.zero_le _) (fun w hM=>by show Mm _ _ [aD bo 240 [R,(vL N28 (nl++aK l its) nc28),(vL O (ol++dJ (m.take 0) its) oc)],cS N28 (nl++aK l its) nc28,cS O (ol++dJ (m.take 0) its) oc,aD b4 255 [(vL A1 l c1),(vL A2 m c2)]] w; rw [show ol++dJ (m.take 0) its=ol from List.append_nil _]; exact hM) ?_
  rintro ⟨i,N49,nc49⟩ (hok:i≤m.length)
  dsimp only
  refine Nc<|lk (.bool (decide (((i:Nat):Int) < ((m.length:Nat):Int)))) ?_
  refine aO (aI (aS (bD rfl (fun hc36=>?_) (fun hc36=>?_))))
  ·have hd36:=of_decide_eq_true hc36
   refine Nm<|aF ?_
   obtain ⟨x0,hx0⟩:∃ ξ,(m)[i]?=some ξ:=⟨_,List.getElem?_eq_getElem (by omega)⟩
   refine St.eY (fun w hM=>r2.now hM) (fR hx0) (fun p37 q37 hA37 hc37=>lw (vP p37 (q37+i)) (rR 9 hA37)<|lW (rW hc37)<|lx rfl<|Nb<|lx rfl<|Nx<|bP (fun w hM=>CH bs A c its fan leaf nm om x0 w (r0.aQ hM) ag ag) ?_)
   refine aO (aI (bD rfl (fun hc41=>?_) (fun hc41=>?_)))
   ·refine aF<|lx rfl<|lk (vP bo 0)<|lk (vP bo 2)<|lL 0 rfl<|lx rfl<|Nx<|pN 1 9 [(vS x0)] fun b48=>Nx<|cY mH 2 ([(vS x0)]) rfl rfl kr rfl rfl rfl (rfl) (fQ (i:=4) rfl (fun j v h=>by rw [Nat.zero_add]; exact h)) (by simp [Value.oneCell']) (by have h:=Hb (m.take i) its; simp only [List.length_append,List.length_take] at *; omega) ((ol++dJ (m.take i) its++[x0]).length) fN (SS (ol++dJ (m.take i) its++[x0])) (by simp [SS]) (fun A49 c49=>lk (vP bo 0)<|lk (vP bo 2)<|Nx<|pS 0 rfl<|Nk ?_)
    dsimp only [bE,List.set,List.cons_append,List.nil_append]
    refine aF<|lw (vI (i+1)) bO<|lx rfl<|Na ?_
    rw [show ol++dJ (m.take i) its++[x0]=ol++dJ (m.take (i+1)) its from by rw [List.append_assoc,GZ hx0 hc41]]
    exact sA (i+1,A49,c49) (by show _≤_; omega) (by show m.length - (i+1) < m.length - i; omega) (fun w hM=>(hM.pick [0,1,2,3] rfl rfl))
   ·refine Nw<|aF<|lw (vI (i+1)) bO<|lx rfl<|Na ?_
    rw [show ol++dJ (m.take i) its=ol++dJ (m.take (i+1)) its from by rw [Ha hx0 hc41]]
    exact sA (i+1,N49,nc49) (by show _≤_; omega) (by show m.length - (i+1) < m.length - i; omega) (fun w hM=>hM)
  ·have hd36:=of_decide_eq_false hc36
   obtain rfl:i=m.length:=by omega
   rw [List.take_length]
   exact Nr<|mQ<|kR [] rfl trivial (fun w hM=>⟨N28,nc28,N49,nc49,rfl,(hM.pick [0,1,2] rfl rfl)⟩)
abbrev nM : List Bs := []
theorem IG {S:List Nat} {w:World} {A:Option Addr}:Ro S w (fun w=>aH w A (B8 eW)):=fun _ _ j v hj=>by simp [B8,eW] at hj
theorem IH {S:List Nat} {w:World} {A:Option Addr}:Ro S w (fun w=>aH w A (SS nM)):=fun _ _ j v hj=>by simp [nM] at hj
def aZ (k : Nat) (D : Bs) : Bs := aE k ++ (aE D.length ++ D)
theorem QY (l m:List Bs):(dJ l m).length≤l.length:=List.length_filter_le _ _
theorem QZ (x:List UInt8) (w:World) :
  Calls Tryz.prog 187 #[(vS x)] w fun e w'=>e = .returned bF∧aJ [] w [] w':=by
 exact dI Tryz.func187 6 (Mm.start w []) rfl<|Nc<|lx rfl<|Nb<|lx rfl<|lw bF (iB (rP rfl rfl rfl) si)<|lx rfl<|Nd<|sN [bF] fun w hM=>⟨rfl,hM⟩
theorem Ra (x:List UInt8) (w:World) :
  Calls Tryz.prog 158 #[(vS x)] w fun e w'=>e = .returned bF∧aJ [] w [] w':=by
 exact dI Tryz.func158 6 (Mm.start w []) rfl<|Nc<|lx rfl<|Nb<|lx rfl<|lw bF (iB (rP rfl rfl rfl) si)<|lx rfl<|Nd<|sN [bF] fun w hM=>⟨rfl,hM⟩
theorem Rb (x y:List UInt8) (w:World) :
  Calls Tryz.prog 157 #[(vS x),(vS y)] w fun e w'=>e = .returned (.bool (decide (x < y)))∧aJ [] w [] w':=by
 exact bK Tryz.func157 17 (Mm.start w []) rfl<|Nc<|lx rfl<|Nb<|lx rfl<|Nx<|bP (fun w hM=>QZ x w )<|lx rfl<|lF<|lx rfl<|lu (.bool (decide (x < y))) (vT rfl rfl rfl)<|lk (.bool (decide (x < y)))<|lx rfl<|Nd<|sN [(.bool (decide (x < y)))] fun w hM=>⟨rfl,hM⟩
theorem Dy (A:Option Addr) (c:Nat) (l:List (List UInt8)) (x:List UInt8) (w:World) (r0:Rf [] w (fun w=>aH w A (SS l))) (hs:l.Pairwise (· < ·)) (hl:l.length≤68719476736) :
  Calls Tryz.prog 109 #[(vL A l c),(vS x)] w fun e w'=>e = .returned (.tuple #[(vI (aY l x)),(.bool (l.contains x))])∧aJ [] w [] w':=by
 refine bK Tryz.func109 54 (Mm.start w []) rfl<|Nc<|lx rfl<|Nb<|lx rfl<|lk (vI l.length)<|lx rfl<|Nb<|lx rfl<|Nf<|fO<|sL (fun (i,j)=>i≤j∧j≤l.length∧kB (nJ l x) i j=kB (nJ l x) 0 l.length) (fun (i,j)=>j - i) (fun (i,j)=>[(0,(vL A l c)),(1,(vS x)),(4,(vi 0)),(5,bF),(6,(vI l.length)),(7,(vI i)),(8,(vI j))]) (fun (i,j)=>[]) (0,l.length) ⟨Nat.zero_le _,Nat.le_refl _,rfl⟩ (fun _ h=>h) ?_
 rintro ⟨i,j⟩ ⟨h1,h2,h3⟩
 dsimp only
 refine Ny<|lx rfl<|lk (.bool (decide (((i:Nat):Int) < ((j:Nat):Int)))) ?_
 refine aO (aI (bD rfl (fun hc15=>?_) (fun hc15=>?_)))
 ·have hd15:=of_decide_eq_true hc15
  have hij:i < j:=om
  refine fI<|aI<|fO<|Nc<|lx rfl<|lw (vI (i+j)) bO<|lw (vU (i+j)) (iC _ (fun _=>kr) rfl rfl (kK om om))<|lw (vU ((i+j) / 2)) (Fh rfl rfl rfl)<|lw (vI ((i+j) / 2)) (iC _ (fun _=>kr) rfl rfl (pK om om))<|lx rfl<|Nb<|lx rfl ?_
  obtain ⟨x0,hx0⟩:∃ ξ,(l)[(i+j) / 2]?=some ξ:=⟨_,List.getElem?_eq_getElem om⟩
  refine St.eY (fun w hM=>r0.now hM) (fR hx0) (fun p24 q24 hA24 hc24=>lw (vP p24 (q24+((i+j) / 2))) (rR 9 hA24)<|lW (rW hc24)<|lx rfl<|Nx<|bP (fun w hM=>Rb x0 x w ) ?_)
  refine aO (aI (bD rfl (fun hc27=>?_) (fun hc27=>?_)))
  ·have hd27:=of_decide_eq_true hc27
   refine aF<|lx rfl<|lw (vI (((i+j) / 2)+1)) bO<|lx rfl<|Nk<|sA (((i+j) / 2)+1,j) (by refine ⟨om,om,?_⟩; rw [← h3]; first | exact (wR hij (by rw [pU hx0,hc27]; rfl)).symm | exact (wS hij (by rw [pU hx0,hc27]; rfl)).symm) (by show j - (((i+j) / 2)+1) < j - i; omega) (fun w hM=>hM)
  ·have hd27:=of_decide_eq_false hc27
   refine aF<|lx rfl<|Nk<|sA (i,((i+j) / 2)) (by refine ⟨om,om,?_⟩; rw [← h3]; first | exact (wR hij (by rw [pU hx0,hc27]; rfl)).symm | exact (wS hij (by rw [pU hx0,hc27]; rfl)).symm) (by show ((i+j) / 2) - i < j - i; omega) (fun w hM=>hM)
 ·have hd15:=of_decide_eq_false hc15
  have hpos:i=aY l x:=by rw [← zT hs,← h3,zS om]
  subst hpos
  refine Nj<|aF<|lx rfl<|lk (.bool (decide ((((aY l x):Nat):Int) < ((l.length:Nat):Int))))<|lm ?_
  refine St.dec 35 rfl (fun hc35=>?_) (fun hc35=>?_)
  ·have hd35:=of_decide_eq_true hc35
   refine lx rfl ?_
   obtain ⟨x0,hx0⟩:∃ ξ,(l)[aY l x]?=some ξ:=⟨_,List.getElem?_eq_getElem om⟩
   refine St.eY (fun w hM=>r0.now hM) (fR hx0) (fun p38 q38 hA38 hc38=>lu (vP p38 (q38+(aY l x))) (rQ (e:=9) rfl kr kr rfl rfl hA38 om)<|lu (vS x0) (gH rfl rfl kr hc38)<|lx rfl<|lu (.bool (decide (x0=x))) (nE rfl rfl rfl)<|vX ?_)
   refine St.dec 42 rfl (fun hc42=>?_) (fun hc42=>?_)
   ·have hd42:=of_decide_eq_true hc42
    refine lx rfl<|mU ?_
    refine mU ?_
    exact lx rfl<|lg bT<|lT<|lx rfl<|Nd<|sN [(vI (aY l x)),bT] fun w hM=>⟨uU (by rw [wV hs,hx0]; simpa using hc42),hM⟩
   ·have hd42:=of_decide_eq_false hc42
    exact lx rfl<|St.eY (fun w hM=>r0.now hM) (fR hx0) (fun p45 q45 hA45 hc45=>lu (vP p45 (q45+(aY l x))) (rQ (e:=9) rfl kr kr rfl rfl hA45 om)<|lu (vS x0) (gH rfl rfl kr hc45)<|cO rfl rfl<|bP (fun w hM=>Ra x0 w )<|lx rfl<|lg bF<|lg bF<|lF<|lx rfl<|Nd<|sN [(vI (aY l x)),bF] fun w hM=>⟨uU (by rw [wV hs,hx0]; simpa using hc42),hM⟩)
  ·have hd35:=of_decide_eq_false hc35
   refine lx rfl<|mU ?_
   iterate 8 refine mU ?_
   refine lx rfl<|lF<|lx rfl<|Nd<|sN [(vI (aY l x)),bF] fun w hM=>⟨uU (by rw [wV hs,List.getElem?_eq_none (l:=l) (i:=aY l x) om]; rfl),hM⟩
theorem Rc (A:Option Addr) (c:Nat) (l:List (List UInt8)) (g:FuncId) (caps:List Value) (p:List UInt8→Bool) (w:World) (r0:Rf [] w (fun w=>aH w A (SS l))) (hl:l.length≤68719476736) (eg:∀ args w,(callFunc g args).run Tryz.prog w = .ok (.enter g args) w) (hc:∀ y∈l,∀ w',Fr [] w w'→Calls Tryz.prog g (#[.string (aT y)]++caps.toArray) w' fun e w''=>e = .returned (.bool (p y))∧Fr [] w' w'') :
  Calls Tryz.prog 207 #[(vL A l c),(.func (.func g) #[] caps.toArray)] w fun e w'=>∃ (z:Int),e = .returned (vi z)∧aJ [] w [] w'∧(decide (z≥0)=l.any p):=by
 refine bK Tryz.func207 19 (Mm.start w []) rfl<|Nc<|lx rfl<|Ne<|lx rfl<|lk (vI l.length)<|lx rfl<|Ng<|sL (fun i=>i≤l.length∧(l.take i).any p=false) (fun i=>l.length - i) (fun i=>[(0,(vL A l c)),(1,(.func (.func g) #[] caps.toArray)),(4,(vi 0)),(7,(vI l.length)),(8,(vI i))]) (fun i=>[]) 0 ⟨Nat.zero_le _,rfl⟩ (fun _ h=>h) ?_
 rintro i ⟨o1,o2⟩
 show St _ _ _ [(0,(vL A l c)),(1,(.func (.func g) #[] caps.toArray)),(4,(vi 0)),(7,(vI l.length)),(8,(vI i))] [] _
 refine Nc<|lk (.bool (decide (((i:Nat):Int) < ((l.length:Nat):Int)))) ?_
 refine aO (aI (aS (bD rfl (fun hc9=>?_) (fun hc9=>?_))))
 ·have hd9:=of_decide_eq_true hc9
  refine Nm<|aF<|lx rfl<|Nb<|lx rfl ?_
  obtain ⟨x0,hx0⟩:∃ ξ,(l)[i]?=some ξ:=⟨_,List.getElem?_eq_getElem om⟩
  refine St.eY (fun w hM=>r0.now hM) (fR hx0) (fun p14 q14 hA14 hc14=>lw (vP p14 (q14+i)) (rR 9 hA14)<|lW (rW hc14)<|Nx<|BH (f:=g) (caps:=caps.toArray) rfl rfl rfl eg (fun w hM=>(hc x0 (List.mem_of_getElem? hx0) w hM.fr).mono ?_))
  rintro e w' ⟨rfl,hf⟩
  refine ⟨_,[],rfl,Mm.pD hf,?_⟩; clear hf hM
  refine aO (aI (bD rfl (fun hc16=>?_) (fun hc16=>?_)))
  ·exact Nc<|lx rfl<|Nd<|fY<|dC<|dC<|fY<|dC<|sN [(vI i)] fun w hM=>⟨_,rfl,hM,by rw [List.any_eq_true.2 ⟨x0,List.mem_of_getElem? hx0,hc16⟩]; simp⟩
  ·exact Nw<|aF<|lw (vI (i+1)) bO<|lx rfl<|aO (aI (sA (i+1) (⟨om,by rw [List.take_add_one,hx0,Option.toList_some,List.any_append,o2]; simpa using hc16⟩) (by show l.length - (i+1) < l.length - i; omega) (fun w hM=>hM)))
 ·have hd9:=of_decide_eq_false hc9
  refine Nj<|aF<|lx rfl<|Nd<|sN [(vi (-1))] fun w hM=>?_
  obtain rfl:i=l.length:=om
  rw [List.take_length] at o2
  exact ⟨_,rfl,hM,by rw [o2]; rfl⟩
theorem II (A:Option Addr) (c:Nat) (l:List (List UInt8)) (g:FuncId) (caps:List Value) (p:List UInt8→Bool) (w:World) (r0:Rf [] w (fun w=>aH w A (SS l))) (hl:l.length≤68719476736) (eg:∀ args w,(callFunc g args).run Tryz.prog w = .ok (.enter g args) w) (hc:∀ y∈l,∀ w',Fr [] w w'→Calls Tryz.prog g (#[.string (aT y)]++caps.toArray) w' fun e w''=>e = .returned (.bool (p y))∧Fr [] w' w'') :
  Calls Tryz.prog 184 #[(vL A l c),(.func (.func g) #[] caps.toArray)] w fun e w'=>e = .returned (.bool (l.any p))∧aJ [] w [] w':=by
 exact bK Tryz.func184 9 (Mm.start w []) rfl<|Nc<|lx rfl<|Nb<|lx rfl<|Nx<|yP (fun w hM=>Rc A c l g caps p w (r0.aQ hM) om (eg) (fun y hy w' hf=>hc y hy w' (hM.fr.trans hf))) fun z7 heq7=>lk (.bool (decide ((z7:Int)≥0)))<|lx rfl<|Nd<|sN [(.bool (decide ((z7:Int)≥0)))] fun w hM=>⟨by rw [← heq7]; rfl,hM⟩
theorem IJ (x:List UInt8) (b3 bs:Nat) (A:Option Addr) (c:Nat) (its:List (List UInt8)) (v1 v2:Value) (v3 v4:Value) (v5 v6:Value) (v7 v8:Value) (v9 v10:Value) (w:World) (r0:Rf [] w (fun w=>At w b3 43 [(vP bs 0)])) (r1:Rf [] w (fun w=>At w bs 101 [(vL A its c),v1,v2,v3,v4,v5,v6,v7,v8,v9,v10])) (r2:Rf [] w (fun w=>aH w A (SS its))) (hs:its.Pairwise (· < ·)) (hn:its.length≤68719476736) :
  Calls Tryz.prog 183 #[(vS x),(vP b3 0)] w fun e w'=>e = .returned (.bool (its.contains x))∧aJ [] w [] w':=by
 exact bK Tryz.func183 16 (Mm.start w []) rfl<|Nc<|lx rfl<|Nb<|lW (rW (fun w hM=>At.cell (r0.now hM) 0))<|lk (vP bs 0)<|lk (vP bs 0)<|lW (rW (fun w hM=>At.cell (r1.now hM) 0))<|lx rfl<|Nx<|bP (fun w hM=>Dy A c its x w (r2.aQ hM) ag om)<|lx rfl<|Nb<|lx rfl<|Nd<|sN [(.bool (its.contains x))] fun w hM=>⟨rfl,hM⟩
theorem Re (x:List UInt8) (b7 b3 bs:Nat) (A:Option Addr) (c:Nat) (its:List (List UInt8)) (v1 v2:Value) (v3 v4:Value) (v5 v6:Value) (v7 v8:Value) (v9 v10:Value) (w:World) (r0:Rf [] w (fun w=>At w b7 220 [(.func (.func 183) #[] #[(vP b3 0)])])) (r1:Rf [] w (fun w=>At w b3 43 [(vP bs 0)])) (r2:Rf [] w (fun w=>At w bs 101 [(vL A its c),v1,v2,v3,v4,v5,v6,v7,v8,v9,v10])) (r3:Rf [] w (fun w=>aH w A (SS its))) (hs:its.Pairwise (· < ·)) (hn:its.length≤68719476736) :
  Calls Tryz.prog 185 #[(vS x),(vP b7 0)] w fun e w'=>e = .returned (.bool (!its.contains x))∧aJ [] w [] w':=by
 refine bK Tryz.func185 8 (Mm.start w []) rfl<|Nc<|lx rfl<|Nb<|lW (rW (fun w hM=>At.cell (r0.now hM) 0))<|lx rfl<|Nx<|BH (f:=183) (caps:=#[vP b3 0]) rfl rfl rfl (nF Tryz.func183 kr rfl) (fun w hM=>(IJ x b3 bs A c its v1 v2 v3 v4 v5 v6 v7 v8 v9 v10 w (r1.aQ hM) (r2.aQ hM) (r3.aQ hM) hs hn).mono ?_)
 rintro e w' ⟨rfl,hP⟩
 refine ⟨_,_,rfl,hP,?_⟩; clear hP hM
 exact lk (.bool (!(its.contains x)))<|lx rfl<|Nd<|sN [(.bool (!(its.contains x)))] fun w hM=>⟨rfl,hM⟩
theorem Rg (bs:Nat) (A:Option Addr) (c:Nat) (its:List (List UInt8)) (v1 v2:Value) (v3 v4:Value) (v5 v6:Value) (v7 v8:Value) (v9 v10:Value) (An:Option Addr) (cn:Nat) (needs:List (List UInt8)) (Ao:Option Addr) (co:Nat) (offs:List (List UInt8)) (w:World) (r0:Rf [] w (fun w=>At w bs 101 [(vL A its c),v1,v2,v3,v4,v5,v6,v7,v8,v9,v10])) (r1:Rf [] w (fun w=>aH w A (SS its))) (r2:Rf [] w (fun w=>aH w An (SS needs))) (r3:Rf [] w (fun w=>aH w Ao (SS offs))) (hs:its.Pairwise (· < ·)) (hn:its.length≤68719476736) (hl1:needs.length≤68719476736) (hl2:offs.length≤68719476736) :
  Calls Tryz.prog 154 #[(vP bs 0),(vL An needs cn),(vL Ao offs co)] w fun e w'=>e = .returned (.bool (qU its needs offs))∧aJ [] w [] w':=by
 refine mI Tryz.func154 19 (Mm.start w []) rfl<|Nc<|Nx<|pB [(vP bs 0)] fun b3=>lx rfl<|Nb<|lk (.func (.func 183) #[] #[(vP b3 0)])<|Nx<|pA [.nilFunc] fun b7=>Nx<|pS 1 rfl<|Nb<|lx rfl<|lL 1 rfl<|Nx<|bP (fun w hM=>II An cn needs 183 [vP b3 0] (fun y=>its.contains y) w (r2.aQ hM) om (nF Tryz.func183 kr rfl) (fun y hy w' hf=>(IJ y b3 bs A c its v1 v2 v3 v4 v5 v6 v7 v8 v9 v10 w' ((hM.bB (j:=0) rfl (fun _ h=>h)).step hf si) ((r0.aQ hM).step hf si) ((r1.aQ hM).step hf si) hs hn).mono fun e w'' he=>⟨he.1,he.2.fr⟩))<|lk (.bool (!(needs.any (fun y=>its.contains y))))<|lm ?_
 refine St.dec 13 rfl (fun hc13=>?_) (fun hc13=>?_)
 ·exact lx rfl<|lg (.func (.func 185) #[] #[(vP b7 0)])<|cO rfl rfl<|bP (fun w hM=>II Ao co offs 185 [vP b7 0] (fun y=>!its.contains y) w (r3.aQ hM) om (nF Tryz.func185 kr rfl) (fun y hy w' hf=>(Re y b7 b3 bs A c its v1 v2 v3 v4 v5 v6 v7 v8 v9 v10 w' ((hM.bB (j:=1) rfl (fun _ h=>h)).step hf si) ((hM.bB (j:=0) rfl (fun _ h=>h)).step hf si) ((r0.aQ hM).step hf si) ((r1.aQ hM).step hf si) hs hn).mono fun e w'' he=>⟨he.1,he.2.fr⟩))<|lg (.bool (!(offs.any (fun y=>!its.contains y))))<|lk (.bool (!(offs.any (fun y=>!its.contains y))))<|lx rfl<|Nd<|sN [(.bool (!(offs.any (fun y=>!its.contains y))))] fun w hM=>⟨fF (by unfold qU; rw [hc13]; simp),(hM.pick [] rfl rfl)⟩
 ·exact lx rfl<|lF<|lx rfl<|Nd<|sN [bF] fun w hM=>⟨fF (by unfold qU; rw [hc13]; simp),(hM.pick [] rfl rfl)⟩
theorem Aj (A:Option Addr) (c:Nat) (l:List (List UInt8)) (A2:Option Addr) (c2:Nat) (m:List (List UInt8)) (w:World) (r0:Rf [] w (fun w=>aH w A (SS l))) (r1:Rf [] w (fun w=>aH w A2 (SS m))) (hl:l.length≤68719476736) (hs2:m.Pairwise (· < ·)) (hl2:m.length≤68719476736) :
  Calls Tryz.prog 62 #[(vL A l c),(vL A2 m c2)] w fun e w'=>∃ (B:Option Addr) (cb:Nat),e = .returned (vL B (dJ l m) cb)∧aJ [] w [cS B (dJ l m) cb] w':=by
 refine bK Tryz.func62 29 (Mm.start w []) rfl<|Nc<|lx rfl<|Nb<|lx rfl<|Ne<|lx rfl<|lk (vI l.length)<|lx rfl<|Ng<|St.mem (fun w hM=>hM.gY 9 1)<|sL (fun (i,B,cb)=>i≤l.length) (fun (i,B,cb)=>l.length - i) (fun (i,B,cb)=>[(1,(vL A2 m c2)),(4,nS),(10,(vL A l c)),(11,(vI l.length)),(5,(vL B (dJ (l.take i) m) cb)),(12,(vI i))]) (fun (i,B,cb)=>[cS B (dJ (l.take i) m) cb]) (0,none,0) (Nat.zero_le _) (fun _ h=>h) ?_
 rintro ⟨i,B,cb⟩ (hok:i≤l.length)
 dsimp only
 refine Nc<|lk (.bool (decide (((i:Nat):Int) < ((l.length:Nat):Int)))) ?_
 refine aO (aI (aS (bD rfl (fun hc13=>?_) (fun hc13=>?_))))
 ·have hd13:=of_decide_eq_true hc13
  refine Nm<|aF ?_
  obtain ⟨x0,hx0⟩:∃ ξ,(l)[i]?=some ξ:=⟨_,List.getElem?_eq_getElem om⟩
  refine St.eY (fun w hM=>r0.now hM) (fR hx0) (fun p14 q14 hA14 hc14=>lw (vP p14 (q14+i)) (rR 9 hA14)<|lW (rW hc14)<|lx rfl<|Nb<|lx rfl<|Nx<|bP (fun w hM=>Dy A2 c2 m x0 w (r1.aQ hM) ag om)<|lx rfl<|Nb<|lx rfl ?_)
  refine aO (aI (bD rfl (fun hc22=>?_) (fun hc22=>?_)))
  ·refine aF<|lx rfl<|Nx<|pN 1 9 [(vS x0)] fun b25=>Nx<|cY mH 0 ([(vS x0)]) rfl rfl kr rfl rfl rfl (rfl) (fQ (i:=1) rfl (fun j v h=>by rw [Nat.zero_add]; exact h)) (by simp [Value.oneCell']) (by have h:=QY (l.take i) m; simp only [List.length_take] at h; omega) ((dJ (l.take i) m++[x0]).length) fN (SS (dJ (l.take i) m++[x0])) (by simp [SS]) (fun A26 c26=>lx rfl<|Nk<|aF<|lw (vI (i+1)) bO<|lx rfl<|Na ?_)
   rw [show dJ (l.take i) m++[x0]=dJ (l.take (i+1)) m from GZ hx0 (by simpa using hc22)]
   exact sA (i+1,A26,c26) (by show _≤_; omega) (by show l.length - (i+1) < l.length - i; omega) (fun w hM=>(hM.pick [0] rfl rfl))
  ·refine Nw<|aF<|lw (vI (i+1)) bO<|lx rfl<|Na ?_
   rw [show dJ (l.take i) m=dJ (l.take (i+1)) m from Ha hx0 (by simpa using hc22)]
   exact sA (i+1,B,cb) (by show _≤_; omega) (by show l.length - (i+1) < l.length - i; omega) (fun w hM=>hM)
 ·have hd13:=of_decide_eq_false hc13
  obtain rfl:i=l.length:=om
  rw [List.take_length]
  exact Nj<|aF<|lx rfl<|Nd<|sN [(vL B (dJ l m) cb)] fun w hM=>⟨B,cb,rfl,hM⟩
theorem xB (bs:Nat) (v0 v1:Value) (v2 v3:Value) (v4 v5:Value) (v6 v7:Value) (v8 v9 v10:Value) (k:Nat) (A2:Option Addr) (n2 c2:Nat) (w:World) (hO:cE [aD bs 101 [v0,v1,v2,v3,v4,v5,v6,v7,v8,v9,v10]] w) :
  Calls Tryz.prog 46 #[(vP bs 0),(vI k),(.slice A2 (n2) (c2))] w fun e w'=>e = .returned (.tuple #[])∧aJ [aD bs 101 [v0,v1,v2,v3,v4,v5,v6,v7,v8,v9,v10]] w [aD bs 101 [v0,v1,(vi 1),(vI k),(.slice A2 (n2) (c2)),v5,v6,v7,v8,v9,v10]] w':=by
 exact mI Tryz.func46 17 (hO) rfl<|aF<|lx rfl<|lk (vP bs 0)<|lk (vP bs 2)<|Nx<|pS 0 rfl<|lk (vP bs 0)<|lk (vP bs 3)<|Nx<|pS 0 rfl<|lk (vP bs 0)<|lk (vP bs 4)<|Nx<|pS 0 rfl<|aO<|kR [] rfl trivial (fun w hM=>⟨rfl,hM⟩)
theorem Dz (k:Nat) (A:Option Addr) (c:Nat) (D:List UInt8) (w:World) (r0:Rf [] w (fun w=>aH w A (B8 D))) (hk:k≤100) (hD:D.length≤4294000000) :
  Calls Tryz.prog 47 #[(vI k),(vL A D c)] w fun e w'=>∃ (A2:Option Addr) (c2:Nat),e = .returned (vL A2 (aZ k D) c2)∧aJ [] w [cB A2 (aZ k D) c2] w':=by
 refine bK Tryz.func47 17 (Mm.start w []) rfl<|Nc<|lx rfl<|Nb<|lx rfl<|lw (vU k) (iC _ (fun _=>kr) rfl rfl (kK om om))<|Nx<|dW (fun w hM=>Dt none 0 eW k w IG om (by decide)) fun A28 c28=>lx rfl<|Nf ?_
 have hnk:=fG k om
 refine aF<|lx rfl<|lk (vI D.length)<|lw (vU D.length) (iC _ (fun _=>kr) rfl rfl (kK om om))<|Nx<|dW (fun w hM=>Dt A28 c28 (eW++aE k) D.length w (hM.bB (j:=0) rfl (fun _ h=>aH.cN h)) om (by simp only [List.length_append,List.length_nil,eW] at *; omega)) fun A213 c213=>lx rfl<|Nf ?_
 have hnd:=fG D.length om
 refine aF<|lx rfl<|Nx<|cY fH 1 (B8 D) rfl rfl kr rfl rfl rfl (by simp [B8]) (fun w hM=>dV.jW (r0.now hM)) ((gS _)) (by simp only [List.length_append,List.length_nil,eW] at *; omega) (((eW++aE k)++aE D.length++D).length) fN (B8 ((eW++aE k)++aE D.length++D)) (by simp [B8]) (fun A16 c16=>?_)
 rw [show (eW++aE k)++aE D.length++D=aZ k D from by simp [aZ,eW]]
 exact lx rfl<|Nd<|sN [(vL A16 (aZ k D) c16)] fun w hM=>⟨A16,c16,rfl,(hM.pick [1] rfl rfl)⟩
def mM (t : BT) : Int := match t.first with | some i => (i : Int) | none => -1
theorem Ak {t:BT} {i:Nat} (h:t.first=some i):mM t=(i:Int):=by unfold mM; rw [h]
theorem Rh {t:BT} (h:t.first=none):mM t = -1:=by unfold mM; rw [h]
theorem DA {t:BT} {seed i:Nat} {cc:BC} (h:∀ j x,j < i→t.cells[j]?=some x→x.pure seed=false) (hc:t.cells[i]?=some cc) (hp:cc.pure seed=false):∀ j x,j < i+1→t.cells[j]?=some x→x.pure seed=false:=by
 intro j x hj hx
 rcases Nat.lt_or_ge j i with h1 | h1
 ·exact h j x h1 hx
 ·obtain rfl:j=i:=om
  rw [hc] at hx
  cases hx
  exact hp
theorem IK {seed:Nat} {c:BC} (h:c.checks≠gL seed 3 c.keys):c.pure seed=false:=by simp [BC.pure,h]
theorem Ri {seed:Nat} {c:BC} (h1:c.count≠1) (h2:c.count≠-1):c.pure seed=false:=by simp [BC.pure,h1,h2]
theorem IL {seed:Nat} {c:BC} (h1:c.count=1∨c.count = -1) (h2:c.checks=gL seed 3 c.keys):c.pure seed=true:=by
 simp only [BC.pure,Bool.and_eq_true,Bool.or_eq_true,decide_eq_true_eq]
 exact ⟨h1,h2⟩
theorem Rj {t:BT} (h:∀ j x,j < t.cells.length→t.cells[j]?=some x→x.pure t.seed=false):t.first=none:=by
 unfold BT.first
 rw [List.findIdx?_eq_none_iff]
 intro x hx
 obtain ⟨j,hj,rfl⟩:=List.mem_iff_getElem.1 hx
 simpa using h j _ hj (List.getElem?_eq_getElem hj)
theorem IM {t:BT} {i:Nat} {cc:BC} (h:∀ j x,j < i→t.cells[j]?=some x→x.pure t.seed=false) (hc:t.cells[i]?=some cc) (hp:cc.pure t.seed=true):t.first=some i:=by
 unfold BT.first
 rw [List.findIdx?_eq_some_iff_getElem]
 obtain ⟨h1,h2⟩:=List.getElem?_eq_some_iff.1 hc
 refine ⟨h1,by rw [h2]; exact hp,fun j hj=>?_⟩
 have:=h j _ hj (List.getElem?_eq_getElem om)
 simpa using this
theorem IN (g cap:Nat) (rest:List Value) (t:BT) (n seed:Nat) (w:World) (ht:gW w g cap rest t) (hn:n=t.cells.length) (hs:seed=t.seed) :
  Calls Tryz.prog 87 #[(.agg #[(.int .u64 ((seed:Nat):Int)),(.slice (some ⟨g,0,none⟩) (n) (cap))])] w fun e w'=>e = .returned (vi (mM t))∧Fr [] w w':=by
 have HN:=Lib.hid hn
 have HS:=Lib.hid hs
 have HT:=Lib.hid ht
 have n4:n≤3072:=by rw [HN.out]; exact (gV ht.size).2.1
 clear hn hs ht
 refine dI Tryz.func87 37 (Mm.start w []) rfl<|Nc<|Nx<|pB [(vU seed),(.slice (some ⟨g,0,none⟩) (n) (cap))] fun b1=>lx rfl<|Ne<|lx rfl<|Ng<|sL (fun i=>i≤n∧∀ j x,j < i→t.cells[j]?=some x→x.pure seed=false) (fun i=>n - i) (fun i=>[(1,(vP b1 0)),(3,(vI i))]) (fun i=>[aD b1 83 [(vU seed),(.slice (some ⟨g,0,none⟩) (n) (cap))]]) 0 ⟨om,fun j x hj=>by omega⟩ (fun _ h=>h) ?_
 intro i hok
 show St _ _ _ [(1,(vP b1 0)),(3,(vI i))] [aD b1 83 [(vU seed),(.slice (some ⟨g,0,none⟩) (n) (cap))]] _
 refine Ny<|lx rfl<|lk (vP b1 1)<|lL 0 rfl<|lk (vI n)<|lk (.bool (decide (((i:Nat):Int) < ((n:Nat):Int)))) ?_
 refine aO (aI (bD rfl (fun hc9=>?_) (fun hc9=>?_)))
 ·have hd9:=of_decide_eq_true hc9
  have hle:=hok.1
  obtain ⟨cc,hc⟩:∃ cc,t.cells[i]?=some cc:=⟨_,List.getElem?_eq_getElem (by rw [← HN.out]; omega)⟩
  have hlt:i < n:=om
  have hcok:=HT.out.ok.cells cc (List.mem_of_getElem? hc)
  have hclen:=BC.cells_len hcok
  refine Nm<|aF<|lk (vP b1 1)<|lL 0 rfl<|lx rfl<|lw (.pointer (some ⟨g,0+i*34,none⟩)) (jN (e:=136) (sz:=34) rfl kr kr rfl rfl om)<|lw (.agg (cc.cells).toArray) (gC cc.cells rfl rfl kr (by rw [hclen]; kernel_rfl) (fun w hM j v hj=>by rw [Nat.zero_add]; exact hM.dX (sB HT.out hc j v hj) si))<|Nx<|pA [(vi 0),(.int .u8 0),(.int .u8 0),(.int .u8 0),(.int .u8 0),(.int .u8 0),(.int .u8 0),(.int .u8 0),(.int .u8 0),(.int .u8 0),(.int .u8 0),(.int .u8 0),(.int .u8 0),(.int .u8 0),(.int .u8 0),(.int .u8 0),(.int .u8 0),(.int .u8 0),(.int .u8 0),(.int .u8 0),(.int .u8 0),(.int .u8 0),(.int .u8 0),(.int .u8 0),(.int .u8 0),(.int .u8 0),(.int .u8 0),(.int .u8 0),(.int .u8 0),(.int .u8 0),(.int .u8 0),(.int .u8 0),(.int .u8 0),(.int .u64 0)] fun b4=>Nx<|gI 1 cc.cells (vs:=cc.cells) rfl rfl kr rfl rfl rfl (by rw [hclen]; kernel_rfl) rfl (by rw [hclen]; decide) (BC.mB cc) (oD (by rw [hclen]; rfl)) ?_
  refine Nf<|cQ _ 19 kr (fun _ h=>h)<|aC 0 (vP b4 0) rfl ?_
  refine aV 1 (.int .i64 cc.count) rfl (cW 1 rfl rfl kr rfl (jB cc)) ?_
  refine aC 2 (.bool ((cc.count:Int) == 1)) rfl ?_
  refine am 3 ?_
  refine Any.dec 20 rfl (fun hc20=>?_) (fun hc20=>?_)
  ·refine iQ (i:=4) (b:=true) rfl rfl rfl rfl kr kr (fun _ _ _ h=>h)<|iQ (i:=5) (b:=true) rfl rfl rfl rfl kr kr (fun _ _ _ h=>h)<|iQ (i:=6) (b:=true) rfl rfl rfl rfl kr kr (fun _ _ _ h=>h)<|aC 7 bT rfl<|am 8 ?_
   refine eJ (i:=9) (vP b4 33) rfl rfl rfl rfl kr kr (fun _ _ _ h=>h) (fL fun _=>by kernel_rfl)<|eJ (i:=10) (vU cc.checks) rfl rfl rfl rfl kr kr (fun _ _ _ h=>h) (cW 1 rfl rfl kr rfl (mW hcok.keys))<|eJ (i:=11) (vP b1 0) rfl rfl rfl rfl kr kr (fun _ _ _ h=>h) (fL fun _=>by kernel_rfl)<|eJ (i:=12) (vU seed) rfl rfl rfl rfl kr kr (fun _ _ _ h=>h) (cW 0 rfl rfl kr rfl rfl)<|eJ (i:=13) (vP b4 1) rfl rfl rfl rfl kr kr (fun _ _ _ h=>h) (fL fun _=>by kernel_rfl)<|eJ (i:=14) (.slice (some ⟨b4,1,none⟩) (32) (32)) rfl rfl rfl rfl kr kr (fun _ _ _ h=>h) (fL fun _=>by kernel_rfl)<|eJ (i:=15) (vS cc.keys) rfl rfl rfl rfl kr kr (fun _ _ _ h=>h) (kW (e:=5) cc.keys rfl kr kr kr rfl hcok.keys.symm (yG (i:=1) (off:=1) rfl (fun j v hj=>wN hj)))<|Br (i:=16) kr rfl rfl rfl<|cU 133 #[(vU seed),(vi 3),(vS cc.keys)] rfl kr (fun _=>kr) (fun w hM=>(zH seed 3 cc.keys w om (by rw [hcok.keys]; omega)).mono ?_)
   rintro e w' ⟨rfl,hf⟩
   have hM':=hM.dD hf
   refine ⟨(vU (gL seed 3 cc.keys)),_,rfl,hM',?_⟩
   clear hM hM' hf
   refine aP _ (fun _ h=>h) (fun _ h=>h)<|eJ (i:=17) (.bool ((((cc.checks:Nat):Int):Int) == ((gL seed 3 cc.keys:Nat):Int))) rfl rfl rfl rfl kr kr (fun _ _ _ h=>h) (fL fun _=>by kernel_rfl)<|aC 18 (.bool ((((cc.checks:Nat):Int):Int) == ((gL seed 3 cc.keys:Nat):Int))) rfl<|cF kr ?_
   refine aI (bD rfl (fun hc35=>?_) (fun hc35=>?_))
   ·have hp:cc.pure seed=true:=IL (by have h:=eq_of_beq hc20; omega) (by have h:=eq_of_beq hc35; omega)
    exact Nc<|lx rfl<|Nd<|fY<|dC<|dC<|fY<|dC<|sN [(vI i)] fun w hM=>⟨by rw [Ak (IM (by rw [← HS.out]; exact hok.2) hc (by rw [← HS.out]; exact hp))]; rfl,hM.fr⟩
   ·exact Nw<|aF<|lx rfl<|lw (vI (i+1)) bO<|lx rfl<|aO (aI (sA (i+1) ⟨by show _≤_; omega,DA hok.2 hc (IK (by have h:=ne_of_beq_false hc35; omega))⟩ (by show n - (i+1) < n - i; omega) (fun _ h=>h.sub (.cons_cons _ (.cons _ .slnil)))))
  ·refine eJ (i:=4) (vP b4 0) rfl rfl rfl rfl kr kr (fun _ _ _ h=>h) (fL fun _=>by kernel_rfl)<|eJ (i:=5) (.int .i64 cc.count) rfl rfl rfl rfl kr kr (fun _ _ _ h=>h) (cW 1 rfl rfl kr rfl (jB cc)) ?_
   refine eJ (i:=6) (.bool ((cc.count:Int) == (-1))) rfl rfl rfl rfl kr kr (fun _ _ _ h=>h) (fL fun _=>by kernel_rfl) ?_
   refine aC 7 (.bool ((cc.count:Int) == (-1))) rfl ?_
   refine am 8 ?_
   refine Any.dec 25 rfl (fun hc25=>?_) (fun hc25=>?_)
   ·refine eJ (i:=9) (vP b4 33) rfl rfl rfl rfl kr kr (fun _ _ _ h=>h) (fL fun _=>by kernel_rfl)<|eJ (i:=10) (vU cc.checks) rfl rfl rfl rfl kr kr (fun _ _ _ h=>h) (cW 1 rfl rfl kr rfl (mW hcok.keys))<|eJ (i:=11) (vP b1 0) rfl rfl rfl rfl kr kr (fun _ _ _ h=>h) (fL fun _=>by kernel_rfl)<|eJ (i:=12) (vU seed) rfl rfl rfl rfl kr kr (fun _ _ _ h=>h) (cW 0 rfl rfl kr rfl rfl)<|eJ (i:=13) (vP b4 1) rfl rfl rfl rfl kr kr (fun _ _ _ h=>h) (fL fun _=>by kernel_rfl)<|eJ (i:=14) (.slice (some ⟨b4,1,none⟩) (32) (32)) rfl rfl rfl rfl kr kr (fun _ _ _ h=>h) (fL fun _=>by kernel_rfl)<|eJ (i:=15) (vS cc.keys) rfl rfl rfl rfl kr kr (fun _ _ _ h=>h) (kW (e:=5) cc.keys rfl kr kr kr rfl hcok.keys.symm (yG (i:=1) (off:=1) rfl (fun j v hj=>wN hj)))<|Br (i:=16) kr rfl rfl rfl<|cU 133 #[(vU seed),(vi 3),(vS cc.keys)] rfl kr (fun _=>kr) (fun w hM=>(zH seed 3 cc.keys w om (by rw [hcok.keys]; omega)).mono ?_)
    rintro e w' ⟨rfl,hf⟩
    have hM':=hM.dD hf
    refine ⟨(vU (gL seed 3 cc.keys)),_,rfl,hM',?_⟩
    clear hM hM' hf
    refine aP _ (fun _ h=>h) (fun _ h=>h)<|eJ (i:=17) (.bool ((((cc.checks:Nat):Int):Int) == ((gL seed 3 cc.keys:Nat):Int))) rfl rfl rfl rfl kr kr (fun _ _ _ h=>h) (fL fun _=>by kernel_rfl)<|aC 18 (.bool ((((cc.checks:Nat):Int):Int) == ((gL seed 3 cc.keys:Nat):Int))) rfl<|cF kr ?_
    refine aI (bD rfl (fun hc35=>?_) (fun hc35=>?_))
    ·have hp:cc.pure seed=true:=IL (by have h:=eq_of_beq hc25; omega) (by have h:=eq_of_beq hc35; omega)
     exact Nc<|lx rfl<|Nd<|fY<|dC<|dC<|fY<|dC<|sN [(vI i)] fun w hM=>⟨by rw [Ak (IM (by rw [← HS.out]; exact hok.2) hc (by rw [← HS.out]; exact hp))]; rfl,hM.fr⟩
    ·exact Nw<|aF<|lx rfl<|lw (vI (i+1)) bO<|lx rfl<|aO (aI (sA (i+1) ⟨by show _≤_; omega,DA hok.2 hc (IK (by have h:=ne_of_beq_false hc35; omega))⟩ (by show n - (i+1) < n - i; omega) (fun _ h=>h.sub (.cons_cons _ (.cons _ .slnil)))))
   ·exact iQ (i:=9) (b:=false) rfl rfl rfl rfl kr kr (fun _ _ _ h=>h)<|iQ (i:=10) (b:=false) rfl rfl rfl rfl kr kr (fun _ _ _ h=>h)<|iQ (i:=11) (b:=false) rfl rfl rfl rfl kr kr (fun _ _ _ h=>h)<|iQ (i:=12) (b:=false) rfl rfl rfl rfl kr kr (fun _ _ _ h=>h)<|iQ (i:=13) (b:=false) rfl rfl rfl rfl kr kr (fun _ _ _ h=>h)<|iQ (i:=14) (b:=false) rfl rfl rfl rfl kr kr (fun _ _ _ h=>h)<|iQ (i:=15) (b:=false) rfl rfl rfl rfl kr kr (fun _ _ _ h=>h)<|iQ (i:=16) (b:=false) rfl rfl rfl rfl kr kr (fun _ _ _ h=>h)<|iQ (i:=17) (b:=false) rfl rfl rfl rfl kr kr (fun _ _ _ h=>h)<|aC 18 bF rfl<|cF kr<|aI<|qF rfl<|Nw<|aF<|lx rfl<|lw (vI (i+1)) bO<|lx rfl<|aO (aI (sA (i+1) ⟨by show _≤_; omega,DA hok.2 hc (Ri (by have h:=ne_of_beq_false hc20; omega) (by have h:=ne_of_beq_false hc25; omega))⟩ (by show n - (i+1) < n - i; omega) (fun _ h=>h.sub (.cons_cons _ (.cons _ .slnil)))))
 ·have hd9:=of_decide_eq_false hc9
  have hle:=hok.1
  have hin:i=n:=om
  have hnone:t.first=none:=Rj (by rw [← HS.out,← HN.out,← hin]; exact hok.2)
  exact Nj<|aF<|lx rfl<|Nd<|sN [(vi (-1))] fun w hM=>⟨by rw [Rh hnone]; rfl,hM.fr⟩
theorem IP (A:Option Addr) (c:Nat) (l:List dN) (p:dN) (w:World) (hr:aH w A (l.map aL)) (hl:l.length≤1000000) (hfound:nK l p=true) :
  Calls Tryz.prog 88 #[.slice A l.length c,.string (aT p)] w fun e w'=>e = .returned (.tuple #[.slice A l.length c,.bool true])∧Fr [] w w':=by
 have HR:=Lib.hid hr
 have hple:=CY l p
 clear hr
 refine bK Tryz.func88 46 (Mm.start w []) rfl<|Nc<|lx rfl<|Nb<|lx rfl<|Nf<|fO<|sL (fun k=>k≤eN l p) (fun k=>eN l p - k) (fun k=>[(0,(.slice A (l.length) (c))),(1,(vS p)),(6,(vI k))]) (fun k=>[]) 0 (Nat.zero_le _) (fun _ h=>h) ?_
 intro k (hk:k≤eN l p)
 show St _ _ _ [(0,(.slice A (l.length) (c))),(1,(vS p)),(6,(vI k))] [] _
 refine Ny<|lx rfl<|lk (vI l.length)<|lk (.bool (decide (((k:Nat):Int) < ((l.length:Nat):Int))))<|lm ?_
 refine St.dec 11 rfl (fun hc11=>?_) (fun hc11=>?_)
 ·have hd11:=of_decide_eq_true hc11
  have hlt:k < l.length:=om
  obtain ⟨x,hx⟩:∃ x,l[k]?=some x:=⟨_,List.getElem?_eq_getElem hlt⟩
  obtain ⟨b,o,hA,hbl,hck⟩:=HR.out k (aL x) (by rw [List.getElem?_map,hx]; rfl)
  subst hA
  refine cO rfl rfl<|dP (.slice (some ⟨b,o,none⟩) (l.length) (c)) rfl kr (fZ rfl rfl)<|cO rfl rfl<|dP (vI k) rfl kr (fZ rfl rfl)<|cO rfl rfl<|dP (.pointer (some ⟨b,o+k,none⟩)) rfl kr (pJ (e:=9) rfl kr kr rfl rfl om)<|cO rfl rfl<|dP (vS x) rfl kr (gH rfl rfl kr (fun w hM=>hM.dX hck si))<|cO rfl rfl<|dP (vS p) rfl kr (fZ rfl rfl)<|cO rfl rfl<|dP (.bool (decide (x < p))) rfl kr (vT rfl rfl rfl)<|lk (.bool (decide (x < p))) ?_
  refine aO (aI (bD rfl (fun hc18=>?_) (fun hc18=>?_)))
  ·have hd18:=of_decide_eq_true hc18
   have hstep:=(Ab hk hx).1 hd18
   exact fI<|aI<|fO<|aF<|lx rfl<|lw (vI (k+1)) bO<|lx rfl<|Ns<|aI (sA (k+1) (by show _≤_; omega) (by show eN l p - (k+1) < eN l p - k; omega) (fun _ h=>h))
  ·have hd18:=of_decide_eq_false hc18
   have hend:k=eN l p:=by have:=mt (Ab hk hx).2 hd18; omega
   refine Nj<|Nc<|lx rfl<|lk (vI l.length)<|lk (.bool (decide (((k:Nat):Int) < ((l.length:Nat):Int))))<|lm ?_
   refine St.dec 25 rfl (fun hc25=>?_) (fun hc25=>?_)
   ·have hd25:=of_decide_eq_true hc25
    have hxp:x=p:=by have h:=hfound; rw [nK,decide_eq_true_eq,← hend,hx] at h; exact Option.some.inj h
    subst hxp
    exact cO rfl rfl<|dP (.slice (some ⟨b,o,none⟩) (l.length) (c)) rfl kr (fZ rfl rfl)<|cO rfl rfl<|dP (vI k) rfl kr (fZ rfl rfl)<|cO rfl rfl<|dP (.pointer (some ⟨b,o+k,none⟩)) rfl kr (pJ (e:=9) rfl kr kr rfl rfl om)<|cO rfl rfl<|dP (vS x) rfl kr (gH rfl rfl kr (fun w hM=>hM.dX hck si))<|cO rfl rfl<|dP (vS x) rfl kr (fZ rfl rfl)<|cO rfl rfl<|dP bT rfl kr (iB (nE rfl rfl rfl) si)<|lT<|No<|lx rfl<|Nh<|sN [(.slice (some ⟨b,o,none⟩) (l.length) (c)),bT] fun w hM=>⟨rfl,hM.fr⟩
   ·have hd25:=of_decide_eq_false hc25
    exfalso
    have h:=hfound
    rw [nK,decide_eq_true_eq,← hend,List.getElem?_eq_none (by simpa using hc25)] at h
    cases h
 ·have hd11:=of_decide_eq_false hc11
  have hend:=Hx hk (by simpa using hc11)
  refine fK (b:=false) rfl rfl kr rfl<|fK (b:=false) rfl rfl kr rfl<|fK (b:=false) rfl rfl kr rfl<|fK (b:=false) rfl rfl kr rfl<|fK (b:=false) rfl rfl kr rfl<|fK (b:=false) rfl rfl kr rfl<|lF<|Nu<|Nj<|Nc<|lx rfl<|lk (vI l.length)<|lk (.bool (decide (((k:Nat):Int) < ((l.length:Nat):Int))))<|lm ?_
  refine St.dec 25 rfl (fun hc25=>?_) (fun hc25=>?_)
  ·have hd25:=of_decide_eq_true hc25
   have hlt:k < l.length:=om
   obtain ⟨x,hx⟩:∃ x,l[k]?=some x:=⟨_,List.getElem?_eq_getElem hlt⟩
   obtain ⟨b,o,hA,hbl,hck⟩:=HR.out k (aL x) (by rw [List.getElem?_map,hx]; rfl)
   subst hA
   have hxp:x=p:=by have h:=hfound; rw [nK,decide_eq_true_eq,← hend,hx] at h; exact Option.some.inj h
   subst hxp
   exact cO rfl rfl<|dP (.slice (some ⟨b,o,none⟩) (l.length) (c)) rfl kr (fZ rfl rfl)<|cO rfl rfl<|dP (vI k) rfl kr (fZ rfl rfl)<|cO rfl rfl<|dP (.pointer (some ⟨b,o+k,none⟩)) rfl kr (pJ (e:=9) rfl kr kr rfl rfl om)<|cO rfl rfl<|dP (vS x) rfl kr (gH rfl rfl kr (fun w hM=>hM.dX hck si))<|cO rfl rfl<|dP (vS x) rfl kr (fZ rfl rfl)<|cO rfl rfl<|dP bT rfl kr (iB (nE rfl rfl rfl) si)<|lT<|No<|lx rfl<|Nh<|sN [(.slice (some ⟨b,o,none⟩) (l.length) (c)),bT] fun w hM=>⟨rfl,hM.fr⟩
  ·have hd25:=of_decide_eq_false hc25
   exfalso
   have h:=hfound
   rw [nK,decide_eq_true_eq,← hend,List.getElem?_eq_none (by simpa using hc25)] at h
   cases h
theorem nA (l:List dN) (k:Nat):∀ u∈(l.map aL).take k,u.oneCell'=true:=by
 intro u hu
 obtain ⟨x,_,rfl⟩:=List.mem_map.1 (List.mem_of_mem_take hu)
 rfl
theorem nB (l:List dN) (k:Nat):∀ u∈(l.map aL).drop k,u.oneCell'=true:=by
 intro u hu
 obtain ⟨x,_,rfl⟩:=List.mem_map.1 (List.mem_of_mem_drop hu)
 rfl
theorem uW (A:Option Addr) (c:Nat) (l:List dN) (p:dN) (w:World) (hr:aH w A (l.map aL)) (hl:l.length≤1000000) (hlc:l.length≤c) (hfound:nK l p=false) :
  Calls Tryz.prog 88 #[.slice A l.length c,.string (aT p)] w fun e w'=>∃ A' c',e = .returned (.tuple #[.slice A' (l.length+1) c',.bool false])∧Mm w [] [aR 9 1 A' (l.length+1) c' ((eR l p).map aL)] w':=by
 have HR:=Lib.hid hr
 have hple:=CY l p
 clear hr
 refine bK Tryz.func88 46 (Mm.start w []) rfl<|Nc<|lx rfl<|Nb<|lx rfl<|Nf<|fO<|sL (fun k=>k≤eN l p) (fun k=>eN l p - k) (fun k=>[(0,(.slice A (l.length) (c))),(1,(vS p)),(6,(vI k))]) (fun k=>[]) 0 (Nat.zero_le _) (fun _ h=>h) ?_
 intro k (hk:k≤eN l p)
 show St _ _ _ [(0,(.slice A (l.length) (c))),(1,(vS p)),(6,(vI k))] [] _
 refine Ny<|lx rfl<|lk (vI l.length)<|lk (.bool (decide (((k:Nat):Int) < ((l.length:Nat):Int))))<|lm ?_
 refine St.dec 11 rfl (fun hc11=>?_) (fun hc11=>?_)
 ·have hd11:=of_decide_eq_true hc11
  have hlt:k < l.length:=om
  obtain ⟨x,hx⟩:∃ x,l[k]?=some x:=⟨_,List.getElem?_eq_getElem hlt⟩
  obtain ⟨b,o,hA,hbl,hck⟩:=HR.out k (aL x) (by rw [List.getElem?_map,hx]; rfl)
  subst hA
  refine cO rfl rfl<|dP (.slice (some ⟨b,o,none⟩) (l.length) (c)) rfl kr (fZ rfl rfl)<|cO rfl rfl<|dP (vI k) rfl kr (fZ rfl rfl)<|cO rfl rfl<|dP (.pointer (some ⟨b,o+k,none⟩)) rfl kr (pJ (e:=9) rfl kr kr rfl rfl om)<|cO rfl rfl<|dP (vS x) rfl kr (gH rfl rfl kr (fun w hM=>hM.dX hck si))<|cO rfl rfl<|dP (vS p) rfl kr (fZ rfl rfl)<|cO rfl rfl<|dP (.bool (decide (x < p))) rfl kr (vT rfl rfl rfl)<|lk (.bool (decide (x < p))) ?_
  refine aO (aI (bD rfl (fun hc18=>?_) (fun hc18=>?_)))
  ·have hd18:=of_decide_eq_true hc18
   have hstep:=(Ab hk hx).1 hd18
   exact fI<|aI<|fO<|aF<|lx rfl<|lw (vI (k+1)) bO<|lx rfl<|Ns<|aI (sA (k+1) (by show _≤_; omega) (by show eN l p - (k+1) < eN l p - k; omega) (fun _ h=>h))
  ·have hd18:=of_decide_eq_false hc18
   have hend:k=eN l p:=by have:=mt (Ab hk hx).2 hd18; omega
   refine Nj<|Nc<|lx rfl<|lk (vI l.length)<|lk (.bool (decide (((k:Nat):Int) < ((l.length:Nat):Int))))<|lm ?_
   refine St.dec 25 rfl (fun hc25=>?_) (fun hc25=>?_)
   ·have hd25:=of_decide_eq_true hc25
    have hxp:x≠p:=by rintro rfl; have h:=hfound; rw [nK,decide_eq_false_iff_not,← hend] at h; exact h hx
    refine cO rfl rfl<|dP (.slice (some ⟨b,o,none⟩) (l.length) (c)) rfl kr (fZ rfl rfl)<|cO rfl rfl<|dP (vI k) rfl kr (fZ rfl rfl)<|cO rfl rfl<|dP (.pointer (some ⟨b,o+k,none⟩)) rfl kr (pJ (e:=9) rfl kr kr rfl rfl om)<|cO rfl rfl<|dP (vS x) rfl kr (gH rfl rfl kr (fun w hM=>hM.dX hck si))<|cO rfl rfl<|dP (vS p) rfl kr (fZ rfl rfl)<|cO rfl rfl<|dP (.bool (decide (x=p))) rfl kr (nE rfl rfl rfl)<|lk (.bool (decide (x=p)))<|Na<|eP rfl (by simp [hxp]) ?_
    refine fI (aI (nX (ι:=Nat × Option Addr × Nat × Nat × Option Addr × Nat × Option Addr × Nat) (fun _=>True) (fun (b34,A38,c38,b40,A41,c41,A45,c45)=>[(0,(.slice (some ⟨b,o,none⟩) (l.length) (c))),(1,(vS p)),(6,(vI k)),(7,(vI k)),(8,(.slice (some ⟨b,o,none⟩) (l.length) (c))),(9,(vI l.length)),(10,(.bool (decide (((k:Nat):Int) < ((l.length:Nat):Int))))),(11,bT),(12,(.slice (some ⟨b,o,none⟩) (l.length) (c))),(13,(vI k)),(14,(.pointer (some ⟨b,o+k,none⟩))),(15,(vS x)),(16,(vS p)),(17,(.bool (decide (x < p)))),(18,(.bool (decide (x < p)))),(21,(vI k)),(22,(.slice (some ⟨b,o,none⟩) (l.length) (c))),(23,(vI l.length)),(24,(.bool (decide (((k:Nat):Int) < ((l.length:Nat):Int))))),(25,bT),(26,(.slice (some ⟨b,o,none⟩) (l.length) (c))),(27,(vI k)),(28,(.pointer (some ⟨b,o+k,none⟩))),(29,(vS x)),(30,(vS p)),(31,(.bool (decide (x=p)))),(32,(.bool (decide (x=p)))),(35,(.slice (some ⟨b,o,none⟩) (l.length) (c))),(36,(vI k)),(37,(.slice (some ⟨b,o,none⟩) (k) (c))),(39,(vS p)),(42,(.slice (some ⟨b,o,none⟩) (l.length) (c))),(43,(vI k)),(44,(.slice (if c=k then (some ⟨b,o,none⟩) else ((some ⟨b,o,none⟩):Option Addr).map (·.add (k*1))) (l.length - k) (c - k))),(34,(.slice (some ⟨b34,0,none⟩) (0) (0))),(38,(.slice A38 (k) (c38))),(40,(.slice (some ⟨b40,0,none⟩) (1) (1))),(41,(.slice A41 (k+1) (c41))),(45,(.slice A45 (l.length+1) (c45))),(4,(.slice A45 (l.length+1) (c45))),(5,bF)]) (fun (b34,A38,c38,b40,A41,c41,A45,c45)=>[aR 9 1 A45 (l.length+1) (c45) ((eR l p).map aL),aD b40 9 [(vS p)]]) ?_ ?_))
    ·refine cQ [] 14 kr (fun _ h=>h) ?_
     refine am 1 ?_
     refine am 2 ?_
     refine aV 3 (.slice (some ⟨b,o,none⟩) (k) (c)) rfl (tS (e:=9) rfl kr kr rfl rfl om)<|am 5 ?_
     refine am 8 ?_
     refine am 9 ?_
     refine aV 10 (.slice (if c=k then (some ⟨b,o,none⟩) else ((some ⟨b,o,none⟩):Option Addr).map (·.add (k*1))) (l.length - k) (c - k)) rfl (tT (e:=9) (sz:=1) rfl kr kr rfl rfl om) ?_
     refine kT (i:=0) (j:=6) kr rfl rfl rfl rfl ?_ ?_
     ·refine pN 0 9 [] fun b34=>aP _ (fun _ h=>h) (fun _ h=>h.sub (.cons _ .slnil)) ?_
      refine kT (i:=4) (j:=6) kr rfl rfl rfl rfl ?_ ?_
      ·refine kV eM 0 ((l.map aL).take k) rfl rfl kr rfl rfl rfl (by rw [List.length_take,List.length_map]; omega) (fun w hM=>mT (HR.out.dD hM.fr) k) (nA l k) om k rfl ((l.take k).map aL) (by rw [List.map_take]) (fun A38 c38=>aP _ (fun _ h=>h) (fun _ h=>h.sub (.cons _ .slnil))<|bU (i:=6) kr rfl rfl<|pN 1 9 [(vS p)] fun b40=>aP _ (fun _ h=>h.sub (.cons _ .slnil)) (fun _ h=>h.sub (.cons _ (.cons_cons _ .slnil)))<|bU (i:=7) kr rfl rfl<|cY eM 0 [aL p] rfl rfl kr rfl rfl rfl rfl (fQ (i:=1) (off:=0) rfl (fun j v hj=>by rw [Nat.zero_add]; exact hj)) (by simp [aL,Value.oneCell']) om (k+1) rfl ((l.take k++[p]).map aL) si (fun A41 c41=>aP _ (fun _ h=>h) (fun _ h=>h.sub (.cons _ (.cons_cons _ .slnil)))<|bU (i:=11) kr rfl rfl<|cY eM 0 ((l.map aL).drop k) rfl rfl kr rfl rfl rfl (by rw [List.length_drop,List.length_map,Nat.mul_one]) (fun w hM=>mS (HR.out.dD hM.fr) (by rw [List.length_map]; exact hlc)) (nB l k) om (l.length+1) om ((eR l p).map aL) (by unfold eR; rw [← hend]; simp) (fun A45 c45=>aP _ (fun _ h=>h.sub (.cons _ (.cons_cons _ .slnil))) (fun _ h=>h)<|aa 12 ?_)))
       refine aa 13 ?_
       exact cF kr<|aI (sM (b34,A38,c38,b40,A41,c41,A45,c45) trivial (fun _ h=>h))
      ·refine pN 1 9 [(vS p)] fun b40=>aP _ (fun _ h=>h.sub (.cons _ .slnil)) (fun _ h=>h.sub (.cons _ (.cons_cons _ .slnil)))<|bU (i:=4) kr rfl rfl<|kV eM 0 ((l.map aL).take k) rfl rfl kr rfl rfl rfl (by rw [List.length_take,List.length_map]; omega) (fun w hM=>mT (HR.out.dD hM.fr) k) (nA l k) om k rfl ((l.take k).map aL) (by rw [List.map_take]) (fun A38 c38=>aP _ (fun _ h=>h) (fun _ h=>h.sub (.cons _ (.cons_cons _ .slnil)))<|bU (i:=7) kr rfl rfl<|cY eM 0 [aL p] rfl rfl kr rfl rfl rfl rfl (fQ (i:=1) (off:=0) rfl (fun j v hj=>by rw [Nat.zero_add]; exact hj)) (by simp [aL,Value.oneCell']) om (k+1) rfl ((l.take k++[p]).map aL) si (fun A41 c41=>aP _ (fun _ h=>h) (fun _ h=>h.sub (.cons _ (.cons_cons _ .slnil)))<|bU (i:=11) kr rfl rfl<|cY eM 0 ((l.map aL).drop k) rfl rfl kr rfl rfl rfl (by rw [List.length_drop,List.length_map,Nat.mul_one]) (fun w hM=>mS (HR.out.dD hM.fr) (by rw [List.length_map]; exact hlc)) (nB l k) om (l.length+1) om ((eR l p).map aL) (by unfold eR; rw [← hend]; simp) (fun A45 c45=>aP _ (fun _ h=>h.sub (.cons _ (.cons_cons _ .slnil))) (fun _ h=>h)<|aa 12 ?_)))
       refine aa 13 ?_
       exact cF kr<|aI (sM (b34,A38,c38,b40,A41,c41,A45,c45) trivial (fun _ h=>h))
     ·refine pN 1 9 [(vS p)] fun b40=>aP _ (fun _ h=>h.sub (.cons _ .slnil)) (fun _ h=>h)<|bU (i:=0) kr rfl rfl<|pN 0 9 [] fun b34=>aP _ (fun _ h=>h) (fun _ h=>h.sub (.cons_cons _ (.cons _ .slnil)))<|bU (i:=4) kr rfl rfl<|kV eM 1 ((l.map aL).take k) rfl rfl kr rfl rfl rfl (by rw [List.length_take,List.length_map]; omega) (fun w hM=>mT (HR.out.dD hM.fr) k) (nA l k) om k rfl ((l.take k).map aL) (by rw [List.map_take]) (fun A38 c38=>aP _ (fun _ h=>h) (fun _ h=>h.sub (.cons_cons _ (.cons _ .slnil)))<|bU (i:=7) kr rfl rfl<|cY eM 1 [aL p] rfl rfl kr rfl rfl rfl rfl (fQ (i:=0) (off:=0) rfl (fun j v hj=>by rw [Nat.zero_add]; exact hj)) (by simp [aL,Value.oneCell']) om (k+1) rfl ((l.take k++[p]).map aL) si (fun A41 c41=>aP _ (fun _ h=>h) (fun _ h=>h.sub (.cons_cons _ (.cons _ .slnil)))<|bU (i:=11) kr rfl rfl<|cY eM 1 ((l.map aL).drop k) rfl rfl kr rfl rfl rfl (by rw [List.length_drop,List.length_map,Nat.mul_one]) (fun w hM=>mS (HR.out.dD hM.fr) (by rw [List.length_map]; exact hlc)) (nB l k) om (l.length+1) om ((eR l p).map aL) (by unfold eR; rw [← hend]; simp) (fun A45 c45=>aP _ (fun _ h=>h.sub (.cons_cons _ (.cons _ .slnil))) (fun _ h=>h)<|aa 12 ?_)))
      refine aa 13 ?_
      exact cF kr<|aI (sM (b34,A38,c38,b40,A41,c41,A45,c45) trivial (fun _ h=>h.perm (.swap _ _ _)))
    ·rintro ⟨b34,A38,c38,b40,A41,c41,A45,c45⟩ -
     dsimp only
     exact fX<|sN [(.slice A45 (l.length+1) (c45)),bF] fun w hM=>⟨A45,c45,rfl,(fun (w:World) (h:Mm _ _ _ w)=>Mm.sub h (.cons_cons _ (.cons _ .slnil))) w hM⟩
   ·have hd25:=of_decide_eq_false hc25
    refine fK (b:=false) rfl rfl kr rfl<|fK (b:=false) rfl rfl kr rfl<|fK (b:=false) rfl rfl kr rfl<|fK (b:=false) rfl rfl kr rfl<|fK (b:=false) rfl rfl kr rfl<|fK (b:=false) rfl rfl kr rfl<|lF<|Nu ?_
    refine fI (aI (nX (ι:=Nat × Option Addr × Nat × Nat × Option Addr × Nat × Option Addr × Nat) (fun _=>True) (fun (b34,A38,c38,b40,A41,c41,A45,c45)=>[(0,(.slice (some ⟨b,o,none⟩) (l.length) (c))),(1,(vS p)),(6,(vI k)),(7,(vI k)),(8,(.slice (some ⟨b,o,none⟩) (l.length) (c))),(9,(vI l.length)),(10,(.bool (decide (((k:Nat):Int) < ((l.length:Nat):Int))))),(11,bT),(12,(.slice (some ⟨b,o,none⟩) (l.length) (c))),(13,(vI k)),(14,(.pointer (some ⟨b,o+k,none⟩))),(15,(vS x)),(16,(vS p)),(17,(.bool (decide (x < p)))),(18,(.bool (decide (x < p)))),(21,(vI k)),(22,(.slice (some ⟨b,o,none⟩) (l.length) (c))),(23,(vI l.length)),(24,(.bool (decide (((k:Nat):Int) < ((l.length:Nat):Int))))),(25,bF),(26,undef),(27,undef),(28,undef),(29,undef),(30,undef),(31,undef),(32,bF),(35,(.slice (some ⟨b,o,none⟩) (l.length) (c))),(36,(vI k)),(37,(.slice (some ⟨b,o,none⟩) (k) (c))),(39,(vS p)),(42,(.slice (some ⟨b,o,none⟩) (l.length) (c))),(43,(vI k)),(44,(.slice (if c=k then (some ⟨b,o,none⟩) else ((some ⟨b,o,none⟩):Option Addr).map (·.add (k*1))) (l.length - k) (c - k))),(34,(.slice (some ⟨b34,0,none⟩) (0) (0))),(38,(.slice A38 (k) (c38))),(40,(.slice (some ⟨b40,0,none⟩) (1) (1))),(41,(.slice A41 (k+1) (c41))),(45,(.slice A45 (l.length+1) (c45))),(4,(.slice A45 (l.length+1) (c45))),(5,bF)]) (fun (b34,A38,c38,b40,A41,c41,A45,c45)=>[aR 9 1 A45 (l.length+1) (c45) ((eR l p).map aL),aD b40 9 [(vS p)]]) ?_ ?_))
    ·refine cQ [] 14 kr (fun _ h=>h) ?_
     refine am 1 ?_
     refine am 2 ?_
     refine aV 3 (.slice (some ⟨b,o,none⟩) (k) (c)) rfl (tS (e:=9) rfl kr kr rfl rfl om)<|am 5 ?_
     refine am 8 ?_
     refine am 9 ?_
     refine aV 10 (.slice (if c=k then (some ⟨b,o,none⟩) else ((some ⟨b,o,none⟩):Option Addr).map (·.add (k*1))) (l.length - k) (c - k)) rfl (tT (e:=9) (sz:=1) rfl kr kr rfl rfl om) ?_
     refine kT (i:=0) (j:=6) kr rfl rfl rfl rfl ?_ ?_
     ·refine pN 0 9 [] fun b34=>aP _ (fun _ h=>h) (fun _ h=>h.sub (.cons _ .slnil)) ?_
      refine kT (i:=4) (j:=6) kr rfl rfl rfl rfl ?_ ?_
      ·refine kV eM 0 ((l.map aL).take k) rfl rfl kr rfl rfl rfl (by rw [List.length_take,List.length_map]; omega) (fun w hM=>mT (HR.out.dD hM.fr) k) (nA l k) om k rfl ((l.take k).map aL) (by rw [List.map_take]) (fun A38 c38=>aP _ (fun _ h=>h) (fun _ h=>h.sub (.cons _ .slnil))<|bU (i:=6) kr rfl rfl<|pN 1 9 [(vS p)] fun b40=>aP _ (fun _ h=>h.sub (.cons _ .slnil)) (fun _ h=>h.sub (.cons _ (.cons_cons _ .slnil)))<|bU (i:=7) kr rfl rfl<|cY eM 0 [aL p] rfl rfl kr rfl rfl rfl rfl (fQ (i:=1) (off:=0) rfl (fun j v hj=>by rw [Nat.zero_add]; exact hj)) (by simp [aL,Value.oneCell']) om (k+1) rfl ((l.take k++[p]).map aL) si (fun A41 c41=>aP _ (fun _ h=>h) (fun _ h=>h.sub (.cons _ (.cons_cons _ .slnil)))<|bU (i:=11) kr rfl rfl<|cY eM 0 ((l.map aL).drop k) rfl rfl kr rfl rfl rfl (by rw [List.length_drop,List.length_map,Nat.mul_one]) (fun w hM=>mS (HR.out.dD hM.fr) (by rw [List.length_map]; exact hlc)) (nB l k) om (l.length+1) om ((eR l p).map aL) (by unfold eR; rw [← hend]; simp) (fun A45 c45=>aP _ (fun _ h=>h.sub (.cons _ (.cons_cons _ .slnil))) (fun _ h=>h)<|aa 12 ?_)))
       refine aa 13 ?_
       exact cF kr<|aI (sM (b34,A38,c38,b40,A41,c41,A45,c45) trivial (fun _ h=>h))
      ·refine pN 1 9 [(vS p)] fun b40=>aP _ (fun _ h=>h.sub (.cons _ .slnil)) (fun _ h=>h.sub (.cons _ (.cons_cons _ .slnil)))<|bU (i:=4) kr rfl rfl<|kV eM 0 ((l.map aL).take k) rfl rfl kr rfl rfl rfl (by rw [List.length_take,List.length_map]; omega) (fun w hM=>mT (HR.out.dD hM.fr) k) (nA l k) om k rfl ((l.take k).map aL) (by rw [List.map_take]) (fun A38 c38=>aP _ (fun _ h=>h) (fun _ h=>h.sub (.cons _ (.cons_cons _ .slnil)))<|bU (i:=7) kr rfl rfl<|cY eM 0 [aL p] rfl rfl kr rfl rfl rfl rfl (fQ (i:=1) (off:=0) rfl (fun j v hj=>by rw [Nat.zero_add]; exact hj)) (by simp [aL,Value.oneCell']) om (k+1) rfl ((l.take k++[p]).map aL) si (fun A41 c41=>aP _ (fun _ h=>h) (fun _ h=>h.sub (.cons _ (.cons_cons _ .slnil)))<|bU (i:=11) kr rfl rfl<|cY eM 0 ((l.map aL).drop k) rfl rfl kr rfl rfl rfl (by rw [List.length_drop,List.length_map,Nat.mul_one]) (fun w hM=>mS (HR.out.dD hM.fr) (by rw [List.length_map]; exact hlc)) (nB l k) om (l.length+1) om ((eR l p).map aL) (by unfold eR; rw [← hend]; simp) (fun A45 c45=>aP _ (fun _ h=>h.sub (.cons _ (.cons_cons _ .slnil))) (fun _ h=>h)<|aa 12 ?_)))
       refine aa 13 ?_
       exact cF kr<|aI (sM (b34,A38,c38,b40,A41,c41,A45,c45) trivial (fun _ h=>h))
     ·refine pN 1 9 [(vS p)] fun b40=>aP _ (fun _ h=>h.sub (.cons _ .slnil)) (fun _ h=>h)<|bU (i:=0) kr rfl rfl<|pN 0 9 [] fun b34=>aP _ (fun _ h=>h) (fun _ h=>h.sub (.cons_cons _ (.cons _ .slnil)))<|bU (i:=4) kr rfl rfl<|kV eM 1 ((l.map aL).take k) rfl rfl kr rfl rfl rfl (by rw [List.length_take,List.length_map]; omega) (fun w hM=>mT (HR.out.dD hM.fr) k) (nA l k) om k rfl ((l.take k).map aL) (by rw [List.map_take]) (fun A38 c38=>aP _ (fun _ h=>h) (fun _ h=>h.sub (.cons_cons _ (.cons _ .slnil)))<|bU (i:=7) kr rfl rfl<|cY eM 1 [aL p] rfl rfl kr rfl rfl rfl rfl (fQ (i:=0) (off:=0) rfl (fun j v hj=>by rw [Nat.zero_add]; exact hj)) (by simp [aL,Value.oneCell']) om (k+1) rfl ((l.take k++[p]).map aL) si (fun A41 c41=>aP _ (fun _ h=>h) (fun _ h=>h.sub (.cons_cons _ (.cons _ .slnil)))<|bU (i:=11) kr rfl rfl<|cY eM 1 ((l.map aL).drop k) rfl rfl kr rfl rfl rfl (by rw [List.length_drop,List.length_map,Nat.mul_one]) (fun w hM=>mS (HR.out.dD hM.fr) (by rw [List.length_map]; exact hlc)) (nB l k) om (l.length+1) om ((eR l p).map aL) (by unfold eR; rw [← hend]; simp) (fun A45 c45=>aP _ (fun _ h=>h.sub (.cons_cons _ (.cons _ .slnil))) (fun _ h=>h)<|aa 12 ?_)))
      refine aa 13 ?_
      exact cF kr<|aI (sM (b34,A38,c38,b40,A41,c41,A45,c45) trivial (fun _ h=>h.perm (.swap _ _ _)))
    ·rintro ⟨b34,A38,c38,b40,A41,c41,A45,c45⟩ -
     dsimp only
     exact fX<|sN [(.slice A45 (l.length+1) (c45)),bF] fun w hM=>⟨A45,c45,rfl,(fun (w:World) (h:Mm _ _ _ w)=>Mm.sub h (.cons_cons _ (.cons _ .slnil))) w hM⟩
 ·have hd11:=of_decide_eq_false hc11
  have hend:=Hx hk (by simpa using hc11)
  refine fK (b:=false) rfl rfl kr rfl<|fK (b:=false) rfl rfl kr rfl<|fK (b:=false) rfl rfl kr rfl<|fK (b:=false) rfl rfl kr rfl<|fK (b:=false) rfl rfl kr rfl<|fK (b:=false) rfl rfl kr rfl<|lF<|Nu<|Nj<|Nc<|lx rfl<|lk (vI l.length)<|lk (.bool (decide (((k:Nat):Int) < ((l.length:Nat):Int))))<|lm ?_
  refine St.dec 25 rfl (fun hc25=>?_) (fun hc25=>?_)
  ·have hd25:=of_decide_eq_true hc25
   have hlt:k < l.length:=om
   obtain ⟨x,hx⟩:∃ x,l[k]?=some x:=⟨_,List.getElem?_eq_getElem hlt⟩
   obtain ⟨b,o,hA,hbl,hck⟩:=HR.out k (aL x) (by rw [List.getElem?_map,hx]; rfl)
   subst hA
   have hxp:x≠p:=by rintro rfl; have h:=hfound; rw [nK,decide_eq_false_iff_not,← hend] at h; exact h hx
   refine cO rfl rfl<|dP (.slice (some ⟨b,o,none⟩) (l.length) (c)) rfl kr (fZ rfl rfl)<|cO rfl rfl<|dP (vI k) rfl kr (fZ rfl rfl)<|cO rfl rfl<|dP (.pointer (some ⟨b,o+k,none⟩)) rfl kr (pJ (e:=9) rfl kr kr rfl rfl om)<|cO rfl rfl<|dP (vS x) rfl kr (gH rfl rfl kr (fun w hM=>hM.dX hck si))<|cO rfl rfl<|dP (vS p) rfl kr (fZ rfl rfl)<|cO rfl rfl<|dP (.bool (decide (x=p))) rfl kr (nE rfl rfl rfl)<|lk (.bool (decide (x=p)))<|Na<|eP rfl (by simp [hxp]) ?_
   refine fI (aI (nX (ι:=Nat × Option Addr × Nat × Nat × Option Addr × Nat × Option Addr × Nat) (fun _=>True) (fun (b34,A38,c38,b40,A41,c41,A45,c45)=>[(0,(.slice (some ⟨b,o,none⟩) (l.length) (c))),(1,(vS p)),(6,(vI k)),(7,(vI k)),(8,(.slice (some ⟨b,o,none⟩) (l.length) (c))),(9,(vI l.length)),(10,(.bool (decide (((k:Nat):Int) < ((l.length:Nat):Int))))),(11,bF),(12,undef),(13,undef),(14,undef),(15,undef),(16,undef),(17,undef),(18,bF),(21,(vI k)),(22,(.slice (some ⟨b,o,none⟩) (l.length) (c))),(23,(vI l.length)),(24,(.bool (decide (((k:Nat):Int) < ((l.length:Nat):Int))))),(25,bT),(26,(.slice (some ⟨b,o,none⟩) (l.length) (c))),(27,(vI k)),(28,(.pointer (some ⟨b,o+k,none⟩))),(29,(vS x)),(30,(vS p)),(31,(.bool (decide (x=p)))),(32,(.bool (decide (x=p)))),(35,(.slice (some ⟨b,o,none⟩) (l.length) (c))),(36,(vI k)),(37,(.slice (some ⟨b,o,none⟩) (k) (c))),(39,(vS p)),(42,(.slice (some ⟨b,o,none⟩) (l.length) (c))),(43,(vI k)),(44,(.slice (if c=k then (some ⟨b,o,none⟩) else ((some ⟨b,o,none⟩):Option Addr).map (·.add (k*1))) (l.length - k) (c - k))),(34,(.slice (some ⟨b34,0,none⟩) (0) (0))),(38,(.slice A38 (k) (c38))),(40,(.slice (some ⟨b40,0,none⟩) (1) (1))),(41,(.slice A41 (k+1) (c41))),(45,(.slice A45 (l.length+1) (c45))),(4,(.slice A45 (l.length+1) (c45))),(5,bF)]) (fun (b34,A38,c38,b40,A41,c41,A45,c45)=>[aR 9 1 A45 (l.length+1) (c45) ((eR l p).map aL),aD b40 9 [(vS p)]]) ?_ ?_))
   ·refine cQ [] 14 kr (fun _ h=>h) ?_
    refine am 1 ?_
    refine am 2 ?_
    refine aV 3 (.slice (some ⟨b,o,none⟩) (k) (c)) rfl (tS (e:=9) rfl kr kr rfl rfl om)<|am 5 ?_
    refine am 8 ?_
    refine am 9 ?_
    refine aV 10 (.slice (if c=k then (some ⟨b,o,none⟩) else ((some ⟨b,o,none⟩):Option Addr).map (·.add (k*1))) (l.length - k) (c - k)) rfl (tT (e:=9) (sz:=1) rfl kr kr rfl rfl om) ?_
    refine kT (i:=0) (j:=6) kr rfl rfl rfl rfl ?_ ?_
    ·refine pN 0 9 [] fun b34=>aP _ (fun _ h=>h) (fun _ h=>h.sub (.cons _ .slnil)) ?_
     refine kT (i:=4) (j:=6) kr rfl rfl rfl rfl ?_ ?_
     ·refine kV eM 0 ((l.map aL).take k) rfl rfl kr rfl rfl rfl (by rw [List.length_take,List.length_map]; omega) (fun w hM=>mT (HR.out.dD hM.fr) k) (nA l k) om k rfl ((l.take k).map aL) (by rw [List.map_take]) (fun A38 c38=>aP _ (fun _ h=>h) (fun _ h=>h.sub (.cons _ .slnil))<|bU (i:=6) kr rfl rfl<|pN 1 9 [(vS p)] fun b40=>aP _ (fun _ h=>h.sub (.cons _ .slnil)) (fun _ h=>h.sub (.cons _ (.cons_cons _ .slnil)))<|bU (i:=7) kr rfl rfl<|cY eM 0 [aL p] rfl rfl kr rfl rfl rfl rfl (fQ (i:=1) (off:=0) rfl (fun j v hj=>by rw [Nat.zero_add]; exact hj)) (by simp [aL,Value.oneCell']) om (k+1) rfl ((l.take k++[p]).map aL) si (fun A41 c41=>aP _ (fun _ h=>h) (fun _ h=>h.sub (.cons _ (.cons_cons _ .slnil)))<|bU (i:=11) kr rfl rfl<|cY eM 0 ((l.map aL).drop k) rfl rfl kr rfl rfl rfl (by rw [List.length_drop,List.length_map,Nat.mul_one]) (fun w hM=>mS (HR.out.dD hM.fr) (by rw [List.length_map]; exact hlc)) (nB l k) om (l.length+1) om ((eR l p).map aL) (by unfold eR; rw [← hend]; simp) (fun A45 c45=>aP _ (fun _ h=>h.sub (.cons _ (.cons_cons _ .slnil))) (fun _ h=>h)<|aa 12 ?_)))
      refine aa 13 ?_
      exact cF kr<|aI (sM (b34,A38,c38,b40,A41,c41,A45,c45) trivial (fun _ h=>h))
     ·refine pN 1 9 [(vS p)] fun b40=>aP _ (fun _ h=>h.sub (.cons _ .slnil)) (fun _ h=>h.sub (.cons _ (.cons_cons _ .slnil)))<|bU (i:=4) kr rfl rfl<|kV eM 0 ((l.map aL).take k) rfl rfl kr rfl rfl rfl (by rw [List.length_take,List.length_map]; omega) (fun w hM=>mT (HR.out.dD hM.fr) k) (nA l k) om k rfl ((l.take k).map aL) (by rw [List.map_take]) (fun A38 c38=>aP _ (fun _ h=>h) (fun _ h=>h.sub (.cons _ (.cons_cons _ .slnil)))<|bU (i:=7) kr rfl rfl<|cY eM 0 [aL p] rfl rfl kr rfl rfl rfl rfl (fQ (i:=1) (off:=0) rfl (fun j v hj=>by rw [Nat.zero_add]; exact hj)) (by simp [aL,Value.oneCell']) om (k+1) rfl ((l.take k++[p]).map aL) si (fun A41 c41=>aP _ (fun _ h=>h) (fun _ h=>h.sub (.cons _ (.cons_cons _ .slnil)))<|bU (i:=11) kr rfl rfl<|cY eM 0 ((l.map aL).drop k) rfl rfl kr rfl rfl rfl (by rw [List.length_drop,List.length_map,Nat.mul_one]) (fun w hM=>mS (HR.out.dD hM.fr) (by rw [List.length_map]; exact hlc)) (nB l k) om (l.length+1) om ((eR l p).map aL) (by unfold eR; rw [← hend]; simp) (fun A45 c45=>aP _ (fun _ h=>h.sub (.cons _ (.cons_cons _ .slnil))) (fun _ h=>h)<|aa 12 ?_)))
      refine aa 13 ?_
      exact cF kr<|aI (sM (b34,A38,c38,b40,A41,c41,A45,c45) trivial (fun _ h=>h))
    ·refine pN 1 9 [(vS p)] fun b40=>aP _ (fun _ h=>h.sub (.cons _ .slnil)) (fun _ h=>h)<|bU (i:=0) kr rfl rfl<|pN 0 9 [] fun b34=>aP _ (fun _ h=>h) (fun _ h=>h.sub (.cons_cons _ (.cons _ .slnil)))<|bU (i:=4) kr rfl rfl<|kV eM 1 ((l.map aL).take k) rfl rfl kr rfl rfl rfl (by rw [List.length_take,List.length_map]; omega) (fun w hM=>mT (HR.out.dD hM.fr) k) (nA l k) om k rfl ((l.take k).map aL) (by rw [List.map_take]) (fun A38 c38=>aP _ (fun _ h=>h) (fun _ h=>h.sub (.cons_cons _ (.cons _ .slnil)))<|bU (i:=7) kr rfl rfl<|cY eM 1 [aL p] rfl rfl kr rfl rfl rfl rfl (fQ (i:=0) (off:=0) rfl (fun j v hj=>by rw [Nat.zero_add]; exact hj)) (by simp [aL,Value.oneCell']) om (k+1) rfl ((l.take k++[p]).map aL) si (fun A41 c41=>aP _ (fun _ h=>h) (fun _ h=>h.sub (.cons_cons _ (.cons _ .slnil)))<|bU (i:=11) kr rfl rfl<|cY eM 1 ((l.map aL).drop k) rfl rfl kr rfl rfl rfl (by rw [List.length_drop,List.length_map,Nat.mul_one]) (fun w hM=>mS (HR.out.dD hM.fr) (by rw [List.length_map]; exact hlc)) (nB l k) om (l.length+1) om ((eR l p).map aL) (by unfold eR; rw [← hend]; simp) (fun A45 c45=>aP _ (fun _ h=>h.sub (.cons_cons _ (.cons _ .slnil))) (fun _ h=>h)<|aa 12 ?_)))
     refine aa 13 ?_
     exact cF kr<|aI (sM (b34,A38,c38,b40,A41,c41,A45,c45) trivial (fun _ h=>h.perm (.swap _ _ _)))
   ·rintro ⟨b34,A38,c38,b40,A41,c41,A45,c45⟩ -
    dsimp only
    exact fX<|sN [(.slice A45 (l.length+1) (c45)),bF] fun w hM=>⟨A45,c45,rfl,(fun (w:World) (h:Mm _ _ _ w)=>Mm.sub h (.cons_cons _ (.cons _ .slnil))) w hM⟩
  ·have hd25:=of_decide_eq_false hc25
   refine fK (b:=false) rfl rfl kr rfl<|fK (b:=false) rfl rfl kr rfl<|fK (b:=false) rfl rfl kr rfl<|fK (b:=false) rfl rfl kr rfl<|fK (b:=false) rfl rfl kr rfl<|fK (b:=false) rfl rfl kr rfl<|lF<|Nu ?_
   refine fI (aI (nX (ι:=Nat × Option Addr × Nat × Nat × Option Addr × Nat × Option Addr × Nat) (fun _=>True) (fun (b34,A38,c38,b40,A41,c41,A45,c45)=>[(0,(.slice A (l.length) (c))),(1,(vS p)),(6,(vI k)),(7,(vI k)),(8,(.slice A (l.length) (c))),(9,(vI l.length)),(10,(.bool (decide (((k:Nat):Int) < ((l.length:Nat):Int))))),(11,bF),(12,undef),(13,undef),(14,undef),(15,undef),(16,undef),(17,undef),(18,bF),(21,(vI k)),(22,(.slice A (l.length) (c))),(23,(vI l.length)),(24,(.bool (decide (((k:Nat):Int) < ((l.length:Nat):Int))))),(25,bF),(26,undef),(27,undef),(28,undef),(29,undef),(30,undef),(31,undef),(32,bF),(35,(.slice A (l.length) (c))),(36,(vI k)),(37,(.slice A (k) (c))),(39,(vS p)),(42,(.slice A (l.length) (c))),(43,(vI k)),(44,(.slice (if c=k then A else (A:Option Addr).map (·.add (k*1))) (l.length - k) (c - k))),(34,(.slice (some ⟨b34,0,none⟩) (0) (0))),(38,(.slice A38 (k) (c38))),(40,(.slice (some ⟨b40,0,none⟩) (1) (1))),(41,(.slice A41 (k+1) (c41))),(45,(.slice A45 (l.length+1) (c45))),(4,(.slice A45 (l.length+1) (c45))),(5,bF)]) (fun (b34,A38,c38,b40,A41,c41,A45,c45)=>[aR 9 1 A45 (l.length+1) (c45) ((eR l p).map aL),aD b40 9 [(vS p)]]) ?_ ?_))
   ·refine cQ [] 14 kr (fun _ h=>h) ?_
    refine am 1 ?_
    refine am 2 ?_
    refine aV 3 (.slice A (k) (c)) rfl (tS (e:=9) rfl kr kr rfl rfl om)<|am 5 ?_
    refine am 8 ?_
    refine am 9 ?_
    refine aV 10 (.slice (if c=k then A else (A:Option Addr).map (·.add (k*1))) (l.length - k) (c - k)) rfl (tT (e:=9) (sz:=1) rfl kr kr rfl rfl om) ?_
    refine kT (i:=0) (j:=6) kr rfl rfl rfl rfl ?_ ?_
    ·refine pN 0 9 [] fun b34=>aP _ (fun _ h=>h) (fun _ h=>h.sub (.cons _ .slnil)) ?_
     refine kT (i:=4) (j:=6) kr rfl rfl rfl rfl ?_ ?_
     ·refine kV eM 0 ((l.map aL).take k) rfl rfl kr rfl rfl rfl (by rw [List.length_take,List.length_map]; omega) (fun w hM=>mT (HR.out.dD hM.fr) k) (nA l k) om k rfl ((l.take k).map aL) (by rw [List.map_take]) (fun A38 c38=>aP _ (fun _ h=>h) (fun _ h=>h.sub (.cons _ .slnil))<|bU (i:=6) kr rfl rfl<|pN 1 9 [(vS p)] fun b40=>aP _ (fun _ h=>h.sub (.cons _ .slnil)) (fun _ h=>h.sub (.cons _ (.cons_cons _ .slnil)))<|bU (i:=7) kr rfl rfl<|cY eM 0 [aL p] rfl rfl kr rfl rfl rfl rfl (fQ (i:=1) (off:=0) rfl (fun j v hj=>by rw [Nat.zero_add]; exact hj)) (by simp [aL,Value.oneCell']) om (k+1) rfl ((l.take k++[p]).map aL) si (fun A41 c41=>aP _ (fun _ h=>h) (fun _ h=>h.sub (.cons _ (.cons_cons _ .slnil)))<|bU (i:=11) kr rfl rfl<|cY eM 0 ((l.map aL).drop k) rfl rfl kr rfl rfl rfl (by rw [List.length_drop,List.length_map,Nat.mul_one]) (fun w hM=>mS (HR.out.dD hM.fr) (by rw [List.length_map]; exact hlc)) (nB l k) om (l.length+1) om ((eR l p).map aL) (by unfold eR; rw [← hend]; simp) (fun A45 c45=>aP _ (fun _ h=>h.sub (.cons _ (.cons_cons _ .slnil))) (fun _ h=>h)<|aa 12 ?_)))
      refine aa 13 ?_
      exact cF kr<|aI (sM (b34,A38,c38,b40,A41,c41,A45,c45) trivial (fun _ h=>h))
     ·refine pN 1 9 [(vS p)] fun b40=>aP _ (fun _ h=>h.sub (.cons _ .slnil)) (fun _ h=>h.sub (.cons _ (.cons_cons _ .slnil)))<|bU (i:=4) kr rfl rfl<|kV eM 0 ((l.map aL).take k) rfl rfl kr rfl rfl rfl (by rw [List.length_take,List.length_map]; omega) (fun w hM=>mT (HR.out.dD hM.fr) k) (nA l k) om k rfl ((l.take k).map aL) (by rw [List.map_take]) (fun A38 c38=>aP _ (fun _ h=>h) (fun _ h=>h.sub (.cons _ (.cons_cons _ .slnil)))<|bU (i:=7) kr rfl rfl<|cY eM 0 [aL p] rfl rfl kr rfl rfl rfl rfl (fQ (i:=1) (off:=0) rfl (fun j v hj=>by rw [Nat.zero_add]; exact hj)) (by simp [aL,Value.oneCell']) om (k+1) rfl ((l.take k++[p]).map aL) si (fun A41 c41=>aP _ (fun _ h=>h) (fun _ h=>h.sub (.cons _ (.cons_cons _ .slnil)))<|bU (i:=11) kr rfl rfl<|cY eM 0 ((l.map aL).drop k) rfl rfl kr rfl rfl rfl (by rw [List.length_drop,List.length_map,Nat.mul_one]) (fun w hM=>mS (HR.out.dD hM.fr) (by rw [List.length_map]; exact hlc)) (nB l k) om (l.length+1) om ((eR l p).map aL) (by unfold eR; rw [← hend]; simp) (fun A45 c45=>aP _ (fun _ h=>h.sub (.cons _ (.cons_cons _ .slnil))) (fun _ h=>h)<|aa 12 ?_)))
      refine aa 13 ?_
      exact cF kr<|aI (sM (b34,A38,c38,b40,A41,c41,A45,c45) trivial (fun _ h=>h))
    ·refine pN 1 9 [(vS p)] fun b40=>aP _ (fun _ h=>h.sub (.cons _ .slnil)) (fun _ h=>h)<|bU (i:=0) kr rfl rfl<|pN 0 9 [] fun b34=>aP _ (fun _ h=>h) (fun _ h=>h.sub (.cons_cons _ (.cons _ .slnil)))<|bU (i:=4) kr rfl rfl<|kV eM 1 ((l.map aL).take k) rfl rfl kr rfl rfl rfl (by rw [List.length_take,List.length_map]; omega) (fun w hM=>mT (HR.out.dD hM.fr) k) (nA l k) om k rfl ((l.take k).map aL) (by rw [List.map_take]) (fun A38 c38=>aP _ (fun _ h=>h) (fun _ h=>h.sub (.cons_cons _ (.cons _ .slnil)))<|bU (i:=7) kr rfl rfl<|cY eM 1 [aL p] rfl rfl kr rfl rfl rfl rfl (fQ (i:=0) (off:=0) rfl (fun j v hj=>by rw [Nat.zero_add]; exact hj)) (by simp [aL,Value.oneCell']) om (k+1) rfl ((l.take k++[p]).map aL) si (fun A41 c41=>aP _ (fun _ h=>h) (fun _ h=>h.sub (.cons_cons _ (.cons _ .slnil)))<|bU (i:=11) kr rfl rfl<|cY eM 1 ((l.map aL).drop k) rfl rfl kr rfl rfl rfl (by rw [List.length_drop,List.length_map,Nat.mul_one]) (fun w hM=>mS (HR.out.dD hM.fr) (by rw [List.length_map]; exact hlc)) (nB l k) om (l.length+1) om ((eR l p).map aL) (by unfold eR; rw [← hend]; simp) (fun A45 c45=>aP _ (fun _ h=>h.sub (.cons_cons _ (.cons _ .slnil))) (fun _ h=>h)<|aa 12 ?_)))
     refine aa 13 ?_
     exact cF kr<|aI (sM (b34,A38,c38,b40,A41,c41,A45,c45) trivial (fun _ h=>h.perm (.swap _ _ _)))
   ·rintro ⟨b34,A38,c38,b40,A41,c41,A45,c45⟩ -
    dsimp only
    exact fX<|sN [(.slice A45 (l.length+1) (c45)),bF] fun w hM=>⟨A45,c45,rfl,(fun (w:World) (h:Mm _ _ _ w)=>Mm.sub h (.cons_cons _ (.cons _ .slnil))) w hM⟩
theorem Rk (c : BC) (hc : c.keys.length = 32) (w : World) : (binOp .neq 136 (.agg c.cells.toArray) (.agg BC.zero.cells.toArray)).run Tryz.prog w = .ok (.bool (!c.isZero)) w :=
 FQ 136 3 134 80 5 "Count" "Keys" "Checks" (by decide) (by decide) (by decide) (by kernel_rfl) (by kernel_rfl) (by kernel_rfl) Tryz.underlying3 Tryz.underlying134 Tryz.underlying80 Tryz.underlying5 (fun w => by kernel_rfl) (fun w => by kernel_rfl) c BC.zero hc rfl w
theorem Rl {P:Program} {w0:World} {F:List Nat} {cs:List Ch} {E:cH} {o:Oper} {ty u:TypeId} {x y:Operand} {a b v:Value} (ho:o.op = .binOp .neq ty x y u) (hx:aM E x=some a) (hy:aM E y=some b) (hr:∀ w,(binOp .neq ty a b).run P w = .ok v w) (hg:∀ w,(eqGuard .neq ty x y a b).run P w = .ok () w:=by intro w; kernel_rfl):cC P w0 F cs E o v:=fun w _=>by
 unfold execOp
 simp only [ho,bG hx,bG hy,Sem.run_bind,hg,hr,Sem.run_pure,Result.andThen_ok]
theorem Al (g cap:Nat) (rest:List Value) (t:BT) (w:World) (ht:gW w g cap rest t) :
  Calls Tryz.prog 90 #[.agg #[.int .u64 (t.seed:Int),.slice (some ⟨g,0,none⟩) t.cells.length cap]] w fun e w'=>e = .returned (.bool t.empty)∧Fr [] w w':=by
 obtain ⟨n,HN⟩:∃ n,Hid (n=t.cells.length):=⟨_,rfl⟩
 obtain ⟨seed,HS⟩:∃ seed,Hid (seed=t.seed):=⟨_,rfl⟩
 have n4:n≤3072:=by rw [HN.out]; exact (gV ht.size).2.1
 rw [← HN.out,← HS.out]
 have HT:=Lib.hid ht
 clear ht
 refine dI Tryz.func90 18 (Mm.start w []) rfl<|Nc<|Nx<|pB [(vU seed),(.slice (some ⟨g,0,none⟩) (n) (cap))] fun b1=>lx rfl<|Ne<|lx rfl<|Ng<|sL (fun i=>i≤n∧(t.cells.take i).all BC.isZero=true) (fun i=>n - i) (fun i=>[(1,(vP b1 0)),(3,(vI i))]) (fun i=>[aD b1 83 [(vU seed),(.slice (some ⟨g,0,none⟩) (n) (cap))]]) 0 ⟨om,si⟩ (fun _ h=>h) ?_
 intro i hok
 show St _ _ _ [(1,(vP b1 0)),(3,(vI i))] [aD b1 83 [(vU seed),(.slice (some ⟨g,0,none⟩) (n) (cap))]] _
 refine Ny<|lx rfl<|lk (vP b1 1)<|lL 0 rfl<|lk (vI n)<|lk (.bool (decide (((i:Nat):Int) < ((n:Nat):Int)))) ?_
 refine aO (aI (bD rfl (fun hc8=>?_) (fun hc8=>?_)))
 ·have hd8:=of_decide_eq_true hc8
  have hle:=hok.1
  obtain ⟨cc,hc⟩:∃ cc,t.cells[i]?=some cc:=⟨_,List.getElem?_eq_getElem (by rw [← HN.out]; omega)⟩
  have hlt:i < n:=om
  have hcok:=HT.out.ok.cells cc (List.mem_of_getElem? hc)
  have hclen:=BC.cells_len hcok
  refine Nm<|aF<|lk (vP b1 1)<|lL 0 rfl<|lx rfl<|lw (.pointer (some ⟨g,0+i*34,none⟩)) (jN (e:=136) (sz:=34) rfl kr kr rfl rfl om)<|lw (.agg (cc.cells).toArray) (gC cc.cells rfl rfl kr (by rw [hclen]; kernel_rfl) (fun w hM j v hj=>by rw [Nat.zero_add]; exact hM.dX (sB HT.out hc j v hj) si))<|lk (.agg BC.zero.cells.toArray)<|lw (.bool (!cc.isZero)) (Rl rfl rfl rfl (Rk cc hcok.keys)) ?_
  refine aO (aI (bD rfl (fun hc17=>?_) (fun hc17=>?_)))
  ·have hem:t.empty=false:=by unfold BT.empty; rw [List.all_eq_false]; exact ⟨cc,List.mem_of_getElem? hc,by simpa using hc17⟩
   exact Nc<|lx rfl<|Nd<|fY<|dC<|dC<|fY<|dC<|sN [bF] fun w hM=>⟨by rw [hem]; rfl,hM.fr⟩
  ·exact Nw<|aF<|lx rfl<|lw (vI (i+1)) bO<|lx rfl<|aO (aI (sA (i+1) ⟨by show _≤_; omega,FT hc hok.2 (by simpa using hc17)⟩ (by show n - (i+1) < n - i; omega) (fun _ h=>h)))
 ·have hd8:=of_decide_eq_false hc8
  have hle:=hok.1
  have hia:i=n:=om
  have hall:t.empty=true:=by
   have h2:=hok.2
   rw [hia,HN.out,List.take_length] at h2
   exact h2
  exact Nj<|aF<|lx rfl<|Nd<|sN [bT] fun w hM=>⟨by rw [hall]; rfl,hM.fr⟩
structure xC where
 k : Nat
 s : dZ
 g : Nat
 cap : Nat
 rest : List Value
 A5 : Option Addr
 c5 : Nat
 A6 : Option Addr
 c6 : Nat
 A7 : Option Addr
 c7 : Nat
structure kF (n seed : Nat) (t : BT) (k : Nat) (s : dZ) : Prop where
 kn : k ≤ n
 pe : fS n ⟨t, [], [], []⟩ = fS (n - k) s
 ok : s.t.Ok
 len : s.t.cells.length = n
 seed : s.t.seed = seed
 la : s.added.length ≤ k
 lr : s.removed.length ≤ k
 lt : s.taken.length ≤ k
 sa : ∀ y ∈ s.added, y ∈ s.taken
 sr : ∀ y ∈ s.removed, y ∈ s.taken
theorem kF.start {n seed:Nat} {t:BT} (h1:n=t.cells.length) (h2:seed=t.seed) (h3:t.Ok):kF n seed t 0 ⟨t,[],[],[]⟩ :=
 ⟨Nat.zero_le _,rfl,h3,h1.symm,h2.symm,Nat.le_refl _,Nat.le_refl _,Nat.le_refl _,(fun _ h=>by cases h),(fun _ h=>by cases h)⟩
theorem kF.fin {n seed:Nat} {t:BT} {k:Nat} {s:dZ} (h:kF n seed t k s) (hd:k=n∨s.t.first=none):fS n ⟨t,[],[],[]⟩=some s:=by
 rw [h.pe]
 rcases hd with rfl | hd
 ·rw [Nat.sub_self]; rfl
 ·exact FK _ s hd
theorem kF.KQ {n seed:Nat} {t:BT} {k:Nat} {s:dZ} (h:kF n seed t k s) {i:Nat} {cc:BC} (hf:s.t.first=some i) (hc:s.t.cellAt i=cc) (ht:s.taken.contains cc.keys=true) (hk:k < n):fS n ⟨t,[],[],[]⟩=none:=by
 rw [h.pe,show n - k=(n - k - 1)+1 by omega]
 exact FL _ s i hf (by rw [hc]; exact ht)
theorem kF.step {n seed:Nat} {t:BT} {k:Nat} {s:dZ} (h:kF n seed t k s) {i:Nat} {cc:BC} (hf:s.t.first=some i) (hc:s.t.cellAt i=cc) (ht:s.taken.contains cc.keys=false) (hk:k < n) (ho:cc.Ok):kF n seed t (k+1) (s.take cc):=by
 have hp:=BY (n - k - 1) s i hf (by rw [hc]; exact ht)
 rw [hc] at hp
 refine ⟨om,?_,BT.Ok.change h.ok ho.keys _,by rw [← h.len]; exact change_len _ _ _,by rw [← h.seed]; exact change_seed _ _ _,?_,?_,?_,?_,?_⟩
 ·rw [h.pe,show n - k=(n - k - 1)+1 by omega,hp]
  rfl
 ·have:=h.la; simp only [dZ.take]; split <;> simp <;> omega
 ·have:=h.lr; simp only [dZ.take]; split <;> simp <;> omega
 ·have:=h.lt; simp only [dZ.take]; simp; omega
 ·intro y hy
  simp only [dZ.take] at hy ⊢
  split at hy
  ·rcases List.mem_append.1 hy with hy | hy
   ·exact List.mem_cons_of_mem _ (h.sa y hy)
   ·rw [List.mem_singleton] at hy; subst hy; exact List.mem_cons_self
  ·exact List.mem_cons_of_mem _ (h.sa y hy)
 ·intro y hy
  simp only [dZ.take] at hy ⊢
  split at hy
  ·exact List.mem_cons_of_mem _ (h.sr y hy)
  ·rcases List.mem_append.1 hy with hy | hy
   ·exact List.mem_cons_of_mem _ (h.sr y hy)
   ·rw [List.mem_singleton] at hy; subst hy; exact List.mem_cons_self
theorem kF.KR {n seed:Nat} {t:BT} {k:Nat} {s:dZ} (h:kF n seed t k s) {y:dN} (hn:s.taken.contains y=false):s.added.contains y=false:=by
 cases hc:s.added.contains y with
 | false=>rfl
 | true =>
   have:=h.sa y (by simpa using hc)
   rw [← hn]
   simpa using this
theorem kF.KT {n seed:Nat} {t:BT} {k:Nat} {s:dZ} (h:kF n seed t k s) {y:dN} (hn:s.taken.contains y=false):s.removed.contains y=false:=by
 cases hc:s.removed.contains y with
 | false=>rfl
 | true =>
   have:=h.sr y (by simpa using hc)
   rw [← hn]
   simpa using this
theorem iO (l:List dN):(bM l).length=l.length:=by simp [bM]
theorem IQ (l:List dN) (y:dN):(l++[y]).Perm (y::l):=List.perm_append_comm (l₁:=l) (l₂:=[y])
theorem Ap (s:dZ) (cc:BC):eR (bM s.taken) cc.keys=bM (s.take cc).taken∧s.taken.length+1=(s.take cc).taken.length:=⟨Dd (List.Perm.refl _),by simp [dZ.take]⟩
theorem Aq (s:dZ) (cc:BC) (h:cc.count=1):eR (bM s.added) cc.keys=bM (s.take cc).added∧s.added.length+1=(s.take cc).added.length:=by
 have e:(s.take cc).added=s.added++[cc.keys]:=by simp [dZ.take,h]
 rw [e]
 exact ⟨Dd (IQ _ _),si⟩
theorem Ar (s:dZ) (cc:BC) (h:cc.count≠1):eR (bM s.removed) cc.keys=bM (s.take cc).removed∧s.removed.length+1=(s.take cc).removed.length:=by
 have e:(s.take cc).removed=s.removed++[cc.keys]:=by simp [dZ.take,h]
 rw [e]
 exact ⟨Dd (IQ _ _),si⟩
theorem IS {t:BT} (h:mM t < 0):t.first=none:=by
 unfold mM at h
 cases hf:t.first with
 | none=>rfl
 | some i=>rw [hf] at h; simp only at h; omega
theorem IT {t:BT} (h:¬ mM t < 0):∃ i,t.first=some i:=by
 unfold mM at h
 cases hf:t.first with
 | none=>rw [hf] at h; simp only at h; omega
 | some i=>exact ⟨i,rfl⟩
theorem Mm.ownCap {w0 w:World} {F:List Nat} {cs:List Ch} (h:Mm w0 F cs w) {i:Nat} {e:TypeId} {sz:Nat} {A:Option Addr} {m c:Nat} {xs:List Value} (hi:cs[i]?=some (aR e sz A m c xs)):m≤c:=by
 have ho:w.ownsRow 0 e sz (.slice A m c) m xs:=h.at hi
 rcases ho.2 with ⟨hv,h0⟩ | ⟨g,cap,cur,hv,_,_,hnc,_⟩
 ·omega
 ·simp only [Value.slice.injEq] at hv
  omega
theorem As {P:Program} {w0:World} {F:List Nat} {cs:List Ch} {E:cH} {o:Oper} {n:Int} (h:n=1∨n = -1) (hr:∀ w,(execOp (evE E) o).run P w = .ok (.value (vi (IntKind.i64.wrap (0 - n)))) w):cC P w0 F cs E o (vi (-n)):=fun w _=>by
 rw [hr w]
 rcases h with rfl | rfl <;> rfl
def Rm (n : Nat) (t : BT) (w : World) (e : Ending) (w' : World) : Prop :=
 Fr [] w w' ∧ match fS n ⟨t, [], [], []⟩ with
  | none => e = .returned (.tuple #[.slice none 0 0, .slice none 0 0, .bool false])
  | some s => ∃ A1 c1 A2 c2, e = .returned (.tuple #[.slice A1 s.added.length c1, .slice A2 s.removed.length c2, .bool s.t.empty]) ∧ aH w' A1 ((bM s.added).map aL) ∧ aH w' A2 ((bM s.removed).map aL)
theorem IU (n seed g0 cap0:Nat) (rest0:List Value) (t:BT) (w:World) (ht:gW w g0 cap0 rest0 t) (hn:n=t.cells.length) (hs:seed=t.seed) :
  Calls Tryz.prog 42 #[(.agg #[(.int .u64 ((seed:Nat):Int)),(.slice (some ⟨g0,0,none⟩) (n) (cap0))])] w (Rm n t w):=by
 have HN:=Lib.hid hn
 have HS:=Lib.hid hs
 have HT:=Lib.hid ht
 have n4:n≤3072:=by rw [HN.out]; exact (gV ht.size).2.1
 obtain ⟨s0,HS0⟩:∃ s0:dZ,Hid (s0=⟨t,[],[],[]⟩):=⟨_,rfl⟩
 clear hn hs ht
 refine dI Tryz.func42 67 (Mm.start w []) rfl<|Nc<|Nx<|pB [(vU seed),(.slice (some ⟨g0,0,none⟩) (n) (cap0))] fun b1=>lx rfl<|Nb<|Nx<|pN 0 9 [] fun b13=>Nx<|pN 0 9 [] fun b14=>Nx<|pN 0 9 [] fun b15=>lx rfl<|Nf<|aS<|St.mem (cs':=[aD b1 83 [(vU seed),(.slice (some ⟨g0,0,none⟩) (n) (cap0))],aR 9 1 (some ⟨b13,0,none⟩) (0) (0) ([]),aD b14 9 [],aD b15 9 []]) (fun w hM=>hM.xS 1 rfl 1 0 0 rfl (Nat.le_refl _) (by unfold maxLen; omega))<|St.mem (cs':=[aD b1 83 [(vU seed),(.slice (some ⟨g0,0,none⟩) (n) (cap0))],aR 9 1 (some ⟨b13,0,none⟩) (0) (0) ([]),aR 9 1 (some ⟨b14,0,none⟩) (0) (0) ([]),aD b15 9 []]) (fun w hM=>hM.xS 2 rfl 1 0 0 rfl (Nat.le_refl _) (by unfold maxLen; omega))<|St.mem (cs':=[aD b1 83 [(vU seed),(.slice (some ⟨g0,0,none⟩) (n) (cap0))],aR 9 1 (some ⟨b13,0,none⟩) (0) (0) ([]),aR 9 1 (some ⟨b14,0,none⟩) (0) (0) ([]),aR 9 1 (some ⟨b15,0,none⟩) (0) (0) ([])]) (fun w hM=>hM.xS 3 rfl 1 0 0 rfl (Nat.le_refl _) (by unfold maxLen; omega))<|aF<|lx rfl<|Ng ?_
 have hst:kF n seed t 0 s0:=by rw [HS0.out]; exact kF.start HN.out HS.out HT.out.ok
 have ha0:s0.added.length=0:=by rw [HS0.out]; rfl
 have hr0:s0.removed.length=0:=by rw [HS0.out]; rfl
 have ht0:s0.taken.length=0:=by rw [HS0.out]; rfl
 have he0:(bM s0.added).map aL=[]:=by rw [HS0.out]; simp [bM]
 have he1:(bM s0.removed).map aL=[]:=by rw [HS0.out]; simp [bM]
 have he2:(bM s0.taken).map aL=[]:=by rw [HS0.out]; simp [bM]
 refine St.conv 5 (v':=.slice (some ⟨b13,0,none⟩) s0.added.length 0) rfl (by rw [ha0])<|St.conv 6 (v':=.slice (some ⟨b14,0,none⟩) s0.removed.length 0) rfl (by rw [hr0])<|St.conv 7 (v':=.slice (some ⟨b15,0,none⟩) s0.taken.length 0) rfl (by rw [ht0])<|sL (fun p=>kF n seed t p.2.k p.2.s∧(p.1=true→gW w p.2.g p.2.cap p.2.rest p.2.s.t)) (fun p=>n - p.2.k) (fun | (_,x)=>[(1,(vP b1 0)),(5,(.slice x.A5 (x.s.added.length) (x.c5))),(6,(.slice x.A6 (x.s.removed.length) (x.c6))),(7,(.slice x.A7 (x.s.taken.length) (x.c7))),(8,(vI x.k))]) (fun | (true,x)=>[aD b1 83 [(vU seed),(.slice (some ⟨x.g,0,none⟩) (n) (x.cap))],aR 9 1 x.A5 (x.s.added.length) (x.c5) ((bM x.s.added).map aL),aR 9 1 x.A6 (x.s.removed.length) (x.c6) ((bM x.s.removed).map aL),aR 9 1 x.A7 (x.s.taken.length) (x.c7) ((bM x.s.taken).map aL)] | (false,x)=>[aD b1 83 [(vU seed),(.slice (some ⟨x.g,0,none⟩) (n) (x.cap))],aR 9 1 x.A5 (x.s.added.length) (x.c5) ((bM x.s.added).map aL),aR 9 1 x.A6 (x.s.removed.length) (x.c6) ((bM x.s.removed).map aL),aR 9 1 x.A7 (x.s.taken.length) (x.c7) ((bM x.s.taken).map aL),mJ x.g x.cap x.rest x.s.t]) (true,(⟨0,s0,g0,cap0,rest0,some ⟨b13,0,none⟩,0,some ⟨b14,0,none⟩,0,some ⟨b15,0,none⟩,0⟩:xC)) ⟨hst,fun _=>by show gW w g0 cap0 rest0 s0.t; rw [HS0.out]; exact HT.out⟩ (fun w hM=>by show Mm _ _ [aD b1 83 [(vU seed),(.slice (some ⟨g0,0,none⟩) (n) (cap0))],aR 9 1 (some ⟨b13,0,none⟩) (s0.added.length) (0) ((bM s0.added).map aL),aR 9 1 (some ⟨b14,0,none⟩) (s0.removed.length) (0) ((bM s0.removed).map aL),aR 9 1 (some ⟨b15,0,none⟩) (s0.taken.length) (0) ((bM s0.taken).map aL)] w; rw [ha0,hr0,ht0,he0,he1,he2]; exact hM) ?_
 rintro ⟨old,x⟩ ⟨hok,hold⟩
 obtain ⟨k,s,g,cap,rest,A5,c5,A6,c6,A7,c7⟩:=x
 replace hok:kF n seed t k s:=hok
 have hb5:=hok.la
 have hb6:=hok.lr
 have hb7:=hok.lt
 have hkn:=hok.kn
 cases old with
 | false =>
   dsimp only
   clear hold
   refine Ny<|lx rfl<|lk (vP b1 1)<|lL 0 rfl<|lk (vI n)<|lk (.bool (decide (((k:Nat):Int) < ((n:Nat):Int)))) ?_
   refine aO (aI (bD rfl (fun hc20=>?_) (fun hc20=>?_)))
   ·have hd20:=of_decide_eq_true hc20
    have hklt:k < n:=om
    refine Nm<|aF<|lW (rA 0 [(vU seed),(.slice (some ⟨g,0,none⟩) (n) (cap))])<|Nx<|cU 87 #[(.agg #[(vU seed),(.slice (some ⟨g,0,none⟩) (n) (cap))])] rfl kr (fun _=>kr) (fun w hM=>(IN g cap rest s.t n seed w (hM.at (i:=4) rfl) hok.len.symm hok.seed.symm).mono ?_)
    rintro e w' ⟨rfl,hf⟩
    have hM':=hM.dD hf
    refine ⟨_,_,rfl,hM',?_⟩
    clear hM hM' hf
    refine lx rfl<|Ne<|lx rfl<|lk (.bool (decide ((mM s.t) < 0))) ?_
    refine aO (aI (bD rfl (fun hc26=>?_) (fun hc26=>?_)))
    ·have hd26:=of_decide_eq_true hc26
     have hno:s.t.first=none:=IS hd26
     have hfin:=hok.fin (.inr hno)
     refine qE<|iW<|vO rfl<|iW<|iW<|mQ<|aI<|Nc<|lx rfl<|lW (rA 0 [(vU seed),(.slice (some ⟨g,0,none⟩) (n) (cap))])<|Nx<|cU 90 #[(.agg #[(vU seed),(.slice (some ⟨g,0,none⟩) (n) (cap))])] rfl kr (fun _=>kr) (fun w hM=>(by have h:=Al g cap rest s.t w (hM.at (i:=4) rfl); rw [hok.len,hok.seed] at h; exact h:Calls _ _ _ w fun e w'=>e = .returned (.bool s.t.empty)∧Fr [] w w').mono ?_)
     rintro e w' ⟨rfl,hf⟩
     have hM':=hM.dD hf
     refine ⟨_,_,rfl,hM',?_⟩
     clear hM hM' hf
     exact lx rfl<|Nd<|sN [(.slice A5 (s.added.length) (c5)),(.slice A6 (s.removed.length) (c6)),(.bool s.t.empty)] fun w hM=>⟨hM.fr,by rw [hfin]; exact ⟨A5,c5,A6,c6,rfl,gJ (i:=1) rfl w hM,gJ (i:=2) rfl w hM⟩⟩
    ·have hd26:=of_decide_eq_false hc26
     obtain ⟨i,hfi⟩:∃ i,s.t.first=some i:=IT hd26
     have hfe:mM s.t=((i:Nat):Int):=Ak hfi
     obtain ⟨cc,hc,hcp,hcc⟩:=BZ hfi
     have hlti:i < n:=by have h:=(List.getElem?_eq_some_iff.1 hc).1; rw [hok.len] at h; exact h
     have hcok:cc.Ok:=hok.ok.cells cc (List.mem_of_getElem? hc)
     have hclen:=BC.cells_len hcok
     have hcnt:=Ca hcp
     refine St.conv 9 (v':=.int .i64 ((i:Nat):Int)) rfl (congrArg (Value.int .i64) hfe)<|Ni<|lk (vP b1 1)<|lL 0 rfl<|lx rfl<|lw (.pointer (some ⟨g,0+i*34,none⟩)) (jN (e:=136) (sz:=34) rfl kr kr rfl rfl om)<|lw (.agg (cc.cells).toArray) (gC cc.cells rfl rfl kr (by rw [hclen]; kernel_rfl) (fun w hM j v hj=>by rw [Nat.zero_add]; exact sB (hM.at (i:=4) rfl:gW w g cap rest s.t) hc j v hj))<|Nx<|pA [(vi 0),(.int .u8 0),(.int .u8 0),(.int .u8 0),(.int .u8 0),(.int .u8 0),(.int .u8 0),(.int .u8 0),(.int .u8 0),(.int .u8 0),(.int .u8 0),(.int .u8 0),(.int .u8 0),(.int .u8 0),(.int .u8 0),(.int .u8 0),(.int .u8 0),(.int .u8 0),(.int .u8 0),(.int .u8 0),(.int .u8 0),(.int .u8 0),(.int .u8 0),(.int .u8 0),(.int .u8 0),(.int .u8 0),(.int .u8 0),(.int .u8 0),(.int .u8 0),(.int .u8 0),(.int .u8 0),(.int .u8 0),(.int .u8 0),(.int .u64 0)] fun b10=>Nx<|gI 5 cc.cells (vs:=cc.cells) rfl rfl kr rfl rfl rfl (by rw [hclen]; kernel_rfl) rfl (by rw [hclen]; decide) (BC.mB cc) (oD (by rw [hclen]; rfl)) ?_
     refine Nb<|lk (vP b10 1)<|lk (.slice (some ⟨b10,1,none⟩) (32) (32))<|lw (vS cc.keys) (kW (e:=5) cc.keys rfl kr kr kr rfl hcok.keys.symm (yG (i:=5) (off:=1) rfl (fun j v hj=>wN hj)))<|lx rfl<|Nf ?_
     cases hnt:s.taken.contains cc.keys with
     | true =>
       have htw:=hok.KQ hfi hcc hnt hklt
       refine aF<|lx rfl<|Nx<|cU 88 #[(.slice A7 (s.taken.length) (c7)),(vS cc.keys)] rfl kr (fun _=>kr) (fun w hM=>(by have h:=IP A7 c7 (bM s.taken) cc.keys w (gJ (i:=3) rfl w hM) (by rw [iO]; omega) (by rw [qT]; exact hnt); rw [iO] at h; exact h:Calls _ _ _ w fun e w'=>e = .returned (.tuple #[.slice A7 s.taken.length c7,.bool true])∧Fr [] w w').mono ?_)
       rintro e w' ⟨rfl,hf⟩
       have hM':=hM.dD hf
       refine ⟨_,_,rfl,hM',?_⟩
       clear hM hM' hf
       exact lx rfl<|Ne<|lx rfl<|No<|lx rfl<|Nq<|dC<|sN [nS,nS,bF] fun w hM=>⟨hM.fr,by rw [htw]; rfl⟩
     | false =>
       refine aF<|lx rfl<|Nx<|cU 88 #[(.slice A7 (s.taken.length) (c7)),(vS cc.keys)] rfl kr (fun _=>kr) (fun w hM=>(by have h:=uW A7 c7 (bM s.taken) cc.keys w (gJ (i:=3) rfl w hM) (by rw [iO]; omega) (by rw [iO]; exact hM.ownCap (i:=3) rfl) (by rw [qT]; exact hnt); rw [iO,(Ap s cc).1,(Ap s cc).2] at h; exact h:Calls _ _ _ w fun e w'=>∃ A' c',e = .returned (.tuple #[.slice A' (s.take cc).taken.length c',.bool false])∧Mm w [] [aR 9 1 A' (s.take cc).taken.length c' ((bM (s.take cc).taken).map aL)] w').mono ?_)
       rintro e w' ⟨A38,c38,rfl,hP⟩
       have hM':=hM.lift hP
       refine ⟨_,_,rfl,hM',?_⟩
       clear hM hM' hP
       refine lx rfl<|Ne<|lx rfl<|Nn<|Nc<|lk (vP b10 0)<|lw (.int .i64 cc.count) (cW 5 rfl rfl kr rfl (jB cc))<|lk (.bool ((cc.count:Int) == 1)) ?_
       refine aO (aI (bD rfl (fun hc44=>?_) (fun hc44=>?_)))
       ·have hct:cc.count=1:=eq_of_beq hc44
        have hsame:(s.take cc).removed=s.removed:=by simp [dZ.take,hct]
        refine St.conv 6 (v':=.slice A6 (s.take cc).removed.length c6) rfl (by rw [hsame])<|St.mem (cs':=[aD b1 83 [(vU seed),(.slice (some ⟨g,0,none⟩) (n) (cap))],aR 9 1 A5 (s.added.length) (c5) ((bM s.added).map aL),aR 9 1 A6 ((s.take cc).removed.length) (c6) ((bM (s.take cc).removed).map aL),aR 9 1 A7 (s.taken.length) (c7) ((bM s.taken).map aL),mJ g cap rest s.t,aD b10 136 (cc.cells),aR 9 1 A38 ((s.take cc).taken.length) (c38) ((bM (s.take cc).taken).map aL)]) (fun w hM=>by rw [hsame]; exact hM)<|aF<|lx rfl<|Nx<|cU 88 #[(.slice A5 (s.added.length) (c5)),(vS cc.keys)] rfl kr (fun _=>kr) (fun w hM=>(by have h:=uW A5 c5 (bM s.added) cc.keys w (gJ (i:=1) rfl w hM) (by rw [iO]; omega) (by rw [iO]; exact hM.ownCap (i:=1) rfl) (by rw [qT]; exact hok.KR hnt); rw [iO,(Aq s cc hct).1,(Aq s cc hct).2] at h; exact h:Calls _ _ _ w fun e w'=>∃ A' c',e = .returned (.tuple #[.slice A' (s.take cc).added.length c',.bool false])∧Mm w [] [aR 9 1 A' (s.take cc).added.length c' ((bM (s.take cc).added).map aL)] w').mono ?_)
        rintro e w' ⟨A48,c48,rfl,hP⟩
        have hM':=hM.lift hP
        refine ⟨_,_,rfl,hM',?_⟩
        clear hM hM' hP
        refine lx rfl<|Nv<|lW (rA 0 [(vU seed),(.slice (some ⟨g,0,none⟩) (n) (cap))])<|lx rfl<|lk (vP b10 0)<|lw (.int .i64 cc.count) (cW 5 rfl rfl kr rfl (jB cc))<|lw (vi (-cc.count)) (As hcnt (fun _=>kr))<|Nx<|cU 89 #[(.agg #[(vU seed),(.slice (some ⟨g,0,none⟩) (n) (cap))]),(vS cc.keys),(vi (-cc.count))] rfl kr (fun _=>kr) (fun w hM=>(by have h:=wO g cap rest s.t cc.keys (-cc.count) w (hM.at (i:=4) rfl) hcok.keys; rw [hok.len,hok.seed] at h; exact h:Calls _ _ _ w fun e w'=>∃ g c rest,e = .returned (.agg #[.int .u64 (seed:Int),.slice (some ⟨g,0,none⟩) n c])∧w.heap.size≤g∧Fr [] w w'∧gW w' g c rest (s.take cc).t).mono ?_)
        rintro e w' ⟨g3,cap3,rest3,rfl,hg,hf,ht⟩
        have hM':=hM.tC hf ht hg
        refine ⟨_,_,rfl,hM',?_⟩
        clear hM hM' hg hf ht
        exact Nx<|pT 0 [(vU seed),(.slice (some ⟨g3,0,none⟩) (n) (cap3))] rfl<|Nk<|aF<|lx rfl<|lw (vI (k+1)) bO<|lx rfl<|aO (aI (sA (false,(⟨k+1,s.take cc,g3,cap3,rest3,A48,c48,A6,c6,A38,c38⟩:xC)) ⟨hok.step hfi hcc hnt hklt hcok,fun h=>by cases h⟩ (by show n - (k+1) < n - k; omega) (fun w hM=>by show Mm _ _ [aD b1 83 [(vU seed),(.slice (some ⟨g3,0,none⟩) (n) (cap3))],aR 9 1 A48 ((s.take cc).added.length) (c48) ((bM (s.take cc).added).map aL),aR 9 1 A6 ((s.take cc).removed.length) (c6) ((bM (s.take cc).removed).map aL),aR 9 1 A38 ((s.take cc).taken.length) (c38) ((bM (s.take cc).taken).map aL),mJ g3 cap3 rest3 (s.take cc).t] w; exact (fun (w:World) (h:Mm _ _ _ w)=>Mm.perm h (.trans (.cons _ (.cons _ (.swap _ _ _))) (.cons _ (.swap _ _ _)))) w ((fun (w:World) (h:Mm _ _ _ w)=>Mm.sub h (.cons_cons _ (.cons _ (.cons_cons _ (.cons _ (.cons _ (.cons _ (.cons_cons _ (.cons_cons _ (.cons_cons _ .slnil)))))))))) w hM))))
       ·have hct:cc.count≠1:=ne_of_beq_false hc44
        have hsame:(s.take cc).added=s.added:=by simp [dZ.take,hct]
        refine St.conv 5 (v':=.slice A5 (s.take cc).added.length c5) rfl (by rw [hsame])<|St.mem (cs':=[aD b1 83 [(vU seed),(.slice (some ⟨g,0,none⟩) (n) (cap))],aR 9 1 A5 ((s.take cc).added.length) (c5) ((bM (s.take cc).added).map aL),aR 9 1 A6 (s.removed.length) (c6) ((bM s.removed).map aL),aR 9 1 A7 (s.taken.length) (c7) ((bM s.taken).map aL),mJ g cap rest s.t,aD b10 136 (cc.cells),aR 9 1 A38 ((s.take cc).taken.length) (c38) ((bM (s.take cc).taken).map aL)]) (fun w hM=>by rw [hsame]; exact hM)<|aF<|lx rfl<|Nx<|cU 88 #[(.slice A6 (s.removed.length) (c6)),(vS cc.keys)] rfl kr (fun _=>kr) (fun w hM=>(by have h:=uW A6 c6 (bM s.removed) cc.keys w (gJ (i:=2) rfl w hM) (by rw [iO]; omega) (by rw [iO]; exact hM.ownCap (i:=2) rfl) (by rw [qT]; exact hok.KT hnt); rw [iO,(Ar s cc hct).1,(Ar s cc hct).2] at h; exact h:Calls _ _ _ w fun e w'=>∃ A' c',e = .returned (.tuple #[.slice A' (s.take cc).removed.length c',.bool false])∧Mm w [] [aR 9 1 A' (s.take cc).removed.length c' ((bM (s.take cc).removed).map aL)] w').mono ?_)
        rintro e w' ⟨A54,c54,rfl,hP⟩
        have hM':=hM.lift hP
        refine ⟨_,_,rfl,hM',?_⟩
        clear hM hM' hP
        refine lx rfl<|Nv<|lW (rA 0 [(vU seed),(.slice (some ⟨g,0,none⟩) (n) (cap))])<|lx rfl<|lk (vP b10 0)<|lw (.int .i64 cc.count) (cW 5 rfl rfl kr rfl (jB cc))<|lw (vi (-cc.count)) (As hcnt (fun _=>kr))<|Nx<|cU 89 #[(.agg #[(vU seed),(.slice (some ⟨g,0,none⟩) (n) (cap))]),(vS cc.keys),(vi (-cc.count))] rfl kr (fun _=>kr) (fun w hM=>(by have h:=wO g cap rest s.t cc.keys (-cc.count) w (hM.at (i:=4) rfl) hcok.keys; rw [hok.len,hok.seed] at h; exact h:Calls _ _ _ w fun e w'=>∃ g c rest,e = .returned (.agg #[.int .u64 (seed:Int),.slice (some ⟨g,0,none⟩) n c])∧w.heap.size≤g∧Fr [] w w'∧gW w' g c rest (s.take cc).t).mono ?_)
        rintro e w' ⟨g3,cap3,rest3,rfl,hg,hf,ht⟩
        have hM':=hM.tC hf ht hg
        refine ⟨_,_,rfl,hM',?_⟩
        clear hM hM' hg hf ht
        exact Nx<|pT 0 [(vU seed),(.slice (some ⟨g3,0,none⟩) (n) (cap3))] rfl<|Nk<|aF<|lx rfl<|lw (vI (k+1)) bO<|lx rfl<|aO (aI (sA (false,(⟨k+1,s.take cc,g3,cap3,rest3,A5,c5,A54,c54,A38,c38⟩:xC)) ⟨hok.step hfi hcc hnt hklt hcok,fun h=>by cases h⟩ (by show n - (k+1) < n - k; omega) (fun w hM=>by show Mm _ _ [aD b1 83 [(vU seed),(.slice (some ⟨g3,0,none⟩) (n) (cap3))],aR 9 1 A5 ((s.take cc).added.length) (c5) ((bM (s.take cc).added).map aL),aR 9 1 A54 ((s.take cc).removed.length) (c54) ((bM (s.take cc).removed).map aL),aR 9 1 A38 ((s.take cc).taken.length) (c38) ((bM (s.take cc).taken).map aL),mJ g3 cap3 rest3 (s.take cc).t] w; exact (fun (w:World) (h:Mm _ _ _ w)=>Mm.perm h (.cons _ (.cons _ (.swap _ _ _)))) w ((fun (w:World) (h:Mm _ _ _ w)=>Mm.sub h (.cons_cons _ (.cons_cons _ (.cons _ (.cons _ (.cons _ (.cons _ (.cons_cons _ (.cons_cons _ (.cons_cons _ .slnil)))))))))) w hM))))
   ·have hd20:=of_decide_eq_false hc20
    have hke:k=n:=om
    have hfin:=hok.fin (.inl hke)
    refine Nj<|aF<|lx rfl<|lW (rA 0 [(vU seed),(.slice (some ⟨g,0,none⟩) (n) (cap))])<|Nx<|cU 90 #[(.agg #[(vU seed),(.slice (some ⟨g,0,none⟩) (n) (cap))])] rfl kr (fun _=>kr) (fun w hM=>(by have h:=Al g cap rest s.t w (hM.at (i:=4) rfl); rw [hok.len,hok.seed] at h; exact h:Calls _ _ _ w fun e w'=>e = .returned (.bool s.t.empty)∧Fr [] w w').mono ?_)
    rintro e w' ⟨rfl,hf⟩
    have hM':=hM.dD hf
    refine ⟨_,_,rfl,hM',?_⟩
    clear hM hM' hf
    exact lx rfl<|Nd<|sN [(.slice A5 (s.added.length) (c5)),(.slice A6 (s.removed.length) (c6)),(.bool s.t.empty)] fun w hM=>⟨hM.fr,by rw [hfin]; exact ⟨A5,c5,A6,c6,rfl,gJ (i:=1) rfl w hM,gJ (i:=2) rfl w hM⟩⟩
 | true =>
   dsimp only
   have HO:Hid (gW w g cap rest s.t):=hold rfl
   clear hold
   refine Ny<|lx rfl<|lk (vP b1 1)<|lL 0 rfl<|lk (vI n)<|lk (.bool (decide (((k:Nat):Int) < ((n:Nat):Int)))) ?_
   refine aO (aI (bD rfl (fun hc20=>?_) (fun hc20=>?_)))
   ·have hd20:=of_decide_eq_true hc20
    have hklt:k < n:=om
    refine Nm<|aF<|lW (rA 0 [(vU seed),(.slice (some ⟨g,0,none⟩) (n) (cap))])<|Nx<|cU 87 #[(.agg #[(vU seed),(.slice (some ⟨g,0,none⟩) (n) (cap))])] rfl kr (fun _=>kr) (fun w hM=>(IN g cap rest s.t n seed w (HO.out.fr hM.fr si) hok.len.symm hok.seed.symm).mono ?_)
    rintro e w' ⟨rfl,hf⟩
    have hM':=hM.dD hf
    refine ⟨_,_,rfl,hM',?_⟩
    clear hM hM' hf
    refine lx rfl<|Ne<|lx rfl<|lk (.bool (decide ((mM s.t) < 0))) ?_
    refine aO (aI (bD rfl (fun hc26=>?_) (fun hc26=>?_)))
    ·have hd26:=of_decide_eq_true hc26
     have hno:s.t.first=none:=IS hd26
     have hfin:=hok.fin (.inr hno)
     refine qE<|iW<|vO rfl<|iW<|iW<|mQ<|aI<|Nc<|lx rfl<|lW (rA 0 [(vU seed),(.slice (some ⟨g,0,none⟩) (n) (cap))])<|Nx<|cU 90 #[(.agg #[(vU seed),(.slice (some ⟨g,0,none⟩) (n) (cap))])] rfl kr (fun _=>kr) (fun w hM=>(by have h:=Al g cap rest s.t w (HO.out.fr hM.fr si); rw [hok.len,hok.seed] at h; exact h:Calls _ _ _ w fun e w'=>e = .returned (.bool s.t.empty)∧Fr [] w w').mono ?_)
     rintro e w' ⟨rfl,hf⟩
     have hM':=hM.dD hf
     refine ⟨_,_,rfl,hM',?_⟩
     clear hM hM' hf
     exact lx rfl<|Nd<|sN [(.slice A5 (s.added.length) (c5)),(.slice A6 (s.removed.length) (c6)),(.bool s.t.empty)] fun w hM=>⟨hM.fr,by rw [hfin]; exact ⟨A5,c5,A6,c6,rfl,gJ (i:=1) rfl w hM,gJ (i:=2) rfl w hM⟩⟩
    ·have hd26:=of_decide_eq_false hc26
     obtain ⟨i,hfi⟩:∃ i,s.t.first=some i:=IT hd26
     have hfe:mM s.t=((i:Nat):Int):=Ak hfi
     obtain ⟨cc,hc,hcp,hcc⟩:=BZ hfi
     have hlti:i < n:=by have h:=(List.getElem?_eq_some_iff.1 hc).1; rw [hok.len] at h; exact h
     have hcok:cc.Ok:=hok.ok.cells cc (List.mem_of_getElem? hc)
     have hclen:=BC.cells_len hcok
     have hcnt:=Ca hcp
     refine St.conv 9 (v':=.int .i64 ((i:Nat):Int)) rfl (congrArg (Value.int .i64) hfe)<|Ni<|lk (vP b1 1)<|lL 0 rfl<|lx rfl<|lw (.pointer (some ⟨g,0+i*34,none⟩)) (jN (e:=136) (sz:=34) rfl kr kr rfl rfl om)<|lw (.agg (cc.cells).toArray) (gC cc.cells rfl rfl kr (by rw [hclen]; kernel_rfl) (fun w hM j v hj=>by rw [Nat.zero_add]; exact hM.dX (sB HO.out hc j v hj) si))<|Nx<|pA [(vi 0),(.int .u8 0),(.int .u8 0),(.int .u8 0),(.int .u8 0),(.int .u8 0),(.int .u8 0),(.int .u8 0),(.int .u8 0),(.int .u8 0),(.int .u8 0),(.int .u8 0),(.int .u8 0),(.int .u8 0),(.int .u8 0),(.int .u8 0),(.int .u8 0),(.int .u8 0),(.int .u8 0),(.int .u8 0),(.int .u8 0),(.int .u8 0),(.int .u8 0),(.int .u8 0),(.int .u8 0),(.int .u8 0),(.int .u8 0),(.int .u8 0),(.int .u8 0),(.int .u8 0),(.int .u8 0),(.int .u8 0),(.int .u8 0),(.int .u64 0)] fun b10=>Nx<|gI 4 cc.cells (vs:=cc.cells) rfl rfl kr rfl rfl rfl (by rw [hclen]; kernel_rfl) rfl (by rw [hclen]; decide) (BC.mB cc) (oD (by rw [hclen]; rfl)) ?_
     refine Nb<|lk (vP b10 1)<|lk (.slice (some ⟨b10,1,none⟩) (32) (32))<|lw (vS cc.keys) (kW (e:=5) cc.keys rfl kr kr kr rfl hcok.keys.symm (yG (i:=4) (off:=1) rfl (fun j v hj=>wN hj)))<|lx rfl<|Nf ?_
     cases hnt:s.taken.contains cc.keys with
     | true =>
       have htw:=hok.KQ hfi hcc hnt hklt
       refine aF<|lx rfl<|Nx<|cU 88 #[(.slice A7 (s.taken.length) (c7)),(vS cc.keys)] rfl kr (fun _=>kr) (fun w hM=>(by have h:=IP A7 c7 (bM s.taken) cc.keys w (gJ (i:=3) rfl w hM) (by rw [iO]; omega) (by rw [qT]; exact hnt); rw [iO] at h; exact h:Calls _ _ _ w fun e w'=>e = .returned (.tuple #[.slice A7 s.taken.length c7,.bool true])∧Fr [] w w').mono ?_)
       rintro e w' ⟨rfl,hf⟩
       have hM':=hM.dD hf
       refine ⟨_,_,rfl,hM',?_⟩
       clear hM hM' hf
       exact lx rfl<|Ne<|lx rfl<|No<|lx rfl<|Nq<|dC<|sN [nS,nS,bF] fun w hM=>⟨hM.fr,by rw [htw]; rfl⟩
     | false =>
       refine aF<|lx rfl<|Nx<|cU 88 #[(.slice A7 (s.taken.length) (c7)),(vS cc.keys)] rfl kr (fun _=>kr) (fun w hM=>(by have h:=uW A7 c7 (bM s.taken) cc.keys w (gJ (i:=3) rfl w hM) (by rw [iO]; omega) (by rw [iO]; exact hM.ownCap (i:=3) rfl) (by rw [qT]; exact hnt); rw [iO,(Ap s cc).1,(Ap s cc).2] at h; exact h:Calls _ _ _ w fun e w'=>∃ A' c',e = .returned (.tuple #[.slice A' (s.take cc).taken.length c',.bool false])∧Mm w [] [aR 9 1 A' (s.take cc).taken.length c' ((bM (s.take cc).taken).map aL)] w').mono ?_)
       rintro e w' ⟨A38,c38,rfl,hP⟩
       have hM':=hM.lift hP
       refine ⟨_,_,rfl,hM',?_⟩
       clear hM hM' hP
       refine lx rfl<|Ne<|lx rfl<|Nn<|Nc<|lk (vP b10 0)<|lw (.int .i64 cc.count) (cW 4 rfl rfl kr rfl (jB cc))<|lk (.bool ((cc.count:Int) == 1)) ?_
       refine aO (aI (bD rfl (fun hc44=>?_) (fun hc44=>?_)))
       ·have hct:cc.count=1:=eq_of_beq hc44
        have hsame:(s.take cc).removed=s.removed:=by simp [dZ.take,hct]
        refine St.conv 6 (v':=.slice A6 (s.take cc).removed.length c6) rfl (by rw [hsame])<|St.mem (cs':=[aD b1 83 [(vU seed),(.slice (some ⟨g,0,none⟩) (n) (cap))],aR 9 1 A5 (s.added.length) (c5) ((bM s.added).map aL),aR 9 1 A6 ((s.take cc).removed.length) (c6) ((bM (s.take cc).removed).map aL),aR 9 1 A7 (s.taken.length) (c7) ((bM s.taken).map aL),aD b10 136 (cc.cells),aR 9 1 A38 ((s.take cc).taken.length) (c38) ((bM (s.take cc).taken).map aL)]) (fun w hM=>by rw [hsame]; exact hM)<|aF<|lx rfl<|Nx<|cU 88 #[(.slice A5 (s.added.length) (c5)),(vS cc.keys)] rfl kr (fun _=>kr) (fun w hM=>(by have h:=uW A5 c5 (bM s.added) cc.keys w (gJ (i:=1) rfl w hM) (by rw [iO]; omega) (by rw [iO]; exact hM.ownCap (i:=1) rfl) (by rw [qT]; exact hok.KR hnt); rw [iO,(Aq s cc hct).1,(Aq s cc hct).2] at h; exact h:Calls _ _ _ w fun e w'=>∃ A' c',e = .returned (.tuple #[.slice A' (s.take cc).added.length c',.bool false])∧Mm w [] [aR 9 1 A' (s.take cc).added.length c' ((bM (s.take cc).added).map aL)] w').mono ?_)
        rintro e w' ⟨A48,c48,rfl,hP⟩
        have hM':=hM.lift hP
        refine ⟨_,_,rfl,hM',?_⟩
        clear hM hM' hP
        refine lx rfl<|Nv<|lW (rA 0 [(vU seed),(.slice (some ⟨g,0,none⟩) (n) (cap))])<|lx rfl<|lk (vP b10 0)<|lw (.int .i64 cc.count) (cW 4 rfl rfl kr rfl (jB cc))<|lw (vi (-cc.count)) (As hcnt (fun _=>kr))<|Nx<|cU 89 #[(.agg #[(vU seed),(.slice (some ⟨g,0,none⟩) (n) (cap))]),(vS cc.keys),(vi (-cc.count))] rfl kr (fun _=>kr) (fun w hM=>(by have h:=wO g cap rest s.t cc.keys (-cc.count) w (HO.out.fr hM.fr si) hcok.keys; rw [hok.len,hok.seed] at h; exact h:Calls _ _ _ w fun e w'=>∃ g c rest,e = .returned (.agg #[.int .u64 (seed:Int),.slice (some ⟨g,0,none⟩) n c])∧w.heap.size≤g∧Fr [] w w'∧gW w' g c rest (s.take cc).t).mono ?_)
        rintro e w' ⟨g3,cap3,rest3,rfl,hg,hf,ht⟩
        have hM':=hM.tC hf ht hg
        refine ⟨_,_,rfl,hM',?_⟩
        clear hM hM' hg hf ht
        exact Nx<|pT 0 [(vU seed),(.slice (some ⟨g3,0,none⟩) (n) (cap3))] rfl<|Nk<|aF<|lx rfl<|lw (vI (k+1)) bO<|lx rfl<|aO (aI (sA (false,(⟨k+1,s.take cc,g3,cap3,rest3,A48,c48,A6,c6,A38,c38⟩:xC)) ⟨hok.step hfi hcc hnt hklt hcok,fun h=>by cases h⟩ (by show n - (k+1) < n - k; omega) (fun w hM=>by show Mm _ _ [aD b1 83 [(vU seed),(.slice (some ⟨g3,0,none⟩) (n) (cap3))],aR 9 1 A48 ((s.take cc).added.length) (c48) ((bM (s.take cc).added).map aL),aR 9 1 A6 ((s.take cc).removed.length) (c6) ((bM (s.take cc).removed).map aL),aR 9 1 A38 ((s.take cc).taken.length) (c38) ((bM (s.take cc).taken).map aL),mJ g3 cap3 rest3 (s.take cc).t] w; exact (fun (w:World) (h:Mm _ _ _ w)=>Mm.perm h (.trans (.cons _ (.cons _ (.swap _ _ _))) (.cons _ (.swap _ _ _)))) w ((fun (w:World) (h:Mm _ _ _ w)=>Mm.sub h (.cons_cons _ (.cons _ (.cons_cons _ (.cons _ (.cons _ (.cons_cons _ (.cons_cons _ (.cons_cons _ .slnil))))))))) w hM))))
       ·have hct:cc.count≠1:=ne_of_beq_false hc44
        have hsame:(s.take cc).added=s.added:=by simp [dZ.take,hct]
        refine St.conv 5 (v':=.slice A5 (s.take cc).added.length c5) rfl (by rw [hsame])<|St.mem (cs':=[aD b1 83 [(vU seed),(.slice (some ⟨g,0,none⟩) (n) (cap))],aR 9 1 A5 ((s.take cc).added.length) (c5) ((bM (s.take cc).added).map aL),aR 9 1 A6 (s.removed.length) (c6) ((bM s.removed).map aL),aR 9 1 A7 (s.taken.length) (c7) ((bM s.taken).map aL),aD b10 136 (cc.cells),aR 9 1 A38 ((s.take cc).taken.length) (c38) ((bM (s.take cc).taken).map aL)]) (fun w hM=>by rw [hsame]; exact hM)<|aF<|lx rfl<|Nx<|cU 88 #[(.slice A6 (s.removed.length) (c6)),(vS cc.keys)] rfl kr (fun _=>kr) (fun w hM=>(by have h:=uW A6 c6 (bM s.removed) cc.keys w (gJ (i:=2) rfl w hM) (by rw [iO]; omega) (by rw [iO]; exact hM.ownCap (i:=2) rfl) (by rw [qT]; exact hok.KT hnt); rw [iO,(Ar s cc hct).1,(Ar s cc hct).2] at h; exact h:Calls _ _ _ w fun e w'=>∃ A' c',e = .returned (.tuple #[.slice A' (s.take cc).removed.length c',.bool false])∧Mm w [] [aR 9 1 A' (s.take cc).removed.length c' ((bM (s.take cc).removed).map aL)] w').mono ?_)
        rintro e w' ⟨A54,c54,rfl,hP⟩
        have hM':=hM.lift hP
        refine ⟨_,_,rfl,hM',?_⟩
        clear hM hM' hP
        refine lx rfl<|Nv<|lW (rA 0 [(vU seed),(.slice (some ⟨g,0,none⟩) (n) (cap))])<|lx rfl<|lk (vP b10 0)<|lw (.int .i64 cc.count) (cW 4 rfl rfl kr rfl (jB cc))<|lw (vi (-cc.count)) (As hcnt (fun _=>kr))<|Nx<|cU 89 #[(.agg #[(vU seed),(.slice (some ⟨g,0,none⟩) (n) (cap))]),(vS cc.keys),(vi (-cc.count))] rfl kr (fun _=>kr) (fun w hM=>(by have h:=wO g cap rest s.t cc.keys (-cc.count) w (HO.out.fr hM.fr si) hcok.keys; rw [hok.len,hok.seed] at h; exact h:Calls _ _ _ w fun e w'=>∃ g c rest,e = .returned (.agg #[.int .u64 (seed:Int),.slice (some ⟨g,0,none⟩) n c])∧w.heap.size≤g∧Fr [] w w'∧gW w' g c rest (s.take cc).t).mono ?_)
        rintro e w' ⟨g3,cap3,rest3,rfl,hg,hf,ht⟩
        have hM':=hM.tC hf ht hg
        refine ⟨_,_,rfl,hM',?_⟩
        clear hM hM' hg hf ht
        exact Nx<|pT 0 [(vU seed),(.slice (some ⟨g3,0,none⟩) (n) (cap3))] rfl<|Nk<|aF<|lx rfl<|lw (vI (k+1)) bO<|lx rfl<|aO (aI (sA (false,(⟨k+1,s.take cc,g3,cap3,rest3,A5,c5,A54,c54,A38,c38⟩:xC)) ⟨hok.step hfi hcc hnt hklt hcok,fun h=>by cases h⟩ (by show n - (k+1) < n - k; omega) (fun w hM=>by show Mm _ _ [aD b1 83 [(vU seed),(.slice (some ⟨g3,0,none⟩) (n) (cap3))],aR 9 1 A5 ((s.take cc).added.length) (c5) ((bM (s.take cc).added).map aL),aR 9 1 A54 ((s.take cc).removed.length) (c54) ((bM (s.take cc).removed).map aL),aR 9 1 A38 ((s.take cc).taken.length) (c38) ((bM (s.take cc).taken).map aL),mJ g3 cap3 rest3 (s.take cc).t] w; exact (fun (w:World) (h:Mm _ _ _ w)=>Mm.perm h (.cons _ (.cons _ (.swap _ _ _)))) w ((fun (w:World) (h:Mm _ _ _ w)=>Mm.sub h (.cons_cons _ (.cons_cons _ (.cons _ (.cons _ (.cons _ (.cons_cons _ (.cons_cons _ (.cons_cons _ .slnil))))))))) w hM))))
   ·have hd20:=of_decide_eq_false hc20
    have hke:k=n:=om
    have hfin:=hok.fin (.inl hke)
    refine Nj<|aF<|lx rfl<|lW (rA 0 [(vU seed),(.slice (some ⟨g,0,none⟩) (n) (cap))])<|Nx<|cU 90 #[(.agg #[(vU seed),(.slice (some ⟨g,0,none⟩) (n) (cap))])] rfl kr (fun _=>kr) (fun w hM=>(by have h:=Al g cap rest s.t w (HO.out.fr hM.fr si); rw [hok.len,hok.seed] at h; exact h:Calls _ _ _ w fun e w'=>e = .returned (.bool s.t.empty)∧Fr [] w w').mono ?_)
    rintro e w' ⟨rfl,hf⟩
    have hM':=hM.dD hf
    refine ⟨_,_,rfl,hM',?_⟩
    clear hM hM' hf
    exact lx rfl<|Nd<|sN [(.slice A5 (s.added.length) (c5)),(.slice A6 (s.removed.length) (c6)),(.bool s.t.empty)] fun w hM=>⟨hM.fr,by rw [hfin]; exact ⟨A5,c5,A6,c6,rfl,gJ (i:=1) rfl w hM,gJ (i:=2) rfl w hM⟩⟩
section
section
variable {P : Program} {w0 : World} {F : List Nat} {E : cH} {cs : List Ch} {o : Oper}
theorem Rn {ty u:TypeId} {x y:Operand} {kd ks:IntKind} {a k:Nat} (ho:o.op = .binOp .shr ty x y u) (hx:aM E x=some (.int kd (a:Int))) (hy:aM E y=some (.int ks (k:Int))) (hb:k≤kd.bits):cC P w0 F cs E o (.int kd ((a / 2 ^ k:Nat):Int)):=fun w _=>by
 unfold execOp
 have e:(a:Int).fdiv (2 ^ k)=((a / 2 ^ k:Nat):Int):=by
  rw [Int.fdiv_eq_ediv_of_nonneg _ (Int.pow_nonneg (by decide)),Int.natCast_ediv,Int.natCast_pow]
  rfl
 have h8:(((k:Nat):Int).toNat)=k:=Int.toNat_natCast k
 simp only [ho,bG hx,bG hy,Sem.run_bind,mR,Result.andThen_ok,binOp,Op.shift]
 rw [if_neg om,h8,Nat.min_eq_left hb]
 simp only [Sem.run_pure,Result.andThen_ok,e]
theorem Rp {ty u:TypeId} {x y:Operand} {a:Nat} (ho:o.op = .binOp .and ty x y u) (hx:aM E x=some (.int .u8 (a:Int))) (hy:aM E y=some (.int .u8 1)) (ha:a < 256):cC P w0 F cs E o (.int .u8 ((a % 2:Nat):Int)):=qH .and si _ ho hx hy (by
 have h:=u8_and_nat a 1 ha om
 rw [Nat.and_one_is_mod] at h
 exact h)
end
theorem Rq (x:Bs) {i:Nat} (hi:i < 11):((dO x).getD (i / 8) 0).toNat / 2 ^ (7 - i % 8) % 2=oT x / 2 ^ (15 - i) % 2:=by
 have h0:=UInt8.toNat_lt ((dO x).getD 0 0)
 have h1:=UInt8.toNat_lt ((dO x).getD 1 0)
 unfold oT
 rcases Nat.lt_or_ge i 8 with h | h
 ·rw [Nat.div_eq_of_lt h,Nat.mod_eq_of_lt h]
  have e:2 ^ (15 - i)=256*2 ^ (7 - i):=by rw [show 15 - i=8+(7 - i) by omega,Nat.pow_add]
  rw [e,← Nat.div_div_eq_div_mul,show (((dO x).getD 0 0).toNat*256+((dO x).getD 1 0).toNat) / 256=((dO x).getD 0 0).toNat by omega]
 ·have h8:i=8∨i=9∨i=10:=om
  rcases h8 with rfl | rfl | rfl <;> (simp only [Nat.reduceDiv,Nat.reduceMod,Nat.reduceSub,Nat.reducePow]; omega)
theorem IV {x:Bs} {i:Nat} (hi:i < 11) (h:i≤fU x):((dO x).getD (i / 8) 0).toNat / 2 ^ (7 - i % 8) % 2=0↔i+1≤fU x:=by
 rw [Rq x hi]
 exact PW (De x) hi h
theorem Rr {x:Bs} {i:Nat} (hi:i < 11) (h:i≤fU x) (hn:¬ ((dO x).getD (i / 8) 0).toNat / 2 ^ (7 - i % 8) % 2=0):fU x=i:=by
 have:=mt (IV hi h).2 hn
 omega
theorem Rs {t:BT} {l:List Bs} {i:Nat} {x:Bs} (h:l[i]?=some x):(jG t (l.take i)).change x 1=jG t (l.take (i+1)):=by
 rw [List.take_add_one,h]
 exact (Dg ..).symm
set_option maxHeartbeats 400000 in
theorem DB (n sd:Nat) (w:World) (hz:dQ (n:Int)=true) (hu:bI sd) :
  Calls Tryz.prog 85 #[(vI n),(.int .u64 ((sd:Nat):Int))] w fun e w'=>∃ (X:RX),e = .returned (.agg #[(.int .u64 ((sd:Nat):Int)),(.slice (some ⟨X.g,0,none⟩) (n) (X.c))])∧aJ [] w [fT X (BT.new n sd)] w':=by
 refine (Gz n sd w hz hu).mono ?_
 rintro e w' ⟨g,rfl,hg,hf,ht⟩
 exact ⟨⟨g,n,[]⟩,rfl,(Mm.start w []).tC hf ht hg⟩
set_option maxHeartbeats 400000 in
theorem Rt (X:RX) (t:BT) (n sd:Nat) (key:List UInt8) (z:Int) (w:World) (r0:Rf [] w (fun w=>(fT X t).holds w)) (hn:t.cells.length=n) (hs:t.seed=sd) (hk:key.length=32) :
  Calls Tryz.prog 89 #[(.agg #[(.int .u64 ((sd:Nat):Int)),(.slice (some ⟨X.g,0,none⟩) (n) (X.c))]),(vS key),(vi z)] w fun e w'=>∃ (Y:RX),e = .returned (.agg #[(.int .u64 ((sd:Nat):Int)),(.slice (some ⟨Y.g,0,none⟩) (n) (Y.c))])∧aJ [] w [fT Y (t.change key z)] w':=by
 subst hn hs
 refine (wO X.g X.c X.rest t key z w r0.here hk).mono ?_
 rintro e w' ⟨g,c,rest,rfl,hg,hf,ht⟩
 exact ⟨⟨g,c,rest⟩,rfl,(Mm.start w []).tC hf ht hg⟩
set_option maxHeartbeats 400000 in
theorem Ru (X:RX) (t:BT) (n sd:Nat) (w:World) (r0:Rf [] w (fun w=>(fT X t).holds w)) (hn:t.cells.length=n) (hs:t.seed=sd) :
  Calls Tryz.prog 38 #[(.agg #[(.int .u64 ((sd:Nat):Int)),(.slice (some ⟨X.g,0,none⟩) (n) (X.c))])] w fun e w'=>∃ (B:Option Addr) (cb:Nat),e = .returned (vL B (t.enc) cb)∧aJ [] w [cB B (t.enc) cb] w':=by
 subst hn hs
 refine (Oh X.g X.c X.rest t w r0.here).mono ?_
 rintro e w' h
 obtain ⟨A,c,rfl,hM⟩:=(Mm.start w []).newRow h
 exact ⟨A,c,rfl,hM⟩
set_option maxHeartbeats 400000 in
theorem IW (X:RX) (t:BT) (n sd:Nat) (Y:RX) (u:BT) (sd2:Nat) (w:World) (r0:Rf [] w (fun w=>(fT X t).holds w)) (r1:Rf [] w (fun w=>(fT Y u).holds w)) (hn:t.cells.length=n) (hs:t.seed=sd) (hn2:u.cells.length=n) :
  Calls Tryz.prog 43 #[(.agg #[(.int .u64 ((sd:Nat):Int)),(.slice (some ⟨X.g,0,none⟩) (n) (X.c))]),(.agg #[(.int .u64 ((sd2:Nat):Int)),(.slice (some ⟨Y.g,0,none⟩) (n) (Y.c))])] w fun e w'=>∃ (Z:RX),e = .returned (.agg #[(.int .u64 ((sd:Nat):Int)),(.slice (some ⟨Z.g,0,none⟩) (n) (Z.c))])∧aJ [] w [fT Z (t.sub u)] w':=by
 refine (OD n sd sd2 X.g X.c Y.g Y.c X.rest Y.rest t u w r0.here r1.here hn.symm hn2 hs.symm).mono ?_
 rintro e w' ⟨g,c,rest,rfl,hg,hf,ht⟩
 exact ⟨⟨g,c,rest⟩,rfl,(Mm.start w []).tC hf ht hg⟩
set_option maxHeartbeats 400000 in
theorem Rv (X:RX) (t:BT) (n sd:Nat) (w:World) (r0:Rf [] w (fun w=>(fT X t).holds w)) (hn:t.cells.length=n) (hs:t.seed=sd) (hk:t.keys=none) :
  Calls Tryz.prog 42 #[(.agg #[(.int .u64 ((sd:Nat):Int)),(.slice (some ⟨X.g,0,none⟩) (n) (X.c))])] w fun e w'=>∃ (x1 x2:Value),e = .returned (.tuple #[x1,x2,bF])∧aJ [] w [] w':=by
 refine (IU n sd X.g X.c X.rest t w r0.here hn.symm hs.symm).mono ?_
 rintro e w' ⟨hf,h⟩
 have hr:=Ij hk
 unfold BT.raw at hr
 rw [hn] at hr
 cases hp:fS n ⟨t,[],[],[]⟩ with
 | none =>
   rw [hp] at h
   exact ⟨_,_,h,Mm.pD hf⟩
 | some s =>
   rw [hp] at h hr
   obtain ⟨A1,c1,A2,c2,rfl,-,-⟩:=h
   cases he:s.t.empty with
   | true=>simp [he] at hr
   | false=>exact ⟨_,_,rfl,Mm.pD hf⟩
set_option maxHeartbeats 400000 in
theorem Rw (X:RX) (t:BT) (n sd:Nat) (l m:List (List UInt8)) (w:World) (r0:Rf [] w (fun w=>(fT X t).holds w)) (hn:t.cells.length=n) (hs:t.seed=sd) (hk:t.keys=some (l,m)) :
  Calls Tryz.prog 42 #[(.agg #[(.int .u64 ((sd:Nat):Int)),(.slice (some ⟨X.g,0,none⟩) (n) (X.c))])] w fun e w'=>∃ (A1:Option Addr) (c1:Nat) (A2:Option Addr) (c2:Nat),e = .returned (.tuple #[(vL A1 l c1),(vL A2 m c2),bT])∧aJ [] w [] w':=by
 refine (IU n sd X.g X.c X.rest t w r0.here hn.symm hs.symm).mono ?_
 rintro e w' ⟨hf,h⟩
 obtain ⟨p,hr,rfl,rfl⟩:=Ae hk
 unfold BT.raw at hr
 rw [hn] at hr
 cases hp:fS n ⟨t,[],[],[]⟩ with
 | none=>rw [hp] at hr; cases hr
 | some s =>
   rw [hp] at h hr
   obtain ⟨A1,c1,A2,c2,rfl,-,-⟩:=h
   cases he:s.t.empty with
   | false=>simp [he] at hr
   | true =>
     simp only [he,if_true,Option.some.injEq] at hr
     subst hr
     exact ⟨A1,c1,A2,c2,by show Ending.returned (.tuple #[.slice A1 s.added.length c1,.slice A2 s.removed.length c2,.bool true])=Ending.returned (.tuple #[.slice A1 (bM s.added).length c1,.slice A2 (bM s.removed).length c2,.bool true]); rw [oW,oW],Mm.pD hf⟩
set_option maxHeartbeats 400000 in
theorem Rx (n:Int) (w:World) :
  Calls Tryz.prog 39 #[(vi n)] w fun e w'=>e = .returned (vi (jC n))∧aJ [] w [] w':=by
 refine (NY n w).mono ?_
 rintro e w' ⟨rfl,rfl⟩
 exact ⟨rfl,Mm.pD (Fr.refl _ _)⟩
set_option maxHeartbeats 400000 in
theorem IX (n:Int) (w:World) :
  Calls Tryz.prog 84 #[(vi n)] w fun e w'=>e = .returned (.bool (dQ n))∧aJ [] w [] w':=by
 refine (NW n w).mono ?_
 rintro e w' ⟨rfl,rfl⟩
 exact ⟨rfl,Mm.pD (Fr.refl _ _)⟩
set_option maxHeartbeats 400000 in
theorem IY (n:Nat) (w:World) (hn:bI n) :
  Calls Tryz.prog 86 #[(.int .u64 ((n:Nat):Int))] w fun e w'=>e = .returned (vi (eZ n))∧aJ [] w [] w':=by
 refine (Og n w hn).mono ?_
 rintro e w' ⟨rfl,rfl⟩
 exact ⟨rfl,Mm.pD (Fr.refl _ _)⟩
set_option maxHeartbeats 400000 in
theorem IZ (n:Nat) (w:World) (hn:bI n) :
  Calls Tryz.prog 81 #[(.int .u64 ((n:Nat):Int))] w fun e w'=>∃ (B:Option Addr) (cb:Nat),e = .returned (vL B (aE n) cb)∧aJ [] w [cB B (aE n) cb] w':=by
 refine (wM n w hn).mono ?_
 rintro e w' h
 obtain ⟨A,c,rfl,hM⟩:=(Mm.start w []).newRow h
 exact ⟨A,c,rfl,hM⟩
theorem Ry (A:Option Addr) (c:Nat) (bs:List UInt8) (w:World) (r0:Rf [] w (fun w=>aH w A (B8 bs))) (hl:bs.length≤68719476736) :
  Calls Tryz.prog 94 #[(vL A bs c)] w fun e w'=>e = .returned (vS (dO bs))∧aJ [] w [] w':=(FE A c bs w r0.here hl).mono fun _ _ ⟨he,hf⟩=>⟨he,Mm.pD hf⟩
theorem Rz (x:List UInt8) (w:World) (hl:x.length≤1000) :
  Calls Tryz.prog 80 #[(vS x)] w fun e w'=>e = .returned (vI (fU x))∧aJ [] w [] w':=by
 refine dI Tryz.func80 25 (Mm.start w []) rfl<|Nc<|lx rfl<|Nb<|lx rfl<|Nx<|Is (e:=5) (bs:=x) rfl rfl kr kr kr kr rfl (fun b6 c6 hcap6=>Nx<|bP (fun w hM=>Ry (some ⟨b6,0,none⟩) c6 x w (hM.bB (j:=0) rfl (fun _ h=>Fc h)) om)<|lx rfl<|Nb<|lx rfl<|Nf<|fO ?_)
 have hlv:=De x
 have hll:=Df x
 refine sL (fun i=>i≤fU x) (fun i=>fU x - i) (fun i=>[(2,(vi 0)),(3,(vS (dO x))),(4,(vI i))]) (fun i=>[rT b6 5 (B8 x)]) 0 (Nat.zero_le _) (fun _ h=>h) ?_
 intro i hi
 show St _ _ _ [(2,(vi 0)),(3,(vS (dO x))),(4,(vI i))] [rT b6 5 (B8 x)] _
 refine Ny<|lx rfl<|lk (.bool (decide (((i:Nat):Int) < 11)))<|lm ?_
 refine St.dec 10 rfl (fun hc10=>?_) (fun hc10=>?_)
 ·have hd10:=of_decide_eq_true hc10
  have hi11:i < 11:=by have:=of_decide_eq_true hc10; omega
  have hy:=UInt8.toNat_lt ((dO x).getD (i / 8) 0)
  refine lx rfl<|lu (vI (i / 8)) (wY rfl rfl rfl om om)<|lu (.int .u8 ((((dO x).getD (i / 8) 0).toNat:Nat):Int)) (yF rfl kr rfl rfl (Ds x (k:=i / 8) om))<|lx rfl<|lu (vI (i % 8)) (EV _ rfl rfl rfl (by decide) (Int.ofNat_tmod ..).symm)<|lu (vI (7 - i % 8)) (kX _ rfl rfl rfl om om om)<|lu (.int .u8 ((((dO x).getD (i / 8) 0).toNat / 2 ^ (7 - i % 8):Nat):Int)) (Rn rfl rfl rfl (by show _≤8; omega))<|lu (.int .u8 ((((dO x).getD (i / 8) 0).toNat / 2 ^ (7 - i % 8) % 2:Nat):Int)) (Rp rfl rfl rfl (Nat.lt_of_le_of_lt (Nat.div_le_self _ _) hy))<|lg (.bool ((((((dO x).getD (i / 8) 0).toNat / 2 ^ (7 - i % 8) % 2:Nat):Int):Int) == 0))<|lk (.bool ((((((dO x).getD (i / 8) 0).toNat / 2 ^ (7 - i % 8) % 2:Nat):Int):Int) == 0)) ?_
  refine aO (aI (bD rfl (fun hc21=>?_) (fun hc21=>?_)))
  ·have hnx:i+1≤fU x:=(IV hi11 hi).1 (uO (n:=0) hc21)
   exact fI<|aI<|fO<|aF<|lx rfl<|lw (vI (i+1)) bO<|lx rfl<|Nk<|sA (i+1) (hnx) (by show fU x - (i+1) < fU x - i; omega) (fun w hM=>hM)
  ·exact Nj<|aF<|lx rfl<|Nd<|sN [(vI i)] fun w hM=>⟨by rw [Rr hi11 hi (uP (n:=0) hc21)]; rfl,(hM.pick [] rfl rfl)⟩
 ·have hd10:=of_decide_eq_false hc10
  exact lx rfl<|lF<|Nu<|Nj<|aF<|lx rfl<|Nd<|sN [(vI i)] fun w hM=>⟨by rw [show i=fU x by have h9:¬ i < 11:=(fun h=>by have:=of_decide_eq_false hc10; omega); omega]; rfl,(hM.pick [] rfl rfl)⟩
theorem RA (A:Option Addr) (c:Nat) (l:List (List UInt8)) (n sd:Nat) (w:World) (r0:Rf [] w (fun w=>aH w A (SS l))) (hz:dQ (n:Int)=true) (hu:bI sd) (h32:∀ x∈l,x.length=32) (hl:l.length≤68719476736) :
  Calls Tryz.prog 52 #[(vL A l c),(vI n),(.int .u64 ((sd:Nat):Int))] w fun e w'=>∃ (X:RX),e = .returned (.agg #[(.int .u64 ((sd:Nat):Int)),(.slice (some ⟨X.g,0,none⟩) (n) (X.c))])∧aJ [] w [fT X (jG (BT.new n sd) l)] w':=by
 refine mI Tryz.func52 24 (Mm.start w []) rfl<|Nc<|Nx<|pA [(.int .u64 0),nS] fun b6=>Nb<|lx rfl<|Nx<|gD (fun w hM=>DB n sd w ag ag) fun X12=>Nx<|pA [(.int .u64 0),nS] fun b7=>Nx<|pT 2 [(vU sd),(.slice (some ⟨X12.g,0,none⟩) (n) (X12.c))] rfl<|Nf<|aS ?_
 dsimp only [bE,List.set,List.cons_append,List.nil_append]
 refine aF<|lx rfl<|lk (vI l.length)<|lx rfl<|Ng<|sL (fun (i,X)=>i≤l.length) (fun (i,X)=>l.length - i) (fun (i,X)=>[(6,(vP b6 0)),(7,(vP b7 0)),(13,(vL A l c)),(14,(vI l.length)),(15,(vI i))]) (fun (i,X)=>[aD b6 83 [(.int .u64 0),nS],fT X (jG (BT.new n sd) (l.take i)),aD b7 83 [(vU sd),(.slice (some ⟨X.g,0,none⟩) (n) (X.c))]]) (0,X12) (Nat.zero_le _) (fun w hM=>by show Mm _ _ [aD b6 83 [(.int .u64 0),nS],fT X12 (jG (BT.new n sd) (l.take 0)),aD b7 83 [(vU sd),(.slice (some ⟨X12.g,0,none⟩) (n) (X12.c))]] w; exact hM) ?_
 rintro ⟨i,X⟩ (hi:i≤l.length)
 dsimp only
 refine Nc<|lk (.bool (decide (((i:Nat):Int) < ((l.length:Nat):Int)))) ?_
 refine aO (aI (aS (bD rfl (fun hc16=>?_) (fun hc16=>?_))))
 ·have hd16:=of_decide_eq_true hc16
  refine Nm<|aF ?_
  obtain ⟨x0,hx0⟩:∃ ξ,(l)[i]?=some ξ:=⟨_,List.getElem?_eq_getElem om⟩
  refine St.eY (fun w hM=>r0.now hM) (fR hx0) (fun p17 q17 hA17 hc17=>lw (vP p17 (q17+i)) (rR 9 hA17)<|lW (rW hc17)<|lx rfl<|Nv<|lW (rA 2 [(vU sd),(.slice (some ⟨X.g,0,none⟩) (n) (X.c))])<|lx rfl<|Nx<|gD (fun w hM=>Rt X (jG (BT.new n sd) (l.take i)) n sd x0 1 w (hM.bB (j:=1) rfl (fun _ h=>h)) (by rw [Dh,uR]) (by rw [Di]; rfl) (h32 _ (List.mem_of_getElem? hx0))) fun Y21=>Nx<|pT 2 [(vU sd),(.slice (some ⟨Y21.g,0,none⟩) (n) (Y21.c))] rfl<|Nk<|aF<|lw (vI (i+1)) bO<|lx rfl<|Na ?_)
  rw [show (jG (BT.new n sd) (l.take i)).change x0 1=jG (BT.new n sd) (l.take (i+1)) from Rs hx0]
  exact sA (i+1,Y21) (by show _≤_; omega) (by show l.length - (i+1) < l.length - i; omega) (fun w hM=>(hM.pick [0,3,2] rfl rfl))
 ·have hd16:=of_decide_eq_false hc16
  obtain rfl:i=l.length:=om
  rw [List.take_length]
  exact Nj<|aF<|lW (rA 2 [(vU sd),(.slice (some ⟨X.g,0,none⟩) (n) (X.c))])<|Nx<|pT 0 [(vU sd),(.slice (some ⟨X.g,0,none⟩) (n) (X.c))] rfl<|Nd<|fP [(.agg #[(vU sd),(.slice (some ⟨X.g,0,none⟩) (n) (X.c))])] rfl ⟨⟨_,rfl,fun w hM=>gZ kr kr (eQ (i:=0) (off:=0) rfl (by intro j v hj; rw [Nat.zero_add]; exact hj) w hM)⟩,trivial⟩ (fun w hM=>⟨X,rfl,(hM.pick [1] rfl rfl)⟩)
theorem RC (A:Option Addr) (c:Nat) (xs:List UInt8) (A1:Option Addr) (c1:Nat) (t:List UInt8) (w:World) (hO:cE [cB A (xs) c] w) (r0:Rf [cB A (xs) c] w (fun w=>aH w A1 (B8 t))) (hx:xs.length≤1000000) (ht:t.length≤1000000) :
  Calls Tryz.prog 37 #[(vL A xs c),(vL A1 t c1)] w fun e w'=>∃ (B:Option Addr) (cb:Nat),e = .returned (vL B (xs++aE t.length++t) cb)∧aJ [cB A (xs) c] w [cB B (xs++aE t.length++t) cb] w':=by
 refine bK Tryz.func37 13 (hO) rfl<|Nc<|lx rfl<|Nb<|lx rfl<|lk (vI t.length)<|lw (vU t.length) (iC _ (fun _=>kr) rfl rfl (kK om om))<|Nx<|dW (fun w hM=>IZ t.length w (by unfold bI; omega)) fun B9 cb9=>?_
 have hnl:=fG t.length om
 exact Nx<|cY fH 0 (B8 (aE t.length)) rfl rfl kr rfl rfl rfl (by simp [B8]) (fun w hM=>dV.jW (gJ (i:=1) rfl w hM)) ((gS _)) om ((xs++(aE t.length)).length) fN (B8 (xs++(aE t.length))) (by simp [B8]) (fun A10 c10=>lx rfl<|Nx<|cY fH 0 (B8 t) rfl rfl kr rfl rfl rfl (by simp [B8]) (fun w hM=>dV.jW (r0.now hM)) ((gS _)) (by rw [List.length_append]; omega) ((xs++(aE t.length)++t).length) fN (B8 (xs++(aE t.length)++t)) (by simp [B8]) (fun A12 c12=>lx rfl<|Nd<|sN [(vL A12 (xs++(aE t.length)++t) c12)] fun w hM=>⟨A12,c12,rfl,(hM.pick [0] rfl rfl)⟩))
theorem RD (k:Nat) (w:World) (h0:k≤500) :
  Calls Tryz.prog 13 #[(vI k)] w fun e w'=>e = .returned (.tuple #[(vi 1),(.int .i64 (jC ((k+k / 2:Nat):Int)))])∧aJ [] w [] w':=by
 exact dI Tryz.func13 11 (Mm.start w []) rfl<|Nc<|lx rfl<|Ne<|lx rfl<|lk (.bool (decide (((k:Nat):Int) > 500)))<|Na<|eP rfl (by simp; omega)<|Ni<|lx rfl<|lw (vI (k / 2)) (wY rfl rfl rfl om om)<|lw (vI (k+(k / 2))) bO<|Nx<|bP (fun w hM=>Rx ((k+(k / 2):Nat):Int) w )<|lx rfl<|Nd<|sN [(vi 1),(.int .i64 (jC ((k+(k / 2):Nat):Int)))] fun w hM=>⟨rfl,hM⟩
theorem RE (k:Nat) (w:World) (h0:500 < k) :
  Calls Tryz.prog 13 #[(vI k)] w fun e w'=>e = .returned (.tuple #[(vi 2),(vi 0)])∧aJ [] w [] w':=by
 exact dI Tryz.func13 11 (Mm.start w []) rfl<|Nc<|lx rfl<|Ne<|lx rfl<|lk (.bool (decide (((k:Nat):Int) > 500)))<|Na<|lN rfl (by simp; omega)<|Nc<|lx rfl<|Nh<|sN [(vi 2),(vi 0)] fun w hM=>⟨rfl,hM⟩
end
end Go.Proofs.YtdflaaiondmjdaaGreatDoor
