/- Part 5 of a proof: what its row uses. -/
import Derived.Test.YtdflaaiondmjdaaGreatDoorQk04
set_option maxRecDepth 100000
set_option maxHeartbeats 1000000
namespace Go.Proofs.YtdflaaiondmjdaaGreatDoor
open Go.RowKit
section
theorem Ja {a b c:Bs} (h:a < b) (k:¬ c < b):a < c:=by
 by_cases e:b=c
 ·rw [← e]; exact h
 ·exact oP h (qP k (fun h=>e h.symm))
theorem RF {a b c:Bs} (h:¬ b < a) (k:b < c):a < c:=by
 by_cases e:a=b
 ·rw [e]; exact k
 ·exact oP (qP h (fun h=>e h.symm)) k
theorem xD {a b c:Bs} (h:¬ b < a) (k:¬ c < b):¬ c < a:=fun hh=>h (RF k hh)
theorem sR {a b:Bs} (h:a < b):¬ b < a:=fun k=>lS (oP h k)
theorem Au (a:Bs):¬ a < []:=List.not_lt_nil a
theorem RG {a:Bs} (h:a≠[]):[] < a:=qP (Au a) h
/-! ### Ranges -/
theorem jH {lo hi x : Bs} : inR lo hi x = true ↔ ¬ x < lo ∧ (hi = [] ∨ x < hi) := by
 unfold inR
 rw [Bool.and_eq_true, Bool.or_eq_true, Bool.or_eq_true, decide_eq_true_eq, decide_eq_true_eq, decide_eq_true_eq, decide_eq_true_eq]
 constructor
 ·rintro ⟨h, k⟩
  refine ⟨?_, k⟩
  rcases h with h | h
  ·exact sR h
  ·rw [h]; exact lS
 ·rintro ⟨h, k⟩
  refine ⟨?_, k⟩
  by_cases e : lo = x
  ·exact .inr e
  ·exact .inl (qP h (fun h => e h.symm))
theorem Jb {lo hi x:Bs}:inR lo hi x=false↔x < lo∨(hi≠[]∧¬ x < hi):=by
 rw [← Bool.not_eq_true,jH]
 constructor
 ·intro h
  by_cases h1:x < lo
  ·exact .inl h1
  ·refine .inr ⟨fun e=>h ⟨h1,.inl e⟩,fun e=>h ⟨h1,.inr e⟩⟩
 ·rintro (h | ⟨h1,h2⟩) ⟨k1,k2⟩
  ·exact k1 h
  ·exact k2.elim h1 h2
theorem jS {l:List Bs} {lo hi x:Bs}:x∈inL l lo hi↔x∈l∧inR lo hi x=true:=List.mem_filter
theorem DC {l m:List Bs} {x:Bs}:x∈aK l m↔x∈l∧x∉m:=by
 unfold aK
 rw [List.mem_filter]
 simp
theorem RH {l m:List Bs} {x:Bs}:x∈dJ l m↔x∈l∧x∈m:=by
 unfold dJ
 rw [List.mem_filter]
 simp
def lZ (lo hi a b : Bs) : Prop := ¬ a < lo ∧ (hi = [] ∨ (b ≠ [] ∧ ¬ hi < b))
theorem lZ.refl (lo hi:Bs):lZ lo hi lo hi:=by
 refine ⟨lS,?_⟩
 by_cases h:hi=[]
 ·exact .inl h
 ·exact .inr ⟨h,lS⟩
theorem lZ.inR {lo hi a b x:Bs} (h:lZ lo hi a b) (k:inR a b x=true):inR lo hi x=true:=by
 rw [jH] at k ⊢
 refine ⟨xD h.1 k.1,?_⟩
 rcases h.2 with h2 | ⟨h2,h3⟩
 ·exact .inl h2
 ·rcases k.2 with k2 | k2
  ·exact absurd k2 h2
  ·exact .inr (Ja k2 h3)
theorem lZ.inL {lo hi a b:Bs} (h:lZ lo hi a b) (l:List Bs):inL (Go.Proofs.YtdflaaiondmjdaaGreatDoor.inL l lo hi) a b=Go.Proofs.YtdflaaiondmjdaaGreatDoor.inL l a b:=by
 unfold Go.Proofs.YtdflaaiondmjdaaGreatDoor.inL
 rw [List.filter_filter]
 apply List.filter_congr
 intro x _
 cases hx:Go.Proofs.YtdflaaiondmjdaaGreatDoor.inR a b x with
 | false=>simp
 | true=>simp [h.inR hx]
abbrev cnt (l : List Bs) (lo hi : Bs) : Nat := (inL l lo hi).length
theorem RI (l:List Bs):inL l [] []=l:=by
 unfold inL
 rw [List.filter_eq_self]
 intro x _
 rw [jH]
 exact ⟨Au x,.inl rfl⟩
theorem DD {lo c hi:Bs} (h1:¬ c < lo) (h2:c≠[]) (h3:hi=[]∨¬ hi < c):∀ l:List Bs,cnt l lo c+cnt l c hi=cnt l lo hi
 | []=>rfl
 | x::l=>by
   have ih:=DD h1 h2 h3 l
   unfold cnt inL at ih ⊢
   rw [List.filter_cons,List.filter_cons,List.filter_cons]
   by_cases hx:x < c
   ·have e1:inR c hi x=false:=Jb.2 (.inl hx)
    have e2:inR lo hi x=inR lo c x:=by
     rw [Bool.eq_iff_iff,jH,jH]
     constructor
     ·rintro ⟨a,_⟩; exact ⟨a,.inr hx⟩
     ·rintro ⟨a,_⟩; exact ⟨a,h3.elim .inl fun h=>.inr (Ja hx h)⟩
    rw [e1,e2]
    cases inR lo c x <;> simp <;> omega
   ·have e1:inR lo c x=false:=Jb.2 (.inr ⟨h2,hx⟩)
    have e2:inR lo hi x=inR c hi x:=by
     rw [Bool.eq_iff_iff,jH,jH]
     constructor
     ·rintro ⟨_,a⟩; exact ⟨hx,a⟩
     ·rintro ⟨_,a⟩; exact ⟨xD h1 hx,a⟩
    rw [e1,e2]
    cases inR c hi x <;> simp <;> omega
/-! ### Ascending lists -/
abbrev jT (l : List Bs) : Prop := l.Pairwise (· < ·)
theorem xE {l:List Bs} (h:jT l) (lo hi:Bs):jT (Go.Proofs.YtdflaaiondmjdaaGreatDoor.inL l lo hi):=h.sublist List.filter_sublist
theorem Jc {l:List Bs} (h:jT l) {i j:Nat} {x y:Bs} (hx:l[i]?=some x) (hy:l[j]?=some y) (hij:i < j):x < y:=by
 obtain ⟨h1,rfl⟩:=List.getElem?_eq_some_iff.1 hx
 obtain ⟨h2,rfl⟩:=List.getElem?_eq_some_iff.1 hy
 exact List.pairwise_iff_getElem.1 h i j h1 h2 hij
theorem Av {l:List Bs} (h:jT l) {i:Nat} {x:Bs} (hx:l[i]?=some x):aY l x=i:=by
 have hi:=(List.getElem?_eq_some_iff.1 hx).1
 rcases Nat.lt_trichotomy (aY l x) i with h1 | h1 | h1
 ·have hp:aY l x < l.length:=om
  have h2:=Jc h (List.getElem?_eq_getElem hp) hx h1
  have:=(sD (Nat.le_refl _) (List.getElem?_eq_getElem hp)).1 h2
  omega
 ·exact h1
 ·have:=(sD (Nat.le_of_lt h1) hx).2 h1
  exact (lS this).elim
theorem RJ {l:List Bs} {x:Bs} (h:∀ y∈l,¬ y < x):aY l x=0:=by
 cases l with
 | nil=>rfl
 | cons y l =>
   unfold aY
   rw [List.takeWhile_cons,if_neg (by simpa using h y List.mem_cons_self)]
   rfl
/-! ### The division of a range -/
/-- p comes before q. -/
def xF (p q : AP) : Prop := p.hi ≠ [] ∧ ¬ q.lo < p.hi
theorem Jd {N fan k:Nat} (hk:k < fan) (hN:0 < N):k*N / fan < N:=by
 rw [Nat.div_lt_iff_lt_mul om,Nat.mul_comm N]
 exact Nat.mul_lt_mul_of_pos_right hk hN
theorem Je (N fan k:Nat) (hf:0 < fan):(k+1)*N / fan≤k*N / fan+(N+fan - 1) / fan:=by
 have h1:=Nat.div_add_mod (k*N) fan
 have h2:=Nat.div_add_mod (N+fan - 1) fan
 have h3:=Nat.mod_lt (k*N) hf
 have h4:=Nat.mod_lt (N+fan - 1) hf
 rw [← Nat.lt_succ_iff,Nat.div_lt_iff_lt_mul hf]
 generalize k*N / fan=a at *
 generalize (N+fan - 1) / fan=b at *
 rw [Nat.add_mul,Nat.one_mul,Nat.succ_mul,Nat.add_mul,Nat.mul_comm a fan,Nat.mul_comm b fan]
 omega
theorem DE (N fan k:Nat):k*N / fan≤(k+1)*N / fan:=Nat.div_le_div_right (Nat.mul_le_mul_right _ om)
section
variable {its : List Bs} {lo hi : Bs} {fan : Nat}
theorem RK (hs:jT its) {own:List Bs} (ho:own=inL its lo hi) {p q:Nat} {x y:Bs} (hx:own[p]?=some x) (hy:own[q]?=some y) (hne:y≠[]):inL its x y=(own.take q).drop p:=by
 have hA:jT own:=by rw [ho]; exact xE hs lo hi
 have hx':x∈own:=List.mem_of_getElem? hx
 have hy':y∈own:=List.mem_of_getElem? hy
 have hxr:inR lo hi x=true:=by rw [ho] at hx'; exact (jS.1 hx').2
 have hyr:inR lo hi y=true:=by rw [ho] at hy'; exact (jS.1 hy').2
 have hsub:lZ lo hi x y:=⟨(jH.1 hxr).1,by
  rcases (jH.1 hyr).2 with h | h
  ·exact .inl h
  ·exact .inr ⟨hne,sR h⟩⟩
 rw [← hsub.inL its,← ho,← wU hA x y,if_neg hne,Av hA hx,Av hA hy]
 rcases Nat.le_total p q with h | h
 ·rw [Nat.max_eq_right h]
 ·rw [Nat.max_eq_left h,List.drop_eq_nil_of_le (by rw [List.length_take]; omega),List.drop_eq_nil_of_le (by rw [List.length_take]; omega)]
theorem RL (hs:jT its) {own:List Bs} (ho:own=inL its lo hi) {q:Nat} {y:Bs} (hy:own[q]?=some y) (hne:y≠[]):inL its lo y=own.take q:=by
 have hA:jT own:=by rw [ho]; exact xE hs lo hi
 have hy':y∈own:=List.mem_of_getElem? hy
 have hyr:inR lo hi y=true:=by rw [ho] at hy'; exact (jS.1 hy').2
 have hsub:lZ lo hi lo y:=⟨lS,by
  rcases (jH.1 hyr).2 with h | h
  ·exact .inl h
  ·exact .inr ⟨hne,sR h⟩⟩
 have h0:aY own lo=0:=RJ fun z hz=>by rw [ho] at hz; exact (jH.1 (jS.1 hz).2).1
 rw [← hsub.inL its,← ho,← wU hA lo y,if_neg hne,h0,Av hA hy,Nat.max_eq_right (Nat.zero_le _),List.drop_zero]
theorem RM (hs:jT its) {own:List Bs} (ho:own=inL its lo hi) {p:Nat} {x:Bs} (hx:own[p]?=some x):inL its x hi=own.drop p:=by
 have hA:jT own:=by rw [ho]; exact xE hs lo hi
 have hx':x∈own:=List.mem_of_getElem? hx
 have hxr:inR lo hi x=true:=by rw [ho] at hx'; exact (jS.1 hx').2
 have hsub:lZ lo hi x hi:=⟨(jH.1 hxr).1,(lZ.refl lo hi).2⟩
 rw [← hsub.inL its,← ho]
 have hle:=oR own x
 have hpl:=(List.getElem?_eq_some_iff.1 hx).1
 have hH:hi=[]∨aY own hi=own.length:=by
  by_cases h:hi=[]
  ·exact .inl h
  ·refine .inr ?_
   rcases Nat.lt_or_ge (aY own hi) own.length with h1 | h1
   ·have hz:=List.mem_of_getElem? (List.getElem?_eq_getElem h1)
    have hz2:own[aY own hi]∈inL its lo hi:=by rw [← ho]; exact hz
    have:=(jH.1 (jS.1 hz2).2).2.resolve_left h
    have:=(sD (Nat.le_refl _) (List.getElem?_eq_getElem h1)).1 this
    omega
   ·have:=oR own hi; omega
 rw [← wU hA x hi,Av hA hx]
 have e:(if hi=[] then own.length else aY own hi)=own.length:=by
  rcases hH with h | h
  ·rw [if_pos h]
  ·rw [h]; simp
 rw [e,Nat.max_eq_right om,List.take_length]
structure Div (its : List Bs) (lo hi : Bs) (own : List Bs) (fan k : Nat) (C : Bs) (D : List AP) : Prop where
 cur : (k = 0 ∧ C = lo) ∨ (0 < k ∧ own[k * own.length / fan]? = some C)
 ge : ¬ C < lo
 part : ∀ p ∈ D, p = dS its p.lo p.hi ∧ p.lo < p.hi ∧ ¬ p.lo < lo ∧ ¬ C < p.hi ∧ (p.lo = lo ∨ p.lo ∈ own) ∧ p.hi ∈ own ∧ cnt its p.lo p.hi ≤ (own.length + fan - 1) / fan
 bef : D.Pairwise xF
 cover : ∀ x, ¬ x < lo → x < C → ∃ p ∈ D, inR p.lo p.hi x = true
 sum : ∀ l : List Bs, (D.map fun p => cnt l p.lo p.hi).sum = if C = lo then 0 else cnt l lo C
 len : D.length ≤ (if k = 0 then 0 else k * own.length / fan + 1) ∧ D.length ≤ k
theorem Jf (hs:cJ its) {own:List Bs} (ho:own=inL its lo hi) (hN:0 < own.length) (hf:2≤fan):∀ k,k < fan→Div its lo hi own fan k (jQ its own fan lo k).1 (jQ its own fan lo k).2
 | 0,_=>⟨.inl ⟨rfl,rfl⟩,lS,(fun p hp=>by cases hp),List.Pairwise.nil,fun x h1 h2=>(h1 h2).elim,(fun l=>by rw [jQ,if_pos rfl]; rfl),by simp [jQ]⟩
 | k+1,hk=>by
   have ih:=Jf hs ho hN hf k om
   have hA:jT own:=by rw [ho]; exact xE hs.2 lo hi
   have hi1:=Jd hk hN
   obtain ⟨B,hB⟩:∃ B,own[(k+1)*own.length / fan]?=some B:=⟨_,List.getElem?_eq_getElem hi1⟩
   have hBe:own.getD ((k+1)*own.length / fan) []=B:=by rw [List.getD_eq_getElem?_getD,hB]; rfl
   have hBm:B∈own:=List.mem_of_getElem? hB
   have hB2:B∈inL its lo hi:=by rw [← ho]; exact hBm
   have hBl:B.length=32:=hs.1 B (jS.1 hB2).1
   have hBn:B≠[]:=by intro e; rw [e] at hBl; cases hBl
   have hBr:=jH.1 (jS.1 hB2).2
   rw [jQ,hBe]
   generalize jQ its own fan lo k=z at ih ⊢
   obtain ⟨C,D⟩:=z
   dsimp only at ih ⊢
   by_cases hBC:B=C
   ·rw [if_pos hBC]
    dsimp only
    subst hBC
    refine ⟨.inr ⟨om,hB⟩,ih.ge,ih.part,ih.bef,ih.cover,ih.sum,?_,by have:=ih.len.2; omega⟩
    have h1:=ih.len.1
    have h2:=DE own.length fan k
    rw [if_neg om]
    generalize (k+1)*own.length / fan=u at *
    generalize k*own.length / fan=v at *
    split at h1 <;> omega
   ·rw [if_neg hBC]
    dsimp only
    -- C comes before B
    have hCB:C < B:=by
     rcases ih.cur with ⟨_,rfl⟩ | ⟨h0,hC⟩
     ·exact qP hBr.1 hBC
     ·refine Jc hA hC hB ?_
      have h2:=DE own.length fan k
      rcases Nat.lt_or_ge (k*own.length / fan) ((k+1)*own.length / fan) with h | h
      ·exact h
      ·exfalso
       have e:k*own.length / fan=(k+1)*own.length / fan:=om
       rw [e,hB] at hC
       injection hC with hC
       exact hBC hC
    have hlt:0 < k→k*own.length / fan < (k+1)*own.length / fan:=fun h0=>by
     rcases ih.cur with ⟨h,_⟩ | ⟨_,hC⟩
     ·omega
     ·rcases Nat.lt_or_ge (k*own.length / fan) ((k+1)*own.length / fan) with h | h
      ·exact h
      ·exfalso
       have e:k*own.length / fan=(k+1)*own.length / fan:=by have:=DE own.length fan k; omega
       rw [e,hB] at hC
       injection hC with hC
       exact hBC hC
    have hlo:¬ B < lo:=hBr.1
    refine ⟨.inr ⟨om,hB⟩,hlo,?_,?_,?_,?_,?_,?_⟩
    ·intro p hp
     rcases List.mem_append.1 hp with hp | hp
     ·obtain ⟨a,b,c,d,e,f,g⟩:=ih.part p hp
      exact ⟨a,b,c,xD d (sR hCB),e,f,g⟩
     ·rw [List.mem_singleton.1 hp]
      refine ⟨rfl,hCB,ih.ge,lS,?_,hBm,?_⟩
      ·rcases ih.cur with ⟨_,rfl⟩ | ⟨_,hC⟩
       ·exact .inl rfl
       ·exact .inr (List.mem_of_getElem? hC)
      ·show (inL its C B).length≤_
       have hst:=Je own.length fan k om
       rcases ih.cur with ⟨h0,rfl⟩ | ⟨_,hC⟩
       ·subst h0
        rw [RL hs.2 ho hB hBn,List.length_take]
        simp only [Nat.zero_mul,Nat.zero_div,Nat.zero_add] at hst ⊢
        omega
       ·rw [RK hs.2 ho hC hB hBn,List.length_drop,List.length_take]
        omega
    ·rw [List.pairwise_append]
     refine ⟨ih.bef,List.pairwise_singleton _ _,fun p hp q hq=>?_⟩
     rw [List.mem_singleton.1 hq]
     obtain ⟨_,hb,_,hd,_,hf',_⟩:=ih.part p hp
     exact ⟨fun e=>Au p.lo (by rw [← e]; exact hb),hd⟩
    ·intro x h1 h2
     by_cases hx:x < C
     ·obtain ⟨p,hp,hr⟩:=ih.cover x h1 hx
      exact ⟨p,List.mem_append_left _ hp,hr⟩
     ·exact ⟨dS its C B,List.mem_append_right _ si,jH.2 ⟨hx,.inr h2⟩⟩
    ·intro l
     rw [List.map_append,List.sum_append,ih.sum l]
     simp only [List.map_cons,List.map_nil,List.sum_cons,List.sum_nil,Nat.add_zero]
     have e:¬ B=lo:=fun e=>ih.ge (by rw [← e]; exact hCB)
     rw [if_neg e]
     by_cases hC:C=lo
     ·rw [if_pos hC,hC,Nat.zero_add]; rfl
     ·rw [if_neg hC]
      have hCn:C≠[]:=fun e2=>by
       have:=ih.ge
       rw [e2] at this
       have e3:lo=[]:=by
        by_cases h:lo=[]
        ·exact h
        ·exact (this (RG h)).elim
       exact hC (e2.trans e3.symm)
      exact DD ih.ge hCn (.inr (sR hCB)) l
    ·rw [List.length_append,List.length_singleton,if_neg om]
     have h1:=ih.len.1
     by_cases h0:k=0
     ·rw [if_pos h0] at h1
      generalize (k+1)*own.length / fan=u at *
      omega
     ·rw [if_neg h0] at h1
      have:=hlt om
      generalize (k+1)*own.length / fan=u at *
      generalize k*own.length / fan=v at *
      omega
    ·rw [List.length_append,List.length_singleton]
     have:=ih.len.2
     omega
def uX (its : List Bs) (fan : Nat) (lo hi : Bs) : List AP := (jQ its (inL its lo hi) fan lo (fan - 1)).2 ++ [dS its (jQ its (inL its lo hi) fan lo (fan - 1)).1 hi]
structure RN (its : List Bs) (lo hi : Bs) (fan : Nat) (D : List AP) : Prop where
 part : ∀ p ∈ D, p = dS its p.lo p.hi ∧ lV p.lo p.hi = true ∧ lZ lo hi p.lo p.hi ∧ (p.lo = lo ∨ p.lo ∈ its) ∧ (p.hi = hi ∨ p.hi ∈ its) ∧ cnt its p.lo p.hi ≤ (cnt its lo hi + fan - 1) / fan
 bef : D.Pairwise xF
 cover : ∀ x, inR lo hi x = true → ∃ p ∈ D, inR p.lo p.hi x = true
 sum : ∀ l : List Bs, (D.map fun p => cnt l p.lo p.hi).sum = cnt l lo hi
 len : D.length ≤ cnt its lo hi + 1 ∧ D.length ≤ fan
theorem Jg (hs:cJ its) (hN:0 < cnt its lo hi) (hf:2≤fan):RN its lo hi fan (uX its fan lo hi):=by
 have h:=Jf (fan:=fan) hs (own:=inL its lo hi) rfl hN hf (fan - 1) om
 unfold uX
 have hi1:(fan - 1)*(inL its lo hi).length / fan < (inL its lo hi).length:=Jd om hN
 generalize jQ its (inL its lo hi) fan lo (fan - 1)=z at h ⊢
 obtain ⟨C,D⟩:=z
 dsimp only at h ⊢
 have hC:(inL its lo hi)[(fan - 1)*(inL its lo hi).length / fan]?=some C:=by
  rcases h.cur with ⟨h0,_⟩ | ⟨_,h1⟩
  ·omega
  ·exact h1
 have hCm:C∈inL its lo hi:=List.mem_of_getElem? hC
 have hCr:=jH.1 (jS.1 hCm).2
 have hCl:C.length=32:=hs.1 C (jS.1 hCm).1
 have hCn:C≠[]:=by intro e; rw [e] at hCl; cases hCl
 have hCh:hi=[]∨C < hi:=hCr.2
 refine ⟨?_,?_,?_,?_,?_⟩
 ·intro p hp
  rcases List.mem_append.1 hp with hp | hp
  ·obtain ⟨a,b,c,d,e,f,g⟩:=h.part p hp
   have f2:=jS.1 f
   have hpl:p.hi.length=32:=hs.1 _ f2.1
   have hpn:p.hi≠[]:=by intro e; rw [e] at hpl; cases hpl
   refine ⟨a,?_,⟨c,?_⟩,e.imp id fun h=>(jS.1 h).1,.inr f2.1,g⟩
   ·unfold lV; simp [b]
   ·rcases (jH.1 f2.2).2 with h | h
    ·exact .inl h
    ·exact .inr ⟨hpn,sR h⟩
  ·rw [List.mem_singleton.1 hp]
   refine ⟨rfl,?_,⟨h.ge,(lZ.refl lo hi).2⟩,.inr (jS.1 hCm).1,.inl rfl,?_⟩
   ·unfold lV
    rcases hCh with h | h
    ·simp [dS,h]
    ·simp [dS,h]
   ·show (inL its C hi).length≤_
    rw [RM hs.2 rfl hC,List.length_drop]
    have h1:=Je (inL its lo hi).length fan (fan - 1) om
    rw [show fan - 1+1=fan by omega,Nat.mul_div_cancel_left _ om] at h1
    show _≤((inL its lo hi).length+fan - 1) / fan
    omega
 ·rw [List.pairwise_append]
  refine ⟨h.bef,List.pairwise_singleton _ _,fun p hp q hq=>?_⟩
  rw [List.mem_singleton.1 hq]
  obtain ⟨_,hb,_,hd,_,_,_⟩:=h.part p hp
  exact ⟨fun e=>Au p.lo (by rw [← e]; exact hb),hd⟩
 ·intro x hx
  rw [jH] at hx
  by_cases h1:x < C
  ·obtain ⟨p,hp,hr⟩:=h.cover x hx.1 h1
   exact ⟨p,List.mem_append_left _ hp,hr⟩
  ·exact ⟨dS its C hi,List.mem_append_right _ si,jH.2 ⟨h1,hx.2⟩⟩
 ·intro l
  rw [List.map_append,List.sum_append,h.sum l]
  simp only [List.map_cons,List.map_nil,List.sum_cons,List.sum_nil,Nat.add_zero]
  by_cases e:C=lo
  ·rw [if_pos e,Nat.zero_add,← e]; rfl
  ·rw [if_neg e]
   exact DD h.ge hCn (hCh.imp id sR) l
 ·rw [List.length_append,List.length_singleton]
  obtain ⟨h1,h2⟩:=h.len
  rw [if_neg om] at h1
  show _≤(inL its lo hi).length+1∧_
  omega
end
/-! ### A list with further items -/
theorem RO {l : List Bs} {x y : Bs} : y ∈ oQ l x ↔ y ∈ l ∨ y = x := by
 unfold oQ
 by_cases h : l.contains x = true
 ·rw [if_pos h]
  constructor
  ·exact .inl
  ·rintro (h1 | rfl)
   ·exact h1
   ·simpa using h
 ·rw [if_neg h]
  have e : y ∈ l ↔ y ∈ l.take (aY l x) ∨ y ∈ l.drop (aY l x) := by
   rw [← List.mem_append, List.take_append_drop]
  rw [List.mem_append, List.mem_append, List.mem_singleton, e]
  constructor
  ·rintro ((h1 | h1) | h1)
   ·exact .inl (.inl h1)
   ·exact .inr h1
   ·exact .inl (.inr h1)
  ·rintro ((h1 | h1) | h1)
   ·exact .inl (.inl h1)
   ·exact .inr h1
   ·exact .inl (.inr h1)
theorem RP {l:List Bs} (h:jT l) (x:Bs):jT (oQ l x):=by
 unfold oQ
 by_cases hc:l.contains x=true
 ·rw [if_pos hc]; exact h
 ·rw [if_neg hc]
  have hx:x∉l:=by simpa using hc
  have hd:∀ y∈l.drop (aY l x),x < y:=fun y hy=>qP (zU h hy) (fun e=>hx (by rw [← e]; exact List.mem_of_mem_drop hy))
  rw [jT,List.pairwise_append,List.pairwise_append]
  refine ⟨⟨h.sublist (List.take_sublist _ _),List.pairwise_singleton _ _,?_⟩,h.sublist (List.drop_sublist _ _),?_⟩
  ·intro a ha b hb
   rw [List.mem_singleton.1 hb]
   exact wT ha
  ·intro a ha b hb
   rcases List.mem_append.1 ha with ha | ha
   ·exact oP (wT ha) (hd b hb)
   ·rw [List.mem_singleton.1 ha]; exact hd b hb
theorem Jh:∀ (m:List Bs) {l:List Bs},jT l→jT (dK l m)
 | [],_,h=>h
 | x::m,_,h=>Jh m (RP h x)
theorem Ji:∀ (m:List Bs) {l:List Bs} {x:Bs},x∈dK l m↔x∈l∨x∈m
 | [],l,x=>by simp [dK]
 | y::m,l,x=>by
   show x∈dK (oQ l y) m↔_
   rw [Ji m,RO,List.mem_cons,or_assoc]
theorem RQ (m:List Bs):jT (dK [] m):=Jh m List.Pairwise.nil
theorem RR {m:List Bs} {x:Bs}:x∈dK [] m↔x∈m:=by rw [Ji]; simp
end
def lE (its : List Bs) (fan leaf : Nat) (p : AP) : List AP := match p.c with
 | .sum n f => oS its fan leaf p.lo p.hi n f
 | .list xs => pV its p.lo p.hi xs
 | .ans _ _ => []
def jI (its : List Bs) (p : AP) : List Bs := match p.c with
 | .sum _ _ => []
 | .list xs => aK xs its
 | .ans xs _ => aK xs its
def jJ (its : List Bs) (p : AP) : List Bs := match p.c with
 | .sum _ _ => []
 | .list xs => aK (inL its p.lo p.hi) xs
 | .ans _ ms => dJ ms its
structure Jj where
 (reply : Bs) (err : Int) (need off : List Bs)
def fA (its : List Bs) (fan leaf : Nat) (ps : List AP) : List AP := ps.flatMap (lE its fan leaf)
def dA (its : List Bs) (fan leaf : Nat) (D : Bs) : Jj :=
 if D = [] then ⟨[], 0, [], []⟩
 else match kC D with
  | none => ⟨[], 3, [], []⟩
  | some ps => if 1048576 < (bX (fA its fan leaf ps)).length then ⟨[], 2, [], []⟩ else ⟨bX (fA its fan leaf ps), 0, ps.flatMap (jI its), ps.flatMap (jJ its)⟩
theorem sS {α β:Type} {g:α→List β} {l:List α} {i:Nat} {x:α} (h:l[i]?=some x):(l.take i).flatMap g++g x=(l.take (i+1)).flatMap g:=by
 rw [← uK h,List.flatMap_append]
 simp
theorem DF {α β:Type} {g:α→List β} {l:List α} {i:Nat} {x:α} (h:l[i]?=some x) (h0:g x=[]):(l.take i).flatMap g=(l.take (i+1)).flatMap g:=by
 rw [← sS h,h0,List.append_nil]
/-! ### Sizes -/
theorem hJ {n : Nat} (h : n < 128) : (aE n).length = 1 := by rw [mO n h]; rfl
theorem sU {its:List Bs} (hs:cJ its) (lo hi:Bs):iN (inL its lo hi):=fun x hx=>hs.1 x (jS.1 hx).1
theorem sV {l m:List Bs} (h:iN l):iN (aK l m):=fun x hx=>h x (DC.1 hx).1
theorem RS {l m:List Bs} (h:iN l):iN (dJ l m):=fun x hx=>h x (RH.1 hx).1
theorem Aw (l:List Bs):(eV l).length=32:=rF _
theorem Ax {its:List Bs} (h40:its.length≤40) {p:AP} (hp:p=dS its p.lo p.hi) (h1:p.lo.length≤32) (h2:p.hi.length≤32):p.fit∧p.enc.length≤100:=by
 have hl:=mY its p.lo p.hi
 have hf:=Aw (inL its p.lo p.hi)
 obtain ⟨lo,hi,c⟩:=p
 obtain rfl:c = .sum (inL its lo hi).length (eV (inL its lo hi)):=congrArg AP.c hp
 dsimp only at h1 h2 hl hf ⊢
 refine ⟨⟨h1,h2,om,hf⟩,?_⟩
 simp only [AP.enc,AC.enc,List.length_append,hf]
 have e1:=hJ (n:=lo.length) om
 have e2:=hJ (n:=hi.length) om
 have e3:=hJ (n:=1) om
 have e4:=hJ (n:=(inL its lo hi).length) om
 omega
theorem Jk {its:List Bs} (hs:cJ its) {a x:Bs} (ha:a.length≤32) (h:x=a∨x∈its):x.length≤32:=by
 rcases h with rfl | h
 ·exact ha
 ·have:=hs.1 x h; omega
theorem RT {ps:List AP} {n k:Nat} (h:∀ p∈ps,p.enc.length≤k) (hl:ps.length≤n):(ps.flatMap AP.enc).length≤n*k:=by
 have key:∀ ps:List AP,(∀ p∈ps,p.enc.length≤k)→(ps.flatMap AP.enc).length≤ps.length*k:=by
  intro ps
  induction ps with
  | nil=>intro _; simp
  | cons p ps ih =>
    intro h
    rw [List.flatMap_cons,List.length_append,List.length_cons,Nat.add_mul,Nat.one_mul]
    have h1:=h p si
    have h2:=ih fun q hq=>h q (by simp [hq])
    omega
 exact Nat.le_trans (key ps h) (Nat.mul_le_mul_right _ hl)
structure sW (l : List AP) : Prop where
 fit : ∀ q ∈ l, q.fit
 len : (l.flatMap AP.enc).length ≤ 3500
 cnt : l.length ≤ 17
theorem RU {its:List Bs} (hs:cJ its) (h40:its.length≤40) {fan leaf:Nat} (hf:2≤fan) (hf2:fan≤16) (hl:1≤leaf) {lo hi:Bs} (h1:lo.length≤32) (h2:hi.length≤32) (n:Nat) (f:Bs):sW (oS its fan leaf lo hi n f):=by
 unfold oS
 split
 ·exact ⟨si,si,si⟩
 ·split
  ·have hl:=mY its lo hi
   have h32:=sU hs lo hi
   refine ⟨fun q hq=>?_,?_,si⟩
   ·rw [List.mem_singleton.1 hq]
    exact ⟨h1,h2,om,h32⟩
   ·have hfl:=qS h32
    simp only [List.flatMap_cons,List.flatMap_nil,List.append_nil,AP.enc,AC.enc,List.length_append,hfl]
    have e1:=hJ (n:=lo.length) om
    have e2:=hJ (n:=hi.length) om
    have e3:=hJ (n:=2) om
    have e4:=hJ (n:=(inL its lo hi).length) om
    omega
  ·have hD:=Jg (lo:=lo) (hi:=hi) hs (show 0 < (inL its lo hi).length by omega) hf
   change sW (uX its fan lo hi)
   have hp:∀ q∈uX its fan lo hi,q.fit∧q.enc.length≤100:=fun q hq=>by
    obtain ⟨a,_,_,b,c,_⟩:=hD.part q hq
    exact Ax h40 a (Jk hs h1 b) (Jk hs h2 c)
   exact ⟨fun q hq=>(hp q hq).1,Nat.le_trans (RT (n:=16) (k:=100) (fun q hq=>(hp q hq).2) (Nat.le_trans hD.len.2 hf2)) om,Nat.le_trans hD.len.2 om⟩
theorem RV {its:List Bs} (hs:cJ its) (h40:its.length≤40) {lo hi:Bs} (h1:lo.length≤32) (h2:hi.length≤32) {xs:List Bs} (hx:xs.length≤64) (hx2:iN xs):sW (pV its lo hi xs):=by
 unfold pV
 split
 ·have a1:=lU (inL its lo hi) xs
  have a2:=lU xs its
  have a3:=mY its lo hi
  have b1:=sV (m:=xs) (sU hs lo hi)
  have b2:=sV (m:=its) hx2
  refine ⟨fun q hq=>?_,?_,si⟩
  ·rw [List.mem_singleton.1 hq]
   exact ⟨h1,h2,⟨om,b1⟩,om,b2⟩
  ·have f1:=qS b1
   have f2:=qS b2
   simp only [List.flatMap_cons,List.flatMap_nil,List.append_nil,AP.enc,AC.enc,List.length_append,f1,f2]
   have e1:=hJ (n:=lo.length) om
   have e2:=hJ (n:=hi.length) om
   have e3:=hJ (n:=3) om
   have e4:=hJ (n:=(aK (inL its lo hi) xs).length) om
   have e5:=hJ (n:=(aK xs its).length) om
   omega
 ·exact ⟨si,si,si⟩
theorem Ay {its:List Bs} (hs:cJ its) (h40:its.length≤40) {fan leaf:Nat} (hf:2≤fan) (hf2:fan≤16) (hl:1≤leaf) {p:AP} (hp:p.ok):sW (lE its fan leaf p):=by
 obtain ⟨⟨h1,h2,_⟩,h3⟩:=hp
 have l1:=qR h1
 have l2:=qR h2
 obtain ⟨lo,hi,c⟩:=p
 cases c with
 | sum n f=>exact RU hs h40 hf hf2 hl l1 l2 n f
 | list xs=>exact RV hs h40 l1 l2 h3.1 h3.2.1
 | ans xs ms=>exact ⟨by simp [lE],by simp [lE],by simp [lE]⟩
theorem RW {its:List Bs} (hs:cJ its) (h40:its.length≤40) {fan leaf:Nat} (hf:2≤fan) (hf2:fan≤16) (hl:1≤leaf) {ps:List AP} (hp:∀ p∈ps,p.ok):∀ q∈fA its fan leaf ps,q.fit:=by
 intro q hq
 obtain ⟨p,h1,h2⟩:=List.mem_flatMap.1 hq
 exact (Ay hs h40 hf hf2 hl (hp p h1)).fit q h2
theorem Jl {its:List Bs} (hs:cJ its) (h40:its.length≤40) {fan leaf:Nat} (hf:2≤fan) (hf2:fan≤16) (hl:1≤leaf):∀ {ps:List AP},(∀ p∈ps,p.ok)→((fA its fan leaf ps).flatMap AP.enc).length≤ps.length*3500∧(fA its fan leaf ps).length≤ps.length*17
 | [],_=>⟨Nat.zero_le _,Nat.zero_le _⟩
 | p::ps,hp=>by
   obtain ⟨i1,i2⟩:=Jl hs h40 hf hf2 hl (ps:=ps) fun q hq=>hp q (by simp [hq])
   have h:=Ay hs h40 hf hf2 hl (hp p si)
   have e:fA its fan leaf (p::ps)=lE its fan leaf p++fA its fan leaf ps:=List.flatMap_cons
   have h1:=h.len
   have h2:=h.cnt
   rw [e,List.flatMap_append,List.length_append,List.length_append,List.length_cons]
   omega
theorem RY (ps:List AP) (h:ps.length < 18446744073709551616):(bX ps).length≤(ps.flatMap AP.enc).length+10:=by
 unfold bX
 split
 ·simp
 ·have h:=fG _ h
  rw [List.length_append]; omega
theorem Az {its:List Bs} {p:AP} (hp:p.ok):(jI its p).length≤16384∧iN (jI its p):=by
 obtain ⟨_,h3⟩:=hp
 obtain ⟨lo,hi,c⟩:=p
 cases c with
 | sum n f=>exact ⟨Nat.zero_le _,by intro x hx; cases hx⟩
 | list xs=>exact ⟨Nat.le_trans (lU _ _) (Nat.le_trans h3.1 (by omega)),sV h3.2.1⟩
 | ans xs ms=>exact ⟨Nat.le_trans (lU _ _) h3.1.1,sV h3.1.2.1⟩
theorem AA {its:List Bs} (hs:cJ its) (h40:its.length≤40) {p:AP} (hp:p.ok):(jJ its p).length≤16384∧iN (jJ its p):=by
 obtain ⟨_,h3⟩:=hp
 obtain ⟨lo,hi,c⟩:=p
 cases c with
 | sum n f=>exact ⟨Nat.zero_le _,by intro x hx; cases hx⟩
 | list xs=>exact ⟨Nat.le_trans (lU _ _) (Nat.le_trans (mY _ _ _) (by omega)),sV (sU hs _ _)⟩
 | ans xs ms=>exact ⟨Nat.le_trans (Hb _ _) h3.2.1,RS h3.2.2.1⟩
theorem Jm {α:Type} {g:α→List Bs} {l:List α} (h:∀ p∈l,iN (g p)):iN (l.flatMap g):=fun x hx=>by
 obtain ⟨p,h1,h2⟩:=List.mem_flatMap.1 hx
 exact h p h1 x h2
theorem DG {its:List Bs} (h40:its.length≤40):(dS its [] []).fit∧(bX [dS its [] []]).length≤1048576∧bX [dS its [] []]≠[]:=by
 obtain ⟨h1,h2⟩:=Ax h40 (p:=dS its [] []) rfl (by simp [dS]) (by simp [dS])
 have hp:=wW 1
 have ho:=hJ (n:=1) om
 have e:bX [dS its [] []]=aE 1++(dS its [] []).enc:=by
  unfold bX
  rw [if_neg si]
  simp
 refine ⟨h1,?_,?_⟩
 ·rw [e,List.length_append]; omega
 ·intro h
  have:=congrArg List.length (e.symm.trans h)
  rw [List.length_append,List.length_nil] at this
  omega
/-! ### A run: message j goes to b if j is even, to a if it is odd -/
def iP (a b : List Bs) (j : Nat) : List Bs := if j % 2 = 0 then b else a
def bZ (a b : List Bs) (fan leaf : Nat) : Nat → Bs
 | 0 => bX [dS a [] []]
 | j + 1 => (dA (iP a b j) fan leaf (bZ a b fan leaf j)).reply
def fV (a b : List Bs) (fan leaf j : Nat) : Jj := dA (iP a b j) fan leaf (bZ a b fan leaf j)
def bV (a b : List Bs) (fan leaf par : Nat) : Nat → List Bs × List Bs
 | 0 => ([], [])
 | j + 1 => if j % 2 = par then ((bV a b fan leaf par j).1 ++ (fV a b fan leaf j).need, (bV a b fan leaf par j).2 ++ (fV a b fan leaf j).off) else bV a b fan leaf par j
structure Jn (a b : List Bs) (fan leaf K : Nat) : Prop where
 go : ∀ j, j < K → bZ a b fan leaf j ≠ [] ∧ (fV a b fan leaf j).err = 0
 stop : bZ a b fan leaf K = []
 le : K ≤ 30
theorem xG (its:List Bs) (fan leaf:Nat) (D:Bs):(dA its fan leaf D).reply.length≤1048576:=by
 unfold dA
 split
 ·simp
 ·split
  ·simp
  ·split
   ·simp
   ·dsimp only; omega
theorem RZ {a b:List Bs} (h:a.length≤40) (fan leaf:Nat):∀ j,(bZ a b fan leaf j).length≤1048576
 | 0=>(DG h).2.1
 | _+1=>xG _ _ _ _
theorem Jo {its:List Bs} {fan leaf:Nat} {D:Bs} (hD:D.length≤1048576) (hs:cJ its) (h40:its.length≤40):(dA its fan leaf D).need.length≤17179869184∧(dA its fan leaf D).off.length≤17179869184:=by
 unfold dA
 split
 ·simp
 ·split
  ·simp
  ·rename_i ps hd
   split
   ·simp
   ·obtain ⟨_,hm,hl⟩:=Ht hd
    have key:∀ (g:AP→List Bs) (l:List AP),(∀ p∈l,(g p).length≤16384)→(l.flatMap g).length≤l.length*16384:=by
     intro g l
     induction l with
     | nil=>intro _; simp
     | cons p l ih =>
       intro h
       rw [List.flatMap_cons,List.length_append,List.length_cons]
       have h1:=h p si
       have h2:=ih fun q hq=>h q (by simp [hq])
       omega
    have k1:=key (jI its) ps fun p hp=>(Az (hm.2.1 p hp)).1
    have k2:=key (jJ its) ps fun p hp=>(AA hs h40 (hm.2.1 p hp)).1
    dsimp only
    omega
theorem uY {a b:List Bs} {fan leaf par:Nat} (ha:cJ a) (hb:cJ b) (ha4:a.length≤40) (hb4:b.length≤40):∀ j,(bV a b fan leaf par j).1.length≤j*17179869184∧(bV a b fan leaf par j).2.length≤j*17179869184
 | 0=>⟨Nat.zero_le _,Nat.zero_le _⟩
 | j+1=>by
   obtain ⟨i1,i2⟩:=uY (par:=par) ha hb ha4 hb4 j (fan:=fan) (leaf:=leaf)
   have hM:=RZ (b:=b) ha4 fan leaf j
   have hn:(fV a b fan leaf j).need.length≤17179869184∧(fV a b fan leaf j).off.length≤17179869184:=by
    unfold fV iP
    split
    ·exact Jo hM hb hb4
    ·exact Jo hM ha ha4
   rw [bV]
   split
   ·dsimp only
    rw [List.length_append,List.length_append]
    omega
   ·omega
section
section
variable {P : Program} {Q : Exit → Act → World → Prop} {n : Nat} {w0 : World} {F : List Nat} {E : cH} {cs : List Ch} {X K : Act → World → Prop} {ops : Array Oper} {o oi : Oper} {rest : List Oper} {d : Nat}
theorem xH {ty e:TypeId} {z:Nat} {x i:Operand} {A:Option Addr} {b off len cap j:Nat} {k:IntKind} (ho:o.op = .indexAddr ty x i) (hu:P.underlying ty=some (.slice e)) (hsz:fM P e=some z) (hx:aM E x=some (.slice A len cap)) (hi:aM E i=some (.int k (j:Int))) (hA:A=some ⟨b,off,none⟩) (hlt:j < len):cC P w0 F cs E o (.pointer (some ⟨b,off+j*z,none⟩)):=by
 subst hA
 exact jN ho hu hsz hx hi hlt
end
end
section
theorem Jp {w:World} {e:TypeId} {sz:Nat} {A:Option Addr} {m c:Nat} {xs:List Value} (h0':(aR e sz A m c xs).holds w):aH w A xs:=by
 intro j u hu
 have h:w.ownsRow 0 e sz (.slice A m c) m xs:=h0'
 rcases h.2 with ⟨_,h0⟩ | ⟨g,cap,cur,hv,_,hg,_,_,_,hc⟩
 ·have:=h.1
  rw [h0,Nat.zero_mul] at this
  rw [List.eq_nil_of_length_eq_zero this] at hu
  simp at hu
 ·simp only [Value.slice.injEq] at hv
  obtain ⟨rfl,_,_⟩:=hv
  refine ⟨g,0,rfl,(Array.getElem?_eq_some_iff.1 hg).1,?_⟩
  have hlt:=(List.getElem?_eq_some_iff.1 hu).1
  rw [h.1] at hlt
  have:cur.toList[j]?=some u:=by rw [← List.getElem?_take_of_lt hlt,hc]; exact hu
  rw [Nat.zero_add]
  simpa [World.cell?,hg] using this
def jU (Xs : List RX) (ts : List BT) : Ch := uI (List.zipWith (fun X t => fT X t) Xs ts) (Xs.length = ts.length)
theorem DH {w:World} {Xs:List RX} {ts:List BT} (h:(jU Xs ts).holds w) {k:Nat} {X:RX} {t:BT} (hX:Xs[k]?=some X) (ht:ts[k]?=some t):(fT X t).holds w:=h.1 _ (List.mem_of_getElem? (i:=k) (by rw [List.getElem?_zipWith,hX,ht]))
section
variable {w0 w : World} {S : List Nat} {cs : List Ch} {Xs : List RX} {ts : List BT} {X : RX} {t : BT}
theorem Mm.Eo (h:Mm w0 S cs w):Mm w0 S (cs++[jU [] []]) w:=Mm.pack (A:=cs) (l:=[]) (B:=[]) (by simpa using h) rfl
theorem Mm.Ep (h:Mm w0 S (cs++[jU Xs ts,fT X t]) w):Mm w0 S (cs++[jU (Xs++[X]) (ts++[t])]) w:=by
 obtain ⟨h1,hp⟩:=Mm.unpack (A:=cs) (B:=[fT X t]) h
 refine Mm.pack (A:=cs) (B:=[]) ?_ (by simp [hp])
 rw [List.zipWith_append hp,List.append_nil,← List.append_assoc]
 exact h1
end
structure fW where
 X : RX
 n : Nat
 sd : Nat
def nN (p : fW) : List Value := [.int .u64 ((p.sd : Nat) : Int), .slice (some ⟨p.X.g, 0, none⟩) p.n p.X.c]
abbrev TQ (l : List fW) : List Value := l.flatMap nN
theorem DI {l:List fW} {i:Nat} {p:fW} (h:l[i]?=some p) (j:Nat) (v:Value) (hj:(nN p)[j]?=some v):(TQ l)[i*2+j]?=some v:=by
 induction l generalizing i with
 | nil=>simp at h
 | cons q l ih =>
   have hl:(nN q).length=2:=rfl
   cases i with
   | zero =>
     simp at h; subst h
     have:j < 2:=by have:=(List.getElem?_eq_some_iff.1 hj).1; simpa [nN] using this
     rw [show TQ (q::l)=nN q++TQ l from rfl,Nat.zero_mul,Nat.zero_add,List.getElem?_append_left om]
     exact hj
   | succ i =>
     rw [show TQ (q::l)=nN q++TQ l from rfl,show (i+1)*2+j=2+(i*2+j) by omega,← hl,List.getElem?_append_right om,Nat.add_sub_cancel_left]
     exact ih (by simpa using h)
theorem DJ (p:fW):∀ u∈nN p,u.oneCell'=true:=by simp [nN,Value.oneCell']
theorem DK:jX Tryz.prog 37 83 (.agg #[.int .u64 0,nS]) 2 32:=⟨Tryz.underlying37,kr,rfl,om,om⟩
section
variable {P : Program} {ops : Array Oper} {Q : Exit → Act → World → Prop} {n : Nat} {w0 : World} {F : List Nat} {E : cH} {cs : List Ch} {X : Act → World → Prop}
theorem Jq {w:World} {A:Option Addr} {ps:List fW} {i:Nat} {p:fW} (h:aH w A (TQ ps)) (hp:ps[i]?=some p) {b q:Nat} (hA:A=some ⟨b,q,none⟩):∀ j v,(nN p)[j]?=some v→w.cell? ⟨b,q+i*2+j,none⟩=some v:=fun j v hj=>by
 rw [Nat.add_assoc]
 exact yM h (DI hp j v hj) hA
theorem St.vJ {A:Option Addr} {ps:List fW} {i:Nat} {p:fW} (h:∀ w,Mm w0 F cs w→aH w A (TQ ps)) (hp:ps[i]?=some p) (k:∀ b q,A=some ⟨b,q,none⟩→(∀ w,Mm w0 F cs w→∀ j v,(nN p)[j]?=some v→w.cell? ⟨b,q+i*2+j,none⟩=some v)→St n w0 F E cs X):St n w0 F E cs X:=fun a w ha hM=>by
 obtain ⟨b,q,hA⟩:=tU (h w hM) (DI hp 0 _ rfl)
 exact k b q hA (fun w' hM'=>Jq (h w' hM') hp hA) a w ha hM
theorem Any.vJ {css:List Ch} {z fuel:Nat} {listed:Array Bool} {A:Option Addr} {ps:List fW} {i:Nat} {p:fW} (h:∀ w,Mm w0 F css w→aH w A (TQ ps)) (hp:ps[i]?=some p) (k:∀ b q,A=some ⟨b,q,none⟩→(∀ w,Mm w0 F css w→∀ j v,(nN p)[j]?=some v→w.cell? ⟨b,q+i*2+j,none⟩=some v)→Any P ops Q n w0 F E cs css z fuel listed):Any P ops Q n w0 F E cs css z fuel listed:=fun a w ha hM hS hc=>by
 obtain ⟨b,q,hA⟩:=tU (h w hS) (DI hp 0 _ rfl)
 exact k b q hA (fun w' hM'=>Jq (h w' hM') hp hA) a w ha hM hS hc
end
def bS (Xs : List RX) : List fW := Xs.zipIdx.map fun p => ⟨p.1, 12, p.2 + 1⟩
theorem oY (Xs:List RX):(bS Xs).length=Xs.length:=by simp [bS]
theorem xI {Xs:List RX} {k:Nat} {X:RX} (h:Xs[k]?=some X):(bS Xs)[k]?=some ⟨X,12,k+1⟩:=by simp [bS,List.getElem?_zipIdx,h]
theorem DL (Xs:List RX) (X:RX):bS (Xs++[X])=bS Xs++[⟨X,12,Xs.length+1⟩]:=by simp [bS,List.zipIdx_append]
end
def qW (l : List Bs) (i : Nat) : List BT := (List.range i).map (iI l)
theorem Sa (l:List Bs) (i:Nat):qW l (i+1)=qW l i++[iI l i]:=by simp [qW,List.range_succ]
def jK (l : List Bs) (i j : Nat) : List Bs := (l.take j).filter fun x => fU x == i
theorem Jr (l:List Bs) (i j:Nat):(jK l i j).length≤l.length:=Nat.le_trans (List.length_filter_le _ _) (by rw [List.length_take]; omega)
theorem Sb {l:List Bs} {i j:Nat} {x:Bs} (h:l[j]?=some x) (e:fU x=i):jK l i j++[x]=jK l i (j+1):=by
 unfold jK
 rw [List.take_add_one,h,Option.toList_some,List.filter_append]
 simp [e]
theorem Sc {l:List Bs} {i j:Nat} {x:Bs} (h:l[j]?=some x) (e:¬ fU x=i):jK l i j=jK l i (j+1):=by
 unfold jK
 rw [List.take_add_one,h,Option.toList_some,List.filter_append]
 simp [e]
theorem Sd {l:List Bs} {i:Nat} (h:i < 12):bL ((bC l).take i)++aE (iI l i).enc.length++(iI l i).enc=bL ((bC l).take (i+1)):=by
 rw [List.take_add_one,sJ h,Option.toList_some,Ad,mL,List.append_assoc]
theorem Se {s q:Nat} (h:s≤(12 - (q+1))*24) (hq:q < 12):(s+1)*2 ^ (q+1) < 9223372036854775808:=by
 have h1:2 ^ (q+1)≤2 ^ 12:=Nat.pow_le_pow_right om om
 have h2:(s+1)*2 ^ (q+1)≤300*2 ^ 12:=Nat.mul_le_mul om h1
 omega
theorem Sf (A:Option Addr) (c:Nat) (l:List (List UInt8)) (w:World) (r0:Rf [] w (fun w=>aH w A (SS l))) (h32:∀ x∈l,x.length=32) (hl:l.length≤68719476736) :
  Calls Tryz.prog 36 #[(vL A l c)] w fun e w'=>∃ (B:Option Addr) (cb:Nat) (Xs:List RX),e = .returned (vL B (bS Xs) cb)∧aJ [] w [aR 83 2 B ((bS Xs).length) (cb) (TQ (bS Xs)),jU Xs (bC l)] w'∧(Xs.length=12):=by
 refine dI Tryz.func36 36 (Mm.start w []) rfl<|Nc<|lx rfl<|Nb<|lx rfl<|Ne<|lx rfl<|Ng<|St.mem (fun w hM=>hM.gY 83 2)<|St.mem (fun w hM=>hM.Eo)<|sL (fun (i,B,cb,Xs)=>i≤12∧Xs.length=i) (fun (i,B,cb,Xs)=>12 - i) (fun (i,B,cb,Xs)=>[(0,(vL A l c)),(2,nS),(3,(vL B (bS Xs) cb)),(4,(vI i))]) (fun (i,B,cb,Xs)=>[aR 83 2 B ((bS Xs).length) (cb) (TQ (bS Xs)),jU Xs (qW l i)]) (0,none,0,[]) ⟨om,rfl⟩ (fun w hM=>by show Mm _ _ [aR 83 2 none ((bS []).length) (0) (TQ (bS [])),jU [] (qW l 0)] w; exact hM) ?_
 rintro ⟨i,B,cb,Xs⟩ ⟨hi,hXl⟩
 dsimp only
 refine Ny<|lx rfl<|lk (.bool (decide (((i:Nat):Int) < 12))) ?_
 refine aO (aI (bD rfl (fun hc9=>?_) (fun hc9=>?_)))
 ·have hd9:=of_decide_eq_true hc9
  have hlt:i < 12:=by have:=of_decide_eq_true hc9; omega
  refine Nm<|aF<|lx rfl<|Ne<|lx rfl<|lk (vI l.length)<|lx rfl<|Ng<|St.mem (fun w hM=>hM.gY 9 1)<|sL (fun (j,BX,cX)=>j≤l.length) (fun (j,BX,cX)=>l.length - j) (fun (j,BX,cX)=>[(0,(vL A l c)),(2,nS),(3,(vL B (bS Xs) cb)),(4,(vI i)),(12,(vL A l c)),(13,(vI l.length)),(5,(vL BX (jK l i j) cX)),(14,(vI j))]) (fun (j,BX,cX)=>[aR 83 2 B ((bS Xs).length) (cb) (TQ (bS Xs)),jU Xs (qW l i),cS BX (jK l i j) cX]) (0,none,0) (Nat.zero_le _) (fun w hM=>by show Mm _ _ [aR 83 2 B ((bS Xs).length) (cb) (TQ (bS Xs)),jU Xs (qW l i),cS none (jK l i 0) 0] w; exact hM) ?_
  rintro ⟨j,BX,cX⟩ (hj:j≤l.length)
  dsimp only
  refine Nc<|lk (.bool (decide (((j:Nat):Int) < ((l.length:Nat):Int)))) ?_
  refine aO (aI (aS (bD rfl (fun hc15=>?_) (fun hc15=>?_))))
  ·have hd15:=of_decide_eq_true hc15
   refine Nm<|aF ?_
   obtain ⟨x0,hx0⟩:∃ ξ,(l)[j]?=some ξ:=⟨_,List.getElem?_eq_getElem om⟩
   refine St.eY (fun w hM=>r0.now hM) (fR hx0) (fun p16 q16 hA16 hc16=>lw (vP p16 (q16+j)) (rR 9 hA16)<|lW (rW hc16)<|lx rfl<|Nb<|lx rfl<|Nx<|bP (fun w hM=>Rz x0 w (by have h9:=h32 _ (List.mem_of_getElem? hx0); omega))<|lx rfl<|lk (.bool (((((fU x0):Nat):Int):Int) == ((i:Nat):Int))) ?_)
   refine aO (aI (bD rfl (fun hc21=>?_) (fun hc21=>?_)))
   ·refine aF<|lx rfl<|Nx<|pN 1 9 [(vS x0)] fun b24=>Nx<|cY mH 2 ([(vS x0)]) rfl rfl kr rfl rfl rfl (rfl) (fQ (i:=3) rfl (fun j v h=>by rw [Nat.zero_add]; exact h)) (by simp [Value.oneCell']) (by have h9:=Jr l i j; omega) ((jK l i j++[x0]).length) fN (SS (jK l i j++[x0])) (by simp [SS]) (fun A25 c25=>lx rfl<|Nk<|aF<|lw (vI (j+1)) bO<|lx rfl<|Na ?_)
    rw [show jK l i j++[x0]=jK l i (j+1) from Sb hx0 (uO hc21)]
    exact sA (j+1,A25,c25) (by show _≤_; omega) (by show l.length - (j+1) < l.length - j; omega) (fun w hM=>(hM.pick [0,1,2] rfl rfl))
   ·refine Nw<|aF<|lw (vI (j+1)) bO<|lx rfl<|Na ?_
    rw [show jK l i j=jK l i (j+1) from Sc hx0 (uP hc21)]
    exact sA (j+1,BX,cX) (by show _≤_; omega) (by show l.length - (j+1) < l.length - j; omega) (fun w hM=>hM)
  ·have hd15:=of_decide_eq_false hc15
   obtain rfl:j=l.length:=om
   refine Nr<|mQ<|aI<|aF<|lx rfl<|lw (vI (i+1)) bO<|lw (vU (i+1)) (iC _ (fun _=>kr) rfl rfl (kK om om))<|Nx<|gD (fun w hM=>RA BX cX (jK l i l.length) 12 (i+1) w (hM.bB (j:=2) rfl (fun _ h=>aH.cN h)) (by decide) (by unfold bI; omega) (fun x hx=>h32 x (List.mem_of_mem_take (List.mem_filter.1 hx).1)) (by have h9:=Jr l i l.length; omega)) fun X32=>Nx<|pN 1 83 [(vU (i+1)),(.slice (some ⟨X32.g,0,none⟩) (12) (X32.c))] fun b33=>Nx<|cY DK 0 ([(vU (i+1)),(.slice (some ⟨X32.g,0,none⟩) (12) (X32.c))]) rfl rfl kr rfl rfl rfl (rfl) (fQ (i:=4) rfl (fun j v h=>by rw [Nat.zero_add]; exact h)) (DJ (fW.mk X32 12 (i+1))) (by rw [oY]; omega) ((bS Xs++[fW.mk X32 12 (i+1)]).length) fN (TQ (bS Xs++[fW.mk X32 12 (i+1)])) (by rw [show TQ (bS Xs++[fW.mk X32 12 (i+1)])=TQ (bS Xs)++TQ [fW.mk X32 12 (i+1)] from List.flatMap_append ..]; rfl) (fun A34 c34=>?_)
   dsimp only [bE,List.set,List.cons_append,List.nil_append]
   rw [show bS Xs++[fW.mk X32 12 (i+1)]=bS (Xs++[X32]) from by rw [DL,hXl]]
   rw [show jG (BT.new 12 (i+1)) (jK l i l.length)=iI l i from by unfold jK; rw [List.take_length]; rfl]
   exact lx rfl<|Nk<|aF<|lx rfl<|lw (vI (i+1)) bO<|lx rfl<|aO (aI (sA (i+1,A34,c34,Xs++[X32]) (⟨om,by simp [hXl]⟩) (by show 12 - (i+1) < 12 - i; omega) (fun w hM=>by have h:=Mm.Ep (cs:=[aR 83 2 A34 ((bS (Xs++[X32])).length) (c34) (TQ (bS (Xs++[X32])))]) (hM.pick [0,1,3] rfl rfl); rw [← Sa] at h; exact h)))
 ·have hd9:=of_decide_eq_false hc9
  obtain rfl:i=12:=by have:=of_decide_eq_false hc9; omega
  rw [show qW l 12=bC l from rfl]
  exact Nj<|aF<|lx rfl<|Nd<|sN [(vL B (bS Xs) cb)] fun w hM=>⟨B,cb,Xs,rfl,hM,hXl⟩
theorem Sg (A:Option Addr) (c:Nat) (l:List (List UInt8)) (w:World) (r0:Rf [] w (fun w=>aH w A (SS l))) (h32:∀ x∈l,x.length=32) (hl:l.length≤68719476736) :
  Calls Tryz.prog 12 #[(vL A l c)] w fun e w'=>∃ (B:Option Addr) (cb:Nat),e = .returned (vL B (bL (bC l)) cb)∧aJ [] w [cB B (bL (bC l)) cb] w':=by
 refine dI Tryz.func12 19 (Mm.start w []) rfl<|Nc<|lx rfl<|Nb<|lx rfl<|Ne<|lx rfl<|Nx<|vY (fun w hM=>Sf A c l w (r0.aQ hM) ag om) fun B7 cb7 Xs7 hn7=>lk (vI ((bS Xs7).length))<|lx rfl<|Ng<|St.mem (fun w hM=>hM.gY 5 1)<|sL (fun (i,AX,cX)=>i≤12) (fun (i,AX,cX)=>12 - i) (fun (i,AX,cX)=>[(2,nS),(7,(vL B7 (bS Xs7) cb7)),(8,(vI ((bS Xs7).length))),(3,(vL AX (bL ((bC l).take i)) cX)),(9,(vI i))]) (fun (i,AX,cX)=>[aR 83 2 B7 ((bS Xs7).length) (cb7) (TQ (bS Xs7)),jU Xs7 (bC l),cB AX (bL ((bC l).take i)) cX]) (0,none,0) (Nat.zero_le _) (fun w hM=>by show Mm _ _ [aR 83 2 B7 ((bS Xs7).length) (cb7) (TQ (bS Xs7)),jU Xs7 (bC l),cB none (bL ((bC l).take 0)) 0] w; exact hM) ?_
 rintro ⟨i,AX,cX⟩ (hi:i≤12)
 dsimp only
 refine Nc<|lk (.bool (decide (((i:Nat):Int) < (((bS Xs7).length:Nat):Int)))) ?_
 refine aO (aI (aS (bD rfl (fun hc10=>?_) (fun hc10=>?_))))
 ·have hd10:=of_decide_eq_true hc10
  have hlt:i < 12:=by have:=of_decide_eq_true hc10; rw [oY] at this; omega
  obtain ⟨X,hX⟩:∃ X,Xs7[i]?=some X:=⟨_,List.getElem?_eq_getElem om⟩
  have hok:=mZ h32 i _ (sJ hlt)
  have hsl:=pW (ts:=(bC l).take i) (fun t ht=>(mZ h32).all t (List.mem_of_mem_take ht))
  rw [List.length_take] at hsl
  have hel:=Ac hok.1 hok.2.1
  refine Nm<|aF<|St.vJ (fun w hM=>wZ (i:=0) rfl w hM) (xI hX) (fun p11 q11 hA11 hc11=>lw (vP p11 (q11+i*2)) (xH (e:=83) rfl kr kr rfl rfl hA11 (by rw [oY]; omega))<|lw (.agg #[(vU (i+1)),(.slice (some ⟨X.g,0,none⟩) (12) (X.c))]) (gC [(vU (i+1)),(.slice (some ⟨X.g,0,none⟩) (12) (X.c))] rfl rfl kr kr (hc11))<|Nx<|pA [(.int .u64 0),nS] fun b5=>Nx<|pT 3 [(vU (i+1)),(.slice (some ⟨X.g,0,none⟩) (12) (X.c))] rfl<|Nv<|lx rfl<|lW (rA 3 [(vU (i+1)),(.slice (some ⟨X.g,0,none⟩) (12) (X.c))])<|Nx<|dW (fun w hM=>Ru X (iI l i) 12 (i+1) w (hM.bB (j:=1) rfl (fun _ h=>DH h hX (sJ hlt))) (Ib l i) (Ic l i)) fun B15 cb15=>Nx<|oF [2] (fun w hM hO=>RC AX cX (bL ((bC l).take i)) B15 cb15 ((iI l i).enc) w hO (hM.gM [2] (j:=4) rfl (fun _ h=>aH.cN h)) om om) fun B16 cb16=>lx rfl<|Nk ?_)
  dsimp only [bE,List.set,List.cons_append,List.nil_append]
  refine aF<|lw (vI (i+1)) bO<|lx rfl<|Na ?_
  rw [show (bL ((bC l).take i))++aE ((iI l i).enc).length++((iI l i).enc)=bL ((bC l).take (i+1)) from Sd hlt]
  exact sA (i+1,B16,cb16) (by show _≤_; omega) (by show 12 - (i+1) < 12 - i; omega) (fun w hM=>(hM.pick [0,1,2] rfl rfl))
 ·have hd10:=of_decide_eq_false hc10
  obtain rfl:i=12:=by have:=of_decide_eq_false hc10; rw [oY] at this; omega
  rw [show bL ((bC l).take 12)=bL (bC l) from rfl]
  exact Nj<|aF<|lx rfl<|Nd<|sN [(vL AX (bL (bC l)) cX)] fun w hM=>⟨AX,cX,rfl,(hM.pick [2] rfl rfl)⟩
theorem Sh (A1:Option Addr) (c1:Nat) (Xs:List RX) (ts:List BT) (A2:Option Addr) (c2:Nat) (Ys:List RX) (us:List BT) (w:World) (r0:Rf [] w (fun w=>aH w A1 (TQ (bS Xs)))) (r1:Rf [] w (fun w=>aH w A2 (TQ (bS Ys)))) (r2:Rf [] w (fun w=>(jU Xs ts).holds w)) (r3:Rf [] w (fun w=>(jU Ys us).holds w)) (okt:lD ts) (tl:ts.length=12) (Xl:Xs.length=12) (oku:lD us) (ul:us.length=12) (Yl:Ys.length=12) :
  Calls Tryz.prog 15 #[(vL A1 (bS Xs) c1),(vL A2 (bS Ys) c2)] w fun e w'=>e = .returned (vI (gR ts us))∧aJ [] w [] w':=by
 refine qG (args:=[(vL A1 (bS Xs) c1),(vL A2 (bS Ys) c2)]) (vV []) Tryz.func15 rfl 43 rfl [(0,(vL A1 (bS Xs) c1)),(1,(vL A2 (bS Ys) c2))] ⟨rfl,rfl,trivial⟩ [] (Mm.start w [])<|Nc<|lx rfl<|Nb<|lx rfl<|Ne<|lx rfl<|Ng<|yB (ι:=Nat × Int × Nat) (fun (p,z,s)=>p≤12∧z=(p:Int) - 1∧nL ts us p s=gR ts us∧s≤(12 - p)*24) (fun (p,z,s)=>p) (fun (p,z,s)=>[(0,(vL A1 (bS Xs) c1)),(1,(vL A2 (bS Ys) c2)),(4,(vi 0)),(5,(vI s)),(6,(vi z))]) (fun (p,z,s)=>[]) (12,11,0) ⟨om,rfl,rfl,om⟩ ⟨rfl,rfl,rfl,rfl,rfl,trivial⟩ (fun _ h=>h) ?_
 rintro ⟨p,z,s⟩ ⟨hp,hz,hes,hsl⟩
 show St _ _ _ [(0,(vL A1 (bS Xs) c1)),(1,(vL A2 (bS Ys) c2)),(4,(vi 0)),(5,(vI s)),(6,(vi z))] [] _
 refine Ny<|lx rfl<|lk (.bool (decide ((z:Int)≥0))) ?_
 refine aO (aI (bD rfl (fun hc11=>?_) (fun hc11=>?_)))
 ·have hd11:=of_decide_eq_true hc11
  obtain ⟨q,rfl⟩:∃ q,p=q+1:=⟨p - 1,by have:=of_decide_eq_true hc11; omega⟩
  obtain rfl:z=(q:Int):=om
  obtain ⟨X,hX⟩:∃ X,Xs[q]?=some X:=⟨_,List.getElem?_eq_getElem om⟩
  obtain ⟨Y,hY⟩:∃ Y,Ys[q]?=some Y:=⟨_,List.getElem?_eq_getElem om⟩
  obtain ⟨t,ht⟩:∃ t,ts[q]?=some t:=⟨_,List.getElem?_eq_getElem om⟩
  obtain ⟨u,hu⟩:∃ u,us[q]?=some u:=⟨_,List.getElem?_eq_getElem om⟩
  obtain ⟨o1,o2,o3⟩:=okt q t ht
  obtain ⟨v1,v2,v3⟩:=oku q u hu
  have rt:=Ro.imp (Ψ:=fun w=>(fT X t).holds w) r2 (fun w h=>DH h hX ht)
  have ru:=Ro.imp (Ψ:=fun w=>(fT Y u).holds w) r3 (fun w h=>DH h hY hu)
  refine Nm ?_
  rcases hk:(t.sub u).keys with _ | ⟨kl,km⟩
  ·refine cQ [] 17 kr (fun _ h=>h)<|am 0 ?_
   refine am 1 ?_
   refine Any.vJ (fun w hM=>r0.now hM) (xI hX) (fun p17 q17 hA17 hc17=>aV 2 (vP p17 (q17+q*2)) rfl (xH (e:=83) rfl kr kr rfl rfl hA17 (by rw [oY]; omega))<|aV 3 (.agg #[(.int .u64 (((q+1):Nat):Int)),(.slice (some ⟨X.g,0,none⟩) (12) (X.c))]) rfl (gC [(.int .u64 (((q+1):Nat):Int)),(.slice (some ⟨X.g,0,none⟩) (12) (X.c))] rfl rfl kr kr (hc17))<|am 4 ?_)
   refine am 5 ?_
   refine Any.vJ (fun w hM=>r1.now hM) (xI hY) (fun p21 q21 hA21 hc21=>aV 6 (vP p21 (q21+q*2)) rfl (xH (e:=83) rfl kr kr rfl rfl hA21 (by rw [oY]; omega))<|aV 7 (.agg #[(.int .u64 (((q+1):Nat):Int)),(.slice (some ⟨Y.g,0,none⟩) (12) (Y.c))]) rfl (gC [(.int .u64 (((q+1):Nat):Int)),(.slice (some ⟨Y.g,0,none⟩) (12) (Y.c))] rfl rfl kr kr (hc21))<|aA 8 rfl<|gD (fun w hM=>IW X t 12 (q+1) Y u (q+1) w (rt.aQ hM) (ru.aQ hM) (o2) (o3) (v2)) fun Z23=>aP [fT Z23 (t.sub u)] (fun _ h=>h.pick [] rfl rfl) (fun _ h=>h)<|aA 9 rfl<|dW (fun w hM=>Rv Z23 (t.sub u) 12 (q+1) w (hM.bB (j:=0) rfl (fun _ h=>h)) (by rw [nI (by rw [v2,o2]),o2]) (o3) ag) fun x124 x224=>aP [fT Z23 (t.sub u)] (fun _ h=>h) (fun _ h=>h)<|am 10 ?_)
   refine aC 11 x124 rfl<|aC 12 x224 rfl<|aC 13 bF rfl<|aa 14 ?_
   refine aa 15 ?_
   refine aa 16 ?_
   refine cF kr<|aI<|aS<|aS<|St.to [fT Z23 (t.sub u)] kr<|aF<|lx rfl<|lT<|Nt<|aS ?_
   have hpw:(s+1)*2 ^ (q+1) < 9223372036854775808:=Se hsl om
   exact aF<|lx rfl<|lw (vI (s+1)) (mG _ rfl rfl rfl om om om)<|lx rfl<|lw (vI (q+1)) (mG _ rfl rfl rfl om om om)<|lw (vI ((s+1)*2 ^ (q+1))) (Iz rfl rfl rfl om hpw)<|lx rfl<|Nq<|dC<|fP [(vI ((s+1)*2 ^ (q+1)))] rfl ⟨rfl,trivial⟩ (fun w hM=>⟨by rw [← hes,Ik ht hu hk]; rfl,(hM.pick [] rfl rfl)⟩)
  ·have hes2:nL ts us q (s+kl.length+km.length)=gR ts us:=by rw [← Il ht hu hk]; exact hes
   have hkl:=Dj hk
   rw [nI (by rw [v2,o2]),o2] at hkl
   refine cQ [] 17 kr (fun _ h=>h)<|am 0 ?_
   refine am 1 ?_
   refine Any.vJ (fun w hM=>r0.now hM) (xI hX) (fun p17 q17 hA17 hc17=>aV 2 (vP p17 (q17+q*2)) rfl (xH (e:=83) rfl kr kr rfl rfl hA17 (by rw [oY]; omega))<|aV 3 (.agg #[(.int .u64 (((q+1):Nat):Int)),(.slice (some ⟨X.g,0,none⟩) (12) (X.c))]) rfl (gC [(.int .u64 (((q+1):Nat):Int)),(.slice (some ⟨X.g,0,none⟩) (12) (X.c))] rfl rfl kr kr (hc17))<|am 4 ?_)
   refine am 5 ?_
   refine Any.vJ (fun w hM=>r1.now hM) (xI hY) (fun p21 q21 hA21 hc21=>aV 6 (vP p21 (q21+q*2)) rfl (xH (e:=83) rfl kr kr rfl rfl hA21 (by rw [oY]; omega))<|aV 7 (.agg #[(.int .u64 (((q+1):Nat):Int)),(.slice (some ⟨Y.g,0,none⟩) (12) (Y.c))]) rfl (gC [(.int .u64 (((q+1):Nat):Int)),(.slice (some ⟨Y.g,0,none⟩) (12) (Y.c))] rfl rfl kr kr (hc21))<|aA 8 rfl<|gD (fun w hM=>IW X t 12 (q+1) Y u (q+1) w (rt.aQ hM) (ru.aQ hM) (o2) (o3) (v2)) fun Z23=>aP [fT Z23 (t.sub u)] (fun _ h=>h.pick [] rfl rfl) (fun _ h=>h)<|aA 9 rfl<|vZ (fun w hM=>Rw Z23 (t.sub u) 12 (q+1) kl km w (hM.bB (j:=0) rfl (fun _ h=>h)) (by rw [nI (by rw [v2,o2]),o2]) (o3) ag) fun A124 c124 A224 c224=>aP [fT Z23 (t.sub u)] (fun _ h=>h) (fun _ h=>h)<|am 10 ?_)
   refine aC 11 (vL A124 kl c124) rfl<|aC 12 (vL A224 km c224) rfl<|aC 13 bT rfl<|aa 14 ?_
   refine aa 15 ?_
   refine aa 16 ?_
   refine cF kr<|aI<|aS<|aS<|St.to [fT Z23 (t.sub u)] kr<|aF<|lx rfl<|lF<|Nu<|fI<|aI<|aF<|lx rfl<|lk (vI kl.length)<|lw (vI (s+kl.length)) (mG _ rfl rfl rfl om om om)<|lx rfl<|lk (vI km.length)<|lw (vI (s+kl.length+km.length)) (mG _ rfl rfl rfl om om om)<|lx rfl<|Nk<|aF<|lx rfl<|lw (.int .i64 (((q:Nat):Int) - 1)) (kX _ rfl rfl rfl om om om)<|lx rfl ?_
   exact Na<|vN (q, ((q : Nat) : Int) - 1, s + kl.length + km.length) (⟨om, rfl, hes2, by omega⟩) (by show q < q + 1; omega) ⟨rfl, rfl, rfl, rfl, rfl, trivial⟩ (fun w hM => (hM.pick [] rfl rfl))
 ·have hd11:=of_decide_eq_false hc11
  obtain rfl:p=0:=by have:=of_decide_eq_false hc11; omega
  exact Nj<|aF<|lx rfl<|Nd<|sN [(vI s)] fun w hM=>⟨by rw [← hes]; rfl,hM⟩
structure PK (s : dZ) : Prop where
 ok : s.t.Ok
 len : ∀ x ∈ s.taken, x.length = 32
 nda : s.added.Nodup
 ndr : s.removed.Nodup
 ia : ∀ x ∈ s.added, x ∈ s.taken
 ir : ∀ x ∈ s.removed, x ∈ s.taken
theorem Js {l:List Bs} {x:Bs} (h:l.Nodup) (hx:x∉l):(l++[x]).Nodup:=by
 rw [List.nodup_append]
 refine ⟨h,List.nodup_cons.2 ⟨si,List.nodup_nil⟩,fun a ha b hb e=>?_⟩
 rw [List.mem_singleton] at hb
 subst e hb
 exact hx ha
theorem PK.take {s:dZ} (h:PK s) {c:BC} (hc:c.keys.length=32) (hn:s.taken.contains c.keys=false):PK (s.take c):=by
 have hn':c.keys∉s.taken:=by simpa using hn
 refine ⟨h.ok.change hc _,fun x hx=>?_,?_,?_,fun x hx=>?_,fun x hx=>?_⟩
 ·rcases List.mem_cons.1 hx with rfl | hx
  ·exact hc
  ·exact h.len x hx
 ·unfold dZ.take; dsimp only; split
  ·exact Js h.nda fun hx=>hn' (h.ia _ hx)
  ·exact h.nda
 ·unfold dZ.take; dsimp only; split
  ·exact h.ndr
  ·exact Js h.ndr fun hx=>hn' (h.ir _ hx)
 ·unfold dZ.take at hx ⊢; dsimp only at hx ⊢
  split at hx
  ·rcases List.mem_append.1 hx with hx | hx
   ·exact List.mem_cons_of_mem _ (h.ia x hx)
   ·rw [List.mem_singleton.1 hx]; exact List.mem_cons_self
  ·exact List.mem_cons_of_mem _ (h.ia x hx)
 ·unfold dZ.take at hx ⊢; dsimp only at hx ⊢
  split at hx
  ·exact List.mem_cons_of_mem _ (h.ir x hx)
  ·rcases List.mem_append.1 hx with hx | hx
   ·exact List.mem_cons_of_mem _ (h.ir x hx)
   ·rw [List.mem_singleton.1 hx]; exact List.mem_cons_self
theorem Jt:∀ (n:Nat) {s s':dZ},PK s→fS n s=some s'→PK s'
 | 0,s,s',h,e=>by cases e; exact h
 | n+1,s,s',h,e=>by
   unfold fS at e
   cases hf:s.t.first with
   | none=>rw [hf] at e; cases e; exact h
   | some i =>
     rw [hf] at e
     simp only at e
     split at e
     ·cases e
     ·rename_i hc
      exact Jt n (h.take (Ol h.ok i).keys (by simpa using hc)) e
theorem Ju {l:List Bs} (h:l.Nodup):(bM l).Pairwise (· < ·):=by
 have h1:=Aa l
 have h2:(bM l).Nodup:=(sI l).nodup_iff.2 h
 refine (List.Pairwise.and h1 h2).imp fun {a b} hab=>?_
 rcases Decidable.em (a < b) with hl | hl
 ·exact hl
 ·exact absurd (CX hab.1 (Hw.1 hl)) hab.2
theorem Si {t:BT} {l m:List Bs} (ht:t.Ok) (h:t.keys=some (l,m)):(l.Pairwise (· < ·)∧∀ x∈l,x.length=32)∧m.Pairwise (· < ·)∧∀ x∈m,x.length=32:=by
 obtain ⟨p,hp,rfl,rfl⟩:=Ae h
 unfold BT.raw at hp
 cases hq:fS t.cells.length ⟨t,[],[],[]⟩ with
 | none=>rw [hq] at hp; cases hp
 | some s =>
   rw [hq] at hp
   have hk:=Jt _ (s:=⟨t,[],[],[]⟩) ⟨ht,si,List.nodup_nil,List.nodup_nil,si,si⟩ hq
   simp only at hp
   split at hp
   ·injection hp with hp
    subst hp
    exact ⟨⟨Ju hk.nda,fun x hx=>hk.len x (hk.ia x ((sI _).mem_iff.1 hx))⟩,Ju hk.ndr,fun x hx=>hk.len x (hk.ir x ((sI _).mem_iff.1 hx))⟩
   ·cases hp
theorem cells_len {l:List BC} (h:∀ c∈l,c.Ok):l.length*34≤(l.flatMap BC.enc).length:=by
 induction l with
 | nil=>simp
 | cons c l ih =>
   have h1:=ih fun x hx=>h x (by simp [hx])
   have h2:=(h c si).keys
   have h3:=uE (eG c.count)
   have h4:=uE c.checks
   simp only [List.flatMap_cons,List.length_append,List.length_cons,BC.enc]
   omega
theorem xJ {D:Bs} {t:BT} (h:eB D=some t):t.Ok∧t.cells.length*34≤D.length:=by
 have hok:t.Ok:=by
  unfold eB at h
  split at h
  ·injection h with h
   subst h
   exact Ct _
  ·cases h
 refine ⟨hok,?_⟩
 obtain ⟨he,-⟩:=uH h
 have h1:=cells_len hok.cells
 rw [← he]
 unfold BT.enc eA
 rw [List.take_of_length_le (Nat.le_refl _),List.length_append,List.length_append]
 omega
def eX (A : Option Addr) (D : Bs) (B : Option Addr) (l : Bs) (c : Nat) : Prop := (∀ w, aH w A (B8 D) → aH w B (B8 l)) ∧ l.length ≤ c ∧ l.length ≤ D.length
theorem eX.drop {A B:Option Addr} {D l:Bs} {c:Nat} (h:eX A D B l c) {k:Nat} (hk:k≤l.length):eX A D (if c=k then B else B.map (·.add (k*1))) (l.drop k) (c - k):=by
 obtain ⟨h1,h2,h3⟩:=h
 refine ⟨fun w hr i u hu=>?_,by rw [List.length_drop]; omega,by rw [List.length_drop]; omega⟩
 have hu':(B8 l)[k+i]?=some u:=by
  unfold B8 at hu ⊢
  rw [List.map_drop,List.getElem?_drop] at hu
  exact hu
 have hlt:=(List.getElem?_eq_some_iff.1 hu').1
 rw [dL] at hlt
 obtain ⟨b,o,hA,hb,hc⟩:=h1 w hr (k+i) u hu'
 rw [if_neg om,hA]
 refine ⟨b,o+k,?_,hb,by rw [Nat.add_assoc]; exact hc⟩
 show some ((⟨b,o,none⟩:Addr).add (k*1))=_
 rw [Nat.mul_one,iK]
def eE (l : Bs) (bad : Bool) (n : Nat) : Bool := bad || decide (l.length < n)
def bW (l : Bs) (bad : Bool) (n : Nat) : Bs := if eE l bad n then [] else l.take n
def eC (l : Bs) (bad : Bool) (n : Nat) : Bs := if eE l bad n then l else l.drop n
theorem Sj {l:Bs} {i k:Nat} {x:UInt8} (hx:l[i]?=some x) (hi:i < k):dM (l.drop (i+1)) (k - (i+1))*128+x.toNat % 128=dM (l.drop i) (k - i):=by
 obtain ⟨hlt,hx'⟩:=List.getElem?_eq_some_iff.1 hx
 rw [List.drop_eq_getElem_cons hlt,hx',show k - i=(k - (i+1))+1 by omega,dM]
 omega
def bQ (l : Bs) (bad : Bool) : Nat × Bs × Bool := if bad then (0, l, true) else match dE l 0 with
 | some (n, m) => (n, l.drop m, false)
 | none => (0, l, true)
theorem uZ {v:Nat} (r:Bs) (h:bI v):bQ (aE v++r) false=(v,r,false):=by
 have e:=zF (aE v++r) 0 v r rfl h
 unfold bQ
 rw [if_neg si,e]
 dsimp only
 rw [Nat.zero_add,List.drop_left]
theorem Sk {l:Bs} {k v:Nat} (h:aE v=l.take k) (hv:bI v):bQ l false=(v,l.drop k,false):=by
 have e:l=aE v++l.drop k:=by rw [h,List.take_append_drop]
 have h1:=uZ (l.drop k) hv
 rw [← e] at h1
 exact h1
theorem Jv {l:Bs} (h:dE l 0=none):bQ l false=(0,l,true):=by
 unfold bQ
 rw [if_neg si,h]
theorem Jw {l:Bs} {k:Nat} (hp:∀ j b,j < k→l[j]?=some b→128≤b.toNat) (hk:k=l.length∨k=10∧k≤l.length):bQ l false=(0,l,true):=by
 refine Jv ?_
 rcases hk with hk | ⟨rfl,hk⟩
 ·exact EC l 0 k (by simpa using hp) om
 ·exact ED l 0 (by simpa using hp) om
theorem Sl {l:Bs} {k:Nat} {x:UInt8} (hp:∀ j b,j < k→l[j]?=some b→128≤b.toNat) (hx:l[k]?=some x) (hlt:x.toNat < 128) (h:aE (dM l (k+1) % 18446744073709551616)≠l.take (k+1)):bQ l false=(0,l,true):=by
 refine Jv ?_
 have e:=rG l 0 k x (by simpa using hp) (by simpa using hx) hlt
 by_cases hc:k≤9∧¬ (0 < k∧x.toNat=0)∧¬ (k=9∧1 < x.toNat)
 ·rw [if_pos hc,List.drop_zero] at e
  have hu:=(pP _ _ _ _ e).2.2
  obtain ⟨e1,e2⟩:=EE k l hp ⟨x,hx,hlt,hc.2.1⟩
  rw [Nat.mod_eq_of_lt hu] at h
  have e3:l.take (k+1)=aE (dM l (k+1)):=by
   generalize aE (dM l (k+1))=z at e1 e2
   rw [e1,← e2,List.take_left]
  exact absurd e3.symm h
 ·rw [if_neg hc] at e
  exact e
theorem AB {l l':Bs} {v:Nat} (h:bQ l false=(v,l',false)):l=aE v++l'∧bI v:=by
 unfold bQ at h
 rw [if_neg si] at h
 cases hr:dE l 0 with
 | none=>rw [hr] at h; cases h
 | some p =>
   obtain ⟨n,m⟩:=p
   rw [hr] at h
   simp only [Prod.mk.injEq,and_true] at h
   obtain ⟨rfl,rfl⟩:=h
   have h1:=zE l 0 n m hr
   rw [List.drop_zero] at h1
   exact ⟨h1,(pP _ _ _ _ hr).2.2⟩
theorem DM (l:Bs):bQ l true=(0,l,true):=rfl
theorem sX (l:Bs) (bad:Bool):bI (bQ l bad).1:=by
 unfold bQ
 split
 ·show (0:Nat) < 18446744073709551616; decide
 ·cases hr:dE l 0 with
  | none=>show (0:Nat) < 18446744073709551616; decide
  | some p=>exact (pP _ _ _ _ hr).2.2
theorem Jx {l:Bs} {n:Nat} (h:eE l false n=false):l=bW l false n++eC l false n∧(bW l false n).length=n:=by
 have hn:n≤l.length:=by simp [eE] at h; omega
 unfold bW eC
 rw [h,if_neg si,if_neg si,List.take_append_drop]
 exact ⟨rfl,by rw [List.length_take]; omega⟩
theorem Jy (k r:Bs):bW (k++r) false k.length=k∧eC (k++r) false k.length=r∧eE (k++r) false k.length=false:=by
 have h:eE (k++r) false k.length=false:=by simp [eE]
 unfold bW eC
 rw [h,if_neg si,if_neg si,List.take_left,List.drop_left]
 exact ⟨rfl,rfl,rfl⟩
def bJ (l : Bs) (bad : Bool) (most : Nat) : Nat × Bs × Bool := if most < (bQ l bad).1 then (0, (bQ l bad).2.1, true) else bQ l bad
theorem DN {v most:Nat} (r:Bs) (h:bI v) (hm:v≤most):bJ (aE v++r) false most=(v,r,false):=by
 unfold bJ
 rw [uZ r h,if_neg (by show ¬ most < v; omega)]
theorem Jz {l l':Bs} {v most:Nat} (h:bJ l false most=(v,l',false)):l=aE v++l'∧bI v∧v≤most:=by
 unfold bJ at h
 split at h
 ·cases h
 ·rename_i hm
  obtain ⟨h1,h2⟩:=AB h
  rw [h] at hm
  exact ⟨h1,h2,by simpa using hm⟩
def jV (k : Bs) : Bs := k ++ List.replicate (32 - k.length) 0
def gB (l : Bs) : BC × Bs × Bool :=
 (⟨eZ (bQ l false).1, jV (bW (bQ l false).2.1 (bQ l false).2.2 32), (bQ (eC (bQ l false).2.1 (bQ l false).2.2 32) (eE (bQ l false).2.1 (bQ l false).2.2 32)).1⟩,
  (bQ (eC (bQ l false).2.1 (bQ l false).2.2 32) (eE (bQ l false).2.1 (bQ l false).2.2 32)).2)
theorem DO {l:Bs} {b:Bool} (h:(bQ l b).2.2=false):b=false:=by
 cases b with
 | false=>rfl
 | true=>cases h
theorem JA {l:Bs} {b:Bool} {n:Nat} (h:eE l b n=false):b=false:=by
 cases b with
 | false=>rfl
 | true=>cases h
theorem Sm {l:Bs} (h:(gB l).2.2=false):l=(gB l).1.enc++(gB l).2.1∧(gB l).1.Ok:=by
 have h2:=DO h
 have h3:=JA h2
 obtain ⟨a1,a2⟩:=AB (l:=l) (v:=(bQ l false).1) (l':=(bQ l false).2.1) (Prod.ext rfl (Prod.ext rfl h3))
 unfold gB at h ⊢
 rw [h3] at h h2 ⊢
 obtain ⟨b1,b2⟩:=Jx h2
 rw [h2] at h ⊢
 obtain ⟨c1,c2⟩:=AB (l:=eC (bQ l false).2.1 false 32) (v:=(bQ (eC (bQ l false).2.1 false 32) false).1) (l':=(bQ (eC (bQ l false).2.1 false 32) false).2.1) (Prod.ext rfl (Prod.ext rfl h))
 have hk:jV (bW (bQ l false).2.1 false 32)=bW (bQ l false).2.1 false 32:=by unfold jV; rw [b2]; simp
 refine ⟨?_,Cp _ a2,by show (jV _).length=32; rw [hk]; exact b2,c2⟩
 show l=aE (eG (eZ (bQ l false).1))++jV _++aE _++_
 rw [Gq,hk,List.append_assoc,List.append_assoc,← c1,← b1]
 exact a1
theorem Sn {c:BC} (h:c.Ok) (r:Bs):(gB (c.enc++r)).2=(r,false):=by
 have e:c.enc++r=aE (eG c.count)++(c.keys++(aE c.checks++r)):=by simp [BC.enc]
 rw [e]
 unfold gB
 rw [uZ _ (tJ _ h.count.1 h.count.2)]
 have t:=Jy c.keys (aE c.checks++r)
 rw [h.keys] at t
 dsimp only
 rw [t.2.1,t.2.2,uZ _ h.checks]
theorem xK (l:Bs):(gB l).1.Ok:=by
 refine ⟨Cp _ (sX l false),?_,sX _ _⟩
 show (jV _).length=32
 unfold jV
 rw [List.length_append,List.length_replicate]
 have:(bW (bQ l false).2.1 (bQ l false).2.2 32).length≤32:=by
  unfold bW
  split
  ·simp
  ·rw [List.length_take]; omega
 omega
structure mN (b : Bs) (n seed i : Nat) (cl : List BC) (l : Bs) (bad : Bool) : Prop where
 le : i ≤ n
 len : cl.length = n
 ok : ∀ c ∈ cl, c.Ok
 snd : bad = false → b = aE n ++ aE seed ++ (cl.take i).flatMap BC.enc ++ l
 cpl : ∀ t, eB b = some t → bad = false ∧ t.cells.length = n ∧ t.seed = seed ∧ l = (t.cells.drop i).flatMap BC.enc
theorem mN.step {b:Bs} {n seed i:Nat} {cl:List BC} {l:Bs} (h:mN b n seed i cl l false) (hi:i < n):mN b n seed (i+1) (cl.set i (gB l).1) (gB l).2.1 (gB l).2.2:=by
 refine ⟨hi,by rw [List.length_set]; exact h.len,fun c hc=>?_,fun hb=>?_,fun t ht=>?_⟩
 ·rcases List.mem_or_eq_of_mem_set hc with hc | rfl
  ·exact h.ok c hc
  ·exact xK l
 ·obtain ⟨e1,-⟩:=Sm hb
  have e2:=h.snd rfl
  have e3:(cl.set i (gB l).1).take (i+1)=cl.take i++[(gB l).1]:=by
   rw [List.take_add_one,List.getElem?_set_self (by rw [h.len]; exact hi),List.take_set_of_le (Nat.le_refl _)]
   rfl
  rw [e3,List.flatMap_append,List.flatMap_singleton,e2]
  conv=>lhs; rw [e1]
  simp only [List.append_assoc]
 ·obtain ⟨-,h2,h3,h4⟩:=h.cpl t ht
  have hok:=(xJ ht).1
  have hlt:i < t.cells.length:=om
  rw [List.drop_eq_getElem_cons hlt,List.flatMap_cons] at h4
  have e:=Sn (hok.cells _ (List.getElem_mem hlt)) ((t.cells.drop (i+1)).flatMap BC.enc)
  rw [← h4] at e
  exact ⟨by rw [e],h2,h3,by rw [e]⟩
theorem mN.start {b l1 l2:Bs} {n seed:Nat} (h1:bJ b false 3072=(n,l1,false)) (h2:bQ l1 false=(seed,l2,false)):mN b n seed 0 (List.replicate n BC.zero) l2 false:=by
 obtain ⟨a1,a2,a3⟩:=Jz h1
 obtain ⟨b1,b2⟩:=AB h2
 refine ⟨Nat.zero_le _,si,fun c hc=>by rw [(List.mem_replicate.1 hc).2]; exact BC.Ok.zero,fun _=>?_,fun t ht=>?_⟩
 ·rw [a1,b1]; simp
 ·obtain ⟨he,hz⟩:=uH ht
  have hok:=(xJ ht).1
  have hzb:=gV hz
  have e:b=aE t.cells.length++(aE t.seed++t.cells.flatMap BC.enc):=by
   rw [← he]; unfold BT.enc eA; rw [List.take_of_length_le (Nat.le_refl _),List.append_assoc]
  rw [e,DN _ (by unfold bI; omega) hzb.2.1] at h1
  simp only [Prod.mk.injEq,and_true] at h1
  obtain ⟨rfl,rfl⟩:=h1
  rw [uZ _ hok.seed] at h2
  simp only [Prod.mk.injEq,and_true] at h2
  exact ⟨rfl,rfl,h2.1,by rw [List.drop_zero]; exact h2.2.symm⟩
theorem mN.yes {b:Bs} {n seed:Nat} {cl:List BC} (h:mN b n seed n cl [] false) (hz:dQ (n:Int)=true) (hu:bI seed):eB b=some ⟨cl,seed⟩:=by
 have e:=h.snd rfl
 have e2:b=(BT.mk cl seed).enc:=by
  unfold BT.enc eA
  rw [List.append_nil,List.take_of_length_le (by rw [h.len]; exact Nat.le_refl _)] at e
  show b=aE cl.length++aE seed++(cl.take cl.length).flatMap BC.enc
  rw [List.take_of_length_le (Nat.le_refl _),h.len]
  exact e
 rw [e2]
 exact zK ⟨h.ok,hu⟩ (by rw [h.len]; exact hz)
theorem Sp {b:Bs} (h:(bJ b false 3072).2.2=true∨(bQ (bJ b false 3072).2.1 false).2.2=true∨dQ ((bJ b false 3072).1:Int)=false):eB b=none:=by
 cases hd:eB b with
 | none=>rfl
 | some t =>
   obtain ⟨he,hz⟩:=uH hd
   have hok:=(xJ hd).1
   have hzb:=gV hz
   have e:b=aE t.cells.length++(aE t.seed++t.cells.flatMap BC.enc):=by
    rw [← he]; unfold BT.enc eA; rw [List.take_of_length_le (Nat.le_refl _),List.append_assoc]
   rw [e,DN _ (by unfold bI; omega) hzb.2.1] at h
   dsimp only at h
   rw [uZ _ hok.seed] at h
   rcases h with h | h | h
   ·cases h
   ·cases h
   ·rw [hz] at h; cases h
theorem JB {pvs:List PV} {pv:PV} {L M:List (Option Addr × List Bs)} (h:∀ p∈pvs,∀ q∈p.c.rows,q∈L) (k:∀ q∈pv.c.rows,q∈M):∀ p∈pvs++[pv],∀ q∈p.c.rows,q∈L++M:=by
 intro p hp q hq
 rcases List.mem_append.1 hp with hp | hp
 ·exact List.mem_append_left _ (h p hp q hq)
 ·rw [List.mem_singleton.1 hp] at hq
  exact List.mem_append_right _ (k q hq)
theorem Sq (A:Option Addr) (c:Nat) (D:List UInt8) (ps:List AP) (w:World) (r0:Rf [] w (fun w=>aH w A (B8 D))) (hD:D.length≤1048576) (hd:kC D=some ps) :
  Calls Tryz.prog 177 #[(vL A D c)] w fun e w'=>∃ (R:Option Addr) (rc:Nat) (pvs:List PV) (L:List (Option Addr × List (List UInt8))),e = .returned (.tuple #[(vL R (pvs) rc),(vi 0)])∧aJ [] w [cP R (pvs) rc,dG (L)] w'∧(pvs.map PV.abs=ps)∧(∀ p∈pvs,∀ q∈p.c.rows,q∈L):=by
 refine dI Tryz.func177 74 (Mm.start w []) rfl<|Nc<|lx rfl<|Ne<|lx rfl<|lk (vI D.length)<|lk (.bool (decide (((D.length:Nat):Int) > 1048576)))<|Na<|eP rfl (by have:=hD; simp; omega)<|Ni<|lx rfl<|Nx<|dW (fun w hM=>sG A c D w (r0.aQ hM) om) fun X16 br16=>lx rfl<|Nb<|lx rfl<|lk (vI D.length)<|Nx<|kL [0] (fun w hM hO=>Ip X16 br16 (Rd.mk D 0 0 0) D.length w hO om) fun n20 r220 heq20=>?_
 have hnl:n20≤D.length:=by have h:=(Rd.mk D 0 0 0).AW D.length; rw [heq20] at h; exact h
 refine lx rfl<|Ne<|lx rfl<|lk (.bool ((((n20:Nat):Int):Int) == 0)) ?_
 refine aO (aI (bD rfl (fun hc22=>?_) (fun hc22=>?_)))
 ·exact Nc<|lx rfl<|Nh<|sN [nS,(vi 3)] fun w hM=>absurd ((PD heq20 (uO hc22)).symm.trans hd) si
 ·have hn0:¬ n20=0:=uP hc22
  refine Ni<|lx rfl<|Ne<|lx rfl<|Ng<|St.mem (fun w hM=>hM.gY 246 3)<|St.mem (fun w hM=>Mm.tE hM)<|sL (fun (i,RX,rcX,pvs,rX,LX)=>i≤n20∧r220.parts i=(some (pvs.map PV.abs),rX)∧∀ p∈pvs,∀ q∈p.c.rows,q∈LX) (fun (i,RX,rcX,pvs,rX,LX)=>n20 - i) (fun (i,RX,rcX,pvs,rX,LX)=>[(2,nS),(3,(vi 0)),(4,(vP br16 0)),(23,(vI n20)),(6,(vL RX (pvs) rcX)),(24,(vI i))]) (fun (i,RX,rcX,pvs,rX,LX)=>[bH X16 br16 (rX),cP RX (pvs) rcX,dG (LX)]) (0,none,0,[],r220,[]) ⟨Nat.zero_le _,rfl,fun p hp=>by cases hp⟩ (fun w hM=>by show Mm _ _ [bH X16 br16 (r220),aR 246 3 none (([]).length) (0) (PS ([])),dG ([])] w; exact hM) ?_
  rintro ⟨i,RX,rcX,pvs,rX,LX⟩ ⟨hi,hpt,hrows⟩
  dsimp only
  refine Nc<|lk (.bool (decide (((i:Nat):Int) < ((n20:Nat):Int)))) ?_
  refine aO (aI (aS (bD rfl (fun hc25=>?_) (fun hc25=>?_))))
  ·have hd25:=of_decide_eq_true hc25
   have hlt:i < n20:=om
   have hpl:pvs.length=i:=by have h:=Rd.En hpt; simpa using h
   refine Nm<|aF<|lx rfl<|Nb<|lx rfl<|Nx<|gO [0] _ (fun w hM hO=>(QA X16 br16 rX w hO).mono ?_)
   rintro e w' ⟨cl29,L29,o29,r229,rfl,hP,heq29,hhl29,hhv29⟩
   refine ⟨_,[_],_,rfl,hP,rfl,?_⟩; clear hP hM hO
   refine lx rfl<|Nx<|pA [(.string ⟨#[]⟩),(.string ⟨#[]⟩),.nilIface] fun b8=>Nx<|gI 4 (cl29) (vs:=cl29) rfl rfl kr rfl rfl rfl (by rw [hhl29.1]; kernel_rfl) rfl (by rw [hhl29.1]; decide) hhl29.2 (by rw [hhl29.1]; simp) ?_
   refine lx rfl<|Nf<|aS ?_
   cases hfk:o29.isSome with
   | true =>
     obtain ⟨p29,rfl⟩:=Option.isSome_iff_exists.1 hfk
     obtain ⟨pv,rfl,hab,hrw⟩:=hhv29 p29 rfl
     dsimp only [bE,List.set,List.cons_append,List.nil_append]
     refine cQ _ 29 kr (fun _ h=>h)<|am 0 ?_
     refine aC 1 bF rfl<|am 2 ?_
     refine iL 3 ?_
     refine aG 4 (.bool (decide (((i:Nat):Int) > 0))) rfl ?_
     refine iL 5 ?_
     refine Any.dec 37 rfl (fun hc37=>?_) (fun hc37=>?_)
     ·have hd37:=of_decide_eq_true hc37
      have hip:0 < i:=om
      refine iL 6 ?_
      refine iL 7 ?_
      refine aW 8 (vI (i - 1)) rfl (kX _ rfl rfl rfl om om om) ?_
      obtain ⟨x0,hx0⟩:∃ ξ,(pvs)[i - 1]?=some ξ:=⟨_,List.getElem?_eq_getElem om⟩
      refine Any.xW (fun w hM=>wZ (i:=1) rfl w hM) hx0 (fun p41 q41 hA41 hc41=>aW 9 (vP p41 (q41+(i - 1)*3)) rfl (zZ (e:=246) rfl kr kr rfl rfl hA41 om)<|aG 10 (vP p41 (q41+(i - 1)*3)) rfl ?_)
      refine aG 11 (vP p41 (q41+(i - 1)*3+1)) rfl<|aW 12 (vS x0.hi) rfl (gH rfl rfl kr (fun w hM=>hc41 w hM 1 _ rfl)) ?_
      refine aW 13 (.bool (decide (x0.hi=[]))) rfl (nE rfl rfl rfl) ?_
      refine iL 14 ?_
      refine Any.dec 46 rfl (fun hc46=>?_) (fun hc46=>?_)
      ·have hd46:=of_decide_eq_true hc46
       refine kY 15 ?_
       refine kY 16 ?_
       refine kY 17 ?_
       refine kY 18 ?_
       refine kY 19 ?_
       refine kY 20 ?_
       refine kY 21 ?_
       refine kY 22 ?_
       refine kY 23 ?_
       refine kY 24 ?_
       refine kY 25 ?_
       refine aG 26 bT rfl<|aG 27 bT rfl<|aC 28 bT rfl<|cF kr<|aI<|rJ rfl<|Nc<|lx rfl<|Nq<|dC<|sN [nS,(vi 3)] fun w hM=>absurd ((CO heq20 (i:=i+1) hlt (Rd.KM hpt heq29 (by rw [(CP (i:=i - 1) (q:=x0.abs) (by rw [List.getElem?_map,hx0]; rfl) (by rw [List.length_map]; omega))]; have e:=of_decide_eq_true hc46; simp [PV.abs,e]))).symm.trans hd) si
      ·have hd46:=of_decide_eq_false hc46
       refine iL 15 ?_
       refine iL 16 ?_
       refine aW 17 (vI (i - 1)) rfl (kX _ rfl rfl rfl om om om)<|Any.xW (fun w hM=>wZ (i:=1) rfl w hM) hx0 (fun p50 q50 hA50 hc50=>aW 18 (vP p50 (q50+(i - 1)*3)) rfl (zZ (e:=246) rfl kr kr rfl rfl hA50 om)<|aG 19 (vP p50 (q50+(i - 1)*3)) rfl<|aG 20 (vP p50 (q50+(i - 1)*3+1)) rfl<|aW 21 (vS x0.hi) rfl (gH rfl rfl kr (fun w hM=>hc50 w hM 1 _ rfl))<|aG 22 (vP b8 0) rfl<|aG 23 (vP b8 0) rfl<|aW 24 (vS pv.lo) rfl (cW 4 rfl rfl kr rfl rfl)<|aW 25 (.bool (!(decide (x0.hi < pv.lo) || decide (x0.hi=pv.lo)))) rfl (Ly rfl rfl rfl)<|aG 26 (.bool (!(decide (x0.hi < pv.lo) || decide (x0.hi=pv.lo)))) rfl<|aG 27 (.bool (!(decide (x0.hi < pv.lo) || decide (x0.hi=pv.lo)))) rfl<|aC 28 (.bool (!(decide (x0.hi < pv.lo) || decide (x0.hi=pv.lo)))) rfl<|cF kr ?_)
       refine aI (bD rfl (fun hc60=>?_) (fun hc60=>?_))
       ·refine Nc<|lx rfl<|Nq<|dC<|sN [nS,(vi 3)] fun w hM=>absurd ((CO heq20 (i:=i+1) hlt (Rd.KM hpt heq29 (by rw [(CP (i:=i - 1) (q:=x0.abs) (by rw [List.getElem?_map,hx0]; rfl) (by rw [List.length_map]; omega))]; rw [Hp] at hc60; rw [← hab]; have e:=of_decide_eq_true hc60; simp [PV.abs,e]))).symm.trans hd) si
       ·have hfo:follows (pvs.map PV.abs) p29=true:=by rw [(CP (i:=i - 1) (q:=x0.abs) (by rw [List.getElem?_map,hx0]; rfl) (by rw [List.length_map]; omega))]; rw [Hp] at hc60; rw [← hab]; have e:=of_decide_eq_false hc46; have e2:=of_decide_eq_false hc60; simp [PV.abs,e,e2]
        exact fI<|aI<|aF<|lx rfl<|lW (rA 4 [(vS pv.lo),(vS pv.hi),pv.c.val])<|Nx<|pN 1 246 [(vS pv.lo),(vS pv.hi),pv.c.val] fun b63=>Nx<|cY uM 1 ([(vS pv.lo),(vS pv.hi),pv.c.val]) rfl rfl kr rfl rfl rfl (rfl) (fQ (i:=5) rfl (fun j v h=>by rw [Nat.zero_add]; exact h)) (PV.one pv) om ((pvs++[pv]).length) fN (PS (pvs++[pv])) ((uL _ ([pv])).symm) (fun A64 c64=>lx rfl<|Nk<|aF<|lw (vI (i+1)) bO<|lx rfl<|aO (aI (sA (i+1,A64,c64,pvs++[pv],r229,LX++L29) (⟨om,by rw [Rd.Em hpt heq29 hfo,← hab,List.map_append]; rfl,JB hrows hrw⟩) (by show n20 - (i+1) < n20 - i; omega) (fun w hM=>by show Mm _ _ [bH X16 br16 (r229),cP A64 (pvs++[pv]) c64,dG (LX++L29)] w; exact Mm.join (cs:=[bH X16 br16 (r229),cP A64 (pvs++[pv]) c64]) (L:=LX) (M:=L29) ((hM.pick [0,1,2,3] rfl rfl))))))
     ·have hd37:=of_decide_eq_false hc37
      have hi0:i=0:=om
      have hfo:follows (pvs.map PV.abs) p29=true:=by rw [List.eq_nil_of_length_eq_zero (hpl.trans hi0)]; rfl
      refine dF 6 ?_
      refine dF 7 ?_
      refine dF 8 ?_
      refine dF 9 ?_
      refine dF 10 ?_
      refine dF 11 ?_
      refine dF 12 ?_
      refine dF 13 ?_
      refine dF 14 ?_
      refine fJ 15 ?_
      refine fJ 16 ?_
      refine fJ 17 ?_
      refine fJ 18 ?_
      refine fJ 19 ?_
      refine fJ 20 ?_
      refine fJ 21 ?_
      refine fJ 22 ?_
      refine fJ 23 ?_
      refine fJ 24 ?_
      refine fJ 25 ?_
      refine dF 26 ?_
      refine aG 27 bF rfl<|aC 28 bF rfl<|cF kr<|aI<|qF rfl<|fI<|aI<|aF<|lx rfl<|lW (rA 4 [(vS pv.lo),(vS pv.hi),pv.c.val])<|Nx<|pN 1 246 [(vS pv.lo),(vS pv.hi),pv.c.val] fun b63=>Nx<|cY uM 1 ([(vS pv.lo),(vS pv.hi),pv.c.val]) rfl rfl kr rfl rfl rfl (rfl) (fQ (i:=5) rfl (fun j v h=>by rw [Nat.zero_add]; exact h)) (PV.one pv) om ((pvs++[pv]).length) fN (PS (pvs++[pv])) ((uL _ ([pv])).symm) (fun A64 c64=>lx rfl<|Nk ?_)
      dsimp only [bE,List.set,List.cons_append,List.nil_append]
      exact aF<|lw (vI (i+1)) bO<|lx rfl<|aO (aI (sA (i+1,A64,c64,pvs++[pv],r229,LX++L29) (⟨om,by rw [Rd.Em hpt heq29 hfo,← hab,List.map_append]; rfl,JB hrows hrw⟩) (by show n20 - (i+1) < n20 - i; omega) (fun w hM=>by show Mm _ _ [bH X16 br16 (r229),cP A64 (pvs++[pv]) c64,dG (LX++L29)] w; exact Mm.join (cs:=[bH X16 br16 (r229),cP A64 (pvs++[pv]) c64]) (L:=LX) (M:=L29) ((hM.pick [0,1,2,3] rfl rfl)))))
   | false =>
     obtain rfl:o29=none:=by cases o29 with | none=>rfl | some _=>cases hfk
     refine cQ _ 29 kr (fun _ h=>h) ?_
     refine am 0 ?_
     refine aC 1 bT rfl ?_
     refine am 2 ?_
     refine kY 3 ?_
     refine kY 4 ?_
     refine kY 5 ?_
     refine fJ 6 ?_
     refine fJ 7 ?_
     refine fJ 8 ?_
     refine fJ 9 ?_
     refine fJ 10 ?_
     refine fJ 11 ?_
     refine fJ 12 ?_
     refine fJ 13 ?_
     refine fJ 14 ?_
     refine fJ 15 ?_
     refine fJ 16 ?_
     refine fJ 17 ?_
     refine fJ 18 ?_
     refine fJ 19 ?_
     refine fJ 20 ?_
     refine fJ 21 ?_
     refine fJ 22 ?_
     refine fJ 23 ?_
     refine fJ 24 ?_
     refine fJ 25 ?_
     refine fJ 26 ?_
     refine kY 27 ?_
     exact aC 28 bT rfl<|cF kr<|aI<|rJ rfl<|Nc<|lx rfl<|Nq<|dC<|sN [nS,(vi 3)] fun w hM=>absurd ((CO heq20 (i:=i+1) hlt (Rd.UJ hpt heq29)).symm.trans hd) si
  ·have hd25:=of_decide_eq_false hc25
   obtain rfl:i=n20:=om
   refine Nj<|Nc<|lx rfl<|Nx<|eK [0] (fun w hM hO=>sF X16 br16 rX w hO)<|lx rfl<|Nb<|lx rfl<|lk (.bool ((rX.end_:Int) != 0)) ?_
   refine aO (aI (bD rfl (fun hc72=>?_) (fun hc72=>?_)))
   ·exact Nc<|lx rfl<|Nh<|sN [nS,(vi 3)] fun w hM=>absurd ((PE heq20 hpt (by simpa using hc72)).symm.trans hd) si
   ·have hok:kC D=some (pvs.map PV.abs):=PF heq20 hn0 hpt (by simpa using hc72)
    exact Ni<|lx rfl<|Nd<|sN [(vL RX (pvs) rcX),(vi 0)] fun w hM=>⟨RX,rcX,pvs,LX,rfl,(hM.pick [1,2] rfl rfl),Option.some.inj (hok.symm.trans hd),hrows⟩
theorem Sr (bs:Nat) (A:Option Addr) (c:Nat) (its:List (List UInt8)) (fan leaf:Nat) (nm om:Nat) (lo hi:List UInt8) (n:Nat) (f:List UInt8) (bo:Nat) (R:Option Addr) (rc:Nat) (ps:List PV) (N O:Value) (w:World) (hO:cE [aD bo 240 [(vL R (ps) rc),N,O],cP R (ps) rc] w) (r0:Rf [aD bo 240 [(vL R (ps) rc),N,O],cP R (ps) rc] w (cI)) (r1:Rf [aD bo 240 [(vL R (ps) rc),N,O],cP R (ps) rc] w (iM bs A c its fan leaf nm om)) (hs:cJ its) (hn:its.length≤1000) (hcap:its.length≤c) (hf:2≤fan) (hf2:fan≤16) (hl1:1≤leaf) (hl2:leaf≤64) (hps:ps.length≤4294967296) :
  Calls Tryz.prog 178 #[(vP bs 0),(.agg #[(vS lo),(vS hi)]),(.agg #[(vI n),(vS f)]),(vP bo 0)] w fun e w'=>∃ (R2:Option Addr) (rc2:Nat) (ps2:List PV),e = .returned (.tuple #[])∧aJ [aD bo 240 [(vL R (ps) rc),N,O],cP R (ps) rc] w [aD bo 240 [(vL R2 (ps++ps2) rc2),N,O],cP R2 (ps++ps2) rc2] w'∧(ps2.map PV.abs=oS its fan leaf lo hi n f)∧(gX [] A its ps2):=by
 have ra:=r1.imp (fun _ h=>h.1)
 have rb:=r1.imp (fun _ h=>h.2)
 refine Fj Tryz.func178 110 (hO) rfl<|Nc<|Nx<|pB [(vS lo),(vS hi)] fun b5=>Nx<|pB [(vI n),(vS f)] fun b6=>Nf<|aS<|cQ _ 5 kr (fun _ h=>h)<|am 0 ?_
 refine aV 1 _ rfl (rA 2 [(vS lo),(vS hi)])<|aV 3 _ rfl (rA 3 [(vI n),(vS f)])<|aA 2 rfl<|bP (fun w hM=>zW bs A c its fan leaf nm om lo hi w (r0.aQ hM) (r1.aQ hM) ag ag ag)<|aP _ (fun _ h=>h) (fun _ h=>h)<|aV 4 (.bool (decide ((inL its lo hi).length=n∧eV (inL its lo hi)=f))) rfl (Pe rfl rfl rfl)<|cF kr ?_
 refine aI (bD rfl (fun hc19=>?_) (fun hc19=>?_))
 ·have hd19:=of_decide_eq_true hc19
  have hd19:=of_decide_eq_true hc19
  exact fX<|dC<|fP [] rfl trivial (fun w hM=>⟨R,rc,[],rfl,by rw [List.append_nil]; exact (hM.pick [0,1] rfl rfl),by simp [oS,hd19],gX.nil⟩)
 ·have hd19:=of_decide_eq_false hc19
  have hd19:=of_decide_eq_false hc19
  refine Nl ?_
  dsimp only [bE,List.set,List.cons_append,List.nil_append]
  refine aF<|lx rfl<|lW (rA 2 [(vS lo),(vS hi)])<|Nx<|BK (fun w hM=>CG bs A c its fan leaf nm om lo hi w (r1.aQ hM) ag ag ag) fun B22 cb22 hsub22=>?_
  have rs22:=Ro.imp (Ψ:=fun w=>aH w B22 (SS (inL its lo hi))) rb hsub22
  refine lx rfl<|Nb<|lx rfl<|lk (vI ((inL its lo hi).length))<|lx rfl<|Ne<|lx rfl<|lk (vP bs 0)<|lk (vP bs 1)<|lk (vP bs 2)<|lW (rW (fun w hM=>At.cell (ra.now hM) 2))<|lk (.bool (decide ((((inL its lo hi).length:Nat):Int)≤((leaf:Nat):Int)))) ?_
  refine aO (aI (bD rfl (fun hc31=>?_) (fun hc31=>?_)))
  ·have hd31:=of_decide_eq_true hc31
   refine aS<|cQ _ 14 kr (fun _ h=>h.pick [0,2,3] rfl rfl)<|am 0 ?_
   refine am 1 ?_
   refine aC 2 (vP bo 0) rfl<|aC 3 (vP bo 0) rfl<|al 4 0 ?_
   refine aV 5 _ rfl (rA 1 [(vS lo),(vS hi)])<|am 6 ?_
   refine aC 7 (.agg #[(vL B22 (inL its lo hi) cb22)]) rfl<|aC 8 (.iface 252 (.agg #[(vL B22 (inL its lo hi) cb22)])) rfl<|aC 9 (.agg #[(vS lo),(vS hi),(.iface 252 (.agg #[(vL B22 (inL its lo hi) cb22)]))]) rfl<|aA 10 rfl<|pN 1 246 [(vS lo),(vS hi),(.iface 252 (.agg #[(vL B22 (inL its lo hi) cb22)]))] fun b42=>aP _ (fun _ h=>h.pick [0,1,2] rfl rfl) (fun _ h=>h.pick [0,2,3,4] rfl rfl)<|aA 11 rfl<|cY uM 1 ([(vS lo),(vS hi),(.iface 252 (.agg #[(vL B22 (inL its lo hi) cb22)]))]) rfl rfl (by kernel_rfl) rfl rfl rfl (rfl) (fQ (i:=4) rfl (fun j v h=>by rw [Nat.zero_add]; exact h)) (zX (ps:=[PV.mk lo hi (.list B22 cb22 (inL its lo hi))])) (by omega) ((ps++[PV.mk lo hi (.list B22 cb22 (inL its lo hi))]).length) (by first | exact (List.length_append ..).symm | (simp; done) | (simp; omega)) (PS (ps++[PV.mk lo hi (.list B22 cb22 (inL its lo hi))])) ((uL _ ([PV.mk lo hi (.list B22 cb22 (inL its lo hi))])).symm) (fun A43 c43=>?_)
   dsimp only [bE,List.set,List.cons_append,List.nil_append]
   exact aP _ (fun _ h=>h) (fun _ h=>h.pick [0,2,3,4] rfl rfl)<|aC 12 (vP bo 0) rfl<|aC 13 (vP bo 0) rfl<|aA 14 rfl<|pS 0 rfl<|lO kr rfl<|aI<|fX<|dC<|fP [] rfl trivial (fun w hM=>⟨A43,c43,[PV.mk lo hi (.list B22 cb22 (inL its lo hi))],rfl,(hM.pick [0,1] rfl rfl),by rw [oS,if_neg hd19,if_pos (by have:=of_decide_eq_true hc31; omega)]; rfl,fun p hp r hr=>.inr (by rw [List.mem_singleton.1 hp] at hr; rw [List.mem_singleton.1 hr]; exact hsub22)⟩)
  ·have hd31:=of_decide_eq_false hc31
   refine Ni<|lk (vP b5 0)<|lL 2 rfl<|lx rfl<|Ne<|lx rfl<|Ng ?_
   have h2:=List.length_filter_le (inR lo hi) its; change (inL its lo hi).length≤its.length at h2
   refine sL (fun (k,RX,rcX)=>k+1≤fan) (fun (k,RX,rcX)=>fan - k) (fun (k,RX,rcX)=>[(0,(vP bs 0)),(3,(vP bo 0)),(5,(vP b5 0)),(8,(vL B22 (inL its lo hi) cb22)),(9,(vI ((inL its lo hi).length))),(10,(vS ((bY its (inL its lo hi) fan lo k).1))),(11,(vI (k+1)))]) (fun (k,RX,rcX)=>[aD bo 240 [(vL RX (ps++(bY its (inL its lo hi) fan lo k).2) rcX),N,O],cP RX (ps++(bY its (inL its lo hi) fan lo k).2) rcX,aD b5 242 [(vS lo),(vS hi)],aD b6 248 [(vI n),(vS f)]]) (0,R,rc) (by show 0+1≤fan; omega) (fun w hM=>by show Mm _ _ [aD bo 240 [(vL R (ps++(bY its (inL its lo hi) fan lo 0).2) rc),N,O],cP R (ps++(bY its (inL its lo hi) fan lo 0).2) rc,aD b5 242 [(vS lo),(vS hi)],aD b6 248 [(vI n),(vS f)]] w; rw [show ps++(bY its (inL its lo hi) fan lo 0).2=ps from List.append_nil _]; exact hM) ?_
   rintro ⟨k,RX,rcX⟩ (hok:k+1≤fan)
   dsimp only
   refine Ny<|lx rfl<|lk (vP bs 0)<|lk (vP bs 1)<|lk (vP bs 1)<|lW (rW (fun w hM=>At.cell (ra.now hM) 1))<|lk (.bool (decide ((((k+1):Nat):Int) < ((fan:Nat):Int)))) ?_
   refine aO (aI (bD rfl (fun hc54=>?_) (fun hc54=>?_)))
   ·have hd54:=of_decide_eq_true hc54
    have hk:k+1 < fan:=by have:=of_decide_eq_true hc54; omega
    refine Nm ?_
    have hm1:(k+1)*(inL its lo hi).length≤16*1000:=Nat.mul_le_mul (by omega) (by omega)
    have hm2:(k+1)*(inL its lo hi).length / fan < (inL its lo hi).length:=by
     rw [Nat.div_lt_iff_lt_mul (by omega),Nat.mul_comm]
     exact Nat.mul_lt_mul_of_pos_left hk (by have:=of_decide_eq_false hc31; omega)
    refine aF<|lx rfl<|lv (v:=(vI ((k+1)*(inL its lo hi).length))) (Lv _ rfl rfl rfl (by omega) (by omega) (by omega)) ?_
    refine lx rfl<|lk (vP bs 0)<|lk (vP bs 1)<|lk (vP bs 1)<|lW (rW (fun w hM=>At.cell (ra.now hM) 1))<|lv (v:=(vI ((k+1)*(inL its lo hi).length / fan))) (wY rfl rfl rfl (by omega) (by omega)) ?_
    obtain ⟨x0,hx0⟩:∃ ξ,(inL its lo hi)[(k+1)*(inL its lo hi).length / fan]?=some ξ:=⟨_,List.getElem?_eq_getElem (by omega)⟩
    refine St.eY (fun w hM=>rs22.now hM) (fR hx0) (fun p67 q67 hA67 hc67=>lw (vP p67 (q67+((k+1)*(inL its lo hi).length / fan))) (rR 9 hA67)<|lW (rW hc67)<|lx rfl<|Nb<|lx rfl<|lw (.bool (!decide (x0=(bY its (inL its lo hi) fan lo k).1))) (rP rfl rfl rfl) ?_)
    refine aO (aI (bD rfl (fun hc71=>?_) (fun hc71=>?_)))
    ·refine Nc<|lx rfl<|lk (.agg #[(vS ((bY its (inL its lo hi) fan lo k).1)),(vS x0)])<|Nx<|pA [(.string ⟨#[]⟩),(.string ⟨#[]⟩)] fun b13=>Nx<|pT 4 [(vS ((bY its (inL its lo hi) fan lo k).1)),(vS x0)] rfl<|Nf<|cQ _ 15 kr (fun _ h=>h.pick [0,2,3,4] rfl rfl)<|am 0 ?_
     refine am 1 ?_
     refine aC 2 (vP bo 0) rfl<|aC 3 (vP bo 0) rfl<|al 4 0 ?_
     refine aV 5 _ rfl (rA 3 [(vS ((bY its (inL its lo hi) fan lo k).1)),(vS x0)])<|am 6 ?_
     refine aV 7 _ rfl (rA 3 [(vS ((bY its (inL its lo hi) fan lo k).1)),(vS x0)])<|aA 8 rfl<|bP (fun w hM=>zW bs A c its fan leaf nm om ((bY its (inL its lo hi) fan lo k).1) x0 w (r0.aQ hM) (r1.aQ hM) ag ag ag) ?_
     dsimp only [bE,List.set,List.cons_append,List.nil_append]
     refine aP _ (fun _ h=>h) (fun _ h=>h.pick [0,2,3,4] rfl rfl)<|aC 9 (.iface 248 (.agg #[(vI ((inL its ((bY its (inL its lo hi) fan lo k).1) x0).length)),(vS (eV (inL its ((bY its (inL its lo hi) fan lo k).1) x0)))])) rfl<|aC 10 (.agg #[(vS ((bY its (inL its lo hi) fan lo k).1)),(vS x0),(.iface 248 (.agg #[(vI ((inL its ((bY its (inL its lo hi) fan lo k).1) x0).length)),(vS (eV (inL its ((bY its (inL its lo hi) fan lo k).1) x0)))]))]) rfl<|aA 11 rfl<|pN 1 246 [(vS ((bY its (inL its lo hi) fan lo k).1)),(vS x0),(.iface 248 (.agg #[(vI ((inL its ((bY its (inL its lo hi) fan lo k).1) x0).length)),(vS (eV (inL its ((bY its (inL its lo hi) fan lo k).1) x0)))]))] fun b86=>aP _ (fun _ h=>h.pick [0,1,2,3] rfl rfl) (fun _ h=>h.pick [0,2,3,4,5] rfl rfl)<|aA 12 rfl<|cY uM 1 ([(vS ((bY its (inL its lo hi) fan lo k).1)),(vS x0),(.iface 248 (.agg #[(vI ((inL its ((bY its (inL its lo hi) fan lo k).1) x0).length)),(vS (eV (inL its ((bY its (inL its lo hi) fan lo k).1) x0)))]))]) rfl rfl kr rfl rfl rfl (rfl) (fQ (i:=5) rfl (fun j v h=>by rw [Nat.zero_add]; exact h)) (by intro u hu; exact zX (ps:=[lC its _ _]) u hu) (by have:=CK its (inL its lo hi) fan lo k; simp only [List.length_append] at *; omega) ((ps++(bY its (inL its lo hi) fan lo k).2++[lC its (bY its (inL its lo hi) fan lo k).1 x0]).length) fN (PS (ps++(bY its (inL its lo hi) fan lo k).2++[lC its (bY its (inL its lo hi) fan lo k).1 x0])) ((uL _ ([lC its (bY its (inL its lo hi) fan lo k).1 x0])).symm) (fun A87 c87=>aP _ (fun _ h=>h) (fun _ h=>h.pick [0,2,3,4,5] rfl rfl)<|aC 13 (vP bo 0) rfl<|aC 14 (vP bo 0) rfl<|aA 15 rfl<|pS 0 rfl<|lO kr rfl<|aI<|aF<|lx rfl<|Nk<|aF<|lx rfl<|lw (vI ((k+1)+1)) bO<|lx rfl<|Na ?_)
     rw [show ps++(bY its (inL its lo hi) fan lo k).2++[lC its (bY its (inL its lo hi) fan lo k).1 x0]=ps++(bY its (inL its lo hi) fan lo (k+1)).2 from by rw [Hg hx0 hc71,← List.append_assoc]]
     rw [show x0=(bY its (inL its lo hi) fan lo (k+1)).1 from by rw [Hg hx0 hc71]]
     exact sA (k+1,A87,c87) (by show _≤_; omega) (by show fan - (k+1) < fan - k; omega) (fun w hM=>(hM.pick [0,1,2,3] rfl rfl))
    ·refine Nw<|aF<|lx rfl<|lw (vI ((k+1)+1)) bO<|lx rfl<|Na ?_
     rw [show bY its (inL its lo hi) fan lo k=bY its (inL its lo hi) fan lo (k+1) from (Pb hx0 hc71).symm]
     exact sA (k+1,RX,rcX) (by show _≤_; omega) (by show fan - (k+1) < fan - k; omega) (fun w hM=>hM)
   ·have hd54:=of_decide_eq_false hc54
    obtain rfl:k=fan - 1:=by have:=of_decide_eq_false hc54; omega
    refine Nj<|aF<|lx rfl<|lk (vP b5 1)<|lL 2 rfl<|lk (.agg #[(vS ((bY its (inL its lo hi) fan lo (fan - 1)).1)),(vS hi)])<|Nx<|pA [(.string ⟨#[]⟩),(.string ⟨#[]⟩)] fun b14=>Nx<|pT 4 [(vS ((bY its (inL its lo hi) fan lo (fan - 1)).1)),(vS hi)] rfl<|Na ?_
    dsimp only [bE,List.set,List.cons_append,List.nil_append]
    refine cQ _ 15 kr (fun _ h=>h.pick [0,2,3,4] rfl rfl)<|am 0 ?_
    refine am 1 ?_
    refine aC 2 (vP bo 0) rfl<|aC 3 (vP bo 0) rfl<|al 4 0 ?_
    refine aV 5 _ rfl (rA 3 [(vS ((bY its (inL its lo hi) fan lo (fan - 1)).1)),(vS hi)])<|am 6 ?_
    refine aV 7 _ rfl (rA 3 [(vS ((bY its (inL its lo hi) fan lo (fan - 1)).1)),(vS hi)])<|aA 8 rfl<|bP (fun w hM=>zW bs A c its fan leaf nm om ((bY its (inL its lo hi) fan lo (fan - 1)).1) hi w (r0.aQ hM) (r1.aQ hM) ag ag ag)<|aP _ (fun _ h=>h) (fun _ h=>h.pick [0,2,3,4] rfl rfl)<|aC 9 (.iface 248 (.agg #[(vI ((inL its ((bY its (inL its lo hi) fan lo (fan - 1)).1) hi).length)),(vS (eV (inL its ((bY its (inL its lo hi) fan lo (fan - 1)).1) hi)))])) rfl<|aC 10 (.agg #[(vS ((bY its (inL its lo hi) fan lo (fan - 1)).1)),(vS hi),(.iface 248 (.agg #[(vI ((inL its ((bY its (inL its lo hi) fan lo (fan - 1)).1) hi).length)),(vS (eV (inL its ((bY its (inL its lo hi) fan lo (fan - 1)).1) hi)))]))]) rfl<|aA 11 rfl<|pN 1 246 [(vS ((bY its (inL its lo hi) fan lo (fan - 1)).1)),(vS hi),(.iface 248 (.agg #[(vI ((inL its ((bY its (inL its lo hi) fan lo (fan - 1)).1) hi).length)),(vS (eV (inL its ((bY its (inL its lo hi) fan lo (fan - 1)).1) hi)))]))] fun b106=>?_
    dsimp only [bE,List.set,List.cons_append,List.nil_append]
    refine aP _ (fun _ h=>h.pick [0,1,2,3] rfl rfl) (fun _ h=>h.pick [0,2,3,4,5] rfl rfl)<|aA 12 rfl<|cY uM 1 ([(vS ((bY its (inL its lo hi) fan lo (fan - 1)).1)),(vS hi),(.iface 248 (.agg #[(vI ((inL its ((bY its (inL its lo hi) fan lo (fan - 1)).1) hi).length)),(vS (eV (inL its ((bY its (inL its lo hi) fan lo (fan - 1)).1) hi)))]))]) rfl rfl kr rfl rfl rfl (rfl) (fQ (i:=5) rfl (fun j v h=>by rw [Nat.zero_add]; exact h)) (by intro u hu; exact zX (ps:=[lC its _ _]) u hu) (by have:=CK its (inL its lo hi) fan lo (fan - 1); simp only [List.length_append] at *; omega) ((ps++(bY its (inL its lo hi) fan lo (fan - 1)).2++[lC its (bY its (inL its lo hi) fan lo (fan - 1)).1 hi]).length) fN (PS (ps++(bY its (inL its lo hi) fan lo (fan - 1)).2++[lC its (bY its (inL its lo hi) fan lo (fan - 1)).1 hi])) ((uL _ ([lC its (bY its (inL its lo hi) fan lo (fan - 1)).1 hi])).symm) (fun A107 c107=>aP _ (fun _ h=>h) (fun _ h=>h.pick [0,2,3,4,5] rfl rfl)<|aC 13 (vP bo 0) rfl<|aC 14 (vP bo 0) rfl<|aA 15 rfl<|pS 0 rfl<|lO kr rfl<|kR [] rfl trivial (fun w hM=>?_))
    refine ⟨A107,c107,(bY its (inL its lo hi) fan lo (fan - 1)).2++[lC its (bY its (inL its lo hi) fan lo (fan - 1)).1 hi],rfl,?_,?_,?_⟩
    ·rw [← List.append_assoc]; exact (hM.pick [0,1] rfl rfl)
    ·rw [oS,if_neg hd19,if_neg (by have:=of_decide_eq_false hc31; omega),List.map_append,(CJ its (inL its lo hi) fan lo (fan - 1)).2,← (CJ its (inL its lo hi) fan lo (fan - 1)).1]; rfl
    ·exact gX.append (L:=[]) (gX.KJ (CL _ _ _ _ _)) (gX.KJ (by intro p hp; rw [List.mem_singleton.1 hp]; rfl))
theorem Ss (bs:Nat) (A:Option Addr) (c:Nat) (its:List (List UInt8)) (fan leaf:Nat) (nm om:Nat) (lo hi:List UInt8) (A1:Option Addr) (c1:Nat) (xs:List (List UInt8)) (bo:Nat) (R:Option Addr) (rc:Nat) (ps:List PV) (N:Option Addr) (nc:Nat) (nl:List (List UInt8)) (O:Option Addr) (oc:Nat) (ol:List (List UInt8)) (w:World) (hO:cE [aD bo 240 [(vL R (ps) rc),(vL N (nl) nc),(vL O (ol) oc)],cP R (ps) rc,cS N (nl) nc,cS O (ol) oc] w) (r0:Rf [aD bo 240 [(vL R (ps) rc),(vL N (nl) nc),(vL O (ol) oc)],cP R (ps) rc,cS N (nl) nc,cS O (ol) oc] w (iM bs A c its fan leaf nm om)) (r1:Rf [aD bo 240 [(vL R (ps) rc),(vL N (nl) nc),(vL O (ol) oc)],cP R (ps) rc,cS N (nl) nc,cS O (ol) oc] w (fun w=>aH w A1 (SS xs))) (hs:cJ its) (hn:its.length≤1000) (hcap:its.length≤c) (hps:ps.length≤4294967296) (hxl:xs.length≤4294967296) (hxs:∀ x∈xs,x.length≤1000) (hnl:nl.length≤68719476736) (hol:ol.length≤68719476736) :
  Calls Tryz.prog 179 #[(vP bs 0),(.agg #[(vS lo),(vS hi)]),(.agg #[(vL A1 xs c1)]),(vP bo 0)] w fun e w'=>∃ (R2:Option Addr) (rc2:Nat) (ps2:List PV) (N2:Option Addr) (nc2:Nat) (O2:Option Addr) (oc2:Nat) (L2:List (Option Addr × List (List UInt8))),e = .returned (.tuple #[])∧aJ [aD bo 240 [(vL R (ps) rc),(vL N (nl) nc),(vL O (ol) oc)],cP R (ps) rc,cS N (nl) nc,cS O (ol) oc] w [aD bo 240 [(vL R2 (ps++ps2) rc2),(vL N2 (nl++aK xs its) nc2),(vL O2 (ol++aK (inL its lo hi) xs) oc2)],cP R2 (ps++ps2) rc2,cS N2 (nl++aK xs its) nc2,cS O2 (ol++aK (inL its lo hi) xs) oc2,dG (L2)] w'∧(ps2.map PV.abs=pV its lo hi xs)∧(gX L2 A its ps2):=by
 have ra:=r0.imp (fun _ h=>h.1)
 have rb:=r0.imp (fun _ h=>h.2)
 refine Fj Tryz.func179 95 (hO) rfl<|Nc<|Nx<|pB [(vS lo),(vS hi)] fun b5=>Nx<|pB [(vL A1 xs c1)] fun b6=>Nb<|Nx<|nH rfl rfl kr (fun m14=>lx rfl<|Nb<|Nx<|pA [nS,nS] fun b9=>Nf<|aS ?_)
 dsimp only [bE,List.set,List.cons_append,List.nil_append]
 refine St.mem (fun w hM=>hM.gY 9 1)<|St.mem (fun w hM=>hM.gY 9 1)<|aF<|lk (vP b6 0)<|lL 5 rfl<|lk (vI xs.length)<|lx rfl<|Ng<|sL (fun (i,N32,nc32)=>i≤xs.length) (fun (i,N32,nc32)=>xs.length - i) (fun (i,N32,nc32)=>[(0,(vP bs 0)),(3,(vP bo 0)),(5,(vP b5 0)),(8,(.map (some m14))),(9,(vP b9 0)),(16,(vL A1 xs c1)),(17,(vI xs.length)),(18,(vI i))]) (fun (i,N32,nc32)=>[aD bo 240 [(vL R (ps) rc),(vL N (nl) nc),(vL O (ol) oc)],cP R (ps) rc,cS N (nl) nc,cS O (ol) oc,aD b5 242 [(vS lo),(vS hi)],aD b6 252 [(vL A1 xs c1)],aN m14 (xs.take i),aD b9 255 [nS,(vL N32 (aK (xs.take i) its) nc32)],aR 9 1 none (0) (0) ([]),cS N32 (aK (xs.take i) its) nc32]) (0,none,0) (Nat.zero_le _) (fun w hM=>by show Mm _ _ [aD bo 240 [(vL R (ps) rc),(vL N (nl) nc),(vL O (ol) oc)],cP R (ps) rc,cS N (nl) nc,cS O (ol) oc,aD b5 242 [(vS lo),(vS hi)],aD b6 252 [(vL A1 xs c1)],aN m14 (xs.take 0),aD b9 255 [nS,(vL none (aK (xs.take 0) its) 0)],aR 9 1 none (0) (0) ([]),cS none (aK (xs.take 0) its) 0] w; exact hM) ?_
 rintro ⟨i,N32,nc32⟩ (hok:i≤xs.length)
 dsimp only
 refine Nc<|lk (.bool (decide (((i:Nat):Int) < ((xs.length:Nat):Int)))) ?_
 refine aO (aI (aS (bD rfl (fun hc19=>?_) (fun hc19=>?_))))
 ·have hd19:=of_decide_eq_true hc19
  refine Nm<|aF ?_
  obtain ⟨x0,hx0⟩:∃ ξ,(xs)[i]?=some ξ:=⟨_,List.getElem?_eq_getElem (by omega)⟩
  refine St.eY (fun w hM=>r1.now hM) (fR hx0) (fun p20 q20 hA20 hc20=>lw (vP p20 (q20+i)) (rR 9 hA20)<|lW (rW hc20)<|lx rfl<|Nb<|lx rfl<|Nx<|Cl 6 rfl rfl kr rfl rfl rfl rfl (by have:=hxs _ (List.mem_of_getElem? hx0); omega) (by rw [List.length_take]; omega)<|Nb<|lx rfl<|Nx<|bP (fun w hM=>CH bs A c its fan leaf nm om x0 w (r0.aQ hM) ag ag)<|lk (.bool (!(its.contains x0))) ?_)
  refine aO (aI (bD rfl (fun hc27=>?_) (fun hc27=>?_)))
  ·refine aF<|lk (vP b9 1)<|lL 7 rfl<|lx rfl<|Nx<|pN 1 9 [(vS x0)] fun b31=>Nx<|cY mH 9 ([(vS x0)]) rfl rfl kr rfl rfl rfl (rfl) (fQ (i:=10) rfl (fun j v h=>by rw [Nat.zero_add]; exact h)) (by simp [Value.oneCell']) (by have h:=lU (xs.take i) its; simp only [List.length_take] at h; omega) ((aK (xs.take i) its++[x0]).length) fN (SS (aK (xs.take i) its++[x0])) (by simp [SS]) (fun A32 c32=>lk (vP b9 1)<|Nx<|pS 7 rfl<|Nk ?_)
   dsimp only [bE,List.set,List.cons_append,List.nil_append]
   refine aF<|lw (vI (i+1)) bO<|lx rfl<|Na ?_
   rw [show xs.take i++[x0]=xs.take (i+1) from uK hx0]
   rw [show aK (xs.take i) its++[x0]=aK (xs.take (i+1)) its from by rw [zP hx0 (by simpa using hc27)]]
   exact sA (i+1,A32,c32) (by show _≤_; omega) (by show xs.length - (i+1) < xs.length - i; omega) (fun w hM=>(hM.pick [0,1,2,3,4,5,6,7,8,9] rfl rfl))
  ·refine Nw<|aF<|lw (vI (i+1)) bO<|lx rfl<|Na ?_
   rw [show xs.take i++[x0]=xs.take (i+1) from uK hx0]
   rw [show aK (xs.take i) its=aK (xs.take (i+1)) its from by rw [zQ hx0 (by simpa using hc27)]]
   exact sA (i+1,N32,nc32) (by show _≤_; omega) (by show xs.length - (i+1) < xs.length - i; omega) (fun w hM=>hM)
 ·have hd19:=of_decide_eq_false hc19
  obtain rfl:i=xs.length:=by omega
  rw [List.take_length]
  refine Nj<|Nc<|lx rfl<|lW (rA 4 [(vS lo),(vS hi)])<|Nx<|BK (fun w hM=>CG bs A c its fan leaf nm om lo hi w (r0.aQ hM) ag ag ag) fun B37 cb37 hsub37=>?_
  have rs37:=Ro.imp (Ψ:=fun w=>aH w B37 (SS (inL its lo hi))) rb hsub37
  have hl2:=List.length_filter_le (inR lo hi) its; change (inL its lo hi).length≤its.length at hl2
  refine lk (vI ((inL its lo hi).length))<|lx rfl<|Ng<|sL (fun (i,N51,nc51)=>i≤(inL its lo hi).length) (fun (i,N51,nc51)=>(inL its lo hi).length - i) (fun (i,N51,nc51)=>[(3,(vP bo 0)),(5,(vP b5 0)),(8,(.map (some m14))),(9,(vP b9 0)),(37,(vL B37 (inL its lo hi) cb37)),(38,(vI ((inL its lo hi).length))),(39,(vI i))]) (fun (i,N51,nc51)=>[aD bo 240 [(vL R (ps) rc),(vL N (nl) nc),(vL O (ol) oc)],cP R (ps) rc,cS N (nl) nc,cS O (ol) oc,aD b5 242 [(vS lo),(vS hi)],aD b6 252 [(vL A1 xs c1)],aN m14 (xs),aD b9 255 [(vL N51 (aK ((inL its lo hi).take i) xs) nc51),(vL N32 (aK xs its) nc32)],cS N51 (aK ((inL its lo hi).take i) xs) nc51,cS N32 (aK xs its) nc32]) (0,none,0) (Nat.zero_le _) (fun w hM=>by show Mm _ _ [aD bo 240 [(vL R (ps) rc),(vL N (nl) nc),(vL O (ol) oc)],cP R (ps) rc,cS N (nl) nc,cS O (ol) oc,aD b5 242 [(vS lo),(vS hi)],aD b6 252 [(vL A1 xs c1)],aN m14 (xs),aD b9 255 [(vL none (aK ((inL its lo hi).take 0) xs) 0),(vL N32 (aK xs its) nc32)],cS none (aK ((inL its lo hi).take 0) xs) 0,cS N32 (aK xs its) nc32] w; exact hM) ?_
  rintro ⟨i,N51,nc51⟩ (hok:i≤(inL its lo hi).length)
  dsimp only
  refine Nc<|lk (.bool (decide (((i:Nat):Int) < (((inL its lo hi).length:Nat):Int)))) ?_
  refine aO (aI (aS (bD rfl (fun hc40=>?_) (fun hc40=>?_))))
  ·have hd40:=of_decide_eq_true hc40
   refine Nm<|aF ?_
   obtain ⟨x0,hx0⟩:∃ ξ,(inL its lo hi)[i]?=some ξ:=⟨_,List.getElem?_eq_getElem (by omega)⟩
   refine St.eY (fun w hM=>rs37.now hM) (fR hx0) (fun p41 q41 hA41 hc41=>lw (vP p41 (q41+i)) (rR 9 hA41)<|lW (rW hc41)<|lx rfl<|Nb<|lx rfl<|lw (.bool (xs.contains x0)) (MD 6 rfl rfl rfl rfl (by have:=(hs.1 _ (List.mem_filter.1 (List.mem_of_getElem? hx0)).1); omega))<|lk (.bool (!(xs.contains x0))) ?_)
   refine aO (aI (bD rfl (fun hc46=>?_) (fun hc46=>?_)))
   ·refine aF<|lk (vP b9 0)<|lL 7 rfl<|lx rfl<|Nx<|pN 1 9 [(vS x0)] fun b50=>Nx<|cY mH 8 ([(vS x0)]) rfl rfl kr rfl rfl rfl (rfl) (fQ (i:=10) rfl (fun j v h=>by rw [Nat.zero_add]; exact h)) (by simp [Value.oneCell']) (by have h:=lU ((inL its lo hi).take i) xs; simp only [List.length_take] at h; omega) ((aK ((inL its lo hi).take i) xs++[x0]).length) fN (SS (aK ((inL its lo hi).take i) xs++[x0])) (by simp [SS]) (fun A51 c51=>lk (vP b9 0)<|Nx<|pS 7 rfl<|Nk<|aF<|lw (vI (i+1)) bO<|lx rfl<|Na ?_)
    rw [show aK ((inL its lo hi).take i) xs++[x0]=aK ((inL its lo hi).take (i+1)) xs from by rw [zP hx0 (by simpa using hc46)]]
    exact sA (i+1,A51,c51) (by show _≤_; omega) (by show (inL its lo hi).length - (i+1) < (inL its lo hi).length - i; omega) (fun w hM=>(hM.pick [0,1,2,3,4,5,6,7,8,9] rfl rfl))
   ·refine Nw<|aF<|lw (vI (i+1)) bO<|lx rfl<|Na ?_
    rw [show aK ((inL its lo hi).take i) xs=aK ((inL its lo hi).take (i+1)) xs from by rw [zQ hx0 (by simpa using hc46)]]
    exact sA (i+1,N51,nc51) (by show _≤_; omega) (by show (inL its lo hi).length - (i+1) < (inL its lo hi).length - i; omega) (fun w hM=>hM)
  ·have hd40:=of_decide_eq_false hc40
   obtain rfl:i=(inL its lo hi).length:=by omega
   rw [List.take_length]
   refine Nj ?_
   have hw1:=lU xs its; have hw2:=lU (inL its lo hi) xs
   refine cQ _ 10 kr (fun _ h=>h.pick [0,1,3,4,5,6,7,8,9] rfl rfl)<|am 0 ?_
   refine am 1 ?_
   refine aC 2 (vP bo 0) rfl<|aC 3 (vP bo 1) rfl<|al 4 0 ?_
   refine aC 5 (vP b9 1) rfl<|al 6 6 ?_
   refine aA 7 rfl ?_
   refine cY mH 2 (SS (aK xs its)) rfl rfl (by kernel_rfl) rfl rfl rfl (by simp) (fun w hM=>dV.jW (gJ (i:=9) rfl w hM)) (yN) (by omega) ((nl++(aK xs its)).length) (by first | exact (List.length_append ..).symm | (simp; done) | (simp; omega)) (SS (nl++(aK xs its))) (by simp [SS]) (fun A61 c61=>?_)
   dsimp only [bE,List.set,List.cons_append,List.nil_append]
   refine aP _ (fun _ h=>h) (fun _ h=>h.pick [0,1,3,4,5,6,7,8,9] rfl rfl)<|aC 8 (vP bo 0) rfl<|aC 9 (vP bo 1) rfl<|aA 10 rfl<|pS 0 rfl<|lO kr rfl<|aI<|aS<|cQ _ 10 kr (fun _ h=>h.pick [0,1,2,4,5,6,7,8,9] rfl rfl)<|am 0 ?_
   refine am 1 ?_
   refine aC 2 (vP bo 0) rfl<|aC 3 (vP bo 2) rfl<|al 4 0 ?_
   refine aC 5 (vP b9 0) rfl<|al 6 6 ?_
   refine aA 7 rfl ?_
   refine cY mH 3 (SS (aK (inL its lo hi) xs)) rfl rfl (by kernel_rfl) rfl rfl rfl (by simp) (fun w hM=>dV.jW (gJ (i:=8) rfl w hM)) (yN) (by omega) ((ol++(aK (inL its lo hi) xs)).length) (by first | exact (List.length_append ..).symm | (simp; done) | (simp; omega)) (SS (ol++(aK (inL its lo hi) xs))) (by simp [SS]) (fun A71 c71=>?_)
   refine aP _ (fun _ h=>h) (fun _ h=>h.pick [0,1,2,4,5,6,7,8,9] rfl rfl)<|aC 8 (vP bo 0) rfl<|aC 9 (vP bo 2) rfl ?_
   refine aA 10 rfl<|pS 0 rfl<|lO kr rfl<|aI<|aS ?_
   dsimp only [bE,List.set,List.cons_append,List.nil_append]
   refine aF<|lk (vP b9 0)<|lL 7 rfl<|lk (vI ((aK (inL its lo hi) xs).length))<|lk (vP b9 1)<|lL 7 rfl<|lk (vI ((aK xs its).length))<|lw (vI ((aK (inL its lo hi) xs).length+(aK xs its).length)) bO<|lk (.bool (decide ((((aK (inL its lo hi) xs).length+(aK xs its).length:Nat):Int) > 0))) ?_
   refine aO (aI (bD rfl (fun hc81=>?_) (fun hc81=>?_)))
   ·have hd81:=of_decide_eq_true hc81
    refine cQ _ 13 kr (fun _ h=>h.pick [0,2,3,4,5,6,7,8,9] rfl rfl)<|am 0 ?_
    refine am 1 ?_
    refine aC 2 (vP bo 0) rfl<|aC 3 (vP bo 0) rfl<|al 4 0 ?_
    refine aV 5 _ rfl (rA 3 [(vS lo),(vS hi)])<|aV 6 _ rfl (rA 6 [(vL N51 (aK (inL its lo hi) xs) nc51),(vL N32 (aK xs its) nc32)])<|aC 7 (.iface 255 (.agg #[(vL N51 (aK (inL its lo hi) xs) nc51),(vL N32 (aK xs its) nc32)])) rfl<|aC 8 (.agg #[(vS lo),(vS hi),(.iface 255 (.agg #[(vL N51 (aK (inL its lo hi) xs) nc51),(vL N32 (aK xs its) nc32)]))]) rfl<|aA 9 rfl<|pN 1 246 [(vS lo),(vS hi),(.iface 255 (.agg #[(vL N51 (aK (inL its lo hi) xs) nc51),(vL N32 (aK xs its) nc32)]))] fun b91=>aP _ (fun _ h=>h.pick [0,1,2,3,4,5,6,7,8] rfl rfl) (fun _ h=>h.pick [0,2,3,4,5,6,7,8,9,10] rfl rfl) ?_
    refine aA 10 rfl ?_
    refine cY uM 1 ([(vS lo),(vS hi),(.iface 255 (.agg #[(vL N51 (aK (inL its lo hi) xs) nc51),(vL N32 (aK xs its) nc32)]))]) rfl rfl (by kernel_rfl) rfl rfl rfl (rfl) (fQ (i:=10) rfl (fun j v h=>by rw [Nat.zero_add]; exact h)) (by intro u hu; exact zX (ps:=[PV.mk lo hi (.ans N51 nc51 (aK (inL its lo hi) xs) N32 nc32 (aK xs its))]) u hu) (by omega) ((ps++[PV.mk lo hi (.ans N51 nc51 (aK (inL its lo hi) xs) N32 nc32 (aK xs its))]).length) (by first | exact (List.length_append ..).symm | (simp; done) | (simp; omega)) (PS (ps++[PV.mk lo hi (.ans N51 nc51 (aK (inL its lo hi) xs) N32 nc32 (aK xs its))])) ((uL _ ([PV.mk lo hi (.ans N51 nc51 (aK (inL its lo hi) xs) N32 nc32 (aK xs its))])).symm) (fun A92 c92=>?_)
    refine aP _ (fun _ h=>h) (fun _ h=>h.pick [0,2,3,4,5,6,7,8,9,10] rfl rfl) ?_
    refine aC 11 (vP bo 0) rfl<|aC 12 (vP bo 0) rfl<|aA 13 rfl<|pS 0 rfl ?_
    dsimp only [bE,List.set,List.cons_append,List.nil_append]
    refine lO kr rfl<|kR [] rfl trivial (fun w hM=>?_)
    replace hM:Mm _ _ [aD bo 240 [(vL A92 (ps++[PV.mk lo hi (.ans N51 nc51 (aK (inL its lo hi) xs) N32 nc32 (aK xs its))]) c92),(vL A61 (nl++(aK xs its)) c61),(vL A71 (ol++(aK (inL its lo hi) xs)) c71)],cP A92 (ps++[PV.mk lo hi (.ans N51 nc51 (aK (inL its lo hi) xs) N32 nc32 (aK xs its))]) c92,cS A61 (nl++(aK xs its)) c61,cS A71 (ol++(aK (inL its lo hi) xs)) c71,aD b5 242 [(vS lo),(vS hi)],aD b6 252 [(vL A1 xs c1)],aN m14 (xs),aD b9 255 [(vL N51 (aK (inL its lo hi) xs) nc51),(vL N32 (aK xs its) nc32)],dG ([(N51,aK (inL its lo hi) xs)]),cS N32 (aK xs its) nc32,aD b91 246 [(vS lo),(vS hi),(.iface 255 (.agg #[(vL N51 (aK (inL its lo hi) xs) nc51),(vL N32 (aK xs its) nc32)]))]] w:=hM.tD 8 rfl
    replace hM:Mm _ _ [aD bo 240 [(vL A92 (ps++[PV.mk lo hi (.ans N51 nc51 (aK (inL its lo hi) xs) N32 nc32 (aK xs its))]) c92),(vL A61 (nl++(aK xs its)) c61),(vL A71 (ol++(aK (inL its lo hi) xs)) c71)],cP A92 (ps++[PV.mk lo hi (.ans N51 nc51 (aK (inL its lo hi) xs) N32 nc32 (aK xs its))]) c92,cS A61 (nl++(aK xs its)) c61,cS A71 (ol++(aK (inL its lo hi) xs)) c71,aD b5 242 [(vS lo),(vS hi)],aD b6 252 [(vL A1 xs c1)],aN m14 (xs),aD b9 255 [(vL N51 (aK (inL its lo hi) xs) nc51),(vL N32 (aK xs its) nc32)],dG ([(N51,aK (inL its lo hi) xs)]),dG ([(N32,aK xs its)]),aD b91 246 [(vS lo),(vS hi),(.iface 255 (.agg #[(vL N51 (aK (inL its lo hi) xs) nc51),(vL N32 (aK xs its) nc32)]))]] w:=hM.tD 9 rfl
    refine ⟨A92,c92,[PV.mk lo hi (.ans N51 nc51 (aK (inL its lo hi) xs) N32 nc32 (aK xs its))],A61,c61,A71,c71,[(N51,aK (inL its lo hi) xs),(N32,aK xs its)],rfl,Mm.join (cs:=[_,_,_,_]) (L:=[(N51,aK (inL its lo hi) xs)]) (M:=[(N32,aK xs its)]) ?_,?_,?_⟩
    ·exact (hM.pick [0,1,2,3,8,9] rfl rfl)
    ·rw [pV,if_pos (by have:=of_decide_eq_true hc81; omega)]; rfl
    ·intro p hp r hr; rw [List.mem_singleton.1 hp] at hr; exact .inl hr
   ·have hd81:=of_decide_eq_false hc81
    refine fI<|kR [] rfl trivial (fun w hM=>?_)
    replace hM:Mm _ _ [aD bo 240 [(vL R (ps) rc),(vL A61 (nl++(aK xs its)) c61),(vL A71 (ol++(aK (inL its lo hi) xs)) c71)],cP R (ps) rc,cS A61 (nl++(aK xs its)) c61,cS A71 (ol++(aK (inL its lo hi) xs)) c71,aD b5 242 [(vS lo),(vS hi)],aD b6 252 [(vL A1 xs c1)],aN m14 (xs),aD b9 255 [(vL N51 (aK (inL its lo hi) xs) nc51),(vL N32 (aK xs its) nc32)],dG ([(N51,aK (inL its lo hi) xs)]),cS N32 (aK xs its) nc32] w:=hM.tD 8 rfl
    replace hM:Mm _ _ [aD bo 240 [(vL R (ps) rc),(vL A61 (nl++(aK xs its)) c61),(vL A71 (ol++(aK (inL its lo hi) xs)) c71)],cP R (ps) rc,cS A61 (nl++(aK xs its)) c61,cS A71 (ol++(aK (inL its lo hi) xs)) c71,aD b5 242 [(vS lo),(vS hi)],aD b6 252 [(vL A1 xs c1)],aN m14 (xs),aD b9 255 [(vL N51 (aK (inL its lo hi) xs) nc51),(vL N32 (aK xs its) nc32)],dG ([(N51,aK (inL its lo hi) xs)]),dG ([(N32,aK xs its)])] w:=hM.tD 9 rfl
    refine ⟨R,rc,[],A61,c61,A71,c71,[(N51,aK (inL its lo hi) xs),(N32,aK xs its)],rfl,Mm.join (cs:=[_,_,_,_]) (L:=[(N51,aK (inL its lo hi) xs)]) (M:=[(N32,aK xs its)]) ?_,?_,?_⟩
    ·rw [List.append_nil]; exact (hM.pick [0,1,2,3,8,9] rfl rfl)
    ·rw [pV,if_neg (by have:=of_decide_eq_false hc81; omega)]; rfl
    ·exact gX.nil
theorem DP (bw:Nat) (A:Option Addr) (c:Nat) (xs:List UInt8) (A1:Option Addr) (c1:Nat) (l:List (List UInt8)) (w:World) (hO:cE [aD bw 180 [(vL A (xs) c),(vi 0)],cB A (xs) c] w) (r0:Rf [aD bw 180 [(vL A (xs) c),(vi 0)],cB A (xs) c] w (fun w=>aH w A1 (SS l))) (hl:l.length≤16384) (h32:∀ x∈l,x.length=32) (hx:xs.length≤4294400000) :
  Calls Tryz.prog 247 #[(vP bw 0),(vL A1 l c1)] w fun e w'=>∃ (A2:Option Addr) (c2:Nat),e = .returned (.tuple #[])∧aJ [aD bw 180 [(vL A (xs) c),(vi 0)],cB A (xs) c] w [aD bw 180 [(vL A2 (xs++(aE l.length++l.flatten)) c2),(vi 0)],cB A2 (xs++(aE l.length++l.flatten)) c2] w':=by
 refine bK Tryz.func247 20 (hO) rfl<|Nc<|lx rfl<|lk (vI l.length)<|Nx<|iD [0,1] (fun w hM hO=>Dp bw A c xs l.length w hO om om) fun A29 c29=>Nb<|lx rfl<|lk (vI l.length)<|lx rfl<|Ng<|sL (fun (i,AX,cX)=>i≤l.length) (fun (i,AX,cX)=>l.length - i) (fun (i,AX,cX)=>[(0,(vP bw 0)),(10,(vL A1 l c1)),(11,(vI l.length)),(12,(vI i))]) (fun (i,AX,cX)=>[aD bw 180 [(vL AX (xs++aE l.length++(l.take i).flatten) cX),(vi 0)],cB AX (xs++aE l.length++(l.take i).flatten) cX]) (0,A29,c29) (Nat.zero_le _) (fun w hM=>by show Mm _ _ [aD bw 180 [(vL A29 (xs++aE l.length++(l.take 0).flatten) c29),(vi 0)],cB A29 (xs++aE l.length++(l.take 0).flatten) c29] w; rw [show xs++aE l.length++(l.take 0).flatten=xs++aE l.length from List.append_nil _]; exact hM) ?_
 rintro ⟨i,AX,cX⟩ (hok:i≤l.length)
 dsimp only
 refine Nc<|lk (.bool (decide (((i:Nat):Int) < ((l.length:Nat):Int)))) ?_
 refine aO (aI (aS (bD rfl (fun hc13=>?_) (fun hc13=>?_))))
 ·have hd13:=of_decide_eq_true hc13
  have hfl:=zV (l.take i) (fun x hx=>h32 x (List.mem_of_mem_take hx)); rw [List.length_take] at hfl; have hnl:=fG l.length om
  refine Nm<|aF ?_
  obtain ⟨x0,hx0⟩:∃ ξ,(l)[i]?=some ξ:=⟨_,List.getElem?_eq_getElem om⟩
  refine St.eY (fun w hM=>r0.now hM) (fR hx0) (fun p14 q14 hA14 hc14=>lw (vP p14 (q14+i)) (rR 9 hA14)<|lW (rW hc14)<|lx rfl<|Nv<|lx rfl<|Nx<|iD [0,1] (fun w hM hO=>Dq bw AX cX (xs++aE l.length++(l.take i).flatten) x0 w hO (h32 _ (List.mem_of_getElem? hx0)) (by simp only [List.length_append]; omega)) fun A218 c218=>Nk<|aF<|lw (vI (i+1)) bO<|lx rfl<|Na ?_)
  rw [show (xs++aE l.length++(l.take i).flatten)++x0=xs++aE l.length++(l.take (i+1)).flatten from by rw [List.append_assoc,OM hx0]]
  exact sA (i+1,A218,c218) (by show _≤_; omega) (by show l.length - (i+1) < l.length - i; omega) (fun w hM=>hM)
 ·have hd13:=of_decide_eq_false hc13
  obtain rfl:i=l.length:=om
  rw [List.take_length]
  refine Nr<|mQ<|kR [] rfl trivial (fun w hM=>⟨AX,cX,rfl,?_⟩)
  rw [← List.append_assoc]
  exact hM
theorem Su (bw:Nat) (A:Option Addr) (c:Nat) (xs:List UInt8) (n:Nat) (f:List UInt8) (w:World) (hO:cE [aD bw 180 [(vL A (xs) c),(vi 0)],cB A (xs) c] w) (hn:n≤16384) (hf:f.length=32) (hx:xs.length≤4293800000) :
  Calls Tryz.prog 243 #[(.agg #[(vI n),(vS f)]),(vP bw 0)] w fun e w'=>∃ (A2:Option Addr) (c2:Nat),e = .returned (.tuple #[])∧aJ [aD bw 180 [(vL A (xs) c),(vi 0)],cB A (xs) c] w [aD bw 180 [(vL A2 (xs++((aE 1++aE n)++f)) c2),(vi 0)],cB A2 (xs++((aE 1++aE n)++f)) c2] w':=by
 refine bK Tryz.func243 14 (hO) rfl<|Nc<|Nx<|pB [(vI n),(vS f)] fun b2=>Nb<|lx rfl<|Nx<|iD [0,1] (fun w hM hO=>xA bw A c xs 1 w hO om om) fun A25 c25=>?_
 have hn1:=fG 1 om; have hn2:=fG n om
 refine Nb<|lx rfl<|lk (vP b2 0)<|lL 2 rfl<|Nx<|iD [0,1] (fun w hM hO=>Dp bw A25 c25 (xs++aE 1) n w hO om (by simp only [List.length_append]; omega)) fun A29 c29=>Nv<|lx rfl<|lk (vP b2 1)<|lL 2 rfl<|Nx<|iD [0,1] (fun w hM hO=>Dq bw A29 c29 ((xs++aE 1)++aE n) f w hO ag (by simp only [List.length_append]; omega)) fun A213 c213=>aO<|kR [] rfl trivial (fun w hM=>⟨A213,c213,rfl,?_⟩)
 simp only [← List.append_assoc] at hM ⊢
 exact (hM.pick [0,1] rfl rfl)
theorem Sv (bw:Nat) (A:Option Addr) (c:Nat) (xs:List UInt8) (A1:Option Addr) (c1:Nat) (l:List (List UInt8)) (w:World) (hO:cE [aD bw 180 [(vL A (xs) c),(vi 0)],cB A (xs) c] w) (r0:Rf [aD bw 180 [(vL A (xs) c),(vi 0)],cB A (xs) c] w (fun w=>aH w A1 (SS l))) (hl:l.length≤16384) (h32:∀ x∈l,x.length=32) (hx:xs.length≤4293800000) :
  Calls Tryz.prog 245 #[(.agg #[(vL A1 l c1)]),(vP bw 0)] w fun e w'=>∃ (A2:Option Addr) (c2:Nat),e = .returned (.tuple #[])∧aJ [aD bw 180 [(vL A (xs) c),(vi 0)],cB A (xs) c] w [aD bw 180 [(vL A2 (xs++(aE 2++(aE l.length++l.flatten))) c2),(vi 0)],cB A2 (xs++(aE 2++(aE l.length++l.flatten))) c2] w':=by
 refine bK Tryz.func245 10 (hO) rfl<|Nc<|Nx<|pB [(vL A1 l c1)] fun b2=>Nb<|lx rfl<|Nx<|iD [0,1] (fun w hM hO=>xA bw A c xs 2 w hO om om) fun A25 c25=>?_
 have hn1:=fG 2 om
 refine Nv<|lx rfl<|lk (vP b2 0)<|lL 2 rfl<|Nx<|iD [0,1] (fun w hM hO=>DP bw A25 c25 (xs++aE 2) A1 c1 l w hO (r0.cK hM [0,1]) om ag (by simp only [List.length_append]; omega)) fun A29 c29=>aO<|kR [] rfl trivial (fun w hM=>⟨A29,c29,rfl,?_⟩)
 simp only [← List.append_assoc] at hM ⊢
 exact (hM.pick [0,1] rfl rfl)
theorem Sw (bw:Nat) (A:Option Addr) (c:Nat) (xs:List UInt8) (A1:Option Addr) (c1:Nat) (l:List (List UInt8)) (A3:Option Addr) (c3:Nat) (m:List (List UInt8)) (w:World) (hO:cE [aD bw 180 [(vL A (xs) c),(vi 0)],cB A (xs) c] w) (r0:Rf [aD bw 180 [(vL A (xs) c),(vi 0)],cB A (xs) c] w (fun w=>aH w A1 (SS l))) (r1:Rf [aD bw 180 [(vL A (xs) c),(vi 0)],cB A (xs) c] w (fun w=>aH w A3 (SS m))) (hl:l.length≤16384) (h32:∀ x∈l,x.length=32) (hm:m.length≤16384) (hm32:∀ x∈m,x.length=32) (hx:xs.length≤4293800000) :
  Calls Tryz.prog 250 #[(.agg #[(vL A1 l c1),(vL A3 m c3)]),(vP bw 0)] w fun e w'=>∃ (A2:Option Addr) (c2:Nat),e = .returned (.tuple #[])∧aJ [aD bw 180 [(vL A (xs) c),(vi 0)],cB A (xs) c] w [aD bw 180 [(vL A2 (xs++((aE 3++(aE l.length++l.flatten))++(aE m.length++m.flatten))) c2),(vi 0)],cB A2 (xs++((aE 3++(aE l.length++l.flatten))++(aE m.length++m.flatten))) c2] w':=by
 refine bK Tryz.func250 14 (hO) rfl<|Nc<|Nx<|pB [(vL A1 l c1),(vL A3 m c3)] fun b2=>Nb<|lx rfl<|Nx<|iD [0,1] (fun w hM hO=>xA bw A c xs 3 w hO om om) fun A25 c25=>?_
 have hn1:=fG 3 om; have hn2:=fG l.length om; have hfl:=zV l h32
 refine Nb<|lx rfl<|lk (vP b2 0)<|lL 2 rfl<|Nx<|iD [0,1] (fun w hM hO=>DP bw A25 c25 (xs++aE 3) A1 c1 l w hO (r0.cK hM [0,1]) om ag (by simp only [List.length_append]; omega)) fun A29 c29=>Nv<|lx rfl<|lk (vP b2 1)<|lL 2 rfl<|Nx<|iD [0,1] (fun w hM hO=>DP bw A29 c29 ((xs++aE 3)++(aE l.length++l.flatten)) A3 c3 m w hO (r1.cK hM [0,1]) om ag (by simp only [List.length_append]; omega)) fun A213 c213=>aO<|kR [] rfl trivial (fun w hM=>⟨A213,c213,rfl,?_⟩)
 simp only [← List.append_assoc] at hM ⊢
 exact (hM.pick [0,1] rfl rfl)
theorem Sx (v:CV) (hfit:v.abs.fit) (bw:Nat) (A:Option Addr) (c:Nat) (xs:List UInt8) (w:World) (hO:cE [aD bw 180 [(vL A (xs) c),(vi 0)],cB A (xs) c] w) (r:Rf [aD bw 180 [(vL A (xs) c),(vi 0)],cB A (xs) c] w (fun w=>∀ q∈v.rows,aH w q.1 (SS q.2))) (hx:xs.length≤4293800000) :
  Calls Tryz.prog v.KL #[v.KK,vP bw 0] w fun e w'=>∃ (A2:Option Addr) (c2:Nat),e = .returned (.tuple #[])∧aJ [aD bw 180 [(vL A (xs) c),(vi 0)],cB A (xs) c] w [aD bw 180 [(vL A2 (xs++v.abs.enc) c2),(vi 0)],cB A2 (xs++v.abs.enc) c2] w':=by
 cases v with
 | sum n f=>exact Su bw A c xs n f w hO hfit.1 hfit.2 hx
 | list A1 c1 l=>exact Sv bw A c xs A1 c1 l w hO (r.imp fun _ h=>h (A1,l) (by simp [CV.rows])) hfit.1 hfit.2 hx
 | ans A1 c1 l A3 c3 m=>exact Sw bw A c xs A1 c1 l A3 c3 m w hO (r.imp fun _ h=>h (A1,l) (by simp [CV.rows])) (r.imp fun _ h=>h (A3,m) (by simp [CV.rows])) hfit.1.1 hfit.1.2 hfit.2.1 hfit.2.2 hx
theorem Sy (A1:Option Addr) (c1:Nat) (ps:List PV) (w:World) (h0:ps.length=0) :
  Calls Tryz.prog 181 #[(vL A1 ps c1)] w fun e w'=>e = .returned (.tuple #[nS,(vi 0)])∧aJ [] w [] w':=by
 exact dI Tryz.func181 40 (Mm.start w []) rfl<|Nc<|lx rfl<|Ne<|lx rfl<|lk (vI ps.length)<|lk (.bool ((((ps.length:Nat):Int):Int) == 0))<|Na<|lN rfl (by simp [h0])<|Nc<|lx rfl<|Nh<|sN [nS,(vi 0)] fun w hM=>⟨rfl,hM⟩
theorem Sz (A1:Option Addr) (c1:Nat) (ps:List PV) (w:World) (r0:Rf [] w (fun w=>aH w A1 (PS ps))) (r1:Rf [] w (zY ps)) (hfit:∀ p∈ps.map PV.abs,p.fit) (hne:ps.length≠0) (hsz:(bX (ps.map PV.abs)).length≤1048576) :
  Calls Tryz.prog 181 #[(vL A1 ps c1)] w fun e w'=>∃ (B:Option Addr) (cb:Nat),e = .returned (.tuple #[(vL B (bX (ps.map PV.abs)) cb),(vi 0)])∧aJ [] w [cB B (bX (ps.map PV.abs)) cb] w':=by
 refine dI Tryz.func181 40 (Mm.start w []) rfl<|Nc<|lx rfl<|Ne<|lx rfl<|lk (vI ps.length)<|lk (.bool ((((ps.length:Nat):Int):Int) == 0))<|Na<|eP rfl (by simpa using hne)<|Ni<|Nx<|gD (fun w hM=>Dn  w ) fun bw10=>lx rfl<|Nf ?_
 have henc:bX (ps.map PV.abs)=aE ps.length++(ps.map PV.abs).flatMap AP.enc:=by rw [bX,if_neg (by simpa using hne),List.length_map]
 have hel:(aE ps.length).length+((ps.map PV.abs).flatMap AP.enc).length≤4293800000:=by have e:=congrArg List.length henc; rw [List.length_append] at e; omega
 have hpl:ps.length≤((ps.map PV.abs).flatMap AP.enc).length:=by rw [← List.length_map (f:=PV.abs)]; exact CC _
 have hnb:eW.length=0:=rfl
 refine St.mem (fun w hM=>hM.gY 5 1)<|aF<|lx rfl<|lk (vI ps.length)<|Nx<|iD [0,1] (fun w hM hO=>Dp bw10 none 0 eW ps.length w hO om om) fun A214 c214=>Ne<|lx rfl<|lk (vI ps.length)<|lx rfl<|Ng<|sL (fun (i,AX,cX)=>i≤ps.length) (fun (i,AX,cX)=>ps.length - i) (fun (i,AX,cX)=>[(2,nS),(3,(vi 0)),(4,(vP bw10 0)),(15,(vL A1 ps c1)),(16,(vI ps.length)),(17,(vI i))]) (fun (i,AX,cX)=>[aD bw10 180 [(vL AX (eW++aE ps.length++((ps.map PV.abs).take i).flatMap AP.enc) cX),(vi 0)],cB AX (eW++aE ps.length++((ps.map PV.abs).take i).flatMap AP.enc) cX]) (0,A214,c214) (Nat.zero_le _) (fun w hM=>by show Mm _ _ [aD bw10 180 [(vL A214 (eW++aE ps.length++((ps.map PV.abs).take 0).flatMap AP.enc) c214),(vi 0)],cB A214 (eW++aE ps.length++((ps.map PV.abs).take 0).flatMap AP.enc) c214] w; rw [show eW++aE ps.length++((ps.map PV.abs).take 0).flatMap AP.enc=eW++aE ps.length from List.append_nil _]; exact hM) ?_
 rintro ⟨i,AX,cX⟩ (hok:i≤ps.length)
 dsimp only
 refine Nc<|lk (.bool (decide (((i:Nat):Int) < ((ps.length:Nat):Int)))) ?_
 refine aO (aI (aS (bD rfl (fun hc18=>?_) (fun hc18=>?_))))
 ·have hd18:=of_decide_eq_true hc18
  refine Nm<|aF ?_
  obtain ⟨x0,hx0⟩:∃ ξ,(ps)[i]?=some ξ:=⟨_,List.getElem?_eq_getElem om⟩
  refine St.xW (fun w hM=>r0.now hM) hx0 (fun p19 q19 hA19 hc19=>lw (vP p19 (q19+i*3)) (zZ (e:=246) rfl kr kr rfl rfl hA19 om)<|lw (.agg #[(vS x0.lo),(vS x0.hi),x0.c.val]) (gC [(vS x0.lo),(vS x0.hi),x0.c.val] rfl rfl kr kr (hc19))<|Nx<|pA [(.string ⟨#[]⟩),(.string ⟨#[]⟩),.nilIface] fun b6=>Nx<|gI 2 [(vS x0.lo),(vS x0.hi),x0.c.val] (vs:=[(vS x0.lo),(vS x0.hi),x0.c.val]) rfl rfl kr rfl rfl rfl kr rfl si (PV.one x0) rfl ?_)
  refine Nf ?_
  have hf0:=hfit _ (List.mem_map_of_mem (List.mem_of_getElem? hx0))
  have hxa:(ps.map PV.abs)[i]?=some x0.abs:=by rw [List.getElem?_map,hx0]; rfl
  have hle:=OR hxa
  have hpe:x0.abs.enc.length=(aE x0.lo.length).length+x0.lo.length+((aE x0.hi.length).length+x0.hi.length)+x0.c.abs.enc.length:=by simp only [AP.enc,PV.abs,List.length_append]
  have hf1:x0.lo.length≤32:=hf0.1
  have hf2:x0.hi.length≤32:=hf0.2.1
  refine aF<|lx rfl<|lk (vP b6 0)<|lk (vP b6 0)<|lL 2 rfl<|Nx<|iD [0,1] (fun w hM hO=>Ir bw10 AX cX (eW++aE ps.length++((ps.map PV.abs).take i).flatMap AP.enc) x0.lo w hO om (by simp only [List.length_append]; omega)) fun A225 c225=>Nb<|lx rfl<|lk (vP b6 0)<|lk (vP b6 1)<|lL 2 rfl<|Nx<|iD [0,1] (fun w hM hO=>Ir bw10 A225 c225 ((eW++aE ps.length++((ps.map PV.abs).take i).flatMap AP.enc)++aE x0.lo.length++x0.lo) x0.hi w hO om (by simp only [List.length_append]; omega)) fun A230 c230=>Na ?_
  dsimp only [bE,List.set,List.cons_append,List.nil_append]
  refine aF<|lk (vP b6 2)<|lL 2 rfl<|lx rfl<|Nx<|gO [0,1] [aD bw10 180 [(vL A230 (((eW++aE ps.length++((ps.map PV.abs).take i).flatMap AP.enc)++aE x0.lo.length++x0.lo)++aE x0.hi.length++x0.hi) c230),(vi 0)],cB A230 (((eW++aE ps.length++((ps.map PV.abs).take i).flatMap AP.enc)++aE x0.lo.length++x0.lo)++aE x0.hi.length++x0.hi) c230] (fun w hM hO=>(Sx x0.c hf0.2.2 bw10 A230 c230 (((eW++aE ps.length++((ps.map PV.abs).take i).flatMap AP.enc)++aE x0.lo.length++x0.lo)++aE x0.hi.length++x0.hi) w hO ((r1.cK hM [0,1]).imp fun _ h=>h x0 (List.mem_of_getElem? hx0)) (by simp only [List.length_append]; omega)).mono ?_) rfl rfl rfl kr (Pg rfl rfl rfl)
  rintro e w' ⟨A34,c34,rfl,hP⟩
  refine ⟨_,[_,_],_,rfl,hP,rfl,?_⟩; clear hP hM hO
  refine Nk<|aF<|lw (vI (i+1)) bO<|lx rfl<|Na ?_
  rw [show (((eW++aE ps.length++((ps.map PV.abs).take i).flatMap AP.enc)++aE x0.lo.length++x0.lo)++aE x0.hi.length++x0.hi)++x0.c.abs.enc=eW++aE ps.length++((ps.map PV.abs).take (i+1)).flatMap AP.enc from by rw [← Hc hxa]; simp only [AP.enc,PV.abs,List.append_assoc]]
  exact sA (i+1,A34,c34) (by show _≤_; omega) (by show ps.length - (i+1) < ps.length - i; omega) (fun w hM=>(hM.pick [0,1] rfl rfl))
 ·have hd18:=of_decide_eq_false hc18
  obtain rfl:i=ps.length:=om
  rw [show (ps.map PV.abs).take ps.length=ps.map PV.abs from by rw [← List.length_map (f:=PV.abs),List.take_length]]
  refine Nj ?_
  have hxe:eW++aE ps.length++(ps.map PV.abs).flatMap AP.enc=bX (ps.map PV.abs):=by rw [henc]; rfl
  rw [hxe]
  exact aF<|lx rfl<|Nx<|iD [0,1] (fun w hM hO=>Dr bw10 AX cX (bX (ps.map PV.abs)) w hO ag) fun A237 c237=>lx rfl<|Nd<|sN [(vL A237 (bX (ps.map PV.abs)) c237),(vi 0)] fun w hM=>⟨A237,c237,rfl,(hM.pick [2] rfl rfl)⟩
section
abbrev vA : List Bs := []
structure iJ (its : List Bs) (fan leaf : Nat) (A : Option Addr) (pvs : List PV) (i : Nat) (rp : List PV) (nl ol : List Bs) (L : List (Option Addr × List Bs)) : Prop where
 le : i ≤ pvs.length
 rep : rp.map PV.abs = (pvs.take i).flatMap fun p => lE its fan leaf p.abs
 need : nl = (pvs.take i).flatMap fun p => jI its p.abs
 off : ol = (pvs.take i).flatMap fun p => jJ its p.abs
 src : gX L A its rp
 len1 : rp.length ≤ i * 17
 len2 : nl.length ≤ i * 16384
 len3 : ol.length ≤ i * 16384
section
variable {its : List Bs} {fan leaf : Nat} {A : Option Addr} {pvs rp ps2 : List PV} {i : Nat} {nl ol : List Bs} {L M : List (Option Addr × List Bs)} {lo hi : Bs}
theorem iJ.zero:iJ its fan leaf A pvs 0 [] [] [] []:=⟨Nat.zero_le _,rfl,rfl,rfl,gX.nil,by rw [Nat.zero_mul]; exact Nat.le_refl 0,by rw [Nat.zero_mul]; exact Nat.le_refl 0,by rw [Nat.zero_mul]; exact Nat.le_refl 0⟩
theorem DQ {α:Type} {l:List α} {i:Nat} {x:α} (h:l[i]?=some x):i+1≤l.length:=(List.getElem?_eq_some_iff.1 h).1
theorem gX.UN (h:gX L A its rp) (k:gX [] A its ps2):gX L A its (rp++ps2):=by have:=h.append k; rwa [List.append_nil] at this
theorem JC {c:CV} (h:ps2.map PV.abs=lE its fan leaf (PV.abs ⟨lo,hi,c⟩)) (hr:sW (lE its fan leaf (PV.abs ⟨lo,hi,c⟩))):ps2.length≤17:=by rw [← List.length_map (f:=PV.abs),h]; exact hr.cnt
theorem iJ.sum (h:iJ its fan leaf A pvs i rp nl ol L) {n:Nat} {f:Bs} (hx:pvs[i]?=some ⟨lo,hi,.sum n f⟩) (he:ps2.map PV.abs=oS its fan leaf lo hi n f) (hs:gX [] A its ps2) (hr:sW (lE its fan leaf (PV.abs ⟨lo,hi,.sum n f⟩))):iJ its fan leaf A pvs (i+1) (rp++ps2) nl ol L:=by
 have hl:=JC (c:=.sum n f) he hr
 have h1:=h.len1
 have h2:=h.len2
 have h3:=h.len3
 refine ⟨DQ hx,?_,h.need.trans (DF hx rfl),h.off.trans (DF hx rfl),h.src.UN hs,?_,Nat.le_trans h2 (Nat.mul_le_mul_right _ (Nat.le_succ i)),Nat.le_trans h3 (Nat.mul_le_mul_right _ (Nat.le_succ i))⟩
 ·rw [List.map_append,h.rep,he]; exact sS (g:=fun p=>lE its fan leaf p.abs) hx
 ·rw [List.length_append]; omega
theorem iJ.list (h:iJ its fan leaf A pvs i rp nl ol L) {B:Option Addr} {c:Nat} {xs:List Bs} (hx:pvs[i]?=some ⟨lo,hi,.list B c xs⟩) (he:ps2.map PV.abs=pV its lo hi xs) (hs:gX M A its ps2) (hr:sW (lE its fan leaf (PV.abs ⟨lo,hi,.list B c xs⟩))) (hn:(jI its (PV.abs ⟨lo,hi,.list B c xs⟩)).length≤16384∧iN (jI its (PV.abs ⟨lo,hi,.list B c xs⟩))) (ho:(jJ its (PV.abs ⟨lo,hi,.list B c xs⟩)).length≤16384∧iN (jJ its (PV.abs ⟨lo,hi,.list B c xs⟩))) :
  iJ its fan leaf A pvs (i+1) (rp++ps2) (nl++aK xs its) (ol++aK (inL its lo hi) xs) (L++M):=by
 have hl:=JC (c:=.list B c xs) he hr
 have h1:=h.len1
 have h2:=h.len2
 have h3:=h.len3
 have h4:(aK xs its).length≤16384:=hn.1
 have h5:(aK (inL its lo hi) xs).length≤16384:=ho.1
 refine ⟨DQ hx,?_,?_,?_,h.src.append hs,?_,?_,?_⟩
 ·rw [List.map_append,h.rep,he]; exact sS (g:=fun p=>lE its fan leaf p.abs) hx
 ·rw [h.need]; exact sS (g:=fun p=>jI its p.abs) hx
 ·rw [h.off]; exact sS (g:=fun p=>jJ its p.abs) hx
 all_goals rw [List.length_append]; omega
theorem iJ.ans (h:iJ its fan leaf A pvs i rp nl ol L) {B B2:Option Addr} {c c2:Nat} {xs ms:List Bs} (hx:pvs[i]?=some ⟨lo,hi,.ans B c xs B2 c2 ms⟩) (hn:(jI its (PV.abs ⟨lo,hi,.ans B c xs B2 c2 ms⟩)).length≤16384∧iN (jI its (PV.abs ⟨lo,hi,.ans B c xs B2 c2 ms⟩))) (ho:(jJ its (PV.abs ⟨lo,hi,.ans B c xs B2 c2 ms⟩)).length≤16384∧iN (jJ its (PV.abs ⟨lo,hi,.ans B c xs B2 c2 ms⟩))) :
  iJ its fan leaf A pvs (i+1) rp (nl++aK xs its) (ol++dJ ms its) L:=by
 have h1:=h.len1
 have h2:=h.len2
 have h3:=h.len3
 have h4:(aK xs its).length≤16384:=hn.1
 have h5:(dJ ms its).length≤16384:=ho.1
 refine ⟨DQ hx,h.rep.trans (DF hx rfl),?_,?_,h.src,om,?_,?_⟩
 ·rw [h.need]; exact sS (g:=fun p=>jI its p.abs) hx
 ·rw [h.off]; exact sS (g:=fun p=>jJ its p.abs) hx
 all_goals rw [List.length_append]; omega
theorem DR {β:Type} (g:AP→List β) {ps:List AP} (h:pvs.map PV.abs=ps):(pvs.take pvs.length).flatMap (fun p=>g p.abs)=ps.flatMap g:=by rw [← h,List.take_length,List.flatMap_map]
theorem iJ.UO (h:iJ its fan leaf A pvs pvs.length rp nl ol L) {ps:List AP} (he:pvs.map PV.abs=ps):rp.map PV.abs=fA its fan leaf ps:=h.rep.trans (DR _ he)
theorem iJ.UP (h:iJ its fan leaf A pvs pvs.length rp nl ol L) {ps:List AP} (he:pvs.map PV.abs=ps):nl=ps.flatMap (jI its):=h.need.trans (DR _ he)
theorem iJ.UQ (h:iJ its fan leaf A pvs pvs.length rp nl ol L) {ps:List AP} (he:pvs.map PV.abs=ps):ol=ps.flatMap (jJ its):=h.off.trans (DR _ he)
end
abbrev DS : List PV := []
theorem JD (A1:Option Addr) (c1:Nat) (ps:List PV) (w:World) (r0:Rf [] w (fun w=>aH w A1 (PS ps))) (r1:Rf [] w (zY ps)) (hfit:∀ p∈ps.map PV.abs,p.fit) (hsz:(bX (ps.map PV.abs)).length≤1048576) :
  Calls Tryz.prog 181 #[(vL A1 ps c1)] w fun e w'=>∃ (B:Option Addr) (cb:Nat),e = .returned (.tuple #[(vL B (bX (ps.map PV.abs)) cb),(vi 0)])∧aJ [] w [cB B (bX (ps.map PV.abs)) cb] w':=by
 by_cases h0:ps.length=0
 ·refine (Sy A1 c1 ps w h0).mono ?_
  rintro e w' ⟨rfl,hB⟩
  have e0:bX (ps.map PV.abs)=[]:=by rw [bX,if_pos (by rw [List.length_map]; exact h0)]
  rw [e0]
  exact ⟨none,0,rfl,hB.gY 5 1⟩
 ·exact Sz A1 c1 ps w r0 r1 hfit h0 hsz
theorem SA (bs:Nat) (A:Option Addr) (c:Nat) (its:List (List UInt8)) (fan leaf:Nat) (nm om:Nat) (A1:Option Addr) (c1:Nat) (D:List UInt8) (S S2:List (List UInt8)) (ps:List AP) (w:World) (hO:cE [aN nm (S),aN om (S2)] w) (r0:Rf [aN nm (S),aN om (S2)] w (cI)) (r1:Rf [aN nm (S),aN om (S2)] w (iM bs A c its fan leaf nm om)) (r2:Rf [aN nm (S),aN om (S2)] w (fun w=>aH w A1 (B8 D))) (hs:cJ its) (hn:its.length≤1000) (hcap:its.length≤c) (h40:its.length≤40) (hf:2≤fan) (hf2:fan≤16) (hl1:1≤leaf) (hl2:leaf≤64) (hD:D.length≤1048576) (hS:S.length≤549755813888) (hT:S2.length≤549755813888) (hne:¬ D.length=0) (hd:kC D=some ps) (hsz:(bX (fA its fan leaf ps)).length≤1048576) :
  Calls Tryz.prog 152 #[(vP bs 0),(vL A1 D c1)] w fun e w'=>∃ (B:Option Addr) (cb:Nat),e = .returned (.tuple #[(vL B (bX (fA its fan leaf ps)) cb),(vi 0)])∧aJ [aN nm (S),aN om (S2)] w [aN nm (S++ps.flatMap (jI its)),aN om (S2++ps.flatMap (jJ its)),cB B (bX (fA its fan leaf ps)) cb] w':=by
 have ra:=r1.imp (fun _ h=>h.1)
 have rb:=r1.imp (fun _ h=>h.2)
 refine bK Tryz.func152 110 (hO) rfl<|Nc<|lx rfl<|Ne<|lx rfl<|lk (vI D.length)<|lk (.bool ((((D.length:Nat):Int):Int) == 0))<|Na<|eP rfl (by simpa using hne)<|Ni<|lx rfl<|Nx<|gU (fun w hM=>(Sq A1 c1 D ps w (r2.aQ hM) ag ag).mono ?_)
 rintro e w' ⟨R24,rc24,pvs24,L24,rfl,hP,heq24,hsrc24⟩
 refine ⟨_,_,rfl,hP,?_⟩; clear hP hM
 obtain ⟨_,hmsg,hpl⟩:=Ht hd
 have hok:∀ p∈ps,p.ok:=hmsg.2.1
 have hpl2:pvs24.length=ps.length:=by rw [← heq24,List.length_map]
 refine lx rfl<|Ne<|lx rfl<|lF<|Nn<|aF<|Nx<|pA [nS,nS,nS] fun b8=>Ne<|lx rfl<|lk (vI ((pvs24).length))<|lx rfl<|Ng<|St.mem (fun w hM=>hM.gY 246 3)<|St.mem (fun w hM=>hM.gY 9 1)<|St.mem (fun w hM=>hM.gY 9 1)<|St.mem (fun w hM=>Mm.tE hM)<|sL (fun (i,RX,rcX,rp,NX,ncX,nl,OX,ocX,ol,LX)=>iJ its fan leaf A pvs24 i rp nl ol LX) (fun (i,RX,rcX,rp,NX,ncX,nl,OX,ocX,ol,LX)=>pvs24.length - i) (fun (i,RX,rcX,rp,NX,ncX,nl,OX,ocX,ol,LX)=>[(0,(vP bs 0)),(4,nS),(5,(vi 0)),(7,(vi 0)),(8,(vP b8 0)),(30,(vL R24 (pvs24) rc24)),(31,(vI ((pvs24).length))),(32,(vI i))]) (fun (i,RX,rcX,rp,NX,ncX,nl,OX,ocX,ol,LX)=>[aN nm (S),aN om (S2),cP R24 (pvs24) rc24,dG (L24),aD b8 240 [(vL RX (rp) rcX),(vL NX (nl) ncX),(vL OX (ol) ocX)],cP RX (rp) rcX,cS NX (nl) ncX,cS OX (ol) ocX,dG (LX)]) (0,none,0,DS,none,0,vA,none,0,vA,[]) iJ.zero (fun w hM=>by show Mm _ _ [aN nm (S),aN om (S2),cP R24 (pvs24) rc24,dG (L24),aD b8 240 [(vL none (DS) 0),(vL none (vA) 0),(vL none (vA) 0)],cP none (DS) 0,cS none (vA) 0,cS none (vA) 0,dG ([])] w; exact hM) ?_
 rintro ⟨i,RX,rcX,rp,NX,ncX,nl,OX,ocX,ol,LX⟩ (hinv:iJ its fan leaf A pvs24 i rp nl ol LX)
 dsimp only
 refine Nc<|lk (.bool (decide (((i:Nat):Int) < (((pvs24).length:Nat):Int)))) ?_
 refine aO (aI (aS (bD rfl (fun hc33=>?_) (fun hc33=>?_))))
 ·have hd33:=of_decide_eq_true hc33
  have hil:=hinv.le; have hil1:=hinv.len1; have hil2:=hinv.len2; have hil3:=hinv.len3
  refine Nm<|aF ?_
  obtain ⟨x0,hx0⟩:∃ ξ,(pvs24)[i]?=some ξ:=⟨_,List.getElem?_eq_getElem (by omega)⟩
  refine St.xW (fun w hM=>wZ (i:=2) rfl w hM) hx0 (fun p34 q34 hA34 hc34=>lv (v:=(vP p34 (q34+i*3))) (zZ (e:=246) rfl (by kernel_rfl) (by kernel_rfl) rfl rfl hA34 (by omega)) ?_)
  refine lw (.agg #[(vS x0.lo),(vS x0.hi),x0.c.val]) (gC [(vS x0.lo),(vS x0.hi),x0.c.val] rfl rfl kr kr (hc34))<|Nx<|pA [(.string ⟨#[]⟩),(.string ⟨#[]⟩),.nilIface] fun b10=>Nx<|gI 9 [(vS x0.lo),(vS x0.hi),x0.c.val] (vs:=[(vS x0.lo),(vS x0.hi),x0.c.val]) rfl rfl kr rfl rfl rfl kr rfl si (PV.one x0) rfl ?_
  refine Nb<|lk (vP b10 2)<|lL 9 rfl<|Ng<|aS ?_
  dsimp only [bE,List.set,List.cons_append,List.nil_append]
  have hp0:x0.abs.ok:=hok _ (by rw [← heq24]; exact List.mem_map_of_mem (List.mem_of_getElem? hx0))
  obtain ⟨xlo,xhi,xc⟩:=x0
  cases xc with
  | sum xn xf =>
    dsimp only [bE,List.set,List.cons_append,List.nil_append]
    refine aF<|lk (.tuple #[(.agg #[(vI xn),(vS xf)]),bT])<|lx rfl<|No<|Nx<|pA [(vi 0),(.string ⟨#[]⟩)] fun b11=>Nx<|pT 10 [(vI xn),(vS xf)] rfl<|Nv<|lx rfl<|lk (vP b10 0)<|lW (rA 9 [(vS xlo),(vS xhi)])<|lW (rA 10 [(vI xn),(vS xf)])<|Nx<|gO [4,5] _ (fun w hM hO=>(Sr bs A c its fan leaf nm om xlo xhi xn xf b8 RX rcX rp (vL NX (nl) ncX) (vL OX (ol) ocX) w hO (r0.cK hM [4,5]) (r1.cK hM [4,5]) (by assumption) (by assumption) (by assumption) (by omega) (by omega) (by omega) (by omega) (by omega)).mono ?_)
    rintro e w' ⟨R245,rc245,ps245,rfl,hP,heq45,hsrc45⟩
    refine ⟨_,[_,_],_,rfl,hP,rfl,?_⟩; clear hP hM hO
    refine Ns<|nY<|aI<|aF<|lw (vI (i+1)) bO<|lx rfl<|Na ?_
    have hnext:iJ its fan leaf A pvs24 (i+1) (rp++ps245) nl ol LX:=hinv.sum hx0 heq45 hsrc45 (Ay hs h40 hf hf2 hl1 hp0)
    exact sA (i+1,R245,rc245,rp++ps245,NX,ncX,nl,OX,ocX,ol,LX) (hnext) (by show pvs24.length - (i+1) < pvs24.length - i; omega) (fun w hM=>(hM.pick [0,1,2,3,4,5,6,7,8] rfl rfl))
  | list XA xca xl =>
    dsimp only [bE,List.set,List.cons_append,List.nil_append]
    have hsx:(XA,xl)∈L24:=hsrc24 _ (List.mem_of_getElem? hx0) (XA,xl) (by simp [CV.rows])
    refine aF<|lk (.tuple #[(.agg #[(vi 0),(.string ⟨#[]⟩)]),bF])<|lx rfl<|Np<|aF<|lk (.tuple #[(.agg #[(vL XA xl xca)]),bT])<|lx rfl<|No<|Nx<|pA [nS] fun b12=>Nx<|pT 10 [(vL XA xl xca)] rfl<|Nv<|lx rfl<|lk (vP b10 0)<|lW (rA 9 [(vS xlo),(vS xhi)])<|lW (rA 10 [(vL XA xl xca)])<|Nx<|gO [4,5,6,7] _ (fun w hM hO=>(Ss bs A c its fan leaf nm om xlo xhi XA xca xl b8 RX rcX rp NX ncX nl OX ocX ol w hO (r1.cK hM [4,5,6,7]) (hM.gM [4,5,6,7] (j:=3) rfl (fun w h=>(h (XA,xl) hsx).1)) (by assumption) (by assumption) (by assumption) (by omega) (Nat.le_trans hp0.2.1 (by omega)) (fun x hx=>Nat.le_trans (Nat.le_of_eq (hp0.2.2.1 x hx)) (by omega)) (by omega) (by omega)).mono ?_)
    rintro e w' ⟨R253,rc253,ps253,N253,nc253,O253,oc253,L253,rfl,hP,heq53,hsrc53⟩
    refine ⟨_,[_,_,_,_],_,rfl,hP,rfl,?_⟩; clear hP hM hO
    refine Ns<|nY<|aI<|aF<|lw (vI (i+1)) bO<|lx rfl<|Na ?_
    have hnext:iJ its fan leaf A pvs24 (i+1) (rp++ps253) (nl++aK xl its) (ol++aK (inL its xlo xhi) xl) (LX++L253):=hinv.list hx0 heq53 hsrc53 (Ay hs h40 hf hf2 hl1 hp0) (Az hp0) (AA hs h40 hp0)
    exact sA (i+1,R253,rc253,rp++ps253,N253,nc253,nl++aK xl its,O253,oc253,ol++aK (inL its xlo xhi) xl,LX++L253) (hnext) (by show pvs24.length - (i+1) < pvs24.length - i; omega) (fun w hM=>by show Mm _ _ [aN nm (S),aN om (S2),cP R24 (pvs24) rc24,dG (L24),aD b8 240 [(vL R253 (rp++ps253) rc253),(vL N253 (nl++aK xl its) nc253),(vL O253 (ol++aK (inL its xlo xhi) xl) oc253)],cP R253 (rp++ps253) rc253,cS N253 (nl++aK xl its) nc253,cS O253 (ol++aK (inL its xlo xhi) xl) oc253,dG (LX++L253)] w; exact Mm.join (cs:=[aN nm (S),aN om (S2),cP R24 (pvs24) rc24,dG (L24),aD b8 240 [(vL R253 (rp++ps253) rc253),(vL N253 (nl++aK xl its) nc253),(vL O253 (ol++aK (inL its xlo xhi) xl) oc253)],cP R253 (rp++ps253) rc253,cS N253 (nl++aK xl its) nc253,cS O253 (ol++aK (inL its xlo xhi) xl) oc253]) (L:=LX) (M:=L253) ((hM.pick [0,1,2,3,4,5,6,7,8,11] rfl rfl)))
  | ans XA xca xl XB xcb xm =>
    dsimp only [bE,List.set,List.cons_append,List.nil_append]
    have hsx:(XA,xl)∈L24:=hsrc24 _ (List.mem_of_getElem? hx0) (XA,xl) (by simp [CV.rows])
    have hsm:(XB,xm)∈L24:=hsrc24 _ (List.mem_of_getElem? hx0) (XB,xm) (by simp [CV.rows])
    refine aF<|lk (.tuple #[(.agg #[(vi 0),(.string ⟨#[]⟩)]),bF])<|lx rfl<|Np<|aF<|lk (.tuple #[(.agg #[nS]),bF])<|lx rfl<|Np<|aF<|lk (.tuple #[(.agg #[(vL XA xl xca),(vL XB xm xcb)]),bT])<|lx rfl<|No<|Nx<|pA [nS,nS] fun b13=>Nx<|pT 10 [(vL XA xl xca),(vL XB xm xcb)] rfl<|Nv<|lx rfl<|lW (rA 10 [(vL XA xl xca),(vL XB xm xcb)])<|Nx<|gO [4,6,7] _ (fun w hM hO=>(QX bs A c its fan leaf nm om XA xca xl XB xcb xm b8 (vL RX (rp) rcX) NX ncX nl OX ocX ol w hO (r1.cK hM [4,6,7]) (hM.gM [4,6,7] (j:=3) rfl (fun w h=>(h (XA,xl) hsx).1)) (hM.gM [4,6,7] (j:=3) rfl (fun w h=>(h (XB,xm) hsm).1)) (by assumption) (by assumption) (Nat.le_trans hp0.2.1.1 (by omega)) (Nat.le_trans hp0.2.2.1 (by omega)) (by omega) (by omega) (rfl)).mono ?_)
    rintro e w' ⟨N259,nc259,O259,oc259,rfl,hP⟩
    refine ⟨_,[_,_,_],_,rfl,hP,rfl,?_⟩; clear hP hM hO
    refine Ns<|nY<|aI<|aF<|lw (vI (i+1)) bO<|lx rfl<|Na ?_
    have hnext:iJ its fan leaf A pvs24 (i+1) rp (nl++aK xl its) (ol++dJ xm its) LX:=hinv.ans hx0 (Az hp0) (AA hs h40 hp0)
    exact sA (i+1,RX,rcX,rp,N259,nc259,nl++aK xl its,O259,oc259,ol++dJ xm its,LX) (hnext) (by show pvs24.length - (i+1) < pvs24.length - i; omega) (fun w hM=>(hM.pick [0,1,2,3,4,5,6,7,8] rfl rfl))
 ·have hd33:=of_decide_eq_false hc33
  have hil:=hinv.le; have hil1:=hinv.len1; have hil2:=hinv.len2; have hil3:=hinv.len3
  obtain rfl:i=pvs24.length:=by omega
  have hrp':rp.map PV.abs=fA its fan leaf ps:=hinv.UO heq24
  have hnl':nl=ps.flatMap (jI its):=hinv.UP heq24
  have hol':ol=ps.flatMap (jJ its):=hinv.UQ heq24
  have hrfit:∀ p∈rp.map PV.abs,p.fit:=by rw [hrp']; exact RW hs h40 hf hf2 hl1 hok
  have hn32:∀ x∈nl,x.length=32:=by rw [hnl']; exact Jm fun p hp=>(Az (hok p hp)).2
  have ho32:∀ x∈ol,x.length=32:=by rw [hol']; exact Jm fun p hp=>(AA hs h40 (hok p hp)).2
  have henc:=Jl hs h40 hf hf2 hl1 (leaf:=leaf) hok
  have hrl:rp.length=(fA its fan leaf ps).length:=by rw [← hrp',List.length_map]
  refine Nj<|aF<|lk (vP b8 0)<|lL 4 rfl<|Nx<|dW (fun w hM=>JD RX rcX rp w (hM.bB (j:=5) rfl (fun _ h=>Pf h)) ((Ro.and (hM.bB (j:=8) rfl (fun w h=>h)) (rb.aQ hM)).imp (fun w h=>hinv.src.ok h.1 h.2)) (hrfit) (by rw [hrp']; exact hsz)) fun B64 cb64=>?_
  rw [show rp.map PV.abs=fA its fan leaf ps from hrp']
  refine lx rfl<|Nf<|aS ?_
  dsimp only [bE,List.set,List.cons_append,List.nil_append]
  refine aF<|lx rfl<|lF<|Nn<|Nc<|lx rfl<|lk (vP bs 0)<|lk (vP bs 3)<|lW (rW (fun w hM=>At.cell (ra.now hM) 3))<|lF<|Nn<|Nc<|lk (vP b8 1)<|lL 4 rfl<|lk (vI ((nl).length))<|lx rfl<|Ng<|sL (fun j=>j≤nl.length) (fun j=>nl.length - j) (fun j=>[(0,(vP bs 0)),(4,nS),(5,(vi 0)),(8,(vP b8 0)),(14,(vL B64 (bX (fA its fan leaf ps)) cb64)),(84,(vL NX (nl) ncX)),(85,(vI ((nl).length))),(86,(vI j))]) (fun j=>[aN nm (S++nl.take j),aN om (S2),cP R24 (pvs24) rc24,dG (L24),aD b8 240 [(vL RX (rp) rcX),(vL NX (nl) ncX),(vL OX (ol) ocX)],cP RX (rp) rcX,cS NX (nl) ncX,cS OX (ol) ocX,dG (LX),cB B64 (bX (fA its fan leaf ps)) cb64]) 0 (Nat.zero_le _) (fun w hM=>by show Mm _ _ [aN nm (S++nl.take 0),aN om (S2),cP R24 (pvs24) rc24,dG (L24),aD b8 240 [(vL RX (rp) rcX),(vL NX (nl) ncX),(vL OX (ol) ocX)],cP RX (rp) rcX,cS NX (nl) ncX,cS OX (ol) ocX,dG (LX),cB B64 (bX (fA its fan leaf ps)) cb64] w; rw [List.take_zero,List.append_nil]; exact hM) ?_
  intro j hj
  show St _ _ _ [(0,(vP bs 0)),(4,nS),(5,(vi 0)),(8,(vP b8 0)),(14,(vL B64 (bX (fA its fan leaf ps)) cb64)),(84,(vL NX (nl) ncX)),(85,(vI ((nl).length))),(86,(vI j))] [aN nm (S++nl.take j),aN om (S2),cP R24 (pvs24) rc24,dG (L24),aD b8 240 [(vL RX (rp) rcX),(vL NX (nl) ncX),(vL OX (ol) ocX)],cP RX (rp) rcX,cS NX (nl) ncX,cS OX (ol) ocX,dG (LX),cB B64 (bX (fA its fan leaf ps)) cb64] _
  refine Nc<|lk (.bool (decide (((j:Nat):Int) < (((nl).length:Nat):Int)))) ?_
  refine aO (aI (aS (bD rfl (fun hc87=>?_) (fun hc87=>?_))))
  ·have hd87:=of_decide_eq_true hc87
   refine Nm<|aF ?_
   obtain ⟨x0,hx0⟩:∃ ξ,(nl)[j]?=some ξ:=⟨_,List.getElem?_eq_getElem (by omega)⟩
   refine St.eY (fun w hM=>gJ (i:=6) rfl w hM) (fR hx0) (fun p88 q88 hA88 hc88=>lw (vP p88 (q88+j)) (rR 9 hA88)<|lW (rW hc88)<|lx rfl<|Nv<|lx rfl<|lk (vP bs 0)<|lk (vP bs 3)<|lW (rW (fun w hM=>At.cell (ra.now hM) 3))<|lx rfl<|Nx<|Cl 0 rfl rfl kr rfl rfl rfl rfl (by have h:=hn32 _ (List.mem_of_getElem? hx0); omega) (by rw [List.length_append,List.length_take]; omega)<|Nk<|aF<|lw (vI (j+1)) bO<|lx rfl<|Na ?_)
   rw [show S++nl.take j++[x0]=S++nl.take (j+1) from by rw [List.append_assoc,uK hx0]]
   exact sA (j+1) (by show _≤_; omega) (by show nl.length - (j+1) < nl.length - j; omega) (fun w hM=>hM)
  ·have hd87:=of_decide_eq_false hc87
   obtain rfl:j=nl.length:=by omega
   rw [List.take_length]
   refine Nj<|Nc<|lk (vP b8 2)<|lL 4 rfl<|lk (vI ((ol).length))<|lx rfl<|Ng<|sL (fun j=>j≤ol.length) (fun j=>ol.length - j) (fun j=>[(0,(vP bs 0)),(4,nS),(5,(vi 0)),(14,(vL B64 (bX (fA its fan leaf ps)) cb64)),(97,(vL OX (ol) ocX)),(98,(vI ((ol).length))),(99,(vI j))]) (fun j=>[aN nm (S++nl),aN om (S2++ol.take j),cP R24 (pvs24) rc24,dG (L24),aD b8 240 [(vL RX (rp) rcX),(vL NX (nl) ncX),(vL OX (ol) ocX)],cP RX (rp) rcX,cS NX (nl) ncX,cS OX (ol) ocX,dG (LX),cB B64 (bX (fA its fan leaf ps)) cb64]) 0 (Nat.zero_le _) (fun w hM=>by show Mm _ _ [aN nm (S++nl),aN om (S2++ol.take 0),cP R24 (pvs24) rc24,dG (L24),aD b8 240 [(vL RX (rp) rcX),(vL NX (nl) ncX),(vL OX (ol) ocX)],cP RX (rp) rcX,cS NX (nl) ncX,cS OX (ol) ocX,dG (LX),cB B64 (bX (fA its fan leaf ps)) cb64] w; rw [List.take_zero,List.append_nil]; exact hM) ?_
   intro j hj
   show St _ _ _ [(0,(vP bs 0)),(4,nS),(5,(vi 0)),(14,(vL B64 (bX (fA its fan leaf ps)) cb64)),(97,(vL OX (ol) ocX)),(98,(vI ((ol).length))),(99,(vI j))] [aN nm (S++nl),aN om (S2++ol.take j),cP R24 (pvs24) rc24,dG (L24),aD b8 240 [(vL RX (rp) rcX),(vL NX (nl) ncX),(vL OX (ol) ocX)],cP RX (rp) rcX,cS NX (nl) ncX,cS OX (ol) ocX,dG (LX),cB B64 (bX (fA its fan leaf ps)) cb64] _
   refine Nc<|lk (.bool (decide (((j:Nat):Int) < (((ol).length:Nat):Int)))) ?_
   refine aO (aI (aS (bD rfl (fun hc100=>?_) (fun hc100=>?_))))
   ·have hd100:=of_decide_eq_true hc100
    refine Nm<|aF ?_
    obtain ⟨x0,hx0⟩:∃ ξ,(ol)[j]?=some ξ:=⟨_,List.getElem?_eq_getElem (by omega)⟩
    refine St.eY (fun w hM=>gJ (i:=7) rfl w hM) (fR hx0) (fun p101 q101 hA101 hc101=>lw (vP p101 (q101+j)) (rR 9 hA101)<|lW (rW hc101)<|lx rfl<|Nv<|lx rfl<|lk (vP bs 0)<|lk (vP bs 4)<|lW (rW (fun w hM=>At.cell (ra.now hM) 4))<|lx rfl<|Nx<|Cl 1 rfl rfl kr rfl rfl rfl rfl (by have h:=ho32 _ (List.mem_of_getElem? hx0); omega) (by rw [List.length_append,List.length_take]; omega)<|Nk<|aF<|lw (vI (j+1)) bO<|lx rfl<|Na ?_)
    rw [show S2++ol.take j++[x0]=S2++ol.take (j+1) from by rw [List.append_assoc,uK hx0]]
    exact sA (j+1) (by show _≤_; omega) (by show ol.length - (j+1) < ol.length - j; omega) (fun w hM=>hM)
   ·have hd100:=of_decide_eq_false hc100
    obtain rfl:j=ol.length:=by omega
    rw [List.take_length]
    refine Nj<|aF<|lx rfl<|Nd<|sN [(vL B64 (bX (fA its fan leaf ps)) cb64),(vi 0)] fun w hM=>⟨B64,cb64,rfl,?_⟩
    rw [← hnl',← hol']
    exact (hM.pick [0,1,9] rfl rfl)
theorem JE (bs:Nat) (A:Option Addr) (c:Nat) (its:List (List UInt8)) (fan leaf:Nat) (nm om:Nat) (A1:Option Addr) (c1:Nat) (D:List UInt8) (S S2:List (List UInt8)) (w:World) (hO:cE [aN nm (S),aN om (S2)] w) (r0:Rf [aN nm (S),aN om (S2)] w (cI)) (r1:Rf [aN nm (S),aN om (S2)] w (iM bs A c its fan leaf nm om)) (r2:Rf [aN nm (S),aN om (S2)] w (fun w=>aH w A1 (B8 D))) (hs:cJ its) (hn:its.length≤1000) (hcap:its.length≤c) (h40:its.length≤40) (hf:2≤fan) (hf2:fan≤16) (hl1:1≤leaf) (hl2:leaf≤64) (hD:D.length≤1048576) (hS:S.length≤549755813888) (hT:S2.length≤549755813888) (hDn:D≠[]) (her:(dA its fan leaf D).err=0) :
  Calls Tryz.prog 152 #[(vP bs 0),(vL A1 D c1)] w fun e w'=>∃ (B:Option Addr) (cb:Nat),e = .returned (.tuple #[(vL B ((dA its fan leaf D).reply) cb),(.int .i64 (dA its fan leaf D).err)])∧aJ [aN nm (S),aN om (S2)] w [aN nm (S++(dA its fan leaf D).need),aN om (S2++(dA its fan leaf D).off),cB B ((dA its fan leaf D).reply) cb] w':=by
 have h0:¬ D.length=0:=fun e=>hDn (List.eq_nil_of_length_eq_zero e)
 unfold dA at her ⊢
 rw [if_neg hDn] at her ⊢
 cases hd:kC D with
 | none=>rw [hd] at her; exact absurd her (by show ¬ (3:Int)=0; decide)
 | some ps =>
   rw [hd] at her
   dsimp only at her ⊢
   split at her
   ·exact absurd her (by show ¬ (2:Int)=0; decide)
   ·rename_i hsz
    rw [if_neg hsz]
    exact SA bs A c its fan leaf nm om A1 c1 D S S2 ps w hO r0 r1 r2 hs hn hcap h40 hf hf2 hl1 hl2 hD hS hT h0 hd (by omega)
end
theorem SB {its lo hi:_} {w:World}:zY [lC its lo hi] w:=fun p hp r hr=>by rw [List.mem_singleton.1 hp] at hr; cases hr
theorem SC {w:World} {α:Type} {f:α→Value} {l:List α} (h:aH w none (l.map f)):l=[]:=by
 cases l with
 | nil=>rfl
 | cons x l=>obtain ⟨b,o,h1,_⟩:=h 0 _ rfl; cases h1
theorem sY (A:Option Addr) (c:Nat) (l:List (List UInt8)) (w:World) (r0:Rf [] w (fun w=>aH w A (SS l))) (hl4:l.length≤4294967296) :
  Calls Tryz.prog 45 #[(vL A l c)] w fun e w'=>∃ (B:Option Addr) (cb:Nat),e = .returned (vL B l cb)∧aJ [] w [cS B l cb] w':=by
 refine dI Tryz.func45 8 (Mm.start w []) rfl<|Nc<|lx rfl<|Ne<|lx rfl<|lw (.bool A.isNone) (by cases A <;> exact fL fun _=>by kernel_rfl) ?_
 refine aO (aI (bD rfl (fun hc4=>?_) (fun hc4=>?_)))
 ·obtain rfl:A=none:=by cases A with | none=>rfl | some _=>cases hc4
  obtain rfl:l=[]:=SC r0.here
  exact St.mem (fun w hM=>hM.gY 9 1)<|Nc<|lx rfl<|Nh<|sN [nS] fun w hM=>⟨none,0,rfl,hM⟩
 ·exact Ni<|Nx<|pN 0 9 [] fun b5=>lx rfl<|Nx<|rS (fun w hM=>hM.Ee 0 rfl 1)<|cY mH 0 (SS l) rfl rfl kr rfl rfl rfl si (fun w hM=>dV.jW (r0.now hM)) (yN) om ((l).length) fN (SS (l)) (by simp [SS]) (fun A7 c7=>lx rfl<|Nd<|sN [(vL A7 (l) c7)] fun w hM=>⟨A7,c7,rfl,hM⟩)
theorem JF (A : Option Addr) (c : Nat) (l : List (List UInt8)) (fan : Nat) (leaf : Nat) (w : World) (r0 : Rf [] w (fun w => aH w A (SS l))) (hl4 : l.length ≤ 4294967296) (hp : pR (fan : Int) (leaf : Int) = true) (he : dR l = 0) :
  Calls Tryz.prog 44 #[(vL A l c), (.agg #[(vI fan), (vI leaf)])] w fun e w' => ∃ (bs : Nat) (A2 : Option Addr) (c2 : Nat) (nm : Nat) (om : Nat), e = .returned (.tuple #[(vP bs 0), (vi 0)]) ∧ aJ [] w [aD bs 149 [(vL A2 l c2), (vI fan), (vI leaf), (.map (some nm)), (.map (some om))], cS A2 l c2, aN nm ([]), aN om ([])] w':=by
 refine bK Tryz.func44 22 (Mm.start w []) rfl<|Nc<|Nx<|pB [(vI fan),(vI leaf)] fun b3=>lx rfl<|Ne<|lW (rA 0 [(vI fan),(vI leaf)])<|Nx<|bP (fun w hM=>OS ((fan:Nat):Int) ((leaf:Nat):Int) w )<|lk (.bool (!(pR ((fan:Nat):Int) ((leaf:Nat):Int))))<|Na<|eP rfl (by simp [hp])<|Nl<|Nc<|lx rfl<|Nx<|bP (fun w hM=>CD A c l w (r0.aQ hM) om)<|lx rfl<|Nb<|lx rfl<|lk (.bool (((dR l):Int) != 0))<|Na<|eP rfl (by simp [he]) ?_
 refine fI (aI (nX (ι:=Option Addr × Nat × Nat × Nat × Nat) (fun _=>True) (fun (B16,cb16,m18,m19,b21)=>[(0,(vL A l c)),(1,(.agg #[(vI fan),(vI leaf)])),(3,(vP b3 0)),(4,(vP b21 0)),(5,(vi 0)),(7,(.agg #[(vI fan),(vI leaf)])),(8,(.bool (pR ((fan:Nat):Int) ((leaf:Nat):Int)))),(9,(.bool (!(pR ((fan:Nat):Int) ((leaf:Nat):Int))))),(10,(vL A l c)),(11,(vi (dR l))),(6,(vi (dR l))),(12,(vi (dR l))),(13,(.bool (((dR l):Int) != 0))),(15,(vL A l c)),(17,(.agg #[(vI fan),(vI leaf)])),(16,(vL B16 l cb16)),(18,(.map (some m18))),(19,(.map (some m19))),(20,(.agg #[(vL B16 l cb16),(vI fan),(vI leaf),(.map (some m18)),(.map (some m19))])),(21,(vP b21 0))]) (fun (B16,cb16,m18,m19,b21)=>[aD b3 97 [(vI fan),(vI leaf)],cS B16 l cb16,aN m18 ([]),aN m19 ([]),aD b21 149 [(vL B16 l cb16),(vI fan),(vI leaf),(.map (some m18)),(.map (some m19))]]) ?_ ?_))
 ·refine cQ _ 9 kr (fun _ h=>h)<|am 0 ?_
  refine aV 2 _ rfl (rA 0 [(vI fan),(vI leaf)]) ?_
  refine LI (i:=1) (j:=3) (k:=4) kr rfl rfl rfl rfl rfl rfl ?_ ?_ ?_
  ·refine dW (fun w hM=>sY A c l w (r0.aQ hM) om) fun B16 cb16=>?_
   dsimp only [bE,List.set,List.cons_append,List.nil_append]
   refine aP _ (fun _ h=>h.pick [0] rfl rfl) (fun _ h=>h) ?_
   refine kT (i:=3) (j:=4) kr rfl rfl rfl rfl ?_ ?_
   ·refine nH rfl rfl kr (fun m18=>aP _ (fun _ h=>h.pick [0,1] rfl rfl) (fun _ h=>h)<|aA 4 rfl<|nH rfl rfl kr (fun m19=>aP _ (fun _ h=>h.pick [0,1,2] rfl rfl) (fun _ h=>h)<|aC 5 (.agg #[(vL B16 l cb16),(vI fan),(vI leaf),(.map (some m18)),(.map (some m19))]) rfl<|aA 6 rfl<|pB [(vL B16 l cb16),(vI fan),(vI leaf),(.map (some m18)),(.map (some m19))] fun b21=>aP _ (fun _ h=>h.pick [0,1,2,3] rfl rfl) (fun _ h=>h)<|aa 7 ?_))
    refine aa 8 ?_
    exact cF kr<|aI (sM (B16,cb16,m18,m19,b21) trivial (fun _ h=>h))
   ·refine nH rfl rfl kr (fun m19=>aP _ (fun _ h=>h.pick [0,1] rfl rfl) (fun _ h=>h)<|aA 3 rfl<|nH rfl rfl kr (fun m18=>aP _ (fun _ h=>h.pick [0,1,2] rfl rfl) (fun _ h=>h)<|aC 5 (.agg #[(vL B16 l cb16),(vI fan),(vI leaf),(.map (some m18)),(.map (some m19))]) rfl<|aA 6 rfl<|pB [(vL B16 l cb16),(vI fan),(vI leaf),(.map (some m18)),(.map (some m19))] fun b21=>?_))
    dsimp only [bE,List.set,List.cons_append,List.nil_append]
    refine aP _ (fun _ h=>h.pick [0,1,2,3] rfl rfl) (fun _ h=>h) ?_
    refine aa 7 ?_
    refine aa 8 ?_
    exact cF kr<|aI (sM (B16,cb16,m18,m19,b21) trivial (fun _ h=>h.pick [0,1,3,2,4] rfl rfl))
  ·refine nH rfl rfl kr (fun m18=>aP _ (fun _ h=>h.pick [0] rfl rfl) (fun _ h=>h) ?_)
   refine kT (i:=1) (j:=4) kr rfl rfl rfl rfl ?_ ?_
   ·refine dW (fun w hM=>sY A c l w (r0.aQ hM) om) fun B16 cb16=>aP _ (fun _ h=>h.pick [0,1] rfl rfl) (fun _ h=>h)<|aA 4 rfl<|nH rfl rfl kr (fun m19=>aP _ (fun _ h=>h.pick [0,1,2] rfl rfl) (fun _ h=>h)<|aC 5 (.agg #[(vL B16 l cb16),(vI fan),(vI leaf),(.map (some m18)),(.map (some m19))]) rfl<|aA 6 rfl<|pB [(vL B16 l cb16),(vI fan),(vI leaf),(.map (some m18)),(.map (some m19))] fun b21=>aP _ (fun _ h=>h.pick [0,1,2,3] rfl rfl) (fun _ h=>h)<|aa 7 ?_)
    refine aa 8 ?_
    exact cF kr<|aI (sM (B16,cb16,m18,m19,b21) trivial (fun _ h=>h.pick [0,2,1,3,4] rfl rfl))
   ·refine nH rfl rfl kr (fun m19=>aP _ (fun _ h=>h.pick [0,1] rfl rfl) (fun _ h=>h)<|aA 1 rfl<|dW (fun w hM=>sY A c l w (r0.aQ hM) om) fun B16 cb16=>?_)
    dsimp only [bE,List.set,List.cons_append,List.nil_append]
    refine aP _ (fun _ h=>h.pick [0,1,2] rfl rfl) (fun _ h=>h)<|aC 5 (.agg #[(vL B16 l cb16),(vI fan),(vI leaf),(.map (some m18)),(.map (some m19))]) rfl<|aA 6 rfl<|pB [(vL B16 l cb16),(vI fan),(vI leaf),(.map (some m18)),(.map (some m19))] fun b21=>aP _ (fun _ h=>h.pick [0,1,2,3] rfl rfl) (fun _ h=>h)<|aa 7 ?_
    refine aa 8 ?_
    exact cF kr<|aI (sM (B16,cb16,m18,m19,b21) trivial (fun _ h=>h.pick [0,3,1,2,4] rfl rfl))
  ·refine nH rfl rfl kr (fun m19=>aP _ (fun _ h=>h.pick [0] rfl rfl) (fun _ h=>h) ?_)
   refine kT (i:=1) (j:=3) kr rfl rfl rfl rfl ?_ ?_
   ·refine dW (fun w hM=>sY A c l w (r0.aQ hM) om) fun B16 cb16=>aP _ (fun _ h=>h.pick [0,1] rfl rfl) (fun _ h=>h)<|aA 3 rfl<|nH rfl rfl kr (fun m18=>aP _ (fun _ h=>h.pick [0,1,2] rfl rfl) (fun _ h=>h)<|aC 5 (.agg #[(vL B16 l cb16),(vI fan),(vI leaf),(.map (some m18)),(.map (some m19))]) rfl<|aA 6 rfl<|pB [(vL B16 l cb16),(vI fan),(vI leaf),(.map (some m18)),(.map (some m19))] fun b21=>aP _ (fun _ h=>h.pick [0,1,2,3] rfl rfl) (fun _ h=>h)<|aa 7 ?_)
    refine aa 8 ?_
    exact cF kr<|aI (sM (B16,cb16,m18,m19,b21) trivial (fun _ h=>h.pick [0,2,3,1,4] rfl rfl))
   ·refine nH rfl rfl kr (fun m18=>?_)
    dsimp only [bE,List.set,List.cons_append,List.nil_append]
    refine aP _ (fun _ h=>h.pick [0,1] rfl rfl) (fun _ h=>h)<|aA 1 rfl<|dW (fun w hM=>sY A c l w (r0.aQ hM) om) fun B16 cb16=>aP _ (fun _ h=>h.pick [0,1,2] rfl rfl) (fun _ h=>h)<|aC 5 (.agg #[(vL B16 l cb16),(vI fan),(vI leaf),(.map (some m18)),(.map (some m19))]) rfl<|aA 6 rfl<|pB [(vL B16 l cb16),(vI fan),(vI leaf),(.map (some m18)),(.map (some m19))] fun b21=>aP _ (fun _ h=>h.pick [0,1,2,3] rfl rfl) (fun _ h=>h)<|aa 7 ?_
    refine aa 8 ?_
    exact cF kr<|aI (sM (B16,cb16,m18,m19,b21) trivial (fun _ h=>h.pick [0,3,2,1,4] rfl rfl))
 ·rintro ⟨B16,cb16,m18,m19,b21⟩ -
  dsimp only
  exact fX<|fP [(vP b21 0),(vi 0)] rfl ⟨rfl,rfl,trivial⟩ (fun w hM=>⟨b21,B16,cb16,m18,m19,rfl,(hM.pick [4,1,2,3] rfl rfl)⟩)
theorem SD (bs:Nat) (A:Option Addr) (c:Nat) (its:List (List UInt8)) (fan leaf:Nat) (nm om:Nat) (w:World) (r0:Rf [] w (cI)) (r1:Rf [] w (iM bs A c its fan leaf nm om)) (hs:cJ its) (hn:its.length≤1000) (hcap:its.length≤c) (h40:its.length≤40) :
  Calls Tryz.prog 176 #[(vP bs 0)] w fun e w'=>∃ (B:Option Addr) (cb:Nat),e = .returned (vL B (bX [dS its [] []]) cb)∧aJ [] w [cB B (bX [dS its [] []]) cb] w':=by
 have ra:=r1.imp (fun _ h=>h.1)
 have rb:=r1.imp (fun _ h=>h.2)
 exact dI Tryz.func176 17 (Mm.start w []) rfl<|Nc<|lx rfl<|Nb<|lk (.agg #[(.string ⟨#[]⟩),(.string ⟨#[]⟩)])<|lx rfl<|lk (.agg #[(.string ⟨#[]⟩),(.string ⟨#[]⟩)])<|Nx<|bP (fun w hM=>zW bs A c its fan leaf nm om [] [] w (r0.aQ hM) (r1.aQ hM) ag ag ag)<|lk (.iface 248 (.agg #[(vI ((inL its [] []).length)),(vS (eV (inL its [] [])))]))<|lk (.agg #[(.string ⟨#[]⟩),(.string ⟨#[]⟩),(.iface 248 (.agg #[(vI ((inL its [] []).length)),(vS (eV (inL its [] [])))]))])<|Nx<|pN 1 246 [(.string ⟨#[]⟩),(.string ⟨#[]⟩),(.iface 248 (.agg #[(vI ((inL its [] []).length)),(vS (eV (inL its [] [])))]))] fun b12=>Nx<|dW (fun w hM=>JD (some ⟨b12,0,none⟩) 1 ([lC its [] []]) w (hM.bB (j:=0) rfl (fun _ h=>qJ h rfl)) ((r0.aQ hM).imp (fun w _=>SB)) (fun p hp=>by rw [List.mem_singleton.1 hp]; exact (DG h40).1) ((DG h40).2.1)) fun B13 cb13=>lx rfl<|Nb<|lx rfl<|Nd<|sN [(vL B13 (bX (([lC its [] []]).map PV.abs)) cb13)] fun w hM=>⟨B13,cb13,rfl,(hM.pick [1] rfl rfl)⟩
section
open Go.RowKit Go.Sort Go.Shelf
open Go.Maps (setOf)
theorem SE {S ss:List Bs} {D:DataW Unit} (hD:D=setOf (DataW.lit (.bool true)) (S.map Lit.string)) (hk:∀ p,∀ es,D = .map es→p∈es→∃ x,p.1=Lit.string x) (hp:ss.Perm (strKeys D)):ss.mergeSort (fun x y=>decide (x≤y))=dK [] S:=by
 have hlit:∀ x∈S.map Lit.string,WideAt.IsKeyLit x:=by intro y hy; obtain ⟨q,_,rfl⟩:=List.mem_map.1 hy; exact True.intro
 have hasc:=RQ S
 have hnd:(dK [] S).Nodup:=hasc.imp fun {a b} h e=>by subst e; exact lS h
 obtain ⟨es,he,hpw⟩:=Maps.tidy_setOf (DataW.lit (H:=Unit) (.bool true)) (S.map Lit.string) hlit
 have hq:(dK [] S).Perm (strKeys D):=by
  rw [hD,he]
  refine perm_strKeys hpw (fun p hp=>hk p es (hD.trans he) hp) hnd fun x=>?_
  rw [← he,Maps.has_setOf _ _ _ hlit,RR,List.any_map,List.any_eq_true]
  constructor
  ·intro h
   exact ⟨x,h,WideAt.sameKey_self (a:=Lit.string x) True.intro⟩
  ·rintro ⟨q,h1,h2⟩
   have:=WideAt.sameKey_eq (show (Lit.string q).sameKey (Lit.string x)=true from h2)
   injection this with this
   rw [← this]
   exact h1
 have hps:ss.Perm (dK [] S):=hp.trans hq.symm
 have hm:=mergeSort_of_perm hps
 have hsorted:(dK [] S).mergeSort (fun x y=>decide (x≤y))=dK [] S:=by
  have tr:∀ a b c:Bs,decide (a≤b)=true→decide (b≤c)=true→decide (a≤c)=true:=fun a b c h1 h2=>by simp only [decide_eq_true_eq] at *; exact List.le_trans h1 h2
  have tot:∀ a b:Bs,(decide (a≤b) || decide (b≤a))=true:=fun a b=>by simp only [Bool.or_eq_true,decide_eq_true_eq]; exact List.le_total a b
  exact List.Perm.eq_of_pairwise (le:=fun a b=>decide (a≤b)=true) (fun a b _ _ h1 h2=>List.le_antisymm (by simpa using h1) (by simpa using h2)) (List.pairwise_mergeSort tr tot _) (hasc.imp fun {a b} h=>by simpa using List.le_of_lt h) (List.mergeSort_perm _ _)
 exact hm.trans hsorted
theorem SF {w w':World} {e:TypeId} {v:Value} {n:Nat} {xs:List Value} (hf:Fr [] w w') (ho:w'.ownsRow w.heap.size e 1 v n xs):∃ A c,v = .slice A n c∧aJ [] w [aR e 1 A n c xs] w':=by
 obtain ⟨hl,h⟩:=ho
 rcases h with ⟨rfl,rfl⟩ | ⟨g,cap,cur,rfl,hge,h1,h2,h3,h4,h5⟩
 ·exact ⟨none,0,rfl,(Mm.start w []).push (c:=aR e 1 none 0 0 xs) hf (⟨hl,.inl ⟨rfl,rfl⟩⟩) (by simp [aR,cZ]) (by simp [aR,cZ])⟩
 ·exact ⟨some ⟨g,0,none⟩,cap,rfl,(Mm.start w []).push (c:=aR e 1 (some ⟨g,0,none⟩) n cap xs) hf (⟨hl,.inr ⟨g,cap,cur,rfl,Nat.zero_le _,h1,h2,h3,h4,h5⟩⟩) (by simp [aR,cZ]; exact hge) (by simp [aR,cZ])⟩
theorem JG (nm:Nat) (w:World) :
  Calls Tryz.prog 108 #[(.map (some nm))] w fun e w'=>∃ (bk:Nat),e = .returned (.func (.func 156) #[] #[(vP bk 0)])∧aJ [] w [aD bk 147 [(.map (some nm))]] w':=by
 have h:=(callsIn_wide (n:=5)).1 (AnyZ.keys_in Tryz.KB Fence.wide 5 trivial rfl (some nm) w)
 change Calls Tryz.prog 108 _ _ _ at h
 refine h.mono ?_
 rintro e w' ⟨rfl,rfl⟩
 exact ⟨w.heap.size,rfl,(Mm.start w []).push (c:=aD w.heap.size 147 [.map (some nm)]) ((Fr.refl _ _).alloc _) (At.new w _ _) (by simp [aD]) (by simp [aD])⟩
theorem SG (m:Nat):AnyZ.SortsIn Tryz.prog Tryz.KC Fence.wide m :=
 ⟨fun blk off cap ss W hH hblk hsz=>callsIn_wide.2 (Tryz.slices_Sort_string blk off cap ss W hH hblk hsz),
  fun p cap W=>callsIn_wide.2 (Tryz.slices_Sort_string_none p cap W)⟩
theorem JH (bk nm:Nat) (S:List (List UInt8)) (w:World) (r0:Rf [] w (fun w=>At w bk 147 [(.map (some nm))])) (r1:Rf [] w (fun w=>fD w nm S)) (hS:S.length≤1099511627776) :
  Calls Tryz.prog 107 #[(.func (.func 156) #[] #[(vP bk 0)])] w fun e w'=>∃ (B:Option Addr) (cb:Nat),e = .returned (vL B (dK [] S) cb)∧aJ [] w [cS B (dK [] S) cb] w':=by
 have hm:w.cell? ⟨bk,0,none⟩=some (.map (some nm)):=by have h:=r0.here; rw [h.cell]; rfl
 have hBm:bk < w.heap.size:=by have h:=r0.here; exact h.lt
 have hown:fD w nm S:=r1.here
 have hlen:Maps.size (setOf (DataW.lit (H:=Unit) (.bool true)) (S.map Lit.string))≤S.length:=by
  have hlit:∀ x∈S.map Lit.string,WideAt.IsKeyLit x:=by intro y hy; obtain ⟨q,_,rfl⟩:=List.mem_map.1 hy; exact True.intro
  rw [Maps.size_setOf _ _ hlit]
  have key:∀ (xs L:List Lit),(xs.foldl Maps.addKey L).length≤L.length+xs.length:=by
   intro xs
   induction xs with
   | nil=>intro L; exact Nat.le_refl _
   | cons x xs ih =>
     intro L
     refine Nat.le_trans (ih _) ?_
     unfold Maps.addKey
     split <;> simp only [List.length_append,List.length_cons,List.length_nil] <;> omega
  refine Nat.le_trans (key _ _) ?_
  simp
 have hseq:SeqGives Fence.wide 2 Tryz.prog 156 #[.pointer (some ⟨bk,0,none⟩)] encStr (fun ss=>ss.Perm (strKeys (setOf (DataW.lit (H:=Unit) (.bool true)) (S.map Lit.string)))) (Maps.size (setOf (DataW.lit (H:=Unit) (.bool true)) (S.map Lit.string))) w :=
  AnyZ.keys_gives (ρ:=Tryz.KA) { Tryz.KB with } Fence.wide _ trivial rfl om bk nm S.length _ w hBm hm hown
 have cS:=AnyZ.sorted_in Tryz.Uu Fence.wide 5 trivial trivial trivial trivial rfl om (SG _) (enters_of Tryz.func132 kr rfl) 156 #[vP bk 0] trivial (enters_of Tryz.func156 kr rfl) _ _ (by unfold maxLen; omega) om _ hseq
 have hC:=(callsIn_wide (n:=5)).1 cS
 change Calls Tryz.prog 107 _ _ _ at hC
 refine hC.mono ?_
 rintro e w' ⟨v,ss,rfl,hS,hrow,hnil,hb⟩
 have hes:=World.ownsMap.keysOf hown
 have he:=SE (S:=S) (ss:=ss) rfl (fun p es e hp=>by
  obtain ⟨es',he',hk'⟩:=hes
  rw [he'] at e
  injection e with e
  obtain ⟨u,hu⟩:=hk' p (e▸hp)
  obtain ⟨x,_,hx,_⟩:=Maps.keyOf_str Tryz.underlying9 hu
  exact ⟨x,hx⟩) hS
 have hl:ss.length=(dK [] S).length:=by rw [← he,List.length_mergeSort]
 rw [he,hl] at hrow
 obtain ⟨A,c,rfl,hB⟩:=SF (Fr.Un hb []) hrow
 exact ⟨A,c,rfl,hB⟩
theorem SH (bs:Nat) (A:Option Addr) (c:Nat) (its:List (List UInt8)) (fan leaf:Nat) (nm om:Nat) (S:List (List UInt8)) (w:World) (r0:Rf [] w (fun w=>At w bs 149 [(vL A its c),(vI fan),(vI leaf),(.map (some nm)),(.map (some om))])) (r1:Rf [] w (fun w=>fD w nm S)) (hS:S.length≤1099511627776) :
  Calls Tryz.prog 60 #[(vP bs 0)] w fun e w'=>∃ (B:Option Addr) (cb:Nat),e = .returned (vL B (dK [] S) cb)∧aJ [] w [cS B (dK [] S) cb] w':=by
 refine dI Tryz.func60 9 (Mm.start w []) rfl<|Nc<|lx rfl<|Nb<|lx rfl<|lk (vP bs 0) ?_
 refine lk (vP bs 3)<|lW (rW (fun w hM=>At.cell (r0.now hM) 3))<|Nx ?_
 refine gD (fun w hM=>JG nm w ) fun bk7=>?_
 refine Nx ?_
 refine gU (fun w hM=>(JH bk7 nm S w (hM.bB (j:=0) rfl (fun _ h=>h)) (r1.aQ hM) (by omega)).mono ?_)
 rintro e w' ⟨B8,cb8,rfl,hP⟩
 refine ⟨_,_,rfl,hP,?_⟩; clear hP hM
 exact lx rfl<|Nd<|sN [(vL B8 (dK [] S) cb8)] fun w hM=>⟨B8,cb8,rfl,(fun (w:World) (h:Mm _ _ _ w)=>Mm.sub h (.cons _ (.cons_cons _ .slnil))) w hM⟩
theorem SI (bs:Nat) (A:Option Addr) (c:Nat) (its:List (List UInt8)) (fan leaf:Nat) (nm om:Nat) (S:List (List UInt8)) (w:World) (r0:Rf [] w (fun w=>At w bs 149 [(vL A its c),(vI fan),(vI leaf),(.map (some nm)),(.map (some om))])) (r1:Rf [] w (fun w=>fD w om S)) (hS:S.length≤1099511627776) :
  Calls Tryz.prog 61 #[(vP bs 0)] w fun e w'=>∃ (B:Option Addr) (cb:Nat),e = .returned (vL B (dK [] S) cb)∧aJ [] w [cS B (dK [] S) cb] w':=by
 refine dI Tryz.func61 9 (Mm.start w []) rfl<|Nc<|lx rfl<|Nb<|lx rfl<|lk (vP bs 0) ?_
 refine lk (vP bs 4)<|lW (rW (fun w hM=>At.cell (r0.now hM) 4))<|Nx ?_
 refine gD (fun w hM=>JG om w ) fun bk7=>?_
 refine Nx ?_
 refine gU (fun w hM=>(JH bk7 om S w (hM.bB (j:=0) rfl (fun _ h=>h)) (r1.aQ hM) (by omega)).mono ?_)
 rintro e w' ⟨B8,cb8,rfl,hP⟩
 refine ⟨_,_,rfl,hP,?_⟩; clear hP hM
 exact lx rfl<|Nd<|sN [(vL B8 (dK [] S) cb8)] fun w hM=>⟨B8,cb8,rfl,(fun (w:World) (h:Mm _ _ _ w)=>Mm.sub h (.cons _ (.cons_cons _ .slnil))) w hM⟩
end
theorem DT (A:Option Addr) (c:Nat) (l:List (List UInt8)) (w:World) (r0:Rf [] w (cI)) (r1:Rf [] w (fun w=>aH w A (SS l))) (hl:l.length≤9223372036854775807) (he:dR l=0) (h40:l.length≤1000) :
  Calls Tryz.prog 16 #[(vL A l c),bT] w fun e w'=>∃ (bs:Nat) (A1:Option Addr) (c1 se:Nat) (A2:Option Addr) (c2 nm om:Nat) (Am:Option Addr) (cm:Nat),e = .returned (.tuple #[(vP bs 0),(vi 0)])∧aJ [] w [aD bs 101 [(vL A1 l c1),bT,(vi 1),(vI 1),(vL Am (aZ 1 (bL (bC l))) cm),bF,bF,(vP se 0),bF,nS,nS],cS A1 l c1,aD se 149 [(vL A2 l c2),(vI 4),(vI 4),(.map (some nm)),(.map (some om))],cS A2 l c2,aN nm ([]),aN om ([]),cB Am (aZ 1 (bL (bC l))) cm] w':=by
 refine bK Tryz.func16 42 (Mm.start w []) rfl<|Nc<|lx rfl<|Ne<|lx rfl<|Nx<|bP (fun w hM=>wX A c l w (r0.aQ hM) (r1.aQ hM) om ag om)<|lx rfl<|Nb<|lx rfl<|lF<|Nn<|aF<|lx rfl<|lk (.agg #[(vi 4),(vi 4)])<|Nx<|BL (fun w hM=>JF A c l 4 4 w (r1.aQ hM) om (by decide) ag) fun bs22 A222 c222 nm22 om22=>lx rfl<|Ne<|lx rfl<|lF<|Nn ?_
 have hset:=(wQ he).2
 have h32:=hset.1
 have hskl:=pW (mZ h32).all
 rw [lY] at hskl
 refine aF<|lx rfl<|Nx<|dW (fun w hM=>sY A c l w (r1.aQ hM) om) fun B29 cb29=>lx rfl<|lk (.agg #[(vL B29 l cb29),bT,(vi 2),(vi 0),nS,bF,bF,(vP bs22 0),bF,nS,nS])<|Nx<|pB [(vL B29 l cb29),bT,(vi 2),(vi 0),nS,bF,bF,(vP bs22 0),bF,nS,nS] fun b33=>lx rfl<|Nf<|aS ?_
 dsimp only [bE,List.set,List.cons_append,List.nil_append]
 refine aF<|lx rfl<|Nt<|aF<|lx rfl<|Nx<|yP (fun w hM=>Dx A c l w (r0.aQ hM) (r1.aQ hM) ag om) fun Xs37 hn37=>Nx<|dW (fun w hM=>IB Xs37 (bC l) w (hM.bB (j:=6) rfl (fun _ h=>h)) (mZ h32) (lY l) (hn37)) fun A38 c38=>Nx<|dW (fun w hM=>Dz 1 A38 c38 (bL (bC l)) w (hM.bB (j:=7) rfl (fun _ h=>aH.cN h)) om om) fun A239 c239=>Nx<|eK [5] (fun w hM hO=>xB b33 (vL B29 l cb29) bT (vi 2) (vi 0) nS bF bF (vP bs22 0) bF nS nS 1 A239 ((aZ 1 (bL (bC l))).length) c239 w hO)<|Nf ?_
 dsimp only [bE,List.set,List.cons_append,List.nil_append]
 exact aF<|lx rfl<|Nd<|sN [(vP b33 0),(vi 0)] fun w hM=>⟨b33,B29,cb29,bs22,A222,c222,nm22,om22,A239,c239,rfl,(hM.pick [5,4,0,1,2,3,8] rfl rfl)⟩
theorem JI (A:Option Addr) (c:Nat) (l:List (List UInt8)) (w:World) (r0:Rf [] w (cI)) (r1:Rf [] w (fun w=>aH w A (SS l))) (hl:l.length≤9223372036854775807) (he:dR l=0) (h40:l.length≤1000) :
  Calls Tryz.prog 16 #[(vL A l c),bF] w fun e w'=>∃ (bs:Nat) (A1:Option Addr) (c1 se:Nat) (A2:Option Addr) (c2 nm om:Nat),e = .returned (.tuple #[(vP bs 0),(vi 0)])∧aJ [] w [aD bs 101 [(vL A1 l c1),bF,(vi 2),(vi 0),nS,bF,bF,(vP se 0),bF,nS,nS],cS A1 l c1,aD se 149 [(vL A2 l c2),(vI 4),(vI 4),(.map (some nm)),(.map (some om))],cS A2 l c2,aN nm ([]),aN om ([])] w':=by
 refine bK Tryz.func16 42 (Mm.start w []) rfl<|Nc<|lx rfl<|Ne<|lx rfl<|Nx<|bP (fun w hM=>wX A c l w (r0.aQ hM) (r1.aQ hM) om ag om)<|lx rfl<|Nb<|lx rfl<|lF<|Nn<|aF<|lx rfl<|lk (.agg #[(vi 4),(vi 4)])<|Nx<|BL (fun w hM=>JF A c l 4 4 w (r1.aQ hM) om (by decide) ag) fun bs22 A222 c222 nm22 om22=>lx rfl<|Ne<|lx rfl<|lF<|Nn ?_
 have hset:=(wQ he).2
 have h32:=hset.1
 have hskl:=pW (mZ h32).all
 rw [lY] at hskl
 refine aF<|lx rfl<|Nx<|dW (fun w hM=>sY A c l w (r1.aQ hM) om) fun B29 cb29=>lx rfl<|lk (.agg #[(vL B29 l cb29),bF,(vi 2),(vi 0),nS,bF,bF,(vP bs22 0),bF,nS,nS])<|Nx<|pB [(vL B29 l cb29),bF,(vi 2),(vi 0),nS,bF,bF,(vP bs22 0),bF,nS,nS] fun b33=>lx rfl<|Nf<|aS ?_
 dsimp only [bE,List.set,List.cons_append,List.nil_append]
 exact aF<|lx rfl<|Nn<|aF<|lx rfl<|Nd<|sN [(vP b33 0),(vi 0)] fun w hM=>⟨b33,B29,cb29,bs22,A222,c222,nm22,om22,rfl,(hM.pick [5,4,0,1,2,3] rfl rfl)⟩
theorem xL (bs:Nat) (v0 v1:Value) (v5 v6:Value) (v7 v8:Value) (v9 v10:Value) (k:Nat) (Am:Option Addr) (cm:Nat) (m:List UInt8) (b:Nat) (w:World) (hO:cE [aD bs 101 [v0,v1,(vi 1),(vI k),(vL Am m cm),v5,v6,v7,v8,v9,v10]] w) (hb:m.length≤b) (hk:k≠4∧k≠5) :
  Calls Tryz.prog 18 #[(vP bs 0),(vI b)] w fun e w'=>e = .returned (.tuple #[(vL Am m cm),(vi 0)])∧aJ [aD bs 101 [v0,v1,(vi 1),(vI k),(vL Am m cm),v5,v6,v7,v8,v9,v10]] w [aD bs 101 [v0,v1,(vi 2),(vI k),nS,v5,v6,v7,v8,v9,v10]] w':=by
 refine bK Tryz.func18 56 (hO) rfl<|Nc<|lx rfl<|Nf<|fO<|Nc<|lx rfl<|lk (.bool (decide (((b:Nat):Int) < 0)))<|lx rfl<|Na<|eP rfl si<|Nc<|lx rfl<|lk (vP bs 0)<|lk (vP bs 2)<|lL 0 rfl<|lF<|lx rfl<|Np<|aF<|lx rfl<|lk (vP bs 0)<|lk (vP bs 2)<|lL 0 rfl ?_
 refine lF<|lx rfl<|Np<|aF<|lx rfl<|lk (vP bs 0)<|lk (vP bs 4)<|lL 0 rfl<|lk (vI m.length)<|lx rfl<|lk (.bool (decide (((m.length:Nat):Int) > ((b:Nat):Int))))<|lx rfl<|Na<|eP rfl (by simp; omega)<|Nw<|Nc<|lx rfl<|lk (vP bs 0)<|lk (vP bs 4)<|lL 0 rfl<|lx rfl<|Nb<|lx rfl<|lk (vP bs 0) ?_
 refine lk (vP bs 4)<|Nx<|pS 0 rfl<|Nb<|lx rfl<|lk (vP bs 0)<|lk (vP bs 2)<|Nx<|pS 0 rfl<|Ne<|lx rfl<|lk (vP bs 0)<|lk (vP bs 3)<|lL 0 rfl<|lk (.bool ((((k:Nat):Int):Int) == 4))<|lm ?_
 exact St.known 45 (b':=false) rfl (by simp; omega)<|lx rfl<|lg (vP bs 0)<|lg (vP bs 3)<|lu (vI k) (cW 0 rfl rfl kr rfl rfl)<|lg (.bool ((((k:Nat):Int):Int) == 5))<|lk (.bool ((((k:Nat):Int):Int) == 5))<|Na<|eP rfl (by simp; omega)<|Ni<|lx rfl<|Nd<|sN [(vL Am m cm),(vi 0)] fun w hM=>⟨rfl,hM⟩
theorem SJ (bs:Nat) (v0 v1:Value) (v5 v6:Value) (v7 v8:Value) (v9 v10:Value) (k:Nat) (Am:Option Addr) (cm:Nat) (m:List UInt8) (b:Nat) (w:World) (hO:cE [aD bs 101 [v0,v1,(vi 1),(vI k),(vL Am m cm),v5,v6,v7,v8,v9,v10]] w) (hb:m.length≤b) (hk:k=5) :
  Calls Tryz.prog 18 #[(vP bs 0),(vI b)] w fun e w'=>e = .returned (.tuple #[(vL Am m cm),(vi 0)])∧aJ [aD bs 101 [v0,v1,(vi 1),(vI k),(vL Am m cm),v5,v6,v7,v8,v9,v10]] w [aD bs 101 [v0,v1,(vi 0),(vI k),nS,v5,v6,v7,v8,v9,v10]] w':=by
 refine bK Tryz.func18 56 (hO) rfl<|Nc<|lx rfl<|Nf<|fO<|Nc<|lx rfl<|lk (.bool (decide (((b:Nat):Int) < 0)))<|lx rfl<|Na<|eP rfl si<|Nc<|lx rfl<|lk (vP bs 0)<|lk (vP bs 2)<|lL 0 rfl<|lF<|lx rfl<|Np<|aF<|lx rfl<|lk (vP bs 0)<|lk (vP bs 2)<|lL 0 rfl ?_
 refine lF<|lx rfl<|Np<|aF<|lx rfl<|lk (vP bs 0)<|lk (vP bs 4)<|lL 0 rfl<|lk (vI m.length)<|lx rfl<|lk (.bool (decide (((m.length:Nat):Int) > ((b:Nat):Int))))<|lx rfl<|Na<|eP rfl (by simp; omega)<|Nw<|Nc<|lx rfl<|lk (vP bs 0)<|lk (vP bs 4)<|lL 0 rfl<|lx rfl<|Nb<|lx rfl<|lk (vP bs 0) ?_
 refine lk (vP bs 4)<|Nx<|pS 0 rfl<|Nb<|lx rfl<|lk (vP bs 0)<|lk (vP bs 2)<|Nx<|pS 0 rfl<|Ne<|lx rfl<|lk (vP bs 0)<|lk (vP bs 3)<|lL 0 rfl<|lk (.bool ((((k:Nat):Int):Int) == 4))<|lm ?_
 exact St.known 45 (b':=false) rfl (by simp; omega)<|lx rfl<|lg (vP bs 0)<|lg (vP bs 3)<|lu (vI k) (cW 0 rfl rfl kr rfl rfl)<|lg (.bool ((((k:Nat):Int):Int) == 5))<|lk (.bool ((((k:Nat):Int):Int) == 5))<|Na<|lN rfl (by simp; omega)<|aF<|lx rfl<|lk (vP bs 0)<|lk (vP bs 2)<|Nx<|pS 0 rfl<|Nb<|lx rfl<|Nd<|sN [(vL Am m cm),(vi 0)] fun w hM=>⟨rfl,hM⟩
theorem JJ (bs:Nat) (v0 v1:Value) (v5 v6:Value) (v7 v8:Value) (v9 v10:Value) (k:Nat) (Am:Option Addr) (cm:Nat) (m:List UInt8) (b:Nat) (w:World) (r0:Rf [] w (fun w=>At w bs 101 [v0,v1,(vi 1),(vI k),(vL Am m cm),v5,v6,v7,v8,v9,v10])) (hb:b < m.length) :
  Calls Tryz.prog 18 #[(vP bs 0),(vI b)] w fun e w'=>e = .returned (.tuple #[nS,(vi 10)])∧aJ [] w [] w':=by
 refine bK Tryz.func18 56 (Mm.start w []) rfl<|Nc<|lx rfl<|Nf<|fO<|Nc<|lx rfl<|lk (.bool (decide (((b:Nat):Int) < 0)))<|lx rfl<|Na<|eP rfl si<|Nc<|lx rfl<|lk (vP bs 0)<|lk (vP bs 2)<|lW (rW (fun w hM=>At.cell (r0.now hM) 2))<|lF<|lx rfl<|Np<|aF<|lx rfl<|lk (vP bs 0)<|lk (vP bs 2)<|lW (rW (fun w hM=>At.cell (r0.now hM) 2)) ?_
 exact lF<|lx rfl<|Np<|aF<|lx rfl<|lk (vP bs 0)<|lk (vP bs 4)<|lW (rW (fun w hM=>At.cell (r0.now hM) 4))<|lk (vI m.length)<|lx rfl<|lk (.bool (decide (((m.length:Nat):Int) > ((b:Nat):Int))))<|lx rfl<|Na<|lN rfl (by simp; omega)<|Nc<|lx rfl<|Nd<|fY<|dC<|sN [nS,(vi 10)] fun w hM=>⟨rfl,hM⟩
theorem SK (bs:Nat) (v0 v1:Value) (v3 v4:Value) (v5 v6:Value) (v7 v8:Value) (v9 v10:Value) (b:Nat) (w:World) (r0:Rf [] w (fun w=>At w bs 101 [v0,v1,(vi 0),v3,v4,v5,v6,v7,v8,v9,v10])) :
  Calls Tryz.prog 18 #[(vP bs 0),(vI b)] w fun e w'=>e = .returned (.tuple #[nS,(vi 4)])∧aJ [] w [] w':=by
 refine bK Tryz.func18 56 (Mm.start w []) rfl<|Nc<|lx rfl<|Nf<|fO<|Nc<|lx rfl<|lk (.bool (decide (((b:Nat):Int) < 0)))<|lx rfl<|Na<|eP rfl si<|Nc<|lx rfl<|lk (vP bs 0)<|lk (vP bs 2)<|lW (rW (fun w hM=>At.cell (r0.now hM) 2))<|lT<|lx rfl<|No<|lx rfl<|Nd<|fY<|dC<|sN [nS,(vi 4)] fun w hM=>?_
 exact ⟨rfl,hM⟩
theorem AE (bs:Nat) (v0 v1:Value) (v2 v3:Value) (v4 v5:Value) (v6 v9 v10:Value) (se:Nat) (A:Option Addr) (c:Nat) (its:List (List UInt8)) (nm om:Nat) (S:List (List UInt8)) (w:World) (r0:Rf [] w (fun w=>At w bs 101 [v0,v1,v2,v3,v4,v5,v6,(vP se 0),bF,v9,v10])) (r1:Rf [] w (fun w=>At w se 149 [(vL A its c),(vI 4),(vI 4),(.map (some nm)),(.map (some om))])) (r2:Rf [] w (fun w=>fD w nm S)) (hS:S.length≤1099511627776) :
  Calls Tryz.prog 24 #[(vP bs 0)] w fun e w'=>∃ (B:Option Addr) (cb:Nat),e = .returned (vL B (dK [] S) cb)∧aJ [] w [cS B (dK [] S) cb] w':=by
 refine dI Tryz.func24 24 (Mm.start w []) rfl<|Nc<|lx rfl<|Ne<|lx rfl<|lk (vP bs 0)<|lk (vP bs 8)<|lW (rW (fun w hM=>At.cell (r0.now hM) 8))<|lx rfl<|lg (vP bs 0)<|lg (vP bs 7) ?_
 refine lu (vP se 0) (gH rfl rfl kr (fun w hM=>At.cell (r0.now hM) 7))<|lg bF<|lF<|Nn<|aF ?_
 refine lx rfl<|lk (vP bs 0)<|lk (vP bs 7) ?_
 refine lW (rW (fun w hM=>At.cell (r0.now hM) 7)) ?_
 refine Nx ?_
 refine gU (fun w hM=>(SH se A c its 4 4 nm om S w (r1.aQ hM) (r2.aQ hM) (by omega)).mono ?_)
 rintro e w' ⟨B23,cb23,rfl,hP⟩
 refine ⟨_,_,rfl,hP,?_⟩; clear hP hM
 exact lx rfl<|Nd<|sN [(vL B23 (dK [] S) cb23)] fun w hM=>⟨B23,cb23,rfl,hM⟩
theorem AF (bs:Nat) (v0 v1:Value) (v2 v3:Value) (v4 v5:Value) (v6 v9 v10:Value) (se:Nat) (A:Option Addr) (c:Nat) (its:List (List UInt8)) (nm om:Nat) (S:List (List UInt8)) (w:World) (r0:Rf [] w (fun w=>At w bs 101 [v0,v1,v2,v3,v4,v5,v6,(vP se 0),bF,v9,v10])) (r1:Rf [] w (fun w=>At w se 149 [(vL A its c),(vI 4),(vI 4),(.map (some nm)),(.map (some om))])) (r2:Rf [] w (fun w=>fD w om S)) (hS:S.length≤1099511627776) :
  Calls Tryz.prog 25 #[(vP bs 0)] w fun e w'=>∃ (B:Option Addr) (cb:Nat),e = .returned (vL B (dK [] S) cb)∧aJ [] w [cS B (dK [] S) cb] w':=by
 refine dI Tryz.func25 24 (Mm.start w []) rfl<|Nc<|lx rfl<|Ne<|lx rfl<|lk (vP bs 0)<|lk (vP bs 8)<|lW (rW (fun w hM=>At.cell (r0.now hM) 8))<|lx rfl<|lg (vP bs 0)<|lg (vP bs 7) ?_
 refine lu (vP se 0) (gH rfl rfl kr (fun w hM=>At.cell (r0.now hM) 7))<|lg bF<|lF<|Nn<|aF ?_
 refine lx rfl<|lk (vP bs 0)<|lk (vP bs 7) ?_
 refine lW (rW (fun w hM=>At.cell (r0.now hM) 7)) ?_
 refine Nx ?_
 refine gU (fun w hM=>(SI se A c its 4 4 nm om S w (r1.aQ hM) (r2.aQ hM) (by omega)).mono ?_)
 rintro e w' ⟨B23,cb23,rfl,hP⟩
 refine ⟨_,_,rfl,hP,?_⟩; clear hP hM
 exact lx rfl<|Nd<|sN [(vL B23 (dK [] S) cb23)] fun w hM=>⟨B23,cb23,rfl,hM⟩
section
section
variable {P : Program} {Q : Exit → Act → World → Prop} {n : Nat} {w0 : World} {F : List Nat} {E : cH} {cs : List Ch} {c : Code}
theorem JK (k:Nat) (h:St n w0 F E cs (Code.rounds P c Q k)):St n w0 F E cs ((Code.loop c).wp P Q):=fun a w ha hM=>wp_loop_rounds k (h a w ha hM)
theorem qX {k:Nat} (h:St n w0 F E cs (c.wp P (Exit.then (Code.rounds P c Q k) Q))):St n w0 F E cs (Code.rounds P c Q (k+1)):=h
end
def eI (its : List Bs) (n : Nat) : Bs := aE 2 ++ (eV its ++ mL (eH its n))
theorem DU {its:List Bs} {n:Nat} (h:(eH its n).enc.length≤200000):(eI its n).length≤200100:=by
 have h1:=fG 2 om
 have h2:=fG (eH its n).enc.length om
 have h3:(eV its).length=32:=rF _
 unfold eI mL
 simp only [List.length_append]
 omega
theorem SL {t:BT} (h:t.seed=0):kD t t.cells.length 0=true:=by simp [kD,h]
theorem SM (bs:Nat) (A:Option Addr) (c:Nat) (its:List (List UInt8)) (v1 v2:Value) (v3 v4:Value) (v5 v6:Value) (v7 v8:Value) (v9 v10:Value) (X:Option Addr × Nat) (br:Nat) (r:Rd) (ts:List BT) (k n:Nat) (w:World) (hO:cE [aD bs 101 [(vL A its c),v1,v2,v3,v4,v5,v6,v7,v8,v9,v10],bH X br (r)] w) (r0:Rf [aD bs 101 [(vL A its c),v1,v2,v3,v4,v5,v6,v7,v8,v9,v10],bH X br (r)] w (cI)) (r1:Rf [aD bs 101 [(vL A its c),v1,v2,v3,v4,v5,v6,v7,v8,v9,v10],bH X br (r)] w (fun w=>aH w A (SS its))) (hts:cM r.rest.1=some ts) (hend:r.rest.2.end_=0) (hset:cJ its) (h40:its.length≤40) (hest:gR ts (bC its)=k) (hk:k≤500) (hsz:jC ((k+k / 2:Nat):Int)=(n:Int)) (hz:dQ (n:Int)=true) :
  Calls Tryz.prog 103 #[(vP bs 0),(vP br 0)] w fun e w'=>∃ (Am:Option Addr) (cm:Nat),e = .returned (vi 0)∧aJ [aD bs 101 [(vL A its c),v1,v2,v3,v4,v5,v6,v7,v8,v9,v10],bH X br (r)] w [aD bs 101 [(vL A its c),v1,(vi 1),(vI 2),(vL Am (eI its n) cm),v5,v6,v7,v8,v9,v10],bH X br (r.rest.2),cB Am (eI its n) cm] w':=by
 refine bK Tryz.func103 103 (hO) rfl<|Nc<|lx rfl<|Nf ?_
 have h32:=hset.1
 refine St.fact (fun w hM=>(hM.at (i:=1) (c:=bH X br r) rfl).2.len) (fun hrl=>?_)
 have hrt:=r.AZ (r.D.length - r.off)
 refine aF<|lx rfl<|Nx<|eK [1] (fun w hM hO=>sH X br r w hO)<|Nx<|oF [1] (fun w hM hO=>uT X br r (r.D.length - r.off) w hO om) fun B20 cb20=>?_
 rw [show r.text (r.D.length - r.off)=r.rest from rfl]
 refine Nx<|qK (fun w hM=>uV B20 cb20 r.rest.1 w (hM.bB (j:=2) rfl (fun _ h=>aH.cN h)) (by unfold Rd.rest; omega)) fun cl21 Xs21 ts21 hs21 hcl21=>?_
 obtain ⟨rfl,rfl,hXl21⟩:=hs21 _ hts
 have hB21:(cM r.rest.1).isSome=true:=by rw [hts]; rfl
 refine lx rfl<|Nx<|pA [(.pointer none),(.pointer none),(.pointer none),(.pointer none),(.pointer none),(.pointer none),(.pointer none),(.pointer none),(.pointer none),(.pointer none),(.pointer none),(.pointer none)] fun b5=>Nx<|gI 4 (cA Xs21) (vs:=(cA Xs21)) rfl rfl kr rfl rfl rfl (by rw [gA,hXl21]; kernel_rfl) rfl (by rw [gA,hXl21]; decide) (sP _) (by rw [List.take_zero,List.nil_append,gA,hXl21]; simp) ?_
 refine lx rfl<|Nf<|aS ?_
 dsimp only [bE,List.set,List.cons_append,List.nil_append]
 refine aF<|lx rfl<|Nx<|eK [1] (fun w hM hO=>sF X br r.rest.2 w hO)<|lx rfl<|Nb<|lx rfl<|lk (.bool ((r.rest.2.end_:Int) != 0))<|lm ?_
 refine St.known 31 (b':=false) rfl (by rw [hend]; simp)<|lx rfl<|lg (.bool (!(cM r.rest.1).isSome))<|lk (.bool (!(cM r.rest.1).isSome))<|Na<|eP rfl (by rw [hB21]; rfl)<|Nl<|cQ _ 20 kr (fun _ h=>h)<|aV 0 (.agg (cA Xs21).toArray) rfl (gC (cA Xs21) rfl rfl kr (by rw [gA,hXl21]; kernel_rfl) (eQ (i:=4) rfl (fun j v hj=>by rw [Nat.zero_add]; exact hj)))<|am 1 ?_
 refine aC 2 (vP bs 0) rfl<|aC 3 (vP bs 0) rfl<|al 4 0 ?_
 refine am 7 ?_
 refine aC 8 (vP bs 0) rfl<|aC 9 (vP bs 0) rfl<|al 10 0 ?_
 refine aC 11 (vI its.length) rfl<|aA 5 rfl<|yP (fun w hM=>Dx A c its w (r0.aQ hM) (r1.aQ hM) ag om) fun Xs41 hn41=>aP _ (fun _ h=>h.pick [0,1,2,3,4] rfl rfl) (fun _ h=>h)<|aA 6 rfl<|bP (fun w hM=>IC Xs21 ts Xs41 (bC its) w (r0.aQ hM) (hM.bB (j:=3) rfl (fun _ h=>h)) (hM.bB (j:=5) rfl (fun _ h=>h)) ((oV hts).2) ((oV hts).1) (hXl21) (mZ h32) (lY its) (hn41)) ?_
 dsimp only [bE,List.set,List.cons_append,List.nil_append]
 refine aP _ (fun _ h=>h) (fun _ h=>h)<|aA 12 rfl<|bP (fun w hM=>Du (gR ts (bC its)) its.length w (by rw [hest]; exact hk))<|aP _ (fun _ h=>h) (fun _ h=>h)<|am 13 ?_
 refine aC 14 (vi 1) rfl<|aC 15 (.int .i64 (jC (((gR ts (bC its))+(gR ts (bC its)) / 2:Nat):Int))) rfl<|aC 16 (vi 0) rfl<|aa 17 ?_
 refine aa 18 ?_
 refine aa 19 ?_
 refine cF kr<|aI<|aS<|aS ?_
 rw [show gR ts (bC its)=k from hest]
 rw [hsz]
 refine aF<|lx rfl<|lF<|Nn<|Nc<|lx rfl<|lF<|Nn ?_
 have hn9:n≤3072:=(gV hz).2.1
 refine aF<|lx rfl<|lk (vP bs 0)<|lk (vP bs 0)<|lL 0 rfl<|lx rfl<|Nx<|gD (fun w hM=>Iv A c its n w (r0.aQ hM) (r1.aQ hM) ag ag om) fun X65=>lx rfl<|Ne<|lx rfl<|lF<|Nn<|aF<|lx rfl<|lk (vP bs 0)<|lk (vP bs 0)<|lL 0 rfl<|Nx<|bP (fun w hM=>wX A c its w (r0.aQ hM) (r1.aQ hM) om (sC om hset) om)<|lx rfl<|Ne<|lx rfl<|lF ?_
 refine Nn<|aF<|Nx<|gD (fun w hM=>Dn  w ) fun bw82=>lx rfl<|Nf ?_
 dsimp only [bE,List.set,List.cons_append,List.nil_append]
 refine St.mem (fun w hM=>hM.gY 5 1) ?_
 dsimp only [bE,List.set,List.cons_append,List.nil_append]
 have hen:(eH its n).enc.length≤200000:=uC (uS h32 n) (by rw [oU]; omega) _
 have hnu:=fG (eH its n).enc.length om
 have hfl:(eV its).length=32:=rF _
 have hnn:=fG 2 om
 refine aF<|lx rfl<|Nx<|iD [7,8] (fun w hM hO=>xA bw82 none 0 eW 2 w hO om (by decide)) fun A284 c284=>Nb<|lx rfl<|Nx<|iD [7,8] (fun w hM hO=>Dq bw82 A284 c284 (eW++aE 2) (eV its) w hO (hfl) (by simp only [List.length_append,List.length_nil,eW] at *; omega)) fun A287 c287=>Nb<|lx rfl<|Nx<|dW (fun w hM=>GN X65 (eH its n) w (hM.bB (j:=6) rfl (fun _ h=>h))) fun A90 c90=>Nx<|iD [7,8] (fun w hM hO=>Iu bw82 A287 c287 ((eW++aE 2)++(eV its)) A90 c90 ((eH its n).enc) w hO (hM.gM [7,8] (j:=9) rfl (fun _ h=>aH.cN h)) om (by simp only [List.length_append,List.length_nil,eW] at *; omega)) fun A291 c291=>?_
 rw [show ((eW++aE 2)++(eV its))++aE ((eH its n).enc).length++((eH its n).enc)=eI its n from by simp [eI,mL,eW]]
 refine Nf ?_
 dsimp only [bE,List.set,List.cons_append,List.nil_append]
 exact aF<|lx rfl<|Nx<|iD [7,8] (fun w hM hO=>Dr bw82 A291 c291 (eI its n) w hO (by have h9:=DU (its:=its) (n:=n) hen; omega)) fun A294 c294=>lx rfl<|Ne<|lx rfl<|lF<|Nn<|aF<|lx rfl<|Nx<|eK [0] (fun w hM hO=>xB bs (vL A its c) v1 v2 v3 v4 v5 v6 v7 v8 v9 v10 2 A294 ((eI its n).length) c294 w hO)<|Nb<|lx rfl<|Nd<|sN [(vi 0)] fun w hM=>⟨A294,c294,rfl,(hM.pick [0,1,10] rfl rfl)⟩
end
section
open Go.Maps (Keyed)
open Go.ChangeMaps (setBlock)
open Go.MapKept (Stamped)
section
variable {α β : Type} [DecidableEq α]
def oZ (kv : List (α × β)) (a : α) : Option β := (kv.find? fun p => decide (p.1 = a)).map (·.2)
def sZ (kv : List (α × β)) (a : α) (v : β) : List (α × β) := if (oZ kv a).isSome then kv.map (fun p => if p.1 = a then (a, v) else p) else kv ++ [(a, v)]
def lG (kv : List (α × β)) : List α := kv.map (·.1)
theorem JL {kv:List (α × β)} {a:α} (h:a∉lG kv):oZ kv a=none:=by
 unfold oZ
 rw [List.find?_eq_none.2]
 ·rfl
 ·intro p hp e
  exact h (List.mem_map.2 ⟨p,hp,by simpa using e⟩)
theorem JM {kv:List (α × β)} {a:α} {v:β} {j:Nat} (hn:(lG kv).Nodup) (hj:kv[j]?=some (a,v)):oZ kv a=some v:=by
 induction kv generalizing j with
 | nil=>simp at hj
 | cons p kv ih =>
   unfold oZ
   rw [List.find?_cons]
   by_cases hp:p.1=a
   ·rw [show (decide (p.1=a))=true by simpa using hp]
    cases j with
    | zero=>simp at hj; rw [hj]; rfl
    | succ j =>
      exfalso
      simp only [List.getElem?_cons_succ] at hj
      have:a∈lG kv:=List.mem_map.2 ⟨(a,v),List.mem_of_getElem? hj,rfl⟩
      unfold lG at hn this
      rw [List.map_cons,List.nodup_cons] at hn
      exact hn.1 (hp▸this)
   ·rw [show (decide (p.1=a))=false by simpa using hp]
    cases j with
    | zero=>simp at hj; rw [hj] at hp; exact (hp rfl).elim
    | succ j =>
      unfold lG at hn
      rw [List.map_cons,List.nodup_cons] at hn
      exact ih hn.2 (by simpa using hj)
theorem JN {kv:List (α × β)} {a:α} {v:β} (h:a∉lG kv):sZ kv a v=kv++[(a,v)]:=by unfold sZ; rw [JL h]; rfl
theorem JO {kv:List (α × β)} {a:α} {u v:β} {j:Nat} (hn:(lG kv).Nodup) (hj:kv[j]?=some (a,u)):sZ kv a v=kv.set j (a,v):=by
 unfold sZ
 rw [JM hn hj]
 show kv.map _=_
 apply List.ext_getElem?
 intro i
 rw [List.getElem?_map,List.getElem?_set]
 by_cases hij:j=i
 ·subst hij
  rw [if_pos rfl,if_pos (List.getElem?_eq_some_iff.1 hj).1,hj]
  simp
 ·rw [if_neg hij]
  cases hi:kv[i]? with
  | none=>rfl
  | some p =>
    simp only [Option.map_some]
    by_cases hp:p.1=a
    ·exfalso
     have e1:(lG kv)[i]?=some a:=by unfold lG; rw [List.getElem?_map,hi]; simp [hp]
     have e2:(lG kv)[j]?=some a:=by unfold lG; rw [List.getElem?_map,hj]; rfl
     obtain ⟨li,f1⟩:=List.getElem?_eq_some_iff.1 e1
     obtain ⟨lj,f2⟩:=List.getElem?_eq_some_iff.1 e2
     exact hij ((List.getElem_inj hn).1 (f2.trans f1.symm))
    ·rw [if_neg hp]
end
/-! ### Maps in memory -/
/-- How the keys of a type are told. -/
structure Kd (P : Program) (k : TypeId) (α : Type) where
 keyed : Keyed P k
 enc : α → Value
 lit : α → Lit
 ok : α → Prop
 key : ∀ a, ok a → keyOf P k (enc a) = some (lit a)
 inj : ∀ a b, ok a → ok b → enc a = enc b → a = b
section
variable {P : Program} {k : TypeId} {α β : Type} (D : Kd P k α) (val : β → Value)
def hU (w : World) (b : Nat) (kv : List (α × β)) : Prop :=
 ∃ es clock, w.heap[b]? = some (.map es clock) ∧ Stamped es clock ∧ es.toList.map (fun e => (e.key, e.val)) = kv.map (fun p => (D.enc p.1, val p.2)) ∧ ∀ p ∈ kv, D.ok p.1
variable {D : Kd P k α} {val : β → Value} {w : World} {b : Nat} {kv : List (α × β)}
theorem hU.lt (h:hU D val w b kv):b < w.heap.size:=by
 obtain ⟨es,clock,h1,_⟩:=h
 exact (Array.getElem?_eq_some_iff.1 h1).1
theorem hU.new (w:World):hU D val (w.alloc (.map #[] 0)) w.heap.size ([]:List (α × β)):=⟨#[],0,by show (w.heap.push _)[w.heap.size]?=_; simp,MapKept.stamped_empty 0,si,si⟩
theorem hU.entry {es:Array MapEntry} (he:es.toList.map (fun e=>(e.key,e.val))=kv.map (fun p=>(D.enc p.1,val p.2))) (j:Nat) {e:MapEntry} (h:es.toList[j]?=some e):∃ p,kv[j]?=some p∧D.enc p.1=e.key∧val p.2=e.val:=by
 have h1:(es.toList.map (fun e=>(e.key,e.val)))[j]?=some (e.key,e.val):=by rw [List.getElem?_map,h]; rfl
 rw [he,List.getElem?_map] at h1
 obtain ⟨p,hp,e1⟩:=Option.map_eq_some_iff.1 h1
 injection e1 with e2 e3
 exact ⟨p,hp,e2,e3⟩
theorem hU.keysOf {es:Array MapEntry} (he:es.toList.map (fun e=>(e.key,e.val))=kv.map (fun p=>(D.enc p.1,val p.2))) (hok:∀ p∈kv,D.ok p.1):∀ x∈es.toList,∃ l,keyOf P k x.key=some l:=by
 intro x hx
 obtain ⟨j,hj,e⟩:=List.mem_iff_getElem.1 hx
 obtain ⟨p,hp,h1,_⟩:=hU.entry he j (e▸List.getElem?_eq_getElem hj)
 exact ⟨_,h1▸D.key p.1 (hok p (List.mem_of_getElem? hp))⟩
theorem hU.nodup (h:hU D val w b kv):(lG kv).Nodup:=by
 obtain ⟨es,clock,_,hs,he,hok⟩:=h
 have h1:(es.toList.map (·.key)).Nodup:=hs.2.2
 have h2:es.toList.map (·.key)=(lG kv).map D.enc:=by
  have:=congrArg (List.map Prod.fst) he
  rw [List.map_map,List.map_map] at this
  unfold lG
  rw [List.map_map]
  exact this
 rw [h2] at h1
 unfold List.Nodup at h1 ⊢
 rw [List.pairwise_map] at h1
 exact h1.imp fun {a b} hne e=>hne (by rw [e])
theorem hU.find {es:Array MapEntry} {a:α} (ha:D.ok a) (he:es.toList.map (fun e=>(e.key,e.val))=kv.map (fun p=>(D.enc p.1,val p.2))) (hok:∀ p∈kv,D.ok p.1) (W:World) :
  ((Instr.findKey k (D.enc a) es.toList).run P W = .ok none W∧a∉lG kv∧∀ e∈es.toList,e.key≠D.enc a) ∨
  ∃ j e p,(Instr.findKey k (D.enc a) es.toList).run P W = .ok (some (j,val p.2)) W∧es.toList[j]?=some e∧e.key=D.enc a∧kv[j]?=some p∧p.1=a:=by
 rcases D.keyed.find W (D.key a ha) es.toList (hU.keysOf he hok) with ⟨h1,h2⟩ | ⟨j,e,h1,h2,h3⟩
 ·refine .inl ⟨h1,fun hm=>?_,h2⟩
  obtain ⟨p,hp,rfl⟩:=List.mem_map.1 hm
  obtain ⟨j,hj,e1⟩:=List.mem_iff_getElem.1 hp
  have hl:es.toList.length=kv.length:=by have:=congrArg List.length he; simpa using this
  have hj':j < es.toList.length:=om
  obtain ⟨p',hp',h4,_⟩:=hU.entry he j (List.getElem?_eq_getElem hj')
  rw [List.getElem?_eq_getElem hj,e1] at hp'
  cases hp'
  exact h2 _ (List.getElem_mem hj') h4.symm
 ·obtain ⟨p,hp,h4,h5⟩:=hU.entry he j h2
  exact .inr ⟨j,e,p,by rw [h1,h5],h2,h3,hp,D.inj _ _ (hok p (List.mem_of_getElem? hp)) ha (h4.trans h3)⟩
variable {t e : TypeId} [DecidableEq α]
theorem hU.lookup (h:hU D val w b kv) (ht:P.underlying t=some (.map k e)) {z:Value} (hz:∀ w,(zeroValue e).run P w = .ok z w) {a:α} (ha:D.ok a) (ok:Bool) :
  (Instr.lookup t (.map (some b)) (D.enc a) ok).run P w = .ok (if ok then .tuple #[((oZ kv a).map val).getD z,.bool (oZ kv a).isSome] else ((oZ kv a).map val).getD z) w:=by
 have hn:=h.nodup
 obtain ⟨es,clock,hb,hs,he,hok⟩:=h
 unfold Instr.lookup
 simp only [Sem.run_bind,run_underlying ht,Result.andThen_ok,MapKept.run_getObj_map hb,Sem.run_pure,D.keyed.check w _ (D.key a ha)]
 rcases hU.find ha he hok w with ⟨h1,h2,_⟩ | ⟨j,x,p,h1,h2,h3,h4,h5⟩
 ·simp only [h1,Result.andThen_ok,JL h2,Sem.run_bind,hz,Sem.run_pure]
  cases ok <;> rfl
 ·obtain ⟨a',v⟩:=p
  cases h5
  simp only [h1,Result.andThen_ok,JM hn h4]
  cases ok <;> rfl
theorem JP (w:World) (b:Nat) (o:Obj):Fr [b] w (setBlock w b o):=⟨rfl,rfl,rfl,by simp [setBlock],fun k _ hn=>by simp only [setBlock]; rw [Array.getElem?_setIfInBounds_ne (by intro e; exact hn (by simp [e]))]⟩
theorem hU.put (h:hU D val w b kv) (ht:P.underlying t=some (.map k e)) {a:α} (ha:D.ok a) (v:β) :
  ∃ w',(Instr.mapUpdate t (.map (some b)) (D.enc a) (val v)).run P w = .ok () w'∧Fr [b] w w'∧hU D val w' b (sZ kv a v):=by
 have hn:=h.nodup
 obtain ⟨es,clock,hb,hs,he,hok⟩:=h
 have hlt:=(Array.getElem?_eq_some_iff.1 hb).1
 have hset:∀ o,(setBlock w b o).heap[b]?=some o:=fun o=>by simp [setBlock,hlt]
 rcases hU.find ha he hok w with ⟨h1,h2,h3⟩ | ⟨j,x,p,h1,h2,h3,h4,h5⟩
 ·refine ⟨setBlock w b (.map (es.push ⟨D.enc a,val v,clock⟩) (clock+1)),?_,JP _ _ _,_,_,hset _,MapKept.stamped_push hs h3,?_,?_⟩
  ·simp [Instr.mapUpdate,run_underlying ht,MapKept.run_getObj_map hb,D.keyed.check w false (D.key a ha),h1,MapKept.run_setObj_map _ hb,Result.andThen,setBlock]
  ·rw [JN h2,Array.toList_push,List.map_append,List.map_append,he]
   rfl
  ·rw [JN h2]
   intro p hp
   rcases List.mem_append.1 hp with hp | hp
   ·exact hok p hp
   ·rw [List.mem_singleton] at hp
    subst hp
    exact ha
 ·obtain ⟨a',u⟩:=p
  cases h5
  have hj:es[j]?=some x:=by simpa using h2
  have hjl:j < es.toList.length:=(List.getElem?_eq_some_iff.1 h2).1
  have hkeyf:∀ e',es[j]?=some e'→({ e' with key:=D.enc a',val:=val v }:MapEntry).key=e'.key:=fun e' he'=>by rw [hj] at he'; cases he'; exact h3.symm
  refine ⟨setBlock w b (.map (es.modify j (fun e'=>{ e' with key:=D.enc a',val:=val v })) clock),?_,JP _ _ _,_,_,hset _,MapKept.stamped_modify hs _ _ (fun _ _=>rfl) (fun e' _ he'=>hkeyf e' he'),?_,?_⟩
  ·simp [Instr.mapUpdate,run_underlying ht,MapKept.run_getObj_map hb,D.keyed.check w false (D.key a' ha),h1,hj,h3,D.keyed.stays w (D.key a' ha),MapKept.run_setObj_map _ hb,Result.andThen,setBlock]
  ·rw [JO hn h4,Array.toList_modify,ChangeMaps.modify_eq_set _ _ _ _ h2,List.map_set,he,List.map_set]
  ·rw [JO hn h4]
   intro p hp
   rcases List.mem_or_eq_of_mem_set hp with hp | rfl
   ·exact hok p hp
   ·exact ha
end
def pX {P : Program} {k : TypeId} {α β : Type} (D : Kd P k α) (val : β → Value) (b : Nat) (kv : List (α × β)) : Ch where
 fp := [b]
 holds w := hU D val w b kv
 ok w w' hb h := by
  obtain ⟨es, clock, h1, h2⟩ := h
  exact ⟨es, clock, (hb b (by simp)).trans h1, h2⟩
 lt w h c hc := by
  rw [List.mem_singleton] at hc
  subst hc
  exact h.lt
section
variable {P : Program} {k : TypeId} {α β : Type} {D : Kd P k α} {val : β → Value} {b : Nat} {kv : List (α × β)}
variable {Q : Exit → Act → World → Prop} {n : Nat} {w0 : World} {F : List Nat} {E : cH} {cs : List Ch} {X K : Act → World → Prop} {o : Oper} {d : Nat} {t e : TypeId}
theorem xM (D:Kd P k α) (val:β→Value) (ho:o.op = .makeMap t none) (hd:o.dst=some d) (hk:bN n E o=true) (h:∀ b,St n w0 F ((d,.map (some b))::E) (cs++[pX D val b ([]:List (α × β))]) K):cL P Q n w0 F E cs o K :=
 nW hd hk fun w hM=>by
  refine ⟨.map (some w.heap.size),w.alloc (.map #[] 0),_,?_,hM.push (c:=pX D val w.heap.size []) ((Fr.refl _ _).alloc _) (hU.new w) (by simp [pX]) (by simp [pX]),h _⟩
  unfold execOp
  simp only [ho,Option.map_none,Sem.run_bind,run_makeMap,Result.andThen_ok]
  rfl
variable [DecidableEq α]
theorem xN {x y:Operand} {a:α} {z:Value} (i:Nat) (ho:o.op = .lookup t x y true) (hx:aM E x=some (.map (some b))) (hy:aM E y=some (D.enc a)) (ht:P.underlying t=some (.map k e)) (hz:∀ w,(zeroValue e).run P w = .ok z w) (hi:cs[i]?=some (pX D val b kv)) (ha:D.ok a):cC P w0 F cs E o (.tuple #[((oZ kv a).map val).getD z,.bool (oZ kv a).isSome]):=fun w hM=>by
 have h:hU D val w b kv:=hM.at hi
 unfold execOp
 simp only [ho,bG hx,bG hy,Sem.run_bind,h.lookup ht hz ha true]
 rfl
end
def SN (P : Program) (k : TypeId) (q : IntKind) (hk : P.underlying k = some (.int q)) (m : Nat) (hm : ∀ a : Nat, a < m → (Lit.int q (a : Int)).wf = true) : Kd P k Nat where
 keyed := Maps.int_keyed hk
 enc a := .int q (a : Int)
 lit a := .int q (a : Int)
 ok a := a < m
 key a ha := Maps.keyOf_int_mk hk (hm a ha)
 inj a b _ _ h := by injection h with _ h; omega
end
section
noncomputable def lH : Kd Tryz.prog 99 Nat := SN Tryz.prog 99 .i64 Tryz.underlying99 100 (fun a h => by simp [Lit.wf, IntKind.min, IntKind.max, IntKind.bits, IntKind.signed]; omega)
section
variable {P : Program} {Q : Exit → Act → World → Prop} {k : TypeId} {α β : Type} {D : Kd P k α} {val : β → Value} {b : Nat} {kv : List (α × β)} {n : Nat} {w0 : World} {F : List Nat} {E : cH} {cs : List Ch} {K : Act → World → Prop} {o : Oper} {t e : TypeId} [DecidableEq α]
theorem xO {x y v:Operand} {a:α} {u:β} (i:Nat) (kv':List (α × β)) (ho:o.op = .insert t x y v) (hd:o.dst=none) (hk:bN n E o=true) (hx:aM E x=some (.map (some b))) (hy:aM E y=some (D.enc a)) (hv:aM E v=some (val u)) (ht:P.underlying t=some (.map k e)) (hi:cs[i]?=some (pX D val b kv)) (ha:D.ok a) (hkv:sZ kv a u=kv')
  (h:St n w0 F E (cs.set i (pX D val b kv')) K):cL P Q n w0 F E cs o K :=
 Bj hd hk fun w hM=>by
  subst hkv
  have hs:hU D val w b kv:=hM.at hi
  obtain ⟨w',hrun,hf,hm⟩:=hs.put ht ha u
  refine ⟨w',_,?_,hM.swap i hi (c':=pX D val b (sZ kv a u)) hf hm (fun c hc=>.inl hc) (by simp [pX]),h⟩
  unfold execOp
  simp only [ho,bG hx,bG hy,bG hv,Sem.run_bind,hrun]
  rfl
end
theorem xP {P:Program} {E:cH} {o:Oper} {f:FuncId} {x y:Operand} {r u:Value} {t:Array TypeId} (ho:o.op = .call { callee:=.value x,args:=#[y],argTypes:=t }) (hx:aM E x=some (.func (.func f) #[r] #[])) (hy:aM E y=some u) (eg:∀ args w,(callFunc f args).run P w = .ok (.enter f args) w):∀ w,(execOp (evE E) o).run P w = .ok (.enter f #[r,u]) w:=fun w=>by
 unfold execOp
 simp only [ho,resolve,bG hx,Deferred.ofValue,Sem.run_bind,Sem.run_pure,Result.andThen_ok,invoke,List.map_toArray,List.map_cons,List.map_nil,bG hy]
 simpa using eg #[r,u] w
theorem SO (bs:Nat) (A:Option Addr) (c:Nat) (its:List (List UInt8)) (v2 v3:Value) (v4 v6:Value) (v7 v8:Value) (v9 v10:Value) (AD:Option Addr) (cD:Nat) (Dm:List UInt8) (q0:Rd) (ts:List BT) (k n:Nat) (w:World) (hO:cE [aD bs 101 [(vL A its c),bF,v2,v3,v4,bF,v6,v7,v8,v9,v10]] w) (r0:Rf [aD bs 101 [(vL A its c),bF,v2,v3,v4,bF,v6,v7,v8,v9,v10]] w (cI)) (r1:Rf [aD bs 101 [(vL A its c),bF,v2,v3,v4,bF,v6,v7,v8,v9,v10]] w (fun w=>aH w A (SS its))) (r2:Rf [aD bs 101 [(vL A its c),bF,v2,v3,v4,bF,v6,v7,v8,v9,v10]] w (fun w=>aH w AD (B8 Dm))) (hDl:Dm.length≤4294967296) (hu:(Rd.mk Dm 0 0 0).uint=(1,q0)) (hts:cM q0.rest.1=some ts) (hend:q0.rest.2.end_=0) (hset:cJ its) (h40:its.length≤40) (hest:gR ts (bC its)=k) (hk:k≤500) (hsz:jC ((k+k / 2:Nat):Int)=(n:Int)) (hz:dQ (n:Int)=true) :
  Calls Tryz.prog 58 #[(vP bs 0),(vL AD Dm cD)] w fun e w'=>∃ (Am:Option Addr) (cm:Nat),e = .returned (vi 0)∧aJ [aD bs 101 [(vL A its c),bF,v2,v3,v4,bF,v6,v7,v8,v9,v10]] w [aD bs 101 [(vL A its c),bF,(vi 1),(vI 2),(vL Am (eI its n) cm),bT,v6,v7,v8,v9,v10],cB Am (eI its n) cm] w':=by
 refine bK Tryz.func58 95 (hO) rfl<|Nc<|lx rfl<|Nb<|lx rfl<|Nx<|dW (fun w hM=>sG AD cD Dm w (r2.aQ hM) (hDl)) fun X10 br10=>lx rfl<|Nb<|lx rfl<|Ne<|lx rfl<|Nx<|eK [1] (fun w hM hO=>uN X10 br10 (Rd.mk Dm 0 0 0) w hO)<|Ng<|aS ?_
 rw [show (Rd.mk Dm 0 0 0).uint.1=1 from by rw [hu]]
 rw [show (Rd.mk Dm 0 0 0).uint.2=q0 from by rw [hu]]
 refine aF<|lT<|lx rfl<|No<|lx rfl<|lk (vP bs 0)<|lk (vP bs 1)<|lL 0 rfl<|lT<|lx rfl<|lg (vP bs 0)<|lg (vP bs 5)<|lu bF (cW 0 rfl rfl kr rfl rfl)<|lg bT<|lT<|Nt<|aF<|lx rfl<|Nx<|iD [0,1] (fun w hM hO=>SM bs A c its bF v2 v3 v4 bF v6 v7 v8 v9 v10 X10 br10 q0 ts k n w hO (r0.cK hM [0,1]) (r1.cK hM [0,1]) (hts) (hend) (hset) (h40) (hest) (hk) (hsz) (hz)) fun Am29 cm29=>lx rfl<|Nk<|Ny<|lx rfl ?_
 refine lT<|Nt<|aF<|lx rfl<|lk (vP bs 0)<|lk (vP bs 5)<|Nx<|pS 0 rfl<|Nf ?_
 dsimp only [bE,List.set,List.cons_append,List.nil_append]
 exact aF<|lx rfl<|Nd<|sN [(vi 0)] fun w hM=>⟨Am29,cm29,rfl,(hM.pick [0,2] rfl rfl)⟩
theorem SP (bs:Nat) (A:Option Addr) (c:Nat) (its:List (List UInt8)) (v3 v4:Value) (v6 v7:Value) (v8 v9 v10:Value) (AD:Option Addr) (cD:Nat) (Dm:List UInt8) (q0:Rd) (ts:List BT) (k n:Nat) (w:World) (hO:cE [aD bs 101 [(vL A its c),bF,(vi 2),v3,v4,bF,v6,v7,v8,v9,v10]] w) (r0:Rf [aD bs 101 [(vL A its c),bF,(vi 2),v3,v4,bF,v6,v7,v8,v9,v10]] w (cI)) (r1:Rf [aD bs 101 [(vL A its c),bF,(vi 2),v3,v4,bF,v6,v7,v8,v9,v10]] w (fun w=>aH w A (SS its))) (r2:Rf [aD bs 101 [(vL A its c),bF,(vi 2),v3,v4,bF,v6,v7,v8,v9,v10]] w (fun w=>aH w AD (B8 Dm))) (hDl:Dm.length≤4294967296) (hu:(Rd.mk Dm 0 0 0).uint=(1,q0)) (hts:cM q0.rest.1=some ts) (hend:q0.rest.2.end_=0) (hset:cJ its) (h40:its.length≤40) (hest:gR ts (bC its)=k) (hk:k≤500) (hsz:jC ((k+k / 2:Nat):Int)=(n:Int)) (hz:dQ (n:Int)=true) :
  Calls Tryz.prog 21 #[(vP bs 0),(vL AD Dm cD)] w fun e w'=>∃ (Am:Option Addr) (cm:Nat),e = .returned (vi 0)∧aJ [aD bs 101 [(vL A its c),bF,(vi 2),v3,v4,bF,v6,v7,v8,v9,v10]] w [aD bs 101 [(vL A its c),bF,(vi 1),(vI 2),(vL Am (eI its n) cm),bT,v6,v7,v8,v9,v10],cB Am (eI its n) cm] w':=by
 refine bK Tryz.func21 26 (hO) rfl<|Nc<|lx rfl<|Nb<|Nx<|xM lH (fun v:Value=>v) rfl rfl kr (fun b8=>lx rfl<|lk (.func (.func 58) #[(vP bs 0)] #[])<|Nx<|xO (D:=lH) (val:=fun v:Value=>v) (a:=2) (u:=(.func (.func 58) #[(vP bs 0)] #[])) 1 [(2,(.func (.func 58) #[(vP bs 0)] #[]))] rfl rfl kr rfl rfl rfl Tryz.underlying112 rfl (show (2:Nat) < 100 by decide) rfl<|lx rfl<|Nb<|lx rfl<|lk (vP bs 0)<|lk (vP bs 2)<|lL 0 rfl<|lw (.tuple #[(.func (.func 58) #[(vP bs 0)] #[]),bT]) (iB (xN (D:=lH) (val:=fun v:Value=>v) (a:=2) (kv:=[(2,(.func (.func 58) #[(vP bs 0)] #[]))]) 1 rfl rfl rfl Tryz.underlying112 Tryz.zeroValue60 rfl (show (2:Nat) < 100 by decide)) rfl)<|lx rfl<|Ne<|lx rfl<|lF<|Nn<|aF<|lx rfl ?_)
 refine Nx<|gO [0] [aD bs 101 [(vL A its c),bF,(vi 2),v3,v4,bF,v6,v7,v8,v9,v10]] (fun w hM hO=>(SO bs A c its (vi 2) v3 v4 v6 v7 v8 v9 v10 AD cD Dm q0 ts k n w hO (r0.cK hM [0]) (r1.cK hM [0]) (r2.cK hM [0]) (hDl) (hu) (hts) (hend) (hset) (h40) (hest) (hk) (hsz) (hz)).mono ?_) rfl rfl rfl kr (xP rfl rfl rfl (nF Tryz.func58 kr rfl))
 rintro e w' ⟨Am25,cm25,rfl,hP⟩
 refine ⟨_,[_],_,rfl,hP,rfl,?_⟩; clear hP hM hO
 exact lx rfl<|Nd<|sN [(vi 0)] fun w hM=>⟨Am25,cm25,rfl,(hM.pick [0,2] rfl rfl)⟩
end
section
def AG (s r : List Bs) (p : AP) : Prop := match p.c with
 | .sum n f => n = cnt s p.lo p.hi ∧ f = eV (inL s p.lo p.hi)
 | .list xs => xs = inL s p.lo p.hi
 | .ans xs ms => (∀ x, x ∈ xs ↔ (x ∈ s ∧ x ∉ r) ∧ inR p.lo p.hi x = true) ∧ (∀ x, x ∈ ms ↔ (x ∈ r ∧ x ∉ s) ∧ inR p.lo p.hi x = true)
structure vB (s r : List Bs) (m : List AP) : Prop where
 ok : ∀ p ∈ m, p.ok
 bef : m.Pairwise xF
 con : ∀ p ∈ m, AG s r p
theorem SQ {m:List AP} (h:m.Pairwise xF):uQ m:=by
 intro k p hp
 unfold follows
 cases hl:(m.take k).getLast? with
 | none=>rfl
 | some q =>
   dsimp only
   rw [List.getLast?_eq_getElem?] at hl
   obtain ⟨h1,h2⟩:=List.getElem?_eq_some_iff.1 hl
   rw [List.getElem_take] at h2
   obtain ⟨h3,h4⟩:=List.getElem?_eq_some_iff.1 hp
   have hlt:(m.take k).length - 1 < k:=by rw [List.length_take] at h1 ⊢; omega
   have hb:=List.pairwise_iff_getElem.1 h ((m.take k).length - 1) k (by rw [List.length_take] at h1 ⊢; omega) h3 hlt
   rw [h2,h4] at hb
   simp [hb.1,hb.2]
theorem vB.msg {s r:List Bs} {m:List AP} (h:vB s r m) (hne:m≠[]):CQ m:=⟨hne,h.ok,SQ h.bef⟩
theorem JQ {l:List Bs} {lo hi:Bs} (p:Bs→Bool) (h:eF l lo hi=true):eF (l.filter p) lo hi=true:=by
 unfold eF at h ⊢
 rw [Bool.and_eq_true,decide_eq_true_eq] at h ⊢
 refine ⟨?_,h.2.sublist List.filter_sublist⟩
 rw [List.all_eq_true] at h ⊢
 exact fun x hx=>h.1 x (List.mem_filter.1 hx).1
theorem DV {l:List Bs} (h:jT l) (lo hi:Bs):eF (inL l lo hi) lo hi=true:=by
 unfold eF
 rw [Bool.and_eq_true,decide_eq_true_eq]
 refine ⟨?_,xE h lo hi⟩
 rw [List.all_eq_true]
 exact fun x hx=>(jS.1 hx).2
theorem JR {its:List Bs} (hs:cJ its) {a x:Bs} (ha:iH a=true) (h:x=a∨x∈its):iH x=true:=by
 rcases h with rfl | h
 ·exact ha
 ·unfold iH; simp [hs.1 x h]
abbrev Wt (l : List Bs) (m : List AP) : Nat := (m.map fun p => cnt l p.lo p.hi).sum
section
variable {s r : List Bs} {fan leaf : Nat}
structure mA (s r : List Bs) (leaf : Nat) (p : AP) (l : List AP) : Prop where
 ok : ∀ q ∈ l, q.ok
 bef : l.Pairwise xF
 con : ∀ q ∈ l, AG r s q
 sub : ∀ q ∈ l, lZ p.lo p.hi q.lo q.hi
 wt : ∀ t : List Bs, Wt t l ≤ cnt t p.lo p.hi
 len : l.length ≤ 1 + 2 * cnt r p.lo p.hi
 enc : ∀ q ∈ l, q.enc.length ≤ 100 + 32 * (cnt r q.lo q.hi + cnt s q.lo q.hi)
theorem mA.nil (p:AP):mA s r leaf p []:=⟨fun q hq=>(by cases hq),List.Pairwise.nil,fun q hq=>(by cases hq),fun q hq=>(by cases hq),fun t=>Nat.zero_le _,Nat.zero_le _,fun q hq=>(by cases hq)⟩
theorem mA.one {p q:AP} (hlo:q.lo=p.lo) (hhi:q.hi=p.hi) (h1:q.ok) (h2:AG r s q) (h3:q.enc.length≤100+32*(cnt r q.lo q.hi+cnt s q.lo q.hi)):mA s r leaf p [q]:=by
 refine ⟨?_,List.pairwise_singleton _ _,?_,?_,?_,si,?_⟩
 ·intro x hx; rw [List.mem_singleton.1 hx]; exact h1
 ·intro x hx; rw [List.mem_singleton.1 hx]; exact h2
 ·intro x hx; rw [List.mem_singleton.1 hx,hlo,hhi]; exact lZ.refl _ _
 ·intro t; simp [Wt,hlo,hhi]
 ·intro x hx; rw [List.mem_singleton.1 hx]; exact h3
theorem JS {p:AP} (h:p.ok):p.enc.length≤66+p.c.enc.length:=by
 have l1:=qR h.1.1
 have l2:=qR h.1.2.1
 have e1:=hJ (n:=p.lo.length) om
 have e2:=hJ (n:=p.hi.length) om
 simp only [AP.enc,List.length_append]
 omega
theorem SR (hs:cJ s) (hr:cJ r) (hs4:s.length≤40) (hr4:r.length≤40) (hf:2≤fan) (hl:1≤leaf) (hl2:leaf≤64) {p:AP} (hp:p.ok) (hc:AG s r p):mA s r leaf p (lE r fan leaf p):=by
 obtain ⟨⟨b1,b2,b3⟩,hcok⟩:=hp
 obtain ⟨lo,hi,c⟩:=p
 dsimp only at b1 b2 b3
 cases c with
 | sum n f =>
   show mA s r leaf _ (oS r fan leaf lo hi n f)
   unfold oS
   split
   ·exact mA.nil _
   ·split
    ·have hle:=mY r lo hi
     have ho:AP.ok ⟨lo,hi,.list (inL r lo hi)⟩:=⟨⟨b1,b2,b3⟩,om,sU hr lo hi,DV hr.2 lo hi⟩
     refine mA.one rfl rfl ho rfl ?_
     have h1:=JS ho
     have h2:=qS (sU hr lo hi)
     have h3:=hJ (n:=2) om
     have h4:=hJ (n:=(inL r lo hi).length) om
     simp only [AC.enc,List.length_append,h2,h3,h4] at h1
     show _≤100+32*((inL r lo hi).length+_)
     omega
    ·rename_i hgt
     have hD:=Jg (lo:=lo) (hi:=hi) hr (show 0 < (inL r lo hi).length by omega) hf
     change mA s r leaf _ (uX r fan lo hi)
     have hq:∀ q∈uX r fan lo hi,q.ok∧q.enc.length≤100:=fun q hq=>by
      obtain ⟨a,b,_,d,e,_⟩:=hD.part q hq
      have q1:=JR hr b1 d
      have q2:=JR hr b2 e
      have h5:=Ax hr4 a (qR q1) (qR q2)
      refine ⟨⟨⟨q1,q2,b⟩,?_⟩,h5.2⟩
      rw [a]
      exact ⟨Nat.le_trans (mY _ _ _) om,Aw _⟩
     refine ⟨fun q h=>(hq q h).1,hD.bef,fun q h=>?_,fun q h=>(hD.part q h).2.2.1,fun t=>Nat.le_of_eq (hD.sum t),?_,fun q h=>Nat.le_trans (hq q h).2 om⟩
     ·have a:=(hD.part q h).1
      rw [a]
      exact ⟨rfl,rfl⟩
     ·have h6:=hD.len.1
      have h7:1 < cnt r lo hi:=by show 1 < (inL r lo hi).length; omega
      show _≤1+2*cnt r lo hi
      omega
 | list xs =>
   obtain rfl:xs=inL s lo hi:=hc
   show mA s r leaf _ (pV r lo hi (inL s lo hi))
   unfold pV
   split
   ·have o1:eF (aK (inL r lo hi) (inL s lo hi)) lo hi=true:=JQ _ (DV hr.2 lo hi)
    have o2:eF (aK (inL s lo hi) r) lo hi=true:=JQ _ (DV hs.2 lo hi)
    have a1:=lU (inL r lo hi) (inL s lo hi)
    have a2:=lU (inL s lo hi) r
    have a3:=mY r lo hi
    have a4:=mY s lo hi
    have c1:=sV (m:=inL s lo hi) (sU hr lo hi)
    have c2:=sV (m:=r) (sU hs lo hi)
    have ho:AP.ok ⟨lo,hi,.ans (aK (inL r lo hi) (inL s lo hi)) (aK (inL s lo hi) r)⟩:=⟨⟨b1,b2,b3⟩,⟨om,c1,o1⟩,om,c2,o2⟩
    refine mA.one rfl rfl ho ⟨fun x=>?_,fun x=>?_⟩ ?_
    ·rw [DC,jS,jS]
     constructor
     ·rintro ⟨⟨h1,h2⟩,h3⟩; exact ⟨⟨h1,fun h=>h3 ⟨h,h2⟩⟩,h2⟩
     ·rintro ⟨⟨h1,h2⟩,h3⟩; exact ⟨⟨h1,h3⟩,fun h=>h2 h.1⟩
    ·rw [DC,jS]
     constructor
     ·rintro ⟨⟨h1,h2⟩,h3⟩; exact ⟨⟨h1,h3⟩,h2⟩
     ·rintro ⟨⟨h1,h2⟩,h3⟩; exact ⟨⟨h1,h3⟩,h2⟩
    ·have h1:=JS ho
     have f1:=qS c1
     have f2:=qS c2
     have h3:=hJ (n:=3) om
     have h4:=hJ (n:=(aK (inL r lo hi) (inL s lo hi)).length) om
     have h5:=hJ (n:=(aK (inL s lo hi) r).length) om
     simp only [AC.enc,List.length_append,f1,f2,h3,h4,h5] at h1
     show _≤100+32*((inL r lo hi).length+(inL s lo hi).length)
     omega
   ·exact mA.nil _
 | ans xs ms=>exact mA.nil _
theorem JT {f:AP→List AP} {t:List Bs}:∀ {m:List AP},(∀ p∈m,Wt t (f p)≤cnt t p.lo p.hi)→Wt t (m.flatMap f)≤Wt t m
 | [],_=>Nat.le_refl _
 | p::m,h=>by
   have ih:=JT (f:=f) (t:=t) (m:=m) fun q hq=>h q (by simp [hq])
   have h1:=h p si
   simp only [Wt,List.flatMap_cons,List.map_append,List.sum_append,List.map_cons,List.sum_cons] at ih h1 ⊢
   omega
theorem JU {f:AP→List AP}:∀ {m:List AP},(∀ p∈m,(f p).length≤1+2*cnt r p.lo p.hi)→(m.flatMap f).length≤m.length+2*Wt r m
 | [],_=>Nat.le_refl _
 | p::m,h=>by
   have ih:=JU (f:=f) (m:=m) fun q hq=>h q (by simp [hq])
   have h1:=h p si
   simp only [Wt,List.flatMap_cons,List.length_append,List.map_cons,List.sum_cons,List.length_cons] at ih h1 ⊢
   omega
theorem vB.reply (hs:cJ s) (hr:cJ r) (hs4:s.length≤40) (hr4:r.length≤40) (hf:2≤fan) (hl:1≤leaf) (hl2:leaf≤64) {m:List AP} (h:vB s r m) :
  vB r s (fA r fan leaf m)∧(∀ t,Wt t (fA r fan leaf m)≤Wt t m)∧(fA r fan leaf m).length≤m.length+2*Wt r m∧∀ q∈fA r fan leaf m,q.enc.length≤100+32*(cnt r q.lo q.hi+cnt s q.lo q.hi):=by
 have hR:∀ p∈m,mA s r leaf p (lE r fan leaf p):=fun p hp=>SR hs hr hs4 hr4 hf hl hl2 (h.ok p hp) (h.con p hp)
 refine ⟨⟨?_,?_,?_⟩,fun t=>JT fun p hp=>(hR p hp).wt t,JU fun p hp=>(hR p hp).len,?_⟩
 ·intro q hq
  obtain ⟨p,h1,h2⟩:=List.mem_flatMap.1 hq
  exact (hR p h1).ok q h2
 ·unfold fA
  rw [List.pairwise_flatMap]
  refine ⟨fun p hp=>(hR p hp).bef,h.bef.imp_of_mem fun {p p'} hp hp' hb q hq q' hq'=>?_⟩
  have s1:=(hR p hp).sub q hq
  have s2:=(hR p' hp').sub q' hq'
  have s3:=s1.2.resolve_left hb.1
  exact ⟨s3.1,xD (xD s3.2 hb.2) s2.1⟩
 ·intro q hq
  obtain ⟨p,h1,h2⟩:=List.mem_flatMap.1 hq
  exact (hR p h1).con q h2
 ·intro q hq
  obtain ⟨p,h1,h2⟩:=List.mem_flatMap.1 hq
  exact (hR p h1).enc q h2
end
/-! ### A run of messages -/
def pC (a b : List Bs) (j : Nat) : List Bs := if j % 2 = 0 then a else b
def fB (a b : List Bs) (fan leaf : Nat) : Nat → List AP
 | 0 => [dS a [] []]
 | j + 1 => fA (iP a b j) fan leaf (fB a b fan leaf j)
theorem SU (a b:List Bs) (j:Nat):pC a b (j+1)=iP a b j:=by
 unfold pC iP
 by_cases h:j % 2=0
 ·rw [if_neg om,if_pos h]
 ·rw [if_pos om,if_neg h]
theorem SV (a b:List Bs) (j:Nat):iP a b (j+1)=pC a b j:=by
 unfold pC iP
 by_cases h:j % 2=0
 ·rw [if_neg om,if_pos h]
 ·rw [if_pos om,if_neg h]
structure vC (a b : List Bs) (fan leaf : Nat) : Prop where
 (ha : cJ a) (hb : cJ b) (ha4 : a.length ≤ 40) (hb4 : b.length ≤ 40) (hf : 2 ≤ fan) (hf2 : fan ≤ 16) (hl : 1 ≤ leaf) (hl2 : leaf ≤ 64)
structure SW (a b : List Bs) (fan leaf j : Nat) (m : List AP) : Prop where
 hon : vB (pC a b j) (iP a b j) m
 len : m.length ≤ 1 + 80 * j
 wt : ∀ t : List Bs, Wt t m ≤ t.length
 enc : ∀ q ∈ m, q.enc.length ≤ 100 + 32 * (cnt a q.lo q.hi + cnt b q.lo q.hi)
section
variable {a b : List Bs} {fan leaf : Nat}
theorem vC.side (h:vC a b fan leaf) (j:Nat):(cJ (iP a b j)∧(iP a b j).length≤40)∧cJ (pC a b j)∧(pC a b j).length≤40:=by
 unfold iP pC
 split
 ·exact ⟨⟨h.hb,h.hb4⟩,h.ha,h.ha4⟩
 ·exact ⟨⟨h.ha,h.ha4⟩,h.hb,h.hb4⟩
theorem AH (h:vC a b fan leaf):∀ j,SW a b fan leaf j (fB a b fan leaf j)
 | 0=>by
   have e:fB a b fan leaf 0=[dS a [] []]:=rfl
   rw [e]
   have h0:=Ax h.ha4 (p:=dS a [] []) rfl (by simp [dS]) (by simp [dS])
   refine ⟨⟨?_,List.pairwise_singleton _ _,?_⟩,si,?_,?_⟩
   ·intro p hp
    rw [List.mem_singleton.1 hp]
    have:=mY a [] []
    have h4:=h.ha4
    exact ⟨⟨by simp [dS,iH],by simp [dS,iH],by simp [dS,lV]⟩,om,Aw _⟩
   ·intro p hp
    rw [List.mem_singleton.1 hp]
    exact ⟨rfl,rfl⟩
   ·intro t
    simp only [Wt,List.map_cons,List.map_nil,List.sum_cons,List.sum_nil]
    show (inL t [] []).length+0≤_
    rw [RI]
    omega
   ·intro q hq
    rw [List.mem_singleton.1 hq]
    exact Nat.le_trans h0.2 om
 | j+1=>by
   have ih:=AH h j
   obtain ⟨⟨r1,r2⟩,s1,s2⟩:=h.side j
   obtain ⟨h1,h2,h3,h4⟩:=ih.hon.reply s1 r1 s2 r2 h.hf h.hl h.hl2
   have e:fB a b fan leaf (j+1)=fA (iP a b j) fan leaf (fB a b fan leaf j):=rfl
   rw [e]
   refine ⟨by rw [SU,SV]; exact h1,?_,fun t=>Nat.le_trans (h2 t) (ih.wt t),fun q hq=>?_⟩
   ·have:=ih.wt (iP a b j)
    have:=ih.len
    omega
   ·have h5:=h4 q hq
    have e2:cnt (iP a b j) q.lo q.hi+cnt (pC a b j) q.lo q.hi=cnt a q.lo q.hi+cnt b q.lo q.hi:=by
     unfold iP pC
     split
     ·exact Nat.add_comm _ _
     ·rfl
    rw [e2] at h5
    exact h5
theorem JV:∀ {m:List AP},(∀ q∈m,q.enc.length≤100+32*(cnt a q.lo q.hi+cnt b q.lo q.hi))→(m.flatMap AP.enc).length≤m.length*100+32*(Wt a m+Wt b m)
 | [],_=>Nat.zero_le _
 | p::m,h=>by
   have ih:=JV (m:=m) fun q hq=>h q (by simp [hq])
   have h1:=h p si
   simp only [Wt,List.flatMap_cons,List.length_append,List.map_cons,List.sum_cons,List.length_cons] at ih h1 ⊢
   omega
theorem AI (h:vC a b fan leaf) {j:Nat} (hj:j≤100):(bX (fB a b fan leaf j)).length≤1048576:=by
 have hi:=AH h j
 have h1:=hi.len
 have h2:=JV hi.enc
 have h3:=hi.wt a
 have h4:=hi.wt b
 have h5:=RY (fB a b fan leaf j) om
 have:=h.ha4
 have:=h.hb4
 omega
theorem tA (h:vC a b fan leaf):∀ j,j≤30→bZ a b fan leaf j=bX (fB a b fan leaf j)∧fV a b fan leaf j=⟨bX (fB a b fan leaf (j+1)),0,(fB a b fan leaf j).flatMap (jI (iP a b j)),(fB a b fan leaf j).flatMap (jJ (iP a b j))⟩:=by
 intro j hj
 have key:bZ a b fan leaf j=bX (fB a b fan leaf j)→fV a b fan leaf j=⟨bX (fB a b fan leaf (j+1)),0,(fB a b fan leaf j).flatMap (jI (iP a b j)),(fB a b fan leaf j).flatMap (jJ (iP a b j))⟩:=by
  intro he
  unfold fV
  rw [he]
  have hs1:=AI h (j:=j) om
  have hs2:=AI h (j:=j+1) om
  have e:fB a b fan leaf (j+1)=fA (iP a b j) fan leaf (fB a b fan leaf j):=rfl
  have hi:=AH h j
  rw [e] at hs2 ⊢
  generalize fB a b fan leaf j=m at *
  by_cases hm:m=[]
  ·subst hm
   rfl
  ·have hne:bX m≠[]:=by
    unfold bX
    have hml:m.length≠0:=fun e=>hm (List.eq_nil_of_length_eq_zero e)
    rw [if_neg hml]
    intro e
    have e2:=congrArg List.length e
    have:=wW m.length
    rw [List.length_append,List.length_nil] at e2
    omega
   unfold dA
   rw [if_neg hne,Hv (hi.hon.msg hm) om]
   dsimp only
   rw [if_neg om]
 induction j with
 | zero=>exact ⟨rfl,key rfl⟩
 | succ j ih =>
   have ih':=ih om (fun he=>?_)
   ·have e:bZ a b fan leaf (j+1)=bX (fB a b fan leaf (j+1)):=by
     show (fV a b fan leaf j).reply=_
     rw [ih'.2]
    exact ⟨e,key e⟩
   ·unfold fV
    rw [he]
    have hs1:=AI h (j:=j) om
    have hs2:=AI h (j:=j+1) om
    have e:fB a b fan leaf (j+1)=fA (iP a b j) fan leaf (fB a b fan leaf j):=rfl
    have hi:=AH h j
    rw [e] at hs2 ⊢
    generalize fB a b fan leaf j=m at *
    by_cases hm:m=[]
    ·subst hm
     rfl
    ·have hne:bX m≠[]:=by
      unfold bX
      have hml:m.length≠0:=fun e=>hm (List.eq_nil_of_length_eq_zero e)
      rw [if_neg hml]
      intro e
      have e2:=congrArg List.length e
      have:=wW m.length
      rw [List.length_append,List.length_nil] at e2
      omega
     unfold dA
     rw [if_neg hne,Hv (hi.hon.msg hm) om]
     dsimp only
     rw [if_neg om]
theorem JW {m:List AP}:bX m=[]↔m=[]:=by
 constructor
 ·intro h
  by_cases hm:m=[]
  ·exact hm
  ·exfalso
   have hml:m.length≠0:=fun e=>hm (List.eq_nil_of_length_eq_zero e)
   rw [bX,if_neg hml] at h
   have e2:=congrArg List.length h
   have:=wW m.length
   rw [List.length_append,List.length_nil] at e2
   omega
 ·rintro rfl; rfl
end
abbrev dB (n : Nat) : Bs := GX (UInt8.ofNat n)
theorem AJ:cJ [dB 65]:=by decide +kernel
end
section
section
variable {a b : List Bs} {fan leaf : Nat}
theorem DW (h:a.length≤40):(bX [dS a [] []]).length=37:=by
 have e:bX [dS a [] []]=aE 1++(dS a [] []).enc:=by
  unfold bX
  rw [if_neg si]
  simp
 have ho:=hJ (n:=1) om
 have hz:=hJ (n:=0) om
 have hn:=hJ (n:=(inL a [] []).length) (by have:=mY a [] []; omega)
 rw [e]
 simp only [dS,AP.enc,AC.enc,List.length_append,Aw,List.length_nil,ho,hz,hn]
end
end
theorem SX {its:List Bs} {t:BT} {print:Bs} (h:sK its t print=none):((eH its t.cells.length).sub t).keys=none∨∃ offs needs,((eH its t.cells.length).sub t).keys=some (offs,needs)∧(qU its needs offs=true→dR (jR its offs needs)=0→eV (jR its offs needs)≠print):=by
 unfold sK at h
 split at h
 ·exact .inl ag
 ·rename_i o n hk
  refine .inr ⟨o,n,hk,fun h1 h2 h3=>?_⟩
  rw [if_pos (by simp [h1,h2,h3])] at h
  cases h
theorem SY (bs:Nat) (v0 v1:Value) (v2 v3:Value) (v4 v5:Value) (v6 v8:Value) (v9 v10:Value) (its:List (List UInt8)) (se:Nat) (A2:Option Addr) (c2 nm om:Nat) (w:World) (hO:cE [aD bs 101 [v0,v1,v2,v3,v4,v5,v6,(vP se 0),v8,v9,v10]] w) (r0:Rf [aD bs 101 [v0,v1,v2,v3,v4,v5,v6,(vP se 0),v8,v9,v10]] w (cI)) (r1:Rf [aD bs 101 [v0,v1,v2,v3,v4,v5,v6,(vP se 0),v8,v9,v10]] w (iM se A2 c2 its 4 4 nm om)) (hset:cJ its) (h40:its.length≤40) (hc2:its.length≤c2) :
  Calls Tryz.prog 146 #[(vP bs 0)] w fun e w'=>∃ (Am:Option Addr) (cm:Nat),e = .returned (.tuple #[])∧aJ [aD bs 101 [v0,v1,v2,v3,v4,v5,v6,(vP se 0),v8,v9,v10]] w [aD bs 101 [v0,v1,(vi 1),(vI 3),(vL Am (aZ 3 (bX [dS its [] []])) cm),v5,v6,(vP se 0),v8,v9,v10],cB Am (aZ 3 (bX [dS its [] []])) cm] w':=by
 refine dI Tryz.func146 10 (hO) rfl ?_
 have hfl:=DW h40
 refine aF<|lx rfl<|lk (vP bs 0) ?_
 refine lk (vP bs 7)<|lL 0 rfl ?_
 refine Nx ?_
 refine gU (fun w hM=>(SD se A2 c2 its 4 4 nm om w (r0.aQ hM) (r1.aQ hM) (hset) (by omega) (hc2) (h40)).mono ?_)
 rintro e w' ⟨B7,cb7,rfl,hP⟩
 refine ⟨_,_,rfl,hP,?_⟩; clear hP hM
 refine Nx ?_
 refine gU (fun w hM=>(Dz 3 B7 cb7 (bX [dS its [] []]) w (hM.bB (j:=1) rfl (fun _ h=>aH.cN h)) (by omega) (by omega)).mono ?_)
 rintro e w' ⟨A28,c28,rfl,hP⟩
 refine ⟨_,_,rfl,hP,?_⟩; clear hP hM
 exact Nx<|eK [0] (fun w hM hO=>xB bs v0 v1 v2 v3 v4 v5 v6 (vP se 0) v8 v9 v10 3 A28 ((aZ 3 (bX [dS its [] []])).length) c28 w hO)<|aO<|kR [] rfl trivial (fun w hM=>⟨A28,c28,rfl,(hM.pick [0,2] rfl rfl)⟩)
theorem SZ (bs:Nat) (A:Option Addr) (c:Nat) (its:List (List UInt8)) (v1 v2:Value) (v3 v4:Value) (v5 v6:Value) (v7 v8:Value) (v9 v10:Value) (X:TX) (t:BT) (print:List UInt8) (w:World) (r0:Rf [] w (cI)) (r1:Rf [] w (fun w=>At w bs 101 [(vL A its c),v1,v2,v3,v4,v5,v6,v7,v8,v9,v10])) (r2:Rf [] w (fun w=>aH w A (SS its))) (r3:Rf [] w (fun w=>(cT X t).holds w)) (hz:dQ (t.cells.length:Int)=true) (hs0:t.seed=0) (hset:cJ its) (h40:its.length≤40) (hto:t.Ok) (hsm:t.cells.length≤600) (hd:sK its t print=none) :
  Calls Tryz.prog 149 #[(vP bs 0),(vP X.bt 0),(vS print)] w fun e w'=>∃ (x1 x2:Value),e = .returned (.tuple #[x1,x2,bF])∧aJ [] w [] w':=by
 refine mI Tryz.func149 94 (Mm.start w []) rfl<|Nc<|lx rfl<|Nf ?_
 have h32:=hset.1
 have hs:=hset.2
 refine cQ [] 12 kr (fun _ h=>h) ?_
 refine am 0 ?_
 refine aC 1 (vP bs 0) rfl<|aC 2 (vP bs 0) rfl<|aV 3 _ rfl (rW (fun w hM=>At.cell (r1.now hM) 0))<|am 4 ?_
 refine aA 5 rfl<|bP (fun w hM=>GM X t w (r3.aQ hM))<|aP _ (fun _ h=>h) (fun _ h=>h)<|aA 6 rfl<|gD (fun w hM=>Iv A c its t.cells.length w (r0.aQ hM) (r2.aQ hM) ag ag om) fun X25=>aP _ (fun _ h=>h.pick [] rfl rfl) (fun _ h=>h)<|am 7 ?_
 refine aC 8 (vP X25.bt 0) rfl<|aC 9 (vi 0) rfl<|aa 10 ?_
 refine aa 11 ?_
 refine cF kr<|aI<|aS<|aS ?_
 dsimp only [bE,List.set,List.cons_append,List.nil_append]
 refine aF<|lx rfl<|lF<|Nn<|aF<|lx rfl<|Nx<|gD (fun w hM=>Cz X25 (eH its t.cells.length) X t w (hM.bB (j:=0) rfl (fun _ h=>h)) (r3.aQ hM) (by simp [pQ,oU,Ia,hs0])) fun Z33=>lx rfl<|Ne<|lx rfl<|lF<|Nn ?_
 dsimp only [bE,List.set,List.cons_append,List.nil_append]
 rcases SX hd with hk | ⟨offs,needs,hk,hno⟩
 ·exact aF<|lx rfl<|Nx<|bP (fun w hM=>GO Z33 ((eH its t.cells.length).sub t) w (r0.aQ hM) (hM.bB (j:=1) rfl (fun _ h=>h)) ag)<|lx rfl<|Ne<|lx rfl<|lT<|lx rfl<|lT<|No<|lx rfl<|Nh<|sN [nS,nS,bF] fun w hM=>⟨nS,nS,rfl,(hM.pick [] rfl rfl)⟩
 ·have hkl:=Dj hk
  rw [nI (by rw [oU]),oU] at hkl
  refine aF<|lx rfl<|Nx<|vZ (fun w hM=>GP Z33 ((eH its t.cells.length).sub t) offs needs w (r0.aQ hM) (hM.bB (j:=1) rfl (fun _ h=>h)) ag) fun A140 c140 A240 c240=>lx rfl<|Ne<|lx rfl<|lF<|lx rfl<|cO rfl rfl<|bP (fun w hM=>Rg bs A c its v1 v2 v3 v4 v5 v6 v7 v8 v9 v10 A240 c240 needs A140 c140 offs w (r1.aQ hM) (r2.aQ hM) (hM.bB (j:=3) rfl (fun _ h=>uJ h)) (hM.bB (j:=2) rfl (fun _ h=>uJ h)) ag om om om)<|lg (.bool (!(qU its needs offs)))<|lk (.bool (!(qU its needs offs))) ?_
  refine aO (aI (bD rfl (fun hc52=>?_) (fun hc52=>?_)))
  ·exact Nc<|lx rfl<|Nh<|sN [nS,nS,bF] fun w hM=>⟨nS,nS,rfl,(hM.pick [] rfl rfl)⟩
  ·have hag:qU its needs offs=true:=by simpa using hc52
   refine Ni<|lx rfl<|Ne<|lx rfl<|lk (vP bs 0)<|lk (vP bs 0)<|lW (rW (fun w hM=>At.cell (r1.now hM) 0))<|lk (vI its.length)<|lx rfl<|Ng ?_
   have hse2:=hno hag
   have hao:=(Si (zJ (uS h32 t.cells.length) hto) hk).1.1
   refine St.mem (fun w hM=>hM.gY 9 1)<|sL (fun (i,B,cb)=>i≤its.length) (fun (i,B,cb)=>its.length - i) (fun (i,B,cb)=>[(2,(vS print)),(6,(vL A140 offs c140)),(7,(vL A240 needs c240)),(8,bF),(10,(vi 0)),(56,(vL A its c)),(57,(vI its.length)),(12,(vL B (aK (its.take i) offs) cb)),(58,(vI i))]) (fun (i,B,cb)=>[cT X25 (eH its t.cells.length),cT Z33 ((eH its t.cells.length).sub t),mK A140 (SS offs),mK A240 (SS needs),cS B (aK (its.take i) offs) cb]) (0,none,0) (Nat.zero_le _) (fun _ h=>h) ?_
   rintro ⟨i,B,cb⟩ (hok:i≤its.length)
   dsimp only
   refine Nc<|lk (.bool (decide (((i:Nat):Int) < ((its.length:Nat):Int)))) ?_
   refine aO (aI (aS (bD rfl (fun hc59=>?_) (fun hc59=>?_))))
   ·have hd59:=of_decide_eq_true hc59
    refine Nm<|aF ?_
    obtain ⟨x0,hx0⟩:∃ ξ,(its)[i]?=some ξ:=⟨_,List.getElem?_eq_getElem om⟩
    refine St.eY (fun w hM=>r2.now hM) (fR hx0) (fun p60 q60 hA60 hc60=>lw (vP p60 (q60+i)) (rR 9 hA60)<|lW (rW hc60)<|lx rfl<|Nb<|lx rfl<|Nx<|bP (fun w hM=>Dy A140 c140 offs x0 w (hM.bB (j:=2) rfl (fun _ h=>uJ h)) ag om)<|lx rfl<|Nb<|lx rfl<|lk (.bool (!(offs.contains x0))) ?_)
    refine aO (aI (bD rfl (fun hc69=>?_) (fun hc69=>?_)))
    ·refine aF<|lx rfl<|Nx<|pN 1 9 [(vS x0)] fun b72=>Nx<|cY mH 4 ([(vS x0)]) rfl rfl kr rfl rfl rfl (rfl) (fQ (i:=5) rfl (fun j v h=>by rw [Nat.zero_add]; exact h)) (by simp [Value.oneCell']) (by have h:=lU (its.take i) offs; simp only [List.length_take] at h; omega) ((aK (its.take i) offs++[x0]).length) fN (SS (aK (its.take i) offs++[x0])) (by simp [SS]) (fun A73 c73=>lx rfl<|Nk<|aF<|lw (vI (i+1)) bO<|lx rfl<|Na ?_)
     rw [show aK (its.take i) offs++[x0]=aK (its.take (i+1)) offs from zP hx0 (by simpa using hc69)]
     exact sA (i+1,A73,c73) (by show _≤_; omega) (by show its.length - (i+1) < its.length - i; omega) (fun w hM=>(hM.pick [0,1,2,3,4] rfl rfl))
    ·refine Nw<|aF<|lw (vI (i+1)) bO<|lx rfl<|Na ?_
     rw [show aK (its.take i) offs=aK (its.take (i+1)) offs from zQ hx0 (by simpa using hc69)]
     exact sA (i+1,B,cb) (by show _≤_; omega) (by show its.length - (i+1) < its.length - i; omega) (fun w hM=>hM)
   ·have hd59:=of_decide_eq_false hc59
    obtain rfl:i=its.length:=om
    rw [List.take_length]
    have hwl:=lU its offs
    refine Nj<|aF<|lx rfl<|Nx<|cY mH 4 (SS needs) rfl rfl kr rfl rfl rfl si (fun w hM=>dV.jW (uJ (hM.at (i:=3) rfl))) (yN) om ((aK its offs++needs).length) fN (SS (aK its offs++needs)) (by simp [SS]) (fun A77 c77=>lx rfl<|Nf ?_)
    dsimp only [bE,List.set,List.cons_append,List.nil_append]
    have hol:(aK its offs++needs).length≤1000:=by rw [List.length_append]; omega
    refine aF<|lx rfl<|Nx<|eK [4] (fun w hM hO=>QL A77 c77 (aK its offs++needs) w hO (by rw [List.length_append]; omega))<|Nf ?_
    dsimp only [bE,List.set,List.cons_append,List.nil_append]
    rcases Decidable.em (dR (jR its offs needs)=0) with he9 | he9
    ·rw [show (aK its offs++needs).length=(jR its offs needs).length from (oW _).symm]
     have hol2:(jR its offs needs).length≤1000:=by unfold jR; rw [oW]; exact hol
     exact aF<|lx rfl<|Nx<|bP (fun w hM=>wX A77 c77 (jR its offs needs) w (r0.aQ hM) (hM.bB (j:=4) rfl (fun _ h=>uJ h)) om (he9) om)<|lx rfl<|Nb<|lx rfl<|lT<|lx rfl<|lu (.bool (decide ((eV (jR its offs needs))=print))) (nE rfl rfl rfl)<|lk (.bool (decide ((eV (jR its offs needs))=print)))<|lx rfl<|Nd<|sN [(vL A140 offs c140),(vL A240 needs c240),(.bool (decide ((eV (jR its offs needs))=print)))] fun w hM=>⟨(vL A140 offs c140),(vL A240 needs c240),by rw [show decide (eV (jR its offs needs)=print)=false from by simpa using hse2 he9]; rfl,(hM.pick [] rfl rfl)⟩
    ·rw [show (aK its offs++needs).length=(jR its offs needs).length from (oW _).symm]
     have hol2:(jR its offs needs).length≤1000:=by unfold jR; rw [oW]; exact hol
     refine aF<|lx rfl<|Nx<|bP (fun w hM=>Hf A77 c77 (jR its offs needs) w (hM.bB (j:=4) rfl (fun _ h=>uJ h)) om (he9))<|lx rfl<|Nb<|lx rfl<|lk (.bool (((dR (jR its offs needs)):Int) == 0))<|lm ?_
     exact St.known 89 (b':=false) rfl (by simpa using he9)<|lx rfl<|lF<|lx rfl<|Nd<|sN [(vL A140 offs c140),(vL A240 needs c240),bF] fun w hM=>⟨(vL A140 offs c140),(vL A240 needs c240),rfl,(hM.pick [] rfl rfl)⟩
theorem Ta (bs:Nat) (A:Option Addr) (c:Nat) (its:List (List UInt8)) (v1 v2:Value) (v3 v4:Value) (v5 v6:Value) (v8 v9 v10:Value) (X:Option Addr × Nat) (br:Nat) (r:Rd) (print:List UInt8) (q1:Rd) (t:BT) (se:Nat) (A2:Option Addr) (c2 nm om:Nat) (w:World) (hO:cE [aD bs 101 [(vL A its c),v1,v2,v3,v4,v5,v6,(vP se 0),v8,v9,v10],bH X br (r)] w) (r0:Rf [aD bs 101 [(vL A its c),v1,v2,v3,v4,v5,v6,(vP se 0),v8,v9,v10],bH X br (r)] w (cI)) (r1:Rf [aD bs 101 [(vL A its c),v1,v2,v3,v4,v5,v6,(vP se 0),v8,v9,v10],bH X br (r)] w (fun w=>aH w A (SS its))) (r2:Rf [aD bs 101 [(vL A its c),v1,v2,v3,v4,v5,v6,(vP se 0),v8,v9,v10],bH X br (r)] w (iM se A2 c2 its 4 4 nm om)) (hp:r.sum=(print,q1)) (htd:eB q1.rest.1=some t) (hend:q1.rest.2.end_=0) (hs0:t.seed=0) (hset:cJ its) (h40:its.length≤40) (hc2:its.length≤c2) (hsm:t.cells.length≤600) (hd:sK its t print=none) :
  Calls Tryz.prog 104 #[(vP bs 0),(vP br 0)] w fun e w'=>∃ (Am:Option Addr) (cm:Nat),e = .returned (vi 0)∧aJ [aD bs 101 [(vL A its c),v1,v2,v3,v4,v5,v6,(vP se 0),v8,v9,v10],bH X br (r)] w [aD bs 101 [(vL A its c),v1,(vi 1),(vI 3),(vL Am (aZ 3 (bX [dS its [] []])) cm),v5,v6,(vP se 0),v8,v9,v10],bH X br (q1.rest.2),cB Am (aZ 3 (bX [dS its [] []])) cm] w':=by
 refine bK Tryz.func104 100 (hO) rfl<|Nc<|lx rfl<|Nb<|lx rfl<|Nx<|eK [1] (fun w hM hO=>CN X br r w hO)<|lx rfl<|Nf ?_
 rw [show r.sum.1=print from by rw [hp]]
 rw [show r.sum.2=q1 from by rw [hp]]
 refine St.fact (fun w hM=>(hM.at (i:=1) (c:=bH X br q1) rfl).2.len) (fun hrl=>?_)
 have hrt:=q1.AZ (q1.D.length - q1.off)
 refine aF<|lx rfl<|Nx ?_
 refine eK [1] (fun w hM hO=>sH X br q1 w hO) ?_
 refine Nx ?_
 refine gO [1] _ (fun w hM hO=>(uT X br q1 (q1.D.length - q1.off) w hO (by omega)).mono ?_)
 rintro e w' ⟨B25,cb25,rfl,hP⟩
 refine ⟨_,[_],_,rfl,hP,rfl,?_⟩; clear hP hM hO
 rw [show q1.text (q1.D.length - q1.off)=q1.rest from rfl]
 refine Nx<|gD (fun w hM=>GQ B25 cb25 q1.rest.1 t w (hM.bB (j:=2) rfl (fun _ h=>aH.cN h)) (by unfold Rd.rest; omega) ag) fun X26=>?_
 have hz:=(uH htd).2
 have hto:=(xJ htd).1
 refine lx rfl<|Nf<|aS ?_
 dsimp only [bE,List.set,List.cons_append,List.nil_append]
 refine aF<|lx rfl<|Nx<|eK [1] (fun w hM hO=>sF X br q1.rest.2 w hO)<|lx rfl<|Nb<|lx rfl<|lk (.bool ((q1.rest.2.end_:Int) != 0))<|lm ?_
 refine St.known 36 (b':=false) rfl (by rw [hend]; simp)<|lx rfl<|lg bF<|lF<|lx rfl<|cO rfl rfl<|bP (fun w hM=>GM X26 t w (hM.bB (j:=3) rfl (fun _ h=>h)))<|cO rfl rfl<|bP (fun w hM=>Iw X26 t t.cells.length 0 w (hM.bB (j:=3) rfl (fun _ h=>h)) (hz) (by unfold bI; decide))<|lg (.bool (!(kD t t.cells.length 0)))<|lk (.bool (!(kD t t.cells.length 0)))<|Na<|eP rfl (by rw [SL hs0]; rfl)<|Ni<|lx rfl<|Nx<|dW (fun w hM=>SZ bs A c its v1 v2 v3 v4 v5 v6 (vP se 0) v8 v9 v10 X26 t print w (r0.aQ hM) (hM.bB (j:=0) rfl (fun _ h=>h)) (r1.aQ hM) (hM.bB (j:=3) rfl (fun _ h=>h)) ag ag ag ag ag ag ag) fun x151 x251=>lx rfl<|Nf<|aS ?_
 dsimp only [bE,List.set,List.cons_append,List.nil_append]
 exact aF<|lx rfl<|lT<|No<|lx rfl<|Nx<|oF [0] (fun w hM hO=>SY bs (vL A its c) v1 v2 v3 v4 v5 v6 v8 v9 v10 its se A2 c2 nm om w hO (r0.cK hM [0]) (r2.cK hM [0]) ag ag ag) fun Am58 cm58=>Nb<|lx rfl<|Nh<|sN [(vi 0)] fun w hM=>⟨Am58,cm58,rfl,(hM.pick [0,1,4] rfl rfl)⟩
theorem Tb (bs:Nat) (A:Option Addr) (c:Nat) (its:List (List UInt8)) (v1 v2:Value) (v3 v4:Value) (v5 v6:Value) (v8 v9 v10:Value) (X:Option Addr × Nat) (br:Nat) (r:Rd) (se:Nat) (A2:Option Addr) (c2 nm om:Nat) (S S2:List (List UInt8)) (w:World) (hO:cE [aD bs 101 [(vL A its c),v1,v2,v3,v4,v5,v6,(vP se 0),v8,v9,v10],bH X br (r),aN nm (S),aN om (S2)] w) (r0:Rf [aD bs 101 [(vL A its c),v1,v2,v3,v4,v5,v6,(vP se 0),v8,v9,v10],bH X br (r),aN nm (S),aN om (S2)] w (cI)) (r1:Rf [aD bs 101 [(vL A its c),v1,v2,v3,v4,v5,v6,(vP se 0),v8,v9,v10],bH X br (r),aN nm (S),aN om (S2)] w (fun w=>aH w A (SS its))) (r2:Rf [aD bs 101 [(vL A its c),v1,v2,v3,v4,v5,v6,(vP se 0),v8,v9,v10],bH X br (r),aN nm (S),aN om (S2)] w (iM se A2 c2 its 4 4 nm om)) (hend:r.rest.2.end_=0) (hne:r.rest.1≠[]) (hset:cJ its) (h40:its.length≤40) (hc2:its.length≤c2) (hD1:r.rest.1.length≤1048576) (her:(dA its 4 4 r.rest.1).err=0) (hS:S.length≤549755813888) (hT:S2.length≤549755813888) (hre:(dA its 4 4 r.rest.1).reply≠[]) :
  Calls Tryz.prog 105 #[(vP bs 0),(vP br 0)] w fun e w'=>∃ (Am:Option Addr) (cm:Nat),e = .returned (vi 0)∧aJ [aD bs 101 [(vL A its c),v1,v2,v3,v4,v5,v6,(vP se 0),v8,v9,v10],bH X br (r),aN nm (S),aN om (S2)] w [aD bs 101 [(vL A its c),v1,(vi 1),(vI 3),(vL Am (aZ 3 (dA its 4 4 r.rest.1).reply) cm),v5,v6,(vP se 0),v8,v9,v10],bH X br (r.rest.2),aN nm (S++(dA its 4 4 r.rest.1).need),aN om (S2++(dA its 4 4 r.rest.1).off),cB Am (aZ 3 (dA its 4 4 r.rest.1).reply) cm] w':=by
 refine bK Tryz.func105 51 (hO) rfl<|Nc<|lx rfl<|Nf<|St.fact (fun w hM=>(hM.at (i:=1) (c:=bH X br r) rfl).2.len) (fun hrl=>?_)
 have hsl:=xG its 4 4 r.rest.1
 refine aF<|lx rfl<|Nx ?_
 refine eK [1] (fun w hM hO=>sH X br r w hO) ?_
 refine Nx ?_
 refine gO [1] _ (fun w hM hO=>(uT X br r (r.D.length - r.off) w hO (by omega)).mono ?_)
 rintro e w' ⟨B13,cb13,rfl,hP⟩
 refine ⟨_,[_],_,rfl,hP,rfl,?_⟩; clear hP hM hO
 rw [show r.text (r.D.length - r.off)=r.rest from rfl]
 refine lx rfl<|Ne<|lx rfl<|Nx<|eK [1] (fun w hM hO=>sF X br r.rest.2 w hO)<|lx rfl<|Nb<|lx rfl<|lk (.bool ((r.rest.2.end_:Int) != 0))<|lm ?_
 refine St.known 21 (b':=false) rfl (by rw [hend]; simp)<|lx rfl<|lg (vI ((r.rest.1).length))<|lg (.bool (((((r.rest.1).length:Nat):Int):Int) == 0))<|lk (.bool (((((r.rest.1).length:Nat):Int):Int) == 0))<|Na<|eP rfl (by have h9:=List.length_pos_iff.2 hne; simp; exact hne) ?_
 refine Ni<|lx rfl<|lk (vP bs 0)<|lk (vP bs 7) ?_
 refine lL 0 rfl<|lx rfl ?_
 refine Nx ?_
 refine gO [2,3] _ (fun w hM hO=>(JE se A2 c2 its 4 4 nm om B13 cb13 r.rest.1 S S2 w hO (r0.cK hM [2,3]) (r2.cK hM [2,3]) (hM.gM [2,3] (j:=4) rfl (fun _ h=>aH.cN h)) (hset) (by omega) (hc2) (h40) (by decide) (by decide) (by decide) (by decide) (hD1) (hS) (hT) (hne) (her)).mono ?_)
 rintro e w' ⟨B32,cb32,rfl,hP⟩
 refine ⟨_,[_,_],_,rfl,hP,rfl,?_⟩; clear hP hM hO
 refine lx rfl<|Nf<|aS ?_
 dsimp only [bE,List.set,List.cons_append,List.nil_append]
 refine aF<|lx rfl<|lk (.bool (((dA its 4 4 r.rest.1).err:Int) != 0))<|Na<|eP rfl (by rw [her]; simp)<|Nl<|Nc<|lx rfl ?_
 refine lk (vI (((dA its 4 4 r.rest.1).reply).length))<|lk (.bool (decide (((((dA its 4 4 r.rest.1).reply).length:Nat):Int) > 0)))<|Na<|lN rfl (by have h9:=List.length_pos_iff.2 hre; simp; omega) ?_
 refine Nc<|lx rfl ?_
 refine Nx ?_
 refine gU (fun w hM=>(Dz 3 B32 cb32 ((dA its 4 4 r.rest.1).reply) w (hM.bB (j:=5) rfl (fun _ h=>aH.cN h)) (by omega) (by omega)).mono ?_)
 rintro e w' ⟨A243,c243,rfl,hP⟩
 refine ⟨_,_,rfl,hP,?_⟩; clear hP hM
 exact Nx<|eK [0] (fun w hM hO=>xB bs (vL A its c) v1 v2 v3 v4 v5 v6 (vP se 0) v8 v9 v10 3 A243 ((aZ 3 ((dA its 4 4 r.rest.1).reply)).length) c243 w hO)<|Nb<|lx rfl<|Nh<|sN [(vi 0)] fun w hM=>⟨A243,c243,rfl,(hM.pick [0,1,2,3,6] rfl rfl)⟩
theorem Tc (bs:Nat) (A:Option Addr) (c:Nat) (its:List (List UInt8)) (v1 v2:Value) (v3 v4:Value) (v5 v6:Value) (v8 v9 v10:Value) (X:Option Addr × Nat) (br:Nat) (r:Rd) (se:Nat) (A2:Option Addr) (c2 nm om:Nat) (S S2:List (List UInt8)) (w:World) (hO:cE [aD bs 101 [(vL A its c),v1,v2,v3,v4,v5,v6,(vP se 0),v8,v9,v10],bH X br (r),aN nm (S),aN om (S2)] w) (r0:Rf [aD bs 101 [(vL A its c),v1,v2,v3,v4,v5,v6,(vP se 0),v8,v9,v10],bH X br (r),aN nm (S),aN om (S2)] w (cI)) (r1:Rf [aD bs 101 [(vL A its c),v1,v2,v3,v4,v5,v6,(vP se 0),v8,v9,v10],bH X br (r),aN nm (S),aN om (S2)] w (fun w=>aH w A (SS its))) (r2:Rf [aD bs 101 [(vL A its c),v1,v2,v3,v4,v5,v6,(vP se 0),v8,v9,v10],bH X br (r),aN nm (S),aN om (S2)] w (iM se A2 c2 its 4 4 nm om)) (hend:r.rest.2.end_=0) (hne:r.rest.1≠[]) (hset:cJ its) (h40:its.length≤40) (hc2:its.length≤c2) (hD1:r.rest.1.length≤1048576) (her:(dA its 4 4 r.rest.1).err=0) (hS:S.length≤549755813888) (hT:S2.length≤549755813888) (hre:(dA its 4 4 r.rest.1).reply=[]) :
  Calls Tryz.prog 105 #[(vP bs 0),(vP br 0)] w fun e w'=>∃ (Am:Option Addr) (cm:Nat),e = .returned (vi 0)∧aJ [aD bs 101 [(vL A its c),v1,v2,v3,v4,v5,v6,(vP se 0),v8,v9,v10],bH X br (r),aN nm (S),aN om (S2)] w [aD bs 101 [(vL A its c),v1,(vi 1),(vI 5),(vL Am (aE 5) cm),v5,bT,(vP se 0),v8,v9,v10],bH X br (r.rest.2),aN nm (S++(dA its 4 4 r.rest.1).need),aN om (S2++(dA its 4 4 r.rest.1).off),cB Am (aE 5) cm] w':=by
 refine bK Tryz.func105 51 (hO) rfl<|Nc<|lx rfl<|Nf<|St.fact (fun w hM=>(hM.at (i:=1) (c:=bH X br r) rfl).2.len) (fun hrl=>?_)
 have hsl:=xG its 4 4 r.rest.1
 refine aF<|lx rfl<|Nx ?_
 refine eK [1] (fun w hM hO=>sH X br r w hO) ?_
 refine Nx ?_
 refine gO [1] _ (fun w hM hO=>(uT X br r (r.D.length - r.off) w hO (by omega)).mono ?_)
 rintro e w' ⟨B13,cb13,rfl,hP⟩
 refine ⟨_,[_],_,rfl,hP,rfl,?_⟩; clear hP hM hO
 rw [show r.text (r.D.length - r.off)=r.rest from rfl]
 refine lx rfl<|Ne<|lx rfl<|Nx<|eK [1] (fun w hM hO=>sF X br r.rest.2 w hO)<|lx rfl<|Nb<|lx rfl<|lk (.bool ((r.rest.2.end_:Int) != 0))<|lm ?_
 refine St.known 21 (b':=false) rfl (by rw [hend]; simp)<|lx rfl<|lg (vI ((r.rest.1).length))<|lg (.bool (((((r.rest.1).length:Nat):Int):Int) == 0))<|lk (.bool (((((r.rest.1).length:Nat):Int):Int) == 0))<|Na<|eP rfl (by have h9:=List.length_pos_iff.2 hne; simp; exact hne) ?_
 refine Ni<|lx rfl<|lk (vP bs 0)<|lk (vP bs 7) ?_
 refine lL 0 rfl<|lx rfl ?_
 refine Nx ?_
 refine gO [2,3] _ (fun w hM hO=>(JE se A2 c2 its 4 4 nm om B13 cb13 r.rest.1 S S2 w hO (r0.cK hM [2,3]) (r2.cK hM [2,3]) (hM.gM [2,3] (j:=4) rfl (fun _ h=>aH.cN h)) (hset) (by omega) (hc2) (h40) (by decide) (by decide) (by decide) (by decide) (hD1) (hS) (hT) (hne) (her)).mono ?_)
 rintro e w' ⟨B32,cb32,rfl,hP⟩
 refine ⟨_,[_,_],_,rfl,hP,rfl,?_⟩; clear hP hM hO
 refine lx rfl<|Nf<|aS ?_
 dsimp only [bE,List.set,List.cons_append,List.nil_append]
 refine aF<|lx rfl<|lk (.bool (((dA its 4 4 r.rest.1).err:Int) != 0))<|Na<|eP rfl (by rw [her]; simp)<|Nl<|Nc<|lx rfl<|lk (vI (((dA its 4 4 r.rest.1).reply).length))<|lk (.bool (decide (((((dA its 4 4 r.rest.1).reply).length:Nat):Int) > 0)))<|Na ?_
 refine eP rfl (by rw [hre]; rfl)<|Ni<|lx rfl<|lk (vP bs 0)<|lk (vP bs 6) ?_
 refine Nx<|pS 0 rfl<|Nb ?_
 refine lx rfl ?_
 refine Nx ?_
 refine gU (fun w hM=>(Dt none 0 eW 5 w IG (by omega) (by decide)).mono ?_)
 rintro e w' ⟨A249,c249,rfl,hP⟩
 refine ⟨_,_,rfl,hP,?_⟩; clear hP hM
 rw [show eW++aE 5=aE 5 from rfl]
 exact Nx<|eK [0] (fun w hM hO=>xB bs (vL A its c) v1 v2 v3 v4 v5 bT (vP se 0) v8 v9 v10 5 A249 ((aE 5).length) c249 w hO)<|Nb<|lx rfl<|Nd<|sN [(vi 0)] fun w hM=>⟨A249,c249,rfl,(hM.pick [0,1,2,3,6] rfl rfl)⟩
theorem Td (bs:Nat) (A:Option Addr) (c:Nat) (its:List (List UInt8)) (v1 v2:Value) (v4 v6:Value) (v8 v9 v10:Value) (AD:Option Addr) (cD:Nat) (Dm:List UInt8) (q0:Rd) (print:List UInt8) (q1:Rd) (t:BT) (se:Nat) (A2:Option Addr) (c2 nm om:Nat) (w:World) (hO:cE [aD bs 101 [(vL A its c),v1,v2,(vI 1),v4,bF,v6,(vP se 0),v8,v9,v10]] w) (r0:Rf [aD bs 101 [(vL A its c),v1,v2,(vI 1),v4,bF,v6,(vP se 0),v8,v9,v10]] w (cI)) (r1:Rf [aD bs 101 [(vL A its c),v1,v2,(vI 1),v4,bF,v6,(vP se 0),v8,v9,v10]] w (fun w=>aH w A (SS its))) (r2:Rf [aD bs 101 [(vL A its c),v1,v2,(vI 1),v4,bF,v6,(vP se 0),v8,v9,v10]] w (fun w=>aH w AD (B8 Dm))) (r3:Rf [aD bs 101 [(vL A its c),v1,v2,(vI 1),v4,bF,v6,(vP se 0),v8,v9,v10]] w (iM se A2 c2 its 4 4 nm om)) (hDl:Dm.length≤4294967296) (hu:(Rd.mk Dm 0 0 0).uint=(2,q0)) (hp:q0.sum=(print,q1)) (htd:eB q1.rest.1=some t) (hend:q1.rest.2.end_=0) (hs0:t.seed=0) (hset:cJ its) (h40:its.length≤40) (hc2:its.length≤c2) (hsm:t.cells.length≤600) (hd:sK its t print=none) :
  Calls Tryz.prog 58 #[(vP bs 0),(vL AD Dm cD)] w fun e w'=>∃ (Am:Option Addr) (cm:Nat),e = .returned (vi 0)∧aJ [aD bs 101 [(vL A its c),v1,v2,(vI 1),v4,bF,v6,(vP se 0),v8,v9,v10]] w [aD bs 101 [(vL A its c),v1,(vi 1),(vI 3),(vL Am (aZ 3 (bX [dS its [] []])) cm),bT,v6,(vP se 0),v8,v9,v10],cB Am (aZ 3 (bX [dS its [] []])) cm] w':=by
 refine bK Tryz.func58 95 (hO) rfl<|Nc<|lx rfl<|Nb<|lx rfl<|Nx<|dW (fun w hM=>sG AD cD Dm w (r2.aQ hM) (hDl)) fun X10 br10=>lx rfl<|Nb<|lx rfl<|Ne<|lx rfl<|Nx<|eK [1] (fun w hM hO=>uN X10 br10 (Rd.mk Dm 0 0 0) w hO)<|Ng<|aS ?_
 rw [show (Rd.mk Dm 0 0 0).uint.1=2 from by rw [hu]]
 rw [show (Rd.mk Dm 0 0 0).uint.2=q0 from by rw [hu]]
 refine aF<|lF<|lx rfl<|Np<|aF<|lT<|lx rfl<|No<|lx rfl<|lk (vP bs 0)<|lk (vP bs 3)<|lL 0 rfl<|lT<|lx rfl<|lg (vP bs 0)<|lg (vP bs 5)<|lu bF (cW 0 rfl rfl kr rfl rfl)<|lg bT<|lT<|Nt<|aF<|lx rfl<|Nx<|iD [0,1] (fun w hM hO=>Ta bs A c its v1 v2 (vI 1) v4 bF v6 v8 v9 v10 X10 br10 q0 print q1 t se A2 c2 nm om w hO (r0.cK hM [0,1]) (r1.cK hM [0,1]) (r3.cK hM [0,1]) (hp) (htd) (hend) (hs0) (hset) (h40) (hc2) (hsm) (hd)) fun Am46 cm46=>?_
 refine lx rfl<|Nk<|Ny<|lx rfl<|lT<|Nt<|aF<|lx rfl<|lk (vP bs 0)<|lk (vP bs 5)<|Nx<|pS 0 rfl<|Nf ?_
 dsimp only [bE,List.set,List.cons_append,List.nil_append]
 exact aF<|lx rfl<|Nd<|sN [(vi 0)] fun w hM=>⟨Am46,cm46,rfl,(hM.pick [0,2] rfl rfl)⟩
theorem Te (bs:Nat) (A:Option Addr) (c:Nat) (its:List (List UInt8)) (v1 v2:Value) (v4 v5:Value) (v6 v8:Value) (v9 v10:Value) (AD:Option Addr) (cD:Nat) (Dm:List UInt8) (q0:Rd) (se:Nat) (A2:Option Addr) (c2 nm om:Nat) (S S2:List (List UInt8)) (kd:Nat) (w:World) (hO:cE [aD bs 101 [(vL A its c),v1,v2,(vI kd),v4,v5,v6,(vP se 0),v8,v9,v10],aN nm (S),aN om (S2)] w) (r0:Rf [aD bs 101 [(vL A its c),v1,v2,(vI kd),v4,v5,v6,(vP se 0),v8,v9,v10],aN nm (S),aN om (S2)] w (cI)) (r1:Rf [aD bs 101 [(vL A its c),v1,v2,(vI kd),v4,v5,v6,(vP se 0),v8,v9,v10],aN nm (S),aN om (S2)] w (fun w=>aH w A (SS its))) (r2:Rf [aD bs 101 [(vL A its c),v1,v2,(vI kd),v4,v5,v6,(vP se 0),v8,v9,v10],aN nm (S),aN om (S2)] w (fun w=>aH w AD (B8 Dm))) (r3:Rf [aD bs 101 [(vL A its c),v1,v2,(vI kd),v4,v5,v6,(vP se 0),v8,v9,v10],aN nm (S),aN om (S2)] w (iM se A2 c2 its 4 4 nm om)) (hDl:Dm.length≤4294967296) (hu:(Rd.mk Dm 0 0 0).uint=(3,q0)) (hend:q0.rest.2.end_=0) (hne:q0.rest.1≠[]) (hset:cJ its) (h40:its.length≤40) (hc2:its.length≤c2) (hD1:q0.rest.1.length≤1048576) (her:(dA its 4 4 q0.rest.1).err=0) (hS:S.length≤549755813888) (hT:S2.length≤549755813888) (hre:(dA its 4 4 q0.rest.1).reply≠[]) (hkd:kd≠0) :
  Calls Tryz.prog 58 #[(vP bs 0),(vL AD Dm cD)] w fun e w'=>∃ (Am:Option Addr) (cm:Nat),e = .returned (vi 0)∧aJ [aD bs 101 [(vL A its c),v1,v2,(vI kd),v4,v5,v6,(vP se 0),v8,v9,v10],aN nm (S),aN om (S2)] w [aD bs 101 [(vL A its c),v1,(vi 1),(vI 3),(vL Am (aZ 3 (dA its 4 4 q0.rest.1).reply) cm),bT,v6,(vP se 0),v8,v9,v10],aN nm (S++(dA its 4 4 q0.rest.1).need),aN om (S2++(dA its 4 4 q0.rest.1).off),cB Am (aZ 3 (dA its 4 4 q0.rest.1).reply) cm] w':=by
 refine bK Tryz.func58 95 (hO) rfl<|Nc<|lx rfl<|Nb<|lx rfl<|Nx<|dW (fun w hM=>sG AD cD Dm w (r2.aQ hM) (hDl)) fun X10 br10=>lx rfl<|Nb<|lx rfl<|Ne<|lx rfl<|Nx<|eK [3] (fun w hM hO=>uN X10 br10 (Rd.mk Dm 0 0 0) w hO)<|Ng<|aS ?_
 rw [show (Rd.mk Dm 0 0 0).uint.1=3 from by rw [hu]]
 rw [show (Rd.mk Dm 0 0 0).uint.2=q0 from by rw [hu]]
 refine aF<|lF<|lx rfl<|Np<|aF<|lF<|lx rfl<|Np<|aF<|lT<|lx rfl<|No<|lx rfl<|lk (vP bs 0)<|lk (vP bs 3)<|lL 0 rfl<|lk (.bool ((((kd:Nat):Int):Int) != 0))<|Na<|lN rfl (by simp; omega)<|aF<|lx rfl<|Nx<|gO [0,3,1,2] _ (fun w hM hO=>(Tb bs A c its v1 v2 (vI kd) v4 v5 v6 v8 v9 v10 X10 br10 q0 se A2 c2 nm om S S2 w hO (r0.cK hM [0,3,1,2]) (r1.cK hM [0,3,1,2]) (r3.cK hM [0,3,1,2]) (hend) (hne) (hset) (h40) (hc2) (hD1) (her) (hS) (hT) (hre)).mono ?_)
 rintro e w' ⟨Am56,cm56,rfl,hP⟩
 refine ⟨_,[_,_,_,_],_,rfl,hP,rfl,?_⟩; clear hP hM hO
 refine lx rfl<|Nk<|Ny<|lx rfl<|lT<|Nt<|aF<|lx rfl<|lk (vP bs 0)<|lk (vP bs 5)<|Nx<|pS 0 rfl<|Nf ?_
 dsimp only [bE,List.set,List.cons_append,List.nil_append]
 exact aF<|lx rfl<|Nd<|sN [(vi 0)] fun w hM=>⟨Am56,cm56,rfl,(hM.pick [0,1,2,4] rfl rfl)⟩
theorem Tf (bs:Nat) (A:Option Addr) (c:Nat) (its:List (List UInt8)) (v1 v2:Value) (v4 v5:Value) (v6 v8:Value) (v9 v10:Value) (AD:Option Addr) (cD:Nat) (Dm:List UInt8) (q0:Rd) (se:Nat) (A2:Option Addr) (c2 nm om:Nat) (S S2:List (List UInt8)) (kd:Nat) (w:World) (hO:cE [aD bs 101 [(vL A its c),v1,v2,(vI kd),v4,v5,v6,(vP se 0),v8,v9,v10],aN nm (S),aN om (S2)] w) (r0:Rf [aD bs 101 [(vL A its c),v1,v2,(vI kd),v4,v5,v6,(vP se 0),v8,v9,v10],aN nm (S),aN om (S2)] w (cI)) (r1:Rf [aD bs 101 [(vL A its c),v1,v2,(vI kd),v4,v5,v6,(vP se 0),v8,v9,v10],aN nm (S),aN om (S2)] w (fun w=>aH w A (SS its))) (r2:Rf [aD bs 101 [(vL A its c),v1,v2,(vI kd),v4,v5,v6,(vP se 0),v8,v9,v10],aN nm (S),aN om (S2)] w (fun w=>aH w AD (B8 Dm))) (r3:Rf [aD bs 101 [(vL A its c),v1,v2,(vI kd),v4,v5,v6,(vP se 0),v8,v9,v10],aN nm (S),aN om (S2)] w (iM se A2 c2 its 4 4 nm om)) (hDl:Dm.length≤4294967296) (hu:(Rd.mk Dm 0 0 0).uint=(3,q0)) (hend:q0.rest.2.end_=0) (hne:q0.rest.1≠[]) (hset:cJ its) (h40:its.length≤40) (hc2:its.length≤c2) (hD1:q0.rest.1.length≤1048576) (her:(dA its 4 4 q0.rest.1).err=0) (hS:S.length≤549755813888) (hT:S2.length≤549755813888) (hre:(dA its 4 4 q0.rest.1).reply=[]) (hkd:kd≠0) :
  Calls Tryz.prog 58 #[(vP bs 0),(vL AD Dm cD)] w fun e w'=>∃ (Am:Option Addr) (cm:Nat),e = .returned (vi 0)∧aJ [aD bs 101 [(vL A its c),v1,v2,(vI kd),v4,v5,v6,(vP se 0),v8,v9,v10],aN nm (S),aN om (S2)] w [aD bs 101 [(vL A its c),v1,(vi 1),(vI 5),(vL Am (aE 5) cm),bT,bT,(vP se 0),v8,v9,v10],aN nm (S++(dA its 4 4 q0.rest.1).need),aN om (S2++(dA its 4 4 q0.rest.1).off),cB Am (aE 5) cm] w':=by
 refine bK Tryz.func58 95 (hO) rfl<|Nc<|lx rfl<|Nb<|lx rfl<|Nx<|dW (fun w hM=>sG AD cD Dm w (r2.aQ hM) (hDl)) fun X10 br10=>lx rfl<|Nb<|lx rfl<|Ne<|lx rfl<|Nx<|eK [3] (fun w hM hO=>uN X10 br10 (Rd.mk Dm 0 0 0) w hO)<|Ng<|aS ?_
 rw [show (Rd.mk Dm 0 0 0).uint.1=3 from by rw [hu]]
 rw [show (Rd.mk Dm 0 0 0).uint.2=q0 from by rw [hu]]
 refine aF<|lF<|lx rfl<|Np<|aF<|lF<|lx rfl<|Np<|aF<|lT<|lx rfl<|No<|lx rfl<|lk (vP bs 0)<|lk (vP bs 3)<|lL 0 rfl<|lk (.bool ((((kd:Nat):Int):Int) != 0))<|Na<|lN rfl (by simp; omega)<|aF<|lx rfl<|Nx<|gO [0,3,1,2] _ (fun w hM hO=>(Tc bs A c its v1 v2 (vI kd) v4 v5 v6 v8 v9 v10 X10 br10 q0 se A2 c2 nm om S S2 w hO (r0.cK hM [0,3,1,2]) (r1.cK hM [0,3,1,2]) (r3.cK hM [0,3,1,2]) (hend) (hne) (hset) (h40) (hc2) (hD1) (her) (hS) (hT) (hre)).mono ?_)
 rintro e w' ⟨Am56,cm56,rfl,hP⟩
 refine ⟨_,[_,_,_,_],_,rfl,hP,rfl,?_⟩; clear hP hM hO
 refine lx rfl<|Nk<|Ny<|lx rfl<|lT<|Nt<|aF<|lx rfl<|lk (vP bs 0)<|lk (vP bs 5)<|Nx<|pS 0 rfl<|Nf ?_
 dsimp only [bE,List.set,List.cons_append,List.nil_append]
 exact aF<|lx rfl<|Nd<|sN [(vi 0)] fun w hM=>⟨Am56,cm56,rfl,(hM.pick [0,1,2,4] rfl rfl)⟩
theorem Tg (bs:Nat) (v0 v1:Value) (v2 v4:Value) (v5 v6:Value) (v7 v8:Value) (v9 v10:Value) (AD:Option Addr) (cD:Nat) (Dm:List UInt8) (q0:Rd) (w:World) (hO:cE [aD bs 101 [v0,v1,v2,(vI 3),v4,v5,v6,v7,v8,v9,v10]] w) (r0:Rf [aD bs 101 [v0,v1,v2,(vI 3),v4,v5,v6,v7,v8,v9,v10]] w (fun w=>aH w AD (B8 Dm))) (hDl:Dm.length≤4294967296) (hu:(Rd.mk Dm 0 0 0).uint=(5,q0)) (hend:q0.end_=0) :
  Calls Tryz.prog 58 #[(vP bs 0),(vL AD Dm cD)] w fun e w'=>e = .returned (vi 0)∧aJ [aD bs 101 [v0,v1,v2,(vI 3),v4,v5,v6,v7,v8,v9,v10]] w [aD bs 101 [v0,v1,(vi 0),(vI 3),v4,bT,bT,v7,v8,v9,v10]] w':=by
 refine bK Tryz.func58 95 (hO) rfl<|Nc<|lx rfl<|Nb<|lx rfl<|Nx<|dW (fun w hM=>sG AD cD Dm w (r0.aQ hM) (hDl)) fun X10 br10=>lx rfl<|Nb<|lx rfl<|Ne<|lx rfl<|Nx<|eK [1] (fun w hM hO=>uN X10 br10 (Rd.mk Dm 0 0 0) w hO)<|Ng<|aS ?_
 rw [show (Rd.mk Dm 0 0 0).uint.1=5 from by rw [hu]]
 rw [show (Rd.mk Dm 0 0 0).uint.2=q0 from by rw [hu]]
 refine aF<|lF<|lx rfl<|Np<|aF<|lF<|lx rfl<|Np<|aF<|lF<|lx rfl<|Np<|aF<|lF<|lx rfl<|Np<|aF<|lT<|lx rfl<|No<|lx rfl<|Nx<|eK [1] (fun w hM hO=>sF X10 br10 q0 w hO)<|lx rfl ?_
 refine Nb<|lx rfl<|lk (.bool ((q0.end_:Int) == 0))<|lm ?_
 refine St.known 76 (b':=true) rfl (by rw [hend]; rfl)<|lx rfl<|lg (vP bs 0)<|lg (vP bs 3)<|lu (vI 3) (cW 0 rfl rfl kr rfl rfl)<|lg bT<|lT<|No<|lx rfl<|lk (vP bs 0)<|lk (vP bs 6)<|Nx<|pS 0 rfl<|lk (vP bs 0)<|lk (vP bs 2)<|Nx<|pS 0 rfl<|Na ?_
 dsimp only [bE,List.set,List.cons_append,List.nil_append]
 exact aF<|lx rfl<|Nk<|Ny<|lx rfl<|lT<|Nt<|aF<|lx rfl<|lk (vP bs 0)<|lk (vP bs 5)<|Nx<|pS 0 rfl<|Nb<|lx rfl<|Nd<|sN [(vi 0)] fun w hM=>⟨rfl,(hM.pick [0] rfl rfl)⟩
theorem Th (bs:Nat) (A:Option Addr) (c:Nat) (its:List (List UInt8)) (v1 v4:Value) (v6 v8:Value) (v9 v10:Value) (AD:Option Addr) (cD:Nat) (Dm:List UInt8) (q0:Rd) (print:List UInt8) (q1:Rd) (t:BT) (se:Nat) (A2:Option Addr) (c2 nm om:Nat) (w:World) (hO:cE [aD bs 101 [(vL A its c),v1,(vi 2),(vI 1),v4,bF,v6,(vP se 0),v8,v9,v10]] w) (r0:Rf [aD bs 101 [(vL A its c),v1,(vi 2),(vI 1),v4,bF,v6,(vP se 0),v8,v9,v10]] w (cI)) (r1:Rf [aD bs 101 [(vL A its c),v1,(vi 2),(vI 1),v4,bF,v6,(vP se 0),v8,v9,v10]] w (fun w=>aH w A (SS its))) (r2:Rf [aD bs 101 [(vL A its c),v1,(vi 2),(vI 1),v4,bF,v6,(vP se 0),v8,v9,v10]] w (fun w=>aH w AD (B8 Dm))) (r3:Rf [aD bs 101 [(vL A its c),v1,(vi 2),(vI 1),v4,bF,v6,(vP se 0),v8,v9,v10]] w (iM se A2 c2 its 4 4 nm om)) (hDl:Dm.length≤4294967296) (hu:(Rd.mk Dm 0 0 0).uint=(2,q0)) (hp:q0.sum=(print,q1)) (htd:eB q1.rest.1=some t) (hend:q1.rest.2.end_=0) (hs0:t.seed=0) (hset:cJ its) (h40:its.length≤40) (hc2:its.length≤c2) (hsm:t.cells.length≤600) (hd:sK its t print=none) :
  Calls Tryz.prog 21 #[(vP bs 0),(vL AD Dm cD)] w fun e w'=>∃ (Am:Option Addr) (cm:Nat),e = .returned (vi 0)∧aJ [aD bs 101 [(vL A its c),v1,(vi 2),(vI 1),v4,bF,v6,(vP se 0),v8,v9,v10]] w [aD bs 101 [(vL A its c),v1,(vi 1),(vI 3),(vL Am (aZ 3 (bX [dS its [] []])) cm),bT,v6,(vP se 0),v8,v9,v10],cB Am (aZ 3 (bX [dS its [] []])) cm] w':=by
 refine bK Tryz.func21 26 (hO) rfl<|Nc<|lx rfl<|Nb<|Nx<|xM lH (fun v:Value=>v) rfl rfl kr (fun b8=>lx rfl<|lk (.func (.func 58) #[(vP bs 0)] #[])<|Nx<|xO (D:=lH) (val:=fun v:Value=>v) (a:=2) (u:=(.func (.func 58) #[(vP bs 0)] #[])) 1 [(2,(.func (.func 58) #[(vP bs 0)] #[]))] rfl rfl kr rfl rfl rfl Tryz.underlying112 rfl (show (2:Nat) < 100 by decide) rfl<|lx rfl<|Nb<|lx rfl<|lk (vP bs 0)<|lk (vP bs 2)<|lL 0 rfl<|lw (.tuple #[(.func (.func 58) #[(vP bs 0)] #[]),bT]) (iB (xN (D:=lH) (val:=fun v:Value=>v) (a:=2) (kv:=[(2,(.func (.func 58) #[(vP bs 0)] #[]))]) 1 rfl rfl rfl Tryz.underlying112 Tryz.zeroValue60 rfl (show (2:Nat) < 100 by decide)) rfl)<|lx rfl<|Ne<|lx rfl<|lF<|Nn<|aF<|lx rfl ?_)
 refine Nx<|gO [0] [aD bs 101 [(vL A its c),v1,(vi 2),(vI 1),v4,bF,v6,(vP se 0),v8,v9,v10]] (fun w hM hO=>(Td bs A c its v1 (vi 2) v4 v6 v8 v9 v10 AD cD Dm q0 print q1 t se A2 c2 nm om w hO (r0.cK hM [0]) (r1.cK hM [0]) (r2.cK hM [0]) (r3.cK hM [0]) (hDl) (hu) (hp) (htd) (hend) (hs0) (hset) (h40) (hc2) (hsm) (hd)).mono ?_) rfl rfl rfl kr (xP rfl rfl rfl (nF Tryz.func58 kr rfl))
 rintro e w' ⟨Am25,cm25,rfl,hP⟩
 refine ⟨_,[_],_,rfl,hP,rfl,?_⟩; clear hP hM hO
 exact lx rfl<|Nd<|sN [(vi 0)] fun w hM=>⟨Am25,cm25,rfl,(hM.pick [0,2] rfl rfl)⟩
theorem JX (bs:Nat) (A:Option Addr) (c:Nat) (its:List (List UInt8)) (v1 v4:Value) (v5 v6:Value) (v8 v9 v10:Value) (AD:Option Addr) (cD:Nat) (Dm:List UInt8) (q0:Rd) (se:Nat) (A2:Option Addr) (c2 nm om:Nat) (S S2:List (List UInt8)) (kd:Nat) (w:World) (hO:cE [aD bs 101 [(vL A its c),v1,(vi 2),(vI kd),v4,v5,v6,(vP se 0),v8,v9,v10],aN nm (S),aN om (S2)] w) (r0:Rf [aD bs 101 [(vL A its c),v1,(vi 2),(vI kd),v4,v5,v6,(vP se 0),v8,v9,v10],aN nm (S),aN om (S2)] w (cI)) (r1:Rf [aD bs 101 [(vL A its c),v1,(vi 2),(vI kd),v4,v5,v6,(vP se 0),v8,v9,v10],aN nm (S),aN om (S2)] w (fun w=>aH w A (SS its))) (r2:Rf [aD bs 101 [(vL A its c),v1,(vi 2),(vI kd),v4,v5,v6,(vP se 0),v8,v9,v10],aN nm (S),aN om (S2)] w (fun w=>aH w AD (B8 Dm))) (r3:Rf [aD bs 101 [(vL A its c),v1,(vi 2),(vI kd),v4,v5,v6,(vP se 0),v8,v9,v10],aN nm (S),aN om (S2)] w (iM se A2 c2 its 4 4 nm om)) (hDl:Dm.length≤4294967296) (hu:(Rd.mk Dm 0 0 0).uint=(3,q0)) (hend:q0.rest.2.end_=0) (hne:q0.rest.1≠[]) (hset:cJ its) (h40:its.length≤40) (hc2:its.length≤c2) (hD1:q0.rest.1.length≤1048576) (her:(dA its 4 4 q0.rest.1).err=0) (hS:S.length≤549755813888) (hT:S2.length≤549755813888) (hre:(dA its 4 4 q0.rest.1).reply≠[]) (hkd:kd≠0) :
  Calls Tryz.prog 21 #[(vP bs 0),(vL AD Dm cD)] w fun e w'=>∃ (Am:Option Addr) (cm:Nat),e = .returned (vi 0)∧aJ [aD bs 101 [(vL A its c),v1,(vi 2),(vI kd),v4,v5,v6,(vP se 0),v8,v9,v10],aN nm (S),aN om (S2)] w [aD bs 101 [(vL A its c),v1,(vi 1),(vI 3),(vL Am (aZ 3 (dA its 4 4 q0.rest.1).reply) cm),bT,v6,(vP se 0),v8,v9,v10],aN nm (S++(dA its 4 4 q0.rest.1).need),aN om (S2++(dA its 4 4 q0.rest.1).off),cB Am (aZ 3 (dA its 4 4 q0.rest.1).reply) cm] w':=by
 refine bK Tryz.func21 26 (hO) rfl<|Nc<|lx rfl<|Nb<|Nx<|xM lH (fun v:Value=>v) rfl rfl kr (fun b8=>lx rfl<|lk (.func (.func 58) #[(vP bs 0)] #[])<|Nx<|xO (D:=lH) (val:=fun v:Value=>v) (a:=2) (u:=(.func (.func 58) #[(vP bs 0)] #[])) 3 [(2,(.func (.func 58) #[(vP bs 0)] #[]))] rfl rfl kr rfl rfl rfl Tryz.underlying112 rfl (show (2:Nat) < 100 by decide) rfl<|lx rfl<|Nb<|lx rfl<|lk (vP bs 0)<|lk (vP bs 2)<|lL 0 rfl<|lw (.tuple #[(.func (.func 58) #[(vP bs 0)] #[]),bT]) (iB (xN (D:=lH) (val:=fun v:Value=>v) (a:=2) (kv:=[(2,(.func (.func 58) #[(vP bs 0)] #[]))]) 3 rfl rfl rfl Tryz.underlying112 Tryz.zeroValue60 rfl (show (2:Nat) < 100 by decide)) rfl)<|lx rfl<|Ne<|lx rfl<|lF<|Nn<|aF<|lx rfl ?_)
 refine Nx<|gO [0,1,2] [aD bs 101 [(vL A its c),v1,(vi 2),(vI kd),v4,v5,v6,(vP se 0),v8,v9,v10],aN nm (S),aN om (S2)] (fun w hM hO=>(Te bs A c its v1 (vi 2) v4 v5 v6 v8 v9 v10 AD cD Dm q0 se A2 c2 nm om S S2 kd w hO (r0.cK hM [0,1,2]) (r1.cK hM [0,1,2]) (r2.cK hM [0,1,2]) (r3.cK hM [0,1,2]) (hDl) (hu) (hend) (hne) (hset) (h40) (hc2) (hD1) (her) (hS) (hT) (hre) (hkd)).mono ?_) rfl rfl rfl kr (xP rfl rfl rfl (nF Tryz.func58 kr rfl))
 rintro e w' ⟨Am25,cm25,rfl,hP⟩
 refine ⟨_,[_,_,_],_,rfl,hP,rfl,?_⟩; clear hP hM hO
 exact lx rfl<|Nd<|sN [(vi 0)] fun w hM=>⟨Am25,cm25,rfl,(hM.pick [0,1,2,4] rfl rfl)⟩
theorem Ti (bs:Nat) (A:Option Addr) (c:Nat) (its:List (List UInt8)) (v1 v4:Value) (v5 v6:Value) (v8 v9 v10:Value) (AD:Option Addr) (cD:Nat) (Dm:List UInt8) (q0:Rd) (se:Nat) (A2:Option Addr) (c2 nm om:Nat) (S S2:List (List UInt8)) (kd:Nat) (w:World) (hO:cE [aD bs 101 [(vL A its c),v1,(vi 2),(vI kd),v4,v5,v6,(vP se 0),v8,v9,v10],aN nm (S),aN om (S2)] w) (r0:Rf [aD bs 101 [(vL A its c),v1,(vi 2),(vI kd),v4,v5,v6,(vP se 0),v8,v9,v10],aN nm (S),aN om (S2)] w (cI)) (r1:Rf [aD bs 101 [(vL A its c),v1,(vi 2),(vI kd),v4,v5,v6,(vP se 0),v8,v9,v10],aN nm (S),aN om (S2)] w (fun w=>aH w A (SS its))) (r2:Rf [aD bs 101 [(vL A its c),v1,(vi 2),(vI kd),v4,v5,v6,(vP se 0),v8,v9,v10],aN nm (S),aN om (S2)] w (fun w=>aH w AD (B8 Dm))) (r3:Rf [aD bs 101 [(vL A its c),v1,(vi 2),(vI kd),v4,v5,v6,(vP se 0),v8,v9,v10],aN nm (S),aN om (S2)] w (iM se A2 c2 its 4 4 nm om)) (hDl:Dm.length≤4294967296) (hu:(Rd.mk Dm 0 0 0).uint=(3,q0)) (hend:q0.rest.2.end_=0) (hne:q0.rest.1≠[]) (hset:cJ its) (h40:its.length≤40) (hc2:its.length≤c2) (hD1:q0.rest.1.length≤1048576) (her:(dA its 4 4 q0.rest.1).err=0) (hS:S.length≤549755813888) (hT:S2.length≤549755813888) (hre:(dA its 4 4 q0.rest.1).reply=[]) (hkd:kd≠0) :
  Calls Tryz.prog 21 #[(vP bs 0),(vL AD Dm cD)] w fun e w'=>∃ (Am:Option Addr) (cm:Nat),e = .returned (vi 0)∧aJ [aD bs 101 [(vL A its c),v1,(vi 2),(vI kd),v4,v5,v6,(vP se 0),v8,v9,v10],aN nm (S),aN om (S2)] w [aD bs 101 [(vL A its c),v1,(vi 1),(vI 5),(vL Am (aE 5) cm),bT,bT,(vP se 0),v8,v9,v10],aN nm (S++(dA its 4 4 q0.rest.1).need),aN om (S2++(dA its 4 4 q0.rest.1).off),cB Am (aE 5) cm] w':=by
 refine bK Tryz.func21 26 (hO) rfl<|Nc<|lx rfl<|Nb<|Nx<|xM lH (fun v:Value=>v) rfl rfl kr (fun b8=>lx rfl<|lk (.func (.func 58) #[(vP bs 0)] #[])<|Nx<|xO (D:=lH) (val:=fun v:Value=>v) (a:=2) (u:=(.func (.func 58) #[(vP bs 0)] #[])) 3 [(2,(.func (.func 58) #[(vP bs 0)] #[]))] rfl rfl kr rfl rfl rfl Tryz.underlying112 rfl (show (2:Nat) < 100 by decide) rfl<|lx rfl<|Nb<|lx rfl<|lk (vP bs 0)<|lk (vP bs 2)<|lL 0 rfl<|lw (.tuple #[(.func (.func 58) #[(vP bs 0)] #[]),bT]) (iB (xN (D:=lH) (val:=fun v:Value=>v) (a:=2) (kv:=[(2,(.func (.func 58) #[(vP bs 0)] #[]))]) 3 rfl rfl rfl Tryz.underlying112 Tryz.zeroValue60 rfl (show (2:Nat) < 100 by decide)) rfl)<|lx rfl<|Ne<|lx rfl<|lF<|Nn<|aF<|lx rfl ?_)
 refine Nx<|gO [0,1,2] [aD bs 101 [(vL A its c),v1,(vi 2),(vI kd),v4,v5,v6,(vP se 0),v8,v9,v10],aN nm (S),aN om (S2)] (fun w hM hO=>(Tf bs A c its v1 (vi 2) v4 v5 v6 v8 v9 v10 AD cD Dm q0 se A2 c2 nm om S S2 kd w hO (r0.cK hM [0,1,2]) (r1.cK hM [0,1,2]) (r2.cK hM [0,1,2]) (r3.cK hM [0,1,2]) (hDl) (hu) (hend) (hne) (hset) (h40) (hc2) (hD1) (her) (hS) (hT) (hre) (hkd)).mono ?_) rfl rfl rfl kr (xP rfl rfl rfl (nF Tryz.func58 kr rfl))
 rintro e w' ⟨Am25,cm25,rfl,hP⟩
 refine ⟨_,[_,_,_],_,rfl,hP,rfl,?_⟩; clear hP hM hO
 exact lx rfl<|Nd<|sN [(vi 0)] fun w hM=>⟨Am25,cm25,rfl,(hM.pick [0,1,2,4] rfl rfl)⟩
theorem Tj (bs:Nat) (v0 v1:Value) (v4 v5:Value) (v6 v7:Value) (v8 v9 v10:Value) (AD:Option Addr) (cD:Nat) (Dm:List UInt8) (q0:Rd) (w:World) (hO:cE [aD bs 101 [v0,v1,(vi 2),(vI 3),v4,v5,v6,v7,v8,v9,v10]] w) (r0:Rf [aD bs 101 [v0,v1,(vi 2),(vI 3),v4,v5,v6,v7,v8,v9,v10]] w (fun w=>aH w AD (B8 Dm))) (hDl:Dm.length≤4294967296) (hu:(Rd.mk Dm 0 0 0).uint=(5,q0)) (hend:q0.end_=0) :
  Calls Tryz.prog 21 #[(vP bs 0),(vL AD Dm cD)] w fun e w'=>e = .returned (vi 0)∧aJ [aD bs 101 [v0,v1,(vi 2),(vI 3),v4,v5,v6,v7,v8,v9,v10]] w [aD bs 101 [v0,v1,(vi 0),(vI 3),v4,bT,bT,v7,v8,v9,v10]] w':=by
 refine bK Tryz.func21 26 (hO) rfl<|Nc<|lx rfl<|Nb<|Nx<|xM lH (fun v:Value=>v) rfl rfl kr (fun b8=>lx rfl<|lk (.func (.func 58) #[(vP bs 0)] #[])<|Nx<|xO (D:=lH) (val:=fun v:Value=>v) (a:=2) (u:=(.func (.func 58) #[(vP bs 0)] #[])) 1 [(2,(.func (.func 58) #[(vP bs 0)] #[]))] rfl rfl kr rfl rfl rfl Tryz.underlying112 rfl (show (2:Nat) < 100 by decide) rfl<|lx rfl<|Nb<|lx rfl<|lk (vP bs 0)<|lk (vP bs 2)<|lL 0 rfl<|lw (.tuple #[(.func (.func 58) #[(vP bs 0)] #[]),bT]) (iB (xN (D:=lH) (val:=fun v:Value=>v) (a:=2) (kv:=[(2,(.func (.func 58) #[(vP bs 0)] #[]))]) 1 rfl rfl rfl Tryz.underlying112 Tryz.zeroValue60 rfl (show (2:Nat) < 100 by decide)) rfl)<|lx rfl<|Ne<|lx rfl<|lF<|Nn<|aF<|lx rfl ?_)
 refine Nx<|gO [0] [aD bs 101 [v0,v1,(vi 2),(vI 3),v4,v5,v6,v7,v8,v9,v10]] (fun w hM hO=>(Tg bs v0 v1 (vi 2) v4 v5 v6 v7 v8 v9 v10 AD cD Dm q0 w hO (r0.cK hM [0]) (hDl) (hu) (hend)).mono ?_) rfl rfl rfl kr (xP rfl rfl rfl (nF Tryz.func58 kr rfl))
 rintro e w' ⟨rfl,hP⟩
 refine ⟨_,[_],_,rfl,hP,rfl,?_⟩; clear hP hM hO
 exact lx rfl<|Nd<|sN [(vi 0)] fun w hM=>⟨rfl,(hM.pick [0] rfl rfl)⟩
section
section
variable {P : Program} {w0 : World} {F : List Nat} {E : cH} {cs : List Ch} {o : Oper}
theorem vD {ty u:TypeId} {x y:Operand} {a b:Nat} (ho:o.op = .binOp .sub ty x y u) (hx:aM E x=some (vi ((a:Nat):Int))) (hy:aM E y=some (vi ((b:Nat):Int))) (hb:b≤a) (ha:a≤9223372036854775807):cC P w0 F cs E o (vi ((a - b:Nat):Int)) :=
 kX _ ho hx hy om om om
end
theorem cR.len {r:Rd} {bs:Bs} (h:cR r bs):r.D.length - r.off=bs.length:=by rw [← h.bytes,List.length_drop]
theorem cR.start (D:Bs):cR (Rd.mk D 0 0 0) D:=⟨rfl,rfl⟩
theorem cR.rest {r:Rd} {t rest:Bs} (h:cR r ((aE t.length++t)++rest)) (hm:bI t.length):r.rest.1=t∧cR r.rest.2 rest:=by
 have hl:=h.len
 simp only [List.length_append] at hl
 exact h.text om hm
theorem AK {k:Nat} {D:Bs} (hk:k≤100) (hD:D.length≤4294967296):∃ q0,(Rd.mk (aZ k D) 0 0 0).uint=(k,q0)∧q0.rest.1=D∧q0.rest.2.end_=0:=by
 have h0:=cR.start (aZ k D)
 obtain ⟨h1,h2⟩:=cR.uint (n:=k) (rest:=aE D.length++D) h0 (lX om)
 obtain ⟨h3,h4⟩:=cR.rest (t:=D) (rest:=[]) (by rw [List.append_nil]; exact h2) (lX om)
 exact ⟨_,Prod.ext h1 rfl,h3,h4.end_⟩
theorem Tk {k:Nat} (hk:k≤100):∃ q0,(Rd.mk (aE k) 0 0 0).uint=(k,q0)∧q0.end_=0:=by
 have h0:=cR.start (aE k)
 obtain ⟨h1,h2⟩:=cR.uint (n:=k) (rest:=[]) (by rw [List.append_nil]; exact h0) (lX om)
 exact ⟨_,Prod.ext h1 rfl,h2.end_⟩
theorem JY {ts:List BT} (hok:lD ts) {r:Rd} {rest:Bs} (h:cR r (bL ts++rest)):∀ i,i≤ts.length→∃ q,gF r i=(some (ts.take i),q)∧cR q (bL (ts.drop i)++rest)
 | 0,_=>⟨r,rfl,h⟩
 | i+1,hi=>by
   obtain ⟨q,h1,h2⟩:=JY hok h i om
   have ht:ts[i]?=some ts[i]:=List.getElem?_eq_getElem om
   obtain ⟨t1,t2,t3⟩:=hok i _ ht
   have hs:bL (ts.drop i)=mL ts[i]++bL (ts.drop (i+1)):=by rw [List.drop_eq_getElem_cons om]; rfl
   rw [hs,List.append_assoc] at h2
   obtain ⟨h3,h4⟩:=cR.rest (t:=ts[i].enc) h2 (lX (by have:=Ac t1 t2; omega))
   refine ⟨_,?_,h4⟩
   have hd:eB q.rest.1=some ts[i]:=by rw [h3]; exact zK t1 (by rw [t2]; decide)
   rw [Ie h1 hd (by simp [kD,t2,t3]),List.take_add_one,ht]
   rfl
theorem DX {ts:List BT} (hok:lD ts) (hl:ts.length=12):cM (bL ts)=some ts:=by
 obtain ⟨q,h1,h2⟩:=JY hok (r:=Rd.mk (bL ts) 0 0 0) (rest:=[]) (by rw [List.append_nil]; exact cR.start _) 12 om
 rw [← hl,List.take_length] at h1
 rw [← hl,List.drop_length] at h2
 rw [hl] at h1
 rw [Dw h1,if_pos h2.end_]
theorem Tl {its:List Bs} {n:Nat} (h32:∀ x∈its,x.length=32) (hz:dQ (n:Int)=true):∃ q0 q1,(Rd.mk (eI its n) 0 0 0).uint=(2,q0)∧q0.sum=(eV its,q1)∧eB q1.rest.1=some (eH its n)∧q1.rest.2.end_=0:=by
 have hn:=(gV hz).2.1
 have hen:(eH its n).enc.length≤200000:=uC (uS h32 n) (by rw [oU]; omega) _
 have h0:=cR.start (eI its n)
 obtain ⟨h1,h2⟩:=cR.uint (n:=2) (rest:=eV its++mL (eH its n)) h0 (lX om)
 obtain ⟨h3,h4⟩:=cR.sum h2 (rF _)
 obtain ⟨h5,h6⟩:=cR.rest (t:=(eH its n).enc) (rest:=[]) (by rw [List.append_nil]; exact h4) (lX om)
 exact ⟨_,_,Prod.ext h1 rfl,Prod.ext h3 rfl,by rw [h5]; exact zK (uS h32 n) (by rw [oU]; exact hz),h6.end_⟩
theorem qY {k:Nat} {D:Bs} (hk:k≤100) (hD:D.length≤4294967296):(aZ k D).length≤D.length+20:=by
 have h1:=fG k om
 have h2:=fG D.length om
 unfold aZ
 simp only [List.length_append]
 omega
theorem vE {a b:List Bs} {f l par j:Nat} (h:j % 2=par):bV a b f l par (j+1)=((bV a b f l par j).1++(fV a b f l j).need,(bV a b f l par j).2++(fV a b f l j).off):=by rw [bV,if_pos h]
theorem vF {a b:List Bs} {f l par j:Nat} (h:¬ j % 2=par):bV a b f l par (j+1)=bV a b f l par j:=by rw [bV,if_neg h]
end
theorem JZ {r:Rd}:∀ {i:Nat} {ts:List BT} {r1:Rd},gF r i=(some ts,r1)→r1.err=0→iS r r1 (bL ts)
 | 0,ts,r1,h,he=>by
   rw [gF] at h
   simp only [Prod.mk.injEq,Option.some.injEq] at h
   obtain ⟨rfl,rfl⟩:=h
   exact ⟨he,rfl,rfl⟩
 | i+1,ts,r1,h,he=>by
   rw [gF] at h
   cases hh:gF r i with
   | mk a b =>
     rw [hh] at h
     cases a with
     | none=>simp at h
     | some us =>
       simp only at h
       cases hd:eB b.rest.1 with
       | none=>rw [hd] at h; simp at h
       | some t =>
         rw [hd] at h
         simp only at h
         split at h
         ·simp only [Prod.mk.injEq,Option.some.injEq] at h
          obtain ⟨rfl,rfl⟩:=h
          have t1:=(CR b _ he).1
          have t2:=(JZ hh t1.err).trans t1
          have e:=(uH hd).1
          rw [Ad,mL,e]
          exact t2
         ·simp at h
theorem Tm {D:Bs} {ts:List BT} (h:cM D=some ts):D=bL ts:=by
 unfold cM at h
 cases hh:gF (Rd.mk D 0 0 0) 12 with
 | mk a b =>
   rw [hh] at h
   cases a with
   | none=>simp at h
   | some us =>
     simp only at h
     split at h
     ·rename_i he
      injection h with h
      subst h
      have t:=JZ hh (by
       unfold Rd.end_ at he
       by_cases h0:b.err=0
       ·exact h0
       ·rw [if_pos h0] at he; exact absurd he h0)
      exact t.end_ he
     ·cases h
def eT (l : Bs) : Bs × Bs × Bool := (bW (bJ l false 1048576).2.1 (bJ l false 1048576).2.2 (bJ l false 1048576).1, eC (bJ l false 1048576).2.1 (bJ l false 1048576).2.2 (bJ l false 1048576).1, eE (bJ l false 1048576).2.1 (bJ l false 1048576).2.2 (bJ l false 1048576).1)
theorem Tn {l:Bs} (h:(eT l).2.2=false):l=aE (eT l).1.length++(eT l).1++(eT l).2.1:=by
 have h2:=JA h
 obtain ⟨a1,-,-⟩:=Jz (l:=l) (v:=(bJ l false 1048576).1) (l':=(bJ l false 1048576).2.1) (most:=1048576) (Prod.ext rfl (Prod.ext rfl h2))
 unfold eT at h ⊢
 rw [h2] at h ⊢
 obtain ⟨b1,b2⟩:=Jx h
 dsimp only
 rw [b2,List.append_assoc,← b1]
 exact a1
theorem To {x:Bs} (r:Bs) (h:x.length≤1048576):eT (aE x.length++x++r)=(x,r,false):=by
 unfold eT
 rw [List.append_assoc,DN _ (by unfold bI; omega) h]
 obtain ⟨h1,h2,h3⟩:=Jy x r
 dsimp only
 rw [h1,h2,h3]
structure jL (D : Bs) (i : Nat) (ts : List BT) (l : Bs) : Prop where
 len : ts.length = i
 ok : lD ts
 snd : D = bL ts ++ l
 cpl : ∀ us, cM D = some us → ts = us.take i ∧ l = bL (us.drop i)
theorem jL.start (D:Bs):jL D 0 [] D:=⟨rfl,fun i t h=>by simp at h,rfl,fun us h=>⟨rfl,Tm h⟩⟩
theorem jL.next {D l:Bs} {i:Nat} {ts us:List BT} (h:jL D i ts l) (hi:i < 12) (hD:D.length≤20000) (hu:cM D=some us):∃ t,us[i]?=some t∧eT l=(t.enc,bL (us.drop (i+1)),false)∧eB t.enc=some t∧t.cells.length=12∧t.seed=i+1:=by
 obtain ⟨h1,h2⟩:=h.cpl us hu
 obtain ⟨u1,u2⟩:=oV hu
 have hlt:i < us.length:=om
 obtain ⟨o1,o2,o3⟩:=u2 i us[i] (List.getElem?_eq_getElem hlt)
 rw [List.drop_eq_getElem_cons hlt] at h2
 have e:l=aE us[i].enc.length++us[i].enc++bL (us.drop (i+1)):=h2
 have hl:l.length≤D.length:=by rw [h.snd,List.length_append]; omega
 have hx:us[i].enc.length≤1048576:=by
  have:=congrArg List.length e
  simp only [List.length_append] at this
  omega
 refine ⟨us[i],List.getElem?_eq_getElem hlt,by rw [e]; exact To _ hx,zK o1 (by rw [o2]; decide),o2,o3⟩
theorem jL.no {D l:Bs} {i:Nat} {ts:List BT} (h:jL D i ts l) (hi:i < 12) (hD:D.length≤20000) (hn:(eT l).2.2=true∨∀ t,eB (eT l).1=some t→t.cells.length≠12∨t.seed≠i+1):cM D=none:=by
 cases hd:cM D with
 | none=>rfl
 | some us =>
   obtain ⟨t,-,h2,h3,h4,h5⟩:=h.next hi hD hd
   rw [h2] at hn
   rcases hn with hn | hn
   ·cases hn
   ·rcases hn t h3 with hn | hn
    ·exact absurd h4 hn
    ·exact absurd h5 hn
theorem jL.step {D l:Bs} {i:Nat} {ts:List BT} {t:BT} (h:jL D i ts l) (hi:i < 12) (hD:D.length≤20000) (hb:(eT l).2.2=false) (hd:eB (eT l).1=some t) (hn:t.cells.length=12) (hs:t.seed=i+1):jL D (i+1) (ts++[t]) (eT l).2.1:=by
 obtain ⟨e,hz⟩:=uH hd
 refine ⟨by rw [List.length_append,h.len]; rfl,fun j u hu=>?_,?_,fun us hu=>?_⟩
 ·rcases Nat.lt_or_ge j ts.length with hj | hj
  ·rw [List.getElem?_append_left hj] at hu
   exact h.ok j u hu
  ·rw [List.getElem?_append_right hj] at hu
   have hj0:j - ts.length=0:=by
    have:=(List.getElem?_eq_some_iff.1 hu).1
    simp at this
    omega
   rw [hj0] at hu
   simp at hu
   subst hu
   exact ⟨(xJ hd).1,hn,by rw [hs,← h.len]; omega⟩
 ·rw [Ad,mL,e,List.append_assoc,← Tn hb]
  exact h.snd
 ·obtain ⟨t',h1,h2,h3,-,-⟩:=h.next hi hD hu
  rw [h2] at hd ⊢
  rw [h3] at hd
  injection hd with hd
  subst hd
  refine ⟨?_,rfl⟩
  rw [List.take_add_one,h1,← (h.cpl us hu).1]
  rfl
theorem jL.yes {D:Bs} {ts:List BT} (h:jL D 12 ts []):cM D=some ts:=by
 have e:=h.snd
 rw [List.append_nil] at e
 rw [e]
 exact DX h.ok h.len
section
section
variable {P : Program} {w0 : World} {F : List Nat} {E : cH} {cs : List Ch} {o : Oper}
theorem Tp {ty u:TypeId} {x y:Operand} {a b:Nat} (ho:o.op = .binOp .mul ty x y u) (hx:aM E x=some (.int .u64 (a:Int))) (hy:aM E y=some (.int .u64 (b:Int))):cC P w0 F cs E o (.int .u64 ((a*b % 18446744073709551616:Nat):Int)):=fun w _=>by
 unfold execOp
 simp only [ho,bG hx,bG hy,Sem.run_bind,mR,Result.andThen_ok,binOp,Op.intArith,IntKind.wrap_u64]
 simp
theorem Tq {ty u:TypeId} {x y:Operand} {a b:Nat} (ho:o.op = .binOp .add ty x y u) (hx:aM E x=some (.int .u64 (a:Int))) (hy:aM E y=some (.int .u64 (b:Int))):cC P w0 F cs E o (.int .u64 (((a+b) % 18446744073709551616:Nat):Int)):=fun w _=>by
 unfold execOp
 simp only [ho,bG hx,bG hy,Sem.run_bind,mR,Result.andThen_ok,binOp,Op.intArith,IntKind.wrap_u64]
 simp
end
theorem Tr {l:Bs} {i k:Nat} {x:UInt8} (hx:l[i]?=some x) (hi:i < k):(dM (l.drop (i+1)) (k - (i+1)) % 18446744073709551616*128 % 18446744073709551616+x.toNat % 128) % 18446744073709551616=dM (l.drop i) (k - i) % 18446744073709551616:=by
 rw [← Sj hx hi]
 omega
theorem DY (br:Nat) (A:Option Addr) (D:List UInt8) (A1:Option Addr) (c1:Nat) (l:List UInt8) (bad:Bool) (n:Nat) (w:World) (hO:cE [aD br 88 [(vL A1 l c1),(.bool bad)]] w) (r0:Rf [aD br 88 [(vL A1 l c1),(.bool bad)]] w (fun w=>aH w A (B8 D))) (hs:eX A D A1 l c1) (hD:D.length≤1048576) (hn:n≤1048576) :
  Calls Tryz.prog 53 #[(vP br 0),(vI n)] w fun e w'=>∃ (A2:Option Addr) (c2:Nat) (B:Option Addr) (cb:Nat),e = .returned (vL B (bW l bad n) cb)∧aJ [aD br 88 [(vL A1 l c1),(.bool bad)]] w [aD br 88 [(vL A2 (eC l bad n) c2),(.bool (eE l bad n))],cB B (bW l bad n) cb] w'∧(eX A D A2 ((eC l bad n)) c2):=by
 have hs0:=hs
 obtain ⟨hs1,hs2,hs3⟩:=hs0
 have rr:=r0.imp (fun w h=>hs1 w h)
 refine bK Tryz.func53 44 (hO) rfl<|Nc<|lx rfl<|Nf<|aS ?_
 cases hb:bad with
 | true =>
   have ht:eE l true n=true:=rfl
   refine aF<|lx rfl<|lk (vP br 0)<|lk (vP br 1)<|lL 0 rfl<|lx rfl<|lT<|lx rfl<|lT<|No<|lx rfl<|lk (vP br 0)<|lk (vP br 1)<|Nx<|pS 0 rfl<|Nf<|St.mem (fun w hM=>hM.gY 5 1)<|aF<|lx rfl<|Nh<|sN [nS] fun w hM=>?_
   rw [show bW l true n=[] from by unfold bW; rw [ht]; rfl,show eC l true n=l from by unfold eC; rw [ht]; rfl,ht]
   exact ⟨_,_,none,0,rfl,(hM).pick [0,1] rfl rfl,hs⟩
 | false =>
   refine aF<|lx rfl<|lk (vP br 0)<|lk (vP br 1)<|lL 0 rfl<|lx rfl<|lg (.bool (decide (((n:Nat):Int) < 0)))<|lk (.bool (decide (((n:Nat):Int) < 0)))<|lx rfl<|St.known 14 (b':=false) rfl si<|lx rfl<|lg (vP br 0)<|lg (vP br 0)<|lu (vL A1 l c1) (cW 0 rfl rfl kr rfl rfl)<|lg (vI l.length)<|lg (.bool (decide (((n:Nat):Int) > ((l.length:Nat):Int))))<|lk (.bool (decide (((n:Nat):Int) > ((l.length:Nat):Int)))) ?_
   refine aO (aI (bD rfl (fun hc22=>?_) (fun hc22=>?_)))
   ·have hd22:=of_decide_eq_true hc22
    have ht:eE l false n=true:=by have:=of_decide_eq_true hc22; simp [eE]; omega
    refine Nc<|lx rfl<|lk (vP br 0)<|lk (vP br 1)<|Nx<|pS 0 rfl<|Nf<|St.mem (fun w hM=>hM.gY 5 1)<|aF<|lx rfl<|Nh<|sN [nS] fun w hM=>?_
    rw [show bW l false n=[] from by unfold bW; rw [ht]; rfl,show eC l false n=l from by unfold eC; rw [ht]; rfl,ht]
    exact ⟨_,_,none,0,rfl,(hM).pick [0,1] rfl rfl,hs⟩
   ·have hd22:=of_decide_eq_false hc22
    have ht:eE l false n=false:=by have:=of_decide_eq_false hc22; simp [eE]; omega
    have hnl:n≤l.length:=by have:=of_decide_eq_false hc22; omega
    refine Ni<|Nx<|pN 0 5 [] fun b26=>lx rfl<|lk (vP br 0)<|lk (vP br 0)<|lL 0 rfl<|lx rfl ?_
    have rs32:=rr.imp (fun _ hrow=>BF n (hrow))
    refine lw (vL A1 (l.take n) c1) (iB (tS (e:=5) (k:=n) rfl kr kr rfl rfl (by have:=hs2; omega)) (by show Value.slice _ _ _=Value.slice _ _ _; rw [List.length_take,Nat.min_eq_left om]))<|Nx<|rS (fun w hM=>hM.Ee 1 rfl 1)<|cY fH 1 (B8 (l.take n)) rfl rfl kr rfl rfl rfl (by simp [B8]) (fun w hM=>dV.jW (rs32.now hM)) ((gS _)) (by rw [List.length_take]; omega) ((l.take n).length) fN (B8 (l.take n)) (by simp [B8]) (fun A33 c33=>lx rfl<|Nf ?_)
    dsimp only [bE,List.set,List.cons_append,List.nil_append]
    refine aF<|lx rfl<|lk (vP br 0)<|lk (vP br 0)<|lL 0 rfl<|lx rfl ?_
    have rs40:=rr.imp (fun _ hrow=>BG n (hrow) (hs2))
    refine lw (vL (if c1=n then A1 else A1.map (·.add (n*1))) (l.drop n) (c1 - n)) (iB (tT (e:=5) (sz:=1) (k:=n) rfl kr kr rfl rfl om) (by show Value.slice _ _ _=Value.slice _ _ _; simp only [List.length_drop]))<|lk (vP br 0)<|lk (vP br 0)<|Nx<|pS 0 rfl<|Nb<|lx rfl<|Nd<|sN [(vL A33 (l.take n) c33)] fun w hM=>?_
    rw [show bW l false n=l.take n from by unfold bW; rw [ht]; rfl,show eC l false n=l.drop n from by unfold eC; rw [ht]; rfl,ht]
    exact ⟨_,_,_,_,rfl,hM,hs.drop hnl⟩
theorem tB (br:Nat) (A:Option Addr) (D:List UInt8) (A1:Option Addr) (c1:Nat) (l:List UInt8) (bad:Bool) (w:World) (hO:cE [aD br 88 [(vL A1 l c1),(.bool bad)]] w) (r0:Rf [aD br 88 [(vL A1 l c1),(.bool bad)]] w (fun w=>aH w A (B8 D))) (hs:eX A D A1 l c1) (hD:D.length≤1048576) :
  Calls Tryz.prog 83 #[(vP br 0)] w fun e w'=>∃ (A2:Option Addr) (c2:Nat),e = .returned (.int .u64 (((bQ l bad).1:Nat):Int))∧aJ [aD br 88 [(vL A1 l c1),(.bool bad)]] w [aD br 88 [(vL A2 ((bQ l bad).2.1) c2),(.bool (bQ l bad).2.2)]] w'∧(eX A D A2 ((bQ l bad).2.1) c2):=by
 have hs0:=hs
 obtain ⟨hs1,hs2,hs3⟩:=hs0
 have rr:=r0.imp (fun w h=>hs1 w h)
 refine dI Tryz.func83 77 (hO) rfl<|aS ?_
 cases hb:bad with
 | true =>
   refine aF<|lx rfl<|Ne<|lx rfl<|Ng<|sL (fun i=>i=0) (fun i=>0) (fun i=>[(0,(vP br 0)),(2,(.int .u64 0)),(3,(vI (i+1)))]) (fun i=>[aD br 88 [(vL A1 l c1),bT]]) 0 rfl (fun w hM=>by show Mm _ _ [aD br 88 [(vL A1 l c1),bT]] w; exact hM) ?_
   intro i hi0
   show St _ _ _ [(0,(vP br 0)),(2,(.int .u64 0)),(3,(vI (i+1)))] [aD br 88 [(vL A1 l c1),bT]] _
   refine Ny<|lx rfl<|lk (.bool (decide ((((i+1):Nat):Int)≤10)))<|lm ?_
   refine St.dec 8 rfl (fun hc8=>?_) (fun hc8=>?_)
   ·have hd8:=of_decide_eq_true hc8
    refine lx rfl<|lg (vP br 0)<|lg (vP br 0)<|lu (vL A1 l c1) (cW 0 rfl rfl kr rfl rfl)<|lg (vI l.length)<|lg (.bool (decide ((((i+1):Nat):Int)≤((l.length:Nat):Int))))<|lk (.bool (decide ((((i+1):Nat):Int)≤((l.length:Nat):Int))))<|lm ?_
    refine St.dec 17 rfl (fun hc17=>?_) (fun hc17=>?_)
    ·have hd17:=of_decide_eq_true hc17
     refine lx rfl<|lg (vP br 0)<|lg (vP br 1)<|lu bT (cW 0 rfl rfl kr rfl rfl)<|lg bF<|lF<|Nu<|Nj<|aF<|lx rfl<|lk (vP br 0)<|lk (vP br 1)<|Nx<|pS 0 rfl<|Nb<|lx rfl<|Nd<|sN [(.int .u64 0)] fun w hM=>?_
     rw [DM]
     exact ⟨_,_,rfl,hM,hs⟩
    ·have hd17:=of_decide_eq_false hc17
     refine lx rfl<|lF<|Nu<|Nj<|aF<|lx rfl<|lk (vP br 0)<|lk (vP br 1)<|Nx<|pS 0 rfl<|Nb<|lx rfl<|Nd<|sN [(.int .u64 0)] fun w hM=>?_
     rw [DM]
     exact ⟨_,_,rfl,hM,hs⟩
   ·have hd8:=of_decide_eq_false hc8
    refine lx rfl<|lF<|lx rfl<|lF<|Nu<|Nj<|aF<|lx rfl<|lk (vP br 0)<|lk (vP br 1)<|Nx<|pS 0 rfl<|Nb<|lx rfl<|Nd<|sN [(.int .u64 0)] fun w hM=>?_
    rw [DM]
    exact ⟨_,_,rfl,hM,hs⟩
 | false =>
   refine aF<|lx rfl<|Ne<|lx rfl<|Ng<|sL (fun i=>i≤10∧i≤l.length∧∀ j b,j < i→l[j]?=some b→128≤b.toNat) (fun i=>10 - i) (fun i=>[(0,(vP br 0)),(2,(.int .u64 0)),(3,(vI (i+1)))]) (fun i=>[aD br 88 [(vL A1 l c1),bF]]) 0 ⟨Nat.zero_le _,Nat.zero_le _,fun j b h=>absurd h om⟩ (fun w hM=>by show Mm _ _ [aD br 88 [(vL A1 l c1),bF]] w; exact hM) ?_
   rintro i ⟨hi10,hil,hpre⟩
   show St _ _ _ [(0,(vP br 0)),(2,(.int .u64 0)),(3,(vI (i+1)))] [aD br 88 [(vL A1 l c1),bF]] _
   refine Ny<|lx rfl<|lk (.bool (decide ((((i+1):Nat):Int)≤10)))<|lm ?_
   refine St.dec 8 rfl (fun hc8=>?_) (fun hc8=>?_)
   ·have hd8:=of_decide_eq_true hc8
    have hi1:i+1≤10:=by have:=of_decide_eq_true hc8; omega
    refine lx rfl<|lg (vP br 0)<|lg (vP br 0)<|lu (vL A1 l c1) (cW 0 rfl rfl kr rfl rfl)<|lg (vI l.length)<|lg (.bool (decide ((((i+1):Nat):Int)≤((l.length:Nat):Int))))<|lk (.bool (decide ((((i+1):Nat):Int)≤((l.length:Nat):Int))))<|lm ?_
    refine St.dec 17 rfl (fun hc17=>?_) (fun hc17=>?_)
    ·have hd17:=of_decide_eq_true hc17
     have hi2:i+1≤l.length:=by have:=of_decide_eq_true hc17; omega
     refine lx rfl<|lg (vP br 0)<|lg (vP br 1)<|lu bF (cW 0 rfl rfl kr rfl rfl)<|lg bT<|lT<|Nt<|Nm<|Nc<|lx rfl<|lk (vP br 0)<|lk (vP br 0)<|lL 0 rfl<|lx rfl<|lw (vI i) BI ?_
     obtain ⟨x0,hx0⟩:∃ ξ,(l)[i]?=some ξ:=⟨_,List.getElem?_eq_getElem om⟩
     refine St.eY (fun w hM=>rr.now hM) (yL hx0) (fun p32 q32 hA32 hc32=>lw (vP p32 (q32+i)) (rR 5 hA32)<|lW (rW hc32)<|lk (.bool (decide (((x0.toNat:Nat):Int)≥128))) ?_)
     refine aO (aI (bD rfl (fun hc34=>?_) (fun hc34=>?_)))
     ·have hd34:=of_decide_eq_true hc34
      have hge:128≤x0.toNat:=by have:=of_decide_eq_true hc34; omega
      have hpre2:∀ j b,j < i+1→l[j]?=some b→128≤b.toNat:=fun j b hj hb=>by
       by_cases h:j < i
       ·exact hpre j b h hb
       ·obtain rfl:j=i:=om
        rw [hx0] at hb; injection hb with hb; subst hb; exact hge
      exact qE<|iW<|mQ<|aI<|aF<|lx rfl<|lw (vI ((i+1)+1)) bO<|lx rfl<|aO (aI (sA (i+1) (⟨om,om,hpre2⟩) (by show 10 - (i+1) < 10 - i; omega) (fun w hM=>hM)))
     ·have hd34:=of_decide_eq_false hc34
      have hlt:x0.toNat < 128:=by have:=of_decide_eq_false hc34; omega
      refine Ni<|lx rfl<|Ne<|lx rfl<|lw (vI i) BI<|lx rfl<|Ng<|yB (ι:=Nat × Int) (fun (p,z)=>p≤i+1∧z=(p:Int) - 1) (fun (p,z)=>p) (fun (p,z)=>[(0,(vP br 0)),(2,(.int .u64 0)),(3,(vI (i+1))),(4,(vU (dM (l.drop p) (i+1 - p) % 18446744073709551616))),(5,(vi z))]) (fun (p,z)=>[aD br 88 [(vL A1 l c1),bF]]) (i+1,((i+1:Nat):Int) - 1) ⟨Nat.le_refl _,rfl⟩ ⟨rfl,rfl,rfl,congrArg (fun z:Nat=>some (Value.int .u64 (z:Int))) (show 0=dM (l.drop (i+1)) (i+1 - (i+1)) % 18446744073709551616 by rw [Nat.sub_self]; unfold dM; rfl),congrArg (fun z:Int=>some (Value.int .i64 z)) (show (i:Int)=((i+1:Nat):Int) - 1 by omega),trivial⟩ (fun w hM=>by show Mm _ _ [aD br 88 [(vL A1 l c1),bF]] w; exact hM) ?_
      rintro ⟨p,z⟩ ⟨hp,hz⟩
      show St _ _ _ [(0,(vP br 0)),(2,(.int .u64 0)),(3,(vI (i+1))),(4,(vU (dM (l.drop p) (i+1 - p) % 18446744073709551616))),(5,(vi z))] [aD br 88 [(vL A1 l c1),bF]] _
      refine Ny<|lx rfl<|lk (.bool (decide ((z:Int)≥0))) ?_
      refine aO (aI (bD rfl (fun hc38=>?_) (fun hc38=>?_)))
      ·have hd38:=of_decide_eq_true hc38
       obtain ⟨q,rfl⟩:∃ q,p=q+1:=⟨p - 1,by have:=of_decide_eq_true hc38; omega⟩
       obtain rfl:z=(q:Int):=om
       refine Nl<|fO<|aF<|lx rfl<|lw (.int .u64 ((((dM (l.drop (q+1)) (i+1 - (q+1)) % 18446744073709551616)*128 % 18446744073709551616):Nat):Int)) (Tp rfl rfl rfl)<|lx rfl<|lk (vP br 0)<|lk (vP br 0)<|lL 0 rfl<|lx rfl ?_
       obtain ⟨x1,hx1⟩:∃ ξ,(l)[q]?=some ξ:=⟨_,List.getElem?_eq_getElem om⟩
       exact St.eY (fun w hM=>rr.now hM) (yL hx1) (fun p48 q48 hA48 hc48=>lw (vP p48 (q48+q)) (rR 5 hA48)<|lW (rW hc48)<|lw (.int .u8 (((x1.toNat % 128):Nat):Int)) (EV _ rfl rfl rfl (by decide) (Int.ofNat_tmod ..).symm)<|lw (vU (x1.toNat % 128)) (iC _ (fun _=>kr) rfl rfl (kK om om))<|lw (.int .u64 (((((dM (l.drop (q+1)) (i+1 - (q+1)) % 18446744073709551616)*128 % 18446744073709551616+x1.toNat % 128) % 18446744073709551616):Nat):Int)) (Tq rfl rfl rfl)<|lx rfl<|Nk<|aF<|lx rfl<|lw (.int .i64 (((q:Nat):Int) - 1)) BI<|lx rfl<|Na<|vN (q, ((q : Nat) : Int) - 1) (⟨om, rfl⟩) (by show q < q + 1; omega) ⟨rfl, rfl, rfl, congrArg (fun z : Nat => some (Value.int .u64 (z : Int))) (Tr hx1 om), rfl, trivial⟩ (fun w hM => hM))
      ·have hd38:=of_decide_eq_false hc38
       obtain rfl:p=0:=by have:=of_decide_eq_false hc38; omega
       rw [show (dM (l.drop 0) (i+1 - 0) % 18446744073709551616)=(dM l (i+1) % 18446744073709551616) from rfl]
       refine Nj<|aS ?_
       refine cQ _ 11 kr (fun _ h=>h) ?_
       refine am 0 ?_
       refine am 3 ?_
       refine aC 4 (vP br 0) rfl<|aC 5 (vP br 0) rfl<|al 6 0 ?_
       refine am 7 ?_
       have rs61:=rr.imp (fun _ hrow=>BF (i+1) (hrow))
       refine aV 8 (vL A1 (l.take (i+1)) c1) rfl (iB (tS (e:=5) (k:=(i+1)) rfl kr kr rfl rfl (by have:=hs2; omega)) (by show Value.slice _ _ _=Value.slice _ _ _; rw [List.length_take,Nat.min_eq_left om]))<|aV 9 (vS (l.take (i+1))) rfl (kW (e:=5) (l.take (i+1)) rfl kr kr kr rfl rfl (fun w hM=>rs61.now hM))<|aA 1 rfl<|dW (fun w hM=>IZ (dM l (i+1) % 18446744073709551616) w (by unfold bI; omega)) fun B54 cb54=>aP _ (fun _ h=>h.pick [0] rfl rfl) (fun _ h=>h)<|aV 2 (vS (aE (dM l (i+1) % 18446744073709551616))) rfl (kW (e:=5) (aE (dM l (i+1) % 18446744073709551616)) rfl kr kr kr rfl rfl (fun w hM=>gJ (i:=1) rfl w hM))<|aV 10 (.bool (!decide ((aE (dM l (i+1) % 18446744073709551616))=(l.take (i+1))))) rfl (rP rfl rfl rfl)<|cF kr ?_
       refine aI (bD rfl (fun hc63=>?_) (fun hc63=>?_))
       ·have hres:bQ l false=(0,l,true):=Sl hpre hx0 hlt (by simpa using hc63)
        refine qE<|iW<|vO rfl<|iW<|iW<|mQ<|aI<|Nc<|lx rfl<|lk (vP br 0)<|lk (vP br 1)<|Nx<|pS 0 rfl<|Nb<|lx rfl<|Nd<|sN [(.int .u64 0)] fun w hM=>?_
        rw [hres]
        exact ⟨_,_,rfl,(hM.pick [0] rfl rfl),hs⟩
       ·have hres:bQ l false=(dM l (i+1) % 18446744073709551616,l.drop (i+1),false):=Sk (by simpa using hc63) (by unfold bI; omega)
        refine Ni<|lx rfl<|lk (vP br 0)<|lk (vP br 0)<|lL 0 rfl<|lx rfl ?_
        have rs70:=rr.imp (fun _ hrow=>BG (i+1) (hrow) (hs2))
        refine lw (vL (if c1=(i+1) then A1 else A1.map (·.add ((i+1)*1))) (l.drop (i+1)) (c1 - (i+1))) (iB (tT (e:=5) (sz:=1) (k:=(i+1)) rfl kr kr rfl rfl om) (by show Value.slice _ _ _=Value.slice _ _ _; simp only [List.length_drop]))<|lk (vP br 0)<|lk (vP br 0)<|Nx<|pS 0 rfl<|Nf ?_
        dsimp only [bE,List.set,List.cons_append,List.nil_append]
        refine aF<|lx rfl<|Nd<|fY<|dC<|dC<|fY<|dC<|sN [(vU (dM l (i+1) % 18446744073709551616))] fun w hM=>?_
        rw [hres]
        exact ⟨_,_,rfl,(hM.pick [0] rfl rfl),hs.drop om⟩
    ·have hd17:=of_decide_eq_false hc17
     have hres:bQ l false=(0,l,true):=Jw hpre (.inl (by have:=of_decide_eq_false hc17; omega))
     refine lx rfl<|lF<|Nu<|Nj<|aF<|lx rfl<|lk (vP br 0)<|lk (vP br 1)<|Nx<|pS 0 rfl<|Nb<|lx rfl<|Nd<|sN [(.int .u64 0)] fun w hM=>?_
     rw [hres]
     exact ⟨_,_,rfl,hM,hs⟩
   ·have hd8:=of_decide_eq_false hc8
    obtain rfl:i=10:=by have:=of_decide_eq_false hc8; omega
    have hres:bQ l false=(0,l,true):=Jw hpre (.inr ⟨rfl,hil⟩)
    refine lx rfl<|lF<|lx rfl<|lF<|Nu<|Nj<|aF<|lx rfl<|lk (vP br 0)<|lk (vP br 1)<|Nx<|pS 0 rfl<|Nb<|lx rfl<|Nd<|sN [(.int .u64 0)] fun w hM=>?_
    rw [hres]
    exact ⟨_,_,rfl,hM,hs⟩
theorem DZ (br:Nat) (A:Option Addr) (D:List UInt8) (A1:Option Addr) (c1:Nat) (l:List UInt8) (bad:Bool) (most:Nat) (w:World) (hO:cE [aD br 88 [(vL A1 l c1),(.bool bad)]] w) (r0:Rf [aD br 88 [(vL A1 l c1),(.bool bad)]] w (fun w=>aH w A (B8 D))) (hs:eX A D A1 l c1) (hD:D.length≤1048576) (hm:most≤1048576) :
  Calls Tryz.prog 49 #[(vP br 0),(vI most)] w fun e w'=>∃ (A2:Option Addr) (c2:Nat),e = .returned (vI ((bJ l bad most).1))∧aJ [aD br 88 [(vL A1 l c1),(.bool bad)]] w [aD br 88 [(vL A2 ((bJ l bad most).2.1) c2),(.bool (bJ l bad most).2.2)]] w'∧(eX A D A2 ((bJ l bad most).2.1) c2):=by
 refine bK Tryz.func49 17 (hO) rfl<|Nc<|lx rfl<|Nb<|lx rfl<|Nx<|kL [0] (fun w hM hO=>tB br A D A1 c1 l bad w hO (r0.cK hM [0]) ag ag) fun A27 c27 hs7=>?_
 have hu4:=sX l bad
 refine lx rfl<|Ne<|lx rfl<|lw (vU most) (iC _ (fun _=>kr) rfl rfl (kK om om))<|lk (.bool (decide ((((bQ l bad).1:Nat):Int) > ((most:Nat):Int)))) ?_
 refine aO (aI (bD rfl (fun hc11=>?_) (fun hc11=>?_)))
 ·have hd11:=of_decide_eq_true hc11
  have hres:bJ l bad most=(0,(bQ l bad).2.1,true):=if_pos (by have:=of_decide_eq_true hc11; omega)
  refine Nc<|lx rfl<|lk (vP br 0)<|lk (vP br 1)<|Nx<|pS 0 rfl<|Nb<|lx rfl<|Nh<|sN [(vi 0)] fun w hM=>?_
  rw [hres]
  exact ⟨_,_,rfl,hM,hs7⟩
 ·have hd11:=of_decide_eq_false hc11
  have hle:(bQ l bad).1≤most:=by have:=of_decide_eq_false hc11; omega
  have hres:bJ l bad most=bQ l bad:=if_neg om
  refine Ni<|lx rfl<|lw (vI ((bQ l bad).1)) (iC _ (fun _=>kr) rfl rfl (pK om om))<|lx rfl<|Nd<|sN [(vI ((bQ l bad).1))] fun w hM=>?_
  rw [hres]
  exact ⟨_,_,rfl,hM,hs7⟩
end
end Go.Proofs.YtdflaaiondmjdaaGreatDoor
