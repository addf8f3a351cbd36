/- A small logic for walks: states are told by what the temporaries hold (Env) and by a list of separate pieces of memory (Ch). No condition. -/
import Derived.Test.YtlepfnihpdhcaaaGreatDoorBase
import Derived.OrdersHeld
import Derived.Deep.LoopGhost
import Derived.Laws.MakeOwn
import Derived.Test.YtlepfnihpdhcaaaGreatDoorBytes
import Derived.Lib.AppendStr
import Derived.Lib.IndexBytes
import Derived.Sort.Walk0
namespace Go.Proofs.YtlepfnihpdhcaaaGreatDoor
open Go.RowKit

/-! ### What the temporaries hold -/
abbrev Env := List (Nat × Value)
def look? : Env → Nat → Option Value
  | [], _ => none
  | p :: E, t => bif Nat.beq p.1 t then some p.2 else look? E t
def evO (E : Env) : Operand → Option Value
  | .tmp t => look? E t
  | .const v => some v
  | .global g => some (.pointer (some ⟨g, 0, none⟩))
  | .func f => some (.func (.func f) #[] #[])
def evE (E : Env) (x : Operand) : Value := (evO E x).getD undef
def putE (E : Env) (d : Option Nat) (v : Value) : Env := match d with | some t => (t, v) :: E | none => E

structure Ev (n : Nat) (E : Env) (a : Act) : Prop where
  size : a.tmps.size = n
  defers : a.defers = []
  val : ∀ t v, look? E t = some v → a.tmps.getD t undef = v

theorem Ev.eval {n : Nat} {E : Env} {a : Act} (h : Ev n E a) {x : Operand} {v : Value} (hx : evO E x = some v) : a.eval x = v := by
  cases x with
  | tmp t => exact h.val t v hx
  | const u => exact Option.some.inj hx
  | global g => exact Option.some.inj hx
  | func f => exact Option.some.inj hx

theorem Ev.evE {n : Nat} {E : Env} {a : Act} (h : Ev n E a) {x : Operand} (hx : (evO E x).isSome = true) : a.eval x = evE E x := by
  obtain ⟨v, hv⟩ := Option.isSome_iff_exists.1 hx
  rw [h.eval hv, Go.Proofs.YtlepfnihpdhcaaaGreatDoor.evE, hv]
  rfl

def dstOk (n : Nat) (d : Option Nat) : Bool := match d with | some t => Nat.blt t n | none => true

theorem Ev.put {n : Nat} {E : Env} {a : Act} (h : Ev n E a) {d : Option Nat} (hd : dstOk n d = true) (v : Value) : Ev n (putE E d v) (a.put d v) := by
  cases d with
  | none => exact h
  | some t =>
    have ht : t < a.tmps.size := by rw [h.size]; exact (Nat.blt_eq (x := t) (y := n)) ▸ hd
    refine ⟨by simp [Act.put, h.size], h.defers, fun s u hs => ?_⟩
    simp only [putE, look?] at hs
    simp only [Act.put, Array.getD_eq_getD_getElem?, Array.getElem?_setIfInBounds]
    cases hb : Nat.beq t s with
    | true =>
      rw [hb] at hs
      have := Nat.eq_of_beq_eq_true hb
      subst this
      rw [if_pos rfl, if_pos ht]
      exact Option.some.inj hs
    | false =>
      rw [hb] at hs
      have hne := Nat.ne_of_beq_eq_false hb
      rw [if_neg hne]
      have := h.val s u hs
      rwa [Array.getD_eq_getD_getElem?] at this

theorem Ev.sub {n : Nat} {E E' : Env} {a : Act} (h : Ev n E a) (hs : ∀ t v, look? E' t = some v → look? E t = some v) : Ev n E' a := ⟨h.size, h.defers, fun t v hv => h.val t v (hs t v hv)⟩

/-- The pairs of E', read in E. -/
def subE (E : Env) : Env → Prop
  | [] => True
  | p :: E' => look? E p.1 = some p.2 ∧ subE E E'
theorem subE_look {E E' : Env} (h : subE E E') : ∀ t v, look? E' t = some v → look? E t = some v := by
  induction E' with
  | nil => intro t v hv; cases hv
  | cons p E' ih =>
    intro t v hv
    simp only [look?] at hv
    cases hb : Nat.beq p.1 t with
    | true =>
      rw [hb] at hv
      have := Nat.eq_of_beq_eq_true hb
      subst this
      rw [← Option.some.inj hv]
      exact h.1
    | false =>
      rw [hb] at hv
      exact ih h.2 t v hv

/-! ### Memory: separate pieces -/
structure Ch where
  fp : List Nat
  holds : World → Prop
  ok : ∀ w w', (∀ b ∈ fp, w'.heap[b]? = w.heap[b]?) → holds w → holds w'
  lt : ∀ w, holds w → ∀ b ∈ fp, b < w.heap.size

def cAt (b : Nat) (t : TypeId) (l : List Value) : Ch where
  fp := [b]
  holds w := At w b t l
  ok w w' h hw := (h b (by simp)).trans hw
  lt w hw c hc := by rw [List.mem_singleton] at hc; subst hc; exact hw.lt

structure Mm (w0 : World) (F : List Nat) (cs : List Ch) (w : World) : Prop where
  fr : Fr F w0 w
  hold : ∀ c ∈ cs, c.holds w
  nodup : (cs.flatMap Ch.fp).Nodup
  own : ∀ b ∈ cs.flatMap Ch.fp, b ∈ F ∨ w0.heap.size ≤ b

theorem Mm.start (w : World) (F : List Nat) : Mm w F [] w := ⟨Fr.refl _ _, by simp, by simp, by simp⟩

section
variable {w0 w w' : World} {F : List Nat} {cs : List Ch}

theorem Mm.at (h : Mm w0 F cs w) {i : Nat} {c : Ch} (hi : cs[i]? = some c) : c.holds w := h.hold c (List.mem_of_getElem? hi)

theorem Mm.ltAll (h : Mm w0 F cs w) {b : Nat} (hb : b ∈ cs.flatMap Ch.fp) : b < w.heap.size := by
  obtain ⟨c, hc, hbc⟩ := List.mem_flatMap.1 hb
  exact c.lt w (h.hold c hc) b hbc

theorem Mm.drew (h : Mm w0 F cs w) : Mm w0 F cs w.drew := ⟨h.fr.drew, fun c hc => c.ok w _ (fun _ _ => rfl) (h.hold c hc), h.nodup, h.own⟩

theorem Mm.fr0 (h : Mm w0 F cs w) (hf : Fr [] w w') : Mm w0 F cs w' :=
  ⟨h.fr.then0 hf, fun c hc => c.ok w _ (fun b hb => hf.block b (c.lt w (h.hold c hc) b hb) (by simp)) (h.hold c hc), h.nodup, h.own⟩

theorem nodup_flat_split {A B : List Ch} {c : Ch} (h : ((A ++ c :: B).flatMap Ch.fp).Nodup) :
    (A.flatMap Ch.fp).Nodup ∧ (B.flatMap Ch.fp).Nodup ∧ (∀ b ∈ A.flatMap Ch.fp, b ∉ B.flatMap Ch.fp) ∧ ∀ b ∈ c.fp, b ∉ A.flatMap Ch.fp ∧ b ∉ B.flatMap Ch.fp := by
  rw [List.flatMap_append, List.flatMap_cons] at h
  rw [List.nodup_append] at h
  obtain ⟨h1, h2, h3⟩ := h
  rw [List.nodup_append] at h2
  obtain ⟨h4, h5, h6⟩ := h2
  exact ⟨h1, h5, fun b hb hb' => h3 b hb b (List.mem_append_right _ hb') rfl, fun b hb => ⟨fun hb' => h3 b hb' b (List.mem_append_left _ hb) rfl, fun hb' => h6 b hb b hb' rfl⟩⟩

theorem split_at {α : Type} {l : List α} {i : Nat} {c : α} (h : l[i]? = some c) : l = l.take i ++ c :: l.drop (i + 1) := by
  obtain ⟨h1, e1⟩ := List.getElem?_eq_some_iff.1 h
  rw [← e1, ← List.drop_eq_getElem_cons h1, List.take_append_drop]

/-- One piece is exchanged for another (over its own blocks and new ones). -/
theorem Mm.swap (h : Mm w0 F cs w) (i : Nat) {c c' : Ch} (hi : cs[i]? = some c) (hf : Fr c.fp w w') (hc : c'.holds w') (hfp : ∀ b ∈ c'.fp, b ∈ c.fp ∨ w.heap.size ≤ b) (hnd : c'.fp.Nodup) :
    Mm w0 F (cs.set i c') w' := by
  have hsz := h.fr.size
  have hs := split_at hi
  have hcm : c ∈ cs := List.mem_of_getElem? hi
  have hset : cs.set i c' = cs.take i ++ c' :: cs.drop (i + 1) := by
    have hl := (List.getElem?_eq_some_iff.1 hi).1
    rw [List.set_eq_take_append_cons_drop, if_pos hl]
  have hnd0 := h.nodup
  rw [hs] at hnd0
  obtain ⟨n1, n2, n3, n4⟩ := nodup_flat_split hnd0
  have hA : ∀ x ∈ cs.take i, x ∈ cs := fun x hx => List.mem_of_mem_take hx
  have hB : ∀ x ∈ cs.drop (i + 1), x ∈ cs := fun x hx => List.mem_of_mem_drop hx
  have hAB : ∀ x, x ∈ cs.take i ∨ x ∈ cs.drop (i + 1) → x.holds w' := by
    intro x hx
    have hxm : x ∈ cs := hx.elim (hA x) (hB x)
    refine x.ok w w' (fun b hb => hf.block b (x.lt w (h.hold x hxm) b hb) (fun hbc => ?_)) (h.hold x hxm)
    rcases hx with hx | hx
    · exact (n4 b hbc).1 (List.mem_flatMap.2 ⟨x, hx, hb⟩)
    · exact (n4 b hbc).2 (List.mem_flatMap.2 ⟨x, hx, hb⟩)
  have hownc : ∀ b ∈ c.fp, b ∈ F ∨ w0.heap.size ≤ b := fun b hb => h.own b (List.mem_flatMap.2 ⟨c, hcm, hb⟩)
  have hltAB : ∀ b, b ∈ (cs.take i).flatMap Ch.fp ∨ b ∈ (cs.drop (i + 1)).flatMap Ch.fp → b < w.heap.size := by
    intro b hb
    rcases hb with hb | hb <;> obtain ⟨x, hx, hbx⟩ := List.mem_flatMap.1 hb
    · exact x.lt w (h.hold x (hA x hx)) b hbx
    · exact x.lt w (h.hold x (hB x hx)) b hbx
  have hc'not : ∀ b ∈ c'.fp, b ∉ (cs.take i).flatMap Ch.fp ∧ b ∉ (cs.drop (i + 1)).flatMap Ch.fp := by
    intro b hb
    rcases hfp b hb with h1 | h1
    · exact n4 b h1
    · exact ⟨fun h2 => by have := hltAB b (.inl h2); omega, fun h2 => by have := hltAB b (.inr h2); omega⟩
  rw [hset]
  refine ⟨h.fr.trans' hf hownc, ?_, ?_, ?_⟩
  · intro x hx
    rcases List.mem_append.1 hx with hx | hx
    · exact hAB x (.inl hx)
    · rcases List.mem_cons.1 hx with rfl | hx
      · exact hc
      · exact hAB x (.inr hx)
  · rw [List.flatMap_append, List.flatMap_cons, List.nodup_append, List.nodup_append]
    refine ⟨n1, ⟨hnd, n2, fun a ha b hb e => (hc'not a ha).2 (e ▸ hb)⟩, fun a ha b hb e => ?_⟩
    subst e
    rcases List.mem_append.1 hb with hb | hb
    · exact (hc'not a hb).1 ha
    · exact n3 a ha hb
  · intro b hb
    rw [List.flatMap_append, List.flatMap_cons] at hb
    rcases List.mem_append.1 hb with hb | hb
    · obtain ⟨x, hx, hbx⟩ := List.mem_flatMap.1 hb
      exact h.own b (List.mem_flatMap.2 ⟨x, hA x hx, hbx⟩)
    · rcases List.mem_append.1 hb with hb | hb
      · rcases hfp b hb with h1 | h1
        · exact hownc b h1
        · exact .inr (by omega)
      · obtain ⟨x, hx, hbx⟩ := List.mem_flatMap.1 hb
        exact h.own b (List.mem_flatMap.2 ⟨x, hB x hx, hbx⟩)

/-- A new piece. -/
theorem Mm.push (h : Mm w0 F cs w) {c : Ch} (hf : Fr [] w w') (hc : c.holds w') (hfp : ∀ b ∈ c.fp, w.heap.size ≤ b) (hnd : c.fp.Nodup) : Mm w0 F (cs ++ [c]) w' := by
  have h0 := h.fr0 hf
  have hsz := h.fr.size
  refine ⟨h0.fr, ?_, ?_, ?_⟩
  · intro x hx
    rcases List.mem_append.1 hx with hx | hx
    · exact h0.hold x hx
    · rw [List.mem_singleton] at hx
      subst hx
      exact hc
  · rw [List.flatMap_append, List.nodup_append]
    refine ⟨h.nodup, by simpa using hnd, fun a ha b hb e => ?_⟩
    subst e
    have h1 := h.ltAll ha
    have h2 := hfp a (by simpa using hb)
    omega
  · intro b hb
    rw [List.flatMap_append] at hb
    rcases List.mem_append.1 hb with hb | hb
    · exact h.own b hb
    · exact .inr (by have := hfp b (by simpa using hb); omega)

theorem sub_flat {A B : List Ch} (h : A.Sublist B) : (A.flatMap Ch.fp).Sublist (B.flatMap Ch.fp) := by
  induction h with
  | slnil => exact List.Sublist.slnil
  | cons a _ ih => rw [List.flatMap_cons]; exact ih.trans (List.sublist_append_right _ _)
  | cons_cons a _ ih => rw [List.flatMap_cons, List.flatMap_cons]; exact (List.Sublist.refl _).append ih

/-- A sublist of the pieces. -/
theorem Mm.sub {cs' : List Ch} (h : Mm w0 F cs w) (hs : cs'.Sublist cs) : Mm w0 F cs' w :=
  ⟨h.fr, fun c hc => h.hold c (hs.subset hc), h.nodup.sublist (sub_flat hs), fun b hb => h.own b ((sub_flat hs).subset hb)⟩

theorem Mm.perm {cs' : List Ch} (h : Mm w0 F cs w) (hs : cs.Perm cs') : Mm w0 F cs' w :=
  ⟨h.fr, fun c hc => h.hold c (hs.mem_iff.2 hc), (hs.flatMap_right _).nodup_iff.1 h.nodup, fun b hb => h.own b ((hs.flatMap_right _).mem_iff.2 hb)⟩

theorem Mm.lo (h : Mm w0 [] cs w) {i : Nat} {c : Ch} (hi : cs[i]? = some c) {b : Nat} (hb : b ∈ c.fp) : w0.heap.size ≤ b := by
  rcases h.own b (List.mem_flatMap.2 ⟨c, List.mem_of_getElem? hi, hb⟩) with h1 | h1
  · cases h1
  · exact h1
end
end Go.Proofs.YtlepfnihpdhcaaaGreatDoor
namespace Go.Proofs.YtlepfnihpdhcaaaGreatDoor
open Go.RowKit

/-- In every state that E and the pieces cs tell, X. -/
def St (n : Nat) (w0 : World) (F : List Nat) (E : Env) (cs : List Ch) (X : Act → World → Prop) : Prop := ∀ a w, Ev n E a → Mm w0 F cs w → X a w

/-- One operation, from every state that E and cs tell. -/
def OpW (P : Program) (Q : Exit → Act → World → Prop) (n : Nat) (w0 : World) (F : List Nat) (E : Env) (cs : List Ch) (o : Oper) (K : Act → World → Prop) : Prop :=
  ∀ a w, Ev n E a → Mm w0 F cs w → o.wp P a w K Q

section
variable {P : Program} {Q : Exit → Act → World → Prop} {n : Nat} {w0 : World} {F : List Nat} {E : Env} {cs : List Ch} {X K : Act → World → Prop} {ops : Array Oper} {o : Oper} {rest : List Oper} {id d : Nat}

theorem St.mono {Y : Act → World → Prop} (h : St n w0 F E cs X) (hX : ∀ a w, X a w → Y a w) : St n w0 F E cs Y := fun a w hE hM => hX a w (h a w hE hM)
theorem OpW.mono {K' : Act → World → Prop} (h : OpW P Q n w0 F E cs o K) (hK : ∀ a w, K a w → K' a w) : OpW P Q n w0 F E cs o K' := fun a w hE hM => Oper.wp_mono hK (h a w hE hM)

/-- Fewer temporaries, fewer pieces. -/
theorem St.less {E' : Env} {cs' : List Ch} (hE : subE E E') (hc : cs'.Sublist cs) (h : St n w0 F E' cs' X) : St n w0 F E cs X :=
  fun a w ha hM => h a w (ha.sub (subE_look hE)) (hM.sub hc)
theorem St.env {E' : Env} (hE : subE E E') (h : St n w0 F E' cs X) : St n w0 F E cs X := fun a w ha hM => h a w (ha.sub (subE_look hE)) hM
/-- What the pieces say, from every state. -/
theorem St.fact {p : Prop} (hp : ∀ w, Mm w0 F cs w → p) (h : p → St n w0 F E cs X) : St n w0 F E cs X := fun a w ha hM => h (hp w hM) a w ha hM
theorem St.mem {cs' : List Ch} (hp : ∀ w, Mm w0 F cs w → Mm w0 F cs' w) (h : St n w0 F E cs' X) : St n w0 F E cs X := fun a w ha hM => h a w ha (hp w hM)

/-! ### The run of an operation looks at its operands alone -/
def noSel (o : Oper) : Bool := match o.op with | .select .. => false | _ => true
def opOk (n : Nat) (E : Env) (o : Oper) : Bool := noSel o && dstOk n o.dst && o.op.operands.all fun x => (evO E x).isSome

theorem opOk_exec {a : Act} (h : opOk n E o = true) (ha : Ev n E a) : execOp a.eval o = execOp (evE E) o := by
  simp only [opOk, Bool.and_eq_true] at h
  refine execOp_congr o (fun c b e => ?_) (fun x hx => ?_)
  · have := h.1.1
    simp [noSel, e] at this
  · exact ha.evE ((Array.all_eq_true_iff_forall_mem.1 h.2) x hx)
theorem opOk_dst (h : opOk n E o = true) : dstOk n o.dst = true := by
  simp only [opOk, Bool.and_eq_true] at h
  exact h.1.2

/-- It yields a value and leaves memory as it is. -/
theorem opVal (v : Value) (hd : o.dst = some d) (hk : opOk n E o = true) (hr : ∀ w, Mm w0 F cs w → (execOp (evE E) o).run P w = .ok (.value v) w) (h : St n w0 F ((d, v) :: E) cs K) : OpW P Q n w0 F E cs o K := by
  intro a w ha hM
  unfold Oper.wp
  rw [opOk_exec hk ha, hr w hM]
  have h1 := ha.put (opOk_dst hk) v
  rw [hd] at h1
  have h2 := h _ _ h1 hM
  rw [← hd] at h2
  exact h2

/-- It yields a value; memory afterwards is told anew. -/
theorem opEff (hd : o.dst = some d) (hk : opOk n E o = true) (hr : ∀ w, Mm w0 F cs w → ∃ v w' cs', (execOp (evE E) o).run P w = .ok (.value v) w' ∧ Mm w0 F cs' w' ∧ St n w0 F ((d, v) :: E) cs' K) : OpW P Q n w0 F E cs o K := by
  intro a w ha hM
  obtain ⟨v, w', cs', h1, h2, h3⟩ := hr w hM
  unfold Oper.wp
  rw [opOk_exec hk ha, h1]
  have h4 := ha.put (opOk_dst hk) v
  rw [hd] at h4
  have h5 := h3 _ _ h4 h2
  rw [← hd] at h5
  exact h5
theorem opSkip (hd : o.dst = none) (hk : opOk n E o = true) (hr : ∀ w, Mm w0 F cs w → ∃ w' cs', (execOp (evE E) o).run P w = .ok .skip w' ∧ Mm w0 F cs' w' ∧ St n w0 F E cs' K) : OpW P Q n w0 F E cs o K := by
  intro a w ha hM
  obtain ⟨w', cs', h1, h2, h3⟩ := hr w hM
  unfold Oper.wp
  rw [opOk_exec hk ha, h1]
  have h5 := h3 _ _ ha h2
  unfold Oper.upon
  rw [hd]
  exact h5

/-- A call by its contract. -/
theorem opCall (f : FuncId) (args : Array Value) (hd : o.dst = some d) (hk : opOk n E o = true) (hr : ∀ w, (execOp (evE E) o).run P w = .ok (.enter f args) w)
    (h : ∀ w, Mm w0 F cs w → Calls P f args w fun e w' => ∃ v cs', e = .returned v ∧ Mm w0 F cs' w' ∧ St n w0 F ((d, v) :: E) cs' K) : OpW P Q n w0 F E cs o K := by
  intro a w ha hM
  unfold Oper.wp
  rw [opOk_exec hk ha, hr w]
  refine (h w hM).mono ?_
  rintro e w' ⟨v, cs', rfl, h2, h3⟩
  have h4 := ha.put (opOk_dst hk) v
  rw [hd] at h4
  have h5 := h3 _ _ h4 h2
  rw [← hd] at h5
  exact h5

/-- .. from a new beginning: what the world was when the call came back is the base from here on. -/
theorem opCallB (f : FuncId) (args : Array Value) (hd : o.dst = some d) (hk : opOk n E o = true) (hr : ∀ w, (execOp (evE E) o).run P w = .ok (.enter f args) w)
    (h : ∀ w, Mm w0 F cs w → Calls P f args w fun e w' => ∃ v w1 F1 cs1, e = .returned v ∧ Mm w1 F1 cs1 w' ∧ St n w1 F1 ((d, v) :: E) cs1 K) : OpW P Q n w0 F E cs o K := by
  intro a w ha hM
  unfold Oper.wp
  rw [opOk_exec hk ha, hr w]
  refine (h w hM).mono ?_
  rintro e w' ⟨v, w1, F1, cs1, rfl, h2, h3⟩
  have h4 := ha.put (opOk_dst hk) v
  rw [hd] at h4
  have h5 := h3 _ _ h4 h2
  rw [← hd] at h5
  exact h5
/-- The world at hand is the base from here on. -/
theorem St.rebase {X : Act → World → Prop} (h : ∀ w1, Mm w0 F cs w1 → St n w1 [] E [] X) : St n w0 F E cs X := fun a w ha hM => h w hM a w ha (Mm.start w [])

/-! ### Operations in a row -/
theorem li (hg : o.guard = none) (h : OpW P Q n w0 F E cs o (wpList P ops Q rest)) : St n w0 F E cs (wpList P ops Q (o :: rest)) :=
  fun a w ha hM => wpList_plain hg fun _ hK => Oper.wp_mono hK (h a w ha hM)
theorem liNil (h : St n w0 F E cs (Q .normal)) : St n w0 F E cs (wpList P ops Q []) := h
theorem reg {l : List Oper} (h : St n w0 F E cs (wpList P l.toArray Q l)) : St n w0 F E cs ((Code.region id l.toArray false).wp P Q) := fun a w ha hM => wp_region_lit (h a w ha hM)

/-- What a guard asks. -/
def yieldE (ops : Array Oper) (E : Env) (i : Nat) : Option Bool :=
  match (ops[i]?).bind (·.dst) with
  | some t => match look? E t with | some (.bool b) => some b | _ => none
  | none => none
theorem yield_of {a : Act} (ha : Ev n E a) {i : Nat} {b : Bool} (h : yieldE ops E i = some b) : yielded ops a.tmps i = some b := by
  unfold yieldE at h
  unfold yielded
  cases hd : (ops[i]?).bind (·.dst) with
  | none => rw [hd] at h; cases h
  | some t =>
    rw [hd] at h
    cases hl : look? E t with
    | none => simp only [hl] at h; cases h
    | some v =>
      simp only [hl] at h
      have h1 := ha.val t _ hl
      cases v <;> try (cases h; done)
      rename_i c
      rw [Array.getD_eq_getD_getElem?] at h1
      cases h2 : a.tmps[t]? with
      | none => rw [h2] at h1; simp [undef] at h1
      | some u =>
        rw [h2] at h1
        simp only [Option.getD_some] at h1
        subst h1
        simp only [Option.bind_some, h2]
        exact h
theorem liGo {i : Nat} {b : Bool} (hg : o.guard = some (i, b)) (hy : yieldE ops E i = some b) (h : OpW P Q n w0 F E cs o (wpList P ops Q rest)) : St n w0 F E cs (wpList P ops Q (o :: rest)) :=
  fun a w ha hM => wpList_step fun _ hK => by
    rw [if_pos (by simp [Region.wanted, hg, yield_of ha hy])]
    exact Oper.wp_mono hK (h a w ha hM)
theorem liNot {i : Nat} {b : Bool} (hg : o.guard = some (i, !b)) (ht : o.dst = some d) (hd : dstOk n (some d) = true) (hy : yieldE ops E i = some b) (h : St n w0 F ((d, undef) :: E) cs (wpList P ops Q rest)) : St n w0 F E cs (wpList P ops Q (o :: rest)) :=
  fun a w ha hM => wpList_step fun _ hK => by
    rw [if_neg (by cases b <;> simp [Region.wanted, hg, yield_of ha hy])]
    rw [ht]
    exact hK _ _ (h _ _ (ha.put hd undef) hM)

/-! ### Control -/
variable {x y c : Code}
theorem stSeq (h : St n w0 F E cs (x.wp P (Exit.then (y.wp P Q) Q))) : St n w0 F E cs ((Code.seq x y).wp P Q) := fun a w ha hM => wp_seq (h a w ha hM)
theorem stSkip (h : St n w0 F E cs (Q .normal)) : St n w0 F E cs (Code.skip.wp P Q) := fun a w ha hM => wp_skip (h a w ha hM)
theorem stBlock (h : St n w0 F E cs (c.wp P (Exit.inBlock id Q))) : St n w0 F E cs ((Code.block id c).wp P Q) := fun a w ha hM => wp_block (h a w ha hM)
theorem stExit (h : St n w0 F E cs (Q (.exit id))) : St n w0 F E cs ((Code.exit id).wp P Q) := fun a w ha hM => wp_exit (h a w ha hM)
theorem stRet (h : St n w0 F E cs (Q .ret)) : St n w0 F E cs (Code.ret.wp P Q) := fun a w ha hM => wp_ret (h a w ha hM)
theorem stCond {u : Operand} {b : Bool} (hu : evO E u = some (.bool b)) (ht : b = true → St n w0 F E cs (x.wp P Q)) (hf : b = false → St n w0 F E cs (y.wp P Q)) : St n w0 F E cs ((Code.cond u x y).wp P Q) :=
  fun a w ha hM => wp_cond_split (ha.eval hu) (fun h => ht h a w ha hM) (fun h => hf h a w ha hM)
theorem stTrue {u : Operand} (hu : evO E u = some (.bool true)) (h : St n w0 F E cs (x.wp P Q)) : St n w0 F E cs ((Code.cond u x y).wp P Q) := fun a w ha hM => wp_cond_true (ha.eval hu) (h a w ha hM)
theorem stFalse {u : Operand} (hu : evO E u = some (.bool false)) (h : St n w0 F E cs (y.wp P Q)) : St n w0 F E cs ((Code.cond u x y).wp P Q) := fun a w ha hM => wp_cond_false (ha.eval hu) (h a w ha hM)


/-- What a round hands on. -/
def Again {ι : Type} (n : Nat) (w0 : World) (F : List Nat) (ok : ι → Prop) (μ : ι → Nat) (J : ι → Env) (C : ι → List Ch) (i : ι) (a : Act) (w : World) : Prop := ∃ j, ok j ∧ μ j < μ i ∧ Ev n (J j) a ∧ Mm w0 F (C j) w

theorem stLoop {ι : Type} (ok : ι → Prop) (μ : ι → Nat) (J : ι → Env) (C : ι → List Ch) (i0 : ι) (h0 : ok i0) (hE : subE E (J i0)) (hM : ∀ w, Mm w0 F cs w → Mm w0 F (C i0) w)
    (round : ∀ i, ok i → St n w0 F (J i) (C i) (c.wp P (Exit.then (Again n w0 F ok μ J C i) Q))) : St n w0 F E cs ((Code.loop c).wp P Q) := by
  intro a w ha hm
  refine wp_loop_ghost (fun k a w => ∃ i, ok i ∧ μ i = k ∧ Ev n (J i) a ∧ Mm w0 F (C i) w) (μ i0) ⟨i0, h0, rfl, ha.sub (subE_look hE), hM w hm⟩ ?_
  rintro k a w ⟨i, hi, rfl, ha, hm⟩
  refine wp_mono (round i hi a w ha hm) ?_
  intro e a' w' hq
  cases e with
  | normal =>
    obtain ⟨j, hj, hlt, ha', hm'⟩ := hq
    exact ⟨μ j, hlt, j, hj, rfl, ha', hm'⟩
  | exit id => exact hq
  | goto l => exact hq
  | ret => exact hq
  | panic ch => exact hq
  | outgrown => exact hq
theorem stAgain {ι : Type} {ok : ι → Prop} {μ : ι → Nat} {J : ι → Env} {C : ι → List Ch} {i : ι} (j : ι) (h1 : ok j) (h2 : μ j < μ i) (hE : subE E (J j)) (hM : ∀ w, Mm w0 F cs w → Mm w0 F (C j) w) : St n w0 F E cs (Again n w0 F ok μ J C i) :=
  fun _ w ha hm => ⟨j, h1, h2, ha.sub (subE_look hE), hM w hm⟩

/-- Ways that meet again. -/
def Meets {ι : Type} (n : Nat) (w0 : World) (F : List Nat) (ok : ι → Prop) (J : ι → Env) (C : ι → List Ch) (a : Act) (w : World) : Prop := ∃ j, ok j ∧ Ev n (J j) a ∧ Mm w0 F (C j) w
theorem stCut {ι : Type} (ok : ι → Prop) (J : ι → Env) (C : ι → List Ch) (h1 : St n w0 F E cs (x.wp P (Exit.then (Meets n w0 F ok J C) Q))) (h2 : ∀ i, ok i → St n w0 F (J i) (C i) (y.wp P Q)) : St n w0 F E cs ((Code.seq x y).wp P Q) := by
  intro a w ha hm
  refine wp_seq (wp_mono (h1 a w ha hm) ?_)
  intro e a' w' hq
  cases e with
  | normal =>
    obtain ⟨j, hj, ha', hm'⟩ := hq
    exact h2 j hj a' w' ha' hm'
  | exit id => exact hq
  | goto l => exact hq
  | ret => exact hq
  | panic ch => exact hq
  | outgrown => exact hq
theorem stMeet {ι : Type} {ok : ι → Prop} {J : ι → Env} {C : ι → List Ch} (j : ι) (h1 : ok j) (hE : subE E (J j)) (hM : ∀ w, Mm w0 F cs w → Mm w0 F (C j) w) : St n w0 F E cs (Meets n w0 F ok J C) := fun _ w ha hm => ⟨j, h1, ha.sub (subE_look hE), hM w hm⟩

theorem qThen (h : St n w0 F E cs K) : St n w0 F E cs (Exit.then K Q .normal) := h
theorem qThenX {id : Nat} (h : St n w0 F E cs (Q (.exit id))) : St n w0 F E cs (Exit.then K Q (.exit id)) := h
theorem qThenR (h : St n w0 F E cs (Q .ret)) : St n w0 F E cs (Exit.then K Q .ret) := h
theorem qBlock {id : Nat} (h : St n w0 F E cs (Q .normal)) : St n w0 F E cs (Exit.inBlock id Q .normal) := h
theorem qBlockR {id : Nat} (h : St n w0 F E cs (Q .ret)) : St n w0 F E cs (Exit.inBlock id Q .ret) := h
theorem qBlockX {id : Nat} (h : St n w0 F E cs (Q .normal)) : St n w0 F E cs (Exit.inBlock id Q (.exit id)) := fun a w ha hM => by simpa [Exit.inBlock] using h a w ha hM
theorem qBlockY {id id' : Nat} (hne : Nat.beq id' id = false) (h : St n w0 F E cs (Q (.exit id'))) : St n w0 F E cs (Exit.inBlock id Q (.exit id')) := fun a w ha hM => by
  have := Nat.ne_of_beq_eq_false hne
  simpa [Exit.inBlock, this] using h a w ha hM

theorem stTrueK {u : Operand} {b : Bool} (hu : evO E u = some (.bool b)) (hb : b = true) (h : St n w0 F E cs (x.wp P Q)) : St n w0 F E cs ((Code.cond u x y).wp P Q) := stTrue (hb ▸ hu) h
theorem stFalseK {u : Operand} {b : Bool} (hu : evO E u = some (.bool b)) (hb : b = false) (h : St n w0 F E cs (y.wp P Q)) : St n w0 F E cs ((Code.cond u x y).wp P Q) := stFalse (hb ▸ hu) h

/-- A temporary's value under another name. -/
theorem Ev.conv {E : Env} {a : Act} (h : Ev n E a) {t : Nat} {v v' : Value} (ht : look? E t = some v) (e : v = v') : Ev n ((t, v') :: E) a := by
  refine h.sub fun s u hs => ?_
  simp only [look?] at hs
  cases hb : Nat.beq t s with
  | true =>
    rw [hb] at hs
    have := Nat.eq_of_beq_eq_true hb
    subst this
    rw [ht, e]
    exact hs
  | false =>
    rw [hb] at hs
    exact hs
theorem St.conv {X : Act → World → Prop} (t : Nat) {v v' : Value} (ht : look? E t = some v) (e : v = v') (h : St n w0 F ((t, v') :: E) cs X) : St n w0 F E cs X := fun a w ha hM => h a w (ha.conv ht e) hM
theorem St.known {X : Act → World → Prop} (t : Nat) {b b' : Bool} (ht : look? E t = some (.bool b)) (e : b = b') (h : St n w0 F ((t, .bool b') :: E) cs X) : St n w0 F E cs X := St.conv t ht (by rw [e]) h
theorem St.dec {X : Act → World → Prop} (t : Nat) {b : Bool} (ht : look? E t = some (.bool b)) (h1 : b = true → St n w0 F ((t, .bool true) :: E) cs X) (h0 : b = false → St n w0 F ((t, .bool false) :: E) cs X) : St n w0 F E cs X := by
  cases b with
  | true => exact St.known t ht rfl (h1 rfl)
  | false => exact St.known t ht rfl (h0 rfl)

/-! ### The end -/
/-- What a result variable yields. -/
def ResE (P : Program) (w0 : World) (F : List Nat) (E : Env) (cs : List Ch) : ResultVar → Value → Prop
  | .tmp t, v => look? E t = some v
  | .cell a t, v => ∃ p, look? E a = some (.pointer (some p)) ∧ ∀ w, Mm w0 F cs w → (loadVar t p).run P w = .ok v w
def ResAll (P : Program) (w0 : World) (F : List Nat) (E : Env) (cs : List Ch) : List ResultVar → List Value → Prop
  | [], [] => True
  | r :: rs, v :: vs => ResE P w0 F E cs r v ∧ ResAll P w0 F E cs rs vs
  | _, _ => False
def tupleOf : List Value → Value
  | [v] => v
  | vs => .tuple vs.toArray

def resF (tmps : Array Value) (r : ResultVar) : Sem Value := match r with
  | .tmp t => pure (tmps.getD t undef)
  | .cell a t => do loadVar t (← asAddr (tmps.getD a undef))
theorem results_resF (fn : Func) (tmps : Array Value) : results fn tmps = (do let vs ← fn.results.mapM (resF tmps); pure (if h : vs.size = 1 then vs[0] else .tuple vs)) := by
  have : (resF tmps) = (fun | .tmp t => pure (tmps.getD t undef) | .cell a t => do loadVar t (← asAddr (tmps.getD a undef)) : ResultVar → Sem Value) := by
    funext r
    cases r <;> rfl
  rw [this]
  rfl

theorem res_run {a : Act} {w : World} (ha : Ev n E a) (hM : Mm w0 F cs w) : ∀ (rs : List ResultVar) (vs : List Value), ResAll P w0 F E cs rs vs → (rs.mapM (resF a.tmps)).run P w = .ok vs w
  | [], [], _ => by simp
  | [], _ :: _, h => h.elim
  | _ :: _, [], h => h.elim
  | r :: rs, v :: vs, h => by
    have ih := res_run ha hM rs vs h.2
    have h1 : (resF a.tmps r).run P w = .ok v w := by
      cases r with
      | tmp t => simp only [resF, Sem.run_pure, ha.val t v h.1]
      | cell b t =>
        obtain ⟨p, hp, hl⟩ := h.1
        simp only [resF, ha.val b _ hp, asAddr, Sem.run_bind, Sem.run_pure, Result.andThen_ok]
        exact hl w hM
    rw [List.mapM_cons]
    simp only [Sem.run_bind, h1, Result.andThen_ok, ih, Sem.run_pure]

theorem tuple_of (vs : List Value) : (if h : vs.toArray.size = 1 then vs.toArray[0] else .tuple vs.toArray) = tupleOf vs := by
  match vs with
  | [] => simp [tupleOf]
  | [v] => simp [tupleOf]
  | v :: u :: l => simp [tupleOf]

theorem stEnd {fn : Func} {R : Ending → World → Prop} {rs : List ResultVar} (vs : List Value) (hf : fn.results = rs.toArray) (hv : ResAll P w0 F E cs rs vs) (hR : ∀ w, Mm w0 F cs w → R (.returned (tupleOf vs)) w) : St n w0 F E cs (bodyPost P fn R .ret) := by
  intro a w ha hM
  refine ⟨ha.defers, tupleOf vs, ?_, hR w hM⟩
  have h := res_run (P := P) ha hM rs vs hv
  rw [results_resF, hf]
  simp only [List.mapM_toArray, Sem.run_bind]
  have e : (List.toArray <$> rs.mapM (resF a.tmps)).run P w = .ok vs.toArray w := by
    rw [← bind_pure_comp]
    simp only [Sem.run_bind, h, Result.andThen_ok, Sem.run_pure]
  rw [e]
  simp only [Result.andThen_ok, Sem.run_pure]
  rw [tuple_of]
theorem stEndN {fn : Func} {R : Ending → World → Prop} {rs : List ResultVar} (vs : List Value) (hf : fn.results = rs.toArray) (hv : ResAll P w0 F E cs rs vs) (hR : ∀ w, Mm w0 F cs w → R (.returned (tupleOf vs)) w) : St n w0 F E cs (bodyPost P fn R .normal) := stEnd vs hf hv hR

theorem stEnter {f : FuncId} {fn : Func} {c : Code} {args : List Value} {w : World} {R : Ending → World → Prop} (F : List Nat) (hf : P.funcs[f]? = some fn) (hb : fn.body = some c) (m : Nat) (hm : (args.length + (fn.ntmps - args.length)) = m) (E : Env) (hE : subE (args.zipIdx.map fun p => (p.2, p.1)) E)
    (cs : List Ch) (hcs : Mm w F cs w) (h : St m w F E cs (c.wp P (bodyPost P fn R))) : Calls P f args.toArray w R := by
  refine calls_of_wp hf hb (h _ _ ?_ hcs)
  refine ⟨by simp; omega, rfl, fun t v hv => ?_⟩
  have h1 := subE_look hE t v hv
  have key : ∀ (l : List Value) (k : Nat), look? ((l.zipIdx k).map fun p => (p.2, p.1)) t = some v → k ≤ t ∧ l[t - k]? = some v := by
    intro l
    induction l with
    | nil => intro k hk; cases hk
    | cons u l ih =>
      intro k hk
      simp only [List.zipIdx_cons, List.map_cons, look?] at hk
      cases hb : Nat.beq k t with
      | true =>
        rw [hb] at hk
        have := Nat.eq_of_beq_eq_true hb
        subst this
        exact ⟨Nat.le_refl _, by simpa using hk⟩
      | false =>
        rw [hb] at hk
        obtain ⟨h2, h3⟩ := ih (k + 1) hk
        refine ⟨by omega, ?_⟩
        rw [show t - k = (t - (k + 1)) + 1 by omega, List.getElem?_cons_succ]
        exact h3
  obtain ⟨_, h2⟩ := key args 0 h1
  have h3 := (List.getElem?_eq_some_iff.1 h2).1
  simp only [Array.getD_eq_getD_getElem?]
  rw [Array.getElem?_append_left (by simpa using h3)]
  simpa using congrArg (fun o => o.getD undef) h2

end
end Go.Proofs.YtlepfnihpdhcaaaGreatDoor
namespace Go.Proofs.YtlepfnihpdhcaaaGreatDoor
open Go.RowKit

section
variable {P : Program} {Q : Exit → Act → World → Prop} {ops : Array Oper} {md : Region.Mode} {S : World → Prop} {z : Nat}

def wpAnyJ (P : Program) (md : Region.Mode) (ops : Array Oper) (Q : Exit → Act → World → Prop) (S : World → Prop) (z : Nat) : Nat → Array Bool → Act → World → Prop
  | 0, listed, a, w => Region.ready md ops listed = [] ∧ Q .normal a w
  | fuel + 1, listed, a, w =>
    (Region.ready md ops listed = [] → Q .normal a w) ∧
    ∀ i ∈ Region.ready md ops listed, wpOp P ops Q i (fun a' w' => (i = z ∨ S w') ∧ wpAnyJ P md ops Q S z fuel (listed.setIfInBounds i true) a' w') a w

theorem wpAny_of_J : ∀ (fuel : Nat) (listed : Array Bool) (a : Act) (w : World), wpAnyJ P md ops Q S z fuel listed a w → wpAny P md ops Q fuel listed a w
  | 0, _, _, _, h => h
  | fuel + 1, _, _, _, h => ⟨h.1, fun i hi => wpOp_mono (fun a' w' h' => wpAny_of_J fuel _ a' w' h'.2) (h.2 i hi)⟩

theorem wpAnyJ_weaken {S' : World → Prop} (hS : ∀ w, S' w → S w) : ∀ (fuel : Nat) (listed : Array Bool) (a : Act) (w : World), wpAnyJ P md ops Q S' z fuel listed a w → wpAnyJ P md ops Q S z fuel listed a w
  | 0, _, _, _, h => h
  | fuel + 1, _, _, _, h => ⟨h.1, fun i hi => wpOp_mono (fun a' w' h' => ⟨h'.1.imp id (hS w'), wpAnyJ_weaken hS fuel _ a' w' h'.2⟩) (h.2 i hi)⟩

/-- What has come up has its forerunners come up. -/
def Clo (md : Region.Mode) (ops : Array Oper) (listed : Array Bool) : Prop := ∀ k o, ops[k]? = some o → listed.getD k false = true → ∀ e ∈ o.after, Region.binds md e = true → listed.getD e.on false = true

/-- i comes before z. -/
def reach (md : Region.Mode) (ops : Array Oper) : Nat → Nat → Nat → Bool
  | 0, _, _ => false
  | f + 1, z, i => ((ops[z]?).map fun o => o.after.any fun e => Region.binds md e && (Nat.beq e.on i || reach md ops f e.on i)).getD false

theorem reach_listed {listed : Array Bool} (hc : Clo md ops listed) : ∀ (f z i : Nat), (∀ o, ops[z]? = some o → ∀ e ∈ o.after, Region.binds md e = true → listed.getD e.on false = true) → reach md ops f z i = true → listed.getD i false = true
  | 0, _, _, _, h => by simp [reach] at h
  | f + 1, z, i, hz, h => by
    simp only [reach] at h
    cases ho : ops[z]? with
    | none => simp [ho] at h
    | some o =>
      simp only [ho, Option.map_some, Option.getD_some] at h
      obtain ⟨k, hk, h⟩ := Array.any_eq_true.1 h
      simp only [Bool.and_eq_true, Bool.or_eq_true] at h
      obtain ⟨hb, h1⟩ := h
      have he : o.after[k] ∈ o.after := Array.getElem_mem hk
      generalize o.after[k] = e at hb h1 he
      have h2 := hz o ho e he hb
      rcases h1 with h1 | h1
      · rw [← Nat.eq_of_beq_eq_true h1]
        exact h2
      · exact reach_listed hc f e.on i (fun o' ho' e' he' hb' => hc e.on o' ho' h2 e' he' hb') h1

theorem getD_both {listed : Array Bool} {j : Nat} (h1 : listed.getD j true = false) (h2 : listed.getD j false = true) : False := by
  simp only [Array.getD_eq_getD_getElem?] at h1 h2
  cases h : listed[j]? with
  | none => rw [h] at h2; cases h2
  | some b => rw [h] at h1 h2; simp at h1 h2; rw [h1] at h2; cases h2

theorem Clo.set {listed : Array Bool} (hc : Clo md ops listed) {j : Nat} (hj : j ∈ Region.ready md ops listed) : Clo md ops (listed.setIfInBounds j true) := by
  obtain ⟨hun, oj, hoj, hall⟩ := mem_ready.1 hj
  have up : ∀ k, listed.getD k false = true → (listed.setIfInBounds j true).getD k false = true := by
    intro k hk
    by_cases hjk : j = k
    · subst hjk; exact (getD_both hun hk).elim
    · rw [getD_set_ne false hjk]; exact hk
  intro k o hk hl e he hb
  by_cases hjk : j = k
  · subst hjk
    rw [hoj] at hk
    cases hk
    have := hall e he hb
    exact up _ (by simpa [Array.getD_eq_getD_getElem?] using this)
  · rw [getD_set_ne false hjk] at hl
    exact up _ (hc k o hk hl e he hb)

theorem Clo.none (md : Region.Mode) (ops : Array Oper) (m : Nat) : Clo md ops (Array.replicate m false) := by
  intro k o _ hl
  rw [Array.getD_eq_getD_getElem?, Array.getElem?_replicate] at hl
  split at hl <;> cases hl

theorem wpAnyJ_first {i : Nat} {oi : Oper} {v : Value} (hi : ops[i]? = some oi) (hsel : ∀ (j : Nat) (o : Oper) cs b, ops[j]? = some o → o.op ≠ .select cs b)
    (hQ : ∀ c a w, Q (.panic c) (a.put oi.dst v) w → Q (.panic c) a w) (hiz : i ≠ z) :
    ∀ (fuel : Nat) (listed : Array Bool) (a : Act) (w : World), Clo md ops listed → (listed.getD z false = true ∨ (z < ops.size → reach md ops ops.size z i = true)) →
      (∀ j oj, ops[j]? = some oj → j ≠ i → listed.getD j true = false → (∀ e ∈ oj.after, Region.binds md e = true → e.on ≠ i) → oi.apart ops oj = true) →
      i ∈ Region.ready md ops listed → YieldsIf P ops S oi v a → S w →
      wpAnyJ P md ops Q S z fuel (listed.setIfInBounds i true) (a.put oi.dst v) w → wpAnyJ P md ops Q S z (fuel + 1) listed a w := by
  intro fuel
  induction fuel with
  | zero =>
    intro listed a w _ _ _ hr hy hS H
    refine ⟨fun h => (by rw [h] at hr; cases hr), fun j hj => ?_⟩
    by_cases hji : j = i
    · subst hji; exact hy.wpOp hi hS ⟨.inr hS, H⟩
    · have := ready_mono hj hji
      rw [H.1] at this
      cases this
  | succ fuel ih =>
    intro listed a w hcl hz hfree hr hy hS H
    refine ⟨fun h => (by rw [h] at hr; cases hr), fun j hj => ?_⟩
    by_cases hji : j = i
    · subst hji; exact hy.wpOp hi hS ⟨.inr hS, H⟩
    · have h1 := H.2 j (ready_mono hj hji)
      obtain ⟨hjun, oj, hoj, hall⟩ := mem_ready.1 hj
      have hjz : j ≠ z := by
        rintro rfl
        have hlt : j < ops.size := (Array.getElem?_eq_some_iff.1 hoj).1
        rcases hz with hz | hz
        · exact getD_both hjun hz
        have := reach_listed hcl ops.size j i (fun o ho e he hb => by
          rw [hoj] at ho
          cases ho
          simpa [Array.getD_eq_getD_getElem?] using hall e he hb) (hz hlt)
        exact getD_both (mem_ready.1 hr).1 this
      have hnot : ∀ e ∈ oj.after, Region.binds md e = true → e.on ≠ i := fun e he hb heq => by
        have h1 := hall e he hb
        have h0 := (mem_ready.1 hr).1
        rw [heq] at h1
        rcases Nat.lt_or_ge i listed.size with h' | h'
        · simp [h'] at h0 h1; rw [h0] at h1; cases h1
        · simp [Array.getElem?_eq_none h'] at h1
      have h2 := wpOp_putIf hoj (hfree j oj hoj hji hjun hnot) (fun cs b => hsel i oi cs b hi) (fun cs b => hsel j oj cs b hoj) hQ hy h1
      have hfree' : ∀ k ok, ops[k]? = some ok → k ≠ i → (listed.setIfInBounds j true).getD k true = false →
          (∀ e ∈ ok.after, Region.binds md e = true → e.on ≠ i) → oi.apart ops ok = true := fun k ok hk hki hun hno => by
        refine hfree k ok hk hki ?_ hno
        by_cases hjk : j = k
        · subst hjk; exact hjun
        · rw [getD_set_ne true hjk] at hun; exact hun
      refine wpOp_mono (fun a' w' h3 => ?_) h2
      have hS' : S w' := h3.2.1.resolve_left hjz
      refine ⟨.inr hS', ih (listed.setIfInBounds j true) a' w' (hcl.set hj) (hz.imp (fun h => by rw [getD_set_ne false hjz]; exact h) id) hfree' (ready_mono hr (Ne.symm hji)) h3.1 hS' ?_⟩
      rw [Array.setIfInBounds_comm _ _ hji]
      exact h3.2.2

variable {n : Nat} {w0 : World} {F : List Nat} {E : Env} {cs css : List Ch} {fuel d : Nat} {listed : Array Bool}

/-- In the midst of a region: css are the pieces that stay. -/
def Any (P : Program) (ops : Array Oper) (Q : Exit → Act → World → Prop) (n : Nat) (w0 : World) (F : List Nat) (E : Env) (cs css : List Ch) (z fuel : Nat) (listed : Array Bool) : Prop :=
  ∀ a w, Ev n E a → Mm w0 F cs w → Mm w0 F css w → Clo .any ops listed → wpAnyJ P .any ops Q (Mm w0 F css) z fuel listed a w

theorem anyBegin {id : Nat} {l : List Oper} (css : List Ch) (z : Nat) (hm : P.follows .mixedOrders = true) (hs : ∀ w, Mm w0 F cs w → Mm w0 F css w)
    (h : Any P l.toArray Q n w0 F E cs css z l.length (Array.replicate l.length false)) : St n w0 F E cs ((Code.region id l.toArray true).wp P Q) := by
  intro a w ha hM
  refine wp_region_any hm (wpAny_of_J (S := Mm w0 F css) (z := z) _ _ _ _ ?_)
  have := h a w.drew ha hM.drew (hs _ hM.drew) (Clo.none _ _ _)
  simpa using this

/-- The checks of one operation that is taken first. -/
def tOk (ops : Array Oper) (listed : Array Bool) (z i : Nat) : Bool :=
  Region.noSelect ops && Region.free .any ops listed i && (Region.ready .any ops listed).contains i && !Nat.beq i z && (listed.getD z false || (!Nat.blt z ops.size || reach .any ops ops.size z i))

theorem tOk_spec {i : Nat} (h : tOk ops listed z i = true) : Region.noSelect ops = true ∧ Region.free .any ops listed i = true ∧ i ∈ Region.ready .any ops listed ∧ i ≠ z ∧ (listed.getD z false = true ∨ (z < ops.size → reach .any ops ops.size z i = true)) := by
  simp only [tOk, Bool.and_eq_true, Bool.or_eq_true, Bool.not_eq_true'] at h
  refine ⟨h.1.1.1.1, h.1.1.1.2, by simpa using h.1.1.2, Nat.ne_of_beq_eq_false h.1.2, ?_⟩
  rcases h.2 with h1 | h1
  · exact .inl h1
  right
  intro hz
  rcases h1 with h1 | h1
  · have h2 : Nat.blt z ops.size = true := (Nat.blt_eq (x := z) (y := ops.size)).symm ▸ hz
    rw [h1] at h2
    cases h2
  · exact h1

theorem anyVal {i : Nat} {oi : Oper} (v : Value) (hi : ops[i]? = some oi) (hd : oi.dst = some d) (hg : oi.guard = none) (ht : tOk ops listed z i = true) (hk : opOk n E oi = true) (hQ : ∀ c a w, Q (.panic c) (a.put oi.dst v) w → Q (.panic c) a w)
    (hr : ∀ w, Mm w0 F css w → (execOp (evE E) oi).run P w = .ok (.value v) w) (h : Any P ops Q n w0 F ((d, v) :: E) cs css z fuel (listed.setIfInBounds i true)) : Any P ops Q n w0 F E cs css z (fuel + 1) listed := by
  intro a w ha hM hS hc
  obtain ⟨t1, t2, t3, t4, t5⟩ := tOk_spec ht
  refine wpAnyJ_first hi (Region.noSelect_spec t1) hQ t4 fuel listed a w hc t5 (Region.free_spec hi t2) t3 ?_ hS (by have h1 := ha.put (opOk_dst hk) v; rw [hd] at h1 ⊢; exact h _ _ h1 hM hS (hc.set t3))
  exact .inl ⟨by simp [Region.wanted, hg], fun w' hw' => by rw [opOk_exec hk ha]; exact hr w' hw'⟩

/-- An operation that a guard lets go. -/
theorem anyValG {i j : Nat} {b : Bool} {oi : Oper} (v : Value) (hi : ops[i]? = some oi) (hd : oi.dst = some d) (hg : oi.guard = some (j, b)) (hy : yieldE ops E j = some b) (ht : tOk ops listed z i = true) (hk : opOk n E oi = true) (hQ : ∀ c a w, Q (.panic c) (a.put oi.dst v) w → Q (.panic c) a w)
    (hr : ∀ w, Mm w0 F css w → (execOp (evE E) oi).run P w = .ok (.value v) w) (h : Any P ops Q n w0 F ((d, v) :: E) cs css z fuel (listed.setIfInBounds i true)) : Any P ops Q n w0 F E cs css z (fuel + 1) listed := by
  intro a w ha hM hS hc
  obtain ⟨t1, t2, t3, t4, t5⟩ := tOk_spec ht
  refine wpAnyJ_first hi (Region.noSelect_spec t1) hQ t4 fuel listed a w hc t5 (Region.free_spec hi t2) t3 ?_ hS (by have h1 := ha.put (opOk_dst hk) v; rw [hd] at h1 ⊢; exact h _ _ h1 hM hS (hc.set t3))
  exact .inl ⟨by simp [Region.wanted, hg, yield_of ha hy], fun w' hw' => by rw [opOk_exec hk ha]; exact hr w' hw'⟩
/-- .. that a guard holds back. -/
theorem anyNot {i j : Nat} {b : Bool} {oi : Oper} (hi : ops[i]? = some oi) (hd : oi.dst = some d) (hg : oi.guard = some (j, !b)) (hy : yieldE ops E j = some b) (ht : tOk ops listed z i = true) (hdk : dstOk n (some d) = true) (hQ : ∀ c a w, Q (.panic c) (a.put oi.dst undef) w → Q (.panic c) a w)
    (h : Any P ops Q n w0 F ((d, undef) :: E) cs css z fuel (listed.setIfInBounds i true)) : Any P ops Q n w0 F E cs css z (fuel + 1) listed := by
  intro a w ha hM hS hc
  obtain ⟨t1, t2, t3, t4, t5⟩ := tOk_spec ht
  refine wpAnyJ_first hi (Region.noSelect_spec t1) hQ t4 fuel listed a w hc t5 (Region.free_spec hi t2) t3 ?_ hS (by rw [hd]; exact h _ _ (ha.put hdk undef) hM hS (hc.set t3))
  exact .inr ⟨by cases b <;> simp [Region.wanted, hg, yield_of ha hy], rfl⟩

/-- What follows an operation that is carried out. -/
def AnyK (P : Program) (ops : Array Oper) (Q : Exit → Act → World → Prop) (w0 : World) (F : List Nat) (css : List Ch) (z fuel : Nat) (listed : Array Bool) (i : Nat) (a : Act) (w : World) : Prop :=
  Clo .any ops (listed.setIfInBounds i true) → (i = z ∨ Mm w0 F css w) ∧ wpAnyJ P .any ops Q (Mm w0 F css) z fuel (listed.setIfInBounds i true) a w

/-- Whichever of rs comes up. -/
theorem anyAll {rs : List Nat} (hr : Region.ready .any ops listed = rs) (hne : rs.isEmpty = false)
    (h : ∀ i ∈ rs, ∃ oi, ops[i]? = some oi ∧ oi.guard = none ∧ OpW P Q n w0 F E cs oi (AnyK P ops Q w0 F css z fuel listed i)) : Any P ops Q n w0 F E cs css z (fuel + 1) listed := by
  intro a w ha hM hS hc
  refine ⟨fun h0 => ?_, fun i hi => ?_⟩
  · rw [hr] at h0
    rw [h0] at hne
    cases hne
  · have hi' := hi
    rw [hr] at hi'
    obtain ⟨oi, h1, h2, h3⟩ := h i hi'
    unfold wpOp
    simp only [h1]
    rw [if_pos (by simp [Region.wanted, h2])]
    exact .inl (Oper.wp_mono (fun a' w' hK => hK (hc.set hi)) (h3 a w ha hM))

theorem anyOne {i : Nat} {oi : Oper} (hr : Region.ready .any ops listed = [i]) (hi : ops[i]? = some oi) (hg : oi.guard = none)
    (h : OpW P Q n w0 F E cs oi (AnyK P ops Q w0 F css z fuel listed i)) : Any P ops Q n w0 F E cs css z (fuel + 1) listed :=
  anyAll hr rfl (fun j hj => by rw [List.mem_singleton] at hj; subst hj; exact ⟨oi, hi, hg, h⟩)
theorem anyTwo {i j : Nat} {oi oj : Oper} (hr : Region.ready .any ops listed = [i, j]) (hi : ops[i]? = some oi) (hgi : oi.guard = none) (hj : ops[j]? = some oj) (hgj : oj.guard = none)
    (h : OpW P Q n w0 F E cs oi (AnyK P ops Q w0 F css z fuel listed i)) (h' : OpW P Q n w0 F E cs oj (AnyK P ops Q w0 F css z fuel listed j)) : Any P ops Q n w0 F E cs css z (fuel + 1) listed :=
  anyAll hr rfl (fun k hk => by
    rcases List.mem_cons.1 hk with rfl | hk
    · exact ⟨oi, hi, hgi, h⟩
    · rw [List.mem_singleton] at hk; subst hk; exact ⟨oj, hj, hgj, h'⟩)
theorem anyOneG {i j : Nat} {b : Bool} {oi : Oper} (hr : Region.ready .any ops listed = [i]) (hi : ops[i]? = some oi) (hg : oi.guard = some (j, b)) (hy : yieldE ops E j = some b)
    (h : OpW P Q n w0 F E cs oi (AnyK P ops Q w0 F css z fuel listed i)) : Any P ops Q n w0 F E cs css z (fuel + 1) listed := by
  intro a w ha hM hS hc
  refine ⟨fun h0 => ?_, fun k hk => ?_⟩
  · rw [hr] at h0
    cases h0
  · have hk' := hk
    rw [hr, List.mem_singleton] at hk'
    subst hk'
    unfold wpOp
    simp only [hi]
    rw [if_pos (by simp [Region.wanted, hg, yield_of ha hy])]
    exact .inl (Oper.wp_mono (fun a' w' hK => hK (hc.set hk)) (h a w ha hM))

/-- Behind an operation: css' are the pieces that stay from here on. -/
theorem anyNext {i : Nat} (css' : List Ch) (hs : ∀ w, Mm w0 F css' w → Mm w0 F css w) (hn : ∀ w, Mm w0 F cs w → Mm w0 F css' w) (h : Any P ops Q n w0 F E cs css' z fuel (listed.setIfInBounds i true)) : St n w0 F E cs (AnyK P ops Q w0 F css z fuel listed i) :=
  fun a w ha hM hc => ⟨.inr (hs w (hn w hM)), wpAnyJ_weaken hs _ _ _ _ (h a w ha hM (hn w hM) hc)⟩
/-- Behind the last one. -/
theorem anyLast {i : Nat} (hr : Region.ready .any ops (listed.setIfInBounds i true) = []) (hz : i = z) (h : St n w0 F E cs (Q .normal)) : St n w0 F E cs (AnyK P ops Q w0 F css z fuel listed i) :=
  fun a w ha hM _ => ⟨.inl hz, by
    cases fuel with
    | zero => exact ⟨hr, h a w ha hM⟩
    | succ k => exact ⟨fun _ => h a w ha hM, by rw [hr]; simp⟩⟩
theorem Any.known (t : Nat) {b b' : Bool} (ht : look? E t = some (.bool b)) (e : b = b') (h : Any P ops Q n w0 F ((t, .bool b') :: E) cs css z fuel listed) : Any P ops Q n w0 F E cs css z fuel listed := fun a w ha hM hS hc => h a w (ha.conv ht (by rw [e])) hM hS hc
theorem Any.dec (t : Nat) {b : Bool} (ht : look? E t = some (.bool b)) (h1 : b = true → Any P ops Q n w0 F ((t, .bool true) :: E) cs css z fuel listed) (h0 : b = false → Any P ops Q n w0 F ((t, .bool false) :: E) cs css z fuel listed) : Any P ops Q n w0 F E cs css z fuel listed := by
  cases b with
  | true => exact Any.known t ht rfl (h1 rfl)
  | false => exact Any.known t ht rfl (h0 rfl)
theorem anyDone (hr : Region.ready .any ops listed = []) (h : St n w0 F E cs (Q .normal)) : Any P ops Q n w0 F E cs css z fuel listed :=
  fun a w ha hM _ _ => by
    cases fuel with
    | zero => exact ⟨hr, h a w ha hM⟩
    | succ k => exact ⟨fun _ => h a w ha hM, by rw [hr]; simp⟩
end
end Go.Proofs.YtlepfnihpdhcaaaGreatDoor
namespace Go.Proofs.YtlepfnihpdhcaaaGreatDoor
open Go.RowKit

section
variable {P : Program} {Q : Exit → Act → World → Prop} {n : Nat} {w0 : World} {F : List Nat} {E : Env} {cs : List Ch} {K : Act → World → Prop} {o : Oper} {d : Nat}

/-- The operation yields v wherever the pieces lie as told. -/
def RunV (P : Program) (w0 : World) (F : List Nat) (cs : List Ch) (E : Env) (o : Oper) (v : Value) : Prop := ∀ w, Mm w0 F cs w → (execOp (evE E) o).run P w = .ok (.value v) w

theorem evE_of {x : Operand} {v : Value} (h : evO E x = some v) : evE E x = v := by unfold evE; rw [h]; rfl

theorem rConv {v v' : Value} (h : RunV P w0 F cs E o v) (e : v = v') : RunV P w0 F cs E o v' := e ▸ h
theorem rClosed {v : Value} (h : ∀ w, (execOp (evE E) o).run P w = .ok (.value v) w) : RunV P w0 F cs E o v := fun w _ => h w
theorem rMove {x : Operand} {v : Value} (ho : o.op = .move x) (hx : evO E x = some v) : RunV P w0 F cs E o v := fun w _ => by
  unfold execOp; simp only [ho, evE_of hx]; rfl
theorem rAssign {x : Operand} {v : Value} (ho : o.op = .assign x) (hx : evO E x = some v) : RunV P w0 F cs E o v := fun w _ => by
  unfold execOp; simp only [ho, evE_of hx]; rfl
theorem rExtract {x : Operand} {vs : List Value} {k : Nat} {v : Value} (ho : o.op = .extract x k) (hx : evO E x = some (.tuple vs.toArray)) (hv : vs[k]? = some v) : RunV P w0 F cs E o v := fun w _ => by
  unfold execOp
  have : vs.toArray[k]? = some v := by simpa using hv
  simp only [ho, evE_of hx, Instr.extract, this, Sem.run_bind, Sem.run_pure, Result.andThen_ok]

/-! ### Loads -/
def isScalar (P : Program) (ty : TypeId) : Bool := match P.underlying ty with | some (.struct _) | some (.array _ _) | none => false | _ => true
theorem scalar_agg {ty : TypeId} (h : isScalar P ty = true) (w : World) : (isAgg ty).run P w = .ok false w := by
  unfold isScalar at h
  unfold isAgg
  cases hu : P.underlying ty with
  | none => rw [hu] at h; cases h
  | some d =>
    rw [hu] at h
    rw [Sem.run_bind, run_underlying hu w]
    cases d <;> first | (cases h; done) | rfl

theorem run_loadVar1 {ty : TypeId} (hs : isScalar P ty = true) {p : Addr} {v : Value} {w : World} (hc : w.cell? p = some v) : (loadVar ty p).run P w = .ok v w := by
  simp only [loadVar, Sem.run_bind, scalar_agg hs, Result.andThen_ok]
  simp [load, Sem.run, hc]

theorem run_load1 {ty : TypeId} {x : Operand} {p : Addr} {v : Value} {w : World} (ho : o.op = .load ty x) (hx : evO E x = some (.pointer (some p))) (hs : isScalar P ty = true) (hc : w.cell? p = some v) : (execOp (evE E) o).run P w = .ok (.value v) w := by
  unfold execOp
  simp only [ho, evE_of hx, Instr.loadAt, Instr.sureAddr, Sem.run_bind, Sem.run_pure, Result.andThen_ok, run_loadVar1 hs hc]

theorem rLoad {ty : TypeId} {x : Operand} {b off : Nat} {t : TypeId} {l : List Value} {v : Value} (i : Nat) (ho : o.op = .load ty x) (hx : evO E x = some (.pointer (some ⟨b, off, none⟩))) (hs : isScalar P ty = true) (hi : cs[i]? = some (cAt b t l)) (hl : l[off]? = some v) : RunV P w0 F cs E o v :=
  fun w hM => run_load1 ho hx hs (by have h : At w b t l := hM.at hi; rw [h.cell]; exact hl)
/-- .. from any fact on the worlds that the pieces tell. -/
theorem rLoadW {ty : TypeId} {x : Operand} {p : Addr} {v : Value} (ho : o.op = .load ty x) (hx : evO E x = some (.pointer (some p))) (hs : isScalar P ty = true) (hc : ∀ w, Mm w0 F cs w → w.cell? p = some v) : RunV P w0 F cs E o v :=
  fun w hM => run_load1 ho hx hs (hc w hM)
theorem Mm.old {w : World} (h : Mm w0 F cs w) {b off : Nat} {v : Value} (hc : w0.cell? ⟨b, off, none⟩ = some v) (hb : b ∉ F) : w.cell? ⟨b, off, none⟩ = some v := by
  have hlt : b < w0.heap.size := by
    rcases Nat.lt_or_ge b w0.heap.size with h1 | h1
    · exact h1
    · simp [World.cell?, Array.getElem?_eq_none h1] at hc
  rw [h.fr.cell (p := ⟨b, off, none⟩) hlt hb]
  exact hc

def sizeT (P : Program) (ty : TypeId) : Option Nat := (P.info? ty).map (·.size)
def aggT (P : Program) (ty : TypeId) : Bool := match P.underlying ty with | some (.struct _) | some (.array _ _) => true | _ => false

theorem run_loadVarA {ty : TypeId} (hs : aggT P ty = true) {b off : Nat} {seg : List Value} {w : World} (hsz : sizeT P ty = some seg.length) (hc : ∀ j v, seg[j]? = some v → w.cell? ⟨b, off + j, none⟩ = some v) : (loadVar ty ⟨b, off, none⟩).run P w = .ok (.agg seg.toArray) w := by
  cases hu : P.underlying ty with
  | none => simp [aggT, hu] at hs
  | some d => exact run_loadVar_at w b off ty seg d hc hu (by simp only [aggT, hu] at hs; cases d <;> simp_all) hsz
theorem rLoadA {ty : TypeId} {x : Operand} {b off : Nat} (seg : List Value) (ho : o.op = .load ty x) (hx : evO E x = some (.pointer (some ⟨b, off, none⟩))) (hs : aggT P ty = true) (hsz : sizeT P ty = some seg.length) (hc : ∀ w, Mm w0 F cs w → ∀ j v, seg[j]? = some v → w.cell? ⟨b, off + j, none⟩ = some v) : RunV P w0 F cs E o (.agg seg.toArray) :=
  fun w hM => by
    unfold execOp
    simp only [ho, evE_of hx, Instr.loadAt, Instr.sureAddr, Sem.run_bind, Sem.run_pure, Result.andThen_ok, run_loadVarA hs hsz (hc w hM)]
theorem segAt {i b off : Nat} {t : TypeId} {l seg : List Value} (hi : cs[i]? = some (cAt b t l)) (hg : ∀ j v, seg[j]? = some v → l[off + j]? = some v) : ∀ w, Mm w0 F cs w → ∀ j v, seg[j]? = some v → w.cell? ⟨b, off + j, none⟩ = some v :=
  fun w hM j v hj => by have h : At w b t l := hM.at hi; rw [h.cell]; exact hg j v hj

/-! ### Stores -/
theorem storeCells_at {b : Nat} {t : TypeId} : ∀ (vs l : List Value) (w : World) (off k : Nat), At w b t l → off + k + vs.length ≤ l.length → (∀ v ∈ vs, v.oneCell' = true) →
    ∃ w', (storeCells ⟨b, off, none⟩ vs k).run P w = .ok () w' ∧ Fr [b] w w' ∧ At w' b t (l.take (off + k) ++ vs ++ l.drop (off + k + vs.length))
  | [], l, w, off, k, hat, _, _ => ⟨w, by simp [storeCells], Fr.refl _ _, by simpa using hat⟩
  | v :: vs, l, w, off, k, hat, hl, h1 => by
    rw [List.length_cons] at hl
    have hlt : off + k < l.length := by omega
    obtain ⟨u, hu⟩ : ∃ u, l[off + k]? = some u := ⟨_, List.getElem?_eq_getElem hlt⟩
    have hc : w.cell? ⟨b, off + k, none⟩ = some u := by rw [hat.cell]; exact hu
    have hfz : w.frozen? ⟨b, off + k, none⟩ = false := hat.frozen _
    have hv : v.oneCell' = true := h1 v (by simp)
    obtain ⟨w', hr, hf, ha⟩ := storeCells_at vs (l.set (off + k) v) (w.setCell ⟨b, off + k, none⟩ v) off (k + 1) (hat.set _ _) (by rw [List.length_set]; omega) (fun x hx => h1 x (by simp [hx]))
    have hstep : (store ⟨b, off + k, none⟩ v).run P w = .ok () (w.setCell ⟨b, off + k, none⟩ v) := by
      rw [run_store P w _ v _ hv]
      simp [hc, hfz]
    refine ⟨w', ?_, ((Fr.refl [b] w).setCell (by simp) _).trans hf, ?_⟩
    · rw [storeCells]
      simp only [Sem.run_bind, add_none, hstep, Result.andThen_ok, hr]
    · have e : (l.set (off + k) v).take (off + (k + 1)) ++ vs ++ (l.set (off + k) v).drop (off + (k + 1) + vs.length) = l.take (off + k) ++ v :: vs ++ l.drop (off + k + (v :: vs).length) := by
        have e1 : off + (k + 1) = (off + k) + 1 := by omega
        rw [e1, List.take_succ_eq_append_getElem (by rw [List.length_set]; exact hlt), List.getElem_set_self, List.take_set_of_le (Nat.le_refl _), List.drop_set_of_lt (by omega), List.length_cons, show off + k + 1 + vs.length = off + k + (vs.length + 1) by omega]
        simp
      rw [← e]
      exact ha

theorem opStoreN {ty : TypeId} {x y : Operand} {b off : Nat} {t : TypeId} {l vs : List Value} {v : Value} (i : Nat) (l' : List Value) (ho : o.op = .store ty x y) (hd : o.dst = none) (hk : opOk n E o = true) (hx : evO E x = some (.pointer (some ⟨b, off, none⟩))) (hy : evO E y = some v) (hv : v.cells = vs.toArray) (hsz : sizeT P ty = some vs.length) (hi : cs[i]? = some (cAt b t l)) (hfit : off + vs.length ≤ l.length) (h1 : ∀ u ∈ vs, u.oneCell' = true)
    (hl' : l' = l.take off ++ vs ++ l.drop (off + vs.length)) (h : St n w0 F E (cs.set i (cAt b t l')) K) : OpW P Q n w0 F E cs o K :=
  opSkip hd hk fun w hM => by
    have hat : At w b t l := hM.at hi
    obtain ⟨w', hr, hf, ha⟩ := storeCells_at (P := P) vs l w off 0 hat (by simpa using hfit) h1
    refine ⟨w', cs.set i (cAt b t l'), ?_, hM.swap i hi (c' := cAt b t l') hf ?_ (fun c hc => .inl hc) (by simp [cAt]), h⟩
    · unfold execOp
      have hs : ((P.info? ty).map (·.size)) = some vs.length := hsz
      cases hq : P.info? ty with
      | none => simp [hq] at hs
      | some j =>
        have hj : j.size = vs.length := by simpa [hq] using hs
        simp only [ho, evE_of hx, evE_of hy, Instr.storeAt, Instr.sureAddr, storeVar, Sem.run_bind, Sem.run_pure, Result.andThen_ok, sizeOf, typeInfo, hv]
        simp [hq, hj, hr]
    · show At w' b t l'
      rw [hl']
      simpa using ha
theorem opStore1 {ty : TypeId} {x y : Operand} {b off : Nat} {t : TypeId} {l : List Value} {v : Value} (i : Nat) (ho : o.op = .store ty x y) (hd : o.dst = none) (hk : opOk n E o = true) (hx : evO E x = some (.pointer (some ⟨b, off, none⟩))) (hy : evO E y = some v) (h1 : v.oneCell' = true) (hsz : sizeT P ty = some 1) (hi : cs[i]? = some (cAt b t l)) (hfit : off < l.length)
    (h : St n w0 F E (cs.set i (cAt b t (l.set off v))) K) : OpW P Q n w0 F E cs o K :=
  opStoreN i (l.set off v) (vs := [v]) ho hd hk hx hy (by cases v <;> first | rfl | (simp [Value.oneCell'] at h1)) hsz hi (by simp; omega) (by simpa using h1) (by rw [List.set_eq_take_append_cons_drop, if_pos hfit]; simp) h

/-! ### New blocks -/
theorem opAlloc {ty : TypeId} (z : List Value) (ho : o.op = .alloc ty) (hd : o.dst = some d) (hk : opOk n E o = true) (hz : (P.info? ty).map (fun i => i.zero.map Value.cells) = some (some z.toArray)) (h : ∀ b, St n w0 F ((d, (.pointer (some ⟨b, 0, none⟩))) :: E) (cs ++ [cAt b ty z]) K) : OpW P Q n w0 F E cs o K :=
  opEff hd hk fun w hM => by
    refine ⟨.pointer (some ⟨w.heap.size, 0, none⟩), w.alloc (.cells z.toArray ty), _, ?_, hM.push (c := cAt w.heap.size ty z) ((Fr.refl _ _).alloc _) (At.new w ty z) (by simp [cAt]) (by simp [cAt]), h _⟩
    unfold execOp
    cases hq : P.info? ty with
    | none => simp [hq] at hz
    | some i =>
      cases hz0 : i.zero with
      | none => simp [hq, hz0] at hz
      | some v =>
        have hv : v.cells = z.toArray := by simpa [hq, hz0] using hz
        simp only [ho, Instr.alloc, zeroValue, typeInfo, Sem.run_bind, Sem.run_pure]
        simp [hq, hz0, newVar, newRow, hv]
theorem opBox {ty : TypeId} {x : Operand} {v : Value} (z : List Value) (ho : o.op = .box ty x) (hd : o.dst = some d) (hk : opOk n E o = true) (hx : evO E x = some v) (hz : v.cells = z.toArray) (h : ∀ b, St n w0 F ((d, (.pointer (some ⟨b, 0, none⟩))) :: E) (cs ++ [cAt b ty z]) K) : OpW P Q n w0 F E cs o K :=
  opEff hd hk fun w hM => by
    refine ⟨.pointer (some ⟨w.heap.size, 0, none⟩), w.alloc (.cells z.toArray ty), _, ?_, hM.push (c := cAt w.heap.size ty z) ((Fr.refl _ _).alloc _) (At.new w ty z) (by simp [cAt]) (by simp [cAt]), h _⟩
    unfold execOp
    simp only [ho, evE_of hx, Instr.box, newVar, newRow, hz]
    simp
/-- Any operation that makes one block. -/
theorem opNew {v : Nat → Value} (t : TypeId) (z : List Value) (hd : o.dst = some d) (hk : opOk n E o = true) (hr : ∀ w, (execOp (evE E) o).run P w = .ok (.value (v w.heap.size)) (w.alloc (.cells z.toArray t))) (h : ∀ b, St n w0 F ((d, (v b)) :: E) (cs ++ [cAt b t z]) K) : OpW P Q n w0 F E cs o K :=
  opEff hd hk fun w hM => ⟨_, _, _, hr w, hM.push (c := cAt w.heap.size t z) ((Fr.refl _ _).alloc _) (At.new w t z) (by simp [cAt]) (by simp [cAt]), h _⟩

/-! ### Indices -/
theorem add_sz (b off k : Nat) : (⟨b, off, none⟩ : Addr).add k = ⟨b, off + k, none⟩ := add_none b off k
theorem rIndexAddr {ty e : TypeId} {x i : Operand} {b off len cap j sz : Nat} {k : IntKind} (ho : o.op = .indexAddr ty x i) (hu : P.underlying ty = some (.slice e)) (hsz : sizeT P e = some sz) (hx : evO E x = some (.slice (some ⟨b, off, none⟩) len cap)) (hi : evO E i = some (.int k (j : Int))) (hlt : j < len) : RunV P w0 F cs E o (.pointer (some ⟨b, off + j * sz, none⟩)) := fun w _ => by
  unfold execOp
  cases hq : P.info? e with
  | none => simp [sizeT, hq] at hsz
  | some d =>
    have hd : d.size = sz := by simpa [sizeT, hq] using hsz
    simp only [ho, evE_of hx, evE_of hi, Instr.indexAt, asIntOf, Sem.run_bind, Sem.run_pure, Result.andThen_ok, run_underlying hu]
    rw [if_pos (by omega)]
    simp only [sizeOf, typeInfo, Sem.run_bind, Sem.run_pure]
    simp [hq, hd, add_none]
theorem rIndexAddr1 {ty e : TypeId} {x i : Operand} {b off len cap j : Nat} {k : IntKind} (ho : o.op = .indexAddr ty x i) (hu : P.underlying ty = some (.slice e)) (hsz : sizeT P e = some 1) (hx : evO E x = some (.slice (some ⟨b, off, none⟩) len cap)) (hi : evO E i = some (.int k (j : Int))) (hlt : j < len) : RunV P w0 F cs E o (.pointer (some ⟨b, off + j, none⟩)) := by
  have := rIndexAddr (w0 := w0) (F := F) (cs := cs) ho hu hsz hx hi hlt
  rwa [Nat.mul_one] at this
theorem rIndexArr {ty e : TypeId} {x i : Operand} {b off m j sz : Nat} {k : IntKind} (ho : o.op = .indexAddr ty x i) (hu : P.underlying ty = some (.array m e)) (hsz : sizeT P e = some sz) (hx : evO E x = some (.pointer (some ⟨b, off, none⟩))) (hi : evO E i = some (.int k (j : Int))) (hlt : j < m) : RunV P w0 F cs E o (.pointer (some ⟨b, off + j * sz, none⟩)) := fun w _ => by
  unfold execOp
  cases hq : P.info? e with
  | none => simp [sizeT, hq] at hsz
  | some d =>
    have hd : d.size = sz := by simpa [sizeT, hq] using hsz
    simp only [ho, evE_of hx, evE_of hi, Instr.indexAt, Instr.sureAddr, asIntOf, Sem.run_bind, Sem.run_pure, Result.andThen_ok, run_underlying hu]
    rw [if_pos (by omega)]
    simp only [sizeOf, typeInfo, Sem.run_bind, Sem.run_pure]
    simp [hq, hd, add_none]
theorem rIndexArr1 {ty e : TypeId} {x i : Operand} {b off m j : Nat} {k : IntKind} (ho : o.op = .indexAddr ty x i) (hu : P.underlying ty = some (.array m e)) (hsz : sizeT P e = some 1) (hx : evO E x = some (.pointer (some ⟨b, off, none⟩))) (hi : evO E i = some (.int k (j : Int))) (hlt : j < m) : RunV P w0 F cs E o (.pointer (some ⟨b, off + j, none⟩)) := by
  have := rIndexArr (w0 := w0) (F := F) (cs := cs) ho hu hsz hx hi hlt
  rwa [Nat.mul_one] at this
end
end Go.Proofs.YtlepfnihpdhcaaaGreatDoor
namespace Go.Proofs.YtlepfnihpdhcaaaGreatDoor
open Go.RowKit

/-- A slice of n elements (sz cells each, the cells xs) that owns its block. -/
def ownFp (A : Option Addr) : List Nat := match A with | some a => [a.block] | none => []
theorem own_fp {w : World} {base : Nat} {e : TypeId} {sz n c : Nat} {A : Option Addr} {xs : List Value} (h : w.ownsRow base e sz (.slice A n c) n xs) : (Value.slice A n c).ownBlock = (ownFp A).head? ∧ ∀ b ∈ ownFp A, b < w.heap.size := by
  rcases h.2 with ⟨hv, _⟩ | ⟨g, cap, cur, hv, _, hg, _⟩
  · simp only [Value.slice.injEq] at hv
    obtain ⟨rfl, _, rfl⟩ := hv
    exact ⟨rfl, by simp [ownFp]⟩
  · simp only [Value.slice.injEq] at hv
    obtain ⟨rfl, _, rfl⟩ := hv
    exact ⟨rfl, by simpa [ownFp] using (Array.getElem?_eq_some_iff.1 hg).1⟩

def cOwn (e : TypeId) (sz : Nat) (A : Option Addr) (n c : Nat) (xs : List Value) : Ch where
  fp := ownFp A
  holds w := w.ownsRow 0 e sz (.slice A n c) n xs
  ok w w' hb h := by
    refine ⟨h.1, ?_⟩
    rcases h.2 with hn | ⟨g, cap, cur, hv, h1, hgg, rest⟩
    · exact .inl hn
    · refine .inr ⟨g, cap, cur, hv, h1, ?_, rest⟩
      simp only [Value.slice.injEq] at hv
      obtain ⟨rfl, _, _⟩ := hv
      rw [hb g (by simp [ownFp])]
      exact hgg
  lt w h b hb := (own_fp h).2 b hb

theorem ownFp_nodup (A : Option Addr) : (ownFp A).Nodup := by cases A <;> simp [ownFp]

section
variable {P : Program} {Q : Exit → Act → World → Prop} {n : Nat} {w0 : World} {F : List Nat} {E : Env} {cs : List Ch} {K : Act → World → Prop} {o : Oper} {d : Nat}

/-- From 'grown' to a piece exchanged. -/
theorem Mm.swapOwn {w w' : World} (h : Mm w0 F cs w) (i : Nat) {e : TypeId} {sz : Nat} {A : Option Addr} {m c : Nat} {xs : List Value} (hi : cs[i]? = some (cOwn e sz A m c xs)) {v' : Value} {m' : Nat} {xs' : List Value} (ho : w'.ownsRow 0 e sz v' m' xs') (hg : w.grownBy w' (Value.slice A m c).ownBlock)
    (hb : v'.ownBlock = (Value.slice A m c).ownBlock ∨ ∃ k, v'.ownBlock = some k ∧ w.heap.size ≤ k) : ∃ A' c', v' = .slice A' m' c' ∧ Mm w0 F (cs.set i (cOwn e sz A' m' c' xs')) w' := by
  obtain ⟨A', c', rfl⟩ := ownsRow_form ho
  have ho1 : w.ownsRow 0 e sz (.slice A m c) m xs := h.at hi
  have f1 := own_fp ho1
  have f2 := own_fp ho
  have hfr : Fr (ownFp A) w w' := by
    refine ⟨hg.os, hg.tape, hg.output, hg.size, fun k hk hn => hg.block k hk (fun e => ?_)⟩
    rw [f1.1] at e
    cases A with
    | none => cases e
    | some a => simp [ownFp] at e hn; exact hn e
  refine ⟨A', c', rfl, h.swap i hi hfr ho ?_ (ownFp_nodup A')⟩
  intro b hb'
  have e2 : (ownFp A').head? = some b := by
    cases A' with
    | none => simp [cOwn, ownFp] at hb'
    | some a => simp [cOwn, ownFp] at hb'; simp [ownFp, hb']
  rcases hb with h1 | ⟨k, h1, h2⟩
  · left
    rw [f2.1, e2, f1.1] at h1
    show b ∈ ownFp A
    cases A with
    | none => cases h1
    | some a => simp [ownFp] at h1 ⊢; exact h1
  · right
    rw [f2.1, e2] at h1
    injection h1 with h1
    omega

theorem opAppend {t e : TypeId} {z : Value} {sz bt : Nat} (El : Elem P t e z sz bt) {s x : Operand} {A A2 : Option Addr} {m c m2 c2 : Nat} {xs : List Value} (i : Nat) (news : List Value) (ho : o.op = .call { callee := .builtin .append, args := #[s, x], argTypes := #[t, t] }) (hd : o.dst = some d) (hk : opOk n E o = true) (hs : evO E s = some (.slice A m c)) (hx : evO E x = some (.slice A2 m2 c2))
    (hi : cs[i]? = some (cOwn e sz A m c xs)) (hl : news.length = m2 * sz) (hsrc : ∀ w, Mm w0 F cs w → CellsAt w A2 news) (h1 : ∀ u ∈ news, u.oneCell' = true) (hlen : m + m2 ≤ 137438953472) (m' : Nat) (hm : m + m2 = m') (xs' : List Value) (hxs : xs ++ news = xs')
    (h : ∀ A' c', St n w0 F ((d, (.slice A' m' c')) :: E) (cs.set i (cOwn e sz A' m' c' xs')) K) : OpW P Q n w0 F E cs o K :=
  opEff hd hk fun w hM => by
    subst hm hxs
    obtain ⟨v', w', hr, h2, h3, h4⟩ := run_app El w 0 o.type (.slice A m c) m xs (hM.at hi) A2 m2 c2 news hl (hsrc w hM) h1 hlen (Nat.zero_le _)
    obtain ⟨A', c', rfl, h5⟩ := hM.swapOwn i hi h2 h3 (h4.imp id (fun e => ⟨_, e, Nat.le_refl _⟩))
    refine ⟨_, w', _, ?_, h5, h A' c'⟩
    unfold execOp
    simp only [ho, resolve, invoke, builtin, Sem.run_bind, Sem.run_pure, Result.andThen_ok, List.map_toArray, List.map_cons, List.map_nil, evE_of hs, evE_of hx, hr]

/-- .. onto a block that the function made itself (a literal of no elements). -/
theorem opAppendAt {t e : TypeId} {z : Value} {sz bt : Nat} (El : Elem P t e z sz bt) {s x : Operand} {A2 : Option Addr} {b m2 c2 : Nat} (i : Nat) (news : List Value) (ho : o.op = .call { callee := .builtin .append, args := #[s, x], argTypes := #[t, t] }) (hd : o.dst = some d) (hk : opOk n E o = true) (hs : evO E s = some (.slice (some ⟨b, 0, none⟩) 0 0)) (hx : evO E x = some (.slice A2 m2 c2))
    (hi : cs[i]? = some (cAt b e [])) (hl : news.length = m2 * sz) (hsrc : ∀ w, Mm w0 F cs w → CellsAt w A2 news) (h1 : ∀ u ∈ news, u.oneCell' = true) (hlen : m2 ≤ 137438953472) (m' : Nat) (hm : m2 = m') (xs' : List Value) (hxs : news = xs')
    (h : ∀ A' c', St n w0 F ((d, (.slice A' m' c')) :: E) (cs.set i (cOwn e sz A' m' c' xs')) K) : OpW P Q n w0 F E cs o K := by
  intro a w ha hM
  have hat : At w b e [] := hM.at hi
  have hM2 : Mm w0 F (cs.set i (cOwn e sz (some ⟨b, 0, none⟩) 0 0 [])) w := by
    refine hM.swap i hi (Fr.refl _ _) ?_ (fun k hk => .inl hk) (by simp [cOwn, ownFp])
    exact ⟨by simp, .inr ⟨b, 0, #[], rfl, Nat.zero_le _, hat, Nat.le_refl _, Nat.zero_le _, by simp, by simp⟩⟩
  have hlt := (List.getElem?_eq_some_iff.1 hi).1
  have := opAppend (P := P) (Q := Q) (w0 := w0) (F := F) (K := K) (xs := []) (cs := cs.set i (cOwn e sz (some ⟨b, 0, none⟩) 0 0 [])) El i news ho hd hk hs hx (List.getElem?_set_self hlt) hl (fun w' hw' => ?_) h1 (by omega) m' (by omega) xs' (by simpa using hxs) (fun A' c' => by rw [List.set_set]; exact h A' c')
  · exact this a w ha hM2
  · refine hsrc w' ?_
    have ho' : w'.ownsRow 0 e sz (.slice (some ⟨b, 0, none⟩) 0 0) 0 [] := hw'.at (by rw [List.getElem?_set_self hlt])
    have := hw'.swap i (c := cOwn e sz (some ⟨b, 0, none⟩) 0 0 []) (c' := cAt b e []) (List.getElem?_set_self hlt) (Fr.refl _ _) ?_ (fun k hk => .inl hk) (by simp [cAt])
    · rw [List.set_set] at this
      have e : cs.set i (cAt b e []) = cs := by
        apply List.ext_getElem?
        intro j
        rw [List.getElem?_set]
        split
        · rename_i h1
          subst h1
          rw [hi]
        · rfl
      rwa [e] at this
    · rcases ho'.2 with ⟨hv, _⟩ | ⟨g, cap, cur, hv, _, hg, _, _, hcs, _⟩
      · cases hv
      · simp only [Value.slice.injEq, Option.some.injEq, Addr.mk.injEq] at hv
        obtain ⟨⟨rfl, _⟩, _, rfl⟩ := hv
        have : cur = #[] := by rw [← Array.size_eq_zero_iff]; simpa using hcs
        subst this
        exact hg

theorem opAppendStr {t u e : TypeId} {s x : Operand} {A : Option Addr} {m c : Nat} {xs : List Value} {bs : List UInt8} (i : Nat) (ho : o.op = .call { callee := .builtin .append, args := #[s, x], argTypes := #[t, u] }) (hd : o.dst = some d) (ht : P.underlying t = some (.slice e)) (hu : P.underlying u = some .string) (hinfo : (P.info? e).map (fun i => (i.zero, i.size, i.bytes)) = some (some (.int .u8 0), 1, 1)) (hk : opOk n E o = true) (hs : evO E s = some (.slice A m c)) (hx : evO E x = some (.string (strOf bs)))
    (hi : cs[i]? = some (cOwn e 1 A m c xs)) (hlen : m + bs.length ≤ 137438953472) (m' : Nat) (hm : m + bs.length = m') (xs' : List Value) (hxs : xs ++ B8 bs = xs')
    (h : ∀ A' c', St n w0 F ((d, (.slice A' m' c')) :: E) (cs.set i (cOwn e 1 A' m' c' xs')) K) : OpW P Q n w0 F E cs o K :=
  opEff hd hk fun w hM => by
    subst hm hxs
    obtain ⟨j, hj, hz, hsz, hby⟩ := info_parts hinfo
    have hsz' : (strOf bs).size = bs.length := by simp [strOf, ByteArray.size]
    have hce : Lib.strCells (strOf bs) = B8 bs := by simp [Lib.strCells, strOf, B8]
    obtain ⟨v', w', hr, h2, h3, h4⟩ := Lib.run_append_own_string (P := P) (w := w) 0 t u o.type e j ht hu hj hz hsz hby (.slice A m c) m xs (hM.at hi) (strOf bs) (by rw [hsz']; unfold maxLen; omega) (by rw [hsz']; omega) (Nat.zero_le _)
    rw [hsz', hce] at h2
    have hb : v'.ownBlock = (Value.slice A m c).ownBlock ∨ ∃ k, v'.ownBlock = some k ∧ w.heap.size ≤ k := by
      obtain ⟨A', c', rfl⟩ := ownsRow_form h2
      have f1 := own_fp (hM.at hi : w.ownsRow 0 e 1 (.slice A m c) m xs)
      have f2 := own_fp h2
      have hown : w.ownsRow 0 e 1 (.slice A m c) m xs := hM.at hi
      rcases hown.2 with ⟨hv, h0⟩ | ⟨g, cap, cur, hv, _, hg, hnc, _, hcs, htk⟩
      · simp only [Value.slice.injEq] at hv
        obtain ⟨rfl, rfl, rfl⟩ := hv
        by_cases h00 : (strOf bs).size = 0
        · have := h4.2 ⟨rfl, h00⟩
          rw [this]
          exact .inl rfl
        · have hr2 := run_append_nil_string (P := P) w t u o.type e j _ ht hu hj hz (strOf bs) (by omega) (by rw [hsz']; omega) (by rw [hby, hsz']; omega)
          rw [hr] at hr2
          injection hr2 with e1 e2
          rw [e1]
          exact .inr ⟨_, rfl, Nat.le_refl _⟩
      · simp only [Value.slice.injEq] at hv
        obtain ⟨rfl, _, rfl⟩ := hv
        by_cases hroom : m + (strOf bs).size ≤ c
        · have hr2 := Lib.run_append_room_string (P := P) w t u o.type e j ht hu hj hsz g m c cur hg (strOf bs) hroom (by omega)
          rw [hr] at hr2
          injection hr2 with e1 e2
          rw [e1]
          exact .inl rfl
        · have hr2 := Lib.run_append_grow_string (P := P) w t u o.type e j _ ht hu hj hz ⟨g, 0, none⟩ m c xs (by rw [hsz]; exact hown.1) (hown.cells (g := g) rfl) (strOf bs) (by omega) (by rw [hsz']; omega) (by rw [hby]; exact growslice_fits (by omega) (by omega))
          rw [hr] at hr2
          injection hr2 with e1 e2
          rw [e1]
          exact .inr ⟨_, rfl, Nat.le_refl _⟩
    obtain ⟨A', c', rfl, h5⟩ := hM.swapOwn i hi h2 h3 hb
    refine ⟨_, w', _, ?_, h5, h A' c'⟩
    unfold execOp
    simp only [ho, resolve, invoke, builtin, Sem.run_bind, Sem.run_pure, Result.andThen_ok, List.map_toArray, List.map_cons, List.map_nil, evE_of hs, evE_of hx, hr]

theorem srcOwn {e : TypeId} {sz i : Nat} {A : Option Addr} {m c : Nat} {xs : List Value} (hi : cs[i]? = some (cOwn e sz A m c xs)) : ∀ w, Mm w0 F cs w → CellsAt w A xs := fun _ hM => CellsAt.of_own (hM.at hi)
theorem srcAt {i b off : Nat} {t : TypeId} {l xs : List Value} (hi : cs[i]? = some (cAt b t l)) (hx : ∀ j v, xs[j]? = some v → l[off + j]? = some v) : ∀ w, Mm w0 F cs w → CellsAt w (some ⟨b, off, none⟩) xs := fun w hM j v hj =>
  ⟨_, rfl, by rw [add_none]; have h : At w b t l := hM.at hi; rw [h.cell]; exact hx j v hj⟩
theorem srcNil : ∀ w, Mm w0 F cs w → CellsAt w none [] := fun _ _ j v hj => by simp at hj
theorem srcOld {A : Option Addr} {xs : List Value} (h0 : RowIn w0 A xs) (hA : ∀ b off, A = some ⟨b, off, none⟩ → b ∉ F) : ∀ w, Mm w0 F cs w → CellsAt w A xs := fun _ hM => CellsAt.of_row (h0.fr hM.fr hA)

/-- A block that the function made becomes a slice that owns it. -/
theorem Mm.toOwn {w : World} (h : Mm w0 F cs w) (i : Nat) {b : Nat} {e : TypeId} {l : List Value} (hi : cs[i]? = some (cAt b e l)) (sz m c : Nat) (hl : l.length = c * sz) (hm : m ≤ c) (hmax : c ≤ maxLen) : Mm w0 F (cs.set i (cOwn e sz (some ⟨b, 0, none⟩) m c (l.take (m * sz)))) w := by
  have hat : At w b e l := h.at hi
  refine h.swap i hi (Fr.refl _ _) ?_ (fun k hk => .inl hk) (by simp [cOwn, ownFp])
  refine ⟨?_, .inr ⟨b, c, l.toArray, rfl, Nat.zero_le _, hat, hm, hmax, ?_, ?_⟩⟩
  · rw [List.length_take, hl]
    exact Nat.min_eq_left (Nat.mul_le_mul_right _ hm)
  · simpa using hl
  · simp
/-- nil owns nothing. -/
theorem Mm.nilOwn {w : World} (h : Mm w0 F cs w) (e : TypeId) (sz : Nat) : Mm w0 F (cs ++ [cOwn e sz none 0 0 []]) w :=
  h.push (c := cOwn e sz none 0 0 []) (Fr.refl _ _) ⟨by simp, .inl ⟨rfl, rfl⟩⟩ (by simp [cOwn, ownFp]) (by simp [cOwn, ownFp])

theorem rIndexS {ty : TypeId} {x i : Operand} {k : IntKind} {l : List UInt8} {j : Nat} {y : UInt8} (ho : o.op = .index ty x i) (hu : P.underlying ty = some .string) (hx : evO E x = some (.string (strOf l))) (hi : evO E i = some (.int k (j : Int))) (hy : l[j]? = some y) : RunV P w0 F cs E o (.int .u8 ((y.toNat : Nat) : Int)) := fun w _ => by
  unfold execOp
  have h2 : (strOf l)[j]? = some y := by
    have h1 := (List.getElem?_eq_some_iff.1 hy).1
    have hlt : j < (strOf l).size := by simpa [strOf, ByteArray.size] using h1
    rw [getElem?_pos (strOf l) j hlt]
    have := (List.getElem?_eq_some_iff.1 hy).2
    simp only [strOf, ByteArray.getElem_eq_getElem_data, List.getElem_toArray, this]
  simp only [ho, evE_of hx, evE_of hi, Instr.index, asIntOf, Sem.run_bind, Sem.run_pure, Result.andThen_ok, run_underlying hu]
  rw [if_pos (by omega)]
  simp [h2]

/-! ### Conversions -/
theorem rStr {src dst e : TypeId} {x : Operand} {A : Option Addr} {cap m : Nat} (bs : List UInt8) (ho : o.op = .convert src dst x) (hs : P.underlying src = some (.slice e)) (he : P.underlying e = some (.int .u8)) (hd : P.underlying dst = some .string) (hx : evO E x = some (.slice A m cap)) (hm : m = bs.length) (h : ∀ w, Mm w0 F cs w → RowIn w A (B8 bs)) : RunV P w0 F cs E o (.string (strOf bs)) := fun w hM => by
  subst hm
  unfold execOp
  simp only [ho, evE_of hx, Sem.run_bind, run_str hs he hd w A cap bs (h w hM), Sem.run_pure, Result.andThen_ok]
theorem rowOwn {e : TypeId} {i : Nat} {A : Option Addr} {m c : Nat} {xs : List Value} (hi : cs[i]? = some (cOwn e 1 A m c xs)) : ∀ w, Mm w0 F cs w → RowIn w A xs := fun _ hM => RowIn.of_own (hM.at hi)
theorem rowAt' {i b off : Nat} {t : TypeId} {l xs : List Value} (hi : cs[i]? = some (cAt b t l)) (hx : ∀ j v, xs[j]? = some v → l[off + j]? = some v) : ∀ w, Mm w0 F cs w → RowIn w (some ⟨b, off, none⟩) xs := fun w hM j v hj => by
  have h : At w b t l := hM.at hi
  exact ⟨b, off, rfl, h.lt, by rw [h.cell]; exact hx j v hj⟩
/-- A call that hands back a slice of its own. -/
theorem Mm.pushOwn {w w' : World} (h : Mm w0 F cs w) (hf : Fr [] w w') {e : TypeId} {sz : Nat} {v : Value} {m : Nat} {xs : List Value} (ho : w'.ownsRow w.heap.size e sz v m xs) : ∃ A c, v = .slice A m c ∧ Mm w0 F (cs ++ [cOwn e sz A m c xs]) w' := by
  obtain ⟨A, c, rfl⟩ := ownsRow_form ho
  refine ⟨A, c, rfl, h.push (c := cOwn e sz A m c xs) hf (ownsRow_base ho (Nat.zero_le _)) ?_ (ownFp_nodup A)⟩
  intro b hb
  rcases ho.2 with ⟨hv, _⟩ | ⟨g, cap, cur, hv, h1, _⟩
  · simp only [Value.slice.injEq] at hv
    obtain ⟨rfl, _, _⟩ := hv
    simp [cOwn, ownFp] at hb
  · simp only [Value.slice.injEq] at hv
    obtain ⟨rfl, _, _⟩ := hv
    simp [cOwn, ownFp] at hb
    omega
/-- A slice that owns its block and is not empty: the block, whole. -/
theorem St.openOwn {X : Act → World → Prop} (i : Nat) {e : TypeId} {sz : Nat} {A : Option Addr} {m c : Nat} {xs : List Value} (hi : cs[i]? = some (cOwn e sz A m c xs)) (hm : 0 < m)
    (h : ∀ g rest, A = some ⟨g, 0, none⟩ → m ≤ c → St n w0 F E (cs.set i (cAt g e (xs ++ rest))) X) : St n w0 F E cs X := by
  intro a w ha hM
  have ho : w.ownsRow 0 e sz (.slice A m c) m xs := hM.at hi
  rcases ho.2 with ⟨_, h0⟩ | ⟨g, cap, cur, hv, _, hg, hnc, _, hcs, ht⟩
  · omega
  · simp only [Value.slice.injEq] at hv
    obtain ⟨rfl, _, rfl⟩ := hv
    have hat : At w g e (xs ++ cur.toList.drop (m * sz)) := by
      unfold At
      rw [← ht, List.take_append_drop]
      simpa using hg
    refine h g (cur.toList.drop (m * sz)) rfl hnc a w ha (hM.swap i hi (Fr.refl _ _) hat (fun b hb => .inl (by simpa [cAt, cOwn, ownFp] using hb)) (by simp [cAt]))
theorem store_all {z L : List Value} (h : z.length = L.length) : L = z.take 0 ++ L ++ z.drop (0 + L.length) := by simp [← h]
end
end Go.Proofs.YtlepfnihpdhcaaaGreatDoor
namespace Go.Proofs.YtlepfnihpdhcaaaGreatDoor
open Go.RowKit

theorem wrap64_id {a : Int} (h1 : -9223372036854775808 ≤ a) (h2 : a ≤ 9223372036854775807) : IntKind.i64.wrap a = a := by rw [IntKind.wrap_i64]; omega
theorem wrapU64_id {a : Int} (h1 : 0 ≤ a) (h2 : a < 18446744073709551616) : IntKind.u64.wrap a = a := by rw [IntKind.wrap_u64]; omega

section
variable {P : Program} {Q : Exit → Act → World → Prop} {n : Nat} {w0 : World} {F : List Nat} {E : Env} {cs : List Ch} {K : Act → World → Prop} {o : Oper} {d : Nat}

theorem run_eqGuard_int (op : BinOp) (t : TypeId) (x y : Operand) (k k' : IntKind) (a b : Int) (w : World) : (eqGuard op t x y (.int k a) (.int k' b)).run P w = .ok () w := by
  unfold eqGuard
  cases op <;> simp

theorem rAdd {ty u : TypeId} {x y : Operand} {a b : Int} (c : Int) (ho : o.op = .binOp .add ty x y u) (hx : evO E x = some (.int .i64 a)) (hy : evO E y = some (.int .i64 b)) (hc : a + b = c) (h1 : -9223372036854775808 ≤ c) (h2 : c ≤ 9223372036854775807) : RunV P w0 F cs E o (.int .i64 c) := fun w _ => by
  unfold execOp
  simp only [ho, evE_of hx, evE_of hy, Sem.run_bind, run_eqGuard_int, Result.andThen_ok, binOp, Op.intArith, hc, wrap64_id h1 h2]
  simp
theorem rSub {ty u : TypeId} {x y : Operand} {a b : Int} (c : Int) (ho : o.op = .binOp .sub ty x y u) (hx : evO E x = some (.int .i64 a)) (hy : evO E y = some (.int .i64 b)) (hc : a - b = c) (h1 : -9223372036854775808 ≤ c) (h2 : c ≤ 9223372036854775807) : RunV P w0 F cs E o (.int .i64 c) := fun w _ => by
  unfold execOp
  simp only [ho, evE_of hx, evE_of hy, Sem.run_bind, run_eqGuard_int, Result.andThen_ok, binOp, Op.intArith, hc, wrap64_id h1 h2]
  simp
theorem rMul {ty u : TypeId} {x y : Operand} {a b : Int} (c : Int) (ho : o.op = .binOp .mul ty x y u) (hx : evO E x = some (.int .i64 a)) (hy : evO E y = some (.int .i64 b)) (hc : a * b = c) (h1 : -9223372036854775808 ≤ c) (h2 : c ≤ 9223372036854775807) : RunV P w0 F cs E o (.int .i64 c) := fun w _ => by
  unfold execOp
  simp only [ho, evE_of hx, evE_of hy, Sem.run_bind, run_eqGuard_int, Result.andThen_ok, binOp, Op.intArith, hc, wrap64_id h1 h2]
  simp
theorem rQuo {ty u : TypeId} {x y : Operand} {a b : Int} (c : Int) (ho : o.op = .binOp .quo ty x y u) (hx : evO E x = some (.int .i64 a)) (hy : evO E y = some (.int .i64 b)) (hb : b ≠ 0) (hc : a.tdiv b = c) (h1 : -9223372036854775808 ≤ c) (h2 : c ≤ 9223372036854775807) : RunV P w0 F cs E o (.int .i64 c) := fun w _ => by
  unfold execOp
  simp only [ho, evE_of hx, evE_of hy, Sem.run_bind, run_eqGuard_int, Result.andThen_ok, binOp, Op.intDiv, hc, wrap64_id h1 h2]
  simp [hb]
theorem rRem {ty u : TypeId} {x y : Operand} {k : IntKind} {a b : Int} (c : Int) (ho : o.op = .binOp .rem ty x y u) (hx : evO E x = some (.int k a)) (hy : evO E y = some (.int k b)) (hb : b ≠ 0) (hc : a.tmod b = c) : RunV P w0 F cs E o (.int k c) := fun w _ => by
  unfold execOp
  simp only [ho, evE_of hx, evE_of hy, Sem.run_bind, run_eqGuard_int, Result.andThen_ok, binOp, Op.intDiv, hc]
  simp [hb]
theorem rBits {ty u : TypeId} {x y : Operand} {k : IntKind} {a b : Int} (op : BinOp) (hop : op = .and ∨ op = .or ∨ op = .xor ∨ op = .andNot) (c : Int) (ho : o.op = .binOp op ty x y u) (hx : evO E x = some (.int k a)) (hy : evO E y = some (.int k b)) (hc : bits op k a b = c) : RunV P w0 F cs E o (.int k c) := fun w _ => by
  unfold execOp
  rcases hop with rfl | rfl | rfl | rfl <;>
  · subst hc
    simp only [ho, evE_of hx, evE_of hy, Sem.run_bind, run_eqGuard_int, Result.andThen_ok, binOp, Op.intBits, bits]
    simp
/-- A conversion between integers. -/
theorem rIntC {s t : TypeId} {x : Operand} {k k' : IntKind} {a : Int} (c : Int) (hr : ∀ w, (execOp (evE E) o).run P w = .ok (.value (.int k' (k'.wrap a))) w) (_ho : o.op = .convert s t x) (_hx : evO E x = some (.int k a)) (hc : k'.wrap a = c) : RunV P w0 F cs E o (.int k' c) := fun w _ => by rw [hr w, hc]

theorem strOf_toList (p : List UInt8) : (strOf p).toList = p := by rw [Lib.toList_data]; simp [strOf]
theorem beqL (p q : List UInt8) : (p == q) = decide (p = q) := by by_cases h : p = q <;> simp [h]
theorem rStrEq {ty u : TypeId} {x y : Operand} {p q : List UInt8} (ho : o.op = .binOp .eql ty x y u) (hx : evO E x = some (.string (strOf p))) (hy : evO E y = some (.string (strOf q))) : RunV P w0 F cs E o (.bool (decide (p = q))) := fun w _ => by
  unfold execOp
  simp only [ho, evE_of hx, evE_of hy, Sem.run_bind, eqGuard, binOp, Op.stringOp, strOf_toList, beqL]
  simp
theorem rStrNe {ty u : TypeId} {x y : Operand} {p q : List UInt8} (ho : o.op = .binOp .neq ty x y u) (hx : evO E x = some (.string (strOf p))) (hy : evO E y = some (.string (strOf q))) : RunV P w0 F cs E o (.bool (!decide (p = q))) := fun w _ => by
  unfold execOp
  simp only [ho, evE_of hx, evE_of hy, Sem.run_bind, eqGuard, binOp, Op.stringOp, strOf_toList, beqL]
  simp
end
end Go.Proofs.YtlepfnihpdhcaaaGreatDoor
namespace Go.Proofs.YtlepfnihpdhcaaaGreatDoor
open Go.RowKit

section
variable {P : Program} {w0 : World} {F : List Nat} {E : Env} {cs : List Ch} {o : Oper}
theorem rStrLt {ty u : TypeId} {x y : Operand} {p q : List UInt8} (ho : o.op = .binOp .lss ty x y u) (hx : evO E x = some (.string (strOf p))) (hy : evO E y = some (.string (strOf q))) : RunV P w0 F cs E o (.bool (decide (p < q))) := fun w _ => by
  unfold execOp
  simp only [ho, evE_of hx, evE_of hy, Sem.run_bind, eqGuard, binOp, Op.stringOp, strOf_toList, bytesLess_eq]
  simp
theorem rStrGe {ty u : TypeId} {x y : Operand} {p q : List UInt8} (ho : o.op = .binOp .geq ty x y u) (hx : evO E x = some (.string (strOf p))) (hy : evO E y = some (.string (strOf q))) : RunV P w0 F cs E o (.bool (!decide (p < q))) := fun w _ => by
  unfold execOp
  simp only [ho, evE_of hx, evE_of hy, Sem.run_bind, eqGuard, binOp, Op.stringOp, strOf_toList, bytesLess_eq]
  simp
theorem rStrLe {ty u : TypeId} {x y : Operand} {p q : List UInt8} (ho : o.op = .binOp .leq ty x y u) (hx : evO E x = some (.string (strOf p))) (hy : evO E y = some (.string (strOf q))) : RunV P w0 F cs E o (.bool (decide (p < q) || decide (p = q))) := fun w _ => by
  unfold execOp
  simp only [ho, evE_of hx, evE_of hy, Sem.run_bind, eqGuard, binOp, Op.stringOp, strOf_toList, beqL, bytesLess_eq]
  simp
theorem rStrGt {ty u : TypeId} {x y : Operand} {p q : List UInt8} (ho : o.op = .binOp .gtr ty x y u) (hx : evO E x = some (.string (strOf p))) (hy : evO E y = some (.string (strOf q))) : RunV P w0 F cs E o (.bool (!(decide (p < q) || decide (p = q)))) := fun w _ => by
  unfold execOp
  simp only [ho, evE_of hx, evE_of hy, Sem.run_bind, eqGuard, binOp, Op.stringOp, strOf_toList, beqL, bytesLess_eq]
  simp
theorem run_bound {k y : Nat} {kd : IntKind} (code : BoundsCode) (h : k ≤ y) (w : World) : (Instr.sliceBound (.int kd (k : Int)) y code).run P w = .ok k w := by
  simp only [Instr.sliceBound, asIntOf, Sem.run_bind, Sem.run_pure, Result.andThen_ok]
  rw [if_pos (by omega)]
  simp
theorem map_add0 (A : Option Addr) : A.map (fun x => x.add 0) = A := by cases A <;> simp [Addr.add]
theorem rSliceHi {ty e : TypeId} {x h : Operand} {A : Option Addr} {n c k : Nat} {kd : IntKind} (ho : o.op = .slice ty x none (some h) none) (hu : P.underlying ty = some (.slice e)) (hs : (sizeT P e).isSome = true) (hx : evO E x = some (.slice A n c)) (hh : evO E h = some (.int kd (k : Int))) (hk : k ≤ c) : RunV P w0 F cs E o (.slice A k c) := fun w _ => by
  obtain ⟨sz, hsz⟩ := Option.isSome_iff_exists.1 hs
  unfold execOp
  cases hq : P.info? e with
  | none => simp [sizeT, hq] at hsz
  | some i =>
    simp only [ho, evE_of hx, Option.map_some, Option.map_none, evE_of hh, Instr.sliceAt, Instr.slice, Instr.sliceBounds, Sem.run_bind, Sem.run_pure, Result.andThen_ok, run_underlying hu, run_bound _ hk, sizeOf, typeInfo]
    simp [hq, map_add0]
theorem rSliceLo {ty e : TypeId} {x l : Operand} {A : Option Addr} {n c k sz : Nat} {kd : IntKind} (ho : o.op = .slice ty x (some l) none none) (hu : P.underlying ty = some (.slice e)) (hs : sizeT P e = some sz) (hx : evO E x = some (.slice A n c)) (hl : evO E l = some (.int kd (k : Int))) (hk : k ≤ n) : RunV P w0 F cs E o (.slice (if c = k then A else A.map (·.add (k * sz))) (n - k) (c - k)) := fun w _ => by
  unfold execOp
  cases hq : P.info? e with
  | none => simp [sizeT, hq] at hs
  | some i =>
    have hi : i.size = sz := by simpa [sizeT, hq] using hs
    simp only [ho, evE_of hx, Option.map_some, Option.map_none, evE_of hl, Instr.sliceAt, Instr.slice, Instr.sliceBounds, Sem.run_bind, Sem.run_pure, Result.andThen_ok, run_underlying hu, run_bound _ hk, sizeOf, typeInfo]
    simp [hq, hi]
theorem rSliceLH {ty e : TypeId} {x l h : Operand} {A : Option Addr} {n c k m sz : Nat} {kd kh : IntKind} (ho : o.op = .slice ty x (some l) (some h) none) (hu : P.underlying ty = some (.slice e)) (hs : sizeT P e = some sz) (hx : evO E x = some (.slice A n c)) (hl : evO E l = some (.int kd (k : Int))) (hh : evO E h = some (.int kh (m : Int))) (hk : k ≤ m) (hm : m ≤ c) : RunV P w0 F cs E o (.slice (if c = k then A else A.map (·.add (k * sz))) (m - k) (c - k)) := fun w _ => by
  unfold execOp
  cases hq : P.info? e with
  | none => simp [sizeT, hq] at hs
  | some i =>
    have hi : i.size = sz := by simpa [sizeT, hq] using hs
    simp only [ho, evE_of hx, Option.map_some, Option.map_none, evE_of hl, evE_of hh, Instr.sliceAt, Instr.slice, Instr.sliceBounds, Sem.run_bind, Sem.run_pure, Result.andThen_ok, run_underlying hu, run_bound _ hk, run_bound _ hm, sizeOf, typeInfo]
    simp [hq, hi]
theorem srcDrop {w : World} {A : Option Addr} {xs : List Value} {c k : Nat} (h : RowIn w A xs) (hc : xs.length ≤ c) : CellsAt w (if c = k then A else A.map (·.add (k * 1))) (xs.drop k) := by
  intro j u hu
  rw [List.getElem?_drop] at hu
  have hlt := (List.getElem?_eq_some_iff.1 hu).1
  obtain ⟨b, o, hA, _, hcell⟩ := h _ _ hu
  rw [if_neg (by omega), hA]
  refine ⟨_, rfl, ?_⟩
  show w.cell? (((⟨b, o, none⟩ : Addr).add (k * 1)).add j) = some u
  rw [Nat.mul_one, add_none, add_none, Nat.add_assoc]
  exact hcell
theorem srcTake {w : World} {A : Option Addr} {xs : List Value} (h : RowIn w A xs) (k : Nat) : CellsAt w A (xs.take k) := by
  intro j u hu
  obtain ⟨b, o, hA, _, hcell⟩ := h j u (by
    rw [List.getElem?_take] at hu
    split at hu
    · exact hu
    · cases hu)
  exact ⟨_, hA, by rw [add_none]; exact hcell⟩
end
end Go.Proofs.YtlepfnihpdhcaaaGreatDoor
