/- One form for contracts (Own, Back, Rf), facts that stay (Ro), and the operations of the logic for walks in short words. No condition. -/
import Derived.Test.YtlepfnihpdhcaaaGreatDoorHoare
import Derived.Laws.IdiomStrings
namespace Go.Proofs.YtlepfnihpdhcaaaGreatDoor
open Go.RowKit

/-! ### Facts that stay -/
/-- Φ holds, and stays as long as nothing but S and new blocks changes. -/
def Ro (S : List Nat) (w : World) (Φ : World → Prop) : Prop := ∀ w', Fr S w w' → Φ w'
abbrev fps (ms : List Ch) : List Nat := ms.flatMap Ch.fp
/-- What a contract asks: its pieces; facts that stay beside them. -/
abbrev Own (ms : List Ch) (w : World) : Prop := Mm w (fps ms) ms w
abbrev Rf (ms : List Ch) (w : World) (Φ : World → Prop) : Prop := Ro (fps ms) w Φ
/-- What it gives back. -/
abbrev Back (ms : List Ch) (w : World) (post : List Ch) (w' : World) : Prop := Mm w (fps ms) post w'

section
variable {w0 w w' : World} {F S : List Nat} {cs : List Ch} {Φ Ψ : World → Prop}
theorem Ro.here (h : Ro S w Φ) : Φ w := h w (Fr.refl _ _)
theorem Ro.now (h : Ro F w0 Φ) (hM : Mm w0 F cs w) : Φ w := h w hM.fr
theorem Ro.imp (h : Ro S w Φ) (hi : ∀ w, Φ w → Ψ w) : Ro S w Ψ := fun w' hf => hi w' (h w' hf)
theorem Ro.and (h : Ro S w Φ) (k : Ro S w Ψ) : Ro S w (fun w => Φ w ∧ Ψ w) := fun w' hf => ⟨h w' hf, k w' hf⟩
theorem Ro.const {p : Prop} (h : p) : Ro S w (fun _ => p) := fun _ _ => h
theorem Ro.step (h : Ro F w0 Φ) (hf : Fr F w0 w) (hs : ∀ b ∈ S, b ∈ F ∨ w0.heap.size ≤ b) : Ro S w Φ := fun w' hk => h w' (hf.trans' hk hs)
/-- A fact that stays, at a call over some of the pieces. -/
theorem Ro.go (h : Ro F w0 Φ) (hM : Mm w0 F cs w) {ms : List Ch} (hs : ∀ c ∈ ms, c ∈ cs) : Rf ms w Φ :=
  h.step hM.fr fun b hb => by
    obtain ⟨c, hc, hbc⟩ := List.mem_flatMap.1 hb
    exact hM.own b (List.mem_flatMap.2 ⟨c, hs c hc, hbc⟩)

theorem nodup_flat_ne {cs : List Ch} (h : (cs.flatMap Ch.fp).Nodup) {i j : Nat} {c d : Ch} (hi : cs[i]? = some c) (hj : cs[j]? = some d) (hne : i ≠ j) : ∀ b ∈ c.fp, b ∉ d.fp := by
  have hs := split_at hi
  rw [hs] at h
  obtain ⟨_, _, _, h4⟩ := nodup_flat_split h
  intro b hb hd
  obtain ⟨h5, h6⟩ := h4 b hb
  have hl := (List.getElem?_eq_some_iff.1 hi).1
  rcases Nat.lt_or_gt_of_ne hne with hlt | hlt
  · refine h6 (List.mem_flatMap.2 ⟨d, ?_, hd⟩)
    refine List.mem_of_getElem? (i := j - (i + 1)) ?_
    rw [List.getElem?_drop, show i + 1 + (j - (i + 1)) = j by omega]
    exact hj
  · refine h5 (List.mem_flatMap.2 ⟨d, ?_, hd⟩)
    refine List.mem_of_getElem? (i := j) ?_
    rw [List.getElem?_take_of_lt hlt]
    exact hj

/-- A piece that a call leaves alone, as a fact that stays. -/
theorem Mm.keep (hM : Mm w0 F cs w) {ms : List Ch} {j : Nat} {c : Ch} (hj : cs[j]? = some c) (hd : ∀ m ∈ ms, ∃ i, cs[i]? = some m ∧ i ≠ j) (hi : ∀ w, c.holds w → Φ w) : Rf ms w Φ := fun w' hf =>
  hi w' (c.ok w w' (fun b hb => hf.block b (c.lt w (hM.at hj) b hb) fun hb' => by
    obtain ⟨m, hm, hbm⟩ := List.mem_flatMap.1 hb'
    obtain ⟨i, h1, h2⟩ := hd m hm
    exact nodup_flat_ne hM.nodup hj h1 (fun e => h2 e.symm) b hb hbm) (hM.at hj))
theorem Mm.keep0 (hM : Mm w0 F cs w) {j : Nat} {c : Ch} (hj : cs[j]? = some c) (hi : ∀ w, c.holds w → Φ w) : Rf [] w Φ := hM.keep hj (by simp) hi
theorem Ro.go0 (h : Ro F w0 Φ) (hM : Mm w0 F cs w) : Rf [] w Φ := h.go hM (by simp)

/-! ### Pieces by their places in the list -/
def sel (cs : List Ch) (is : List Nat) : List Ch := is.filterMap fun i => cs[i]?
def setAll : List Ch → List Nat → List Ch → List Ch
  | cs, i :: is, c :: l => setAll (cs.set i c) is l
  | cs, _, _ => cs
/-- The places that are not named. -/
def restI (n : Nat) (is : List Nat) : List Nat := (List.range n).filter fun i => !is.contains i

theorem sel_range (cs : List Ch) : sel cs (List.range cs.length) = cs := by
  apply List.ext_getElem?
  intro i
  unfold sel
  have key : ∀ (l : List Ch) (k n : Nat), (∀ i, i < n → k + i < l.length) → ((List.range n).map (k + ·)).filterMap (fun i => l[i]?) = (l.drop k).take n := by
    intro l k n
    induction n with
    | zero => simp
    | succ n ih =>
      intro h
      rw [List.range_succ, List.map_append, List.filterMap_append, ih fun i hi => h i (by omega)]
      have hk := h n (by omega)
      rw [List.take_add_one]
      simp [List.getElem?_drop, List.getElem?_eq_getElem hk]
  have h := key cs 0 cs.length (by intro i hi; omega)
  simp only [Nat.zero_add, List.map_id', List.drop_zero, List.take_length] at h
  rw [h]
theorem perm_split (n : Nat) (is : List Nat) (hn : is.Nodup) (hlt : ∀ i ∈ is, i < n) : (List.range n).Perm (is ++ restI n is) := by
  rw [List.perm_ext_iff_of_nodup List.nodup_range]
  · intro a
    simp only [List.mem_append, restI, List.mem_filter, List.mem_range, Bool.not_eq_true', List.contains_eq_mem, decide_eq_false_iff_not]
    constructor
    · intro h
      by_cases ha : a ∈ is
      · exact .inl ha
      · exact .inr ⟨h, ha⟩
    · rintro (h | h)
      · exact hlt a h
      · exact h.1
  · rw [List.nodup_append]
    refine ⟨hn, List.nodup_range.filter _, fun a ha b hb e => ?_⟩
    subst e
    simp only [restI, List.mem_filter, List.mem_range, Bool.not_eq_true', List.contains_eq_mem, decide_eq_false_iff_not] at hb
    exact hb.2 ha
theorem sel_perm (cs : List Ch) (is : List Nat) (hn : is.Nodup) (hlt : ∀ i ∈ is, i < cs.length) : cs.Perm (sel cs is ++ sel cs (restI cs.length is)) := by
  have h := (perm_split cs.length is hn hlt).filterMap fun i => cs[i]?
  rw [List.filterMap_append] at h
  have e := sel_range cs
  unfold sel at e
  rw [e] at h
  exact h

theorem setAll_length : ∀ (is : List Nat) (cs l : List Ch), (setAll cs is l).length = cs.length
  | [], cs, l => by cases l <;> rfl
  | i :: is, cs, [] => rfl
  | i :: is, cs, c :: l => by rw [setAll, setAll_length is, List.length_set]
theorem setAll_other : ∀ (is : List Nat) (cs l : List Ch) (k : Nat), k ∉ is → (setAll cs is l)[k]? = cs[k]?
  | [], cs, l, k, _ => by cases l <;> rfl
  | i :: is, cs, [], k, _ => rfl
  | i :: is, cs, c :: l, k, h => by
    rw [setAll, setAll_other is _ l k (fun h' => h (List.mem_cons_of_mem _ h')), List.getElem?_set_ne (fun e => h (by rw [e]; exact List.mem_cons_self))]
theorem setAll_sel : ∀ (is : List Nat) (cs l : List Ch), is.Nodup → (∀ i ∈ is, i < cs.length) → l.length = is.length → sel (setAll cs is l) is = l
  | [], cs, l, _, _, h => by cases l <;> simp_all [sel]
  | i :: is, cs, [], _, _, h => by simp at h
  | i :: is, cs, c :: l, hn, hlt, h => by
    obtain ⟨h1, h2⟩ := List.nodup_cons.1 hn
    have e : (setAll (cs.set i c) is l)[i]? = some c := by
      rw [setAll_other is _ l i h1, List.getElem?_set_self (hlt i List.mem_cons_self)]
    show sel (setAll (cs.set i c) is l) (i :: is) = c :: l
    unfold sel
    rw [List.filterMap_cons_some e]
    congr 1
    exact setAll_sel is _ l h2 (fun j hj => by rw [List.length_set]; exact hlt j (List.mem_cons_of_mem _ hj)) (by simpa using h)

/-- What a call over the pieces 'is' leaves. -/
theorem Mm.con (hM : Mm w0 F cs w) (is : List Nat) {ms ms' news : List Ch} (hs : sel cs is = ms) (hn : is.Nodup) (hlt : ∀ i ∈ is, i < cs.length) (hl : ms'.length = is.length) (hP : Back ms w (ms' ++ news) w') :
    Mm w0 F (setAll cs is ms' ++ news) w' := by
  subst hs
  have hsz := hM.fr.size
  have hp := sel_perm cs is hn hlt
  have hM1 := hM.perm hp
  have hp2 := sel_perm (setAll cs is ms') is hn (fun i hi => by rw [setAll_length]; exact hlt i hi)
  rw [setAll_sel is cs ms' hn hlt hl, setAll_length] at hp2
  have hrest : sel (setAll cs is ms') (restI cs.length is) = sel cs (restI cs.length is) := by
    have key : ∀ l : List Nat, (∀ k ∈ l, k ∉ is) → sel (setAll cs is ms') l = sel cs l := by
      intro l
      induction l with
      | nil => intro _; rfl
      | cons k l ih =>
        intro h
        have h1 := ih fun j hj => h j (List.mem_cons_of_mem _ hj)
        unfold sel at h1 ⊢
        rw [List.filterMap_cons, List.filterMap_cons, setAll_other is cs ms' k (h k List.mem_cons_self), h1]
    refine key _ fun k hk => ?_
    simpa [restI] using (List.mem_filter.1 hk).2
  rw [hrest] at hp2
  generalize sel cs is = ms at hM1 hP hp
  generalize sel cs (restI cs.length is) = rest at hM1 hp hp2
  refine Mm.perm (cs := ms' ++ news ++ rest) ?_ ?_
  · have hnd := hM1.nodup
    rw [List.flatMap_append, List.nodup_append] at hnd
    have hdis : ∀ b ∈ rest.flatMap Ch.fp, b ∉ ms.flatMap Ch.fp := fun b hb hb' => hnd.2.2 b hb' b hb rfl
    have hown : ∀ b ∈ ms.flatMap Ch.fp, b ∈ F ∨ w0.heap.size ≤ b := fun b hb => hM1.own b (by rw [List.flatMap_append]; exact List.mem_append_left _ hb)
    refine ⟨hM.fr.trans' hP.fr hown, ?_, ?_, ?_⟩
    · intro c hc
      rcases List.mem_append.1 hc with hc | hc
      · exact hP.hold c hc
      · have hh := hM1.hold c (List.mem_append_right _ hc)
        exact c.ok w w' (fun b hb => hP.fr.block b (c.lt w hh b hb) (hdis b (List.mem_flatMap.2 ⟨c, hc, hb⟩))) hh
    · rw [List.flatMap_append, List.nodup_append]
      refine ⟨hP.nodup, hnd.2.1, fun a ha b hb e => ?_⟩
      subst e
      rcases hP.own a ha with h1 | h1
      · exact hdis a hb h1
      · obtain ⟨c, hc, hbc⟩ := List.mem_flatMap.1 hb
        have := c.lt w (hM1.hold c (List.mem_append_right _ hc)) a hbc
        omega
    · intro b hb
      rw [List.flatMap_append] at hb
      rcases List.mem_append.1 hb with hb | hb
      · rcases hP.own b hb with h1 | h1
        · exact hown b h1
        · exact .inr (by omega)
      · exact hM1.own b (by rw [List.flatMap_append]; exact List.mem_append_right _ hb)
  · refine List.Perm.trans ?_ (hp2.symm.append_right news)
    rw [List.append_assoc, List.append_assoc]
    exact List.Perm.append_left _ List.perm_append_comm
theorem Mm.sels (hM : Mm w0 F cs w) (is : List Nat) {ms : List Ch} (hs : sel cs is = ms) (hn : is.Nodup) (hlt : ∀ i ∈ is, i < cs.length) : Own ms w := by
  subst hs
  have hM1 := hM.perm (sel_perm cs is hn hlt)
  have hM2 := hM1.sub (List.sublist_append_left _ _)
  exact ⟨Fr.refl _ _, hM2.hold, hM2.nodup, fun b hb => .inl hb⟩
/-- What a call made lies beside what there was. -/
theorem Mm.con0 {news : List Ch} (hM : Mm w0 F cs w) (hP : Back [] w news w') : Mm w0 F (cs ++ news) w' := hM.con [] (ms := []) (ms' := []) (news := news) rfl List.nodup_nil (by simp) rfl hP
end

/-- The places are right. -/
def isOk (n : Nat) : List Nat → Bool
  | [] => true
  | i :: is => Nat.blt i n && !is.contains i && isOk n is
theorem isOk_spec {n : Nat} : ∀ {is : List Nat}, isOk n is = true → is.Nodup ∧ ∀ i ∈ is, i < n
  | [], _ => by simp
  | i :: is, h => by
    simp only [isOk, Bool.and_eq_true, Bool.not_eq_true'] at h
    obtain ⟨h1, h2⟩ := isOk_spec h.2
    refine ⟨List.nodup_cons.2 ⟨by simpa using h.1.2, h1⟩, fun j hj => ?_⟩
    rcases List.mem_cons.1 hj with rfl | hj
    · exact (Nat.blt_eq (x := j) (y := n)) ▸ h.1.1
    · exact h2 j hj

section
variable {P : Program} {Q : Exit → Act → World → Prop} {n : Nat} {w0 : World} {F : List Nat} {E : Env} {cs : List Ch} {X K : Act → World → Prop} {ops : Array Oper} {o oi : Oper} {rest : List Oper} {d : Nat}

/-! ### Calls -/
/-- A call over the pieces 'is' (what they are afterwards: ms'; what is new: news). -/
theorem opK (is : List Nat) (ms : List Ch) {f : FuncId} {args : Array Value} 
    (h : ∀ w, Mm w0 F cs w → Own ms w → Calls P f args w fun e w' => ∃ v ms' news, e = .returned v ∧ Back ms w (ms' ++ news) w' ∧ ms'.length = is.length ∧ St n w0 F ((d, v) :: E) (setAll cs is ms' ++ news) K)
    (hd : o.dst = some d := by rfl) (hs : sel cs is = ms := by rfl) (hi : isOk cs.length is = true := by rfl) (hk : opOk n E o = true := by kernel_rfl) (hr : ∀ w, (execOp (evE E) o).run P w = .ok (.enter f args) w := by intro _; kernel_rfl) : OpW P Q n w0 F E cs o K := by
  obtain ⟨h1, h2⟩ := isOk_spec hi
  refine opCall f args hd hk hr fun w hM => (h w hM (hM.sels is hs h1 h2)).mono ?_
  rintro e w' ⟨v, ms', news, rfl, hB, hl, hS⟩
  exact ⟨v, _, rfl, hM.con is hs h1 h2 hl hB, hS⟩
theorem opK0 {f : FuncId} {args : Array Value} 
    (h : ∀ w, Mm w0 F cs w → Calls P f args w fun e w' => ∃ v news, e = .returned v ∧ Back [] w news w' ∧ St n w0 F ((d, v) :: E) (cs ++ news) K)
    (hd : o.dst = some d := by rfl) (hk : opOk n E o = true := by kernel_rfl) (hr : ∀ w, (execOp (evE E) o).run P w = .ok (.enter f args) w := by intro _; kernel_rfl) : OpW P Q n w0 F E cs o K := by
  refine opCall f args hd hk hr fun w hM => (h w hM).mono ?_
  rintro e w' ⟨v, news, rfl, hB, hS⟩
  exact ⟨v, _, rfl, hM.con0 hB, hS⟩

/-! ### Short words -/
theorem lc (v : Value) (h : St n w0 F ((d, v) :: E) cs (wpList P ops Q rest)) (hg : o.guard = none := by rfl) (hd : o.dst = some d := by rfl) (hk : opOk n E o = true := by kernel_rfl) (hr : ∀ w, (execOp (evE E) o).run P w = .ok (.value v) w := by intro _; kernel_rfl) : St n w0 F E cs (wpList P ops Q (o :: rest)) := li hg (opVal v hd hk (fun w _ => hr w) h)
theorem lv {v : Value} (hr : RunV P w0 F cs E o v) (h : St n w0 F ((d, v) :: E) cs (wpList P ops Q rest)) (hg : o.guard = none := by rfl) (hd : o.dst = some d := by rfl) (hk : opOk n E o = true := by kernel_rfl) : St n w0 F E cs (wpList P ops Q (o :: rest)) := li hg (opVal v hd hk hr h)

/-! ### Rows of strings and bytes -/
/-- The cells of a list of strings. -/
abbrev SS (l : List (List UInt8)) : List Value := l.map fun p => .string (strOf p)
theorem SS_at {l : List (List UInt8)} {i : Nat} {x : List UInt8} (h : l[i]? = some x) : (SS l)[i]? = some (.string (strOf x)) := by simp [h]
theorem B8_at {l : List UInt8} {i : Nat} {x : UInt8} (h : l[i]? = some x) : (B8 l)[i]? = some (.int .u8 ((x.toNat : Nat) : Int)) := B8_get l i x h
theorem rowAtI {w : World} {b : Nat} {t : TypeId} {l xs : List Value} (h : At w b t l) (e : xs = l) : RowIn w (some ⟨b, 0, none⟩) xs := fun j v hj => ⟨b, 0, rfl, h.lt, by rw [h.cell, Nat.zero_add, ← e]; exact hj⟩
theorem row_form {w : World} {A : Option Addr} {xs : List Value} {i : Nat} {v : Value} (h : RowIn w A xs) (hx : xs[i]? = some v) : ∃ b o, A = some ⟨b, o, none⟩ := by
  obtain ⟨b, o, hA, _⟩ := h i v hx
  exact ⟨b, o, hA⟩
theorem row_cell {w : World} {A : Option Addr} {xs : List Value} {i b o : Nat} {v : Value} (h : RowIn w A xs) (hx : xs[i]? = some v) (hA : A = some ⟨b, o, none⟩) : w.cell? ⟨b, o + i, none⟩ = some v := by
  obtain ⟨b', o', hA', _, hc⟩ := h i v hx
  rw [hA] at hA'
  injection hA' with hA'
  injection hA' with h1 h2
  subst h1 h2
  exact hc
theorem Ro.nil (S : List Nat) (w : World) : Ro S w (fun w => RowIn w none []) := fun _ _ i x hx => by simp at hx
theorem St.rowPtr {A : Option Addr} {xs : List Value} {i : Nat} {v : Value} (h : ∀ w, Mm w0 F cs w → RowIn w A xs) (hx : xs[i]? = some v) (k : ∀ b o, A = some ⟨b, o, none⟩ → (∀ w, Mm w0 F cs w → w.cell? ⟨b, o + i, none⟩ = some v) → St n w0 F E cs X) : St n w0 F E cs X := fun a w ha hM => by
  obtain ⟨b, o, hA⟩ := row_form (h w hM) hx
  exact k b o hA (fun w' hM' => row_cell (h w' hM') hx hA) a w ha hM
theorem Any.rowPtr {css : List Ch} {z fuel : Nat} {listed : Array Bool} {A : Option Addr} {xs : List Value} {i : Nat} {v : Value} (h : ∀ w, Mm w0 F css w → RowIn w A xs) (hx : xs[i]? = some v) (k : ∀ b o, A = some ⟨b, o, none⟩ → (∀ w, Mm w0 F css w → w.cell? ⟨b, o + i, none⟩ = some v) → Any P ops Q n w0 F E cs css z fuel listed) : Any P ops Q n w0 F E cs css z fuel listed := fun a w ha hM hS hc => by
  obtain ⟨b, o, hA⟩ := row_form (h w hS) hx
  exact k b o hA (fun w' hM' => row_cell (h w' hM') hx hA) a w ha hM hS hc
theorem rIndexRow {ty e : TypeId} {x i : Operand} {A : Option Addr} {b off len cap j : Nat} {k : IntKind} (ho : o.op = .indexAddr ty x i) (hu : P.underlying ty = some (.slice e)) (hsz : sizeT P e = some 1) (hx : evO E x = some (.slice A len cap)) (hi : evO E i = some (.int k (j : Int))) (hA : A = some ⟨b, off, none⟩) (hlt : j < len) : RunV P w0 F cs E o (.pointer (some ⟨b, off + j, none⟩)) := by
  subst hA
  exact rIndexAddr1 ho hu hsz hx hi hlt
/-- A guard on a slot that was not carried out itself. -/
def yieldU (ops : Array Oper) (E : Env) (i : Nat) : Bool :=
  match (ops[i]?).bind (·.dst) with
  | some t => match look? E t with | some (.bool _) => false | some _ => true | none => false
  | none => false
theorem yield_un {a : Act} (ha : Ev n E a) {i : Nat} (h : yieldU ops E i = true) : yielded ops a.tmps i = none := by
  unfold yieldU at h
  unfold yielded
  cases hd : (ops[i]?).bind (·.dst) with
  | none => rw [hd] at h; cases h
  | some t =>
    rw [hd] at h
    cases hl : look? E t with
    | none => simp only [hl] at h; cases h
    | some v =>
      simp only [hl] at h
      have h1 := ha.val t _ hl
      rw [Array.getD_eq_getD_getElem?] at h1
      cases h2 : a.tmps[t]? with
      | none => simp [h2]
      | some u =>
        rw [h2] at h1
        simp only [Option.getD_some] at h1
        subst h1
        cases u <;> first | (cases h; done) | (simp only [Option.bind_some, h2])
theorem liNotU {i : Nat} {b : Bool} (hg : o.guard = some (i, b)) (ht : o.dst = some d) (hd : dstOk n (some d) = true) (hy : yieldU ops E i = true) (h : St n w0 F ((d, undef) :: E) cs (wpList P ops Q rest)) : St n w0 F E cs (wpList P ops Q (o :: rest)) :=
  fun a w ha hM => wpList_step fun _ hK => by
    rw [if_neg (by simp [Region.wanted, hg, yield_un ha hy])]
    rw [ht]
    exact hK _ _ (h _ _ (ha.put hd undef) hM)
theorem anyNotU {css : List Ch} {z fuel : Nat} {listed : Array Bool} {i j : Nat} {b : Bool} (hi : ops[i]? = some oi) (hd : oi.dst = some d) (hg : oi.guard = some (j, b)) (hy : yieldU ops E j = true) (ht : tOk ops listed z i = true) (hdk : dstOk n (some d) = true) (hQ : ∀ c a w, Q (.panic c) (a.put oi.dst undef) w → Q (.panic c) a w)
    (h : Any P ops Q n w0 F ((d, undef) :: E) cs css z fuel (listed.setIfInBounds i true)) : Any P ops Q n w0 F E cs css z (fuel + 1) listed := by
  intro a w ha hM hS hc
  obtain ⟨t1, t2, t3, t4, t5⟩ := tOk_spec ht
  refine wpAnyJ_first hi (Region.noSelect_spec t1) hQ t4 fuel listed a w hc t5 (Region.free_spec hi t2) t3 ?_ hS (by rw [hd]; exact h _ _ (ha.put hdk undef) hM hS (hc.set t3))
  exact .inr ⟨by simp [Region.wanted, hg, yield_un ha hy], rfl⟩
theorem opMem {cs' : List Ch} (hp : ∀ w, Mm w0 F cs w → Mm w0 F cs' w) (h : OpW P Q n w0 F E cs' o K) : OpW P Q n w0 F E cs o K := fun a w ha hM => h a w ha (hp w hM)
theorem Ro.goS {Φ : World → Prop} {w : World} (h : Ro F w0 Φ) (hM : Mm w0 F cs w) (is : List Nat) {ms : List Ch} (hs : sel cs is = ms := by rfl) : Rf ms w Φ := h.go hM fun c hc => by
  rw [← hs] at hc
  obtain ⟨i, _, hi⟩ := List.mem_filterMap.1 hc
  exact List.mem_of_getElem? hi
theorem Mm.keepS {Φ : World → Prop} {w : World} (hM : Mm w0 F cs w) (is : List Nat) {ms : List Ch} {j : Nat} {c : Ch} (hj : cs[j]? = some c) (hi : ∀ w, c.holds w → Φ w) (hs : sel cs is = ms := by rfl) (hn : is.contains j = false := by rfl) : Rf ms w Φ := hM.keep hj (fun m hm => by
  rw [← hs] at hm
  obtain ⟨i, h1, h2⟩ := List.mem_filterMap.1 hm
  exact ⟨i, h2, fun e => by subst e; simp at hn; exact hn h1⟩) hi

/-! ### More operations -/
theorem strOf_sz (p : List UInt8) : (strOf p).size = p.length := by simp [strOf, ByteArray.size]
theorem strOf_append (p q : List UInt8) : strOf p ++ strOf q = strOf (p ++ q) := by
  apply ByteArray.ext
  simp [strOf, ByteArray.data_append]
theorem rLenS {x : Operand} {t : TypeId} {p : List UInt8} (ho : o.op = .call { callee := .builtin .len, args := #[x], argTypes := #[t] }) (hx : evO E x = some (.string (strOf p))) (ht : P.underlying t = some .string) : RunV P w0 F cs E o (.int .i64 ((p.length : Nat) : Int)) := fun w _ => by
  unfold execOp
  simp only [ho, resolve, invoke, builtin, Sem.run_bind, Sem.run_pure, Result.andThen_ok, List.map_toArray, List.map_cons, List.map_nil, evE_of hx, Builtin.len_]
  simp [Sem.run_bind, run_underlying ht, strOf_sz, goInt]
theorem rStrAdd {ty u : TypeId} {x y : Operand} {p q : List UInt8} (ho : o.op = .binOp .add ty x y u) (hx : evO E x = some (.string (strOf p))) (hy : evO E y = some (.string (strOf q))) (hl : p.length + q.length ≤ 9223372036854775807) : RunV P w0 F cs E o (.string (strOf (p ++ q))) := fun w _ => by
  unfold execOp
  simp only [ho, evE_of hx, evE_of hy, Sem.run_bind, eqGuard, binOp, Op.stringOp, strOf_sz]
  simp [strOf_append]
  omega
theorem rMaxN {x y : Operand} {t1 t2 : TypeId} {k : IntKind} {a b : Nat} (ho : o.op = .call { callee := .builtin .max, args := #[x, y], argTypes := #[t1, t2] }) (hx : evO E x = some (.int k (a : Int))) (hy : evO E y = some (.int k (b : Int))) : RunV P w0 F cs E o (.int k ((max a b : Nat) : Int)) := fun w _ => by
  unfold execOp
  simp only [ho, resolve, invoke, builtin, Sem.run_bind, Sem.run_pure, Result.andThen_ok, List.map_toArray, List.map_cons, List.map_nil, evE_of hx, evE_of hy, Builtin.max_, List.foldlM_cons, List.foldlM_nil, Builtin.max2]
  congr 3
  split <;> omega
theorem rMinN {x y : Operand} {t1 t2 : TypeId} {k : IntKind} {a b : Nat} (ho : o.op = .call { callee := .builtin .min, args := #[x, y], argTypes := #[t1, t2] }) (hx : evO E x = some (.int k (a : Int))) (hy : evO E y = some (.int k (b : Int))) : RunV P w0 F cs E o (.int k ((min a b : Nat) : Int)) := fun w _ => by
  unfold execOp
  simp only [ho, resolve, invoke, builtin, Sem.run_bind, Sem.run_pure, Result.andThen_ok, List.map_toArray, List.map_cons, List.map_nil, evE_of hx, evE_of hy, Builtin.min_, List.foldlM_cons, List.foldlM_nil, Builtin.min2]
  congr 3
  split <;> omega
/-- A block whose first cells are known. -/
def cBlk (b : Nat) (t : TypeId) (xs : List Value) : Ch where
  fp := [b]
  holds w := ∃ (l : Array Value) (fz : Nat × Nat), w.heap[b]? = some (.cells l t fz) ∧ ∀ (j : Nat) (v : Value), xs[j]? = some v → l[j]? = some v
  ok w w' hb h := by
    obtain ⟨l, fz, h1, h2⟩ := h
    exact ⟨l, fz, (hb b (by simp)).trans h1, h2⟩
  lt w h c hc := by
    rw [List.mem_singleton] at hc
    subst hc
    obtain ⟨_, _, h1, _⟩ := h
    exact (Array.getElem?_eq_some_iff.1 h1).1
theorem cBlk_row {w : World} {b : Nat} {t : TypeId} {xs : List Value} (h : (cBlk b t xs).holds w) : RowIn w (some ⟨b, 0, none⟩) xs := fun j v hj => by
  obtain ⟨l, fz, h1, h2⟩ := h
  refine ⟨b, 0, rfl, (Array.getElem?_eq_some_iff.1 h1).1, ?_⟩
  rw [Nat.zero_add]
  simp [World.cell?, h1, h2 j v hj]
theorem rowRow {i b : Nat} {t : TypeId} {xs : List Value} (hi : cs[i]? = some (cBlk b t xs)) : ∀ w, Mm w0 F cs w → RowIn w (some ⟨b, 0, none⟩) xs := fun _ hM => cBlk_row (hM.at hi)
theorem run_bytesOf {src dst e : TypeId} (bs : List UInt8) (hs : P.underlying src = some .string) (ht : P.underlying dst = some (.slice e)) (he : P.underlying e = some (.int .u8)) (w : World) :
    ∃ (c : Nat) (l : Array Value) (fz : Nat × Nat), (convert src dst (.string (strOf bs))).run P w = .ok (.slice (some ⟨w.heap.size, 0, none⟩) bs.length c) (w.drew.alloc (.cells l e fz)) ∧ ∀ (j : Nat) (v : Value), (B8 bs)[j]? = some v → l[j]? = some v := by
  have hr := run_bytes_of_string (P := P) w src dst e (strOf bs) hs ht he
  rw [strOf_sz] at hr
  refine ⟨_, _, _, hr, fun j v hj => ?_⟩
  have hlt := (List.getElem?_eq_some_iff.1 hj).1
  rw [B8_length] at hlt
  unfold bytesRow
  rw [Array.getElem?_append_left (by simp [strOf]; exact hlt)]
  simpa [strOf, B8] using hj
theorem opBytes {src dst e : TypeId} {x : Operand} {bs : List UInt8} (ho : o.op = .convert src dst x) (hd : o.dst = some d) (hs : P.underlying src = some .string) (ht : P.underlying dst = some (.slice e)) (he : P.underlying e = some (.int .u8)) (hk : opOk n E o = true) (hx : evO E x = some (.string (strOf bs)))
    (h : ∀ b c, St n w0 F ((d, .slice (some ⟨b, 0, none⟩) bs.length c) :: E) (cs ++ [cBlk b e (B8 bs)]) K) : OpW P Q n w0 F E cs o K :=
  opEff hd hk fun w hM => by
    obtain ⟨c, l, fz, hr, hl⟩ := run_bytesOf (P := P) bs hs ht he w
    have hp : (cBlk w.heap.size e (B8 bs)).holds (w.drew.alloc (.cells l e fz)) := ⟨l, fz, heap_alloc_new w.drew _, hl⟩
    refine ⟨.slice (some ⟨w.heap.size, 0, none⟩) bs.length c, w.drew.alloc (.cells l e fz), cs ++ [cBlk w.heap.size e (B8 bs)], ?_, hM.push (c := cBlk w.heap.size e (B8 bs)) (((Fr.refl _ _).drew).alloc _) hp (by simp [cBlk]) (by simp [cBlk]), h _ _⟩
    unfold execOp
    simp only [ho, evE_of hx, Sem.run_bind, hr]
    rfl
theorem lm {x : Operand} {v : Value} (h : St n w0 F ((d, v) :: E) cs (wpList P ops Q rest)) (ho : o.op = .move x := by rfl) (hx : evO E x = some v := by rfl) (hg : o.guard = none := by rfl) (hd : o.dst = some d := by rfl) (hk : opOk n E o = true := by kernel_rfl) : St n w0 F E cs (wpList P ops Q (o :: rest)) := lv (rMove ho hx) h hg hd hk
theorem la {x : Operand} {v : Value} (h : St n w0 F ((d, v) :: E) cs (wpList P ops Q rest)) (ho : o.op = .assign x := by rfl) (hx : evO E x = some v := by rfl) (hg : o.guard = none := by rfl) (hd : o.dst = some d := by rfl) (hk : opOk n E o = true := by kernel_rfl) : St n w0 F E cs (wpList P ops Q (o :: rest)) := lv (rAssign ho hx) h hg hd hk
section
variable {i : Nat} {b : Bool}
theorem lgv {v : Value} (hr : RunV P w0 F cs E o v) (h : St n w0 F ((d, v) :: E) cs (wpList P ops Q rest)) (hg : o.guard = some (i, b) := by rfl) (hy : yieldE ops E i = some b := by rfl) (hd : o.dst = some d := by rfl) (hk : opOk n E o = true := by kernel_rfl) : St n w0 F E cs (wpList P ops Q (o :: rest)) := liGo hg hy (opVal v hd hk hr h)
theorem lgc (v : Value) (h : St n w0 F ((d, v) :: E) cs (wpList P ops Q rest)) (hg : o.guard = some (i, b) := by rfl) (hy : yieldE ops E i = some b := by rfl) (hd : o.dst = some d := by rfl) (hk : opOk n E o = true := by kernel_rfl) (hr : ∀ w, (execOp (evE E) o).run P w = .ok (.value v) w := by intro _; kernel_rfl) : St n w0 F E cs (wpList P ops Q (o :: rest)) := liGo hg hy (opVal v hd hk (fun w _ => hr w) h)
theorem lgm {x : Operand} {v : Value} (h : St n w0 F ((d, v) :: E) cs (wpList P ops Q rest)) (ho : o.op = .move x := by rfl) (hx : evO E x = some v := by rfl) (hg : o.guard = some (i, b) := by rfl) (hy : yieldE ops E i = some b := by rfl) (hd : o.dst = some d := by rfl) (hk : opOk n E o = true := by kernel_rfl) : St n w0 F E cs (wpList P ops Q (o :: rest)) := lgv (rMove ho hx) h hg hy hd hk
theorem lga {x : Operand} {v : Value} (h : St n w0 F ((d, v) :: E) cs (wpList P ops Q rest)) (ho : o.op = .assign x := by rfl) (hx : evO E x = some v := by rfl) (hg : o.guard = some (i, b) := by rfl) (hy : yieldE ops E i = some b := by rfl) (hd : o.dst = some d := by rfl) (hk : opOk n E o = true := by kernel_rfl) : St n w0 F E cs (wpList P ops Q (o :: rest)) := lgv (rAssign ho hx) h hg hy hd hk
theorem lnT (h : St n w0 F ((d, undef) :: E) cs (wpList P ops Q rest)) (hg : o.guard = some (i, false) := by rfl) (ht : o.dst = some d := by rfl) (hd : dstOk n (some d) = true := by kernel_rfl) (hy : yieldE ops E i = some true := by rfl) : St n w0 F E cs (wpList P ops Q (o :: rest)) := liNot (b := true) hg ht hd hy h
theorem lnF (h : St n w0 F ((d, undef) :: E) cs (wpList P ops Q rest)) (hg : o.guard = some (i, true) := by rfl) (ht : o.dst = some d := by rfl) (hd : dstOk n (some d) = true := by kernel_rfl) (hy : yieldE ops E i = some false := by rfl) : St n w0 F E cs (wpList P ops Q (o :: rest)) := liNot (b := false) hg ht hd hy h
theorem lnU (h : St n w0 F ((d, undef) :: E) cs (wpList P ops Q rest)) (hg : o.guard = some (i, b) := by rfl) (ht : o.dst = some d := by rfl) (hd : dstOk n (some d) = true := by kernel_rfl) (hy : yieldU ops E i = true := by rfl) : St n w0 F E cs (wpList P ops Q (o :: rest)) := liNotU hg ht hd hy h
variable {css : List Ch} {z fuel : Nat} {listed : Array Bool} {j : Nat}
theorem av (i : Nat) {oi : Oper} (v : Value) (hi : ops[i]? = some oi) (hr : RunV P w0 F css E oi v) (h : Any P ops Q n w0 F ((d, v) :: E) cs css z fuel (listed.setIfInBounds i true)) (hd : oi.dst = some d := by rfl) (hg : oi.guard = none := by rfl) (ht : tOk ops listed z i = true := by kernel_rfl) (hk : opOk n E oi = true := by kernel_rfl) (hQ : ∀ c a w, Q (.panic c) (a.put oi.dst v) w → Q (.panic c) a w := by exact fun _ _ _ h => h) : Any P ops Q n w0 F E cs css z (fuel + 1) listed := anyVal v hi hd hg ht hk hQ hr h
theorem ac (i : Nat) {oi : Oper} (v : Value) (h : Any P ops Q n w0 F ((d, v) :: E) cs css z fuel (listed.setIfInBounds i true)) (hi : ops[i]? = some oi := by rfl) (hd : oi.dst = some d := by rfl) (hg : oi.guard = none := by rfl) (ht : tOk ops listed z i = true := by kernel_rfl) (hk : opOk n E oi = true := by kernel_rfl) (hQ : ∀ c a w, Q (.panic c) (a.put oi.dst v) w → Q (.panic c) a w := by exact fun _ _ _ h => h) (hr : ∀ w, (execOp (evE E) oi).run P w = .ok (.value v) w := by intro _; kernel_rfl) : Any P ops Q n w0 F E cs css z (fuel + 1) listed := anyVal v hi hd hg ht hk hQ (fun w _ => hr w) h
theorem am (i : Nat) {oi : Oper} {x : Operand} {v : Value} (h : Any P ops Q n w0 F ((d, v) :: E) cs css z fuel (listed.setIfInBounds i true)) (hi : ops[i]? = some oi := by rfl) (ho : oi.op = .move x := by rfl) (hx : evO E x = some v := by rfl) (hd : oi.dst = some d := by rfl) (hg : oi.guard = none := by rfl) (ht : tOk ops listed z i = true := by kernel_rfl) (hk : opOk n E oi = true := by kernel_rfl) (hQ : ∀ c a w, Q (.panic c) (a.put oi.dst v) w → Q (.panic c) a w := by exact fun _ _ _ h => h) : Any P ops Q n w0 F E cs css z (fuel + 1) listed := anyVal v hi hd hg ht hk hQ (rMove ho hx) h
theorem aa (i : Nat) {oi : Oper} {x : Operand} {v : Value} (h : Any P ops Q n w0 F ((d, v) :: E) cs css z fuel (listed.setIfInBounds i true)) (hi : ops[i]? = some oi := by rfl) (ho : oi.op = .assign x := by rfl) (hx : evO E x = some v := by rfl) (hd : oi.dst = some d := by rfl) (hg : oi.guard = none := by rfl) (ht : tOk ops listed z i = true := by kernel_rfl) (hk : opOk n E oi = true := by kernel_rfl) (hQ : ∀ c a w, Q (.panic c) (a.put oi.dst v) w → Q (.panic c) a w := by exact fun _ _ _ h => h) : Any P ops Q n w0 F E cs css z (fuel + 1) listed := anyVal v hi hd hg ht hk hQ (rAssign ho hx) h
theorem agv (i : Nat) {oi : Oper} (v : Value) (hi : ops[i]? = some oi) (hr : RunV P w0 F css E oi v) (h : Any P ops Q n w0 F ((d, v) :: E) cs css z fuel (listed.setIfInBounds i true)) (hd : oi.dst = some d := by rfl) (hg : oi.guard = some (j, b) := by rfl) (hy : yieldE ops E j = some b := by rfl) (ht : tOk ops listed z i = true := by kernel_rfl) (hk : opOk n E oi = true := by kernel_rfl) (hQ : ∀ c a w, Q (.panic c) (a.put oi.dst v) w → Q (.panic c) a w := by exact fun _ _ _ h => h) : Any P ops Q n w0 F E cs css z (fuel + 1) listed := anyValG v hi hd hg hy ht hk hQ hr h
theorem agc (i : Nat) {oi : Oper} (v : Value) (h : Any P ops Q n w0 F ((d, v) :: E) cs css z fuel (listed.setIfInBounds i true)) (hi : ops[i]? = some oi := by rfl) (hd : oi.dst = some d := by rfl) (hg : oi.guard = some (j, b) := by rfl) (hy : yieldE ops E j = some b := by rfl) (ht : tOk ops listed z i = true := by kernel_rfl) (hk : opOk n E oi = true := by kernel_rfl) (hQ : ∀ c a w, Q (.panic c) (a.put oi.dst v) w → Q (.panic c) a w := by exact fun _ _ _ h => h) (hr : ∀ w, (execOp (evE E) oi).run P w = .ok (.value v) w := by intro _; kernel_rfl) : Any P ops Q n w0 F E cs css z (fuel + 1) listed := anyValG v hi hd hg hy ht hk hQ (fun w _ => hr w) h
theorem agm (i : Nat) {oi : Oper} {x : Operand} {v : Value} (h : Any P ops Q n w0 F ((d, v) :: E) cs css z fuel (listed.setIfInBounds i true)) (hi : ops[i]? = some oi := by rfl) (ho : oi.op = .move x := by rfl) (hx : evO E x = some v := by rfl) (hd : oi.dst = some d := by rfl) (hg : oi.guard = some (j, b) := by rfl) (hy : yieldE ops E j = some b := by rfl) (ht : tOk ops listed z i = true := by kernel_rfl) (hk : opOk n E oi = true := by kernel_rfl) (hQ : ∀ c a w, Q (.panic c) (a.put oi.dst v) w → Q (.panic c) a w := by exact fun _ _ _ h => h) : Any P ops Q n w0 F E cs css z (fuel + 1) listed := anyValG v hi hd hg hy ht hk hQ (rMove ho hx) h
theorem aga (i : Nat) {oi : Oper} {x : Operand} {v : Value} (h : Any P ops Q n w0 F ((d, v) :: E) cs css z fuel (listed.setIfInBounds i true)) (hi : ops[i]? = some oi := by rfl) (ho : oi.op = .assign x := by rfl) (hx : evO E x = some v := by rfl) (hd : oi.dst = some d := by rfl) (hg : oi.guard = some (j, b) := by rfl) (hy : yieldE ops E j = some b := by rfl) (ht : tOk ops listed z i = true := by kernel_rfl) (hk : opOk n E oi = true := by kernel_rfl) (hQ : ∀ c a w, Q (.panic c) (a.put oi.dst v) w → Q (.panic c) a w := by exact fun _ _ _ h => h) : Any P ops Q n w0 F E cs css z (fuel + 1) listed := anyValG v hi hd hg hy ht hk hQ (rAssign ho hx) h
theorem anT (i : Nat) {oi : Oper} (h : Any P ops Q n w0 F ((d, undef) :: E) cs css z fuel (listed.setIfInBounds i true)) (hi : ops[i]? = some oi := by rfl) (hd : oi.dst = some d := by rfl) (hg : oi.guard = some (j, false) := by rfl) (hy : yieldE ops E j = some true := by rfl) (ht : tOk ops listed z i = true := by kernel_rfl) (hdk : dstOk n (some d) = true := by kernel_rfl) (hQ : ∀ c a w, Q (.panic c) (a.put oi.dst undef) w → Q (.panic c) a w := by exact fun _ _ _ h => h) : Any P ops Q n w0 F E cs css z (fuel + 1) listed := anyNot (b := true) hi hd hg hy ht hdk hQ h
theorem anF (i : Nat) {oi : Oper} (h : Any P ops Q n w0 F ((d, undef) :: E) cs css z fuel (listed.setIfInBounds i true)) (hi : ops[i]? = some oi := by rfl) (hd : oi.dst = some d := by rfl) (hg : oi.guard = some (j, true) := by rfl) (hy : yieldE ops E j = some false := by rfl) (ht : tOk ops listed z i = true := by kernel_rfl) (hdk : dstOk n (some d) = true := by kernel_rfl) (hQ : ∀ c a w, Q (.panic c) (a.put oi.dst undef) w → Q (.panic c) a w := by exact fun _ _ _ h => h) : Any P ops Q n w0 F E cs css z (fuel + 1) listed := anyNot (b := false) hi hd hg hy ht hdk hQ h
theorem anU (i : Nat) {oi : Oper} (h : Any P ops Q n w0 F ((d, undef) :: E) cs css z fuel (listed.setIfInBounds i true)) (hi : ops[i]? = some oi := by rfl) (hd : oi.dst = some d := by rfl) (hg : oi.guard = some (j, b) := by rfl) (hy : yieldU ops E j = true := by rfl) (ht : tOk ops listed z i = true := by kernel_rfl) (hdk : dstOk n (some d) = true := by kernel_rfl) (hQ : ∀ c a w, Q (.panic c) (a.put oi.dst undef) w → Q (.panic c) a w := by exact fun _ _ _ h => h) : Any P ops Q n w0 F E cs css z (fuel + 1) listed := anyNotU hi hd hg hy ht hdk hQ h
theorem a1 (i : Nat) {oi : Oper} (h : OpW P Q n w0 F E cs oi (AnyK P ops Q w0 F css z fuel listed i)) (hr : Region.ready .any ops listed = [i] := by kernel_rfl) (hi : ops[i]? = some oi := by rfl) (hg : oi.guard = none := by rfl) : Any P ops Q n w0 F E cs css z (fuel + 1) listed := anyOne hr hi hg h
theorem a1g (i : Nat) {oi : Oper} (h : OpW P Q n w0 F E cs oi (AnyK P ops Q w0 F css z fuel listed i)) (hr : Region.ready .any ops listed = [i] := by kernel_rfl) (hi : ops[i]? = some oi := by rfl) (hg : oi.guard = some (j, b) := by rfl) (hy : yieldE ops E j = some b := by rfl) : Any P ops Q n w0 F E cs css z (fuel + 1) listed := anyOneG hr hi hg hy h
end
theorem anyThree {css : List Ch} {z fuel : Nat} {listed : Array Bool} {i j k : Nat} {ok : Oper} {oj : Oper} (hr : Region.ready .any ops listed = [i, j, k]) (hi : ops[i]? = some oi) (hgi : oi.guard = none) (hj : ops[j]? = some oj) (hgj : oj.guard = none) (hk : ops[k]? = some ok) (hgk : ok.guard = none)
    (h : OpW P Q n w0 F E cs oi (AnyK P ops Q w0 F css z fuel listed i)) (h' : OpW P Q n w0 F E cs oj (AnyK P ops Q w0 F css z fuel listed j)) (h'' : OpW P Q n w0 F E cs ok (AnyK P ops Q w0 F css z fuel listed k)) : Any P ops Q n w0 F E cs css z (fuel + 1) listed :=
  anyAll hr rfl (fun m hm => by
    rcases List.mem_cons.1 hm with rfl | hm
    · exact ⟨oi, hi, hgi, h⟩
    · rcases List.mem_cons.1 hm with rfl | hm
      · exact ⟨oj, hj, hgj, h'⟩
      · rw [List.mem_singleton] at hm; subst hm; exact ⟨ok, hk, hgk, h''⟩)
theorem St.to (cs' : List Ch) (hc : cs = cs') (h : St n w0 F E cs' X) : St n w0 F E cs X := by rw [hc]; exact h
theorem St.drop {cs' : List Ch} (hc : cs'.Sublist cs) (h : St n w0 F E cs' X) : St n w0 F E cs X := fun a w ha hM => h a w ha (hM.sub hc)
theorem own_cap {w : World} {e : TypeId} {sz m c : Nat} {A : Option Addr} {xs : List Value} (h : (cOwn e sz A m c xs).holds w) : m ≤ c := by
  have ho : w.ownsRow 0 e sz (.slice A m c) m xs := h
  rcases ho.2 with ⟨hv, h0⟩ | ⟨g, cap, cur, hv, _, _, hnc, _⟩
  · omega
  · simp only [Value.slice.injEq] at hv
    omega
theorem Any.fact {css : List Ch} {z fuel : Nat} {listed : Array Bool} {p : Prop} (hp : ∀ w, Mm w0 F css w → p) (h : p → Any P ops Q n w0 F E cs css z fuel listed) : Any P ops Q n w0 F E cs css z fuel listed := fun a w ha hM hS hc => h (hp w hS) a w ha hM hS hc
theorem rowTake {α : Type} {f : α → Value} {w : World} {A : Option Addr} {l : List α} (k : Nat) (h : RowIn w A (l.map f)) : RowIn w A ((l.take k).map f) := fun j v hj => by
  rw [List.map_take] at hj
  have hlt := (List.getElem?_eq_some_iff.1 hj).1
  rw [List.length_take] at hlt
  rw [List.getElem?_take_of_lt (by omega)] at hj
  exact h j v hj
theorem rowDrop {α : Type} {f : α → Value} {w : World} {A : Option Addr} {l : List α} {c : Nat} (k : Nat) (h : RowIn w A (l.map f)) (hc : l.length ≤ c) : RowIn w (if c = k then A else A.map (·.add (k * 1))) ((l.drop k).map f) := fun j v hj => by
  rw [List.map_drop, List.getElem?_drop] at hj
  have hlt := (List.getElem?_eq_some_iff.1 hj).1
  rw [List.length_map] at hlt
  obtain ⟨b, o, hA, hb, hcell⟩ := h _ _ hj
  rw [if_neg (by omega), hA]
  refine ⟨b, o + k, ?_, hb, ?_⟩
  · simp [add_none]
  · rw [Nat.add_assoc]
    exact hcell
theorem rowMid {α : Type} {f : α → Value} {w : World} {A : Option Addr} {l : List α} {c : Nat} (k m : Nat) (h : RowIn w A (l.map f)) (hc : l.length ≤ c) : RowIn w (if c = k then A else A.map (·.add (k * 1))) (((l.take m).drop k).map f) := rowDrop k (rowTake m h) (Nat.le_trans (by rw [List.length_take]; omega) hc)
theorem Mm.toOwn0 {w : World} (h : Mm w0 F cs w) (i : Nat) {b : Nat} {e : TypeId} (hi : cs[i]? = some (cAt b e [])) (sz : Nat) : Mm w0 F (cs.set i (cOwn e sz (some ⟨b, 0, none⟩) 0 0 [])) w := by
  have := h.toOwn i hi sz 0 0 (by simp) (Nat.le_refl _) (Nat.zero_le _)
  simpa using this
theorem SS_one {l : List (List UInt8)} : ∀ u ∈ SS l, u.oneCell' = true := by
  intro u hu
  obtain ⟨p, _, rfl⟩ := List.mem_map.1 hu
  rfl
/-- A call of a function value. -/
theorem opKF {f : FuncId} {x y : Operand} {u : Value} {caps : Array Value} {t : Array TypeId} (ho : o.op = .call { callee := .value x, args := #[y], argTypes := t }) (hx : evO E x = some (.func (.func f) #[] caps)) (hy : evO E y = some u) (eg : ∀ args w, (callFunc f args).run P w = .ok (.enter f args) w)
    (h : ∀ w, Mm w0 F cs w → Calls P f (#[u] ++ caps) w fun e w' => ∃ v news, e = .returned v ∧ Back [] w news w' ∧ St n w0 F ((d, v) :: E) (cs ++ news) K)
    (hd : o.dst = some d := by rfl) (hk : opOk n E o = true := by kernel_rfl) : OpW P Q n w0 F E cs o K := by
  refine opK0 (f := f) (args := #[u] ++ caps) h hd hk fun w => ?_
  unfold execOp
  simp only [ho, resolve, evE_of hx, Deferred.ofValue, Sem.run_bind, Sem.run_pure, Result.andThen_ok, invoke, List.map_toArray, List.map_cons, List.map_nil, evE_of hy]
  simpa using eg (#[u] ++ caps) w
theorem enters {f : FuncId} {fn : Func} {c : Code} (hf : P.funcs[f]? = some fn) (hname : (fn.name == "runtime.NumGoroutine") = false) (hb : fn.body = some c) : ∀ args w, (callFunc f args).run P w = .ok (.enter f args) w := by
  intro args w
  have h1 : fn.name ≠ "runtime.NumGoroutine" := by simpa using hname
  simp [callFunc, hf, h1, hb, mark]
theorem segRo {b : Nat} {t : TypeId} {l seg : List Value} (h : Ro F w0 (fun w => At w b t l)) (o' : Nat) (hg : ∀ j v, seg[j]? = some v → l[o' + j]? = some v) : ∀ w, Mm w0 F cs w → ∀ j v, seg[j]? = some v → w.cell? ⟨b, o' + j, none⟩ = some v :=
  fun w hM j v hj => by have h : At w b t l := h.now hM; rw [h.cell]; exact hg j v hj
theorem rShrC {ty u : TypeId} {x : Operand} {kd ks : IntKind} {a k : Nat} (ho : o.op = .binOp .shr ty x (.const (.int ks (k : Int))) u) (hx : evO E x = some (.int kd (a : Int))) (hb : min k kd.bits = k) : RunV P w0 F cs E o (.int kd ((a / 2 ^ k : Nat) : Int)) := fun w _ => by
  unfold execOp
  have e : (a : Int).fdiv (2 ^ k) = ((a / 2 ^ k : Nat) : Int) := by
    rw [Int.fdiv_eq_ediv_of_nonneg _ (Int.pow_nonneg (by decide)), Int.natCast_ediv, Int.natCast_pow]
    rfl
  have h8 : (((k : Nat) : Int).toNat) = k := Int.toNat_natCast k
  simp only [ho, evE_of hx, evE_of (show evO E (.const (.int ks (k : Int))) = some (.int ks (k : Int)) from rfl), Sem.run_bind, run_eqGuard_int, Result.andThen_ok, binOp, Op.shift]
  rw [if_neg (by omega), h8, hb]
  simp only [Sem.run_pure, Result.andThen_ok, e]
theorem rShr1 {ty u : TypeId} {x : Operand} {kd ks : IntKind} {a : Nat} (ho : o.op = .binOp .shr ty x (.const (.int ks 1)) u) (hx : evO E x = some (.int kd (a : Int))) (hb : min 1 kd.bits = 1) : RunV P w0 F cs E o (.int kd ((a / 2 : Nat) : Int)) := rShrC (k := 1) ho hx hb
theorem Mm.of_fr {w w' : World} (hf : Fr [] w w') : Back [] w [] w' := (Mm.start w []).fr0 hf
theorem el_strC : Elem Tryz.prog 22 9 (.string ⟨#[]⟩) 1 16 := ⟨Tryz.underlying22, by kernel_rfl, rfl, by omega, by omega⟩
end
end Go.Proofs.YtlepfnihpdhcaaaGreatDoor
