/- rangesum: parts of messages: plain, and in memory; rows as one piece (cBag). -/
import Derived.Test.YtlepfnihpdhcaaaGreatDoorRs3
import Derived.Test.YtlepfnihpdhcaaaGreatDoorRsPlain
namespace Go.Proofs.YtlepfnihpdhcaaaGreatDoor
open Go.RowKit

/-! ### In memory -/
inductive CV where
  | sum (n : Nat) (f : Bs) | list (A : Option Addr) (c : Nat) (xs : List Bs) | ans (A : Option Addr) (c : Nat) (xs : List Bs) (B : Option Addr) (d : Nat) (ms : List Bs)
structure PV where
  (lo hi : Bs) (c : CV)
def CV.val : CV → Value
  | .sum n f => .iface 71 (.agg #[.int .i64 ((n : Nat) : Int), .string (strOf f)])
  | .list A c xs => .iface 89 (.agg #[.slice A xs.length c])
  | .ans A c xs B d ms => .iface 92 (.agg #[.slice A xs.length c, .slice B ms.length d])
def CV.abs : CV → AC
  | .sum n f => .sum n f
  | .list _ _ xs => .list xs
  | .ans _ _ xs _ _ ms => .ans xs ms
def PV.abs (p : PV) : AP := ⟨p.lo, p.hi, p.c.abs⟩
def CV.rows : CV → List (Option Addr × List Bs)
  | .sum _ _ => []
  | .list A _ xs => [(A, xs)]
  | .ans A _ xs B _ ms => [(A, xs), (B, ms)]
def PV.cells (p : PV) : List Value := [.string (strOf p.lo), .string (strOf p.hi), p.c.val]
def PS (ps : List PV) : List Value := ps.flatMap PV.cells
theorem PS_append (a b : List PV) : PS (a ++ b) = PS a ++ PS b := List.flatMap_append
theorem PS_length : ∀ ps : List PV, (PS ps).length = ps.length * 3
  | [] => rfl
  | p :: ps => by
    show (p.cells ++ PS ps).length = _
    rw [List.length_append, PS_length ps, List.length_cons]
    show 3 + _ = _
    omega
theorem CV.one (c : CV) : c.val.oneCell' = true := by cases c <;> rfl
theorem PV.one (p : PV) : ∀ u ∈ p.cells, u.oneCell' = true := by
  intro u hu
  simp only [PV.cells, List.mem_cons, List.not_mem_nil, or_false] at hu
  rcases hu with rfl | rfl | rfl
  · rfl
  · rfl
  · exact CV.one _
theorem PS_one {ps : List PV} : ∀ u ∈ PS ps, u.oneCell' = true := by
  intro u hu
  obtain ⟨p, _, hp⟩ := List.mem_flatMap.1 hu
  simp only [PV.cells, List.mem_cons, List.not_mem_nil, or_false] at hp
  rcases hp with rfl | rfl | rfl
  · rfl
  · rfl
  · exact CV.one _
theorem PS_at {ps : List PV} {i : Nat} {p : PV} (h : ps[i]? = some p) (k : Nat) (v : Value) (hk : p.cells[k]? = some v) : (PS ps)[i * 3 + k]? = some v := by
  induction ps generalizing i with
  | nil => simp at h
  | cons q ps ih =>
    show (q.cells ++ PS ps)[i * 3 + k]? = some v
    cases i with
    | zero =>
      simp only [List.getElem?_cons_zero, Option.some.injEq] at h
      subst h
      rw [Nat.zero_mul, Nat.zero_add, List.getElem?_append_left (List.getElem?_eq_some_iff.1 hk).1]
      exact hk
    | succ i =>
      rw [List.getElem?_append_right (by show 3 ≤ _; omega), show (i + 1) * 3 + k - q.cells.length = i * 3 + k by show _ - 3 = _; omega]
      exact ih (by simpa using h)
/-- The part of a range's sum. -/
def sumP (its : List Bs) (lo hi : Bs) : PV := ⟨lo, hi, .sum (inL its lo hi).length (fpB (inL its lo hi))⟩
def divP (its own : List Bs) (fan : Nat) (lo : Bs) : Nat → Bs × List PV
  | 0 => (lo, [])
  | k + 1 => if own.getD ((k + 1) * own.length / fan) [] = (divP its own fan lo k).1 then divP its own fan lo k else (own.getD ((k + 1) * own.length / fan) [], (divP its own fan lo k).2 ++ [sumP its (divP its own fan lo k).1 (own.getD ((k + 1) * own.length / fan) [])])
theorem divP_abs (its own : List Bs) (fan : Nat) (lo : Bs) : ∀ k, (divP its own fan lo k).1 = (divTo its own fan lo k).1 ∧ (divP its own fan lo k).2.map PV.abs = (divTo its own fan lo k).2
  | 0 => ⟨rfl, rfl⟩
  | k + 1 => by
    obtain ⟨h1, h2⟩ := divP_abs its own fan lo k
    unfold divP divTo
    rw [h1]
    split
    · exact ⟨h1, h2⟩
    · refine ⟨rfl, ?_⟩
      rw [List.map_append, h2]
      rfl
theorem divP_no {its own : List Bs} {fan k : Nat} {lo x : Bs} (hx : own[(k + 1) * own.length / fan]? = some x) (h : (!decide (x = (divP its own fan lo k).1)) = false) : divP its own fan lo (k + 1) = divP its own fan lo k := by
  have e : own.getD ((k + 1) * own.length / fan) [] = x := by rw [List.getD_eq_getElem?_getD, hx]; rfl
  rw [divP, e, if_pos (by simpa using h)]
theorem divP_yes {its own : List Bs} {fan k : Nat} {lo x : Bs} (hx : own[(k + 1) * own.length / fan]? = some x) (h : (!decide (x = (divP its own fan lo k).1)) = true) : divP its own fan lo (k + 1) = (x, (divP its own fan lo k).2 ++ [sumP its (divP its own fan lo k).1 x]) := by
  have e : own.getD ((k + 1) * own.length / fan) [] = x := by rw [List.getD_eq_getElem?_getD, hx]; rfl
  rw [divP, e, if_neg (by simpa using h)]
theorem divP_len (its own : List Bs) (fan : Nat) (lo : Bs) : ∀ k, (divP its own fan lo k).2.length ≤ k
  | 0 => Nat.le_refl _
  | k + 1 => by
    have := divP_len its own fan lo k
    unfold divP
    split
    · omega
    · simp only [List.length_append, List.length_cons, List.length_nil]; omega
theorem divP_sum (its own : List Bs) (fan : Nat) (lo : Bs) : ∀ k, ∀ p ∈ (divP its own fan lo k).2, p.c.rows = []
  | 0 => by simp [divP]
  | k + 1 => by
    unfold divP
    split
    · exact divP_sum its own fan lo k
    · intro p hp
      rcases List.mem_append.1 hp with hp | hp
      · exact divP_sum its own fan lo k p hp
      · rw [List.mem_singleton.1 hp]; rfl

/-! ### Rows as one piece -/
def cBag (L : List (Option Addr × List Bs)) : Ch where
  fp := L.flatMap fun r => ownFp r.1
  holds w := ∀ r ∈ L, RowIn w r.1 (SS r.2) ∧ ∀ b ∈ ownFp r.1, b < w.heap.size
  ok w w' hb h := fun r hr => by
    obtain ⟨h1, h2⟩ := h r hr
    have hb' : ∀ b ∈ ownFp r.1, w'.heap[b]? = w.heap[b]? := fun b hb1 => hb b (List.mem_flatMap.2 ⟨r, hr, hb1⟩)
    refine ⟨fun j v hj => ?_, fun b hb1 => ?_⟩
    · obtain ⟨b, o, hA, hlt, hc⟩ := h1 j v hj
      have e := hb' b (by rw [hA]; simp [ownFp])
      refine ⟨b, o, hA, ?_, ?_⟩
      · by_cases hlt' : b < w'.heap.size
        · exact hlt'
        · rw [Array.getElem?_eq_none (by omega), Array.getElem?_eq_getElem hlt] at e
          cases e
      · rw [← hc]
        simp only [World.cell?, e]
    · have e := hb' b hb1
      by_cases hlt' : b < w'.heap.size
      · exact hlt'
      · rw [Array.getElem?_eq_none (by omega), Array.getElem?_eq_getElem (h2 b hb1)] at e
        cases e
  lt w h b hb := by
    obtain ⟨r, hr, hb1⟩ := List.mem_flatMap.1 hb
    exact (h r hr).2 b hb1
section
variable {w0 w w' : World} {F : List Nat} {cs : List Ch}
theorem bag_row {L : List (Option Addr × List Bs)} {A : Option Addr} {xs : List Bs} (hm : (A, xs) ∈ L) (h : (cBag L).holds w) : RowIn w A (SS xs) := (h _ hm).1
theorem bag1_fp {A : Option Addr} {xs : List Bs} : (cBag [(A, xs)]).fp = ownFp A := by simp [cBag]
theorem Mm.toBag (h : Mm w0 F cs w) (i : Nat) {e : TypeId} {A : Option Addr} {n c : Nat} {xs : List Bs} (hi : cs[i]? = some (cOwn e 1 A n c (SS xs))) : Mm w0 F (cs.set i (cBag [(A, xs)])) w :=
  h.swap i hi (Fr.refl _ _) (fun r hr => by
    rw [List.mem_singleton.1 hr]
    have ho := h.at hi
    refine ⟨?_, ?_⟩
    · have ho' : w.ownsRow 0 e 1 (.slice A n c) n (SS xs) := ho
      exact RowIn.of_own ho'
    · intro b hb
      exact (cOwn e 1 A n c (SS xs)).lt w ho b hb) (fun b hb => .inl (by rw [bag1_fp] at hb; exact hb)) (by simpa [cBag] using ownFp_nodup A)
theorem cBag_fp (L M : List (Option Addr × List Bs)) : (cBag (L ++ M)).fp = (cBag L).fp ++ (cBag M).fp := List.flatMap_append
theorem Mm.join {L M : List (Option Addr × List Bs)} (h : Mm w0 F (cs ++ [cBag L, cBag M]) w) : Mm w0 F (cs ++ [cBag (L ++ M)]) w := by
  have e : (cs ++ [cBag (L ++ M)]).flatMap Ch.fp = (cs ++ [cBag L, cBag M]).flatMap Ch.fp := by
    simp only [List.flatMap_append, List.flatMap_cons, List.flatMap_nil, cBag_fp, List.append_nil]
  refine ⟨h.fr, ?_, ?_, ?_⟩
  · intro c hc
    rcases List.mem_append.1 hc with hc | hc
    · exact h.hold c (List.mem_append_left _ hc)
    · rw [List.mem_singleton.1 hc]
      intro r hr
      rcases List.mem_append.1 hr with hr | hr
      · exact h.hold (cBag L) (List.mem_append_right _ (by simp)) r hr
      · exact h.hold (cBag M) (List.mem_append_right _ (by simp)) r hr
  · rw [e]; exact h.nodup
  · rw [e]; exact h.own
theorem Mm.noBag (h : Mm w0 F cs w) : Mm w0 F (cs ++ [cBag []]) w := h.push (c := cBag []) (Fr.refl _ _) (by intro r hr; cases hr) (by simp [cBag]) (by simp [cBag])
end
/-- Where the rows of parts lie: in a bag, or within the session's items. -/
def SrcOk (L : List (Option Addr × List Bs)) (A : Option Addr) (its : List Bs) (ps : List PV) : Prop := ∀ p ∈ ps, ∀ r ∈ p.c.rows, r ∈ L ∨ ∀ w, RowIn w A (SS its) → RowIn w r.1 (SS r.2)
def PsOk (ps : List PV) (w : World) : Prop := ∀ p ∈ ps, ∀ r ∈ p.c.rows, RowIn w r.1 (SS r.2)
theorem SrcOk.nil {L : List (Option Addr × List Bs)} {A : Option Addr} {its : List Bs} : SrcOk L A its [] := by intro p hp; cases hp
theorem SrcOk.append {L M : List (Option Addr × List Bs)} {A : Option Addr} {its : List Bs} {a b : List PV} (h : SrcOk L A its a) (k : SrcOk M A its b) : SrcOk (L ++ M) A its (a ++ b) := by
  intro p hp r hr
  rcases List.mem_append.1 hp with hp | hp
  · exact (h p hp r hr).imp (List.mem_append_left _) id
  · exact (k p hp r hr).imp (List.mem_append_right _) id
theorem SrcOk.ok {L : List (Option Addr × List Bs)} {A : Option Addr} {its : List Bs} {ps : List PV} {w : World} (h : SrcOk L A its ps) (hL : (cBag L).holds w) (hr : RowIn w A (SS its)) : PsOk ps w := fun p hp r hp' => (h p hp r hp').elim (fun hm => (hL r hm).1) (fun hf => hf w hr)
theorem SrcOk.noRows {L : List (Option Addr × List Bs)} {A : Option Addr} {its : List Bs} {ps : List PV} (h : ∀ p ∈ ps, p.c.rows = []) : SrcOk L A its ps := fun p hp r hr => by rw [h p hp] at hr; cases hr
theorem el_part : Elem Tryz.prog 77 76 (.agg #[.string ⟨#[]⟩, .string ⟨#[]⟩, .nilIface]) 3 48 := ⟨Tryz.underlying77, by kernel_rfl, rfl, by omega, by omega⟩

section
variable {P : Program} {Q : Exit → Act → World → Prop} {n : Nat} {w0 : World} {F : List Nat} {E : Env} {cs : List Ch} {X K : Act → World → Prop} {ops : Array Oper} {o oi : Oper} {rest : List Oper} {d : Nat}
theorem rQuoN {ty u : TypeId} {x y : Operand} {a b : Nat} (ho : o.op = .binOp .quo ty x y u) (hx : evO E x = some (.int .i64 ((a : Nat) : Int))) (hy : evO E y = some (.int .i64 ((b : Nat) : Int))) (hb : 0 < b) (ha : a ≤ 9223372036854775807) : RunV P w0 F cs E o (.int .i64 ((a / b : Nat) : Int)) := by
  have h := Nat.div_le_self a b
  exact rQuo _ ho hx hy (by omega) (by rw [Int.natCast_ediv, Int.tdiv_eq_ediv_of_nonneg (by omega)]) (Int.le_trans (by decide) (Int.natCast_nonneg _)) (Int.ofNat_le.2 (Nat.le_trans h ha))
end
section
variable {w0 : World} {F : List Nat} {E : Env} {cs : List Ch} {o : Oper}
theorem rEqSummed {u : TypeId} {x y : Operand} {a b : Nat} {p q : Bs} (ho : o.op = .binOp .eql 71 x y u) (hx : evO E x = some (.agg #[.int .i64 ((a : Nat) : Int), .string (strOf p)])) (hy : evO E y = some (.agg #[.int .i64 ((b : Nat) : Int), .string (strOf q)])) : RunV Tryz.prog w0 F cs E o (.bool (decide (a = b ∧ p = q))) := fun w _ => by
  have hg : Tryz.prog.eqGuardType Tryz.prog.depth 71 = false := by kernel_rfl
  have hs : Tryz.prog.stoodInHeld 71 = false := by kernel_rfl
  have hm : (Tryz.prog.fieldsOf 71).toList.map (fun f => (f.name == "_", f.type, f.offset)) = [(false, 3, 0), (false, 9, 1)] := by kernel_rfl
  have he : (Op.equal 71 (.agg #[.int .i64 ((a : Nat) : Int), .string (strOf p)]) (.agg #[.int .i64 ((b : Nat) : Int), .string (strOf q)])).run Tryz.prog w = .ok (decide (a = b ∧ p = q)) w := by
    refine (run_equalIn_struct w 9999 _ _ _ (by kernel_rfl) hs).trans ?_
    generalize (Tryz.prog.fieldsOf 71).toList = l at hm
    have hl : l.length = 2 := by simpa using congrArg List.length hm
    match l, hl with
    | [g1, g2], _ =>
      simp only [List.map_cons, List.map_nil, List.cons.injEq, Prod.mk.injEq, and_true, beq_eq_false_iff_ne] at hm
      obtain ⟨⟨h1, t1, o1⟩, h2, t2, o2⟩ := hm
      have e1 := run_part_plain w (P := Tryz.prog) (e := 3) (xs := #[.int .i64 ((a : Nat) : Int), .string (strOf p)]) (off := 0) (v := .int .i64 ((a : Nat) : Int)) (by kernel_rfl) rfl
      have e2 := run_part_plain w (P := Tryz.prog) (e := 3) (xs := #[.int .i64 ((b : Nat) : Int), .string (strOf q)]) (off := 0) (v := .int .i64 ((b : Nat) : Int)) (by kernel_rfl) rfl
      have e3 := run_part_plain w (P := Tryz.prog) (e := 9) (xs := #[.int .i64 ((a : Nat) : Int), .string (strOf p)]) (off := 1) (v := .string (strOf p)) (by kernel_rfl) rfl
      have e4 := run_part_plain w (P := Tryz.prog) (e := 9) (xs := #[.int .i64 ((b : Nat) : Int), .string (strOf q)]) (off := 1) (v := .string (strOf q)) (by kernel_rfl) rfl
      simp only [Op.eqFields, h1, h2, ne_eq, not_false_eq_true, if_true, Sem.run_bind, Sem.run_ite, Sem.run_pure, t1, t2, o1, o2, e1, e2, e3, e4, Result.andThen_ok, run_equalIn_int w 9998 _ .i64 _ _ _ Tryz.underlying3, run_equalIn_string w 9998 _ _ _ Tryz.underlying9, strOf_toList]
      by_cases ha : a = b
      · subst ha
        by_cases hp : p = q
        · subst hp; simp
        · simp [hp]
      · have ha' : ¬ ((a : Nat) : Int) = ((b : Nat) : Int) := fun h => ha (Int.ofNat.inj h)
        simp [ha, ha']
  unfold execOp
  simp only [ho, evE_of hx, evE_of hy, Sem.run_bind, run_eqGuard_agg w _ _ _ _ _ _ hg, binOp, Result.andThen_ok, he, Sem.run_pure]
end

section
variable {P : Program} {Q : Exit → Act → World → Prop} {n : Nat} {w0 : World} {F : List Nat} {E : Env} {cs : List Ch} {X K : Act → World → Prop} {ops : Array Oper} {o oi : Oper} {rest : List Oper} {d : Nat}
theorem rowOwn3 {e : TypeId} {i sz : Nat} {A : Option Addr} {m c : Nat} {xs : List Value} (hi : cs[i]? = some (cOwn e sz A m c xs)) : ∀ w, Mm w0 F cs w → RowIn w A xs := by
  intro w hM j u hu
  have h : w.ownsRow 0 e sz (.slice A m c) m xs := hM.at hi
  rcases h.2 with ⟨_, h0⟩ | ⟨g, cap, cur, hv, _, hg, _, _, _, hc⟩
  · have := h.1
    rw [h0, Nat.zero_mul] at this
    rw [List.eq_nil_of_length_eq_zero this] at hu
    simp at hu
  · simp only [Value.slice.injEq] at hv
    obtain ⟨rfl, _, _⟩ := hv
    refine ⟨g, 0, rfl, (Array.getElem?_eq_some_iff.1 hg).1, ?_⟩
    have hlt := (List.getElem?_eq_some_iff.1 hu).1
    rw [h.1] at hlt
    have : cur.toList[j]? = some u := by rw [← List.getElem?_take_of_lt hlt, hc]; exact hu
    rw [Nat.zero_add]
    simpa [World.cell?, hg] using this
theorem own3_row {e : TypeId} {sz : Nat} {A : Option Addr} {m c : Nat} {xs : List Value} {w : World} (h : (cOwn e sz A m c xs).holds w) : RowIn w A xs := by
  have hM : Mm w (ownFp A) [cOwn e sz A m c xs] w := ⟨Fr.refl _ _, by intro d hd; rw [List.mem_singleton.1 hd]; exact h, by simpa [cOwn] using ownFp_nodup A, by intro b hb; exact .inl (by simpa [cOwn] using hb)⟩
  exact rowOwn3 (i := 0) rfl w hM
theorem part_cells {w : World} {A : Option Addr} {ps : List PV} {i : Nat} {p : PV} (h : RowIn w A (PS ps)) (hp : ps[i]? = some p) {b q : Nat} (hA : A = some ⟨b, q, none⟩) : ∀ j v, p.cells[j]? = some v → w.cell? ⟨b, q + i * 3 + j, none⟩ = some v := fun j v hj => by
  rw [Nat.add_assoc]
  exact row_cell h (PS_at hp j v hj) hA
theorem St.partPtr {A : Option Addr} {ps : List PV} {i : Nat} {p : PV} (h : ∀ w, Mm w0 F cs w → RowIn w A (PS ps)) (hp : ps[i]? = some p) (k : ∀ b q, A = some ⟨b, q, none⟩ → (∀ w, Mm w0 F cs w → ∀ j v, p.cells[j]? = some v → w.cell? ⟨b, q + i * 3 + j, none⟩ = some v) → St n w0 F E cs X) : St n w0 F E cs X := fun a w ha hM => by
  obtain ⟨b, q, hA⟩ := row_form (h w hM) (PS_at hp 0 _ rfl)
  exact k b q hA (fun w' hM' => part_cells (h w' hM') hp hA) a w ha hM
theorem Any.partPtr {css : List Ch} {z fuel : Nat} {listed : Array Bool} {A : Option Addr} {ps : List PV} {i : Nat} {p : PV} (h : ∀ w, Mm w0 F css w → RowIn w A (PS ps)) (hp : ps[i]? = some p) (k : ∀ b q, A = some ⟨b, q, none⟩ → (∀ w, Mm w0 F css w → ∀ j v, p.cells[j]? = some v → w.cell? ⟨b, q + i * 3 + j, none⟩ = some v) → Any P ops Q n w0 F E cs css z fuel listed) : Any P ops Q n w0 F E cs css z fuel listed := fun a w ha hM hS hc => by
  obtain ⟨b, q, hA⟩ := row_form (h w hS) (PS_at hp 0 _ rfl)
  exact k b q hA (fun w' hM' => part_cells (h w' hM') hp hA) a w ha hM hS hc
theorem rIndexRow3 {ty e : TypeId} {x i : Operand} {A : Option Addr} {b off len cap j : Nat} {k : IntKind} (ho : o.op = .indexAddr ty x i) (hu : P.underlying ty = some (.slice e)) (hsz : sizeT P e = some 3) (hx : evO E x = some (.slice A len cap)) (hi : evO E i = some (.int k (j : Int))) (hA : A = some ⟨b, off, none⟩) (hlt : j < len) : RunV P w0 F cs E o (.pointer (some ⟨b, off + j * 3, none⟩)) := by
  subst hA
  exact rIndexAddr ho hu hsz hx hi hlt
def CV.pay : CV → Value
  | .sum n f => .agg #[.int .i64 ((n : Nat) : Int), .string (strOf f)]
  | .list A c xs => .agg #[.slice A xs.length c]
  | .ans A c xs B d ms => .agg #[.slice A xs.length c, .slice B ms.length d]
def CV.wfn : CV → FuncId
  | .sum _ _ => 146
  | .list _ _ _ => 149
  | .ans _ _ _ _ _ _ => 154
theorem hrWrite {x y : Operand} {t : Array TypeId} {c : CV} {wv : Value} (ho : o.op = .call { callee := .invoke x "kinkeep/rangesum.write", args := #[y], argTypes := t }) (hx : evO E x = some c.val) (hy : evO E y = some wv) : ∀ w, (execOp (evE E) o).run Tryz.prog w = .ok (.enter c.wfn #[c.pay, wv]) w := by
  intro w
  unfold execOp
  simp only [ho, resolve, evE_of hx, evE_of hy, Sem.run_bind, Sem.run_pure, Result.andThen_ok, List.map_toArray, List.map_cons, List.map_nil]
  cases c <;> kernel_rfl
end
end Go.Proofs.YtlepfnihpdhcaaaGreatDoor
