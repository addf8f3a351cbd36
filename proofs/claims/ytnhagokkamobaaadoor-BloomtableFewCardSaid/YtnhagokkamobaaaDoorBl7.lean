/- Contract of bloomtable's (*Table).Keys. -/
import Derived.Test.YtnhagokkamobaaaDoorBl6
import Derived.Test.YtnhagokkamobaaaDoorBlPlain
import Derived.Test.YtnhagokkamobaaaDoorStrSet
import Derived.Outline
namespace Go.Proofs.YtnhagokkamobaaaDoor
open Go.RowKit

theorem sortStr_eq : sortStr = sortS := rfl

theorem BB_one (l : List Bool) : ∀ v ∈ BB l, v.oneCell' = true := by
  intro v hv
  obtain ⟨x, _, rfl⟩ := List.mem_map.1 hv
  rfl
theorem BB_get {l : List Bool} {i : Nat} {b : Bool} (h : l[i]? = some b) : (BB l)[i]? = some (.bool b) := by simp [BB, h]
theorem BB_set (l : List Bool) (i : Nat) (b : Bool) : (BB l).set i (.bool b) = BB (l.set i b) := by simp [BB, List.map_set]

theorem made_bools (n : Nat) : madeCells #[.bool false] (n * 1) = (BB (List.replicate n false)).toArray := by
  apply Array.ext_getElem?
  intro i
  rw [show (BB (List.replicate n false)).toArray[i]? = (BB (List.replicate n false))[i]? from List.getElem?_toArray ..]
  by_cases h : i < n
  · have e1 : (madeCells #[.bool false] (n * 1))[i]? = some (#[Value.bool false][i % 1]!) := by
      unfold madeCells
      rw [Array.getElem?_map, Array.getElem?_range, if_pos (by omega)]
      rfl
    rw [e1, Nat.mod_one]
    simp [BB, h]
  · rw [Array.getElem?_eq_none (by rw [size_madeCells]; omega), List.getElem?_eq_none (by simp [BB]; omega)]

/-- make([]bool, n) -/
theorem run_makeBools (n : Nat) (hn : n ≤ 3072) (w : World) : (Instr.makeSlice 86 (.int .i64 (n : Int)) (.int .i64 (n : Int))).run Tryd.prog w = .ok (.slice (some ⟨w.heap.size, 0, none⟩) n n) (w.alloc (.cells (BB (List.replicate n false)).toArray 4)) := by
  have hinfo : (Tryd.prog.info? 4).map (fun i => (i.zero, i.size, i.bytes)) = some (some (.bool false), 1, 1) := by kernel_rfl
  obtain ⟨i, hi, hz, hsz, hby⟩ := info_parts hinfo
  have := run_make (P := Tryd.prog) w 86 4 i _ Tryd.underlying86 hi hz .i64 .i64 (n : Int) (n : Int) (by omega) (by omega) (by rw [hby]; omega) (by omega)
  rw [hsz, Int.toNat_natCast] at this
  rw [this, ← made_bools]
  rfl

theorem el_str : Elem Tryd.prog 43 9 (.string ⟨#[]⟩) 1 16 := ⟨Tryd.underlying43, by kernel_rfl, rfl, by omega, by omega⟩

/-- What Keys returns. -/
def KeysPost (t : BT) (w : World) (e : Ending) (w' : World) : Prop :=
  Fr [] w w' ∧ match t.keys with
    | none => e = .returned (.tuple #[.slice none 0 0, .slice none 0 0, Value.int .i64 10])
    | some p => ∃ A1 c1 A2 c2, e = .returned (.tuple #[.slice A1 p.1.length c1, .slice A2 p.2.length c2, Value.int .i64 0]) ∧ RowIn w' A1 (p.1.map S8v) ∧ RowIn w' A2 (p.2.map S8v)

/-- The memory of Keys while it peels. -/
structure KS (w wx : World) (bt bc cap : Nat) (rest : List Value) (bp bm : Nat) (v9 v10 : Value) (t : BT) (pl : List Bool) (tk ad rm : List (List UInt8)) : Prop where
  fr : Fr [] w wx
  tab : TabAt wx bt bc cap rest t
  pur : At wx bp 4 (BB pl)
  set : SetAt wx bm tk.reverse
  add : wx.ownsRow w.heap.size 9 1 v9 ad.length (ad.map S8v)
  rem : wx.ownsRow w.heap.size 9 1 v10 rm.length (rm.map S8v)
  sep : v9.ownBlock = none ∨ v9.ownBlock ≠ v10.ownBlock
  lt : w.heap.size ≤ bt
  lc : w.heap.size ≤ bc
  lp : w.heap.size ≤ bp
  lm : w.heap.size ≤ bm

theorem ownb_ne {w : World} {base : Nat} {e t : TypeId} {sz n : Nat} {v : Value} {xs l : List Value} {b : Nat} (h : w.ownsRow base e sz v n xs) (ha : At w b t l) (hne : e ≠ t) : some b ≠ v.ownBlock := by
  intro hb
  rcases h.2 with ⟨rfl, _⟩ | ⟨g, cap, cur, rfl, _, hg, _⟩
  · simp [Value.ownBlock] at hb
  · have : some b = some g := hb
    injection this with this
    subst this
    unfold At at ha
    rw [hg] at ha
    simp only [Option.some.injEq, Obj.cells.injEq] at ha
    exact hne ha.2.1
theorem own_ne_set {w : World} {base : Nat} {e : TypeId} {sz n : Nat} {v : Value} {xs : List Value} {b : Nat} {S : List (List UInt8)} (h : w.ownsRow base e sz v n xs) (ha : SetAt w b S) : some b ≠ v.ownBlock := by
  intro hb
  rcases h.2 with ⟨rfl, _⟩ | ⟨g, cap, cur, rfl, _, hg, _⟩
  · simp [Value.ownBlock] at hb
  · have : some b = some g := hb
    injection this with this
    subst this
    obtain ⟨es, clock, h1, _⟩ := ha
    rw [hg] at h1
    cases h1
theorem At.grown {w w' : World} {b : Nat} {t : TypeId} {l : List Value} {row : Option Nat} (h : At w b t l) (hg : w.grownBy w' row) (hne : some b ≠ row) : At w' b t l := (hg.block b h.lt hne).trans h
theorem TabAt.grown {w w' : World} {bt bc cap : Nat} {rest : List Value} {t : BT} {row : Option Nat} (h : TabAt w bt bc cap rest t) (hg : w.grownBy w' row) (h1 : some bt ≠ row) (h2 : some bc ≠ row) : TabAt w' bt bc cap rest t :=
  ⟨h.tab.grown hg h1, h.cells.grown hg h2, h.ok, h.size, h.cap⟩

section
variable {w wx w' : World} {bt bc cap : Nat} {rest : List Value} {bp bm : Nat} {v9 v10 : Value} {t : BT} {pl : List Bool} {tk ad rm : List (List UInt8)}

theorem KS.fr0 (h : KS w wx bt bc cap rest bp bm v9 v10 t pl tk ad rm) (hf : Fr [] wx w') : KS w w' bt bc cap rest bp bm v9 v10 t pl tk ad rm :=
  ⟨h.fr.trans hf, h.tab.fr hf (by simp) (by simp), h.pur.fr hf (by simp), h.set.fr hf (by simp), ownsRow_fr h.add hf (by simp), ownsRow_fr h.rem hf (by simp), h.sep, h.lt, h.lc, h.lp, h.lm⟩

theorem KS.map {key : List UInt8} (h : KS w wx bt bc cap rest bp bm v9 v10 t pl tk ad rm) (hg : wx.grownBy w' (some bm)) (hs : SetAt w' bm (tk.reverse ++ [key])) : KS w w' bt bc cap rest bp bm v9 v10 t pl (key :: tk) ad rm := by
  have n1 := h.set.ne_at h.tab.tab
  have n2 := h.set.ne_at h.tab.cells
  have n3 := h.set.ne_at h.pur
  have lm := h.lm
  refine ⟨h.fr.grown hg (fun k e => .inr (by injection e; omega)), h.tab.grown hg (fun e => n1 (by injection e with e; exact e.symm)) (fun e => n2 (by injection e with e; exact e.symm)), h.pur.grown hg (fun e => n3 (by injection e with e; exact e.symm)),
    by rw [List.reverse_cons]; exact hs, h.add.kept hg ?_, h.rem.kept hg ?_, h.sep, h.lt, h.lc, h.lp, h.lm⟩
  · cases hb : v9.ownBlock with
    | none => exact .inl rfl
    | some g => exact .inr (fun e => own_ne_set h.add h.set (by rw [hb, ← e]))
  · cases hb : v10.ownBlock with
    | none => exact .inl rfl
    | some g => exact .inr (fun e => own_ne_set h.rem h.set (by rw [hb, ← e]))

theorem own_lo {base : Nat} {e : TypeId} {sz n : Nat} {v : Value} {xs : List Value} (h : wx.ownsRow base e sz v n xs) : ∀ k, v.ownBlock = some k → base ≤ k := fun k hk => (h.lt k hk).1

theorem KS.pushAdd {v9' : Value} {key : List UInt8} (h : KS w wx bt bc cap rest bp bm v9 v10 t pl tk ad rm) (hown : w'.ownsRow w.heap.size 9 1 v9' (ad.length + 1) (ad.map S8v ++ [S8v key])) (hg : wx.grownBy w' v9.ownBlock) (hb : v9'.ownBlock = v9.ownBlock ∨ v9'.ownBlock = some (wx.heap.size + 1)) :
    KS w w' bt bc cap rest bp bm v9' v10 t pl tk (ad ++ [key]) rm := by
  have hr : w'.ownsRow w.heap.size 9 1 v10 rm.length (rm.map S8v) := by
    refine h.rem.kept hg ?_
    cases hq : v10.ownBlock with
    | none => exact .inl rfl
    | some g =>
      refine .inr (fun e => ?_)
      rcases h.sep with h0 | h0
      · rw [h0] at e; cases e
      · exact h0 (by rw [hq]; exact e.symm)
  refine ⟨h.fr.grown hg (fun k e => .inr (own_lo h.add k e)), h.tab.grown hg (ownb_ne h.add h.tab.tab (by decide)) (ownb_ne h.add h.tab.cells (by decide)), h.pur.grown hg (ownb_ne h.add h.pur (by decide)), h.set.grown hg (own_ne_set h.add h.set), by rw [List.length_append, List.map_append]; exact hown, hr, ?_, h.lt, h.lc, h.lp, h.lm⟩
  rcases hb with e | e
  · rw [e]; exact h.sep
  · refine .inr ?_
    rw [e]
    intro e2
    have := (h.rem.lt _ e2.symm).2
    omega

theorem KS.pushRem {v10' : Value} {key : List UInt8} (h : KS w wx bt bc cap rest bp bm v9 v10 t pl tk ad rm) (hown : w'.ownsRow w.heap.size 9 1 v10' (rm.length + 1) (rm.map S8v ++ [S8v key])) (hg : wx.grownBy w' v10.ownBlock) (hb : v10'.ownBlock = v10.ownBlock ∨ v10'.ownBlock = some (wx.heap.size + 1)) :
    KS w w' bt bc cap rest bp bm v9 v10' t pl tk ad (rm ++ [key]) := by
  have hr : w'.ownsRow w.heap.size 9 1 v9 ad.length (ad.map S8v) := by
    refine h.add.kept hg ?_
    cases hq : v9.ownBlock with
    | none => exact .inl rfl
    | some g =>
      refine .inr (fun e => ?_)
      rcases h.sep with h0 | h0
      · rw [h0] at hq; cases hq
      · exact h0 (by rw [hq]; exact e)
  refine ⟨h.fr.grown hg (fun k e => .inr (own_lo h.rem k e)), h.tab.grown hg (ownb_ne h.rem h.tab.tab (by decide)) (ownb_ne h.rem h.tab.cells (by decide)), h.pur.grown hg (ownb_ne h.rem h.pur (by decide)), h.set.grown hg (own_ne_set h.rem h.set), hr, by rw [List.length_append, List.map_append]; exact hown, ?_, h.lt, h.lc, h.lp, h.lm⟩
  rcases hb with e | e
  · rcases h.sep with h0 | h0
    · exact .inl h0
    · exact .inr (by rw [e]; exact h0)
  · cases hq : v9.ownBlock with
    | none => exact .inl rfl
    | some g =>
      refine .inr ?_
      rw [e]
      intro e2
      injection e2 with e2
      have := (h.add.lt _ hq).2
      omega

theorem KS.chg {t' : BT} (h : KS w wx bt bc cap rest bp bm v9 v10 t pl tk ad rm) (hf : Fr [bc] wx w') (ht : TabAt w' bt bc cap rest t') : KS w w' bt bc cap rest bp bm v9 v10 t' pl tk ad rm := by
  have lc := h.lc
  have n1 : bp ≠ bc := h.pur.ne h.tab.cells (by decide)
  have n2 := h.set.ne_at h.tab.cells
  refine ⟨h.fr.trans' hf (by simp; omega), ht, h.pur.fr hf (by simpa using n1), h.set.fr hf (by simpa using n2), ownsRow_fr h.add hf ?_, ownsRow_fr h.rem hf ?_, h.sep, h.lt, h.lc, h.lp, h.lm⟩
  · intro g hg hm
    simp at hm
    subst hm
    exact ownb_ne h.add h.tab.cells (by decide) hg.symm
  · intro g hg hm
    simp at hm
    subst hm
    exact ownb_ne h.rem h.tab.cells (by decide) hg.symm

theorem KS.setP (h : KS w wx bt bc cap rest bp bm v9 v10 t pl tk ad rm) (i : Nat) (b : Bool) : KS w (wx.setCell ⟨bp, i, none⟩ (.bool b)) bt bc cap rest bp bm v9 v10 t (pl.set i b) tk ad rm := by
  have lp := h.lp
  have n1 : bt ≠ bp := h.tab.tab.ne h.pur (by decide)
  have n2 : bc ≠ bp := h.tab.cells.ne h.pur (by decide)
  have n3 := h.set.ne_at h.pur
  have hf : Fr [bp] wx (wx.setCell ⟨bp, i, none⟩ (.bool b)) := (Fr.refl _ _).setCell (by simp) _
  refine ⟨h.fr.setCell (.inr h.lp) _, h.tab.fr hf (by simpa using n1) (by simpa using n2), by rw [← BB_set]; exact h.pur.set i _, h.set.fr hf (by simpa using n3), ownsRow_fr h.add hf ?_, ownsRow_fr h.rem hf ?_, h.sep, h.lt, h.lc, h.lp, h.lm⟩
  · intro g hg hm
    simp at hm
    subst hm
    exact ownb_ne h.add h.pur (by decide) hg.symm
  · intro g hg hm
    simp at hm
    subst hm
    exact ownb_ne h.rem h.pur (by decide) hg.symm
end

/-- The library's sort over a row of the call's own. -/
theorem sortOwn {w : World} {base n c : Nat} {A : Option Addr} {ss : List (List UInt8)} (h : w.ownsRow base 9 1 (.slice A n c) n (ss.map S8v)) (hn : n = ss.length) (hl : n ≤ 3072) :
    Calls Tryd.prog 49 #[.slice A n c] w fun e w' => e = .returned (.tuple #[]) ∧ Fr (Value.slice A n c).ownBlock.toList w w' ∧ RowIn w' A ((sortStr ss).map S8v) := by
  by_cases h0 : n = 0
  · subst h0
    have e : ss = [] := List.eq_nil_of_length_eq_zero hn.symm
    subst e
    refine (Tryd.slices_Sort_string_none A c w).mono ?_
    rintro e w' ⟨rfl, rfl⟩
    exact ⟨rfl, Fr.refl _ _, fun i u hu => by simp [sortStr] at hu⟩
  · obtain ⟨g, cap, rest, hv, _, _, ha, _, _⟩ := ownsRow_at h (by omega)
    simp only [Value.slice.injEq] at hv
    obtain ⟨rfl, _, rfl⟩ := hv
    subst hn
    refine (sortStrs g c ss rest 9 w ha (by omega)).mono ?_
    rintro e w' ⟨rfl, hf, ha'⟩
    refine ⟨rfl, hf, fun i u hu => ⟨g, 0, rfl, ha'.lt, ?_⟩⟩
    rw [Nat.zero_add, ha'.cell, List.getElem?_append_left (List.getElem?_eq_some_iff.1 hu).1]
    exact hu

theorem KS.add' {w wx : World} {bt bc cap : Nat} {rest : List Value} {bp bm : Nat} {A9 : Option Addr} {a9 c9 : Nat} {v10 : Value} {t : BT} {pl : List Bool} {tk ad rm : List (List UInt8)} (h : KS w wx bt bc cap rest bp bm (.slice A9 a9 c9) v10 t pl tk ad rm) : wx.ownsRow w.heap.size 9 1 (.slice A9 a9 c9) a9 (ad.map S8v) := by
  obtain ⟨A, c, e⟩ := ownsRow_form h.add
  simp only [Value.slice.injEq] at e
  have h1 := h.add
  rw [← e.2.1] at h1
  exact h1
theorem KS.rem' {w wx : World} {bt bc cap : Nat} {rest : List Value} {bp bm : Nat} {A10 : Option Addr} {a10 c10 : Nat} {v9 : Value} {t : BT} {pl : List Bool} {tk ad rm : List (List UInt8)} (h : KS w wx bt bc cap rest bp bm v9 (.slice A10 a10 c10) t pl tk ad rm) : wx.ownsRow w.heap.size 9 1 (.slice A10 a10 c10) a10 (rm.map S8v) := by
  obtain ⟨A, c, e⟩ := ownsRow_form h.rem
  simp only [Value.slice.injEq] at e
  have h1 := h.rem
  rw [← e.2.1] at h1
  exact h1

theorem fr_own {w wx w' : World} {v : Value} {e : TypeId} {sz n : Nat} {xs : List Value} (hf : Fr [] w wx) (h : wx.ownsRow w.heap.size e sz v n xs) (hf' : Fr v.ownBlock.toList wx w') : Fr [] w w' := by
  refine hf.trans' hf' (fun x hx => .inr ?_)
  cases hb : v.ownBlock with
  | none => rw [hb] at hx; simp at hx
  | some g =>
    rw [hb] at hx
    simp at hx
    subst hx
    exact (h.lt x hb).1

theorem KS.sorted1 {w wx w' : World} {bt bc cap : Nat} {rest : List Value} {bp bm : Nat} {A9 A10 : Option Addr} {a9 c9 a10 c10 : Nat} {t : BT} {pl : List Bool} {tk ad rm : List (List UInt8)} (h : KS w wx bt bc cap rest bp bm (.slice A9 a9 c9) (.slice A10 a10 c10) t pl tk ad rm) (_ : a9 = ad.length) (_ : a10 = rm.length)
    (hf : Fr (Value.slice A9 a9 c9).ownBlock.toList wx w') (hr : RowIn w' A9 ((sortStr ad).map S8v)) : Fr [] w w' ∧ RowIn w' A9 ((sortStr ad).map S8v) ∧ w'.ownsRow w.heap.size 9 1 (.slice A10 a10 c10) a10 (rm.map S8v) := by
  refine ⟨fr_own h.fr h.add hf, hr, ownsRow_fr h.rem' hf ?_⟩
  intro g hg hm
  cases hb : (Value.slice A9 a9 c9).ownBlock with
  | none => rw [hb] at hm; simp at hm
  | some g9 =>
    rw [hb] at hm
    simp at hm
    subst hm
    rcases h.sep with h0 | h0
    · rw [h0] at hb; cases hb
    · exact h0 (by rw [hb, hg])

theorem sorted2 {w wx w' : World} {A9 A10 : Option Addr} {a9 c9 a10 c10 : Nat} {rm : List (List UInt8)} {xs ys : List Value} (hf0 : Fr [] w wx) (h : wx.ownsRow w.heap.size 9 1 (.slice A10 a10 c10) a10 (rm.map S8v)) (hsep : ∀ g, (Value.slice A9 a9 c9).ownBlock = some g → (Value.slice A10 a10 c10).ownBlock ≠ some g)
    (hr : RowIn wx A9 xs) (hf : Fr (Value.slice A10 a10 c10).ownBlock.toList wx w') (hr2 : RowIn w' A10 ys) : Fr [] w w' ∧ RowIn w' A9 xs ∧ RowIn w' A10 ys := by
  refine ⟨fr_own hf0 h hf, hr.fr hf ?_, hr2⟩
  intro b o e hm
  subst e
  cases hb : (Value.slice A10 a10 c10).ownBlock with
  | none => rw [hb] at hm; simp at hm
  | some g =>
    rw [hb] at hm
    simp at hm
    subst hm
    exact hsep b rfl hb

theorem pures_step {t : BT} {i : Nat} {c : BC} (hc : t.cells[i]? = some c) : (BB (t.pures.take i ++ List.replicate (t.cells.length - i) false)).set i (.bool (c.pure t.seed)) = BB (t.pures.take (i + 1) ++ List.replicate (t.cells.length - (i + 1)) false) := by
  have h1 := (List.getElem?_eq_some_iff.1 hc).1
  have hp := BT.pures_get hc
  obtain ⟨h2, e2⟩ := List.getElem?_eq_some_iff.1 hp
  have hl : (t.pures.take i).length = i := by rw [List.length_take]; omega
  rw [BB_set, List.set_append_right _ _ (by omega), hl, Nat.sub_self]
  obtain ⟨m, hm⟩ : ∃ m, t.cells.length - i = m + 1 := ⟨t.cells.length - i - 1, by omega⟩
  rw [hm, List.replicate_succ, List.set_cons_zero, show t.cells.length - (i + 1) = m by omega, List.take_succ_eq_append_getElem h2, e2, List.append_assoc]
  rfl

set_option maxRecDepth 100000 in
set_option maxHeartbeats 8000000 in
theorem keys_any (bt0 bc0 cap0 : Nat) (rest0 : List Value) (t : BT) (w : World) (hv : Vars w) (ht : TabAt w bt0 bc0 cap0 rest0 t) :
    Calls Tryd.prog 26 #[Value.pointer (some ⟨bt0, 0, none⟩)] w (KeysPost t w) := by
  obtain ⟨n, HN⟩ : ∃ n, Hid (n = t.cells.length) := ⟨_, rfl⟩
  have hb := isSz_bounds ht.size
  have n3 : 3 ≤ n := by rw [HN.out]; exact hb.1
  have n4 : n ≤ 3072 := by rw [HN.out]; exact hb.2.1
  have H := Lib.hid (And.intro hv ht)
  have HCL := Lib.hid (clone_any bt0 bc0 cap0 rest0 t w ht)
  clear hb hv ht
  have hmb := run_makeBools n n4
  go_enter Tryd.func26, Tryd.ntmps26
  go_wp2_with fail
  refine HCL.out.mono ?_
  rintro e w1 ⟨bt, bc, cap, rest, rfl, hbt, hbc, hf1, ht1⟩
  have H1 := Lib.hid (And.intro hf1 ht1)
  have q0 : w1.cell? ⟨bt, 0, none⟩ = some (.slice (some ⟨bc, 0, none⟩) n cap) := by rw [ht1.tab.cell, HN.out]; rfl
  have hbtl := ht1.tab.lt
  have hbcl := ht1.cells.lt
  clear hf1 ht1 HCL
  go_wp2_with fail
  obtain ⟨bp, hbp⟩ : ∃ bp, bp = w1.heap.size := ⟨_, rfl⟩
  rw [← hbp]
  have HL0 : Hid (Fr [] w1 (w1.alloc (.cells (BB (List.replicate n false)).toArray 4)) ∧ At (w1.alloc (.cells (BB (List.replicate n false)).toArray 4)) bp 4 (BB (t.pures.take 0 ++ List.replicate (t.cells.length - 0) false))) :=
    ⟨(Fr.refl _ _).alloc _, by rw [hbp, ← HN.out]; exact At.new _ _ _⟩
  obtain ⟨W0, HW0⟩ : ∃ W0, Hid (W0 = w1.alloc (.cells (BB (List.replicate n false)).toArray 4)) := ⟨_, rfl⟩
  rw [← HW0.out] at HL0 ⊢
  have hbpl : w.heap.size ≤ bp := by rw [hbp]; exact H1.out.1.size
  have hbpt : bt < bp := by rw [hbp]; exact hbtl
  have hbpw : w1.heap.size ≤ bp := by omega
  have hbpc : bc < bp := by rw [hbp]; exact hbcl
  clear hmb HW0 q0 hbp
  go_wp2_with fail
  go_loopw [26] (fun s wx => ∃ i : Nat, i ≤ n ∧ s = .int .i64 i ∧ Hid (Fr [] w1 wx ∧ At wx bp 4 (BB (t.pures.take i ++ List.replicate (t.cells.length - i) false)))) (fun s _ => n - (intOf s).toNat)
  case atStart => exact ⟨0, by omega, rfl, HL0⟩
  case round =>
    obtain ⟨i, hi, rfl, HR⟩ := hrel
    by_cases hlt : i < n
    · obtain ⟨c, hc⟩ : ∃ c, t.cells[i]? = some c := ⟨_, List.getElem?_eq_getElem (by rw [← HN.out]; exact hlt)⟩
      have HP := Lib.hid (pure_any bt bc cap rest t i c wr (H.out.1.fr (H1.out.1.trans HR.out.1) (by simp) (by simp)) (H1.out.2.fr HR.out.1 (by simp) (by simp)) hc)
      have HST := Lib.hid (pures_step hc)
      obtain ⟨b, HB⟩ : ∃ b, Hid (b = c.pure t.seed) := ⟨_, rfl⟩
      rw [← HB.out] at HP HST
      have hiI : (i : Int) < (n : Int) := by omega
      clear hc
      go_wp2_with fail
      refine HP.out.mono ?_
      rintro e w2 ⟨rfl, hf2⟩
      have HR2 : Hid (Fr [] w1 w2 ∧ At w2 bp 4 (BB (t.pures.take i ++ List.replicate (t.cells.length - i) false))) := ⟨HR.out.1.trans hf2, HR.out.2.fr hf2 (by simp)⟩
      have cz : ∃ z, w2.cell? ⟨bp, i, none⟩ = some (.bool z) := by
        refine ⟨false, ?_⟩
        rw [HR2.out.2.cell]
        apply BB_get
        rw [List.getElem?_append_right (by rw [List.length_take, BT.pures_len]; omega), List.length_take, BT.pures_len, List.getElem?_replicate, if_pos (by rw [← HN.out]; omega)]
      obtain ⟨z, cz⟩ := cz
      have fz := HR2.out.2.frozen i
      have HNN : Hid (Fr [] w1 (w2.setCell ⟨bp, i, none⟩ (.bool b)) ∧ At (w2.setCell ⟨bp, i, none⟩ (.bool b)) bp 4 (BB (t.pures.take (i + 1) ++ List.replicate (t.cells.length - (i + 1)) false))) := by
        refine ⟨HR2.out.1.setCell (.inr ?_) _, by rw [← HST.out]; exact HR2.out.2.set i _⟩
        exact hbpw
      clear hf2 HP
      go_wp2_with fail
      go_roundw
      case rel =>
        first
          | exact ⟨i + 1, by omega, by go_num, HNN⟩
          | ((repeat apply Exists.intro); exact ⟨⟨i + 1, by omega, by go_num, HNN⟩, rfl⟩)
      case measure => simp [intOf] <;> omega
    · obtain rfl : i = n := by omega
      have HZ : Hid (Fr [] w wr ∧ TabAt wr bt bc cap rest t ∧ At wr bp 4 (BB t.pures)) := by
        refine ⟨H1.out.1.trans HR.out.1, H1.out.2.fr HR.out.1 (by simp) (by simp), ?_⟩
        have h1 := HR.out.2
        rw [← HN.out, Nat.sub_self, List.replicate_zero, List.append_nil, List.take_of_length_le (by rw [BT.pures_len, ← HN.out]; exact Nat.le_refl _)] at h1
        exact h1
      obtain ⟨wa, HWA⟩ : ∃ wa, Hid (wa = wr) := ⟨_, rfl⟩
      rw [← HWA.out] at HZ ⊢
      clear HWA HR
      have hmm := @run_makeMap Tryd.prog
      have q0 : wa.cell? ⟨bt, 0, none⟩ = some (.slice (some ⟨bc, 0, none⟩) i cap) := by rw [HZ.out.2.1.tab.cell, HN.out]; rfl
      have hbta := HZ.out.2.1.tab.lt
      have hnem : wa.heap.size ≠ bt := by omega
      have hnem' : bt ≠ wa.heap.size := by omega
      go_wp2_with fail
      obtain ⟨bm, hbm⟩ : ∃ bm, bm = wa.heap.size := ⟨_, rfl⟩
      rw [← hbm]
      have HK0 : Hid (KS w (wa.alloc (.map #[] 0)) bt bc cap rest bp bm (.slice none 0 0) (.slice none 0 0) t t.pures [] [] []) := by
        refine ⟨HZ.out.1.alloc _, HZ.out.2.1.fr ((Fr.refl [] _).alloc _) (by simp) (by simp), HZ.out.2.2.alloc _, by rw [hbm]; exact SetAt.new wa, ⟨rfl, .inl ⟨rfl, rfl⟩⟩, ⟨rfl, .inl ⟨rfl, rfl⟩⟩, .inl rfl, hbt, hbc, hbpl, ?_⟩
        rw [hbm]
        exact HZ.out.1.size
      generalize wa.alloc (.map #[] 0) = W0 at HK0 ⊢
      clear hmm q0 hbta hnem hnem' hbm HZ
      obtain ⟨n, hni⟩ : ∃ n, n = i := ⟨_, rfl⟩
      rw [← hni]
      subst hni
      go_loopw [9, 10, 42] (fun v9 v10 s42 wx => ∃ (k : Nat) (A9 : Option Addr) (a9 c9 : Nat) (A10 : Option Addr) (a10 c10 : Nat) (s : Peel), k ≤ n ∧ s42 = .int .i64 k ∧ v9 = .slice A9 a9 c9 ∧ v10 = .slice A10 a10 c10 ∧ a9 ≤ k ∧ a10 ≤ k ∧ s.taken.length ≤ k ∧
        Hid (a9 = s.added.length ∧ a10 = s.removed.length ∧ s.t.cells.length = n ∧ s.t.seed = t.seed ∧ KS w wx bt bc cap rest bp bm v9 v10 s.t s.t.pures s.taken s.added s.removed ∧ peel n ⟨t, [], [], []⟩ = peel (n - k) s)) (fun _ _ s42 _ => n - (intOf s42).toNat)
      case atStart => exact ⟨0, none, 0, 0, none, 0, 0, ⟨t, [], [], []⟩, by omega, rfl, rfl, rfl, by omega, by omega, by simp, rfl, rfl, HN.out.symm, rfl, HK0.out, rfl⟩
      case round =>
        obtain ⟨k, A9, a9, c9, A10, a10, c10, s, hk, rfl, rfl, rfl, ha9, ha10, htk, HR⟩ := hrel
        obtain ⟨wo, HWO⟩ : ∃ wo, Hid (wo = wr) := ⟨_, rfl⟩
        rw [← HWO.out] at HR ⊢
        clear HWO
        by_cases hlt : k < n
        · have HI : Hid (Calls Tryd.prog 47 #[.slice (some ⟨bp, 0, none⟩) n n, .bool true] wo fun e w' => e = .returned (Value.int .i64 (idxTrue s.t.pures)) ∧ wo = w') := by
            have h1 := index_any bp n s.t.pures wo HR.out.2.2.2.2.1.pur (by rw [BT.pures_len, HR.out.2.2.1]; exact n4)
            rw [BT.pures_len, HR.out.2.2.1] at h1
            exact h1
          have hkI : (k : Int) < (n : Int) := by omega
          cases hfst : s.t.first with
          | none =>
            have hix : idxTrue s.t.pures = -1 := by rw [BT.first_pures] at hfst; unfold idxTrue; rw [hfst]
            rw [hix] at HI
            have HPE : Hid (peel n ⟨t, [], [], []⟩ = some s) := by show _ = _; rw [HR.out.2.2.2.2.2]; exact peel_none _ s hfst
            clear hix hfst
            go_wp2_with fail
            refine HI.out.mono ?_
            rintro e w2 ⟨rfl, rfl⟩
            have HEM := Lib.hid (empty_any bt bc cap rest s.t wo HR.out.2.2.2.2.1.tab)
            go_wp2_with fail
            refine HEM.out.mono ?_
            rintro e w3 ⟨rfl, hf3⟩
            have HK3 : Hid (KS w w3 bt bc cap rest bp bm (.slice A9 a9 c9) (.slice A10 a10 c10) s.t s.t.pures s.taken s.added s.removed) := HR.out.2.2.2.2.1.fr0 hf3
            clear hf3 HEM
            cases hem : s.t.empty with
            | false =>
              have HRES : Hid (t.keys = none) := by show _ = _; unfold BT.keys BT.raw; rw [← HN.out, HPE.out]; simp [hem]
              go_wp2_with fail
              go_ret3
              exact ⟨HK3.out.fr, by rw [HRES.out]; rfl⟩
            | true =>
              have HRES : Hid (t.keys = some (sortS s.added, sortS s.removed)) := by show _ = _; unfold BT.keys BT.raw; rw [← HN.out, HPE.out]; simp [hem]
              have HS1 := Lib.hid (sortOwn HK3.out.add' HR.out.1 (by omega))
              go_wp2_with fail
              refine HS1.out.mono ?_
              rintro e w4 ⟨rfl, hf4, hr4⟩
              have HO4 : Hid (Fr [] w w4 ∧ RowIn w4 A9 ((sortStr s.added).map S8v) ∧ w4.ownsRow w.heap.size 9 1 (.slice A10 a10 c10) a10 (s.removed.map S8v)) := HK3.out.sorted1 HR.out.1 HR.out.2.1 hf4 hr4
              have HSEP : Hid (∀ g, (Value.slice A9 a9 c9).ownBlock = some g → (Value.slice A10 a10 c10).ownBlock ≠ some g) := fun g hg e => HK3.out.sep.elim (fun h0 => by rw [h0] at hg; cases hg) (fun h0 => h0 (by rw [hg, e]))
              have HS2 := Lib.hid (sortOwn HO4.out.2.2 HR.out.2.1 (by omega))
              clear hf4 hr4 HS1
              go_wp2_with fail
              refine HS2.out.mono ?_
              rintro e w5 ⟨rfl, hf5, hr5⟩
              have HO5 : Hid (Fr [] w w5 ∧ RowIn w5 A9 ((sortStr s.added).map S8v) ∧ RowIn w5 A10 ((sortStr s.removed).map S8v)) := sorted2 HO4.out.1 HO4.out.2.2 HSEP.out HO4.out.2.1 hf5 hr5
              clear hf5 hr5 HS2
              go_wp2_with fail
              go_ret3
              refine ⟨HO5.out.1, ?_⟩
              rw [HRES.out]
              refine ⟨A9, c9, A10, c10, ?_, HO5.out.2.1, HO5.out.2.2⟩
              show _ = Ending.returned (.tuple #[.slice A9 (sortStr s.added).length c9, .slice A10 (sortStr s.removed).length c10, Value.int .i64 0])
              rw [sortStr_len, sortStr_len, ← HR.out.1, ← HR.out.2.1]
              rfl
          | some i =>
            have hix : idxTrue s.t.pures = (i : Int) := by rw [BT.first_pures] at hfst; unfold idxTrue; rw [hfst]
            rw [hix] at HI
            obtain ⟨c, hc, hcp, hca⟩ := first_some hfst
            have hcok := HR.out.2.2.2.2.1.tab.ok.cells c (List.mem_of_getElem? hc)
            have hin : i < n := by rw [← HR.out.2.2.1]; exact (List.getElem?_eq_some_iff.1 hc).1
            have hinI : (i : Int) < (n : Int) := by omega
            obtain ⟨L, HL⟩ : ∃ L, Hid (L = c.cells) := ⟨_, rfl⟩
            obtain ⟨key, HKEY⟩ : ∃ key, Hid (key = c.keys) := ⟨_, rfl⟩
            have HKL : Hid (key.length = 32) := by show key.length = 32; rw [HKEY.out]; exact hcok.keys
            have hbcl := HR.out.2.2.2.2.1.tab.cells.lt
            have hbtl := HR.out.2.2.2.2.1.tab.tab.lt
            have HLX : Hid (L.length = 34 ∧ (∀ v ∈ L, v.oneCell' = true) ∧ ∀ j v, L[j]? = some v → wo.cell? ⟨bc, i * 34 + j, none⟩ = some v) := by
              show _ ∧ _ ∧ _
              rw [HL.out]
              refine ⟨BC.cells_len hcok, fun v hv => tcells_one (l := [c]) v (by simpa [tcells] using hv), fun j v hj => ?_⟩
              have hj34 := (List.getElem?_eq_some_iff.1 hj).1
              rw [BC.cells_len hcok] at hj34
              rw [HR.out.2.2.2.2.1.tab.cells.cell, tcells_get HR.out.2.2.2.2.1.tab.ok.cells rest i c hc j hj34]
              exact hj
            have q0 : wo.cell? ⟨bt, 0, none⟩ = some (.slice (some ⟨bc, 0, none⟩) n cap) := by rw [HR.out.2.2.2.2.1.tab.tab.cell, ← HR.out.2.2.1]; rfl
            obtain ⟨m, hm⟩ : ∃ m, n - k = m + 1 := ⟨n - k - 1, by omega⟩
            have HF := Lib.hid (And.intro hfst (And.intro hc (And.intro hca (And.intro hcok hm))))
            have hcnt := pure_count hcp
            clear hix hfst hc hca hcok hm hcp
            go_wp2_with fail
            refine HI.out.mono ?_
            rintro e w2 ⟨rfl, rfl⟩
            go_upto_region 15 with (first
              | (refine wpList_load_at rfl 85 (.tmp 53) rfl bc (i * 34) rfl L _ (fun j v hj => HLX.out.2.2 j v hj) Tryd.underlying85 rfl (by rw [HLX.out.1]; kernel_rfl) ?_)
              | (refine wpList_store_new rfl 85 (.tmp 12) (.tmp 54) rfl rfl 85 _ L rfl (by rw [HLX.out.1]; rfl) (by rw [HLX.out.1]; kernel_rfl) HLX.out.2.1 ?_; intro w2 hf2 ha2))
            obtain ⟨bx, hbx⟩ : ∃ bx, bx = wo.heap.size := ⟨_, rfl⟩
            rw [← hbx] at ha2 ⊢
            have HX : Hid (At w2 bx 85 c.cells) := by show At _ _ _ _; rw [← HL.out]; exact ha2
            have HK2 : Hid (KS w w2 bt bc cap rest bp bm (.slice A9 a9 c9) (.slice A10 a10 c10) s.t s.t.pures s.taken s.added s.removed) := HR.out.2.2.2.2.1.fr0 hf2
            have hbx1 : w.heap.size ≤ bx := by rw [hbx]; exact HR.out.2.2.2.2.1.fr.size
            have hbxc : bc < bx := by omega
            clear q0 hf2 ha2 hbx hbcl hbtl
            have hsl : ∀ W : World, (Instr.sliceAt 83 (.pointer (some ⟨bx, 1, none⟩)) none none none).run Tryd.prog W = .ok (.slice (some ⟨bx, 1, none⟩) 32 32) W := fun W => by kernel_rfl
            have hst : (convert 34 9 (.slice (some ⟨bx, 1, none⟩) 32 32)).run Tryd.prog w2 = .ok (.string (strOf key)) w2 := by
              have h1 := run_str (P := Tryd.prog) (src := 34) (dst := 9) Tryd.underlying34 Tryd.underlying5 Tryd.underlying9 w2 (some ⟨bx, 1, none⟩) 32 key (fun j v hj => ⟨bx, 1, rfl, HX.out.lt, by
                rw [HX.out.cell, Nat.add_comm 1 j, BC.cells, List.getElem?_cons_succ, List.getElem?_append_left (by rw [← HKEY.out]; exact (List.getElem?_eq_some_iff.1 hj).1), ← HKEY.out]
                exact hj⟩)
              rw [HKL.out] at h1
              exact h1
            obtain ⟨tw, HTW⟩ : ∃ tw, Hid (tw = s.taken.contains key) := ⟨_, rfl⟩
            have hlk : (Instr.lookup 87 (.map (some bm)) (.string (strOf key)) false).run Tryd.prog w2 = .ok (.bool tw) w2 := by
              have h1 := HK2.out.set.lookup key (by rw [HKL.out]; unfold maxLen; omega)
              rw [List.contains_reverse] at h1
              rw [h1, HTW.out]
            cases tw with
            | true =>
              have HRES : Hid (t.keys = none) := by
                show _ = _
                have h1 := peel_twice m s i HF.out.1 (by rw [HF.out.2.2.1, ← HKEY.out, ← HTW.out])
                unfold BT.keys BT.raw
                rw [← HN.out, HR.out.2.2.2.2.2, HF.out.2.2.2.2, h1]
                rfl
              go_wp2_with fail
              go_ret3
              exact ⟨HK2.out.fr, by rw [HRES.out]; rfl⟩
            | false =>
              go_upto_region 19 with (at_mapUpdate; refine wpList_mapUpdate_own _ rfl _ _ _ 87 rfl 9 4 (Maps.string_keyed Tryd.underlying9) Tryd.underlying87 _ bm _ _ rfl HK2.out.set (by rw [List.length_reverse]; unfold maxLen; omega) _ _ (.string key) rfl rfl (key_lit key (by rw [HKL.out]; unfold maxLen; omega)) (.lit (.bool true)) [] (plainElem_bool Tryd.underlying4 true) ?_; intro w3 hown3 hg3)
              have HK3 : Hid (KS w w3 bt bc cap rest bp bm (.slice A9 a9 c9) (.slice A10 a10 c10) s.t s.t.pures (key :: s.taken) s.added s.removed) := HK2.out.map hg3 (SetAt.of_put hown3)
              have HX3 : Hid (At w3 bx 85 c.cells) := HX.out.grown hg3 (fun e => HK2.out.set.ne_at HX.out (by injection e with e; exact e.symm))
              have hw3 : w.heap.size ≤ w3.heap.size := HK3.out.fr.size
              obtain ⟨seed, HSD⟩ : ∃ seed, Hid (seed = s.t.seed) := ⟨_, rfl⟩
              clear hown3 hg3 hsl hst hlk HK2 HI
              rcases hcnt with hcnt | hcnt
              · have c0 : w3.cell? ⟨bx, 0, none⟩ = some (Value.int .i64 (1)) := by rw [HX3.out.cell, cells_get0, hcnt]
                have HCN := Lib.hid hcnt
                clear hcnt
                go_upto_region 22 with (at_builtin; refine wpList_push el_str rfl (.tmp 66) (.tmp 68) rfl w.heap.size _ _ (s.added.map S8v) (.string (strOf key)) rfl HK3.out.add' rfl rfl (by omega) (by omega) 9 ?_; intro v4 w4 hown4 hg4 hb4)
                obtain ⟨A4, c4, rfl⟩ := ownsRow_form hown4
                have HK4 : Hid (KS w w4 bt bc cap rest bp bm (.slice A4 (a9 + 1) c4) (.slice A10 a10 c10) s.t s.t.pures (key :: s.taken) (s.added ++ [key]) s.removed) := by
                  have h1 := hown4
                  have h2 := HR.out.1
                  refine HK3.out.pushAdd (key := key) ?_ hg4 hb4
                  rw [← h2]
                  exact h1
                have HX4 : Hid (At w4 bx 85 c.cells) := HX3.out.grown hg4 (ownb_ne HK3.out.add HX3.out (by decide))
                clear c0 hown4 hg4 hb4 HK3 HX3
                have c0 : w4.cell? ⟨bx, 0, none⟩ = some (Value.int .i64 (1)) := by rw [HX4.out.cell, cells_get0, HCN.out]
                have HCH := Lib.hid (change_any bt bc cap rest s.t key (-1) w4 (H.out.1.fr HK4.out.fr (by simp) (by simp)) HK4.out.tab HKL.out)
                go_wp2_with fail
                refine HCH.out.mono ?_
                rintro e w5 ⟨rfl, hf5, ht5⟩
                obtain ⟨t', HT'⟩ : ∃ t', Hid (t' = s.t.change key (-1)) := ⟨_, rfl⟩
                rw [← HT'.out] at ht5
                have HK5 : Hid (KS w w5 bt bc cap rest bp bm (.slice A4 (a9 + 1) c4) (.slice A10 a10 c10) t' s.t.pures (key :: s.taken) (s.added ++ [key]) s.removed) := HK4.out.chg hf5 ht5
                have HTN : Hid (t'.cells.length = n ∧ t'.seed = seed) := ⟨by rw [HT'.out, BT.change_len]; exact HR.out.2.2.1, by rw [HT'.out, HSD.out]; exact BT.atN_seed _ _ _ 3⟩
                clear hf5 ht5 HCH HK4 c0
                have HTC : Hid (∀ W, Fr [] w5 W → W.cell? ⟨bt, 0, none⟩ = some (.slice (some ⟨bc, 0, none⟩) n cap) ∧ W.cell? ⟨bt, 1, none⟩ = some (.int .u64 (seed : Int))) := fun W hW =>
                  ⟨by rw [(HK5.out.tab.tab.fr hW (by simp)).cell, ← HTN.out.1]; rfl, by rw [(HK5.out.tab.tab.fr hW (by simp)).cell, ← HTN.out.2]; rfl⟩
                obtain ⟨q0, q1⟩ := HTC.out w5 (Fr.refl _ _)
                have hbt5 : bt < w5.heap.size := HK5.out.tab.tab.lt
                obtain ⟨PL, HPLL⟩ : ∃ PL, Hid (PL = pl3 n seed key) := ⟨_, rfl⟩
                have HPL := Lib.hid (places_any n seed key w5.drew (H.out.1.fr HK5.out.fr.drew (by simp) (by simp)) (by rw [HSD.out]; exact HR.out.2.2.2.2.1.tab.ok.seed) (by rw [HKL.out]; omega) n3 n4)
                rw [← HPLL.out] at HPL
                go_wp2_with fail
                go_region_held3 (fun w' => w'.cell? ⟨bt, 0, none⟩ = some (.slice (some ⟨bc, 0, none⟩) n cap) ∧ w'.cell? ⟨bt, 1, none⟩ = some (.int .u64 (seed : Int))) (first | go_keep | (exact HTC.out _ H6.out))
                  (first | (go_at_call 40; ((with_reducible refine HPL.out.mono ?_)); rintro e w6 ⟨rfl, hf6⟩; have H6 : Hid (Fr [] w5 w6) := (Fr.refl [] w5).drew.trans hf6; clear hf6))
                rename_i hHeld
                have HK6 : Hid (KS w w6 bt bc cap rest bp bm (.slice A4 (a9 + 1) c4) (.slice A10 a10 c10) t' (patch n seed key s.t.pures t'.pures 0) (key :: s.taken) (s.added ++ [key]) s.removed) := HK5.out.fr0 H6.out
                clear hHeld q0 q1 HPL HTC H6 hbt5 HK5
                go_wp2_with fail
                go_loopw [91] (fun s91 wx => ∃ j : Nat, j ≤ 3 ∧ s91 = .int .i64 j ∧ Hid (KS w wx bt bc cap rest bp bm (.slice A4 (a9 + 1) c4) (.slice A10 a10 c10) t' (patch n seed key s.t.pures t'.pures j) (key :: s.taken) (s.added ++ [key]) s.removed)) (fun s91 _ => 3 - (intOf s91).toNat)
                case atStart => exact ⟨0, by omega, rfl, HK6⟩
                case round =>
                  obtain ⟨j, hj, rfl, HJ⟩ := hrel
                  by_cases hltj : j < 3
                  · obtain ⟨p, HPP⟩ : ∃ p, Hid (p = bplace n seed key j) := ⟨_, rfl⟩
                    have hpn : p < n := by rw [HPP.out]; exact bplace_lt n seed key j n3 hltj
                    have hixj : ∀ W : World, (Instr.index 70 (.agg PL.toArray) (.int .i64 (j : Int))).run Tryd.prog W = .ok (Value.int .i64 (p : Int)) W := run_index_agg (P := Tryd.prog) 70 3 3 PL (Value.int .i64 (p : Int)) .i64 j Tryd.underlying70 (by kernel_rfl) (fun _ => by kernel_rfl) hltj (by rw [HPLL.out, HPP.out]; exact pl3_get n seed key j hltj)
                    obtain ⟨c2, hc2⟩ : ∃ c2, t'.cells[p]? = some c2 := ⟨_, List.getElem?_eq_getElem (by rw [HTN.out.1]; exact hpn)⟩
                    have HPU := Lib.hid (pure_any bt bc cap rest t' p c2 wr (H.out.1.fr HJ.out.fr (by simp) (by simp)) HJ.out.tab hc2)
                    obtain ⟨b, HB⟩ : ∃ b, Hid (b = c2.pure t'.seed) := ⟨_, rfl⟩
                    rw [← HB.out] at HPU
                    have HST : Hid ((patch n seed key s.t.pures t'.pures j).set p b = patch n seed key s.t.pures t'.pures (j + 1)) := by
                      show _ = (patch n seed key s.t.pures t'.pures j).set (bplace n seed key j) (t'.pures.getD (bplace n seed key j) false)
                      rw [← HPP.out, List.getD_eq_getElem?_getD, BT.pures_get hc2, HB.out]
                      rfl
                    have hpI : (p : Int) < (n : Int) := by omega
                    have hjI : (j : Int) < 3 := by omega
                    clear hc2
                    go_wp2_with fail
                    refine HPU.out.mono ?_
                    rintro e w7 ⟨rfl, hf7⟩
                    have HJ7 : Hid (KS w w7 bt bc cap rest bp bm (.slice A4 (a9 + 1) c4) (.slice A10 a10 c10) t' (patch n seed key s.t.pures t'.pures j) (key :: s.taken) (s.added ++ [key]) s.removed) := HJ.out.fr0 hf7
                    obtain ⟨z, cz⟩ : ∃ z, w7.cell? ⟨bp, p, none⟩ = some (.bool z) := by
                      have hpl : p < (patch n seed key s.t.pures t'.pures j).length := by rw [patch_len, BT.pures_len, HR.out.2.2.1]; exact hpn
                      exact ⟨_, by rw [HJ7.out.pur.cell]; exact BB_get (List.getElem?_eq_getElem hpl)⟩
                    have fz := HJ7.out.pur.frozen p
                    have HN7 : Hid (KS w (w7.setCell ⟨bp, p, none⟩ (.bool b)) bt bc cap rest bp bm (.slice A4 (a9 + 1) c4) (.slice A10 a10 c10) t' (patch n seed key s.t.pures t'.pures (j + 1)) (key :: s.taken) (s.added ++ [key]) s.removed) := by
                      have h1 := HJ7.out.setP p b
                      rw [HST.out] at h1
                      exact h1
                    clear hf7 HPU
                    go_wp2_with fail
                    go_roundw
                    case rel =>
                      first
                        | exact ⟨j + 1, by omega, by go_num, HN7⟩
                        | ((repeat apply Exists.intro); exact ⟨⟨j + 1, by omega, by go_num, HN7⟩, rfl⟩)
                    case measure => simp [intOf] <;> omega
                  · obtain rfl : j = 3 := by omega
                    have HTAKE : Hid (s.take c = ⟨t', key :: s.taken, (s.added ++ [key]), s.removed⟩) := by
                      show s.take c = _
                      unfold Peel.take
                      rw [HCN.out, HT'.out, HKEY.out]
                      simp
                    have HEND : Hid (a9 + 1 = (s.take c).added.length ∧ a10 = (s.take c).removed.length ∧ (s.take c).t.cells.length = n ∧ (s.take c).t.seed = t.seed ∧ KS w wr bt bc cap rest bp bm (.slice A4 (a9 + 1) c4) (.slice A10 a10 c10) (s.take c).t (s.take c).t.pures (s.take c).taken (s.take c).added (s.take c).removed ∧ peel n ⟨t, [], [], []⟩ = peel (n - (k + 1)) (s.take c)) := by
                      have h1 := HJ.out
                      have h2 := patch_all s.t key (-1)
                      rw [HR.out.2.2.1, ← HSD.out, ← HT'.out] at h2
                      rw [h2] at h1
                      have h3 := peel_step m s i HF.out.1 (by rw [HF.out.2.2.1, ← HKEY.out, ← HTW.out])
                      rw [HF.out.2.2.1] at h3
                      rw [HTAKE.out] at h3 ⊢
                      have e9 := HR.out.1
                      have e10 := HR.out.2.1
                      refine ⟨by simp; omega, by simp; omega, HTN.out.1, by rw [← HR.out.2.2.2.1, ← HSD.out]; exact HTN.out.2, h1, ?_⟩
                      rw [HR.out.2.2.2.2.2, HF.out.2.2.2.2, h3]
                      congr 1
                      have := HF.out.2.2.2.2
                      omega
                    have htk' : (s.take c).taken.length ≤ k + 1 := by rw [HTAKE.out]; simp; omega
                    go_wp2_with fail
                    go_roundw
                    case rel =>
                      first
                        | exact ⟨k + 1, _, _, _, _, _, _, s.take c, by omega, by go_num, rfl, rfl, by omega, by omega, htk', HEND⟩
                        | ((repeat apply Exists.intro); exact ⟨⟨k + 1, _, _, _, _, _, _, s.take c, by omega, by go_num, rfl, rfl, by omega, by omega, htk', HEND⟩, rfl⟩)
                    case measure => simp [intOf] <;> omega
              · have c0 : w3.cell? ⟨bx, 0, none⟩ = some (Value.int .i64 (-1)) := by rw [HX3.out.cell, cells_get0, hcnt]
                have HCN := Lib.hid hcnt
                clear hcnt
                go_upto_region 22 with (at_builtin; refine wpList_push el_str rfl (.tmp 70) (.tmp 72) rfl w.heap.size _ _ (s.removed.map S8v) (.string (strOf key)) rfl HK3.out.rem' rfl rfl (by omega) (by omega) 9 ?_; intro v4 w4 hown4 hg4 hb4)
                obtain ⟨A4, c4, rfl⟩ := ownsRow_form hown4
                have HK4 : Hid (KS w w4 bt bc cap rest bp bm (.slice A9 a9 c9) (.slice A4 (a10 + 1) c4) s.t s.t.pures (key :: s.taken) s.added (s.removed ++ [key])) := by
                  have h1 := hown4
                  have h2 := HR.out.2.1
                  refine HK3.out.pushRem (key := key) ?_ hg4 hb4
                  rw [← h2]
                  exact h1
                have HX4 : Hid (At w4 bx 85 c.cells) := HX3.out.grown hg4 (ownb_ne HK3.out.rem HX3.out (by decide))
                clear c0 hown4 hg4 hb4 HK3 HX3
                have c0 : w4.cell? ⟨bx, 0, none⟩ = some (Value.int .i64 (-1)) := by rw [HX4.out.cell, cells_get0, HCN.out]
                have HCH := Lib.hid (change_any bt bc cap rest s.t key (1) w4 (H.out.1.fr HK4.out.fr (by simp) (by simp)) HK4.out.tab HKL.out)
                go_wp2_with fail
                refine HCH.out.mono ?_
                rintro e w5 ⟨rfl, hf5, ht5⟩
                obtain ⟨t', HT'⟩ : ∃ t', Hid (t' = s.t.change key (1)) := ⟨_, rfl⟩
                rw [← HT'.out] at ht5
                have HK5 : Hid (KS w w5 bt bc cap rest bp bm (.slice A9 a9 c9) (.slice A4 (a10 + 1) c4) t' s.t.pures (key :: s.taken) s.added (s.removed ++ [key])) := HK4.out.chg hf5 ht5
                have HTN : Hid (t'.cells.length = n ∧ t'.seed = seed) := ⟨by rw [HT'.out, BT.change_len]; exact HR.out.2.2.1, by rw [HT'.out, HSD.out]; exact BT.atN_seed _ _ _ 3⟩
                clear hf5 ht5 HCH HK4 c0
                have HTC : Hid (∀ W, Fr [] w5 W → W.cell? ⟨bt, 0, none⟩ = some (.slice (some ⟨bc, 0, none⟩) n cap) ∧ W.cell? ⟨bt, 1, none⟩ = some (.int .u64 (seed : Int))) := fun W hW =>
                  ⟨by rw [(HK5.out.tab.tab.fr hW (by simp)).cell, ← HTN.out.1]; rfl, by rw [(HK5.out.tab.tab.fr hW (by simp)).cell, ← HTN.out.2]; rfl⟩
                obtain ⟨q0, q1⟩ := HTC.out w5 (Fr.refl _ _)
                have hbt5 : bt < w5.heap.size := HK5.out.tab.tab.lt
                obtain ⟨PL, HPLL⟩ : ∃ PL, Hid (PL = pl3 n seed key) := ⟨_, rfl⟩
                have HPL := Lib.hid (places_any n seed key w5.drew (H.out.1.fr HK5.out.fr.drew (by simp) (by simp)) (by rw [HSD.out]; exact HR.out.2.2.2.2.1.tab.ok.seed) (by rw [HKL.out]; omega) n3 n4)
                rw [← HPLL.out] at HPL
                go_wp2_with fail
                go_region_held3 (fun w' => w'.cell? ⟨bt, 0, none⟩ = some (.slice (some ⟨bc, 0, none⟩) n cap) ∧ w'.cell? ⟨bt, 1, none⟩ = some (.int .u64 (seed : Int))) (first | go_keep | (exact HTC.out _ H6.out))
                  (first | (go_at_call 40; ((with_reducible refine HPL.out.mono ?_)); rintro e w6 ⟨rfl, hf6⟩; have H6 : Hid (Fr [] w5 w6) := (Fr.refl [] w5).drew.trans hf6; clear hf6))
                rename_i hHeld
                have HK6 : Hid (KS w w6 bt bc cap rest bp bm (.slice A9 a9 c9) (.slice A4 (a10 + 1) c4) t' (patch n seed key s.t.pures t'.pures 0) (key :: s.taken) s.added (s.removed ++ [key])) := HK5.out.fr0 H6.out
                clear hHeld q0 q1 HPL HTC H6 hbt5 HK5
                go_wp2_with fail
                go_loopw [91] (fun s91 wx => ∃ j : Nat, j ≤ 3 ∧ s91 = .int .i64 j ∧ Hid (KS w wx bt bc cap rest bp bm (.slice A9 a9 c9) (.slice A4 (a10 + 1) c4) t' (patch n seed key s.t.pures t'.pures j) (key :: s.taken) s.added (s.removed ++ [key]))) (fun s91 _ => 3 - (intOf s91).toNat)
                case atStart => exact ⟨0, by omega, rfl, HK6⟩
                case round =>
                  obtain ⟨j, hj, rfl, HJ⟩ := hrel
                  by_cases hltj : j < 3
                  · obtain ⟨p, HPP⟩ : ∃ p, Hid (p = bplace n seed key j) := ⟨_, rfl⟩
                    have hpn : p < n := by rw [HPP.out]; exact bplace_lt n seed key j n3 hltj
                    have hixj : ∀ W : World, (Instr.index 70 (.agg PL.toArray) (.int .i64 (j : Int))).run Tryd.prog W = .ok (Value.int .i64 (p : Int)) W := run_index_agg (P := Tryd.prog) 70 3 3 PL (Value.int .i64 (p : Int)) .i64 j Tryd.underlying70 (by kernel_rfl) (fun _ => by kernel_rfl) hltj (by rw [HPLL.out, HPP.out]; exact pl3_get n seed key j hltj)
                    obtain ⟨c2, hc2⟩ : ∃ c2, t'.cells[p]? = some c2 := ⟨_, List.getElem?_eq_getElem (by rw [HTN.out.1]; exact hpn)⟩
                    have HPU := Lib.hid (pure_any bt bc cap rest t' p c2 wr (H.out.1.fr HJ.out.fr (by simp) (by simp)) HJ.out.tab hc2)
                    obtain ⟨b, HB⟩ : ∃ b, Hid (b = c2.pure t'.seed) := ⟨_, rfl⟩
                    rw [← HB.out] at HPU
                    have HST : Hid ((patch n seed key s.t.pures t'.pures j).set p b = patch n seed key s.t.pures t'.pures (j + 1)) := by
                      show _ = (patch n seed key s.t.pures t'.pures j).set (bplace n seed key j) (t'.pures.getD (bplace n seed key j) false)
                      rw [← HPP.out, List.getD_eq_getElem?_getD, BT.pures_get hc2, HB.out]
                      rfl
                    have hpI : (p : Int) < (n : Int) := by omega
                    have hjI : (j : Int) < 3 := by omega
                    clear hc2
                    go_wp2_with fail
                    refine HPU.out.mono ?_
                    rintro e w7 ⟨rfl, hf7⟩
                    have HJ7 : Hid (KS w w7 bt bc cap rest bp bm (.slice A9 a9 c9) (.slice A4 (a10 + 1) c4) t' (patch n seed key s.t.pures t'.pures j) (key :: s.taken) s.added (s.removed ++ [key])) := HJ.out.fr0 hf7
                    obtain ⟨z, cz⟩ : ∃ z, w7.cell? ⟨bp, p, none⟩ = some (.bool z) := by
                      have hpl : p < (patch n seed key s.t.pures t'.pures j).length := by rw [patch_len, BT.pures_len, HR.out.2.2.1]; exact hpn
                      exact ⟨_, by rw [HJ7.out.pur.cell]; exact BB_get (List.getElem?_eq_getElem hpl)⟩
                    have fz := HJ7.out.pur.frozen p
                    have HN7 : Hid (KS w (w7.setCell ⟨bp, p, none⟩ (.bool b)) bt bc cap rest bp bm (.slice A9 a9 c9) (.slice A4 (a10 + 1) c4) t' (patch n seed key s.t.pures t'.pures (j + 1)) (key :: s.taken) s.added (s.removed ++ [key])) := by
                      have h1 := HJ7.out.setP p b
                      rw [HST.out] at h1
                      exact h1
                    clear hf7 HPU
                    go_wp2_with fail
                    go_roundw
                    case rel =>
                      first
                        | exact ⟨j + 1, by omega, by go_num, HN7⟩
                        | ((repeat apply Exists.intro); exact ⟨⟨j + 1, by omega, by go_num, HN7⟩, rfl⟩)
                    case measure => simp [intOf] <;> omega
                  · obtain rfl : j = 3 := by omega
                    have HTAKE : Hid (s.take c = ⟨t', key :: s.taken, s.added, (s.removed ++ [key])⟩) := by
                      show s.take c = _
                      unfold Peel.take
                      rw [HCN.out, HT'.out, HKEY.out]
                      simp
                    have HEND : Hid (a9 = (s.take c).added.length ∧ a10 + 1 = (s.take c).removed.length ∧ (s.take c).t.cells.length = n ∧ (s.take c).t.seed = t.seed ∧ KS w wr bt bc cap rest bp bm (.slice A9 a9 c9) (.slice A4 (a10 + 1) c4) (s.take c).t (s.take c).t.pures (s.take c).taken (s.take c).added (s.take c).removed ∧ peel n ⟨t, [], [], []⟩ = peel (n - (k + 1)) (s.take c)) := by
                      have h1 := HJ.out
                      have h2 := patch_all s.t key (1)
                      rw [HR.out.2.2.1, ← HSD.out, ← HT'.out] at h2
                      rw [h2] at h1
                      have h3 := peel_step m s i HF.out.1 (by rw [HF.out.2.2.1, ← HKEY.out, ← HTW.out])
                      rw [HF.out.2.2.1] at h3
                      rw [HTAKE.out] at h3 ⊢
                      have e9 := HR.out.1
                      have e10 := HR.out.2.1
                      refine ⟨by simp; omega, by simp; omega, HTN.out.1, by rw [← HR.out.2.2.2.1, ← HSD.out]; exact HTN.out.2, h1, ?_⟩
                      rw [HR.out.2.2.2.2.2, HF.out.2.2.2.2, h3]
                      congr 1
                      have := HF.out.2.2.2.2
                      omega
                    have htk' : (s.take c).taken.length ≤ k + 1 := by rw [HTAKE.out]; simp; omega
                    go_wp2_with fail
                    go_roundw
                    case rel =>
                      first
                        | exact ⟨k + 1, _, _, _, _, _, _, s.take c, by omega, by go_num, rfl, rfl, by omega, by omega, htk', HEND⟩
                        | ((repeat apply Exists.intro); exact ⟨⟨k + 1, _, _, _, _, _, _, s.take c, by omega, by go_num, rfl, rfl, by omega, by omega, htk', HEND⟩, rfl⟩)
                    case measure => simp [intOf] <;> omega
        · obtain rfl : k = n := by omega
          have HPE : Hid (peel k ⟨t, [], [], []⟩ = some s) := by show _ = _; rw [HR.out.2.2.2.2.2, Nat.sub_self]; rfl
          have HEM := Lib.hid (empty_any bt bc cap rest s.t wo HR.out.2.2.2.2.1.tab)
          go_wp2_with fail
          refine HEM.out.mono ?_
          rintro e w3 ⟨rfl, hf3⟩
          have HK3 : Hid (KS w w3 bt bc cap rest bp bm (.slice A9 a9 c9) (.slice A10 a10 c10) s.t s.t.pures s.taken s.added s.removed) := HR.out.2.2.2.2.1.fr0 hf3
          clear hf3 HEM
          cases hem : s.t.empty with
          | false =>
            have HRES : Hid (t.keys = none) := by show _ = _; unfold BT.keys BT.raw; rw [← HN.out, HPE.out]; simp [hem]
            go_wp2_with fail
            go_ret3
            exact ⟨HK3.out.fr, by rw [HRES.out]; rfl⟩
          | true =>
            have HRES : Hid (t.keys = some (sortS s.added, sortS s.removed)) := by show _ = _; unfold BT.keys BT.raw; rw [← HN.out, HPE.out]; simp [hem]
            have HS1 := Lib.hid (sortOwn HK3.out.add' HR.out.1 (by omega))
            go_wp2_with fail
            refine HS1.out.mono ?_
            rintro e w4 ⟨rfl, hf4, hr4⟩
            have HO4 : Hid (Fr [] w w4 ∧ RowIn w4 A9 ((sortStr s.added).map S8v) ∧ w4.ownsRow w.heap.size 9 1 (.slice A10 a10 c10) a10 (s.removed.map S8v)) := HK3.out.sorted1 HR.out.1 HR.out.2.1 hf4 hr4
            have HSEP : Hid (∀ g, (Value.slice A9 a9 c9).ownBlock = some g → (Value.slice A10 a10 c10).ownBlock ≠ some g) := fun g hg e => HK3.out.sep.elim (fun h0 => by rw [h0] at hg; cases hg) (fun h0 => h0 (by rw [hg, e]))
            have HS2 := Lib.hid (sortOwn HO4.out.2.2 HR.out.2.1 (by omega))
            clear hf4 hr4 HS1
            go_wp2_with fail
            refine HS2.out.mono ?_
            rintro e w5 ⟨rfl, hf5, hr5⟩
            have HO5 : Hid (Fr [] w w5 ∧ RowIn w5 A9 ((sortStr s.added).map S8v) ∧ RowIn w5 A10 ((sortStr s.removed).map S8v)) := sorted2 HO4.out.1 HO4.out.2.2 HSEP.out HO4.out.2.1 hf5 hr5
            clear hf5 hr5 HS2
            go_wp2_with fail
            go_ret3
            refine ⟨HO5.out.1, ?_⟩
            rw [HRES.out]
            refine ⟨A9, c9, A10, c10, ?_, HO5.out.2.1, HO5.out.2.2⟩
            show _ = Ending.returned (.tuple #[.slice A9 (sortStr s.added).length c9, .slice A10 (sortStr s.removed).length c10, Value.int .i64 0])
            rw [sortStr_len, sortStr_len, ← HR.out.1, ← HR.out.2.1]
            rfl

end Go.Proofs.YtnhagokkamobaaaDoor
