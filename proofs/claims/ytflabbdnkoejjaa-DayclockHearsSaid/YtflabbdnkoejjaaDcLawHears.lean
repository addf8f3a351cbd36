/- DayclockHears returns true for every input: telling the same days in another order, and once more, leads to the same supported day. -/
import Derived.Test.YtflabbdnkoejjaaDcTell
import Derived.Test.YtflabbdnkoejjaaDcRun2
import Derived.Test.YtflabbdnkoejjaaDcAwake
import Derived.Test.YtflabbdnkoejjaaDcOpen
import Derived.Deep.RegionLaw
namespace Go.Proofs.Ytflabbdnkoejjaa
open Go.RowKit

def Op3.tl (x : Op3) : Op3 := { kind := 2, dev := x.dev, day := x.day }
def opCells (ops : List Op3) : List Value := ops.flatMap fun x => [Value.int .i64 x.kind, Value.int .i64 x.dev, Value.int .i64 x.day]

theorem opCells_append (a b : List Op3) : opCells (a ++ b) = opCells a ++ opCells b := by simp [opCells]
theorem opCells_length (a : List Op3) : (opCells a).length = a.length * 3 := by
  induction a with
  | nil => rfl
  | cons x a ih => simp only [opCells, List.flatMap_cons, List.length_append, List.length_cons, List.length_nil] at ih ⊢; omega
theorem opCells_get (ops : List Op3) : ∀ (i : Nat) (x : Op3), ops[i]? = some x → (opCells ops)[i * 3]? = some (Value.int .i64 x.kind) ∧ (opCells ops)[i * 3 + 1]? = some (Value.int .i64 x.dev) ∧ (opCells ops)[i * 3 + 2]? = some (Value.int .i64 x.day) := by
  induction ops with
  | nil => intro i x h; simp at h
  | cons y ops ih =>
    intro i x h
    have e : opCells (y :: ops) = Value.int .i64 y.kind :: Value.int .i64 y.dev :: Value.int .i64 y.day :: opCells ops := rfl
    cases i with
    | zero =>
      simp only [List.getElem?_cons_zero, Option.some.injEq] at h
      subst h
      rw [e]
      exact ⟨rfl, rfl, rfl⟩
    | succ i =>
      simp only [List.getElem?_cons_succ] at h
      obtain ⟨h1, h2, h3⟩ := ih i x h
      rw [e, show (i + 1) * 3 = i * 3 + 3 by omega]
      exact ⟨h1, h2, h3⟩
theorem opCells_one (ops : List Op3) : ∀ u ∈ opCells ops, u.oneCell' = true := by
  intro u hu
  obtain ⟨x, _, hx⟩ := List.mem_flatMap.1 hu
  simp only [List.mem_cons, List.not_mem_nil, or_false] at hx
  rcases hx with rfl | rfl | rfl <;> rfl

theorem ops_of_own {w : World} {base : Nat} {e : TypeId} {A : Option Addr} {n c : Nat} {ops : List Op3} (h : w.ownsRow base e 3 (.slice A n c) n (opCells ops)) (hf : ∀ x ∈ ops, x.Fits) : OpsIn w A ops := by
  intro i x hx
  obtain ⟨h1, h2, h3⟩ := opCells_get ops i x hx
  refine ⟨hf x (List.mem_of_getElem? hx), ?_⟩
  rcases h.2 with ⟨_, h0⟩ | ⟨g, cap, cur, hv, _, hg, _⟩
  · have := h.1
    rw [h0, Nat.zero_mul] at this
    rw [List.eq_nil_of_length_eq_zero this] at h1
    simp at h1
  · simp only [Value.slice.injEq] at hv
    obtain ⟨rfl, _⟩ := hv
    have hc := h.cells (g := g) rfl
    simp only [addr_add, Nat.zero_add] at hc
    refine ⟨g, 0, rfl, (Array.getElem?_eq_some_iff.1 hg).1, ?_, ?_, ?_⟩
    · rw [Nat.zero_add]; exact hc _ _ h1
    · rw [Nat.zero_add]; exact hc _ _ h2
    · rw [Nat.zero_add]; exact hc _ _ h3

theorem own_new1 (w : World) (base : Nat) (e : TypeId) (a : List Value) (hb : base ≤ w.heap.size) (hl : a.length = 3) : (w.alloc (.cells a.toArray e)).ownsRow base e 3 (.slice (some ⟨w.heap.size, 0, none⟩) 1 1) 1 a :=
  ⟨by simpa using hl, .inr ⟨w.heap.size, 1, a.toArray, rfl, hb, heap_alloc_new w _, Nat.le_refl _, by unfold maxLen; omega, by simpa using hl, by rw [List.take_of_length_le]; simp; omega⟩⟩

theorem el_op : Elem Try.prog 34 36 (.agg #[Value.int .i64 0, Value.int .i64 0, Value.int .i64 0]) 3 24 := ⟨Try.underlying34, by kernel_rfl, rfl, by omega, by omega⟩

set_option maxHeartbeats 4000000 in
set_option maxRecDepth 100000 in
theorem hears_out (d l q : Int) (A : Option Addr) (n cap : Nat) (w : World) (hn : 12 < n) : Calls Try.prog 6 #[Value.int .i64 d, Value.int .i64 l, Value.int .i64 q, .slice A n cap] w (OkTrue w) := by
  have t1 : decide (12 < (n : Int)) = true := by simp; omega
  clear hn
  go_enter Try.func6, Try.ntmps6
  go_wp2_with fail
  refine (awake_any _).mono ?_
  rintro e w1 ⟨rfl, hf1⟩
  have H1 := Lib.hid hf1
  clear hf1
  go_wp2_with fail
  refine (awake_any _).mono ?_
  rintro e w2 ⟨rfl, hf2⟩
  have H2 := Lib.hid (H1.out.trans hf2)
  clear hf2 H1
  go_wp2_with fail
  go_ret
  exact ⟨rfl, H2.out⟩

set_option maxHeartbeats 4000000 in
set_option maxRecDepth 100000 in
theorem hears_in (d l q : Int) (A : Option Addr) (cap : Nat) (ops : List Op3) (w : World) (hops : OpsIn w A ops) (hn : ops.length ≤ 12) :
    Calls Try.prog 6 #[Value.int .i64 d, Value.int .i64 l, Value.int .i64 q, .slice A ops.length cap] w (OkTrue w) := by
  have HO := Lib.hid hops
  have t1 : decide (12 < (ops.length : Int)) = false := by simp; omega
  clear hops
  go_enter Try.func6, Try.ntmps6
  go_wp2_with fail
  refine (awake_any _).mono ?_
  rintro e w0 ⟨rfl, hf0⟩
  have h0z := hf0.size
  have HF0 := Lib.hid hf0
  clear hf0
  go_wp2_with fail
  have H0 : Hid (Fr [] w ((w0.alloc (.cells #[] 36)).alloc (.cells #[] 36)) ∧ ((w0.alloc (.cells #[] 36)).alloc (.cells #[] 36)).ownsRow w.heap.size 36 3 (.slice (some ⟨w0.heap.size, 0, none⟩) 0 0) 0 [] ∧ ((w0.alloc (.cells #[] 36)).alloc (.cells #[] 36)).ownsRow w.heap.size 36 3 (.slice (some ⟨w0.heap.size + 1, 0, none⟩) 0 0) 0 []) := by
    refine ⟨(HF0.out.alloc _).alloc _, (World.ownsRow_made w0 #[] 0 h0z (Nat.zero_le _) rfl).alloc _, ?_⟩
    have := World.ownsRow_made (base := w.heap.size) (e := 36) (size := 3) (w0.alloc (.cells #[] 36)) #[] 0 (by simp; omega) (Nat.zero_le _) rfl
    simpa using this
  clear HF0 t1
  go_loopw [9, 10, 11] (fun vt vb i wr => ∃ k : Nat, k ≤ ops.length ∧ i = .int .i64 k ∧ Fr [] w wr ∧ wr.ownsRow w.heap.size 36 3 vt k (opCells ((ops.take k).map Op3.tl)) ∧ wr.ownsRow w.heap.size 36 3 vb k (opCells ((ops.take k).map Op3.tl).reverse) ∧ vt.ownBlock ≠ vb.ownBlock) (fun _ _ i _ => ops.length - (intOf i).toNat)
  case atStart => exact ⟨0, by omega, rfl, H0.out.1, H0.out.2.1, H0.out.2.2, by simp [Value.ownBlock]⟩
  case round =>
    obtain ⟨k, hk, rfl, hfr, hvt, hvb, hne⟩ := hrel
    have HR := Lib.hid (And.intro hfr (And.intro hvt (And.intro hvb hne)))
    have hsz := hfr.size
    clear hfr H0
    obtain ⟨At', ct, rfl⟩ := ownsRow_form hvt
    obtain ⟨Ab, cb, rfl⟩ := ownsRow_form hvb
    clear hvt hvb hne
    by_cases hlt : k < ops.length
    · have hx := List.getElem?_eq_getElem hlt
      generalize ops[k] = x at hx
      obtain ⟨hfit, b, o, rfl, hb, c1, c2, c3⟩ := (HO.out.fr HR.out.1 (by simp)) k x hx
      have hsn : (ops.take (k + 1)).map Op3.tl = (ops.take k).map Op3.tl ++ [x.tl] := by rw [List.take_add_one, hx]; simp
      have HS := Lib.hid hsn
      have HX := Lib.hid hx
      clear hx hsn c1
      go_wp2_with fail
      go_region_law (refine step_app el_op rfl (.tmp 30) (.tmp 42) rfl w.heap.size (.slice At' k ct) k (opCells ((ops.take k).map Op3.tl)) (by simp [Act.eval]) (by exact HR.out.2.1.alloc _) (some ⟨wr.heap.size, 0, none⟩) 1 1 [Value.int .i64 2, Value.int .i64 x.dev, Value.int .i64 x.day] (by simp [Act.eval]) rfl (by exact CellsAt.new _ _ _) (by simp [Value.oneCell']) (by omega) (by simp; omega) ?_; intro v1 w1 hown1 hg1 hb1)
      all_goals
        replace hg1 := grown_drew hg1
        have H1 : Hid (Fr [] w w1 ∧ w1.ownsRow w.heap.size 36 3 v1 (k + 1) (opCells ((ops.take (k + 1)).map Op3.tl)) ∧ w1.ownsRow w.heap.size 36 3 (.slice Ab k cb) k (opCells ((ops.take k).map Op3.tl).reverse) ∧ v1.ownBlock ≠ (Value.slice Ab k cb).ownBlock) := by
          have hb0 := HR.out.2.2.1
          have hbl := hb0.lt
          refine ⟨(HR.out.1.alloc _).grown hg1 (fun g hg => .inr (HR.out.2.1.lt g hg).1), ?_, ?_, ?_⟩
          · rw [HS.out, opCells_append]; exact hown1
          · refine (hb0.alloc _).kept hg1 ?_
            cases hAb : (Value.slice Ab k cb).ownBlock with
            | none => exact .inl rfl
            | some g => exact .inr (by rw [← hAb]; exact fun e => HR.out.2.2.2 e.symm)
          · rcases hb1 with e | e
            · rw [e]; exact HR.out.2.2.2
            · rw [e]
              intro e'
              have h9 := (hbl _ e'.symm).2
              have h8 : ∀ o : Obj, (wr.alloc o).drew.heap.size = wr.heap.size + 1 := fun o => by simp
              rw [h8] at h9
              omega
        have hsz1 : w.heap.size ≤ w1.heap.size := H1.out.1.size
        have hw1 : wr.heap.size < w1.heap.size := by have := hg1.size; simp at this; omega
        obtain ⟨c2', c3'⟩ : w1.cell? ⟨b, o + k * 3 + 1, none⟩ = some (Value.int .i64 x.dev) ∧ w1.cell? ⟨b, o + k * 3 + 2, none⟩ = some (Value.int .i64 x.day) := by
          obtain ⟨_, b', o', hA, _, _, d2, d3⟩ := (HO.out.fr H1.out.1 (by simp)) k x HX.out
          injection hA with hA
          injection hA with hA1 hA2
          subst hA1 hA2
          exact ⟨d2, d3⟩
        clear hown1 hg1 hb1 c2 c3
        obtain ⟨A1, c1, rfl⟩ := ownsRow_form H1.out.2.1
        go_wp2_with fail
        simp only [Act.put, List.setIfInBounds_toArray]
        go_region_law (refine step_app el_op rfl (.tmp 55) (.tmp 56) rfl w.heap.size (.slice (some ⟨w1.heap.size, 0, none⟩) 1 1) 1 [Value.int .i64 2, Value.int .i64 x.dev, Value.int .i64 x.day] (by simp [Act.eval]) (by exact own_new1 _ _ _ _ hsz1 rfl) Ab k cb (opCells ((ops.take k).map Op3.tl).reverse) (by simp [Act.eval]) (by rw [opCells_length]; simp; omega) (by exact (CellsAt.of_own (H1.out.2.2.1.alloc _))) (opCells_one _) (by omega) (by simp; omega) ?_; intro v2 w2 hown2 hg2 hb2)
        all_goals
          replace hg2 := grown_drew hg2
          have H2 : Hid (Fr [] w w2 ∧ w2.ownsRow w.heap.size 36 3 (.slice A1 (k + 1) c1) (k + 1) (opCells ((ops.take (k + 1)).map Op3.tl)) ∧ w2.ownsRow w.heap.size 36 3 v2 (k + 1) (opCells ((ops.take (k + 1)).map Op3.tl).reverse) ∧ (Value.slice A1 (k + 1) c1).ownBlock ≠ v2.ownBlock) := by
            have ha0 := H1.out.2.1
            have hal := ha0.lt
            have h8 : ∀ o : Obj, (w1.alloc o).drew.heap.size = w1.heap.size + 1 := fun o => by simp
            refine ⟨(H1.out.1.alloc _).grown hg2 (fun g hg => .inr (by simp [Value.ownBlock] at hg; omega)), ?_, ?_, ?_⟩
            · refine (ha0.alloc _).kept hg2 (.inr ?_)
              intro e
              have := (hal w1.heap.size (by rw [e]; rfl)).2
              omega
            · rw [HS.out, List.reverse_append, opCells_append, Nat.add_comm]
              exact hown2
            · intro e
              rcases hb2 with e2 | e2
              · rw [e2] at e
                have := (hal w1.heap.size (by rw [e]; rfl)).2
                omega
              · rw [e2] at e
                have := (hal _ e).2
                rw [h8] at this
                omega
          clear hown2 hg2 hb2
          go_wp2_with fail
          go_roundw
          case rel => exact ⟨k + 1, by omega, by go_num, H2.out⟩
          case measure => simp [intOf]; omega
    · obtain rfl : k = ops.length := by omega
      have HT : Hid (Fr [] w wr ∧ wr.ownsRow w.heap.size 36 3 (.slice At' ops.length ct) ops.length (opCells (ops.map Op3.tl)) ∧ wr.ownsRow w.heap.size 36 3 (.slice Ab ops.length cb) ops.length (opCells (ops.map Op3.tl).reverse)) := by
        have := HR.out
        rw [List.take_length] at this
        exact ⟨this.1, this.2.1, this.2.2.1⟩
      clear HR
      have hfit : Hid (∀ x ∈ ops.map Op3.tl, x.Fits) := by
        intro x hx
        obtain ⟨y, hy, rfl⟩ := List.mem_map.1 hx
        have := HO.out.mem hy
        exact ⟨this.d0, this.d1, this.v⟩
      cases hr : (Clk.new d l q).ranges
      · have HRg := Lib.hid hr
        clear hr
        go_wp2_with fail
        refine (run_bad d l q _ _ _ _ HRg.out).mono ?_
        rintro e w1 ⟨rfl, hf1⟩
        have H1 := Lib.hid hf1
        have hsz1 : wr.heap.size ≤ w1.heap.size := hf1.size
        clear hf1
        have HT2 : Hid (∀ w2 : World, (w1.alloc (.cells #[] 36)).grownBy w2 (some w1.heap.size) → w2.ownsRow w.heap.size 36 3 (.slice At' ops.length ct) ops.length (opCells (ops.map Op3.tl))) := by
          intro w2 hg
          have h := ownsRow_fr HT.out.2.1 H1.out (by simp)
          refine (h.alloc _).kept hg (.inr ?_)
          intro e
          have := (h.lt _ e).2
          omega
        go_wp2_with (first
          | (at_builtin; refine wpList_app el_op rfl (.tmp 66) (.tmp 67) rfl w.heap.size _ 0 [] rfl (by exact World.ownsRow_made _ #[] 0 (by omega) (Nat.zero_le _) rfl) Ab _ cb (opCells (ops.map Op3.tl).reverse) rfl (by rw [opCells_length]; simp) (by exact CellsAt.of_own ((ownsRow_fr HT.out.2.2 H1.out (by simp)).alloc _)) (opCells_one _) (by omega) (by simp; omega) ?_; intro v2 w2 hown2 hg2 hb2)
          | (at_builtin; refine wpList_app el_op rfl (.tmp 68) (.tmp 69) rfl w.heap.size v2 (0 + ops.length) ([] ++ opCells (ops.map Op3.tl).reverse) rfl hown2 At' _ ct (opCells (ops.map Op3.tl)) rfl (by rw [opCells_length]; simp) (by exact CellsAt.of_own (HT2.out w2 hg2)) (opCells_one _) (by omega) (by have := hg2.size; simp at this; omega) ?_; intro v3 w3 hown3 hg3 hb3))
        obtain ⟨A3, c3, hv3⟩ := ownsRow_form hown3
        have hlen : 0 + ops.length + ops.length = ((ops.map Op3.tl).reverse ++ ops.map Op3.tl).length := by simp
        have H3 : Hid (Fr [] w w3 ∧ Fr [] w1 w3 ∧ w3.ownsRow w.heap.size 36 3 (.slice A3 ((ops.map Op3.tl).reverse ++ ops.map Op3.tl).length c3) ((ops.map Op3.tl).reverse ++ ops.map Op3.tl).length (opCells ((ops.map Op3.tl).reverse ++ ops.map Op3.tl))) := by
          have hs2 := hg2.size
          have h8 : ∀ o : Obj, (w1.alloc o).heap.size = w1.heap.size + 1 := fun o => by simp
          rw [h8] at hs2
          have f13 : Fr [] w1 w3 := by
            refine (((Fr.refl [] w1).alloc _).grown hg2 (fun g hg => .inr (by have hg' : some w1.heap.size = some g := hg; injection hg' with hg'; omega))).grown hg3 (fun g hg => .inr ?_)
            rcases hb2 with e | e
            · have hg' : some w1.heap.size = some g := e.symm.trans hg
              injection hg' with hg'
              omega
            · have hg' := e.symm.trans hg
              rw [h8] at hg'
              injection hg' with hg'
              omega
          refine ⟨(HT.out.1.trans H1.out).trans f13, f13, ?_⟩
          rw [hv3] at hown3
          rw [← hlen, opCells_append]
          simpa using hown3
        rw [hv3, hlen]
        clear hown2 hg2 hb2 hown3 hg3 hb3 hv3 hlen
        refine (run_bad d l q _ _ _ _ HRg.out).mono ?_
        rintro e w4 ⟨rfl, hf4⟩
        have H4 := Lib.hid (H3.out.1.trans hf4)
        clear hf4
        go_wp2_with fail
        go_ret
        exact ⟨rfl, H4.out⟩
      · have HRg := Lib.hid hr
        have HP := Lib.hid (hears_plain d l q hr (ops.map Op3.tl) (by intro x hx; obtain ⟨y, _, rfl⟩ := List.mem_map.1 hx; show (2 : Int) ≠ 1; decide))
        clear hr
        have hlt : (ops.map Op3.tl).length = ops.length := by simp
        have HT' : Hid (wr.ownsRow w.heap.size 36 3 (.slice At' (ops.map Op3.tl).length ct) (ops.map Op3.tl).length (opCells (ops.map Op3.tl))) := by rw [hlt]; exact HT.out.2.1
        go_wp2_with fail
        rw [← hlt]
        refine (run_ok d l q At' ct (ops.map Op3.tl) _ HRg.out (ops_of_own HT'.out hfit.out) (by simp; omega)).mono ?_
        rintro e w1 ⟨rfl, hf1, ha1⟩
        have HA1 := Lib.hid ha1
        rw [hlt]
        clear hlt ha1
        have H1 := Lib.hid hf1
        have hsz1 : wr.heap.size ≤ w1.heap.size := hf1.size
        clear hf1
        have HT2 : Hid (∀ w2 : World, (w1.alloc (.cells #[] 36)).grownBy w2 (some w1.heap.size) → w2.ownsRow w.heap.size 36 3 (.slice At' ops.length ct) ops.length (opCells (ops.map Op3.tl))) := by
          intro w2 hg
          have h := ownsRow_fr HT.out.2.1 H1.out (by simp)
          refine (h.alloc _).kept hg (.inr ?_)
          intro e
          have := (h.lt _ e).2
          omega
        go_wp2_with (first
          | (at_builtin; refine wpList_app el_op rfl (.tmp 66) (.tmp 67) rfl w.heap.size _ 0 [] rfl (by exact World.ownsRow_made _ #[] 0 (by omega) (Nat.zero_le _) rfl) Ab _ cb (opCells (ops.map Op3.tl).reverse) rfl (by rw [opCells_length]; simp) (by exact CellsAt.of_own ((ownsRow_fr HT.out.2.2 H1.out (by simp)).alloc _)) (opCells_one _) (by omega) (by simp; omega) ?_; intro v2 w2 hown2 hg2 hb2)
          | (at_builtin; refine wpList_app el_op rfl (.tmp 68) (.tmp 69) rfl w.heap.size v2 (0 + ops.length) ([] ++ opCells (ops.map Op3.tl).reverse) rfl hown2 At' _ ct (opCells (ops.map Op3.tl)) rfl (by rw [opCells_length]; simp) (by exact CellsAt.of_own (HT2.out w2 hg2)) (opCells_one _) (by omega) (by have := hg2.size; simp at this; omega) ?_; intro v3 w3 hown3 hg3 hb3))
        obtain ⟨A3, c3, hv3⟩ := ownsRow_form hown3
        have hlen : 0 + ops.length + ops.length = ((ops.map Op3.tl).reverse ++ ops.map Op3.tl).length := by simp
        have H3 : Hid (Fr [] w w3 ∧ Fr [] w1 w3 ∧ w3.ownsRow w.heap.size 36 3 (.slice A3 ((ops.map Op3.tl).reverse ++ ops.map Op3.tl).length c3) ((ops.map Op3.tl).reverse ++ ops.map Op3.tl).length (opCells ((ops.map Op3.tl).reverse ++ ops.map Op3.tl))) := by
          have hs2 := hg2.size
          have h8 : ∀ o : Obj, (w1.alloc o).heap.size = w1.heap.size + 1 := fun o => by simp
          rw [h8] at hs2
          have f13 : Fr [] w1 w3 := by
            refine (((Fr.refl [] w1).alloc _).grown hg2 (fun g hg => .inr (by have hg' : some w1.heap.size = some g := hg; injection hg' with hg'; omega))).grown hg3 (fun g hg => .inr ?_)
            rcases hb2 with e | e
            · have hg' : some w1.heap.size = some g := e.symm.trans hg
              injection hg' with hg'
              omega
            · have hg' := e.symm.trans hg
              rw [h8] at hg'
              injection hg' with hg'
              omega
          refine ⟨(HT.out.1.trans H1.out).trans f13, f13, ?_⟩
          rw [hv3] at hown3
          rw [← hlen, opCells_append]
          simpa using hown3
        rw [hv3, hlen]
        clear hown2 hg2 hb2 hown3 hg3 hb3 hv3 hlen
        refine (run_ok d l q A3 c3 _ _ HRg.out (ops_of_own H3.out.2.2 (by intro x hx; exact hfit.out x (by simpa using hx))) (by simp; omega)).mono ?_
        rintro e w4 ⟨rfl, hf4, ha4⟩
        have hiA := (Clk.new_inv d l q HRg.out).runs (Int.le_refl _) (ops.map Op3.tl) (by simp; omega) hfit.out
        have hiB := (Clk.new_inv d l q HRg.out).runs (Int.le_refl _) ((ops.map Op3.tl).reverse ++ ops.map Op3.tl) (by simp; omega) (by intro x hx; exact hfit.out x (by simpa using hx))
        have HI := Lib.hid (And.intro hiA hiB)
        have hP := HP.out
        generalize (Clk.new d l q).runs (ops.map Op3.tl) = a at hP HI HA1
        generalize (Clk.new d l q).runs ((ops.map Op3.tl).reverse ++ ops.map Op3.tl) = b at hP HI ha4
        have H4 : Hid (Fr [] w w4 ∧ At w4 wr.heap.size 57 a.cells ∧ At w4 w3.heap.size 57 b.cells) := ⟨H3.out.1.trans hf4, (HA1.out.fr H3.out.2.1 (by simp)).fr hf4 (by simp), ha4⟩
        have HP' := Lib.hid hP
        clear hP hf4 ha4 hiA hiB
        go_wp2_with fail
        refine (supported_any _ a _ H4.out.2.1 HI.out.1.ok HI.out.1.q0 HI.out.1.q1).mono ?_
        rintro e w5 ⟨rfl, hf5⟩
        have H5 : Hid (Fr [] w w5 ∧ At w5 wr.heap.size 57 a.cells ∧ At w5 w3.heap.size 57 b.cells) := ⟨H4.out.1.trans hf5, H4.out.2.1.fr hf5 (by simp), H4.out.2.2.fr hf5 (by simp)⟩
        clear hf5
        go_wp2_with fail
        refine (supported_any _ b _ H5.out.2.2 HI.out.2.ok HI.out.2.q0 HI.out.2.q1).mono ?_
        rintro e w6 ⟨rfl, hf6⟩
        have H6 : Hid (Fr [] w w6 ∧ At w6 wr.heap.size 57 a.cells ∧ At w6 w3.heap.size 57 b.cells) := ⟨H5.out.1.trans hf6, H5.out.2.1.fr hf6 (by simp), H5.out.2.2.fr hf6 (by simp)⟩
        clear hf6
        rw [← HP'.out.1]
        go_wp2_with fail
        refine (day_any _ _ _ H6.out.2.1).mono ?_
        rintro e w' ⟨rfl, rfl⟩
        go_wp2_with fail
        refine (day_any _ _ _ H6.out.2.2).mono ?_
        rintro e w' ⟨rfl, rfl⟩
        rw [← HP'.out.2.1]
        go_wp2_with fail
        refine (own_any _ _ _ H6.out.2.1).mono ?_
        rintro e w' ⟨rfl, rfl⟩
        rw [HP'.out.2.2]
        go_wp2_with fail
        go_ret
        exact ⟨rfl, H6.out.1⟩

theorem hears_any (d l q : Int) (A : Option Addr) (cap : Nat) (ops : List Op3) (w : World) (hops : OpsIn w A ops) :
    Calls Try.prog 6 #[Value.int .i64 d, Value.int .i64 l, Value.int .i64 q, .slice A ops.length cap] w (OkTrue w) := by
  by_cases h : 12 < ops.length
  · exact hears_out d l q A _ cap w h
  · exact hears_in d l q A cap ops w hops (by omega)

end Go.Proofs.Ytflabbdnkoejjaa
