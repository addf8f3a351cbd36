/- Contract of the reference's Hear of layer 25. -/
import Derived.Test.YtflabbdnkoejjaaRefDc3
import Derived.Test.YtflabbdnkoejjaaDcLink
import Derived.Test.YtflabbdnkoejjaaRef1
namespace Go.Proofs.Ytflabbdnkoejjaa
open Go.RowKit

theorem el_told : Elem Try.prog 26 63 (.agg #[Value.int .i64 0, Value.int .i64 0]) 2 16 := ⟨Try.underlying26, by kernel_rfl, rfl, by omega, by omega⟩

def RClk.hear (c : RClk) (v d : Int) : RClk :=
  if c.day < rsup c.first c.quorum (rhTold v d c.told) then { c with told := rhTold v d c.told, day := rsup c.first c.quorum (rhTold v d c.told), own := 0 } else { c with told := rhTold v d c.told }

set_option maxRecDepth 100000 in
set_option maxHeartbeats 4000000 in
theorem refHear_bad (c : RClk) (A : Option Addr) (cp : Nat) (v d : Int) (w : World) (h : (inDev v && inDay d) = false) :
    Calls Try.prog 20 #[.agg (c.cells A cp).toArray, Value.int .i64 v, Value.int .i64 d] w fun e w' => e = .returned (.tuple #[.agg (c.cells A cp).toArray, Value.int .i64 1]) ∧ Fr [] w w' := by
  obtain ⟨first, day, leap, quorum, own, has, ref, told⟩ := c
  show Calls Try.prog 20 #[.agg #[Value.int .i64 first, Value.int .i64 day, Value.int .i64 leap, Value.int .i64 quorum, Value.int .i64 own, Value.bool has, Value.int .i64 ref, .slice A told.length cp], Value.int .i64 v, Value.int .i64 d] w fun e w' => e = .returned (.tuple #[.agg #[Value.int .i64 first, Value.int .i64 day, Value.int .i64 leap, Value.int .i64 quorum, Value.int .i64 own, Value.bool has, Value.int .i64 ref, .slice A told.length cp], Value.int .i64 1]) ∧ Fr [] w w'
  have h' : v < 0 ∨ 12 ≤ v ∨ d < 0 ∨ 999999 < d := by
    simp [inDev, inDay] at h
    omega
  clear h
  by_cases h0 : v < 0
  · go_enter Try.func20, Try.ntmps20
    go_wp2_with fail
    exact bodyPost_ret (v := .tuple #[.agg #[Value.int .i64 first, Value.int .i64 day, Value.int .i64 leap, Value.int .i64 quorum, Value.int .i64 own, Value.bool has, Value.int .i64 ref, .slice A told.length cp], Value.int .i64 1]) (by simp [results, Try.results20, go_sem]) rfl ⟨rfl, ((Fr.refl _ _).alloc _).alloc _⟩
  by_cases h1 : 12 ≤ v
  · go_enter Try.func20, Try.ntmps20
    go_wp2_with fail
    exact bodyPost_ret (v := .tuple #[.agg #[Value.int .i64 first, Value.int .i64 day, Value.int .i64 leap, Value.int .i64 quorum, Value.int .i64 own, Value.bool has, Value.int .i64 ref, .slice A told.length cp], Value.int .i64 1]) (by simp [results, Try.results20, go_sem]) rfl ⟨rfl, ((Fr.refl _ _).alloc _).alloc _⟩
  by_cases h2 : d < 0
  · go_enter Try.func20, Try.ntmps20
    go_wp2_with fail
    exact bodyPost_ret (v := .tuple #[.agg #[Value.int .i64 first, Value.int .i64 day, Value.int .i64 leap, Value.int .i64 quorum, Value.int .i64 own, Value.bool has, Value.int .i64 ref, .slice A told.length cp], Value.int .i64 1]) (by simp [results, Try.results20, go_sem]) rfl ⟨rfl, ((Fr.refl _ _).alloc _).alloc _⟩
  have h3 : 999999 < d := by omega
  clear h'
  go_enter Try.func20, Try.ntmps20
  go_wp2_with fail
  exact bodyPost_ret (v := .tuple #[.agg #[Value.int .i64 first, Value.int .i64 day, Value.int .i64 leap, Value.int .i64 quorum, Value.int .i64 own, Value.bool has, Value.int .i64 ref, .slice A told.length cp], Value.int .i64 1]) (by simp [results, Try.results20, go_sem]) rfl ⟨rfl, ((Fr.refl _ _).alloc _).alloc _⟩

theorem rh_snoc (v d : Int) (told : List (Int × Int)) (k : Nat) (x : Int × Int) (h : told[k]? = some x) : (told.take (k + 1)).foldl (rhStep v d) ([], false) = rhStep v d ((told.take k).foldl (rhStep v d) ([], false)) x := by
  rw [List.take_add_one, h]
  simp

theorem rh_len (v d : Int) (told : List (Int × Int)) (s : List (Int × Int) × Bool) : (told.foldl (rhStep v d) s).1.length ≤ s.1.length + 2 * told.length := by
  induction told generalizing s with
  | nil => simp
  | cons x l ih =>
    rw [List.foldl_cons]
    have := ih (rhStep v d s x)
    have h2 : (rhStep v d s x).1.length ≤ s.1.length + 2 := by
      unfold rhStep
      simp only
      split <;> split <;> simp
    simp only [List.length_cons]
    omega

/-- In the midst of Hear: what was put out so far. -/
structure RHW (W wr : World) (v d : Int) (told : List (Int × Int)) (k : Nat) (ov dv : Value) (l : List (Int × Int)) (b : Bool) (A : Option Addr) (cp : Nat) : Prop where
  le : k ≤ told.length
  fold : (told.take k).foldl (rhStep v d) ([], false) = (l, b)
  o : ov = .slice A l.length cp
  dn : dv = Value.bool b
  own : wr.ownsRow W.heap.size 63 2 ov l.length (tcells l)
  fr : Fr [] W wr

def RHearRes (c : RClk) (v d : Int) (w : World) (e : Ending) (w' : World) : Prop :=
  ∃ A' cp', e = .returned (.tuple #[.agg ((c.hear v d).cells A' cp').toArray, Value.int .i64 0]) ∧ Fr [] w w' ∧ RowIn w' A' (tcells (c.hear v d).told) ∧ ∀ b o, A' = some ⟨b, o, none⟩ → w.heap.size ≤ b

theorem RowIn.of_owned {w : World} {base : Nat} {e : TypeId} {sz : Nat} {A : Option Addr} {n c : Nat} {xs : List Value} (h : w.ownsRow base e sz (.slice A n c) n xs) : RowIn w A xs := by
  intro j u hu
  rcases h.2 with ⟨_, h0⟩ | ⟨g, cap, cur, hv, _, hg, _⟩
  · have := h.1
    rw [h0, Nat.zero_mul] at this
    rw [List.eq_nil_of_length_eq_zero this] at hu
    simp at hu
  · simp only [Value.slice.injEq] at hv
    obtain ⟨rfl, _⟩ := hv
    have hc := h.cells (g := g) rfl j u hu
    rw [add_none] at hc
    exact ⟨g, 0, rfl, (Array.getElem?_eq_some_iff.1 hg).1, hc⟩

theorem own_ge {w : World} {base : Nat} {e : TypeId} {sz : Nat} {A : Option Addr} {n c : Nat} {xs : List Value} (h : w.ownsRow base e sz (.slice A n c) n xs) (b o : Nat) (hA : A = some ⟨b, o, none⟩) : base ≤ b := by
  rcases h.2 with ⟨hv, _⟩ | ⟨g, cap, cur, hv, hb, _⟩
  · simp only [Value.slice.injEq] at hv
    rw [hA] at hv
    cases hv.1
  · simp only [Value.slice.injEq] at hv
    rw [hA] at hv
    have h1 := hv.1
    injection h1 with h1
    injection h1 with h1
    omega

theorem own_lt {w : World} {base : Nat} {e : TypeId} {sz : Nat} {v : Value} {n : Nat} {xs : List Value} (h : w.ownsRow base e sz v n xs) (g : Nat) (hg : v.ownBlock = some g) : g < w.heap.size := by
  rcases h.2 with ⟨rfl, _⟩ | ⟨g', cap, cur, rfl, hb, hgg, _⟩
  · cases hg
  · injection hg with hg
    subst hg
    exact (Array.getElem?_eq_some_iff.1 hgg).1

/-- A block that is new stays over an append onto an elder row. -/
theorem At.grown {w w1 : World} {t : TypeId} {v : Value} {b : Nat} {l : List Value} (h : At w b t l) (hg : w.grownBy w1 v.ownBlock) (hne : v.ownBlock ≠ some b) : At w1 b t l :=
  (hg.block b h.lt (fun he => hne he.symm)).trans h

theorem told_push {W wr w1 : World} {l : List (Int × Int)} {v v' : Value} {a b : Int} (hf : Fr [] W wr) (hown : wr.ownsRow W.heap.size 63 2 v l.length (tcells l))
    (hown1 : w1.ownsRow W.heap.size 63 2 v' (l.length + 1) (tcells l ++ [Value.int .i64 a, Value.int .i64 b])) (hg : wr.grownBy w1 v.ownBlock) :
    ∃ A c l', Hid (l' = l ++ [(a, b)]) ∧ l'.length ≤ l.length + 1 ∧ v' = .slice A l'.length c ∧ w1.ownsRow W.heap.size 63 2 v' l'.length (tcells l') ∧ Fr [] W w1 := by
  obtain ⟨A, c, rfl⟩ := ownsRow_form hown1
  have e : (l ++ [(a, b)]).length = l.length + 1 := by simp
  refine ⟨A, c, l ++ [(a, b)], rfl, by omega, by rw [e], ?_, fr_push hf hown hg⟩
  rw [e, tcells_append]
  exact hown1

set_option maxRecDepth 100000 in
set_option maxHeartbeats 8000000 in
theorem refHear_ok (c : RClk) (A : Option Addr) (cp : Nat) (v d : Int) (w : World) (h : (inDev v && inDay d) = true) (hrow : RowIn w A (tcells c.told)) (hl : c.told.length ≤ 100) :
    Calls Try.prog 20 #[.agg (c.cells A cp).toArray, Value.int .i64 v, Value.int .i64 d] w (RHearRes c v d w) := by
  obtain ⟨first, day, leap, quorum, own, has, ref, told⟩ := c
  simp only at hrow hl
  show Calls Try.prog 20 #[.agg #[Value.int .i64 first, Value.int .i64 day, Value.int .i64 leap, Value.int .i64 quorum, Value.int .i64 own, Value.bool has, Value.int .i64 ref, .slice A told.length cp], Value.int .i64 v, Value.int .i64 d] w (RHearRes ⟨first, day, leap, quorum, own, has, ref, told⟩ v d w)
  obtain ⟨h0, h1, h2, h3⟩ : 0 ≤ v ∧ v < 12 ∧ 0 ≤ d ∧ d ≤ 999999 := by
    simp [inDev, inDay] at h
    omega
  have H := Lib.hid hrow
  clear h hrow
  have q0 : decide (v < 0) = false := by simpa using h0
  have q1 : decide (12 ≤ v) = false := by simpa using h1
  have q2 : decide (d < 0) = false := by simpa using h2
  have q3 : decide (999999 < d) = false := by simpa using h3
  go_enter Try.func20, Try.ntmps20
  go_wp2_with fail
  clear q0 q1 q2 q3
  obtain ⟨W, hW⟩ : ∃ W, W = (w.alloc (.cells #[Value.int .i64 first, Value.int .i64 day, Value.int .i64 leap, Value.int .i64 quorum, Value.int .i64 own, Value.bool has, Value.int .i64 ref, .slice A told.length cp] 28)).alloc (.cells #[Value.int .i64 0, Value.int .i64 0, Value.int .i64 0, Value.int .i64 0, Value.int .i64 0, Value.bool false, Value.int .i64 0, .slice none 0 0] 28) := ⟨_, rfl⟩
  rw [← hW]
  have HW : Hid (Fr [] w W ∧ At W w.heap.size 28 [Value.int .i64 first, Value.int .i64 day, Value.int .i64 leap, Value.int .i64 quorum, Value.int .i64 own, Value.bool has, Value.int .i64 ref, .slice A told.length cp] ∧ At W (w.heap.size + 1) 28 [Value.int .i64 0, Value.int .i64 0, Value.int .i64 0, Value.int .i64 0, Value.int .i64 0, Value.bool false, Value.int .i64 0, .slice none 0 0] ∧ W.heap.size = w.heap.size + 1 + 1) := by
    rw [hW]
    obtain ⟨h0, h1⟩ := two_new w 28 28 [Value.int .i64 first, Value.int .i64 day, Value.int .i64 leap, Value.int .i64 quorum, Value.int .i64 own, Value.bool has, Value.int .i64 ref, .slice A told.length cp] [Value.int .i64 0, Value.int .i64 0, Value.int .i64 0, Value.int .i64 0, Value.int .i64 0, Value.bool false, Value.int .i64 0, .slice none 0 0] (Fr.refl [] _)
    exact ⟨((Fr.refl _ _).alloc _).alloc _, h0, h1, by simp⟩
  have hWs : w.heap.size + 2 ≤ W.heap.size := by rw [hW]; simp
  clear hW
  go_loopw [8, 9, 32] (fun o dn i wr => ∃ (k : Nat) (l : List (Int × Int)) (b : Bool) (A' : Option Addr) (cp' : Nat), i = .int .i64 k ∧ RHW W wr v d told k o dn l b A' cp') (fun _ _ i _ => told.length - (intOf i).toNat)
  case atStart =>
    refine ⟨0, [], false, some ⟨w.heap.size + 1 + 1, 0, none⟩, 0, rfl, ⟨Nat.zero_le _, rfl, rfl, rfl, ?_, (Fr.refl _ _).alloc _⟩⟩
    have := World.ownsRow_made (e := 63) (base := W.heap.size) (size := 2) W #[] 0 (Nat.le_refl _) (Nat.zero_le _) rfl
    rw [HW.out.2.2.2] at this ⊢
    exact this
  case round =>
    obtain ⟨k, l, b, A', cp', rfl, hle, hfold, rfl, rfl, hown, hfr⟩ := hrel
    have hsz := hfr.size
    have hll := rh_len v d (told.take k) ([], false)
    rw [hfold] at hll
    simp only [List.length_take, List.length_nil] at hll
    have HR := Lib.hid (And.intro hown hfr)
    have HFo := Lib.hid hfold
    clear hown hfr hfold
    by_cases hlt : k < told.length
    · have hx := List.getElem?_eq_getElem hlt
      generalize told[k] = x at hx
      obtain ⟨g, o, hA, hg, hc0, hc1⟩ := tcell (H.out.fr0 (HW.out.1.trans HR.out.2)) k x hx
      subst hA
      have hsn := rh_snoc v d told k x hx
      rw [HFo.out] at hsn
      have HS := Lib.hid hsn
      clear hx hsn
      by_cases e1 : x.1 = v
      · have q1 : (x.1 == v) = true := by simpa using e1
        have q2 : decide (v < x.1) = false := by simp; omega
        have hs2 : (told.take (k + 1)).foldl (rhStep v d) ([], false) = (l ++ [(x.1, max x.2 d)], true) := by
          rw [HS.out]; simp [rhStep, e1]
        have HS2 := Lib.hid hs2
        clear hs2 e1 HS
        go_wp2_with (at_builtin; refine wpList_pushN el_told rfl (.tmp 59) (.tmp 61) rfl W.heap.size _ _ (tcells l) [Value.int .i64 x.1, Value.int .i64 (max x.2 d)] rfl (by exact HR.out.1.alloc _) (by simp [Act.eval]) rfl (by simp [Value.oneCell']) (by omega) (by simp; omega) 63 ?_; intro v' w1 hown1 hg1 hb1)
        obtain ⟨A2, c2, l2, HL2, hl2, rfl, ho2, hf2⟩ := told_push (HR.out.2.alloc _) (HR.out.1.alloc _) hown1 hg1
        have H2 := Lib.hid (And.intro ho2 hf2)
        clear ho2 hf2 hown1 hg1 hb1
        go_wp2_with fail
        go_roundw
        case rel => exact ⟨k + 1, l2, true, A2, c2, by go_num, by omega, by rw [HL2.out]; exact HS2.out, rfl, rfl, H2.out.1, H2.out.2⟩
        case measure => simp [intOf]; omega
      · have q1 : (x.1 == v) = false := by simpa using e1
        by_cases e2 : v < x.1
        · cases b
          · have q2 : decide (v < x.1) = true := by simpa using e2
            have hs2 : (told.take (k + 1)).foldl (rhStep v d) ([], false) = (l ++ [(v, d)] ++ [(x.1, x.2)], true) := by
              rw [HS.out]; simp [rhStep, e1, e2]
            have HS2 := Lib.hid hs2
            clear hs2 e1 e2 HS
            go_wp2_with (first
              | (at_builtin; refine wpList_pushN el_told rfl (.tmp 53) (.tmp 57) rfl W.heap.size _ _ (tcells l) [Value.int .i64 v, Value.int .i64 d] rfl (by exact HR.out.1.alloc _) (by simp [Act.eval]) rfl (by simp [Value.oneCell']) (by omega) (by simp; omega) 63 ?_; intro v' w1 hown1 hg1 hb1; obtain ⟨A2, c2, l2, HL2, hl2, rfl, ho2, hf2⟩ := told_push (HR.out.2.alloc _) (HR.out.1.alloc _) hown1 hg1; have hat : At w1 wr.heap.size 63 [Value.int .i64 x.1, Value.int .i64 x.2] := (At.new wr 63 [Value.int .i64 x.1, Value.int .i64 x.2]).grown hg1 (fun he => absurd (own_lt HR.out.1 _ he) (Nat.lt_irrefl _)); have x0 : w1.cell? ⟨wr.heap.size, 0, none⟩ = some (Value.int .i64 x.1) := (by rw [hat.cell]; rfl); have x1 : w1.cell? ⟨wr.heap.size, 1, none⟩ = some (Value.int .i64 x.2) := (by rw [hat.cell]; rfl); have hsz1 := hf2.size; have H2 := Lib.hid (And.intro ho2 hf2); clear ho2 hf2 hown1 hg1 hb1 hat)
              | (at_builtin; refine wpList_pushN el_told rfl (.tmp 59) (.tmp 61) rfl W.heap.size _ _ (tcells l2) [Value.int .i64 x.1, Value.int .i64 x.2] rfl (by exact H2.out.1) rfl rfl (by simp [Value.oneCell']) (by omega) (by omega) 63 ?_; intro v' w2 hown2 hg2 hb2))
            obtain ⟨A3, c3, l3, HL3, hl3, rfl, ho3, hf3⟩ := told_push H2.out.2 H2.out.1 hown2 hg2
            have H3 := Lib.hid (And.intro ho3 hf3)
            clear ho3 hf3 hown2 hg2 hb2
            go_wp2_with fail
            go_roundw
            case rel => exact ⟨k + 1, l3, true, A3, c3, by go_num, by omega, by rw [HL3.out, HL2.out]; exact HS2.out, rfl, rfl, H3.out.1, H3.out.2⟩
            case measure => simp [intOf]; omega
          · have q2 : decide (v < x.1) = true := by simpa using e2
            have hs2 : (told.take (k + 1)).foldl (rhStep v d) ([], false) = (l ++ [(x.1, x.2)], true) := by
              rw [HS.out]; simp [rhStep, e1, e2]
            have HS2 := Lib.hid hs2
            clear hs2 e1 e2 HS
            go_wp2_with (at_builtin; refine wpList_pushN el_told rfl (.tmp 59) (.tmp 61) rfl W.heap.size _ _ (tcells l) [Value.int .i64 x.1, Value.int .i64 x.2] rfl (by exact HR.out.1.alloc _) (by simp [Act.eval]) rfl (by simp [Value.oneCell']) (by omega) (by simp; omega) 63 ?_; intro v' w1 hown1 hg1 hb1)
            obtain ⟨A2, c2, l2, HL2, hl2, rfl, ho2, hf2⟩ := told_push (HR.out.2.alloc _) (HR.out.1.alloc _) hown1 hg1
            have H2 := Lib.hid (And.intro ho2 hf2)
            clear ho2 hf2 hown1 hg1 hb1
            go_wp2_with fail
            go_roundw
            case rel => exact ⟨k + 1, l2, true, A2, c2, by go_num, by omega, by rw [HL2.out]; exact HS2.out, rfl, rfl, H2.out.1, H2.out.2⟩
            case measure => simp [intOf]; omega
        · have q2 : decide (v < x.1) = false := by simpa using e2
          have hs2 : (told.take (k + 1)).foldl (rhStep v d) ([], false) = (l ++ [(x.1, x.2)], b) := by
            rw [HS.out]; simp [rhStep, e1, e2]
          have HS2 := Lib.hid hs2
          clear hs2 e1 e2 HS
          go_wp2_with (at_builtin; refine wpList_pushN el_told rfl (.tmp 59) (.tmp 61) rfl W.heap.size _ _ (tcells l) [Value.int .i64 x.1, Value.int .i64 x.2] rfl (by exact HR.out.1.alloc _) (by simp [Act.eval]) rfl (by simp [Value.oneCell']) (by omega) (by simp; omega) 63 ?_; intro v' w1 hown1 hg1 hb1)
          obtain ⟨A2, c2, l2, HL2, hl2, rfl, ho2, hf2⟩ := told_push (HR.out.2.alloc _) (HR.out.1.alloc _) hown1 hg1
          have H2 := Lib.hid (And.intro ho2 hf2)
          clear ho2 hf2 hown1 hg1 hb1
          go_wp2_with fail
          go_roundw
          case rel => exact ⟨k + 1, l2, b, A2, c2, by go_num, by omega, by rw [HL2.out]; exact HS2.out, rfl, rfl, H2.out.1, H2.out.2⟩
          case measure => simp [intOf]; omega
    · obtain rfl : k = told.length := by omega
      rw [List.take_length] at HFo
      have hcl := HW.out.2.1.fr HR.out.2 (by simp)
      have hcr := HW.out.2.2.1.fr HR.out.2 (by simp)
      cases b
      · have HT : Hid (rhTold v d told = l ++ [(v, d)]) := by unfold rhTold; rw [HFo.out]; rfl
        have HC := Lib.hid (And.intro hcl hcr)
        clear hcl hcr
        go_wp2_with (at_builtin; refine wpList_pushN el_told rfl (.tmp 66) (.tmp 70) rfl W.heap.size _ _ (tcells l) [Value.int .i64 v, Value.int .i64 d] rfl (by exact HR.out.1) rfl rfl (by simp [Value.oneCell']) (by omega) (by omega) 63 ?_; intro v' w1 hown1 hg1 hb1; obtain ⟨A2, cp2, l2, HL2, hl2, rfl, ho2, hf2⟩ := told_push HR.out.2 HR.out.1 hown1 hg1; have hcl := HW.out.2.1.fr hf2 (by simp); have hcr := HW.out.2.2.1.fr hf2 (by simp); obtain ⟨⟨c0, c1, c2, c3, c4, c5, c6, c7⟩, z0, z1, z2, z3, z4, z5, z6, z7⟩ := eight hcl; have H2 := Lib.hid (And.intro ho2 hf2); clear ho2 hf2 hown1 hg1 hb1 hcl hcr)
        have HT2 : Hid (rhTold v d told = l2) := by rw [HL2.out]; exact HT.out
        clear HL2 HT
        have hn7 : ∀ b o, A2 = some ⟨b, o, none⟩ → b ∉ [w.heap.size] := fun b o hA => by have := own_ge H2.out.1 b o hA; simp; omega
        have HFR : Hid (Fr [w.heap.size] w1 (w1.setCell ⟨w.heap.size, 7, none⟩ (.slice A2 l2.length cp2))) := (Fr.refl _ _).setCell (.inl (by simp)) _
        refine (refSup_any ⟨first, day, leap, quorum, own, has, ref, l2⟩ A2 cp2 _ ((RowIn.of_owned H2.out.1).fr HFR.out hn7) (by simp only; omega)).mono ?_
        rintro e w3 ⟨rfl, hf3⟩
        have hcl3 := ((HW.out.2.1.fr H2.out.2 (by simp)).set 7 (.slice A2 l2.length cp2)).fr hf3 (by simp)
        have hcr3 := ((HW.out.2.2.1.fr H2.out.2 (by simp)).far (p := ⟨w.heap.size, 7, none⟩) (by simp) (.slice A2 l2.length cp2)).fr hf3 (by simp)
        have H3 : Hid (∀ w' c', Fr [w.heap.size, w.heap.size + 1] w3 w' → RClk.hear ⟨first, day, leap, quorum, own, has, ref, told⟩ v d = c' → c'.told = l2 → RHearRes ⟨first, day, leap, quorum, own, has, ref, told⟩ v d w (.returned (.tuple #[.agg (c'.cells A2 cp2).toArray, Value.int .i64 0])) w') := by
          intro w' c' hf hc ht
          have hw3 : Fr [] w w3 := ((HW.out.1.trans H2.out.2).trans' HFR.out (by simp)).trans hf3
          refine ⟨A2, cp2, by rw [hc], hw3.trans' hf (by simp), ?_⟩
          rw [hc, ht]
          exact ⟨(((RowIn.of_owned H2.out.1).fr HFR.out hn7).fr0 hf3).fr hf (fun b o hA => by have := own_ge H2.out.1 b o hA; simp; omega), fun b o hA => by have := own_ge H2.out.1 b o hA; omega⟩
        clear c0 c1 c2 c3 c4 c5 c6 c7 z0 z1 z2 z3 z4 z5 z6 z7 hf3 hn7
        obtain ⟨⟨c0, c1, c2, c3, c4, c5, c6, c7⟩, z0, z1, z2, z3, z4, z5, z6, z7⟩ := eight hcl3
        obtain ⟨⟨d0, d1, d2, d3, d4, d5, d6, d7⟩, y0, y1, y2, y3, y4, y5, y6, y7⟩ := eight hcr3
        have HSP : Hid (rsup first quorum (rhTold v d told) = rsup first quorum l2) := by rw [HT2.out]; exact rfl
        clear hcl3 hcr3
        generalize rsup first quorum l2 = s at HSP ⊢
        by_cases hs : day < s
        · go_wp2_with fail
          refine bodyPost_ret (v := .tuple #[.agg #[Value.int .i64 first, Value.int .i64 s, Value.int .i64 leap, Value.int .i64 quorum, Value.int .i64 0, Value.bool has, Value.int .i64 ref, .slice A2 l2.length cp2], Value.int .i64 0]) (by simp [results, Try.results20, go_sem, *]) rfl ?_
          refine H3.out _ ⟨first, s, leap, quorum, 0, has, ref, l2⟩ ?_ ?_ rfl
          · exact Fr.setL (.inl (by simp)) [Value.int .i64 first, Value.int .i64 s, Value.int .i64 leap, Value.int .i64 quorum, Value.int .i64 0, Value.bool has, Value.int .i64 ref, .slice A2 l2.length cp2] 0 _ (((Fr.refl _ _).setCell (.inl (by simp)) _).setCell (.inl (by simp)) _)
          · unfold RClk.hear
            simp only
            rw [HSP.out, if_pos hs, HT2.out]
        · go_wp2_with fail
          refine bodyPost_ret (v := .tuple #[.agg #[Value.int .i64 first, Value.int .i64 day, Value.int .i64 leap, Value.int .i64 quorum, Value.int .i64 own, Value.bool has, Value.int .i64 ref, .slice A2 l2.length cp2], Value.int .i64 0]) (by simp [results, Try.results20, go_sem, *]) rfl ?_
          refine H3.out _ ⟨first, day, leap, quorum, own, has, ref, l2⟩ ?_ ?_ rfl
          · exact Fr.setL (.inl (by simp)) [Value.int .i64 first, Value.int .i64 day, Value.int .i64 leap, Value.int .i64 quorum, Value.int .i64 own, Value.bool has, Value.int .i64 ref, .slice A2 l2.length cp2] 0 _ (Fr.refl _ _)
          · unfold RClk.hear
            simp only
            rw [HSP.out, if_neg (by omega), HT2.out]
      · have HT : Hid (rhTold v d told = l) := by unfold rhTold; rw [HFo.out]; rfl
        obtain ⟨⟨c0, c1, c2, c3, c4, c5, c6, c7⟩, z0, z1, z2, z3, z4, z5, z6, z7⟩ := eight hcl
        clear hcl hcr
        go_wp2_with fail
        have hn7 : ∀ b o, A' = some ⟨b, o, none⟩ → b ∉ [w.heap.size] := fun b o hA => by have := own_ge HR.out.1 b o hA; simp; omega
        have HFR : Hid (Fr [w.heap.size] wr (wr.setCell ⟨w.heap.size, 7, none⟩ (.slice A' l.length cp'))) := (Fr.refl _ _).setCell (.inl (by simp)) _
        refine (refSup_any ⟨first, day, leap, quorum, own, has, ref, l⟩ A' cp' _ ((RowIn.of_owned HR.out.1).fr HFR.out hn7) (by simp only; omega)).mono ?_
        rintro e w3 ⟨rfl, hf3⟩
        have hcl3 := ((HW.out.2.1.fr HR.out.2 (by simp)).set 7 (.slice A' l.length cp')).fr hf3 (by simp)
        have hcr3 := ((HW.out.2.2.1.fr HR.out.2 (by simp)).far (p := ⟨w.heap.size, 7, none⟩) (by simp) (.slice A' l.length cp')).fr hf3 (by simp)
        have H3 : Hid (∀ w' c', Fr [w.heap.size, w.heap.size + 1] w3 w' → RClk.hear ⟨first, day, leap, quorum, own, has, ref, told⟩ v d = c' → c'.told = l → RHearRes ⟨first, day, leap, quorum, own, has, ref, told⟩ v d w (.returned (.tuple #[.agg (c'.cells A' cp').toArray, Value.int .i64 0])) w') := by
          intro w' c' hf hc ht
          have hw3 : Fr [] w w3 := ((HW.out.1.trans HR.out.2).trans' HFR.out (by simp)).trans hf3
          refine ⟨A', cp', by rw [hc], hw3.trans' hf (by simp), ?_⟩
          rw [hc, ht]
          exact ⟨(((RowIn.of_owned HR.out.1).fr HFR.out hn7).fr0 hf3).fr hf (fun b o hA => by have := own_ge HR.out.1 b o hA; simp; omega), fun b o hA => by have := own_ge HR.out.1 b o hA; omega⟩
        clear c0 c1 c2 c3 c4 c5 c6 c7 z0 z1 z2 z3 z4 z5 z6 z7 hf3 hn7
        obtain ⟨⟨c0, c1, c2, c3, c4, c5, c6, c7⟩, z0, z1, z2, z3, z4, z5, z6, z7⟩ := eight hcl3
        obtain ⟨⟨d0, d1, d2, d3, d4, d5, d6, d7⟩, y0, y1, y2, y3, y4, y5, y6, y7⟩ := eight hcr3
        have HSP : Hid (rsup first quorum (rhTold v d told) = rsup first quorum l) := by rw [HT.out]; exact rfl
        clear hcl3 hcr3
        generalize rsup first quorum l = s at HSP ⊢
        by_cases hs : day < s
        · go_wp2_with fail
          refine bodyPost_ret (v := .tuple #[.agg #[Value.int .i64 first, Value.int .i64 s, Value.int .i64 leap, Value.int .i64 quorum, Value.int .i64 0, Value.bool has, Value.int .i64 ref, .slice A' l.length cp'], Value.int .i64 0]) (by simp [results, Try.results20, go_sem, *]) rfl ?_
          refine H3.out _ ⟨first, s, leap, quorum, 0, has, ref, l⟩ ?_ ?_ rfl
          · exact Fr.setL (.inl (by simp)) [Value.int .i64 first, Value.int .i64 s, Value.int .i64 leap, Value.int .i64 quorum, Value.int .i64 0, Value.bool has, Value.int .i64 ref, .slice A' l.length cp'] 0 _ (((Fr.refl _ _).setCell (.inl (by simp)) _).setCell (.inl (by simp)) _)
          · unfold RClk.hear
            simp only
            rw [HSP.out, if_pos hs, HT.out]
        · go_wp2_with fail
          refine bodyPost_ret (v := .tuple #[.agg #[Value.int .i64 first, Value.int .i64 day, Value.int .i64 leap, Value.int .i64 quorum, Value.int .i64 own, Value.bool has, Value.int .i64 ref, .slice A' l.length cp'], Value.int .i64 0]) (by simp [results, Try.results20, go_sem, *]) rfl ?_
          refine H3.out _ ⟨first, day, leap, quorum, own, has, ref, l⟩ ?_ ?_ rfl
          · exact Fr.setL (.inl (by simp)) [Value.int .i64 first, Value.int .i64 day, Value.int .i64 leap, Value.int .i64 quorum, Value.int .i64 own, Value.bool has, Value.int .i64 ref, .slice A' l.length cp'] 0 _ (Fr.refl _ _)
          · unfold RClk.hear
            simp only
            rw [HSP.out, if_neg (by omega), HT.out]

end Go.Proofs.Ytflabbdnkoejjaa
