/- Contract of the reference's Encode of layer 1: ints, bools and counts. -/
import Derived.Test.YtflabbdnkoejjaaRef1
import Derived.Test.YtflabbdnkoejjaaDcEncPlain
namespace Go.Proofs.Ytflabbdnkoejjaa
open Go.RowKit

/-- A value to be written: an int (kind 2), a bool (3) or a count (7). -/
structure WV where
  kind : Int
  n : Int
  b : Bool

def WV.cells (v : WV) : List Value := [Value.int .i64 v.kind, .int .u64 0, Value.int .i64 v.n, Value.bool v.b, .string ⟨#[]⟩, Value.int .i64 0]
def WV.bytes (v : WV) : List UInt8 := if v.kind = 2 then num (zig v.n) else if v.kind = 3 then num (b01 v.b) else num v.n.toNat
structure WV.Ok (v : WV) : Prop where
  kind : v.kind = 2 ∨ v.kind = 3 ∨ v.kind = 7
  fit : v.kind = 2 → Fit64 v.n
  cnt : v.kind = 7 → 0 ≤ v.n ∧ v.n ≤ 4294967296

def vcells (l : List WV) : List Value := l.flatMap WV.cells
def encV (l : List WV) : List UInt8 := l.flatMap WV.bytes

theorem vcells_append (a b : List WV) : vcells (a ++ b) = vcells a ++ vcells b := by simp [vcells]
theorem vcells_length (l : List WV) : (vcells l).length = l.length * 6 := by
  induction l with
  | nil => rfl
  | cons x l ih =>
    have e : vcells (x :: l) = x.cells ++ vcells l := rfl
    rw [e, List.length_append, ih, List.length_cons]
    simp [WV.cells]
    omega
theorem vcells_one (l : List WV) : ∀ u ∈ vcells l, u.oneCell' = true := by
  intro u hu
  unfold vcells at hu
  obtain ⟨p, _, h⟩ := List.mem_flatMap.1 hu
  simp [WV.cells] at h
  rcases h with rfl | rfl | rfl | rfl | rfl | rfl <;> rfl
theorem vcells_get : ∀ (l : List WV) (k j : Nat) (p : WV), l[k]? = some p → j < 6 → (vcells l)[k * 6 + j]? = p.cells[j]?
  | [], k, j, p, h, _ => by simp at h
  | x :: l, 0, j, p, h, hj => by
    simp at h
    subst h
    have e : vcells (x :: l) = x.cells ++ vcells l := rfl
    rw [e, Nat.zero_mul, Nat.zero_add, List.getElem?_append_left (by simpa [WV.cells] using hj)]
  | x :: l, k + 1, j, p, h, hj => by
    have ih := vcells_get l k j p (by simpa using h) hj
    have e : vcells (x :: l) = x.cells ++ vcells l := rfl
    rw [e, List.getElem?_append_right (by simp [WV.cells]; omega)]
    rw [← ih]
    congr 1
    simp [WV.cells]
    omega

theorem vcell {w : World} {A : Option Addr} {l : List WV} (h : RowIn w A (vcells l)) (k : Nat) (p : WV) (hp : l[k]? = some p) :
    ∃ g o, A = some ⟨g, o, none⟩ ∧ g < w.heap.size ∧ w.cell? ⟨g, o + k * 6, none⟩ = some (Value.int .i64 p.kind) ∧ w.cell? ⟨g, o + k * 6 + 1, none⟩ = some (.int .u64 0) ∧ w.cell? ⟨g, o + k * 6 + 2, none⟩ = some (Value.int .i64 p.n) ∧ w.cell? ⟨g, o + k * 6 + 3, none⟩ = some (Value.bool p.b) ∧ w.cell? ⟨g, o + k * 6 + 4, none⟩ = some (.string ⟨#[]⟩) ∧ w.cell? ⟨g, o + k * 6 + 5, none⟩ = some (Value.int .i64 0) := by
  obtain ⟨g, o, hA, hg, _⟩ := h _ _ (vcells_get l k 0 p hp (by omega))
  have key : ∀ j u, j < 6 → p.cells[j]? = some u → w.cell? ⟨g, o + k * 6 + j, none⟩ = some u := by
    intro j u hj hu
    obtain ⟨g', o', hA', _, hc⟩ := h _ _ ((vcells_get l k j p hp hj).trans hu)
    rw [hA] at hA'
    injection hA' with hA'
    injection hA' with e1 e2
    rw [← e1, ← e2, ← Nat.add_assoc] at hc
    exact hc
  exact ⟨g, o, hA, hg, key 0 _ (by omega) rfl, key 1 _ (by omega) rfl, key 2 _ (by omega) rfl, key 3 _ (by omega) rfl, key 4 _ (by omega) rfl, key 5 _ (by omega) rfl⟩

theorem encV_snoc (l : List WV) (k : Nat) (x : WV) (h : l[k]? = some x) : encV (l.take (k + 1)) = encV (l.take k) ++ x.bytes := by
  unfold encV
  rw [List.take_add_one, h]
  simp

theorem WV.Ok.len {v : WV} (h : v.Ok) : v.bytes.length ≤ 10 := by
  unfold WV.bytes
  rcases h.kind with hk | hk | hk
  · rw [if_pos hk]; exact zig_len _ (h.fit hk)
  · rw [if_neg (by omega), if_pos hk]
    exact num_length _ (by unfold b01; split <;> decide)
  · rw [if_neg (by omega), if_neg (by omega)]
    exact num_length _ (by have := h.cnt hk; omega)

theorem encV_len (l : List WV) (h : ∀ v ∈ l, v.Ok) : (encV l).length ≤ 10 * l.length := by
  induction l with
  | nil => simp [encV]
  | cons x l ih =>
    have h1 := (h x (by simp)).len
    have h2 := ih (fun y hy => h y (by simp [hy]))
    have e : encV (x :: l) = x.bytes ++ encV l := by simp [encV]
    rw [e, List.length_append, List.length_cons]
    omega

theorem bytes_push {w wr w1 : World} {cs xs : List UInt8} {v v' : Value} (hf : Fr [] w wr) (hown : wr.ownsRow w.heap.size 5 1 v cs.length (B8 cs))
    (hown1 : w1.ownsRow w.heap.size 5 1 v' (cs.length + xs.length) (B8 cs ++ B8 xs)) (hg : wr.grownBy w1 v.ownBlock) :
    ∃ A c cs', Hid (cs' = cs ++ xs) ∧ cs'.length ≤ cs.length + xs.length ∧ v' = .slice A cs'.length c ∧ w1.ownsRow w.heap.size 5 1 v' cs'.length (B8 cs') ∧ Fr [] w w1 := by
  obtain ⟨A, c, rfl⟩ := ownsRow_form hown1
  have e : (cs ++ xs).length = cs.length + xs.length := by simp
  refine ⟨A, c, cs ++ xs, rfl, by omega, by rw [e], ?_, fr_push hf hown hg⟩
  rw [e, B8_append]
  exact hown1

theorem num_one : num (b01 true) = [1] := num_small 1 (by omega)
theorem num_zero : num (b01 false) = [0] := num_small 0 (by omega)

set_option maxRecDepth 100000 in
set_option maxHeartbeats 8000000 in
theorem refEncode_any (A : Option Addr) (cp : Nat) (l : List WV) (w : World) (hrow : RowIn w A (vcells l)) (hl : l.length ≤ 1000) (hok : ∀ v ∈ l, v.Ok) :
    Calls Try.prog 42 #[.slice A l.length cp] w fun e w' => ∃ v, e = .returned (.tuple #[v, Value.int .i64 0]) ∧ NewBytes (encV l) w v w' := by
  have H := Lib.hid (And.intro hrow hok)
  clear hrow hok
  go_enter Try.func42, Try.ntmps42
  go_wp2_with fail
  go_loopw [4, 5] (fun o i wr => ∃ (k : Nat) (cs : List UInt8) (A' : Option Addr) (c' : Nat), i = .int .i64 k ∧ k ≤ l.length ∧ o = .slice A' cs.length c' ∧ Hid (cs = encV (l.take k)) ∧ Hid (Fr [] w wr ∧ wr.ownsRow w.heap.size 5 1 o cs.length (B8 cs))) (fun _ i _ => l.length - (intOf i).toNat)
  case atStart => exact ⟨0, [], _, _, rfl, Nat.zero_le _, rfl, rfl, (Fr.refl _ _).alloc _, World.ownsRow_made _ #[] 0 (Nat.le_refl _) (Nat.zero_le _) rfl⟩
  case round =>
    obtain ⟨k, cs, A', c', rfl, hk, rfl, HE, HR⟩ := hrel
    have hsz := HR.out.1.size
    have hcl : cs.length ≤ 10 * k := by
      rw [HE.out]
      have := encV_len (l.take k) (fun v hv => H.out.2 v (List.mem_of_mem_take hv))
      rw [List.length_take] at this
      omega
    by_cases hlt : k < l.length
    · have hx := List.getElem?_eq_getElem hlt
      generalize l[k] = x at hx
      obtain ⟨g, o, hA, hg, r0, r1, r2, r3, r4, r5⟩ := vcell (H.out.1.fr0 HR.out.1) k x hx
      subst hA
      have hxo := H.out.2 x (List.mem_of_getElem? hx)
      have hsn := encV_snoc l k x hx
      have HS := Lib.hid hsn
      have HX := Lib.hid (And.intro hx hxo)
      have hxl := hxo.len
      clear hx hsn
      obtain ⟨kind, n, b⟩ := x
      simp only at r0 r2 r3
      rcases hxo.kind with hkd | hkd | hkd
      · simp only at hkd
        subst hkd
        have hfit := hxo.fit rfl
        simp only at hfit
        have HF := Lib.hid hfit
        have HB : Hid (WV.bytes ⟨2, n, b⟩ = num (zig n)) := rfl
        rw [HB.out] at hxl
        clear hfit hxo
        go_wp2_with fail
        refine (refZigzag_any n _ HF.out).mono ?_
        rintro e w1 ⟨rfl, rfl⟩
        go_wp2_with fail
        refine (refNumber_any (zig n) _ (zig_lt n HF.out.1 HF.out.2)).mono ?_
        rintro e w1 ⟨A2, c2, rfl, hf1, ho1⟩
        have hz1 := hf1.size
        have hz2 : wr.heap.size ≤ w1.heap.size := by simp at hz1; omega
        have HR1 : Hid (Fr [] w w1 ∧ w1.ownsRow w.heap.size 5 1 (.slice A' cs.length c') cs.length (B8 cs)) := ⟨(HR.out.1.alloc _).trans hf1, ownsRow_fr (HR.out.2.alloc _) hf1 (by simp)⟩
        have HO := Lib.hid ho1
        clear ho1 hf1 hz1
        go_wp2_with (at_builtin; refine wpList_app el_u8 rfl (.tmp 29) (.tmp 33) rfl w.heap.size _ _ (B8 cs) rfl (by exact HR1.out.2) A2 _ c2 (B8 (num (zig n))) rfl (by rw [B8_length]; simp) (by exact CellsAt.of_own HO.out) (B8_one _) (by omega) (by omega) ?_; intro v2 w2 hown2 hg2 hb2; obtain ⟨A3, c3, cs3, HC3, hc3, rfl, ho3, hf3⟩ := bytes_push HR1.out.1 HR1.out.2 hown2 hg2; have H3 := Lib.hid (And.intro hf3 ho3); clear hown2 hg2 hb2 ho3 hf3)
        go_roundw
        case rel => exact ⟨k + 1, cs3, A3, c3, by go_num, by omega, rfl, by show cs3 = _; rw [HC3.out, HS.out, HE.out, HB.out], H3⟩
        case measure => simp [intOf]; omega
      · simp only at hkd
        subst hkd
        cases b
        · have HB : Hid (WV.bytes ⟨3, n, false⟩ = [0]) := num_zero
          clear hxo
          go_wp2_with (at_builtin; refine wpList_push el_u8 rfl (.tmp 42) (.tmp 43) rfl w.heap.size _ _ (B8 cs) (.int .u8 0) rfl (by exact HR.out.2.alloc _) (by simp [Act.eval]) rfl (by omega) (by simp; omega) 5 ?_; intro v2 w2 hown2 hg2 hb2; obtain ⟨A3, c3, cs3, HC3, hc3, rfl, ho3, hf3⟩ := bytes_push (xs := [0]) (HR.out.1.alloc _) (HR.out.2.alloc _) hown2 hg2; have H3 := Lib.hid (And.intro hf3 ho3); clear hown2 hg2 hb2 ho3 hf3)
          go_roundw
          case rel => exact ⟨k + 1, cs3, A3, c3, by go_num, by omega, rfl, by show cs3 = _; rw [HC3.out, HS.out, HE.out, HB.out], H3⟩
          case measure => simp [intOf]; omega
        · have HB : Hid (WV.bytes ⟨3, n, true⟩ = [1]) := num_one
          clear hxo
          go_wp2_with (at_builtin; refine wpList_push el_u8 rfl (.tmp 39) (.tmp 40) rfl w.heap.size _ _ (B8 cs) (.int .u8 1) rfl (by exact HR.out.2.alloc _) (by simp [Act.eval]) rfl (by omega) (by simp; omega) 5 ?_; intro v2 w2 hown2 hg2 hb2; obtain ⟨A3, c3, cs3, HC3, hc3, rfl, ho3, hf3⟩ := bytes_push (xs := [1]) (HR.out.1.alloc _) (HR.out.2.alloc _) hown2 hg2; have H3 := Lib.hid (And.intro hf3 ho3); clear hown2 hg2 hb2 ho3 hf3)
          go_roundw
          case rel => exact ⟨k + 1, cs3, A3, c3, by go_num, by omega, rfl, by show cs3 = _; rw [HC3.out, HS.out, HE.out, HB.out], H3⟩
          case measure => simp [intOf]; omega
      · simp only at hkd
        subst hkd
        have hcn := hxo.cnt rfl
        simp only at hcn
        obtain ⟨n0, n1⟩ := hcn
        obtain ⟨m, rfl⟩ : ∃ m : Nat, n = (m : Int) := ⟨n.toNat, by omega⟩
        have HB : Hid (WV.bytes ⟨7, (m : Int), b⟩ = num m) := rfl
        rw [HB.out] at hxl
        clear hxo
        have hw : IntKind.u64.wrap (m : Int) = (m : Int) := IntWalk.u64_in _ (by omega)
        go_wp2_with fail
        refine (refNumber_any m _ (by unfold U64; omega)).mono ?_
        rintro e w1 ⟨A2, c2, rfl, hf1, ho1⟩
        have hz1 := hf1.size
        have hz2 : wr.heap.size ≤ w1.heap.size := by simp at hz1; omega
        have HR1 : Hid (Fr [] w w1 ∧ w1.ownsRow w.heap.size 5 1 (.slice A' cs.length c') cs.length (B8 cs)) := ⟨(HR.out.1.alloc _).trans hf1, ownsRow_fr (HR.out.2.alloc _) hf1 (by simp)⟩
        have HO := Lib.hid ho1
        clear ho1 hf1 hz1
        go_wp2_with (at_builtin; refine wpList_app el_u8 rfl (.tmp 73) (.tmp 77) rfl w.heap.size _ _ (B8 cs) rfl (by exact HR1.out.2) A2 _ c2 (B8 (num m)) rfl (by rw [B8_length]; simp) (by exact CellsAt.of_own HO.out) (B8_one _) (by omega) (by omega) ?_; intro v2 w2 hown2 hg2 hb2; obtain ⟨A3, c3, cs3, HC3, hc3, rfl, ho3, hf3⟩ := bytes_push HR1.out.1 HR1.out.2 hown2 hg2; have H3 := Lib.hid (And.intro hf3 ho3); clear hown2 hg2 hb2 ho3 hf3)
        go_roundw
        case rel => exact ⟨k + 1, cs3, A3, c3, by go_num, by omega, rfl, by show cs3 = _; rw [HC3.out, HS.out, HE.out, HB.out], H3⟩
        case measure => simp [intOf]; omega
    · obtain rfl : k = l.length := by omega
      rw [List.take_length] at HE
      have hcI : (cs.length : Int) ≤ 1048576 := by omega
      go_wp2_with fail
      go_ret2
      exact ⟨_, rfl, by rw [← HE.out]; exact HR.out.2, HR.out.1⟩

end Go.Proofs.Ytflabbdnkoejjaa
